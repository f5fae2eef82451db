/- What the functions of layers 5 and 6 on numbers come to. -/
import Derived.Test.YtdbnobeopgfhgaaGen1
import Derived.Test.YtdbnobeopgfhgaaGen2
import Derived.Test.YtdbnobeopgfhgaaGen3
import Derived.Test.YtdbnobeopgfhgaaGen4
import Derived.Test.YtdbnobeopgfhgaaVmR
set_option linter.unusedVariables false
set_option linter.unusedSimpArgs false
namespace Go.Proofs.Ytdbnobeopgfhgaa.G
open Go Go.Proofs.Ytdbnobeopgfhgaa.Vm Go.RowKit
theorem wu16 {a : Int} (h0 : 0 ≤ a) (h1 : a ≤ 65535) : IntKind.wrap .u16 a = a := by
  simp [IntKind.wrap, IntKind.bits, IntKind.signed]; omega
theorem wf_u16 {a : Int} (h : (Lit.int .u16 a).wf = true) : 0 ≤ a ∧ a ≤ 65535 := by
  simp [Lit.wf, IntKind.min, IntKind.max, IntKind.bits, IntKind.signed] at h
  omega
theorem mx_le {a b c : Int} : mx a b ≤ c ↔ a ≤ c ∧ b ≤ c := by unfold mx; split <;> omega
/-- By how much a guess is divided. -/
def dv (c : Int) : Int := 2 ^ (mx 1 (mn c 15)).toNat
theorem dv_ge (c : Int) : 2 ≤ dv c := by
  unfold dv
  have hr := mx_bd 1 (mn c 15)
  obtain ⟨n, hn⟩ : ∃ n, (mx 1 (mn c 15)).toNat = n + 1 := ⟨(mx 1 (mn c 15)).toNat - 1, by omega⟩
  rw [hn, Int.pow_succ]
  have : (0 : Int) < 2 ^ n := Int.pow_pos (by omega)
  omega
/-- What becomes of a guess. -/
def nextV (a b c : Int) : Int := if b = 0 then a - a / dv c else a + (65535 - a) / dv c
theorem nextV_bd (a b c : Int) (h0 : 0 ≤ a) (h1 : a ≤ 65535) : 0 ≤ nextV a b c ∧ nextV a b c ≤ 65535 := by
  have hd := dv_ge c
  unfold nextV
  have q0 : 0 ≤ a / dv c := Int.ediv_nonneg h0 (by omega)
  have q1 : a / dv c ≤ a := Int.ediv_le_self _ h0
  have r0 : 0 ≤ (65535 - a) / dv c := Int.ediv_nonneg (by omega) (by omega)
  have r1 : (65535 - a) / dv c ≤ 65535 - a := Int.ediv_le_self _ (by omega)
  split <;> omega
theorem shr_dv (a c : Int) : shr .u16 a (min (Int.toNat (mx 1 (mn c 15))) (IntKind.bits .u16)) = a / dv c := by
  have hr := mx_bd 1 (mn c 15)
  have hm := mn_bd c 15
  have e : min (Int.toNat (mx 1 (mn c 15))) (IntKind.bits .u16) = (mx 1 (mn c 15)).toNat := by
    have : IntKind.bits .u16 = 16 := rfl
    omega
  have hp : (0 : Int) ≤ 2 ^ (mx 1 (mn c 15)).toNat := Int.le_of_lt (Int.pow_pos (by omega))
  unfold shr dv
  rw [e, Int.fdiv_eq_ediv_of_nonneg _ hp]
theorem guess_Next_ok {a b c : Int} {w : World} {K : Int → World → Prop} (h0 : 0 ≤ a) (h1 : a ≤ 65535) (hk : K (nextV a b c) w) : guess_Next.f a b c w K := by
  have hbd := nextV_bd a b c h0 h1
  have hr := mx_bd 1 (mn c 15)
  unfold nextV at hk hbd
  unfold guess_Next.f
  simp only [shr_dv, wu16 (a := 65535 - a) (by omega) (by omega)]
  rw [if_neg (by omega), if_neg (by omega)]
  refine cond_of (fun h => ?_) (fun h => ?_)
  · have hb : b ≠ 0 := by simpa using h
    rw [if_neg hb] at hk hbd
    rw [wu16 hbd.1 hbd.2]; exact hk
  · have hb : b = 0 := by simpa using h
    rw [if_pos hb] at hk hbd
    rw [wu16 hbd.1 hbd.2]; exact hk
/-- A guess as a chance. -/
def chanceV (a : Int) : Int := mx 1 (a / 16)
theorem chanceV_bd (a : Int) (h0 : 0 ≤ a) (h1 : a ≤ 65535) : 1 ≤ chanceV a ∧ chanceV a ≤ 4095 := by
  unfold chanceV mx; split <;> omega
theorem shr_u16 (a : Int) : shr .u16 a 4 = a / 16 := by
  unfold shr
  rw [show (2 : Int) ^ 4 = 16 from rfl, Int.fdiv_eq_ediv_of_nonneg _ (by omega)]
theorem guess_Chance_ok {a : Int} {w : World} {K : Int → World → Prop} (h0 : 0 ≤ a) (h1 : a ≤ 65535) (hk : K (chanceV a) w) : guess_Chance.f a w K := by
  unfold guess_Chance.f
  simp only [shr_u16]
  rw [w64 (a := a / 16) (by omega) (by omega)]
  exact hk
/-! ### Squash and Stretch -/
/-- A stretched one, squashed. -/
def sq (d : Int) : Int := 2048 + Int.tdiv (2560 * d) (512 + (if d ≥ 0 then d else -d))
theorem sq_bd (d : Int) (h0 : -2047 ≤ d) (h1 : d ≤ 2047) : 1 ≤ sq d ∧ sq d ≤ 4095 := by
  unfold sq
  by_cases h : 0 ≤ d
  · rw [if_pos h, Int.tdiv_eq_ediv_of_nonneg (by omega)]
    have a1 : 0 ≤ 2560 * d / (512 + d) := Int.ediv_nonneg (by omega) (by omega)
    have a2 : 2560 * d / (512 + d) < 2048 := by apply Int.ediv_lt_of_lt_mul <;> omega
    omega
  · rw [if_neg (by omega)]
    have e : Int.tdiv (2560 * d) (512 + -d) = -(2560 * (-d) / (512 + -d)) := by
      rw [← Int.tdiv_eq_ediv_of_nonneg (by omega), ← Int.neg_tdiv]
      congr 1; omega
    rw [e]
    have a1 : 0 ≤ 2560 * (-d) / (512 + -d) := Int.ediv_nonneg (by omega) (by omega)
    have a2 : 2560 * (-d) / (512 + -d) < 2048 := by apply Int.ediv_lt_of_lt_mul <;> omega
    omega
theorem pos_mono (a b : Int) (h0 : 0 ≤ a) (h : a ≤ b) : 2560 * a / (512 + a) ≤ 2560 * b / (512 + b) := by
  apply Int.le_ediv_of_mul_le (by omega)
  have h1 : 2560 * a / (512 + a) * (512 + a) ≤ 2560 * a := Int.ediv_mul_le _ (by omega)
  have h2 : 2560 * a / (512 + a) < 2560 := by apply Int.ediv_lt_of_lt_mul <;> omega
  have h3 : 0 ≤ 2560 * a / (512 + a) := Int.ediv_nonneg (by omega) (by omega)
  generalize 2560 * a / (512 + a) = q at *
  have h4 : q * (b - a) ≤ 2560 * (b - a) := Int.mul_le_mul_of_nonneg_right (by omega) (by omega)
  have e1 : q * (512 + b) = q * (512 + a) + q * (b - a) := by rw [← Int.mul_add]; congr 1; omega
  rw [e1]; omega
theorem sq_neg (d : Int) (h : d < 0) : sq d = 2048 - 2560 * (-d) / (512 + -d) := by
  unfold sq
  rw [if_neg (by omega)]
  have e : Int.tdiv (2560 * d) (512 + -d) = -(2560 * (-d) / (512 + -d)) := by
    rw [← Int.tdiv_eq_ediv_of_nonneg (by omega), ← Int.neg_tdiv]
    congr 1; omega
  rw [e]; omega
theorem sq_pos (d : Int) (h : 0 ≤ d) : sq d = 2048 + 2560 * d / (512 + d) := by
  unfold sq
  rw [if_pos h, Int.tdiv_eq_ediv_of_nonneg (by omega)]
theorem sq_mono (a b : Int) (h : a ≤ b) : sq a ≤ sq b := by
  by_cases h0 : 0 ≤ a
  · rw [sq_pos a h0, sq_pos b (by omega)]
    have := pos_mono a b h0 h
    omega
  · by_cases h1 : 0 ≤ b
    · rw [sq_neg a (by omega), sq_pos b h1]
      have := Int.ediv_nonneg (a := 2560 * (-a)) (b := 512 + -a) (by omega) (by omega)
      have := Int.ediv_nonneg (a := 2560 * b) (b := 512 + b) (by omega) (by omega)
      omega
    · rw [sq_neg a (by omega), sq_neg b (by omega)]
      have := pos_mono (-b) (-a) (by omega) (by omega)
      omega
/-- Within the bounds. -/
def cl (d : Int) : Int := mx (-2047) (mn d 2047)
theorem cl_bd (d : Int) : -2047 ≤ cl d ∧ cl d ≤ 2047 := by unfold cl mx mn; split <;> split <;> omega
theorem cl_id (d : Int) (h0 : -2047 ≤ d) (h1 : d ≤ 2047) : cl d = d := by unfold cl mx mn; split <;> split <;> omega
theorem cl_mono (a b : Int) (h : a ≤ b) : cl a ≤ cl b := by unfold cl mx mn; repeat' split <;> omega
theorem mix_Squash_ok {d : Int} {w : World} {K : Int → World → Prop} (hk : K (sq (cl d)) w) : mix_Squash.f d w K := by
  obtain ⟨h0, h1⟩ := cl_bd d
  unfold mix_Squash.f
  rw [show mx (-2047) (mn d 2047) = cl d from rfl]
  generalize cl d = e at *
  have em : mx e (-e) = if e ≥ 0 then e else -e := by unfold mx; split <;> split <;> omega
  have e1 : IntKind.wrap .i64 (0 - e) = -e := by rw [w64 (by omega) (by omega)]; omega
  simp only [e1, em]
  obtain ⟨b0, b1⟩ := sq_bd e h0 h1
  have e2 : IntKind.wrap .i64 (512 + (if e ≥ 0 then e else -e)) = 512 + (if e ≥ 0 then e else -e) := w64 (by split <;> omega) (by split <;> omega)
  have e3 : IntKind.wrap .i64 (2560 * e) = 2560 * e := w64 (by omega) (by omega)
  rw [e2, e3, if_neg (by split <;> omega)]
  unfold sq at *
  generalize Int.tdiv (2560 * e) (512 + (if e ≥ 0 then e else -e)) = q at *
  rw [w64 (a := q) (by omega) (by omega), w64 (by omega) (by omega)]
  exact hk
theorem ref06_Squash_ok {d : Int} {w : World} {K : Int → World → Prop} (hk : K (sq (cl d)) w) : ref06_Squash.f d w K := mix_Squash_ok hk
/-- The least of which Squash is so much. -/
def IsStr (p s : Int) : Prop := -2047 ≤ s ∧ s ≤ 2047 ∧ p ≤ sq s ∧ (s = -2047 ∨ sq (s - 1) < p)
theorem IsStr.uniq {p s t : Int} (h : IsStr p s) (g : IsStr p t) : s = t := by
  obtain ⟨s0, s1, s2, s3⟩ := h
  obtain ⟨t0, t1, t2, t3⟩ := g
  rcases Int.lt_trichotomy s t with h | h | h
  · have := t3.resolve_left (by omega)
    have := sq_mono s (t - 1) (by omega)
    omega
  · exact h
  · have := s3.resolve_left (by omega)
    have := sq_mono t (s - 1) (by omega)
    omega
theorem search (p : Int) (w : World) (K : Int → World → Prop) (hk : ∀ s, IsStr p (s - 2047) → K s w) (N : Nat) : ∀ (lo hi : Int), hi - lo < N → 0 ≤ lo → lo ≤ hi → hi ≤ 4094 →
    p ≤ sq (hi - 2047) → (lo = 0 ∨ sq (lo - 1 - 2047) < p) → mix_Stretch.l3 N p lo hi w K := by
  induction N with
  | zero => intro lo hi hn hl hlh; omega
  | succ N ih =>
    intro lo hi hn hl hlh hh hp hq
    rw [mix_Stretch.l3]
    refine cond_of (fun h => ?_) (fun h => ?_)
    · have hlt : lo < hi := by simpa using h
      have e1 : IntKind.wrap .i64 (lo + hi) = lo + hi := w64 (by omega) (by omega)
      have e2 : Int.tdiv (lo + hi) 2 = (lo + hi) / 2 := Int.tdiv_eq_ediv_of_nonneg (by omega)
      simp only [e1, e2]
      rw [w64 (a := (lo + hi) / 2) (by omega) (by omega), w64 (a := (lo + hi) / 2 - 2047) (by omega) (by omega)]
      refine mix_Squash_ok ?_
      rw [cl_id _ (by omega) (by omega)]
      refine cond_of (fun h => ?_) (fun h => ?_)
      · have hs : sq ((lo + hi) / 2 - 2047) ≥ p := by simpa using h
        exact ih _ _ (by omega) hl (by omega) (by omega) hs hq
      · have hs : ¬ sq ((lo + hi) / 2 - 2047) ≥ p := by simpa using h
        rw [w64 (by omega) (by omega)]
        refine ih _ _ (by omega) (by omega) (by omega) hh hp (.inr ?_)
        have : (lo + hi) / 2 + 1 - 1 - 2047 = (lo + hi) / 2 - 2047 := by omega
        rw [this]; omega
    · have hge : lo = hi := by
        have : ¬ lo < hi := by simpa using h
        omega
      subst hge
      refine hk lo ⟨by omega, by omega, hp, ?_⟩
      rcases hq with hq | hq
      · left; omega
      · right
        have : lo - 2047 - 1 = lo - 1 - 2047 := by omega
        rw [this]; exact hq
/-- What Stretch is given, within the bounds. -/
def clp (p : Int) : Int := mx 1 (mn p 4095)
theorem clp_bd (p : Int) : 1 ≤ clp p ∧ clp p ≤ 4095 := by unfold clp mx mn; split <;> split <;> omega
theorem clp_id (p : Int) (h0 : 1 ≤ p) (h1 : p ≤ 4095) : clp p = p := by unfold clp mx mn; split <;> split <;> omega
theorem sq_top : sq 2047 = 4095 := by decide +kernel
theorem sq_low : sq (-2047) = 1 := by decide +kernel
theorem mix_Stretch_ok {d : Int} {w : World} {K : Int → World → Prop} (hk : ∀ s, IsStr (clp d) s → K s w) : mix_Stretch.f d w K := by
  obtain ⟨h0, h1⟩ := clp_bd d
  unfold mix_Stretch.f
  rw [show mx 1 (mn d 4095) = clp d from rfl]
  refine ⟨4095, search _ _ _ (fun s hs => ?_) _ _ _ (by omega) (by omega) (by omega) (by omega) (by rw [show (4094 - 2047 : Int) = 2047 by omega, sq_top]; omega) (.inl rfl)⟩
  rw [w64 (by have := hs.1; omega) (by have := hs.2.1; omega)]
  exact hk _ hs
theorem rsearch (p : Int) (w : World) (K : Int → World → Prop) (hk : ∀ s, IsStr p s → K s w) (N : Nat) : ∀ (lo hi : Int), hi - lo < N → -2047 ≤ lo → lo ≤ hi → hi ≤ 2047 →
    p ≤ sq hi → (lo = -2047 ∨ sq (lo - 1) < p) → ref06_Stretch.l3 N p lo hi w K := by
  induction N with
  | zero => intro lo hi hn hl hlh; omega
  | succ N ih =>
    intro lo hi hn hl hlh hh hp hq
    rw [ref06_Stretch.l3]
    refine cond_of (fun h => ?_) (fun h => ?_)
    · have hlt : lo < hi := by simpa using h
      have e1 : IntKind.wrap .i64 (lo + hi) = lo + hi := w64 (by omega) (by omega)
      have e3 : IntKind.wrap .i64 (lo + hi + 4094) = lo + hi + 4094 := w64 (by omega) (by omega)
      have e2 : Int.tdiv (lo + hi + 4094) 2 = (lo + hi + 4094) / 2 := Int.tdiv_eq_ediv_of_nonneg (by omega)
      simp only [e1, e3, e2]
      rw [w64 (a := (lo + hi + 4094) / 2) (by omega) (by omega), w64 (a := (lo + hi + 4094) / 2 - 2047) (by omega) (by omega)]
      refine ref06_Squash_ok ?_
      rw [cl_id _ (by omega) (by omega)]
      refine cond_of (fun h => ?_) (fun h => ?_)
      · have hs : sq ((lo + hi + 4094) / 2 - 2047) < p := by simpa using h
        rw [w64 (by omega) (by omega)]
        refine ih _ _ (by omega) (by omega) (by omega) hh hp (.inr ?_)
        have : (lo + hi + 4094) / 2 - 2047 + 1 - 1 = (lo + hi + 4094) / 2 - 2047 := by omega
        rw [this]; exact hs
      · have hs : ¬ sq ((lo + hi + 4094) / 2 - 2047) < p := by simpa using h
        exact ih _ _ (by omega) hl (by omega) (by omega) (by omega) hq
    · have hge : lo = hi := by
        have : ¬ lo < hi := by simpa using h
        omega
      subst hge
      exact hk lo ⟨by omega, by omega, hp, hq⟩
theorem ref06_Stretch_ok {d : Int} {w : World} {K : Int → World → Prop} (hk : ∀ s, IsStr (clp d) s → K s w) : ref06_Stretch.f d w K := by
  obtain ⟨h0, h1⟩ := clp_bd d
  unfold ref06_Stretch.f
  rw [show mx 1 (mn d 4095) = clp d from rfl]
  exact ⟨4095, rsearch _ _ _ (fun s hs => hk s hs) _ _ _ (by omega) (by omega) (by omega) (by omega) (by rw [sq_top]; omega) (.inl rfl)⟩
end Go.Proofs.Ytdbnobeopgfhgaa.G
