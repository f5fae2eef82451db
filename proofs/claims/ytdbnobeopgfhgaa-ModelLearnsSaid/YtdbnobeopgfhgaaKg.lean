/- Behind sixty bytes that are alike each bit of the byte is likely. -/
import Derived.Test.YtdbnobeopgfhgaaKf
import Derived.Test.YtdbnobeopgfhgaaGenLawModelLearns
set_option linter.unusedVariables false
set_option linter.unusedSimpArgs false
namespace Go.Proofs.Ytdbnobeopgfhgaa.G
open Go Go.Proofs.Ytdbnobeopgfhgaa.Vm Go.RowKit
def SqF (lv : Nat) (bit : Int) (z : Bool) (g1 g2 : Int) : Nat → Pv × Int × Int
  | 0 => (⟨32768, [16384, 16384, 16384, 16384], sFirst⟩, 32768, 32768)
  | n + 1 => (stF lv (SqF lv bit z g1 g2 n).1 (SqF lv bit z g1 g2 n).2.1 (SqF lv bit z g1 g2 n).2.2 bit, bif (Nat.beq n 0 && !z) then 32768 else nxF (SqF lv bit z g1 g2 n).2.1 bit 16, bif Nat.beq n 0 then g1 else bif Nat.beq n 1 then g2 else nxF (SqF lv bit z g1 g2 n).2.2 bit 8)
theorem SqF_eq (lv : Nat) (bit : Int) (z : Bool) (g1 g2 : Int) (n : Nat) : Sq lv bit z g1 g2 n = SqF lv bit z g1 g2 n := by
  induction n with
  | zero => rfl
  | succ n ih =>
    rw [Sq, SqF, ih, st_eq, nx_eq _ _ _ 16 dv4 (by omega), nx_eq _ _ _ 8 dv3 (by omega)]
    congr 2
    · by_cases h : n = 0
      · subst h
        cases z <;> rfl
      · rw [if_neg (fun g => h g.1), beq_f h]; rfl
    · by_cases h : n = 0
      · subst h; rfl
      · rw [if_neg h, beq_f h, cond_false]
        by_cases h1 : n = 1
        · subst h1; rfl
        · rw [if_neg h1, beq_f h1, cond_false]
def okF (lv : Nat) (bit : Int) (z : Bool) (g1 g2 : Int) : Bool :=
  bif bit == 0 then !ltI 1024 (chF lv (SqF lv bit z g1 g2 60).1 (SqF lv bit z g1 g2 60).2.1 (SqF lv bit z g1 g2 60).2.2) else !ltI (chF lv (SqF lv bit z g1 g2 60).1 (SqF lv bit z g1 g2 60).2.1 (SqF lv bit z g1 g2 60).2.2) 3072
def okL (lv : Nat) (bit : Int) (z : Bool) : Bool := (R1 lv).all fun g1 => (R2 lv).all fun g2 => okF lv bit z g1 g2
theorem okL_0 : (okL 0 0 false && okL 0 1 false && okL 0 0 true) = true := by decide +kernel
theorem okL_1 : (okL 1 0 false && okL 1 1 false && okL 1 0 true) = true := by decide +kernel
theorem okL_2a : okL 2 0 false = true := by decide +kernel
theorem okL_2b : okL 2 1 false = true := by decide +kernel
theorem okL_2c : okL 2 0 true = true := by decide +kernel
theorem okL_all {lv : Nat} {bit : Int} {z : Bool} (hlv : lv ≤ 2) (hb : bit = 0 ∨ bit = 1) (hz : z = true → bit = 0) : okL lv bit z = true := by
  have h0 := okL_0
  have h1 := okL_1
  simp only [Bool.and_eq_true] at h0 h1
  have : lv = 0 ∨ lv = 1 ∨ lv = 2 := by omega
  cases z
  · rcases this with rfl | rfl | rfl <;> rcases hb with rfl | rfl
    · exact h0.1.1
    · exact h0.1.2
    · exact h1.1.1
    · exact h1.1.2
    · exact okL_2a
    · exact okL_2b
  · have := hz rfl
    subst this
    rcases ‹lv = 0 ∨ lv = 1 ∨ lv = 2› with rfl | rfl | rfl
    · exact h0.2
    · exact h1.2
    · exact okL_2c
/-- The chance of each bit, behind sixty rounds. -/
theorem ch60 {lv c j : Nat} {G : Nat → Int × Int} (hc : c < 256) (hlv : lv ≤ 2) (hj : j < 8) (hg : (G j).1 ∈ R1 lv ∧ (G j).2 ∈ R2 lv) :
    (bt c j = 0 → chV lv (Qs lv c G j 60).1 (Qs lv c G j 60).2.1 (Qs lv c G j 60).2.2 ≤ 1024) ∧ (bt c j = 1 → 3072 ≤ chV lv (Qs lv c G j 60).1 (Qs lv c G j 60).2.1 (Qs lv c G j 60).2.2) := by
  have hz : (c == 0) = true → bt c j = 0 := fun h => by
    have : c = 0 := by simpa using h
    subst this
    unfold bt bitN; simp
  have h := okL_all hlv (bt_01 c j) hz
  unfold okL at h
  have h2 := List.all_eq_true.1 (List.all_eq_true.1 h _ hg.1) _ hg.2
  unfold okF at h2
  unfold Qs
  rw [SqF_eq, ch_eq]
  generalize chF lv (SqF lv (bt c j) (c == 0) (G j).1 (G j).2 60).1 (SqF lv (bt c j) (c == 0) (G j).1 (G j).2 60).2.1 (SqF lv (bt c j) (c == 0) (G j).1 (G j).2 60).2.2 = p at *
  refine ⟨fun e => ?_, fun e => ?_⟩
  · rw [e] at h2
    have h2 : (!ltI 1024 p) = true := h2
    rw [← ltI_eq] at h2
    have := of_decide_eq_false (by simpa using h2 : decide (1024 < p) = false)
    omega
  · rw [e] at h2
    have h2 : (!ltI p 3072) = true := h2
    rw [← ltI_eq] at h2
    have := of_decide_eq_false (by simpa using h2 : decide (p < 3072) = false)
    omega
/-- The program's model, in round `n` behind `j` bits. -/
structure Lr (W w : World) (S : Nat → Prop) (bt' lv c n j : Nat) (s : Mod) : Prop where
  gm : GM w S bt' s
  lt : ∀ b, S b → b < w.heap.size
  lo : ∀ b, S b → W.heap.size ≤ b
  hc : Chg no W w
  mid : ∃ G, Mid lv c n j G s
  at' : At c n j s
theorem law08_ModelLearns_l8 {W : World} {bk lv c n : Nat} {y6 : Int} {S : Nat → Prop} {K : Int → Option Addr → Int → World → Prop} (hc : c < 256) (hlv : lv ≤ 2)
    (hk : ∀ w s, Lr W w S bk lv c (n + 1) 0 s → K (c : Int) (some ⟨bk, 0, none⟩) y6 w) (N : Nat) : ∀ (j : Nat) (w : World) (s : Mod), j < 8 → 8 - j < N → Lr W w S bk lv c n j s →
    law08_ModelLearns.l8 N (c : Int) (some ⟨bk, 0, none⟩) y6 (7 - (j : Int)) w K := by
  induction N with
  | zero => intro j w s h1 h2; omega
  | succ N ih =>
    intro j w s hj hN h
    rw [law08_ModelLearns.l8]
    refine bif_t (dec_t (by omega)) ?_
    have e7 : IntKind.wrap .u64 (7 - (j : Int)) = ((7 - j : Nat) : Int) := by rw [wu64 (by omega) (by omega)]; omega
    rw [e7, Int.toNat_natCast]
    refine ifn_of (by omega) ?_
    rw [bit_of hc (show 7 - j ≤ 7 by omega)]
    obtain ⟨G, hm⟩ := h.mid
    have hb : ((bitN c (7 - j) : Nat) : Int) = bt c j := rfl
    rw [hb]
    refine model_Learn_ok (bt_01 c j) h.lt h.gm fun w1 hg1 c1 => ?_
    dsimp only
    have hl1 : ∀ b, S b → b < w1.heap.size := fun b hb => Nat.lt_of_lt_of_le (h.lt b hb) c1.size
    have k1 : Chg no W w1 := h.hc.then c1 fun k hk hS => by have := h.lo k hS; omega
    rw [w64 (by omega) (by omega)]
    by_cases h7 : j < 7
    · rw [show 7 - (j : Int) - 1 = 7 - ((j + 1 : Nat) : Int) by omega]
      exact ih (j + 1) w1 _ (by omega) (by omega) ⟨hg1, hl1, h.lo, k1, ⟨G, hm.learn hc h.at' hj⟩, h.at'.learn hc h7⟩
    · obtain rfl : j = 7 := by omega
      obtain ⟨G', hm', _⟩ := (hm.learn hc h.at' hj).wrap hc hlv
      obtain ⟨M, rfl⟩ : ∃ M, N = M + 1 := ⟨N - 1, by omega⟩
      rw [law08_ModelLearns.l8]
      exact bif_f (dec_f (by omega)) (hk w1 _ ⟨hg1, hl1, h.lo, k1, ⟨G', hm'⟩, h.at'.wrap hc⟩)
theorem law08_ModelLearns_l5 {W : World} {bk lv c : Nat} {S : Nat → Prop} {K : Int → Option Addr → World → Prop} (hc : c < 256) (hlv : lv ≤ 2)
    (hk : ∀ w s, Lr W w S bk lv c 60 0 s → K (c : Int) (some ⟨bk, 0, none⟩) w) (N : Nat) : ∀ (n : Nat) (w : World) (s : Mod), n ≤ 60 → 60 - n < N → Lr W w S bk lv c n 0 s →
    law08_ModelLearns.l5 N (c : Int) (some ⟨bk, 0, none⟩) (n : Int) w K := by
  induction N with
  | zero => intro n w s h1 h2; omega
  | succ N ih =>
    intro n w s hn hN h
    rw [law08_ModelLearns.l5]
    refine cond_of (fun g => ⟨9, ?_⟩) fun g => ?_
    · have hn60 : n < 60 := by have := of_decide_eq_true g; omega
      refine law08_ModelLearns_l8 (n := n) hc hlv (fun w1 s1 h1 => ?_) 9 0 w s (by omega) (by omega) h
      dsimp only
      rw [inc (by omega)]
      exact ih (n + 1) w1 s1 (by omega) (by omega) h1
    · obtain rfl : n = 60 := by have := of_decide_eq_false g; omega
      exact hk w s h
theorem law08_ModelLearns_l12 {W : World} {bk lv c : Nat} {S : Nat → Prop} {K4 : World → Prop} {Kr : Bool → World → Prop} (hc : c < 256) (hlv : lv ≤ 2)
    (hk : ∀ w, Chg no W w → K4 w) (N : Nat) : ∀ (j : Nat) (w : World) (s : Mod), j < 8 → 8 - j < N → Lr W w S bk lv c 60 j s →
    law08_ModelLearns.l12 N (c : Int) (some ⟨bk, 0, none⟩) (7 - (j : Int)) w K4 Kr := by
  induction N with
  | zero => intro j w s h1 h2; omega
  | succ N ih =>
    intro j w s hj hN h
    rw [law08_ModelLearns.l12]
    obtain ⟨G, hm⟩ := h.mid
    obtain ⟨p0, p1⟩ := ch60 hc hlv hj (hm.g j hj)
    rw [← hm.chance h.at' hj] at p0 p1
    have hcb := Mod.chance_bd hm.mok.ok
    refine bif_t (dec_t (by omega)) (model_Chance_ok h.lt h.gm fun w1 hg1 c1 => ?_)
    have e7 : IntKind.wrap .u64 (7 - (j : Int)) = ((7 - j : Nat) : Int) := by rw [wu64 (by omega) (by omega)]; omega
    have k1 : Chg no W w1 := h.hc.then c1 fun k hk hS => by have := h.lo k hS; omega
    have hl1 : ∀ b, S b → b < w1.heap.size := fun b hb => Nat.lt_of_lt_of_le (h.lt b hb) c1.size
    intro J
    have hJ : ∀ p, 3072 ≤ p → J p w1 := by
      intro p hp
      show cond (decide (p < 3072)) _ _
      refine bif_f (dec_f (by omega)) ?_
      rw [e7, Int.toNat_natCast]
      refine ifn_of (by omega) ?_
      rw [bit_of hc (show 7 - j ≤ 7 by omega)]
      have hb : ((bitN c (7 - j) : Nat) : Int) = bt c j := rfl
      rw [hb]
      have ma := hm.asked
      refine model_Learn_ok (bt_01 c j) hl1 hg1 fun w2 hg2 c2 => ?_
      dsimp only
      have hl2 : ∀ b, S b → b < w2.heap.size := fun b hb => Nat.lt_of_lt_of_le (hl1 b hb) c2.size
      have k2 : Chg no W w2 := k1.then c2 fun k hk hS => by have := h.lo k hS; omega
      rw [w64 (by omega) (by omega)]
      by_cases h7 : j < 7
      · rw [show 7 - (j : Int) - 1 = 7 - ((j + 1 : Nat) : Int) by omega]
        exact ih (j + 1) w2 _ (by omega) (by omega) ⟨hg2, hl2, h.lo, k2, ⟨G, ma.learn hc h.at'.asked hj⟩, h.at'.asked.learn hc h7⟩
      · obtain rfl : j = 7 := by omega
        obtain ⟨M, rfl⟩ : ∃ M, N = M + 1 := ⟨N - 1, by omega⟩
        rw [law08_ModelLearns.l12]
        exact bif_f (dec_f (by omega)) (hk w2 k2)
    clear_value J
    rw [e7, Int.toNat_natCast]
    refine ifn_of (by omega) ?_
    have hbn : band .u8 (shr .u8 (c : Int) (min (7 - j) (IntKind.bits .u8))) 1 = ((bitN c (7 - j) : Nat) : Int) := by
      rw [shr_nat, band_one _ (by have := Nat.shiftRight_le c (min (7 - j) (IntKind.bits .u8)); omega), show min (7 - j) (IntKind.bits .u8) = 7 - j from Nat.min_eq_left (by have : IntKind.bits .u8 = 8 := rfl; omega)]; rfl
    rw [hbn]
    refine cond_of (fun g => ?_) fun g => ?_
    · have h0 : bt c j = 0 := by
        have : ((bitN c (7 - j) : Nat) : Int) = 0 := by simpa using g
        exact this
      have := p0 h0
      dsimp only
      exact hJ _ (by rw [w64 (by omega) (by omega)]; omega)
    · have h1 : bt c j = 1 := by
        have hne : ¬ ((bitN c (7 - j) : Nat) : Int) = 0 := by simpa using g
        rcases bt_01 c j with e | e
        · exact absurd e hne
        · exact e
      exact hJ _ (p1 h1)
theorem law08_ModelLearns_said {a c' : Int} {W : World} {K : Bool → World → Prop} (_ : (Lit.int .i64 a).wf = true) (hwc : (Lit.int .u8 c').wf = true) (hk : ∀ w', Below W.heap.size W w' → K true w') : law08_ModelLearns.f a c' W K := by
  have hcb := wf_u8 hwc
  obtain ⟨c, rfl⟩ : ∃ c : Nat, c' = c := ⟨c'.toNat, by omega⟩
  have hc : c < 256 := by omega
  unfold law08_ModelLearns.f
  refine model_New_ok fun b1 w1 hG c1 => law08_awake_ok fun w2 c2 => bif_f rfl (bif_f rfl ⟨61, ?_⟩)
  have hlv : (mx 0 (mn a 2)).toNat ≤ 2 := by
    have h1 := mx_bd 0 (mn a 2)
    have h2 := mn_bd a 2
    omega
  generalize (mx 0 (mn a 2)).toNat = lv at hlv hG
  obtain ⟨hm, ha⟩ := mid_new hc hlv
  have z2 := c2.size
  exact law08_ModelLearns_l5 (W := W) (S := fun b => W.heap.size ≤ b ∧ b < w1.heap.size) hc hlv (fun w3 s3 h3 => ⟨9, law08_ModelLearns_l12 hc hlv (fun w4 c4 => hk w4 (below_no (Below.refl _ _) c4 (Nat.le_refl _))) 9 0 w3 s3 (by omega) (by omega) h3⟩) 61 0 w2 _ (by omega) (by omega)
    ⟨hG.chg c2 fun _ _ h => h, fun b hb => by omega, fun b hb => hb.1, c1.trans c2, ⟨_, hm⟩, ha⟩
end Go.Proofs.Ytdbnobeopgfhgaa.G
