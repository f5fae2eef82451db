/- Tracks joined, and the laws of it. -/
import Derived.Test.YtmgcjihcbdgihaaKl
import Derived.Test.YtmgcjihcbdgihaaVmS
import Derived.Test.YtmgcjihcbdgihaaGenLawTracksJoin
import Derived.Test.YtmgcjihcbdgihaaGenLawTracksBack
set_option linter.unusedVariables false
set_option linter.unusedSimpArgs false
namespace Go.Proofs.Ytmgcjihcbdgihaa.G
open Go Go.Proofs.Ytmgcjihcbdgihaa.Vm Go.RowKit
theorem sls_keep {T : Nat → Prop} {k : IntKind} {w0 w : World} {a : Option Addr} {hs : List Hdr} {L : List (List Int)} (h : SlS k w0 a hs L) (hc : Chg T w0 w) (hT : ∀ b, T b → w0.heap.size ≤ b) : SlS k w a hs L :=
  ⟨h.len, fun i g hg => by
    obtain ⟨p, hp, hc2⟩ := h.head i g hg
    exact ⟨p, hp, chg_cell hc hc2 fun hh => by have := hT _ hh; have := block_lt hc2; omega⟩,
   fun i g l hg hl => ⟨(h.row i g l hg hl).1.chg hc fun p hp hne hh => by have := hT _ hh; have := old_lt (h.row i g l hg hl).1 (Nat.le_refl _) p hp hne; omega, (h.row i g l hg hl).2⟩⟩
theorem sls_own {k : IntKind} {e eo : TypeId} {S : Nat → Prop} {w : World} {bo : Nat} {hs : List Hdr} {L : List (List Int)} (h : OwnR k e eo S w bo hs L) : SlS k w (some ⟨bo, 0, none⟩) hs L :=
  ⟨h.len, fun i g hg => ⟨_, rfl, by rw [add_mk, Nat.zero_add]; exact h.head.cell (by rw [List.getElem?_map, hg]; rfl)⟩, fun i g l hg hl => ⟨(h.row i g l hg hl).sl, (h.row i g l hg hl).length⟩⟩
theorem sls_hd {k : IntKind} {w : World} {a : Option Addr} {hs : List Hdr} {L : List (List Int)} {i : Nat} {l : List Int} (h : SlS k w a hs L) (hl : L[i]? = some l) : ∃ g, hs[i]? = some g ∧ SlI k w g.1 l ∧ l.length = g.2.1 := by
  have hi : i < hs.length := by rw [h.len]; exact (List.getElem?_eq_some_iff.1 hl).1
  exact ⟨hs[i], List.getElem?_eq_getElem hi, h.row i _ l (List.getElem?_eq_getElem hi) hl⟩
theorem head_i {k : IntKind} {w : World} {a : Option Addr} {hs : List Hdr} {L : List (List Int)} {i n : Nat} {g : Hdr} {x : Int} {K : Addr → Option Addr → Nat → Nat → Prop} (h : SlS k w a hs L) (hx : x = i) (hi : i < n) (hg : hs[i]? = some g)
    (hk : ∀ p, a = some p → K p g.1 g.2.1 g.2.2) : sm a fun p => if 0 ≤ x ∧ x < (n : Int) then ldL (p.add x.toNat) w (K p) else False := by
  obtain ⟨p, rfl, hc⟩ := h.head i g hg
  subst hx
  refine sm_some (if_of ⟨by omega, by omega⟩ ?_)
  rw [show Int.toNat (i : Int) = i by omega]
  exact ldL_of hc (hk p rfl)
/-- A number may stand in so many bits. -/
def OkV (M : Int) (l : List Int) : Prop := ∀ v ∈ l, -M ≤ v ∧ v < M
/-- All tracks are of one length, and their numbers may stand so. -/
def Good (M : Int) (L : List (List Int)) : Prop := ∀ l ∈ L, l.length = (L.getD 0 []).length ∧ OkV M l
theorem w32M {M : Int} (h : M = 128 ∨ M = 32768) : IntKind.wrap .i32 (0 - M) = -M := by
  rcases h with rfl | rfl <;> decide
theorem tracks_Join_l10 {w : World} {y0 y24 y25 : Int} {y1 y23 g1 : Option Addr} {n1 c1 n23 c23 m c : Nat} {l : List Int} {M : Int} {K2 : Int → Option Addr → Nat → Nat → Int → Option Addr → Nat → Nat → Int → Int → World → Prop} {Kr : Option Addr → Nat → Nat → Int → World → Prop}
    (hM : M = 128 ∨ M = 32768) (hl : SlI .i32 w g1 l) (hll : l.length = m) (hm : m < 4611686018427387904)
    (hk : OkV M l → K2 y0 y1 n1 c1 M y23 n23 c23 y24 y25 w) (hr : ¬ OkV M l → Kr none 0 0 4 w) (N : Nat) :
    ∀ i : Nat, i ≤ m → m - i < N → OkV M (l.take i) → tracks_Join.l10 N y0 y1 n1 c1 M y23 n23 c23 y24 y25 g1 m c m i w K2 Kr := by
  induction N with
  | zero => intro i h1 h2; omega
  | succ N ih =>
    intro i h1 h2 hok
    rw [tracks_Join.l10]
    by_cases hlt : i < m
    · have hv := getD_some (xs := l) (i := i) (by omega)
      have hmem := List.mem_of_getElem? hv
      refine bif_t (dec_t (by omega)) (rdV hl i rfl hll hv fun _ _ => ?_)
      rw [w32M hM]
      refine cond_of (fun hh => hr fun ho => ?_) (fun hh => cond_of (fun hh2 => hr fun ho => ?_) (fun hh2 => ?_))
      · have := of_decide_eq_true hh; have := ho _ hmem; omega
      · have := of_decide_eq_true hh2; have := ho _ hmem; omega
      · rw [inc (by omega)]
        refine ih (i + 1) (by omega) (by omega) fun v hvm => ?_
        rw [take_snoc hv] at hvm
        rcases List.mem_append.1 hvm with h | h
        · exact hok v h
        · rw [List.mem_singleton.1 h]
          have := of_decide_eq_false hh; have := of_decide_eq_false hh2
          omega
    · have : i = m := by omega
      subst this
      rw [List.take_of_length_le (by omega)] at hok
      exact bif_f (dec_f (by omega)) (hk hok)
theorem getD0 {L : List (List Int)} {l : List Int} (h : L[0]? = some l) : L.getD 0 [] = l := by rw [List.getD_eq_getElem?_getD, h]; rfl
theorem tracks_Join_l5 {w : World} {y0 M : Int} {x : Option Addr} {n c : Nat} {hs : List Hdr} {L : List (List Int)} {K0 : Int → Option Addr → Nat → Nat → World → Prop} {Kr : Option Addr → Nat → Nat → Int → World → Prop}
    (hM : M = 128 ∨ M = 32768) (hS : SlS .i32 w x hs L) (hL : L.length = n) (hn : 1 ≤ n) (hn8 : n ≤ 8) (hm : ∀ l ∈ L, l.length ≤ 5000) (hk : Good M L → K0 y0 x n c w) (hr : ¬ Good M L → Kr none 0 0 4 w) (N : Nat) :
    ∀ i : Nat, i ≤ n → n - i < N → (∀ j l, j < i → L[j]? = some l → l.length = (L.getD 0 []).length ∧ OkV M l) → tracks_Join.l5 N y0 x n c M x n c n i w K0 Kr := by
  induction N with
  | zero => intro i h1 h2; omega
  | succ N ih =>
    intro i h1 h2 hok
    rw [tracks_Join.l5]
    by_cases hlt : i < n
    · have hl : L[i]? = some (L[i]'(by omega)) := List.getElem?_eq_getElem _
      have hl0 : L[0]? = some (L[0]'(by omega)) := List.getElem?_eq_getElem _
      generalize L[i]'(by omega) = l at hl
      generalize L[0]'(by omega) = l0 at hl0
      obtain ⟨g, hg, hgs, hgl⟩ := sls_hd hS hl
      obtain ⟨g0, hg0, hgs0, hgl0⟩ := sls_hd hS hl0
      have hlm := List.mem_of_getElem? hl
      refine bif_t (dec_t (by omega)) (head_i hS rfl hlt hg fun _ _ => head_i hS (i := 0) rfl (by omega) hg0 fun _ _ => ?_)
      refine cond_of (fun hh => hr fun ho => ?_) (fun hh => ⟨5001, ?_⟩)
      · have h1 := (ho l hlm).1
        rw [getD0 hl0] at h1
        have : (g.2.1 : Int) ≠ g0.2.1 := by simpa using hh
        omega
      · have hle : g.2.1 = g0.2.1 := by
          have : (g.2.1 : Int) = g0.2.1 := by simpa using hh
          omega
        have h5 := hm l hlm
        refine tracks_Join_l10 hM hgs hgl (by omega) (fun hov => ?_) (fun hov => hr fun ho => hov (ho l hlm).2) 5001 0 (by omega) (by omega) (fun v hv => by simp at hv)
        rw [inc (by omega)]
        refine ih (i + 1) (by omega) (by omega) fun j l' hj hl' => ?_
        by_cases hji : j < i
        · exact hok j l' hji hl'
        · have : j = i := by omega
          subst this
          rw [hl] at hl'; cases hl'
          exact ⟨by rw [getD0 hl0, hgl, hgl0, hle], hov⟩
    · have : i = n := by omega
      subst this
      refine bif_f (dec_f (by omega)) (hk fun l hlm => ?_)
      obtain ⟨j, hj, rfl⟩ := List.getElem_of_mem hlm
      exact hok j _ (by omega) (List.getElem?_eq_getElem hj)
theorem samp_at {L : List (List Int)} {n i k : Nat} {l : List Int} (hk : k < n) (hl : L[k]? = some l) : samp L n (i * n + k) = l.getD i 0 := by
  unfold samp
  rw [Nat.mul_comm, Nat.mul_add_mod, Nat.mod_eq_of_lt hk, Nat.mul_add_div (by omega), Nat.div_eq_of_lt hk, Nat.add_zero]
  have e : L.getD k [] = l := by rw [List.getD_eq_getElem?_getD, hl]; rfl
  rw [e]
theorem tracks_Join_l21 {w0 : World} {lo n c m D i : Nat} {y0 : Int} {x : Option Addr} {hs : List Hdr} {L : List (List Int)} {y56 : Int} {K6 : Int → Option Addr → Nat → Nat → Option Addr → Nat → Nat → Int → Int → World → Prop}
    (hS : SlS .i32 w0 x hs L) (hlo : w0.heap.size = lo) (hL : L.length = n) (hn8 : n ≤ 8) (hD : D = 1 ∨ D = 2) (hy0 : y0 = 8 * D) (hm : ∀ l ∈ L, l.length = m) (hm5 : m ≤ 5000) (hi : i < m)
    (hk : ∀ a c' w, Own .u8 5 (fun b => lo ≤ b) w a ((i * n + n) * D) c' (jo D (samp L n) (i * n + n)) → Chg (fun b => lo ≤ b) w0 w → K6 y0 x n c a ((i * n + n) * D) c' y56 i w) (N : Nat) :
    ∀ (k : Nat) (a : Option Addr) (c' : Nat) (w : World), k ≤ n → n - k < N → Own .u8 5 (fun b => lo ≤ b) w a ((i * n + k) * D) c' (jo D (samp L n) (i * n + k)) → Chg (fun b => lo ≤ b) w0 w →
      tracks_Join.l21 N y0 x n c a ((i * n + k) * D) c' i y56 i x n c n k w K6 := by
  induction N with
  | zero => intro k a c' w h1 h2; omega
  | succ N ih =>
    intro k a c' w h1 h2 ho hc
    rw [tracks_Join.l21]
    have hsz := hc.size
    have hin : i * n + k ≤ 40000 + 8 := by
      have : i * n ≤ 5000 * 8 := Nat.mul_le_mul (by omega) hn8
      omega
    by_cases hlt : k < n
    · have hl : L[k]? = some (L[k]'(by omega)) := List.getElem?_eq_getElem _
      generalize L[k]'(by omega) = l at hl
      have hlm := hm l (List.mem_of_getElem? hl)
      have hS1 := sls_keep hS hc (fun b hb => by omega)
      obtain ⟨g, hg, hgs, hgl⟩ := sls_hd hS1 hl
      have hv := getD_some (xs := l) (i := i) (by omega)
      have hsamp := samp_at (i := i) hlt hl
      refine bif_t (dec_t (by omega)) (head_i hS1 rfl hlt hg fun _ _ => ?_)
      rcases hD with rfl | rfl
      · refine bif_t (by subst hy0; rfl) (rdV hgs i rfl hgl hv fun _ _ => ?_)
        have e : [(Value.int .u8 (IntKind.wrap .u8 (IntKind.wrap .i32 (l.getD i 0 + 128))))] = (encB 1 (samp L n (i * n + k))).map (Value.int .u8) := by
          rw [hsamp]; unfold encB; rw [if_neg (by omega)]; rfl
        rw [e]
        refine newC_sl (k := .u8) rfl fun p1 w1 hs1 hc1 hz1 _ => ?_
        refine apS (ho.chg hc1 fun _ _ h => h) hs1 (by simp [encB]) (by omega) (by omega) (by omega) fun a2 c2 w2 ho2 hc2 => ?_
        rw [inc (by omega)]
        have e2 : (i * n + k) * 1 + 1 = (i * n + (k + 1)) * 1 := by omega
        rw [e2] at ho2 ⊢
        exact ih (k + 1) a2 c2 w2 (by omega) (by omega) ho2 ((hc.trans (hc1.mono fun _ h => h.elim)).trans hc2)
      · refine bif_f (by subst hy0; rfl) ?_
        have kd := hc.trans (Chg.drew _ w)
        have hgsd : SlI .i32 w.drew g.1 l := hgs
        obtain ⟨q, hq⟩ := hgsd.some (by omega)
        rw [hq] at hgs hgsd ⊢
        refine rdV (w := w.drew) hgsd i rfl hgl hv fun q1 hq1 => rdV (w := w.drew) hgsd i rfl hgl hv fun q2 hq2 => ?_
        cases hq1; cases hq2
        have hcell : ∀ w' T, Chg T w.drew w' → (∀ b, T b → lo ≤ b) → w'.cell? (q.add i) = some (.int .i32 (l.getD i 0)) := fun w' T hcc hT => by
          obtain ⟨gg, hgg, hsl, _⟩ := sls_hd (sls_keep hS (kd.trans (hcc.mono hT)) (fun b hb => by omega)) hl
          rw [hg] at hgg; cases hgg
          rw [hq] at hsl
          obtain ⟨q', hq', hce⟩ := hsl i (by omega)
          cases hq'
          rw [hce]
          obtain ⟨_, ee⟩ := List.getElem?_eq_some_iff.1 hv
          rw [ee]
        have e : [(Value.int .u8 (IntKind.wrap .u8 (l.getD i 0))), (Value.int .u8 (IntKind.wrap .u8 (shr .i32 (l.getD i 0) 8)))] = (encB 2 (samp L n (i * n + k))).map (Value.int .u8) := by
          rw [hsamp]; unfold encB; rw [if_pos rfl]; rfl
        rw [e, Int.toNat_natCast]
        have hod : Own .u8 5 (fun b => lo ≤ b) w.drew a ((i * n + k) * 2) c' (jo 2 (samp L n) (i * n + k)) := ho.chg (Chg.drew no w) fun _ _ h => h
        refine newC_sl (k := .u8) rfl fun p1 w1 hs1 hc1 hz1 _ => ⟨hcell w1 no hc1 fun _ h => h.elim, hcell w1 no hc1 fun _ h => h.elim, ?_⟩
        have e1 : w.drew.heap.size = w.heap.size := rfl
        refine apS (hod.chg hc1 fun _ _ h => h) hs1 (by simp [encB]) (by omega) (by omega) (by omega) fun a2 c2 w2 ho2 hc2 => ?_
        have k12 := (hc1.mono (T := fun b => lo ≤ b) fun _ h => h.elim).trans hc2
        refine ⟨hcell w2 _ k12 fun _ h => h, hcell w2 _ k12 fun _ h => h, ?_⟩
        rw [inc (by omega)]
        have e2 : (i * n + k) * 2 + 2 = (i * n + (k + 1)) * 2 := by omega
        rw [e2] at ho2 ⊢
        exact ih (k + 1) a2 c2 w2 (by omega) (by omega) ho2 (kd.trans k12)
    · have : k = n := by omega
      subst this
      exact bif_f (dec_f (by omega)) (hk a c' w ho hc)
theorem tracks_Join_l18 {w0 : World} {lo n c m D : Nat} {y0 : Int} {x : Option Addr} {hs : List Hdr} {L : List (List Int)} {K4 : Option Addr → Nat → Nat → World → Prop}
    (hS : SlS .i32 w0 x hs L) (hlo : w0.heap.size = lo) (hL : L.length = n) (hn8 : n ≤ 8) (hD : D = 1 ∨ D = 2) (hy0 : y0 = 8 * D) (hm : ∀ l ∈ L, l.length = m) (hm5 : m ≤ 5000)
    (hk : ∀ a c' w, Own .u8 5 (fun b => lo ≤ b) w a (m * n * D) c' (jo D (samp L n) (m * n)) → Chg (fun b => lo ≤ b) w0 w → K4 a (m * n * D) c' w) (N : Nat) :
    ∀ (i : Nat) (a : Option Addr) (c' : Nat) (w : World), i ≤ m → m - i < N → Own .u8 5 (fun b => lo ≤ b) w a (i * n * D) c' (jo D (samp L n) (i * n)) → Chg (fun b => lo ≤ b) w0 w →
      tracks_Join.l18 N y0 x n c a (i * n * D) c' m i w K4 := by
  induction N with
  | zero => intro i a c' w h1 h2; omega
  | succ N ih =>
    intro i a c' w h1 h2 ho hc
    rw [tracks_Join.l18]
    by_cases hlt : i < m
    · refine bif_t (dec_t (by omega)) ⟨n + 1, ?_⟩
      refine tracks_Join_l21 hS hlo hL hn8 hD hy0 hm hm5 hlt (fun a2 c2 w2 ho2 hc2 => ?_) (n + 1) 0 a c' w (by omega) (by omega) ho hc
      rw [inc (by omega)]
      rw [show i * n + n = (i + 1) * n by rw [Nat.succ_mul]] at ho2 ⊢
      exact ih (i + 1) a2 c2 w2 (by omega) (by omega) ho2 hc2
    · have : i = m := by omega
      subst this
      exact bif_f (dec_f (by omega)) (hk a c' w ho hc)
theorem tracks_Join_ok {x : Option Addr} {n c : Nat} {y0 : Int} {hs : List Hdr} {L : List (List Int)} {w : World} {K : Option Addr → Nat → Nat → Int → World → Prop} (hS : SlS .i32 w x hs L) (hL : L.length = n) (hm : ∀ l ∈ L, l.length ≤ 5000)
    (h1 : ¬ May n y0 → K none 0 0 1 w) (h4 : ∀ D : Nat, May n y0 → y0 = 8 * D → (D = 1 ∨ D = 2) → ¬ Good (if D = 1 then 128 else 32768) L → K none 0 0 4 w)
    (h0 : ∀ (D m : Nat) a c' w', May n y0 → y0 = 8 * D → (D = 1 ∨ D = 2) → Good (if D = 1 then 128 else 32768) L → (∀ l ∈ L, l.length = m) → m ≤ 5000 → Own .u8 5 (fun b => w.heap.size ≤ b) w' a (m * n * D) c' (jo D (samp L n) (m * n)) → Chg no w w' → K a (m * n * D) c' 0 w') :
    tracks_Join.f y0 x n c w K := by
  unfold tracks_Join.f
  refine tracks_may_ok (fun hmy => bif_f rfl ?_) (fun hmy => bif_t rfl (h1 hmy))
  have hmay := hmy
  obtain ⟨a1, a8, hb⟩ := hmy
  obtain ⟨D, hD, rfl⟩ : ∃ D : Nat, (D = 1 ∨ D = 2) ∧ y0 = 8 * D := by rcases hb with h | h; exact ⟨1, .inl rfl, by omega⟩; exact ⟨2, .inr rfl, by omega⟩
  have e1 : IntKind.wrap .i64 (8 * (D : Int) - 1) = 8 * D - 1 := w64 (by omega) (by omega)
  rw [e1, if_neg (by omega)]
  dsimp only
  have e2 : shl .i32 1 (min (Int.toNat (8 * (D : Int) - 1)) (IntKind.bits .i32)) = if D = 1 then 128 else 32768 := by
    rcases hD with rfl | rfl <;> decide
  rw [e2]
  have hM : (if D = 1 then (128 : Int) else 32768) = 128 ∨ (if D = 1 then (128 : Int) else 32768) = 32768 := by split; exact .inl rfl; exact .inr rfl
  have hl0 : L[0]? = some (L[0]'(by omega)) := List.getElem?_eq_getElem _
  generalize L[0]'(by omega) = l0 at hl0
  obtain ⟨g0, hg0, hgs0, hgl0⟩ := sls_hd hS hl0
  refine ⟨n + 1, tracks_Join_l5 hM hS hL (by omega) (by omega) hm (fun hgood => ?_) (fun hb => h4 D hmay rfl hD hb) (n + 1) 0 (by omega) (by omega) (fun j l hj => by omega)⟩
  have hlen : ∀ l ∈ L, l.length = g0.2.1 := fun l hl => by rw [(hgood l hl).1, getD0 hl0, hgl0]
  have hm5 : g0.2.1 ≤ 5000 := by have := hm l0 (List.mem_of_getElem? hl0); omega
  refine head_i hS (i := 0) rfl (by omega) hg0 fun _ _ => ⟨g0.2.1 + 1, ?_⟩
  have := tracks_Join_l18 (c := c) (K4 := fun o11_79 o11_79n o11_79c w => K o11_79 o11_79n o11_79c 0 w) hS rfl hL (by omega) hD rfl hlen hm5 (fun a c' w' ho hc => h0 D g0.2.1 a c' w' hmay rfl hD hgood hlen hm5 ho ((Chg.refl no w).then hc fun k hk h => by omega)) (g0.2.1 + 1) 0 none 0 w (by omega) (by omega) (by rw [Nat.zero_mul, Nat.zero_mul]; exact Own.nil _ _ _ _) (Chg.refl _ _)
  rw [Nat.zero_mul, Nat.zero_mul] at this
  exact this
/-! ### The reference -/
theorem w32R {M : Int} (h : M = 128 ∨ M = 32768) : IntKind.wrap .i32 (IntKind.wrap .i32 (0 - (M - 1)) - 1) = -M := by
  rcases h with rfl | rfl <;> decide
theorem ref14_Join_l12 {w : World} {y0 : Int} {x : Option Addr} {n c k : Nat} {hs : List Hdr} {L : List (List Int)} {l : List Int} {M : Int} {K2 : Int → Option Addr → Nat → Nat → Int → Int → World → Prop} {Kr : Option Addr → Nat → Nat → Int → World → Prop}
    (hM : M = 128 ∨ M = 32768) (hS : SlS .i32 w x hs L) (hkn : k < n) (hl : L[k]? = some l) (hm : l.length < 4611686018427387904)
    (hk : OkV M l → K2 y0 x n c (M - 1) k w) (hr : ¬ OkV M l → Kr none 0 0 4 w) (N : Nat) :
    ∀ i : Nat, i ≤ l.length → l.length - i < N → OkV M (l.take i) → ref14_Join.l12 N y0 x n c (M - 1) k i w K2 Kr := by
  obtain ⟨g, hg, hgs, hgl⟩ := sls_hd hS hl
  induction N with
  | zero => intro i h1 h2; omega
  | succ N ih =>
    intro i h1 h2 hok
    rw [ref14_Join.l12]
    refine head_i hS rfl hkn hg fun _ _ => ?_
    by_cases hlt : i < l.length
    · have hv := getD_some (xs := l) (i := i) (by omega)
      have hmem := List.mem_of_getElem? hv
      refine bif_t (dec_t (by omega)) (head_i hS rfl hkn hg fun _ _ => rdV hgs i rfl hgl hv fun _ _ => ?_)
      refine cond_of (fun hh => hr fun ho => ?_) (fun hh => head_i hS rfl hkn hg fun _ _ => rdV hgs i rfl hgl hv fun _ _ => ?_)
      · have := of_decide_eq_true hh; have := ho _ hmem; omega
      · rw [w32R hM]
        refine cond_of (fun hh2 => hr fun ho => ?_) (fun hh2 => ?_)
        · have := of_decide_eq_true hh2; have := ho _ hmem; omega
        · dsimp only
          rw [inc (by omega)]
          refine ih (i + 1) (by omega) (by omega) fun v hvm => ?_
          rw [take_snoc hv] at hvm
          rcases List.mem_append.1 hvm with h | h
          · exact hok v h
          · rw [List.mem_singleton.1 h]
            have := of_decide_eq_false hh; have := of_decide_eq_false hh2
            omega
    · have : i = l.length := by omega
      subst this
      rw [List.take_of_length_le (Nat.le_refl _)] at hok
      exact bif_f (dec_f (by omega)) (hk hok)
theorem ref14_Join_l7 {w0 : World} {y0 M : Int} {x : Option Addr} {n c : Nat} {hs : List Hdr} {L : List (List Int)} {K0 : Int → Option Addr → Nat → Nat → World → Prop} {Kr : Option Addr → Nat → Nat → Int → World → Prop}
    (hM : M = 128 ∨ M = 32768) (hS0 : SlS .i32 w0 x hs L) (hL : L.length = n) (hn : 1 ≤ n) (hn8 : n ≤ 8) (hm : ∀ l ∈ L, l.length ≤ 5000) (hk : Good M L → ∀ w, Chg no w0 w → K0 y0 x n c w) (hr : ¬ Good M L → ∀ w, Chg no w0 w → Kr none 0 0 4 w) (N : Nat) :
    ∀ (i : Nat) (w : World), i ≤ n → n - i < N → Chg no w0 w → (∀ j l, j < i → L[j]? = some l → l.length = (L.getD 0 []).length ∧ OkV M l) → ref14_Join.l7 N y0 x n c (M - 1) i w K0 Kr := by
  induction N with
  | zero => intro i w h1 h2; omega
  | succ N ih =>
    intro i w h1 h2 hc hok
    rw [ref14_Join.l7]
    by_cases hlt : i < n
    · have hcd := hc.trans (Chg.drew no w)
      have hS := hS0.chg hcd
      have hl : L[i]? = some (L[i]'(by omega)) := List.getElem?_eq_getElem _
      have hl0 : L[0]? = some (L[0]'(by omega)) := List.getElem?_eq_getElem _
      generalize L[i]'(by omega) = l at hl
      generalize L[0]'(by omega) = l0 at hl0
      obtain ⟨g, hg, hgs, hgl⟩ := sls_hd hS hl
      obtain ⟨g0, hg0, hgs0, hgl0⟩ := sls_hd hS hl0
      have hlm := List.mem_of_getElem? hl
      refine bif_t (dec_t (by omega)) (head_i (w := w.drew) hS rfl hlt hg fun _ _ => head_i (w := w.drew) hS (i := 0) rfl (by omega) hg0 fun _ _ => ?_)
      refine cond_of (fun hh => hr (fun ho => ?_) _ hcd) (fun hh => ⟨5001, ?_⟩)
      · have h1 := (ho l hlm).1
        rw [getD0 hl0] at h1
        have : (g.2.1 : Int) ≠ g0.2.1 := by simpa using hh
        omega
      · have hle : g.2.1 = g0.2.1 := by
          have : (g.2.1 : Int) = g0.2.1 := by simpa using hh
          omega
        have h5 := hm l hlm
        refine ref14_Join_l12 (w := w.drew) hM hS hlt hl (by omega) (fun hov => ?_) (fun hov => hr (fun ho => hov (ho l hlm).2) _ hcd) 5001 0 (by omega) (by omega) (fun v hv => by simp at hv)
        dsimp only
        rw [inc (by omega)]
        refine ih (i + 1) _ (by omega) (by omega) hcd fun j l' hj hl' => ?_
        by_cases hji : j < i
        · exact hok j l' hji hl'
        · have : j = i := by omega
          subst this
          rw [hl] at hl'; cases hl'
          exact ⟨by rw [getD0 hl0, hgl, hgl0, hle], hov⟩
    · have : i = n := by omega
      subst this
      refine bif_f (dec_f (by omega)) (hk (fun l hlm => ?_) w hc)
      obtain ⟨j, hj, rfl⟩ := List.getElem_of_mem hlm
      exact hok j _ (by omega) (List.getElem?_eq_getElem hj)
theorem ref14_Join_l21 {w0 : World} {lo n c m D i : Nat} {y0 : Int} {x : Option Addr} {hs : List Hdr} {L : List (List Int)} {K6 : Int → Option Addr → Nat → Nat → Option Addr → Nat → Nat → Int → World → Prop}
    (hS : SlS .i32 w0 x hs L) (hlo : w0.heap.size = lo) (hL : L.length = n) (hn8 : n ≤ 8) (hD : D = 1 ∨ D = 2) (hy0 : y0 = 8 * D) (hm : ∀ l ∈ L, l.length = m) (hm5 : m ≤ 5000) (hi : i < m)
    (hk : ∀ a c' w, Own .u8 5 (fun b => lo ≤ b) w a ((i * n + n) * D) c' (jo D (samp L n) (i * n + n)) → Chg (fun b => lo ≤ b) w0 w → K6 y0 x n c a ((i * n + n) * D) c' i w) (N : Nat) :
    ∀ (k : Nat) (a : Option Addr) (c' : Nat) (w : World), k ≤ n → n - k < N → Own .u8 5 (fun b => lo ≤ b) w a ((i * n + k) * D) c' (jo D (samp L n) (i * n + k)) → Chg (fun b => lo ≤ b) w0 w →
      ref14_Join.l21 N y0 x n c a ((i * n + k) * D) c' i k w K6 := by
  induction N with
  | zero => intro k a c' w h1 h2; omega
  | succ N ih =>
    intro k a c' w h1 h2 ho hc
    rw [ref14_Join.l21]
    have hsz := hc.size
    have hin : i * n + k ≤ 40000 + 8 := by
      have : i * n ≤ 5000 * 8 := Nat.mul_le_mul (by omega) hn8
      omega
    by_cases hlt : k < n
    · have hl : L[k]? = some (L[k]'(by omega)) := List.getElem?_eq_getElem _
      generalize L[k]'(by omega) = l at hl
      have hlm := hm l (List.mem_of_getElem? hl)
      have hS1 := sls_keep hS hc (fun b hb => by omega)
      obtain ⟨g, hg, hgs, hgl⟩ := sls_hd hS1 hl
      have hv := getD_some (xs := l) (i := i) (by omega)
      have hsamp := samp_at (i := i) hlt hl
      refine bif_t (dec_t (by omega)) (head_i hS1 rfl hlt hg fun _ _ => rdV hgs i rfl hgl hv fun _ _ => ?_)
      rcases hD with rfl | rfl
      · refine bif_t (by subst hy0; rfl) ?_
        have e : [(Value.int .u8 (IntKind.wrap .u8 (IntKind.wrap .i32 (l.getD i 0 + 128))))] = (encB 1 (samp L n (i * n + k))).map (Value.int .u8) := by
          rw [hsamp]; unfold encB; rw [if_neg (by omega)]; rfl
        rw [e]
        refine newC_sl (k := .u8) rfl fun p1 w1 hs1 hc1 hz1 _ => ?_
        refine apS (ho.chg hc1 fun _ _ h => h) hs1 (by simp [encB]) (by omega) (by omega) (by omega) fun a2 c2 w2 ho2 hc2 => ?_
        dsimp only
        rw [inc (by omega)]
        have e2 : (i * n + k) * 1 + 1 = (i * n + (k + 1)) * 1 := by omega
        rw [e2] at ho2 ⊢
        exact ih (k + 1) a2 c2 w2 (by omega) (by omega) ho2 ((hc.trans (hc1.mono fun _ h => h.elim)).trans hc2)
      · refine bif_f (by subst hy0; rfl) ?_
        have e : [(Value.int .u8 (IntKind.wrap .u8 (l.getD i 0))), (Value.int .u8 (IntKind.wrap .u8 (shr .i32 (l.getD i 0) 8)))] = (encB 2 (samp L n (i * n + k))).map (Value.int .u8) := by
          rw [hsamp]; unfold encB; rw [if_pos rfl]; rfl
        rw [e]
        refine newC_sl (k := .u8) rfl fun p1 w1 hs1 hc1 hz1 _ => ?_
        refine apS (ho.chg hc1 fun _ _ h => h) hs1 (by simp [encB]) (by omega) (by omega) (by omega) fun a2 c2 w2 ho2 hc2 => ?_
        dsimp only
        rw [inc (by omega)]
        have e2 : (i * n + k) * 2 + 2 = (i * n + (k + 1)) * 2 := by omega
        rw [e2] at ho2 ⊢
        exact ih (k + 1) a2 c2 w2 (by omega) (by omega) ho2 ((hc.trans (hc1.mono fun _ h => h.elim)).trans hc2)
    · have : k = n := by omega
      subst this
      exact bif_f (dec_f (by omega)) (hk a c' w ho hc)
theorem ref14_Join_l18 {w0 : World} {lo n c m D : Nat} {y0 : Int} {x : Option Addr} {hs : List Hdr} {L : List (List Int)} {K4 : Option Addr → Nat → Nat → World → Prop}
    (hS : SlS .i32 w0 x hs L) (hlo : w0.heap.size = lo) (hL : L.length = n) (hn1 : 1 ≤ n) (hn8 : n ≤ 8) (hD : D = 1 ∨ D = 2) (hy0 : y0 = 8 * D) (hm : ∀ l ∈ L, l.length = m) (hm5 : m ≤ 5000)
    (hk : ∀ a c' w, Own .u8 5 (fun b => lo ≤ b) w a (m * n * D) c' (jo D (samp L n) (m * n)) → Chg (fun b => lo ≤ b) w0 w → K4 a (m * n * D) c' w) (N : Nat) :
    ∀ (i : Nat) (a : Option Addr) (c' : Nat) (w : World), i ≤ m → m - i < N → Own .u8 5 (fun b => lo ≤ b) w a (i * n * D) c' (jo D (samp L n) (i * n)) → Chg (fun b => lo ≤ b) w0 w →
      ref14_Join.l18 N y0 x n c a (i * n * D) c' i w K4 := by
  induction N with
  | zero => intro i a c' w h1 h2; omega
  | succ N ih =>
    intro i a c' w h1 h2 ho hc
    rw [ref14_Join.l18]
    have hl0 : L[0]? = some (L[0]'(by omega)) := List.getElem?_eq_getElem _
    generalize L[0]'(by omega) = l0 at hl0
    obtain ⟨g0, hg0, hgs0, hgl0⟩ := sls_hd (sls_keep hS hc (fun b hb => by omega)) hl0
    have hgm : g0.2.1 = m := by rw [← hgl0]; exact hm l0 (List.mem_of_getElem? hl0)
    refine head_i (sls_keep hS hc (fun b hb => by omega)) (i := 0) rfl (by omega) hg0 fun _ _ => ?_
    rw [hgm]
    by_cases hlt : i < m
    · refine bif_t (dec_t (by omega)) ⟨n + 1, ?_⟩
      refine ref14_Join_l21 hS hlo hL hn8 hD hy0 hm hm5 hlt (fun a2 c2 w2 ho2 hc2 => ?_) (n + 1) 0 a c' w (by omega) (by omega) ho hc
      dsimp only
      rw [inc (by omega)]
      rw [show i * n + n = (i + 1) * n by rw [Nat.succ_mul]] at ho2 ⊢
      exact ih (i + 1) a2 c2 w2 (by omega) (by omega) ho2 hc2
    · have : i = m := by omega
      subst this
      exact bif_f (dec_f (by omega)) (hk a c' w ho hc)
theorem ref14_Join_ok {x : Option Addr} {n c : Nat} {y0 : Int} {hs : List Hdr} {L : List (List Int)} {w : World} {K : Option Addr → Nat → Nat → Int → World → Prop} (hS : SlS .i32 w x hs L) (hL : L.length = n) (hm : ∀ l ∈ L, l.length ≤ 5000)
    (h1 : ¬ May n y0 → K none 0 0 1 w) (h4 : ∀ D : Nat, May n y0 → y0 = 8 * D → (D = 1 ∨ D = 2) → ¬ Good (if D = 1 then 128 else 32768) L → ∀ w', Chg no w w' → K none 0 0 4 w')
    (h0 : ∀ (D m : Nat) a c' w', May n y0 → y0 = 8 * D → (D = 1 ∨ D = 2) → Good (if D = 1 then 128 else 32768) L → (∀ l ∈ L, l.length = m) → m ≤ 5000 → Own .u8 5 (fun b => w.heap.size ≤ b) w' a (m * n * D) c' (jo D (samp L n) (m * n)) → Chg no w w' → K a (m * n * D) c' 0 w') :
    ref14_Join.f y0 x n c w K := by
  unfold ref14_Join.f
  have main : ∀ D : Nat, May n y0 → y0 = 8 * D → (D = 1 ∨ D = 2) → ∃ N_49 : Nat, ref14_Join.l7 N_49 y0 x n c ((if D = 1 then 128 else 32768) - 1) 0 w
      (fun o0_50 o1_51 o1_51n o1_51c w =>
        ∃ N_84 : Nat, ref14_Join.l18 N_84 o0_50 o1_51 o1_51n o1_51c none 0 0 0 w
        (fun o9_85 o9_85n o9_85c w => K o9_85 o9_85n o9_85c 0 w))
      (fun o4_52 o4_52n o4_52c o5_53 w => K o4_52 o4_52n o4_52c o5_53 w) := by
    intro D hmay hy hD
    have hmay' := hmay
    obtain ⟨a1, a8, hb⟩ := hmay'
    have hM : (if D = 1 then (128 : Int) else 32768) = 128 ∨ (if D = 1 then (128 : Int) else 32768) = 32768 := by split; exact .inl rfl; exact .inr rfl
    have hl0 : L[0]? = some (L[0]'(by omega)) := List.getElem?_eq_getElem _
    generalize L[0]'(by omega) = l0 at hl0
    refine ⟨n + 1, ref14_Join_l7 hM hS hL (by omega) (by omega) hm (fun hgood w1 hc1 => ?_) (fun hb => h4 D hmay hy hD hb) (n + 1) 0 w (by omega) (by omega) (Chg.refl _ _) (fun j l hj => by omega)⟩
    obtain ⟨g0, hg0, hgs0, hgl0⟩ := sls_hd hS hl0
    have hlen : ∀ l ∈ L, l.length = g0.2.1 := fun l hl => by rw [(hgood l hl).1, getD0 hl0, hgl0]
    have hm5 : g0.2.1 ≤ 5000 := by have := hm l0 (List.mem_of_getElem? hl0); omega
    have hz1 := hc1.size
    have := ref14_Join_l18 (c := c) (K4 := fun o11_79 o11_79n o11_79c w => K o11_79 o11_79n o11_79c 0 w) (hS.chg hc1) rfl hL (by omega) (by omega) hD hy hlen hm5 (fun a c' w' ho hc => h0 D g0.2.1 a c' w' hmay hy hD hgood hlen hm5 (ho.mono fun b hb _ => by omega) (hc1.then hc fun k hk h => by omega)) (g0.2.1 + 1) 0 none 0 w1 (by omega) (by omega) (by rw [Nat.zero_mul, Nat.zero_mul]; exact Own.nil _ _ _ _) (Chg.refl _ _)
    rw [Nat.zero_mul, Nat.zero_mul] at this
    exact ⟨_, this⟩
  dsimp only
  refine cond_of (fun h => h1 fun hm => ?_) (fun ha => cond_of (fun h => h1 fun hm => ?_) (fun hb => cond_of (fun h8 => cond_of (fun h16 => h1 fun hm => ?_) (fun h16 => ?_)) (fun h8 => ?_)))
  · have := of_decide_eq_true h; have := hm.1; omega
  · have := of_decide_eq_true h; have := hm.2.1; omega
  · have g8 : y0 ≠ 8 := by simpa using h8
    have g16 : y0 ≠ 16 := by simpa using h16
    rcases hm.2.2 with h | h
    · exact g8 h
    · exact g16 h
  · have e : y0 = 16 := by simpa using h16
    subst e
    have := of_decide_eq_false ha; have := of_decide_eq_false hb
    exact bif_t rfl (main 2 ⟨by omega, by omega, .inr rfl⟩ rfl (.inr rfl))
  · have e : y0 = 8 := by simpa using h8
    subst e
    have := of_decide_eq_false ha; have := of_decide_eq_false hb
    exact bif_f rfl (main 1 ⟨by omega, by omega, .inl rfl⟩ rfl (.inl rfl))
/-! ### The laws -/
theorem law14_TracksJoin_said {y0 : Int} {x : Option Addr} {n c : Nat} {W : World} {K : Bool → World → Prop} (_ : (Lit.int .i64 y0).wf = true) (f : Fits W (.slc (.slc (.int .i32) 1 4) 1 24) [.slice x n c])
    (hk : ∀ w', Below W.heap.size W w' → K true w') : law14_TracksJoin.f y0 x n c W K := by
  obtain ⟨hnc, _, hs, L, hL, hS, _, hwf⟩ := f.slices
  unfold law14_TracksJoin.f
  refine cond_of (fun _ => law14_awake_ok fun w hc => hk w (below_no (Below.refl _ _) hc (Nat.le_refl _))) (fun h => ⟨n + 1, ?_⟩)
  have hn : n ≤ 20 := by have := of_decide_eq_false h; omega
  have loop : ∀ (N i : Nat), i ≤ n → n - i < N → (∀ j l, j < i → L[j]? = some l → l.length ≤ 1000) → law14_TracksJoin.l4 N y0 x n c i W
      (fun o0_18 o1_19 o1_19n o1_19c w =>
      tracks_Join.f o0_18 o1_19 o1_19n o1_19c w fun r30_22 r30_22n r30_22c r30_23 w =>
      ref14_Join.f o0_18 o1_19 o1_19n o1_19c w fun r36_25 r36_25n r36_25c r36_26 w =>
      law14_awake.f  w fun r39_28 w =>
      bif r39_28 then
        help_Bytes.f r30_22 r30_22n r30_22c r36_25 r36_25n r36_25c w fun r43_29 w =>
        bif r43_29 then
          let v4_30 := (r30_23 == r36_26)
          K v4_30 w
        else
          K false w
      else
        K false w) (fun o4_20 w => K o4_20 w) := by
    intro N
    induction N with
    | zero => intro i h1 h2; omega
    | succ N ih =>
      intro i h1 h2 hok
      rw [law14_TracksJoin.l4]
      by_cases hlt : i < n
      · have hl : L[i]? = some (L[i]'(by omega)) := List.getElem?_eq_getElem _
        generalize L[i]'(by omega) = l at hl
        obtain ⟨g, hg, hgs, hgl⟩ := sls_hd hS hl
        refine bif_t (dec_t (by omega)) (head_i hS rfl hlt hg fun _ _ => ?_)
        refine cond_of (fun _ => law14_awake_ok fun w hc => hk w (below_no (Below.refl _ _) hc (Nat.le_refl _))) (fun hh => ?_)
        dsimp only
        rw [inc (by omega)]
        refine ih (i + 1) (by omega) (by omega) fun j l' hj hl' => ?_
        by_cases hji : j < i
        · exact hok j l' hji hl'
        · have : j = i := by omega
          subst this
          rw [hl] at hl'; cases hl'
          have := of_decide_eq_false hh
          omega
      · have : i = n := by omega
        subst this
        refine bif_f (dec_f (by omega)) ?_
        have hm : ∀ l ∈ L, l.length ≤ 5000 := fun l hlm => by
          obtain ⟨j, hj, rfl⟩ := List.getElem_of_mem hlm
          have := hok j _ (by omega) (List.getElem?_eq_getElem hj)
          omega
        have fin : ∀ (a b : Option Addr) (m ca cb : Nat) (e : Int) (xs : List Int) (w : World), xs.length = m → SlI .u8 w a xs → SlI .u8 w b xs → Chg no W w →
            law14_awake.f w fun r39_28 w =>
            bif r39_28 then
              help_Bytes.f a m ca b m cb w fun r43_29 w =>
              bif r43_29 then K (e == e) w else K false w
            else K false w := fun a b m ca cb e xs w hxm ha hb hc => by
          refine law14_awake_ok fun w1 hc1 => bif_t rfl (help_Bytes_eq (ha.chg hc1 fun _ _ _ h => h) (hb.chg hc1 fun _ _ _ h => h) hxm hxm (bif_t rfl ?_))
          rw [beq_self_eq_true]
          exact hk w1 (below_no (Below.refl _ _) (hc.trans hc1) (Nat.le_refl _))
        have nl : ∀ w, SlI .u8 w none [] := fun w => SlI.nil _ _ _
        refine tracks_Join_ok hS hL hm (fun hmay => ?_) (fun D hmay hy hD hb => ?_) (fun D m a ca w1 hmay hy hD hgood hlm hm5 ho hc1 => ?_)
        · refine ref14_Join_ok hS hL hm (fun _ => ?_) (fun D h => absurd h hmay) (fun D m a ca w1 h => absurd h hmay)
          exact fin none none 0 0 0 1 [] W rfl (nl _) (nl _) (Chg.refl _ _)
        · refine ref14_Join_ok hS hL hm (fun h => absurd hmay h) (fun D' _ hy' _ _ w1 hc1 => fin none none 0 0 0 4 [] w1 rfl (nl _) (nl _) hc1) (fun D' m a ca w1 _ hy' _ hg => ?_)
          have : D' = D := by omega
          subst this
          exact absurd hg hb
        · have hl1 := ho.length
          refine ref14_Join_ok (hS.chg hc1) hL hm (fun h => absurd hmay h) (fun D' _ hy' _ hb => ?_) (fun D' m' a' ca' w2 _ hy' hD' hg hlm' hm5' ho' hc2 => ?_)
          · have : D' = D := by omega
            subst this
            exact absurd hgood hb
          · have : D' = D := by omega
            subst this
            have hmm : m' = m := by
              have h0 : L[0]? = some (L[0]'(by have := hmay.1; omega)) := List.getElem?_eq_getElem _
              have hmem := List.mem_of_getElem? h0
              rw [← hlm _ hmem, ← hlm' _ hmem]
            subst hmm
            exact fin a a' _ ca ca' 0 _ w2 hl1 (ho.sl.chg hc2 fun _ _ _ h => h) ho'.sl (hc1.trans hc2)
  exact loop (n + 1) 0 (by omega) (by omega) fun j l hj => by omega
theorem s16_bd (x y : Int) : -32768 ≤ s16 x y ∧ s16 x y < 32768 := by
  unfold s16
  generalize bor .u16 _ _ = t
  have : -32768 ≤ IntKind.wrap .i16 t ∧ IntKind.wrap .i16 t < 32768 := by
    simp [IntKind.wrap, IntKind.bits, IntKind.signed]
    split <;> omega
  rw [w32 (by omega) (by omega)]; exact this
theorem spl_good {ch q D : Nat} {xs : List Int} (hch : 0 < ch) (hD : D = 1 ∨ D = 2) (hb : By xs) : Good (if D = 1 then 128 else 32768) (spl ch (smp D xs) (q * ch)) ∧ ∀ l ∈ spl ch (smp D xs) (q * ch), l.length = q := by
  have hl : ∀ l ∈ spl ch (smp D xs) (q * ch), l.length = q := fun l hl => by
    rw [spl_eq hch] at hl
    obtain ⟨r, _, rfl⟩ := List.mem_map.1 hl
    rw [if_neg (by omega), rowS_length]
  refine ⟨fun l hm => ⟨?_, fun v hv => ?_⟩, hl⟩
  · rw [hl l hm]
    have h0 : (spl ch (smp D xs) (q * ch))[0]? = some ((spl ch (smp D xs) (q * ch))[0]'(by rw [spl_length]; exact hch)) := List.getElem?_eq_getElem _
    rw [getD0 h0]
    exact (hl _ (List.mem_of_getElem? h0)).symm
  · rw [spl_eq hch] at hm
    obtain ⟨r, _, rfl⟩ := List.mem_map.1 hm
    rw [if_neg (by omega)] at hv
    obtain ⟨j, _, rfl⟩ := List.mem_map.1 hv
    unfold smp
    rcases hD with rfl | rfl
    · rw [if_pos rfl, if_neg (by omega)]
      have : 0 ≤ xs.getD (j * ch + r) 0 ∧ xs.getD (j * ch + r) 0 ≤ 255 := by
        by_cases hlt : j * ch + r < xs.length
        · exact hb _ (List.mem_of_getElem? (getD_some hlt))
        · rw [List.getD_eq_getElem?_getD, List.getElem?_eq_none (by omega)]; simp
      omega
    · rw [if_neg (by omega), if_pos rfl]
      exact s16_bd _ _
theorem umod {a : Int} {k : Nat} (hk : 0 < k) (hk2 : k ≤ 1000000) : ∃ r : Nat, Int.tmod (IntKind.wrap .u64 a) (k : Int) = r ∧ r < k := by
  have h0 : 0 ≤ IntKind.wrap .u64 a := by rw [wu64_eq]; omega
  have g0 := Int.tmod_nonneg (k : Int) h0
  have g1 := Int.tmod_lt_of_pos (IntKind.wrap .u64 a) (show (0 : Int) < (k : Int) by omega)
  exact ⟨(Int.tmod (IntKind.wrap .u64 a) (k : Int)).toNat, by omega, by omega⟩
theorem law14_TracksBack_said {x : Option Addr} {n c : Nat} {u v : Int} {y : Option Addr} {m d : Nat} {z : Option Addr} {k e : Nat} {W : World} {K : Bool → World → Prop} (f : Fits W (.slc (.int .u8) 1 1) [.slice x n c]) (_ : (Lit.int .i64 u).wf = true) (_ : (Lit.int .i64 v).wf = true)
    (g : Fits W (.slc (.int .i32) 1 4) [.slice y m d]) (h : Fits W (.slc (.int .i32) 1 4) [.slice z k e])
    (hk : ∀ w', Below W.heap.size W w' → K true w') : law14_TracksBack.f x n c u v y m d z k e W K := by
  obtain ⟨hnc, _, xs, lx, hx, hwx⟩ := f.ints
  obtain ⟨hmd, _, ys, ly, hy, hwy⟩ := g.ints
  obtain ⟨hke, _, zs, lz, hz, hwz⟩ := h.ints
  have hb := By.of hwx
  have by' := I32.of hwy
  have bz := I32.of hwz
  have aw := law14_awake_ok (w := W) (K := K) fun w hc => hk w (below_no (Below.refl _ _) hc (Nat.le_refl _))
  unfold law14_TracksBack.f
  refine cond_of (fun _ => aw) (fun h1 => cond_of (fun _ => aw) (fun h2 => cond_of (fun _ => aw) (fun h3 => ?_)))
  have hn : n ≤ 5000 := by have := of_decide_eq_false h1; omega
  have hm : m ≤ 3000 := by have := of_decide_eq_false h2; omega
  have hkk : k ≤ 3000 := by have := of_decide_eq_false h3; omega
  obtain ⟨r1, e1, g1⟩ := umod (a := u) (k := 8) (by omega) (by omega)
  obtain ⟨r2, e2, g2⟩ := umod (a := v) (k := 2) (by omega) (by omega)
  obtain ⟨ch, hch, hch1, hch8⟩ : ∃ ch : Nat, IntKind.wrap .i64 (1 + IntKind.wrap .i64 (Int.tmod (IntKind.wrap .u64 u) 8)) = ch ∧ 1 ≤ ch ∧ ch ≤ 8 := ⟨r1 + 1, by
    rw [show (8 : Int) = ((8 : Nat) : Int) from rfl, e1, w64n (by omega), w64 (by omega) (by omega)]; omega, by omega, by omega⟩
  obtain ⟨D, hDe, hD⟩ : ∃ D : Nat, IntKind.wrap .i64 (8 + IntKind.wrap .i64 (8 * IntKind.wrap .i64 (Int.tmod (IntKind.wrap .u64 v) 2))) = 8 * (D : Int) ∧ (D = 1 ∨ D = 2) := ⟨r2 + 1, by
    rw [show (2 : Int) = ((2 : Nat) : Int) from rfl, e2, w64n (a := r2) (by omega), w64 (a := 8 * (r2 : Int)) (by omega) (by omega), w64 (by omega) (by omega)]; omega, by omega⟩
  dsimp only
  rw [hch, hDe]
  have hP : ∃ P : Nat, P = ch * D ∧ 1 ≤ P ∧ P ≤ 16 := ⟨ch * D, rfl, by rcases hD with rfl | rfl <;> omega, by rcases hD with rfl | rfl <;> omega⟩
  obtain ⟨P, hPe, hP1, hP16⟩ := hP
  have eP : IntKind.wrap .i64 (Int.tdiv (IntKind.wrap .i64 ((ch : Int) * (8 * (D : Int)))) 8) = (P : Int) := by
    have e3 : (ch : Int) * (8 * (D : Int)) = ((8 * P : Nat) : Int) := by
      rcases hD with rfl | rfl
      · rw [hPe]; omega
      · rw [hPe]; omega
    rw [e3, w64n (by omega), Int.tdiv_eq_ediv_of_nonneg (by omega), show ((8 * P : Nat) : Int) / 8 = (P : Int) by omega, w64n (by omega)]
  rw [eP, if_neg (by omega)]
  obtain ⟨q, hq⟩ : ∃ q, q = n / P := ⟨_, rfl⟩
  have hqP : q * P ≤ n := by rw [hq]; exact Nat.div_mul_le_self _ _
  have eq' : IntKind.wrap .i64 (IntKind.wrap .i64 (Int.tdiv (n : Int) (P : Int)) * (P : Int)) = ((q * P : Nat) : Int) := by
    have : Int.tdiv (n : Int) (P : Int) = ((n / P : Nat) : Int) := by
      rw [Int.tdiv_eq_ediv_of_nonneg (by omega)]; exact (Int.natCast_ediv n P).symm
    have hqn : n / P ≤ n := Nat.div_le_self _ _
    rw [this, ← hq, w64n (by omega), ← Int.natCast_mul, w64n (by omega)]
  rw [eq']
  refine bnd_hi (by omega) (by omega) ?_
  rw [Int.toNat_natCast, Nat.sub_zero]
  have px := hx.part (l := 0) (h := q * P) (c := c) (Nat.zero_le _) (by omega) (by omega)
  rw [List.drop_zero] at px
  have lpx : (xs.take (q * P)).length = q * P := by rw [List.length_take]; omega
  have hbx : By (xs.take (q * P)) := fun x hx => hb x (List.mem_of_mem_take hx)
  generalize xs.take (q * P) = ps at px lpx hbx
  have hmay : May ch (8 * (D : Int)) := ⟨by omega, by omega, by omega⟩
  refine tracks_Split_ok px lpx hbx (by omega) (fun hn => absurd hmay hn) (fun ch' D' ec eD _ _ _ hne => ?_) (fun ch' D' T bo hs w1 ec eD _ _ _ _ hT hR hc1 => ?_)
  · have : ch' = ch := by omega
    have : D' = D := by omega
    subst_vars
    rw [Nat.mul_mod_left] at hne
    exact absurd rfl hne
  · have e3 : ch' = ch := by omega
    have e4 : D' = D := by omega
    subst e3 e4
    have hTq : T = q * ch' := by
      rw [hPe, ← Nat.mul_assoc] at hT
      rcases hD with rfl | rfl <;> omega
    subst hTq
    obtain ⟨hgood, hlen⟩ := spl_good (ch := ch') (q := q) hch1 hD hbx
    have hlen5 : ∀ l ∈ spl ch' (smp D' ps) (q * ch'), l.length ≤ 5000 := fun l hl => by
      rw [hlen l hl]
      have : q ≤ q * P := Nat.le_mul_of_pos_right _ hP1
      omega
    refine tracks_Join_ok (sls_own hR) (spl_length _ _ _) hlen5 (fun hn => absurd hmay hn) (fun D2 _ eD2 _ hb2 => ?_) (fun D2 q2 a2 c2 w2 _ eD2 _ _ hl2 _ ho2 hc2 => ?_)
    · have : D2 = D' := by omega
      subst this
      exact absurd hgood hb2
    · have : D2 = D' := by omega
      subst this
      have hq2 : q2 = q := by
        have h0 : (spl ch' (smp D2 ps) (q * ch'))[0]? = some ((spl ch' (smp D2 ps) (q * ch'))[0]'(by rw [spl_length]; exact hch1)) := List.getElem?_eq_getElem _
        have hmem := List.mem_of_getElem? h0
        exact (hl2 _ hmem).symm.trans (hlen _ hmem)
      subst hq2
      have hout : jo D2 (samp (spl ch' (smp D2 ps) (q2 * ch')) ch') (q2 * ch') = ps := by
        rw [jo_congr (g := smp D2 ps) fun j hj => samp_spl hch1 hj, jo_smp hD hbx (by omega), List.take_of_length_le (by omega)]
      rw [hout] at ho2
      have hlen2 := ho2.length
      refine law14_awake_ok fun w3 hc3 => bif_f rfl (bif_f rfl (bif_f rfl (bif_f (by simp) ?_)))
      have k12 := hc1.trans hc2
      have k13 := k12.trans hc3
      refine help_Bytes_eq (px.chg k13 fun _ _ _ h => h) (ho2.sl.chg hc3 fun _ _ _ h => h) lpx (by omega) (bif_f rfl ?_)
      obtain ⟨t, ht, htm, htk⟩ : ∃ t : Nat, mn (m : Int) (k : Int) = t ∧ t ≤ m ∧ t ≤ k := ⟨min m k, by unfold mn; split <;> omega, by omega, by omega⟩
      rw [ht]
      refine bnd_hi (by omega) (by omega) (bnd_hi (by omega) (by omega) ?_)
      rw [Int.toNat_natCast, Nat.sub_zero]
      have k14 := k13.trans (Chg.drew no w3)
      have py := hy.part (l := 0) (h := t) (c := d) (Nat.zero_le _) (by omega) (by omega)
      have pz := hz.part (l := 0) (h := t) (c := e) (Nat.zero_le _) (by omega) (by omega)
      rw [List.drop_zero] at py pz
      have lpy : (ys.take t).length = t := by rw [List.length_take]; omega
      have lpz : (zs.take t).length = t := by rw [List.length_take]; omega
      have ipy : I32 (ys.take t) := fun x hx => by' x (List.mem_of_mem_take hx)
      have ipz : I32 (zs.take t) := fun x hx => bz x (List.mem_of_mem_take hx)
      generalize ys.take t = ys' at py lpy ipy
      generalize zs.take t = zs' at pz lpz ipz
      refine tracks_Mid_ok (w := w3.drew) (py.chg k14 fun _ _ _ h => h) (pz.chg k14 fun _ _ _ h => h) lpy lpz (by omega) (fun hne => absurd rfl hne) fun _ a5 a6 c5 c6 w5 hA hB hc5 => ?_
      refine tracks_Unmid_ok hA hB (zipI_length _ _ _ _) (zipI_length _ _ _ _) (by omega) (fun hne => absurd rfl hne) fun _ a7 a8 c7 c8 w6 hC hE hc6 => ?_
      obtain ⟨u1, u2⟩ := unmid_lists ipy ipz lpy lpz
      rw [u1] at hC
      rw [u2] at hE
      have k16 := (k14.trans hc5).trans hc6
      refine bif_t rfl (bif_t rfl (bnd_hi (by omega) (by omega) ?_))
      rw [Int.toNat_natCast, Nat.sub_zero]
      refine help_Plain_int32_ok hC (py.chg k16 fun _ _ _ h => h) lpy lpy (by omega) fun w7 hc7 => bif_t rfl (bnd_hi (by omega) (by omega) ?_)
      rw [Int.toNat_natCast, Nat.sub_zero]
      exact help_Plain_int32_ok (hE.chg hc7 fun _ _ _ h => h) (pz.chg (k16.trans hc7) fun _ _ _ h => h) lpz lpz (by omega) fun w8 hc8 => hk _ (below_no (Below.refl _ _) ((k16.trans hc7).trans hc8) (Nat.le_refl _))
end Go.Proofs.Ytmgcjihcbdgihaa.G
