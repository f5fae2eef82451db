/- Samples joined out of tracks, as plain lists. -/
import Derived.Test.YtmgcjihcbdgihaaKe
set_option linter.unusedVariables false
set_option linter.unusedSimpArgs false
namespace Go.Proofs.Ytmgcjihcbdgihaa.G
open Go Go.Proofs.Ytmgcjihcbdgihaa.Vm Go.RowKit
/-- Every `ch`-th sample from `r` on, `i` of them. -/
def rowS (v : Nat → Int) (ch i r : Nat) : List Int := (List.range i).map fun j => v (j * ch + r)
theorem rowS_succ (v : Nat → Int) (ch i r : Nat) : rowS v ch (i + 1) r = rowS v ch i r ++ [v (i * ch + r)] := by
  unfold rowS; rw [List.range_succ, List.map_append]; rfl
theorem rowS_length (v : Nat → Int) (ch i r : Nat) : (rowS v ch i r).length = i := by simp [rowS]
theorem rowS_getD {v : Nat → Int} {ch i r j : Nat} (h : j < i) : (rowS v ch i r).getD j 0 = v (j * ch + r) := by
  unfold rowS; rw [List.getD_eq_getElem?_getD, List.getElem?_map, List.getElem?_range h]; rfl
def splS (v : Nat → Int) (ch i r0 : Nat) : List (List Int) := (List.range ch).map fun r => rowS v ch (if r < r0 then i + 1 else i) r
theorem splS_get {v : Nat → Int} {ch i r0 r : Nat} (h : r < ch) : (splS v ch i r0)[r]? = some (rowS v ch (if r < r0 then i + 1 else i) r) := by
  unfold splS; rw [List.getElem?_map, List.getElem?_range h]; rfl
theorem splS_next {v : Nat → Int} {ch i r0 : Nat} (h : r0 < ch) : (splS v ch i r0).set r0 ((splS v ch i r0).getD r0 [] ++ [v (i * ch + r0)]) = splS v ch i (r0 + 1) := by
  apply List.ext_getElem?
  intro r
  by_cases hr : r < ch
  · rw [splS_get hr]
    by_cases he : r0 = r
    · subst he
      rw [List.getElem?_set_self (by simp [splS]; exact h), List.getD_eq_getElem?_getD, splS_get h, if_neg (by omega), if_pos (by omega), rowS_succ]; rfl
    · rw [List.getElem?_set_ne he, splS_get hr]
      congr 2
      by_cases h1 : r < r0
      · rw [if_pos h1, if_pos (by omega)]
      · rw [if_neg h1, if_neg (by omega)]
  · rw [List.getElem?_eq_none (by simp [splS]; omega), List.getElem?_eq_none (by simp [splS]; omega)]
theorem splS_turn (v : Nat → Int) (ch i : Nat) : splS v ch i ch = splS v ch (i + 1) 0 := by
  unfold splS
  refine List.map_congr_left fun r hr => ?_
  rw [if_pos (List.mem_range.1 hr), if_neg (by omega)]
theorem spl_row_eq {ch : Nat} {v : Nat → Int} (hch : 0 < ch) (i : Nat) (h0 : spl ch v (i * ch) = splS v ch i 0) : ∀ r0, r0 ≤ ch → spl ch v (i * ch + r0) = splS v ch i r0
  | 0, _ => h0
  | r0 + 1, h => by
    rw [show i * ch + (r0 + 1) = (i * ch + r0) + 1 by omega, spl, spl_row_eq hch i h0 r0 (by omega), Nat.mul_comm, Nat.mul_add_mod, Nat.mod_eq_of_lt (by omega), Nat.mul_comm]
    exact splS_next (by omega)
theorem spl_eq {ch : Nat} {v : Nat → Int} (hch : 0 < ch) : ∀ i, spl ch v (i * ch) = splS v ch i 0
  | 0 => by
    rw [Nat.zero_mul, spl]
    unfold splS
    apply List.ext_getElem?
    intro r
    by_cases hr : r < ch
    · rw [List.getElem?_map, List.getElem?_range hr, List.getElem?_replicate, if_pos hr]; rfl
    · rw [List.getElem?_eq_none (by simp; omega), List.getElem?_eq_none (by simp; omega)]
  | i + 1 => by rw [Nat.succ_mul, spl_row_eq hch i (spl_eq hch i) ch (Nat.le_refl _), splS_turn]
/-- The `t`-th sample of tracks. -/
def samp (L : List (List Int)) (n t : Nat) : Int := (L.getD (t % n) []).getD (t / n) 0
theorem samp_spl {ch m t : Nat} {v : Nat → Int} (hch : 0 < ch) (ht : t < m * ch) : samp (spl ch v (m * ch)) ch t = v t := by
  unfold samp
  have e : (splS v ch m 0).getD (t % ch) [] = rowS v ch m (t % ch) := by
    rw [List.getD_eq_getElem?_getD, splS_get (Nat.mod_lt _ hch), if_neg (by omega)]; rfl
  rw [spl_eq hch, e]
  rw [rowS_getD (Nat.div_lt_of_lt_mul (by rw [Nat.mul_comm]; exact ht))]
  congr 1
  rw [Nat.mul_comm]; exact Nat.div_add_mod t ch
/-- The bytes of a sample. -/
def encB (D : Nat) (v : Int) : List Int := if D = 2 then [IntKind.wrap .u8 v, IntKind.wrap .u8 (shr .i32 v 8)] else [IntKind.wrap .u8 (IntKind.wrap .i32 (v + 128))]
def jo (D : Nat) (f : Nat → Int) : Nat → List Int
  | 0 => []
  | t + 1 => jo D f t ++ encB D (f t)
theorem jo_congr {D : Nat} {f g : Nat → Int} : ∀ {t : Nat}, (∀ j, j < t → f j = g j) → jo D f t = jo D g t
  | 0, _ => rfl
  | t + 1, h => by rw [jo, jo, jo_congr (t := t) fun j hj => h j (by omega), h t (by omega)]
theorem jo_length (D : Nat) (f : Nat → Int) (hD : D = 1 ∨ D = 2) : ∀ t, (jo D f t).length = t * D
  | 0 => by simp [jo]
  | t + 1 => by
    rw [jo, List.length_append, jo_length D f hD t]
    rcases hD with rfl | rfl <;> simp [encB] <;> omega
theorem s16_eq {x y : Int} (hx : 0 ≤ x ∧ x ≤ 255) (hy : 0 ≤ y ∧ y ≤ 255) : s16 x y = IntKind.wrap .i16 (x + 256 * y) := by
  obtain ⟨a, rfl⟩ : ∃ a : Nat, x = a := ⟨x.toNat, by omega⟩
  obtain ⟨b, rfl⟩ : ∃ b : Nat, y = b := ⟨y.toNat, by omega⟩
  have ha : a < 2 ^ 8 := by omega
  have hb : b < 256 := by omega
  have key : bor .u16 (IntKind.wrap .u16 (a : Int)) (shl .u16 (IntKind.wrap .u16 (b : Int)) 8) = ((a + 256 * b : Nat) : Int) := by
    have w1 : IntKind.wrap .u16 (a : Int) = a := by simp [IntKind.wrap, IntKind.bits, IntKind.signed]; omega
    have w2 : IntKind.wrap .u16 (b : Int) = b := by simp [IntKind.wrap, IntKind.bits, IntKind.signed]; omega
    have w3 : shl .u16 (b : Int) 8 = ((b * 256 : Nat) : Int) := by
      unfold shl; simp [IntKind.wrap, IntKind.bits, IntKind.signed]; omega
    rw [w1, w2, w3]
    unfold bor
    rw [show IntKind.bits .u16 = 16 from rfl, BitVec.ofInt_natCast, BitVec.ofInt_natCast, BitVec.toNat_or, BitVec.toNat_ofNat, BitVec.toNat_ofNat, Nat.mod_eq_of_lt (by omega), Nat.mod_eq_of_lt (by omega)]
    have : a ||| b * 256 = a + 256 * b := by
      rw [Nat.or_comm, show b * 256 = b <<< 8 by rw [Nat.shiftLeft_eq], ← Nat.shiftLeft_add_eq_or_of_lt ha, Nat.shiftLeft_eq]; omega
    rw [this]
    simp [IntKind.wrap, IntKind.bits, IntKind.signed]; omega
  unfold s16
  rw [key]
  simp [IntKind.wrap, IntKind.bits, IntKind.signed]; omega
theorem enc_smp {D : Nat} {xs : List Int} {t : Nat} (hD : D = 1 ∨ D = 2) (hb : By xs) (ht : (t + 1) * D ≤ xs.length) : xs.take (t * D) ++ encB D (smp D xs t) = xs.take ((t + 1) * D) := by
  have bd : ∀ i, i < xs.length → 0 ≤ xs.getD i 0 ∧ xs.getD i 0 ≤ 255 := fun i hi => hb _ (List.mem_of_getElem? (getD_some hi))
  rcases hD with rfl | rfl
  · rw [Nat.mul_one, Nat.mul_one] at *
    have b0 := bd t (by omega)
    have e : encB 1 (smp 1 xs t) = [xs.getD t 0] := by
      unfold encB smp
      rw [if_neg (by omega), if_neg (by omega)]
      generalize xs.getD t 0 = a at b0
      congr 1
      simp [IntKind.wrap, IntKind.bits, IntKind.signed]; omega
    rw [e]
    have hlt : t < xs.length := by omega
    rw [List.take_succ_eq_append_getElem hlt]
    congr 2
    rw [List.getD_eq_getElem?_getD, List.getElem?_eq_getElem hlt]; rfl
  · have b0 := bd (2 * t) (by omega)
    have b1 := bd (2 * t + 1) (by omega)
    have e : encB 2 (smp 2 xs t) = [xs.getD (2 * t) 0, xs.getD (2 * t + 1) 0] := by
      unfold encB smp
      rw [if_pos rfl, if_pos rfl, s16_eq b0 b1]
      generalize xs.getD (2 * t) 0 = a at b0
      generalize xs.getD (2 * t + 1) 0 = b at b1
      unfold shr
      rw [Int.fdiv_eq_ediv_of_nonneg _ (by omega)]
      congr 1
      · simp [IntKind.wrap, IntKind.bits, IntKind.signed]; omega
      · congr 1
        simp [IntKind.wrap, IntKind.bits, IntKind.signed]; omega
    rw [e]
    have h1 : 2 * t < xs.length := by omega
    have h2 : 2 * t + 1 < xs.length := by omega
    rw [show (t + 1) * 2 = 2 * t + 1 + 1 by omega, show t * 2 = 2 * t by omega, List.take_succ_eq_append_getElem h2, List.take_succ_eq_append_getElem h1, List.append_assoc]
    congr 1
    rw [List.getD_eq_getElem?_getD, List.getD_eq_getElem?_getD, List.getElem?_eq_getElem h1, List.getElem?_eq_getElem h2]; rfl
theorem jo_smp {D : Nat} {xs : List Int} (hD : D = 1 ∨ D = 2) (hb : By xs) : ∀ {t : Nat}, t * D ≤ xs.length → jo D (smp D xs) t = xs.take (t * D)
  | 0, _ => by simp [jo]
  | t + 1, h => by
    rw [jo, jo_smp hD hb (t := t) (by rw [Nat.succ_mul] at h; omega)]
    exact enc_smp hD hb h
end Go.Proofs.Ytmgcjihcbdgihaa.G
