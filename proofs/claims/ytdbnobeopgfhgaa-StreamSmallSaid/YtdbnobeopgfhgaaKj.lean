/- The chances of a place, all of them: what is to be computed, and what follows. -/
import Derived.Test.YtdbnobeopgfhgaaKi
set_option linter.unusedVariables false
set_option linter.unusedSimpArgs false
namespace Go.Proofs.Ytdbnobeopgfhgaa.G
open Go Go.Proofs.Ytdbnobeopgfhgaa.Vm Go.RowKit
def qN (bit p : Int) : Nat := bif bit == 0 then (4096 - p).toNat else p.toNat
def PF (lv : Nat) (bit : Int) (z : Bool) (g1 g2 : Int) : Nat → Nat
  | 0 => 1
  | n + 1 => PF lv bit z g1 g2 n * qN bit (chF lv (SqF lv bit z g1 g2 n).1 (SqF lv bit z g1 g2 n).2.1 (SqF lv bit z g1 g2 n).2.2)
def w1C (w : Int) : Bool := ltI w 16777217 && ltI (-16777217) w
def w4C : List Int → Bool
  | [w0, w1, w2, w3] => w1C w0 && w1C w1 && w1C w2 && w1C w3
  | _ => false
def tds (lv : Nat) (s : Pv × Int × Int) : Int := toldF (x0F s.1.a) (x0F s.2.1) (x2F lv s.2.2) s.1.W
def farC (lv : Nat) (bit : Int) (s : Pv × Int × Int) : Bool :=
  (nxF s.1.a bit 16 == s.1.a) && (bif Nat.beq lv 0 then Nat.ble 4060 (qN bit (cvF s.1.a)) else
  ((nxF s.2.1 bit 16 == s.2.1) && ((!Nat.beq lv 2 || nxF s.2.2 bit 8 == s.2.2) && (w4C s.1.W && (s.1.T.all (fun v => !ltI v 0 && !ltI 65535 v) &&
  (bif bit == 0 then (!ltI 0 (x0F s.1.a) && (!ltI 0 (x0F s.2.1) && (!ltI 0 (x2F lv s.2.2) && (!ltI 100 (tds lv s) && (List.range 100).all (fun j => ltI (tds lv s) (.ofNat (j + 1)) || !ltI 147 (.ofNat (j + 1) + 3 * sT s.1.T (.ofNat (j + 1))))))))
  else (!ltI (x0F s.1.a) 0 && (!ltI (x0F s.2.1) 0 && (!ltI (x2F lv s.2.2) 0 && (!ltI (tds lv s) 3996 && (List.range 100).all (fun j => ltI (.ofNat (4095 - j)) (tds lv s) || !ltI (.ofNat (4095 - j) + 3 * sT s.1.T (.ofNat (4095 - j))) 16240)))))))))))
theorem nlt {a b : Int} (h : (!ltI a b) = true) : b ≤ a := by
  rw [← ltI_eq] at h
  have := of_decide_eq_false (by simpa using h : decide (a < b) = false)
  omega
theorem ylt {a b : Int} (h : ltI a b = true) : a < b := by
  rw [← ltI_eq] at h
  exact of_decide_eq_true h
theorem w4C_ok {W : List Int} (h : w4C W = true) : ∃ w0 w1 w2 w3, W = [w0, w1, w2, w3] ∧ w0.natAbs ≤ 16777216 ∧ w1.natAbs ≤ 16777216 ∧ w2.natAbs ≤ 16777216 ∧ w3.natAbs ≤ 16777216 := by
  have one : ∀ w, w1C w = true → w.natAbs ≤ 16777216 := fun w h => by
    unfold w1C at h
    simp only [Bool.and_eq_true] at h
    have h1 := ylt h.1
    have h2 := ylt h.2
    omega
  match W, h with
  | [w0, w1, w2, w3], h =>
    unfold w4C at h
    simp only [Bool.and_eq_true] at h
    exact ⟨w0, w1, w2, w3, rfl, one _ h.1.1.1, one _ h.1.1.2, one _ h.1.2, one _ h.2⟩
theorem all_get {T : List Int} (h : T.all (fun v => !ltI v 0 && !ltI 65535 v) = true) (k : Nat) : 0 ≤ T.getD k 0 ∧ T.getD k 0 ≤ 65535 := by
  by_cases hk : k < T.length
  · have := List.all_eq_true.1 h (T.getD k 0) (by rw [List.getD_eq_getElem?_getD, List.getElem?_eq_getElem hk]; exact List.getElem_mem hk)
    simp only [Bool.and_eq_true] at this
    exact ⟨nlt this.1, nlt this.2⟩
  · rw [List.getD_eq_getElem?_getD, List.getElem?_eq_none (by omega)]; decide
theorem SqF_far (lv : Nat) (bit : Int) (z : Bool) (g1 g2 : Int) {n : Nat} (h : 2 ≤ n) : SqF lv bit z g1 g2 (n + 1) = (stF lv (SqF lv bit z g1 g2 n).1 (SqF lv bit z g1 g2 n).2.1 (SqF lv bit z g1 g2 n).2.2 bit, nxF (SqF lv bit z g1 g2 n).2.1 bit 16, nxF (SqF lv bit z g1 g2 n).2.2 bit 8) := by
  rw [SqF, beq_f (show n ≠ 0 by omega), beq_f (show n ≠ 1 by omega)]; rfl
theorem far_q {lv : Nat} {bit : Int} {z : Bool} {g1 g2 : Int} {R : Nat} (hb : bit = 0 ∨ bit = 1) (hR : 2 ≤ R) (h : farC lv bit (SqF lv bit z g1 g2 R) = true) (m : Nat) :
    4060 ≤ qN bit (chF lv (SqF lv bit z g1 g2 (R + m)).1 (SqF lv bit z g1 g2 (R + m)).2.1 (SqF lv bit z g1 g2 (R + m)).2.2) := by
  unfold farC at h
  simp only [Bool.and_eq_true] at h
  obtain ⟨fa, h⟩ := h
  have fa := eq_of_beq fa
  by_cases h0 : lv = 0
  · subst h0
    have h : Nat.ble 4060 (qN bit (cvF (SqF 0 bit z g1 g2 R).1.a)) = true := h
    have key : ∀ m, (SqF 0 bit z g1 g2 (R + m)).1.a = (SqF 0 bit z g1 g2 R).1.a := by
      intro m
      induction m with
      | zero => rfl
      | succ m ih =>
        rw [show R + (m + 1) = R + m + 1 by omega, SqF_far _ _ _ _ _ (by omega)]
        show nxF (SqF 0 bit z g1 g2 (R + m)).1.a bit 16 = _
        rw [ih]; exact fa
    show 4060 ≤ qN bit (cvF (SqF 0 bit z g1 g2 (R + m)).1.a)
    rw [key]
    exact Nat.le_of_ble_eq_true h
  · rw [beq_f h0, cond_false] at h
    simp only [Bool.and_eq_true, Bool.or_eq_true] at h
    obtain ⟨fb, fc, hw, hT, h⟩ := h
    have fb := eq_of_beq fb
    have fc : lv = 2 → nxF (SqF lv bit z g1 g2 R).2.2 bit 8 = (SqF lv bit z g1 g2 R).2.2 := fun e => by
      rcases fc with g | g
      · rw [e] at g; exact absurd g (by decide)
      · exact eq_of_beq g
    obtain ⟨w0, w1, w2, w3, ew, k0, k1, k2, k3⟩ := w4C_ok hw
    have hT := all_get hT
    have etd : tds lv (SqF lv bit z g1 g2 R) = sq (cl (lin (x0F (SqF lv bit z g1 g2 R).1.a) (x0F (SqF lv bit z g1 g2 R).2.1) (x2F lv (SqF lv bit z g1 g2 R).2.2) w0 w1 w2 w3 / 65536)) := by
      unfold tds
      rw [ew, told_val (x0_bd _) (x0_bd _) (x2_bd _ _) k0 k1 k2 k3]
    rcases hb with rfl | rfl
    · have h : (!ltI 0 (x0F (SqF lv 0 z g1 g2 R).1.a) && (!ltI 0 (x0F (SqF lv 0 z g1 g2 R).2.1) && (!ltI 0 (x2F lv (SqF lv 0 z g1 g2 R).2.2) && (!ltI 100 (tds lv (SqF lv 0 z g1 g2 R)) && (List.range 100).all (fun j => ltI (tds lv (SqF lv 0 z g1 g2 R)) (.ofNat (j + 1)) || !ltI 147 (.ofNat (j + 1) + 3 * sT (SqF lv 0 z g1 g2 R).1.T (.ofNat (j + 1)))))))) = true := h
      simp only [Bool.and_eq_true] at h
      obtain ⟨px, py, pu, ht, hall⟩ := h
      have px := nlt px
      have py := nlt py
      have pu := nlt pu
      have ht := nlt ht
      have hm : ∀ t, 1 ≤ t → t ≤ tds lv (SqF lv 0 z g1 g2 R) → t + 3 * sT (SqF lv 0 z g1 g2 R).1.T t ≤ 147 := fun t h1 h2 => by
        obtain ⟨j, rfl⟩ : ∃ j : Nat, t = ((j + 1 : Nat) : Int) := ⟨t.toNat - 1, by omega⟩
        have := List.all_eq_true.1 hall j (List.mem_range.2 (by omega))
        simp only [Bool.or_eq_true] at this
        rcases this with g | g
        · have := ylt g
          have e : (Int.ofNat (j + 1)) = ((j + 1 : Nat) : Int) := rfl
          omega
        · exact nlt g
      have key : ∀ m, Far0 lv (SqF lv 0 z g1 g2 R).1.a (SqF lv 0 z g1 g2 R).2.1 (SqF lv 0 z g1 g2 R).2.2 (tds lv (SqF lv 0 z g1 g2 R)) (SqF lv 0 z g1 g2 R).1.T (SqF lv 0 z g1 g2 (R + m)) := by
        intro m
        induction m with
        | zero => exact ⟨rfl, rfl, fun _ => rfl, ⟨w0, w1, w2, w3, ew, k0, k1, k2, k3, by rw [etd]; exact Int.le_refl _⟩, fun k => ⟨Int.le_refl _, (hT k).1⟩⟩
        | succ m ih =>
          rw [show R + (m + 1) = R + m + 1 by omega, SqF_far _ _ _ _ _ (by omega)]
          exact ih.step h0 fa fb fc px py pu fun k => (hT k).2
      have := (key m).q h0 hT hm
      show 4060 ≤ (4096 - chF lv (SqF lv 0 z g1 g2 (R + m)).1 (SqF lv 0 z g1 g2 (R + m)).2.1 (SqF lv 0 z g1 g2 (R + m)).2.2).toNat
      omega
    · have h : (!ltI (x0F (SqF lv 1 z g1 g2 R).1.a) 0 && (!ltI (x0F (SqF lv 1 z g1 g2 R).2.1) 0 && (!ltI (x2F lv (SqF lv 1 z g1 g2 R).2.2) 0 && (!ltI (tds lv (SqF lv 1 z g1 g2 R)) 3996 && (List.range 100).all (fun j => ltI (.ofNat (4095 - j)) (tds lv (SqF lv 1 z g1 g2 R)) || !ltI (.ofNat (4095 - j) + 3 * sT (SqF lv 1 z g1 g2 R).1.T (.ofNat (4095 - j))) 16240))))) = true := h
      simp only [Bool.and_eq_true] at h
      obtain ⟨px, py, pu, ht, hall⟩ := h
      have px := nlt px
      have py := nlt py
      have pu := nlt pu
      have ht := nlt ht
      have hm : ∀ t, tds lv (SqF lv 1 z g1 g2 R) ≤ t → t ≤ 4095 → 16240 ≤ t + 3 * sT (SqF lv 1 z g1 g2 R).1.T t := fun t h1 h2 => by
        obtain ⟨j, rfl⟩ : ∃ j : Nat, t = ((4095 - j : Nat) : Int) := ⟨4095 - t.toNat, by omega⟩
        have hj : j < 100 ∨ 4095 < j := by omega
        rcases hj with hj | hj
        · have := List.all_eq_true.1 hall j (List.mem_range.2 hj)
          simp only [Bool.or_eq_true] at this
          rcases this with g | g
          · have := ylt g
            have e : (Int.ofNat (4095 - j)) = ((4095 - j : Nat) : Int) := rfl
            omega
          · exact nlt g
        · omega
      have key : ∀ m, Far1 lv (SqF lv 1 z g1 g2 R).1.a (SqF lv 1 z g1 g2 R).2.1 (SqF lv 1 z g1 g2 R).2.2 (tds lv (SqF lv 1 z g1 g2 R)) (SqF lv 1 z g1 g2 R).1.T (SqF lv 1 z g1 g2 (R + m)) := by
        intro m
        induction m with
        | zero => exact ⟨rfl, rfl, fun _ => rfl, ⟨w0, w1, w2, w3, ew, k0, k1, k2, k3, by rw [etd]; exact Int.le_refl _⟩, fun k => ⟨Int.le_refl _, (hT k).2⟩⟩
        | succ m ih =>
          rw [show R + (m + 1) = R + m + 1 by omega, SqF_far _ _ _ _ _ (by omega)]
          exact ih.step h0 fa fb fc px py pu fun k => (hT k).1
      have := (key m).q h0 hT hm
      show 4060 ≤ (chF lv (SqF lv 1 z g1 g2 (R + m)).1 (SqF lv 1 z g1 g2 (R + m)).2.1 (SqF lv 1 z g1 g2 (R + m)).2.2).toNat
      omega
/-- How many rounds are computed. -/
def Rn (lv : Nat) : Nat := bif Nat.beq lv 1 then 400 else 135
def smC (lv : Nat) (bit : Int) (z : Bool) (g1 g2 : Int) : Bool := Nat.ble (4096 ^ Rn lv) (2 ^ 37 * PF lv bit z g1 g2 (Rn lv)) && farC lv bit (SqF lv bit z g1 g2 (Rn lv))
theorem pow_near2 : ∀ m, m ≤ 1865 → 4096 ^ m ≤ 2 ^ 24 * 4060 ^ m := by
  intro k hk
  have big : (4096 : Nat) ^ 1865 ≤ 2 ^ 24 * 4060 ^ 1865 := by decide +kernel
  obtain ⟨m, hm⟩ : ∃ m, 1865 = k + m := ⟨1865 - k, by omega⟩
  rw [hm, Nat.pow_add, Nat.pow_add] at big
  refine Nat.le_of_mul_le_mul_right (c := 4096 ^ m) ?_ (Nat.pow_pos (by omega))
  refine Nat.le_trans big ?_
  rw [← Nat.mul_assoc]
  exact Nat.mul_le_mul_left _ (Nat.pow_le_pow_left (by omega) m)
theorem Rn_bd (lv : Nat) : 2 ≤ Rn lv ∧ 135 ≤ Rn lv ∧ Rn lv ≤ 400 := by
  unfold Rn; cases Nat.beq lv 1 <;> decide
theorem PF_low {lv : Nat} {bit : Int} {z : Bool} {g1 g2 : Int} (hb : bit = 0 ∨ bit = 1) (h : smC lv bit z g1 g2 = true) {n : Nat} (h1 : 400 ≤ n) (h2 : n < 2000) : 4096 ^ n ≤ 2 ^ 61 * PF lv bit z g1 g2 n := by
  unfold smC at h
  simp only [Bool.and_eq_true] at h
  have h0 := Nat.le_of_ble_eq_true h.1
  have hR := Rn_bd lv
  obtain ⟨m, rfl⟩ : ∃ m, n = Rn lv + m := ⟨n - Rn lv, by omega⟩
  have key : ∀ m, PF lv bit z g1 g2 (Rn lv) * 4060 ^ m ≤ PF lv bit z g1 g2 (Rn lv + m) := by
    intro m
    induction m with
    | zero => rw [Nat.pow_zero, Nat.mul_one]; exact Nat.le_refl _
    | succ m ih =>
      rw [Nat.pow_succ, ← Nat.mul_assoc]
      exact Nat.mul_le_mul ih (far_q hb hR.1 h.2 m)
  have n2 := pow_near2 m (by omega)
  rw [Nat.pow_add]
  generalize PF lv bit z g1 g2 (Rn lv) = P at *
  calc 4096 ^ Rn lv * 4096 ^ m ≤ 2 ^ 37 * P * (2 ^ 24 * 4060 ^ m) := Nat.mul_le_mul h0 n2
    _ = 2 ^ 37 * 2 ^ 24 * (P * 4060 ^ m) := by ac_rfl
    _ ≤ 2 ^ 37 * 2 ^ 24 * PF lv bit z g1 g2 (Rn lv + m) := Nat.mul_le_mul_left _ (key m)
    _ = 2 ^ 61 * PF lv bit z g1 g2 (Rn lv + m) := by rw [← Nat.pow_add]
theorem sm_0 : (smC 0 0 false 32768 32768 && smC 0 1 false 32768 32768 && smC 0 0 true 32768 32768) = true := by decide +kernel
end Go.Proofs.Ytdbnobeopgfhgaa.G
