/- What is restored out of fixed guesses, and that it is what was; numbers of even steps. -/
import Derived.Test.YtmgcjihcbdgihaaKh
set_option linter.unusedVariables false
set_option linter.unusedSimpArgs false
namespace Go.Proofs.Ytmgcjihcbdgihaa.G
open Go Go.Proofs.Ytmgcjihcbdgihaa.Vm Go.RowKit
/-- What is restored, up to place `k`. -/
def rstL (o : Nat) (xs : List Int) : Nat → List Int
  | 0 => []
  | k + 1 => rstL o xs k ++ [IntKind.wrap .i32 (xs.getD k 0 + gv o (rstL o xs k) k)]
theorem rstL_length (o : Nat) (xs : List Int) : ∀ k, (rstL o xs k).length = k
  | 0 => rfl
  | k + 1 => by rw [rstL, List.length_append, rstL_length o xs k]; rfl
theorem getD_app_left {xs ys : List Int} {i : Nat} (h : i < xs.length) : (xs ++ ys).getD i 0 = xs.getD i 0 := by
  rw [List.getD_eq_getElem?_getD, List.getD_eq_getElem?_getD, List.getElem?_append_left h]
theorem getD_app_self {xs : List Int} {v : Int} {i : Nat} (h : xs.length = i) : (xs ++ [v]).getD i 0 = v := by
  subst h
  rw [List.getD_eq_getElem?_getD, List.getElem?_append_right (Nat.le_refl _)]; simp
theorem rstL_getD {o : Nat} {xs : List Int} : ∀ {k i : Nat}, i < k → (rstL o xs k).getD i 0 = IntKind.wrap .i32 (xs.getD i 0 + gv o (rstL o xs i) i)
  | 0, i, h => by omega
  | k + 1, i, h => by
    rw [rstL]
    by_cases hi : i < k
    · rw [getD_app_left (by rw [rstL_length]; exact hi)]; exact rstL_getD hi
    · have : i = k := by omega
      subst this
      exact getD_app_self (rstL_length _ _ _)
theorem bef_congr {xs ys : List Int} {i j : Nat} (hj : 1 ≤ j) (h : ∀ k, k < i → xs.getD k 0 = ys.getD k 0) : bef xs i j = bef ys i j := by
  unfold bef
  split
  · rfl
  · exact h _ (by omega)
theorem gv_congr {xs ys : List Int} {o i : Nat} (h : ∀ k, k < i → xs.getD k 0 = ys.getD k 0) : gv o xs i = gv o ys i := by
  unfold gv
  rw [bef_congr (j := 1) (by omega) h, bef_congr (j := 2) (by omega) h, bef_congr (j := 3) (by omega) h]
theorem take_getD {xs : List Int} {i k : Nat} (h : i < k) : (xs.take k).getD i 0 = xs.getD i 0 := by
  rw [List.getD_eq_getElem?_getD, List.getD_eq_getElem?_getD, List.getElem?_take, if_pos h]
theorem w32_back {x g : Int} (h : -2147483648 ≤ x ∧ x ≤ 2147483647) : IntKind.wrap .i32 (IntKind.wrap .i32 (x - g) + g) = x := by
  simp only [w32_eq]; omega
theorem w32_back2 {x g : Int} (h : -2147483648 ≤ x ∧ x ≤ 2147483647) : IntKind.wrap .i32 (IntKind.wrap .i32 (x + g) - g) = x := by
  simp only [w32_eq]; omega
theorem I32.get {xs : List Int} (h : I32 xs) {i : Nat} (hi : i < xs.length) : -2147483648 ≤ xs.getD i 0 ∧ xs.getD i 0 ≤ 2147483647 := h _ (List.mem_of_getElem? (getD_some hi))
theorem rst_res_take {o : Nat} {xs : List Int} (h : I32 xs) : ∀ k, k ≤ xs.length → rstL o (resL o xs) k = xs.take k
  | 0, _ => by rw [List.take_zero]; rfl
  | k + 1, hk => by
    rw [rstL, rst_res_take h k (by omega), resL_getD (by omega), gv_congr (xs := xs.take k) (ys := xs) fun j hj => take_getD hj, w32_back (h.get (by omega)), take_snoc (getD_some (by omega))]
theorem rst_res {o : Nat} {xs : List Int} (h : I32 xs) : rstL o (resL o xs) xs.length = xs := by
  rw [rst_res_take h _ (Nat.le_refl _), List.take_length]
theorem res_rst {o : Nat} {xs : List Int} (h : I32 xs) : resL o (rstL o xs xs.length) = xs := by
  refine list_eq (by rw [resL_length, rstL_length]) fun i hi => ?_
  rw [resL_length, rstL_length] at hi
  rw [resL_getD (by rw [rstL_length]; exact hi), rstL_getD hi, gv_congr (xs := rstL o xs xs.length) (ys := rstL o xs i) fun j hj => by rw [rstL_getD hj, rstL_getD (by omega)], w32_back2 (h.get hi)]
theorem rstL_i32 {o : Nat} {xs : List Int} : ∀ k, I32 (rstL o xs k)
  | 0 => fun x hx => by cases hx
  | k + 1 => fun x hx => by
    rw [rstL] at hx
    rcases List.mem_append.1 hx with h | h
    · exact rstL_i32 k x h
    · rw [List.mem_singleton.1 h]; exact w32_bd _
/-! ### Numbers of even steps -/
theorem getD_range {f : Nat → Int} {n i : Nat} (h : i < n) : ((List.range n).map f).getD i 0 = f i := by
  rw [List.getD_eq_getElem?_getD, List.getElem?_map, List.getElem?_range h]; rfl
def fl2 (a b : Int) (i : Nat) : Int := IntKind.wrap .i32 (a + IntKind.wrap .i32 (b * IntKind.wrap .i32 (i : Int)))
def fl3 (a b c : Int) : Nat → Int × Int
  | 0 => (a, b)
  | i + 1 => (IntKind.wrap .i32 ((fl3 a b c i).1 + (fl3 a b c i).2), IntKind.wrap .i32 ((fl3 a b c i).2 + c))
theorem bef_ge {xs : List Int} {i j : Nat} (h : j ≤ i) : bef xs i j = xs.getD (i - j) 0 := by unfold bef; rw [if_neg (by omega)]
theorem flat_one {a : Int} {n i : Nat} (h1 : 1 ≤ i) (h : i < n) : (resL 1 ((List.range n).map fun _ => a)).getD i 0 = 0 := by
  rw [resL_getD (by simpa using h), show gv 1 ((List.range n).map fun _ => a) i = bef ((List.range n).map fun _ => a) i 1 from rfl, bef_ge h1, getD_range h, getD_range (by omega)]
  simp [w32_eq]
theorem flat_two {a b : Int} {n i : Nat} (h1 : 2 ≤ i) (h : i < n) (hn : n < 300) : (resL 2 ((List.range n).map (fl2 a b))).getD i 0 = 0 := by
  rw [resL_getD (by simpa using h), show ∀ xs, gv 2 xs i = IntKind.wrap .i32 (IntKind.wrap .i32 (2 * bef xs i 1) - bef xs i 2) from fun _ => rfl, bef_ge (by omega), bef_ge h1, getD_range h, getD_range (by omega), getD_range (by omega)]
  obtain ⟨j, rfl⟩ : ∃ j, i = j + 2 := ⟨i - 2, by omega⟩
  simp only [fl2, show j + 2 - 1 = j + 1 by omega, show j + 2 - 2 = j by omega]
  rw [w32 (a := ((j + 2 : Nat) : Int)) (by omega) (by omega), w32 (a := ((j + 1 : Nat) : Int)) (by omega) (by omega), w32 (a := (j : Int)) (by omega) (by omega)]
  rw [show b * ((j + 2 : Nat) : Int) = b * (j : Int) + 2 * b by rw [show ((j + 2 : Nat) : Int) = (j : Int) + 2 by omega, Int.mul_add]; omega,
    show b * ((j + 1 : Nat) : Int) = b * (j : Int) + b by rw [show ((j + 1 : Nat) : Int) = (j : Int) + 1 by omega, Int.mul_add]; omega]
  generalize b * (j : Int) = t
  simp only [w32_eq]; omega
theorem flat_three {a b c : Int} {n i : Nat} (h1 : 3 ≤ i) (h : i < n) : (resL 3 ((List.range n).map fun i => (fl3 a b c i).1)).getD i 0 = 0 := by
  rw [resL_getD (by simpa using h), show ∀ xs, gv 3 xs i = IntKind.wrap .i32 (IntKind.wrap .i32 (IntKind.wrap .i32 (3 * bef xs i 1) - IntKind.wrap .i32 (3 * bef xs i 2)) + bef xs i 3) from fun _ => rfl,
    bef_ge (by omega), bef_ge (by omega), bef_ge h1, getD_range h, getD_range (by omega), getD_range (by omega), getD_range (by omega)]
  obtain ⟨j, rfl⟩ : ∃ j, i = j + 3 := ⟨i - 3, by omega⟩
  rw [show j + 3 - 1 = j + 2 by omega, show j + 3 - 2 = j + 1 by omega, show j + 3 - 3 = j by omega]
  simp only [fl3]
  generalize (fl3 a b c j).1 = v
  generalize (fl3 a b c j).2 = s
  simp only [w32_eq]; omega
end Go.Proofs.Ytmgcjihcbdgihaa.G
