/- Steps of differences: guessing of the second and third order is guessing of the first, again and again. Conditions: those of the given row. -/
import Derived.Test.YtmgcjihcbdgihaaKg
import Derived.Test.YtmgcjihcbdgihaaGenLawFixedSteps
set_option linter.unusedVariables false
set_option linter.unusedSimpArgs false
namespace Go.Proofs.Ytmgcjihcbdgihaa.G
open Go Go.Proofs.Ytmgcjihcbdgihaa.Vm Go.RowKit
theorem w32_eq (a : Int) : IntKind.wrap .i32 a = (a + 2147483648) % 4294967296 - 2147483648 := by
  simp [IntKind.wrap, IntKind.bits, IntKind.signed]
  split <;> omega
/-- Whole numbers of 32 bits. -/
def I32 (xs : List Int) : Prop := ∀ x ∈ xs, -2147483648 ≤ x ∧ x ≤ 2147483647
theorem I32.of {xs : List Int} (h : ∀ x ∈ xs, (Lit.int .i32 x).wf = true) : I32 xs := fun x hx => by
  have := h x hx
  simp [Lit.wf, IntKind.min, IntKind.max, IntKind.bits, IntKind.signed] at this
  omega
theorem w32_bd (a : Int) : -2147483648 ≤ IntKind.wrap .i32 a ∧ IntKind.wrap .i32 a ≤ 2147483647 := by rw [w32_eq]; omega
theorem resL_i32 (o : Nat) (xs : List Int) : I32 (resL o xs) := fun x hx => by
  obtain ⟨i, _, rfl⟩ := List.mem_map.1 hx
  exact w32_bd _
theorem resL_getD {o i : Nat} {xs : List Int} (h : i < xs.length) : (resL o xs).getD i 0 = IntKind.wrap .i32 (xs.getD i 0 - gv o xs i) := by
  rw [List.getD_eq_getElem?_getD, resL_get h]; rfl
theorem list_eq {xs ys : List Int} (hl : xs.length = ys.length) (h : ∀ i, i < xs.length → xs.getD i 0 = ys.getD i 0) : xs = ys := by
  apply List.ext_getElem hl
  intro i h1 h2
  have := h i h1
  rw [List.getD_eq_getElem?_getD, List.getD_eq_getElem?_getD, List.getElem?_eq_getElem h1, List.getElem?_eq_getElem h2] at this
  exact this
theorem res_zero {xs : List Int} (h : I32 xs) : resL 0 xs = xs := by
  refine list_eq (resL_length _ _) fun i hi => ?_
  rw [resL_length] at hi
  rw [resL_getD hi]
  have := h (xs.getD i 0) (List.mem_of_getElem? (getD_some hi))
  rw [show gv 0 xs i = 0 from rfl, Int.sub_zero, w32 this.1 this.2]
theorem res_one (xs : List Int) : resL 1 (resL 1 xs) = resL 2 xs := by
  refine list_eq (by simp [resL_length]) fun i hi => ?_
  rw [resL_length, resL_length] at hi
  rw [resL_getD (by rw [resL_length]; exact hi), resL_getD hi, resL_getD hi]
  match i, hi with
  | 0, hi => simp only [gv, bef]; simp [w32_eq]
  | 1, hi =>
    have := resL_getD (o := 1) (i := 0) (xs := xs) (by omega)
    simp only [gv, bef] at this ⊢
    simp at this ⊢
    rw [this]
    simp only [w32_eq]; omega
  | i + 2, hi =>
    have := resL_getD (o := 1) (i := i + 1) (xs := xs) (by omega)
    simp only [gv, bef] at this ⊢
    simp at this ⊢
    rw [this]
    simp only [w32_eq]; omega
theorem res_two (xs : List Int) : resL 1 (resL 2 xs) = resL 3 xs := by
  refine list_eq (by simp [resL_length]) fun i hi => ?_
  rw [resL_length, resL_length] at hi
  rw [resL_getD (by rw [resL_length]; exact hi), resL_getD hi, resL_getD hi]
  match i, hi with
  | 0, hi => simp only [gv, bef]; simp [w32_eq]
  | 1, hi =>
    have := resL_getD (o := 2) (i := 0) (xs := xs) (by omega)
    simp only [gv, bef] at this ⊢
    simp at this ⊢
    rw [this]
    simp only [w32_eq]; omega
  | 2, hi =>
    have := resL_getD (o := 2) (i := 1) (xs := xs) (by omega)
    simp only [gv, bef] at this ⊢
    simp at this ⊢
    rw [this]
    simp only [w32_eq]; omega
  | i + 3, hi =>
    have := resL_getD (o := 2) (i := i + 2) (xs := xs) (by omega)
    simp only [gv, bef] at this ⊢
    simp at this ⊢
    rw [this]
    simp only [w32_eq]; omega
theorem law11_FixedSteps_said {a : Option Addr} {n c : Nat} {W : World} {K : Bool → World → Prop} (f : Fits W (.slc (.int .i32) 1 4) [.slice a n c])
    (hk : ∀ w', Below W.heap.size W w' → K true w') : law11_FixedSteps.f a n c W K := by
  obtain ⟨hnc, _, xs, hxl, hx, hwf⟩ := f.ints
  have hb := I32.of hwf
  unfold law11_FixedSteps.f
  refine cond_of (fun _ => law11_awake_ok fun w hc => hk w (below_no (Below.refl _ _) hc (Nat.le_refl _))) (fun h => ?_)
  have hn : n ≤ 3000 := by
    have : ¬ (n : Int) > 3000 := by simpa using h
    omega
  have o0 : ordr 0 = 0 := by decide
  have o1 : ordr 1 = 1 := by decide
  have o2 : ordr 2 = 2 := by decide
  have o3 : ordr 3 = 3 := by decide
  refine fixed_Residual_ok hx hxl (by omega) fun a1 c1 w1 h1 hc1 => ?_
  rw [o1] at h1
  refine fixed_Residual_ok h1.sl h1.length (by omega) fun a2 c2 w2 h2 hc2 => ?_
  rw [o1, res_one] at h2
  refine law11_awake_ok fun w3 hc3 => bif_t rfl ?_
  have k3 := (hc1.trans hc2).trans hc3
  refine fixed_Residual_ok (hx.chg k3 fun _ _ _ h => h) hxl (by omega) fun a4 c4 w4 h4 hc4 => ?_
  rw [o0, res_zero hb] at h4
  have k4 := k3.trans hc4
  refine help_Plain_int32_ok h4.sl (hx.chg k4 fun _ _ _ h => h) hxl hxl (by omega) fun w5 hc5 => bif_t rfl ?_
  have k5 := k4.trans hc5
  refine fixed_Residual_ok (hx.chg k5 fun _ _ _ h => h) hxl (by omega) fun a6 c6 w6 h6 hc6 => ?_
  rw [o2] at h6
  have j6 := ((hc3.trans hc4).trans hc5).trans hc6
  refine help_Plain_int32_ok (h2.sl.chg j6 fun _ _ _ h => h) h6.sl h6.length h6.length (by omega) fun w7 hc7 => bif_t rfl ?_
  have j7 := j6.trans hc7
  refine fixed_Residual_ok (h2.sl.chg j7 fun _ _ _ h => h) h2.length (by omega) fun a8 c8 w8 h8 hc8 => ?_
  rw [o1, res_two] at h8
  have k8 := (((k5.trans hc6).trans hc7).trans hc8)
  refine fixed_Residual_ok (hx.chg k8 fun _ _ _ h => h) hxl (by omega) fun a9 c9 w9 h9 hc9 => ?_
  rw [o3] at h9
  exact help_Plain_int32_ok (h8.sl.chg hc9 fun _ _ _ h => h) h9.sl h9.length h9.length (by omega) fun w10 hc10 => hk _ (below_no (Below.refl _ _) ((k8.trans hc9).trans hc10) (Nat.le_refl _))
end Go.Proofs.Ytmgcjihcbdgihaa.G
