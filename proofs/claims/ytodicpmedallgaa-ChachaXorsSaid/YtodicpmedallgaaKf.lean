/- The adaptive filter, as plain lists. -/
import Derived.Test.YtodicpmedallgaaXh
import Derived.Test.YtodicpmedallgaaVmR
set_option linter.unusedVariables false
set_option linter.unusedSimpArgs false
namespace Go.Proofs.Ytodicpmedallgaa.G
open Go Go.Proofs.Ytodicpmedallgaa.Vm Go.RowKit
theorem w32_eq (a : Int) : IntKind.wrap .i32 a = (a + 2147483648) % 4294967296 - 2147483648 := by
  simp [IntKind.wrap, IntKind.bits, IntKind.signed]
  split <;> omega
theorem w32 {a : Int} (h0 : -2147483648 ≤ a) (h1 : a ≤ 2147483647) : IntKind.wrap .i32 a = a := by
  simp [IntKind.wrap, IntKind.bits, IntKind.signed]; omega
theorem w32_bd (a : Int) : -2147483648 ≤ IntKind.wrap .i32 a ∧ IntKind.wrap .i32 a ≤ 2147483647 := by rw [w32_eq]; omega
theorem getD_some {xs : List Int} {i : Nat} (h : i < xs.length) : xs[i]? = some (xs.getD i 0) := by
  rw [List.getD_eq_getElem?_getD, List.getElem?_eq_getElem h]; rfl
/-- Whole numbers of 32 bits. -/
def I32 (xs : List Int) : Prop := ∀ x ∈ xs, -2147483648 ≤ x ∧ x ≤ 2147483647
theorem I32.of {xs : List Int} (h : ∀ x ∈ xs, (Lit.int .i32 x).wf = true) : I32 xs := fun x hx => by
  have := h x hx
  simp [Lit.wf, IntKind.min, IntKind.max, IntKind.bits, IntKind.signed] at this
  omega
theorem I32.get {xs : List Int} (h : I32 xs) {i : Nat} (hi : i < xs.length) : -2147483648 ≤ xs.getD i 0 ∧ xs.getD i 0 ≤ 2147483647 := h _ (List.mem_of_getElem? (getD_some hi))
/-- A number's sign. -/
def sg (x : Int) : Int := if x > 0 then 1 else if x < 0 then -1 else 0
theorem sg_bd (x : Int) : sg x = 1 ∨ sg x = -1 ∨ sg x = 0 := by unfold sg; (repeat' split) <;> simp
/-- A filter's state: weights, and the last numbers. -/
structure Fst where
  ws : List Int
  ls : List Int
/-- Behind `t` numbers. -/
structure Fok (t : Nat) (s : Fst) : Prop where
  wl : s.ws.length = 8
  ll : s.ls.length = 8
  wb : ∀ x ∈ s.ws, -(t : Int) ≤ x ∧ x ≤ t
  lb : I32 s.ls
def dotN (s : Fst) : Nat → Int
  | 0 => 0
  | k + 1 => IntKind.wrap .i64 (dotN s k + IntKind.wrap .i64 (s.ws.getD k 0 * s.ls.getD k 0))
/-- What is guessed. -/
def lG (s : Fst) : Int := IntKind.wrap .i32 (shr .i64 (dotN s 8) 8)
def lW (s : Fst) (v : Int) (k : Nat) : Int := s.ws.getD k 0 + sg (IntKind.wrap .i32 (v - lG s)) * sg (s.ls.getD k 0)
/-- Behind a number. -/
def lL (s : Fst) (v : Int) : Fst := ⟨(List.range 8).map (lW s v), v :: s.ls.take 7⟩
def f0 : Fst := ⟨List.replicate 8 0, List.replicate 8 0⟩
theorem Fok.zero : Fok 0 f0 := ⟨rfl, rfl, fun x hx => by have := (List.mem_replicate.1 hx).2; omega, fun x hx => by have := (List.mem_replicate.1 hx).2; omega⟩
theorem Fok.w {t : Nat} {s : Fst} (h : Fok t s) (k : Nat) : -(t : Int) ≤ s.ws.getD k 0 ∧ s.ws.getD k 0 ≤ t := by
  by_cases hk : k < s.ws.length
  · exact h.wb _ (List.mem_of_getElem? (getD_some hk))
  · rw [List.getD_eq_getElem?_getD, List.getElem?_eq_none (by omega)]; simp only [Option.getD_none]; omega
theorem Fok.l {t : Nat} {s : Fst} (h : Fok t s) (k : Nat) : -2147483648 ≤ s.ls.getD k 0 ∧ s.ls.getD k 0 ≤ 2147483647 := by
  by_cases hk : k < s.ls.length
  · exact h.lb _ (List.mem_of_getElem? (getD_some hk))
  · rw [List.getD_eq_getElem?_getD, List.getElem?_eq_none (by omega)]; simp only [Option.getD_none]; omega
theorem sg_mul (a b : Int) : -1 ≤ sg a * sg b ∧ sg a * sg b ≤ 1 := by
  rcases sg_bd a with h | h | h <;> rcases sg_bd b with g | g | g <;> rw [h, g] <;> omega
theorem Fok.step {t : Nat} {s : Fst} {v : Int} (h : Fok t s) (hv : -2147483648 ≤ v ∧ v ≤ 2147483647) : Fok (t + 1) (lL s v) := by
  refine ⟨by simp [lL], by simp [lL, h.ll], fun x hx => ?_, fun x hx => ?_⟩
  · obtain ⟨k, _, rfl⟩ := List.mem_map.1 hx
    have := h.w k
    have := sg_mul (IntKind.wrap .i32 (v - lG s)) (s.ls.getD k 0)
    unfold lW
    omega
  · rcases List.mem_cons.1 hx with rfl | hx
    · exact hv
    · exact h.lb x (List.mem_of_mem_take hx)
theorem lG_bd (s : Fst) : -2147483648 ≤ lG s ∧ lG s ≤ 2147483647 := w32_bd _
/-- What is left of numbers. -/
def lRes : Fst → List Int → List Int
  | _, [] => []
  | s, v :: l => IntKind.wrap .i32 (v - lG s) :: lRes (lL s v) l
/-- What numbers are left of. -/
def lRst : Fst → List Int → List Int
  | _, [] => []
  | s, v :: l => IntKind.wrap .i32 (v + lG s) :: lRst (lL s (IntKind.wrap .i32 (v + lG s))) l
theorem lRes_length : ∀ (l : List Int) (s : Fst), (lRes s l).length = l.length
  | [], _ => rfl
  | v :: l, s => by rw [lRes, List.length_cons, lRes_length l]; rfl
theorem lRst_length : ∀ (l : List Int) (s : Fst), (lRst s l).length = l.length
  | [], _ => rfl
  | v :: l, s => by rw [lRst, List.length_cons, lRst_length l]; rfl
theorem w32_back {x g : Int} (h : -2147483648 ≤ x ∧ x ≤ 2147483647) : IntKind.wrap .i32 (IntKind.wrap .i32 (x - g) + g) = x := by
  simp only [w32_eq]; omega
theorem w32_back2 {x g : Int} (h : -2147483648 ≤ x ∧ x ≤ 2147483647) : IntKind.wrap .i32 (IntKind.wrap .i32 (x + g) - g) = x := by
  simp only [w32_eq]; omega
theorem lRst_Res : ∀ (l : List Int) (s : Fst), I32 l → lRst s (lRes s l) = l
  | [], _, _ => rfl
  | v :: l, s, h => by
    rw [lRes, lRst, w32_back (h v List.mem_cons_self), lRst_Res l _ fun x hx => h x (List.mem_cons_of_mem _ hx)]
theorem lRes_Rst : ∀ (l : List Int) (s : Fst), I32 l → lRes s (lRst s l) = l
  | [], _, _ => rfl
  | v :: l, s, h => by
    rw [lRst, lRes, w32_back2 (h v List.mem_cons_self), lRes_Rst l _ fun x hx => h x (List.mem_cons_of_mem _ hx)]
theorem lRes_take : ∀ (l : List Int) (s : Fst) (k : Nat), lRes s (l.take k) = (lRes s l).take k
  | [], _, k => by simp [lRes]
  | v :: l, s, 0 => by simp [lRes]
  | v :: l, s, k + 1 => by rw [List.take_succ_cons, lRes, lRes, List.take_succ_cons, lRes_take l]
theorem lRes_i32 : ∀ (l : List Int) (s : Fst), I32 (lRes s l)
  | [], _ => fun x hx => by cases hx
  | v :: l, s => fun x hx => by
    rw [lRes] at hx
    rcases List.mem_cons.1 hx with rfl | hx
    · exact w32_bd _
    · exact lRes_i32 l _ x hx
theorem lRst_i32 : ∀ (l : List Int) (s : Fst), I32 (lRst s l)
  | [], _ => fun x hx => by cases hx
  | v :: l, s => fun x hx => by
    rw [lRst] at hx
    rcases List.mem_cons.1 hx with rfl | hx
    · exact w32_bd _
    · exact lRst_i32 l _ x hx
end Go.Proofs.Ytodicpmedallgaa.G
