/- Arrays and structs that are handed in. No statement of the seat is in this text. -/
import Derived.Test.YtinmhmphidgdeaaVmM
set_option linter.unusedVariables false
set_option linter.unusedSimpArgs false
namespace Go.Proofs.Ytinmhmphidgdeaa.Vm
open Go Go.RowKit Go.ChangeShapes Go.WideShapes
section
variable {P : Program} {w : World} {r : Reach} {base : Nat} {t : TypeId} {v : Value}
theorem okWide_agg_arr {e : TypeId} {n : Nat} (ht : P.underlying t = some (.array n e)) (h : Value.okWide P w r base t v) : ∃ cs : Array Value, v = .agg cs := by
  simp only [Value.okWide, ht] at h
  obtain ⟨cs, h1, _⟩ := h
  exact ⟨cs, h1⟩
theorem okWide_agg_st {fs : Array Field} (ht : P.underlying t = some (.struct fs)) (h : Value.okWide P w r base t v) : ∃ cs : Array Value, v = .agg cs := by
  obtain ⟨cs, h1, _⟩ := okWide_struct ht h
  exact ⟨cs, h1⟩
end
/-- An array of whole numbers that fits. -/
theorem Fits.arrI {w : World} {k : IntKind} {n : Nat} {cs : Array Value} (h : Fits w (.arr n 1 (.int k)) cs.toList) :
    ∃ xs : List Int, xs.length = n ∧ cs = (xs.map (Value.int k)).toArray ∧ ∀ x ∈ xs, (Lit.int k x).wf = true := by
  obtain ⟨hl, h⟩ := h
  have key : ∀ i, i < n → ∃ x : Int, cs.toList[i]? = some (.int k x) ∧ (Lit.int k x).wf = true := by
    intro i hi
    obtain ⟨x, hx, hw⟩ := h i hi
    refine ⟨x, ?_, hw⟩
    have := congrArg (fun l => l[0]?) hx
    simp only [Nat.mul_one] at this
    rw [List.getElem?_take, if_pos (by omega), List.getElem?_drop] at this
    simpa using this
  obtain ⟨f, hf⟩ := Go.Deep.choose_lt key
  refine ⟨(List.range n).map f, by simp, ?_, fun x hx => ?_⟩
  · apply Array.ext'
    apply List.ext_getElem?
    intro i
    by_cases hi : i < n
    · rw [(hf i hi).1]
      simp [List.getElem?_range hi]
    · rw [List.getElem?_eq_none (by omega), List.getElem?_eq_none (by simp; omega)]
  · obtain ⟨i, hi, rfl⟩ := List.mem_map.1 hx
    exact (hf i (List.mem_range.1 hi)).2
/-- The same, one by one. -/
theorem arrL4 {S : List Int} (h : S.length = 4) (k : IntKind) : (S.map (Value.int k)).toArray = #[(Value.int k (S.getD 0 0)), (Value.int k (S.getD 1 0)), (Value.int k (S.getD 2 0)), (Value.int k (S.getD 3 0))] := by
  match S, h with
  | [x0, x1, x2, x3], _ => rfl
theorem arrL12 {S : List Int} (h : S.length = 12) (k : IntKind) : (S.map (Value.int k)).toArray = #[(Value.int k (S.getD 0 0)), (Value.int k (S.getD 1 0)), (Value.int k (S.getD 2 0)), (Value.int k (S.getD 3 0)), (Value.int k (S.getD 4 0)), (Value.int k (S.getD 5 0)), (Value.int k (S.getD 6 0)), (Value.int k (S.getD 7 0)), (Value.int k (S.getD 8 0)), (Value.int k (S.getD 9 0)), (Value.int k (S.getD 10 0)), (Value.int k (S.getD 11 0))] := by
  match S, h with
  | [x0, x1, x2, x3, x4, x5, x6, x7, x8, x9, x10, x11], _ => rfl
/-- A struct of four whole numbers. -/
theorem Fits.st4 {w : World} {k : IntKind} {cs : Array Value} (h : Fits w (.st (.pair 1 (.int k) (.pair 1 (.int k) (.pair 1 (.int k) (.pair 1 (.int k) .unit))))) cs.toList) (hl : cs.size = 4) :
    ∃ a b c d : Int, cs = #[.int k a, .int k b, .int k c, .int k d] ∧ (Lit.int k a).wf = true ∧ (Lit.int k b).wf = true ∧ (Lit.int k c).wf = true ∧ (Lit.int k d).wf = true := by
  obtain ⟨l⟩ := cs
  match l, hl with
  | [x, y, z, u], _ =>
    obtain ⟨⟨a, ha, wa⟩, ⟨b, hb, wb⟩, ⟨c, hc, wc⟩, ⟨d, hd, wd⟩, _⟩ := h
    simp at ha hb hc hd
    subst ha hb hc hd
    exact ⟨a, b, c, d, rfl, wa, wb, wc, wd⟩
end Go.Proofs.Ytinmhmphidgdeaa.Vm
