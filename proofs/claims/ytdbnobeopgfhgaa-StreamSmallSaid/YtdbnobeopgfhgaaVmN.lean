/- More of reading: what was read before the call reads so still. No statement of the seat is in this text. -/
import Derived.Test.YtdbnobeopgfhgaaVmM
set_option linter.unusedVariables false
set_option linter.unusedSimpArgs false
namespace Go.Proofs.Ytdbnobeopgfhgaa.Vm
open Go Go.RowKit
theorem below_cell {W w : World} {p : Addr} {v : Value} (b : Below W.heap.size W w) (h : W.cell? p = some v) : w.cell? p = some v := by
  rw [b.cell (block_lt h)]; exact h
theorem chg_cell {S : Nat → Prop} {w w' : World} {p : Addr} {v : Value} (c : Chg S w w') (h : w.cell? p = some v) (hn : ¬ S p.block) : w'.cell? p = some v := by
  rw [World.cell?_of_block (c.block p.block (block_lt h) hn)]; exact h
theorem below_chg {S : Nat → Prop} {a b c : World} {B : Nat} (h : Below B a b) (g : Chg S b c) (hB : B ≤ b.heap.size) (hs : ∀ k, S k → B ≤ k) : Below B a c := h.trans (g.below hB hs)
theorem below_no {a b c : World} {B : Nat} (h : Below B a b) (g : Chg no b c) (hB : B ≤ b.heap.size) : Below B a c := h.trans (g.below hB fun _ h => h.elim)
theorem SlI.below {k : IntKind} {W w : World} {a : Option Addr} {xs : List Int} (h : SlI k W a xs) (b : Below W.heap.size W w) : SlI k w a xs := h.ext b
theorem SlI.ldI {k : IntKind} {w : World} {a : Option Addr} {xs : List Int} {i : Nat} {K : Int → Prop} {p : Addr} (h : SlI k w a xs) (hp : a = some p) (hi : i < xs.length) (hk : K xs[i]) : ldI k (p.add i) w K := by
  obtain ⟨q, hq, hc⟩ := h i hi
  rw [hq] at hp; cases hp
  exact ldI_of hc hk
theorem SlI.some {k : IntKind} {w : World} {a : Option Addr} {xs : List Int} (h : SlI k w a xs) (hx : 0 < xs.length) : ∃ p, a = Option.some p := by
  obtain ⟨p, hp, _⟩ := h 0 hx
  exact ⟨p, hp⟩
/-- A slice of rows of cells, each as long as an element is. -/
def SlR (sz : Nat) (w : World) (a : Option Addr) (L : List (List Value)) : Prop := ∀ i (hi : i < L.length), ∃ p, a = Option.some p ∧ L[i].length = sz ∧ ∀ j v, L[i][j]? = Option.some v → w.cell? ((p.add (i * sz)).add j) = Option.some v
theorem SlR.below {sz : Nat} {W w : World} {a : Option Addr} {L : List (List Value)} (h : SlR sz W a L) (b : Below W.heap.size W w) : SlR sz w a L := fun i hi => by
  obtain ⟨p, hp, hl, hc⟩ := h i hi
  exact ⟨p, hp, hl, fun j v hv => below_cell b (hc j v hv)⟩
theorem Fits.rows {w : World} {e : Sh} {sz by' : Nat} {a : Option Addr} {n c : Nat} (h : Fits w (.slc e sz by') [.slice a n c]) :
    n ≤ c ∧ c * by' ≤ 140737488351232 ∧ ∃ L : List (List Value), L.length = n ∧ SlR sz w a L ∧ ∀ l ∈ L, Fits w e l := by
  obtain ⟨h1, h2, L, h3, h4⟩ := h.elems
  refine ⟨h1, h2, L, h3, fun i hi => ?_, fun l hl => ?_⟩
  · obtain ⟨p, hp, hr, hl, _⟩ := h4 i hi
    refine ⟨p, hp, hl, fun j v hv => ?_⟩
    have := rdCs_get hr j v hv
    rwa [Nat.zero_add] at this
  · obtain ⟨i, hi, rfl⟩ := List.getElem_of_mem hl
    exact (h4 i hi).choose_spec.2.2.2
end Go.Proofs.Ytdbnobeopgfhgaa.Vm
