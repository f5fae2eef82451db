/- How much a law's arguments hold, by their shape. No statement of the seat is proved in this text. -/
import Derived.Test.YtdbnobeopgfhgaaVmN
import Derived.Test.YtdbnobeopgfhgaaRows
set_option linter.unusedVariables false
set_option linter.unusedSimpArgs false
namespace Go.Proofs.Ytdbnobeopgfhgaa.Vm
open Go Go.RowKit Go.ChangeShapes Go.WideShapes
/-- Cells that fit a shape, and hold no more than so much. -/
def FitsN (w : World) : Sh → List Value → Nat → Prop
  | .slc e sz _, cs, N => ∃ a n c, cs = [.slice a n c] ∧ ∃ f : List Nat, f.length = n ∧ f.sum + 1 ≤ N ∧ ((a = none ∧ n = 0) ∨ ∃ p, a = some p ∧ ∀ i v, f[i]? = some v → ∃ cs', rdCs w (p.add (i * sz)) sz 0 = some cs' ∧ FitsN w e cs' v)
  | _, _, N => 1 ≤ N
theorem bulk_one {H : Type} (d : DataW H) : 1 ≤ Rows.uptoBulk d := by
  cases d with
  | lit l => cases l <;> simp [Rows.uptoBulk]
  | nil => simp [Rows.uptoBulk]
  | ptr d => simp [Rows.uptoBulk]
  | slice elems spare => simp [Rows.uptoBulk]
  | agg parts => simp [Rows.uptoBulk]
  | iface t d => simp [Rows.uptoBulk]
  | map entries => simp [Rows.uptoBulk]
  | held h => simp [Rows.uptoBulk]
theorem bulk_sum {H : Type} : ∀ l : List (DataW H), (l.map Rows.uptoBulk).sum = Rows.uptoBulkAll l
  | [] => by simp [Rows.uptoBulkAll]
  | d :: l => by simp only [List.map_cons, List.sum_cons, Rows.uptoBulkAll, bulk_sum l]
section
variable {H : Type} {enc : TypeId × Value → H} {P : Program} {w : World} {base : Nat} {held : Bool}
theorem fitsN_of : ∀ (sh : Sh) (t : TypeId) (n : Nat) (cs : List Value) (d : DataW H) (ps : List MemPlace), shOk P sh true t [] 0 = true → DataW.trod enc P w base (fun _ => true) held n t cs = some (d, ps) → FitsN w sh cs (Rows.uptoBulk d) := by
  intro sh
  induction sh with
  | slc e sz by' ih =>
    intro t n cs d ps hs h
    unfold shOk at hs
    split at hs
    · rename_i u hu
      simp only [Bool.and_eq_true, beq_iff_eq] at hs
      obtain ⟨⟨h1, h2⟩, h3⟩ := hs
      rcases DataW.trod_slice hu h with ⟨rfl, hx⟩ | ⟨a, len, cap, elems, rest, m, rfl, rfl, hx, hb, hl, hc, hlen, hel, hsp, hns⟩
      · exact ⟨none, 0, 0, rfl, [], rfl, bulk_one d, .inl ⟨rfl, rfl⟩⟩
      · obtain ⟨hx, _⟩ := Prod.mk.inj hx
        subst hx
        refine ⟨some a, len, cap, rfl, elems.map fun x => Rows.uptoBulk x.1, by simpa using hlen, ?_, .inr ⟨a, rfl, fun i v hi => ?_⟩⟩
        · have := bulk_sum (elems.map (·.1))
          rw [List.map_map] at this
          simp only [Rows.uptoBulk]
          have e : (elems.map fun x => Rows.uptoBulk x.1) = elems.map (Rows.uptoBulk ∘ fun x => x.1) := rfl
          rw [e, this]; omega
        · rw [List.getElem?_map] at hi
          cases hx : elems[i]? with
          | none => rw [hx] at hi; cases hi
          | some x =>
            rw [hx] at hi
            simp only [Option.map_some, Option.some.injEq] at hi
            have hil : i < len := by rw [← hlen]; exact (List.getElem?_eq_some_iff.1 hx).1
            have he := hel i hil
            rw [hx] at he
            obtain ⟨cs', hcs, ht⟩ := Option.bind_eq_some_iff.1 he
            rw [h1] at hcs
            refine ⟨cs', (rdCs_cells hcs).2, ?_⟩
            rw [← hi]
            exact ih u m cs' x.1 x.2 h3 ht
    · cases hs
  | int k => intro t n cs d ps _ _; exact bulk_one d
  | bool => intro t n cs d ps _ _; exact bulk_one d
  | str => intro t n cs d ps _ _; exact bulk_one d
  | arr a b c _ => intro t n cs d ps _ _; exact bulk_one d
  | st f _ => intro t n cs d ps _ _; exact bulk_one d
  | unit => intro t n cs d ps _ _; exact bulk_one d
  | pair a b c _ _ => intro t n cs d ps _ _; exact bulk_one d
theorem fitsN_arg {sh : Sh} {t : TypeId} {v : Value} {d : DataW H} {ps : List MemPlace} (hs : shOk P sh true t [] 0 = true) (h : DataW.Trod enc P w base (fun _ => true) held t v d ps) : FitsN w sh v.cells.toList (Rows.uptoBulk d) := by
  obtain ⟨n, hn⟩ := h
  exact fitsN_of (enc := enc) (P := P) (base := base) (held := held) sh t n _ d ps hs hn
end
/-- A slice of whole numbers is no longer than it is heavy. -/
theorem FitsN.ints {w : World} {k : IntKind} {by' : Nat} {a : Option Addr} {n c N : Nat} (h : FitsN w (.slc (.int k) 1 by') [.slice a n c] N) : n + 1 ≤ N := by
  obtain ⟨a', n', c', he, f, hf, hs, h2⟩ := h
  cases he
  have key : ∀ (l : List Nat), (∀ (i v : Nat), l[i]? = Option.some v → 1 ≤ v) → l.length ≤ l.sum := by
    intro l
    induction l with
    | nil => intro _; simp
    | cons x l ih =>
      intro h
      have h0 := h 0 x rfl
      have := ih fun i v hv => h (i + 1) v (by simpa using hv)
      simp only [List.length_cons, List.sum_cons]; omega
  rcases h2 with ⟨rfl, rfl⟩ | ⟨p, rfl, h2⟩
  · omega
  · have := key f fun i v hv => by
      obtain ⟨cs', _, h⟩ := h2 i v hv
      exact h
    omega
end Go.Proofs.Ytdbnobeopgfhgaa.Vm
