/- Slices of slices of whole numbers that a law is handed. No statement of the seat is proved in this text. -/
import Derived.Test.YtdbnobeopgfhgaaVmU
import Derived.Test.YtdbnobeopgfhgaaVmR
set_option linter.unusedVariables false
set_option linter.unusedSimpArgs false
namespace Go.Proofs.Ytdbnobeopgfhgaa.Vm
open Go Go.RowKit
/-- The slice `a` of slices: their heads, and what they read. -/
structure SlS (k : IntKind) (w : World) (a : Option Addr) (hs : List Hdr) (L : List (List Int)) : Prop where
  len : hs.length = L.length
  head : ∀ (i : Nat) (h : Hdr), hs[i]? = Option.some h → ∃ p, a = Option.some p ∧ w.cell? (p.add i) = Option.some h.v
  row : ∀ (i : Nat) (h : Hdr) (l : List Int), hs[i]? = Option.some h → L[i]? = Option.some l → SlI k w h.1 l ∧ l.length = h.2.1
theorem SlS.chg {k : IntKind} {w w' : World} {a : Option Addr} {hs : List Hdr} {L : List (List Int)} (h : SlS k w a hs L) (hc : Chg no w w') : SlS k w' a hs L :=
  ⟨h.len, fun i g hg => by obtain ⟨p, hp, hc2⟩ := h.head i g hg; exact ⟨p, hp, chg_cell hc hc2 fun h => h⟩, fun i g l hg hl => ⟨(h.row i g l hg hl).1.chg hc fun _ _ _ h => h, (h.row i g l hg hl).2⟩⟩
theorem Fits.slices {w : World} {k : IntKind} {by' b2 : Nat} {a : Option Addr} {n c : Nat} (h : Fits w (.slc (.slc (.int k) 1 by') 1 b2) [.slice a n c]) :
    n ≤ c ∧ c * b2 ≤ 140737488351232 ∧ ∃ hs L, L.length = n ∧ SlS k w a hs L ∧ (∀ (i : Nat) (g : Hdr), hs[i]? = Option.some g → g.2.1 ≤ g.2.2 ∧ g.2.2 * by' ≤ 140737488351232) ∧ ∀ l ∈ L, ∀ x ∈ l, (Lit.int k x).wf = true := by
  obtain ⟨h1, h2, L, hL, h3⟩ := h.elems
  refine ⟨h1, h2, ?_⟩
  have key : ∀ i, i < n → ∃ q : Hdr × List Int, (∃ p, a = Option.some p ∧ w.cell? (p.add i) = Option.some q.1.v) ∧ SlI k w q.1.1 q.2 ∧ q.2.length = q.1.2.1 ∧ (q.1.2.1 ≤ q.1.2.2 ∧ q.1.2.2 * by' ≤ 140737488351232) ∧ ∀ x ∈ q.2, (Lit.int k x).wf = true := by
    intro i hi
    obtain ⟨p, hp, hr, hl, hf⟩ := h3 i (by omega)
    have hf2 := hf
    obtain ⟨a', n', c', he, _⟩ := hf
    rw [he] at hf2 hr
    obtain ⟨e1, e2, xs, hxl, hsl, hwf⟩ := hf2.ints
    rw [Nat.mul_one] at hr
    exact ⟨((a', n', c'), xs), ⟨p, hp, rdCs_one hr⟩, hsl, hxl, ⟨e1, e2⟩, hwf⟩
  obtain ⟨f, hf⟩ := Go.Deep.choose_lt key
  have gi : ∀ {α : Type} (g : Nat → α) (i : Nat) (v : α), ((List.range n).map g)[i]? = Option.some v → i < n ∧ v = g i := fun g i v hv => by
    rw [List.getElem?_map] at hv
    by_cases hi : i < n
    · rw [List.getElem?_range hi] at hv; exact ⟨hi, (Option.some.inj hv).symm⟩
    · rw [List.getElem?_eq_none (by simp; omega)] at hv; cases hv
  refine ⟨(List.range n).map fun i => (f i).1, (List.range n).map fun i => (f i).2, by simp, ⟨by simp, fun i g hg => ?_, fun i g l hg hl => ?_⟩, fun i g hg => ?_, fun l hl x hx => ?_⟩
  · obtain ⟨hi, rfl⟩ := gi _ i g hg; exact (hf i hi).1
  · obtain ⟨hi, rfl⟩ := gi _ i g hg
    obtain ⟨_, rfl⟩ := gi _ i l hl
    exact ⟨(hf i hi).2.1, (hf i hi).2.2.1⟩
  · obtain ⟨hi, rfl⟩ := gi _ i g hg; exact (hf i hi).2.2.2.1
  · obtain ⟨i, hi, rfl⟩ := List.mem_map.1 hl
    exact (hf i (List.mem_range.1 hi)).2.2.2.2 x hx
theorem FitsN.slices {w : World} {k : IntKind} {by' b2 : Nat} {a : Option Addr} {n c N : Nat} {hs : List Hdr} {L : List (List Int)} (h : FitsN w (.slc (.slc (.int k) 1 by') 1 b2) [.slice a n c] N) (hS : SlS k w a hs L) (hL : L.length = n) :
    (L.map List.length).sum + 1 ≤ N := by
  obtain ⟨a', n', c', he, f, hf, hsum, h2⟩ := h
  cases he
  have key : ∀ (f : List Nat) (L : List (List Int)), f.length = L.length → (∀ (i v : Nat) (l : List Int), f[i]? = Option.some v → L[i]? = Option.some l → l.length ≤ v) → (L.map List.length).sum ≤ f.sum := by
    intro f
    induction f with
    | nil => intro L hl _; cases L with
      | nil => simp
      | cons x L => simp at hl
    | cons v f ih =>
      intro L hl hh
      cases L with
      | nil => simp at hl
      | cons l L =>
        have h0 := hh 0 v l rfl rfl
        have := ih L (by simpa using hl) fun i v l hv hl => hh (i + 1) v l (by simpa using hv) (by simpa using hl)
        simp only [List.map_cons, List.sum_cons]; omega
  have := key f L (by omega) fun i v l hv hl => by
    rcases h2 with ⟨rfl, h0⟩ | ⟨p, rfl, h2⟩
    · have := (List.getElem?_eq_some_iff.1 hl).1; omega
    · obtain ⟨cs', hr, hN⟩ := h2 i v hv
      have hi : i < hs.length := by rw [hS.len]; exact (List.getElem?_eq_some_iff.1 hl).1
      have hg : hs[i]? = Option.some hs[i] := List.getElem?_eq_getElem hi
      obtain ⟨q, hq, hc⟩ := hS.head i _ hg
      cases hq
      obtain ⟨a2, n2, c2, e2, _⟩ := id hN
      subst e2
      rw [Nat.mul_one] at hr
      have := rdCs_one hr
      rw [hc] at this
      have e3 := Option.some.inj this
      unfold Hdr.v at e3
      injection e3 with e4 e5 e6
      have := hN.ints
      rw [(hS.row i _ l hg hl).2, e5]
      omega
  omega
end Go.Proofs.Ytdbnobeopgfhgaa.Vm
