/- What a law's arguments are, told by their shape: a shape that fits a type, and cells that fit a shape. No statement of the seat is in this text. -/
import Derived.Test.YtdbnobeopgfhgaaVmK
import Derived.ChangeArms
import Derived.WideReads
import Derived.SizedLaws
import Derived.Deep.Slices
set_option linter.unusedVariables false
set_option linter.unusedSimpArgs false
namespace Go.Proofs.Ytdbnobeopgfhgaa.Vm
open Go Go.RowKit Go.ChangeShapes Go.WideShapes

/-- Shapes: `st` is a struct, its fields a chain of `pair`s that ends in `unit`; `pair n a b`: the first n cells are an `a`. -/
inductive Sh where
  | int (k : IntKind) | bool | str
  | slc (e : Sh) (size bytes : Nat)
  | arr (n size : Nat) (e : Sh)
  | st (f : Sh)
  | unit
  | pair (n : Nat) (a b : Sh)
/-- Cells that fit a shape. -/
def Fits (w : World) : Sh → List Value → Prop
  | .int k, cs => ∃ n, cs = [.int k n] ∧ (Lit.int k n).wf = true
  | .bool, cs => ∃ b, cs = [.bool b]
  | .str, cs => ∃ s, cs = [.string s] ∧ s.size ≤ 140737488351232
  | .slc e sz by', cs => ∃ a n c, cs = [.slice a n c] ∧ n ≤ c ∧ c * by' ≤ 140737488351232 ∧ ((a = none ∧ n = 0 ∧ c = 0) ∨ ∃ p, a = some p ∧ ∀ i, i < n → ∃ cs', cs'.length = sz ∧ rdCs w (p.add (i * sz)) sz 0 = some cs' ∧ Fits w e cs')
  | .arr n sz e, cs => cs.length = n * sz ∧ ∀ i, i < n → Fits w e ((cs.drop (i * sz)).take sz)
  | .st f, cs => Fits w f cs
  | .unit, _ => True
  | .pair n a b, cs => Fits w a (cs.take n) ∧ Fits w b (cs.drop n)
/-- A shape that fits a type (true), or a row of fields (false). -/
def shOk (P : Program) : Sh → Bool → TypeId → List Field → Nat → Bool
  | .int k, true, t, _, _ => match P.underlying t with | some (.int j) => kEq k j | _ => false
  | .bool, true, t, _, _ => match P.underlying t with | some .bool => true | _ => false
  | .str, true, t, _, _ => match P.underlying t with | some .string => true | _ => false
  | .slc e sz by', true, t, _, _ => match P.underlying t with | some (.slice u) => P.cellsOf u == sz && P.bytesOf u == by' && shOk P e true u [] 0 | _ => false
  | .arr n sz e, true, t, _, _ => match P.underlying t with | some (.array m u) => m == n && P.cellsOf u == sz && P.cellsOf t == n * sz && shOk P e true u [] 0 | _ => false
  | .st f, true, t, _, _ => match P.underlying t with | some (.struct fs) => shOk P f false 0 fs.toList 0 | _ => false
  | .unit, false, _, fs, _ => fs.isEmpty
  | .pair n a b, false, _, f :: fs, off => f.offset == off && P.cellsOf f.type == n && shOk P a true f.type [] 0 && shOk P b false 0 fs (off + n)
  | _, _, _, _, _ => false
section
variable {H : Type} {enc : TypeId × Value → H} {P : Program} {w : World} {base : Nat} {held : Bool}
theorem weightsAll_get {e : TypeId} : ∀ {l : List (DataW H)} {i : Nat} {d : DataW H}, l[i]? = some d → ∀ m ∈ d.weights P e, m ∈ DataW.weightsAll P e l
  | d0 :: l, 0, d, h, m, hm => by
    simp only [List.getElem?_cons_zero, Option.some.injEq] at h; subst h
    simp only [DataW.weightsAll, List.mem_append]; exact .inl hm
  | d0 :: l, i + 1, d, h, m, hm => by
    simp only [List.getElem?_cons_succ] at h
    simp only [DataW.weightsAll, List.mem_append]; exact .inr (weightsAll_get h m hm)
theorem rdCs_cells {a : Addr} {n : Nat} {cs : List Value} (h : w.cells? base a n = some cs) : cs.length = n ∧ rdCs w a n 0 = some cs := by
  obtain ⟨_, hl, hc⟩ := World.cells?_some h
  refine ⟨hl, ?_⟩
  rw [← hl]
  refine rdCs_of fun j v hj => ?_
  have hjl : j < cs.length := (List.getElem?_eq_some_iff.1 hj).1
  rw [Nat.zero_add, hc j (by omega), hj]
theorem trod_array {t e : TypeId} {n fuel : Nat} {cs : List Value} {x : DataW H × List MemPlace} (ht : P.underlying t = some (.array n e)) (h : DataW.trod enc P w base (fun _ => true) held fuel t cs = some x) :
    ∃ (xs : List (DataW H × List MemPlace)) (m : Nat), fuel = m + 1 ∧ x = (.agg (xs.map (·.1)), xs.flatMap (·.2)) ∧ cs.length = P.cellsOf t ∧ xs.length = n ∧
      ∀ i, i < n → DataW.trod enc P w base (fun _ => true) held m e ((cs.drop (i * P.cellsOf e)).take (P.cellsOf e)) = xs[i]? := by
  cases fuel with
  | zero => simp [DataW.trod] at h
  | succ m =>
    unfold DataW.trod at h
    rw [ht] at h
    split at h <;> simp_all
    obtain ⟨hl, xs, hp, hd⟩ := h
    exact ⟨xs, hd.symm, by simpa using mapM_some_length hp, fun i hi => mapM_some_get hp i i (by simp [hi])⟩
theorem fits_both : ∀ (sh : Sh),
    (∀ (t : TypeId) (n : Nat) (cs : List Value) (d : DataW H) (ps : List MemPlace), shOk P sh true t [] 0 = true → DataW.trod enc P w base (fun _ => true) held n t cs = some (d, ps) → (∀ m ∈ d.weights P t, m ≤ reachBytes) → Fits w sh cs) ∧
    (∀ (fs : List Field) (off n : Nat) (cs : List Value) (xs : List (DataW H × List MemPlace)), shOk P sh false 0 fs off = true → xs.length = fs.length →
      (∀ (i : Nat) (f : Field), fs[i]? = some f → DataW.trod enc P w base (fun _ => true) held n f.type ((cs.drop f.offset).take (P.cellsOf f.type)) = xs[i]?) →
      (∀ m ∈ DataW.weightsEach P (fs.map (·.type)) (xs.map (·.1)), m ≤ reachBytes) → Fits w sh (cs.drop off)) := by
  intro sh
  induction sh with
  | int k =>
    refine ⟨fun t n cs d ps hs h hw => ?_, fun fs off n cs xs hs => by simp [shOk] at hs⟩
    unfold shOk at hs
    split at hs
    · rename_i j hu
      obtain ⟨v, rfl, _, hv⟩ := DataW.trod_int hu h
      have := kEq_eq hs
      subst this
      exact ⟨v, rfl, hv⟩
    · cases hs
  | bool =>
    refine ⟨fun t n cs d ps hs h hw => ?_, fun fs off n cs xs hs => by simp [shOk] at hs⟩
    unfold shOk at hs
    split at hs
    · rename_i hu
      obtain ⟨v, rfl, _⟩ := DataW.trod_bool hu h
      exact ⟨v, rfl⟩
    · cases hs
  | str =>
    refine ⟨fun t n cs d ps hs h hw => ?_, fun fs off n cs xs hs => by simp [shOk] at hs⟩
    unfold shOk at hs
    split at hs
    · rename_i hu
      obtain ⟨v, rfl, hx, _⟩ := DataW.trod_string hu h
      obtain ⟨hx, _⟩ := Prod.mk.inj hx
      subst hx
      have := hw v.data.toList.length (by simp [DataW.weights])
      refine ⟨v, rfl, ?_⟩
      rw [Array.length_toList] at this
      exact this
    · cases hs
  | slc e sz by' ih =>
    refine ⟨fun t n cs d ps hs h hw => ?_, fun fs off n cs xs hs => by simp [shOk] at hs⟩
    unfold shOk at hs
    split at hs
    · rename_i u hu
      simp only [Bool.and_eq_true, beq_iff_eq] at hs
      obtain ⟨⟨h1, h2⟩, h3⟩ := hs
      rcases DataW.trod_slice hu h with ⟨rfl, _⟩ | ⟨a, len, cap, elems, rest, m, rfl, rfl, hx, hb, hl, hc, hlen, hel, hsp, hns⟩
      · exact ⟨none, 0, 0, rfl, Nat.le_refl _, by simp, .inl ⟨rfl, rfl, rfl⟩⟩
      · obtain ⟨hx, _⟩ := Prod.mk.inj hx
        subst hx
        have hcap : (elems.length + rest.length) * by' ≤ 140737488351232 := by
          have := hw ((elems.length + rest.length) * P.bytesOf u) (by simp [DataW.weights, hu])
          rw [h2] at this; exact this
        refine ⟨some a, len, cap, rfl, hl, ?_, .inr ⟨a, rfl, fun i hi => ?_⟩⟩
        · rw [(hsp rfl).1, hlen] at hcap
          rw [show len + (cap - len) = cap by omega] at hcap
          exact hcap
        · have he := hel i hi
          rw [List.getElem?_eq_getElem (by omega)] at he
          obtain ⟨cs', hcs, ht⟩ := Option.bind_eq_some_iff.1 he
          rw [h1] at hcs
          obtain ⟨hl', hr⟩ := rdCs_cells hcs
          refine ⟨cs', hl', hr, ih.1 u m cs' (elems[i]'(by omega)).1 (elems[i]'(by omega)).2 h3 ht fun q hq => hw q ?_⟩
          simp only [DataW.weights, hu, List.mem_cons, List.mem_append]
          exact .inr (.inl (weightsAll_get (i := i) (by rw [List.getElem?_map, List.getElem?_eq_getElem (by omega)]; rfl) q hq))
    · cases hs
  | arr n' sz e ih =>
    refine ⟨fun t n cs d ps hs h hw => ?_, fun fs off n cs xs hs => by simp [shOk] at hs⟩
    unfold shOk at hs
    split at hs
    · rename_i m u hu
      simp only [Bool.and_eq_true, beq_iff_eq] at hs
      obtain ⟨⟨⟨h1, h2⟩, h3⟩, h4⟩ := hs
      obtain ⟨xs, k, _, hx, hl, hxl, hf⟩ := trod_array hu h
      obtain ⟨hx, _⟩ := Prod.mk.inj hx
      subst hx
      refine ⟨by rw [hl, h3], fun i hi => ?_⟩
      have hg := hf i (by omega)
      rw [List.getElem?_eq_getElem (by omega), h2] at hg
      refine ih.1 u k _ (xs[i]'(by omega)).1 (xs[i]'(by omega)).2 h4 hg fun q hq => hw q ?_
      simp only [DataW.weights, hu]
      exact weightsAll_get (i := i) (by rw [List.getElem?_map, List.getElem?_eq_getElem (by omega)]; rfl) q hq
    · cases hs
  | st f ih =>
    refine ⟨fun t n cs d ps hs h hw => ?_, fun fs off n cs xs hs => by simp [shOk] at hs⟩
    unfold shOk at hs
    split at hs
    · rename_i fs hu
      obtain ⟨xs, m, _, hx, hl, hxl, hf⟩ := DataW.trod_struct hu h
      obtain ⟨hx, _⟩ := Prod.mk.inj hx
      subst hx
      have := ih.2 fs.toList 0 m cs xs hs (by simpa using hxl) (fun i f hi => hf i f (by simpa using hi)) (fun q hq => hw q (by simpa [DataW.weights, hu] using hq))
      simpa [Fits] using this
    · cases hs
  | unit => exact ⟨fun t n cs d ps hs => by simp [shOk] at hs, fun fs off n cs xs hs _ _ _ => trivial⟩
  | pair k a b iha ihb =>
    refine ⟨fun t n cs d ps hs => by simp [shOk] at hs, fun fs off n cs xs hs hl hf hw => ?_⟩
    cases fs with
    | nil => simp [shOk] at hs
    | cons f fs =>
      simp only [shOk, Bool.and_eq_true, beq_iff_eq] at hs
      obtain ⟨⟨⟨h1, h2⟩, h3⟩, h4⟩ := hs
      cases xs with
      | nil => simp at hl
      | cons x xs =>
        simp only [List.length_cons, Nat.add_right_cancel_iff] at hl
        have h0 := hf 0 f rfl
        rw [h1, h2] at h0
        refine ⟨iha.1 f.type n _ x.1 x.2 h3 h0 fun q hq => hw q ?_, ?_⟩
        · simp only [List.map_cons, DataW.weightsEach, List.mem_append]; exact .inl hq
        · have := ihb.2 fs (off + k) n cs xs h4 hl (fun i g hi => hf (i + 1) g (by simpa using hi)) (fun q hq => hw q (by simp only [List.map_cons, DataW.weightsEach, List.mem_append]; exact .inr hq))
          rw [List.drop_drop]; exact this
/-- An argument fits its shape. -/
theorem fits_arg {sh : Sh} {t : TypeId} {v : Value} {d : DataW H} {ps : List MemPlace} {ts : List TypeId} {ds : List (DataW H)} {j : Nat} (hs : shOk P sh true t [] 0 = true)
    (h : DataW.Trod enc P w base (fun _ => true) held t v d ps) (hw : (DataW.weightsEach P ts ds).all (· ≤ reachBytes) = true) (ht : ts[j]? = some t) (hd : ds[j]? = some d) : Fits w sh v.cells.toList := by
  obtain ⟨n, hn⟩ := h
  refine (fits_both (base := base) (enc := enc) (held := held) (P := P) sh).1 t n _ d ps hs hn fun m hm => ?_
  have := List.all_eq_true.1 hw m (DataW.weights_mem_each ht hd m hm)
  simpa using this
end
/-- A slice that fits: its elements. -/
theorem Fits.elems {w : World} {e : Sh} {sz by' : Nat} {a : Option Addr} {n c : Nat} (h : Fits w (.slc e sz by') [.slice a n c]) :
    n ≤ c ∧ c * by' ≤ 140737488351232 ∧ ∃ L : List (List Value), L.length = n ∧ ∀ i (hi : i < L.length), ∃ p, a = some p ∧ rdCs w (p.add (i * sz)) sz 0 = some L[i] ∧ L[i].length = sz ∧ Fits w e L[i] := by
  obtain ⟨a', n', c', he, h1, h2, h3⟩ := h
  cases he
  refine ⟨h1, h2, ?_⟩
  rcases h3 with ⟨rfl, rfl, rfl⟩ | ⟨p, rfl, h3⟩
  · exact ⟨[], rfl, fun i hi => by cases hi⟩
  · obtain ⟨f, hf⟩ := Go.Deep.choose_lt h3
    refine ⟨(List.range n).map f, by simp, fun i hi => ⟨p, rfl, ?_⟩⟩
    have hi' : i < n := by simpa using hi
    obtain ⟨g1, g2, g3⟩ := hf i hi'
    simp only [List.getElem_map, List.getElem_range]
    exact ⟨g2, g1, g3⟩
theorem rdCs_one {w : World} {p : Addr} {v : Value} (h : rdCs w p 1 0 = some [v]) : w.cell? p = some v := by
  simp only [rdCs] at h
  cases hc : w.cell? (p.add 0) with
  | none => rw [hc] at h; cases h
  | some u => rw [hc] at h; simp at h; subst h; exact hc
/-- A slice of whole numbers that fits. -/
theorem Fits.ints {w : World} {k : IntKind} {by' : Nat} {a : Option Addr} {n c : Nat} (h : Fits w (.slc (.int k) 1 by') [.slice a n c]) :
    n ≤ c ∧ c * by' ≤ 140737488351232 ∧ ∃ xs : List Int, xs.length = n ∧ SlI k w a xs ∧ ∀ x ∈ xs, (Lit.int k x).wf = true := by
  obtain ⟨h1, h2, L, hL, h3⟩ := h.elems
  refine ⟨h1, h2, ?_⟩
  have key : ∀ i, i < n → ∃ x, (∃ p, a = some p ∧ w.cell? (p.add i) = some (.int k x)) ∧ (Lit.int k x).wf = true := by
    intro i hi
    obtain ⟨p, hp, hr, hl, x, hx, hwf⟩ := h3 i (by omega)
    rw [hx, Nat.mul_one] at hr
    exact ⟨x, ⟨p, hp, rdCs_one hr⟩, hwf⟩
  obtain ⟨f, hf⟩ := Go.Deep.choose_lt key
  refine ⟨(List.range n).map f, by simp, fun i hi => ?_, fun x hx => ?_⟩
  · obtain ⟨p, hp, hc⟩ := (hf i (by simpa using hi)).1
    exact ⟨p, hp, by simpa using hc⟩
  · obtain ⟨i, hi, rfl⟩ := List.mem_map.1 hx
    exact (hf i (List.mem_range.1 hi)).2
end Go.Proofs.Ytdbnobeopgfhgaa.Vm
