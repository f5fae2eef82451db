/- Laws for contracts over the typed steps: memory that is read, rows of the call's own, what stays. No statement of the seat is in this text. -/
import Derived.Test.YtdbnobeopgfhgaaVmH
import Derived.Below
set_option linter.unusedVariables false
set_option linter.unusedSimpArgs false
namespace Go.Proofs.Ytdbnobeopgfhgaa.Vm
open Go Go.RowKit

/-! ### Steps, told by facts -/
theorem ldI_of {k : IntKind} {a : Addr} {w : World} {n : Int} {K : Int → Prop} (h : w.cell? a = some (.int k n)) (hk : K n) : ldI k a w K := by
  unfold ldI; rw [h]
  have : kEq k k = true := by cases k <;> rfl
  simp only [this, cond_true]; exact hk
theorem ldB_of {a : Addr} {w : World} {n : Bool} {K : Bool → Prop} (h : w.cell? a = some (.bool n)) (hk : K n) : ldB a w K := by unfold ldB; rw [h]; exact hk
theorem ldS_of {a : Addr} {w : World} {n : ByteArray} {K : ByteArray → Prop} (h : w.cell? a = some (.string n)) (hk : K n) : ldS a w K := by unfold ldS; rw [h]; exact hk
theorem ldP_of {a : Addr} {w : World} {n : Option Addr} {K : Option Addr → Prop} (h : w.cell? a = some (.pointer n)) (hk : K n) : ldP a w K := by unfold ldP; rw [h]; exact hk
theorem ldL_of {a : Addr} {w : World} {p : Option Addr} {n c : Nat} {K : Option Addr → Nat → Nat → Prop} (h : w.cell? a = some (.slice p n c)) (hk : K p n c) : ldL a w K := by unfold ldL; rw [h]; exact hk
theorem ldA_of {a : Addr} {n : Nat} {w : World} {l : List Value} {K : List Value → Prop} (h : rdCs w a n 0 = some l) (hk : K l) : ldA a n w K := by unfold ldA; rw [h]; exact hk
theorem stC_of {a : Addr} {v u : Value} {w : World} {K : World → Prop} (h : w.cell? a = some u) (hf : w.frozen? a = false) (hk : K (w.setCell a v)) : stC a v w K := by
  unfold stC; rw [h]; simp only [hf, cond_false]; exact hk
theorem if_of {c : Prop} [Decidable c] {p q : Prop} (h : c) (hp : p) : if c then p else q := by rw [if_pos h]; exact hp
theorem ifn_of {c : Prop} [Decidable c] {p q : Prop} (h : ¬ c) (hp : q) : if c then p else q := by rw [if_neg h]; exact hp
theorem cond_of {b : Bool} {p q : Prop} (h1 : b = true → p) (h2 : b = false → q) : cond b p q := by cases b; exact h2 rfl; exact h1 rfl
theorem rdCs_of {w : World} {a : Addr} : ∀ {l : List Value} {i : Nat}, (∀ j v, l[j]? = some v → w.cell? (a.add (i + j)) = some v) → rdCs w a l.length i = some l
  | [], i, h => rfl
  | v :: l, i, h => by
    have h0 := h 0 v rfl
    have ih := rdCs_of (w := w) (a := a) (l := l) (i := i + 1) (fun j u hj => by
      have := h (j + 1) u (by simpa using hj)
      rw [show i + 1 + j = i + (j + 1) by omega]; exact this)
    simp only [Nat.add_zero] at h0
    simp only [List.length_cons, rdCs, h0, ih]
theorem add_mk (b o n : Nat) : (⟨b, o, none⟩ : Addr).add n = ⟨b, o + n, none⟩ := by unfold Addr.add; split <;> simp_all
theorem add_zero (a : Addr) : a.add 0 = a := rfl
theorem add_block (a : Addr) (n : Nat) : (a.add n).block = a.block := by unfold Addr.add; split <;> rfl

/-! ### What is read: a slice of numbers, wherever it lies -/
/-- The slice 'a' of 'xs.length' numbers reads 'xs'. -/
def SlI (k : IntKind) (w : World) (a : Option Addr) (xs : List Int) : Prop := ∀ i (h : i < xs.length), ∃ p, a = some p ∧ w.cell? (p.add i) = some (.int k xs[i])
theorem block_lt {w : World} {a : Addr} {v : Value} (h : w.cell? a = some v) : a.block < w.heap.size := World.block_lt_of_cell? w a h
theorem SlI.keep {k : IntKind} {w w' : World} {a : Option Addr} {xs : List Int} {B : Nat} (h : SlI k w a xs) (hb : Below B w w') (hB : ∀ p, a = some p → xs ≠ [] → p.block < B) : SlI k w' a xs := fun i hi => by
  obtain ⟨p, hp, hc⟩ := h i hi
  refine ⟨p, hp, ?_⟩
  rw [hb.cell (by rw [add_block]; exact hB p hp (by intro e; subst e; cases hi))]
  exact hc
theorem SlI.ext {k : IntKind} {w w' : World} {a : Option Addr} {xs : List Int} (h : SlI k w a xs) (hb : Below w.heap.size w w') : SlI k w' a xs := fun i hi => by
  obtain ⟨p, hp, hc⟩ := h i hi
  exact ⟨p, hp, by rw [hb.cell (block_lt hc)]; exact hc⟩
theorem SlI.nil (k : IntKind) (w : World) (a : Option Addr) : SlI k w a [] := fun i hi => by cases hi
theorem SlI.get {k : IntKind} {w : World} {a : Option Addr} {xs : List Int} (h : SlI k w a xs) {i : Nat} (hi : i < xs.length) {K : Addr → Prop} (hk : ∀ p, a = some p → w.cell? (p.add i) = some (.int k xs[i]) → K p) : sm a K := by
  obtain ⟨p, hp, hc⟩ := h i hi
  subst hp
  exact hk p rfl hc
theorem SlI.rd {k : IntKind} {w : World} {p : Addr} {xs : List Int} (h : SlI k w (some p) xs) : rdCs w p xs.length 0 = some (xs.map (Value.int k)) := by
  have := rdCs_of (w := w) (a := p) (l := xs.map (Value.int k)) (i := 0) (fun j v hj => by
    rw [List.getElem?_map] at hj
    cases hx : xs[j]? with
    | none => rw [hx] at hj; cases hj
    | some x =>
      rw [hx] at hj
      simp at hj
      obtain ⟨hlt, hxe⟩ := List.getElem?_eq_some_iff.1 hx
      obtain ⟨q, hq, hc⟩ := h j hlt
      cases hq
      rw [Nat.zero_add, hc, ← hj, hxe])
  simpa using this

/-! ### Rows of the call's own -/
/-- Block 'b' is the numbers 'xs' and nothing else. -/
def BlI (k : IntKind) (e : TypeId) (w : World) (b : Nat) (xs : List Int) : Prop := w.heap[b]? = some (.cells (xs.map (Value.int k)).toArray e (0, 0))
theorem BlI.cell {k : IntKind} {e : TypeId} {w : World} {b : Nat} {xs : List Int} (h : BlI k e w b xs) {i : Nat} (hi : i < xs.length) : w.cell? ⟨b, i, none⟩ = some (.int k xs[i]) := by
  rw [cell_of_row w b i _ e (0, 0) h]
  simp [hi]
theorem BlI.free {k : IntKind} {e : TypeId} {w : World} {b : Nat} {xs : List Int} (h : BlI k e w b xs) (i : Nat) : w.frozen? ⟨b, i, none⟩ = false := frozen_of_row w b i _ e h
theorem BlI.lt {k : IntKind} {e : TypeId} {w : World} {b : Nat} {xs : List Int} (h : BlI k e w b xs) : b < w.heap.size := (Array.getElem?_eq_some_iff.1 h).1
theorem BlI.set {k : IntKind} {e : TypeId} {w : World} {b : Nat} {xs : List Int} (h : BlI k e w b xs) (i : Nat) (v : Int) : BlI k e (w.setCell ⟨b, i, none⟩ (.int k v)) b (xs.set i v) := by
  unfold BlI
  rw [heap_setCell_same w b i _ e _ h]
  simp [List.map_set]
theorem BlI.keep {k : IntKind} {e : TypeId} {w w' : World} {b : Nat} {xs : List Int} {B : Nat} (h : BlI k e w b xs) (hb : Below B w w') (hB : b < B) : BlI k e w' b xs := (hb.block b hB).trans h
theorem BlI.new (k : IntKind) (e : TypeId) (w : World) (n : Nat) (z : Int) : BlI k e (w.alloc (.cells (List.replicate n (Value.int k z)).toArray e)) w.heap.size (List.replicate n z) := by
  unfold BlI
  rw [heap_alloc_new]
  simp
theorem BlI.rd {k : IntKind} {e : TypeId} {w : World} {b : Nat} {xs : List Int} (h : BlI k e w b xs) : rdCs w ⟨b, 0, none⟩ xs.length 0 = some (xs.map (Value.int k)) := by
  have h1 : SlI k w (some ⟨b, 0, none⟩) xs := fun i hi => ⟨_, rfl, by rw [add_mk, Nat.zero_add]; exact h.cell hi⟩
  exact h1.rd
theorem set_take (cur : List Value) (i : Nat) (v : Value) (l : List Value) (hi : i < cur.length) :
    (cur.set i v).take (i + 1) ++ l ++ (cur.set i v).drop (i + 1 + l.length) = cur.take i ++ v :: l ++ cur.drop (i + (v :: l).length) := by
  have h1 : (cur.set i v).take (i + 1) = cur.take i ++ [v] := by
    rw [List.take_succ_eq_append_getElem (by simpa using hi), List.getElem_set_self, List.take_set_of_le (Nat.le_refl i)]
  have h2 : (cur.set i v).drop (i + 1 + l.length) = cur.drop (i + (v :: l).length) := by
    rw [List.drop_set_of_lt (by omega)]
    congr 1
    simp; omega
  rw [h1, h2]
  simp
theorem stCs_row {e : TypeId} {b : Nat} : ∀ {l : List Value} {cur : List Value} {i : Nat} {w : World} {K : World → Prop}, w.heap[b]? = some (.cells cur.toArray e (0, 0)) → (∀ v ∈ l, one v = true) → i + l.length ≤ cur.length →
    (∀ w', w'.heap[b]? = some (.cells (cur.take i ++ l ++ cur.drop (i + l.length)).toArray e (0, 0)) → (∀ B, B ≤ b → Below B w w') → w'.heap.size = w.heap.size → (∀ c, c ≠ b → w'.heap[c]? = w.heap[c]?) → K w') → stCs ⟨b, 0, none⟩ l i w K
  | [], cur, i, w, K, hb, h1, hl, hk => hk w (by simpa using hb) (fun B _ => Below.refl _ _) rfl (fun _ _ => rfl)
  | v :: l, cur, i, w, K, hb, h1, hl, hk => by
    simp only [List.length_cons] at hl
    have hi : i < cur.length := by omega
    simp only [stCs, h1 v List.mem_cons_self, cond_true, add_mk, Nat.zero_add]
    refine stC_of (u := cur[i]) ?_ (frozen_of_row w b i _ e hb) ?_
    · rw [cell_of_row w b i _ e (0, 0) hb]; simp [hi]
    have hb2 : (w.setCell ⟨b, i, none⟩ v).heap[b]? = some (.cells (cur.set i v).toArray e (0, 0)) := by rw [heap_setCell_same w b i _ e v hb]; simp
    refine stCs_row hb2 (fun u hu => h1 u (List.mem_cons_of_mem _ hu)) (by simp; omega) ?_
    intro w' hb' hbel hsz hoth
    refine hk w' ?_ ?_ ?_ ?_
    · rw [hb', set_take cur i v l hi]
    · intro B hB; exact ((Below.refl B w).setCell hB _).trans (hbel B hB)
    · rw [hsz]; simp
    · intro c hc; rw [hoth c hc, Below.heap_setCell _ _ _ _ hc]
end Go.Proofs.Ytdbnobeopgfhgaa.Vm
