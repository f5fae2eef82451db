/- What a step changes and what it leaves: blocks of the heap named one by one. No statement of the seat is in this text. -/
import Derived.Test.YtdbnobeopgfhgaaVmJ
set_option linter.unusedVariables false
set_option linter.unusedSimpArgs false
namespace Go.Proofs.Ytdbnobeopgfhgaa.Vm
open Go Go.RowKit

/-- Of the blocks of `w` only those in `S` may read otherwise in `w'`. -/
structure Chg (S : Nat → Prop) (w w' : World) : Prop where
  os : w'.os = w.os
  tape : w'.tape = w.tape
  output : w'.output = w.output
  size : w.heap.size ≤ w'.heap.size
  block : ∀ k, k < w.heap.size → ¬ S k → w'.heap[k]? = w.heap[k]?
/-- No block. -/
def no : Nat → Prop := fun _ => False
theorem Chg.refl (S : Nat → Prop) (w : World) : Chg S w w := ⟨rfl, rfl, rfl, Nat.le_refl _, fun _ _ _ => rfl⟩
theorem Chg.drew (S : Nat → Prop) (w : World) : Chg S w w.drew := ⟨rfl, rfl, rfl, Nat.le_refl _, fun _ _ _ => rfl⟩
theorem Chg.mono {S T : Nat → Prop} {w w' : World} (h : Chg S w w') (hs : ∀ k, S k → T k) : Chg T w w' := ⟨h.os, h.tape, h.output, h.size, fun k hk hn => h.block k hk fun hh => hn (hs k hh)⟩
theorem Chg.trans {S : Nat → Prop} {a b c : World} (h : Chg S a b) (g : Chg S b c) : Chg S a c :=
  ⟨g.os.trans h.os, g.tape.trans h.tape, g.output.trans h.output, Nat.le_trans h.size g.size, fun k hk hn => (g.block k (Nat.lt_of_lt_of_le hk h.size) hn).trans (h.block k hk hn)⟩
/-- A second change may fall on blocks that the first made. -/
theorem Chg.then {S T : Nat → Prop} {a b c : World} (h : Chg S a b) (g : Chg T b c) (hs : ∀ k, k < a.heap.size → T k → S k) : Chg S a c :=
  ⟨g.os.trans h.os, g.tape.trans h.tape, g.output.trans h.output, Nat.le_trans h.size g.size, fun k hk hn => (g.block k (Nat.lt_of_lt_of_le hk h.size) fun hh => hn (hs k hk hh)).trans (h.block k hk hn)⟩
theorem Chg.below {S : Nat → Prop} {w w' : World} {B : Nat} (h : Chg S w w') (hB : B ≤ w.heap.size) (hs : ∀ k, S k → B ≤ k) : Below B w w' :=
  ⟨h.os, h.tape, h.output, h.size, fun k hk => h.block k (Nat.lt_of_lt_of_le hk hB) fun hh => Nat.lt_irrefl _ (Nat.lt_of_lt_of_le hk (hs k hh))⟩
theorem Chg.ofBelow {w w' : World} {B : Nat} (h : Below B w w') : Chg (fun k => B ≤ k) w w' := ⟨h.os, h.tape, h.output, h.size, fun k _ hn => h.block k (Nat.lt_of_not_le hn)⟩
theorem Below.chg {S : Nat → Prop} {a b c : World} {B : Nat} (h : Below B a b) (g : Chg S b c) (hB : B ≤ b.heap.size) (hs : ∀ k, S k → B ≤ k) : Below B a c := h.trans (g.below hB hs)
theorem Chg.keep {S : Nat → Prop} {w w' : World} {b : Nat} {o : Obj} (h : Chg S w w') (hb : w.heap[b]? = some o) (hn : ¬ S b) : w'.heap[b]? = some o :=
  (h.block b (Array.getElem?_eq_some_iff.1 hb).1 hn).trans hb
theorem alloc_size (w : World) (o : Obj) : (w.alloc o).heap.size = w.heap.size + 1 := by
  rw [show (w.alloc o).heap = w.heap.push o from rfl]; exact Array.size_push ..
theorem Chg.alloc (w : World) (o : Obj) : Chg no w (w.alloc o) :=
  ⟨rfl, rfl, rfl, by rw [alloc_size]; exact Nat.le_succ _, fun k hk _ => Below.heap_alloc w o k hk⟩
theorem Chg.setCell (w : World) (p : Addr) (v : Value) : Chg (fun k => k = p.block) w (w.setCell p v) :=
  let h := (Below.refl 0 w).setCell (p := p) (Nat.zero_le _) v
  ⟨h.os, h.tape, h.output, h.size, fun k hk hn => Below.heap_setCell w p v k hn⟩
theorem SlI.chg {S : Nat → Prop} {k : IntKind} {w w' : World} {a : Option Addr} {xs : List Int} (h : SlI k w a xs) (hc : Chg S w w') (hB : ∀ p, a = some p → xs ≠ [] → ¬ S p.block) : SlI k w' a xs := fun i hi => by
  obtain ⟨p, hp, hcell⟩ := h i hi
  refine ⟨p, hp, ?_⟩
  have hb := hc.block (p.add i).block (block_lt hcell) (by rw [add_block]; exact hB p hp (by intro e; subst e; cases hi))
  rw [World.cell?_of_block hb]; exact hcell

/-! ### Blocks -/
/-- Block `b` is the cells `l`, of type `e`. -/
def Bl (e : TypeId) (w : World) (b : Nat) (l : List Value) : Prop := w.heap[b]? = some (.cells l.toArray e (0, 0))
theorem Bl.lt {e : TypeId} {w : World} {b : Nat} {l : List Value} (h : Bl e w b l) : b < w.heap.size := (Array.getElem?_eq_some_iff.1 h).1
theorem Bl.chg {S : Nat → Prop} {e : TypeId} {w w' : World} {b : Nat} {l : List Value} (h : Bl e w b l) (hc : Chg S w w') (hn : ¬ S b) : Bl e w' b l := hc.keep h hn
theorem Bl.cell {e : TypeId} {w : World} {b i : Nat} {l : List Value} {v : Value} (h : Bl e w b l) (hi : l[i]? = some v) : w.cell? ⟨b, i, none⟩ = some v := by
  rw [cell_of_row w b i _ e (0, 0) h]; simpa using hi
theorem Bl.free {e : TypeId} {w : World} {b : Nat} {l : List Value} (h : Bl e w b l) (i : Nat) : w.frozen? ⟨b, i, none⟩ = false := frozen_of_row w b i _ e h
theorem Bl.set {e : TypeId} {w : World} {b : Nat} {l : List Value} (h : Bl e w b l) (i : Nat) (v : Value) : Bl e (w.setCell ⟨b, i, none⟩ v) b (l.set i v) := by
  unfold Bl; rw [heap_setCell_same w b i _ e _ h]; simp
theorem Bl.ints {k : IntKind} {e : TypeId} {w : World} {b : Nat} {xs : List Int} (h : Bl e w b (xs.map (Value.int k))) : BlI k e w b xs := h
theorem BlI.bl {k : IntKind} {e : TypeId} {w : World} {b : Nat} {xs : List Int} (h : BlI k e w b xs) : Bl e w b (xs.map (Value.int k)) := h
theorem BlI.chg {S : Nat → Prop} {k : IntKind} {e : TypeId} {w w' : World} {b : Nat} {xs : List Int} (h : BlI k e w b xs) (hc : Chg S w w') (hn : ¬ S b) : BlI k e w' b xs := hc.keep h hn
theorem BlI.sl {k : IntKind} {e : TypeId} {w : World} {b : Nat} {xs : List Int} (h : BlI k e w b xs) : SlI k w (some ⟨b, 0, none⟩) xs := fun i hi => ⟨_, rfl, by rw [add_mk, Nat.zero_add]; exact h.cell hi⟩

/-! ### Steps on blocks -/
theorem ldI_b {k : IntKind} {e : TypeId} {w : World} {b i : Nat} {l : List Value} {n : Int} {K : Int → Prop} (h : Bl e w b l) (hi : l[i]? = some (.int k n)) (hk : K n) : ldI k ⟨b, i, none⟩ w K := ldI_of (h.cell hi) hk
theorem ldB_b {e : TypeId} {w : World} {b i : Nat} {l : List Value} {n : Bool} {K : Bool → Prop} (h : Bl e w b l) (hi : l[i]? = some (.bool n)) (hk : K n) : ldB ⟨b, i, none⟩ w K := ldB_of (h.cell hi) hk
theorem ldS_b {e : TypeId} {w : World} {b i : Nat} {l : List Value} {n : ByteArray} {K : ByteArray → Prop} (h : Bl e w b l) (hi : l[i]? = some (.string n)) (hk : K n) : ldS ⟨b, i, none⟩ w K := ldS_of (h.cell hi) hk
theorem ldP_b {e : TypeId} {w : World} {b i : Nat} {l : List Value} {n : Option Addr} {K : Option Addr → Prop} (h : Bl e w b l) (hi : l[i]? = some (.pointer n)) (hk : K n) : ldP ⟨b, i, none⟩ w K := ldP_of (h.cell hi) hk
theorem ldL_b {e : TypeId} {w : World} {b i : Nat} {l : List Value} {p : Option Addr} {n c : Nat} {K : Option Addr → Nat → Nat → Prop} (h : Bl e w b l) (hi : l[i]? = some (.slice p n c)) (hk : K p n c) : ldL ⟨b, i, none⟩ w K := ldL_of (h.cell hi) hk
theorem ldI_x {k : IntKind} {e : TypeId} {w : World} {b i : Nat} {xs : List Int} {K : Int → Prop} (h : BlI k e w b xs) (hi : i < xs.length) (hk : K xs[i]) : ldI k ((⟨b, 0, none⟩ : Addr).add i) w K := by
  rw [add_mk, Nat.zero_add]; exact ldI_of (h.cell hi) hk
theorem stC_b {e : TypeId} {w : World} {b i : Nat} {l : List Value} {v : Value} {K : World → Prop} (h : Bl e w b l) (hi : i < l.length)
    (hk : ∀ w', Bl e w' b (l.set i v) → Chg (fun k => k = b) w w' → K w') : stC ⟨b, i, none⟩ v w K :=
  stC_of (h.cell (List.getElem?_eq_getElem hi)) (h.free i) (hk _ (h.set i v) (Chg.setCell w ⟨b, i, none⟩ v))
theorem stC_x {k : IntKind} {e : TypeId} {w : World} {b i : Nat} {xs : List Int} {n : Int} {K : World → Prop} (h : BlI k e w b xs) (hi : i < xs.length)
    (hk : ∀ w', BlI k e w' b (xs.set i n) → Chg (fun k => k = b) w w' → K w') : stC ((⟨b, 0, none⟩ : Addr).add i) (.int k n) w K := by
  rw [add_mk, Nat.zero_add]
  refine stC_b h.bl (by simpa using hi) fun w' hw hc => hk w' ?_ hc
  unfold BlI; rw [List.map_set]; exact hw
theorem stCs_b {e : TypeId} {w : World} {b : Nat} {l m : List Value} {K : World → Prop} (h : Bl e w b l) (h1 : ∀ v ∈ m, one v = true) (hl : m.length = l.length)
    (hk : ∀ w', Bl e w' b m → Chg (fun k => k = b) w w' → K w') : stCs ⟨b, 0, none⟩ m 0 w K := by
  refine stCs_row (cur := l) h h1 (by omega) fun w' hb hbel hsz hoth => hk w' ?_ ?_
  · unfold Bl; rw [hb]; simp [hl]
  · have := hbel 0 (Nat.zero_le _)
    exact ⟨this.os, this.tape, this.output, this.size, fun k _ hn => hoth k hn⟩
theorem newC_b {e : TypeId} {w : World} {l : List Value} {K : Addr → World → Prop} (hk : ∀ w', Bl e w' w.heap.size l → Chg no w w' → w'.heap.size = w.heap.size + 1 → K ⟨w.heap.size, 0, none⟩ w') : newC e l w K :=
  hk _ (by unfold Bl; rw [heap_alloc_new]) (Chg.alloc _ _) (alloc_size _ _)
theorem zrow_one (v : Value) (n : Nat) : zrow [v] n = List.replicate n v := by
  unfold zrow
  induction n with
  | zero => rfl
  | succ n ih => rw [List.range_succ, List.flatMap_append, ih]; simp [List.replicate_succ']
theorem mkL_b {e : TypeId} {bytes : Nat} {w : World} {k : IntKind} {z l c : Int} {K : Option Addr → Nat → Nat → World → Prop} (h0 : 0 ≤ l) (h1 : l ≤ c) (h2 : (bytes : Int) * c ≤ 281474976710656) (h3 : 0 < bytes)
    (hk : ∀ w', BlI k e w' w.heap.size (List.replicate c.toNat z) → Chg no w w' → w'.heap.size = w.heap.size + 1 → K (some ⟨w.heap.size, 0, none⟩) l.toNat c.toNat w') : mkL e 1 bytes [.int k z] l c w K := by
  unfold mkL
  have hc : c < 9223372036854775808 := by
    have : (1 : Int) * c ≤ (bytes : Int) * c := Int.mul_le_mul_of_nonneg_right (by omega) (by omega)
    omega
  rw [if_pos ⟨h0, h1, hc, h2⟩, zrow_one, show List.replicate c.toNat (Value.int k z) = (List.replicate c.toNat z).map (Value.int k) by simp]
  refine hk _ ?_ (Chg.alloc _ _) (alloc_size _ _)
  unfold BlI; rw [heap_alloc_new]
/-! ### A slice of one's own, that grows -/
/-- The slice `a` of length `n` and capacity `c` lies in a block of `S` (or is nil) and reads `ys`. -/
def Own (k : IntKind) (e : TypeId) (S : Nat → Prop) (w : World) (a : Option Addr) (n c : Nat) (ys : List Int) : Prop :=
  (a = none ∧ n = 0 ∧ c = 0 ∧ ys = []) ∨ ∃ b xs, a = some ⟨b, 0, none⟩ ∧ S b ∧ BlI k e w b xs ∧ xs.length = c ∧ n ≤ c ∧ ys = xs.take n
theorem Own.nil (k : IntKind) (e : TypeId) (S : Nat → Prop) (w : World) : Own k e S w none 0 0 [] := .inl ⟨rfl, rfl, rfl, rfl⟩
theorem Own.length {k : IntKind} {e : TypeId} {S : Nat → Prop} {w : World} {a : Option Addr} {n c : Nat} {ys : List Int} (h : Own k e S w a n c ys) : ys.length = n := by
  rcases h with ⟨_, h1, _, h2⟩ | ⟨b, xs, _, _, _, h1, h2, h3⟩
  · rw [h2, h1]; rfl
  · rw [h3, List.length_take]; omega
theorem Own.sl {k : IntKind} {e : TypeId} {S : Nat → Prop} {w : World} {a : Option Addr} {n c : Nat} {ys : List Int} (h : Own k e S w a n c ys) : SlI k w a ys := by
  rcases h with ⟨_, h1, _, h2⟩ | ⟨b, xs, h0, _, hb, h1, h2, h3⟩
  · rw [h2]; exact SlI.nil _ _ _
  · subst h0 h3
    intro i hi
    have hi' : i < xs.length := by rw [List.length_take] at hi; omega
    obtain ⟨p, hp, hc⟩ := hb.sl i hi'
    exact ⟨p, hp, by rw [hc]; simp⟩
theorem Own.chg {T : Nat → Prop} {k : IntKind} {e : TypeId} {S : Nat → Prop} {w w' : World} {a : Option Addr} {n c : Nat} {ys : List Int} (h : Own k e S w a n c ys) (hc : Chg T w w') (hn : ∀ b, S b → ¬ T b) : Own k e S w' a n c ys := by
  rcases h with h | ⟨b, xs, h0, hS, hb, h1⟩
  · exact .inl h
  · exact .inr ⟨b, xs, h0, hS, hb.chg hc (hn b hS), h1⟩
theorem Own.mono {k : IntKind} {e : TypeId} {S T : Nat → Prop} {w : World} {a : Option Addr} {n c : Nat} {ys : List Int} (h : Own k e S w a n c ys) (hs : ∀ b, S b → b < w.heap.size → T b) : Own k e T w a n c ys := by
  rcases h with h | ⟨b, xs, h0, hS, hb, h1⟩
  · exact .inl h
  · exact .inr ⟨b, xs, h0, hs b hS hb.lt, hb, h1⟩
theorem BlI.own {k : IntKind} {e : TypeId} {w : World} {b : Nat} {xs : List Int} (S : Nat → Prop) (h : BlI k e w b xs) (hS : S b) : Own k e S w (some ⟨b, 0, none⟩) xs.length xs.length xs :=
  .inr ⟨b, xs, rfl, hS, h, rfl, Nat.le_refl _, by simp⟩
theorem chg_drew_alloc (w : World) (o : Obj) : Chg no w (w.drew.alloc o) := (Chg.drew no w).trans (Chg.alloc w.drew o)
theorem stCs_ints {k : IntKind} {e : TypeId} {w : World} {b i : Nat} {xs zs : List Int} {K : World → Prop} (h : BlI k e w b xs) (hl : i + zs.length ≤ xs.length)
    (hk : ∀ w', BlI k e w' b (xs.take i ++ zs ++ xs.drop (i + zs.length)) → Chg (fun c => c = b) w w' → K w') : stCs ((⟨b, 0, none⟩ : Addr).add i) (zs.map (Value.int k)) 0 w K := by
  have key : ∀ (l : List Value) (a : Addr) (j : Nat) (w : World) (K : World → Prop), stCs a l j w K = stCs ⟨a.block, 0, none⟩ l (j + i) w K → True := fun _ _ _ _ _ _ => trivial
  rw [add_mk, Nat.zero_add]
  have go : ∀ (l : List Value) (j : Nat) (w : World), stCs ⟨b, 0, none⟩ l (i + j) w K → stCs ⟨b, i, none⟩ l j w K := by
    intro l
    induction l with
    | nil => intro j w h; exact h
    | cons v l ih =>
      intro j w h
      simp only [stCs, add_mk, Nat.zero_add] at h ⊢
      cases hv : one v
      · rw [hv] at h; exact h
      · rw [hv] at h
        simp only [cond_true] at h ⊢
        unfold stC at h ⊢
        cases hc : w.cell? ⟨b, i + j, none⟩ with
        | none => rw [hc] at h; exact h
        | some u =>
          rw [hc] at h
          simp only at h ⊢
          cases hf : w.frozen? ⟨b, i + j, none⟩
          · rw [hf] at h; simp only [cond_false] at h ⊢
            exact ih (j + 1) _ (by rw [← Nat.add_assoc]; exact h)
          · rw [hf] at h; exact h
  refine go _ 0 w ?_
  rw [Nat.add_zero]
  refine stCs_row (cur := xs.map (Value.int k)) h (by simp [one]) (by simpa using hl) fun w' hb hbel hsz hoth => hk w' ?_ ?_
  · unfold BlI; rw [hb]; simp [List.map_take, List.map_drop]
  · have := hbel 0 (Nat.zero_le _)
    exact ⟨this.os, this.tape, this.output, this.size, fun k _ hn => hoth k hn⟩
theorem appG_own {k : IntKind} {e : TypeId} {bytes : Nat} {S : Nat → Prop} {w : World} {a : Option Addr} {n c m : Nat} {ys zs : List Int} {K : Option Addr → Nat → Nat → World → Prop}
    (h : Own k e S w a n c ys) (hm : zs.length = m) (hs : (n + m) * bytes ≤ 140737488355328) (hb : 0 < bytes)
    (hk : ∀ a' c' w', Own k e (fun b => S b ∨ b = w.heap.size) w' a' (n + m) c' (ys ++ zs) → Chg S w w' → K a' (n + m) c' w') :
    appG e 1 bytes [.int k 0] a n c m (zs.map (Value.int k)) w K := by
  unfold appG
  have h64 : n + m ≤ (n + m) * bytes := Nat.le_mul_of_pos_right _ hb
  by_cases hc : n + m ≤ c
  · rw [if_pos hc]
    rcases h with ⟨h0, h1, h2, h3⟩ | ⟨b, xs, h0, hS, hbl, h1, h2, h3⟩
    · subst h0 h1 h2 h3
      have : m = 0 := by omega
      subst this
      have : zs = [] := List.length_eq_zero_iff.1 hm
      subst this
      exact hk none 0 w (.inl ⟨rfl, rfl, rfl, rfl⟩) (Chg.refl _ _)
    · subst h0 h3
      simp only [Nat.mul_one]
      refine stCs_ints hbl (by omega) fun w' hw hch => ?_
      refine hk _ _ w' (.inr ⟨b, _, rfl, .inl hS, hw, ?_, by omega, ?_⟩) (hch.mono fun k hk => by subst hk; exact hS)
      · simp; omega
      · rw [hm, List.take_append_of_le_length (by simp; omega)]; exact (List.take_of_length_le (by simp; omega)).symm
  · rw [if_neg hc]
    have hold : ∀ o : Option (List Value), (match (generalizing := false) a with | none => some [] | some a => rdCs w a (n * 1) 0) = o → o = some (ys.map (Value.int k)) := by
      intro o ho
      have hl := h.length
      have hsl := h.sl
      rcases h with ⟨h0, h1, h2, h3⟩ | ⟨b, xs, h0, hS, hbl, h1, h2, h3⟩
      · subst h0 h3; rw [← ho]; rfl
      · subst h0
        simp only [Nat.mul_one] at ho
        rw [← ho, ← hl]; exact hsl.rd
    split
    case h_2 he => exact absurd (hold _ he) (by simp)
    rename_i old he
    have := hold _ he
    simp only [Option.some.injEq] at this
    subst this
    refine ⟨⟨by omega, growslice_fits (by omega) hs⟩, ?_⟩
    have hg : n + m ≤ grownCap w (n + m) c e := grownCap_ge _ _ _ _
    rw [zrow_one, show ys.map (Value.int k) ++ zs.map (Value.int k) ++ List.replicate (grownCap w (n + m) c e - (n + m)) (Value.int k 0) =
      (ys ++ zs ++ List.replicate (grownCap w (n + m) c e - (n + m)) 0).map (Value.int k) by simp]
    have hl := h.length
    refine hk _ _ _ (.inr ⟨w.heap.size, ys ++ zs ++ List.replicate (grownCap w (n + m) c e - (n + m)) 0, rfl, .inr rfl, ?_, ?_, hg, ?_⟩) ((chg_drew_alloc w _).mono fun _ h => h.elim)
    · unfold BlI; rw [show w.heap.size = w.drew.heap.size from rfl, heap_alloc_new]
    · simp; omega
    · rw [List.take_append_of_le_length (by simp; omega)]; exact (List.take_of_length_le (by simp; omega)).symm
theorem appL_own {k : IntKind} {e : TypeId} {bytes : Nat} {S : Nat → Prop} {w : World} {a x : Option Addr} {n c xc m : Nat} {ys zs : List Int} {K : Option Addr → Nat → Nat → World → Prop}
    (h : Own k e S w a n c ys) (hx : SlI k w x zs) (hm : zs.length = m) (hs : (n + m) * bytes ≤ 140737488355328) (hb : 0 < bytes)
    (hk : ∀ a' c' w', Own k e (fun b => S b ∨ b = w.heap.size) w' a' (n + m) c' (ys ++ zs) → Chg S w w' → K a' (n + m) c' w') :
    appL e 1 bytes [.int k 0] a n c x m xc w K := by
  unfold appL
  cases x with
  | none =>
    cases m with
    | zero =>
      have : zs = [] := List.length_eq_zero_iff.1 hm
      subst this
      exact appG_own (zs := []) h rfl hs hb hk
    | succ m =>
      obtain ⟨p, hp, _⟩ := hx 0 (by omega)
      cases hp
  | some p =>
    simp only [Nat.mul_one]
    rw [← hm, hx.rd, hm]
    exact appG_own h hm hs hb hk
theorem drew_heap (w : World) : w.drew.heap = w.heap := rfl
theorem Bl.drew {e : TypeId} {w : World} {b : Nat} {l : List Value} (h : Bl e w b l) : Bl e w.drew b l := h
theorem sm_some {p : Addr} {K : Addr → Prop} (h : K p) : sm (some p) K := h
end Go.Proofs.Ytdbnobeopgfhgaa.Vm
