/- Slices of slices of one's own, whose rows grow. No statement of the seat is in this text. -/
import Derived.Test.YtdbnobeopgfhgaaVmQ
set_option linter.unusedVariables false
set_option linter.unusedSimpArgs false
namespace Go.Proofs.Ytdbnobeopgfhgaa.Vm
open Go Go.RowKit
theorem mkL_v {e : TypeId} {bytes : Nat} {w : World} {z : Value} {l c : Int} {K : Option Addr → Nat → Nat → World → Prop} (h0 : 0 ≤ l) (h1 : l ≤ c) (h2 : (bytes : Int) * c ≤ 281474976710656) (h3 : 0 < bytes)
    (hk : ∀ w', Bl e w' w.heap.size (List.replicate c.toNat z) → Chg no w w' → w'.heap.size = w.heap.size + 1 → K (Option.some ⟨w.heap.size, 0, none⟩) l.toNat c.toNat w') : mkL e 1 bytes [z] l c w K := by
  unfold mkL
  have hc : c < 9223372036854775808 := by
    have : (1 : Int) * c ≤ (bytes : Int) * c := Int.mul_le_mul_of_nonneg_right (by omega) (by omega)
    omega
  rw [if_pos ⟨h0, h1, hc, h2⟩, zrow_one]
  refine hk _ ?_ (Chg.alloc _ _) (alloc_size _ _)
  unfold Bl; rw [heap_alloc_new]
/-- A slice's head. -/
abbrev Hdr := Option Addr × Nat × Nat
def Hdr.v (h : Hdr) : Value := .slice h.1 h.2.1 h.2.2
/-- An own slice is in the block that it names. -/
theorem Own.tight {k : IntKind} {e : TypeId} {S : Nat → Prop} {w : World} {a : Option Addr} {n c : Nat} {ys : List Int} (h : Own k e S w a n c ys) : Own k e (fun b => a = Option.some ⟨b, 0, none⟩ ∧ S b) w a n c ys := by
  rcases h with h | ⟨b, xs, h0, hS, hb, h1⟩
  · exact .inl h
  · exact .inr ⟨b, xs, h0, ⟨h0, hS⟩, hb, h1⟩
/-- Block `bo` holds the heads of own slices that read `L`: each in a block of its own, of `S`. -/
structure OwnR (k : IntKind) (e eo : TypeId) (S : Nat → Prop) (w : World) (bo : Nat) (hs : List Hdr) (L : List (List Int)) : Prop where
  len : hs.length = L.length
  head : Bl eo w bo (hs.map Hdr.v)
  inS : S bo
  row : ∀ (i : Nat) (h : Hdr) (l : List Int), hs[i]? = Option.some h → L[i]? = Option.some l → Own k e S w h.1 h.2.1 h.2.2 l
  ne : ∀ (i : Nat) (h : Hdr) (b : Nat), hs[i]? = Option.some h → h.1 = Option.some ⟨b, 0, none⟩ → b ≠ bo
  apart : ∀ (i j : Nat) (h g : Hdr) (b : Nat), hs[i]? = Option.some h → hs[j]? = Option.some g → h.1 = Option.some ⟨b, 0, none⟩ → g.1 = Option.some ⟨b, 0, none⟩ → i = j
theorem OwnR.chg {k : IntKind} {e eo : TypeId} {S T : Nat → Prop} {w w' : World} {bo : Nat} {hs : List Hdr} {L : List (List Int)} (h : OwnR k e eo S w bo hs L) (hc : Chg T w w') (hn : ∀ b, S b → ¬ T b) : OwnR k e eo S w' bo hs L :=
  ⟨h.len, h.head.chg hc (hn _ h.inS), h.inS, fun i g l hg hl => (h.row i g l hg hl).chg hc hn, h.ne, h.apart⟩
/-- So many empty ones. -/
theorem OwnR.new {k : IntKind} {e eo : TypeId} {S : Nat → Prop} {w : World} {bo n : Nat} (h : Bl eo w bo (List.replicate n (Value.slice none 0 0))) (hS : S bo) : OwnR k e eo S w bo (List.replicate n (none, 0, 0)) (List.replicate n []) := by
  have hr : ∀ (i : Nat) (g : Hdr), (List.replicate n ((none, 0, 0) : Hdr))[i]? = Option.some g → g = (none, 0, 0) := fun i g hg => (List.mem_replicate.1 (List.mem_of_getElem? hg)).2
  refine ⟨by simp, ?_, hS, fun i g l hg hl => ?_, fun i g b hg hb => ?_, fun i j g g' b hg hg' hb hb' => ?_⟩
  · rw [List.map_replicate]; exact h
  · rw [hr i g hg, (List.mem_replicate.1 (List.mem_of_getElem? hl)).2]; exact Own.nil _ _ _ _
  · rw [hr i g hg] at hb; cases hb
  · rw [hr i g hg] at hb; cases hb
/-- A row grows: the head is read, the numbers are appended, the new head is written. -/
theorem OwnR.append {k : IntKind} {e eo : TypeId} {bytes lo : Nat} {w : World} {bo m : Nat} {hs : List Hdr} {L : List (List Int)} {i : Nat} {g : Hdr} {l zs : List Int} {x : Option Addr} {xc : Nat} {K : Option Addr → Nat → Nat → World → Prop}
    (h : OwnR k e eo (fun b => lo ≤ b) w bo hs L) (hg : hs[i]? = Option.some g) (hl : L[i]? = Option.some l) (hx : SlI k w x zs) (hm : zs.length = m) (hs' : (l.length + m) * bytes ≤ 140737488355328) (hb : 0 < bytes) (hlo : lo ≤ w.heap.size)
    (hk : ∀ a' c' w', (∀ K2 : World → Prop, (∀ w'', OwnR k e eo (fun b => lo ≤ b) w'' bo (hs.set i (a', g.2.1 + m, c')) (L.set i (l ++ zs)) → Chg (fun b => lo ≤ b) w w'' → K2 w'') → stC ⟨bo, i, none⟩ (.slice a' (g.2.1 + m) c') w' K2) → Chg (fun b => lo ≤ b) w w' → K a' (g.2.1 + m) c' w') :
    appL e 1 bytes [.int k 0] g.1 g.2.1 g.2.2 x m xc w K := by
  have ho := h.row i g l hg hl
  have hlen := ho.length
  refine appL_own ho.tight hx hm (by rw [← hlen]; exact hs') hb fun a' c' w1 ho1 hc1 => hk a' c' w1 (fun K2 hK2 => ?_) (hc1.mono fun b hb => hb.2)
  have hil : i < hs.length := (List.getElem?_eq_some_iff.1 hg).1
  have hbo : Bl eo w1 bo (hs.map Hdr.v) := h.head.chg hc1 fun hh => h.ne i g bo hg hh.1 rfl
  refine stC_b hbo (by simpa using hil) fun w2 hb2 hc2 => hK2 w2 ?_ ((hc1.mono fun b hb => hb.2).then hc2 fun b hb he => by subst he; exact h.inS)
  have hsz := hc1.size
  have hbolt := h.head.lt
  have hnew : ∀ b, a' = Option.some ⟨b, 0, none⟩ → (g.1 = Option.some ⟨b, 0, none⟩ ∨ b = w.heap.size) := fun b hb => by
    rcases ho1 with ⟨h0, _⟩ | ⟨b', xs, h0, hS, _⟩
    · rw [h0] at hb; cases hb
    · rw [h0] at hb; cases hb
      exact hS.imp (fun h => h.1) id
  have hset : ∀ (j : Nat) (f : Hdr), (hs.set i (a', g.2.1 + m, c'))[j]? = Option.some f → (j = i ∧ f = (a', g.2.1 + m, c')) ∨ (j ≠ i ∧ hs[j]? = Option.some f) := fun j f hf => by
    by_cases hj : i = j
    · subst hj
      rw [List.getElem?_set_self hil] at hf
      exact .inl ⟨rfl, (Option.some.inj hf).symm⟩
    · rw [List.getElem?_set_ne hj] at hf
      exact .inr ⟨fun e => hj e.symm, hf⟩
  have old : ∀ (j : Nat) (f : Hdr) (b : Nat), hs[j]? = Option.some f → f.1 = Option.some ⟨b, 0, none⟩ → b < w.heap.size := fun j f b hf hb => by
    have hjl : j < L.length := by rw [← h.len]; exact (List.getElem?_eq_some_iff.1 hf).1
    rcases h.row j f _ hf (List.getElem?_eq_getElem hjl) with ⟨h0, _⟩ | ⟨b', xs, h0, _, hb', _⟩
    · rw [h0] at hb; cases hb
    · rw [h0] at hb; cases hb; exact hb'.lt
  refine ⟨by rw [List.length_set, List.length_set]; exact h.len, ?_, h.inS, fun j f l' hf hl' => ?_, fun j f b hf hb => ?_, fun j j' f f' b hf hf' hb hb' => ?_⟩
  · rw [List.map_set]; exact hb2
  · rcases hset j f hf with ⟨rfl, rfl⟩ | ⟨hj, hf⟩
    · rw [List.getElem?_set_self (by rw [← h.len]; exact hil)] at hl'
      cases hl'
      refine (ho1.chg hc2 ?_).mono fun b hb _ => hb.elim (fun h => h.2) fun h => by omega
      rintro b (hb | hb) e
      · exact h.ne j g b hg hb.1 e
      · omega
    · rw [List.getElem?_set_ne (fun e => hj e.symm)] at hl'
      have hr := (h.row j f l' hf hl').tight
      refine ((hr.chg hc1 ?_).chg hc2 ?_).mono fun b hb _ => hb.2
      · intro b hb hb1
        exact hj (h.apart j i f g b hf hg hb.1 hb1.1)
      · intro b hb e
        exact h.ne j f b hf hb.1 e
  · rcases hset j f hf with ⟨rfl, rfl⟩ | ⟨hj, hf⟩
    · rcases hnew b hb with h1 | h1
      · exact h.ne j g b hg h1
      · omega
    · exact h.ne j f b hf hb
  · rcases hset j f hf with ⟨rfl, rfl⟩ | ⟨hj, hf2⟩ <;> rcases hset j' f' hf' with ⟨rfl, rfl⟩ | ⟨hj', hf2'⟩
    · rfl
    · rcases hnew b hb with h1 | h1
      · exact absurd (h.apart _ _ _ _ b hf2' hg hb' h1) hj'
      · have := old j' f' b hf2' hb'; omega
    · rcases hnew b hb' with h1 | h1
      · exact absurd (h.apart _ _ _ _ b hf2 hg hb h1) hj
      · have := old j f b hf2 hb; omega
    · exact h.apart j j' f f' b hf2 hf2' hb hb'
end Go.Proofs.Ytdbnobeopgfhgaa.Vm
