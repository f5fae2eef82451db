/- Own slices of cells of any kind that grow, and tables of rows. No statement of the seat is in this text. -/
import Derived.Test.YtdbnobeopgfhgaaVmS
set_option linter.unusedVariables false
set_option linter.unusedSimpArgs false
namespace Go.Proofs.Ytdbnobeopgfhgaa.Vm
open Go Go.RowKit
theorem stCs_go {e : TypeId} {b i : Nat} {K : World → Prop} : ∀ (zs : List Value) (j : Nat) (xs : List Value) (w : World), Bl e w b xs → (∀ v ∈ zs, one v = true) → i + j + zs.length ≤ xs.length →
    (∀ w', Bl e w' b (xs.take (i + j) ++ zs ++ xs.drop (i + j + zs.length)) → Chg (fun c => c = b) w w' → K w') → stCs ⟨b, i, none⟩ zs j w K
  | [], j, xs, w, h, _, hl, hk => hk w (by simpa using h) (Chg.refl _ _)
  | v :: r, j, xs, w, h, h1, hl, hk => by
    have hlr : (v :: r).length = r.length + 1 := rfl
    rw [hlr] at hl
    unfold stCs
    rw [h1 v List.mem_cons_self, cond_true, add_mk]
    refine stC_b h (by omega) fun w1 hb1 hc1 => stCs_go r (j + 1) _ w1 hb1 (fun u hu => h1 u (List.mem_cons_of_mem _ hu)) (by rw [List.length_set]; omega) fun w2 hb2 hc2 => hk w2 ?_ (hc1.trans hc2)
    have e1 : (xs.set (i + j) v).take (i + (j + 1)) = xs.take (i + j) ++ [v] := by
      rw [show i + (j + 1) = i + j + 1 by omega, List.take_succ_eq_append_getElem (by rw [List.length_set]; omega), List.take_set_of_le (Nat.le_refl _)]
      simp
    have e2 : (xs.set (i + j) v).drop (i + (j + 1) + r.length) = xs.drop (i + j + (r.length + 1)) := by
      rw [List.drop_set_of_lt (by omega)]
      congr 1; omega
    rw [e1, e2] at hb2
    rw [hlr]
    simpa using hb2
theorem stCs_v {e : TypeId} {w : World} {b i : Nat} {xs zs : List Value} {K : World → Prop} (h : Bl e w b xs) (h1 : ∀ v ∈ zs, one v = true) (hl : i + zs.length ≤ xs.length)
    (hk : ∀ w', Bl e w' b (xs.take i ++ zs ++ xs.drop (i + zs.length)) → Chg (fun c => c = b) w w' → K w') : stCs ((⟨b, 0, none⟩ : Addr).add i) zs 0 w K := by
  rw [add_mk, Nat.zero_add]
  exact stCs_go zs 0 xs w h h1 hl hk
/-- The slice `a` of cells lies in a block of `S` (or is nil) and reads `ys`. -/
def OwnV (e : TypeId) (S : Nat → Prop) (w : World) (a : Option Addr) (n c : Nat) (ys : List Value) : Prop :=
  (a = none ∧ n = 0 ∧ c = 0 ∧ ys = []) ∨ ∃ b xs, a = some ⟨b, 0, none⟩ ∧ S b ∧ Bl e w b xs ∧ xs.length = c ∧ n ≤ c ∧ ys = xs.take n
theorem OwnV.nil (e : TypeId) (S : Nat → Prop) (w : World) : OwnV e S w none 0 0 [] := .inl ⟨rfl, rfl, rfl, rfl⟩
theorem OwnV.length {e : TypeId} {S : Nat → Prop} {w : World} {a : Option Addr} {n c : Nat} {ys : List Value} (h : OwnV e S w a n c ys) : ys.length = n := by
  rcases h with ⟨_, h1, _, h2⟩ | ⟨b, xs, _, _, _, h1, h2, h3⟩
  · rw [h2, h1]; rfl
  · rw [h3, List.length_take]; omega
theorem OwnV.chg {T : Nat → Prop} {e : TypeId} {S : Nat → Prop} {w w' : World} {a : Option Addr} {n c : Nat} {ys : List Value} (h : OwnV e S w a n c ys) (hc : Chg T w w') (hn : ∀ b, S b → ¬ T b) : OwnV e S w' a n c ys := by
  rcases h with h | ⟨b, xs, h0, hS, hb, h1⟩
  · exact .inl h
  · exact .inr ⟨b, xs, h0, hS, hb.chg hc (hn b hS), h1⟩
theorem OwnV.mono {e : TypeId} {S T : Nat → Prop} {w : World} {a : Option Addr} {n c : Nat} {ys : List Value} (h : OwnV e S w a n c ys) (hs : ∀ b, S b → b < w.heap.size → T b) : OwnV e T w a n c ys := by
  rcases h with h | ⟨b, xs, h0, hS, hb, h1⟩
  · exact .inl h
  · exact .inr ⟨b, xs, h0, hs b hS hb.lt, hb, h1⟩
theorem OwnV.cell {e : TypeId} {S : Nat → Prop} {w : World} {a : Option Addr} {n c i : Nat} {ys : List Value} {v : Value} (h : OwnV e S w a n c ys) (hv : ys[i]? = some v) : ∃ p, a = some p ∧ w.cell? (p.add i) = some v := by
  rcases h with ⟨_, _, _, h2⟩ | ⟨b, xs, h0, _, hb, h1, h2, h3⟩
  · rw [h2] at hv; cases hv
  · refine ⟨_, h0, ?_⟩
    rw [add_mk, Nat.zero_add]
    refine hb.cell ?_
    rw [h3] at hv
    rw [List.getElem?_take] at hv
    split at hv
    · exact hv
    · cases hv
theorem Bl.rd {e : TypeId} {w : World} {b : Nat} {l : List Value} (h : Bl e w b l) : rdCs w ⟨b, 0, none⟩ l.length 0 = some l :=
  rdCs_of fun j v hj => by rw [Nat.zero_add, add_mk, Nat.zero_add]; exact h.cell hj
theorem Bl.rdN {e : TypeId} {w : World} {b n : Nat} {l : List Value} (h : Bl e w b l) (hn : n ≤ l.length) : rdCs w ⟨b, 0, none⟩ n 0 = some (l.take n) := by
  have : (l.take n).length = n := by rw [List.length_take]; omega
  suffices hh : rdCs w ⟨b, 0, none⟩ (l.take n).length 0 = some (l.take n) by rw [this] at hh; exact hh
  refine rdCs_of fun j v hj => ?_
  rw [Nat.zero_add, add_mk, Nat.zero_add]
  refine h.cell ?_
  rw [List.getElem?_take] at hj
  split at hj
  · exact hj
  · cases hj
theorem appL_ownV {e ex : TypeId} {bytes : Nat} {S : Nat → Prop} {w : World} {a : Option Addr} {n c m xc bx : Nat} {ys zs : List Value} {z : Value} {K : Option Addr → Nat → Nat → World → Prop}
    (h : OwnV e S w a n c ys) (hx : Bl ex w bx zs) (hm : zs.length = m) (h1 : ∀ v ∈ zs, one v = true) (hm0 : 0 < m) (hs : (n + m) * bytes ≤ 140737488355328) (hb : 0 < bytes)
    (hk : ∀ a' c' w', OwnV e (fun b => S b ∨ b = w.heap.size) w' a' (n + m) c' (ys ++ zs) → Chg S w w' → K a' (n + m) c' w') :
    appL e 1 bytes [z] a n c (some ⟨bx, 0, none⟩) m xc w K := by
  unfold appL
  have h64 : n + m ≤ (n + m) * bytes := Nat.le_mul_of_pos_right _ hb
  simp only [Nat.mul_one]
  rw [← hm, hx.rd, hm]
  show appG e 1 bytes [z] a n c m zs w K
  unfold appG
  by_cases hc : n + m ≤ c
  · rw [if_pos hc]
    rcases h with ⟨h0, h1', h2, h3⟩ | ⟨b, xs, h0, hS, hbl, hc1, hc2, h3⟩
    · omega
    · subst h0 h3
      simp only [Nat.mul_one]
      refine stCs_v hbl h1 (by omega) fun w' hw hch => ?_
      refine hk _ _ w' (.inr ⟨b, _, rfl, .inl hS, hw, ?_, by omega, ?_⟩) (hch.mono fun k hk => by subst hk; exact hS)
      · simp; omega
      · rw [hm, List.take_append_of_le_length (by simp; omega)]; exact (List.take_of_length_le (by simp; omega)).symm
  · rw [if_neg hc]
    have hold : ∀ o : Option (List Value), (match (generalizing := false) a with | none => some [] | some a => rdCs w a (n * 1) 0) = o → o = some ys := by
      intro o ho
      rcases h with ⟨h0, h1, h2, h3⟩ | ⟨b, xs, h0, hS, hbl, h1, h2, h3⟩
      · subst h0 h3; rw [← ho]
      · subst h0
        simp only [Nat.mul_one] at ho
        rw [← ho, hbl.rdN (by omega), h3]
    split
    case h_2 he => exact absurd (hold _ he) (by simp)
    rename_i old he
    have := hold _ he
    simp only [Option.some.injEq] at this
    subst this
    refine ⟨⟨by omega, growslice_fits (by omega) hs⟩, ?_⟩
    have hg : n + m ≤ grownCap w (n + m) c e := grownCap_ge _ _ _ _
    rw [zrow_one]
    have hl := h.length
    refine hk _ _ _ (.inr ⟨w.heap.size, old ++ zs ++ List.replicate (grownCap w (n + m) c e - (n + m)) z, rfl, .inr rfl, ?_, ?_, hg, ?_⟩) ((chg_drew_alloc w _).mono fun _ h => h.elim)
    · unfold Bl; rw [show w.heap.size = w.drew.heap.size from rfl, heap_alloc_new]
    · simp; omega
    · rw [List.take_append_of_le_length (by simp; omega)]; exact (List.take_of_length_le (by simp; omega)).symm
theorem nodup_inj {α : Type} : ∀ {l : List α} {i j : Nat} {x : α}, l.Nodup → l[i]? = some x → l[j]? = some x → i = j
  | [], i, j, x, _, h, _ => by cases h
  | y :: l, 0, 0, x, _, _, _ => rfl
  | y :: l, 0, j + 1, x, hn, hi, hj => by
    cases hi
    exact absurd (List.mem_of_getElem? (by simpa using hj)) (List.nodup_cons.1 hn).1
  | y :: l, i + 1, 0, x, hn, hi, hj => by
    cases hj
    exact absurd (List.mem_of_getElem? (by simpa using hi)) (List.nodup_cons.1 hn).1
  | y :: l, i + 1, j + 1, x, hn, hi, hj => by
    have := nodup_inj (i := i) (j := j) (x := x) (List.nodup_cons.1 hn).2 (by simpa using hi) (by simpa using hj)
    omega
/-- Blocks of `A`, and those that are new. -/
def gr (A : Nat → Prop) (w w' : World) : Nat → Prop := fun b => A b ∨ (w.heap.size ≤ b ∧ b < w'.heap.size)
theorem gr_trans {A : Nat → Prop} {w w' w'' : World} (h1 : w.heap.size ≤ w'.heap.size) (h2 : w'.heap.size ≤ w''.heap.size) : ∀ b, gr (gr A w w') w' w'' b → gr A w w'' b := fun b hb => by
  rcases hb with (hb | hb) | hb
  · exact .inl hb
  · exact .inr ⟨hb.1, by omega⟩
  · exact .inr ⟨by omega, hb.2⟩
/-- Two sets of blocks that are there and apart. -/
structure Dis (A B : Nat → Prop) (w : World) : Prop where
  a : ∀ x, A x → x < w.heap.size
  b : ∀ x, B x → x < w.heap.size
  ab : ∀ x, A x → ¬ B x
theorem Dis.swap {A B : Nat → Prop} {w : World} (h : Dis A B w) : Dis B A w := ⟨h.b, h.a, fun x hb ha => h.ab x ha hb⟩
theorem Dis.grow {A B : Nat → Prop} {w w' : World} (h : Dis A B w) (hs : w.heap.size ≤ w'.heap.size) : Dis (gr A w w') B w' :=
  ⟨fun x hx => hx.elim (fun hx => Nat.lt_of_lt_of_le (h.a x hx) hs) fun hx => hx.2, fun x hx => Nat.lt_of_lt_of_le (h.b x hx) hs,
   fun x hx hb => hx.elim (fun hx => h.ab x hx hb) fun hx => Nat.lt_irrefl _ (Nat.lt_of_lt_of_le (h.b x hb) hx.1)⟩
theorem Dis.size {A B : Nat → Prop} {w w' : World} (h : Dis A B w) (hs : w.heap.size ≤ w'.heap.size) : Dis A B w' := ⟨fun x hx => Nat.lt_of_lt_of_le (h.a x hx) hs, fun x hx => Nat.lt_of_lt_of_le (h.b x hx) hs, h.ab⟩
theorem Dis.sub {A B A' B' : Nat → Prop} {w : World} (h : Dis A B w) (ha : ∀ x, A' x → A x) (hb : ∀ x, B' x → B x) : Dis A' B' w := ⟨fun x hx => h.a x (ha x hx), fun x hx => h.b x (hb x hx), fun x hx hy => h.ab x (ha x hx) (hb x hy)⟩
/-- A table of rows: the heads lie in an own slice, each row in the block that `bs` names. -/
structure TabR (k : IntKind) (e eo : TypeId) (S : Nat → Prop) (w : World) (a : Option Addr) (n c : Nat) (bs : List Nat) (L : List (List Int)) : Prop where
  len : bs.length = L.length
  size : n = L.length
  head : ∃ hs : List Hdr, OwnV eo (fun b => S b ∧ b ∉ bs) w a n c (hs.map Hdr.v) ∧ hs.length = n ∧ ∀ (i : Nat) (h : Hdr) (b : Nat) (l : List Int), hs[i]? = some h → bs[i]? = some b → L[i]? = some l → h.1 = some ⟨b, 0, none⟩ ∧ h.2.1 = l.length
  row : ∀ (i b : Nat) (l : List Int), bs[i]? = some b → L[i]? = some l → S b ∧ ∃ xs, BlI k e w b xs ∧ l = xs.take l.length ∧ l.length ≤ xs.length
  nodup : bs.Nodup
theorem TabR.nil (k : IntKind) (e eo : TypeId) (S : Nat → Prop) (w : World) : TabR k e eo S w none 0 0 [] [] :=
  ⟨rfl, rfl, ⟨[], OwnV.nil _ _ _, rfl, fun i h b l hh => by cases hh⟩, (fun i b l hb => by cases hb), List.nodup_nil⟩
theorem TabR.chg {T : Nat → Prop} {k : IntKind} {e eo : TypeId} {S : Nat → Prop} {w w' : World} {a : Option Addr} {n c : Nat} {bs : List Nat} {L : List (List Int)} (h : TabR k e eo S w a n c bs L) (hc : Chg T w w') (hn : ∀ b, S b → ¬ T b) : TabR k e eo S w' a n c bs L := by
  obtain ⟨hs, ho, h1, h2⟩ := h.head
  refine ⟨h.len, h.size, ⟨hs, ho.chg hc fun b hb => hn b hb.1, h1, h2⟩, fun i b l hb hl => ?_, h.nodup⟩
  obtain ⟨hS, xs, hx, h3⟩ := h.row i b l hb hl
  exact ⟨hS, xs, hx.chg hc (hn b hS), h3⟩
theorem TabR.mono {k : IntKind} {e eo : TypeId} {S T : Nat → Prop} {w : World} {a : Option Addr} {n c : Nat} {bs : List Nat} {L : List (List Int)} (h : TabR k e eo S w a n c bs L) (hs : ∀ b, S b → b < w.heap.size → T b) : TabR k e eo T w a n c bs L := by
  obtain ⟨hh, ho, h1, h2⟩ := h.head
  refine ⟨h.len, h.size, ⟨hh, ho.mono fun b hb hl => ⟨hs b hb.1 hl, hb.2⟩, h1, h2⟩, fun i b l hb hl => ?_, h.nodup⟩
  obtain ⟨hS, xs, hx, h3⟩ := h.row i b l hb hl
  exact ⟨hs b hS hx.bl.lt, xs, hx, h3⟩
/-- A row is appended: it lies in a block of its own. -/
theorem TabR.append {k : IntKind} {e eo ex : TypeId} {bytes lo : Nat} {w : World} {a : Option Addr} {n c bx b0 c0 xc : Nat} {bs : List Nat} {L : List (List Int)} {l : List Int} {z : Value} {K : Option Addr → Nat → Nat → World → Prop}
    (h : TabR k e eo (fun b => lo ≤ b) w a n c bs L) (hl : Own k e (fun b => b = b0) w (some ⟨b0, 0, none⟩) l.length c0 l) (hlo : lo ≤ b0) (hb0 : ∀ b, lo ≤ b → a = some ⟨b, 0, none⟩ → b ≠ b0) (hbs : b0 ∉ bs)
    (hx : Bl ex w bx [.slice (some ⟨b0, 0, none⟩) l.length c0]) (hs : (n + 1) * bytes ≤ 140737488355328) (hby : 0 < bytes)
    (hk : ∀ a' c' w', TabR k e eo (fun b => lo ≤ b) w' a' (n + 1) c' (bs ++ [b0]) (L ++ [l]) → Chg (fun b => lo ≤ b ∧ b ∉ bs ∧ b ≠ b0) w w' → (∀ b, a' = some ⟨b, 0, none⟩ → a = some ⟨b, 0, none⟩ ∨ b = w.heap.size) → K a' (n + 1) c' w') :
    appL eo 1 bytes [z] a n c (some ⟨bx, 0, none⟩) 1 xc w K := by
  obtain ⟨hh, ho, h1, h2⟩ := h.head
  have ho' : OwnV eo (fun b => lo ≤ b ∧ b ∉ bs ∧ b ≠ b0 ∧ a = some ⟨b, 0, none⟩) w a n c (hh.map Hdr.v) := by
    rcases ho with h | ⟨b, xs, e0, hS, hr⟩
    · exact .inl h
    · exact .inr ⟨b, xs, e0, ⟨hS.1, hS.2, hb0 b hS.1 e0, e0⟩, hr⟩
  obtain ⟨xs0, hxb, hxt, hxl⟩ : ∃ xs, BlI k e w b0 xs ∧ l = xs.take l.length ∧ l.length ≤ xs.length := by
    rcases hl with ⟨h, _⟩ | ⟨b, xs, e0, hS, hb, h3, h4, h5⟩
    · cases h
    · cases e0
      exact ⟨xs, hb, h5, by omega⟩
  have hb0lt : b0 < w.heap.size := hxb.bl.lt
  have hbslt : ∀ b ∈ bs, b < w.heap.size := fun b hb => by
    obtain ⟨i, hi, rfl⟩ := List.getElem_of_mem hb
    obtain ⟨_, xs, hx, _⟩ := h.row i bs[i] (L[i]'(by rw [← h.len]; exact hi)) (List.getElem?_eq_getElem hi) (List.getElem?_eq_getElem _)
    exact hx.bl.lt
  have hlo' : lo ≤ w.heap.size := by omega
  refine appL_ownV ho' hx rfl (fun v hv => by rw [List.mem_singleton.1 hv]; rfl) (by omega) hs hby fun a' c' w' ho1 hc1 => ?_
  have hc1' : Chg (fun b => lo ≤ b ∧ b ∉ bs ∧ b ≠ b0) w w' := hc1.mono fun b hb => ⟨hb.1, hb.2.1, hb.2.2.1⟩
  refine hk a' c' w' ⟨by simp [h.len], by simp [h.size], ⟨hh ++ [(some ⟨b0, 0, none⟩, l.length, c0)], ?_, by simp [h1], ?_⟩, ?_, ?_⟩ hc1' ?_
  · rw [List.map_append]
    refine ho1.mono fun b hb hlt => ?_
    rcases hb with hb | hb
    · exact ⟨hb.1, fun hm => by rcases List.mem_append.1 hm with hm | hm; exact hb.2.1 hm; exact hb.2.2.1 (List.mem_singleton.1 hm)⟩
    · refine ⟨by omega, fun hm => ?_⟩
      rcases List.mem_append.1 hm with hm | hm
      · have := hbslt b hm; omega
      · have := List.mem_singleton.1 hm; omega
  · intro i g b l' hg hb hl'
    by_cases hi : i < n
    · rw [List.getElem?_append_left (by omega)] at hg
      rw [List.getElem?_append_left (by rw [h.len, ← h.size]; exact hi)] at hb
      rw [List.getElem?_append_left (by rw [← h.size]; exact hi)] at hl'
      exact h2 i g b l' hg hb hl'
    · have hi' : i = n := by
        have := (List.getElem?_eq_some_iff.1 hg).1
        rw [List.length_append, h1] at this
        simp at this; omega
      subst hi'
      rw [List.getElem?_append_right (by omega), h1, Nat.sub_self] at hg
      rw [List.getElem?_append_right (by rw [h.len, ← h.size]; exact Nat.le_refl _), h.len, ← h.size, Nat.sub_self] at hb
      rw [List.getElem?_append_right (by rw [← h.size]; exact Nat.le_refl _), ← h.size, Nat.sub_self] at hl'
      cases hg; cases hb; cases hl'
      exact ⟨rfl, rfl⟩
  · intro i b l' hb hl'
    by_cases hi : i < n
    · rw [List.getElem?_append_left (by rw [h.len, ← h.size]; exact hi)] at hb
      rw [List.getElem?_append_left (by rw [← h.size]; exact hi)] at hl'
      obtain ⟨hS, xs, hx, h3⟩ := h.row i b l' hb hl'
      exact ⟨hS, xs, hx.chg hc1' fun hh => hh.2.1 (List.mem_of_getElem? hb), h3⟩
    · have hi' : i = n := by
        have := (List.getElem?_eq_some_iff.1 hb).1
        rw [List.length_append, h.len, ← h.size] at this
        simp at this; omega
      subst hi'
      rw [List.getElem?_append_right (by rw [h.len, ← h.size]; exact Nat.le_refl _), h.len, ← h.size, Nat.sub_self] at hb
      rw [List.getElem?_append_right (by rw [← h.size]; exact Nat.le_refl _), ← h.size, Nat.sub_self] at hl'
      cases hb; cases hl'
      exact ⟨hlo, xs0, hxb.chg hc1' fun hh => hh.2.2 rfl, hxt, hxl⟩
  · rw [List.nodup_append]
    exact ⟨h.nodup, by simp, fun x hx y hy e => by rw [List.mem_singleton.1 hy] at e; exact hbs (e ▸ hx)⟩
  · intro b hb
    rcases ho1 with ⟨h0, _⟩ | ⟨b', xs, h0, hS, _⟩
    · rw [h0] at hb; cases hb
    · rw [h0] at hb; cases hb
      exact hS.imp (fun h => h.2.2.2) id
/-- The head of a row is read. -/
theorem TabR.get {k : IntKind} {e eo : TypeId} {S : Nat → Prop} {w : World} {a : Option Addr} {n c i : Nat} {bs : List Nat} {L : List (List Int)} {x : Int} {l : List Int} {K : Addr → Option Addr → Nat → Nat → Prop} (h : TabR k e eo S w a n c bs L)
    (hx : x = i) (hl : L[i]? = some l) (hk : ∀ p b c', bs[i]? = some b → K p (some ⟨b, 0, none⟩) l.length c') : sm a fun p => if 0 ≤ x ∧ x < (n : Int) then ldL (p.add x.toNat) w (K p) else False := by
  obtain ⟨hs, ho, h1, h2⟩ := h.head
  have hi : i < n := by rw [h.size]; exact (List.getElem?_eq_some_iff.1 hl).1
  have hg : hs[i]? = some (hs[i]'(by omega)) := List.getElem?_eq_getElem _
  have hb : bs[i]? = some (bs[i]'(by rw [h.len, ← h.size]; exact hi)) := List.getElem?_eq_getElem _
  obtain ⟨p, rfl, hc⟩ := ho.cell (i := i) (v := Hdr.v (hs[i]'(by omega))) (by rw [List.getElem?_map, hg]; rfl)
  have := h2 i _ _ l hg hb hl
  subst hx
  refine sm_some (if_of ⟨by omega, by omega⟩ ?_)
  rw [show Int.toNat (i : Int) = i by omega]
  refine ldL_of hc ?_
  rw [this.1, this.2]
  exact hk p _ _ hb
theorem TabR.blk {k : IntKind} {e eo : TypeId} {S : Nat → Prop} {w : World} {a : Option Addr} {n c i b : Nat} {bs : List Nat} {L : List (List Int)} {l : List Int} (h : TabR k e eo S w a n c bs L) (hb : bs[i]? = some b) (hl : L[i]? = some l) :
    SlI k w (some ⟨b, 0, none⟩) l := fun j hj => by
  obtain ⟨_, xs, hx, h1, h2⟩ := h.row i b l hb hl
  obtain ⟨p, hp, hc⟩ := hx.sl j (by omega)
  refine ⟨p, hp, ?_⟩
  rw [hc]
  congr 2
  rw [show l[j] = (xs.take l.length)[j]'(by rw [← h1]; exact hj) from by congr 1]
  simp
/-- A place in a row is written. -/
theorem TabR.put {k : IntKind} {e eo : TypeId} {S : Nat → Prop} {w : World} {a : Option Addr} {n c i b j : Nat} {bs : List Nat} {L : List (List Int)} {l : List Int} {v : Int} {K : World → Prop} (h : TabR k e eo S w a n c bs L) (hb : bs[i]? = some b) (hl : L[i]? = some l) (hj : j < l.length)
    (hk : ∀ w', TabR k e eo S w' a n c bs (L.set i (l.set j v)) → Chg (fun x => x = b ∧ S x) w w' → K w') : stC ((⟨b, 0, none⟩ : Addr).add j) (.int k v) w K := by
  obtain ⟨hS, xs, hx, h1, h2⟩ := h.row i b l hb hl
  have hi : i < L.length := (List.getElem?_eq_some_iff.1 hl).1
  refine stC_x hx (by omega) fun w' hw hc => hk w' ?_ (hc.mono fun x hx => ⟨hx, by rw [hx]; exact hS⟩)
  obtain ⟨hs, ho, h3, h4⟩ := h.head
  have hset : ∀ (q : Nat) (l' : List Int), (L.set i (l.set j v))[q]? = some l' → (q = i ∧ l' = l.set j v) ∨ (q ≠ i ∧ L[q]? = some l') := fun q l' hq => by
    by_cases e : i = q
    · subst e
      rw [List.getElem?_set_self hi] at hq
      exact .inl ⟨rfl, (Option.some.inj hq).symm⟩
    · rw [List.getElem?_set_ne e] at hq
      exact .inr ⟨fun h => e h.symm, hq⟩
  refine ⟨by rw [List.length_set]; exact h.len, by rw [List.length_set]; exact h.size, ⟨hs, ho.chg hc fun x hx' e => ?_, h3, fun q g b' l' hg hb' hl' => ?_⟩, fun q b' l' hb' hl' => ?_, h.nodup⟩
  · subst e; exact hx'.2 (List.mem_of_getElem? hb)
  · rcases hset q l' hl' with ⟨rfl, rfl⟩ | ⟨_, hl'⟩
    · have := h4 q g b' l hg hb' hl
      rw [List.length_set]; exact this
    · exact h4 q g b' l' hg hb' hl'
  · rcases hset q l' hl' with ⟨rfl, rfl⟩ | ⟨hq, hl'⟩
    · rw [hb] at hb'; cases hb'
      refine ⟨hS, _, hw, ?_, by rw [List.length_set, List.length_set]; exact h2⟩
      rw [List.length_set]
      rw [List.take_set, ← h1]
    · obtain ⟨hS', xs', hx', h5⟩ := h.row q b' l' hb' hl'
      refine ⟨hS', xs', hx'.chg hc fun e => ?_, h5⟩
      subst e
      exact hq (nodup_inj h.nodup hb' hb)
/-! ### Rows of one width, one behind the other -/
theorem flat_get {m : Nat} : ∀ {L : List (List Int)} {i k : Nat} {l : List Int}, (∀ r ∈ L, r.length = m) → L[i]? = some l → k < m → L.flatten[i * m + k]? = l[k]?
  | [], i, k, l, _, h, _ => by cases h
  | r :: L, 0, k, l, hm, h, hk => by
    cases h
    rw [List.flatten_cons, List.getElem?_append_left (by rw [hm _ List.mem_cons_self]; omega)]
    congr 1; omega
  | r :: L, i + 1, k, l, hm, h, hk => by
    have hr := hm r List.mem_cons_self
    have e : (i + 1) * m + k - r.length = i * m + k := by rw [Nat.succ_mul]; omega
    rw [List.flatten_cons, List.getElem?_append_right (by rw [Nat.succ_mul]; omega), e]
    exact flat_get (fun q hq => hm q (List.mem_cons_of_mem _ hq)) (by simpa using h) hk
theorem flat_set {m : Nat} {v : Int} : ∀ {L : List (List Int)} {i k : Nat} {l : List Int}, (∀ r ∈ L, r.length = m) → L[i]? = some l → k < m → L.flatten.set (i * m + k) v = (L.set i (l.set k v)).flatten
  | [], i, k, l, _, h, _ => by cases h
  | r :: L, 0, k, l, hm, h, hk => by
    cases h
    rw [List.flatten_cons, List.set_append_left _ _ (by rw [hm _ List.mem_cons_self]; omega), List.set_cons_zero, List.flatten_cons]
    congr 2; omega
  | r :: L, i + 1, k, l, hm, h, hk => by
    have hr := hm r List.mem_cons_self
    have e : (i + 1) * m + k - r.length = i * m + k := by rw [Nat.succ_mul]; omega
    rw [List.flatten_cons, List.set_append_right _ _ (by rw [Nat.succ_mul]; omega), e, List.set_cons_succ, List.flatten_cons, flat_set (fun q hq => hm q (List.mem_cons_of_mem _ hq)) (by simpa using h) hk]
theorem flat_length {m : Nat} : ∀ {L : List (List Int)}, (∀ r ∈ L, r.length = m) → L.flatten.length = L.length * m
  | [], _ => by simp
  | r :: L, h => by
    rw [List.flatten_cons, List.length_append, h r List.mem_cons_self, flat_length fun q hq => h q (List.mem_cons_of_mem _ hq), List.length_cons, Nat.succ_mul]; omega
theorem rows_set {m i k : Nat} {v : Int} {L : List (List Int)} {l : List Int} (h : ∀ r ∈ L, r.length = m) (hl : l ∈ L) : ∀ r ∈ L.set i (l.set k v), r.length = m := fun r hr => by
  rcases List.mem_or_eq_of_mem_set hr with hr | rfl
  · exact h r hr
  · rw [List.length_set]; exact h l hl
end Go.Proofs.Ytdbnobeopgfhgaa.Vm
