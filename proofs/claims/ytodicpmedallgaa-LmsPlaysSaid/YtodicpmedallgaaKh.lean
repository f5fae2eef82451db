/- The adaptive filter: the reference learns the same; residuals and what they are of. -/
import Derived.Test.YtodicpmedallgaaKg
set_option linter.unusedVariables false
set_option linter.unusedSimpArgs false
namespace Go.Proofs.Ytodicpmedallgaa.G
open Go Go.Proofs.Ytodicpmedallgaa.Vm Go.RowKit
theorem RS.mk {w : World} {b : Nat} {s : Fst} {xs : List Int} (h : BlI .i32 57 w b xs) (e : xs = s.ws ++ s.ls) : RS w b s := by subst e; exact h
theorem ref12_Learn_l2 {w0 : World} {b t : Nat} {s : Fst} {v : Int} {K : Option Addr → Int → World → Prop} (ho : Fok t s) (ht : t ≤ 4000)
    (hk : ∀ w, RS w b ⟨(lL s v).ws, s.ls⟩ → Chg (fun j => j = b) w0 w → K (some ⟨b, 0, none⟩) v w) (N : Nat) : ∀ (k : Nat) (w : World), k ≤ 8 → 8 - k < N → RS w b ⟨wsK s v k, s.ls⟩ → Chg (fun j => j = b) w0 w →
    ref12_Filter_Learn.l2 N (some ⟨b, 0, none⟩) v (sg (IntKind.wrap .i32 (v - lG s))) (k : Int) w K := by
  induction N with
  | zero => intro k w h1 h2; omega
  | succ N ih =>
    intro k w h1 h2 hf hc
    rw [ref12_Filter_Learn.l2]
    refine cond_of (fun hh => ?_) (fun hh => ?_)
    · have hk8 : k < 8 := by have := of_decide_eq_true hh; omega
      have hwl := wsK_length s v k
      have hf' : BlI .i32 57 w.drew b (wsK s v k ++ s.ls) := hf
      have hg : (wsK s v k ++ s.ls)[k]? = some (s.ws.getD k 0) := by
        rw [List.getElem?_append_left (by omega), wsK_get hk8, if_neg (by omega)]
      have hg2 : (wsK s v k ++ s.ls)[8 + k]? = some (s.ls.getD k 0) := app_l (s := ⟨wsK s v k, s.ls⟩) hwl ho.ll hk8
      refine sm_some (if_of ⟨by omega, by omega⟩ ?_)
      rw [Int.toNat_natCast, add_mk, Nat.zero_add]
      refine ldI_b hf'.bl (by rw [List.getElem?_map, hg]; rfl) (sm_some (if_of ⟨by omega, by omega⟩ ?_))
      rw [add_mk, add_mk, Nat.zero_add]
      refine ldI_b hf'.bl (by rw [List.getElem?_map, hg2]; rfl) (sm_some (ref12_sign_ok ⟨hf'.bl.cell (by rw [List.getElem?_map, hg]; rfl), if_of ⟨by omega, by omega⟩ ?_⟩))
      have e : IntKind.wrap .i32 (s.ws.getD k 0 + IntKind.wrap .i32 (sg (IntKind.wrap .i32 (v - lG s)) * sg (s.ls.getD k 0))) = lW s v k := by
        have h1 := sg_mul (IntKind.wrap .i32 (v - lG s)) (s.ls.getD k 0)
        have h2 := lW_bd (v := v) ho k
        rw [w32 (a := sg (IntKind.wrap .i32 (v - lG s)) * sg (s.ls.getD k 0)) (by omega) (by omega)]
        exact w32 (a := lW s v k) (by omega) (by omega)
      rw [e]
      refine stC_x hf' (by rw [List.length_append, hwl]; omega) fun w1 hb1 hc1 => ?_
      dsimp only
      rw [inc (by omega)]
      refine ih (k + 1) w1 (by omega) (by omega) ?_ ((hc.trans (Chg.drew _ w)).trans hc1)
      refine RS.mk hb1 ?_
      rw [List.set_append_left _ _ (by omega), wsK_set hk8]
    · have : k = 8 := by have := of_decide_eq_false hh; omega
      subst this
      rw [wsK_all] at hf
      exact hk w hf hc
/-- The numbers, moved on down to place `k`. -/
def lsK (l : List Int) (k : Nat) : List Int := (List.range 8).map fun j => if k < j then l.getD (j - 1) 0 else l.getD j 0
theorem lsK_length (l : List Int) (k : Nat) : (lsK l k).length = 8 := by simp [lsK]
theorem lsK_get {l : List Int} {k j : Nat} (h : j < 8) : (lsK l k)[j]? = some (if k < j then l.getD (j - 1) 0 else l.getD j 0) := by
  unfold lsK; rw [List.getElem?_map, List.getElem?_range h]; rfl
theorem lsK_top {l : List Int} (h : l.length = 8) : lsK l 7 = l := by
  match l, h with
  | [l0, l1, l2, l3, l4, l5, l6, l7], _ => rfl
theorem lsK_set {l : List Int} {k : Nat} (h0 : 0 < k) (h : k < 8) : (lsK l k).set k (l.getD (k - 1) 0) = lsK l (k - 1) := by
  apply List.ext_getElem?
  intro j
  by_cases hj : j < 8
  · rw [lsK_get hj]
    by_cases e : k = j
    · subst e
      rw [List.getElem?_set_self (by rw [lsK_length]; exact h), if_pos (by omega)]
    · rw [List.getElem?_set_ne e, lsK_get hj]
      congr 1
      by_cases h1 : k < j
      · rw [if_pos h1, if_pos (by omega)]
      · rw [if_neg h1, if_neg (by omega)]
  · rw [List.getElem?_eq_none (by rw [List.length_set, lsK_length]; omega), List.getElem?_eq_none (by rw [lsK_length]; omega)]
theorem lsK_end {l : List Int} {v : Int} (h : l.length = 8) : (lsK l 0).set 0 v = v :: l.take 7 := by
  match l, h with
  | [l0, l1, l2, l3, l4, l5, l6, l7], _ => rfl
theorem ref12_Learn_l6 {w0 : World} {b : Nat} {ws l : List Int} {v : Int} {K : Option Addr → Int → World → Prop} (hw : ws.length = 8) (hl : l.length = 8)
    (hk : ∀ w, RS w b ⟨ws, lsK l 0⟩ → Chg (fun j => j = b) w0 w → K (some ⟨b, 0, none⟩) v w) (N : Nat) : ∀ (k : Nat) (w : World), k < 8 → k < N → RS w b ⟨ws, lsK l k⟩ → Chg (fun j => j = b) w0 w →
    ref12_Filter_Learn.l6 N (some ⟨b, 0, none⟩) v (k : Int) w K := by
  induction N with
  | zero => intro k w h1 h2; omega
  | succ N ih =>
    intro k w h1 h2 hf hc
    rw [ref12_Filter_Learn.l6]
    refine cond_of (fun hh => ?_) (fun hh => ?_)
    · have hk0 : 0 < k := by have := of_decide_eq_true hh; omega
      have e1 : IntKind.wrap .i64 ((k : Int) - 1) = ((k - 1 : Nat) : Int) := by rw [w64 (by omega) (by omega)]; omega
      have hf' : BlI .i32 57 w.drew b (ws ++ lsK l k) := hf
      have hll := lsK_length l k
      have hg : (ws ++ lsK l k)[8 + (k - 1)]? = some (l.getD (k - 1) 0) := by
        rw [List.getElem?_append_right (by omega), hw, Nat.add_sub_cancel_left, lsK_get (by omega), if_neg (by omega)]
      rw [e1]
      refine sm_some (if_of ⟨by omega, by omega⟩ ?_)
      rw [Int.toNat_natCast, add_mk, add_mk, Nat.zero_add]
      refine ldI_b hf'.bl (by rw [List.getElem?_map, hg]; rfl) (sm_some (if_of ⟨by omega, by omega⟩ ?_))
      rw [Int.toNat_natCast, show ((⟨b, 0, none⟩ : Addr).add 8).add k = (⟨b, 0, none⟩ : Addr).add (8 + k) by rw [add_mk, add_mk, add_mk]; congr 1; omega]
      refine stC_x hf' (by rw [List.length_append, hw, hll]; omega) fun w1 hb1 hc1 => ?_
      dsimp only
      refine ih (k - 1) w1 (by omega) (by omega) ?_ ((hc.trans (Chg.drew _ w)).trans hc1)
      refine RS.mk hb1 ?_
      rw [List.set_append_right _ _ (by omega), hw, Nat.add_sub_cancel_left, lsK_set hk0 h1]
    · have : k = 0 := by have := of_decide_eq_false hh; omega
      subst this
      exact hk w hf hc
theorem ref12_Learn_ok {w : World} {b t : Nat} {s : Fst} {v : Int} {K : World → Prop} (h : RS w b s) (ho : Fok t s) (ht : t ≤ 4000)
    (hk : ∀ w', RS w' b (lL s v) → Chg (fun j => j = b) w w' → K w') : ref12_Filter_Learn.f (some ⟨b, 0, none⟩) v w K := by
  unfold ref12_Filter_Learn.f
  refine ref12_Guess_ok h ho ht fun w1 hc1 => ref12_sign_ok ⟨9, ?_⟩
  have h1 := h.chg hc1 fun h => h
  have hwl : (lL s v).ws.length = 8 := by simp [lL]
  refine ref12_Learn_l2 (w0 := w1) ho ht (fun w2 hf2 hc2 => ⟨9, ?_⟩) 9 0 w1 (by omega) (by omega) (by rw [wsK_zero ho.wl]; exact h1) (Chg.refl _ _)
  refine ref12_Learn_l6 (w0 := w2) (ws := (lL s v).ws) (l := s.ls) hwl ho.ll (fun w3 hf3 hc3 => sm_some ?_) 9 7 w2 (by omega) (by omega) (by rw [lsK_top ho.ll]; exact hf2) (Chg.refl _ _)
  refine stC_x hf3 (by rw [List.length_append, hwl]; simp [lsK_length]) fun w4 hb4 hc4 => hk w4 ?_ ((((hc1.mono fun _ h => h.elim).trans hc2).trans hc3).trans hc4)
  refine RS.mk hb4 ?_
  show ((lL s v).ws ++ lsK s.ls 0).set 8 v = _
  rw [List.set_append_right _ _ (by omega), hwl, Nat.sub_self, lsK_end ho.ll]; rfl
theorem lms_New_ok {w : World} {K : Option Addr → World → Prop} (hk : ∀ w', FS w' w.heap.size f0 → Chg no w w' → w'.heap.size = w.heap.size + 1 → K (some ⟨w.heap.size, 0, none⟩) w') : lms_New.f w K := by
  unfold lms_New.f
  exact newC_b fun w1 hb hc hs => hk w1 hb hc hs
theorem old_lt {k : IntKind} {w : World} {x : Option Addr} {xs : List Int} (hx : SlI k w x xs) {lo : Nat} (h : w.heap.size ≤ lo) : ∀ p, x = some p → xs ≠ [] → ¬ lo ≤ p.block := fun p hp hne => by
  obtain ⟨q, hq, hcq⟩ := hx 0 (List.length_pos_iff.2 hne)
  rw [hp] at hq; cases hq
  have := block_lt hcq
  rw [add_block] at this
  omega
/-! ### Residuals -/
theorem drop_cons {l : List Int} {i : Nat} {v : Int} (h : l[i]? = some v) : l.drop i = v :: l.drop (i + 1) := by
  obtain ⟨hi, rfl⟩ := List.getElem?_eq_some_iff.1 h
  exact List.drop_eq_getElem_cons hi
theorem set_mid {a : List Int} {m i : Nat} {v : Int} (ha : a.length = i) : (a ++ List.replicate (m + 1) 0).set i v = (a ++ [v]) ++ List.replicate m 0 := by
  subst ha
  rw [List.set_append_right _ _ (Nat.le_refl _), Nat.sub_self, List.replicate_succ]; simp
theorem lms_Residual_l4 {w0 : World} {x y : Option Addr} {n c cy b lo : Nat} {xs : List Int} {K0 : Option Addr → Nat → Nat → World → Prop} (hx : SlI .i32 w0 x xs) (hxS : ∀ p, x = some p → xs ≠ [] → ¬ lo ≤ p.block) (hxl : xs.length = n) (hb : I32 xs) (hn : n ≤ 4000) (hlo : lo ≤ b)
    (hk : ∀ w, Own .i32 21 (fun j => lo ≤ j ∧ j ≠ b) w y n cy (lRes f0 xs) → Chg (fun j => lo ≤ j) w0 w → K0 y n cy w) (N : Nat) :
    ∀ (i : Nat) (w : World) (s : Fst) (pre : List Int), i ≤ n → n - i < N → pre.length = i → pre ++ lRes s (xs.drop i) = lRes f0 xs → Fok i s → FS w b s → Own .i32 21 (fun j => lo ≤ j ∧ j ≠ b) w y n cy (pre ++ List.replicate (n - i) 0) → Chg (fun j => lo ≤ j) w0 w →
      lms_Residual.l4 N (some ⟨b, 0, none⟩) y n cy x n c n i w K0 := by
  induction N with
  | zero => intro i w s pre h1 h2; omega
  | succ N ih =>
    intro i w s pre hi hN hpl hpre hok hf ho hc
    rw [lms_Residual.l4]
    by_cases hlt : i < n
    · have hx1 := hx.chg hc hxS
      have hv := getD_some (xs := xs) (i := i) (by omega)
      have hvb := hb.get (i := i) (by omega)
      rw [drop_cons hv, lRes] at hpre
      refine bif_t (dec_t (by omega)) (rdV hx1 i rfl hxl hv fun _ _ => lms_Guess_ok hf hok ?_)
      refine wrS ho i rfl (by simp [hpl]; omega) fun _ w2 ho2 hc2 => ?_
      have hf2 := hf.chg hc2 fun h => h.2 rfl
      refine lms_Learn_ok hf2 hok (by omega) fun w3 hf3 hc3 => ?_
      rw [inc (by omega)]
      rw [show n - i = (n - (i + 1)) + 1 by omega, set_mid hpl] at ho2
      refine ih (i + 1) w3 _ _ (by omega) (by omega) (by simp [hpl]) ?_ (hok.step hvb) hf3 (ho2.chg hc3 fun j hj => hj.2) ((hc.trans (hc2.mono fun _ h => h.1)).trans (hc3.mono fun j h => by omega))
      rw [List.append_assoc]; exact hpre
    · have : i = n := by omega
      subst this
      rw [List.drop_of_length_le (by omega), show lRes s [] = [] from rfl, List.append_nil] at hpre
      rw [Nat.sub_self, List.replicate_zero, List.append_nil, hpre] at ho
      exact bif_f (dec_f (by omega)) (hk w ho hc)
theorem lms_Residual_ok {x : Option Addr} {n c : Nat} {xs : List Int} {w : World} {K : Option Addr → Nat → Nat → World → Prop} (hx : SlI .i32 w x xs) (hxl : xs.length = n) (hb : I32 xs) (hn : n ≤ 4000)
    (hk : ∀ a' c' w', Own .i32 21 (fun b => w.heap.size ≤ b) w' a' n c' (lRes f0 xs) → Chg no w w' → K a' n c' w') : lms_Residual.f x n c w K := by
  unfold lms_Residual.f
  refine lms_New_ok fun w1 hf1 hc1 hs1 => ?_
  generalize hcn : (n : Int) = n'
  refine mkL_b (by omega) (by omega) (by omega) (by omega) fun w2 hb2 hc2 hs2 => ⟨n + 1, ?_⟩
  subst hcn
  rw [Int.toNat_natCast] at hb2 ⊢
  have hc := hc1.trans hc2
  have ho := BlI.own (fun b => w.heap.size ≤ b ∧ b ≠ w.heap.size) hb2 ⟨by omega, by omega⟩
  rw [List.length_replicate] at ho
  have old : ∀ p, x = some p → xs ≠ [] → ¬ w.heap.size ≤ p.block := fun p hp hne => by
    have := old_lt hx (Nat.le_refl _) p hp hne; omega
  exact lms_Residual_l4 (lo := w.heap.size) (w0 := w2) (c := c) (hx.chg hc fun _ _ _ h => h) old hxl hb hn (Nat.le_refl _)
    (fun w3 ho3 hc3 => hk _ _ w3 (ho3.mono fun b hb _ => hb.1) (hc.then hc3 fun k hk h => by omega)) (n + 1) 0 w2 f0 [] (by omega) (by omega) rfl rfl Fok.zero (hf1.chg hc2 fun h => h) (by simpa using ho) (Chg.refl _ _)
theorem lms_Restore_l4 {w0 : World} {x y : Option Addr} {n c cy b lo : Nat} {xs : List Int} {K0 : Option Addr → Nat → Nat → World → Prop} (hx : SlI .i32 w0 x xs) (hxS : ∀ p, x = some p → xs ≠ [] → ¬ lo ≤ p.block) (hxl : xs.length = n) (hb : I32 xs) (hn : n ≤ 4000) (hlo : lo ≤ b)
    (hk : ∀ w, Own .i32 21 (fun j => lo ≤ j ∧ j ≠ b) w y n cy (lRst f0 xs) → Chg (fun j => lo ≤ j) w0 w → K0 y n cy w) (N : Nat) :
    ∀ (i : Nat) (w : World) (s : Fst) (pre : List Int), i ≤ n → n - i < N → pre.length = i → pre ++ lRst s (xs.drop i) = lRst f0 xs → Fok i s → FS w b s → Own .i32 21 (fun j => lo ≤ j ∧ j ≠ b) w y n cy (pre ++ List.replicate (n - i) 0) → Chg (fun j => lo ≤ j) w0 w →
      lms_Restore.l4 N (some ⟨b, 0, none⟩) y n cy x n c n i w K0 := by
  induction N with
  | zero => intro i w s pre h1 h2; omega
  | succ N ih =>
    intro i w s pre hi hN hpl hpre hok hf ho hc
    rw [lms_Restore.l4]
    by_cases hlt : i < n
    · have hx1 := hx.chg hc hxS
      have hv := getD_some (xs := xs) (i := i) (by omega)
      rw [drop_cons hv, lRst] at hpre
      refine bif_t (dec_t (by omega)) (rdV hx1 i rfl hxl hv fun _ _ => lms_Guess_ok hf hok ?_)
      refine wrS ho i rfl (by simp [hpl]; omega) fun _ w2 ho2 hc2 => ?_
      rw [show n - i = (n - (i + 1)) + 1 by omega, set_mid hpl] at ho2
      have hf2 := hf.chg hc2 fun h => h.2 rfl
      refine rdV ho2.sl i rfl ho2.length (by rw [List.append_assoc, List.getElem?_append_right (by omega), hpl, Nat.sub_self]; rfl) fun _ _ => ?_
      refine lms_Learn_ok hf2 hok (by omega) fun w3 hf3 hc3 => ?_
      rw [inc (by omega)]
      refine ih (i + 1) w3 _ _ (by omega) (by omega) (by simp [hpl]) ?_ (hok.step (w32_bd _)) hf3 (ho2.chg hc3 fun j hj => hj.2) ((hc.trans (hc2.mono fun _ h => h.1)).trans (hc3.mono fun j h => by omega))
      rw [List.append_assoc]; exact hpre
    · have : i = n := by omega
      subst this
      rw [List.drop_of_length_le (by omega), show lRst s [] = [] from rfl, List.append_nil] at hpre
      rw [Nat.sub_self, List.replicate_zero, List.append_nil, hpre] at ho
      exact bif_f (dec_f (by omega)) (hk w ho hc)
theorem lms_Restore_ok {x : Option Addr} {n c : Nat} {xs : List Int} {w : World} {K : Option Addr → Nat → Nat → World → Prop} (hx : SlI .i32 w x xs) (hxl : xs.length = n) (hb : I32 xs) (hn : n ≤ 4000)
    (hk : ∀ a' c' w', Own .i32 21 (fun b => w.heap.size ≤ b) w' a' n c' (lRst f0 xs) → Chg no w w' → K a' n c' w') : lms_Restore.f x n c w K := by
  unfold lms_Restore.f
  refine lms_New_ok fun w1 hf1 hc1 hs1 => ?_
  generalize hcn : (n : Int) = n'
  refine mkL_b (by omega) (by omega) (by omega) (by omega) fun w2 hb2 hc2 hs2 => ⟨n + 1, ?_⟩
  subst hcn
  rw [Int.toNat_natCast] at hb2 ⊢
  have hc := hc1.trans hc2
  have ho := BlI.own (fun b => w.heap.size ≤ b ∧ b ≠ w.heap.size) hb2 ⟨by omega, by omega⟩
  rw [List.length_replicate] at ho
  have old : ∀ p, x = some p → xs ≠ [] → ¬ w.heap.size ≤ p.block := fun p hp hne => by
    have := old_lt hx (Nat.le_refl _) p hp hne; omega
  exact lms_Restore_l4 (lo := w.heap.size) (w0 := w2) (c := c) (hx.chg hc fun _ _ _ h => h) old hxl hb hn (Nat.le_refl _)
    (fun w3 ho3 hc3 => hk _ _ w3 (ho3.mono fun b hb _ => hb.1) (hc.then hc3 fun k hk h => by omega)) (n + 1) 0 w2 f0 [] (by omega) (by omega) rfl rfl Fok.zero (hf1.chg hc2 fun h => h) (by simpa using ho) (Chg.refl _ _)
/-! ### The reference's -/
theorem ref_new {w : World} {K : Addr → World → Prop} (hk : ∀ w', RS w' w.heap.size f0 → Chg no w w' → w'.heap.size = w.heap.size + 1 → K ⟨w.heap.size, 0, none⟩ w') :
    newC 57 [(Value.int .i32 0), (Value.int .i32 0), (Value.int .i32 0), (Value.int .i32 0), (Value.int .i32 0), (Value.int .i32 0), (Value.int .i32 0), (Value.int .i32 0), (Value.int .i32 0), (Value.int .i32 0), (Value.int .i32 0), (Value.int .i32 0), (Value.int .i32 0), (Value.int .i32 0), (Value.int .i32 0), (Value.int .i32 0)] w K :=
  newC_b fun w1 hb hc hs => hk w1 hb hc hs
theorem ref12_Residual_l4 {w0 : World} {x : Option Addr} {n c b lo : Nat} {xs : List Int} {K0 : Option Addr → Nat → Nat → World → Prop} (hx : SlI .i32 w0 x xs) (hxS : ∀ p, x = some p → xs ≠ [] → ¬ lo ≤ p.block) (hxl : xs.length = n) (hb : I32 xs) (hn : n ≤ 4000) (hlo : lo ≤ b)
    (hk : ∀ y cy w, Own .i32 21 (fun j => lo ≤ j ∧ j ≠ b) w y n cy (lRes f0 xs) → Chg (fun j => lo ≤ j) w0 w → K0 y n cy w) (N : Nat) :
    ∀ (i : Nat) (y : Option Addr) (cy : Nat) (w : World) (s : Fst) (pre : List Int), i ≤ n → n - i < N → pre.length = i → pre ++ lRes s (xs.drop i) = lRes f0 xs → Fok i s → RS w b s → b < w.heap.size → Own .i32 21 (fun j => lo ≤ j ∧ j ≠ b) w y i cy pre → Chg (fun j => lo ≤ j) w0 w →
      ref12_Residual.l4 N x n c ⟨b, 0, none⟩ y i cy i w K0 := by
  induction N with
  | zero => intro i y cy w s pre h1 h2; omega
  | succ N ih =>
    intro i y cy w s pre hi hN hpl hpre hok hf hbl ho hc
    rw [ref12_Residual.l4]
    by_cases hlt : i < n
    · have hcd := hc.trans (Chg.drew _ w)
      have hx1 : SlI .i32 w.drew x xs := hx.chg hcd hxS
      have hv := getD_some (xs := xs) (i := i) (by omega)
      have hvb := hb.get (i := i) (by omega)
      rw [drop_cons hv, lRes] at hpre
      obtain ⟨p, rfl⟩ := hx1.some (by omega)
      have hp : ∀ w' (hw : Chg (fun j => lo ≤ j) w0 w'), w'.cell? (p.add i) = some (.int .i32 (xs.getD i 0)) := fun w' hw => by
        obtain ⟨q, hq, hcell⟩ := (hx.chg hw hxS) i (by omega)
        cases hq
        rw [hcell]
        congr 2
        obtain ⟨_, e⟩ := List.getElem?_eq_some_iff.1 hv
        exact e
      refine bif_t (dec_t (by omega)) (rdV (w := w.drew) hx1 i rfl hxl hv fun q hq => ?_)
      cases hq
      have hfd : RS w.drew b s := hf
      have hod : Own .i32 21 (fun j => lo ≤ j ∧ j ≠ b) w.drew y i cy pre := ho.chg (Chg.drew no w) fun _ _ h => h
      refine ref12_Guess_ok hfd hok (by omega) fun w1 hc1 => ?_
      have k1 := hcd.trans (hc1.mono fun _ h => h.elim)
      rw [Int.toNat_natCast]
      refine ⟨hp _ k1, newC_sl (k := .i32) (xs := [IntKind.wrap .i32 (xs.getD i 0 - lG s)]) rfl fun p2 w2 hs2 hc2 hz2 hpb => ?_⟩
      have k2 := k1.trans (hc2.mono fun _ h => h.elim)
      refine ⟨hp _ k2, ?_⟩
      have ho2 := (hod.chg hc1 fun _ _ h => h).chg hc2 fun _ _ h => h
      have hz := hc1.size
      have hzd : w.drew.heap.size = w.heap.size := rfl
      refine appL_own ho2 hs2 rfl (by omega) (by omega) fun a' c' w3 ho3 hc3 => ?_
      have k3 := k2.trans (hc3.mono fun _ h => h.1)
      refine ⟨hp _ k3, rdV (hx.chg k3 hxS) i rfl hxl hv fun _ _ => ?_⟩
      have hf3 := ((hfd.chg hc1 fun h => h).chg hc2 fun h => h).chg hc3 fun h => h.2 rfl
      refine ref12_Learn_ok hf3 hok (by omega) fun w4 hf4 hc4 => ?_
      dsimp only
      rw [inc (by omega)]
      have hzz := hc3.size
      have hz4 := hc4.size
      refine ih (i + 1) a' c' w4 _ (pre ++ [IntKind.wrap .i32 (xs.getD i 0 - lG s)]) (by omega) (by omega) (by simp [hpl]) ?_ (hok.step hvb) hf4 (by omega) ?_ (k3.trans (hc4.mono fun j h => by omega))
      · rw [List.append_assoc]; exact hpre
      · refine (ho3.chg hc4 fun j hj e => ?_).mono fun j hj _ => ?_
        · rcases hj with hj | hj
          · exact hj.2 e
          · omega
        · rcases hj with hj | hj
          · exact hj
          · exact ⟨by omega, by omega⟩
    · have : i = n := by omega
      subst this
      rw [List.drop_of_length_le (by omega), show lRes s [] = [] from rfl, List.append_nil] at hpre
      rw [hpre] at ho
      exact bif_f (dec_f (by omega)) (hk y cy w ho hc)
theorem ref12_Residual_ok {x : Option Addr} {n c : Nat} {xs : List Int} {w : World} {K : Option Addr → Nat → Nat → World → Prop} (hx : SlI .i32 w x xs) (hxl : xs.length = n) (hb : I32 xs) (hn : n ≤ 4000)
    (hk : ∀ a' c' w', Own .i32 21 (fun b => w.heap.size ≤ b) w' a' n c' (lRes f0 xs) → Chg no w w' → K a' n c' w') : ref12_Residual.f x n c w K := by
  unfold ref12_Residual.f
  refine ref_new fun w1 hf1 hc1 hs1 => ⟨n + 1, ?_⟩
  have old : ∀ p, x = some p → xs ≠ [] → ¬ w.heap.size ≤ p.block := fun p hp hne => by
    have := old_lt hx (Nat.le_refl _) p hp hne; omega
  exact ref12_Residual_l4 (lo := w.heap.size) (w0 := w1) (c := c) (hx.chg hc1 fun _ _ _ h => h) old hxl hb hn (Nat.le_refl _)
    (fun y cy w3 ho3 hc3 => hk y cy w3 (ho3.mono fun b hb _ => hb.1) (hc1.then hc3 fun k hk h => by omega)) (n + 1) 0 none 0 w1 f0 [] (by omega) (by omega) rfl rfl Fok.zero hf1 (by omega) (Own.nil _ _ _ _) (Chg.refl _ _)
theorem ref12_Restore_l4 {w0 : World} {x : Option Addr} {n c b lo : Nat} {xs : List Int} {K0 : Option Addr → Nat → Nat → World → Prop} (hx : SlI .i32 w0 x xs) (hxS : ∀ p, x = some p → xs ≠ [] → ¬ lo ≤ p.block) (hxl : xs.length = n) (hb : I32 xs) (hn : n ≤ 4000) (hlo : lo ≤ b)
    (hk : ∀ y cy w, Own .i32 21 (fun j => lo ≤ j ∧ j ≠ b) w y n cy (lRst f0 xs) → Chg (fun j => lo ≤ j) w0 w → K0 y n cy w) (N : Nat) :
    ∀ (i : Nat) (y : Option Addr) (cy : Nat) (w : World) (s : Fst) (pre : List Int), i ≤ n → n - i < N → pre.length = i → pre ++ lRst s (xs.drop i) = lRst f0 xs → Fok i s → RS w b s → b < w.heap.size → Own .i32 21 (fun j => lo ≤ j ∧ j ≠ b) w y i cy pre → Chg (fun j => lo ≤ j) w0 w →
      ref12_Restore.l4 N x n c ⟨b, 0, none⟩ y i cy i w K0 := by
  induction N with
  | zero => intro i y cy w s pre h1 h2; omega
  | succ N ih =>
    intro i y cy w s pre hi hN hpl hpre hok hf hbl ho hc
    rw [ref12_Restore.l4]
    by_cases hlt : i < n
    · have hcd := hc.trans (Chg.drew _ w)
      have hx1 : SlI .i32 w.drew x xs := hx.chg hcd hxS
      have hv := getD_some (xs := xs) (i := i) (by omega)
      rw [drop_cons hv, lRst] at hpre
      obtain ⟨p, rfl⟩ := hx1.some (by omega)
      have hp : ∀ w' (hw : Chg (fun j => lo ≤ j) w0 w'), w'.cell? (p.add i) = some (.int .i32 (xs.getD i 0)) := fun w' hw => by
        obtain ⟨q, hq, hcell⟩ := (hx.chg hw hxS) i (by omega)
        cases hq
        rw [hcell]
        congr 2
        obtain ⟨_, e⟩ := List.getElem?_eq_some_iff.1 hv
        exact e
      refine bif_t (dec_t (by omega)) (rdV (w := w.drew) hx1 i rfl hxl hv fun q hq => ?_)
      cases hq
      have hfd : RS w.drew b s := hf
      have hod : Own .i32 21 (fun j => lo ≤ j ∧ j ≠ b) w.drew y i cy pre := ho.chg (Chg.drew no w) fun _ _ h => h
      refine ref12_Guess_ok hfd hok (by omega) fun w1 hc1 => ?_
      have k1 := hcd.trans (hc1.mono fun _ h => h.elim)
      rw [Int.toNat_natCast]
      refine ⟨hp _ k1, ?_⟩
      dsimp only
      refine newC_sl (k := .i32) (xs := [IntKind.wrap .i32 (xs.getD i 0 + lG s)]) rfl fun p2 w2 hs2 hc2 hz2 hpb => ?_
      have k2 := k1.trans (hc2.mono fun _ h => h.elim)
      have ho2 := (hod.chg hc1 fun _ _ h => h).chg hc2 fun _ _ h => h
      have hz := hc1.size
      have hzd : w.drew.heap.size = w.heap.size := rfl
      refine appL_own ho2 hs2 rfl (by omega) (by omega) fun a' c' w3 ho3 hc3 => ?_
      have k3 := k2.trans (hc3.mono fun _ h => h.1)
      have hf3 := ((hfd.chg hc1 fun h => h).chg hc2 fun h => h).chg hc3 fun h => h.2 rfl
      refine ref12_Learn_ok hf3 hok (by omega) fun w4 hf4 hc4 => ?_
      rw [inc (by omega)]
      have hzz := hc3.size
      have hz4 := hc4.size
      refine ih (i + 1) a' c' w4 _ (pre ++ [IntKind.wrap .i32 (xs.getD i 0 + lG s)]) (by omega) (by omega) (by simp [hpl]) ?_ (hok.step (w32_bd _)) hf4 (by omega) ?_ (k3.trans (hc4.mono fun j h => by omega))
      · rw [List.append_assoc]; exact hpre
      · refine (ho3.chg hc4 fun j hj e => ?_).mono fun j hj _ => ?_
        · rcases hj with hj | hj
          · exact hj.2 e
          · omega
        · rcases hj with hj | hj
          · exact hj
          · exact ⟨by omega, by omega⟩
    · have : i = n := by omega
      subst this
      rw [List.drop_of_length_le (by omega), show lRst s [] = [] from rfl, List.append_nil] at hpre
      rw [hpre] at ho
      exact bif_f (dec_f (by omega)) (hk y cy w ho hc)
theorem ref12_Restore_ok {x : Option Addr} {n c : Nat} {xs : List Int} {w : World} {K : Option Addr → Nat → Nat → World → Prop} (hx : SlI .i32 w x xs) (hxl : xs.length = n) (hb : I32 xs) (hn : n ≤ 4000)
    (hk : ∀ a' c' w', Own .i32 21 (fun b => w.heap.size ≤ b) w' a' n c' (lRst f0 xs) → Chg no w w' → K a' n c' w') : ref12_Restore.f x n c w K := by
  unfold ref12_Restore.f
  refine ref_new fun w1 hf1 hc1 hs1 => ⟨n + 1, ?_⟩
  have old : ∀ p, x = some p → xs ≠ [] → ¬ w.heap.size ≤ p.block := fun p hp hne => by
    have := old_lt hx (Nat.le_refl _) p hp hne; omega
  exact ref12_Restore_l4 (lo := w.heap.size) (w0 := w1) (c := c) (hx.chg hc1 fun _ _ _ h => h) old hxl hb hn (Nat.le_refl _)
    (fun y cy w3 ho3 hc3 => hk y cy w3 (ho3.mono fun b hb _ => hb.1) (hc1.then hc3 fun k hk h => by omega)) (n + 1) 0 none 0 w1 f0 [] (by omega) (by omega) rfl rfl Fok.zero hf1 (by omega) (Own.nil _ _ _ _) (Chg.refl _ _)
theorem law12_awake_ok {w : World} {K : Bool → World → Prop} (hk : ∀ w', Chg no w w' → K true w') : law12_awake.f w K := by
  unfold law12_awake.f
  refine newC_sl (k := .i32) (xs := [1, 1]) rfl fun p w1 hs hc1 _ _ => ?_
  refine lms_Residual_ok hs rfl (fun x hx => by simp at hx; omega) (by omega) fun a' c' w2 ho hc2 => ?_
  have e : lRes f0 [1, 1] = [1, 1] := by decide +kernel
  rw [e] at ho
  have hs2 := ho.sl
  refine bif_t rfl (rdV hs2 0 rfl rfl (v := 1) rfl fun _ _ => bif_t rfl (rdV hs2 1 rfl rfl (v := 1) rfl fun _ _ => hk w2 (hc1.trans hc2)))
end Go.Proofs.Ytodicpmedallgaa.G
