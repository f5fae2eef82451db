/- What the adaptive filter's functions and their reference come to. -/
import Derived.Test.YtodicpmedallgaaKf
import Derived.Test.YtodicpmedallgaaVmT
set_option linter.unusedVariables false
set_option linter.unusedSimpArgs false
namespace Go.Proofs.Ytodicpmedallgaa.G
open Go Go.Proofs.Ytodicpmedallgaa.Vm Go.RowKit
theorem ixI_of {k : IntKind} {cs : Array Value} {j v : Int} {K : Int → Prop} (h : cs[j.toNat]? = some (.int k v)) (hk : K v) : ixI k cs j K := by
  unfold ixI; rw [h]; cases k <;> exact hk
theorem arr8 (kd : IntKind) (ws : List Int) (k : Nat) (h : k < 8) : (#[(Value.int kd (ws.getD 0 0)), (Value.int kd (ws.getD 1 0)), (Value.int kd (ws.getD 2 0)), (Value.int kd (ws.getD 3 0)), (Value.int kd (ws.getD 4 0)), (Value.int kd (ws.getD 5 0)), (Value.int kd (ws.getD 6 0)), (Value.int kd (ws.getD 7 0))] : Array Value)[k]? = some (.int kd (ws.getD k 0)) := by
  match k, h with
  | 0, _ => rfl
  | 1, _ => rfl
  | 2, _ => rfl
  | 3, _ => rfl
  | 4, _ => rfl
  | 5, _ => rfl
  | 6, _ => rfl
  | 7, _ => rfl
def fcells (s : Fst) : List Value := s.ws.map (Value.int .i64) ++ s.ls.map (Value.int .i32)
theorem fcells_w {s : Fst} {k : Nat} (hw : s.ws.length = 8) (h : k < 8) : (fcells s)[k]? = some (.int .i64 (s.ws.getD k 0)) := by
  unfold fcells
  rw [List.getElem?_append_left (by rw [List.length_map]; omega), List.getElem?_map, getD_some (by omega)]; rfl
theorem fcells_l {s : Fst} {k : Nat} (hw : s.ws.length = 8) (hl : s.ls.length = 8) (h : k < 8) : (fcells s)[8 + k]? = some (.int .i32 (s.ls.getD k 0)) := by
  unfold fcells
  rw [List.getElem?_append_right (by rw [List.length_map]; omega), List.length_map, hw, Nat.add_sub_cancel_left, List.getElem?_map, getD_some (by omega)]; rfl
/-- The filter in block `b`. -/
def FS (w : World) (b : Nat) (s : Fst) : Prop := Bl 76 w b (fcells s)
/-- The reference's. -/
def RS (w : World) (b : Nat) (s : Fst) : Prop := BlI .i32 57 w b (s.ws ++ s.ls)
theorem FS.chg {S : Nat → Prop} {w w' : World} {b : Nat} {s : Fst} (h : FS w b s) (hc : Chg S w w') (hn : ¬ S b) : FS w' b s := Bl.chg h hc hn
theorem RS.chg {S : Nat → Prop} {w w' : World} {b : Nat} {s : Fst} (h : RS w b s) (hc : Chg S w w') (hn : ¬ S b) : RS w' b s := BlI.chg h hc hn
theorem app_w {s : Fst} {k : Nat} (hw : s.ws.length = 8) (h : k < 8) : (s.ws ++ s.ls)[k]? = some (s.ws.getD k 0) := by
  rw [List.getElem?_append_left (by omega), getD_some (by omega)]
theorem app_l {s : Fst} {k : Nat} (hw : s.ws.length = 8) (hl : s.ls.length = 8) (h : k < 8) : (s.ws ++ s.ls)[8 + k]? = some (s.ls.getD k 0) := by
  rw [List.getElem?_append_right (by omega), hw, Nat.add_sub_cancel_left, getD_some (by omega)]
theorem lms_Guess_l5 {w : World} {b : Nat} {s : Fst} {t : Nat} {K : Int → World → Prop} (h : FS w b s) (ho : Fok t s) (hk : K (dotN s 8) w) (N : Nat) : ∀ k : Nat, k ≤ 8 → 8 - k < N →
    lms_Filter_Guess.l5 N (some ⟨b, 0, none⟩) (dotN s k) (s.ws.getD 0 0) (s.ws.getD 1 0) (s.ws.getD 2 0) (s.ws.getD 3 0) (s.ws.getD 4 0) (s.ws.getD 5 0) (s.ws.getD 6 0) (s.ws.getD 7 0) (k : Int) w K := by
  induction N with
  | zero => intro k h1 h2; omega
  | succ N ih =>
    intro k h1 h2
    rw [lms_Filter_Guess.l5]
    refine cond_of (fun hh => ?_) (fun hh => ?_)
    · have hk8 : k < 8 := by have := of_decide_eq_true hh; omega
      refine if_of ⟨by omega, by omega⟩ (ixI_of (v := s.ws.getD k 0) (by rw [Int.toNat_natCast]; exact arr8 _ _ _ hk8) (sm_some (if_of ⟨by omega, by omega⟩ ?_)))
      rw [Int.toNat_natCast, add_mk, add_mk, Nat.zero_add]
      refine ldI_b h (fcells_l ho.wl ho.ll hk8) ?_
      dsimp only
      have hb := ho.l k
      rw [w64 (a := s.ls.getD k 0) (by omega) (by omega), inc (by omega)]
      exact ih (k + 1) (by omega) (by omega)
    · have : k = 8 := by have := of_decide_eq_false hh; omega
      subst this; exact hk
theorem lms_Guess_ok {w : World} {b t : Nat} {s : Fst} {K : Int → World → Prop} (h : FS w b s) (ho : Fok t s) (hk : K (lG s) w) : lms_Filter_Guess.f (some ⟨b, 0, none⟩) w K := by
  unfold lms_Filter_Guess.f
  have c := fun k hk => fcells_w (s := s) (k := k) ho.wl hk
  refine bif_f rfl (sm_some (ldI_b h (c 0 (by omega)) (ldI_b h (c 1 (by omega)) (ldI_b h (c 2 (by omega)) (ldI_b h (c 3 (by omega)) (ldI_b h (c 4 (by omega)) (ldI_b h (c 5 (by omega)) (ldI_b h (c 6 (by omega)) (ldI_b h (c 7 (by omega)) ⟨9, ?_⟩)))))))))
  exact lms_Guess_l5 h ho hk 9 0 (by omega) (by omega)
theorem ref12_Guess_l3 {w0 : World} {b : Nat} {s : Fst} {t : Nat} {K : Int → World → Prop} (h : RS w0 b s) (ho : Fok t s) (ht : t ≤ 4000) (hk : ∀ w, Chg no w0 w → K (dotN s 8) w) (N : Nat) : ∀ (k : Nat) (w : World), k ≤ 8 → 8 - k < N → Chg no w0 w →
    ref12_Filter_Guess.l3 N (some ⟨b, 0, none⟩) (dotN s k) (k : Int) w K := by
  induction N with
  | zero => intro k w h1 h2; omega
  | succ N ih =>
    intro k w h1 h2 hc
    rw [ref12_Filter_Guess.l3]
    refine cond_of (fun hh => ?_) (fun hh => ?_)
    · have hk8 : k < 8 := by have := of_decide_eq_true hh; omega
      have hcd := hc.trans (Chg.drew no w)
      have hb := (h.chg hcd fun h => h).bl
      refine sm_some (if_of ⟨by omega, by omega⟩ ?_)
      rw [Int.toNat_natCast, add_mk, Nat.zero_add]
      refine ldI_b hb (by rw [List.getElem?_map, app_w ho.wl hk8]; rfl) (sm_some (if_of ⟨by omega, by omega⟩ ?_))
      rw [add_mk, add_mk, Nat.zero_add]
      refine ldI_b hb (by rw [List.getElem?_map, app_l ho.wl ho.ll hk8]; rfl) ?_
      dsimp only
      have hl := ho.l k
      have hw := ho.w k
      rw [w64 (a := s.ls.getD k 0) (by omega) (by omega), w64 (a := s.ws.getD k 0) (by omega) (by omega), inc (by omega)]
      exact ih (k + 1) _ (by omega) (by omega) hcd
    · have : k = 8 := by have := of_decide_eq_false hh; omega
      subst this; exact hk w hc
theorem ref12_Guess_ok {w : World} {b t : Nat} {s : Fst} {K : Int → World → Prop} (h : RS w b s) (ho : Fok t s) (ht : t ≤ 4000) (hk : ∀ w', Chg no w w' → K (lG s) w') : ref12_Filter_Guess.f (some ⟨b, 0, none⟩) w K := by
  unfold ref12_Filter_Guess.f
  exact ⟨9, ref12_Guess_l3 (w0 := w) h ho ht (fun w' hc => hk w' hc) 9 0 w (by omega) (by omega) (Chg.refl _ _)⟩
theorem lms_sign_ok {a : Int} {w : World} {K : Int → World → Prop} (hk : K (sg a) w) : lms_sign.f a w K := by
  unfold lms_sign.f
  unfold sg at hk
  dsimp only
  refine cond_of (fun h => ?_) (fun h => cond_of (fun h2 => ?_) (fun h2 => ?_))
  · rw [if_pos (of_decide_eq_true h)] at hk; exact hk
  · rw [if_neg (of_decide_eq_false h), if_pos (of_decide_eq_true h2)] at hk; exact hk
  · rw [if_neg (of_decide_eq_false h), if_neg (of_decide_eq_false h2)] at hk; exact hk
theorem ref12_sign_ok {a : Int} {w : World} {K : Int → World → Prop} (hk : K (sg a) w) : ref12_sign.f a w K := lms_sign_ok hk
/-- The weights, `k` of them learnt. -/
def wsK (s : Fst) (v : Int) (k : Nat) : List Int := (List.range 8).map fun j => if j < k then lW s v j else s.ws.getD j 0
theorem wsK_length (s : Fst) (v : Int) (k : Nat) : (wsK s v k).length = 8 := by simp [wsK]
theorem wsK_get {s : Fst} {v : Int} {k j : Nat} (h : j < 8) : (wsK s v k)[j]? = some (if j < k then lW s v j else s.ws.getD j 0) := by
  unfold wsK; rw [List.getElem?_map, List.getElem?_range h]; rfl
theorem wsK_zero {s : Fst} {v : Int} (h : s.ws.length = 8) : wsK s v 0 = s.ws := by
  apply List.ext_getElem?
  intro j
  by_cases hj : j < 8
  · rw [wsK_get hj, if_neg (by omega), getD_some (by omega)]
  · rw [List.getElem?_eq_none (by rw [wsK_length]; omega), List.getElem?_eq_none (by omega)]
theorem wsK_all {s : Fst} {v : Int} : wsK s v 8 = (lL s v).ws := by
  unfold wsK lL
  refine List.map_congr_left fun j hj => ?_
  rw [if_pos (List.mem_range.1 hj)]
theorem wsK_set {s : Fst} {v : Int} {k : Nat} (hk : k < 8) : (wsK s v k).set k (lW s v k) = wsK s v (k + 1) := by
  apply List.ext_getElem?
  intro j
  by_cases hj : j < 8
  · rw [wsK_get hj]
    by_cases e : k = j
    · subst e
      rw [List.getElem?_set_self (by rw [wsK_length]; exact hk), if_pos (by omega)]
    · rw [List.getElem?_set_ne e, wsK_get hj]
      congr 1
      by_cases h1 : j < k
      · rw [if_pos h1, if_pos (by omega)]
      · rw [if_neg h1, if_neg (by omega)]
  · rw [List.getElem?_eq_none (by rw [List.length_set, wsK_length]; omega), List.getElem?_eq_none (by rw [wsK_length]; omega)]
theorem lW_bd {t : Nat} {s : Fst} {v : Int} (ho : Fok t s) (k : Nat) : -((t : Int) + 1) ≤ lW s v k ∧ lW s v k ≤ t + 1 := by
  have := ho.w k
  have := sg_mul (IntKind.wrap .i32 (v - lG s)) (s.ls.getD k 0)
  unfold lW; omega
theorem lms_Learn_l3 {w0 : World} {b t : Nat} {s : Fst} {v : Int} {K : Option Addr → Int → World → Prop} (ho : Fok t s) (ht : t ≤ 4000)
    (hk : ∀ w, FS w b ⟨(lL s v).ws, s.ls⟩ → Chg (fun j => j = b) w0 w → K (some ⟨b, 0, none⟩) v w) (N : Nat) : ∀ (k : Nat) (w : World), k ≤ 8 → 8 - k < N → FS w b ⟨wsK s v k, s.ls⟩ → Chg (fun j => j = b) w0 w →
    lms_Filter_Learn.l3 N (some ⟨b, 0, none⟩) v (sg (IntKind.wrap .i32 (v - lG s))) (s.ls.getD 0 0) (s.ls.getD 1 0) (s.ls.getD 2 0) (s.ls.getD 3 0) (s.ls.getD 4 0) (s.ls.getD 5 0) (s.ls.getD 6 0) (s.ls.getD 7 0) (k : Int) w K := by
  induction N with
  | zero => intro k w h1 h2; omega
  | succ N ih =>
    intro k w h1 h2 hf hc
    rw [lms_Filter_Learn.l3]
    refine cond_of (fun hh => ?_) (fun hh => ?_)
    · have hk8 : k < 8 := by have := of_decide_eq_true hh; omega
      refine if_of ⟨by omega, by omega⟩ (ixI_of (v := s.ls.getD k 0) (by rw [Int.toNat_natCast]; exact arr8 _ _ _ hk8) (sm_some (if_of ⟨by omega, by omega⟩ ?_)))
      rw [Int.toNat_natCast, add_mk, Nat.zero_add]
      have hg : (fcells ⟨wsK s v k, s.ls⟩)[k]? = some (.int .i64 (s.ws.getD k 0)) := by
        rw [fcells_w (by exact wsK_length _ _ _) hk8]
        rw [List.getD_eq_getElem?_getD, wsK_get hk8, if_neg (by omega)]; rfl
      have hf' : Bl 76 w.drew b (fcells ⟨wsK s v k, s.ls⟩) := hf
      refine ldI_b hf' hg (sm_some (lms_sign_ok ⟨hf'.cell hg, if_of ⟨by omega, by omega⟩ ?_⟩))
      rw [add_mk, Nat.zero_add]
      have e : IntKind.wrap .i64 (s.ws.getD k 0 + IntKind.wrap .i64 (sg (IntKind.wrap .i32 (v - lG s)) * sg (s.ls.getD k 0))) = lW s v k := by
        have h1 := sg_mul (IntKind.wrap .i32 (v - lG s)) (s.ls.getD k 0)
        have h2 := lW_bd (v := v) ho k
        rw [w64 (a := sg (IntKind.wrap .i32 (v - lG s)) * sg (s.ls.getD k 0)) (by omega) (by omega)]
        exact w64 (a := lW s v k) (by omega) (by omega)
      rw [e]
      refine stC_b hf' (by unfold fcells; simp [wsK_length]; omega) fun w1 hb1 hc1 => ?_
      rw [inc (by omega)]
      refine ih (k + 1) w1 (by omega) (by omega) ?_ ((hc.trans (Chg.drew _ w)).trans hc1)
      unfold FS
      have : (fcells ⟨wsK s v k, s.ls⟩).set k (.int .i64 (lW s v k)) = fcells ⟨wsK s v (k + 1), s.ls⟩ := by
        unfold fcells
        rw [List.set_append_left _ _ (by rw [List.length_map, wsK_length]; exact hk8), ← List.map_set, wsK_set hk8]
      rw [← this]; exact hb1
    · have : k = 8 := by have := of_decide_eq_false hh; omega
      subst this
      rw [wsK_all] at hf
      exact hk w hf hc
theorem lms_Learn_ok {w : World} {b t : Nat} {s : Fst} {v : Int} {K : World → Prop} (h : FS w b s) (ho : Fok t s) (ht : t ≤ 4000)
    (hk : ∀ w', FS w' b (lL s v) → Chg (fun j => j = b) w w' → K w') : lms_Filter_Learn.f (some ⟨b, 0, none⟩) v w K := by
  unfold lms_Filter_Learn.f
  refine bif_f rfl (lms_Guess_ok h ho (lms_sign_ok (sm_some ?_)))
  have c := fun k hk => fcells_l (s := s) (k := k) ho.wl ho.ll hk
  refine (ldI_b h (c 0 (by omega)) (ldI_b h (c 1 (by omega)) (ldI_b h (c 2 (by omega)) (ldI_b h (c 3 (by omega)) (ldI_b h (c 4 (by omega)) (ldI_b h (c 5 (by omega)) (ldI_b h (c 6 (by omega)) (ldI_b h (c 7 (by omega)) ⟨9, ?_⟩))))))))
  refine lms_Learn_l3 (w0 := w) ho ht (fun w1 hf1 hc1 => ?_) 9 0 w (by omega) (by omega) (by rw [wsK_zero ho.wl]; exact h) (Chg.refl _ _)
  refine sm_some (sm_some ?_)
  have hf1' : Bl 76 w1.drew b (fcells ⟨(lL s v).ws, s.ls⟩) := hf1
  have hwl : (lL s v).ws.length = 8 := by simp [lL]
  unfold cpL
  have hrd : rdCs w1.drew ((⟨b, 0, none⟩ : Addr).add 8) (Nat.min 8 7 * 1) 0 = some ((s.ls.take 7).map (Value.int .i32)) := by
    have hlen : ((s.ls.take 7).map (Value.int .i32)).length = 7 := by rw [List.length_map, List.length_take, ho.ll]; rfl
    suffices hh : rdCs w1.drew ((⟨b, 0, none⟩ : Addr).add 8) ((s.ls.take 7).map (Value.int .i32)).length 0 = some ((s.ls.take 7).map (Value.int .i32)) by rw [hlen] at hh; exact hh
    refine rdCs_of fun j u hj => ?_
    rw [add_mk, add_mk, Nat.zero_add, Nat.zero_add]
    refine hf1'.cell ?_
    rw [List.getElem?_map] at hj
    have hj7 : j < 7 := by
      cases hg : (s.ls.take 7)[j]? with
      | none => rw [hg] at hj; cases hj
      | some u => have := (List.getElem?_eq_some_iff.1 hg).1; rw [List.length_take] at this; omega
    rw [List.getElem?_take, if_pos hj7, getD_some (by rw [ho.ll]; omega)] at hj
    rw [fcells_l (s := ⟨(lL s v).ws, s.ls⟩) hwl ho.ll (by omega)]
    exact hj
  simp only [hrd]
  rw [add_mk, add_mk]
  refine stCs_go _ 0 _ _ hf1' (fun u hu => by obtain ⟨x, _, rfl⟩ := List.mem_map.1 hu; rfl) (by unfold fcells; simp [hwl, ho.ll]) fun w2 hb2 hc2 => sm_some ?_
  rw [add_mk, Nat.zero_add]
  refine stC_b hb2 (by unfold fcells; simp [hwl, ho.ll]) fun w3 hb3 hc3 => hk w3 ?_ (((hc1.trans (Chg.drew _ w1)).trans hc2).trans hc3)
  unfold FS
  obtain ⟨ws, ls⟩ := s
  have hll := ho.ll
  simp only at hll hb3 ⊢
  generalize hL : lL ⟨ws, ls⟩ v = L at hb3 hwl ⊢
  have hLl : L.ls = v :: ls.take 7 := by rw [← hL]; rfl
  have e : ∀ (A : List Value) (l : List Int), A.length = 8 → l.length = 8 → ((((A ++ l.map (Value.int .i32)).take (0 + 8 + 1 + 0)) ++ (l.take 7).map (Value.int .i32) ++ (A ++ l.map (Value.int .i32)).drop (0 + 8 + 1 + 0 + ((l.take 7).map (Value.int .i32)).length)).set 8 (.int .i32 v)) = A ++ (v :: l.take 7).map (Value.int .i32) := by
    intro A l hA hl
    match l, hl with
    | [l0, l1, l2, l3, l4, l5, l6, l7], _ =>
      match A, hA with
      | [a0, a1, a2, a3, a4, a5, a6, a7], _ => rfl
  have hb4 : Bl 76 w3 b (L.ws.map (Value.int .i64) ++ (v :: ls.take 7).map (Value.int .i32)) := by
    rw [← e (L.ws.map (Value.int .i64)) ls (by rw [List.length_map]; exact hwl) hll]; exact hb3
  unfold fcells
  rw [hLl]; exact hb4
end Go.Proofs.Ytodicpmedallgaa.G
