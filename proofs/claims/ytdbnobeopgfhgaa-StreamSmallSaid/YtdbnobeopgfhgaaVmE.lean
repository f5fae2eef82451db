/- The typed steps are the model's: one law for all operations that need no memory or only read it. No statement of the seat is in this text. -/
import Derived.Test.YtdbnobeopgfhgaaVmD
set_option linter.unusedVariables false
set_option linter.unusedSimpArgs false
set_option linter.unusedSectionVars false
namespace Go.Proofs.Ytdbnobeopgfhgaa.Vm
open Go
theorem fill_ext {p q : Nat → Option (Nat × Nat)} (h : ∀ i, p i = q i) (cs : Array Value) (l : List (Nat × Value)) : Instr.fill p cs l = Instr.fill q cs l := by
  rw [show p = q from funext h]
theorem parts_eq (ps : Array (Nat × Operand)) (e : Operand → Value) : (ps.map fun (i, x) => (i, e x)).toList = (ps.toList.map (·.1)).zip ((ps.toList.map (·.2)).map e) := by
  cases ps with | mk l =>
  simp only [Array.toList_map]
  induction l with
  | nil => rfl
  | cons p l ih => simp only [List.map_cons, List.zip_cons_cons, ih]
theorem run_places {P : Program} {T : Tab} (hT : TOk P T) (w : World) : ∀ (gs : List Field), (∀ g ∈ gs, ∃ i, tget T g.type = some i) →
    ∃ l : List (Nat × Nat), (gs.mapM (fun f => (do pure (f.offset, ← sizeOf f.type) : Sem (Nat × Nat)))).run P w = .ok l w ∧
      ∀ (j : Nat), l[j]? = (gs[j]?).bind fun (g : Field) => (tget T g.type).map fun i => (g.offset, i.size)
  | [], _ => ⟨[], by simp, fun j => by simp⟩
  | g :: gs, h => by
    obtain ⟨i, hi⟩ := h g List.mem_cons_self
    obtain ⟨l, hl, hget⟩ := run_places hT w gs (fun g hg => h g (List.mem_cons_of_mem _ hg))
    refine ⟨(g.offset, i.size) :: l, ?_, ?_⟩
    · simp only [List.mapM_cons, Sem.run_bind, run_size hT hi, Result.andThen_ok, Sem.run_pure, hl]
    · intro j
      cases j with
      | zero => simp [hi]
      | succ j => simpa using hget j
section ops
variable {P : Program} {T : Tab} (hT : TOk P T) {o : Oper} {f : Fr} {a : Act} (hr : Ref f a) {w : World} {K : Value → Fact → Prop}
include hT hr
theorem q_load {t : TypeId} {x : Operand} (ho : o.op = .load t x) (h : qop T o f w K) : ∃ v F, K v F ∧ factP F w ∧ Gives P o a v F := by
  unfold qop at h
  rw [ho] at h
  simp only at h
  have main : ∀ {ad : Addr} {v : Value} {F : Fact}, a.eval x = .pointer (some ad) → (∀ w, factP F w → (loadVar t ad).run P w = .ok v w) → Gives P o a v F := by
    intro ad v F hx hl w hw
    unfold execOp
    simp only [ho, hx, Instr.loadAt, Instr.sureAddr, Sem.run_bind, Sem.run_pure, Result.andThen_ok, hl w hw]
  split at h
  · rename_i k _ _ _ ad ht hx
    obtain ⟨n, hc, h⟩ := ldI_ok h
    exact ⟨_, _, h, hc, main (hr.ev hx) fun w hw => run_loadVar_one (u_int hT ht rfl) rfl hw⟩
  · rename_i _ _ _ ad ht hx
    obtain ⟨n, hc, h⟩ := ldB_ok h
    exact ⟨_, _, h, hc, main (hr.ev hx) fun w hw => run_loadVar_one (u_bool hT ht rfl) rfl hw⟩
  · rename_i _ _ _ ad ht hx
    obtain ⟨n, hc, h⟩ := ldS_ok h
    exact ⟨_, _, h, hc, main (hr.ev hx) fun w hw => run_loadVar_one (u_str hT ht rfl) rfl hw⟩
  · rename_i _ _ _ ad ht hx
    obtain ⟨n, hc, h⟩ := ldP_ok h
    obtain ⟨e, hu⟩ := u_ptr hT ht rfl
    exact ⟨_, _, h, hc, main (hr.ev hx) fun w hw => run_loadVar_one hu rfl hw⟩
  · rename_i _ _ _ _ ad ht hx
    obtain ⟨p, n, c, hc, h⟩ := ldL_ok h
    exact ⟨_, _, h, hc, main (hr.ev hx) fun w hw => run_loadVar_one (u_slice hT ht rfl) rfl hw⟩
  · rename_i _ _ _ ad ht hx
    obtain ⟨g, x, y, hc, h⟩ := ldF_ok h
    obtain ⟨p, q, r, hu⟩ := u_func hT ht rfl
    exact ⟨_, _, h, hc, main (hr.ev hx) fun w hw => run_loadVar_one hu rfl hw⟩
  · rename_i _ _ size _ _ ad ht hx
    obtain ⟨l, hc, h⟩ := ldW_ok h
    exact ⟨_, _, h, hc, main (hr.ev hx) fun w hw => run_loadVar_agg (u_arr hT ht rfl) rfl (run_size hT ht w) hw⟩
  · rename_i _ size _ _ ad ht hx
    obtain ⟨l, hc, h⟩ := ldW_ok h
    obtain ⟨gs, hu, _⟩ := u_struct hT ht rfl
    exact ⟨_, _, h, hc, main (hr.ev hx) fun w hw => run_loadVar_agg hu rfl (run_size hT ht w) hw⟩
  · exact h.elim
theorem q_fieldAddr {s : TypeId} {x : Operand} {i : Nat} (ho : o.op = .fieldAddr s x i) (h : qop T o f w K) : ∃ v F, K v F ∧ factP F w ∧ Gives P o a v F := by
  unfold qop at h
  rw [ho] at h
  simp only at h
  split at h
  · rename_i fs _ _ _ ad ht hx
    obtain ⟨gs, hu, hfs⟩ := u_struct hT ht rfl
    split at h
    · rename_i off ft hi
      split at h
      · rename_i _ n _ _ hft
        refine ⟨_, _, h, trivial, fun w _ => ?_⟩
        rw [← hfs] at hi
        rw [List.getElem?_map] at hi
        cases hg : gs[i]? with
        | none => rw [← Array.getElem?_toList] at hg; rw [hg] at hi; cases hi
        | some g =>
          rw [← Array.getElem?_toList] at hg
          rw [hg] at hi
          simp at hi
          obtain ⟨rfl, rfl⟩ := hi
          rw [Array.getElem?_toList] at hg
          unfold execOp
          simp [ho, hr.ev hx, Instr.fieldAt, run_underlying hu, hg, Instr.sureAddr, fieldPlace, run_size hT hft]
      · exact h.elim
    · exact h.elim
  · exact h.elim
theorem q_indexAddr {t : TypeId} {x i : Operand} (ho : o.op = .indexAddr t x i) (h : qop T o f w K) : ∃ v F, K v F ∧ factP F w ∧ Gives P o a v F := by
  unfold qop at h
  rw [ho] at h
  simp only at h
  split at h
  · rename_i e _ _ _ ad n c k j ht hx hi
    have hu := u_slice hT ht rfl
    split at h
    · rename_i _ size _ _ he
      obtain ⟨ad, rfl, h⟩ := sm_ok h
      obtain ⟨hc, h⟩ := ite_f h
      refine ⟨_, _, h, trivial, fun w _ => ?_⟩
      unfold execOp
      simp only [ho, hr.ev hx, hr.ev hi, Instr.indexAt, asIntOf, Sem.run_bind, Sem.run_pure, Result.andThen_ok, run_underlying hu, if_pos hc, run_size hT he, adrI_eq]
    · exact h.elim
  · rename_i n e _ _ _ ad k j ht hx hi
    have hu := u_arr hT ht rfl
    split at h
    · rename_i _ size _ _ he
      obtain ⟨hc, h⟩ := ite_f h
      refine ⟨_, _, h, trivial, fun w _ => ?_⟩
      unfold execOp
      simp only [ho, hr.ev hx, hr.ev hi, Instr.indexAt, Instr.sureAddr, asIntOf, Sem.run_bind, Sem.run_pure, Result.andThen_ok, run_underlying hu, if_pos hc, run_size hT he, adrI_eq]
    · exact h.elim
  · exact h.elim
theorem q_index {t : TypeId} {x i : Operand} (ho : o.op = .index t x i) (h : qop T o f w K) : ∃ v F, K v F ∧ factP F w ∧ Gives P o a v F := by
  unfold qop at h
  rw [ho] at h
  simp only at h
  split at h
  · rename_i n e _ _ _ cs k j ht hx hi
    have hu := u_arr hT ht rfl
    split at h
    · rename_i k1 _ _ he
      obtain ⟨hc, h⟩ := ite_f h
      unfold ixI at h
      split at h
      · rename_i m v hg
        obtain ⟨hk, h⟩ := cond_f h
        have hue := u_int hT he rfl
        refine ⟨_, _, h, trivial, fun w _ => ?_⟩
        unfold execOp
        simp only [ho, hr.ev hx, hr.ev hi, Instr.index, asIntOf, Sem.run_bind, Sem.run_pure, Result.andThen_ok, run_underlying hu, if_pos hc, run_size hT he]
        simp [part, isAgg, run_underlying hue, hg, kEq_eq hk]
      · exact h.elim
    · exact h.elim
  · exact h.elim
end ops
end Go.Proofs.Ytdbnobeopgfhgaa.Vm
