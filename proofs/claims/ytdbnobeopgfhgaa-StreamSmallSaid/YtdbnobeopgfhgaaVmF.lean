/- The typed steps are the model's: one law for all operations that need no memory or only read it, second part. No statement of the seat is in this text. -/
import Derived.Test.YtdbnobeopgfhgaaVmE
set_option linter.unusedVariables false
set_option linter.unusedSimpArgs false
set_option linter.unusedSectionVars false
namespace Go.Proofs.Ytdbnobeopgfhgaa.Vm
open Go
section ops
variable {P : Program} {T : Tab} (hT : TOk P T) {o : Oper} {f : Fr} {a : Act} (hr : Ref f a) {w : World} {K : Value → Fact → Prop}
include hT hr
theorem q_move {x : Operand} (ho : o.op = .move x ∨ o.op = .assign x) (h : qop T o f w K) : ∃ v F, K v F ∧ factP F w ∧ Gives P o a v F := by
  unfold qop at h
  rcases ho with ho | ho <;> rw [ho] at h <;> simp only at h <;> split at h
  all_goals first
    | exact h.elim
    | (rename_i v hx
       refine ⟨_, _, h, trivial, fun w _ => ?_⟩
       unfold execOp
       simp [ho, hr.ev hx])
theorem q_pick {c x y : Operand} (ho : o.op = .pick c x y) (h : qop T o f w K) : ∃ v F, K v F ∧ factP F w ∧ Gives P o a v F := by
  unfold qop at h
  rw [ho] at h
  simp only at h
  split at h
  · rename_i hc
    split at h
    · rename_i v hv
      refine ⟨_, _, h, trivial, fun w _ => ?_⟩
      unfold execOp
      simp [ho, hr.ev hc, hr.ev hv, asBool]
    · exact h.elim
  · rename_i hc
    split at h
    · rename_i v hv
      refine ⟨_, _, h, trivial, fun w _ => ?_⟩
      unfold execOp
      simp [ho, hr.ev hc, hr.ev hv, asBool]
    · exact h.elim
  · exact h.elim
theorem q_nilCheck {x : Operand} (ho : o.op = .nilCheck x) (h : qop T o f w K) : ∃ v F, K v F ∧ factP F w ∧ Gives P o a v F := by
  unfold qop at h
  rw [ho] at h
  simp only at h
  split at h
  · rename_i ad hx
    obtain ⟨ad, rfl, h⟩ := sm_ok h
    refine ⟨_, _, h, trivial, fun w _ => ?_⟩
    unfold execOp
    simp [ho, hr.ev hx]
  · exact h.elim
theorem q_binOp {op : BinOp} {t u : TypeId} {x y : Operand} (ho : o.op = .binOp op t x y u) (h : qop T o f w K) : ∃ v F, K v F ∧ factP F w ∧ Gives P o a v F := by
  unfold qop at h
  rw [ho] at h
  simp only at h
  split at h
  · rename_i p q hx hy
    obtain ⟨z, hz, hrun⟩ := pBin_ok (P := P) hT (hr.ev hx) (hr.ev hy) h
    refine ⟨_, _, hz, trivial, fun w _ => ?_⟩
    unfold execOp
    simp only [ho, hr.ev hx, hr.ev hy, Sem.run_bind, Sem.run_pure] at *
    rw [hrun w]
    rfl
  · exact h.elim
theorem q_unOp {op : UnOp} {t : TypeId} {x : Operand} (ho : o.op = .unOp op t x) (h : qop T o f w K) : ∃ v F, K v F ∧ factP F w ∧ Gives P o a v F := by
  unfold qop at h
  rw [ho] at h
  simp only at h
  split at h
  all_goals first
    | exact h.elim
    | (rename_i hx
       refine ⟨_, _, h, trivial, fun w _ => ?_⟩
       unfold execOp
       simp [ho, hr.ev hx, Op.unary, Op.intArith, Op.intBits, bxor])
theorem q_convert {s d : TypeId} {x : Operand} (ho : o.op = .convert s d x) (h : qop T o f w K) : ∃ v F, K v F ∧ factP F w ∧ Gives P o a v F := by
  unfold qop at h
  rw [ho] at h
  simp only at h
  split at h
  · rename_i _ _ _ _ k _ _ _ j n hs hd hx
    refine ⟨_, _, h, trivial, fun w _ => ?_⟩
    unfold execOp
    simp [ho, hr.ev hx, convert, run_underlying (u_int hT hs rfl), run_underlying (u_int hT hd rfl), Conv.intToInt]
  · rename_i e _ _ _ _ _ _ ad n c hs hd hx
    split at h
    · rename_i _ _ _ he
      obtain ⟨str, hs', hf⟩ := strL_ok h
      refine ⟨_, _, hs', hf, fun w hw => ?_⟩
      unfold execOp
      simp only [ho, hr.ev hx, Sem.run_bind, run_convert_bytes_string w s d e ad n c (u_slice hT hs rfl) (u_int hT he rfl) (u_str hT hd rfl), strL_run hw]
      rfl
    · exact h.elim
  · exact h.elim
theorem q_extract {x : Operand} {i : Nat} (ho : o.op = .extract x i) (h : qop T o f w K) : ∃ v F, K v F ∧ factP F w ∧ Gives P o a v F := by
  unfold qop at h
  rw [ho] at h
  simp only at h
  split at h
  · rename_i vs hx
    split at h
    · rename_i v hv
      obtain ⟨_, h⟩ := cond_f h
      refine ⟨_, _, h, trivial, fun w _ => ?_⟩
      unfold execOp
      simp [ho, hr.ev hx, Instr.extract, hv]
    · exact h.elim
  · exact h.elim
theorem q_makeFunc {g : Fn} {x y : Array Operand} (ho : o.op = .makeFunc g x y) (h : qop T o f w K) : ∃ v F, K v F ∧ factP F w ∧ Gives P o a v F := by
  unfold qop at h
  rw [ho] at h
  simp only at h
  split at h
  · rename_i p q hx hy
    refine ⟨_, _, h, trivial, fun w _ => ?_⟩
    have e1 : x.map a.eval = p.toArray := by rw [← hr.evs hx]; cases x; simp
    have e2 : y.map a.eval = q.toArray := by rw [← hr.evs hy]; cases y; simp
    unfold execOp
    simp only [ho, Instr.makeFunc, e1, e2, Sem.run_bind, Sem.run_pure, Result.andThen_ok]
  · exact h.elim
theorem q_slice {t : TypeId} {x : Operand} {lo hi mx : Option Operand} (ho : o.op = .slice t x lo hi mx) (h : qop T o f w K) : ∃ v F, K v F ∧ factP F w ∧ Gives P o a v F := by
  unfold qop at h
  rw [ho] at h
  simp only at h
  split at h
  · exact h.elim
  split at h
  · rename_i e _ _ _ ad n c l r ht hx hl hh
    have hu := u_slice hT ht rfl
    split at h
    · rename_i _ size _ _ he
      obtain ⟨l', r', h, hb⟩ := bnd_ok (P := P) (b := true) h
      refine ⟨_, _, h, trivial, fun w _ => ?_⟩
      unfold execOp
      simp only [ho, hr.ev hx, hr.oev hl, hr.oev hh, Instr.sliceAt, Instr.slice, Option.map_none, Sem.run_bind, Sem.run_pure, Result.andThen_ok, run_underlying hu, hb, run_size hT he, adrS_eq]
    · exact h.elim
  · rename_i n e _ _ _ ad l r ht hx hl hh
    have hu := u_arr hT ht rfl
    split at h
    · rename_i _ size _ _ he
      obtain ⟨l', r', h, hb⟩ := bnd_ok (P := P) (b := false) h
      refine ⟨_, _, h, trivial, fun w _ => ?_⟩
      unfold execOp
      simp only [ho, hr.ev hx, hr.oev hl, hr.oev hh, Instr.sliceAt, Instr.sureAddr, Option.map_none, Sem.run_bind, Sem.run_pure, Result.andThen_ok, run_underlying hu, hb, run_size hT he, adrS_eq, Option.map_some]
      congr 3
      split <;> rfl
    · exact h.elim
  · rename_i _ _ _ s l r ht hx hl hh
    have hu := u_str hT ht rfl
    obtain ⟨l', r', h, hb⟩ := bnd_ok (P := P) (b := false) h
    refine ⟨_, _, h, trivial, fun w _ => ?_⟩
    unfold execOp
    simp only [ho, hr.ev hx, hr.oev hl, hr.oev hh, Instr.sliceAt, Instr.slice, Option.map_none, Sem.run_bind, Sem.run_pure, Result.andThen_ok, run_underlying hu, hb, Option.isSome_none]
    simp
    rw [hb]
    rfl
  · exact h.elim
theorem q_build {t : TypeId} {ps : Array (Nat × Operand)} (ho : o.op = .build t ps) (h : qop T o f w K) : ∃ v F, K v F ∧ factP F w ∧ Gives P o a v F := by
  unfold qop at h
  rw [ho] at h
  simp only at h
  split at h
  · rename_i fs _ _ zero vs ht hv
    obtain ⟨hall, h⟩ := cond_f h
    obtain ⟨gs, hu, hfs⟩ := u_struct hT ht rfl
    split at h
    · rename_i cs hcs
      refine ⟨_, _, h, trivial, fun w _ => ?_⟩
      obtain ⟨z, hz, hzc⟩ := run_zero hT ht w
      have hall' : ∀ g ∈ gs.toList, ∃ i, tget T g.type = some i := fun g hg => by
        have := List.all_eq_true.1 hall (g.offset, g.type) (by rw [← hfs]; exact List.mem_map.2 ⟨g, hg, rfl⟩)
        exact Option.isSome_iff_exists.1 this
      obtain ⟨l, hl, hget⟩ := run_places hT w gs.toList hall'
      have hmap : (gs.mapM (fun f => (do pure (f.offset, ← sizeOf f.type) : Sem (Nat × Nat)))).run P w = .ok l.toArray w := by
        rw [← Array.toArray_toList (xs := gs), List.mapM_toArray]
        rw [Sem.run_map, hl]
        rfl
      have hzz : z.cells = zero.toArray := by
        have hzc' : z.cells.toList = zero := hzc
        rw [← hzc']
      unfold execOp
      simp only [ho, Instr.build, Sem.run_bind, Sem.run_pure, Result.andThen_ok, hz, run_underlying hu]
      rw [hmap]
      simp only [Result.andThen_ok, parts_eq, hr.evs hv, hzz]
      have hfe := fill_ext (p := fun i => l.toArray[i]?) (q := fun i => (fs[i]?).bind fun p => (tget T p.2).map fun i => (p.1, i.size)) (fun i => by
        rw [List.getElem?_toArray, hget i, ← hfs, List.getElem?_map]
        cases gs.toList[i]? <;> rfl) zero.toArray ((ps.toList.map (·.1)).zip vs)
      rw [hfe, hcs]
      rfl
    · exact h.elim
  · rename_i n e _ _ zero vs ht hv
    have hu := u_arr hT ht rfl
    split at h
    · rename_i _ size _ _ he
      split at h
      · rename_i cs hcs
        refine ⟨_, _, h, trivial, fun w _ => ?_⟩
        obtain ⟨z, hz, hzc⟩ := run_zero hT ht w
        have hzz : z.cells = zero.toArray := by
          have hzc' : z.cells.toList = zero := hzc
          rw [← hzc']
        unfold execOp
        simp only [ho, Instr.build, Sem.run_bind, Sem.run_pure, Result.andThen_ok, hz, run_underlying hu, run_size hT he, parts_eq, hr.evs hv, hzz, hcs]
      · exact h.elim
    · exact h.elim
  · exact h.elim
theorem q_len {args : Array Operand} {ts : Array TypeId} (ho : o.op = .call { callee := .builtin .len, args := args, argTypes := ts }) (h : qop T o f w K) : ∃ v F, K v F ∧ factP F w ∧ Gives P o a v F := by
  unfold qop at h
  rw [ho] at h
  simp only at h
  have run : ∀ (x : Value) (t : TypeId) (n : Int), evs f args.toList = some [x] → ts[0]? = some t → (∀ w, (Builtin.len_ ts o.type #[x]).run P w = .ok (.int .i64 n) w) → Gives P o a (.int .i64 n) none := by
    intro x t n hx ht hrun w _
    have e1 : args.map a.eval = #[x] := by
      have := hr.evs hx
      cases args with | mk l => simpa using this
    unfold execOp
    simp only [ho, resolve, invoke, builtin, e1, Sem.run_bind, Sem.run_pure, Result.andThen_ok, hrun w]
  split at h
  · rename_i p n c e _ _ _ hx ht
    cases h0 : ts[0]? with
    | none => rw [h0] at ht; cases ht
    | some t =>
      rw [h0] at ht
      refine ⟨_, _, h, trivial, run _ t _ hx h0 fun w => ?_⟩
      simp [Builtin.len_, h0, run_underlying (u_slice hT ht rfl), goInt]
  · rename_i s _ _ _ hx ht
    cases h0 : ts[0]? with
    | none => rw [h0] at ht; cases ht
    | some t =>
      rw [h0] at ht
      refine ⟨_, _, h, trivial, run _ t _ hx h0 fun w => ?_⟩
      simp [Builtin.len_, h0, run_underlying (u_str hT ht rfl), goInt]
  · rename_i x n e _ _ _ hx ht
    cases h0 : ts[0]? with
    | none => rw [h0] at ht; cases ht
    | some t =>
      rw [h0] at ht
      refine ⟨_, _, h, trivial, run _ t _ hx h0 fun w => ?_⟩
      simp [Builtin.len_, h0, run_underlying (u_arr hT ht rfl), goInt]
  · exact h.elim
theorem q_cap {args : Array Operand} {ts : Array TypeId} (ho : o.op = .call { callee := .builtin .cap, args := args, argTypes := ts }) (h : qop T o f w K) : ∃ v F, K v F ∧ factP F w ∧ Gives P o a v F := by
  unfold qop at h
  rw [ho] at h
  simp only at h
  split at h
  · rename_i p n c e _ _ _ hx ht
    cases h0 : ts[0]? with
    | none => rw [h0] at ht; cases ht
    | some t =>
      rw [h0] at ht
      refine ⟨_, _, h, trivial, fun w _ => ?_⟩
      have e1 : args.map a.eval = #[.slice p n c] := by
        have := hr.evs hx
        cases args with | mk l => simpa using this
      unfold execOp
      simp [ho, resolve, invoke, builtin, e1, Builtin.cap_, h0, run_underlying (u_slice hT ht rfl), goInt]
  · exact h.elim
theorem q_max {args : Array Operand} {ts : Array TypeId} (ho : o.op = .call { callee := .builtin .max, args := args, argTypes := ts }) (h : qop T o f w K) : ∃ v F, K v F ∧ factP F w ∧ Gives P o a v F := by
  unfold qop at h
  rw [ho] at h
  simp only at h
  split at h
  · rename_i x l hx
    obtain ⟨v, hv, hrun⟩ := fold_max (P := P) h
    refine ⟨_, _, hv, trivial, fun w _ => ?_⟩
    have e1 : args.map a.eval = (x :: l).toArray := by
      have := hr.evs hx
      cases args with | mk l => simpa using this
    unfold execOp
    simp only [ho, resolve, invoke, builtin, e1, Builtin.max_, Sem.run_bind, Sem.run_pure, Result.andThen_ok, hrun w]
  · exact h.elim
theorem q_min {args : Array Operand} {ts : Array TypeId} (ho : o.op = .call { callee := .builtin .min, args := args, argTypes := ts }) (h : qop T o f w K) : ∃ v F, K v F ∧ factP F w ∧ Gives P o a v F := by
  unfold qop at h
  rw [ho] at h
  simp only at h
  split at h
  · rename_i x l hx
    obtain ⟨v, hv, hrun⟩ := fold_min (P := P) h
    refine ⟨_, _, hv, trivial, fun w _ => ?_⟩
    have e1 : args.map a.eval = (x :: l).toArray := by
      have := hr.evs hx
      cases args with | mk l => simpa using this
    unfold execOp
    simp only [ho, resolve, invoke, builtin, e1, Builtin.min_, Sem.run_bind, Sem.run_pure, Result.andThen_ok, hrun w]
  · exact h.elim
/-- Whatever needs no memory, or only reads it. -/
theorem q_ok (h : qop T o f w K) : ∃ v F, K v F ∧ factP F w ∧ Gives P o a v F := by
  have h' := h
  unfold qop at h
  split at h
  · exact q_move hT hr (.inl (by assumption)) h'
  · exact q_move hT hr (.inr (by assumption)) h'
  · exact q_pick hT hr (by assumption) h'
  · exact q_nilCheck hT hr (by assumption) h'
  · exact q_binOp hT hr (by assumption) h'
  · exact q_unOp hT hr (by assumption) h'
  · exact q_convert hT hr (by assumption) h'
  · exact q_fieldAddr hT hr (by assumption) h'
  · exact q_indexAddr hT hr (by assumption) h'
  · exact q_index hT hr (by assumption) h'
  · exact q_slice hT hr (by assumption) h'
  · exact q_extract hT hr (by assumption) h'
  · exact q_makeFunc hT hr (by assumption) h'
  · exact q_build hT hr (by assumption) h'
  · exact q_load hT hr (by assumption) h'
  · rename_i b args ts ho
    split at h
    · exact q_len hT hr ho h'
    · exact q_cap hT hr ho h'
    · exact q_max hT hr ho h'
    · exact q_min hT hr ho h'
    · exact h.elim
  · exact h.elim
end ops
end Go.Proofs.Ytdbnobeopgfhgaa.Vm
