/- The typed steps are the model's: what writes, makes memory, or calls. No statement of the seat is in this text. -/
import Derived.Test.YtdbnobeopgfhgaaVmF
set_option linter.unusedVariables false
set_option linter.unusedSimpArgs false
set_option linter.unusedSectionVars false
namespace Go.Proofs.Ytdbnobeopgfhgaa.Vm
open Go
def enters (P : Program) (g : FuncId) : Bool := match P.funcs[g]? with
  | some fn => fn.body.isSome && !(fn.name == "runtime.NumGoroutine")
  | none => false
/-- What a handler of calls tells is what the machine's calls do. -/
def CSound (P : Program) (C : Hd) : Prop := ∀ g args w K, C g args w K →
  enters P g = true ∧ Calls P g args.toArray w fun e w' => ∃ v, e = .returned v ∧ K v w'
theorem run_callFunc {P : Program} {g : FuncId} (h : enters P g = true) (args : Array Value) (w : World) : (callFunc g args).run P w = .ok (.enter g args) w := by
  unfold enters at h
  split at h
  · rename_i fn hf
    simp only [Bool.and_eq_true, Bool.not_eq_true'] at h
    have hb : fn.body.isNone = false := by cases hb : fn.body <;> simp_all
    have hbb : fn.body ≠ none := by intro e; rw [e] at hb; cases hb
    have hne : fn.name ≠ "runtime.NumGoroutine" := by simpa using h.2
    simp [callFunc, hf, hbb, hne, program, Sem.run]
  · cases h
theorem stC_ok {P : Program} {a : Addr} {v : Value} {w : World} {K : World → Prop} (h1 : one v = true) (h : stC a v w K) :
    K (w.setCell a v) ∧ (store a v).run P w = .ok () (w.setCell a v) := by
  unfold stC at h
  split at h
  · rename_i u hu
    obtain ⟨hf, h⟩ := cond_f' h
    refine ⟨h, ?_⟩
    cases v <;> simp [one] at h1 <;> simp [store, Sem.run, hu, hf]
  · exact h.elim
theorem stCs_ok {P : Program} {a : Addr} : ∀ {l : List Value} {i : Nat} {w : World} {K : World → Prop}, stCs a l i w K →
    ∃ w', K w' ∧ (storeCells a l i).run P w = .ok () w'
  | [], i, w, K, h => ⟨w, h, rfl⟩
  | v :: l, i, w, K, h => by
    simp only [stCs] at h
    obtain ⟨h1, h⟩ := cond_f h
    obtain ⟨h, hrun⟩ := stC_ok (P := P) h1 h
    obtain ⟨w', hk, hrun'⟩ := stCs_ok (P := P) h
    exact ⟨w', hk, by simp [storeCells, hrun, hrun']⟩
theorem zrow_eq (zero : List Value) (n : Nat) (hz : 0 < zero.length) : (Array.range (n * zero.length)).map (fun i => zero.toArray[i % zero.length]!) = (zrow zero n).toArray := by
  apply Array.ext'
  simp only [Array.toList_map, Array.toList_range, zrow]
  apply List.ext_getElem?
  intro i
  induction n generalizing i with
  | zero => simp
  | succ n ih =>
    rw [List.range_succ, List.flatMap_append, Nat.succ_mul]
    have hl : ((List.range n).flatMap fun _ => zero).length = n * zero.length := by
      clear ih
      induction n with
      | zero => simp
      | succ n ih => rw [List.range_succ, List.flatMap_append, List.length_append, ih]; simp [Nat.succ_mul]
    by_cases hi : i < n * zero.length
    · rw [List.getElem?_append_left (by omega), ← ih i]
      simp [hi, show i < n * zero.length + zero.length by omega]
    · rw [List.getElem?_append_right (by omega), hl]
      by_cases hi' : i < n * zero.length + zero.length
      · have hm : i % zero.length = i - n * zero.length := by
          obtain ⟨k, rfl⟩ : ∃ k, i = n * zero.length + k := ⟨i - n * zero.length, by omega⟩
          rw [Nat.mul_comm, Nat.mul_add_mod, Nat.mod_eq_of_lt (by omega)]
          omega
        simp [hi', hm, show i - n * zero.length < zero.length by omega]
      · simp [hi', show ¬ i - n * zero.length < zero.length by omega]
theorem map_range0 {α : Type} (f : Nat → α) (n : Nat) (h : n = 0) : (Array.range n).map f = #[] := by
  subst h
  exact Array.eq_empty_of_size_eq_zero (by simp)
theorem zrow_eq0 (zero : List Value) (n : Nat) (h0 : n * zero.length = 0) : (zrow zero n).toArray = #[] := by
  have : zrow zero n = [] := by
    unfold zrow
    rcases Nat.mul_eq_zero.1 h0 with h0 | h0
    · subst h0; rfl
    · have : zero = [] := List.eq_nil_of_length_eq_zero h0
      subst this; simp
  rw [this]
theorem zeroCells_eq (zero : List Value) (n : Nat) : Builtin.zeroCells zero.toArray n = (zrow zero n).toArray := by
  unfold Builtin.zeroCells
  by_cases hz : 0 < zero.length
  · exact zrow_eq zero n hz
  · have : zero = [] := List.eq_nil_of_length_eq_zero (by omega)
    subst this
    simp [zrow, Array.range]
theorem appG_ok {P : Program} {T : Tab} (hT : TOk P T) {ty t u e : TypeId} {size bytes : Nat} {zero : List Value} {d : TD} {s1 s2 : Nat} {z1 : List Value} {du : TypeDesc}
    (ht : tget T t = some ⟨.slice e, s1, s2, z1⟩) (hdu : P.underlying u = some du) (hu : (∃ e', du = .slice e') ∨ du = .string) (he : tget T e = some ⟨d, size, bytes, zero⟩)
    {sa : Option Addr} {sn sc n : Nat} {new : List Value} {x : Value} {w : World} {K : Option Addr → Nat → Nat → World → Prop}
    (hn : ∀ w, (Builtin.lenOf x).run P w = .ok n w) (hx : ∀ w', (∀ a, w'.cell? a = w.cell? a) → (Builtin.firstCells size n x).run P w' = .ok new.toArray w')
    (h : appG e size bytes zero sa sn sc n new w K) :
    ∃ p m c w', K p m c w' ∧ (Builtin.append_ #[t, u] ty #[.slice sa sn sc, x]).run P w = .ok (.slice p m c) w' := by
  have hut := u_slice hT ht rfl
  obtain ⟨j, z, hj, hjs, hjb, hjz, hzc⟩ := ty_info hT he
  have hjs' : j.size = size := hjs
  have hjb' : j.bytes = bytes := hjb
  have hzz : z.cells = zero.toArray := by
    have hzc' : z.cells.toList = zero := hzc
    rw [← hzc']
  have hx0 := hx w (fun _ => rfl)
  have hx1 := hx w.drew (fun _ => rfl)
  subst hjs'
  subst hjb'
  unfold appG at h
  by_cases hr : sn + n ≤ sc
  · rw [if_pos hr] at h
    cases sa with
    | none =>
      refine ⟨_, _, _, _, h, ?_⟩
      rcases hu with ⟨e', rfl⟩ | rfl <;> simp [Builtin.append_, run_underlying hut, run_underlying hdu, sizeOf, typeInfo, hj, hn, hr, hx0]
    | some a =>
      simp only at h
      obtain ⟨w', hk, hrun⟩ := stCs_ok (P := P) h
      refine ⟨_, _, _, _, hk, ?_⟩
      rcases hu with ⟨e', rfl⟩ | rfl <;> simp [Builtin.append_, run_underlying hut, run_underlying hdu, sizeOf, typeInfo, hj, hn, hr, hx0, hrun]
  · rw [if_neg hr] at h
    split at h
    · rename_i old hold
      obtain ⟨⟨hlt, hfit⟩, h⟩ := h
      refine ⟨_, _, _, _, h, ?_⟩
      have hfirst : (Builtin.firstCells j.size sn (.slice sa sn sc)).run P w.drew = .ok old.toArray w.drew := by
        cases sa with
        | none => simp at hold; subst hold; simp [Builtin.firstCells]
        | some a =>
          simp only at hold
          have : rdCs w.drew a (sn * j.size) 0 = some old := by
            have hh : ∀ (n i : Nat), rdCs w.drew a n i = rdCs w a n i := fun n => by
              induction n with
              | zero => intro i; rfl
              | succ n ih => intro i; simp only [rdCs, World.cell?_drew, ih]
            rw [hh]; exact hold
          simp only [Builtin.firstCells]
          exact run_cells this
      have h63 : ¬ (9223372036854775807 < (sn : Int) + (n : Int)) := by omega
      have hfit' : ¬ (281474976710656 < Builtin.nextslicecap (sn + n) sc * j.bytes) := by omega
      rcases hu with ⟨e', rfl⟩ | rfl <;> simp [Builtin.append_, run_underlying hut, run_underlying hdu, sizeOf, typeInfo, hj, hn, hr, h63, hfit', Question.forced, hfirst, hx1, zeroValue, hjz, hzz, zeroCells_eq, newRow, grownCap]
    · exact h.elim
theorem bytes_cells (x : ByteArray) : (x.data.map fun b => Value.int .u8 b.toNat) = (bytesOf x).toArray := by
  unfold bytesOf
  cases x with | mk x => cases x; simp
theorem run_first_str {P : Program} (x : ByteArray) (w : World) : (Builtin.firstCells 1 x.size (.string x)).run P w = .ok (bytesOf x).toArray w := by
  have e : x.extract 0 x.size = x := by simp
  simp only [Builtin.firstCells, e, Sem.run_pure, bytes_cells]
section ops
variable {P : Program} {T : Tab} (hT : TOk P T) {o : Oper} {f : Fr} {a : Act} (hr : Ref f a) {w : World} {C : Hd} (hC : CSound P C) {K : Value → World → Prop}
  {next : Act → World → Prop} {Q : Exit → Act → World → Prop}
include hT hr
theorem e_append {args : Array Operand} {ts : Array TypeId} (ho : o.op = .call { callee := .builtin .append, args := args, argTypes := ts }) (h : eop C T o f w K)
    (hk : ∀ v w', K v w' → next (a.put o.dst v) w') : o.upon P a next Q ((execOp a.eval o).run P w) := by
  unfold eop at h
  rw [ho] at h
  simp only at h
  split at h
  · rename_i t u hts
    have htt : ts = #[t, u] := by cases ts; simpa using hts
    subst htt
    have fin : ∀ (s x p : Value) (w' : World), evs f args.toList = some [s, x] → K p w' → (Builtin.append_ #[t, u] o.type #[s, x]).run P w = .ok p w' →
        o.upon P a next Q ((execOp a.eval o).run P w) := by
      intro s x p w' hx hp hrun
      have e1 : args.map a.eval = #[s, x] := by
        have := hr.evs hx
        cases args with | mk l => simpa using this
      unfold execOp
      simp only [ho, resolve, invoke, builtin, e1, Sem.run_bind, Sem.run_pure, Result.andThen_ok, hrun, Oper.upon]
      exact hk _ _ hp
    split at h
    · rename_i sa sn sc xa xn xc e _ _ _ e' _ _ _ hx ht hu
      split at h
      · rename_i d size bytes zero he
        unfold appL at h
        split at h
        · split at h
          · obtain ⟨p, m, c, w', hp, hrun⟩ := appG_ok (P := P) (ty := o.type) (x := .slice none 0 xc) hT ht (u_slice hT hu rfl) (.inl ⟨_, rfl⟩) he
              (fun w => by simp [Builtin.lenOf]) (fun w' _ => by simp [Builtin.firstCells]) h
            exact fin _ _ _ _ hx hp hrun
          · exact h.elim
        · rename_i ad
          split at h
          · rename_i new hnew
            obtain ⟨p, m, c, w', hp, hrun⟩ := appG_ok (P := P) (ty := o.type) (x := .slice (some ad) xn xc) hT ht (u_slice hT hu rfl) (.inl ⟨_, rfl⟩) he
              (fun w => by simp [Builtin.lenOf]) (fun w' hw => by
                have : rdCs w' ad (xn * (size + 1)) 0 = some new := by
                  have hh : ∀ (n i : Nat), rdCs w' ad n i = rdCs w ad n i := fun n => by
                    induction n with
                    | zero => intro i; rfl
                    | succ n ih => intro i; simp only [rdCs, hw, ih]
                  rw [hh]; exact hnew
                simp only [Builtin.firstCells]
                exact run_cells this) h
            exact fin _ _ _ _ hx hp hrun
          · exact h.elim
      · exact h.elim
    · rename_i sa sn sc x e _ _ _ _ _ _ hx ht hu
      split at h
      · rename_i d bytes zero he
        unfold appT at h
        obtain ⟨p, m, c, w', hp, hrun⟩ := appG_ok (P := P) (ty := o.type) (x := .string x) hT ht (u_str hT hu rfl) (.inr rfl) he
          (fun w => by simp [Builtin.lenOf]) (fun w' _ => run_first_str x w') h
        exact fin _ _ _ _ hx hp hrun
      · exact h.elim
    · exact h.elim
  · exact h.elim
theorem e_copy {args : Array Operand} {ts : Array TypeId} (ho : o.op = .call { callee := .builtin .copy, args := args, argTypes := ts }) (h : eop C T o f w K)
    (hk : ∀ v w', K v w' → next (a.put o.dst v) w') : o.upon P a next Q ((execOp a.eval o).run P w) := by
  unfold eop at h
  rw [ho] at h
  simp only at h
  split at h
  · rename_i t us hts
    have htt : ts = (t :: us).toArray := by cases ts; simpa using hts
    subst htt
    split at h
    · rename_i da dn dc sa sn sc e _ _ _ hx ht
      split at h
      · rename_i d size bytes zero he
        unfold cpL at h
        split at h
        · rename_i ad as
          split at h
          · rename_i cs hcs
            obtain ⟨w', hp, hrun⟩ := stCs_ok (P := P) h
            have e1 : args.map a.eval = #[.slice (some ad) dn dc, .slice (some as) sn sc] := by
              have := hr.evs hx
              cases args with | mk l => simpa using this
            unfold execOp
            simp [ho, resolve, invoke, builtin, e1, Builtin.copy_, run_underlying (u_slice hT ht rfl), Builtin.lenOf, run_size hT he, Builtin.firstCells, run_cells hcs, hrun, Oper.upon, goInt]
            exact hk _ _ (by simpa using hp)
          · exact h.elim
        · exact h.elim
      · exact h.elim
    · exact h.elim
  · exact h.elim
include hC in
theorem e_call {g : Operand} {args : Array Operand} {ts : Array TypeId} (ho : o.op = .call { callee := .value g, args := args, argTypes := ts }) (h : eop C T o f w K)
    (hk : ∀ v w', K v w' → next (a.put o.dst v) w') : o.upon P a next Q ((execOp a.eval o).run P w) := by
  unfold eop at h
  rw [ho] at h
  simp only at h
  split at h
  · rename_i gf first captured vs hg hv
    obtain ⟨he, hcall⟩ := hC _ _ _ _ h
    have e1 : args.map a.eval = vs.toArray := by
      rw [← hr.evs hv]
      cases args; simp
    have e2 : first ++ vs.toArray ++ captured = (first.toList ++ vs ++ captured.toList).toArray := by
      cases first; cases captured; simp
    unfold execOp
    simp only [ho, resolve, invoke, Deferred.ofValue, hr.ev hg, e1, Sem.run_bind, Sem.run_pure, Result.andThen_ok, run_callFunc he, Oper.upon, e2]
    refine hcall.mono fun e w' ⟨v, he, hv⟩ => ?_
    subst he
    exact hk _ _ hv
  · exact h.elim
omit hT hr in
theorem run_stringToBytes (w : World) (e : TypeId) (s : ByteArray) : (Conv.stringToBytes e s).run P w = .ok (.slice (some ⟨w.heap.size, 0, none⟩) s.size (grownCap w s.size 0 e))
    ((w.drew.alloc (.cells (bytesOf s ++ List.replicate (grownCap w s.size 0 e - s.size) (Value.int .u8 0)).toArray e)).freeze ⟨w.heap.size, grownCap w s.size 0 e, none⟩ 1) := by
  have hge := grownCap_ge w s.size 0 e
  have e1 : s.data.map (fun b => Value.int .u8 b.toNat) ++ Array.replicate (grownCap w s.size 0 e - s.size) (Value.int .u8 0) = (bytesOf s ++ List.replicate (grownCap w s.size 0 e - s.size) (Value.int .u8 0)).toArray := by
    rw [bytes_cells]; simp
  have hlen : (bytesOf s ++ List.replicate (grownCap w s.size 0 e - s.size) (Value.int .u8 0)).length = grownCap w s.size 0 e := by
    have : (bytesOf s).length = s.size := by
      unfold bytesOf
      rw [List.length_map, Array.length_toList]
      rfl
    rw [List.length_append, List.length_replicate, this]; omega
  have hc : (choose (.appendCap s.size 0 e)).run P w = .ok (grownCap w s.size 0 e) w.drew := rfl
  generalize grownCap w s.size 0 e = c at *
  have hsh : World.shape? (w.drew.alloc (.cells (bytesOf s ++ List.replicate (c - s.size) (Value.int .u8 0)).toArray e)) w.heap.size = some (e, c) := by
    unfold World.shape?
    have := heap_alloc_new w.drew (.cells (bytesOf s ++ List.replicate (c - s.size) (Value.int .u8 0)).toArray e)
    rw [World.size_drew] at this
    rw [this]
    simp only [List.size_toArray, hlen]
  unfold Conv.stringToBytes
  rw [Sem.run_bind, hc, Result.andThen_ok]
  simp only [e1]
  generalize (bytesOf s ++ List.replicate (c - s.size) (Value.int .u8 0)).toArray = cs at *
  have hn : (newRow e cs).run P w.drew = .ok ⟨w.heap.size, 0, none⟩ (w.drew.alloc (.cells cs e)) := rfl
  have hm : (markStringish ⟨w.heap.size, 0, none⟩).run P (w.drew.alloc (.cells cs e)) = .ok () ((w.drew.alloc (.cells cs e)).freeze ⟨w.heap.size, c, none⟩ 1) := by
    unfold markStringish
    have hs2 : (shape w.heap.size).run P (w.drew.alloc (.cells cs e)) = .ok (some (e, c)) (w.drew.alloc (.cells cs e)) := by
      show (Sem.pure (World.shape? (w.drew.alloc (.cells cs e)) w.heap.size)).run P _ = _
      rw [hsh]; rfl
    rw [Sem.run_bind, hs2, Result.andThen_ok]
    rfl
  rw [Sem.run_bind, hn, Result.andThen_ok, Sem.run_bind, hm, Result.andThen_ok]
  rfl
theorem e_convert {s d : TypeId} {x : Operand} (ho : o.op = .convert s d x) (h : eop C T o f w K)
    (hk : ∀ v w', K v w' → next (a.put o.dst v) w') : o.upon P a next Q ((execOp a.eval o).run P w) := by
  unfold eop at h
  rw [ho] at h
  simp only at h
  split at h
  · rename_i _ _ _ e _ _ _ str hs hd hx
    split at h
    · rename_i _ _ _ he
      unfold bytL at h
      unfold execOp
      simp only [ho, hr.ev hx, convert, Sem.run_bind, Result.andThen_ok, run_underlying (u_str hT hs rfl), run_underlying (u_slice hT hd rfl), run_underlying (u_int hT he rfl), Oper.upon]
      have hrun := run_stringToBytes (P := P) w e str
      rw [hrun]
      exact hk _ _ h
    · exact h.elim
  · rename_i _ _ _ _ e _ _ _ ad n c hs hd hx
    split at h
    · rename_i _ _ _ he
      obtain ⟨hsd, h⟩ := cond_f h
      have hsd' := Nat.eq_of_beq_eq_true hsd
      unfold mkStr at h
      split at h
      · rename_i u m hm
        have hrun : (markStringish ad).run P w = .ok () (w.freeze ⟨ad.block, m, none⟩ 1) := by
          unfold markStringish
          have hs2 : (shape ad.block).run P w = .ok (some (u, m)) w := by
            show (Sem.pure (World.shape? w ad.block)).run P _ = _
            rw [hm]; rfl
          rw [Sem.run_bind, hs2, Result.andThen_ok]
          rfl
        have hbe : (s == d) = true := by rw [hsd']; simp
        unfold execOp
        simp only [ho, hr.ev hx, convert, Sem.run_bind, Result.andThen_ok, run_underlying (u_slice hT hs rfl), run_underlying (u_slice hT hd rfl), run_underlying (u_int hT he rfl), Oper.upon, hbe, hrun]
        exact hk _ _ h
      · exact h.elim
    · exact h.elim
  · exact h.elim
theorem e_alloc {t : TypeId} (ho : o.op = .alloc t) (h : eop C T o f w K)
    (hk : ∀ v w', K v w' → next (a.put o.dst v) w') : o.upon P a next Q ((execOp a.eval o).run P w) := by
  unfold eop at h
  rw [ho] at h
  simp only at h
  split at h
  · rename_i d size bytes zero ht
    unfold newC at h
    obtain ⟨z, hz, hzc⟩ := run_zero hT ht w
    have hzz : z.cells = zero.toArray := by
      have hzc' : z.cells.toList = zero := hzc
      rw [← hzc']
    unfold execOp
    simp [ho, Instr.alloc, hz, newVar, newRow, hzz, Oper.upon]
    exact hk _ _ h
  · exact h.elim
theorem e_box {t : TypeId} {x : Operand} (ho : o.op = .box t x) (h : eop C T o f w K)
    (hk : ∀ v w', K v w' → next (a.put o.dst v) w') : o.upon P a next Q ((execOp a.eval o).run P w) := by
  unfold eop at h
  rw [ho] at h
  simp only at h
  split at h
  · rename_i v hx
    obtain ⟨_, h⟩ := cond_f h
    unfold newC at h
    unfold execOp
    simp [ho, Instr.box, hr.ev hx, newVar, newRow, Oper.upon]
    exact hk _ _ (by simpa using h)
  · exact h.elim
theorem e_buildSlice {t : TypeId} {n : Nat} {ps : Array (Nat × Operand)} (ho : o.op = .buildSlice t n ps) (h : eop C T o f w K)
    (hk : ∀ v w', K v w' → next (a.put o.dst v) w') : o.upon P a next Q ((execOp a.eval o).run P w) := by
  unfold eop at h
  rw [ho] at h
  simp only at h
  split at h
  · rename_i e _ _ _ vs ht hv
    split at h
    · rename_i d size bytes zero he
      obtain ⟨hlim, h⟩ := ite_f' h
      split at h
      · rename_i cs hcs
        unfold newC at h
        obtain ⟨z, hz, hzc⟩ := run_zero hT he w
        have hzz : z.cells = zero.toArray := by
          have hzc' : z.cells.toList = zero := hzc
          rw [← hzc']
        have hlim' : ¬ (n * size > 2 ^ 24) := by omega
        have hzl : zero.length = size := ty_zlen hT he
        unfold execOp
        by_cases h0 : n * size = 0
        · have hrow : (zrow zero n).toArray = #[] := by
            rw [← hzl] at h0
            exact (zrow_eq0 zero n h0)
          rw [hrow] at hcs
          simp only [ho, Instr.buildSlice, Sem.run_bind, Sem.run_pure, Result.andThen_ok, run_underlying (u_slice hT ht rfl), run_size hT he, if_neg hlim']
          simp only [if_pos h0, Sem.run_pure, Result.andThen_ok, map_range0 _ _ h0, parts_eq, hr.evs hv, hcs]
          simp [newRow, newObj, Sem.run, Oper.upon]
          simpa using hk _ _ h
        · have hrow := zrow_eq zero n (by
            rcases Nat.eq_zero_or_pos zero.length with h1 | h1
            · rw [← hzl, h1] at h0; simp at h0
            · exact h1)
          rw [hzl] at hrow
          simp only [ho, Instr.buildSlice, Sem.run_bind, Sem.run_pure, Result.andThen_ok, run_underlying (u_slice hT ht rfl), run_size hT he, if_neg hlim', if_neg h0, hz, hzz]
          have hzs : zero.toArray.size = size := by simpa using hzl
          simp only [hzs, hrow, parts_eq, hr.evs hv, hcs]
          simp [newRow, newObj, Sem.run, Oper.upon]
          simpa using hk _ _ h
      · exact h.elim
    · exact h.elim
  · exact h.elim
theorem e_makeSlice {t : TypeId} {x y : Operand} (ho : o.op = .makeSlice t x y) (h : eop C T o f w K)
    (hk : ∀ v w', K v w' → next (a.put o.dst v) w') : o.upon P a next Q ((execOp a.eval o).run P w) := by
  unfold eop at h
  rw [ho] at h
  simp only at h
  split at h
  · rename_i e _ _ _ kl l kc c ht hx hy
    split at h
    · rename_i d size bytes zero he
      unfold mkL at h
      obtain ⟨⟨h0, hlc, hc63, hb⟩, h⟩ := ite_f h
      obtain ⟨z, hz, hzc⟩ := run_zero hT he w
      have hzz : z.cells = zero.toArray := by
        have hzc' : z.cells.toList = zero := hzc
        rw [← hzc']
      have hzl : zero.length = size := ty_zlen hT he
      obtain ⟨j, z', hj, hjs, hjb, _⟩ := ty_info hT he
      have hjs' : j.size = size := hjs
      have hjb' : j.bytes = bytes := hjb
      have wl : IntKind.i64.wrap l = l := by simp [IntKind.wrap, IntKind.bits, IntKind.signed]; omega
      have wc : IntKind.i64.wrap c = c := by simp [IntKind.wrap, IntKind.bits, IntKind.signed]; omega
      have hbl : (bytes : Int) * l ≤ (bytes : Int) * c := Int.mul_le_mul_of_nonneg_left hlc (by omega)
      have hcond : ((decide (c < 0) || decide ((bytes : Int) * c > 2 ^ 48)) || decide (l < 0) || decide (l > c)) = false := by
        simp; omega
      have hask : ∀ b w', (askRoom b).run P w' = .ok () w' := fun b w' => by
        unfold askRoom
        split <;> simp [mark, Sem.run]
      unfold execOp
      have hti : (typeInfo e).run P w = .ok j w := by simp [typeInfo, hj]
      have hstep : (if c.toNat * size = 0 then (pure #[] : Sem (Array Value)) else (do pure (← zeroValue e).cells)).run P w = .ok (if c.toNat * size = 0 then #[] else zero.toArray) w := by
        split
        · rfl
        · simp [hz, hzz]
      by_cases h0 : c.toNat * size = 0
      · have hrow : (zrow zero c.toNat).toArray = #[] := by
          rw [← hzl] at h0
          exact (zrow_eq0 zero c.toNat h0)
        rw [hrow] at h
        simp only [ho, hr.ev hx, hr.ev hy, Instr.makeSlice, asInt, asIntOf, Sem.run_bind, Sem.run_pure, Result.andThen_ok, run_underlying (u_slice hT ht rfl), hti, wl, wc, hjb', hcond, hask, run_size hT he, Bool.false_eq_true, if_false]
        simp only [if_pos h0, Sem.run_pure, Result.andThen_ok, map_range0 _ _ h0]
        simp [newRow, newObj, Sem.run, Oper.upon]
        simpa using hk _ _ h
      · have hrow := zrow_eq zero c.toNat (by
          rcases Nat.eq_zero_or_pos zero.length with h1 | h1
          · rw [← hzl, h1] at h0; simp at h0
          · exact h1)
        rw [hzl] at hrow
        have hzs : zero.toArray.size = size := by simpa using hzl
        simp only [ho, hr.ev hx, hr.ev hy, Instr.makeSlice, asInt, asIntOf, Sem.run_bind, Sem.run_pure, Result.andThen_ok, run_underlying (u_slice hT ht rfl), hti, wl, wc, hjb', hcond, hask, run_size hT he, Bool.false_eq_true, if_false, if_neg h0, hz, hzz, hzs, hrow]
        simp [newRow, newObj, Sem.run, Oper.upon]
        simpa using hk _ _ h
    · exact h.elim
  · exact h.elim
theorem e_store {t : TypeId} {x y : Operand} (ho : o.op = .store t x y) (h : eop C T o f w K)
    (hk : ∀ v w', K v w' → next (a.put o.dst v) w') : o.upon P a next Q ((execOp a.eval o).run P w) := by
  unfold eop at h
  rw [ho] at h
  simp only at h
  have many : ∀ {ad : Addr} {v : Value} {size : Nat}, (∀ w, (sizeOf t).run P w = .ok size w) → v.cells.size = size → a.eval x = .pointer (some ad) → a.eval y = v →
      stCs ad v.cells.toList 0 w (fun w => K undef w) → o.upon P a next Q ((execOp a.eval o).run P w) := by
    intro ad v size hs hsz hx hy h
    obtain ⟨w', hp, hrun⟩ := stCs_ok (P := P) h
    unfold execOp
    simp only [ho, hx, hy, Instr.storeAt, Instr.sureAddr, storeVar, Sem.run_bind, Sem.run_pure, Result.andThen_ok, hs, hsz, ne_eq, not_true_eq_false, if_false, hrun, Oper.upon]
    exact hk _ _ hp
  split at h
  · rename_i n e size bytes zero ad cs ht hx hy
    obtain ⟨hsz, h⟩ := ite_f h
    exact many (size := size) (v := .agg cs) (run_size hT ht) hsz (hr.ev hx) (hr.ev hy) h
  · rename_i fs size bytes zero ad cs ht hx hy
    obtain ⟨hsz, h⟩ := ite_f h
    exact many (size := size) (v := .agg cs) (run_size hT ht) hsz (hr.ev hx) (hr.ev hy) h
  · rename_i d bytes zero ad v _ _ ht hx hy
    obtain ⟨h1, h⟩ := cond_f h
    have hc : v.cells = #[v] := by cases v <;> simp [one] at h1 <;> rfl
    refine many (size := 1) (run_size hT ht) (by rw [hc]; rfl) (hr.ev hx) (hr.ev hy) ?_
    rw [hc]
    show stCs ad [v] 0 w _
    simp only [stCs, h1, cond_true]
    have : ad.add 0 = ad := rfl
    rw [this]
    exact h
  · exact h.elim
include hC in
/-- Whatever writes, makes memory, or calls. -/
theorem e_ok (h : eop C T o f w K) (hk : ∀ v w', K v w' → next (a.put o.dst v) w') : o.wp P a w next Q := by
  unfold Oper.wp
  have h' := h
  unfold eop at h
  split at h
  · exact e_alloc hT hr (by assumption) h' hk
  · exact e_box hT hr (by assumption) h' hk
  · exact e_buildSlice hT hr (by assumption) h' hk
  · exact e_store hT hr (by assumption) h' hk
  · exact e_makeSlice hT hr (by assumption) h' hk
  · exact e_convert hT hr (by assumption) h' hk
  · rename_i b args ts ho
    split at h
    · exact e_append hT hr ho h' hk
    · exact e_copy hT hr ho h' hk
    · exact h.elim
  · exact e_call hT hr hC (by assumption) h' hk
  · exact h.elim
end ops
end Go.Proofs.Ytdbnobeopgfhgaa.Vm
