/- The typed steps are the model's: the operations that need no memory or only read it, together. No statement of the seat is in this text. -/
import Derived.Test.YtdbnobeopgfhgaaVmC
set_option linter.unusedVariables false
set_option linter.unusedSimpArgs false
namespace Go.Proofs.Ytdbnobeopgfhgaa.Vm
open Go

theorem fold_max {P : Program} : ∀ {l : List Value} {x : Value} {K : Value → Prop}, fold2 mx2 l x K → ∃ v, K v ∧ ∀ w, (l.foldlM Builtin.max2 x).run P w = .ok v w
  | [], x, K, h => ⟨x, h, fun w => by simp⟩
  | y :: l, x, K, h => by
    simp only [fold2, mx2] at h
    split at h
    · rename_i k i j b
      obtain ⟨hk, h⟩ := cond_f h
      obtain ⟨v, hv, hrun⟩ := fold_max (P := P) h
      exact ⟨v, hv, fun w => by simpa [List.foldlM_cons, Builtin.max2, mx] using hrun w⟩
    · exact h.elim
theorem fold_min {P : Program} : ∀ {l : List Value} {x : Value} {K : Value → Prop}, fold2 mn2 l x K → ∃ v, K v ∧ ∀ w, (l.foldlM Builtin.min2 x).run P w = .ok v w
  | [], x, K, h => ⟨x, h, fun w => by simp⟩
  | y :: l, x, K, h => by
    simp only [fold2, mn2] at h
    split at h
    · rename_i k i j b
      obtain ⟨hk, h⟩ := cond_f h
      obtain ⟨v, hv, hrun⟩ := fold_min (P := P) h
      exact ⟨v, hv, fun w => by simpa [List.foldlM_cons, Builtin.min2, mn] using hrun w⟩
    · exact h.elim
theorem bnd_ok {P : Program} {b : Bool} {len cap : Nat} {lo hi : Option Value} {K : Nat → Nat → Prop} (h : bnd len cap lo hi K) :
    ∃ l r, K l r ∧ ∀ w, (Instr.sliceBounds b len cap lo hi none).run P w = .ok (l, r, cap) w := by
  simp only [bnd] at h
  split at h
  · split at h
    · exact ⟨_, _, h, fun w => by simp [Instr.sliceBounds]⟩
    · rename_i k i
      obtain ⟨hc, h⟩ := ite_f h
      refine ⟨_, _, h, fun w => ?_⟩
      simp [Instr.sliceBounds, Instr.sliceBound, asIntOf, hc]
    · exact h.elim
  · rename_i k i
    obtain ⟨hc, h⟩ := ite_f h
    split at h
    · exact ⟨_, _, h, fun w => by simp [Instr.sliceBounds, Instr.sliceBound, asIntOf, hc]⟩
    · rename_i _ k' i' _
      obtain ⟨hc', h⟩ := ite_f h
      refine ⟨_, _, h, fun w => ?_⟩
      simp only [Instr.sliceBounds, Instr.sliceBound, asIntOf, Sem.run_bind, Sem.run_pure, Result.andThen_ok, if_pos hc, if_pos hc', Option.isSome_none]
    · exact h.elim
  · exact h.elim
theorem adrI_eq (a : Addr) (j : Int) (size : Nat) : adrI a j size = a.add (j.toNat * size) := by
  unfold adrI
  split <;> simp
theorem adrS_eq (a : Option Addr) (l m size : Nat) : adrS a l m size = if m = l then a else a.map fun a => a.add (l * size) := by
  unfold adrS
  split
  · rfl
  · congr 1
    funext a
    split <;> simp
theorem ldI_ok {k : IntKind} {a : Addr} {w : World} {K : Int → Prop} (h : ldI k a w K) : ∃ n, w.cell? a = some (.int k n) ∧ K n := by
  unfold ldI at h
  split at h
  · rename_i j n hc
    obtain ⟨hk, h⟩ := cond_f h
    exact ⟨n, by rw [hc, kEq_eq hk], h⟩
  · exact h.elim
theorem ldB_ok {a : Addr} {w : World} {K : Bool → Prop} (h : ldB a w K) : ∃ n, w.cell? a = some (.bool n) ∧ K n := by
  unfold ldB at h; split at h
  · exact ⟨_, by assumption, h⟩
  · exact h.elim
theorem ldS_ok {a : Addr} {w : World} {K : ByteArray → Prop} (h : ldS a w K) : ∃ n, w.cell? a = some (.string n) ∧ K n := by
  unfold ldS at h; split at h
  · exact ⟨_, by assumption, h⟩
  · exact h.elim
theorem ldP_ok {a : Addr} {w : World} {K : Option Addr → Prop} (h : ldP a w K) : ∃ n, w.cell? a = some (.pointer n) ∧ K n := by
  unfold ldP at h; split at h
  · exact ⟨_, by assumption, h⟩
  · exact h.elim
theorem ldL_ok {a : Addr} {w : World} {K : Option Addr → Nat → Nat → Prop} (h : ldL a w K) : ∃ p n c, w.cell? a = some (.slice p n c) ∧ K p n c := by
  unfold ldL at h; split at h
  · exact ⟨_, _, _, by assumption, h⟩
  · exact h.elim
theorem ldF_ok {a : Addr} {w : World} {K : Value → Prop} (h : ldF a w K) : ∃ g x y, w.cell? a = some (.func g x y) ∧ K (.func g x y) := by
  unfold ldF at h; split at h
  · exact ⟨_, _, _, by assumption, h⟩
  · exact h.elim
theorem ldA_ok {a : Addr} {n : Nat} {w : World} {K : List Value → Prop} (h : ldA a n w K) : ∃ l, rdCs w a n 0 = some l ∧ K l := by
  unfold ldA at h; split at h
  · exact ⟨_, by assumption, h⟩
  · exact h.elim
theorem ldLv_ok {a : Addr} {w : World} : ∀ {l : List LK} {i : Nat} {K : List Value → Prop}, ldLv l a i w K → ∃ m, rdCs w a l.length i = some m ∧ K m
  | [], i, K, h => ⟨[], rfl, h⟩
  | .int k :: r, i, K, h => by
    obtain ⟨n, hn, h⟩ := ldI_ok h
    obtain ⟨m, hm, h⟩ := ldLv_ok h
    exact ⟨_, by simp only [List.length_cons, rdCs, hn, hm], h⟩
  | .bool :: r, i, K, h => by
    obtain ⟨n, hn, h⟩ := ldB_ok h
    obtain ⟨m, hm, h⟩ := ldLv_ok h
    exact ⟨_, by simp only [List.length_cons, rdCs, hn, hm], h⟩
  | .str :: r, i, K, h => by
    obtain ⟨n, hn, h⟩ := ldS_ok h
    obtain ⟨m, hm, h⟩ := ldLv_ok h
    exact ⟨_, by simp only [List.length_cons, rdCs, hn, hm], h⟩
  | .ptr :: r, i, K, h => by
    obtain ⟨n, hn, h⟩ := ldP_ok h
    obtain ⟨m, hm, h⟩ := ldLv_ok h
    exact ⟨_, by simp only [List.length_cons, rdCs, hn, hm], h⟩
  | .slice :: r, i, K, h => by
    obtain ⟨p, n, c, hn, h⟩ := ldL_ok h
    obtain ⟨m, hm, h⟩ := ldLv_ok h
    exact ⟨_, by simp only [List.length_cons, rdCs, hn, hm], h⟩
theorem ldW_ok {T : Tab} {t : TypeId} {n : Nat} {a : Addr} {w : World} {K : List Value → Prop} (h : ldW T t n a w K) : ∃ l, rdCs w a n 0 = some l ∧ K l := by
  unfold ldW at h
  split at h
  · rename_i l hl
    obtain ⟨m, hm, h⟩ := ldLv_ok h
    unfold small at hl
    split at hl
    · rename_i l' _
      split at hl
      · rename_i hb
        simp only [Bool.and_eq_true] at hb
        cases hl
        rw [Nat.eq_of_beq_eq_true hb.2] at hm
        exact ⟨m, hm, h⟩
      · cases hl
    · cases hl
  · exact ldA_ok h
theorem toInts_ok {k : IntKind} : ∀ {l : List Value} {m : List Int}, toInts k l = some m → l = m.map (Value.int k)
  | [], m, h => by simp [toInts] at h; simp [h]
  | v :: l, m, h => by
    cases v with
    | int j n =>
      simp only [toInts] at h
      split at h
      · rename_i hk hm
        cases h
        rw [toInts_ok hm, kEq_eq hk]
        rfl
      · cases h
    | _ => simp [toInts] at h
theorem strL_ok {a : Option Addr} {n c : Nat} {w : World} {K : ByteArray → Prop} (h : strL a n c w K) : ∃ s, K s ∧ strL a n c w (fun u => u = s) := by
  unfold strL at h ⊢
  cases a with
  | none => exact ⟨_, h, rfl⟩
  | some a =>
    simp only at h ⊢
    split at h
    · rename_i l hl
      split at h
      · rename_i bs hb
        exact ⟨_, h, by simp [hl, hb]⟩
      · exact h.elim
    · exact h.elim
theorem strL_run {P : Program} {a : Option Addr} {n c : Nat} {w : World} {s : ByteArray} (h : strL a n c w (fun u => u = s)) :
    (Conv.bytesToString (.slice a n c)).run P w = .ok (.string s) w := by
  unfold strL at h
  cases a with
  | none => simp only at h; subst h; simp [Conv.bytesToString]
  | some a =>
    simp only at h
    split at h
    · rename_i l hl
      split at h
      · rename_i bs hb
        subst h
        simp only [Conv.bytesToString, Sem.run_bind, run_cells hl, Result.andThen_ok, List.forIn_toArray]
        rw [run_bytes _ (by intro n r; simp [Sem.run_pure]) ByteArray.empty hb]
        simp [ByteArray.empty, ByteArray.emptyWithCapacity]
        try rfl
      · exact h.elim
    · exact h.elim
theorem run_loadVar_agg {P : Program} {t : TypeId} {d : TypeDesc} {w : World} {a : Addr} {n : Nat} {l : List Value} (hu : P.underlying t = some d)
    (hd : (match d with | .struct _ | .array _ _ => true | _ => false) = true) (hs : (sizeOf t).run P w = .ok n w) (hl : rdCs w a n 0 = some l) :
    (loadVar t a).run P w = .ok (.agg l.toArray) w := by
  have hagg : (isAgg t).run P w = .ok true w := by
    unfold isAgg
    rw [Sem.run_bind, run_underlying hu w]
    cases d <;> simp_all
  simp [loadVar, Sem.run_bind, hagg, hs, run_cells hl]
theorem run_loadVar_one {P : Program} {t : TypeId} {d : TypeDesc} {w : World} {a : Addr} {v : Value} (hu : P.underlying t = some d)
    (hd : (match d with | .struct _ | .array _ _ => true | _ => false) = false) (hl : w.cell? a = some v) :
    (loadVar t a).run P w = .ok v w := by
  have hagg : (isAgg t).run P w = .ok false w := by
    unfold isAgg
    rw [Sem.run_bind, run_underlying hu w]
    cases d <;> simp_all
  simp [loadVar, Sem.run_bind, hagg, load, Sem.run, hl]

theorem run_eq_bool {P : Program} {t : TypeId} (hu : P.underlying t = some .bool) (x y : Bool) (w : World) : (Op.equal t (.bool x) (.bool y)).run P w = .ok (x == y) w := by
  have : ∀ d, (Op.equalIn (d + 1) t (.bool x) (.bool y)).run P w = .ok (x == y) w := fun d => by simp only [Op.equalIn, Sem.run_bind, run_underlying hu, Result.andThen_ok]; rfl
  exact this 9999
theorem run_eq_nil {P : Program} {t e : TypeId} (hu : P.underlying t = some (.pointer e)) (x : Option Addr) (w : World) : (Op.equal t (.pointer x) (.pointer none)).run P w = .ok x.isNone w := by
  have : ∀ d, (Op.equalIn (d + 1) t (.pointer x) (.pointer none)).run P w = .ok x.isNone w := fun d => by
    cases x <;> (simp only [Op.equalIn, Sem.run_bind, run_underlying hu, Result.andThen_ok]; rfl)
  exact this 9999
theorem run_eq_slice {P : Program} {t e : TypeId} (hu : P.underlying t = some (.slice e)) (x : Option Addr) (n c m d : Nat) (w : World) : (Op.equal t (.slice x n c) (.slice none m d)).run P w = .ok x.isNone w := by
  have : ∀ d', (Op.equalIn (d' + 1) t (.slice x n c) (.slice none m d)).run P w = .ok x.isNone w := fun d' => by
    cases x <;> (simp only [Op.equalIn, Sem.run_bind, run_underlying hu, Result.andThen_ok]; rfl)
  exact this 9999
theorem all_range_eqI : ∀ (xs ys : List Int), xs.length = ys.length → ((List.range xs.length).all fun i => xs.getD i 0 == ys.getD i 0) = (xs == ys)
  | [], [], _ => rfl
  | x :: xs, y :: ys, h => by
    have ih := all_range_eqI xs ys (by simpa using h)
    rw [List.length_cons, List.range_succ_eq_map, List.all_cons, List.all_map]
    simp only [List.getD_cons_zero, Function.comp_def, List.getD_cons_succ, ih]
    simp [List.cons_beq_cons]
  | [], _ :: _, h => by simp at h
  | _ :: _, [], h => by simp at h
theorem run_eq_arr {P : Program} {t e : TypeId} {n : Nat} {k : IntKind} (ht : P.underlying t = some (.array n e)) (he : P.underlying e = some (.int k)) (hsz : ∀ w, (sizeOf e).run P w = .ok 1 w)
    (xs ys : List Int) (hx : xs.length = n) (hy : ys.length = n) (w : World) : (Op.equal t (.agg (xs.map (Value.int k)).toArray) (.agg (ys.map (Value.int k)).toArray)).run P w = .ok (xs == ys) w := by
  have key : ∀ d, (Op.equalIn (d + 2) t (.agg (xs.map (Value.int k)).toArray) (.agg (ys.map (Value.int k)).toArray)).run P w = .ok (xs == ys) w := by
    intro d
    rw [← all_range_eqI xs ys (hx.trans hy.symm), hx, List.range_eq_range', Op.equalIn]
    simp only [Sem.run_bind, run_underlying ht, Result.andThen_ok, hsz, Std.Legacy.Range.forIn_eq_forIn_range', Std.Legacy.Range.size, Nat.sub_zero, Nat.add_sub_cancel, Nat.div_one]
    have hl : ∀ i ∈ List.range' 0 n 1, i < n := fun i hi => by simpa using (List.mem_range'_1.1 hi).2
    generalize List.range' 0 n 1 = l at hl ⊢
    induction l with
    | nil => simp
    | cons i l ih =>
      have hi : i < n := hl i (by simp)
      have px : (part e (xs.map (Value.int k)).toArray (i * 1)).run P w = .ok (.int k (xs.getD i 0)) w := by
        simp [part, isAgg, run_underlying he, List.getD, List.getElem?_eq_getElem (show i < xs.length by omega)]
      have py : (part e (ys.map (Value.int k)).toArray (i * 1)).run P w = .ok (.int k (ys.getD i 0)) w := by
        simp [part, isAgg, run_underlying he, List.getD, List.getElem?_eq_getElem (show i < ys.length by omega)]
      have pe := run_equalIn_int (P := P) w d e k k (xs.getD i 0) (ys.getD i 0) he
      simp only [List.forIn_cons, Sem.run_bind, px, py, pe, Result.andThen_ok, List.all_cons]
      cases hb : (xs.getD i 0 == ys.getD i 0)
      · simp
      · simp only [Bool.not_true, Bool.false_eq_true, if_false, Sem.run_pure, Result.andThen_ok, Bool.true_and]
        exact ih fun j hj => hl j (by simp [hj])
  exact key 9998
theorem run_eqFields {P : Program} {T : Tab} (hT : TOk P T) {k : IntKind} (xs ys : List Int) (d : Nat) (w : World) : ∀ (gs : List Field) (i : Nat), stk T k (gs.map fun f => (f.offset, f.type)) i = true → (∀ g ∈ gs, g.name ≠ "_") →
    i + gs.length = xs.length → i + gs.length = ys.length →
    (Op.eqFields (d + 1) (xs.map (Value.int k)).toArray (ys.map (Value.int k)).toArray gs).run P w = .ok (xs.drop i == ys.drop i) w
  | [], i, _, _, hx, hy => by
    simp at hx hy
    simp [Op.eqFields, List.drop_of_length_le (Nat.le_of_eq hx.symm), List.drop_of_length_le (Nat.le_of_eq hy.symm)]
  | g :: gs, i, hs, hn, hx, hy => by
    simp only [List.map_cons, stk, Bool.and_eq_true] at hs
    obtain ⟨⟨ho, ht⟩, hs⟩ := hs
    have ho' := Nat.eq_of_beq_eq_true ho
    split at ht
    · rename_i j _ _ htt
      have hu := u_int hT htt rfl
      have hxl : i < xs.length := by simp at hx; omega
      have hyl : i < ys.length := by simp at hy; omega
      have px : (part g.type (xs.map (Value.int k)).toArray g.offset).run P w = .ok (.int k xs[i]) w := by
        simp [part, isAgg, run_underlying hu, ho', hxl]
      have py : (part g.type (ys.map (Value.int k)).toArray g.offset).run P w = .ok (.int k ys[i]) w := by
        simp [part, isAgg, run_underlying hu, ho', hyl]
      have pe := run_equalIn_int (P := P) w d g.type k j xs[i] ys[i] hu
      have ih := run_eqFields hT xs ys d w gs (i + 1) hs (fun g hg => hn g (List.mem_cons_of_mem _ hg)) (by simp at hx; omega) (by simp at hy; omega)
      rw [List.drop_eq_getElem_cons hxl, List.drop_eq_getElem_cons hyl]
      simp only [Op.eqFields, if_pos (hn g List.mem_cons_self), Sem.run_bind, px, py, pe, Result.andThen_ok, List.cons_beq_cons]
      cases hb : (xs[i] == ys[i])
      · simp
      · simpa using ih
    · cases ht
theorem deep (P : Program) : ∃ d, P.depth = d + 2 := ⟨2 * (P.types.size + Made.depth), rfl⟩
theorem eqI_ok {P : Program} {T : Tab} (hT : TOk P T) {t : TypeId} {k : IntKind} {n : Nat} {xs ys : Array Value} {K : Bool → Prop} (hk : eqk T t = some (k, n)) (h : eqI k n xs ys K) :
    ∃ b, K b ∧ ∀ w op x y, (eqGuard op t x y (.agg xs) (.agg ys)).run P w = .ok () w ∧ (Op.equal t (.agg xs) (.agg ys)).run P w = .ok b w := by
  unfold eqI at h
  split at h
  · rename_i l m hl hm
    obtain ⟨hlen, h⟩ := cond_f h
    simp only [Bool.and_eq_true] at hlen
    have h1 := Nat.eq_of_beq_eq_true hlen.1
    have h2 := Nat.eq_of_beq_eq_true hlen.2
    have ex : xs = (l.map (Value.int k)).toArray := by rw [← toInts_ok hl]
    have ey : ys = (m.map (Value.int k)).toArray := by rw [← toInts_ok hm]
    refine ⟨_, h, fun w op x y => ?_⟩
    obtain ⟨d, hd⟩ := deep P
    unfold eqk at hk
    split at hk
    · rename_i n' e _ _ _ ht
      have hu := u_arr hT ht rfl
      split at hk
      · rename_i k' _ _ he
        cases hk
        have hue := u_int hT he rfl
        refine ⟨run_eqGuard_agg w op t x y xs ys ?_, ?_⟩
        · rw [hd]; simp [Program.eqGuardType, hu, hue]
        · rw [ex, ey]; exact run_eq_arr hu hue (run_size hT he) l m h1 h2 w
      · cases hk
    · rename_i o u r _ _ _ ht
      obtain ⟨gs, hu, hfs, hnm, hst⟩ := u_struct' hT ht rfl
      split at hk
      · rename_i k' _ _ he
        cases hs : stk T k' ((o, u) :: r) 0 with
        | false => rw [hs] at hk; cases hk
        | true =>
          rw [hs] at hk
          simp only [cond_true, Option.some.injEq, Prod.mk.injEq] at hk
          obtain ⟨rfl, hn⟩ := hk
          rw [← hfs] at hs hn
          simp only [List.length_map] at hn
          have hf : P.fieldsOf t = gs := by simp [Program.fieldsOf, hu]
          refine ⟨run_eqGuard_agg w op t x y xs ys ?_, ?_⟩
          · rw [hd]
            simp only [Program.eqGuardType, hu]
            rw [← Array.any_toList, List.any_eq_false]
            have hall : ∀ (gs : List Field) (i : Nat), stk T k' (gs.map fun f => (f.offset, f.type)) i = true → ∀ g ∈ gs, ∃ j, P.underlying g.type = some (.int j) := by
              intro gs
              induction gs with
              | nil => intro i _ g hg; cases hg
              | cons g gs ih =>
                intro i hs g' hg'
                simp only [List.map_cons, stk, Bool.and_eq_true] at hs
                rcases List.mem_cons.1 hg' with rfl | hg'
                · obtain ⟨⟨_, h3⟩, _⟩ := hs
                  split at h3
                  · rename_i htt; exact ⟨_, u_int hT htt rfl⟩
                  · cases h3
                · exact ih (i + 1) hs.2 g' hg'
            intro g hg
            obtain ⟨j, hj⟩ := hall gs.toList 0 hs g hg
            simp [Program.eqGuardType, hj]
          · rw [ex, ey]
            have e1 := run_equalIn_struct (P := P) w 9999 t (l.map (Value.int k')).toArray (m.map (Value.int k')).toArray (by rw [hf]; exact hu) hst
            have e2 := run_eqFields hT l m 9998 w gs.toList 0 hs hnm (by rw [h1, ← hn]; simp) (by rw [h2, ← hn]; simp)
            rw [hf] at e1
            simp only [List.drop_zero] at e2
            exact e1.trans e2
      · cases hk
    · cases hk
  · exact h.elim
section ops
variable {P : Program} {T : Tab} (hT : TOk P T) {o : Oper} {f : Fr} {a : Act} (hr : Ref f a) {w : World} {K : Value → Fact → Prop}
include hT hr
omit hr in
theorem pBin_ok {op : BinOp} {t : TypeId} {x y : Operand} {u v : Value} {K : Value → Prop} (hx : a.eval x = u) (hy : a.eval y = v) (h : pBin T op t u v K) :
    ∃ z, K z ∧ ∀ w, (do eqGuard op t x y u v; binOp op t u v : Sem Value).run P w = .ok z w := by
  unfold pBin at h
  split at h
  · rename_i k i j b
    have hg : ∀ w, (eqGuard op t x y (.int k i) (.int j b)).run P w = .ok () w := fun w => by
      simp only [eqGuard]; split <;> simp
    have main : iBin op k i b K → (op = .shl ∨ op = .shr ∨ j = k) → ∃ z, K z ∧ ∀ w, (do eqGuard op t x y (.int k i) (.int j b); binOp op t (.int k i) (.int j b) : Sem Value).run P w = .ok z w := fun h hj => by
      obtain ⟨z, hz, hrun⟩ := iBin_ok (P := P) h
      refine ⟨z, hz, fun w => ?_⟩
      have e : binOp op t (.int k i) (.int j b) = binOp op 0 (.int k i) (.int j b) := by cases op <;> rfl
      simp only [Sem.run_bind, hg, Result.andThen_ok]
      rw [e]
      exact hrun j w hj
    split at h
    · exact main h (.inl rfl)
    · exact main h (.inr (.inl rfl))
    · obtain ⟨hk, h⟩ := cond_f h
      exact main h (.inr (.inr (kEq_eq hk).symm))
  · rename_i i j
    split at h
    · rename_i _ _ _ ht
      have hu := u_bool hT ht rfl
      split at h
      · exact ⟨_, h, fun w => by simp only [eqGuard, binOp, Sem.run_bind, run_eq_bool hu]; rfl⟩
      · exact ⟨_, h, fun w => by simp only [eqGuard, binOp, Sem.run_bind, run_eq_bool hu]; rfl⟩
      · exact h.elim
    · exact h.elim
  · split at h
    · exact ⟨_, h, fun w => by simp only [eqGuard, binOp, Op.stringOp, Sem.run_bind]; rfl⟩
    · exact ⟨_, h, fun w => by simp only [eqGuard, binOp, Op.stringOp, Sem.run_bind]; rfl⟩
    · exact h.elim
  · rename_i p
    split at h
    · rename_i _ _ _ ht
      obtain ⟨e, hu⟩ := u_ptr hT ht rfl
      split at h
      · exact ⟨_, h, fun w => by simp only [eqGuard, binOp, Sem.run_bind, run_eq_nil hu]; rfl⟩
      · exact ⟨_, h, fun w => by simp only [eqGuard, binOp, Sem.run_bind, run_eq_nil hu]; rfl⟩
      · exact h.elim
    · exact h.elim
  · rename_i p n c _ _
    split at h
    · rename_i _ _ _ _ ht
      have hu := u_slice hT ht rfl
      split at h
      · exact ⟨_, h, fun w => by simp only [eqGuard, binOp, Sem.run_bind, run_eq_slice hu]; rfl⟩
      · exact ⟨_, h, fun w => by simp only [eqGuard, binOp, Sem.run_bind, run_eq_slice hu]; rfl⟩
      · exact h.elim
    · exact h.elim
  · rename_i xs ys
    split at h
    · rename_i k n hk
      split at h
      · obtain ⟨b, hb, hrun⟩ := eqI_ok hT hk h
        refine ⟨_, hb, fun w => ?_⟩
        obtain ⟨h1, h2⟩ := hrun w .eql x y
        simp only [Sem.run_bind, h1, Result.andThen_ok, binOp, h2]
        rfl
      · obtain ⟨b, hb, hrun⟩ := eqI_ok hT hk h
        refine ⟨_, hb, fun w => ?_⟩
        obtain ⟨h1, h2⟩ := hrun w .neq x y
        simp only [Sem.run_bind, h1, Result.andThen_ok, binOp, h2]
        rfl
      · exact h.elim
    · exact h.elim
  · exact h.elim
end ops
end Go.Proofs.Ytdbnobeopgfhgaa.Vm
