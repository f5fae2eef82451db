/- The typed steps are the model's: operations that need no memory or only read it. No statement of the seat is in this text. -/
import Derived.Test.YtdbnobeopgfhgaaVmB
set_option linter.unusedVariables false
set_option linter.unusedSimpArgs false
namespace Go.Proofs.Ytdbnobeopgfhgaa.Vm
open Go

theorem cond_f {b : Bool} {p : Prop} (h : cond b p False) : b = true ∧ p := by cases b; exact h.elim; exact ⟨rfl, h⟩
theorem cond_f' {b : Bool} {p : Prop} (h : cond b False p) : b = false ∧ p := by cases b; exact ⟨rfl, h⟩; exact h.elim
theorem sm_ok {p : Option Addr} {K : Addr → Prop} (h : sm p K) : ∃ a, p = some a ∧ K a := by
  cases p with
  | none => exact h.elim
  | some a => exact ⟨a, rfl, h⟩
theorem ite_f {c : Prop} [Decidable c] {p : Prop} (h : if c then p else False) : c ∧ p := by
  by_cases hc : c
  · rw [if_pos hc] at h; exact ⟨hc, h⟩
  · rw [if_neg hc] at h; exact h.elim
theorem ite_f' {c : Prop} [Decidable c] {p : Prop} (h : if c then False else p) : ¬ c ∧ p := by
  by_cases hc : c
  · rw [if_pos hc] at h; exact h.elim
  · rw [if_neg hc] at h; exact ⟨hc, h⟩

/-- What is known of a frame holds of the act. -/
structure Ref (f : Fr) (a : Act) : Prop where
  size : f.length = a.tmps.size
  val : ∀ (i : Nat) (v : Value), f[i]? = some (some v) → a.tmps[i]? = some v
  defers : a.defers = []
theorem getD_some {f : Fr} {t : Nat} {v : Value} (h : f.getD t none = some v) : f[t]? = some (some v) := by
  rw [List.getD_eq_getElem?_getD] at h
  cases hf : f[t]? with
  | none => rw [hf] at h; cases h
  | some u => rw [hf] at h; simp at h; rw [h]
theorem Ref.get {f : Fr} {a : Act} (hr : Ref f a) {t : Nat} {v : Value} (h : f.getD t none = some v) : a.tmps.getD t undef = v := by
  have := hr.val t v (getD_some h)
  simp [this]
theorem Ref.ev {f : Fr} {a : Act} (hr : Ref f a) {x : Operand} {v : Value} (h : ev f x = some v) : a.eval x = v := by
  cases x with
  | tmp t => exact hr.get h
  | const u => simp [Vm.ev] at h; exact h
  | global g => cases h
  | func g => simp [Vm.ev] at h; exact h
theorem Ref.put {f : Fr} {a : Act} (hr : Ref f a) (d : Option Tmp) (v : Value) : Ref (fput f d v) (a.put d v) := by
  cases d with
  | none => exact hr
  | some d =>
    refine ⟨by simp [fput, Act.put, hr.size], fun i u h => ?_, hr.defers⟩
    simp only [fput] at h
    simp only [Act.put]
    rw [List.getElem?_set] at h
    rw [Array.getElem?_setIfInBounds]
    by_cases hi : d = i
    · subst hi
      rw [if_pos rfl] at h ⊢
      have hs := hr.size
      split at h
      · rename_i hl
        rw [if_pos (by omega)]
        simp at h
        rw [h]
      · cases h
    · rw [if_neg hi] at h ⊢
      exact hr.val i u h
theorem Ref.known {f : Fr} {a : Act} (hr : Ref f a) {d : Nat} {v : Value} (h : f.getD d none = some v) : Ref (f.set d (some v)) a := by
  refine ⟨by simp [hr.size], fun i u hi => ?_, hr.defers⟩
  rw [List.getElem?_set] at hi
  by_cases hd : d = i
  · subst hd
    rw [if_pos rfl] at hi
    split at hi
    · simp at hi
      subst hi
      exact hr.val _ _ (getD_some h)
    · cases hi
  · rw [if_neg hd] at hi
    exact hr.val i u hi
theorem Ref.evs {f : Fr} {a : Act} (hr : Ref f a) : ∀ {l : List Operand} {vs : List Value}, Vm.evs f l = some vs → l.map a.eval = vs
  | [], vs, h => by simp [Vm.evs] at h; simp [h]
  | x :: l, vs, h => by
    simp only [Vm.evs] at h
    split at h
    · rename_i v us hv hu
      cases h
      simp [hr.ev hv, hr.evs hu]
    · cases h
theorem Ref.oev {f : Fr} {a : Act} (hr : Ref f a) {x : Option Operand} {v : Option Value} (h : Vm.oev f x = some v) : x.map a.eval = v := by
  cases x with
  | none => simp [Vm.oev] at h; simp [h]
  | some x =>
    simp only [Vm.oev] at h
    split at h
    · rename_i u hu
      cases h
      simp [hr.ev hu]
    · cases h

section types
variable {P : Program} {T : Tab} (hT : TOk P T) {t : TypeId} {i : TI} (h : tget T t = some i)
include hT h
theorem ty_d : dChk P t i.d = true := by
  have := hT.ok t i h
  simp only [iChk, Bool.and_eq_true] at this
  exact this.1.1
theorem ty_zlen : i.zero.length = i.size := by
  have := hT.ok t i h
  simp only [iChk, Bool.and_eq_true] at this
  exact Nat.eq_of_beq_eq_true this.1.2
theorem ty_info : ∃ j z, P.info? t = some j ∧ j.size = i.size ∧ j.bytes = i.bytes ∧ j.zero = some z ∧ z.cells.toList = i.zero := by
  have := hT.ok t i h
  simp only [iChk, Bool.and_eq_true] at this
  obtain ⟨_, h2⟩ := this
  split at h2
  · rename_i j hj
    simp only [Bool.and_eq_true, beq_iff_eq] at h2
    obtain ⟨⟨h3, h4⟩, h5⟩ := h2
    split at h5
    · rename_i z hz
      exact ⟨j, z, hj, h3, h4, hz, vsEq_eq h5⟩
    · cases h5
  · cases h2
theorem run_size (w : World) : (sizeOf t).run P w = .ok i.size w := by
  obtain ⟨j, z, hj, hs, _⟩ := ty_info hT h
  simp [sizeOf, typeInfo, hj, hs]
theorem run_info (w : World) : ∃ j, (typeInfo t).run P w = .ok j w ∧ j.size = i.size ∧ j.bytes = i.bytes := by
  obtain ⟨j, z, hj, hs, hb, _⟩ := ty_info hT h
  exact ⟨j, by simp [typeInfo, hj], hs, hb⟩
theorem run_zero (w : World) : ∃ z, (zeroValue t).run P w = .ok z w ∧ z.cells.toList = i.zero := by
  obtain ⟨j, z, hj, hs, hb, hz, hc⟩ := ty_info hT h
  exact ⟨z, by simp [zeroValue, typeInfo, hj, hz], hc⟩
theorem u_int {k : IntKind} (hd : i.d = .int k) : P.underlying t = some (.int k) := by
  have := ty_d hT h
  rw [hd] at this
  simp only [dChk] at this
  split at this
  · rename_i j hj; rw [hj, kEq_eq this]
  · cases this
theorem u_bool (hd : i.d = .bool) : P.underlying t = some .bool := by
  have := ty_d hT h
  rw [hd] at this
  simp only [dChk] at this
  split at this
  · assumption
  · cases this
theorem u_str (hd : i.d = .str) : P.underlying t = some .string := by
  have := ty_d hT h
  rw [hd] at this
  simp only [dChk] at this
  split at this
  · assumption
  · cases this
theorem u_ptr (hd : i.d = .ptr) : ∃ e, P.underlying t = some (.pointer e) := by
  have := ty_d hT h
  rw [hd] at this
  simp only [dChk] at this
  split at this
  · exact ⟨_, by assumption⟩
  · cases this
theorem u_func (hd : i.d = .func) : ∃ x y z, P.underlying t = some (.func x y z) := by
  have := ty_d hT h
  rw [hd] at this
  simp only [dChk] at this
  split at this
  · exact ⟨_, _, _, by assumption⟩
  · cases this
theorem u_slice {e : TypeId} (hd : i.d = .slice e) : P.underlying t = some (.slice e) := by
  have := ty_d hT h
  rw [hd] at this
  simp only [dChk] at this
  split at this
  · rename_i j hj; simp at this; rw [hj, this]
  · cases this
theorem u_arr {n : Nat} {e : TypeId} (hd : i.d = .arr n e) : P.underlying t = some (.array n e) := by
  have := ty_d hT h
  rw [hd] at this
  simp only [dChk] at this
  split at this
  · rename_i j u hj; simp at this; rw [hj, this.1, this.2]
  · cases this
theorem u_struct' {fs : List (Nat × TypeId)} (hd : i.d = .struct fs) : ∃ gs, P.underlying t = some (.struct gs) ∧ gs.toList.map (fun f => (f.offset, f.type)) = fs ∧ (∀ g ∈ gs.toList, g.name ≠ "_") ∧ P.stoodInHeld t = false := by
  have := ty_d hT h
  rw [hd] at this
  simp only [dChk] at this
  split at this
  · rename_i gs hj
    simp only [Bool.and_eq_true, beq_iff_eq, Bool.not_eq_true'] at this
    refine ⟨gs, hj, this.1.1.symm, fun g hg => ?_, this.2⟩
    have := List.all_eq_true.1 this.1.2 g hg
    simpa using this
  · cases this
theorem u_struct {fs : List (Nat × TypeId)} (hd : i.d = .struct fs) : ∃ gs, P.underlying t = some (.struct gs) ∧ gs.toList.map (fun f => (f.offset, f.type)) = fs := by
  obtain ⟨gs, h1, h2, _⟩ := u_struct' hT h hd
  exact ⟨gs, h1, h2⟩
end types

theorem add_add (a : Addr) (i j : Nat) (h : a.spot = none) : (a.add i).add j = a.add (i + j) := by
  cases a with | mk b o s =>
  simp at h
  subst h
  unfold Addr.add
  by_cases h1 : i = 0 <;> by_cases h2 : j = 0 <;> simp [h1, h2]
  omega
theorem rdCs_len {w : World} {a : Addr} : ∀ {n i : Nat} {l : List Value}, rdCs w a n i = some l → l.length = n
  | 0, _, l, h => by simp [rdCs] at h; simp [← h]
  | n + 1, i, l, h => by
    simp only [rdCs] at h
    split at h
    · rename_i v m hv hm
      cases h
      simp [rdCs_len hm]
    · cases h
theorem rdCs_get {w : World} {a : Addr} : ∀ {n i : Nat} {l : List Value}, rdCs w a n i = some l → ∀ j v, l[j]? = some v → w.cell? (a.add (i + j)) = some v
  | 0, _, l, h, j, v, hv => by simp [rdCs] at h; subst h; cases hv
  | n + 1, i, l, h, j, v, hv => by
    simp only [rdCs] at h
    split at h
    · rename_i u m hu hm
      cases h
      cases j with
      | zero => simp at hv; rw [← hv]; exact hu
      | succ j =>
        have := rdCs_get hm j v (by simpa using hv)
        rw [show i + (j + 1) = i + 1 + j by omega]; exact this
    · cases h
theorem run_cells {P : Program} {w : World} {a : Addr} {n : Nat} {l : List Value} (h : rdCs w a n 0 = some l) : (loadCells a n).run P w = .ok l.toArray w := by
  have hl := rdCs_len h
  rw [← hl]
  exact run_loadCells_list w a l (fun j v hv => by have := rdCs_get h j v hv; simpa using this)
theorem run_bytes {P : Program} {w : World} (f : Value → ByteArray → Sem (ForInStep ByteArray))
    (hf : ∀ (n : Int) (r : ByteArray), (f (.int .u8 n) r).run P w = .ok (.yield (r.push (UInt8.ofNat n.toNat))) w) :
    ∀ {l : List Value} {bs : List UInt8} (s : ByteArray), toBytes l = some bs → (forIn l s f).run P w = .ok ⟨s.data ++ bs.toArray⟩ w
  | [], bs, s, h => by
    simp [toBytes] at h
    subst h
    simp
  | v :: l, bs, s, h => by
    cases v with
    | int k n =>
      cases k <;> simp only [toBytes] at h <;> try (cases h; done)
      cases hb : toBytes l with
      | none => rw [hb] at h; cases h
      | some cs =>
        rw [hb] at h
        simp at h
        subst h
        have ih := run_bytes f hf (s.push (UInt8.ofNat n.toNat)) hb
        simp only [List.forIn_cons, Sem.run_bind, hf, Result.andThen_ok]
        rw [ih]
        simp [ByteArray.push]
    | _ => simp [toBytes] at h

def factP (F : Fact) (w : World) : Prop := match F with
  | some F => F w
  | none => True
/-- An operation hands back a value, and leaves the world alone, wherever the fact holds. -/
def Gives (P : Program) (o : Oper) (a : Act) (v : Value) (F : Fact) : Prop := ∀ w, factP F w → (execOp a.eval o).run P w = .ok (.value v) w

section ops
variable {P : Program} {T : Tab} (hT : TOk P T) {o : Oper} {f : Fr} {a : Act} (hr : Ref f a) {w : World} {K : Value → Fact → Prop}
theorem iBin_ok {P : Program} {op : BinOp} {k : IntKind} {x y : Int} {K : Value → Prop} (h : iBin op k x y K) : ∃ v, K v ∧ ∀ j w, (op = .shl ∨ op = .shr ∨ j = k) → (binOp op 0 (.int k x) (.int j y)).run P w = .ok v w := by
  cases op <;> simp only [iBin] at h
  case quo =>
    obtain ⟨h0, h⟩ := ite_f' h
    refine ⟨_, h, fun j w hj => ?_⟩
    obtain rfl : j = k := by simpa using hj
    simp [binOp, Op.intDiv, h0]
  case rem =>
    obtain ⟨h0, h⟩ := ite_f' h
    refine ⟨_, h, fun j w hj => ?_⟩
    obtain rfl : j = k := by simpa using hj
    simp [binOp, Op.intDiv, h0]
  case shl =>
    obtain ⟨h0, h⟩ := ite_f' h
    exact ⟨_, h, fun j w hj => by simp [binOp, Op.shift, h0, shl, shr]⟩
  case shr =>
    obtain ⟨h0, h⟩ := ite_f' h
    exact ⟨_, h, fun j w hj => by simp [binOp, Op.shift, h0, shl, shr]⟩
  all_goals
    refine ⟨_, h, fun j w hj => ?_⟩
    obtain rfl : j = k := by simpa using hj
    simp [binOp, Op.intArith, Op.intBits, Op.intCmp, band, bor, bxor]
end ops
end Go.Proofs.Ytdbnobeopgfhgaa.Vm
