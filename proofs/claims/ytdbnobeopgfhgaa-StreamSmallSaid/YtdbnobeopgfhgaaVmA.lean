/- A predicate-transformer semantics of the model's code with typed steps: definitions. No statement of the seat is in this text. -/
import Derived.WalkKit
import Derived.KernelRfl
import Derived.OrdersHeld
set_option linter.unusedVariables false
set_option linter.unusedSimpArgs false
namespace Go.Proofs.Ytdbnobeopgfhgaa.Vm
open Go

/-! ### Types -/
inductive TD where
  | int (k : IntKind) | bool | str | ptr | slice (e : TypeId) | arr (n : Nat) (e : TypeId) | struct (fs : List (Nat × TypeId)) | func
structure TI where
  d : TD
  size : Nat
  bytes : Nat
  zero : List Value
abbrev Tab := List (TypeId × TI)
def tget : Tab → TypeId → Option TI
  | [], _ => none
  | (u, i) :: r, t => match Nat.beq u t with
    | true => some i
    | false => tget r t
def kEq : IntKind → IntKind → Bool
  | .i8, .i8 | .i16, .i16 | .i32, .i32 | .i64, .i64 | .u8, .u8 | .u16, .u16 | .u32, .u32 | .u64, .u64 => true
  | _, _ => false
theorem kEq_eq {a b : IntKind} (h : kEq a b = true) : a = b := by cases a <;> cases b <;> first | rfl | cases h
def vEq : Value → Value → Bool
  | .bool a, .bool b => a == b
  | .int k a, .int j b => kEq k j && a == b
  | .string a, .string b => a.data.toList.isEmpty && b.data.toList.isEmpty
  | .pointer none, .pointer none => true
  | .slice none a b, .slice none c d => a == c && b == d
  | .nilFunc, .nilFunc => true
  | _, _ => false
theorem vEq_eq {a b : Value} (h : vEq a b = true) : a = b := by
  unfold vEq at h
  split at h
  · simp at h; rw [h]
  · simp at h; rw [kEq_eq h.1, h.2]
  · rename_i a b
    cases a with | mk a => cases b with | mk b =>
      cases a with | mk a => cases b with | mk b =>
        simp at h
        rw [h.1, h.2]
  · rfl
  · simp at h; rw [h.1, h.2]
  · rfl
  · cases h
def vsEq : List Value → List Value → Bool
  | [], [] => true
  | a :: l, b :: m => vEq a b && vsEq l m
  | _, _ => false
theorem vsEq_eq : ∀ {l m : List Value}, vsEq l m = true → l = m
  | [], [], _ => rfl
  | a :: l, b :: m, h => by
    simp only [vsEq, Bool.and_eq_true] at h
    rw [vEq_eq h.1, vsEq_eq h.2]
  | [], _ :: _, h => by simp [vsEq] at h
  | _ :: _, [], h => by simp [vsEq] at h
def dChk (P : Program) (t : TypeId) : TD → Bool
  | .int k => match P.underlying t with | some (.int j) => kEq k j | _ => false
  | .bool => match P.underlying t with | some .bool => true | _ => false
  | .str => match P.underlying t with | some .string => true | _ => false
  | .ptr => match P.underlying t with | some (.pointer _) => true | _ => false
  | .slice e => match P.underlying t with | some (.slice u) => u == e | _ => false
  | .arr n e => match P.underlying t with | some (.array m u) => n == m && u == e | _ => false
  | .struct fs => match P.underlying t with | some (.struct gs) => fs == gs.toList.map (fun f => (f.offset, f.type)) && gs.toList.all (fun f => f.name != "_") && !P.stoodInHeld t | _ => false
  | .func => match P.underlying t with | some (.func _ _ _) => true | _ => false
def iChk (P : Program) (t : TypeId) (i : TI) : Bool :=
  dChk P t i.d && Nat.beq i.zero.length i.size && match P.info? t with
    | some j => j.size == i.size && j.bytes == i.bytes && (match j.zero with | some z => vsEq z.cells.toList i.zero | none => false)
    | none => false
def tChk (P : Program) (T : Tab) : Bool := T.all fun p => iChk P p.1 p.2
structure TOk (P : Program) (T : Tab) : Prop where
  ok : ∀ t i, tget T t = some i → iChk P t i = true
  mixed : P.follows .mixedOrders = true
theorem tget_mem : ∀ {T : Tab} {t : TypeId} {i : TI}, tget T t = some i → (t, i) ∈ T
  | [], _, _, h => by cases h
  | (u, j) :: r, t, i, h => by
    simp only [tget] at h
    split at h
    · rename_i hb
      have : u = t := Nat.eq_of_beq_eq_true hb
      subst this
      cases h
      exact List.mem_cons_self
    · exact List.mem_cons_of_mem _ (tget_mem h)
theorem tok_of (P : Program) (T : Tab) (h : tChk P T = true) (hm : P.follows .mixedOrders = true) : TOk P T :=
  ⟨fun t i hi => List.all_eq_true.1 h _ (tget_mem hi), hm⟩

/-! ### Frames: what a slot holds, as far as it is known -/
abbrev Fr := List (Option Value)
def ev (f : Fr) : Operand → Option Value
  | .tmp t => f.getD t none
  | .const v => some v
  | .global _ => none
  | .func g => some (.func (.func g) #[] #[])
def fput (f : Fr) (d : Option Tmp) (v : Value) : Fr :=
  match d with
  | some d => f.set d (some v)
  | none => f
def kn : Value → Bool
  | .tuple _ => false
  | _ => true
/-- Values of operands, all known. -/
def evs (f : Fr) : List Operand → Option (List Value)
  | [] => some []
  | x :: l => match ev f x, evs f l with
    | some v, some vs => some (v :: vs)
    | _, _ => none

/-! ### Arithmetic -/
def band (k : IntKind) (a b : Int) : Int := k.wrap (BitVec.ofInt k.bits a &&& BitVec.ofInt k.bits b).toNat
def bor (k : IntKind) (a b : Int) : Int := k.wrap (BitVec.ofInt k.bits a ||| BitVec.ofInt k.bits b).toNat
def bxor (k : IntKind) (a b : Int) : Int := k.wrap (BitVec.ofInt k.bits a ^^^ BitVec.ofInt k.bits b).toNat
def shl (k : IntKind) (a : Int) (n : Nat) : Int := k.wrap (a * 2 ^ n)
def shr (k : IntKind) (a : Int) (n : Nat) : Int := a.fdiv (2 ^ n)
def mx (a b : Int) : Int := if b > a then b else a
def mn (a b : Int) : Int := if b < a then b else a
/-! ### Typed steps on memory -/
def sm (p : Option Addr) (K : Addr → Prop) : Prop := match p with
  | some a => K a
  | none => False
def ixI (k : IntKind) (cs : Array Value) (j : Int) (K : Int → Prop) : Prop := match cs[j.toNat]? with
  | some (.int m v) => cond (kEq m k) (K v) False
  | _ => False
def ldI (k : IntKind) (a : Addr) (w : World) (K : Int → Prop) : Prop :=
  match w.cell? a with
  | some (.int j n) => cond (kEq j k) (K n) False
  | _ => False
def ldB (a : Addr) (w : World) (K : Bool → Prop) : Prop :=
  match w.cell? a with
  | some (.bool b) => K b
  | _ => False
def ldS (a : Addr) (w : World) (K : ByteArray → Prop) : Prop :=
  match w.cell? a with
  | some (.string s) => K s
  | _ => False
def ldP (a : Addr) (w : World) (K : Option Addr → Prop) : Prop :=
  match w.cell? a with
  | some (.pointer p) => K p
  | _ => False
def ldL (a : Addr) (w : World) (K : Option Addr → Nat → Nat → Prop) : Prop :=
  match w.cell? a with
  | some (.slice p n c) => K p n c
  | _ => False
def ldF (a : Addr) (w : World) (K : Value → Prop) : Prop :=
  match w.cell? a with
  | some (.func g x y) => K (.func g x y)
  | _ => False
def rdCs (w : World) (a : Addr) : Nat → Nat → Option (List Value)
  | 0, _ => some []
  | n + 1, i => match w.cell? (a.add i), rdCs w a n (i + 1) with
    | some v, some l => some (v :: l)
    | _, _ => none
def ldA (a : Addr) (n : Nat) (w : World) (K : List Value → Prop) : Prop :=
  match rdCs w a n 0 with
  | some l => K l
  | none => False
def one : Value → Bool
  | .agg _ | .tuple _ => false
  | _ => true
def stC (a : Addr) (v : Value) (w : World) (K : World → Prop) : Prop :=
  match w.cell? a with
  | some _ => cond (w.frozen? a) False (K (w.setCell a v))
  | none => False
def stCs (a : Addr) : List Value → Nat → World → (World → Prop) → Prop
  | [], _, w, K => K w
  | v :: r, i, w, K => cond (one v) (stC (a.add i) v w fun w => stCs a r (i + 1) w K) False
/-- Kinds of one cell. -/
inductive LK where
  | int (k : IntKind) | bool | str | ptr | slice
def ldLv : List LK → Addr → Nat → World → (List Value → Prop) → Prop
  | [], _, _, _, K => K []
  | .int k :: r, a, i, w, K => ldI k (a.add i) w fun n => ldLv r a (i + 1) w fun l => K (.int k n :: l)
  | .bool :: r, a, i, w, K => ldB (a.add i) w fun n => ldLv r a (i + 1) w fun l => K (.bool n :: l)
  | .str :: r, a, i, w, K => ldS (a.add i) w fun n => ldLv r a (i + 1) w fun l => K (.string n :: l)
  | .ptr :: r, a, i, w, K => ldP (a.add i) w fun n => ldLv r a (i + 1) w fun l => K (.pointer n :: l)
  | .slice :: r, a, i, w, K => ldL (a.add i) w fun p n c => ldLv r a (i + 1) w fun l => K (.slice p n c :: l)
def toInts (k : IntKind) : List Value → Option (List Int)
  | [] => some []
  | .int j n :: l => match kEq j k, toInts k l with
    | true, some m => some (n :: m)
    | _, _ => none
  | _ => none
def eqI (k : IntKind) (n : Nat) (xs ys : Array Value) (K : Bool → Prop) : Prop :=
  match toInts k xs.toList, toInts k ys.toList with
  | some l, some m => cond (Nat.beq l.length n && Nat.beq m.length n) (K (l == m)) False
  | _, _ => False
def newC (t : TypeId) (cs : List Value) (w : World) (K : Addr → World → Prop) : Prop :=
  K ⟨w.heap.size, 0, none⟩ (w.alloc (.cells cs.toArray t))
def zrow (zero : List Value) (n : Nat) : List Value := (List.range n).flatMap fun _ => zero
def bytesOf (s : ByteArray) : List Value := s.data.toList.map fun b => .int .u8 b.toNat
/-- An append: the new cells are told. -/
def appG (e : TypeId) (size bytes : Nat) (zero : List Value) (base : Option Addr) (sLen sCap : Nat) (n : Nat) (new : List Value) (w : World)
    (K : Option Addr → Nat → Nat → World → Prop) : Prop :=
  if sLen + n ≤ sCap then
    match base with
    | none => K none (sLen + n) sCap w
    | some a => stCs (a.add (sLen * size)) new 0 w fun w => K (some a) (sLen + n) sCap w
  else
    match (match base with | none => some [] | some a => rdCs w a (sLen * size) 0) with
    | some old => (sLen + n < 9223372036854775808 ∧ Builtin.nextslicecap (sLen + n) sCap * bytes ≤ 281474976710656) ∧
        K (some ⟨w.heap.size, 0, none⟩) (sLen + n) (grownCap w (sLen + n) sCap e)
          (w.drew.alloc (.cells (old ++ new ++ zrow zero (grownCap w (sLen + n) sCap e - (sLen + n))).toArray e))
    | none => False
def appL (e : TypeId) (size bytes : Nat) (zero : List Value) (sa : Option Addr) (sn sc : Nat) (xa : Option Addr) (xn xc : Nat) (w : World)
    (K : Option Addr → Nat → Nat → World → Prop) : Prop :=
  match xa with
  | none => match xn with
    | 0 => appG e size bytes zero sa sn sc 0 [] w K
    | _ + 1 => False
  | some a => match rdCs w a (xn * size) 0 with
    | some new => appG e size bytes zero sa sn sc xn new w K
    | none => False
def appT (e : TypeId) (bytes : Nat) (zero : List Value) (sa : Option Addr) (sn sc : Nat) (x : ByteArray) (w : World)
    (K : Option Addr → Nat → Nat → World → Prop) : Prop := appG e 1 bytes zero sa sn sc x.size (bytesOf x) w K
/-- The built-in copy. -/
def cpL (size : Nat) (da : Option Addr) (dn dc : Nat) (sa : Option Addr) (sn sc : Nat) (w : World) (K : Int → World → Prop) : Prop :=
  match da, sa with
  | some d, some s => match rdCs w s (Nat.min sn dn * size) 0 with
    | some cs => stCs d cs 0 w fun w => K (Nat.min sn dn : Nat) w
    | none => False
  | _, _ => False
def mkL (e : TypeId) (size bytes : Nat) (zero : List Value) (l c : Int) (w : World) (K : Option Addr → Nat → Nat → World → Prop) : Prop :=
  if 0 ≤ l ∧ l ≤ c ∧ c < 9223372036854775808 ∧ (bytes : Int) * c ≤ 281474976710656 then
    K (some ⟨w.heap.size, 0, none⟩) l.toNat c.toNat (w.alloc (.cells (zrow zero c.toNat).toArray e))
  else False
def toBytes : List Value → Option (List UInt8)
  | [] => some []
  | .int .u8 n :: l => (toBytes l).map (UInt8.ofNat n.toNat :: ·)
  | _ => none
/-- string(b) -/
def strL (a : Option Addr) (n c : Nat) (w : World) (K : ByteArray → Prop) : Prop :=
  match a with
  | none => K .empty
  | some a => match rdCs w a n 0 with
    | some l => match toBytes l with
      | some bs => K ⟨bs.toArray⟩
      | none => False
    | none => False
/-- A row that a string's bytes were laid into. -/
def mkStr (a : Addr) (w : World) (K : World → Prop) : Prop := match w.shape? a.block with
  | some (_, n) => K (w.freeze ⟨a.block, n, none⟩ 1)
  | none => False
/-- []byte(s) -/
def bytL (e : TypeId) (s : ByteArray) (w : World) (K : Option Addr → Nat → Nat → World → Prop) : Prop :=
  K (some ⟨w.heap.size, 0, none⟩) s.size (grownCap w s.size 0 e)
    ((w.drew.alloc (.cells (bytesOf s ++ List.replicate (grownCap w s.size 0 e - s.size) (Value.int .u8 0)).toArray e)).freeze ⟨w.heap.size, grownCap w s.size 0 e, none⟩ 1)
end Go.Proofs.Ytdbnobeopgfhgaa.Vm
