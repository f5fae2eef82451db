/- A predicate-transformer semantics of the model's code with typed steps: the operations, the regions, the code. No statement of the seat is in this text. -/
import Derived.Test.YtdbnobeopgfhgaaVmA
set_option linter.unusedVariables false
set_option linter.unusedSimpArgs false
namespace Go.Proofs.Ytdbnobeopgfhgaa.Vm
open Go

abbrev Fact := Option (World → Prop)
abbrev Hd := FuncId → List Value → World → (Value → World → Prop) → Prop
/-- Is it an operation that may write, make memory, or call? -/
def isE (T : Tab) : Op → Bool
  | .alloc _ | .box _ _ | .buildSlice _ _ _ | .store _ _ _ | .makeSlice _ _ _ => true
  | .convert s d _ => match tget T s, tget T d with
    | some ⟨.str, _, _, _⟩, some ⟨.slice _, _, _, _⟩ => true
    | some ⟨.slice _, _, _, _⟩, some ⟨.slice _, _, _, _⟩ => true
    | _, _ => false
  | .call { callee := .builtin b, .. } => match b with
    | .len | .cap | .max | .min => false
    | _ => true
  | .call _ => true
  | _ => false
def iBin (op : BinOp) (k : IntKind) (a b : Int) (K : Value → Prop) : Prop :=
  match op with
  | .add => K (.int k (k.wrap (a + b)))
  | .sub => K (.int k (k.wrap (a - b)))
  | .mul => K (.int k (k.wrap (a * b)))
  | .quo => if b = 0 then False else K (.int k (k.wrap (a.tdiv b)))
  | .rem => if b = 0 then False else K (.int k (a.tmod b))
  | .and => K (.int k (band k a b))
  | .or => K (.int k (bor k a b))
  | .xor => K (.int k (bxor k a b))
  | .eql => K (.bool (a == b))
  | .neq => K (.bool (a != b))
  | .lss => K (.bool (decide (a < b)))
  | .leq => K (.bool (decide (a ≤ b)))
  | .gtr => K (.bool (decide (a > b)))
  | .geq => K (.bool (decide (a ≥ b)))
  | .shl => if b < 0 then False else K (.int k (shl k a (min b.toNat k.bits)))
  | .shr => if b < 0 then False else K (.int k (shr k a (min b.toNat k.bits)))
  | .andNot => False
def allInts (T : Tab) : Nat → TypeId → Bool
  | 0, _ => false
  | n + 1, t => match tget T t with
    | some ⟨.int _, _, _, _⟩ => true
    | _ => false
def stk (T : Tab) (k : IntKind) : List (Nat × TypeId) → Nat → Bool
  | [], _ => true
  | (off, t) :: r, i => Nat.beq off i && (match tget T t with
    | some ⟨.int j, 1, _, _⟩ => kEq j k
    | _ => false) && stk T k r (i + 1)
/-- Of a type of like whole numbers: their kind, and how many. -/
def eqk (T : Tab) (t : TypeId) : Option (IntKind × Nat) := match tget T t with
  | some ⟨.arr n e, _, _, _⟩ => match tget T e with
    | some ⟨.int k, 1, _, _⟩ => some (k, n)
    | _ => none
  | some ⟨.struct ((o, u) :: r), _, _, _⟩ => match tget T u with
    | some ⟨.int k, 1, _, _⟩ => cond (stk T k ((o, u) :: r) 0) (some (k, (((o, u) :: r).length))) none
    | _ => none
  | _ => none
/-- Of a small type: the kinds of its cells. -/
def lvs (T : Tab) : Nat → TypeId → Option (List LK)
  | 0, _ => none
  | d + 1, t => match tget T t with
    | some ⟨.int k, _, _, _⟩ => some [.int k]
    | some ⟨.bool, _, _, _⟩ => some [.bool]
    | some ⟨.str, _, _, _⟩ => some [.str]
    | some ⟨.ptr, _, _, _⟩ => some [.ptr]
    | some ⟨.slice _, _, _, _⟩ => some [.slice]
    | some ⟨.arr n e, _, _, _⟩ => match Nat.ble n 16, lvs T d e with
      | true, some l => some ((List.range n).flatMap fun _ => l)
      | _, _ => none
    | some ⟨.struct fs, _, _, _⟩ => fs.foldr (fun p acc => match lvs T d p.2, acc with
      | some l, some m => some (l ++ m)
      | _, _ => none) (some [])
    | _ => none
/-- The kinds of the cells, if there are sixteen at the most, and as many as there are cells. -/
def small (T : Tab) (t : TypeId) (size : Nat) : Option (List LK) := match lvs T 5 t with
  | some l => match Nat.ble l.length 16 && Nat.beq l.length size with
    | true => some l
    | false => none
  | none => none
/-- A whole variable of several cells. -/
def ldW (T : Tab) (t : TypeId) (size : Nat) (a : Addr) (w : World) (K : List Value → Prop) : Prop := match small T t size with
  | some l => ldLv l a 0 w K
  | none => ldA a size w K
def pBin (T : Tab) (op : BinOp) (t : TypeId) (x y : Value) (K : Value → Prop) : Prop :=
  match x, y with
  | .int k a, .int j b => match op with
    | .shl => iBin .shl k a b K
    | .shr => iBin .shr k a b K
    | op => cond (kEq k j) (iBin op k a b K) False
  | .bool a, .bool b => match tget T t with
    | some ⟨.bool, _, _, _⟩ => match op with
      | .eql => K (.bool (a == b))
      | .neq => K (.bool (!(a == b)))
      | _ => False
    | _ => False
  | .string a, .string b => match op with
    | .eql => K (.bool (a.toList == b.toList))
    | .neq => K (.bool (!(a.toList == b.toList)))
    | _ => False
  | .pointer a, .pointer none => match tget T t with
    | some ⟨.ptr, _, _, _⟩ => match op with
      | .eql => K (.bool a.isNone)
      | .neq => K (.bool (!a.isNone))
      | _ => False
    | _ => False
  | .slice a _ _, .slice none _ _ => match tget T t with
    | some ⟨.slice _, _, _, _⟩ => match op with
      | .eql => K (.bool a.isNone)
      | .neq => K (.bool (!a.isNone))
      | _ => False
    | _ => False
  | .agg xs, .agg ys => match eqk T t with
    | some (k, n) => match op with
      | .eql => eqI k n xs ys fun b => K (.bool b)
      | .neq => eqI k n xs ys fun b => K (.bool (!b))
      | _ => False
    | none => False
  | _, _ => False
def mx2 (x y : Value) (K : Value → Prop) : Prop := match x, y with
  | .int k a, .int j b => cond (kEq k j) (K (.int k (mx a b))) False
  | _, _ => False
def mn2 (x y : Value) (K : Value → Prop) : Prop := match x, y with
  | .int k a, .int j b => cond (kEq k j) (K (.int k (mn a b))) False
  | _, _ => False
def fold2 (f : Value → Value → (Value → Prop) → Prop) : List Value → Value → (Value → Prop) → Prop
  | [], x, K => K x
  | y :: l, x, K => f x y fun z => fold2 f l z K
/-- Bounds of a slice expression without a third index. -/
def bnd (len cap : Nat) (lo hi : Option Value) (K : Nat → Nat → Prop) : Prop :=
  let low (h : Nat) : Prop := match lo with
    | none => K 0 h
    | some (.int _ i) => if 0 ≤ i ∧ i ≤ h then K i.toNat h else False
    | some _ => False
  match hi with
  | none => low len
  | some (.int _ i) => if 0 ≤ i ∧ i ≤ cap then low i.toNat else False
  | some _ => False
def adr (a : Addr) (l size : Nat) : Addr := a.add (l * size)
def adrI (a : Addr) (l : Int) (size : Nat) : Addr := match size with
  | 1 => a.add l.toNat
  | _ => a.add (l.toNat * size)
def adrS (a : Option Addr) (l m size : Nat) : Option Addr := if m = l then a else a.map fun a => a.add (match size with
  | 1 => l
  | _ => l * size)
def oev (f : Fr) : Option Operand → Option (Option Value)
  | none => some none
  | some x => match ev f x with
    | some v => some (some v)
    | none => none
/-- What needs no memory, and what only reads it. -/
def qop (T : Tab) (o : Oper) (f : Fr) (w : World) (K : Value → Fact → Prop) : Prop :=
  match o.op with
  | .move x | .assign x => match ev f x with
    | some v => K v none
    | none => False
  | .pick c a b => match ev f c with
    | some (.bool true) => match ev f a with
      | some v => K v none
      | none => False
    | some (.bool false) => match ev f b with
      | some v => K v none
      | none => False
    | _ => False
  | .nilCheck x => match ev f x with
    | some (.pointer p) => sm p fun a => K (.pointer (some a)) none
    | _ => False
  | .binOp op t x y _ => match ev f x, ev f y with
    | some a, some b => pBin T op t a b fun v => K v none
    | _, _ => False
  | .unOp op _ x => match op, ev f x with
    | .neg, some (.int k n) => K (.int k (k.wrap (0 - n))) none
    | .xor, some (.int k n) => K (.int k (bxor k (if k.signed then -1 else k.max) n)) none
    | .not, some (.bool b) => K (.bool (!b)) none
    | _, _ => False
  | .convert s d x => match tget T s, tget T d, ev f x with
    | some ⟨.int _, _, _, _⟩, some ⟨.int k, _, _, _⟩, some (.int _ n) => K (.int k (k.wrap n)) none
    | some ⟨.slice e, _, _, _⟩, some ⟨.str, _, _, _⟩, some (.slice a n c) => match tget T e with
      | some ⟨.int .u8, _, _, _⟩ => strL a n c w fun s => K (.string s) (some fun w => strL a n c w fun u => u = s)
      | _ => False
    | _, _, _ => False
  | .fieldAddr s x i => match tget T s, ev f x with
    | some ⟨.struct fs, _, _, _⟩, some (.pointer (some a)) => match fs[i]? with
      | some (off, t) => match tget T t with
        | some ⟨_, _ + 1, _, _⟩ => K (.pointer (some (a.add off))) none
        | _ => False
      | none => False
    | _, _ => False
  | .indexAddr t x i => match tget T t, ev f x, ev f i with
    | some ⟨.slice e, _, _, _⟩, some (.slice p n _), some (.int _ j) => match tget T e with
      | some ⟨_, size, _, _⟩ => sm p fun a => if 0 ≤ j ∧ j < n then K (.pointer (some (adrI a j size))) none else False
      | none => False
    | some ⟨.arr n e, _, _, _⟩, some (.pointer (some a)), some (.int _ j) => match tget T e with
      | some ⟨_, size, _, _⟩ => if 0 ≤ j ∧ j < n then K (.pointer (some (adrI a j size))) none else False
      | none => False
    | _, _, _ => False
  | .index t x i => match tget T t, ev f x, ev f i with
    | some ⟨.arr n e, _, _, _⟩, some (.agg cs), some (.int _ j) => match tget T e with
      | some ⟨.int k, 1, _, _⟩ => if 0 ≤ j ∧ j < n then ixI k cs j fun v => K (.int k v) none else False
      | _ => False
    | _, _, _ => False
  | .slice t x lo hi mx => match mx with
    | some _ => False
    | none => match tget T t, ev f x, oev f lo, oev f hi with
      | some ⟨.slice e, _, _, _⟩, some (.slice a n c), some l, some h => match tget T e with
        | some ⟨_, size, _, _⟩ => bnd n c l h fun l h => K (.slice (adrS a l c size) (h - l) (c - l)) none
        | none => False
      | some ⟨.arr n e, _, _, _⟩, some (.pointer (some a)), some l, some h => match tget T e with
        | some ⟨_, size, _, _⟩ => bnd n n l h fun l h => K (.slice (adrS (some a) l n size) (h - l) (n - l)) none
        | none => False
      | some ⟨.str, _, _, _⟩, some (.string s), some l, some h => bnd s.size s.size l h fun l h => K (.string (s.extract l h)) none
      | _, _, _, _ => False
  | .extract x i => match ev f x with
    | some (.tuple vs) => match vs[i]? with
      | some v => cond (kn v) (K v none) False
      | none => False
    | _ => False
  | .makeFunc g first captured => match evs f first.toList, evs f captured.toList with
    | some a, some b => K (.func g a.toArray b.toArray) none
    | _, _ => False
  | .build t ps => match tget T t, evs f (ps.toList.map (·.2)) with
    | some ⟨.struct fs, _, _, zero⟩, some vs => cond (fs.all fun p => (tget T p.2).isSome)
      (match Instr.fill (fun i => (fs[i]?).bind fun p => (tget T p.2).map fun i => (p.1, i.size)) zero.toArray ((ps.toList.map (·.1)).zip vs) with
      | some cs => K (.agg cs) none
      | none => False) False
    | some ⟨.arr _ e, _, _, zero⟩, some vs => match tget T e with
      | some ⟨_, size, _, _⟩ => match Instr.fill (fun i => some (i * size, size)) zero.toArray ((ps.toList.map (·.1)).zip vs) with
        | some cs => K (.agg cs) none
        | none => False
      | none => False
    | _, _ => False
  | .load t x => match tget T t, ev f x with
    | some ⟨.int k, _, _, _⟩, some (.pointer (some a)) => ldI k a w fun n => K (.int k n) (some fun w => w.cell? a = some (.int k n))
    | some ⟨.bool, _, _, _⟩, some (.pointer (some a)) => ldB a w fun n => K (.bool n) (some fun w => w.cell? a = some (.bool n))
    | some ⟨.str, _, _, _⟩, some (.pointer (some a)) => ldS a w fun n => K (.string n) (some fun w => w.cell? a = some (.string n))
    | some ⟨.ptr, _, _, _⟩, some (.pointer (some a)) => ldP a w fun n => K (.pointer n) (some fun w => w.cell? a = some (.pointer n))
    | some ⟨.slice _, _, _, _⟩, some (.pointer (some a)) => ldL a w fun p n c => K (.slice p n c) (some fun w => w.cell? a = some (.slice p n c))
    | some ⟨.func, _, _, _⟩, some (.pointer (some a)) => ldF a w fun g => K g (some fun w => w.cell? a = some g)
    | some ⟨.arr _ _, size, _, _⟩, some (.pointer (some a)) => ldW T t size a w fun cs => K (.agg cs.toArray) (some fun w => rdCs w a size 0 = some cs)
    | some ⟨.struct _, size, _, _⟩, some (.pointer (some a)) => ldW T t size a w fun cs => K (.agg cs.toArray) (some fun w => rdCs w a size 0 = some cs)
    | _, _ => False
  | .call { callee := .builtin b, args, argTypes } => match b with
    | .len => match evs f args.toList, (argTypes[0]?).bind (tget T) with
      | some [.slice _ n _], some ⟨.slice _, _, _, _⟩ => K (.int .i64 n) none
      | some [.string s], some ⟨.str, _, _, _⟩ => K (.int .i64 s.size) none
      | some [_], some ⟨.arr n _, _, _, _⟩ => K (.int .i64 n) none
      | _, _ => False
    | .cap => match evs f args.toList, (argTypes[0]?).bind (tget T) with
      | some [.slice _ _ n], some ⟨.slice _, _, _, _⟩ => K (.int .i64 n) none
      | _, _ => False
    | .max => match evs f args.toList with
      | some (x :: l) => fold2 mx2 l x fun v => K v none
      | _ => False
    | .min => match evs f args.toList with
      | some (x :: l) => fold2 mn2 l x fun v => K v none
      | _ => False
    | _ => False
  | _ => False
/-- What writes, makes memory, or calls. -/
def eop (C : Hd) (T : Tab) (o : Oper) (f : Fr) (w : World) (K : Value → World → Prop) : Prop :=
  match o.op with
  | .alloc t => match tget T t with
    | some ⟨_, _, _, zero⟩ => newC t zero w fun a w => K (.pointer (some a)) w
    | none => False
  | .box t x => match ev f x with
    | some v => cond (kn v) (newC t v.cells.toList w fun a w => K (.pointer (some a)) w) False
    | none => False
  | .buildSlice t n ps => match tget T t, evs f (ps.toList.map (·.2)) with
    | some ⟨.slice e, _, _, _⟩, some vs => match tget T e with
      | some ⟨_, size, _, zero⟩ => if n * size > 16777216 then False else match Instr.fill (fun i => some (i * size, size)) (zrow zero n).toArray ((ps.toList.map (·.1)).zip vs) with
        | some cs => newC e cs.toList w fun a w => K (.slice (some a) n n) w
        | none => False
      | none => False
    | _, _ => False
  | .store t x y => match tget T t, ev f x, ev f y with
    | some ⟨.arr _ _, size, _, _⟩, some (.pointer (some a)), some (.agg cs) => if cs.size = size then stCs a cs.toList 0 w fun w => K undef w else False
    | some ⟨.struct _, size, _, _⟩, some (.pointer (some a)), some (.agg cs) => if cs.size = size then stCs a cs.toList 0 w fun w => K undef w else False
    | some ⟨_, 1, _, _⟩, some (.pointer (some a)), some v => cond (one v) (stC a v w fun w => K undef w) False
    | _, _, _ => False
  | .makeSlice t l c => match tget T t, ev f l, ev f c with
    | some ⟨.slice e, _, _, _⟩, some (.int _ l), some (.int _ c) => match tget T e with
      | some ⟨_, size, bytes, zero⟩ => mkL e size bytes zero l c w fun a l c w => K (.slice a l c) w
      | none => False
    | _, _, _ => False
  | .convert s d x => match tget T s, tget T d, ev f x with
    | some ⟨.str, _, _, _⟩, some ⟨.slice e, _, _, _⟩, some (.string s) => match tget T e with
      | some ⟨.int .u8, _, _, _⟩ => bytL e s w fun a n c w => K (.slice a n c) w
      | _ => False
    | some ⟨.slice _, _, _, _⟩, some ⟨.slice e, _, _, _⟩, some (.slice (some a) n c) => match tget T e with
      | some ⟨.int .u8, _, _, _⟩ => cond (Nat.beq s d) (mkStr a w fun w => K (.slice (some a) n c) w) False
      | _ => False
    | _, _, _ => False
  | .call { callee := .builtin b, args, argTypes } => match b with
    | .append => match argTypes.toList with
      | [t, u] => match evs f args.toList, tget T t, tget T u with
        | some [.slice sa sn sc, .slice xa xn xc], some ⟨.slice e, _, _, _⟩, some ⟨.slice _, _, _, _⟩ => match tget T e with
          | some ⟨_, size + 1, bytes, zero⟩ => appL e (size + 1) bytes zero sa sn sc xa xn xc w fun a n c w => K (.slice a n c) w
          | _ => False
        | some [.slice sa sn sc, .string x], some ⟨.slice e, _, _, _⟩, some ⟨.str, _, _, _⟩ => match tget T e with
          | some ⟨_, 1, bytes, zero⟩ => appT e bytes zero sa sn sc x w fun a n c w => K (.slice a n c) w
          | _ => False
        | _, _, _ => False
      | _ => False
    | .copy => match argTypes.toList with
      | t :: _ => match evs f args.toList, tget T t with
        | some [.slice da dn dc, .slice sa sn sc], some ⟨.slice e, _, _, _⟩ => match tget T e with
          | some ⟨_, size, _, _⟩ => cpL size da dn dc sa sn sc w fun n w => K (.int .i64 n) w
          | none => False
        | _, _ => False
      | _ => False
    | _ => False
  | .call { callee := .value g, args, argTypes } => match ev f g, evs f args.toList with
    | some (.func (.func g) first captured), some vs => C g (first.toList ++ vs ++ captured.toList) w K
    | _, _ => False
  | _ => False
/-- Is a guarded operation carried out? -/
def gsel (ops : Array Oper) (g : Option (Nat × Bool)) (f : Fr) (yes no : Fr → Prop) : Prop :=
  match g with
  | none => yes f
  | some (j, want) => match (ops[j]?).bind (·.dst) with
    | some d => match f.getD d none with
      | some (.bool b) => cond b (cond want (yes (f.set d (some (.bool true)))) (no (f.set d (some (.bool true))))) (cond want (no (f.set d (some (.bool false)))) (yes (f.set d (some (.bool false)))))
      | some (.tuple _) => no f
      | _ => False
    | none => False
def aOps (C : Hd) (T : Tab) (ops : Array Oper) : List Oper → Fr → World → (Fr → World → Prop) → Prop
  | [], f, w, K => K f w
  | o :: r, f, w, K =>
    gsel ops o.guard f
      (fun f => cond (isE T o.op) (eop C T o f w fun v w => aOps C T ops r (fput f o.dst v) w K) (qop T o f w fun v _ => aOps C T ops r (fput f o.dst v) w K))
      (fun f => aOps C T ops r (fput f o.dst undef) w K)
/-- An order in which a region's operations are told. -/
inductive Plan where
  | done
  | take (i : Nat) (p : Plan)
  | eff (i : Nat) (p : Plan)
  | eff2 (i : Nat) (p : Plan) (j : Nat) (q : Plan)
def aft (ops : Array Oper) (j i : Nat) : Bool := match ops[j]? with
  | some o => o.after.any fun e => Region.binds .any e && e.on == i
  | none => false
abbrev Facts := List (Nat × (World → Prop))
def held (w : World) : Facts → Prop → Prop
  | [], K => K
  | p :: l, K => p.2 w ∧ held w l K
def fadd (i : Nat) (F : Fact) (Φ : Facts) : Facts := match F with
  | some F => (i, F) :: Φ
  | none => Φ
def fkeep (ops : Array Oper) (j : Nat) : Facts → Facts
  | [] => []
  | p :: l => match aft ops j p.1 with
    | true => fkeep ops j l
    | false => p :: fkeep ops j l
def aDraw (C : Hd) (T : Tab) (ops : Array Oper) : Plan → Facts → Fr → World → (Fr → World → Prop) → Prop
  | .done, _, f, w, K => K f w
  | .take i p, Φ, f, w, K => match ops[i]? with
    | some o => gsel ops o.guard f
        (fun f => qop T o f w fun v F => aDraw C T ops p (fadd i F Φ) (fput f o.dst v) w K)
        (fun f => aDraw C T ops p Φ (fput f o.dst undef) w K)
    | none => False
  | .eff i p, Φ, f, w, K => match ops[i]? with
    | some o => gsel ops o.guard f
        (fun f => eop C T o f w fun v w => held w (fkeep ops i Φ) (aDraw C T ops p (fkeep ops i Φ) (fput f o.dst v) w K))
        (fun f => aDraw C T ops p (fkeep ops i Φ) (fput f o.dst undef) w K)
    | none => False
  | .eff2 i p j q, Φ, f, w, K => match ops[i]?, ops[j]? with
    | some o, some u =>
      (gsel ops o.guard f
        (fun f => eop C T o f w fun v w => held w (fkeep ops i Φ) (aDraw C T ops p (fkeep ops i Φ) (fput f o.dst v) w K))
        (fun f => aDraw C T ops p (fkeep ops i Φ) (fput f o.dst undef) w K)) ∧
      (gsel ops u.guard f
        (fun f => eop C T u f w fun v w => held w (fkeep ops j Φ) (aDraw C T ops q (fkeep ops j Φ) (fput f u.dst v) w K))
        (fun f => aDraw C T ops q (fkeep ops j Φ) (fput f u.dst undef) w K))
    | _, _ => False

/-! ### Code -/
inductive AExit where
  | normal
  | exit (id : Nat)
  | ret
def AExit.toExit : AExit → Exit
  | .normal => .normal
  | .exit i => .exit i
  | .ret => .ret
abbrev LHd := Nat → Fr → World → (AExit → Fr → World → Prop) → Prop
/-- The number of the first region. -/
def lid : Code → Nat
  | .region id _ _ => id
  | .seq a _ => lid a
  | .block _ c => lid c
  | .loop c => lid c
  | .cond _ a _ => lid a
  | _ => 0
def awp (C : Hd) (L : LHd) (D : Nat → Plan) (T : Tab) : Code → (AExit → Fr → World → Prop) → Fr → World → Prop
  | .skip, K, f, w => K .normal f w
  | .region id ops draw, K, f, w => match draw with
    | false => aOps C T ops ops.toList f w fun f w => K .normal f w
    | true => aDraw C T ops (D id) [] f w.drew fun f w => K .normal f w
  | .seq a b, K, f, w => awp C L D T a (fun e f w => match e with
    | .normal => awp C L D T b K f w
    | .exit i => K (.exit i) f w
    | .ret => K .ret f w) f w
  | .cond c a b, K, f, w => match ev f c with
    | some (.bool t) => cond t (awp C L D T a K f w) (awp C L D T b K f w)
    | _ => False
  | .block id c, K, f, w => awp C L D T c (fun e f w => match e with
    | .normal => K .normal f w
    | .exit i => match Nat.beq i id with
      | true => K .normal f w
      | false => K (.exit i) f w
    | .ret => K .ret f w) f w
  | .loop c, K, f, w => L (lid c) f w K
  | .exit i, K, f, w => K (.exit i) f w
  | .ret, K, f, w => K .ret f w
  | _, _, _, _ => False
/-- What a call hands back. -/
def ares (T : Tab) : List ResultVar → Fr → World → (List Value → Prop) → Prop
  | [], _, _, K => K []
  | .tmp t :: r, f, w, K => match f.getD t none with
    | some v => cond (kn v) (ares T r f w fun vs => K (v :: vs)) False
    | none => False
  | .cell a t :: r, f, w, K => match f.getD a none, tget T t with
    | some (.pointer (some a)), some ⟨.arr _ _, size, _, _⟩ => ldW T t size a w fun cs => ares T r f w fun vs => K (.agg cs.toArray :: vs)
    | some (.pointer (some a)), some ⟨.struct _, size, _, _⟩ => ldW T t size a w fun cs => ares T r f w fun vs => K (.agg cs.toArray :: vs)
    | some (.pointer (some a)), some ⟨.int k, _, _, _⟩ => ldI k a w fun n => ares T r f w fun vs => K (.int k n :: vs)
    | some (.pointer (some a)), some ⟨.slice _, _, _, _⟩ => ldL a w fun p n c => ares T r f w fun vs => K (.slice p n c :: vs)
    | _, _ => False
def tup : List Value → Value
  | [v] => v
  | l => .tuple l.toArray
def afn (C : Hd) (L : LHd) (D : Nat → Plan) (T : Tab) (fn : Func) (args : List Value) (w : World) (K : Value → World → Prop) : Prop :=
  match fn.body with
  | some c => awp C L D T c (fun e f w => match e with
    | .normal => ares T fn.results.toList f w fun vs => K (tup vs) w
    | .ret => ares T fn.results.toList f w fun vs => K (tup vs) w
    | .exit _ => False) (args.map some ++ List.replicate (fn.ntmps - args.length) (some undef)) w
  | none => False
end Go.Proofs.Ytdbnobeopgfhgaa.Vm
