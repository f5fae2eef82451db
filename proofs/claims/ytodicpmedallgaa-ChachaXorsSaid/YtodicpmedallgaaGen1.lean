/- Go functions as predicate transformers, written by a program of this session (gen.py), with their soundness. -/
import Derived.Test.YtodicpmedallgaaGenT
set_option linter.unusedVariables false
set_option linter.unusedSimpArgs false
set_option maxRecDepth 100000
namespace Go.Proofs.Ytodicpmedallgaa.G
open Go Go.Proofs.Ytodicpmedallgaa.Vm
/-! ### valise/valisehelp.Own[byte]: function 15 -/
def help_Own_byte.l5 : Nat → Int → Option Addr → Nat → Nat → Option Addr → Nat → Nat → Int → World → (Option Addr → Nat → Nat → World → Prop) → Prop
  | 0, _, _, _, _, _, _, _, _, _, _ => False
  | N + 1, y1, y5, y5n, y5c, y6, y6n, y6c, y7, w, K0 =>
    bif (decide (y7 < ((y6n : Nat) : Int))) then
      sm y6 fun p_15 =>
      if 0 ≤ (y7 : Int) ∧ (y7 : Int) < ((y6n : Nat) : Int) then
      stC (p_15.add (Int.toNat y7)) (Value.int .u8 y1) w fun w =>
      let v7_16 := (IntKind.wrap .i64 (y7 + 1))
      help_Own_byte.l5 N y1 y5 y5n y5c y6 y6n y6c v7_16 w K0
      else False
    else
      K0 y5 y5n y5c w

def help_Own_byte.f (a0 : Option Addr) (a0n : Nat) (a0c : Nat) (a1 : Int) (w : World) (K : Option Addr → Nat → Nat → World → Prop) : Prop :=
  mkL 5 1 1 [(Value.int .u8 0)] 0 (IntKind.wrap .i64 (((a0n : Nat) : Int) + 3)) w fun a11_3 a11_3n a11_3c w =>
  appL 5 1 1 [(Value.int .u8 0)] a11_3 a11_3n a11_3c a0 a0n a0c w fun a14_5 a14_5n a14_5c w =>
  bnd a14_5n a14_5c none (some (Value.int .i64 (IntKind.wrap .i64 (((a0n : Nat) : Int) + 3)))) fun l_7 h_8 =>
  let v7_11 := ((a0n : Nat) : Int)
  ∃ N_17 : Nat, help_Own_byte.l5 N_17 a1 a14_5 a14_5n a14_5c (adrS a14_5 l_7 a14_5c 1) (h_8 - l_7) (a14_5c - l_7) v7_11 w
  (fun o5_18 o5_18n o5_18c w =>
    K o5_18 o5_18n o5_18c w)
def help_Own_byte.H (F : type_of% @help_Own_byte.f) : Hf := fun args w K => match args with
  | [v0, v1] => vL v0 fun a0 a0n a0c => vI .u8 v1 fun a1 => F a0 a0n a0c a1 w (fun r0 r0n r0c w => K (Value.slice r0 r0n r0c) w)
  | _ => False
def help_Own_byte.h : Hf := help_Own_byte.H @help_Own_byte.f
def help_Own_byte.C : Hd := hnil
theorem help_Own_byte.C_ok : CSound Try.prog help_Own_byte.C := hnil_ok
def help_Own_byte.D : Nat → Plan := fun i => .done
noncomputable def help_Own_byte.c : Code := Try.f15.body.getD .skip
theorem help_Own_byte.hb : Try.f15.body = some help_Own_byte.c := by kernel_rfl
noncomputable def help_Own_byte.b0 : Code := (loopsOf help_Own_byte.c).getD 0 .skip
theorem help_Own_byte.b0_loops : loopsOf help_Own_byte.b0 = [] := by kernel_rfl
theorem help_Own_byte.c_loops : loopsOf help_Own_byte.c = [help_Own_byte.b0] := by kernel_rfl
def help_Own_byte.hn5 (N : Nat) (f : Fr) (w : World) (K : AExit → Fr → World → Prop) : Prop :=
  gN f 33 <| gI .u8 f 1 fun y1 => gL f 5 fun y5 y5n y5c => gL f 6 fun y6 y6n y6c => gI .i64 f 7 fun y7 => help_Own_byte.l5 N y1 y5 y5n y5c y6 y6n y6c y7 w (fun o5 o5n o5c w => K (.exit 0) [none, none, none, none, none, some (Value.slice o5 o5n o5c), none, none, none, none, none, none, none, none, none, none, none, none, none, none, none, none, none, none, none, none, none, none, none, none, none, none, none] w)
def help_Own_byte.hx5 : AExit → Fr → World → (AExit → Fr → World → Prop) → Prop := fun e f w K => match e with
  | .normal => False
  | .exit i => (match Nat.beq i 0 with | true => gN f 33 <| gL f 5 fun o5 o5n o5c => K (.exit 0) [none, none, none, none, none, some (Value.slice o5 o5n o5c), none, none, none, none, none, none, none, none, none, none, none, none, none, none, none, none, none, none, none, none, none, none, none, none, none, none, none] w | false => False)
  | .ret => False
def help_Own_byte.L : LHd := fun l f w K => (match Nat.beq l 5 with | true => ∃ N, help_Own_byte.hn5 N f w K | false => False)
theorem help_Own_byte.le5 (N : Nat) (y1 : Int) (y5 : Option Addr) (y5n : Nat) (y5c : Nat) (y6 : Option Addr) (y6n : Nat) (y6c : Nat) (y7 : Int) (w : World) (K : AExit → Fr → World → Prop) : awp help_Own_byte.C help_Own_byte.L help_Own_byte.D tab help_Own_byte.b0 (lpost help_Own_byte.hn5 help_Own_byte.hx5 N K) [none, some (Value.int .u8 y1), none, none, none, some (Value.slice y5 y5n y5c), some (Value.slice y6 y6n y6c), some (Value.int .i64 y7), none, none, none, none, none, none, none, none, none, none, none, none, none, none, none, none, none, none, none, none, none, none, none, none, none] w = help_Own_byte.l5 (N + 1) y1 y5 y5n y5c y6 y6n y6c y7 w (fun o5 o5n o5c w => K (.exit 0) [none, none, none, none, none, some (Value.slice o5 o5n o5c), none, none, none, none, none, none, none, none, none, none, none, none, none, none, none, none, none, none, none, none, none, none, none, none, none, none, none] w) := by kernel_rfl
theorem help_Own_byte.lok5 : LoopOk Try.prog help_Own_byte.L help_Own_byte.b0 := by
  refine loop_ok tab_ok help_Own_byte.C_ok (D := help_Own_byte.D) (help_Own_byte.hn5) (help_Own_byte.hx5) (by kernel_rfl) (by rw [help_Own_byte.b0_loops]; exact lnil) ?_ ?_ ?_ ?_
  · intro f w K h
    unfold help_Own_byte.hn5 at h
    obtain ⟨hlen, h⟩ := gN_ok h
    obtain ⟨y1, h1, h⟩ := gI_ok h
    obtain ⟨y5, y5n, y5c, h5, h⟩ := gL_ok h
    obtain ⟨y6, y6n, y6c, h6, h⟩ := gL_ok h
    obtain ⟨y7, h7, h⟩ := gI_ok h
    exact h
  · intro N f w K h
    unfold help_Own_byte.hn5 at h
    obtain ⟨hlen, h⟩ := gN_ok h
    obtain ⟨y1, h1, h⟩ := gI_ok h
    obtain ⟨y5, y5n, y5c, h5, h⟩ := gL_ok h
    obtain ⟨y6, y6n, y6c, h6, h⟩ := gL_ok h
    obtain ⟨y7, h7, h⟩ := gI_ok h
    refine ⟨[none, some (Value.int .u8 y1), none, none, none, some (Value.slice y5 y5n y5c), some (Value.slice y6 y6n y6c), some (Value.int .i64 y7), none, none, none, none, none, none, none, none, none, none, none, none, none, none, none, none, none, none, none, none, none, none, none, none, none], hlen, ⟨h1, h5, h6, h7, trivial⟩, ?_⟩
    rw [help_Own_byte.le5]
    exact h
  · intro e f w K h
    cases e with
    | normal => exact h.elim
    | exit i =>
      unfold help_Own_byte.hx5 at h
      simp only at h
      split at h
      · rename_i hb
        obtain rfl := Nat.eq_of_beq_eq_true hb
        obtain ⟨hlen, h⟩ := gN_ok h
        obtain ⟨o5, o5n, o5c, h5, h⟩ := gL_ok h
        exact ⟨[none, none, none, none, none, some (Value.slice o5 o5n o5c), none, none, none, none, none, none, none, none, none, none, none, none, none, none, none, none, none, none, none, none, none, none, none, none, none, none, none], hlen, ⟨h5, trivial⟩, h⟩
      · exact (show False from h).elim
    | ret =>
      exact (show False from h).elim
  · intro f w K h
    have e : lid help_Own_byte.b0 = 5 := by kernel_rfl
    rw [e] at h
    exact h
theorem help_Own_byte.eq (a0 : Option Addr) (a0n : Nat) (a0c : Nat) (a1 : Int) (w : World) (K : Value → World → Prop) : afn help_Own_byte.C help_Own_byte.L help_Own_byte.D tab Try.f15 [(Value.slice a0 a0n a0c), (Value.int .u8 a1)] w K = help_Own_byte.f a0 a0n a0c a1 w (fun r0 r0n r0c w => K (Value.slice r0 r0n r0c) w) := by kernel_rfl
theorem help_Own_byte.ok : FSound Try.prog 15 help_Own_byte.h := by
  intro args w K h
  unfold help_Own_byte.h help_Own_byte.H at h
  split at h
  ·
    replace h := vL_ok h
    obtain ⟨a0, a0n, a0c, rfl, h⟩ := h
    replace h := vI_ok h
    obtain ⟨a1, rfl, h⟩ := h
    refine ⟨by kernel_rfl, fn_ok tab_ok help_Own_byte.C_ok (L := help_Own_byte.L) (D := help_Own_byte.D) Try.func15 help_Own_byte.hb (by kernel_rfl) (by rw [help_Own_byte.c_loops]; exact lcons help_Own_byte.lok5 (lnil)) (Nat.le_of_ble_eq_true (by kernel_rfl)) ?_⟩
    rw [help_Own_byte.eq]
    exact h
  · exact h.elim
/-! ### valise/crc.Table: function 24 -/
def crc_Table.l7 : Nat → Addr → Addr → Int → Int → Int → Int → World → (Addr → Addr → Int → Int → Int → World → Prop) → Prop
  | 0, _, _, _, _, _, _, _, _ => False
  | N + 1, y0, y1, y2, y3, y4, y9, w, K2 =>
    bif (decide (y9 < 8)) then
      bif ((band .u32 y3 1) != 0) then
        let v3_19 := (bxor .u32 (shr .u32 y3 1) 3988292384)
        crc_Table.l7 N y0 y1 y2 v3_19 y4 (IntKind.wrap .i64 (y9 + 1)) w K2
      else
        let v3_20 := (shr .u32 y3 1)
        crc_Table.l7 N y0 y1 y2 v3_20 y4 (IntKind.wrap .i64 (y9 + 1)) w K2
    else
      K2 y0 y1 y2 y3 y4 w

def crc_Table.l3 : Nat → Addr → Addr → Int → World → (Addr → Addr → World → Prop) → Prop
  | 0, _, _, _, _, _ => False
  | N + 1, y0, y1, y4, w, K0 =>
    bif (decide (y4 < 256)) then
      let v3_12 := (IntKind.wrap .u32 y4)
      ∃ N_21 : Nat, crc_Table.l7 N_21 y0 y1 y4 v3_12 y4 0 w
      (fun o0_22 o1_23 o2_24 o3_25 o4_26 w =>
        if 0 ≤ (o2_24 : Int) ∧ (o2_24 : Int) < ((256 : Nat) : Int) then
        stC (o1_23.add (Int.toNat o2_24)) (Value.int .u32 o3_25) w fun w =>
        crc_Table.l3 N o0_22 o1_23 (IntKind.wrap .i64 (o4_26 + 1)) w K0
        else False)
    else
      K0 y0 y1 w

def crc_Table.f  (w : World) (K : Array Value → World → Prop) : Prop :=
  newC 37 (List.replicate 256 (Value.int .u32 0)) w fun a0_2 w =>
  newC 37 (List.replicate 256 (Value.int .u32 0)) w fun a1_4 w =>
  ∃ N_27 : Nat, crc_Table.l3 N_27 a0_2 a1_4 0 w
  (fun o0_28 o1_29 w =>
    ldA o1_29 256 w fun x24_31 =>
    if (x24_31.toArray).size = 256 then
    stCs o0_28 x24_31 0 w fun w =>
    ldA o0_28 256 w fun q_32 =>
    K q_32.toArray w
    else False)
def crc_Table.H (F : type_of% @crc_Table.f) : Hf := fun args w K => match args with
  | [] =>  F  w (fun r0 w => K (Value.agg r0) w)
  | _ => False
def crc_Table.h : Hf := crc_Table.H @crc_Table.f
def crc_Table.C : Hd := hnil
theorem crc_Table.C_ok : CSound Try.prog crc_Table.C := hnil_ok
def crc_Table.D : Nat → Plan := fun i => .done
noncomputable def crc_Table.c : Code := Try.f24.body.getD .skip
theorem crc_Table.hb : Try.f24.body = some crc_Table.c := by kernel_rfl
noncomputable def crc_Table.b0 : Code := (loopsOf crc_Table.c).getD 0 .skip
noncomputable def crc_Table.b0_0 : Code := (loopsOf crc_Table.b0).getD 0 .skip
theorem crc_Table.b0_0_loops : loopsOf crc_Table.b0_0 = [] := by kernel_rfl
theorem crc_Table.b0_loops : loopsOf crc_Table.b0 = [crc_Table.b0_0] := by kernel_rfl
theorem crc_Table.c_loops : loopsOf crc_Table.c = [crc_Table.b0] := by kernel_rfl
def crc_Table.hn7 (N : Nat) (f : Fr) (w : World) (K : AExit → Fr → World → Prop) : Prop :=
  gN f 25 <| gQ f 0 fun y0 => gQ f 1 fun y1 => gI .i64 f 2 fun y2 => gI .u32 f 3 fun y3 => gI .i64 f 4 fun y4 => gI .i64 f 9 fun y9 => crc_Table.l7 N y0 y1 y2 y3 y4 y9 w (fun o0 o1 o2 o3 o4 w => K (.exit 2) [some (Value.pointer (some o0)), some (Value.pointer (some o1)), some (Value.int .i64 o2), some (Value.int .u32 o3), some (Value.int .i64 o4), none, none, none, none, none, none, none, none, none, none, none, none, none, none, none, none, none, none, none, none] w)
def crc_Table.hx7 : AExit → Fr → World → (AExit → Fr → World → Prop) → Prop := fun e f w K => match e with
  | .normal => False
  | .exit i => (match Nat.beq i 2 with | true => gN f 25 <| gQ f 0 fun o0 => gQ f 1 fun o1 => gI .i64 f 2 fun o2 => gI .u32 f 3 fun o3 => gI .i64 f 4 fun o4 => K (.exit 2) [some (Value.pointer (some o0)), some (Value.pointer (some o1)), some (Value.int .i64 o2), some (Value.int .u32 o3), some (Value.int .i64 o4), none, none, none, none, none, none, none, none, none, none, none, none, none, none, none, none, none, none, none, none] w | false => False)
  | .ret => False
def crc_Table.hn3 (N : Nat) (f : Fr) (w : World) (K : AExit → Fr → World → Prop) : Prop :=
  gN f 25 <| gQ f 0 fun y0 => gQ f 1 fun y1 => gI .i64 f 4 fun y4 => crc_Table.l3 N y0 y1 y4 w (fun o0 o1 w => K (.exit 0) [some (Value.pointer (some o0)), some (Value.pointer (some o1)), none, none, none, none, none, none, none, none, none, none, none, none, none, none, none, none, none, none, none, none, none, none, none] w)
def crc_Table.hx3 : AExit → Fr → World → (AExit → Fr → World → Prop) → Prop := fun e f w K => match e with
  | .normal => False
  | .exit i => (match Nat.beq i 0 with | true => gN f 25 <| gQ f 0 fun o0 => gQ f 1 fun o1 => K (.exit 0) [some (Value.pointer (some o0)), some (Value.pointer (some o1)), none, none, none, none, none, none, none, none, none, none, none, none, none, none, none, none, none, none, none, none, none, none, none] w | false => False)
  | .ret => False
def crc_Table.L : LHd := fun l f w K => (match Nat.beq l 3 with | true => ∃ N, crc_Table.hn3 N f w K | false => (match Nat.beq l 7 with | true => ∃ N, crc_Table.hn7 N f w K | false => False))
theorem crc_Table.le7 (N : Nat) (y0 : Addr) (y1 : Addr) (y2 : Int) (y3 : Int) (y4 : Int) (y9 : Int) (w : World) (K : AExit → Fr → World → Prop) : awp crc_Table.C crc_Table.L crc_Table.D tab crc_Table.b0_0 (lpost crc_Table.hn7 crc_Table.hx7 N K) [some (Value.pointer (some y0)), some (Value.pointer (some y1)), some (Value.int .i64 y2), some (Value.int .u32 y3), some (Value.int .i64 y4), none, none, none, none, some (Value.int .i64 y9), none, none, none, none, none, none, none, none, none, none, none, none, none, none, none] w = crc_Table.l7 (N + 1) y0 y1 y2 y3 y4 y9 w (fun o0 o1 o2 o3 o4 w => K (.exit 2) [some (Value.pointer (some o0)), some (Value.pointer (some o1)), some (Value.int .i64 o2), some (Value.int .u32 o3), some (Value.int .i64 o4), none, none, none, none, none, none, none, none, none, none, none, none, none, none, none, none, none, none, none, none] w) := by kernel_rfl
theorem crc_Table.lok7 : LoopOk Try.prog crc_Table.L crc_Table.b0_0 := by
  refine loop_ok tab_ok crc_Table.C_ok (D := crc_Table.D) (crc_Table.hn7) (crc_Table.hx7) (by kernel_rfl) (by rw [crc_Table.b0_0_loops]; exact lnil) ?_ ?_ ?_ ?_
  · intro f w K h
    unfold crc_Table.hn7 at h
    obtain ⟨hlen, h⟩ := gN_ok h
    obtain ⟨y0, h0, h⟩ := gQ_ok h
    obtain ⟨y1, h1, h⟩ := gQ_ok h
    obtain ⟨y2, h2, h⟩ := gI_ok h
    obtain ⟨y3, h3, h⟩ := gI_ok h
    obtain ⟨y4, h4, h⟩ := gI_ok h
    obtain ⟨y9, h9, h⟩ := gI_ok h
    exact h
  · intro N f w K h
    unfold crc_Table.hn7 at h
    obtain ⟨hlen, h⟩ := gN_ok h
    obtain ⟨y0, h0, h⟩ := gQ_ok h
    obtain ⟨y1, h1, h⟩ := gQ_ok h
    obtain ⟨y2, h2, h⟩ := gI_ok h
    obtain ⟨y3, h3, h⟩ := gI_ok h
    obtain ⟨y4, h4, h⟩ := gI_ok h
    obtain ⟨y9, h9, h⟩ := gI_ok h
    refine ⟨[some (Value.pointer (some y0)), some (Value.pointer (some y1)), some (Value.int .i64 y2), some (Value.int .u32 y3), some (Value.int .i64 y4), none, none, none, none, some (Value.int .i64 y9), none, none, none, none, none, none, none, none, none, none, none, none, none, none, none], hlen, ⟨h0, h1, h2, h3, h4, h9, trivial⟩, ?_⟩
    rw [crc_Table.le7]
    exact h
  · intro e f w K h
    cases e with
    | normal => exact h.elim
    | exit i =>
      unfold crc_Table.hx7 at h
      simp only at h
      split at h
      · rename_i hb
        obtain rfl := Nat.eq_of_beq_eq_true hb
        obtain ⟨hlen, h⟩ := gN_ok h
        obtain ⟨o0, h0, h⟩ := gQ_ok h
        obtain ⟨o1, h1, h⟩ := gQ_ok h
        obtain ⟨o2, h2, h⟩ := gI_ok h
        obtain ⟨o3, h3, h⟩ := gI_ok h
        obtain ⟨o4, h4, h⟩ := gI_ok h
        exact ⟨[some (Value.pointer (some o0)), some (Value.pointer (some o1)), some (Value.int .i64 o2), some (Value.int .u32 o3), some (Value.int .i64 o4), none, none, none, none, none, none, none, none, none, none, none, none, none, none, none, none, none, none, none, none], hlen, ⟨h0, h1, h2, h3, h4, trivial⟩, h⟩
      · exact (show False from h).elim
    | ret =>
      exact (show False from h).elim
  · intro f w K h
    have e : lid crc_Table.b0_0 = 7 := by kernel_rfl
    rw [e] at h
    exact h
theorem crc_Table.le3 (N : Nat) (y0 : Addr) (y1 : Addr) (y4 : Int) (w : World) (K : AExit → Fr → World → Prop) : awp crc_Table.C crc_Table.L crc_Table.D tab crc_Table.b0 (lpost crc_Table.hn3 crc_Table.hx3 N K) [some (Value.pointer (some y0)), some (Value.pointer (some y1)), none, none, some (Value.int .i64 y4), none, none, none, none, none, none, none, none, none, none, none, none, none, none, none, none, none, none, none, none] w = crc_Table.l3 (N + 1) y0 y1 y4 w (fun o0 o1 w => K (.exit 0) [some (Value.pointer (some o0)), some (Value.pointer (some o1)), none, none, none, none, none, none, none, none, none, none, none, none, none, none, none, none, none, none, none, none, none, none, none] w) := by kernel_rfl
theorem crc_Table.lok3 : LoopOk Try.prog crc_Table.L crc_Table.b0 := by
  refine loop_ok tab_ok crc_Table.C_ok (D := crc_Table.D) (crc_Table.hn3) (crc_Table.hx3) (by kernel_rfl) (by rw [crc_Table.b0_loops]; exact lcons crc_Table.lok7 (lnil)) ?_ ?_ ?_ ?_
  · intro f w K h
    unfold crc_Table.hn3 at h
    obtain ⟨hlen, h⟩ := gN_ok h
    obtain ⟨y0, h0, h⟩ := gQ_ok h
    obtain ⟨y1, h1, h⟩ := gQ_ok h
    obtain ⟨y4, h4, h⟩ := gI_ok h
    exact h
  · intro N f w K h
    unfold crc_Table.hn3 at h
    obtain ⟨hlen, h⟩ := gN_ok h
    obtain ⟨y0, h0, h⟩ := gQ_ok h
    obtain ⟨y1, h1, h⟩ := gQ_ok h
    obtain ⟨y4, h4, h⟩ := gI_ok h
    refine ⟨[some (Value.pointer (some y0)), some (Value.pointer (some y1)), none, none, some (Value.int .i64 y4), none, none, none, none, none, none, none, none, none, none, none, none, none, none, none, none, none, none, none, none], hlen, ⟨h0, h1, h4, trivial⟩, ?_⟩
    rw [crc_Table.le3]
    exact h
  · intro e f w K h
    cases e with
    | normal => exact h.elim
    | exit i =>
      unfold crc_Table.hx3 at h
      simp only at h
      split at h
      · rename_i hb
        obtain rfl := Nat.eq_of_beq_eq_true hb
        obtain ⟨hlen, h⟩ := gN_ok h
        obtain ⟨o0, h0, h⟩ := gQ_ok h
        obtain ⟨o1, h1, h⟩ := gQ_ok h
        exact ⟨[some (Value.pointer (some o0)), some (Value.pointer (some o1)), none, none, none, none, none, none, none, none, none, none, none, none, none, none, none, none, none, none, none, none, none, none, none], hlen, ⟨h0, h1, trivial⟩, h⟩
      · exact (show False from h).elim
    | ret =>
      exact (show False from h).elim
  · intro f w K h
    have e : lid crc_Table.b0 = 3 := by kernel_rfl
    rw [e] at h
    exact h
theorem crc_Table.eq  (w : World) (K : Value → World → Prop) : afn crc_Table.C crc_Table.L crc_Table.D tab Try.f24 [] w K = crc_Table.f  w (fun r0 w => K (Value.agg r0) w) := by kernel_rfl
theorem crc_Table.ok : FSound Try.prog 24 crc_Table.h := by
  intro args w K h
  unfold crc_Table.h crc_Table.H at h
  split at h
  ·
    refine ⟨by kernel_rfl, fn_ok tab_ok crc_Table.C_ok (L := crc_Table.L) (D := crc_Table.D) Try.func24 crc_Table.hb (by kernel_rfl) (by rw [crc_Table.c_loops]; exact lcons crc_Table.lok3 (lnil)) (Nat.le_of_ble_eq_true (by kernel_rfl)) ?_⟩
    rw [crc_Table.eq]
    exact h
  · exact h.elim
/-! ### valise/crc.Add: function 19 -/
def crc_Add.l4 : Nat → Addr → Int → Option Addr → Nat → Nat → Int → Int → World → (Int → World → Prop) → Prop
  | 0, _, _, _, _, _, _, _, _, _ => False
  | N + 1, y5, y6, y12, y12n, y12c, y13, y14, w, K0 =>
    bif (decide (y14 < y13)) then
      sm y12 fun p_13 =>
      if 0 ≤ (y14 : Int) ∧ (y14 : Int) < ((y12n : Nat) : Int) then
      ldI .u8 (p_13.add (Int.toNat y14)) w fun x17_14 =>
      if 0 ≤ ((bxor .u8 (IntKind.wrap .u8 y6) x17_14) : Int) ∧ ((bxor .u8 (IntKind.wrap .u8 y6) x17_14) : Int) < ((256 : Nat) : Int) then
      ldI .u32 (y5.add (Int.toNat (bxor .u8 (IntKind.wrap .u8 y6) x17_14))) w fun x25_15 =>
      let v6_16 := (bxor .u32 (shr .u32 y6 8) x25_15)
      crc_Add.l4 N y5 v6_16 y12 y12n y12c y13 (IntKind.wrap .i64 (y14 + 1)) w K0
      else False
      else False
    else
      K0 y6 w

def crc_Add.f (a0 : Int) (a1 : Option Addr) (a1n : Nat) (a1c : Nat) (w : World) (K : Int → World → Prop) : Prop :=
  crc_Table.f  w fun r9_3 w =>
  newC 37 (List.replicate 256 (Value.int .u32 0)) w fun a5_4 w =>
  if (r9_3).size = 256 then
  stCs a5_4 (r9_3).toList 0 w fun w =>
  let v6_6 := (bxor .u32 a0 4294967295)
  ∃ N_17 : Nat, crc_Add.l4 N_17 a5_4 v6_6 a1 a1n a1c ((a1n : Nat) : Int) 0 w
  (fun o6_18 w =>
    let v4_20 := (bxor .u32 o6_18 4294967295)
    K v4_20 w)
  else False
def crc_Add.H (F : type_of% @crc_Add.f) : Hf := fun args w K => match args with
  | [v0, v1] => vI .u32 v0 fun a0 => vL v1 fun a1 a1n a1c => F a0 a1 a1n a1c w (fun r0 w => K (Value.int .u32 r0) w)
  | _ => False
def crc_Add.h : Hf := crc_Add.H @crc_Add.f
def crc_Add.C : Hd := hcons 24 crc_Table.h (hnil)
theorem crc_Add.C_ok : CSound Try.prog crc_Add.C := hcons_ok crc_Table.ok (hnil_ok)
def crc_Add.D : Nat → Plan := fun i => .done
noncomputable def crc_Add.c : Code := Try.f19.body.getD .skip
theorem crc_Add.hb : Try.f19.body = some crc_Add.c := by kernel_rfl
noncomputable def crc_Add.b0 : Code := (loopsOf crc_Add.c).getD 0 .skip
theorem crc_Add.b0_loops : loopsOf crc_Add.b0 = [] := by kernel_rfl
theorem crc_Add.c_loops : loopsOf crc_Add.c = [crc_Add.b0] := by kernel_rfl
def crc_Add.hn4 (N : Nat) (f : Fr) (w : World) (K : AExit → Fr → World → Prop) : Prop :=
  gN f 30 <| gQ f 5 fun y5 => gI .u32 f 6 fun y6 => gL f 12 fun y12 y12n y12c => gI .i64 f 13 fun y13 => gI .i64 f 14 fun y14 => crc_Add.l4 N y5 y6 y12 y12n y12c y13 y14 w (fun o6 w => K (.exit 0) [none, none, none, none, none, none, some (Value.int .u32 o6), none, none, none, none, none, none, none, none, none, none, none, none, none, none, none, none, none, none, none, none, none, none, none] w)
def crc_Add.hx4 : AExit → Fr → World → (AExit → Fr → World → Prop) → Prop := fun e f w K => match e with
  | .normal => False
  | .exit i => (match Nat.beq i 0 with | true => gN f 30 <| gI .u32 f 6 fun o6 => K (.exit 0) [none, none, none, none, none, none, some (Value.int .u32 o6), none, none, none, none, none, none, none, none, none, none, none, none, none, none, none, none, none, none, none, none, none, none, none] w | false => False)
  | .ret => False
def crc_Add.L : LHd := fun l f w K => (match Nat.beq l 4 with | true => ∃ N, crc_Add.hn4 N f w K | false => False)
theorem crc_Add.le4 (N : Nat) (y5 : Addr) (y6 : Int) (y12 : Option Addr) (y12n : Nat) (y12c : Nat) (y13 : Int) (y14 : Int) (w : World) (K : AExit → Fr → World → Prop) : awp crc_Add.C crc_Add.L crc_Add.D tab crc_Add.b0 (lpost crc_Add.hn4 crc_Add.hx4 N K) [none, none, none, none, none, some (Value.pointer (some y5)), some (Value.int .u32 y6), none, none, none, none, none, some (Value.slice y12 y12n y12c), some (Value.int .i64 y13), some (Value.int .i64 y14), none, none, none, none, none, none, none, none, none, none, none, none, none, none, none] w = crc_Add.l4 (N + 1) y5 y6 y12 y12n y12c y13 y14 w (fun o6 w => K (.exit 0) [none, none, none, none, none, none, some (Value.int .u32 o6), none, none, none, none, none, none, none, none, none, none, none, none, none, none, none, none, none, none, none, none, none, none, none] w) := by kernel_rfl
theorem crc_Add.lok4 : LoopOk Try.prog crc_Add.L crc_Add.b0 := by
  refine loop_ok tab_ok crc_Add.C_ok (D := crc_Add.D) (crc_Add.hn4) (crc_Add.hx4) (by kernel_rfl) (by rw [crc_Add.b0_loops]; exact lnil) ?_ ?_ ?_ ?_
  · intro f w K h
    unfold crc_Add.hn4 at h
    obtain ⟨hlen, h⟩ := gN_ok h
    obtain ⟨y5, h5, h⟩ := gQ_ok h
    obtain ⟨y6, h6, h⟩ := gI_ok h
    obtain ⟨y12, y12n, y12c, h12, h⟩ := gL_ok h
    obtain ⟨y13, h13, h⟩ := gI_ok h
    obtain ⟨y14, h14, h⟩ := gI_ok h
    exact h
  · intro N f w K h
    unfold crc_Add.hn4 at h
    obtain ⟨hlen, h⟩ := gN_ok h
    obtain ⟨y5, h5, h⟩ := gQ_ok h
    obtain ⟨y6, h6, h⟩ := gI_ok h
    obtain ⟨y12, y12n, y12c, h12, h⟩ := gL_ok h
    obtain ⟨y13, h13, h⟩ := gI_ok h
    obtain ⟨y14, h14, h⟩ := gI_ok h
    refine ⟨[none, none, none, none, none, some (Value.pointer (some y5)), some (Value.int .u32 y6), none, none, none, none, none, some (Value.slice y12 y12n y12c), some (Value.int .i64 y13), some (Value.int .i64 y14), none, none, none, none, none, none, none, none, none, none, none, none, none, none, none], hlen, ⟨h5, h6, h12, h13, h14, trivial⟩, ?_⟩
    rw [crc_Add.le4]
    exact h
  · intro e f w K h
    cases e with
    | normal => exact h.elim
    | exit i =>
      unfold crc_Add.hx4 at h
      simp only at h
      split at h
      · rename_i hb
        obtain rfl := Nat.eq_of_beq_eq_true hb
        obtain ⟨hlen, h⟩ := gN_ok h
        obtain ⟨o6, h6, h⟩ := gI_ok h
        exact ⟨[none, none, none, none, none, none, some (Value.int .u32 o6), none, none, none, none, none, none, none, none, none, none, none, none, none, none, none, none, none, none, none, none, none, none, none], hlen, ⟨h6, trivial⟩, h⟩
      · exact (show False from h).elim
    | ret =>
      exact (show False from h).elim
  · intro f w K h
    have e : lid crc_Add.b0 = 4 := by kernel_rfl
    rw [e] at h
    exact h
theorem crc_Add.eq (a0 : Int) (a1 : Option Addr) (a1n : Nat) (a1c : Nat) (w : World) (K : Value → World → Prop) : afn crc_Add.C crc_Add.L crc_Add.D tab Try.f19 [(Value.int .u32 a0), (Value.slice a1 a1n a1c)] w K = crc_Add.f a0 a1 a1n a1c w (fun r0 w => K (Value.int .u32 r0) w) := by kernel_rfl
theorem crc_Add.ok : FSound Try.prog 19 crc_Add.h := by
  intro args w K h
  unfold crc_Add.h crc_Add.H at h
  split at h
  ·
    replace h := vI_ok h
    obtain ⟨a0, rfl, h⟩ := h
    replace h := vL_ok h
    obtain ⟨a1, a1n, a1c, rfl, h⟩ := h
    refine ⟨by kernel_rfl, fn_ok tab_ok crc_Add.C_ok (L := crc_Add.L) (D := crc_Add.D) Try.func19 crc_Add.hb (by kernel_rfl) (by rw [crc_Add.c_loops]; exact lcons crc_Add.lok4 (lnil)) (Nat.le_of_ble_eq_true (by kernel_rfl)) ?_⟩
    rw [crc_Add.eq]
    exact h
  · exact h.elim
/-! ### valise/crc.Sum: function 17 -/
def crc_Sum.f (a0 : Option Addr) (a0n : Nat) (a0c : Nat) (w : World) (K : Int → World → Prop) : Prop :=
  crc_Add.f 0 a0 a0n a0c w fun r4_3 w =>
  K r4_3 w
def crc_Sum.H (F : type_of% @crc_Sum.f) : Hf := fun args w K => match args with
  | [v0] => vL v0 fun a0 a0n a0c => F a0 a0n a0c w (fun r0 w => K (Value.int .u32 r0) w)
  | _ => False
def crc_Sum.h : Hf := crc_Sum.H @crc_Sum.f
def crc_Sum.C : Hd := hcons 19 crc_Add.h (hnil)
theorem crc_Sum.C_ok : CSound Try.prog crc_Sum.C := hcons_ok crc_Add.ok (hnil_ok)
def crc_Sum.D : Nat → Plan := fun i => .done
noncomputable def crc_Sum.c : Code := Try.f17.body.getD .skip
theorem crc_Sum.hb : Try.f17.body = some crc_Sum.c := by kernel_rfl
theorem crc_Sum.c_loops : loopsOf crc_Sum.c = [] := by kernel_rfl
def crc_Sum.L : LHd := fun l f w K => False
theorem crc_Sum.eq (a0 : Option Addr) (a0n : Nat) (a0c : Nat) (w : World) (K : Value → World → Prop) : afn crc_Sum.C crc_Sum.L crc_Sum.D tab Try.f17 [(Value.slice a0 a0n a0c)] w K = crc_Sum.f a0 a0n a0c w (fun r0 w => K (Value.int .u32 r0) w) := by kernel_rfl
theorem crc_Sum.ok : FSound Try.prog 17 crc_Sum.h := by
  intro args w K h
  unfold crc_Sum.h crc_Sum.H at h
  split at h
  ·
    replace h := vL_ok h
    obtain ⟨a0, a0n, a0c, rfl, h⟩ := h
    refine ⟨by kernel_rfl, fn_ok tab_ok crc_Sum.C_ok (L := crc_Sum.L) (D := crc_Sum.D) Try.func17 crc_Sum.hb (by kernel_rfl) (by rw [crc_Sum.c_loops]; exact lnil) (Nat.le_of_ble_eq_true (by kernel_rfl)) ?_⟩
    rw [crc_Sum.eq]
    exact h
  · exact h.elim
/-! ### valise/valiselaw03.awake: function 16 -/
def law03_awake.f  (w : World) (K : Bool → World → Prop) : Prop :=
  newC 5 [(Value.int .u8 49), (Value.int .u8 50), (Value.int .u8 51), (Value.int .u8 52), (Value.int .u8 53), (Value.int .u8 54), (Value.int .u8 55), (Value.int .u8 56), (Value.int .u8 57)] w fun a1_3 w =>
  mkStr a1_3 w fun w =>
  crc_Sum.f (some a1_3) 9 9 w fun r3_4 w =>
  let v0_5 := (r3_4 == 3421780262)
  K v0_5 w
def law03_awake.H (F : type_of% @law03_awake.f) : Hf := fun args w K => match args with
  | [] =>  F  w (fun r0 w => K (Value.bool r0) w)
  | _ => False
def law03_awake.h : Hf := law03_awake.H @law03_awake.f
def law03_awake.C : Hd := hcons 17 crc_Sum.h (hnil)
theorem law03_awake.C_ok : CSound Try.prog law03_awake.C := hcons_ok crc_Sum.ok (hnil_ok)
def law03_awake.D : Nat → Plan := fun i => .done
noncomputable def law03_awake.c : Code := Try.f16.body.getD .skip
theorem law03_awake.hb : Try.f16.body = some law03_awake.c := by kernel_rfl
theorem law03_awake.c_loops : loopsOf law03_awake.c = [] := by kernel_rfl
def law03_awake.L : LHd := fun l f w K => False
theorem law03_awake.eq  (w : World) (K : Value → World → Prop) : afn law03_awake.C law03_awake.L law03_awake.D tab Try.f16 [] w K = law03_awake.f  w (fun r0 w => K (Value.bool r0) w) := by kernel_rfl
theorem law03_awake.ok : FSound Try.prog 16 law03_awake.h := by
  intro args w K h
  unfold law03_awake.h law03_awake.H at h
  split at h
  ·
    refine ⟨by kernel_rfl, fn_ok tab_ok law03_awake.C_ok (L := law03_awake.L) (D := law03_awake.D) Try.func16 law03_awake.hb (by kernel_rfl) (by rw [law03_awake.c_loops]; exact lnil) (Nat.le_of_ble_eq_true (by kernel_rfl)) ?_⟩
    rw [law03_awake.eq]
    exact h
  · exact h.elim
/-! ### valise/valiseref03.Add: function 20 -/
def ref03_Add.l6 : Nat → Option Addr → Nat → Nat → Int → Int → Int → World → (Option Addr → Nat → Nat → Int → Int → World → Prop) → Prop
  | 0, _, _, _, _, _, _, _, _ => False
  | N + 1, y1, y1n, y1c, y5, y6, y7, w, K2 =>
    bif (decide (y7 < 8)) then
      sm y1 fun p_14 =>
      if 0 ≤ (y6 : Int) ∧ (y6 : Int) < ((y1n : Nat) : Int) then
      ldI .u8 (p_14.add (Int.toNat y6)) w fun x25_15 =>
      if (IntKind.wrap .u64 y7) < 0 then False else
      let v8_16 := ((band .u32 (bxor .u32 y5 (IntKind.wrap .u32 (shr .u8 x25_15 (min (Int.toNat (IntKind.wrap .u64 y7)) (IntKind.bits .u8))))) 1) == 1)
      let v5_18 := (shr .u32 y5 1)
      bif v8_16 then
        let v5_20 := (bxor .u32 v5_18 3988292384)
        let v7_21 := (IntKind.wrap .i64 (y7 + 1))
        ref03_Add.l6 N y1 y1n y1c v5_20 y6 v7_21 w K2
      else
        let v7_22 := (IntKind.wrap .i64 (y7 + 1))
        ref03_Add.l6 N y1 y1n y1c v5_18 y6 v7_22 w K2
      else False
    else
      K2 y1 y1n y1c y5 y6 w

def ref03_Add.l3 : Nat → Option Addr → Nat → Nat → Int → Int → World → (Int → World → Prop) → Prop
  | 0, _, _, _, _, _, _, _ => False
  | N + 1, y1, y1n, y1c, y5, y6, w, K0 =>
    bif (decide (y6 < ((y1n : Nat) : Int))) then
      ∃ N_23 : Nat, ref03_Add.l6 N_23 y1 y1n y1c y5 y6 0 w
      (fun o1_24 o1_24n o1_24c o5_25 o6_26 w =>
        let v6_27 := (IntKind.wrap .i64 (o6_26 + 1))
        ref03_Add.l3 N o1_24 o1_24n o1_24c o5_25 v6_27 w K0)
    else
      K0 y5 w

def ref03_Add.f (a0 : Int) (a1 : Option Addr) (a1n : Nat) (a1c : Nat) (w : World) (K : Int → World → Prop) : Prop :=
  let v5_3 := (bxor .u32 4294967295 a0)
  ∃ N_28 : Nat, ref03_Add.l3 N_28 a1 a1n a1c v5_3 0 w
  (fun o5_29 w =>
    let v4_31 := (bxor .u32 4294967295 o5_29)
    K v4_31 w)
def ref03_Add.H (F : type_of% @ref03_Add.f) : Hf := fun args w K => match args with
  | [v0, v1] => vI .u32 v0 fun a0 => vL v1 fun a1 a1n a1c => F a0 a1 a1n a1c w (fun r0 w => K (Value.int .u32 r0) w)
  | _ => False
def ref03_Add.h : Hf := ref03_Add.H @ref03_Add.f
def ref03_Add.C : Hd := hnil
theorem ref03_Add.C_ok : CSound Try.prog ref03_Add.C := hnil_ok
def ref03_Add.D : Nat → Plan := fun i => .done
noncomputable def ref03_Add.c : Code := Try.f20.body.getD .skip
theorem ref03_Add.hb : Try.f20.body = some ref03_Add.c := by kernel_rfl
noncomputable def ref03_Add.b0 : Code := (loopsOf ref03_Add.c).getD 0 .skip
noncomputable def ref03_Add.b0_0 : Code := (loopsOf ref03_Add.b0).getD 0 .skip
theorem ref03_Add.b0_0_loops : loopsOf ref03_Add.b0_0 = [] := by kernel_rfl
theorem ref03_Add.b0_loops : loopsOf ref03_Add.b0 = [ref03_Add.b0_0] := by kernel_rfl
theorem ref03_Add.c_loops : loopsOf ref03_Add.c = [ref03_Add.b0] := by kernel_rfl
def ref03_Add.hn6 (N : Nat) (f : Fr) (w : World) (K : AExit → Fr → World → Prop) : Prop :=
  gN f 40 <| gL f 1 fun y1 y1n y1c => gI .u32 f 5 fun y5 => gI .i64 f 6 fun y6 => gI .i64 f 7 fun y7 => ref03_Add.l6 N y1 y1n y1c y5 y6 y7 w (fun o1 o1n o1c o5 o6 w => K (.exit 2) [none, some (Value.slice o1 o1n o1c), none, none, none, some (Value.int .u32 o5), some (Value.int .i64 o6), none, none, none, none, none, none, none, none, none, none, none, none, none, none, none, none, none, none, none, none, none, none, none, none, none, none, none, none, none, none, none, none, none] w)
def ref03_Add.hx6 : AExit → Fr → World → (AExit → Fr → World → Prop) → Prop := fun e f w K => match e with
  | .normal => False
  | .exit i => (match Nat.beq i 2 with | true => gN f 40 <| gL f 1 fun o1 o1n o1c => gI .u32 f 5 fun o5 => gI .i64 f 6 fun o6 => K (.exit 2) [none, some (Value.slice o1 o1n o1c), none, none, none, some (Value.int .u32 o5), some (Value.int .i64 o6), none, none, none, none, none, none, none, none, none, none, none, none, none, none, none, none, none, none, none, none, none, none, none, none, none, none, none, none, none, none, none, none, none] w | false => False)
  | .ret => False
def ref03_Add.hn3 (N : Nat) (f : Fr) (w : World) (K : AExit → Fr → World → Prop) : Prop :=
  gN f 40 <| gL f 1 fun y1 y1n y1c => gI .u32 f 5 fun y5 => gI .i64 f 6 fun y6 => ref03_Add.l3 N y1 y1n y1c y5 y6 w (fun o5 w => K (.exit 0) [none, none, none, none, none, some (Value.int .u32 o5), none, none, none, none, none, none, none, none, none, none, none, none, none, none, none, none, none, none, none, none, none, none, none, none, none, none, none, none, none, none, none, none, none, none] w)
def ref03_Add.hx3 : AExit → Fr → World → (AExit → Fr → World → Prop) → Prop := fun e f w K => match e with
  | .normal => False
  | .exit i => (match Nat.beq i 0 with | true => gN f 40 <| gI .u32 f 5 fun o5 => K (.exit 0) [none, none, none, none, none, some (Value.int .u32 o5), none, none, none, none, none, none, none, none, none, none, none, none, none, none, none, none, none, none, none, none, none, none, none, none, none, none, none, none, none, none, none, none, none, none] w | false => False)
  | .ret => False
def ref03_Add.L : LHd := fun l f w K => (match Nat.beq l 3 with | true => ∃ N, ref03_Add.hn3 N f w K | false => (match Nat.beq l 6 with | true => ∃ N, ref03_Add.hn6 N f w K | false => False))
theorem ref03_Add.le6 (N : Nat) (y1 : Option Addr) (y1n : Nat) (y1c : Nat) (y5 : Int) (y6 : Int) (y7 : Int) (w : World) (K : AExit → Fr → World → Prop) : awp ref03_Add.C ref03_Add.L ref03_Add.D tab ref03_Add.b0_0 (lpost ref03_Add.hn6 ref03_Add.hx6 N K) [none, some (Value.slice y1 y1n y1c), none, none, none, some (Value.int .u32 y5), some (Value.int .i64 y6), some (Value.int .i64 y7), none, none, none, none, none, none, none, none, none, none, none, none, none, none, none, none, none, none, none, none, none, none, none, none, none, none, none, none, none, none, none, none] w = ref03_Add.l6 (N + 1) y1 y1n y1c y5 y6 y7 w (fun o1 o1n o1c o5 o6 w => K (.exit 2) [none, some (Value.slice o1 o1n o1c), none, none, none, some (Value.int .u32 o5), some (Value.int .i64 o6), none, none, none, none, none, none, none, none, none, none, none, none, none, none, none, none, none, none, none, none, none, none, none, none, none, none, none, none, none, none, none, none, none] w) := by kernel_rfl
theorem ref03_Add.lok6 : LoopOk Try.prog ref03_Add.L ref03_Add.b0_0 := by
  refine loop_ok tab_ok ref03_Add.C_ok (D := ref03_Add.D) (ref03_Add.hn6) (ref03_Add.hx6) (by kernel_rfl) (by rw [ref03_Add.b0_0_loops]; exact lnil) ?_ ?_ ?_ ?_
  · intro f w K h
    unfold ref03_Add.hn6 at h
    obtain ⟨hlen, h⟩ := gN_ok h
    obtain ⟨y1, y1n, y1c, h1, h⟩ := gL_ok h
    obtain ⟨y5, h5, h⟩ := gI_ok h
    obtain ⟨y6, h6, h⟩ := gI_ok h
    obtain ⟨y7, h7, h⟩ := gI_ok h
    exact h
  · intro N f w K h
    unfold ref03_Add.hn6 at h
    obtain ⟨hlen, h⟩ := gN_ok h
    obtain ⟨y1, y1n, y1c, h1, h⟩ := gL_ok h
    obtain ⟨y5, h5, h⟩ := gI_ok h
    obtain ⟨y6, h6, h⟩ := gI_ok h
    obtain ⟨y7, h7, h⟩ := gI_ok h
    refine ⟨[none, some (Value.slice y1 y1n y1c), none, none, none, some (Value.int .u32 y5), some (Value.int .i64 y6), some (Value.int .i64 y7), none, none, none, none, none, none, none, none, none, none, none, none, none, none, none, none, none, none, none, none, none, none, none, none, none, none, none, none, none, none, none, none], hlen, ⟨h1, h5, h6, h7, trivial⟩, ?_⟩
    rw [ref03_Add.le6]
    exact h
  · intro e f w K h
    cases e with
    | normal => exact h.elim
    | exit i =>
      unfold ref03_Add.hx6 at h
      simp only at h
      split at h
      · rename_i hb
        obtain rfl := Nat.eq_of_beq_eq_true hb
        obtain ⟨hlen, h⟩ := gN_ok h
        obtain ⟨o1, o1n, o1c, h1, h⟩ := gL_ok h
        obtain ⟨o5, h5, h⟩ := gI_ok h
        obtain ⟨o6, h6, h⟩ := gI_ok h
        exact ⟨[none, some (Value.slice o1 o1n o1c), none, none, none, some (Value.int .u32 o5), some (Value.int .i64 o6), none, none, none, none, none, none, none, none, none, none, none, none, none, none, none, none, none, none, none, none, none, none, none, none, none, none, none, none, none, none, none, none, none], hlen, ⟨h1, h5, h6, trivial⟩, h⟩
      · exact (show False from h).elim
    | ret =>
      exact (show False from h).elim
  · intro f w K h
    have e : lid ref03_Add.b0_0 = 6 := by kernel_rfl
    rw [e] at h
    exact h
theorem ref03_Add.le3 (N : Nat) (y1 : Option Addr) (y1n : Nat) (y1c : Nat) (y5 : Int) (y6 : Int) (w : World) (K : AExit → Fr → World → Prop) : awp ref03_Add.C ref03_Add.L ref03_Add.D tab ref03_Add.b0 (lpost ref03_Add.hn3 ref03_Add.hx3 N K) [none, some (Value.slice y1 y1n y1c), none, none, none, some (Value.int .u32 y5), some (Value.int .i64 y6), none, none, none, none, none, none, none, none, none, none, none, none, none, none, none, none, none, none, none, none, none, none, none, none, none, none, none, none, none, none, none, none, none] w = ref03_Add.l3 (N + 1) y1 y1n y1c y5 y6 w (fun o5 w => K (.exit 0) [none, none, none, none, none, some (Value.int .u32 o5), none, none, none, none, none, none, none, none, none, none, none, none, none, none, none, none, none, none, none, none, none, none, none, none, none, none, none, none, none, none, none, none, none, none] w) := by kernel_rfl
theorem ref03_Add.lok3 : LoopOk Try.prog ref03_Add.L ref03_Add.b0 := by
  refine loop_ok tab_ok ref03_Add.C_ok (D := ref03_Add.D) (ref03_Add.hn3) (ref03_Add.hx3) (by kernel_rfl) (by rw [ref03_Add.b0_loops]; exact lcons ref03_Add.lok6 (lnil)) ?_ ?_ ?_ ?_
  · intro f w K h
    unfold ref03_Add.hn3 at h
    obtain ⟨hlen, h⟩ := gN_ok h
    obtain ⟨y1, y1n, y1c, h1, h⟩ := gL_ok h
    obtain ⟨y5, h5, h⟩ := gI_ok h
    obtain ⟨y6, h6, h⟩ := gI_ok h
    exact h
  · intro N f w K h
    unfold ref03_Add.hn3 at h
    obtain ⟨hlen, h⟩ := gN_ok h
    obtain ⟨y1, y1n, y1c, h1, h⟩ := gL_ok h
    obtain ⟨y5, h5, h⟩ := gI_ok h
    obtain ⟨y6, h6, h⟩ := gI_ok h
    refine ⟨[none, some (Value.slice y1 y1n y1c), none, none, none, some (Value.int .u32 y5), some (Value.int .i64 y6), none, none, none, none, none, none, none, none, none, none, none, none, none, none, none, none, none, none, none, none, none, none, none, none, none, none, none, none, none, none, none, none, none], hlen, ⟨h1, h5, h6, trivial⟩, ?_⟩
    rw [ref03_Add.le3]
    exact h
  · intro e f w K h
    cases e with
    | normal => exact h.elim
    | exit i =>
      unfold ref03_Add.hx3 at h
      simp only at h
      split at h
      · rename_i hb
        obtain rfl := Nat.eq_of_beq_eq_true hb
        obtain ⟨hlen, h⟩ := gN_ok h
        obtain ⟨o5, h5, h⟩ := gI_ok h
        exact ⟨[none, none, none, none, none, some (Value.int .u32 o5), none, none, none, none, none, none, none, none, none, none, none, none, none, none, none, none, none, none, none, none, none, none, none, none, none, none, none, none, none, none, none, none, none, none], hlen, ⟨h5, trivial⟩, h⟩
      · exact (show False from h).elim
    | ret =>
      exact (show False from h).elim
  · intro f w K h
    have e : lid ref03_Add.b0 = 3 := by kernel_rfl
    rw [e] at h
    exact h
theorem ref03_Add.eq (a0 : Int) (a1 : Option Addr) (a1n : Nat) (a1c : Nat) (w : World) (K : Value → World → Prop) : afn ref03_Add.C ref03_Add.L ref03_Add.D tab Try.f20 [(Value.int .u32 a0), (Value.slice a1 a1n a1c)] w K = ref03_Add.f a0 a1 a1n a1c w (fun r0 w => K (Value.int .u32 r0) w) := by kernel_rfl
theorem ref03_Add.ok : FSound Try.prog 20 ref03_Add.h := by
  intro args w K h
  unfold ref03_Add.h ref03_Add.H at h
  split at h
  ·
    replace h := vI_ok h
    obtain ⟨a0, rfl, h⟩ := h
    replace h := vL_ok h
    obtain ⟨a1, a1n, a1c, rfl, h⟩ := h
    refine ⟨by kernel_rfl, fn_ok tab_ok ref03_Add.C_ok (L := ref03_Add.L) (D := ref03_Add.D) Try.func20 ref03_Add.hb (by kernel_rfl) (by rw [ref03_Add.c_loops]; exact lcons ref03_Add.lok3 (lnil)) (Nat.le_of_ble_eq_true (by kernel_rfl)) ?_⟩
    rw [ref03_Add.eq]
    exact h
  · exact h.elim
/-! ### valise/valiseref03.Sum: function 18 -/
def ref03_Sum.f (a0 : Option Addr) (a0n : Nat) (a0c : Nat) (w : World) (K : Int → World → Prop) : Prop :=
  ref03_Add.f 0 a0 a0n a0c w fun r4_3 w =>
  K r4_3 w
def ref03_Sum.H (F : type_of% @ref03_Sum.f) : Hf := fun args w K => match args with
  | [v0] => vL v0 fun a0 a0n a0c => F a0 a0n a0c w (fun r0 w => K (Value.int .u32 r0) w)
  | _ => False
def ref03_Sum.h : Hf := ref03_Sum.H @ref03_Sum.f
def ref03_Sum.C : Hd := hcons 20 ref03_Add.h (hnil)
theorem ref03_Sum.C_ok : CSound Try.prog ref03_Sum.C := hcons_ok ref03_Add.ok (hnil_ok)
def ref03_Sum.D : Nat → Plan := fun i => .done
noncomputable def ref03_Sum.c : Code := Try.f18.body.getD .skip
theorem ref03_Sum.hb : Try.f18.body = some ref03_Sum.c := by kernel_rfl
theorem ref03_Sum.c_loops : loopsOf ref03_Sum.c = [] := by kernel_rfl
def ref03_Sum.L : LHd := fun l f w K => False
theorem ref03_Sum.eq (a0 : Option Addr) (a0n : Nat) (a0c : Nat) (w : World) (K : Value → World → Prop) : afn ref03_Sum.C ref03_Sum.L ref03_Sum.D tab Try.f18 [(Value.slice a0 a0n a0c)] w K = ref03_Sum.f a0 a0n a0c w (fun r0 w => K (Value.int .u32 r0) w) := by kernel_rfl
theorem ref03_Sum.ok : FSound Try.prog 18 ref03_Sum.h := by
  intro args w K h
  unfold ref03_Sum.h ref03_Sum.H at h
  split at h
  ·
    replace h := vL_ok h
    obtain ⟨a0, a0n, a0c, rfl, h⟩ := h
    refine ⟨by kernel_rfl, fn_ok tab_ok ref03_Sum.C_ok (L := ref03_Sum.L) (D := ref03_Sum.D) Try.func18 ref03_Sum.hb (by kernel_rfl) (by rw [ref03_Sum.c_loops]; exact lnil) (Nat.le_of_ble_eq_true (by kernel_rfl)) ?_⟩
    rw [ref03_Sum.eq]
    exact h
  · exact h.elim
/-! ### valise/valisehelp.Plain[byte]$1: function 59 -/
def help_Plain_byte_f1.f (a0 : Int) (a1 : Int) (w : World) (K : Bool → World → Prop) : Prop :=
  K (a0 == a1) w
def help_Plain_byte_f1.H (F : type_of% @help_Plain_byte_f1.f) : Hf := fun args w K => match args with
  | [v0, v1] => vI .u8 v0 fun a0 => vI .u8 v1 fun a1 => F a0 a1 w (fun r0 w => K (Value.bool r0) w)
  | _ => False
def help_Plain_byte_f1.h : Hf := help_Plain_byte_f1.H @help_Plain_byte_f1.f
def help_Plain_byte_f1.C : Hd := hnil
theorem help_Plain_byte_f1.C_ok : CSound Try.prog help_Plain_byte_f1.C := hnil_ok
def help_Plain_byte_f1.D : Nat → Plan := fun i => .done
noncomputable def help_Plain_byte_f1.c : Code := Try.f59.body.getD .skip
theorem help_Plain_byte_f1.hb : Try.f59.body = some help_Plain_byte_f1.c := by kernel_rfl
theorem help_Plain_byte_f1.c_loops : loopsOf help_Plain_byte_f1.c = [] := by kernel_rfl
def help_Plain_byte_f1.L : LHd := fun l f w K => False
theorem help_Plain_byte_f1.eq (a0 : Int) (a1 : Int) (w : World) (K : Value → World → Prop) : afn help_Plain_byte_f1.C help_Plain_byte_f1.L help_Plain_byte_f1.D tab Try.f59 [(Value.int .u8 a0), (Value.int .u8 a1)] w K = help_Plain_byte_f1.f a0 a1 w (fun r0 w => K (Value.bool r0) w) := by kernel_rfl
theorem help_Plain_byte_f1.ok : FSound Try.prog 59 help_Plain_byte_f1.h := by
  intro args w K h
  unfold help_Plain_byte_f1.h help_Plain_byte_f1.H at h
  split at h
  ·
    replace h := vI_ok h
    obtain ⟨a0, rfl, h⟩ := h
    replace h := vI_ok h
    obtain ⟨a1, rfl, h⟩ := h
    refine ⟨by kernel_rfl, fn_ok tab_ok help_Plain_byte_f1.C_ok (L := help_Plain_byte_f1.L) (D := help_Plain_byte_f1.D) Try.func59 help_Plain_byte_f1.hb (by kernel_rfl) (by rw [help_Plain_byte_f1.c_loops]; exact lnil) (Nat.le_of_ble_eq_true (by kernel_rfl)) ?_⟩
    rw [help_Plain_byte_f1.eq]
    exact h
  · exact h.elim
/-! ### valise/valisehelp.Same[byte]: function 58 -/
def help_Same_byte.l4 : Nat → Option Addr → Nat → Nat → Option Addr → Nat → Nat → Int → World → (World → Prop) → (Bool → World → Prop) → Prop
  | 0, _, _, _, _, _, _, _, _, _, _ => False
  | N + 1, y0, y0n, y0c, y1, y1n, y1c, y7, w, K0, Kr =>
    bif (decide (y7 < ((y0n : Nat) : Int))) then
      sm y0 fun p_11 =>
      if 0 ≤ (y7 : Int) ∧ (y7 : Int) < ((y0n : Nat) : Int) then
      ldI .u8 (p_11.add (Int.toNat y7)) w.drew fun x23_12 =>
      sm y1 fun p_13 =>
      if 0 ≤ (y7 : Int) ∧ (y7 : Int) < ((y1n : Nat) : Int) then
      ldI .u8 (p_13.add (Int.toNat y7)) w.drew fun x27_14 =>
      help_Plain_byte_f1.f x23_12 x27_14 w.drew fun r28_15 w =>
      bif (!r28_15) then
        Kr false w
      else
        let v7_17 := (IntKind.wrap .i64 (y7 + 1))
        help_Same_byte.l4 N y0 y0n y0c y1 y1n y1c v7_17 w K0 Kr
      else False
      else False
    else
      K0 w

def help_Same_byte.f (a0 : Option Addr) (a0n : Nat) (a0c : Nat) (a1 : Option Addr) (a1n : Nat) (a1c : Nat) (w : World) (K : Bool → World → Prop) : Prop :=
  bif (((a0n : Nat) : Int) != ((a1n : Nat) : Int)) then
    K false w
  else
    ∃ N_18 : Nat, help_Same_byte.l4 N_18 a0 a0n a0c a1 a1n a1c 0 w
    (fun w =>
      K true w)
    (fun o6_19 w =>
      K o6_19 w)
def help_Same_byte.H (F : type_of% @help_Same_byte.f) : Hf := fun args w K => match args with
  | [v0, v1, v2] => vL v0 fun a0 a0n a0c => vL v1 fun a1 a1n a1c => vF 59 v2 <| F a0 a0n a0c a1 a1n a1c w (fun r0 w => K (Value.bool r0) w)
  | _ => False
def help_Same_byte.h : Hf := help_Same_byte.H @help_Same_byte.f
def help_Same_byte.C : Hd := hcons 59 help_Plain_byte_f1.h (hnil)
theorem help_Same_byte.C_ok : CSound Try.prog help_Same_byte.C := hcons_ok help_Plain_byte_f1.ok (hnil_ok)
def help_Same_byte.D : Nat → Plan := fun i => (match Nat.beq i 6 with | true => .take 0 (.take 1 (.take 2 (.take 3 (.take 4 (.take 5 (.take 6 (.take 7 (.take 8 (.eff 9 (.take 10 (.done))))))))))) | false => .done)
noncomputable def help_Same_byte.c : Code := Try.f58.body.getD .skip
theorem help_Same_byte.hb : Try.f58.body = some help_Same_byte.c := by kernel_rfl
noncomputable def help_Same_byte.b0 : Code := (loopsOf help_Same_byte.c).getD 0 .skip
theorem help_Same_byte.b0_loops : loopsOf help_Same_byte.b0 = [] := by kernel_rfl
theorem help_Same_byte.c_loops : loopsOf help_Same_byte.c = [help_Same_byte.b0] := by kernel_rfl
def help_Same_byte.hn4 (N : Nat) (f : Fr) (w : World) (K : AExit → Fr → World → Prop) : Prop :=
  gN f 30 <| gL f 0 fun y0 y0n y0c => gL f 1 fun y1 y1n y1c => gF 59 f 2 <| gI .i64 f 7 fun y7 => help_Same_byte.l4 N y0 y0n y0c y1 y1n y1c y7 w (fun w => K (.exit 0) [none, none, none, none, none, none, none, none, none, none, none, none, none, none, none, none, none, none, none, none, none, none, none, none, none, none, none, none, none, none] w) (fun o6 w => K .ret [none, none, none, none, none, none, some (Value.bool o6), none, none, none, none, none, none, none, none, none, none, none, none, none, none, none, none, none, none, none, none, none, none, none] w)
def help_Same_byte.hx4 : AExit → Fr → World → (AExit → Fr → World → Prop) → Prop := fun e f w K => match e with
  | .normal => False
  | .exit i => (match Nat.beq i 0 with | true => gN f 30 <|  K (.exit 0) [none, none, none, none, none, none, none, none, none, none, none, none, none, none, none, none, none, none, none, none, none, none, none, none, none, none, none, none, none, none] w | false => False)
  | .ret => gN f 30 <| gB f 6 fun o6 => K .ret [none, none, none, none, none, none, some (Value.bool o6), none, none, none, none, none, none, none, none, none, none, none, none, none, none, none, none, none, none, none, none, none, none, none] w
def help_Same_byte.L : LHd := fun l f w K => (match Nat.beq l 4 with | true => ∃ N, help_Same_byte.hn4 N f w K | false => False)
theorem help_Same_byte.le4 (N : Nat) (y0 : Option Addr) (y0n : Nat) (y0c : Nat) (y1 : Option Addr) (y1n : Nat) (y1c : Nat) (y7 : Int) (w : World) (K : AExit → Fr → World → Prop) : awp help_Same_byte.C help_Same_byte.L help_Same_byte.D tab help_Same_byte.b0 (lpost help_Same_byte.hn4 help_Same_byte.hx4 N K) [some (Value.slice y0 y0n y0c), some (Value.slice y1 y1n y1c), some (Value.func (.func 59) #[] #[]), none, none, none, none, some (Value.int .i64 y7), none, none, none, none, none, none, none, none, none, none, none, none, none, none, none, none, none, none, none, none, none, none] w = help_Same_byte.l4 (N + 1) y0 y0n y0c y1 y1n y1c y7 w (fun w => K (.exit 0) [none, none, none, none, none, none, none, none, none, none, none, none, none, none, none, none, none, none, none, none, none, none, none, none, none, none, none, none, none, none] w) (fun o6 w => K .ret [none, none, none, none, none, none, some (Value.bool o6), none, none, none, none, none, none, none, none, none, none, none, none, none, none, none, none, none, none, none, none, none, none, none] w) := by kernel_rfl
theorem help_Same_byte.lok4 : LoopOk Try.prog help_Same_byte.L help_Same_byte.b0 := by
  refine loop_ok tab_ok help_Same_byte.C_ok (D := help_Same_byte.D) (help_Same_byte.hn4) (help_Same_byte.hx4) (by kernel_rfl) (by rw [help_Same_byte.b0_loops]; exact lnil) ?_ ?_ ?_ ?_
  · intro f w K h
    unfold help_Same_byte.hn4 at h
    obtain ⟨hlen, h⟩ := gN_ok h
    obtain ⟨y0, y0n, y0c, h0, h⟩ := gL_ok h
    obtain ⟨y1, y1n, y1c, h1, h⟩ := gL_ok h
    obtain ⟨h2, h⟩ := gF_ok h
    obtain ⟨y7, h7, h⟩ := gI_ok h
    exact h
  · intro N f w K h
    unfold help_Same_byte.hn4 at h
    obtain ⟨hlen, h⟩ := gN_ok h
    obtain ⟨y0, y0n, y0c, h0, h⟩ := gL_ok h
    obtain ⟨y1, y1n, y1c, h1, h⟩ := gL_ok h
    obtain ⟨h2, h⟩ := gF_ok h
    obtain ⟨y7, h7, h⟩ := gI_ok h
    refine ⟨[some (Value.slice y0 y0n y0c), some (Value.slice y1 y1n y1c), some (Value.func (.func 59) #[] #[]), none, none, none, none, some (Value.int .i64 y7), none, none, none, none, none, none, none, none, none, none, none, none, none, none, none, none, none, none, none, none, none, none], hlen, ⟨h0, h1, h2, h7, trivial⟩, ?_⟩
    rw [help_Same_byte.le4]
    exact h
  · intro e f w K h
    cases e with
    | normal => exact h.elim
    | exit i =>
      unfold help_Same_byte.hx4 at h
      simp only at h
      split at h
      · rename_i hb
        obtain rfl := Nat.eq_of_beq_eq_true hb
        obtain ⟨hlen, h⟩ := gN_ok h
        exact ⟨[none, none, none, none, none, none, none, none, none, none, none, none, none, none, none, none, none, none, none, none, none, none, none, none, none, none, none, none, none, none], hlen, trivial, h⟩
      · exact (show False from h).elim
    | ret =>
      unfold help_Same_byte.hx4 at h
      simp only at h
      obtain ⟨hlen, h⟩ := gN_ok h
      obtain ⟨o6, h6, h⟩ := gB_ok h
      exact ⟨[none, none, none, none, none, none, some (Value.bool o6), none, none, none, none, none, none, none, none, none, none, none, none, none, none, none, none, none, none, none, none, none, none, none], hlen, ⟨h6, trivial⟩, h⟩
  · intro f w K h
    have e : lid help_Same_byte.b0 = 4 := by kernel_rfl
    rw [e] at h
    exact h
theorem help_Same_byte.eq (a0 : Option Addr) (a0n : Nat) (a0c : Nat) (a1 : Option Addr) (a1n : Nat) (a1c : Nat) (w : World) (K : Value → World → Prop) : afn help_Same_byte.C help_Same_byte.L help_Same_byte.D tab Try.f58 [(Value.slice a0 a0n a0c), (Value.slice a1 a1n a1c), (Value.func (.func 59) #[] #[])] w K = help_Same_byte.f a0 a0n a0c a1 a1n a1c w (fun r0 w => K (Value.bool r0) w) := by kernel_rfl
theorem help_Same_byte.ok : FSound Try.prog 58 help_Same_byte.h := by
  intro args w K h
  unfold help_Same_byte.h help_Same_byte.H at h
  split at h
  ·
    replace h := vL_ok h
    obtain ⟨a0, a0n, a0c, rfl, h⟩ := h
    replace h := vL_ok h
    obtain ⟨a1, a1n, a1c, rfl, h⟩ := h
    replace h := vF_ok h
    obtain ⟨rfl, h⟩ := h
    refine ⟨by kernel_rfl, fn_ok tab_ok help_Same_byte.C_ok (L := help_Same_byte.L) (D := help_Same_byte.D) Try.func58 help_Same_byte.hb (by kernel_rfl) (by rw [help_Same_byte.c_loops]; exact lcons help_Same_byte.lok4 (lnil)) (Nat.le_of_ble_eq_true (by kernel_rfl)) ?_⟩
    rw [help_Same_byte.eq]
    exact h
  · exact h.elim
/-! ### valise/valisehelp.Plain[byte]: function 47 -/
def help_Plain_byte.f (a0 : Option Addr) (a0n : Nat) (a0c : Nat) (a1 : Option Addr) (a1n : Nat) (a1c : Nat) (w : World) (K : Bool → World → Prop) : Prop :=
  help_Same_byte.f a0 a0n a0c a1 a1n a1c w fun r7_3 w =>
  K r7_3 w
def help_Plain_byte.H (F : type_of% @help_Plain_byte.f) : Hf := fun args w K => match args with
  | [v0, v1] => vL v0 fun a0 a0n a0c => vL v1 fun a1 a1n a1c => F a0 a0n a0c a1 a1n a1c w (fun r0 w => K (Value.bool r0) w)
  | _ => False
def help_Plain_byte.h : Hf := help_Plain_byte.H @help_Plain_byte.f
def help_Plain_byte.C : Hd := hcons 58 help_Same_byte.h (hnil)
theorem help_Plain_byte.C_ok : CSound Try.prog help_Plain_byte.C := hcons_ok help_Same_byte.ok (hnil_ok)
def help_Plain_byte.D : Nat → Plan := fun i => .done
noncomputable def help_Plain_byte.c : Code := Try.f47.body.getD .skip
theorem help_Plain_byte.hb : Try.f47.body = some help_Plain_byte.c := by kernel_rfl
theorem help_Plain_byte.c_loops : loopsOf help_Plain_byte.c = [] := by kernel_rfl
def help_Plain_byte.L : LHd := fun l f w K => False
theorem help_Plain_byte.eq (a0 : Option Addr) (a0n : Nat) (a0c : Nat) (a1 : Option Addr) (a1n : Nat) (a1c : Nat) (w : World) (K : Value → World → Prop) : afn help_Plain_byte.C help_Plain_byte.L help_Plain_byte.D tab Try.f47 [(Value.slice a0 a0n a0c), (Value.slice a1 a1n a1c)] w K = help_Plain_byte.f a0 a0n a0c a1 a1n a1c w (fun r0 w => K (Value.bool r0) w) := by kernel_rfl
theorem help_Plain_byte.ok : FSound Try.prog 47 help_Plain_byte.h := by
  intro args w K h
  unfold help_Plain_byte.h help_Plain_byte.H at h
  split at h
  ·
    replace h := vL_ok h
    obtain ⟨a0, a0n, a0c, rfl, h⟩ := h
    replace h := vL_ok h
    obtain ⟨a1, a1n, a1c, rfl, h⟩ := h
    refine ⟨by kernel_rfl, fn_ok tab_ok help_Plain_byte.C_ok (L := help_Plain_byte.L) (D := help_Plain_byte.D) Try.func47 help_Plain_byte.hb (by kernel_rfl) (by rw [help_Plain_byte.c_loops]; exact lnil) (Nat.le_of_ble_eq_true (by kernel_rfl)) ?_⟩
    rw [help_Plain_byte.eq]
    exact h
  · exact h.elim
/-! ### valise/valisehelp.Kept[byte]: function 21 -/
def help_Kept_byte.l5 : Nat → Int → Option Addr → Nat → Nat → Int → World → (World → Prop) → (Bool → World → Prop) → Prop
  | 0, _, _, _, _, _, _, _, _ => False
  | N + 1, y2, y7, y7n, y7c, y8, w, K0, Kr =>
    bif (decide (y8 < ((y7n : Nat) : Int))) then
      sm y7 fun p_17 =>
      if 0 ≤ (y8 : Int) ∧ (y8 : Int) < ((y7n : Nat) : Int) then
      ldI .u8 (p_17.add (Int.toNat y8)) w fun x37_18 =>
      bif (x37_18 != y2) then
        Kr false w
      else
        let v8_20 := (IntKind.wrap .i64 (y8 + 1))
        help_Kept_byte.l5 N y2 y7 y7n y7c v8_20 w K0 Kr
      else False
    else
      K0 w

def help_Kept_byte.f (a0 : Option Addr) (a0n : Nat) (a0c : Nat) (a1 : Option Addr) (a1n : Nat) (a1c : Nat) (a2 : Int) (w : World) (K : Bool → World → Prop) : Prop :=
  help_Plain_byte.f a0 a0n a0c a1 a1n a1c w fun r11_4 w =>
  bif (!r11_4) then
    K false w
  else
    bif (decide (((a0c : Nat) : Int) < (IntKind.wrap .i64 (((a1n : Nat) : Int) + 3)))) then
      K false w
    else
      bnd a0n a0c none (some (Value.int .i64 (IntKind.wrap .i64 (((a1n : Nat) : Int) + 3)))) fun l_8 h_9 =>
      let v8_12 := ((a1n : Nat) : Int)
      ∃ N_21 : Nat, help_Kept_byte.l5 N_21 a2 (adrS a0 l_8 a0c 1) (h_9 - l_8) (a0c - l_8) v8_12 w
      (fun w =>
        K true w)
      (fun o6_22 w =>
        K o6_22 w)
def help_Kept_byte.H (F : type_of% @help_Kept_byte.f) : Hf := fun args w K => match args with
  | [v0, v1, v2] => vL v0 fun a0 a0n a0c => vL v1 fun a1 a1n a1c => vI .u8 v2 fun a2 => F a0 a0n a0c a1 a1n a1c a2 w (fun r0 w => K (Value.bool r0) w)
  | _ => False
def help_Kept_byte.h : Hf := help_Kept_byte.H @help_Kept_byte.f
def help_Kept_byte.C : Hd := hcons 47 help_Plain_byte.h (hnil)
theorem help_Kept_byte.C_ok : CSound Try.prog help_Kept_byte.C := hcons_ok help_Plain_byte.ok (hnil_ok)
def help_Kept_byte.D : Nat → Plan := fun i => .done
noncomputable def help_Kept_byte.c : Code := Try.f21.body.getD .skip
theorem help_Kept_byte.hb : Try.f21.body = some help_Kept_byte.c := by kernel_rfl
noncomputable def help_Kept_byte.b0 : Code := (loopsOf help_Kept_byte.c).getD 0 .skip
theorem help_Kept_byte.b0_loops : loopsOf help_Kept_byte.b0 = [] := by kernel_rfl
theorem help_Kept_byte.c_loops : loopsOf help_Kept_byte.c = [help_Kept_byte.b0] := by kernel_rfl
def help_Kept_byte.hn5 (N : Nat) (f : Fr) (w : World) (K : AExit → Fr → World → Prop) : Prop :=
  gN f 40 <| gI .u8 f 2 fun y2 => gL f 7 fun y7 y7n y7c => gI .i64 f 8 fun y8 => help_Kept_byte.l5 N y2 y7 y7n y7c y8 w (fun w => K (.exit 0) [none, none, none, none, none, none, none, none, none, none, none, none, none, none, none, none, none, none, none, none, none, none, none, none, none, none, none, none, none, none, none, none, none, none, none, none, none, none, none, none] w) (fun o6 w => K .ret [none, none, none, none, none, none, some (Value.bool o6), none, none, none, none, none, none, none, none, none, none, none, none, none, none, none, none, none, none, none, none, none, none, none, none, none, none, none, none, none, none, none, none, none] w)
def help_Kept_byte.hx5 : AExit → Fr → World → (AExit → Fr → World → Prop) → Prop := fun e f w K => match e with
  | .normal => False
  | .exit i => (match Nat.beq i 0 with | true => gN f 40 <|  K (.exit 0) [none, none, none, none, none, none, none, none, none, none, none, none, none, none, none, none, none, none, none, none, none, none, none, none, none, none, none, none, none, none, none, none, none, none, none, none, none, none, none, none] w | false => False)
  | .ret => gN f 40 <| gB f 6 fun o6 => K .ret [none, none, none, none, none, none, some (Value.bool o6), none, none, none, none, none, none, none, none, none, none, none, none, none, none, none, none, none, none, none, none, none, none, none, none, none, none, none, none, none, none, none, none, none] w
def help_Kept_byte.L : LHd := fun l f w K => (match Nat.beq l 5 with | true => ∃ N, help_Kept_byte.hn5 N f w K | false => False)
theorem help_Kept_byte.le5 (N : Nat) (y2 : Int) (y7 : Option Addr) (y7n : Nat) (y7c : Nat) (y8 : Int) (w : World) (K : AExit → Fr → World → Prop) : awp help_Kept_byte.C help_Kept_byte.L help_Kept_byte.D tab help_Kept_byte.b0 (lpost help_Kept_byte.hn5 help_Kept_byte.hx5 N K) [none, none, some (Value.int .u8 y2), none, none, none, none, some (Value.slice y7 y7n y7c), some (Value.int .i64 y8), none, none, none, none, none, none, none, none, none, none, none, none, none, none, none, none, none, none, none, none, none, none, none, none, none, none, none, none, none, none, none] w = help_Kept_byte.l5 (N + 1) y2 y7 y7n y7c y8 w (fun w => K (.exit 0) [none, none, none, none, none, none, none, none, none, none, none, none, none, none, none, none, none, none, none, none, none, none, none, none, none, none, none, none, none, none, none, none, none, none, none, none, none, none, none, none] w) (fun o6 w => K .ret [none, none, none, none, none, none, some (Value.bool o6), none, none, none, none, none, none, none, none, none, none, none, none, none, none, none, none, none, none, none, none, none, none, none, none, none, none, none, none, none, none, none, none, none] w) := by kernel_rfl
theorem help_Kept_byte.lok5 : LoopOk Try.prog help_Kept_byte.L help_Kept_byte.b0 := by
  refine loop_ok tab_ok help_Kept_byte.C_ok (D := help_Kept_byte.D) (help_Kept_byte.hn5) (help_Kept_byte.hx5) (by kernel_rfl) (by rw [help_Kept_byte.b0_loops]; exact lnil) ?_ ?_ ?_ ?_
  · intro f w K h
    unfold help_Kept_byte.hn5 at h
    obtain ⟨hlen, h⟩ := gN_ok h
    obtain ⟨y2, h2, h⟩ := gI_ok h
    obtain ⟨y7, y7n, y7c, h7, h⟩ := gL_ok h
    obtain ⟨y8, h8, h⟩ := gI_ok h
    exact h
  · intro N f w K h
    unfold help_Kept_byte.hn5 at h
    obtain ⟨hlen, h⟩ := gN_ok h
    obtain ⟨y2, h2, h⟩ := gI_ok h
    obtain ⟨y7, y7n, y7c, h7, h⟩ := gL_ok h
    obtain ⟨y8, h8, h⟩ := gI_ok h
    refine ⟨[none, none, some (Value.int .u8 y2), none, none, none, none, some (Value.slice y7 y7n y7c), some (Value.int .i64 y8), none, none, none, none, none, none, none, none, none, none, none, none, none, none, none, none, none, none, none, none, none, none, none, none, none, none, none, none, none, none, none], hlen, ⟨h2, h7, h8, trivial⟩, ?_⟩
    rw [help_Kept_byte.le5]
    exact h
  · intro e f w K h
    cases e with
    | normal => exact h.elim
    | exit i =>
      unfold help_Kept_byte.hx5 at h
      simp only at h
      split at h
      · rename_i hb
        obtain rfl := Nat.eq_of_beq_eq_true hb
        obtain ⟨hlen, h⟩ := gN_ok h
        exact ⟨[none, none, none, none, none, none, none, none, none, none, none, none, none, none, none, none, none, none, none, none, none, none, none, none, none, none, none, none, none, none, none, none, none, none, none, none, none, none, none, none], hlen, trivial, h⟩
      · exact (show False from h).elim
    | ret =>
      unfold help_Kept_byte.hx5 at h
      simp only at h
      obtain ⟨hlen, h⟩ := gN_ok h
      obtain ⟨o6, h6, h⟩ := gB_ok h
      exact ⟨[none, none, none, none, none, none, some (Value.bool o6), none, none, none, none, none, none, none, none, none, none, none, none, none, none, none, none, none, none, none, none, none, none, none, none, none, none, none, none, none, none, none, none, none], hlen, ⟨h6, trivial⟩, h⟩
  · intro f w K h
    have e : lid help_Kept_byte.b0 = 5 := by kernel_rfl
    rw [e] at h
    exact h
theorem help_Kept_byte.eq (a0 : Option Addr) (a0n : Nat) (a0c : Nat) (a1 : Option Addr) (a1n : Nat) (a1c : Nat) (a2 : Int) (w : World) (K : Value → World → Prop) : afn help_Kept_byte.C help_Kept_byte.L help_Kept_byte.D tab Try.f21 [(Value.slice a0 a0n a0c), (Value.slice a1 a1n a1c), (Value.int .u8 a2)] w K = help_Kept_byte.f a0 a0n a0c a1 a1n a1c a2 w (fun r0 w => K (Value.bool r0) w) := by kernel_rfl
theorem help_Kept_byte.ok : FSound Try.prog 21 help_Kept_byte.h := by
  intro args w K h
  unfold help_Kept_byte.h help_Kept_byte.H at h
  split at h
  ·
    replace h := vL_ok h
    obtain ⟨a0, a0n, a0c, rfl, h⟩ := h
    replace h := vL_ok h
    obtain ⟨a1, a1n, a1c, rfl, h⟩ := h
    replace h := vI_ok h
    obtain ⟨a2, rfl, h⟩ := h
    refine ⟨by kernel_rfl, fn_ok tab_ok help_Kept_byte.C_ok (L := help_Kept_byte.L) (D := help_Kept_byte.D) Try.func21 help_Kept_byte.hb (by kernel_rfl) (by rw [help_Kept_byte.c_loops]; exact lcons help_Kept_byte.lok5 (lnil)) (Nat.le_of_ble_eq_true (by kernel_rfl)) ?_⟩
    rw [help_Kept_byte.eq]
    exact h
  · exact h.elim
/-! ### valise/valisehelp.CopyBytes: function 22 -/
def help_CopyBytes.f (a0 : Option Addr) (a0n : Nat) (a0c : Nat) (w : World) (K : Option Addr → Nat → Nat → World → Prop) : Prop :=
  appL 5 1 1 [(Value.int .u8 0)] none 0 0 a0 a0n a0c w fun a4_3 a4_3n a4_3c w =>
  K a4_3 a4_3n a4_3c w
def help_CopyBytes.H (F : type_of% @help_CopyBytes.f) : Hf := fun args w K => match args with
  | [v0] => vL v0 fun a0 a0n a0c => F a0 a0n a0c w (fun r0 r0n r0c w => K (Value.slice r0 r0n r0c) w)
  | _ => False
def help_CopyBytes.h : Hf := help_CopyBytes.H @help_CopyBytes.f
def help_CopyBytes.C : Hd := hnil
theorem help_CopyBytes.C_ok : CSound Try.prog help_CopyBytes.C := hnil_ok
def help_CopyBytes.D : Nat → Plan := fun i => .done
noncomputable def help_CopyBytes.c : Code := Try.f22.body.getD .skip
theorem help_CopyBytes.hb : Try.f22.body = some help_CopyBytes.c := by kernel_rfl
theorem help_CopyBytes.c_loops : loopsOf help_CopyBytes.c = [] := by kernel_rfl
def help_CopyBytes.L : LHd := fun l f w K => False
theorem help_CopyBytes.eq (a0 : Option Addr) (a0n : Nat) (a0c : Nat) (w : World) (K : Value → World → Prop) : afn help_CopyBytes.C help_CopyBytes.L help_CopyBytes.D tab Try.f22 [(Value.slice a0 a0n a0c)] w K = help_CopyBytes.f a0 a0n a0c w (fun r0 r0n r0c w => K (Value.slice r0 r0n r0c) w) := by kernel_rfl
theorem help_CopyBytes.ok : FSound Try.prog 22 help_CopyBytes.h := by
  intro args w K h
  unfold help_CopyBytes.h help_CopyBytes.H at h
  split at h
  ·
    replace h := vL_ok h
    obtain ⟨a0, a0n, a0c, rfl, h⟩ := h
    refine ⟨by kernel_rfl, fn_ok tab_ok help_CopyBytes.C_ok (L := help_CopyBytes.L) (D := help_CopyBytes.D) Try.func22 help_CopyBytes.hb (by kernel_rfl) (by rw [help_CopyBytes.c_loops]; exact lnil) (Nat.le_of_ble_eq_true (by kernel_rfl)) ?_⟩
    rw [help_CopyBytes.eq]
    exact h
  · exact h.elim
/-! ### valise/crc.All: function 23 -/
def crc_All.l3 : Nat → Int → Option Addr → Nat → Nat → Int → Int → World → (Int → World → Prop) → Prop
  | 0, _, _, _, _, _, _, _, _ => False
  | N + 1, y3, y6, y6n, y6c, y7, y8, w, K0 =>
    bif (decide (y8 < y7)) then
      sm y6 fun p_9 =>
      if 0 ≤ (y8 : Int) ∧ (y8 : Int) < ((y6n : Nat) : Int) then
      ldL (p_9.add (Int.toNat y8)) w fun x11_10 x11_10n x11_10c =>
      crc_Add.f y3 x11_10 x11_10n x11_10c w fun r14_11 w =>
      crc_All.l3 N r14_11 y6 y6n y6c y7 (IntKind.wrap .i64 (y8 + 1)) w K0
      else False
    else
      K0 y3 w

def crc_All.f (a0 : Option Addr) (a0n : Nat) (a0c : Nat) (w : World) (K : Int → World → Prop) : Prop :=
  ∃ N_12 : Nat, crc_All.l3 N_12 0 a0 a0n a0c ((a0n : Nat) : Int) 0 w
  (fun o3_13 w =>
    K o3_13 w)
def crc_All.H (F : type_of% @crc_All.f) : Hf := fun args w K => match args with
  | [v0] => vL v0 fun a0 a0n a0c => F a0 a0n a0c w (fun r0 w => K (Value.int .u32 r0) w)
  | _ => False
def crc_All.h : Hf := crc_All.H @crc_All.f
def crc_All.C : Hd := hcons 19 crc_Add.h (hnil)
theorem crc_All.C_ok : CSound Try.prog crc_All.C := hcons_ok crc_Add.ok (hnil_ok)
def crc_All.D : Nat → Plan := fun i => .done
noncomputable def crc_All.c : Code := Try.f23.body.getD .skip
theorem crc_All.hb : Try.f23.body = some crc_All.c := by kernel_rfl
noncomputable def crc_All.b0 : Code := (loopsOf crc_All.c).getD 0 .skip
theorem crc_All.b0_loops : loopsOf crc_All.b0 = [] := by kernel_rfl
theorem crc_All.c_loops : loopsOf crc_All.c = [crc_All.b0] := by kernel_rfl
def crc_All.hn3 (N : Nat) (f : Fr) (w : World) (K : AExit → Fr → World → Prop) : Prop :=
  gN f 17 <| gI .u32 f 3 fun y3 => gL f 6 fun y6 y6n y6c => gI .i64 f 7 fun y7 => gI .i64 f 8 fun y8 => crc_All.l3 N y3 y6 y6n y6c y7 y8 w (fun o3 w => K (.exit 0) [none, none, none, some (Value.int .u32 o3), none, none, none, none, none, none, none, none, none, none, none, none, none] w)
def crc_All.hx3 : AExit → Fr → World → (AExit → Fr → World → Prop) → Prop := fun e f w K => match e with
  | .normal => False
  | .exit i => (match Nat.beq i 0 with | true => gN f 17 <| gI .u32 f 3 fun o3 => K (.exit 0) [none, none, none, some (Value.int .u32 o3), none, none, none, none, none, none, none, none, none, none, none, none, none] w | false => False)
  | .ret => False
def crc_All.L : LHd := fun l f w K => (match Nat.beq l 3 with | true => ∃ N, crc_All.hn3 N f w K | false => False)
theorem crc_All.le3 (N : Nat) (y3 : Int) (y6 : Option Addr) (y6n : Nat) (y6c : Nat) (y7 : Int) (y8 : Int) (w : World) (K : AExit → Fr → World → Prop) : awp crc_All.C crc_All.L crc_All.D tab crc_All.b0 (lpost crc_All.hn3 crc_All.hx3 N K) [none, none, none, some (Value.int .u32 y3), none, none, some (Value.slice y6 y6n y6c), some (Value.int .i64 y7), some (Value.int .i64 y8), none, none, none, none, none, none, none, none] w = crc_All.l3 (N + 1) y3 y6 y6n y6c y7 y8 w (fun o3 w => K (.exit 0) [none, none, none, some (Value.int .u32 o3), none, none, none, none, none, none, none, none, none, none, none, none, none] w) := by kernel_rfl
theorem crc_All.lok3 : LoopOk Try.prog crc_All.L crc_All.b0 := by
  refine loop_ok tab_ok crc_All.C_ok (D := crc_All.D) (crc_All.hn3) (crc_All.hx3) (by kernel_rfl) (by rw [crc_All.b0_loops]; exact lnil) ?_ ?_ ?_ ?_
  · intro f w K h
    unfold crc_All.hn3 at h
    obtain ⟨hlen, h⟩ := gN_ok h
    obtain ⟨y3, h3, h⟩ := gI_ok h
    obtain ⟨y6, y6n, y6c, h6, h⟩ := gL_ok h
    obtain ⟨y7, h7, h⟩ := gI_ok h
    obtain ⟨y8, h8, h⟩ := gI_ok h
    exact h
  · intro N f w K h
    unfold crc_All.hn3 at h
    obtain ⟨hlen, h⟩ := gN_ok h
    obtain ⟨y3, h3, h⟩ := gI_ok h
    obtain ⟨y6, y6n, y6c, h6, h⟩ := gL_ok h
    obtain ⟨y7, h7, h⟩ := gI_ok h
    obtain ⟨y8, h8, h⟩ := gI_ok h
    refine ⟨[none, none, none, some (Value.int .u32 y3), none, none, some (Value.slice y6 y6n y6c), some (Value.int .i64 y7), some (Value.int .i64 y8), none, none, none, none, none, none, none, none], hlen, ⟨h3, h6, h7, h8, trivial⟩, ?_⟩
    rw [crc_All.le3]
    exact h
  · intro e f w K h
    cases e with
    | normal => exact h.elim
    | exit i =>
      unfold crc_All.hx3 at h
      simp only at h
      split at h
      · rename_i hb
        obtain rfl := Nat.eq_of_beq_eq_true hb
        obtain ⟨hlen, h⟩ := gN_ok h
        obtain ⟨o3, h3, h⟩ := gI_ok h
        exact ⟨[none, none, none, some (Value.int .u32 o3), none, none, none, none, none, none, none, none, none, none, none, none, none], hlen, ⟨h3, trivial⟩, h⟩
      · exact (show False from h).elim
    | ret =>
      exact (show False from h).elim
  · intro f w K h
    have e : lid crc_All.b0 = 3 := by kernel_rfl
    rw [e] at h
    exact h
theorem crc_All.eq (a0 : Option Addr) (a0n : Nat) (a0c : Nat) (w : World) (K : Value → World → Prop) : afn crc_All.C crc_All.L crc_All.D tab Try.f23 [(Value.slice a0 a0n a0c)] w K = crc_All.f a0 a0n a0c w (fun r0 w => K (Value.int .u32 r0) w) := by kernel_rfl
theorem crc_All.ok : FSound Try.prog 23 crc_All.h := by
  intro args w K h
  unfold crc_All.h crc_All.H at h
  split at h
  ·
    replace h := vL_ok h
    obtain ⟨a0, a0n, a0c, rfl, h⟩ := h
    refine ⟨by kernel_rfl, fn_ok tab_ok crc_All.C_ok (L := crc_All.L) (D := crc_All.D) Try.func23 crc_All.hb (by kernel_rfl) (by rw [crc_All.c_loops]; exact lcons crc_All.lok3 (lnil)) (Nat.le_of_ble_eq_true (by kernel_rfl)) ?_⟩
    rw [crc_All.eq]
    exact h
  · exact h.elim
/-! ### valise/valiseref03.Table: function 25 -/
def ref03_Table.l7 : Nat → Addr → Addr → Int → Int → Int → World → (Addr → Addr → Int → Int → World → Prop) → Prop
  | 0, _, _, _, _, _, _, _ => False
  | N + 1, y0, y1, y2, y3, y4, w, K2 =>
    bif (decide (y4 < 8)) then
      let v5_18 := ((band .u32 y3 1) == 1)
      let v3_20 := (shr .u32 y3 1)
      bif v5_18 then
        let v3_22 := (bxor .u32 v3_20 3988292384)
        let v4_23 := (IntKind.wrap .i64 (y4 + 1))
        ref03_Table.l7 N y0 y1 y2 v3_22 v4_23 w K2
      else
        let v4_24 := (IntKind.wrap .i64 (y4 + 1))
        ref03_Table.l7 N y0 y1 y2 v3_20 v4_24 w K2
    else
      K2 y0 y1 y2 y3 w

def ref03_Table.l3 : Nat → Addr → Addr → Int → World → (Addr → Addr → World → Prop) → Prop
  | 0, _, _, _, _, _ => False
  | N + 1, y0, y1, y2, w, K0 =>
    bif (decide (y2 < 256)) then
      let v3_11 := (IntKind.wrap .u32 y2)
      ∃ N_25 : Nat, ref03_Table.l7 N_25 y0 y1 y2 v3_11 0 w
      (fun o0_26 o1_27 o2_28 o3_29 w =>
        if 0 ≤ (o2_28 : Int) ∧ (o2_28 : Int) < ((256 : Nat) : Int) then
        stC (o1_27.add (Int.toNat o2_28)) (Value.int .u32 o3_29) w fun w =>
        let v2_30 := (IntKind.wrap .i64 (o2_28 + 1))
        ref03_Table.l3 N o0_26 o1_27 v2_30 w K0
        else False)
    else
      K0 y0 y1 w

def ref03_Table.f  (w : World) (K : Array Value → World → Prop) : Prop :=
  newC 37 (List.replicate 256 (Value.int .u32 0)) w fun a0_2 w =>
  newC 37 (List.replicate 256 (Value.int .u32 0)) w fun a1_4 w =>
  ∃ N_31 : Nat, ref03_Table.l3 N_31 a0_2 a1_4 0 w
  (fun o0_32 o1_33 w =>
    ldA o1_33 256 w fun x27_35 =>
    if (x27_35.toArray).size = 256 then
    stCs o0_32 x27_35 0 w fun w =>
    ldA o0_32 256 w fun q_36 =>
    K q_36.toArray w
    else False)
def ref03_Table.H (F : type_of% @ref03_Table.f) : Hf := fun args w K => match args with
  | [] =>  F  w (fun r0 w => K (Value.agg r0) w)
  | _ => False
def ref03_Table.h : Hf := ref03_Table.H @ref03_Table.f
def ref03_Table.C : Hd := hnil
theorem ref03_Table.C_ok : CSound Try.prog ref03_Table.C := hnil_ok
def ref03_Table.D : Nat → Plan := fun i => .done
noncomputable def ref03_Table.c : Code := Try.f25.body.getD .skip
theorem ref03_Table.hb : Try.f25.body = some ref03_Table.c := by kernel_rfl
noncomputable def ref03_Table.b0 : Code := (loopsOf ref03_Table.c).getD 0 .skip
noncomputable def ref03_Table.b0_0 : Code := (loopsOf ref03_Table.b0).getD 0 .skip
theorem ref03_Table.b0_0_loops : loopsOf ref03_Table.b0_0 = [] := by kernel_rfl
theorem ref03_Table.b0_loops : loopsOf ref03_Table.b0 = [ref03_Table.b0_0] := by kernel_rfl
theorem ref03_Table.c_loops : loopsOf ref03_Table.c = [ref03_Table.b0] := by kernel_rfl
def ref03_Table.hn7 (N : Nat) (f : Fr) (w : World) (K : AExit → Fr → World → Prop) : Prop :=
  gN f 28 <| gQ f 0 fun y0 => gQ f 1 fun y1 => gI .i64 f 2 fun y2 => gI .u32 f 3 fun y3 => gI .i64 f 4 fun y4 => ref03_Table.l7 N y0 y1 y2 y3 y4 w (fun o0 o1 o2 o3 w => K (.exit 2) [some (Value.pointer (some o0)), some (Value.pointer (some o1)), some (Value.int .i64 o2), some (Value.int .u32 o3), none, none, none, none, none, none, none, none, none, none, none, none, none, none, none, none, none, none, none, none, none, none, none, none] w)
def ref03_Table.hx7 : AExit → Fr → World → (AExit → Fr → World → Prop) → Prop := fun e f w K => match e with
  | .normal => False
  | .exit i => (match Nat.beq i 2 with | true => gN f 28 <| gQ f 0 fun o0 => gQ f 1 fun o1 => gI .i64 f 2 fun o2 => gI .u32 f 3 fun o3 => K (.exit 2) [some (Value.pointer (some o0)), some (Value.pointer (some o1)), some (Value.int .i64 o2), some (Value.int .u32 o3), none, none, none, none, none, none, none, none, none, none, none, none, none, none, none, none, none, none, none, none, none, none, none, none] w | false => False)
  | .ret => False
def ref03_Table.hn3 (N : Nat) (f : Fr) (w : World) (K : AExit → Fr → World → Prop) : Prop :=
  gN f 28 <| gQ f 0 fun y0 => gQ f 1 fun y1 => gI .i64 f 2 fun y2 => ref03_Table.l3 N y0 y1 y2 w (fun o0 o1 w => K (.exit 0) [some (Value.pointer (some o0)), some (Value.pointer (some o1)), none, none, none, none, none, none, none, none, none, none, none, none, none, none, none, none, none, none, none, none, none, none, none, none, none, none] w)
def ref03_Table.hx3 : AExit → Fr → World → (AExit → Fr → World → Prop) → Prop := fun e f w K => match e with
  | .normal => False
  | .exit i => (match Nat.beq i 0 with | true => gN f 28 <| gQ f 0 fun o0 => gQ f 1 fun o1 => K (.exit 0) [some (Value.pointer (some o0)), some (Value.pointer (some o1)), none, none, none, none, none, none, none, none, none, none, none, none, none, none, none, none, none, none, none, none, none, none, none, none, none, none] w | false => False)
  | .ret => False
def ref03_Table.L : LHd := fun l f w K => (match Nat.beq l 3 with | true => ∃ N, ref03_Table.hn3 N f w K | false => (match Nat.beq l 7 with | true => ∃ N, ref03_Table.hn7 N f w K | false => False))
theorem ref03_Table.le7 (N : Nat) (y0 : Addr) (y1 : Addr) (y2 : Int) (y3 : Int) (y4 : Int) (w : World) (K : AExit → Fr → World → Prop) : awp ref03_Table.C ref03_Table.L ref03_Table.D tab ref03_Table.b0_0 (lpost ref03_Table.hn7 ref03_Table.hx7 N K) [some (Value.pointer (some y0)), some (Value.pointer (some y1)), some (Value.int .i64 y2), some (Value.int .u32 y3), some (Value.int .i64 y4), none, none, none, none, none, none, none, none, none, none, none, none, none, none, none, none, none, none, none, none, none, none, none] w = ref03_Table.l7 (N + 1) y0 y1 y2 y3 y4 w (fun o0 o1 o2 o3 w => K (.exit 2) [some (Value.pointer (some o0)), some (Value.pointer (some o1)), some (Value.int .i64 o2), some (Value.int .u32 o3), none, none, none, none, none, none, none, none, none, none, none, none, none, none, none, none, none, none, none, none, none, none, none, none] w) := by kernel_rfl
theorem ref03_Table.lok7 : LoopOk Try.prog ref03_Table.L ref03_Table.b0_0 := by
  refine loop_ok tab_ok ref03_Table.C_ok (D := ref03_Table.D) (ref03_Table.hn7) (ref03_Table.hx7) (by kernel_rfl) (by rw [ref03_Table.b0_0_loops]; exact lnil) ?_ ?_ ?_ ?_
  · intro f w K h
    unfold ref03_Table.hn7 at h
    obtain ⟨hlen, h⟩ := gN_ok h
    obtain ⟨y0, h0, h⟩ := gQ_ok h
    obtain ⟨y1, h1, h⟩ := gQ_ok h
    obtain ⟨y2, h2, h⟩ := gI_ok h
    obtain ⟨y3, h3, h⟩ := gI_ok h
    obtain ⟨y4, h4, h⟩ := gI_ok h
    exact h
  · intro N f w K h
    unfold ref03_Table.hn7 at h
    obtain ⟨hlen, h⟩ := gN_ok h
    obtain ⟨y0, h0, h⟩ := gQ_ok h
    obtain ⟨y1, h1, h⟩ := gQ_ok h
    obtain ⟨y2, h2, h⟩ := gI_ok h
    obtain ⟨y3, h3, h⟩ := gI_ok h
    obtain ⟨y4, h4, h⟩ := gI_ok h
    refine ⟨[some (Value.pointer (some y0)), some (Value.pointer (some y1)), some (Value.int .i64 y2), some (Value.int .u32 y3), some (Value.int .i64 y4), none, none, none, none, none, none, none, none, none, none, none, none, none, none, none, none, none, none, none, none, none, none, none], hlen, ⟨h0, h1, h2, h3, h4, trivial⟩, ?_⟩
    rw [ref03_Table.le7]
    exact h
  · intro e f w K h
    cases e with
    | normal => exact h.elim
    | exit i =>
      unfold ref03_Table.hx7 at h
      simp only at h
      split at h
      · rename_i hb
        obtain rfl := Nat.eq_of_beq_eq_true hb
        obtain ⟨hlen, h⟩ := gN_ok h
        obtain ⟨o0, h0, h⟩ := gQ_ok h
        obtain ⟨o1, h1, h⟩ := gQ_ok h
        obtain ⟨o2, h2, h⟩ := gI_ok h
        obtain ⟨o3, h3, h⟩ := gI_ok h
        exact ⟨[some (Value.pointer (some o0)), some (Value.pointer (some o1)), some (Value.int .i64 o2), some (Value.int .u32 o3), none, none, none, none, none, none, none, none, none, none, none, none, none, none, none, none, none, none, none, none, none, none, none, none], hlen, ⟨h0, h1, h2, h3, trivial⟩, h⟩
      · exact (show False from h).elim
    | ret =>
      exact (show False from h).elim
  · intro f w K h
    have e : lid ref03_Table.b0_0 = 7 := by kernel_rfl
    rw [e] at h
    exact h
theorem ref03_Table.le3 (N : Nat) (y0 : Addr) (y1 : Addr) (y2 : Int) (w : World) (K : AExit → Fr → World → Prop) : awp ref03_Table.C ref03_Table.L ref03_Table.D tab ref03_Table.b0 (lpost ref03_Table.hn3 ref03_Table.hx3 N K) [some (Value.pointer (some y0)), some (Value.pointer (some y1)), some (Value.int .i64 y2), none, none, none, none, none, none, none, none, none, none, none, none, none, none, none, none, none, none, none, none, none, none, none, none, none] w = ref03_Table.l3 (N + 1) y0 y1 y2 w (fun o0 o1 w => K (.exit 0) [some (Value.pointer (some o0)), some (Value.pointer (some o1)), none, none, none, none, none, none, none, none, none, none, none, none, none, none, none, none, none, none, none, none, none, none, none, none, none, none] w) := by kernel_rfl
theorem ref03_Table.lok3 : LoopOk Try.prog ref03_Table.L ref03_Table.b0 := by
  refine loop_ok tab_ok ref03_Table.C_ok (D := ref03_Table.D) (ref03_Table.hn3) (ref03_Table.hx3) (by kernel_rfl) (by rw [ref03_Table.b0_loops]; exact lcons ref03_Table.lok7 (lnil)) ?_ ?_ ?_ ?_
  · intro f w K h
    unfold ref03_Table.hn3 at h
    obtain ⟨hlen, h⟩ := gN_ok h
    obtain ⟨y0, h0, h⟩ := gQ_ok h
    obtain ⟨y1, h1, h⟩ := gQ_ok h
    obtain ⟨y2, h2, h⟩ := gI_ok h
    exact h
  · intro N f w K h
    unfold ref03_Table.hn3 at h
    obtain ⟨hlen, h⟩ := gN_ok h
    obtain ⟨y0, h0, h⟩ := gQ_ok h
    obtain ⟨y1, h1, h⟩ := gQ_ok h
    obtain ⟨y2, h2, h⟩ := gI_ok h
    refine ⟨[some (Value.pointer (some y0)), some (Value.pointer (some y1)), some (Value.int .i64 y2), none, none, none, none, none, none, none, none, none, none, none, none, none, none, none, none, none, none, none, none, none, none, none, none, none], hlen, ⟨h0, h1, h2, trivial⟩, ?_⟩
    rw [ref03_Table.le3]
    exact h
  · intro e f w K h
    cases e with
    | normal => exact h.elim
    | exit i =>
      unfold ref03_Table.hx3 at h
      simp only at h
      split at h
      · rename_i hb
        obtain rfl := Nat.eq_of_beq_eq_true hb
        obtain ⟨hlen, h⟩ := gN_ok h
        obtain ⟨o0, h0, h⟩ := gQ_ok h
        obtain ⟨o1, h1, h⟩ := gQ_ok h
        exact ⟨[some (Value.pointer (some o0)), some (Value.pointer (some o1)), none, none, none, none, none, none, none, none, none, none, none, none, none, none, none, none, none, none, none, none, none, none, none, none, none, none], hlen, ⟨h0, h1, trivial⟩, h⟩
      · exact (show False from h).elim
    | ret =>
      exact (show False from h).elim
  · intro f w K h
    have e : lid ref03_Table.b0 = 3 := by kernel_rfl
    rw [e] at h
    exact h
theorem ref03_Table.eq  (w : World) (K : Value → World → Prop) : afn ref03_Table.C ref03_Table.L ref03_Table.D tab Try.f25 [] w K = ref03_Table.f  w (fun r0 w => K (Value.agg r0) w) := by kernel_rfl
theorem ref03_Table.ok : FSound Try.prog 25 ref03_Table.h := by
  intro args w K h
  unfold ref03_Table.h ref03_Table.H at h
  split at h
  ·
    refine ⟨by kernel_rfl, fn_ok tab_ok ref03_Table.C_ok (L := ref03_Table.L) (D := ref03_Table.D) Try.func25 ref03_Table.hb (by kernel_rfl) (by rw [ref03_Table.c_loops]; exact lcons ref03_Table.lok3 (lnil)) (Nat.le_of_ble_eq_true (by kernel_rfl)) ?_⟩
    rw [ref03_Table.eq]
    exact h
  · exact h.elim
/-! ### math/bits.RotateLeft32: function 48 -/
def math_bits_RotateLeft32.f (a0 : Int) (a1 : Int) (w : World) (K : Int → World → Prop) : Prop :=
  let v5_3 := (band .u64 (IntKind.wrap .u64 a1) 31)
  if v5_3 < 0 then False else
  if (IntKind.wrap .u64 (32 - v5_3)) < 0 then False else
  let v4_5 := (bor .u32 (shl .u32 a0 (min (Int.toNat v5_3) (IntKind.bits .u32))) (shr .u32 a0 (min (Int.toNat (IntKind.wrap .u64 (32 - v5_3))) (IntKind.bits .u32))))
  K v4_5 w
def math_bits_RotateLeft32.H (F : type_of% @math_bits_RotateLeft32.f) : Hf := fun args w K => match args with
  | [v0, v1] => vI .u32 v0 fun a0 => vI .i64 v1 fun a1 => F a0 a1 w (fun r0 w => K (Value.int .u32 r0) w)
  | _ => False
def math_bits_RotateLeft32.h : Hf := math_bits_RotateLeft32.H @math_bits_RotateLeft32.f
def math_bits_RotateLeft32.C : Hd := hnil
theorem math_bits_RotateLeft32.C_ok : CSound Try.prog math_bits_RotateLeft32.C := hnil_ok
def math_bits_RotateLeft32.D : Nat → Plan := fun i => .done
noncomputable def math_bits_RotateLeft32.c : Code := Try.f48.body.getD .skip
theorem math_bits_RotateLeft32.hb : Try.f48.body = some math_bits_RotateLeft32.c := by kernel_rfl
theorem math_bits_RotateLeft32.c_loops : loopsOf math_bits_RotateLeft32.c = [] := by kernel_rfl
def math_bits_RotateLeft32.L : LHd := fun l f w K => False
theorem math_bits_RotateLeft32.eq (a0 : Int) (a1 : Int) (w : World) (K : Value → World → Prop) : afn math_bits_RotateLeft32.C math_bits_RotateLeft32.L math_bits_RotateLeft32.D tab Try.f48 [(Value.int .u32 a0), (Value.int .i64 a1)] w K = math_bits_RotateLeft32.f a0 a1 w (fun r0 w => K (Value.int .u32 r0) w) := by kernel_rfl
theorem math_bits_RotateLeft32.ok : FSound Try.prog 48 math_bits_RotateLeft32.h := by
  intro args w K h
  unfold math_bits_RotateLeft32.h math_bits_RotateLeft32.H at h
  split at h
  ·
    replace h := vI_ok h
    obtain ⟨a0, rfl, h⟩ := h
    replace h := vI_ok h
    obtain ⟨a1, rfl, h⟩ := h
    refine ⟨by kernel_rfl, fn_ok tab_ok math_bits_RotateLeft32.C_ok (L := math_bits_RotateLeft32.L) (D := math_bits_RotateLeft32.D) Try.func48 math_bits_RotateLeft32.hb (by kernel_rfl) (by rw [math_bits_RotateLeft32.c_loops]; exact lnil) (Nat.le_of_ble_eq_true (by kernel_rfl)) ?_⟩
    rw [math_bits_RotateLeft32.eq]
    exact h
  · exact h.elim
/-! ### valise/chacha.Quarter: function 26 -/
def chacha_Quarter.f (a0 : Int) (a1 : Int) (a2 : Int) (a3 : Int) (w : World) (K : Int → Int → Int → Int → World → Prop) : Prop :=
  let v0_3 := (IntKind.wrap .u32 (a0 + a1))
  math_bits_RotateLeft32.f (bxor .u32 a3 v0_3) 16 w fun r18_5 w =>
  let v2_7 := (IntKind.wrap .u32 (a2 + r18_5))
  math_bits_RotateLeft32.f (bxor .u32 a1 v2_7) 12 w fun r25_9 w =>
  let v0_11 := (IntKind.wrap .u32 (v0_3 + r25_9))
  math_bits_RotateLeft32.f (bxor .u32 r18_5 v0_11) 8 w fun r32_13 w =>
  let v2_15 := (IntKind.wrap .u32 (v2_7 + r32_13))
  math_bits_RotateLeft32.f (bxor .u32 r25_9 v2_15) 7 w fun r39_17 w =>
  K v0_11 r39_17 v2_15 r32_13 w
def chacha_Quarter.H (F : type_of% @chacha_Quarter.f) : Hf := fun args w K => match args with
  | [v0, v1, v2, v3] => vI .u32 v0 fun a0 => vI .u32 v1 fun a1 => vI .u32 v2 fun a2 => vI .u32 v3 fun a3 => F a0 a1 a2 a3 w (fun r0 r1 r2 r3 w => K (Value.tuple #[(Value.int .u32 r0), (Value.int .u32 r1), (Value.int .u32 r2), (Value.int .u32 r3)]) w)
  | _ => False
def chacha_Quarter.h : Hf := chacha_Quarter.H @chacha_Quarter.f
def chacha_Quarter.CG (F48 : type_of% @math_bits_RotateLeft32.f) : Hd := hcons 48 (math_bits_RotateLeft32.H F48) (hnil)
def chacha_Quarter.C : Hd := chacha_Quarter.CG @math_bits_RotateLeft32.f
def chacha_Quarter.G (F48 : type_of% @math_bits_RotateLeft32.f) (a0 : Int) (a1 : Int) (a2 : Int) (a3 : Int) (w : World) (K : Int → Int → Int → Int → World → Prop) : Prop :=
  let v0_3 := (IntKind.wrap .u32 (a0 + a1))
  F48 (bxor .u32 a3 v0_3) 16 w fun r18_5 w =>
  let v2_7 := (IntKind.wrap .u32 (a2 + r18_5))
  F48 (bxor .u32 a1 v2_7) 12 w fun r25_9 w =>
  let v0_11 := (IntKind.wrap .u32 (v0_3 + r25_9))
  F48 (bxor .u32 r18_5 v0_11) 8 w fun r32_13 w =>
  let v2_15 := (IntKind.wrap .u32 (v2_7 + r32_13))
  F48 (bxor .u32 r25_9 v2_15) 7 w fun r39_17 w =>
  K v0_11 r39_17 v2_15 r32_13 w
theorem chacha_Quarter.C_ok : CSound Try.prog chacha_Quarter.C := hcons_ok math_bits_RotateLeft32.ok (hnil_ok)
def chacha_Quarter.D : Nat → Plan := fun i => .done
noncomputable def chacha_Quarter.c : Code := Try.f26.body.getD .skip
theorem chacha_Quarter.hb : Try.f26.body = some chacha_Quarter.c := by kernel_rfl
theorem chacha_Quarter.c_loops : loopsOf chacha_Quarter.c = [] := by kernel_rfl
def chacha_Quarter.L : LHd := fun l f w K => False
theorem chacha_Quarter.eqG (F48 : type_of% @math_bits_RotateLeft32.f) (a0 : Int) (a1 : Int) (a2 : Int) (a3 : Int) (w : World) (K : Value → World → Prop) : afn (chacha_Quarter.CG F48) chacha_Quarter.L chacha_Quarter.D tab Try.f26 [(Value.int .u32 a0), (Value.int .u32 a1), (Value.int .u32 a2), (Value.int .u32 a3)] w K = chacha_Quarter.G F48 a0 a1 a2 a3 w (fun r0 r1 r2 r3 w => K (Value.tuple #[(Value.int .u32 r0), (Value.int .u32 r1), (Value.int .u32 r2), (Value.int .u32 r3)]) w) := by kernel_rfl
theorem chacha_Quarter.eq (a0 : Int) (a1 : Int) (a2 : Int) (a3 : Int) (w : World) (K : Value → World → Prop) : afn chacha_Quarter.C chacha_Quarter.L chacha_Quarter.D tab Try.f26 [(Value.int .u32 a0), (Value.int .u32 a1), (Value.int .u32 a2), (Value.int .u32 a3)] w K = chacha_Quarter.f a0 a1 a2 a3 w (fun r0 r1 r2 r3 w => K (Value.tuple #[(Value.int .u32 r0), (Value.int .u32 r1), (Value.int .u32 r2), (Value.int .u32 r3)]) w) := chacha_Quarter.eqG @math_bits_RotateLeft32.f a0 a1 a2 a3 w K
theorem chacha_Quarter.ok : FSound Try.prog 26 chacha_Quarter.h := by
  intro args w K h
  unfold chacha_Quarter.h chacha_Quarter.H at h
  split at h
  ·
    replace h := vI_ok h
    obtain ⟨a0, rfl, h⟩ := h
    replace h := vI_ok h
    obtain ⟨a1, rfl, h⟩ := h
    replace h := vI_ok h
    obtain ⟨a2, rfl, h⟩ := h
    replace h := vI_ok h
    obtain ⟨a3, rfl, h⟩ := h
    refine ⟨by kernel_rfl, fn_ok tab_ok chacha_Quarter.C_ok (L := chacha_Quarter.L) (D := chacha_Quarter.D) Try.func26 chacha_Quarter.hb (by kernel_rfl) (by rw [chacha_Quarter.c_loops]; exact lnil) (Nat.le_of_ble_eq_true (by kernel_rfl)) ?_⟩
    rw [chacha_Quarter.eq]
    exact h
  · exact h.elim
/-! ### valise/valiseref26.turn: function 49 -/
def ref26_turn.f (a0 : Int) (a1 : Int) (w : World) (K : Int → World → Prop) : Prop :=
  if a1 < 0 then False else
  if (IntKind.wrap .u64 (32 - a1)) < 0 then False else
  let v4_3 := (bor .u32 (shl .u32 a0 (min (Int.toNat a1) (IntKind.bits .u32))) (shr .u32 a0 (min (Int.toNat (IntKind.wrap .u64 (32 - a1))) (IntKind.bits .u32))))
  K v4_3 w
def ref26_turn.H (F : type_of% @ref26_turn.f) : Hf := fun args w K => match args with
  | [v0, v1] => vI .u32 v0 fun a0 => vI .u64 v1 fun a1 => F a0 a1 w (fun r0 w => K (Value.int .u32 r0) w)
  | _ => False
def ref26_turn.h : Hf := ref26_turn.H @ref26_turn.f
def ref26_turn.C : Hd := hnil
theorem ref26_turn.C_ok : CSound Try.prog ref26_turn.C := hnil_ok
def ref26_turn.D : Nat → Plan := fun i => .done
noncomputable def ref26_turn.c : Code := Try.f49.body.getD .skip
theorem ref26_turn.hb : Try.f49.body = some ref26_turn.c := by kernel_rfl
theorem ref26_turn.c_loops : loopsOf ref26_turn.c = [] := by kernel_rfl
def ref26_turn.L : LHd := fun l f w K => False
theorem ref26_turn.eq (a0 : Int) (a1 : Int) (w : World) (K : Value → World → Prop) : afn ref26_turn.C ref26_turn.L ref26_turn.D tab Try.f49 [(Value.int .u32 a0), (Value.int .u64 a1)] w K = ref26_turn.f a0 a1 w (fun r0 w => K (Value.int .u32 r0) w) := by kernel_rfl
theorem ref26_turn.ok : FSound Try.prog 49 ref26_turn.h := by
  intro args w K h
  unfold ref26_turn.h ref26_turn.H at h
  split at h
  ·
    replace h := vI_ok h
    obtain ⟨a0, rfl, h⟩ := h
    replace h := vI_ok h
    obtain ⟨a1, rfl, h⟩ := h
    refine ⟨by kernel_rfl, fn_ok tab_ok ref26_turn.C_ok (L := ref26_turn.L) (D := ref26_turn.D) Try.func49 ref26_turn.hb (by kernel_rfl) (by rw [ref26_turn.c_loops]; exact lnil) (Nat.le_of_ble_eq_true (by kernel_rfl)) ?_⟩
    rw [ref26_turn.eq]
    exact h
  · exact h.elim
/-! ### valise/valiseref26.Quarter: function 27 -/
def ref26_Quarter.f (a0 : Int) (a1 : Int) (a2 : Int) (a3 : Int) (w : World) (K : Int → Int → Int → Int → World → Prop) : Prop :=
  let v0_3 := (IntKind.wrap .u32 (a0 + a1))
  ref26_turn.f (bxor .u32 a3 v0_3) 16 w fun r18_5 w =>
  let v2_7 := (IntKind.wrap .u32 (a2 + r18_5))
  ref26_turn.f (bxor .u32 a1 v2_7) 12 w fun r25_9 w =>
  let v0_11 := (IntKind.wrap .u32 (v0_3 + r25_9))
  ref26_turn.f (bxor .u32 r18_5 v0_11) 8 w fun r32_13 w =>
  let v2_15 := (IntKind.wrap .u32 (v2_7 + r32_13))
  ref26_turn.f (bxor .u32 r25_9 v2_15) 7 w fun r39_17 w =>
  K v0_11 r39_17 v2_15 r32_13 w
def ref26_Quarter.H (F : type_of% @ref26_Quarter.f) : Hf := fun args w K => match args with
  | [v0, v1, v2, v3] => vI .u32 v0 fun a0 => vI .u32 v1 fun a1 => vI .u32 v2 fun a2 => vI .u32 v3 fun a3 => F a0 a1 a2 a3 w (fun r0 r1 r2 r3 w => K (Value.tuple #[(Value.int .u32 r0), (Value.int .u32 r1), (Value.int .u32 r2), (Value.int .u32 r3)]) w)
  | _ => False
def ref26_Quarter.h : Hf := ref26_Quarter.H @ref26_Quarter.f
def ref26_Quarter.CG (F49 : type_of% @ref26_turn.f) : Hd := hcons 49 (ref26_turn.H F49) (hnil)
def ref26_Quarter.C : Hd := ref26_Quarter.CG @ref26_turn.f
def ref26_Quarter.G (F49 : type_of% @ref26_turn.f) (a0 : Int) (a1 : Int) (a2 : Int) (a3 : Int) (w : World) (K : Int → Int → Int → Int → World → Prop) : Prop :=
  let v0_3 := (IntKind.wrap .u32 (a0 + a1))
  F49 (bxor .u32 a3 v0_3) 16 w fun r18_5 w =>
  let v2_7 := (IntKind.wrap .u32 (a2 + r18_5))
  F49 (bxor .u32 a1 v2_7) 12 w fun r25_9 w =>
  let v0_11 := (IntKind.wrap .u32 (v0_3 + r25_9))
  F49 (bxor .u32 r18_5 v0_11) 8 w fun r32_13 w =>
  let v2_15 := (IntKind.wrap .u32 (v2_7 + r32_13))
  F49 (bxor .u32 r25_9 v2_15) 7 w fun r39_17 w =>
  K v0_11 r39_17 v2_15 r32_13 w
theorem ref26_Quarter.C_ok : CSound Try.prog ref26_Quarter.C := hcons_ok ref26_turn.ok (hnil_ok)
def ref26_Quarter.D : Nat → Plan := fun i => .done
noncomputable def ref26_Quarter.c : Code := Try.f27.body.getD .skip
theorem ref26_Quarter.hb : Try.f27.body = some ref26_Quarter.c := by kernel_rfl
theorem ref26_Quarter.c_loops : loopsOf ref26_Quarter.c = [] := by kernel_rfl
def ref26_Quarter.L : LHd := fun l f w K => False
theorem ref26_Quarter.eqG (F49 : type_of% @ref26_turn.f) (a0 : Int) (a1 : Int) (a2 : Int) (a3 : Int) (w : World) (K : Value → World → Prop) : afn (ref26_Quarter.CG F49) ref26_Quarter.L ref26_Quarter.D tab Try.f27 [(Value.int .u32 a0), (Value.int .u32 a1), (Value.int .u32 a2), (Value.int .u32 a3)] w K = ref26_Quarter.G F49 a0 a1 a2 a3 w (fun r0 r1 r2 r3 w => K (Value.tuple #[(Value.int .u32 r0), (Value.int .u32 r1), (Value.int .u32 r2), (Value.int .u32 r3)]) w) := by kernel_rfl
theorem ref26_Quarter.eq (a0 : Int) (a1 : Int) (a2 : Int) (a3 : Int) (w : World) (K : Value → World → Prop) : afn ref26_Quarter.C ref26_Quarter.L ref26_Quarter.D tab Try.f27 [(Value.int .u32 a0), (Value.int .u32 a1), (Value.int .u32 a2), (Value.int .u32 a3)] w K = ref26_Quarter.f a0 a1 a2 a3 w (fun r0 r1 r2 r3 w => K (Value.tuple #[(Value.int .u32 r0), (Value.int .u32 r1), (Value.int .u32 r2), (Value.int .u32 r3)]) w) := ref26_Quarter.eqG @ref26_turn.f a0 a1 a2 a3 w K
theorem ref26_Quarter.ok : FSound Try.prog 27 ref26_Quarter.h := by
  intro args w K h
  unfold ref26_Quarter.h ref26_Quarter.H at h
  split at h
  ·
    replace h := vI_ok h
    obtain ⟨a0, rfl, h⟩ := h
    replace h := vI_ok h
    obtain ⟨a1, rfl, h⟩ := h
    replace h := vI_ok h
    obtain ⟨a2, rfl, h⟩ := h
    replace h := vI_ok h
    obtain ⟨a3, rfl, h⟩ := h
    refine ⟨by kernel_rfl, fn_ok tab_ok ref26_Quarter.C_ok (L := ref26_Quarter.L) (D := ref26_Quarter.D) Try.func27 ref26_Quarter.hb (by kernel_rfl) (by rw [ref26_Quarter.c_loops]; exact lnil) (Nat.le_of_ble_eq_true (by kernel_rfl)) ?_⟩
    rw [ref26_Quarter.eq]
    exact h
  · exact h.elim
/-! ### valise/valiselaw26.awake: function 28 -/
def law26_awake.f  (w : World) (K : Bool → World → Prop) : Prop :=
  chacha_Quarter.f 286331153 16909060 2609737539 19088743 w fun r6_3 r6_4 r6_5 r6_6 w =>
  bif (r6_3 == 3928658676) then
    bif (r6_4 == 3407673550) then
      bif (r6_5 == 1166100270) then
        let v0_8 := (r6_6 == 1484899515)
        K v0_8 w
      else
        K false w
    else
      K false w
  else
    K false w
def law26_awake.H (F : type_of% @law26_awake.f) : Hf := fun args w K => match args with
  | [] =>  F  w (fun r0 w => K (Value.bool r0) w)
  | _ => False
def law26_awake.h : Hf := law26_awake.H @law26_awake.f
def law26_awake.C : Hd := hcons 26 chacha_Quarter.h (hnil)
theorem law26_awake.C_ok : CSound Try.prog law26_awake.C := hcons_ok chacha_Quarter.ok (hnil_ok)
def law26_awake.D : Nat → Plan := fun i => .done
noncomputable def law26_awake.c : Code := Try.f28.body.getD .skip
theorem law26_awake.hb : Try.f28.body = some law26_awake.c := by kernel_rfl
theorem law26_awake.c_loops : loopsOf law26_awake.c = [] := by kernel_rfl
def law26_awake.L : LHd := fun l f w K => False
theorem law26_awake.eq  (w : World) (K : Value → World → Prop) : afn law26_awake.C law26_awake.L law26_awake.D tab Try.f28 [] w K = law26_awake.f  w (fun r0 w => K (Value.bool r0) w) := by kernel_rfl
theorem law26_awake.ok : FSound Try.prog 28 law26_awake.h := by
  intro args w K h
  unfold law26_awake.h law26_awake.H at h
  split at h
  ·
    refine ⟨by kernel_rfl, fn_ok tab_ok law26_awake.C_ok (L := law26_awake.L) (D := law26_awake.D) Try.func28 law26_awake.hb (by kernel_rfl) (by rw [law26_awake.c_loops]; exact lnil) (Nat.le_of_ble_eq_true (by kernel_rfl)) ?_⟩
    rw [law26_awake.eq]
    exact h
  · exact h.elim
/-! ### valise/chacha.word: function 50 -/
def chacha_word.f (a0 : Option Addr) (a0n : Nat) (a0c : Nat) (w : World) (K : Int → World → Prop) : Prop :=
  sm a0 fun p_3 =>
  if 0 ≤ (0 : Int) ∧ (0 : Int) < ((a0n : Nat) : Int) then
  ldI .u8 p_3 w.drew fun x5_4 =>
  sm a0 fun p_5 =>
  if 0 ≤ (1 : Int) ∧ (1 : Int) < ((a0n : Nat) : Int) then
  ldI .u8 (p_5.add 1) w.drew fun x9_6 =>
  sm a0 fun p_7 =>
  if 0 ≤ (2 : Int) ∧ (2 : Int) < ((a0n : Nat) : Int) then
  ldI .u8 (p_7.add 2) w.drew fun x15_8 =>
  sm a0 fun p_9 =>
  if 0 ≤ (3 : Int) ∧ (3 : Int) < ((a0n : Nat) : Int) then
  ldI .u8 (p_9.add 3) w.drew fun x21_10 =>
  let v2_11 := (bor .u32 (bor .u32 (bor .u32 (IntKind.wrap .u32 x5_4) (shl .u32 (IntKind.wrap .u32 x9_6) 8)) (shl .u32 (IntKind.wrap .u32 x15_8) 16)) (shl .u32 (IntKind.wrap .u32 x21_10) 24))
  K v2_11 w.drew
  else False
  else False
  else False
  else False
def chacha_word.H (F : type_of% @chacha_word.f) : Hf := fun args w K => match args with
  | [v0] => vL v0 fun a0 a0n a0c => F a0 a0n a0c w (fun r0 w => K (Value.int .u32 r0) w)
  | _ => False
def chacha_word.h : Hf := chacha_word.H @chacha_word.f
def chacha_word.C : Hd := hnil
theorem chacha_word.C_ok : CSound Try.prog chacha_word.C := hnil_ok
def chacha_word.D : Nat → Plan := fun i => (match Nat.beq i 1 with | true => .take 0 (.take 1 (.take 2 (.take 3 (.take 4 (.take 5 (.take 6 (.take 7 (.take 8 (.take 9 (.take 10 (.take 11 (.take 12 (.take 13 (.take 14 (.take 15 (.take 16 (.take 17 (.take 18 (.take 19 (.take 20 (.take 21 (.take 22 (.done))))))))))))))))))))))) | false => .done)
noncomputable def chacha_word.c : Code := Try.f50.body.getD .skip
theorem chacha_word.hb : Try.f50.body = some chacha_word.c := by kernel_rfl
theorem chacha_word.c_loops : loopsOf chacha_word.c = [] := by kernel_rfl
def chacha_word.L : LHd := fun l f w K => False
theorem chacha_word.eq (a0 : Option Addr) (a0n : Nat) (a0c : Nat) (w : World) (K : Value → World → Prop) : afn chacha_word.C chacha_word.L chacha_word.D tab Try.f50 [(Value.slice a0 a0n a0c)] w K = chacha_word.f a0 a0n a0c w (fun r0 w => K (Value.int .u32 r0) w) := by kernel_rfl
theorem chacha_word.ok : FSound Try.prog 50 chacha_word.h := by
  intro args w K h
  unfold chacha_word.h chacha_word.H at h
  split at h
  ·
    replace h := vL_ok h
    obtain ⟨a0, a0n, a0c, rfl, h⟩ := h
    refine ⟨by kernel_rfl, fn_ok tab_ok chacha_word.C_ok (L := chacha_word.L) (D := chacha_word.D) Try.func50 chacha_word.hb (by kernel_rfl) (by rw [chacha_word.c_loops]; exact lnil) (Nat.le_of_ble_eq_true (by kernel_rfl)) ?_⟩
    rw [chacha_word.eq]
    exact h
  · exact h.elim
/-! ### (*valise/chacha.state).quarter: function 60 -/
def chacha_state_quarter.f (a0 : Option Addr) (a1 : Int) (a2 : Int) (a3 : Int) (a4 : Int) (w : World) (K : World → Prop) : Prop :=
  sm a0 fun p_1 =>
  if 0 ≤ (a1 : Int) ∧ (a1 : Int) < ((16 : Nat) : Int) then
  ldI .u32 (p_1.add (Int.toNat a1)) w.drew fun x23_2 =>
  sm a0 fun p_3 =>
  if 0 ≤ (a2 : Int) ∧ (a2 : Int) < ((16 : Nat) : Int) then
  ldI .u32 (p_3.add (Int.toNat a2)) w.drew fun x28_4 =>
  sm a0 fun p_5 =>
  if 0 ≤ (a3 : Int) ∧ (a3 : Int) < ((16 : Nat) : Int) then
  ldI .u32 (p_5.add (Int.toNat a3)) w.drew fun x33_6 =>
  sm a0 fun p_7 =>
  if 0 ≤ (a4 : Int) ∧ (a4 : Int) < ((16 : Nat) : Int) then
  ldI .u32 (p_7.add (Int.toNat a4)) w.drew fun x38_8 =>
  sm a0 fun p_9 =>
  sm a0 fun p_10 =>
  sm a0 fun p_11 =>
  sm a0 fun p_12 =>
  chacha_Quarter.f x23_2 x28_4 x33_6 x38_8 w.drew fun r39_13 r39_14 r39_15 r39_16 w =>
  if 0 ≤ (a1 : Int) ∧ (a1 : Int) < ((16 : Nat) : Int) then
  stC (p_9.add (Int.toNat a1)) (Value.int .u32 r39_13) w fun w =>
  if 0 ≤ (a2 : Int) ∧ (a2 : Int) < ((16 : Nat) : Int) then
  stC (p_10.add (Int.toNat a2)) (Value.int .u32 r39_14) w fun w =>
  if 0 ≤ (a3 : Int) ∧ (a3 : Int) < ((16 : Nat) : Int) then
  stC (p_11.add (Int.toNat a3)) (Value.int .u32 r39_15) w fun w =>
  if 0 ≤ (a4 : Int) ∧ (a4 : Int) < ((16 : Nat) : Int) then
  stC (p_12.add (Int.toNat a4)) (Value.int .u32 r39_16) w fun w =>
  K w
  else False
  else False
  else False
  else False
  else False
  else False
  else False
  else False
def chacha_state_quarter.H (F : type_of% @chacha_state_quarter.f) : Hf := fun args w K => match args with
  | [v0, v1, v2, v3, v4] => vP v0 fun a0 => vI .i64 v1 fun a1 => vI .i64 v2 fun a2 => vI .i64 v3 fun a3 => vI .i64 v4 fun a4 => F a0 a1 a2 a3 a4 w (fun w => K (Value.tuple #[]) w)
  | _ => False
def chacha_state_quarter.h : Hf := chacha_state_quarter.H @chacha_state_quarter.f
def chacha_state_quarter.C : Hd := hcons 26 chacha_Quarter.h (hnil)
theorem chacha_state_quarter.C_ok : CSound Try.prog chacha_state_quarter.C := hcons_ok chacha_Quarter.ok (hnil_ok)
def chacha_state_quarter.D : Nat → Plan := fun i => (match Nat.beq i 0 with | true => .take 0 (.take 1 (.take 2 (.take 3 (.take 4 (.take 5 (.take 6 (.take 7 (.take 8 (.take 9 (.take 10 (.take 11 (.take 12 (.take 13 (.take 14 (.take 15 (.take 16 (.take 17 (.take 18 (.take 19 (.take 20 (.take 21 (.take 22 (.take 23 (.take 24 (.take 25 (.take 26 (.take 27 (.take 34 (.take 37 (.take 40 (.take 43 (.eff 28 (.take 29 (.take 30 (.take 31 (.take 32 (.take 33 (.take 35 (.eff 36 (.take 38 (.eff 39 (.take 41 (.eff 42 (.take 44 (.eff 45 (.done)))))))))))))))))))))))))))))))))))))))))))))) | false => .done)
noncomputable def chacha_state_quarter.c : Code := Try.f60.body.getD .skip
theorem chacha_state_quarter.hb : Try.f60.body = some chacha_state_quarter.c := by kernel_rfl
theorem chacha_state_quarter.c_loops : loopsOf chacha_state_quarter.c = [] := by kernel_rfl
def chacha_state_quarter.L : LHd := fun l f w K => False
theorem chacha_state_quarter.eq (a0 : Option Addr) (a1 : Int) (a2 : Int) (a3 : Int) (a4 : Int) (w : World) (K : Value → World → Prop) : afn chacha_state_quarter.C chacha_state_quarter.L chacha_state_quarter.D tab Try.f60 [(Value.pointer a0), (Value.int .i64 a1), (Value.int .i64 a2), (Value.int .i64 a3), (Value.int .i64 a4)] w K = chacha_state_quarter.f a0 a1 a2 a3 a4 w (fun w => K (Value.tuple #[]) w) := by kernel_rfl
theorem chacha_state_quarter.ok : FSound Try.prog 60 chacha_state_quarter.h := by
  intro args w K h
  unfold chacha_state_quarter.h chacha_state_quarter.H at h
  split at h
  ·
    replace h := vP_ok h
    obtain ⟨a0, rfl, h⟩ := h
    replace h := vI_ok h
    obtain ⟨a1, rfl, h⟩ := h
    replace h := vI_ok h
    obtain ⟨a2, rfl, h⟩ := h
    replace h := vI_ok h
    obtain ⟨a3, rfl, h⟩ := h
    replace h := vI_ok h
    obtain ⟨a4, rfl, h⟩ := h
    refine ⟨by kernel_rfl, fn_ok tab_ok chacha_state_quarter.C_ok (L := chacha_state_quarter.L) (D := chacha_state_quarter.D) Try.func60 chacha_state_quarter.hb (by kernel_rfl) (by rw [chacha_state_quarter.c_loops]; exact lnil) (Nat.le_of_ble_eq_true (by kernel_rfl)) ?_⟩
    rw [chacha_state_quarter.eq]
    exact h
  · exact h.elim
/-! ### (*valise/chacha.state).rounds: function 51 -/
def chacha_state_rounds.l3 : Nat → Option Addr → Int → Int → World → (Option Addr → Int → World → Prop) → Prop
  | 0, _, _, _, _, _ => False
  | N + 1, y0, y4, y6, w, K2 =>
    bif (decide (y6 < 4)) then
      chacha_state_quarter.f y0 y6 (IntKind.wrap .i64 (4 + y6)) (IntKind.wrap .i64 (8 + y6)) (IntKind.wrap .i64 (12 + y6)) w fun w =>
      chacha_state_rounds.l3 N y0 y4 (IntKind.wrap .i64 (y6 + 1)) w K2
    else
      K2 y0 y4 w

def chacha_state_rounds.l8 : Nat → Option Addr → Int → Int → World → (Option Addr → Int → World → Prop) → Prop
  | 0, _, _, _, _, _ => False
  | N + 1, y0, y4, y19, w, K4 =>
    bif (decide (y19 < 4)) then
      chacha_state_quarter.f y0 y19 (IntKind.wrap .i64 (4 + (Int.tmod (IntKind.wrap .i64 (y19 + 1)) 4))) (IntKind.wrap .i64 (8 + (Int.tmod (IntKind.wrap .i64 (y19 + 2)) 4))) (IntKind.wrap .i64 (12 + (Int.tmod (IntKind.wrap .i64 (y19 + 3)) 4))) w fun w =>
      chacha_state_rounds.l8 N y0 y4 (IntKind.wrap .i64 (y19 + 1)) w K4
    else
      K4 y0 y4 w

def chacha_state_rounds.l1 : Nat → Option Addr → Int → World → (World → Prop) → Prop
  | 0, _, _, _, _ => False
  | N + 1, y0, y4, w, K0 =>
    bif (decide (y4 < 10)) then
      ∃ N_11 : Nat, chacha_state_rounds.l3 N_11 y0 y4 0 w
      (fun o0_12 o4_13 w =>
        ∃ N_19 : Nat, chacha_state_rounds.l8 N_19 o0_12 o4_13 0 w
        (fun o0_20 o4_21 w =>
          chacha_state_rounds.l1 N o0_20 (IntKind.wrap .i64 (o4_21 + 1)) w K0))
    else
      K0 w

def chacha_state_rounds.f (a0 : Option Addr) (w : World) (K : World → Prop) : Prop :=
  ∃ N_22 : Nat, chacha_state_rounds.l1 N_22 a0 0 w
  (fun w =>
    K w)
def chacha_state_rounds.H (F : type_of% @chacha_state_rounds.f) : Hf := fun args w K => match args with
  | [v0] => vP v0 fun a0 => F a0 w (fun w => K (Value.tuple #[]) w)
  | _ => False
def chacha_state_rounds.h : Hf := chacha_state_rounds.H @chacha_state_rounds.f
def chacha_state_rounds.C : Hd := hcons 60 chacha_state_quarter.h (hnil)
theorem chacha_state_rounds.C_ok : CSound Try.prog chacha_state_rounds.C := hcons_ok chacha_state_quarter.ok (hnil_ok)
def chacha_state_rounds.D : Nat → Plan := fun i => .done
noncomputable def chacha_state_rounds.c : Code := Try.f51.body.getD .skip
theorem chacha_state_rounds.hb : Try.f51.body = some chacha_state_rounds.c := by kernel_rfl
noncomputable def chacha_state_rounds.b0 : Code := (loopsOf chacha_state_rounds.c).getD 0 .skip
noncomputable def chacha_state_rounds.b0_0 : Code := (loopsOf chacha_state_rounds.b0).getD 0 .skip
theorem chacha_state_rounds.b0_0_loops : loopsOf chacha_state_rounds.b0_0 = [] := by kernel_rfl
noncomputable def chacha_state_rounds.b0_1 : Code := (loopsOf chacha_state_rounds.b0).getD 1 .skip
theorem chacha_state_rounds.b0_1_loops : loopsOf chacha_state_rounds.b0_1 = [] := by kernel_rfl
theorem chacha_state_rounds.b0_loops : loopsOf chacha_state_rounds.b0 = [chacha_state_rounds.b0_0, chacha_state_rounds.b0_1] := by kernel_rfl
theorem chacha_state_rounds.c_loops : loopsOf chacha_state_rounds.c = [chacha_state_rounds.b0] := by kernel_rfl
def chacha_state_rounds.hn3 (N : Nat) (f : Fr) (w : World) (K : AExit → Fr → World → Prop) : Prop :=
  gN f 39 <| gP f 0 fun y0 => gI .i64 f 4 fun y4 => gI .i64 f 6 fun y6 => chacha_state_rounds.l3 N y0 y4 y6 w (fun o0 o4 w => K (.exit 2) [some (Value.pointer o0), none, none, none, some (Value.int .i64 o4), none, none, none, none, none, none, none, none, none, none, none, none, none, none, none, none, none, none, none, none, none, none, none, none, none, none, none, none, none, none, none, none, none, none] w)
def chacha_state_rounds.hx3 : AExit → Fr → World → (AExit → Fr → World → Prop) → Prop := fun e f w K => match e with
  | .normal => False
  | .exit i => (match Nat.beq i 2 with | true => gN f 39 <| gP f 0 fun o0 => gI .i64 f 4 fun o4 => K (.exit 2) [some (Value.pointer o0), none, none, none, some (Value.int .i64 o4), none, none, none, none, none, none, none, none, none, none, none, none, none, none, none, none, none, none, none, none, none, none, none, none, none, none, none, none, none, none, none, none, none, none] w | false => False)
  | .ret => False
def chacha_state_rounds.hn8 (N : Nat) (f : Fr) (w : World) (K : AExit → Fr → World → Prop) : Prop :=
  gN f 39 <| gP f 0 fun y0 => gI .i64 f 4 fun y4 => gI .i64 f 19 fun y19 => chacha_state_rounds.l8 N y0 y4 y19 w (fun o0 o4 w => K (.exit 4) [some (Value.pointer o0), none, none, none, some (Value.int .i64 o4), none, none, none, none, none, none, none, none, none, none, none, none, none, none, none, none, none, none, none, none, none, none, none, none, none, none, none, none, none, none, none, none, none, none] w)
def chacha_state_rounds.hx8 : AExit → Fr → World → (AExit → Fr → World → Prop) → Prop := fun e f w K => match e with
  | .normal => False
  | .exit i => (match Nat.beq i 4 with | true => gN f 39 <| gP f 0 fun o0 => gI .i64 f 4 fun o4 => K (.exit 4) [some (Value.pointer o0), none, none, none, some (Value.int .i64 o4), none, none, none, none, none, none, none, none, none, none, none, none, none, none, none, none, none, none, none, none, none, none, none, none, none, none, none, none, none, none, none, none, none, none] w | false => False)
  | .ret => False
def chacha_state_rounds.hn1 (N : Nat) (f : Fr) (w : World) (K : AExit → Fr → World → Prop) : Prop :=
  gN f 39 <| gP f 0 fun y0 => gI .i64 f 4 fun y4 => chacha_state_rounds.l1 N y0 y4 w (fun w => K (.exit 0) [none, none, none, none, none, none, none, none, none, none, none, none, none, none, none, none, none, none, none, none, none, none, none, none, none, none, none, none, none, none, none, none, none, none, none, none, none, none, none] w)
def chacha_state_rounds.hx1 : AExit → Fr → World → (AExit → Fr → World → Prop) → Prop := fun e f w K => match e with
  | .normal => False
  | .exit i => (match Nat.beq i 0 with | true => gN f 39 <|  K (.exit 0) [none, none, none, none, none, none, none, none, none, none, none, none, none, none, none, none, none, none, none, none, none, none, none, none, none, none, none, none, none, none, none, none, none, none, none, none, none, none, none] w | false => False)
  | .ret => False
def chacha_state_rounds.L : LHd := fun l f w K => (match Nat.beq l 1 with | true => ∃ N, chacha_state_rounds.hn1 N f w K | false => (match Nat.beq l 8 with | true => ∃ N, chacha_state_rounds.hn8 N f w K | false => (match Nat.beq l 3 with | true => ∃ N, chacha_state_rounds.hn3 N f w K | false => False)))
theorem chacha_state_rounds.le3 (N : Nat) (y0 : Option Addr) (y4 : Int) (y6 : Int) (w : World) (K : AExit → Fr → World → Prop) : awp chacha_state_rounds.C chacha_state_rounds.L chacha_state_rounds.D tab chacha_state_rounds.b0_0 (lpost chacha_state_rounds.hn3 chacha_state_rounds.hx3 N K) [some (Value.pointer y0), none, none, none, some (Value.int .i64 y4), none, some (Value.int .i64 y6), none, none, none, none, none, none, none, none, none, none, none, none, none, none, none, none, none, none, none, none, none, none, none, none, none, none, none, none, none, none, none, none] w = chacha_state_rounds.l3 (N + 1) y0 y4 y6 w (fun o0 o4 w => K (.exit 2) [some (Value.pointer o0), none, none, none, some (Value.int .i64 o4), none, none, none, none, none, none, none, none, none, none, none, none, none, none, none, none, none, none, none, none, none, none, none, none, none, none, none, none, none, none, none, none, none, none] w) := by kernel_rfl
theorem chacha_state_rounds.lok3 : LoopOk Try.prog chacha_state_rounds.L chacha_state_rounds.b0_0 := by
  refine loop_ok tab_ok chacha_state_rounds.C_ok (D := chacha_state_rounds.D) (chacha_state_rounds.hn3) (chacha_state_rounds.hx3) (by kernel_rfl) (by rw [chacha_state_rounds.b0_0_loops]; exact lnil) ?_ ?_ ?_ ?_
  · intro f w K h
    unfold chacha_state_rounds.hn3 at h
    obtain ⟨hlen, h⟩ := gN_ok h
    obtain ⟨y0, h0, h⟩ := gP_ok h
    obtain ⟨y4, h4, h⟩ := gI_ok h
    obtain ⟨y6, h6, h⟩ := gI_ok h
    exact h
  · intro N f w K h
    unfold chacha_state_rounds.hn3 at h
    obtain ⟨hlen, h⟩ := gN_ok h
    obtain ⟨y0, h0, h⟩ := gP_ok h
    obtain ⟨y4, h4, h⟩ := gI_ok h
    obtain ⟨y6, h6, h⟩ := gI_ok h
    refine ⟨[some (Value.pointer y0), none, none, none, some (Value.int .i64 y4), none, some (Value.int .i64 y6), none, none, none, none, none, none, none, none, none, none, none, none, none, none, none, none, none, none, none, none, none, none, none, none, none, none, none, none, none, none, none, none], hlen, ⟨h0, h4, h6, trivial⟩, ?_⟩
    rw [chacha_state_rounds.le3]
    exact h
  · intro e f w K h
    cases e with
    | normal => exact h.elim
    | exit i =>
      unfold chacha_state_rounds.hx3 at h
      simp only at h
      split at h
      · rename_i hb
        obtain rfl := Nat.eq_of_beq_eq_true hb
        obtain ⟨hlen, h⟩ := gN_ok h
        obtain ⟨o0, h0, h⟩ := gP_ok h
        obtain ⟨o4, h4, h⟩ := gI_ok h
        exact ⟨[some (Value.pointer o0), none, none, none, some (Value.int .i64 o4), none, none, none, none, none, none, none, none, none, none, none, none, none, none, none, none, none, none, none, none, none, none, none, none, none, none, none, none, none, none, none, none, none, none], hlen, ⟨h0, h4, trivial⟩, h⟩
      · exact (show False from h).elim
    | ret =>
      exact (show False from h).elim
  · intro f w K h
    have e : lid chacha_state_rounds.b0_0 = 3 := by kernel_rfl
    rw [e] at h
    exact h
theorem chacha_state_rounds.le8 (N : Nat) (y0 : Option Addr) (y4 : Int) (y19 : Int) (w : World) (K : AExit → Fr → World → Prop) : awp chacha_state_rounds.C chacha_state_rounds.L chacha_state_rounds.D tab chacha_state_rounds.b0_1 (lpost chacha_state_rounds.hn8 chacha_state_rounds.hx8 N K) [some (Value.pointer y0), none, none, none, some (Value.int .i64 y4), none, none, none, none, none, none, none, none, none, none, none, none, none, none, some (Value.int .i64 y19), none, none, none, none, none, none, none, none, none, none, none, none, none, none, none, none, none, none, none] w = chacha_state_rounds.l8 (N + 1) y0 y4 y19 w (fun o0 o4 w => K (.exit 4) [some (Value.pointer o0), none, none, none, some (Value.int .i64 o4), none, none, none, none, none, none, none, none, none, none, none, none, none, none, none, none, none, none, none, none, none, none, none, none, none, none, none, none, none, none, none, none, none, none] w) := by kernel_rfl
theorem chacha_state_rounds.lok8 : LoopOk Try.prog chacha_state_rounds.L chacha_state_rounds.b0_1 := by
  refine loop_ok tab_ok chacha_state_rounds.C_ok (D := chacha_state_rounds.D) (chacha_state_rounds.hn8) (chacha_state_rounds.hx8) (by kernel_rfl) (by rw [chacha_state_rounds.b0_1_loops]; exact lnil) ?_ ?_ ?_ ?_
  · intro f w K h
    unfold chacha_state_rounds.hn8 at h
    obtain ⟨hlen, h⟩ := gN_ok h
    obtain ⟨y0, h0, h⟩ := gP_ok h
    obtain ⟨y4, h4, h⟩ := gI_ok h
    obtain ⟨y19, h19, h⟩ := gI_ok h
    exact h
  · intro N f w K h
    unfold chacha_state_rounds.hn8 at h
    obtain ⟨hlen, h⟩ := gN_ok h
    obtain ⟨y0, h0, h⟩ := gP_ok h
    obtain ⟨y4, h4, h⟩ := gI_ok h
    obtain ⟨y19, h19, h⟩ := gI_ok h
    refine ⟨[some (Value.pointer y0), none, none, none, some (Value.int .i64 y4), none, none, none, none, none, none, none, none, none, none, none, none, none, none, some (Value.int .i64 y19), none, none, none, none, none, none, none, none, none, none, none, none, none, none, none, none, none, none, none], hlen, ⟨h0, h4, h19, trivial⟩, ?_⟩
    rw [chacha_state_rounds.le8]
    exact h
  · intro e f w K h
    cases e with
    | normal => exact h.elim
    | exit i =>
      unfold chacha_state_rounds.hx8 at h
      simp only at h
      split at h
      · rename_i hb
        obtain rfl := Nat.eq_of_beq_eq_true hb
        obtain ⟨hlen, h⟩ := gN_ok h
        obtain ⟨o0, h0, h⟩ := gP_ok h
        obtain ⟨o4, h4, h⟩ := gI_ok h
        exact ⟨[some (Value.pointer o0), none, none, none, some (Value.int .i64 o4), none, none, none, none, none, none, none, none, none, none, none, none, none, none, none, none, none, none, none, none, none, none, none, none, none, none, none, none, none, none, none, none, none, none], hlen, ⟨h0, h4, trivial⟩, h⟩
      · exact (show False from h).elim
    | ret =>
      exact (show False from h).elim
  · intro f w K h
    have e : lid chacha_state_rounds.b0_1 = 8 := by kernel_rfl
    rw [e] at h
    exact h
theorem chacha_state_rounds.le1 (N : Nat) (y0 : Option Addr) (y4 : Int) (w : World) (K : AExit → Fr → World → Prop) : awp chacha_state_rounds.C chacha_state_rounds.L chacha_state_rounds.D tab chacha_state_rounds.b0 (lpost chacha_state_rounds.hn1 chacha_state_rounds.hx1 N K) [some (Value.pointer y0), none, none, none, some (Value.int .i64 y4), none, none, none, none, none, none, none, none, none, none, none, none, none, none, none, none, none, none, none, none, none, none, none, none, none, none, none, none, none, none, none, none, none, none] w = chacha_state_rounds.l1 (N + 1) y0 y4 w (fun w => K (.exit 0) [none, none, none, none, none, none, none, none, none, none, none, none, none, none, none, none, none, none, none, none, none, none, none, none, none, none, none, none, none, none, none, none, none, none, none, none, none, none, none] w) := by kernel_rfl
theorem chacha_state_rounds.lok1 : LoopOk Try.prog chacha_state_rounds.L chacha_state_rounds.b0 := by
  refine loop_ok tab_ok chacha_state_rounds.C_ok (D := chacha_state_rounds.D) (chacha_state_rounds.hn1) (chacha_state_rounds.hx1) (by kernel_rfl) (by rw [chacha_state_rounds.b0_loops]; exact lcons chacha_state_rounds.lok3 (lcons chacha_state_rounds.lok8 (lnil))) ?_ ?_ ?_ ?_
  · intro f w K h
    unfold chacha_state_rounds.hn1 at h
    obtain ⟨hlen, h⟩ := gN_ok h
    obtain ⟨y0, h0, h⟩ := gP_ok h
    obtain ⟨y4, h4, h⟩ := gI_ok h
    exact h
  · intro N f w K h
    unfold chacha_state_rounds.hn1 at h
    obtain ⟨hlen, h⟩ := gN_ok h
    obtain ⟨y0, h0, h⟩ := gP_ok h
    obtain ⟨y4, h4, h⟩ := gI_ok h
    refine ⟨[some (Value.pointer y0), none, none, none, some (Value.int .i64 y4), none, none, none, none, none, none, none, none, none, none, none, none, none, none, none, none, none, none, none, none, none, none, none, none, none, none, none, none, none, none, none, none, none, none], hlen, ⟨h0, h4, trivial⟩, ?_⟩
    rw [chacha_state_rounds.le1]
    exact h
  · intro e f w K h
    cases e with
    | normal => exact h.elim
    | exit i =>
      unfold chacha_state_rounds.hx1 at h
      simp only at h
      split at h
      · rename_i hb
        obtain rfl := Nat.eq_of_beq_eq_true hb
        obtain ⟨hlen, h⟩ := gN_ok h
        exact ⟨[none, none, none, none, none, none, none, none, none, none, none, none, none, none, none, none, none, none, none, none, none, none, none, none, none, none, none, none, none, none, none, none, none, none, none, none, none, none, none], hlen, trivial, h⟩
      · exact (show False from h).elim
    | ret =>
      exact (show False from h).elim
  · intro f w K h
    have e : lid chacha_state_rounds.b0 = 1 := by kernel_rfl
    rw [e] at h
    exact h
theorem chacha_state_rounds.eq (a0 : Option Addr) (w : World) (K : Value → World → Prop) : afn chacha_state_rounds.C chacha_state_rounds.L chacha_state_rounds.D tab Try.f51 [(Value.pointer a0)] w K = chacha_state_rounds.f a0 w (fun w => K (Value.tuple #[]) w) := by kernel_rfl
theorem chacha_state_rounds.ok : FSound Try.prog 51 chacha_state_rounds.h := by
  intro args w K h
  unfold chacha_state_rounds.h chacha_state_rounds.H at h
  split at h
  ·
    replace h := vP_ok h
    obtain ⟨a0, rfl, h⟩ := h
    refine ⟨by kernel_rfl, fn_ok tab_ok chacha_state_rounds.C_ok (L := chacha_state_rounds.L) (D := chacha_state_rounds.D) Try.func51 chacha_state_rounds.hb (by kernel_rfl) (by rw [chacha_state_rounds.c_loops]; exact lcons chacha_state_rounds.lok1 (lnil)) (Nat.le_of_ble_eq_true (by kernel_rfl)) ?_⟩
    rw [chacha_state_rounds.eq]
    exact h
  · exact h.elim

end Go.Proofs.Ytodicpmedallgaa.G
