/- Go functions as predicate transformers, written by a program of this session (gen.py), with their soundness. -/
import Derived.Test.YtmgcjihcbdgihaaGen4
set_option linter.unusedVariables false
set_option linter.unusedSimpArgs false
set_option maxRecDepth 100000
namespace Go.Proofs.Ytmgcjihcbdgihaa.G
open Go Go.Proofs.Ytmgcjihcbdgihaa.Vm
/-! ### valise/valiselaw18.ColourGrey: function 3 -/
def law18_ColourGrey.l5 : Nat → Option Addr → Nat → Nat → Option Addr → Nat → Nat → Int → World → (Option Addr → Nat → Nat → Option Addr → Nat → Nat → World → Prop) → Prop
  | 0, _, _, _, _, _, _, _, _, _ => False
  | N + 1, y0, y0n, y0c, y3, y3n, y3c, y4, w, K0 =>
    bif (decide (y4 < ((y0n : Nat) : Int))) then
      sm y0 fun p_12 =>
      if 0 ≤ (y4 : Int) ∧ (y4 : Int) < ((y0n : Nat) : Int) then
      ldI .u8 (p_12.add (Int.toNat y4)) w.drew fun x21_13 =>
      sm y0 fun p_14 =>
      if 0 ≤ (y4 : Int) ∧ (y4 : Int) < ((y0n : Nat) : Int) then
      ldI .u8 (p_14.add (Int.toNat y4)) w.drew fun x25_15 =>
      sm y0 fun p_16 =>
      if 0 ≤ (y4 : Int) ∧ (y4 : Int) < ((y0n : Nat) : Int) then
      ldI .u8 (p_16.add (Int.toNat y4)) w.drew fun x29_17 =>
      newC 5 [(Value.int .u8 x21_13), (Value.int .u8 x25_15), (Value.int .u8 x29_17)] w.drew fun a30_18 w =>
      appL 5 1 1 [(Value.int .u8 0)] y3 y3n y3c (some a30_18) 3 3 w fun a31_19 a31_19n a31_19c w =>
      let v4_20 := (IntKind.wrap .i64 (y4 + 1))
      law18_ColourGrey.l5 N y0 y0n y0c a31_19 a31_19n a31_19c v4_20 w K0
      else False
      else False
      else False
    else
      K0 y0 y0n y0c y3 y3n y3c w

def law18_ColourGrey.l12 : Nat → Option Addr → Nat → Nat → Option Addr → Nat → Nat → Int → World → (World → Prop) → (Bool → World → Prop) → Prop
  | 0, _, _, _, _, _, _, _, _, _, _ => False
  | N + 1, y0, y0n, y0c, y5, y5n, y5c, y6, w, K2, Kr =>
    bif (decide (y6 < ((y0n : Nat) : Int))) then
      sm y5 fun p_37 =>
      if 0 ≤ ((IntKind.wrap .i64 (3 * y6)) : Int) ∧ ((IntKind.wrap .i64 (3 * y6)) : Int) < ((y5n : Nat) : Int) then
      ldI .u8 (p_37.add (Int.toNat (IntKind.wrap .i64 (3 * y6)))) w.drew fun x53_38 =>
      bif (x53_38 != 0) then
        Kr false w.drew
      else
        sm y5 fun p_39 =>
        if 0 ≤ ((IntKind.wrap .i64 ((IntKind.wrap .i64 (3 * y6)) + 1)) : Int) ∧ ((IntKind.wrap .i64 ((IntKind.wrap .i64 (3 * y6)) + 1)) : Int) < ((y5n : Nat) : Int) then
        ldI .u8 (p_39.add (Int.toNat (IntKind.wrap .i64 ((IntKind.wrap .i64 (3 * y6)) + 1)))) w.drew fun x61_40 =>
        sm y0 fun p_41 =>
        if 0 ≤ (y6 : Int) ∧ (y6 : Int) < ((y0n : Nat) : Int) then
        ldI .u8 (p_41.add (Int.toNat y6)) w.drew fun x65_42 =>
        bif (x61_40 != x65_42) then
          Kr false w.drew
        else
          sm y5 fun p_43 =>
          if 0 ≤ ((IntKind.wrap .i64 ((IntKind.wrap .i64 (3 * y6)) + 2)) : Int) ∧ ((IntKind.wrap .i64 ((IntKind.wrap .i64 (3 * y6)) + 2)) : Int) < ((y5n : Nat) : Int) then
          ldI .u8 (p_43.add (Int.toNat (IntKind.wrap .i64 ((IntKind.wrap .i64 (3 * y6)) + 2)))) w.drew fun x74_44 =>
          bif (x74_44 != 0) then
            Kr false w.drew
          else
            let v6_48 := (IntKind.wrap .i64 (y6 + 1))
            law18_ColourGrey.l12 N y0 y0n y0c y5 y5n y5c v6_48 w.drew K2 Kr
          else False
        else False
        else False
      else False
    else
      K2 w

def law18_ColourGrey.f (a0 : Option Addr) (a0n : Nat) (a0c : Nat) (w : World) (K : Bool → World → Prop) : Prop :=
  bif (decide (((a0n : Nat) : Int) > 1000)) then
    law18_awake.f  w fun r10_5 w =>
    K r10_5 w
  else
    ∃ N_21 : Nat, law18_ColourGrey.l5 N_21 a0 a0n a0c none 0 0 0 w
    (fun o0_22 o0_22n o0_22c o3_23 o3_23n o3_23c w =>
      colour_Turn.f o3_23 o3_23n o3_23c w fun r33_25 r33_25n r33_25c w =>
      law18_awake.f  w fun r34_28 w =>
      bif (!r34_28) then
        K false w
      else
        bif (((r33_25n : Nat) : Int) != ((o3_23n : Nat) : Int)) then
          K false w
        else
          ∃ N_49 : Nat, law18_ColourGrey.l12 N_49 o0_22 o0_22n o0_22c r33_25 r33_25n r33_25c 0 w
          (fun w =>
            K true w)
          (fun o2_50 w =>
            K o2_50 w))
def law18_ColourGrey.H (F : type_of% @law18_ColourGrey.f) : Hf := fun args w K => match args with
  | [v0] => vL v0 fun a0 a0n a0c => F a0 a0n a0c w (fun r0 w => K (Value.bool r0) w)
  | _ => False
def law18_ColourGrey.h : Hf := law18_ColourGrey.H @law18_ColourGrey.f
def law18_ColourGrey.CG (F15 : type_of% @law18_awake.f) (F16 : type_of% @colour_Turn.f) : Hd := hcons 16 (colour_Turn.H F16) (hcons 15 (law18_awake.H F15) (hnil))
def law18_ColourGrey.C : Hd := law18_ColourGrey.CG @law18_awake.f @colour_Turn.f
def law18_ColourGrey.G (F15 : type_of% @law18_awake.f) (F16 : type_of% @colour_Turn.f) (a0 : Option Addr) (a0n : Nat) (a0c : Nat) (w : World) (K : Bool → World → Prop) : Prop :=
  bif (decide (((a0n : Nat) : Int) > 1000)) then
    F15  w fun r10_5 w =>
    K r10_5 w
  else
    ∃ N_21 : Nat, law18_ColourGrey.l5 N_21 a0 a0n a0c none 0 0 0 w
    (fun o0_22 o0_22n o0_22c o3_23 o3_23n o3_23c w =>
      F16 o3_23 o3_23n o3_23c w fun r33_25 r33_25n r33_25c w =>
      F15  w fun r34_28 w =>
      bif (!r34_28) then
        K false w
      else
        bif (((r33_25n : Nat) : Int) != ((o3_23n : Nat) : Int)) then
          K false w
        else
          ∃ N_49 : Nat, law18_ColourGrey.l12 N_49 o0_22 o0_22n o0_22c r33_25 r33_25n r33_25c 0 w
          (fun w =>
            K true w)
          (fun o2_50 w =>
            K o2_50 w))
theorem law18_ColourGrey.C_ok : CSound Try.prog law18_ColourGrey.C := hcons_ok colour_Turn.ok (hcons_ok law18_awake.ok (hnil_ok))
def law18_ColourGrey.D : Nat → Plan := fun i => (match Nat.beq i 14 with | true => .take 0 (.take 1 (.take 2 (.take 3 (.take 4 (.take 5 (.take 6 (.take 7 (.take 8 (.take 9 (.take 10 (.take 11 (.take 12 (.take 13 (.take 14 (.take 15 (.take 16 (.take 17 (.take 18 (.take 19 (.take 20 (.take 21 (.take 22 (.take 23 (.take 24 (.take 25 (.take 26 (.take 27 (.done)))))))))))))))))))))))))))) | false => (match Nat.beq i 7 with | true => .take 0 (.take 1 (.take 2 (.take 3 (.take 4 (.take 5 (.take 6 (.take 7 (.take 8 (.take 9 (.take 10 (.take 11 (.take 12 (.eff 13 (.eff 14 (.take 15 (.done)))))))))))))))) | false => .done))
noncomputable def law18_ColourGrey.c : Code := Try.f3.body.getD .skip
theorem law18_ColourGrey.hb : Try.f3.body = some law18_ColourGrey.c := by kernel_rfl
noncomputable def law18_ColourGrey.b0 : Code := (loopsOf law18_ColourGrey.c).getD 0 .skip
theorem law18_ColourGrey.b0_loops : loopsOf law18_ColourGrey.b0 = [] := by kernel_rfl
noncomputable def law18_ColourGrey.b1 : Code := (loopsOf law18_ColourGrey.c).getD 1 .skip
theorem law18_ColourGrey.b1_loops : loopsOf law18_ColourGrey.b1 = [] := by kernel_rfl
theorem law18_ColourGrey.c_loops : loopsOf law18_ColourGrey.c = [law18_ColourGrey.b0, law18_ColourGrey.b1] := by kernel_rfl
def law18_ColourGrey.l5G (F15 : type_of% @law18_awake.f) (F16 : type_of% @colour_Turn.f) (R : Option Addr → Nat → Nat → Option Addr → Nat → Nat → Int → World → (Option Addr → Nat → Nat → Option Addr → Nat → Nat → World → Prop) → Prop) : Option Addr → Nat → Nat → Option Addr → Nat → Nat → Int → World → (Option Addr → Nat → Nat → Option Addr → Nat → Nat → World → Prop) → Prop := fun y0 y0n y0c y3 y3n y3c y4 w K0 =>
    bif (decide (y4 < ((y0n : Nat) : Int))) then
      sm y0 fun p_12 =>
      if 0 ≤ (y4 : Int) ∧ (y4 : Int) < ((y0n : Nat) : Int) then
      ldI .u8 (p_12.add (Int.toNat y4)) w.drew fun x21_13 =>
      sm y0 fun p_14 =>
      if 0 ≤ (y4 : Int) ∧ (y4 : Int) < ((y0n : Nat) : Int) then
      ldI .u8 (p_14.add (Int.toNat y4)) w.drew fun x25_15 =>
      sm y0 fun p_16 =>
      if 0 ≤ (y4 : Int) ∧ (y4 : Int) < ((y0n : Nat) : Int) then
      ldI .u8 (p_16.add (Int.toNat y4)) w.drew fun x29_17 =>
      newC 5 [(Value.int .u8 x21_13), (Value.int .u8 x25_15), (Value.int .u8 x29_17)] w.drew fun a30_18 w =>
      appL 5 1 1 [(Value.int .u8 0)] y3 y3n y3c (some a30_18) 3 3 w fun a31_19 a31_19n a31_19c w =>
      let v4_20 := (IntKind.wrap .i64 (y4 + 1))
      R y0 y0n y0c a31_19 a31_19n a31_19c v4_20 w K0
      else False
      else False
      else False
    else
      K0 y0 y0n y0c y3 y3n y3c w

def law18_ColourGrey.l12G (F15 : type_of% @law18_awake.f) (F16 : type_of% @colour_Turn.f) (R : Option Addr → Nat → Nat → Option Addr → Nat → Nat → Int → World → (World → Prop) → (Bool → World → Prop) → Prop) : Option Addr → Nat → Nat → Option Addr → Nat → Nat → Int → World → (World → Prop) → (Bool → World → Prop) → Prop := fun y0 y0n y0c y5 y5n y5c y6 w K2 Kr =>
    bif (decide (y6 < ((y0n : Nat) : Int))) then
      sm y5 fun p_37 =>
      if 0 ≤ ((IntKind.wrap .i64 (3 * y6)) : Int) ∧ ((IntKind.wrap .i64 (3 * y6)) : Int) < ((y5n : Nat) : Int) then
      ldI .u8 (p_37.add (Int.toNat (IntKind.wrap .i64 (3 * y6)))) w.drew fun x53_38 =>
      bif (x53_38 != 0) then
        Kr false w.drew
      else
        sm y5 fun p_39 =>
        if 0 ≤ ((IntKind.wrap .i64 ((IntKind.wrap .i64 (3 * y6)) + 1)) : Int) ∧ ((IntKind.wrap .i64 ((IntKind.wrap .i64 (3 * y6)) + 1)) : Int) < ((y5n : Nat) : Int) then
        ldI .u8 (p_39.add (Int.toNat (IntKind.wrap .i64 ((IntKind.wrap .i64 (3 * y6)) + 1)))) w.drew fun x61_40 =>
        sm y0 fun p_41 =>
        if 0 ≤ (y6 : Int) ∧ (y6 : Int) < ((y0n : Nat) : Int) then
        ldI .u8 (p_41.add (Int.toNat y6)) w.drew fun x65_42 =>
        bif (x61_40 != x65_42) then
          Kr false w.drew
        else
          sm y5 fun p_43 =>
          if 0 ≤ ((IntKind.wrap .i64 ((IntKind.wrap .i64 (3 * y6)) + 2)) : Int) ∧ ((IntKind.wrap .i64 ((IntKind.wrap .i64 (3 * y6)) + 2)) : Int) < ((y5n : Nat) : Int) then
          ldI .u8 (p_43.add (Int.toNat (IntKind.wrap .i64 ((IntKind.wrap .i64 (3 * y6)) + 2)))) w.drew fun x74_44 =>
          bif (x74_44 != 0) then
            Kr false w.drew
          else
            let v6_48 := (IntKind.wrap .i64 (y6 + 1))
            R y0 y0n y0c y5 y5n y5c v6_48 w.drew K2 Kr
          else False
        else False
        else False
      else False
    else
      K2 w

def law18_ColourGrey.hn5 (N : Nat) (f : Fr) (w : World) (K : AExit → Fr → World → Prop) : Prop :=
  gN f 77 <| gL f 0 fun y0 y0n y0c => gL f 3 fun y3 y3n y3c => gI .i64 f 4 fun y4 => law18_ColourGrey.l5 N y0 y0n y0c y3 y3n y3c y4 w (fun o0 o0n o0c o3 o3n o3c w => K (.exit 0) [some (Value.slice o0 o0n o0c), none, none, some (Value.slice o3 o3n o3c), none, none, none, none, none, none, none, none, none, none, none, none, none, none, none, none, none, none, none, none, none, none, none, none, none, none, none, none, none, none, none, none, none, none, none, none, none, none, none, none, none, none, none, none, none, none, none, none, none, none, none, none, none, none, none, none, none, none, none, none, none, none, none, none, none, none, none, none, none, none, none, none, none] w)
def law18_ColourGrey.hx5 : AExit → Fr → World → (AExit → Fr → World → Prop) → Prop := fun e f w K => match e with
  | .normal => False
  | .exit i => (match Nat.beq i 0 with | true => gN f 77 <| gL f 0 fun o0 o0n o0c => gL f 3 fun o3 o3n o3c => K (.exit 0) [some (Value.slice o0 o0n o0c), none, none, some (Value.slice o3 o3n o3c), none, none, none, none, none, none, none, none, none, none, none, none, none, none, none, none, none, none, none, none, none, none, none, none, none, none, none, none, none, none, none, none, none, none, none, none, none, none, none, none, none, none, none, none, none, none, none, none, none, none, none, none, none, none, none, none, none, none, none, none, none, none, none, none, none, none, none, none, none, none, none, none, none] w | false => False)
  | .ret => False
def law18_ColourGrey.hn12 (N : Nat) (f : Fr) (w : World) (K : AExit → Fr → World → Prop) : Prop :=
  gN f 77 <| gL f 0 fun y0 y0n y0c => gL f 5 fun y5 y5n y5c => gI .i64 f 6 fun y6 => law18_ColourGrey.l12 N y0 y0n y0c y5 y5n y5c y6 w (fun w => K (.exit 2) [none, none, none, none, none, none, none, none, none, none, none, none, none, none, none, none, none, none, none, none, none, none, none, none, none, none, none, none, none, none, none, none, none, none, none, none, none, none, none, none, none, none, none, none, none, none, none, none, none, none, none, none, none, none, none, none, none, none, none, none, none, none, none, none, none, none, none, none, none, none, none, none, none, none, none, none, none] w) (fun o2 w => K .ret [none, none, some (Value.bool o2), none, none, none, none, none, none, none, none, none, none, none, none, none, none, none, none, none, none, none, none, none, none, none, none, none, none, none, none, none, none, none, none, none, none, none, none, none, none, none, none, none, none, none, none, none, none, none, none, none, none, none, none, none, none, none, none, none, none, none, none, none, none, none, none, none, none, none, none, none, none, none, none, none, none] w)
def law18_ColourGrey.hx12 : AExit → Fr → World → (AExit → Fr → World → Prop) → Prop := fun e f w K => match e with
  | .normal => False
  | .exit i => (match Nat.beq i 2 with | true => gN f 77 <|  K (.exit 2) [none, none, none, none, none, none, none, none, none, none, none, none, none, none, none, none, none, none, none, none, none, none, none, none, none, none, none, none, none, none, none, none, none, none, none, none, none, none, none, none, none, none, none, none, none, none, none, none, none, none, none, none, none, none, none, none, none, none, none, none, none, none, none, none, none, none, none, none, none, none, none, none, none, none, none, none, none] w | false => False)
  | .ret => gN f 77 <| gB f 2 fun o2 => K .ret [none, none, some (Value.bool o2), none, none, none, none, none, none, none, none, none, none, none, none, none, none, none, none, none, none, none, none, none, none, none, none, none, none, none, none, none, none, none, none, none, none, none, none, none, none, none, none, none, none, none, none, none, none, none, none, none, none, none, none, none, none, none, none, none, none, none, none, none, none, none, none, none, none, none, none, none, none, none, none, none, none] w
def law18_ColourGrey.L : LHd := fun l f w K => (match Nat.beq l 12 with | true => ∃ N, law18_ColourGrey.hn12 N f w K | false => (match Nat.beq l 5 with | true => ∃ N, law18_ColourGrey.hn5 N f w K | false => False))
theorem law18_ColourGrey.leG5 (F15 : type_of% @law18_awake.f) (F16 : type_of% @colour_Turn.f) (N : Nat) (y0 : Option Addr) (y0n : Nat) (y0c : Nat) (y3 : Option Addr) (y3n : Nat) (y3c : Nat) (y4 : Int) (w : World) (K : AExit → Fr → World → Prop) : awp (law18_ColourGrey.CG F15 F16) law18_ColourGrey.L law18_ColourGrey.D tab law18_ColourGrey.b0 (lpost law18_ColourGrey.hn5 law18_ColourGrey.hx5 N K) [some (Value.slice y0 y0n y0c), none, none, some (Value.slice y3 y3n y3c), some (Value.int .i64 y4), none, none, none, none, none, none, none, none, none, none, none, none, none, none, none, none, none, none, none, none, none, none, none, none, none, none, none, none, none, none, none, none, none, none, none, none, none, none, none, none, none, none, none, none, none, none, none, none, none, none, none, none, none, none, none, none, none, none, none, none, none, none, none, none, none, none, none, none, none, none, none, none] w = law18_ColourGrey.l5G F15 F16 (law18_ColourGrey.l5 N) y0 y0n y0c y3 y3n y3c y4 w (fun o0 o0n o0c o3 o3n o3c w => K (.exit 0) [some (Value.slice o0 o0n o0c), none, none, some (Value.slice o3 o3n o3c), none, none, none, none, none, none, none, none, none, none, none, none, none, none, none, none, none, none, none, none, none, none, none, none, none, none, none, none, none, none, none, none, none, none, none, none, none, none, none, none, none, none, none, none, none, none, none, none, none, none, none, none, none, none, none, none, none, none, none, none, none, none, none, none, none, none, none, none, none, none, none, none, none] w) := by kernel_rfl
theorem law18_ColourGrey.les5 (N : Nat) : law18_ColourGrey.l5 (N + 1) = law18_ColourGrey.l5G @law18_awake.f @colour_Turn.f (law18_ColourGrey.l5 N) := by kernel_rfl
theorem law18_ColourGrey.le5 (N : Nat) (y0 : Option Addr) (y0n : Nat) (y0c : Nat) (y3 : Option Addr) (y3n : Nat) (y3c : Nat) (y4 : Int) (w : World) (K : AExit → Fr → World → Prop) : awp law18_ColourGrey.C law18_ColourGrey.L law18_ColourGrey.D tab law18_ColourGrey.b0 (lpost law18_ColourGrey.hn5 law18_ColourGrey.hx5 N K) [some (Value.slice y0 y0n y0c), none, none, some (Value.slice y3 y3n y3c), some (Value.int .i64 y4), none, none, none, none, none, none, none, none, none, none, none, none, none, none, none, none, none, none, none, none, none, none, none, none, none, none, none, none, none, none, none, none, none, none, none, none, none, none, none, none, none, none, none, none, none, none, none, none, none, none, none, none, none, none, none, none, none, none, none, none, none, none, none, none, none, none, none, none, none, none, none, none] w = law18_ColourGrey.l5 (N + 1) y0 y0n y0c y3 y3n y3c y4 w (fun o0 o0n o0c o3 o3n o3c w => K (.exit 0) [some (Value.slice o0 o0n o0c), none, none, some (Value.slice o3 o3n o3c), none, none, none, none, none, none, none, none, none, none, none, none, none, none, none, none, none, none, none, none, none, none, none, none, none, none, none, none, none, none, none, none, none, none, none, none, none, none, none, none, none, none, none, none, none, none, none, none, none, none, none, none, none, none, none, none, none, none, none, none, none, none, none, none, none, none, none, none, none, none, none, none, none] w) := by
  rw [law18_ColourGrey.les5]
  exact law18_ColourGrey.leG5 @law18_awake.f @colour_Turn.f N y0 y0n y0c y3 y3n y3c y4 w K
theorem law18_ColourGrey.lok5 : LoopOk Try.prog law18_ColourGrey.L law18_ColourGrey.b0 := by
  refine loop_ok tab_ok law18_ColourGrey.C_ok (D := law18_ColourGrey.D) (law18_ColourGrey.hn5) (law18_ColourGrey.hx5) (by kernel_rfl) (by rw [law18_ColourGrey.b0_loops]; exact lnil) ?_ ?_ ?_ ?_
  · intro f w K h
    unfold law18_ColourGrey.hn5 at h
    obtain ⟨hlen, h⟩ := gN_ok h
    obtain ⟨y0, y0n, y0c, h0, h⟩ := gL_ok h
    obtain ⟨y3, y3n, y3c, h3, h⟩ := gL_ok h
    obtain ⟨y4, h4, h⟩ := gI_ok h
    exact h
  · intro N f w K h
    unfold law18_ColourGrey.hn5 at h
    obtain ⟨hlen, h⟩ := gN_ok h
    obtain ⟨y0, y0n, y0c, h0, h⟩ := gL_ok h
    obtain ⟨y3, y3n, y3c, h3, h⟩ := gL_ok h
    obtain ⟨y4, h4, h⟩ := gI_ok h
    refine ⟨[some (Value.slice y0 y0n y0c), none, none, some (Value.slice y3 y3n y3c), some (Value.int .i64 y4), none, none, none, none, none, none, none, none, none, none, none, none, none, none, none, none, none, none, none, none, none, none, none, none, none, none, none, none, none, none, none, none, none, none, none, none, none, none, none, none, none, none, none, none, none, none, none, none, none, none, none, none, none, none, none, none, none, none, none, none, none, none, none, none, none, none, none, none, none, none, none, none], hlen, ⟨h0, h3, h4, trivial⟩, ?_⟩
    rw [law18_ColourGrey.le5]
    exact h
  · intro e f w K h
    cases e with
    | normal => exact h.elim
    | exit i =>
      unfold law18_ColourGrey.hx5 at h
      simp only at h
      split at h
      · rename_i hb
        obtain rfl := Nat.eq_of_beq_eq_true hb
        obtain ⟨hlen, h⟩ := gN_ok h
        obtain ⟨o0, o0n, o0c, h0, h⟩ := gL_ok h
        obtain ⟨o3, o3n, o3c, h3, h⟩ := gL_ok h
        exact ⟨[some (Value.slice o0 o0n o0c), none, none, some (Value.slice o3 o3n o3c), none, none, none, none, none, none, none, none, none, none, none, none, none, none, none, none, none, none, none, none, none, none, none, none, none, none, none, none, none, none, none, none, none, none, none, none, none, none, none, none, none, none, none, none, none, none, none, none, none, none, none, none, none, none, none, none, none, none, none, none, none, none, none, none, none, none, none, none, none, none, none, none, none], hlen, ⟨h0, h3, trivial⟩, h⟩
      · exact (show False from h).elim
    | ret =>
      exact (show False from h).elim
  · intro f w K h
    have e : lid law18_ColourGrey.b0 = 5 := by kernel_rfl
    rw [e] at h
    exact h
theorem law18_ColourGrey.leG12 (F15 : type_of% @law18_awake.f) (F16 : type_of% @colour_Turn.f) (N : Nat) (y0 : Option Addr) (y0n : Nat) (y0c : Nat) (y5 : Option Addr) (y5n : Nat) (y5c : Nat) (y6 : Int) (w : World) (K : AExit → Fr → World → Prop) : awp (law18_ColourGrey.CG F15 F16) law18_ColourGrey.L law18_ColourGrey.D tab law18_ColourGrey.b1 (lpost law18_ColourGrey.hn12 law18_ColourGrey.hx12 N K) [some (Value.slice y0 y0n y0c), none, none, none, none, some (Value.slice y5 y5n y5c), some (Value.int .i64 y6), none, none, none, none, none, none, none, none, none, none, none, none, none, none, none, none, none, none, none, none, none, none, none, none, none, none, none, none, none, none, none, none, none, none, none, none, none, none, none, none, none, none, none, none, none, none, none, none, none, none, none, none, none, none, none, none, none, none, none, none, none, none, none, none, none, none, none, none, none, none] w = law18_ColourGrey.l12G F15 F16 (law18_ColourGrey.l12 N) y0 y0n y0c y5 y5n y5c y6 w (fun w => K (.exit 2) [none, none, none, none, none, none, none, none, none, none, none, none, none, none, none, none, none, none, none, none, none, none, none, none, none, none, none, none, none, none, none, none, none, none, none, none, none, none, none, none, none, none, none, none, none, none, none, none, none, none, none, none, none, none, none, none, none, none, none, none, none, none, none, none, none, none, none, none, none, none, none, none, none, none, none, none, none] w) (fun o2 w => K .ret [none, none, some (Value.bool o2), none, none, none, none, none, none, none, none, none, none, none, none, none, none, none, none, none, none, none, none, none, none, none, none, none, none, none, none, none, none, none, none, none, none, none, none, none, none, none, none, none, none, none, none, none, none, none, none, none, none, none, none, none, none, none, none, none, none, none, none, none, none, none, none, none, none, none, none, none, none, none, none, none, none] w) := by kernel_rfl
theorem law18_ColourGrey.les12 (N : Nat) : law18_ColourGrey.l12 (N + 1) = law18_ColourGrey.l12G @law18_awake.f @colour_Turn.f (law18_ColourGrey.l12 N) := by kernel_rfl
theorem law18_ColourGrey.le12 (N : Nat) (y0 : Option Addr) (y0n : Nat) (y0c : Nat) (y5 : Option Addr) (y5n : Nat) (y5c : Nat) (y6 : Int) (w : World) (K : AExit → Fr → World → Prop) : awp law18_ColourGrey.C law18_ColourGrey.L law18_ColourGrey.D tab law18_ColourGrey.b1 (lpost law18_ColourGrey.hn12 law18_ColourGrey.hx12 N K) [some (Value.slice y0 y0n y0c), none, none, none, none, some (Value.slice y5 y5n y5c), some (Value.int .i64 y6), none, none, none, none, none, none, none, none, none, none, none, none, none, none, none, none, none, none, none, none, none, none, none, none, none, none, none, none, none, none, none, none, none, none, none, none, none, none, none, none, none, none, none, none, none, none, none, none, none, none, none, none, none, none, none, none, none, none, none, none, none, none, none, none, none, none, none, none, none, none] w = law18_ColourGrey.l12 (N + 1) y0 y0n y0c y5 y5n y5c y6 w (fun w => K (.exit 2) [none, none, none, none, none, none, none, none, none, none, none, none, none, none, none, none, none, none, none, none, none, none, none, none, none, none, none, none, none, none, none, none, none, none, none, none, none, none, none, none, none, none, none, none, none, none, none, none, none, none, none, none, none, none, none, none, none, none, none, none, none, none, none, none, none, none, none, none, none, none, none, none, none, none, none, none, none] w) (fun o2 w => K .ret [none, none, some (Value.bool o2), none, none, none, none, none, none, none, none, none, none, none, none, none, none, none, none, none, none, none, none, none, none, none, none, none, none, none, none, none, none, none, none, none, none, none, none, none, none, none, none, none, none, none, none, none, none, none, none, none, none, none, none, none, none, none, none, none, none, none, none, none, none, none, none, none, none, none, none, none, none, none, none, none, none] w) := by
  rw [law18_ColourGrey.les12]
  exact law18_ColourGrey.leG12 @law18_awake.f @colour_Turn.f N y0 y0n y0c y5 y5n y5c y6 w K
theorem law18_ColourGrey.lok12 : LoopOk Try.prog law18_ColourGrey.L law18_ColourGrey.b1 := by
  refine loop_ok tab_ok law18_ColourGrey.C_ok (D := law18_ColourGrey.D) (law18_ColourGrey.hn12) (law18_ColourGrey.hx12) (by kernel_rfl) (by rw [law18_ColourGrey.b1_loops]; exact lnil) ?_ ?_ ?_ ?_
  · intro f w K h
    unfold law18_ColourGrey.hn12 at h
    obtain ⟨hlen, h⟩ := gN_ok h
    obtain ⟨y0, y0n, y0c, h0, h⟩ := gL_ok h
    obtain ⟨y5, y5n, y5c, h5, h⟩ := gL_ok h
    obtain ⟨y6, h6, h⟩ := gI_ok h
    exact h
  · intro N f w K h
    unfold law18_ColourGrey.hn12 at h
    obtain ⟨hlen, h⟩ := gN_ok h
    obtain ⟨y0, y0n, y0c, h0, h⟩ := gL_ok h
    obtain ⟨y5, y5n, y5c, h5, h⟩ := gL_ok h
    obtain ⟨y6, h6, h⟩ := gI_ok h
    refine ⟨[some (Value.slice y0 y0n y0c), none, none, none, none, some (Value.slice y5 y5n y5c), some (Value.int .i64 y6), none, none, none, none, none, none, none, none, none, none, none, none, none, none, none, none, none, none, none, none, none, none, none, none, none, none, none, none, none, none, none, none, none, none, none, none, none, none, none, none, none, none, none, none, none, none, none, none, none, none, none, none, none, none, none, none, none, none, none, none, none, none, none, none, none, none, none, none, none, none], hlen, ⟨h0, h5, h6, trivial⟩, ?_⟩
    rw [law18_ColourGrey.le12]
    exact h
  · intro e f w K h
    cases e with
    | normal => exact h.elim
    | exit i =>
      unfold law18_ColourGrey.hx12 at h
      simp only at h
      split at h
      · rename_i hb
        obtain rfl := Nat.eq_of_beq_eq_true hb
        obtain ⟨hlen, h⟩ := gN_ok h
        exact ⟨[none, none, none, none, none, none, none, none, none, none, none, none, none, none, none, none, none, none, none, none, none, none, none, none, none, none, none, none, none, none, none, none, none, none, none, none, none, none, none, none, none, none, none, none, none, none, none, none, none, none, none, none, none, none, none, none, none, none, none, none, none, none, none, none, none, none, none, none, none, none, none, none, none, none, none, none, none], hlen, trivial, h⟩
      · exact (show False from h).elim
    | ret =>
      unfold law18_ColourGrey.hx12 at h
      simp only at h
      obtain ⟨hlen, h⟩ := gN_ok h
      obtain ⟨o2, h2, h⟩ := gB_ok h
      exact ⟨[none, none, some (Value.bool o2), none, none, none, none, none, none, none, none, none, none, none, none, none, none, none, none, none, none, none, none, none, none, none, none, none, none, none, none, none, none, none, none, none, none, none, none, none, none, none, none, none, none, none, none, none, none, none, none, none, none, none, none, none, none, none, none, none, none, none, none, none, none, none, none, none, none, none, none, none, none, none, none, none, none], hlen, ⟨h2, trivial⟩, h⟩
  · intro f w K h
    have e : lid law18_ColourGrey.b1 = 12 := by kernel_rfl
    rw [e] at h
    exact h
theorem law18_ColourGrey.eqG (F15 : type_of% @law18_awake.f) (F16 : type_of% @colour_Turn.f) (a0 : Option Addr) (a0n : Nat) (a0c : Nat) (w : World) (K : Value → World → Prop) : afn (law18_ColourGrey.CG F15 F16) law18_ColourGrey.L law18_ColourGrey.D tab Try.f3 [(Value.slice a0 a0n a0c)] w K = law18_ColourGrey.G F15 F16 a0 a0n a0c w (fun r0 w => K (Value.bool r0) w) := by kernel_rfl
theorem law18_ColourGrey.eq (a0 : Option Addr) (a0n : Nat) (a0c : Nat) (w : World) (K : Value → World → Prop) : afn law18_ColourGrey.C law18_ColourGrey.L law18_ColourGrey.D tab Try.f3 [(Value.slice a0 a0n a0c)] w K = law18_ColourGrey.f a0 a0n a0c w (fun r0 w => K (Value.bool r0) w) := law18_ColourGrey.eqG @law18_awake.f @colour_Turn.f a0 a0n a0c w K
theorem law18_ColourGrey.ok : FSound Try.prog 3 law18_ColourGrey.h := by
  intro args w K h
  unfold law18_ColourGrey.h law18_ColourGrey.H at h
  split at h
  ·
    replace h := vL_ok h
    obtain ⟨a0, a0n, a0c, rfl, h⟩ := h
    refine ⟨by kernel_rfl, fn_ok tab_ok law18_ColourGrey.C_ok (L := law18_ColourGrey.L) (D := law18_ColourGrey.D) Try.func3 law18_ColourGrey.hb (by kernel_rfl) (by rw [law18_ColourGrey.c_loops]; exact lcons law18_ColourGrey.lok5 (lcons law18_ColourGrey.lok12 (lnil))) (Nat.le_of_ble_eq_true (by kernel_rfl)) ?_⟩
    rw [law18_ColourGrey.eq]
    exact h
  · exact h.elim
end Go.Proofs.Ytmgcjihcbdgihaa.G
