/- Go functions as predicate transformers, written by a program of this session (gen.py), with their soundness. -/
import Derived.Test.YtinmhmphidgdeaaGen3
set_option linter.unusedVariables false
set_option linter.unusedSimpArgs false
set_option maxRecDepth 100000
namespace Go.Proofs.Ytinmhmphidgdeaa.G
open Go Go.Proofs.Ytinmhmphidgdeaa.Vm
/-! ### valise/valiselaw04.CoderEncodes: function 8 -/
def law04_CoderEncodes.l8 : Nat → Option Addr → Nat → Nat → Option Addr → Nat → Nat → Option Addr → Option Addr → Int → Int → World → (Option Addr → Nat → Nat → Option Addr → Option Addr → Int → World → Prop) → Prop
  | 0, _, _, _, _, _, _, _, _, _, _, _, _ => False
  | N + 1, y0, y0n, y0c, y1, y1n, y1c, y5, y6, y7, y8, w, K2 =>
    bif (decide (y8 < ((y0n : Nat) : Int))) then
      bif (decide (y8 < 2000)) then
        sm y0 fun p_21 =>
        if 0 ≤ (y8 : Int) ∧ (y8 : Int) < ((y0n : Nat) : Int) then
        ldI .i64 (p_21.add (Int.toNat y8 * 2)) w.drew fun x37_22 =>
        sm y0 fun p_23 =>
        if 0 ≤ (y8 : Int) ∧ (y8 : Int) < ((y0n : Nat) : Int) then
        ldI .i64 ((p_23.add (Int.toNat y8 * 2)).add 1) w.drew fun x42_24 =>
        coder_Encoder_Encode.f y5 x37_22 x42_24 w.drew fun w =>
        sm y0 fun p_25 =>
        if 0 ≤ (y8 : Int) ∧ (y8 : Int) < ((y0n : Nat) : Int) then
        ldI .i64 (p_25.add (Int.toNat y8 * 2)) w.drew fun x49_26 =>
        sm y0 fun p_27 =>
        if 0 ≤ (y8 : Int) ∧ (y8 : Int) < ((y0n : Nat) : Int) then
        ldI .i64 ((p_27.add (Int.toNat y8 * 2)).add 1) w.drew fun x54_28 =>
        ref04_Encoder_Encode.f y6 x49_26 x54_28 w.drew fun w =>
        let v8_29 := (IntKind.wrap .i64 (y8 + 1))
        law04_CoderEncodes.l8 N y0 y0n y0c y1 y1n y1c y5 y6 y7 v8_29 w K2
        else False
        else False
        else False
        else False
      else
        K2 y1 y1n y1c y5 y6 y7 w
    else
      K2 y1 y1n y1c y5 y6 y7 w

def law04_CoderEncodes.l5 : Nat → Option Addr → Nat → Nat → Option Addr → Nat → Nat → Option Addr → Option Addr → Int → World → (World → Prop) → (Bool → World → Prop) → Prop
  | 0, _, _, _, _, _, _, _, _, _, _, _, _ => False
  | N + 1, y0, y0n, y0c, y1, y1n, y1c, y5, y6, y7, w, K0, Kr =>
    bif (decide (y7 < 2)) then
      ∃ N_30 : Nat, law04_CoderEncodes.l8 N_30 y0 y0n y0c y1 y1n y1c y5 y6 y7 0 w
      (fun o1_31 o1_31n o1_31c o5_32 o6_33 o7_34 w =>
        coder_Encoder_Flush.f o5_32 w fun r57_36 r57_36n r57_36c w =>
        ref04_Encoder_Flush.f o6_33 w fun r60_39 r60_39n r60_39c w =>
        help_Bytes.f r57_36 r57_36n r57_36c r60_39 r60_39n r60_39c w fun r61_40 w =>
        bif (!r61_40) then
          Kr false w
        else
          help_Spoil.f r57_36 r57_36n r57_36c w fun w =>
          let v7_43 := (IntKind.wrap .i64 (o7_34 + 1))
          law04_CoderEncodes.l5 N o1_31 o1_31n o1_31c o1_31 o1_31n o1_31c o5_32 o6_33 v7_43 w K0 Kr)
    else
      K0 w

def law04_CoderEncodes.f (a0 : Option Addr) (a0n : Nat) (a0c : Nat) (a1 : Option Addr) (a1n : Nat) (a1c : Nat) (w : World) (K : Bool → World → Prop) : Prop :=
  coder_NewEncoder.f  w fun r10_3 w =>
  ref04_NewEncoder.f  w fun r11_4 w =>
  law04_awake.f  w fun r12_7 w =>
  bif (!r12_7) then
    K false w
  else
    bif r10_3.isNone then
      K false w
    else
      ∃ N_44 : Nat, law04_CoderEncodes.l5 N_44 a0 a0n a0c a1 a1n a1c r10_3 r11_4 0 w
      (fun w =>
        K true w)
      (fun o4_45 w =>
        K o4_45 w)
def law04_CoderEncodes.H (F : type_of% @law04_CoderEncodes.f) : Hf := fun args w K => match args with
  | [v0, v1] => vL v0 fun a0 a0n a0c => vL v1 fun a1 a1n a1c => F a0 a0n a0c a1 a1n a1c w (fun r0 w => K (Value.bool r0) w)
  | _ => False
def law04_CoderEncodes.h : Hf := law04_CoderEncodes.H @law04_CoderEncodes.f
def law04_CoderEncodes.CG (F23 : type_of% @coder_NewEncoder.f) (F24 : type_of% @ref04_NewEncoder.f) (F25 : type_of% @law04_awake.f) (F26 : type_of% @coder_Encoder_Encode.f) (F27 : type_of% @ref04_Encoder_Encode.f) (F28 : type_of% @coder_Encoder_Flush.f) (F29 : type_of% @ref04_Encoder_Flush.f) (F18 : type_of% @help_Bytes.f) (F30 : type_of% @help_Spoil.f) : Hd := hcons 30 (help_Spoil.H F30) (hcons 18 (help_Bytes.H F18) (hcons 29 (ref04_Encoder_Flush.H F29) (hcons 28 (coder_Encoder_Flush.H F28) (hcons 27 (ref04_Encoder_Encode.H F27) (hcons 26 (coder_Encoder_Encode.H F26) (hcons 25 (law04_awake.H F25) (hcons 24 (ref04_NewEncoder.H F24) (hcons 23 (coder_NewEncoder.H F23) (hnil)))))))))
def law04_CoderEncodes.C : Hd := law04_CoderEncodes.CG @coder_NewEncoder.f @ref04_NewEncoder.f @law04_awake.f @coder_Encoder_Encode.f @ref04_Encoder_Encode.f @coder_Encoder_Flush.f @ref04_Encoder_Flush.f @help_Bytes.f @help_Spoil.f
def law04_CoderEncodes.G (F23 : type_of% @coder_NewEncoder.f) (F24 : type_of% @ref04_NewEncoder.f) (F25 : type_of% @law04_awake.f) (F26 : type_of% @coder_Encoder_Encode.f) (F27 : type_of% @ref04_Encoder_Encode.f) (F28 : type_of% @coder_Encoder_Flush.f) (F29 : type_of% @ref04_Encoder_Flush.f) (F18 : type_of% @help_Bytes.f) (F30 : type_of% @help_Spoil.f) (a0 : Option Addr) (a0n : Nat) (a0c : Nat) (a1 : Option Addr) (a1n : Nat) (a1c : Nat) (w : World) (K : Bool → World → Prop) : Prop :=
  F23  w fun r10_3 w =>
  F24  w fun r11_4 w =>
  F25  w fun r12_7 w =>
  bif (!r12_7) then
    K false w
  else
    bif r10_3.isNone then
      K false w
    else
      ∃ N_44 : Nat, law04_CoderEncodes.l5 N_44 a0 a0n a0c a1 a1n a1c r10_3 r11_4 0 w
      (fun w =>
        K true w)
      (fun o4_45 w =>
        K o4_45 w)
theorem law04_CoderEncodes.C_ok : CSound Try.prog law04_CoderEncodes.C := hcons_ok help_Spoil.ok (hcons_ok help_Bytes.ok (hcons_ok ref04_Encoder_Flush.ok (hcons_ok coder_Encoder_Flush.ok (hcons_ok ref04_Encoder_Encode.ok (hcons_ok coder_Encoder_Encode.ok (hcons_ok law04_awake.ok (hcons_ok ref04_NewEncoder.ok (hcons_ok coder_NewEncoder.ok (hnil_ok)))))))))
def law04_CoderEncodes.D : Nat → Plan := fun i => (match Nat.beq i 11 with | true => .take 0 (.take 1 (.take 2 (.take 3 (.take 4 (.take 5 (.take 6 (.take 7 (.take 8 (.take 9 (.take 10 (.eff 11 (.done)))))))))))) | false => (match Nat.beq i 10 with | true => .take 0 (.take 1 (.take 2 (.take 3 (.take 4 (.take 5 (.take 6 (.take 7 (.take 8 (.take 9 (.take 10 (.eff 11 (.done)))))))))))) | false => .done))
noncomputable def law04_CoderEncodes.c : Code := Try.f8.body.getD .skip
theorem law04_CoderEncodes.hb : Try.f8.body = some law04_CoderEncodes.c := by kernel_rfl
noncomputable def law04_CoderEncodes.b0 : Code := (loopsOf law04_CoderEncodes.c).getD 0 .skip
noncomputable def law04_CoderEncodes.b0_0 : Code := (loopsOf law04_CoderEncodes.b0).getD 0 .skip
theorem law04_CoderEncodes.b0_0_loops : loopsOf law04_CoderEncodes.b0_0 = [] := by kernel_rfl
theorem law04_CoderEncodes.b0_loops : loopsOf law04_CoderEncodes.b0 = [law04_CoderEncodes.b0_0] := by kernel_rfl
theorem law04_CoderEncodes.c_loops : loopsOf law04_CoderEncodes.c = [law04_CoderEncodes.b0] := by kernel_rfl
def law04_CoderEncodes.l8G (F23 : type_of% @coder_NewEncoder.f) (F24 : type_of% @ref04_NewEncoder.f) (F25 : type_of% @law04_awake.f) (F26 : type_of% @coder_Encoder_Encode.f) (F27 : type_of% @ref04_Encoder_Encode.f) (F28 : type_of% @coder_Encoder_Flush.f) (F29 : type_of% @ref04_Encoder_Flush.f) (F18 : type_of% @help_Bytes.f) (F30 : type_of% @help_Spoil.f) (R : Option Addr → Nat → Nat → Option Addr → Nat → Nat → Option Addr → Option Addr → Int → Int → World → (Option Addr → Nat → Nat → Option Addr → Option Addr → Int → World → Prop) → Prop) : Option Addr → Nat → Nat → Option Addr → Nat → Nat → Option Addr → Option Addr → Int → Int → World → (Option Addr → Nat → Nat → Option Addr → Option Addr → Int → World → Prop) → Prop := fun y0 y0n y0c y1 y1n y1c y5 y6 y7 y8 w K2 =>
    bif (decide (y8 < ((y0n : Nat) : Int))) then
      bif (decide (y8 < 2000)) then
        sm y0 fun p_21 =>
        if 0 ≤ (y8 : Int) ∧ (y8 : Int) < ((y0n : Nat) : Int) then
        ldI .i64 (p_21.add (Int.toNat y8 * 2)) w.drew fun x37_22 =>
        sm y0 fun p_23 =>
        if 0 ≤ (y8 : Int) ∧ (y8 : Int) < ((y0n : Nat) : Int) then
        ldI .i64 ((p_23.add (Int.toNat y8 * 2)).add 1) w.drew fun x42_24 =>
        F26 y5 x37_22 x42_24 w.drew fun w =>
        sm y0 fun p_25 =>
        if 0 ≤ (y8 : Int) ∧ (y8 : Int) < ((y0n : Nat) : Int) then
        ldI .i64 (p_25.add (Int.toNat y8 * 2)) w.drew fun x49_26 =>
        sm y0 fun p_27 =>
        if 0 ≤ (y8 : Int) ∧ (y8 : Int) < ((y0n : Nat) : Int) then
        ldI .i64 ((p_27.add (Int.toNat y8 * 2)).add 1) w.drew fun x54_28 =>
        F27 y6 x49_26 x54_28 w.drew fun w =>
        let v8_29 := (IntKind.wrap .i64 (y8 + 1))
        R y0 y0n y0c y1 y1n y1c y5 y6 y7 v8_29 w K2
        else False
        else False
        else False
        else False
      else
        K2 y1 y1n y1c y5 y6 y7 w
    else
      K2 y1 y1n y1c y5 y6 y7 w

def law04_CoderEncodes.l5G (F23 : type_of% @coder_NewEncoder.f) (F24 : type_of% @ref04_NewEncoder.f) (F25 : type_of% @law04_awake.f) (F26 : type_of% @coder_Encoder_Encode.f) (F27 : type_of% @ref04_Encoder_Encode.f) (F28 : type_of% @coder_Encoder_Flush.f) (F29 : type_of% @ref04_Encoder_Flush.f) (F18 : type_of% @help_Bytes.f) (F30 : type_of% @help_Spoil.f) (R : Option Addr → Nat → Nat → Option Addr → Nat → Nat → Option Addr → Option Addr → Int → World → (World → Prop) → (Bool → World → Prop) → Prop) : Option Addr → Nat → Nat → Option Addr → Nat → Nat → Option Addr → Option Addr → Int → World → (World → Prop) → (Bool → World → Prop) → Prop := fun y0 y0n y0c y1 y1n y1c y5 y6 y7 w K0 Kr =>
    bif (decide (y7 < 2)) then
      ∃ N_30 : Nat, law04_CoderEncodes.l8 N_30 y0 y0n y0c y1 y1n y1c y5 y6 y7 0 w
      (fun o1_31 o1_31n o1_31c o5_32 o6_33 o7_34 w =>
        F28 o5_32 w fun r57_36 r57_36n r57_36c w =>
        F29 o6_33 w fun r60_39 r60_39n r60_39c w =>
        F18 r57_36 r57_36n r57_36c r60_39 r60_39n r60_39c w fun r61_40 w =>
        bif (!r61_40) then
          Kr false w
        else
          F30 r57_36 r57_36n r57_36c w fun w =>
          let v7_43 := (IntKind.wrap .i64 (o7_34 + 1))
          R o1_31 o1_31n o1_31c o1_31 o1_31n o1_31c o5_32 o6_33 v7_43 w K0 Kr)
    else
      K0 w

def law04_CoderEncodes.hn8 (N : Nat) (f : Fr) (w : World) (K : AExit → Fr → World → Prop) : Prop :=
  gN f 66 <| gL f 0 fun y0 y0n y0c => gL f 1 fun y1 y1n y1c => gP f 5 fun y5 => gP f 6 fun y6 => gI .i64 f 7 fun y7 => gI .i64 f 8 fun y8 => law04_CoderEncodes.l8 N y0 y0n y0c y1 y1n y1c y5 y6 y7 y8 w (fun o1 o1n o1c o5 o6 o7 w => K (.exit 2) [none, some (Value.slice o1 o1n o1c), none, none, none, some (Value.pointer o5), some (Value.pointer o6), some (Value.int .i64 o7), none, none, none, none, none, none, none, none, none, none, none, none, none, none, none, none, none, none, none, none, none, none, none, none, none, none, none, none, none, none, none, none, none, none, none, none, none, none, none, none, none, none, none, none, none, none, none, none, none, none, none, none, none, none, none, none, none, none] w)
def law04_CoderEncodes.hx8 : AExit → Fr → World → (AExit → Fr → World → Prop) → Prop := fun e f w K => match e with
  | .normal => False
  | .exit i => (match Nat.beq i 2 with | true => gN f 66 <| gL f 1 fun o1 o1n o1c => gP f 5 fun o5 => gP f 6 fun o6 => gI .i64 f 7 fun o7 => K (.exit 2) [none, some (Value.slice o1 o1n o1c), none, none, none, some (Value.pointer o5), some (Value.pointer o6), some (Value.int .i64 o7), none, none, none, none, none, none, none, none, none, none, none, none, none, none, none, none, none, none, none, none, none, none, none, none, none, none, none, none, none, none, none, none, none, none, none, none, none, none, none, none, none, none, none, none, none, none, none, none, none, none, none, none, none, none, none, none, none, none] w | false => False)
  | .ret => False
def law04_CoderEncodes.hn5 (N : Nat) (f : Fr) (w : World) (K : AExit → Fr → World → Prop) : Prop :=
  gN f 66 <| gL f 0 fun y0 y0n y0c => gL f 1 fun y1 y1n y1c => gP f 5 fun y5 => gP f 6 fun y6 => gI .i64 f 7 fun y7 => law04_CoderEncodes.l5 N y0 y0n y0c y1 y1n y1c y5 y6 y7 w (fun w => K (.exit 0) [none, none, none, none, none, none, none, none, none, none, none, none, none, none, none, none, none, none, none, none, none, none, none, none, none, none, none, none, none, none, none, none, none, none, none, none, none, none, none, none, none, none, none, none, none, none, none, none, none, none, none, none, none, none, none, none, none, none, none, none, none, none, none, none, none, none] w) (fun o4 w => K .ret [none, none, none, none, some (Value.bool o4), none, none, none, none, none, none, none, none, none, none, none, none, none, none, none, none, none, none, none, none, none, none, none, none, none, none, none, none, none, none, none, none, none, none, none, none, none, none, none, none, none, none, none, none, none, none, none, none, none, none, none, none, none, none, none, none, none, none, none, none, none] w)
def law04_CoderEncodes.hx5 : AExit → Fr → World → (AExit → Fr → World → Prop) → Prop := fun e f w K => match e with
  | .normal => False
  | .exit i => (match Nat.beq i 0 with | true => gN f 66 <|  K (.exit 0) [none, none, none, none, none, none, none, none, none, none, none, none, none, none, none, none, none, none, none, none, none, none, none, none, none, none, none, none, none, none, none, none, none, none, none, none, none, none, none, none, none, none, none, none, none, none, none, none, none, none, none, none, none, none, none, none, none, none, none, none, none, none, none, none, none, none] w | false => False)
  | .ret => gN f 66 <| gB f 4 fun o4 => K .ret [none, none, none, none, some (Value.bool o4), none, none, none, none, none, none, none, none, none, none, none, none, none, none, none, none, none, none, none, none, none, none, none, none, none, none, none, none, none, none, none, none, none, none, none, none, none, none, none, none, none, none, none, none, none, none, none, none, none, none, none, none, none, none, none, none, none, none, none, none, none] w
def law04_CoderEncodes.L : LHd := fun l f w K => (match Nat.beq l 5 with | true => ∃ N, law04_CoderEncodes.hn5 N f w K | false => (match Nat.beq l 8 with | true => ∃ N, law04_CoderEncodes.hn8 N f w K | false => False))
theorem law04_CoderEncodes.leG8 (F23 : type_of% @coder_NewEncoder.f) (F24 : type_of% @ref04_NewEncoder.f) (F25 : type_of% @law04_awake.f) (F26 : type_of% @coder_Encoder_Encode.f) (F27 : type_of% @ref04_Encoder_Encode.f) (F28 : type_of% @coder_Encoder_Flush.f) (F29 : type_of% @ref04_Encoder_Flush.f) (F18 : type_of% @help_Bytes.f) (F30 : type_of% @help_Spoil.f) (N : Nat) (y0 : Option Addr) (y0n : Nat) (y0c : Nat) (y1 : Option Addr) (y1n : Nat) (y1c : Nat) (y5 : Option Addr) (y6 : Option Addr) (y7 : Int) (y8 : Int) (w : World) (K : AExit → Fr → World → Prop) : awp (law04_CoderEncodes.CG F23 F24 F25 F26 F27 F28 F29 F18 F30) law04_CoderEncodes.L law04_CoderEncodes.D tab law04_CoderEncodes.b0_0 (lpost law04_CoderEncodes.hn8 law04_CoderEncodes.hx8 N K) [some (Value.slice y0 y0n y0c), some (Value.slice y1 y1n y1c), none, none, none, some (Value.pointer y5), some (Value.pointer y6), some (Value.int .i64 y7), some (Value.int .i64 y8), none, none, none, none, none, none, none, none, none, none, none, none, none, none, none, none, none, none, none, none, none, none, none, none, none, none, none, none, none, none, none, none, none, none, none, none, none, none, none, none, none, none, none, none, none, none, none, none, none, none, none, none, none, none, none, none, none] w = law04_CoderEncodes.l8G F23 F24 F25 F26 F27 F28 F29 F18 F30 (law04_CoderEncodes.l8 N) y0 y0n y0c y1 y1n y1c y5 y6 y7 y8 w (fun o1 o1n o1c o5 o6 o7 w => K (.exit 2) [none, some (Value.slice o1 o1n o1c), none, none, none, some (Value.pointer o5), some (Value.pointer o6), some (Value.int .i64 o7), none, none, none, none, none, none, none, none, none, none, none, none, none, none, none, none, none, none, none, none, none, none, none, none, none, none, none, none, none, none, none, none, none, none, none, none, none, none, none, none, none, none, none, none, none, none, none, none, none, none, none, none, none, none, none, none, none, none] w) := by kernel_rfl
theorem law04_CoderEncodes.les8 (N : Nat) : law04_CoderEncodes.l8 (N + 1) = law04_CoderEncodes.l8G @coder_NewEncoder.f @ref04_NewEncoder.f @law04_awake.f @coder_Encoder_Encode.f @ref04_Encoder_Encode.f @coder_Encoder_Flush.f @ref04_Encoder_Flush.f @help_Bytes.f @help_Spoil.f (law04_CoderEncodes.l8 N) := by kernel_rfl
theorem law04_CoderEncodes.le8 (N : Nat) (y0 : Option Addr) (y0n : Nat) (y0c : Nat) (y1 : Option Addr) (y1n : Nat) (y1c : Nat) (y5 : Option Addr) (y6 : Option Addr) (y7 : Int) (y8 : Int) (w : World) (K : AExit → Fr → World → Prop) : awp law04_CoderEncodes.C law04_CoderEncodes.L law04_CoderEncodes.D tab law04_CoderEncodes.b0_0 (lpost law04_CoderEncodes.hn8 law04_CoderEncodes.hx8 N K) [some (Value.slice y0 y0n y0c), some (Value.slice y1 y1n y1c), none, none, none, some (Value.pointer y5), some (Value.pointer y6), some (Value.int .i64 y7), some (Value.int .i64 y8), none, none, none, none, none, none, none, none, none, none, none, none, none, none, none, none, none, none, none, none, none, none, none, none, none, none, none, none, none, none, none, none, none, none, none, none, none, none, none, none, none, none, none, none, none, none, none, none, none, none, none, none, none, none, none, none, none] w = law04_CoderEncodes.l8 (N + 1) y0 y0n y0c y1 y1n y1c y5 y6 y7 y8 w (fun o1 o1n o1c o5 o6 o7 w => K (.exit 2) [none, some (Value.slice o1 o1n o1c), none, none, none, some (Value.pointer o5), some (Value.pointer o6), some (Value.int .i64 o7), none, none, none, none, none, none, none, none, none, none, none, none, none, none, none, none, none, none, none, none, none, none, none, none, none, none, none, none, none, none, none, none, none, none, none, none, none, none, none, none, none, none, none, none, none, none, none, none, none, none, none, none, none, none, none, none, none, none] w) := by
  rw [law04_CoderEncodes.les8]
  exact law04_CoderEncodes.leG8 @coder_NewEncoder.f @ref04_NewEncoder.f @law04_awake.f @coder_Encoder_Encode.f @ref04_Encoder_Encode.f @coder_Encoder_Flush.f @ref04_Encoder_Flush.f @help_Bytes.f @help_Spoil.f N y0 y0n y0c y1 y1n y1c y5 y6 y7 y8 w K
theorem law04_CoderEncodes.lok8 : LoopOk Try.prog law04_CoderEncodes.L law04_CoderEncodes.b0_0 := by
  refine loop_ok tab_ok law04_CoderEncodes.C_ok (D := law04_CoderEncodes.D) (law04_CoderEncodes.hn8) (law04_CoderEncodes.hx8) (by kernel_rfl) (by rw [law04_CoderEncodes.b0_0_loops]; exact lnil) ?_ ?_ ?_ ?_
  · intro f w K h
    unfold law04_CoderEncodes.hn8 at h
    obtain ⟨hlen, h⟩ := gN_ok h
    obtain ⟨y0, y0n, y0c, h0, h⟩ := gL_ok h
    obtain ⟨y1, y1n, y1c, h1, h⟩ := gL_ok h
    obtain ⟨y5, h5, h⟩ := gP_ok h
    obtain ⟨y6, h6, h⟩ := gP_ok h
    obtain ⟨y7, h7, h⟩ := gI_ok h
    obtain ⟨y8, h8, h⟩ := gI_ok h
    exact h
  · intro N f w K h
    unfold law04_CoderEncodes.hn8 at h
    obtain ⟨hlen, h⟩ := gN_ok h
    obtain ⟨y0, y0n, y0c, h0, h⟩ := gL_ok h
    obtain ⟨y1, y1n, y1c, h1, h⟩ := gL_ok h
    obtain ⟨y5, h5, h⟩ := gP_ok h
    obtain ⟨y6, h6, h⟩ := gP_ok h
    obtain ⟨y7, h7, h⟩ := gI_ok h
    obtain ⟨y8, h8, h⟩ := gI_ok h
    refine ⟨[some (Value.slice y0 y0n y0c), some (Value.slice y1 y1n y1c), none, none, none, some (Value.pointer y5), some (Value.pointer y6), some (Value.int .i64 y7), some (Value.int .i64 y8), none, none, none, none, none, none, none, none, none, none, none, none, none, none, none, none, none, none, none, none, none, none, none, none, none, none, none, none, none, none, none, none, none, none, none, none, none, none, none, none, none, none, none, none, none, none, none, none, none, none, none, none, none, none, none, none, none], hlen, ⟨h0, h1, h5, h6, h7, h8, trivial⟩, ?_⟩
    rw [law04_CoderEncodes.le8]
    exact h
  · intro e f w K h
    cases e with
    | normal => exact h.elim
    | exit i =>
      unfold law04_CoderEncodes.hx8 at h
      simp only at h
      split at h
      · rename_i hb
        obtain rfl := Nat.eq_of_beq_eq_true hb
        obtain ⟨hlen, h⟩ := gN_ok h
        obtain ⟨o1, o1n, o1c, h1, h⟩ := gL_ok h
        obtain ⟨o5, h5, h⟩ := gP_ok h
        obtain ⟨o6, h6, h⟩ := gP_ok h
        obtain ⟨o7, h7, h⟩ := gI_ok h
        exact ⟨[none, some (Value.slice o1 o1n o1c), none, none, none, some (Value.pointer o5), some (Value.pointer o6), some (Value.int .i64 o7), none, none, none, none, none, none, none, none, none, none, none, none, none, none, none, none, none, none, none, none, none, none, none, none, none, none, none, none, none, none, none, none, none, none, none, none, none, none, none, none, none, none, none, none, none, none, none, none, none, none, none, none, none, none, none, none, none, none], hlen, ⟨h1, h5, h6, h7, trivial⟩, h⟩
      · exact (show False from h).elim
    | ret =>
      exact (show False from h).elim
  · intro f w K h
    have e : lid law04_CoderEncodes.b0_0 = 8 := by kernel_rfl
    rw [e] at h
    exact h
theorem law04_CoderEncodes.leG5 (F23 : type_of% @coder_NewEncoder.f) (F24 : type_of% @ref04_NewEncoder.f) (F25 : type_of% @law04_awake.f) (F26 : type_of% @coder_Encoder_Encode.f) (F27 : type_of% @ref04_Encoder_Encode.f) (F28 : type_of% @coder_Encoder_Flush.f) (F29 : type_of% @ref04_Encoder_Flush.f) (F18 : type_of% @help_Bytes.f) (F30 : type_of% @help_Spoil.f) (N : Nat) (y0 : Option Addr) (y0n : Nat) (y0c : Nat) (y1 : Option Addr) (y1n : Nat) (y1c : Nat) (y5 : Option Addr) (y6 : Option Addr) (y7 : Int) (w : World) (K : AExit → Fr → World → Prop) : awp (law04_CoderEncodes.CG F23 F24 F25 F26 F27 F28 F29 F18 F30) law04_CoderEncodes.L law04_CoderEncodes.D tab law04_CoderEncodes.b0 (lpost law04_CoderEncodes.hn5 law04_CoderEncodes.hx5 N K) [some (Value.slice y0 y0n y0c), some (Value.slice y1 y1n y1c), none, none, none, some (Value.pointer y5), some (Value.pointer y6), some (Value.int .i64 y7), none, none, none, none, none, none, none, none, none, none, none, none, none, none, none, none, none, none, none, none, none, none, none, none, none, none, none, none, none, none, none, none, none, none, none, none, none, none, none, none, none, none, none, none, none, none, none, none, none, none, none, none, none, none, none, none, none, none] w = law04_CoderEncodes.l5G F23 F24 F25 F26 F27 F28 F29 F18 F30 (law04_CoderEncodes.l5 N) y0 y0n y0c y1 y1n y1c y5 y6 y7 w (fun w => K (.exit 0) [none, none, none, none, none, none, none, none, none, none, none, none, none, none, none, none, none, none, none, none, none, none, none, none, none, none, none, none, none, none, none, none, none, none, none, none, none, none, none, none, none, none, none, none, none, none, none, none, none, none, none, none, none, none, none, none, none, none, none, none, none, none, none, none, none, none] w) (fun o4 w => K .ret [none, none, none, none, some (Value.bool o4), none, none, none, none, none, none, none, none, none, none, none, none, none, none, none, none, none, none, none, none, none, none, none, none, none, none, none, none, none, none, none, none, none, none, none, none, none, none, none, none, none, none, none, none, none, none, none, none, none, none, none, none, none, none, none, none, none, none, none, none, none] w) := by kernel_rfl
theorem law04_CoderEncodes.les5 (N : Nat) : law04_CoderEncodes.l5 (N + 1) = law04_CoderEncodes.l5G @coder_NewEncoder.f @ref04_NewEncoder.f @law04_awake.f @coder_Encoder_Encode.f @ref04_Encoder_Encode.f @coder_Encoder_Flush.f @ref04_Encoder_Flush.f @help_Bytes.f @help_Spoil.f (law04_CoderEncodes.l5 N) := by kernel_rfl
theorem law04_CoderEncodes.le5 (N : Nat) (y0 : Option Addr) (y0n : Nat) (y0c : Nat) (y1 : Option Addr) (y1n : Nat) (y1c : Nat) (y5 : Option Addr) (y6 : Option Addr) (y7 : Int) (w : World) (K : AExit → Fr → World → Prop) : awp law04_CoderEncodes.C law04_CoderEncodes.L law04_CoderEncodes.D tab law04_CoderEncodes.b0 (lpost law04_CoderEncodes.hn5 law04_CoderEncodes.hx5 N K) [some (Value.slice y0 y0n y0c), some (Value.slice y1 y1n y1c), none, none, none, some (Value.pointer y5), some (Value.pointer y6), some (Value.int .i64 y7), none, none, none, none, none, none, none, none, none, none, none, none, none, none, none, none, none, none, none, none, none, none, none, none, none, none, none, none, none, none, none, none, none, none, none, none, none, none, none, none, none, none, none, none, none, none, none, none, none, none, none, none, none, none, none, none, none, none] w = law04_CoderEncodes.l5 (N + 1) y0 y0n y0c y1 y1n y1c y5 y6 y7 w (fun w => K (.exit 0) [none, none, none, none, none, none, none, none, none, none, none, none, none, none, none, none, none, none, none, none, none, none, none, none, none, none, none, none, none, none, none, none, none, none, none, none, none, none, none, none, none, none, none, none, none, none, none, none, none, none, none, none, none, none, none, none, none, none, none, none, none, none, none, none, none, none] w) (fun o4 w => K .ret [none, none, none, none, some (Value.bool o4), none, none, none, none, none, none, none, none, none, none, none, none, none, none, none, none, none, none, none, none, none, none, none, none, none, none, none, none, none, none, none, none, none, none, none, none, none, none, none, none, none, none, none, none, none, none, none, none, none, none, none, none, none, none, none, none, none, none, none, none, none] w) := by
  rw [law04_CoderEncodes.les5]
  exact law04_CoderEncodes.leG5 @coder_NewEncoder.f @ref04_NewEncoder.f @law04_awake.f @coder_Encoder_Encode.f @ref04_Encoder_Encode.f @coder_Encoder_Flush.f @ref04_Encoder_Flush.f @help_Bytes.f @help_Spoil.f N y0 y0n y0c y1 y1n y1c y5 y6 y7 w K
theorem law04_CoderEncodes.lok5 : LoopOk Try.prog law04_CoderEncodes.L law04_CoderEncodes.b0 := by
  refine loop_ok tab_ok law04_CoderEncodes.C_ok (D := law04_CoderEncodes.D) (law04_CoderEncodes.hn5) (law04_CoderEncodes.hx5) (by kernel_rfl) (by rw [law04_CoderEncodes.b0_loops]; exact lcons law04_CoderEncodes.lok8 (lnil)) ?_ ?_ ?_ ?_
  · intro f w K h
    unfold law04_CoderEncodes.hn5 at h
    obtain ⟨hlen, h⟩ := gN_ok h
    obtain ⟨y0, y0n, y0c, h0, h⟩ := gL_ok h
    obtain ⟨y1, y1n, y1c, h1, h⟩ := gL_ok h
    obtain ⟨y5, h5, h⟩ := gP_ok h
    obtain ⟨y6, h6, h⟩ := gP_ok h
    obtain ⟨y7, h7, h⟩ := gI_ok h
    exact h
  · intro N f w K h
    unfold law04_CoderEncodes.hn5 at h
    obtain ⟨hlen, h⟩ := gN_ok h
    obtain ⟨y0, y0n, y0c, h0, h⟩ := gL_ok h
    obtain ⟨y1, y1n, y1c, h1, h⟩ := gL_ok h
    obtain ⟨y5, h5, h⟩ := gP_ok h
    obtain ⟨y6, h6, h⟩ := gP_ok h
    obtain ⟨y7, h7, h⟩ := gI_ok h
    refine ⟨[some (Value.slice y0 y0n y0c), some (Value.slice y1 y1n y1c), none, none, none, some (Value.pointer y5), some (Value.pointer y6), some (Value.int .i64 y7), none, none, none, none, none, none, none, none, none, none, none, none, none, none, none, none, none, none, none, none, none, none, none, none, none, none, none, none, none, none, none, none, none, none, none, none, none, none, none, none, none, none, none, none, none, none, none, none, none, none, none, none, none, none, none, none, none, none], hlen, ⟨h0, h1, h5, h6, h7, trivial⟩, ?_⟩
    rw [law04_CoderEncodes.le5]
    exact h
  · intro e f w K h
    cases e with
    | normal => exact h.elim
    | exit i =>
      unfold law04_CoderEncodes.hx5 at h
      simp only at h
      split at h
      · rename_i hb
        obtain rfl := Nat.eq_of_beq_eq_true hb
        obtain ⟨hlen, h⟩ := gN_ok h
        exact ⟨[none, none, none, none, none, none, none, none, none, none, none, none, none, none, none, none, none, none, none, none, none, none, none, none, none, none, none, none, none, none, none, none, none, none, none, none, none, none, none, none, none, none, none, none, none, none, none, none, none, none, none, none, none, none, none, none, none, none, none, none, none, none, none, none, none, none], hlen, trivial, h⟩
      · exact (show False from h).elim
    | ret =>
      unfold law04_CoderEncodes.hx5 at h
      simp only at h
      obtain ⟨hlen, h⟩ := gN_ok h
      obtain ⟨o4, h4, h⟩ := gB_ok h
      exact ⟨[none, none, none, none, some (Value.bool o4), none, none, none, none, none, none, none, none, none, none, none, none, none, none, none, none, none, none, none, none, none, none, none, none, none, none, none, none, none, none, none, none, none, none, none, none, none, none, none, none, none, none, none, none, none, none, none, none, none, none, none, none, none, none, none, none, none, none, none, none, none], hlen, ⟨h4, trivial⟩, h⟩
  · intro f w K h
    have e : lid law04_CoderEncodes.b0 = 5 := by kernel_rfl
    rw [e] at h
    exact h
theorem law04_CoderEncodes.eqG (F23 : type_of% @coder_NewEncoder.f) (F24 : type_of% @ref04_NewEncoder.f) (F25 : type_of% @law04_awake.f) (F26 : type_of% @coder_Encoder_Encode.f) (F27 : type_of% @ref04_Encoder_Encode.f) (F28 : type_of% @coder_Encoder_Flush.f) (F29 : type_of% @ref04_Encoder_Flush.f) (F18 : type_of% @help_Bytes.f) (F30 : type_of% @help_Spoil.f) (a0 : Option Addr) (a0n : Nat) (a0c : Nat) (a1 : Option Addr) (a1n : Nat) (a1c : Nat) (w : World) (K : Value → World → Prop) : afn (law04_CoderEncodes.CG F23 F24 F25 F26 F27 F28 F29 F18 F30) law04_CoderEncodes.L law04_CoderEncodes.D tab Try.f8 [(Value.slice a0 a0n a0c), (Value.slice a1 a1n a1c)] w K = law04_CoderEncodes.G F23 F24 F25 F26 F27 F28 F29 F18 F30 a0 a0n a0c a1 a1n a1c w (fun r0 w => K (Value.bool r0) w) := by kernel_rfl
theorem law04_CoderEncodes.eq (a0 : Option Addr) (a0n : Nat) (a0c : Nat) (a1 : Option Addr) (a1n : Nat) (a1c : Nat) (w : World) (K : Value → World → Prop) : afn law04_CoderEncodes.C law04_CoderEncodes.L law04_CoderEncodes.D tab Try.f8 [(Value.slice a0 a0n a0c), (Value.slice a1 a1n a1c)] w K = law04_CoderEncodes.f a0 a0n a0c a1 a1n a1c w (fun r0 w => K (Value.bool r0) w) := law04_CoderEncodes.eqG @coder_NewEncoder.f @ref04_NewEncoder.f @law04_awake.f @coder_Encoder_Encode.f @ref04_Encoder_Encode.f @coder_Encoder_Flush.f @ref04_Encoder_Flush.f @help_Bytes.f @help_Spoil.f a0 a0n a0c a1 a1n a1c w K
theorem law04_CoderEncodes.ok : FSound Try.prog 8 law04_CoderEncodes.h := by
  intro args w K h
  unfold law04_CoderEncodes.h law04_CoderEncodes.H at h
  split at h
  ·
    replace h := vL_ok h
    obtain ⟨a0, a0n, a0c, rfl, h⟩ := h
    replace h := vL_ok h
    obtain ⟨a1, a1n, a1c, rfl, h⟩ := h
    refine ⟨by kernel_rfl, fn_ok tab_ok law04_CoderEncodes.C_ok (L := law04_CoderEncodes.L) (D := law04_CoderEncodes.D) Try.func8 law04_CoderEncodes.hb (by kernel_rfl) (by rw [law04_CoderEncodes.c_loops]; exact lcons law04_CoderEncodes.lok5 (lnil)) (Nat.le_of_ble_eq_true (by kernel_rfl)) ?_⟩
    rw [law04_CoderEncodes.eq]
    exact h
  · exact h.elim
end Go.Proofs.Ytinmhmphidgdeaa.G
