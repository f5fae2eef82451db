/- Go functions as predicate transformers, written by a program of this session (gen.py), with their soundness. -/
import Derived.Test.YtdbnobeopgfhgaaGen4
set_option linter.unusedVariables false
set_option linter.unusedSimpArgs false
set_option maxRecDepth 100000
namespace Go.Proofs.Ytdbnobeopgfhgaa.G
open Go Go.Proofs.Ytdbnobeopgfhgaa.Vm
/-! ### valise/valiselaw08.ModelPlays: function 6 -/
def law08_ModelPlays.l11 : Nat → Option Addr → Nat → Nat → Option Addr → Nat → Nat → Option Addr → Option Addr → Int → Int → Int → World → (Option Addr → Nat → Nat → Option Addr → Nat → Nat → Option Addr → Option Addr → Int → World → Prop) → (Bool → World → Prop) → Prop
  | 0, _, _, _, _, _, _, _, _, _, _, _, _, _, _ => False
  | N + 1, y1, y1n, y1c, y2, y2n, y2c, y7, y8, y9, y10, y11, w, K2, Kr =>
    bif (decide (y11 < y10)) then
      model_Model_Chance.f y7 w fun r50_28 w =>
      ref08_Model_Chance.f y8 w fun r52_29 w =>
      bif (r50_28 != r52_29) then
        Kr false w
      else
        let v11_31 := (IntKind.wrap .i64 (y11 + 1))
        law08_ModelPlays.l11 N y1 y1n y1c y2 y2n y2c y7 y8 y9 y10 v11_31 w K2 Kr
    else
      K2 y1 y1n y1c y2 y2n y2c y7 y8 y9 w

def law08_ModelPlays.l5 : Nat → Option Addr → Nat → Nat → Option Addr → Nat → Nat → Option Addr → Option Addr → Int → World → (Option Addr → Option Addr → World → Prop) → (Bool → World → Prop) → Prop
  | 0, _, _, _, _, _, _, _, _, _, _, _, _ => False
  | N + 1, y1, y1n, y1c, y2, y2n, y2c, y7, y8, y9, w, K0, Kr =>
    bif (decide (y9 < ((y1n : Nat) : Int))) then
      bif (decide (y9 < 600)) then
        let J_47 := fun (j10_21 : Int) (w : World) =>
          ((∃ N_32 : Nat, law08_ModelPlays.l11 N_32 y1 y1n y1c y2 y2n y2c y7 y8 y9 j10_21 0 w
          (fun o1_33 o1_33n o1_33c o2_34 o2_34n o2_34c o7_35 o8_36 o9_37 w =>
            let J_46 := fun (j12_44 : Int) (w : World) =>
              ((model_Model_Learn.f o7_35 j12_44 w fun w =>
              ref08_Model_Learn.f o8_36 j12_44 w fun w =>
              let v9_48 := (IntKind.wrap .i64 (o9_37 + 1))
              law08_ModelPlays.l5 N o1_33 o1_33n o1_33c o2_34 o2_34n o2_34c o7_35 o8_36 v9_48 w K0 Kr) : Prop)
            sm o1_33 fun p_42 =>
            if 0 ≤ (o9_37 : Int) ∧ (o9_37 : Int) < ((o1_33n : Nat) : Int) then
            ldB (p_42.add (Int.toNat o9_37)) w fun x57_43 =>
            bif x57_43 then
              J_46 1 w
            else
              J_46 0 w
            else False)
          (fun o6_38 w =>
            Kr o6_38 w)) : Prop)
        bif (decide (y9 < ((y2n : Nat) : Int))) then
          sm y2 fun p_18 =>
          if 0 ≤ (y9 : Int) ∧ (y9 : Int) < ((y2n : Nat) : Int) then
          ldI .i64 (p_18.add (Int.toNat y9)) w fun x40_19 =>
          let v10_20 := (IntKind.wrap .i64 (Int.tmod (IntKind.wrap .u64 x40_19) 3))
          J_47 v10_20 w
          else False
        else
          J_47 1 w
      else
        K0 y7 y8 w
    else
      K0 y7 y8 w

def law08_ModelPlays.f (a0 : Int) (a1 : Option Addr) (a1n : Nat) (a1c : Nat) (a2 : Option Addr) (a2n : Nat) (a2c : Nat) (w : World) (K : Bool → World → Prop) : Prop :=
  model_New.f a0 w fun r14_3 w =>
  ref08_New.f a0 w fun r16_4 w =>
  law08_awake.f  w fun r17_7 w =>
  bif (!r17_7) then
    K false w
  else
    bif r14_3.isNone then
      K false w
    else
      ∃ N_49 : Nat, law08_ModelPlays.l5 N_49 a1 a1n a1c a2 a2n a2c r14_3 r16_4 0 w
      (fun o7_50 o8_51 w =>
        model_Model_Chance.f o7_50 w fun r65_54 w =>
        ref08_Model_Chance.f o8_51 w fun r67_55 w =>
        let v6_56 := (r65_54 == r67_55)
        K v6_56 w)
      (fun o6_52 w =>
        K o6_52 w)
def law08_ModelPlays.H (F : type_of% @law08_ModelPlays.f) : Hf := fun args w K => match args with
  | [v0, v1, v2] => vI .i64 v0 fun a0 => vL v1 fun a1 a1n a1c => vL v2 fun a2 a2n a2c => F a0 a1 a1n a1c a2 a2n a2c w (fun r0 w => K (Value.bool r0) w)
  | _ => False
def law08_ModelPlays.h : Hf := law08_ModelPlays.H @law08_ModelPlays.f
def law08_ModelPlays.CG (F24 : type_of% @model_New.f) (F25 : type_of% @ref08_New.f) (F26 : type_of% @law08_awake.f) (F27 : type_of% @model_Model_Chance.f) (F28 : type_of% @ref08_Model_Chance.f) (F29 : type_of% @model_Model_Learn.f) (F30 : type_of% @ref08_Model_Learn.f) : Hd := hcons 30 (ref08_Model_Learn.H F30) (hcons 29 (model_Model_Learn.H F29) (hcons 28 (ref08_Model_Chance.H F28) (hcons 27 (model_Model_Chance.H F27) (hcons 26 (law08_awake.H F26) (hcons 25 (ref08_New.H F25) (hcons 24 (model_New.H F24) (hnil)))))))
def law08_ModelPlays.C : Hd := law08_ModelPlays.CG @model_New.f @ref08_New.f @law08_awake.f @model_Model_Chance.f @ref08_Model_Chance.f @model_Model_Learn.f @ref08_Model_Learn.f
def law08_ModelPlays.G (F24 : type_of% @model_New.f) (F25 : type_of% @ref08_New.f) (F26 : type_of% @law08_awake.f) (F27 : type_of% @model_Model_Chance.f) (F28 : type_of% @ref08_Model_Chance.f) (F29 : type_of% @model_Model_Learn.f) (F30 : type_of% @ref08_Model_Learn.f) (a0 : Int) (a1 : Option Addr) (a1n : Nat) (a1c : Nat) (a2 : Option Addr) (a2n : Nat) (a2c : Nat) (w : World) (K : Bool → World → Prop) : Prop :=
  F24 a0 w fun r14_3 w =>
  F25 a0 w fun r16_4 w =>
  F26  w fun r17_7 w =>
  bif (!r17_7) then
    K false w
  else
    bif r14_3.isNone then
      K false w
    else
      ∃ N_49 : Nat, law08_ModelPlays.l5 N_49 a1 a1n a1c a2 a2n a2c r14_3 r16_4 0 w
      (fun o7_50 o8_51 w =>
        F27 o7_50 w fun r65_54 w =>
        F28 o8_51 w fun r67_55 w =>
        let v6_56 := (r65_54 == r67_55)
        K v6_56 w)
      (fun o6_52 w =>
        K o6_52 w)
theorem law08_ModelPlays.C_ok : CSound Try.prog law08_ModelPlays.C := hcons_ok ref08_Model_Learn.ok (hcons_ok model_Model_Learn.ok (hcons_ok ref08_Model_Chance.ok (hcons_ok model_Model_Chance.ok (hcons_ok law08_awake.ok (hcons_ok ref08_New.ok (hcons_ok model_New.ok (hnil_ok)))))))
def law08_ModelPlays.D : Nat → Plan := fun i => .done
noncomputable def law08_ModelPlays.c : Code := Try.f6.body.getD .skip
theorem law08_ModelPlays.hb : Try.f6.body = some law08_ModelPlays.c := by kernel_rfl
noncomputable def law08_ModelPlays.b0 : Code := (loopsOf law08_ModelPlays.c).getD 0 .skip
noncomputable def law08_ModelPlays.b0_0 : Code := (loopsOf law08_ModelPlays.b0).getD 0 .skip
theorem law08_ModelPlays.b0_0_loops : loopsOf law08_ModelPlays.b0_0 = [] := by kernel_rfl
theorem law08_ModelPlays.b0_loops : loopsOf law08_ModelPlays.b0 = [law08_ModelPlays.b0_0] := by kernel_rfl
theorem law08_ModelPlays.c_loops : loopsOf law08_ModelPlays.c = [law08_ModelPlays.b0] := by kernel_rfl
def law08_ModelPlays.l11G (F24 : type_of% @model_New.f) (F25 : type_of% @ref08_New.f) (F26 : type_of% @law08_awake.f) (F27 : type_of% @model_Model_Chance.f) (F28 : type_of% @ref08_Model_Chance.f) (F29 : type_of% @model_Model_Learn.f) (F30 : type_of% @ref08_Model_Learn.f) (R : Option Addr → Nat → Nat → Option Addr → Nat → Nat → Option Addr → Option Addr → Int → Int → Int → World → (Option Addr → Nat → Nat → Option Addr → Nat → Nat → Option Addr → Option Addr → Int → World → Prop) → (Bool → World → Prop) → Prop) : Option Addr → Nat → Nat → Option Addr → Nat → Nat → Option Addr → Option Addr → Int → Int → Int → World → (Option Addr → Nat → Nat → Option Addr → Nat → Nat → Option Addr → Option Addr → Int → World → Prop) → (Bool → World → Prop) → Prop := fun y1 y1n y1c y2 y2n y2c y7 y8 y9 y10 y11 w K2 Kr =>
    bif (decide (y11 < y10)) then
      F27 y7 w fun r50_28 w =>
      F28 y8 w fun r52_29 w =>
      bif (r50_28 != r52_29) then
        Kr false w
      else
        let v11_31 := (IntKind.wrap .i64 (y11 + 1))
        R y1 y1n y1c y2 y2n y2c y7 y8 y9 y10 v11_31 w K2 Kr
    else
      K2 y1 y1n y1c y2 y2n y2c y7 y8 y9 w

def law08_ModelPlays.l5G (F24 : type_of% @model_New.f) (F25 : type_of% @ref08_New.f) (F26 : type_of% @law08_awake.f) (F27 : type_of% @model_Model_Chance.f) (F28 : type_of% @ref08_Model_Chance.f) (F29 : type_of% @model_Model_Learn.f) (F30 : type_of% @ref08_Model_Learn.f) (R : Option Addr → Nat → Nat → Option Addr → Nat → Nat → Option Addr → Option Addr → Int → World → (Option Addr → Option Addr → World → Prop) → (Bool → World → Prop) → Prop) : Option Addr → Nat → Nat → Option Addr → Nat → Nat → Option Addr → Option Addr → Int → World → (Option Addr → Option Addr → World → Prop) → (Bool → World → Prop) → Prop := fun y1 y1n y1c y2 y2n y2c y7 y8 y9 w K0 Kr =>
    bif (decide (y9 < ((y1n : Nat) : Int))) then
      bif (decide (y9 < 600)) then
        let J_47 := fun (j10_21 : Int) (w : World) =>
          ((∃ N_32 : Nat, law08_ModelPlays.l11 N_32 y1 y1n y1c y2 y2n y2c y7 y8 y9 j10_21 0 w
          (fun o1_33 o1_33n o1_33c o2_34 o2_34n o2_34c o7_35 o8_36 o9_37 w =>
            let J_46 := fun (j12_44 : Int) (w : World) =>
              ((F29 o7_35 j12_44 w fun w =>
              F30 o8_36 j12_44 w fun w =>
              let v9_48 := (IntKind.wrap .i64 (o9_37 + 1))
              R o1_33 o1_33n o1_33c o2_34 o2_34n o2_34c o7_35 o8_36 v9_48 w K0 Kr) : Prop)
            sm o1_33 fun p_42 =>
            if 0 ≤ (o9_37 : Int) ∧ (o9_37 : Int) < ((o1_33n : Nat) : Int) then
            ldB (p_42.add (Int.toNat o9_37)) w fun x57_43 =>
            bif x57_43 then
              J_46 1 w
            else
              J_46 0 w
            else False)
          (fun o6_38 w =>
            Kr o6_38 w)) : Prop)
        bif (decide (y9 < ((y2n : Nat) : Int))) then
          sm y2 fun p_18 =>
          if 0 ≤ (y9 : Int) ∧ (y9 : Int) < ((y2n : Nat) : Int) then
          ldI .i64 (p_18.add (Int.toNat y9)) w fun x40_19 =>
          let v10_20 := (IntKind.wrap .i64 (Int.tmod (IntKind.wrap .u64 x40_19) 3))
          J_47 v10_20 w
          else False
        else
          J_47 1 w
      else
        K0 y7 y8 w
    else
      K0 y7 y8 w

def law08_ModelPlays.hn11 (N : Nat) (f : Fr) (w : World) (K : AExit → Fr → World → Prop) : Prop :=
  gN f 69 <| gL f 1 fun y1 y1n y1c => gL f 2 fun y2 y2n y2c => gP f 7 fun y7 => gP f 8 fun y8 => gI .i64 f 9 fun y9 => gI .i64 f 10 fun y10 => gI .i64 f 11 fun y11 => law08_ModelPlays.l11 N y1 y1n y1c y2 y2n y2c y7 y8 y9 y10 y11 w (fun o1 o1n o1c o2 o2n o2c o7 o8 o9 w => K (.exit 2) [none, some (Value.slice o1 o1n o1c), some (Value.slice o2 o2n o2c), none, none, none, none, some (Value.pointer o7), some (Value.pointer o8), some (Value.int .i64 o9), none, none, none, none, none, none, none, none, none, none, none, none, none, none, none, none, none, none, none, none, none, none, none, none, none, none, none, none, none, none, none, none, none, none, none, none, none, none, none, none, none, none, none, none, none, none, none, none, none, none, none, none, none, none, none, none, none, none, none] w) (fun o6 w => K .ret [none, none, none, none, none, none, some (Value.bool o6), none, none, none, none, none, none, none, none, none, none, none, none, none, none, none, none, none, none, none, none, none, none, none, none, none, none, none, none, none, none, none, none, none, none, none, none, none, none, none, none, none, none, none, none, none, none, none, none, none, none, none, none, none, none, none, none, none, none, none, none, none, none] w)
def law08_ModelPlays.hx11 : AExit → Fr → World → (AExit → Fr → World → Prop) → Prop := fun e f w K => match e with
  | .normal => False
  | .exit i => (match Nat.beq i 2 with | true => gN f 69 <| gL f 1 fun o1 o1n o1c => gL f 2 fun o2 o2n o2c => gP f 7 fun o7 => gP f 8 fun o8 => gI .i64 f 9 fun o9 => K (.exit 2) [none, some (Value.slice o1 o1n o1c), some (Value.slice o2 o2n o2c), none, none, none, none, some (Value.pointer o7), some (Value.pointer o8), some (Value.int .i64 o9), none, none, none, none, none, none, none, none, none, none, none, none, none, none, none, none, none, none, none, none, none, none, none, none, none, none, none, none, none, none, none, none, none, none, none, none, none, none, none, none, none, none, none, none, none, none, none, none, none, none, none, none, none, none, none, none, none, none, none] w | false => False)
  | .ret => gN f 69 <| gB f 6 fun o6 => K .ret [none, none, none, none, none, none, some (Value.bool o6), none, none, none, none, none, none, none, none, none, none, none, none, none, none, none, none, none, none, none, none, none, none, none, none, none, none, none, none, none, none, none, none, none, none, none, none, none, none, none, none, none, none, none, none, none, none, none, none, none, none, none, none, none, none, none, none, none, none, none, none, none, none] w
def law08_ModelPlays.hn5 (N : Nat) (f : Fr) (w : World) (K : AExit → Fr → World → Prop) : Prop :=
  gN f 69 <| gL f 1 fun y1 y1n y1c => gL f 2 fun y2 y2n y2c => gP f 7 fun y7 => gP f 8 fun y8 => gI .i64 f 9 fun y9 => law08_ModelPlays.l5 N y1 y1n y1c y2 y2n y2c y7 y8 y9 w (fun o7 o8 w => K (.exit 0) [none, none, none, none, none, none, none, some (Value.pointer o7), some (Value.pointer o8), none, none, none, none, none, none, none, none, none, none, none, none, none, none, none, none, none, none, none, none, none, none, none, none, none, none, none, none, none, none, none, none, none, none, none, none, none, none, none, none, none, none, none, none, none, none, none, none, none, none, none, none, none, none, none, none, none, none, none, none] w) (fun o6 w => K .ret [none, none, none, none, none, none, some (Value.bool o6), none, none, none, none, none, none, none, none, none, none, none, none, none, none, none, none, none, none, none, none, none, none, none, none, none, none, none, none, none, none, none, none, none, none, none, none, none, none, none, none, none, none, none, none, none, none, none, none, none, none, none, none, none, none, none, none, none, none, none, none, none, none] w)
def law08_ModelPlays.hx5 : AExit → Fr → World → (AExit → Fr → World → Prop) → Prop := fun e f w K => match e with
  | .normal => False
  | .exit i => (match Nat.beq i 0 with | true => gN f 69 <| gP f 7 fun o7 => gP f 8 fun o8 => K (.exit 0) [none, none, none, none, none, none, none, some (Value.pointer o7), some (Value.pointer o8), none, none, none, none, none, none, none, none, none, none, none, none, none, none, none, none, none, none, none, none, none, none, none, none, none, none, none, none, none, none, none, none, none, none, none, none, none, none, none, none, none, none, none, none, none, none, none, none, none, none, none, none, none, none, none, none, none, none, none, none] w | false => False)
  | .ret => gN f 69 <| gB f 6 fun o6 => K .ret [none, none, none, none, none, none, some (Value.bool o6), none, none, none, none, none, none, none, none, none, none, none, none, none, none, none, none, none, none, none, none, none, none, none, none, none, none, none, none, none, none, none, none, none, none, none, none, none, none, none, none, none, none, none, none, none, none, none, none, none, none, none, none, none, none, none, none, none, none, none, none, none, none] w
def law08_ModelPlays.L : LHd := fun l f w K => (match Nat.beq l 5 with | true => ∃ N, law08_ModelPlays.hn5 N f w K | false => (match Nat.beq l 11 with | true => ∃ N, law08_ModelPlays.hn11 N f w K | false => False))
theorem law08_ModelPlays.leG11 (F24 : type_of% @model_New.f) (F25 : type_of% @ref08_New.f) (F26 : type_of% @law08_awake.f) (F27 : type_of% @model_Model_Chance.f) (F28 : type_of% @ref08_Model_Chance.f) (F29 : type_of% @model_Model_Learn.f) (F30 : type_of% @ref08_Model_Learn.f) (N : Nat) (y1 : Option Addr) (y1n : Nat) (y1c : Nat) (y2 : Option Addr) (y2n : Nat) (y2c : Nat) (y7 : Option Addr) (y8 : Option Addr) (y9 : Int) (y10 : Int) (y11 : Int) (w : World) (K : AExit → Fr → World → Prop) : awp (law08_ModelPlays.CG F24 F25 F26 F27 F28 F29 F30) law08_ModelPlays.L law08_ModelPlays.D tab law08_ModelPlays.b0_0 (lpost law08_ModelPlays.hn11 law08_ModelPlays.hx11 N K) [none, some (Value.slice y1 y1n y1c), some (Value.slice y2 y2n y2c), none, none, none, none, some (Value.pointer y7), some (Value.pointer y8), some (Value.int .i64 y9), some (Value.int .i64 y10), some (Value.int .i64 y11), none, none, none, none, none, none, none, none, none, none, none, none, none, none, none, none, none, none, none, none, none, none, none, none, none, none, none, none, none, none, none, none, none, none, none, none, none, none, none, none, none, none, none, none, none, none, none, none, none, none, none, none, none, none, none, none, none] w = law08_ModelPlays.l11G F24 F25 F26 F27 F28 F29 F30 (law08_ModelPlays.l11 N) y1 y1n y1c y2 y2n y2c y7 y8 y9 y10 y11 w (fun o1 o1n o1c o2 o2n o2c o7 o8 o9 w => K (.exit 2) [none, some (Value.slice o1 o1n o1c), some (Value.slice o2 o2n o2c), none, none, none, none, some (Value.pointer o7), some (Value.pointer o8), some (Value.int .i64 o9), none, none, none, none, none, none, none, none, none, none, none, none, none, none, none, none, none, none, none, none, none, none, none, none, none, none, none, none, none, none, none, none, none, none, none, none, none, none, none, none, none, none, none, none, none, none, none, none, none, none, none, none, none, none, none, none, none, none, none] w) (fun o6 w => K .ret [none, none, none, none, none, none, some (Value.bool o6), none, none, none, none, none, none, none, none, none, none, none, none, none, none, none, none, none, none, none, none, none, none, none, none, none, none, none, none, none, none, none, none, none, none, none, none, none, none, none, none, none, none, none, none, none, none, none, none, none, none, none, none, none, none, none, none, none, none, none, none, none, none] w) := by kernel_rfl
theorem law08_ModelPlays.les11 (N : Nat) : law08_ModelPlays.l11 (N + 1) = law08_ModelPlays.l11G @model_New.f @ref08_New.f @law08_awake.f @model_Model_Chance.f @ref08_Model_Chance.f @model_Model_Learn.f @ref08_Model_Learn.f (law08_ModelPlays.l11 N) := by kernel_rfl
theorem law08_ModelPlays.le11 (N : Nat) (y1 : Option Addr) (y1n : Nat) (y1c : Nat) (y2 : Option Addr) (y2n : Nat) (y2c : Nat) (y7 : Option Addr) (y8 : Option Addr) (y9 : Int) (y10 : Int) (y11 : Int) (w : World) (K : AExit → Fr → World → Prop) : awp law08_ModelPlays.C law08_ModelPlays.L law08_ModelPlays.D tab law08_ModelPlays.b0_0 (lpost law08_ModelPlays.hn11 law08_ModelPlays.hx11 N K) [none, some (Value.slice y1 y1n y1c), some (Value.slice y2 y2n y2c), none, none, none, none, some (Value.pointer y7), some (Value.pointer y8), some (Value.int .i64 y9), some (Value.int .i64 y10), some (Value.int .i64 y11), none, none, none, none, none, none, none, none, none, none, none, none, none, none, none, none, none, none, none, none, none, none, none, none, none, none, none, none, none, none, none, none, none, none, none, none, none, none, none, none, none, none, none, none, none, none, none, none, none, none, none, none, none, none, none, none, none] w = law08_ModelPlays.l11 (N + 1) y1 y1n y1c y2 y2n y2c y7 y8 y9 y10 y11 w (fun o1 o1n o1c o2 o2n o2c o7 o8 o9 w => K (.exit 2) [none, some (Value.slice o1 o1n o1c), some (Value.slice o2 o2n o2c), none, none, none, none, some (Value.pointer o7), some (Value.pointer o8), some (Value.int .i64 o9), none, none, none, none, none, none, none, none, none, none, none, none, none, none, none, none, none, none, none, none, none, none, none, none, none, none, none, none, none, none, none, none, none, none, none, none, none, none, none, none, none, none, none, none, none, none, none, none, none, none, none, none, none, none, none, none, none, none, none] w) (fun o6 w => K .ret [none, none, none, none, none, none, some (Value.bool o6), none, none, none, none, none, none, none, none, none, none, none, none, none, none, none, none, none, none, none, none, none, none, none, none, none, none, none, none, none, none, none, none, none, none, none, none, none, none, none, none, none, none, none, none, none, none, none, none, none, none, none, none, none, none, none, none, none, none, none, none, none, none] w) := by
  rw [law08_ModelPlays.les11]
  exact law08_ModelPlays.leG11 @model_New.f @ref08_New.f @law08_awake.f @model_Model_Chance.f @ref08_Model_Chance.f @model_Model_Learn.f @ref08_Model_Learn.f N y1 y1n y1c y2 y2n y2c y7 y8 y9 y10 y11 w K
theorem law08_ModelPlays.lok11 : LoopOk Try.prog law08_ModelPlays.L law08_ModelPlays.b0_0 := by
  refine loop_ok tab_ok law08_ModelPlays.C_ok (D := law08_ModelPlays.D) (law08_ModelPlays.hn11) (law08_ModelPlays.hx11) (by kernel_rfl) (by rw [law08_ModelPlays.b0_0_loops]; exact lnil) ?_ ?_ ?_ ?_
  · intro f w K h
    unfold law08_ModelPlays.hn11 at h
    obtain ⟨hlen, h⟩ := gN_ok h
    obtain ⟨y1, y1n, y1c, h1, h⟩ := gL_ok h
    obtain ⟨y2, y2n, y2c, h2, h⟩ := gL_ok h
    obtain ⟨y7, h7, h⟩ := gP_ok h
    obtain ⟨y8, h8, h⟩ := gP_ok h
    obtain ⟨y9, h9, h⟩ := gI_ok h
    obtain ⟨y10, h10, h⟩ := gI_ok h
    obtain ⟨y11, h11, h⟩ := gI_ok h
    exact h
  · intro N f w K h
    unfold law08_ModelPlays.hn11 at h
    obtain ⟨hlen, h⟩ := gN_ok h
    obtain ⟨y1, y1n, y1c, h1, h⟩ := gL_ok h
    obtain ⟨y2, y2n, y2c, h2, h⟩ := gL_ok h
    obtain ⟨y7, h7, h⟩ := gP_ok h
    obtain ⟨y8, h8, h⟩ := gP_ok h
    obtain ⟨y9, h9, h⟩ := gI_ok h
    obtain ⟨y10, h10, h⟩ := gI_ok h
    obtain ⟨y11, h11, h⟩ := gI_ok h
    refine ⟨[none, some (Value.slice y1 y1n y1c), some (Value.slice y2 y2n y2c), none, none, none, none, some (Value.pointer y7), some (Value.pointer y8), some (Value.int .i64 y9), some (Value.int .i64 y10), some (Value.int .i64 y11), none, none, none, none, none, none, none, none, none, none, none, none, none, none, none, none, none, none, none, none, none, none, none, none, none, none, none, none, none, none, none, none, none, none, none, none, none, none, none, none, none, none, none, none, none, none, none, none, none, none, none, none, none, none, none, none, none], hlen, ⟨h1, h2, h7, h8, h9, h10, h11, trivial⟩, ?_⟩
    rw [law08_ModelPlays.le11]
    exact h
  · intro e f w K h
    cases e with
    | normal => exact h.elim
    | exit i =>
      unfold law08_ModelPlays.hx11 at h
      simp only at h
      split at h
      · rename_i hb
        obtain rfl := Nat.eq_of_beq_eq_true hb
        obtain ⟨hlen, h⟩ := gN_ok h
        obtain ⟨o1, o1n, o1c, h1, h⟩ := gL_ok h
        obtain ⟨o2, o2n, o2c, h2, h⟩ := gL_ok h
        obtain ⟨o7, h7, h⟩ := gP_ok h
        obtain ⟨o8, h8, h⟩ := gP_ok h
        obtain ⟨o9, h9, h⟩ := gI_ok h
        exact ⟨[none, some (Value.slice o1 o1n o1c), some (Value.slice o2 o2n o2c), none, none, none, none, some (Value.pointer o7), some (Value.pointer o8), some (Value.int .i64 o9), none, none, none, none, none, none, none, none, none, none, none, none, none, none, none, none, none, none, none, none, none, none, none, none, none, none, none, none, none, none, none, none, none, none, none, none, none, none, none, none, none, none, none, none, none, none, none, none, none, none, none, none, none, none, none, none, none, none, none], hlen, ⟨h1, h2, h7, h8, h9, trivial⟩, h⟩
      · exact (show False from h).elim
    | ret =>
      unfold law08_ModelPlays.hx11 at h
      simp only at h
      obtain ⟨hlen, h⟩ := gN_ok h
      obtain ⟨o6, h6, h⟩ := gB_ok h
      exact ⟨[none, none, none, none, none, none, some (Value.bool o6), none, none, none, none, none, none, none, none, none, none, none, none, none, none, none, none, none, none, none, none, none, none, none, none, none, none, none, none, none, none, none, none, none, none, none, none, none, none, none, none, none, none, none, none, none, none, none, none, none, none, none, none, none, none, none, none, none, none, none, none, none, none], hlen, ⟨h6, trivial⟩, h⟩
  · intro f w K h
    have e : lid law08_ModelPlays.b0_0 = 11 := by kernel_rfl
    rw [e] at h
    exact h
theorem law08_ModelPlays.leG5 (F24 : type_of% @model_New.f) (F25 : type_of% @ref08_New.f) (F26 : type_of% @law08_awake.f) (F27 : type_of% @model_Model_Chance.f) (F28 : type_of% @ref08_Model_Chance.f) (F29 : type_of% @model_Model_Learn.f) (F30 : type_of% @ref08_Model_Learn.f) (N : Nat) (y1 : Option Addr) (y1n : Nat) (y1c : Nat) (y2 : Option Addr) (y2n : Nat) (y2c : Nat) (y7 : Option Addr) (y8 : Option Addr) (y9 : Int) (w : World) (K : AExit → Fr → World → Prop) : awp (law08_ModelPlays.CG F24 F25 F26 F27 F28 F29 F30) law08_ModelPlays.L law08_ModelPlays.D tab law08_ModelPlays.b0 (lpost law08_ModelPlays.hn5 law08_ModelPlays.hx5 N K) [none, some (Value.slice y1 y1n y1c), some (Value.slice y2 y2n y2c), none, none, none, none, some (Value.pointer y7), some (Value.pointer y8), some (Value.int .i64 y9), none, none, none, none, none, none, none, none, none, none, none, none, none, none, none, none, none, none, none, none, none, none, none, none, none, none, none, none, none, none, none, none, none, none, none, none, none, none, none, none, none, none, none, none, none, none, none, none, none, none, none, none, none, none, none, none, none, none, none] w = law08_ModelPlays.l5G F24 F25 F26 F27 F28 F29 F30 (law08_ModelPlays.l5 N) y1 y1n y1c y2 y2n y2c y7 y8 y9 w (fun o7 o8 w => K (.exit 0) [none, none, none, none, none, none, none, some (Value.pointer o7), some (Value.pointer o8), none, none, none, none, none, none, none, none, none, none, none, none, none, none, none, none, none, none, none, none, none, none, none, none, none, none, none, none, none, none, none, none, none, none, none, none, none, none, none, none, none, none, none, none, none, none, none, none, none, none, none, none, none, none, none, none, none, none, none, none] w) (fun o6 w => K .ret [none, none, none, none, none, none, some (Value.bool o6), none, none, none, none, none, none, none, none, none, none, none, none, none, none, none, none, none, none, none, none, none, none, none, none, none, none, none, none, none, none, none, none, none, none, none, none, none, none, none, none, none, none, none, none, none, none, none, none, none, none, none, none, none, none, none, none, none, none, none, none, none, none] w) := by kernel_rfl
theorem law08_ModelPlays.les5 (N : Nat) : law08_ModelPlays.l5 (N + 1) = law08_ModelPlays.l5G @model_New.f @ref08_New.f @law08_awake.f @model_Model_Chance.f @ref08_Model_Chance.f @model_Model_Learn.f @ref08_Model_Learn.f (law08_ModelPlays.l5 N) := by kernel_rfl
theorem law08_ModelPlays.le5 (N : Nat) (y1 : Option Addr) (y1n : Nat) (y1c : Nat) (y2 : Option Addr) (y2n : Nat) (y2c : Nat) (y7 : Option Addr) (y8 : Option Addr) (y9 : Int) (w : World) (K : AExit → Fr → World → Prop) : awp law08_ModelPlays.C law08_ModelPlays.L law08_ModelPlays.D tab law08_ModelPlays.b0 (lpost law08_ModelPlays.hn5 law08_ModelPlays.hx5 N K) [none, some (Value.slice y1 y1n y1c), some (Value.slice y2 y2n y2c), none, none, none, none, some (Value.pointer y7), some (Value.pointer y8), some (Value.int .i64 y9), none, none, none, none, none, none, none, none, none, none, none, none, none, none, none, none, none, none, none, none, none, none, none, none, none, none, none, none, none, none, none, none, none, none, none, none, none, none, none, none, none, none, none, none, none, none, none, none, none, none, none, none, none, none, none, none, none, none, none] w = law08_ModelPlays.l5 (N + 1) y1 y1n y1c y2 y2n y2c y7 y8 y9 w (fun o7 o8 w => K (.exit 0) [none, none, none, none, none, none, none, some (Value.pointer o7), some (Value.pointer o8), none, none, none, none, none, none, none, none, none, none, none, none, none, none, none, none, none, none, none, none, none, none, none, none, none, none, none, none, none, none, none, none, none, none, none, none, none, none, none, none, none, none, none, none, none, none, none, none, none, none, none, none, none, none, none, none, none, none, none, none] w) (fun o6 w => K .ret [none, none, none, none, none, none, some (Value.bool o6), none, none, none, none, none, none, none, none, none, none, none, none, none, none, none, none, none, none, none, none, none, none, none, none, none, none, none, none, none, none, none, none, none, none, none, none, none, none, none, none, none, none, none, none, none, none, none, none, none, none, none, none, none, none, none, none, none, none, none, none, none, none] w) := by
  rw [law08_ModelPlays.les5]
  exact law08_ModelPlays.leG5 @model_New.f @ref08_New.f @law08_awake.f @model_Model_Chance.f @ref08_Model_Chance.f @model_Model_Learn.f @ref08_Model_Learn.f N y1 y1n y1c y2 y2n y2c y7 y8 y9 w K
theorem law08_ModelPlays.lok5 : LoopOk Try.prog law08_ModelPlays.L law08_ModelPlays.b0 := by
  refine loop_ok tab_ok law08_ModelPlays.C_ok (D := law08_ModelPlays.D) (law08_ModelPlays.hn5) (law08_ModelPlays.hx5) (by kernel_rfl) (by rw [law08_ModelPlays.b0_loops]; exact lcons law08_ModelPlays.lok11 (lnil)) ?_ ?_ ?_ ?_
  · intro f w K h
    unfold law08_ModelPlays.hn5 at h
    obtain ⟨hlen, h⟩ := gN_ok h
    obtain ⟨y1, y1n, y1c, h1, h⟩ := gL_ok h
    obtain ⟨y2, y2n, y2c, h2, h⟩ := gL_ok h
    obtain ⟨y7, h7, h⟩ := gP_ok h
    obtain ⟨y8, h8, h⟩ := gP_ok h
    obtain ⟨y9, h9, h⟩ := gI_ok h
    exact h
  · intro N f w K h
    unfold law08_ModelPlays.hn5 at h
    obtain ⟨hlen, h⟩ := gN_ok h
    obtain ⟨y1, y1n, y1c, h1, h⟩ := gL_ok h
    obtain ⟨y2, y2n, y2c, h2, h⟩ := gL_ok h
    obtain ⟨y7, h7, h⟩ := gP_ok h
    obtain ⟨y8, h8, h⟩ := gP_ok h
    obtain ⟨y9, h9, h⟩ := gI_ok h
    refine ⟨[none, some (Value.slice y1 y1n y1c), some (Value.slice y2 y2n y2c), none, none, none, none, some (Value.pointer y7), some (Value.pointer y8), some (Value.int .i64 y9), none, none, none, none, none, none, none, none, none, none, none, none, none, none, none, none, none, none, none, none, none, none, none, none, none, none, none, none, none, none, none, none, none, none, none, none, none, none, none, none, none, none, none, none, none, none, none, none, none, none, none, none, none, none, none, none, none, none, none], hlen, ⟨h1, h2, h7, h8, h9, trivial⟩, ?_⟩
    rw [law08_ModelPlays.le5]
    exact h
  · intro e f w K h
    cases e with
    | normal => exact h.elim
    | exit i =>
      unfold law08_ModelPlays.hx5 at h
      simp only at h
      split at h
      · rename_i hb
        obtain rfl := Nat.eq_of_beq_eq_true hb
        obtain ⟨hlen, h⟩ := gN_ok h
        obtain ⟨o7, h7, h⟩ := gP_ok h
        obtain ⟨o8, h8, h⟩ := gP_ok h
        exact ⟨[none, none, none, none, none, none, none, some (Value.pointer o7), some (Value.pointer o8), none, none, none, none, none, none, none, none, none, none, none, none, none, none, none, none, none, none, none, none, none, none, none, none, none, none, none, none, none, none, none, none, none, none, none, none, none, none, none, none, none, none, none, none, none, none, none, none, none, none, none, none, none, none, none, none, none, none, none, none], hlen, ⟨h7, h8, trivial⟩, h⟩
      · exact (show False from h).elim
    | ret =>
      unfold law08_ModelPlays.hx5 at h
      simp only at h
      obtain ⟨hlen, h⟩ := gN_ok h
      obtain ⟨o6, h6, h⟩ := gB_ok h
      exact ⟨[none, none, none, none, none, none, some (Value.bool o6), none, none, none, none, none, none, none, none, none, none, none, none, none, none, none, none, none, none, none, none, none, none, none, none, none, none, none, none, none, none, none, none, none, none, none, none, none, none, none, none, none, none, none, none, none, none, none, none, none, none, none, none, none, none, none, none, none, none, none, none, none, none], hlen, ⟨h6, trivial⟩, h⟩
  · intro f w K h
    have e : lid law08_ModelPlays.b0 = 5 := by kernel_rfl
    rw [e] at h
    exact h
theorem law08_ModelPlays.eqG (F24 : type_of% @model_New.f) (F25 : type_of% @ref08_New.f) (F26 : type_of% @law08_awake.f) (F27 : type_of% @model_Model_Chance.f) (F28 : type_of% @ref08_Model_Chance.f) (F29 : type_of% @model_Model_Learn.f) (F30 : type_of% @ref08_Model_Learn.f) (a0 : Int) (a1 : Option Addr) (a1n : Nat) (a1c : Nat) (a2 : Option Addr) (a2n : Nat) (a2c : Nat) (w : World) (K : Value → World → Prop) : afn (law08_ModelPlays.CG F24 F25 F26 F27 F28 F29 F30) law08_ModelPlays.L law08_ModelPlays.D tab Try.f6 [(Value.int .i64 a0), (Value.slice a1 a1n a1c), (Value.slice a2 a2n a2c)] w K = law08_ModelPlays.G F24 F25 F26 F27 F28 F29 F30 a0 a1 a1n a1c a2 a2n a2c w (fun r0 w => K (Value.bool r0) w) := by kernel_rfl
theorem law08_ModelPlays.eq (a0 : Int) (a1 : Option Addr) (a1n : Nat) (a1c : Nat) (a2 : Option Addr) (a2n : Nat) (a2c : Nat) (w : World) (K : Value → World → Prop) : afn law08_ModelPlays.C law08_ModelPlays.L law08_ModelPlays.D tab Try.f6 [(Value.int .i64 a0), (Value.slice a1 a1n a1c), (Value.slice a2 a2n a2c)] w K = law08_ModelPlays.f a0 a1 a1n a1c a2 a2n a2c w (fun r0 w => K (Value.bool r0) w) := law08_ModelPlays.eqG @model_New.f @ref08_New.f @law08_awake.f @model_Model_Chance.f @ref08_Model_Chance.f @model_Model_Learn.f @ref08_Model_Learn.f a0 a1 a1n a1c a2 a2n a2c w K
theorem law08_ModelPlays.ok : FSound Try.prog 6 law08_ModelPlays.h := by
  intro args w K h
  unfold law08_ModelPlays.h law08_ModelPlays.H at h
  split at h
  ·
    replace h := vI_ok h
    obtain ⟨a0, rfl, h⟩ := h
    replace h := vL_ok h
    obtain ⟨a1, a1n, a1c, rfl, h⟩ := h
    replace h := vL_ok h
    obtain ⟨a2, a2n, a2c, rfl, h⟩ := h
    refine ⟨by kernel_rfl, fn_ok tab_ok law08_ModelPlays.C_ok (L := law08_ModelPlays.L) (D := law08_ModelPlays.D) Try.func6 law08_ModelPlays.hb (by kernel_rfl) (by rw [law08_ModelPlays.c_loops]; exact lcons law08_ModelPlays.lok5 (lnil)) (Nat.le_of_ble_eq_true (by kernel_rfl)) ?_⟩
    rw [law08_ModelPlays.eq]
    exact h
  · exact h.elim
end Go.Proofs.Ytdbnobeopgfhgaa.G
