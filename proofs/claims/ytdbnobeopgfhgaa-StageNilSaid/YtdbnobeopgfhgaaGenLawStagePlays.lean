/- Go functions as predicate transformers, written by a program of this session (gen.py), with their soundness. -/
import Derived.Test.YtdbnobeopgfhgaaGen4
set_option linter.unusedVariables false
set_option linter.unusedSimpArgs false
set_option maxRecDepth 100000
namespace Go.Proofs.Ytdbnobeopgfhgaa.G
open Go Go.Proofs.Ytdbnobeopgfhgaa.Vm
/-! ### valise/valiselaw07.StagePlays: function 4 -/
def law07_StagePlays.l16 : Nat → Option Addr → Nat → Nat → Int → Int → Option Addr → Option Addr → Int → Addr → Int → World → (Option Addr → Nat → Nat → Int → Int → Option Addr → Option Addr → Int → World → Prop) → (Bool → World → Prop) → Prop
  | 0, _, _, _, _, _, _, _, _, _, _, _, _, _ => False
  | N + 1, y1, y1n, y1c, y2, y3, y9, y10, y11, y12, y13, w, K2, Kr =>
    bif (decide (y13 < 34)) then
      ldI .i64 (y12.add 1) w.drew fun x90_54 =>
      ldI .i64 (y12.add 1) w.drew fun x95_55 =>
      stage_Stage_At.f y9 x90_54 y13 w.drew fun r92_56 w =>
      (World.cell? w (y12.add 1) = some (.int .i64 x95_55)) ∧
      (ref07_Stage_At.f y10 x95_55 y13 w fun r97_57 w =>
      bif (r92_56 != r97_57) then
        Kr false w
      else
        let v13_59 := (IntKind.wrap .i64 (y13 + 1))
        law07_StagePlays.l16 N y1 y1n y1c y2 y3 y9 y10 y11 y12 v13_59 w K2 Kr)
    else
      K2 y1 y1n y1c y2 y3 y9 y10 y11 w

def law07_StagePlays.l7 : Nat → Option Addr → Nat → Nat → Int → Int → Option Addr → Option Addr → Int → World → (World → Prop) → (Bool → World → Prop) → Prop
  | 0, _, _, _, _, _, _, _, _, _, _, _ => False
  | N + 1, y1, y1n, y1c, y2, y3, y9, y10, y11, w, K0, Kr =>
    bif (decide (y11 < ((y1n : Nat) : Int))) then
      bif (decide (y11 < 200)) then
        sm y1 fun p_22 =>
        if 0 ≤ (y11 : Int) ∧ (y11 : Int) < ((y1n : Nat) : Int) then
        ldI .i64 ((p_22.add (Int.toNat y11 * 4)).add 0) w fun x50_23 =>
        ldI .i64 ((p_22.add (Int.toNat y11 * 4)).add 1) w fun x50_24 =>
        ldI .i64 ((p_22.add (Int.toNat y11 * 4)).add 2) w fun x50_25 =>
        ldI .i64 ((p_22.add (Int.toNat y11 * 4)).add 3) w fun x50_26 =>
        newC 32 [(Value.int .i64 0), (Value.int .i64 0), (Value.int .i64 0), (Value.int .i64 0)] w fun a12_27 w =>
        stCs a12_27 [(Value.int .i64 x50_23), (Value.int .i64 x50_24), (Value.int .i64 x50_25), (Value.int .i64 x50_26)] 0 w fun w =>
        ldI .i64 a12_27 w.drew fun x53_30 =>
        ldI .i64 (a12_27.add 1) w.drew fun x55_31 =>
        ldI .i64 a12_27 w.drew fun x59_32 =>
        ldI .i64 (a12_27.add 1) w.drew fun x61_33 =>
        stage_Stage_Refine.f y9 x53_30 x55_31 w.drew fun r56_34 w =>
        (World.cell? w (a12_27.add 1) = some (.int .i64 x61_33)) ∧
        ((World.cell? w a12_27 = some (.int .i64 x59_32)) ∧
        (ref07_Stage_Refine.f y10 x59_32 x61_33 w fun r62_35 w =>
        bif (r56_34 != r62_35) then
          Kr false w
        else
          let J_72 := fun  (w : World) =>
            ((∃ N_60 : Nat, law07_StagePlays.l16 N_60 y1 y1n y1c y2 y3 y9 y10 y11 a12_27 (-1) w
            (fun o1_61 o1_61n o1_61c o2_62 o3_63 o9_64 o10_65 o11_66 w =>
              stage_Stage_At.f o9_64 o2_62 o3_63 w fun r102_69 w =>
              ref07_Stage_At.f o10_65 o2_62 o3_63 w fun r106_70 w =>
              bif (r102_69 != r106_70) then
                Kr false w
              else
                let v11_73 := (IntKind.wrap .i64 (o11_66 + 1))
                law07_StagePlays.l7 N o1_61 o1_61n o1_61c o2_62 o3_63 o9_64 o10_65 v11_73 w K0 Kr)
            (fun o8_67 w =>
              Kr o8_67 w)) : Prop)
          let J_47 := fun (j71_41 : Bool) (w : World) =>
            ((bif j71_41 then
              ldI .i64 (a12_27.add 2) w fun x74_43 =>
              ldI .i64 (a12_27.add 3) w fun x76_44 =>
              stage_Stage_Learn.f y9 x74_43 x76_44 w fun w =>
              ldI .i64 (a12_27.add 2) w fun x80_45 =>
              ldI .i64 (a12_27.add 3) w fun x82_46 =>
              ref07_Stage_Learn.f y10 x80_45 x82_46 w fun w =>
              J_72 w
            else
              J_72 w) : Prop)
          ldI .i64 (a12_27.add 2) w fun x65_39 =>
          bif (x65_39 == 0) then
            J_47 true w
          else
            ldI .i64 (a12_27.add 2) w fun x69_40 =>
            J_47 (x69_40 == 1) w))
        else False
      else
        K0 w
    else
      K0 w

def law07_StagePlays.f (a0 : Int) (a1 : Option Addr) (a1n : Nat) (a1c : Nat) (a2 : Int) (a3 : Int) (w : World) (K : Bool → World → Prop) : Prop :=
  let J_77 := fun (j0_4 : Int) (w : World) =>
    ((stage_New.f j0_4 w fun r17_6 w =>
    ref07_New.f j0_4 w fun r19_7 w =>
    law07_awake.f  w fun r20_10 w =>
    bif (!r20_10) then
      K false w
    else
      bif r17_6.isNone then
        K false w
      else
        stage_Stage_At.f r17_6 a2 a3 w fun r30_11 w =>
        ref07_Stage_At.f r19_7 a2 a3 w fun r34_12 w =>
        bif (r30_11 != r34_12) then
          K false w
        else
          ∃ N_74 : Nat, law07_StagePlays.l7 N_74 a1 a1n a1c a2 a3 r17_6 r19_7 0 w
          (fun w =>
            K true w)
          (fun o8_75 w =>
            K o8_75 w)) : Prop)
  bif (decide (a0 > 50)) then
    J_77 50 w
  else
    J_77 a0 w
def law07_StagePlays.H (F : type_of% @law07_StagePlays.f) : Hf := fun args w K => match args with
  | [v0, v1, v2, v3] => vI .i64 v0 fun a0 => vL v1 fun a1 a1n a1c => vI .i64 v2 fun a2 => vI .i64 v3 fun a3 => F a0 a1 a1n a1c a2 a3 w (fun r0 w => K (Value.bool r0) w)
  | _ => False
def law07_StagePlays.h : Hf := law07_StagePlays.H @law07_StagePlays.f
def law07_StagePlays.CG (F15 : type_of% @stage_New.f) (F18 : type_of% @ref07_New.f) (F16 : type_of% @law07_awake.f) (F19 : type_of% @stage_Stage_At.f) (F20 : type_of% @ref07_Stage_At.f) (F17 : type_of% @stage_Stage_Refine.f) (F21 : type_of% @ref07_Stage_Refine.f) (F22 : type_of% @stage_Stage_Learn.f) (F23 : type_of% @ref07_Stage_Learn.f) : Hd := hcons 23 (ref07_Stage_Learn.H F23) (hcons 22 (stage_Stage_Learn.H F22) (hcons 21 (ref07_Stage_Refine.H F21) (hcons 17 (stage_Stage_Refine.H F17) (hcons 20 (ref07_Stage_At.H F20) (hcons 19 (stage_Stage_At.H F19) (hcons 16 (law07_awake.H F16) (hcons 18 (ref07_New.H F18) (hcons 15 (stage_New.H F15) (hnil)))))))))
def law07_StagePlays.C : Hd := law07_StagePlays.CG @stage_New.f @ref07_New.f @law07_awake.f @stage_Stage_At.f @ref07_Stage_At.f @stage_Stage_Refine.f @ref07_Stage_Refine.f @stage_Stage_Learn.f @ref07_Stage_Learn.f
def law07_StagePlays.G (F15 : type_of% @stage_New.f) (F18 : type_of% @ref07_New.f) (F16 : type_of% @law07_awake.f) (F19 : type_of% @stage_Stage_At.f) (F20 : type_of% @ref07_Stage_At.f) (F17 : type_of% @stage_Stage_Refine.f) (F21 : type_of% @ref07_Stage_Refine.f) (F22 : type_of% @stage_Stage_Learn.f) (F23 : type_of% @ref07_Stage_Learn.f) (a0 : Int) (a1 : Option Addr) (a1n : Nat) (a1c : Nat) (a2 : Int) (a3 : Int) (w : World) (K : Bool → World → Prop) : Prop :=
  let J_77 := fun (j0_4 : Int) (w : World) =>
    ((F15 j0_4 w fun r17_6 w =>
    F18 j0_4 w fun r19_7 w =>
    F16  w fun r20_10 w =>
    bif (!r20_10) then
      K false w
    else
      bif r17_6.isNone then
        K false w
      else
        F19 r17_6 a2 a3 w fun r30_11 w =>
        F20 r19_7 a2 a3 w fun r34_12 w =>
        bif (r30_11 != r34_12) then
          K false w
        else
          ∃ N_74 : Nat, law07_StagePlays.l7 N_74 a1 a1n a1c a2 a3 r17_6 r19_7 0 w
          (fun w =>
            K true w)
          (fun o8_75 w =>
            K o8_75 w)) : Prop)
  bif (decide (a0 > 50)) then
    J_77 50 w
  else
    J_77 a0 w
theorem law07_StagePlays.C_ok : CSound Try.prog law07_StagePlays.C := hcons_ok ref07_Stage_Learn.ok (hcons_ok stage_Stage_Learn.ok (hcons_ok ref07_Stage_Refine.ok (hcons_ok stage_Stage_Refine.ok (hcons_ok ref07_Stage_At.ok (hcons_ok stage_Stage_At.ok (hcons_ok law07_awake.ok (hcons_ok ref07_New.ok (hcons_ok stage_New.ok (hnil_ok)))))))))
def law07_StagePlays.D : Nat → Plan := fun i => (match Nat.beq i 18 with | true => .take 0 (.take 1 (.take 2 (.take 3 (.take 5 (.take 6 (.take 7 (.take 8 (.eff 4 (.eff 9 (.take 10 (.done))))))))))) | false => (match Nat.beq i 10 with | true => .take 0 (.take 1 (.take 2 (.take 3 (.take 4 (.take 6 (.take 7 (.take 8 (.take 9 (.take 10 (.eff 5 (.eff 11 (.take 12 (.done))))))))))))) | false => .done))
noncomputable def law07_StagePlays.c : Code := Try.f4.body.getD .skip
theorem law07_StagePlays.hb : Try.f4.body = some law07_StagePlays.c := by kernel_rfl
noncomputable def law07_StagePlays.b0 : Code := (loopsOf law07_StagePlays.c).getD 0 .skip
noncomputable def law07_StagePlays.b0_0 : Code := (loopsOf law07_StagePlays.b0).getD 0 .skip
theorem law07_StagePlays.b0_0_loops : loopsOf law07_StagePlays.b0_0 = [] := by kernel_rfl
theorem law07_StagePlays.b0_loops : loopsOf law07_StagePlays.b0 = [law07_StagePlays.b0_0] := by kernel_rfl
theorem law07_StagePlays.c_loops : loopsOf law07_StagePlays.c = [law07_StagePlays.b0] := by kernel_rfl
def law07_StagePlays.l16G (F15 : type_of% @stage_New.f) (F18 : type_of% @ref07_New.f) (F16 : type_of% @law07_awake.f) (F19 : type_of% @stage_Stage_At.f) (F20 : type_of% @ref07_Stage_At.f) (F17 : type_of% @stage_Stage_Refine.f) (F21 : type_of% @ref07_Stage_Refine.f) (F22 : type_of% @stage_Stage_Learn.f) (F23 : type_of% @ref07_Stage_Learn.f) (R : Option Addr → Nat → Nat → Int → Int → Option Addr → Option Addr → Int → Addr → Int → World → (Option Addr → Nat → Nat → Int → Int → Option Addr → Option Addr → Int → World → Prop) → (Bool → World → Prop) → Prop) : Option Addr → Nat → Nat → Int → Int → Option Addr → Option Addr → Int → Addr → Int → World → (Option Addr → Nat → Nat → Int → Int → Option Addr → Option Addr → Int → World → Prop) → (Bool → World → Prop) → Prop := fun y1 y1n y1c y2 y3 y9 y10 y11 y12 y13 w K2 Kr =>
    bif (decide (y13 < 34)) then
      ldI .i64 (y12.add 1) w.drew fun x90_54 =>
      ldI .i64 (y12.add 1) w.drew fun x95_55 =>
      F19 y9 x90_54 y13 w.drew fun r92_56 w =>
      (World.cell? w (y12.add 1) = some (.int .i64 x95_55)) ∧
      (F20 y10 x95_55 y13 w fun r97_57 w =>
      bif (r92_56 != r97_57) then
        Kr false w
      else
        let v13_59 := (IntKind.wrap .i64 (y13 + 1))
        R y1 y1n y1c y2 y3 y9 y10 y11 y12 v13_59 w K2 Kr)
    else
      K2 y1 y1n y1c y2 y3 y9 y10 y11 w

def law07_StagePlays.l7G (F15 : type_of% @stage_New.f) (F18 : type_of% @ref07_New.f) (F16 : type_of% @law07_awake.f) (F19 : type_of% @stage_Stage_At.f) (F20 : type_of% @ref07_Stage_At.f) (F17 : type_of% @stage_Stage_Refine.f) (F21 : type_of% @ref07_Stage_Refine.f) (F22 : type_of% @stage_Stage_Learn.f) (F23 : type_of% @ref07_Stage_Learn.f) (R : Option Addr → Nat → Nat → Int → Int → Option Addr → Option Addr → Int → World → (World → Prop) → (Bool → World → Prop) → Prop) : Option Addr → Nat → Nat → Int → Int → Option Addr → Option Addr → Int → World → (World → Prop) → (Bool → World → Prop) → Prop := fun y1 y1n y1c y2 y3 y9 y10 y11 w K0 Kr =>
    bif (decide (y11 < ((y1n : Nat) : Int))) then
      bif (decide (y11 < 200)) then
        sm y1 fun p_22 =>
        if 0 ≤ (y11 : Int) ∧ (y11 : Int) < ((y1n : Nat) : Int) then
        ldI .i64 ((p_22.add (Int.toNat y11 * 4)).add 0) w fun x50_23 =>
        ldI .i64 ((p_22.add (Int.toNat y11 * 4)).add 1) w fun x50_24 =>
        ldI .i64 ((p_22.add (Int.toNat y11 * 4)).add 2) w fun x50_25 =>
        ldI .i64 ((p_22.add (Int.toNat y11 * 4)).add 3) w fun x50_26 =>
        newC 32 [(Value.int .i64 0), (Value.int .i64 0), (Value.int .i64 0), (Value.int .i64 0)] w fun a12_27 w =>
        stCs a12_27 [(Value.int .i64 x50_23), (Value.int .i64 x50_24), (Value.int .i64 x50_25), (Value.int .i64 x50_26)] 0 w fun w =>
        ldI .i64 a12_27 w.drew fun x53_30 =>
        ldI .i64 (a12_27.add 1) w.drew fun x55_31 =>
        ldI .i64 a12_27 w.drew fun x59_32 =>
        ldI .i64 (a12_27.add 1) w.drew fun x61_33 =>
        F17 y9 x53_30 x55_31 w.drew fun r56_34 w =>
        (World.cell? w (a12_27.add 1) = some (.int .i64 x61_33)) ∧
        ((World.cell? w a12_27 = some (.int .i64 x59_32)) ∧
        (F21 y10 x59_32 x61_33 w fun r62_35 w =>
        bif (r56_34 != r62_35) then
          Kr false w
        else
          let J_72 := fun  (w : World) =>
            ((∃ N_60 : Nat, law07_StagePlays.l16 N_60 y1 y1n y1c y2 y3 y9 y10 y11 a12_27 (-1) w
            (fun o1_61 o1_61n o1_61c o2_62 o3_63 o9_64 o10_65 o11_66 w =>
              F19 o9_64 o2_62 o3_63 w fun r102_69 w =>
              F20 o10_65 o2_62 o3_63 w fun r106_70 w =>
              bif (r102_69 != r106_70) then
                Kr false w
              else
                let v11_73 := (IntKind.wrap .i64 (o11_66 + 1))
                R o1_61 o1_61n o1_61c o2_62 o3_63 o9_64 o10_65 v11_73 w K0 Kr)
            (fun o8_67 w =>
              Kr o8_67 w)) : Prop)
          let J_47 := fun (j71_41 : Bool) (w : World) =>
            ((bif j71_41 then
              ldI .i64 (a12_27.add 2) w fun x74_43 =>
              ldI .i64 (a12_27.add 3) w fun x76_44 =>
              F22 y9 x74_43 x76_44 w fun w =>
              ldI .i64 (a12_27.add 2) w fun x80_45 =>
              ldI .i64 (a12_27.add 3) w fun x82_46 =>
              F23 y10 x80_45 x82_46 w fun w =>
              J_72 w
            else
              J_72 w) : Prop)
          ldI .i64 (a12_27.add 2) w fun x65_39 =>
          bif (x65_39 == 0) then
            J_47 true w
          else
            ldI .i64 (a12_27.add 2) w fun x69_40 =>
            J_47 (x69_40 == 1) w))
        else False
      else
        K0 w
    else
      K0 w

def law07_StagePlays.hn16 (N : Nat) (f : Fr) (w : World) (K : AExit → Fr → World → Prop) : Prop :=
  gN f 108 <| gL f 1 fun y1 y1n y1c => gI .i64 f 2 fun y2 => gI .i64 f 3 fun y3 => gP f 9 fun y9 => gP f 10 fun y10 => gI .i64 f 11 fun y11 => gQ f 12 fun y12 => gI .i64 f 13 fun y13 => law07_StagePlays.l16 N y1 y1n y1c y2 y3 y9 y10 y11 y12 y13 w (fun o1 o1n o1c o2 o3 o9 o10 o11 w => K (.exit 2) [none, some (Value.slice o1 o1n o1c), some (Value.int .i64 o2), some (Value.int .i64 o3), none, none, none, none, none, some (Value.pointer o9), some (Value.pointer o10), some (Value.int .i64 o11), none, none, none, none, none, none, none, none, none, none, none, none, none, none, none, none, none, none, none, none, none, none, none, none, none, none, none, none, none, none, none, none, none, none, none, none, none, none, none, none, none, none, none, none, none, none, none, none, none, none, none, none, none, none, none, none, none, none, none, none, none, none, none, none, none, none, none, none, none, none, none, none, none, none, none, none, none, none, none, none, none, none, none, none, none, none, none, none, none, none, none, none, none, none, none, none] w) (fun o8 w => K .ret [none, none, none, none, none, none, none, none, some (Value.bool o8), none, none, none, none, none, none, none, none, none, none, none, none, none, none, none, none, none, none, none, none, none, none, none, none, none, none, none, none, none, none, none, none, none, none, none, none, none, none, none, none, none, none, none, none, none, none, none, none, none, none, none, none, none, none, none, none, none, none, none, none, none, none, none, none, none, none, none, none, none, none, none, none, none, none, none, none, none, none, none, none, none, none, none, none, none, none, none, none, none, none, none, none, none, none, none, none, none, none, none] w)
def law07_StagePlays.hx16 : AExit → Fr → World → (AExit → Fr → World → Prop) → Prop := fun e f w K => match e with
  | .normal => False
  | .exit i => (match Nat.beq i 2 with | true => gN f 108 <| gL f 1 fun o1 o1n o1c => gI .i64 f 2 fun o2 => gI .i64 f 3 fun o3 => gP f 9 fun o9 => gP f 10 fun o10 => gI .i64 f 11 fun o11 => K (.exit 2) [none, some (Value.slice o1 o1n o1c), some (Value.int .i64 o2), some (Value.int .i64 o3), none, none, none, none, none, some (Value.pointer o9), some (Value.pointer o10), some (Value.int .i64 o11), none, none, none, none, none, none, none, none, none, none, none, none, none, none, none, none, none, none, none, none, none, none, none, none, none, none, none, none, none, none, none, none, none, none, none, none, none, none, none, none, none, none, none, none, none, none, none, none, none, none, none, none, none, none, none, none, none, none, none, none, none, none, none, none, none, none, none, none, none, none, none, none, none, none, none, none, none, none, none, none, none, none, none, none, none, none, none, none, none, none, none, none, none, none, none, none] w | false => False)
  | .ret => gN f 108 <| gB f 8 fun o8 => K .ret [none, none, none, none, none, none, none, none, some (Value.bool o8), none, none, none, none, none, none, none, none, none, none, none, none, none, none, none, none, none, none, none, none, none, none, none, none, none, none, none, none, none, none, none, none, none, none, none, none, none, none, none, none, none, none, none, none, none, none, none, none, none, none, none, none, none, none, none, none, none, none, none, none, none, none, none, none, none, none, none, none, none, none, none, none, none, none, none, none, none, none, none, none, none, none, none, none, none, none, none, none, none, none, none, none, none, none, none, none, none, none, none] w
def law07_StagePlays.hn7 (N : Nat) (f : Fr) (w : World) (K : AExit → Fr → World → Prop) : Prop :=
  gN f 108 <| gL f 1 fun y1 y1n y1c => gI .i64 f 2 fun y2 => gI .i64 f 3 fun y3 => gP f 9 fun y9 => gP f 10 fun y10 => gI .i64 f 11 fun y11 => law07_StagePlays.l7 N y1 y1n y1c y2 y3 y9 y10 y11 w (fun w => K (.exit 0) [none, none, none, none, none, none, none, none, none, none, none, none, none, none, none, none, none, none, none, none, none, none, none, none, none, none, none, none, none, none, none, none, none, none, none, none, none, none, none, none, none, none, none, none, none, none, none, none, none, none, none, none, none, none, none, none, none, none, none, none, none, none, none, none, none, none, none, none, none, none, none, none, none, none, none, none, none, none, none, none, none, none, none, none, none, none, none, none, none, none, none, none, none, none, none, none, none, none, none, none, none, none, none, none, none, none, none, none] w) (fun o8 w => K .ret [none, none, none, none, none, none, none, none, some (Value.bool o8), none, none, none, none, none, none, none, none, none, none, none, none, none, none, none, none, none, none, none, none, none, none, none, none, none, none, none, none, none, none, none, none, none, none, none, none, none, none, none, none, none, none, none, none, none, none, none, none, none, none, none, none, none, none, none, none, none, none, none, none, none, none, none, none, none, none, none, none, none, none, none, none, none, none, none, none, none, none, none, none, none, none, none, none, none, none, none, none, none, none, none, none, none, none, none, none, none, none, none] w)
def law07_StagePlays.hx7 : AExit → Fr → World → (AExit → Fr → World → Prop) → Prop := fun e f w K => match e with
  | .normal => False
  | .exit i => (match Nat.beq i 0 with | true => gN f 108 <|  K (.exit 0) [none, none, none, none, none, none, none, none, none, none, none, none, none, none, none, none, none, none, none, none, none, none, none, none, none, none, none, none, none, none, none, none, none, none, none, none, none, none, none, none, none, none, none, none, none, none, none, none, none, none, none, none, none, none, none, none, none, none, none, none, none, none, none, none, none, none, none, none, none, none, none, none, none, none, none, none, none, none, none, none, none, none, none, none, none, none, none, none, none, none, none, none, none, none, none, none, none, none, none, none, none, none, none, none, none, none, none, none] w | false => False)
  | .ret => gN f 108 <| gB f 8 fun o8 => K .ret [none, none, none, none, none, none, none, none, some (Value.bool o8), none, none, none, none, none, none, none, none, none, none, none, none, none, none, none, none, none, none, none, none, none, none, none, none, none, none, none, none, none, none, none, none, none, none, none, none, none, none, none, none, none, none, none, none, none, none, none, none, none, none, none, none, none, none, none, none, none, none, none, none, none, none, none, none, none, none, none, none, none, none, none, none, none, none, none, none, none, none, none, none, none, none, none, none, none, none, none, none, none, none, none, none, none, none, none, none, none, none, none] w
def law07_StagePlays.L : LHd := fun l f w K => (match Nat.beq l 7 with | true => ∃ N, law07_StagePlays.hn7 N f w K | false => (match Nat.beq l 16 with | true => ∃ N, law07_StagePlays.hn16 N f w K | false => False))
theorem law07_StagePlays.leG16 (F15 : type_of% @stage_New.f) (F18 : type_of% @ref07_New.f) (F16 : type_of% @law07_awake.f) (F19 : type_of% @stage_Stage_At.f) (F20 : type_of% @ref07_Stage_At.f) (F17 : type_of% @stage_Stage_Refine.f) (F21 : type_of% @ref07_Stage_Refine.f) (F22 : type_of% @stage_Stage_Learn.f) (F23 : type_of% @ref07_Stage_Learn.f) (N : Nat) (y1 : Option Addr) (y1n : Nat) (y1c : Nat) (y2 : Int) (y3 : Int) (y9 : Option Addr) (y10 : Option Addr) (y11 : Int) (y12 : Addr) (y13 : Int) (w : World) (K : AExit → Fr → World → Prop) : awp (law07_StagePlays.CG F15 F18 F16 F19 F20 F17 F21 F22 F23) law07_StagePlays.L law07_StagePlays.D tab law07_StagePlays.b0_0 (lpost law07_StagePlays.hn16 law07_StagePlays.hx16 N K) [none, some (Value.slice y1 y1n y1c), some (Value.int .i64 y2), some (Value.int .i64 y3), none, none, none, none, none, some (Value.pointer y9), some (Value.pointer y10), some (Value.int .i64 y11), some (Value.pointer (some y12)), some (Value.int .i64 y13), none, none, none, none, none, none, none, none, none, none, none, none, none, none, none, none, none, none, none, none, none, none, none, none, none, none, none, none, none, none, none, none, none, none, none, none, none, none, none, none, none, none, none, none, none, none, none, none, none, none, none, none, none, none, none, none, none, none, none, none, none, none, none, none, none, none, none, none, none, none, none, none, none, none, none, none, none, none, none, none, none, none, none, none, none, none, none, none, none, none, none, none, none, none] w = law07_StagePlays.l16G F15 F18 F16 F19 F20 F17 F21 F22 F23 (law07_StagePlays.l16 N) y1 y1n y1c y2 y3 y9 y10 y11 y12 y13 w (fun o1 o1n o1c o2 o3 o9 o10 o11 w => K (.exit 2) [none, some (Value.slice o1 o1n o1c), some (Value.int .i64 o2), some (Value.int .i64 o3), none, none, none, none, none, some (Value.pointer o9), some (Value.pointer o10), some (Value.int .i64 o11), none, none, none, none, none, none, none, none, none, none, none, none, none, none, none, none, none, none, none, none, none, none, none, none, none, none, none, none, none, none, none, none, none, none, none, none, none, none, none, none, none, none, none, none, none, none, none, none, none, none, none, none, none, none, none, none, none, none, none, none, none, none, none, none, none, none, none, none, none, none, none, none, none, none, none, none, none, none, none, none, none, none, none, none, none, none, none, none, none, none, none, none, none, none, none, none] w) (fun o8 w => K .ret [none, none, none, none, none, none, none, none, some (Value.bool o8), none, none, none, none, none, none, none, none, none, none, none, none, none, none, none, none, none, none, none, none, none, none, none, none, none, none, none, none, none, none, none, none, none, none, none, none, none, none, none, none, none, none, none, none, none, none, none, none, none, none, none, none, none, none, none, none, none, none, none, none, none, none, none, none, none, none, none, none, none, none, none, none, none, none, none, none, none, none, none, none, none, none, none, none, none, none, none, none, none, none, none, none, none, none, none, none, none, none, none] w) := by kernel_rfl
theorem law07_StagePlays.les16 (N : Nat) : law07_StagePlays.l16 (N + 1) = law07_StagePlays.l16G @stage_New.f @ref07_New.f @law07_awake.f @stage_Stage_At.f @ref07_Stage_At.f @stage_Stage_Refine.f @ref07_Stage_Refine.f @stage_Stage_Learn.f @ref07_Stage_Learn.f (law07_StagePlays.l16 N) := by kernel_rfl
theorem law07_StagePlays.le16 (N : Nat) (y1 : Option Addr) (y1n : Nat) (y1c : Nat) (y2 : Int) (y3 : Int) (y9 : Option Addr) (y10 : Option Addr) (y11 : Int) (y12 : Addr) (y13 : Int) (w : World) (K : AExit → Fr → World → Prop) : awp law07_StagePlays.C law07_StagePlays.L law07_StagePlays.D tab law07_StagePlays.b0_0 (lpost law07_StagePlays.hn16 law07_StagePlays.hx16 N K) [none, some (Value.slice y1 y1n y1c), some (Value.int .i64 y2), some (Value.int .i64 y3), none, none, none, none, none, some (Value.pointer y9), some (Value.pointer y10), some (Value.int .i64 y11), some (Value.pointer (some y12)), some (Value.int .i64 y13), none, none, none, none, none, none, none, none, none, none, none, none, none, none, none, none, none, none, none, none, none, none, none, none, none, none, none, none, none, none, none, none, none, none, none, none, none, none, none, none, none, none, none, none, none, none, none, none, none, none, none, none, none, none, none, none, none, none, none, none, none, none, none, none, none, none, none, none, none, none, none, none, none, none, none, none, none, none, none, none, none, none, none, none, none, none, none, none, none, none, none, none, none, none] w = law07_StagePlays.l16 (N + 1) y1 y1n y1c y2 y3 y9 y10 y11 y12 y13 w (fun o1 o1n o1c o2 o3 o9 o10 o11 w => K (.exit 2) [none, some (Value.slice o1 o1n o1c), some (Value.int .i64 o2), some (Value.int .i64 o3), none, none, none, none, none, some (Value.pointer o9), some (Value.pointer o10), some (Value.int .i64 o11), none, none, none, none, none, none, none, none, none, none, none, none, none, none, none, none, none, none, none, none, none, none, none, none, none, none, none, none, none, none, none, none, none, none, none, none, none, none, none, none, none, none, none, none, none, none, none, none, none, none, none, none, none, none, none, none, none, none, none, none, none, none, none, none, none, none, none, none, none, none, none, none, none, none, none, none, none, none, none, none, none, none, none, none, none, none, none, none, none, none, none, none, none, none, none, none] w) (fun o8 w => K .ret [none, none, none, none, none, none, none, none, some (Value.bool o8), none, none, none, none, none, none, none, none, none, none, none, none, none, none, none, none, none, none, none, none, none, none, none, none, none, none, none, none, none, none, none, none, none, none, none, none, none, none, none, none, none, none, none, none, none, none, none, none, none, none, none, none, none, none, none, none, none, none, none, none, none, none, none, none, none, none, none, none, none, none, none, none, none, none, none, none, none, none, none, none, none, none, none, none, none, none, none, none, none, none, none, none, none, none, none, none, none, none, none] w) := by
  rw [law07_StagePlays.les16]
  exact law07_StagePlays.leG16 @stage_New.f @ref07_New.f @law07_awake.f @stage_Stage_At.f @ref07_Stage_At.f @stage_Stage_Refine.f @ref07_Stage_Refine.f @stage_Stage_Learn.f @ref07_Stage_Learn.f N y1 y1n y1c y2 y3 y9 y10 y11 y12 y13 w K
theorem law07_StagePlays.lok16 : LoopOk Try.prog law07_StagePlays.L law07_StagePlays.b0_0 := by
  refine loop_ok tab_ok law07_StagePlays.C_ok (D := law07_StagePlays.D) (law07_StagePlays.hn16) (law07_StagePlays.hx16) (by kernel_rfl) (by rw [law07_StagePlays.b0_0_loops]; exact lnil) ?_ ?_ ?_ ?_
  · intro f w K h
    unfold law07_StagePlays.hn16 at h
    obtain ⟨hlen, h⟩ := gN_ok h
    obtain ⟨y1, y1n, y1c, h1, h⟩ := gL_ok h
    obtain ⟨y2, h2, h⟩ := gI_ok h
    obtain ⟨y3, h3, h⟩ := gI_ok h
    obtain ⟨y9, h9, h⟩ := gP_ok h
    obtain ⟨y10, h10, h⟩ := gP_ok h
    obtain ⟨y11, h11, h⟩ := gI_ok h
    obtain ⟨y12, h12, h⟩ := gQ_ok h
    obtain ⟨y13, h13, h⟩ := gI_ok h
    exact h
  · intro N f w K h
    unfold law07_StagePlays.hn16 at h
    obtain ⟨hlen, h⟩ := gN_ok h
    obtain ⟨y1, y1n, y1c, h1, h⟩ := gL_ok h
    obtain ⟨y2, h2, h⟩ := gI_ok h
    obtain ⟨y3, h3, h⟩ := gI_ok h
    obtain ⟨y9, h9, h⟩ := gP_ok h
    obtain ⟨y10, h10, h⟩ := gP_ok h
    obtain ⟨y11, h11, h⟩ := gI_ok h
    obtain ⟨y12, h12, h⟩ := gQ_ok h
    obtain ⟨y13, h13, h⟩ := gI_ok h
    refine ⟨[none, some (Value.slice y1 y1n y1c), some (Value.int .i64 y2), some (Value.int .i64 y3), none, none, none, none, none, some (Value.pointer y9), some (Value.pointer y10), some (Value.int .i64 y11), some (Value.pointer (some y12)), some (Value.int .i64 y13), none, none, none, none, none, none, none, none, none, none, none, none, none, none, none, none, none, none, none, none, none, none, none, none, none, none, none, none, none, none, none, none, none, none, none, none, none, none, none, none, none, none, none, none, none, none, none, none, none, none, none, none, none, none, none, none, none, none, none, none, none, none, none, none, none, none, none, none, none, none, none, none, none, none, none, none, none, none, none, none, none, none, none, none, none, none, none, none, none, none, none, none, none, none], hlen, ⟨h1, h2, h3, h9, h10, h11, h12, h13, trivial⟩, ?_⟩
    rw [law07_StagePlays.le16]
    exact h
  · intro e f w K h
    cases e with
    | normal => exact h.elim
    | exit i =>
      unfold law07_StagePlays.hx16 at h
      simp only at h
      split at h
      · rename_i hb
        obtain rfl := Nat.eq_of_beq_eq_true hb
        obtain ⟨hlen, h⟩ := gN_ok h
        obtain ⟨o1, o1n, o1c, h1, h⟩ := gL_ok h
        obtain ⟨o2, h2, h⟩ := gI_ok h
        obtain ⟨o3, h3, h⟩ := gI_ok h
        obtain ⟨o9, h9, h⟩ := gP_ok h
        obtain ⟨o10, h10, h⟩ := gP_ok h
        obtain ⟨o11, h11, h⟩ := gI_ok h
        exact ⟨[none, some (Value.slice o1 o1n o1c), some (Value.int .i64 o2), some (Value.int .i64 o3), none, none, none, none, none, some (Value.pointer o9), some (Value.pointer o10), some (Value.int .i64 o11), none, none, none, none, none, none, none, none, none, none, none, none, none, none, none, none, none, none, none, none, none, none, none, none, none, none, none, none, none, none, none, none, none, none, none, none, none, none, none, none, none, none, none, none, none, none, none, none, none, none, none, none, none, none, none, none, none, none, none, none, none, none, none, none, none, none, none, none, none, none, none, none, none, none, none, none, none, none, none, none, none, none, none, none, none, none, none, none, none, none, none, none, none, none, none, none], hlen, ⟨h1, h2, h3, h9, h10, h11, trivial⟩, h⟩
      · exact (show False from h).elim
    | ret =>
      unfold law07_StagePlays.hx16 at h
      simp only at h
      obtain ⟨hlen, h⟩ := gN_ok h
      obtain ⟨o8, h8, h⟩ := gB_ok h
      exact ⟨[none, none, none, none, none, none, none, none, some (Value.bool o8), none, none, none, none, none, none, none, none, none, none, none, none, none, none, none, none, none, none, none, none, none, none, none, none, none, none, none, none, none, none, none, none, none, none, none, none, none, none, none, none, none, none, none, none, none, none, none, none, none, none, none, none, none, none, none, none, none, none, none, none, none, none, none, none, none, none, none, none, none, none, none, none, none, none, none, none, none, none, none, none, none, none, none, none, none, none, none, none, none, none, none, none, none, none, none, none, none, none, none], hlen, ⟨h8, trivial⟩, h⟩
  · intro f w K h
    have e : lid law07_StagePlays.b0_0 = 16 := by kernel_rfl
    rw [e] at h
    exact h
theorem law07_StagePlays.leG7 (F15 : type_of% @stage_New.f) (F18 : type_of% @ref07_New.f) (F16 : type_of% @law07_awake.f) (F19 : type_of% @stage_Stage_At.f) (F20 : type_of% @ref07_Stage_At.f) (F17 : type_of% @stage_Stage_Refine.f) (F21 : type_of% @ref07_Stage_Refine.f) (F22 : type_of% @stage_Stage_Learn.f) (F23 : type_of% @ref07_Stage_Learn.f) (N : Nat) (y1 : Option Addr) (y1n : Nat) (y1c : Nat) (y2 : Int) (y3 : Int) (y9 : Option Addr) (y10 : Option Addr) (y11 : Int) (w : World) (K : AExit → Fr → World → Prop) : awp (law07_StagePlays.CG F15 F18 F16 F19 F20 F17 F21 F22 F23) law07_StagePlays.L law07_StagePlays.D tab law07_StagePlays.b0 (lpost law07_StagePlays.hn7 law07_StagePlays.hx7 N K) [none, some (Value.slice y1 y1n y1c), some (Value.int .i64 y2), some (Value.int .i64 y3), none, none, none, none, none, some (Value.pointer y9), some (Value.pointer y10), some (Value.int .i64 y11), none, none, none, none, none, none, none, none, none, none, none, none, none, none, none, none, none, none, none, none, none, none, none, none, none, none, none, none, none, none, none, none, none, none, none, none, none, none, none, none, none, none, none, none, none, none, none, none, none, none, none, none, none, none, none, none, none, none, none, none, none, none, none, none, none, none, none, none, none, none, none, none, none, none, none, none, none, none, none, none, none, none, none, none, none, none, none, none, none, none, none, none, none, none, none, none] w = law07_StagePlays.l7G F15 F18 F16 F19 F20 F17 F21 F22 F23 (law07_StagePlays.l7 N) y1 y1n y1c y2 y3 y9 y10 y11 w (fun w => K (.exit 0) [none, none, none, none, none, none, none, none, none, none, none, none, none, none, none, none, none, none, none, none, none, none, none, none, none, none, none, none, none, none, none, none, none, none, none, none, none, none, none, none, none, none, none, none, none, none, none, none, none, none, none, none, none, none, none, none, none, none, none, none, none, none, none, none, none, none, none, none, none, none, none, none, none, none, none, none, none, none, none, none, none, none, none, none, none, none, none, none, none, none, none, none, none, none, none, none, none, none, none, none, none, none, none, none, none, none, none, none] w) (fun o8 w => K .ret [none, none, none, none, none, none, none, none, some (Value.bool o8), none, none, none, none, none, none, none, none, none, none, none, none, none, none, none, none, none, none, none, none, none, none, none, none, none, none, none, none, none, none, none, none, none, none, none, none, none, none, none, none, none, none, none, none, none, none, none, none, none, none, none, none, none, none, none, none, none, none, none, none, none, none, none, none, none, none, none, none, none, none, none, none, none, none, none, none, none, none, none, none, none, none, none, none, none, none, none, none, none, none, none, none, none, none, none, none, none, none, none] w) := by kernel_rfl
theorem law07_StagePlays.les7 (N : Nat) : law07_StagePlays.l7 (N + 1) = law07_StagePlays.l7G @stage_New.f @ref07_New.f @law07_awake.f @stage_Stage_At.f @ref07_Stage_At.f @stage_Stage_Refine.f @ref07_Stage_Refine.f @stage_Stage_Learn.f @ref07_Stage_Learn.f (law07_StagePlays.l7 N) := by kernel_rfl
theorem law07_StagePlays.le7 (N : Nat) (y1 : Option Addr) (y1n : Nat) (y1c : Nat) (y2 : Int) (y3 : Int) (y9 : Option Addr) (y10 : Option Addr) (y11 : Int) (w : World) (K : AExit → Fr → World → Prop) : awp law07_StagePlays.C law07_StagePlays.L law07_StagePlays.D tab law07_StagePlays.b0 (lpost law07_StagePlays.hn7 law07_StagePlays.hx7 N K) [none, some (Value.slice y1 y1n y1c), some (Value.int .i64 y2), some (Value.int .i64 y3), none, none, none, none, none, some (Value.pointer y9), some (Value.pointer y10), some (Value.int .i64 y11), none, none, none, none, none, none, none, none, none, none, none, none, none, none, none, none, none, none, none, none, none, none, none, none, none, none, none, none, none, none, none, none, none, none, none, none, none, none, none, none, none, none, none, none, none, none, none, none, none, none, none, none, none, none, none, none, none, none, none, none, none, none, none, none, none, none, none, none, none, none, none, none, none, none, none, none, none, none, none, none, none, none, none, none, none, none, none, none, none, none, none, none, none, none, none, none] w = law07_StagePlays.l7 (N + 1) y1 y1n y1c y2 y3 y9 y10 y11 w (fun w => K (.exit 0) [none, none, none, none, none, none, none, none, none, none, none, none, none, none, none, none, none, none, none, none, none, none, none, none, none, none, none, none, none, none, none, none, none, none, none, none, none, none, none, none, none, none, none, none, none, none, none, none, none, none, none, none, none, none, none, none, none, none, none, none, none, none, none, none, none, none, none, none, none, none, none, none, none, none, none, none, none, none, none, none, none, none, none, none, none, none, none, none, none, none, none, none, none, none, none, none, none, none, none, none, none, none, none, none, none, none, none, none] w) (fun o8 w => K .ret [none, none, none, none, none, none, none, none, some (Value.bool o8), none, none, none, none, none, none, none, none, none, none, none, none, none, none, none, none, none, none, none, none, none, none, none, none, none, none, none, none, none, none, none, none, none, none, none, none, none, none, none, none, none, none, none, none, none, none, none, none, none, none, none, none, none, none, none, none, none, none, none, none, none, none, none, none, none, none, none, none, none, none, none, none, none, none, none, none, none, none, none, none, none, none, none, none, none, none, none, none, none, none, none, none, none, none, none, none, none, none, none] w) := by
  rw [law07_StagePlays.les7]
  exact law07_StagePlays.leG7 @stage_New.f @ref07_New.f @law07_awake.f @stage_Stage_At.f @ref07_Stage_At.f @stage_Stage_Refine.f @ref07_Stage_Refine.f @stage_Stage_Learn.f @ref07_Stage_Learn.f N y1 y1n y1c y2 y3 y9 y10 y11 w K
theorem law07_StagePlays.lok7 : LoopOk Try.prog law07_StagePlays.L law07_StagePlays.b0 := by
  refine loop_ok tab_ok law07_StagePlays.C_ok (D := law07_StagePlays.D) (law07_StagePlays.hn7) (law07_StagePlays.hx7) (by kernel_rfl) (by rw [law07_StagePlays.b0_loops]; exact lcons law07_StagePlays.lok16 (lnil)) ?_ ?_ ?_ ?_
  · intro f w K h
    unfold law07_StagePlays.hn7 at h
    obtain ⟨hlen, h⟩ := gN_ok h
    obtain ⟨y1, y1n, y1c, h1, h⟩ := gL_ok h
    obtain ⟨y2, h2, h⟩ := gI_ok h
    obtain ⟨y3, h3, h⟩ := gI_ok h
    obtain ⟨y9, h9, h⟩ := gP_ok h
    obtain ⟨y10, h10, h⟩ := gP_ok h
    obtain ⟨y11, h11, h⟩ := gI_ok h
    exact h
  · intro N f w K h
    unfold law07_StagePlays.hn7 at h
    obtain ⟨hlen, h⟩ := gN_ok h
    obtain ⟨y1, y1n, y1c, h1, h⟩ := gL_ok h
    obtain ⟨y2, h2, h⟩ := gI_ok h
    obtain ⟨y3, h3, h⟩ := gI_ok h
    obtain ⟨y9, h9, h⟩ := gP_ok h
    obtain ⟨y10, h10, h⟩ := gP_ok h
    obtain ⟨y11, h11, h⟩ := gI_ok h
    refine ⟨[none, some (Value.slice y1 y1n y1c), some (Value.int .i64 y2), some (Value.int .i64 y3), none, none, none, none, none, some (Value.pointer y9), some (Value.pointer y10), some (Value.int .i64 y11), none, none, none, none, none, none, none, none, none, none, none, none, none, none, none, none, none, none, none, none, none, none, none, none, none, none, none, none, none, none, none, none, none, none, none, none, none, none, none, none, none, none, none, none, none, none, none, none, none, none, none, none, none, none, none, none, none, none, none, none, none, none, none, none, none, none, none, none, none, none, none, none, none, none, none, none, none, none, none, none, none, none, none, none, none, none, none, none, none, none, none, none, none, none, none, none], hlen, ⟨h1, h2, h3, h9, h10, h11, trivial⟩, ?_⟩
    rw [law07_StagePlays.le7]
    exact h
  · intro e f w K h
    cases e with
    | normal => exact h.elim
    | exit i =>
      unfold law07_StagePlays.hx7 at h
      simp only at h
      split at h
      · rename_i hb
        obtain rfl := Nat.eq_of_beq_eq_true hb
        obtain ⟨hlen, h⟩ := gN_ok h
        exact ⟨[none, none, none, none, none, none, none, none, none, none, none, none, none, none, none, none, none, none, none, none, none, none, none, none, none, none, none, none, none, none, none, none, none, none, none, none, none, none, none, none, none, none, none, none, none, none, none, none, none, none, none, none, none, none, none, none, none, none, none, none, none, none, none, none, none, none, none, none, none, none, none, none, none, none, none, none, none, none, none, none, none, none, none, none, none, none, none, none, none, none, none, none, none, none, none, none, none, none, none, none, none, none, none, none, none, none, none, none], hlen, trivial, h⟩
      · exact (show False from h).elim
    | ret =>
      unfold law07_StagePlays.hx7 at h
      simp only at h
      obtain ⟨hlen, h⟩ := gN_ok h
      obtain ⟨o8, h8, h⟩ := gB_ok h
      exact ⟨[none, none, none, none, none, none, none, none, some (Value.bool o8), none, none, none, none, none, none, none, none, none, none, none, none, none, none, none, none, none, none, none, none, none, none, none, none, none, none, none, none, none, none, none, none, none, none, none, none, none, none, none, none, none, none, none, none, none, none, none, none, none, none, none, none, none, none, none, none, none, none, none, none, none, none, none, none, none, none, none, none, none, none, none, none, none, none, none, none, none, none, none, none, none, none, none, none, none, none, none, none, none, none, none, none, none, none, none, none, none, none, none], hlen, ⟨h8, trivial⟩, h⟩
  · intro f w K h
    have e : lid law07_StagePlays.b0 = 7 := by kernel_rfl
    rw [e] at h
    exact h
theorem law07_StagePlays.eqG (F15 : type_of% @stage_New.f) (F18 : type_of% @ref07_New.f) (F16 : type_of% @law07_awake.f) (F19 : type_of% @stage_Stage_At.f) (F20 : type_of% @ref07_Stage_At.f) (F17 : type_of% @stage_Stage_Refine.f) (F21 : type_of% @ref07_Stage_Refine.f) (F22 : type_of% @stage_Stage_Learn.f) (F23 : type_of% @ref07_Stage_Learn.f) (a0 : Int) (a1 : Option Addr) (a1n : Nat) (a1c : Nat) (a2 : Int) (a3 : Int) (w : World) (K : Value → World → Prop) : afn (law07_StagePlays.CG F15 F18 F16 F19 F20 F17 F21 F22 F23) law07_StagePlays.L law07_StagePlays.D tab Try.f4 [(Value.int .i64 a0), (Value.slice a1 a1n a1c), (Value.int .i64 a2), (Value.int .i64 a3)] w K = law07_StagePlays.G F15 F18 F16 F19 F20 F17 F21 F22 F23 a0 a1 a1n a1c a2 a3 w (fun r0 w => K (Value.bool r0) w) := by kernel_rfl
theorem law07_StagePlays.eq (a0 : Int) (a1 : Option Addr) (a1n : Nat) (a1c : Nat) (a2 : Int) (a3 : Int) (w : World) (K : Value → World → Prop) : afn law07_StagePlays.C law07_StagePlays.L law07_StagePlays.D tab Try.f4 [(Value.int .i64 a0), (Value.slice a1 a1n a1c), (Value.int .i64 a2), (Value.int .i64 a3)] w K = law07_StagePlays.f a0 a1 a1n a1c a2 a3 w (fun r0 w => K (Value.bool r0) w) := law07_StagePlays.eqG @stage_New.f @ref07_New.f @law07_awake.f @stage_Stage_At.f @ref07_Stage_At.f @stage_Stage_Refine.f @ref07_Stage_Refine.f @stage_Stage_Learn.f @ref07_Stage_Learn.f a0 a1 a1n a1c a2 a3 w K
theorem law07_StagePlays.ok : FSound Try.prog 4 law07_StagePlays.h := by
  intro args w K h
  unfold law07_StagePlays.h law07_StagePlays.H at h
  split at h
  ·
    replace h := vI_ok h
    obtain ⟨a0, rfl, h⟩ := h
    replace h := vL_ok h
    obtain ⟨a1, a1n, a1c, rfl, h⟩ := h
    replace h := vI_ok h
    obtain ⟨a2, rfl, h⟩ := h
    replace h := vI_ok h
    obtain ⟨a3, rfl, h⟩ := h
    refine ⟨by kernel_rfl, fn_ok tab_ok law07_StagePlays.C_ok (L := law07_StagePlays.L) (D := law07_StagePlays.D) Try.func4 law07_StagePlays.hb (by kernel_rfl) (by rw [law07_StagePlays.c_loops]; exact lcons law07_StagePlays.lok7 (lnil)) (Nat.le_of_ble_eq_true (by kernel_rfl)) ?_⟩
    rw [law07_StagePlays.eq]
    exact h
  · exact h.elim
end Go.Proofs.Ytdbnobeopgfhgaa.G
