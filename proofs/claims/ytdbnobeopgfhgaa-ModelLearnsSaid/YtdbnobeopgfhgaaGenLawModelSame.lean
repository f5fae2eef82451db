/- Go functions as predicate transformers, written by a program of this session (gen.py), with their soundness. -/
import Derived.Test.YtdbnobeopgfhgaaGen4
set_option linter.unusedVariables false
set_option linter.unusedSimpArgs false
set_option maxRecDepth 100000
namespace Go.Proofs.Ytdbnobeopgfhgaa.G
open Go Go.Proofs.Ytdbnobeopgfhgaa.Vm
/-! ### valise/valiselaw08.ModelSame: function 9 -/
def law08_ModelSame.l5 : Nat → Option Addr → Nat → Nat → Option Addr → Nat → Nat → Option Addr → Option Addr → Option Addr → Int → World → (Option Addr → Option Addr → World → Prop) → (Bool → World → Prop) → Prop
  | 0, _, _, _, _, _, _, _, _, _, _, _, _, _ => False
  | N + 1, y1, y1n, y1c, y2, y2n, y2c, y7, y8, y9, y10, w, K0, Kr =>
    bif (decide (y10 < ((y1n : Nat) : Int))) then
      bif (decide (y10 < 400)) then
        let J_39 := fun (j11_23 : Int) (w : World) =>
          ((model_Model_Chance.f y7 w fun r48_25 w =>
          bif (decide (r48_25 < 1)) then
            Kr false w
          else
            bif (decide (r48_25 > 4095)) then
              Kr false w
            else
              model_Model_Chance.f y8 w fun r58_28 w =>
              bif (r48_25 != r58_28) then
                Kr false w
              else
                model_Model_Learn.f y7 j11_23 w fun w =>
                model_Model_Learn.f y8 j11_23 w fun w =>
                bif (decide (y10 < ((y2n : Nat) : Int))) then
                  model_Model_Learn.f y9 j11_23 w fun w =>
                  sm y2 fun p_37 =>
                  if 0 ≤ (y10 : Int) ∧ (y10 : Int) < ((y2n : Nat) : Int) then
                  ldB (p_37.add (Int.toNat y10)) w fun x77_38 =>
                  bif x77_38 then
                    model_Model_Learn.f y9 1 w fun w =>
                    let v10_40 := (IntKind.wrap .i64 (y10 + 1))
                    law08_ModelSame.l5 N y1 y1n y1c y2 y2n y2c y7 y8 y9 v10_40 w K0 Kr
                  else
                    let v10_41 := (IntKind.wrap .i64 (y10 + 1))
                    law08_ModelSame.l5 N y1 y1n y1c y2 y2n y2c y7 y8 y9 v10_41 w K0 Kr
                  else False
                else
                  let v10_42 := (IntKind.wrap .i64 (y10 + 1))
                  law08_ModelSame.l5 N y1 y1n y1c y2 y2n y2c y7 y8 y9 v10_42 w K0 Kr) : Prop)
        sm y1 fun p_21 =>
        if 0 ≤ (y10 : Int) ∧ (y10 : Int) < ((y1n : Nat) : Int) then
        ldB (p_21.add (Int.toNat y10)) w fun x46_22 =>
        bif x46_22 then
          J_39 1 w
        else
          J_39 0 w
        else False
      else
        K0 y7 y8 w
    else
      K0 y7 y8 w

def law08_ModelSame.f (a0 : Int) (a1 : Option Addr) (a1n : Nat) (a1c : Nat) (a2 : Option Addr) (a2n : Nat) (a2c : Nat) (w : World) (K : Bool → World → Prop) : Prop :=
  model_New.f a0 w fun r14_3 w =>
  model_New.f a0 w fun r16_4 w =>
  model_New.f a0 w fun r18_5 w =>
  law08_awake.f  w fun r19_8 w =>
  bif (!r19_8) then
    K false w
  else
    bif r14_3.isNone then
      K false w
    else
      bif r16_4.isNone then
        K false w
      else
        bif r18_5.isNone then
          K false w
        else
          ∃ N_43 : Nat, law08_ModelSame.l5 N_43 a1 a1n a1c a2 a2n a2c r14_3 r16_4 r18_5 0 w
          (fun o7_44 o8_45 w =>
            model_Model_Chance.f o7_44 w fun r81_48 w =>
            model_Model_Chance.f o8_45 w fun r83_49 w =>
            let v6_50 := (r81_48 == r83_49)
            K v6_50 w)
          (fun o6_46 w =>
            K o6_46 w)
def law08_ModelSame.H (F : type_of% @law08_ModelSame.f) : Hf := fun args w K => match args with
  | [v0, v1, v2] => vI .i64 v0 fun a0 => vL v1 fun a1 a1n a1c => vL v2 fun a2 a2n a2c => F a0 a1 a1n a1c a2 a2n a2c w (fun r0 w => K (Value.bool r0) w)
  | _ => False
def law08_ModelSame.h : Hf := law08_ModelSame.H @law08_ModelSame.f
def law08_ModelSame.CG (F24 : type_of% @model_New.f) (F26 : type_of% @law08_awake.f) (F27 : type_of% @model_Model_Chance.f) (F29 : type_of% @model_Model_Learn.f) : Hd := hcons 29 (model_Model_Learn.H F29) (hcons 27 (model_Model_Chance.H F27) (hcons 26 (law08_awake.H F26) (hcons 24 (model_New.H F24) (hnil))))
def law08_ModelSame.C : Hd := law08_ModelSame.CG @model_New.f @law08_awake.f @model_Model_Chance.f @model_Model_Learn.f
def law08_ModelSame.G (F24 : type_of% @model_New.f) (F26 : type_of% @law08_awake.f) (F27 : type_of% @model_Model_Chance.f) (F29 : type_of% @model_Model_Learn.f) (a0 : Int) (a1 : Option Addr) (a1n : Nat) (a1c : Nat) (a2 : Option Addr) (a2n : Nat) (a2c : Nat) (w : World) (K : Bool → World → Prop) : Prop :=
  F24 a0 w fun r14_3 w =>
  F24 a0 w fun r16_4 w =>
  F24 a0 w fun r18_5 w =>
  F26  w fun r19_8 w =>
  bif (!r19_8) then
    K false w
  else
    bif r14_3.isNone then
      K false w
    else
      bif r16_4.isNone then
        K false w
      else
        bif r18_5.isNone then
          K false w
        else
          ∃ N_43 : Nat, law08_ModelSame.l5 N_43 a1 a1n a1c a2 a2n a2c r14_3 r16_4 r18_5 0 w
          (fun o7_44 o8_45 w =>
            F27 o7_44 w fun r81_48 w =>
            F27 o8_45 w fun r83_49 w =>
            let v6_50 := (r81_48 == r83_49)
            K v6_50 w)
          (fun o6_46 w =>
            K o6_46 w)
theorem law08_ModelSame.C_ok : CSound Try.prog law08_ModelSame.C := hcons_ok model_Model_Learn.ok (hcons_ok model_Model_Chance.ok (hcons_ok law08_awake.ok (hcons_ok model_New.ok (hnil_ok))))
def law08_ModelSame.D : Nat → Plan := fun i => .done
noncomputable def law08_ModelSame.c : Code := Try.f9.body.getD .skip
theorem law08_ModelSame.hb : Try.f9.body = some law08_ModelSame.c := by kernel_rfl
noncomputable def law08_ModelSame.b0 : Code := (loopsOf law08_ModelSame.c).getD 0 .skip
theorem law08_ModelSame.b0_loops : loopsOf law08_ModelSame.b0 = [] := by kernel_rfl
theorem law08_ModelSame.c_loops : loopsOf law08_ModelSame.c = [law08_ModelSame.b0] := by kernel_rfl
def law08_ModelSame.l5G (F24 : type_of% @model_New.f) (F26 : type_of% @law08_awake.f) (F27 : type_of% @model_Model_Chance.f) (F29 : type_of% @model_Model_Learn.f) (R : Option Addr → Nat → Nat → Option Addr → Nat → Nat → Option Addr → Option Addr → Option Addr → Int → World → (Option Addr → Option Addr → World → Prop) → (Bool → World → Prop) → Prop) : Option Addr → Nat → Nat → Option Addr → Nat → Nat → Option Addr → Option Addr → Option Addr → Int → World → (Option Addr → Option Addr → World → Prop) → (Bool → World → Prop) → Prop := fun y1 y1n y1c y2 y2n y2c y7 y8 y9 y10 w K0 Kr =>
    bif (decide (y10 < ((y1n : Nat) : Int))) then
      bif (decide (y10 < 400)) then
        let J_39 := fun (j11_23 : Int) (w : World) =>
          ((F27 y7 w fun r48_25 w =>
          bif (decide (r48_25 < 1)) then
            Kr false w
          else
            bif (decide (r48_25 > 4095)) then
              Kr false w
            else
              F27 y8 w fun r58_28 w =>
              bif (r48_25 != r58_28) then
                Kr false w
              else
                F29 y7 j11_23 w fun w =>
                F29 y8 j11_23 w fun w =>
                bif (decide (y10 < ((y2n : Nat) : Int))) then
                  F29 y9 j11_23 w fun w =>
                  sm y2 fun p_37 =>
                  if 0 ≤ (y10 : Int) ∧ (y10 : Int) < ((y2n : Nat) : Int) then
                  ldB (p_37.add (Int.toNat y10)) w fun x77_38 =>
                  bif x77_38 then
                    F29 y9 1 w fun w =>
                    let v10_40 := (IntKind.wrap .i64 (y10 + 1))
                    R y1 y1n y1c y2 y2n y2c y7 y8 y9 v10_40 w K0 Kr
                  else
                    let v10_41 := (IntKind.wrap .i64 (y10 + 1))
                    R y1 y1n y1c y2 y2n y2c y7 y8 y9 v10_41 w K0 Kr
                  else False
                else
                  let v10_42 := (IntKind.wrap .i64 (y10 + 1))
                  R y1 y1n y1c y2 y2n y2c y7 y8 y9 v10_42 w K0 Kr) : Prop)
        sm y1 fun p_21 =>
        if 0 ≤ (y10 : Int) ∧ (y10 : Int) < ((y1n : Nat) : Int) then
        ldB (p_21.add (Int.toNat y10)) w fun x46_22 =>
        bif x46_22 then
          J_39 1 w
        else
          J_39 0 w
        else False
      else
        K0 y7 y8 w
    else
      K0 y7 y8 w

def law08_ModelSame.hn5 (N : Nat) (f : Fr) (w : World) (K : AExit → Fr → World → Prop) : Prop :=
  gN f 85 <| gL f 1 fun y1 y1n y1c => gL f 2 fun y2 y2n y2c => gP f 7 fun y7 => gP f 8 fun y8 => gP f 9 fun y9 => gI .i64 f 10 fun y10 => law08_ModelSame.l5 N y1 y1n y1c y2 y2n y2c y7 y8 y9 y10 w (fun o7 o8 w => K (.exit 0) [none, none, none, none, none, none, none, some (Value.pointer o7), some (Value.pointer o8), none, none, none, none, none, none, none, none, none, none, none, none, none, none, none, none, none, none, none, none, none, none, none, none, none, none, none, none, none, none, none, none, none, none, none, none, none, none, none, none, none, none, none, none, none, none, none, none, none, none, none, none, none, none, none, none, none, none, none, none, none, none, none, none, none, none, none, none, none, none, none, none, none, none, none, none] w) (fun o6 w => K .ret [none, none, none, none, none, none, some (Value.bool o6), none, none, none, none, none, none, none, none, none, none, none, none, none, none, none, none, none, none, none, none, none, none, none, none, none, none, none, none, none, none, none, none, none, none, none, none, none, none, none, none, none, none, none, none, none, none, none, none, none, none, none, none, none, none, none, none, none, none, none, none, none, none, none, none, none, none, none, none, none, none, none, none, none, none, none, none, none, none] w)
def law08_ModelSame.hx5 : AExit → Fr → World → (AExit → Fr → World → Prop) → Prop := fun e f w K => match e with
  | .normal => False
  | .exit i => (match Nat.beq i 0 with | true => gN f 85 <| gP f 7 fun o7 => gP f 8 fun o8 => K (.exit 0) [none, none, none, none, none, none, none, some (Value.pointer o7), some (Value.pointer o8), none, none, none, none, none, none, none, none, none, none, none, none, none, none, none, none, none, none, none, none, none, none, none, none, none, none, none, none, none, none, none, none, none, none, none, none, none, none, none, none, none, none, none, none, none, none, none, none, none, none, none, none, none, none, none, none, none, none, none, none, none, none, none, none, none, none, none, none, none, none, none, none, none, none, none, none] w | false => False)
  | .ret => gN f 85 <| gB f 6 fun o6 => K .ret [none, none, none, none, none, none, some (Value.bool o6), none, none, none, none, none, none, none, none, none, none, none, none, none, none, none, none, none, none, none, none, none, none, none, none, none, none, none, none, none, none, none, none, none, none, none, none, none, none, none, none, none, none, none, none, none, none, none, none, none, none, none, none, none, none, none, none, none, none, none, none, none, none, none, none, none, none, none, none, none, none, none, none, none, none, none, none, none, none] w
def law08_ModelSame.L : LHd := fun l f w K => (match Nat.beq l 5 with | true => ∃ N, law08_ModelSame.hn5 N f w K | false => False)
theorem law08_ModelSame.leG5 (F24 : type_of% @model_New.f) (F26 : type_of% @law08_awake.f) (F27 : type_of% @model_Model_Chance.f) (F29 : type_of% @model_Model_Learn.f) (N : Nat) (y1 : Option Addr) (y1n : Nat) (y1c : Nat) (y2 : Option Addr) (y2n : Nat) (y2c : Nat) (y7 : Option Addr) (y8 : Option Addr) (y9 : Option Addr) (y10 : Int) (w : World) (K : AExit → Fr → World → Prop) : awp (law08_ModelSame.CG F24 F26 F27 F29) law08_ModelSame.L law08_ModelSame.D tab law08_ModelSame.b0 (lpost law08_ModelSame.hn5 law08_ModelSame.hx5 N K) [none, some (Value.slice y1 y1n y1c), some (Value.slice y2 y2n y2c), none, none, none, none, some (Value.pointer y7), some (Value.pointer y8), some (Value.pointer y9), some (Value.int .i64 y10), none, none, none, none, none, none, none, none, none, none, none, none, none, none, none, none, none, none, none, none, none, none, none, none, none, none, none, none, none, none, none, none, none, none, none, none, none, none, none, none, none, none, none, none, none, none, none, none, none, none, none, none, none, none, none, none, none, none, none, none, none, none, none, none, none, none, none, none, none, none, none, none, none, none] w = law08_ModelSame.l5G F24 F26 F27 F29 (law08_ModelSame.l5 N) y1 y1n y1c y2 y2n y2c y7 y8 y9 y10 w (fun o7 o8 w => K (.exit 0) [none, none, none, none, none, none, none, some (Value.pointer o7), some (Value.pointer o8), none, none, none, none, none, none, none, none, none, none, none, none, none, none, none, none, none, none, none, none, none, none, none, none, none, none, none, none, none, none, none, none, none, none, none, none, none, none, none, none, none, none, none, none, none, none, none, none, none, none, none, none, none, none, none, none, none, none, none, none, none, none, none, none, none, none, none, none, none, none, none, none, none, none, none, none] w) (fun o6 w => K .ret [none, none, none, none, none, none, some (Value.bool o6), none, none, none, none, none, none, none, none, none, none, none, none, none, none, none, none, none, none, none, none, none, none, none, none, none, none, none, none, none, none, none, none, none, none, none, none, none, none, none, none, none, none, none, none, none, none, none, none, none, none, none, none, none, none, none, none, none, none, none, none, none, none, none, none, none, none, none, none, none, none, none, none, none, none, none, none, none, none] w) := by kernel_rfl
theorem law08_ModelSame.les5 (N : Nat) : law08_ModelSame.l5 (N + 1) = law08_ModelSame.l5G @model_New.f @law08_awake.f @model_Model_Chance.f @model_Model_Learn.f (law08_ModelSame.l5 N) := by kernel_rfl
theorem law08_ModelSame.le5 (N : Nat) (y1 : Option Addr) (y1n : Nat) (y1c : Nat) (y2 : Option Addr) (y2n : Nat) (y2c : Nat) (y7 : Option Addr) (y8 : Option Addr) (y9 : Option Addr) (y10 : Int) (w : World) (K : AExit → Fr → World → Prop) : awp law08_ModelSame.C law08_ModelSame.L law08_ModelSame.D tab law08_ModelSame.b0 (lpost law08_ModelSame.hn5 law08_ModelSame.hx5 N K) [none, some (Value.slice y1 y1n y1c), some (Value.slice y2 y2n y2c), none, none, none, none, some (Value.pointer y7), some (Value.pointer y8), some (Value.pointer y9), some (Value.int .i64 y10), none, none, none, none, none, none, none, none, none, none, none, none, none, none, none, none, none, none, none, none, none, none, none, none, none, none, none, none, none, none, none, none, none, none, none, none, none, none, none, none, none, none, none, none, none, none, none, none, none, none, none, none, none, none, none, none, none, none, none, none, none, none, none, none, none, none, none, none, none, none, none, none, none, none] w = law08_ModelSame.l5 (N + 1) y1 y1n y1c y2 y2n y2c y7 y8 y9 y10 w (fun o7 o8 w => K (.exit 0) [none, none, none, none, none, none, none, some (Value.pointer o7), some (Value.pointer o8), none, none, none, none, none, none, none, none, none, none, none, none, none, none, none, none, none, none, none, none, none, none, none, none, none, none, none, none, none, none, none, none, none, none, none, none, none, none, none, none, none, none, none, none, none, none, none, none, none, none, none, none, none, none, none, none, none, none, none, none, none, none, none, none, none, none, none, none, none, none, none, none, none, none, none, none] w) (fun o6 w => K .ret [none, none, none, none, none, none, some (Value.bool o6), none, none, none, none, none, none, none, none, none, none, none, none, none, none, none, none, none, none, none, none, none, none, none, none, none, none, none, none, none, none, none, none, none, none, none, none, none, none, none, none, none, none, none, none, none, none, none, none, none, none, none, none, none, none, none, none, none, none, none, none, none, none, none, none, none, none, none, none, none, none, none, none, none, none, none, none, none, none] w) := by
  rw [law08_ModelSame.les5]
  exact law08_ModelSame.leG5 @model_New.f @law08_awake.f @model_Model_Chance.f @model_Model_Learn.f N y1 y1n y1c y2 y2n y2c y7 y8 y9 y10 w K
theorem law08_ModelSame.lok5 : LoopOk Try.prog law08_ModelSame.L law08_ModelSame.b0 := by
  refine loop_ok tab_ok law08_ModelSame.C_ok (D := law08_ModelSame.D) (law08_ModelSame.hn5) (law08_ModelSame.hx5) (by kernel_rfl) (by rw [law08_ModelSame.b0_loops]; exact lnil) ?_ ?_ ?_ ?_
  · intro f w K h
    unfold law08_ModelSame.hn5 at h
    obtain ⟨hlen, h⟩ := gN_ok h
    obtain ⟨y1, y1n, y1c, h1, h⟩ := gL_ok h
    obtain ⟨y2, y2n, y2c, h2, h⟩ := gL_ok h
    obtain ⟨y7, h7, h⟩ := gP_ok h
    obtain ⟨y8, h8, h⟩ := gP_ok h
    obtain ⟨y9, h9, h⟩ := gP_ok h
    obtain ⟨y10, h10, h⟩ := gI_ok h
    exact h
  · intro N f w K h
    unfold law08_ModelSame.hn5 at h
    obtain ⟨hlen, h⟩ := gN_ok h
    obtain ⟨y1, y1n, y1c, h1, h⟩ := gL_ok h
    obtain ⟨y2, y2n, y2c, h2, h⟩ := gL_ok h
    obtain ⟨y7, h7, h⟩ := gP_ok h
    obtain ⟨y8, h8, h⟩ := gP_ok h
    obtain ⟨y9, h9, h⟩ := gP_ok h
    obtain ⟨y10, h10, h⟩ := gI_ok h
    refine ⟨[none, some (Value.slice y1 y1n y1c), some (Value.slice y2 y2n y2c), none, none, none, none, some (Value.pointer y7), some (Value.pointer y8), some (Value.pointer y9), some (Value.int .i64 y10), none, none, none, none, none, none, none, none, none, none, none, none, none, none, none, none, none, none, none, none, none, none, none, none, none, none, none, none, none, none, none, none, none, none, none, none, none, none, none, none, none, none, none, none, none, none, none, none, none, none, none, none, none, none, none, none, none, none, none, none, none, none, none, none, none, none, none, none, none, none, none, none, none, none], hlen, ⟨h1, h2, h7, h8, h9, h10, trivial⟩, ?_⟩
    rw [law08_ModelSame.le5]
    exact h
  · intro e f w K h
    cases e with
    | normal => exact h.elim
    | exit i =>
      unfold law08_ModelSame.hx5 at h
      simp only at h
      split at h
      · rename_i hb
        obtain rfl := Nat.eq_of_beq_eq_true hb
        obtain ⟨hlen, h⟩ := gN_ok h
        obtain ⟨o7, h7, h⟩ := gP_ok h
        obtain ⟨o8, h8, h⟩ := gP_ok h
        exact ⟨[none, none, none, none, none, none, none, some (Value.pointer o7), some (Value.pointer o8), none, none, none, none, none, none, none, none, none, none, none, none, none, none, none, none, none, none, none, none, none, none, none, none, none, none, none, none, none, none, none, none, none, none, none, none, none, none, none, none, none, none, none, none, none, none, none, none, none, none, none, none, none, none, none, none, none, none, none, none, none, none, none, none, none, none, none, none, none, none, none, none, none, none, none, none], hlen, ⟨h7, h8, trivial⟩, h⟩
      · exact (show False from h).elim
    | ret =>
      unfold law08_ModelSame.hx5 at h
      simp only at h
      obtain ⟨hlen, h⟩ := gN_ok h
      obtain ⟨o6, h6, h⟩ := gB_ok h
      exact ⟨[none, none, none, none, none, none, some (Value.bool o6), none, none, none, none, none, none, none, none, none, none, none, none, none, none, none, none, none, none, none, none, none, none, none, none, none, none, none, none, none, none, none, none, none, none, none, none, none, none, none, none, none, none, none, none, none, none, none, none, none, none, none, none, none, none, none, none, none, none, none, none, none, none, none, none, none, none, none, none, none, none, none, none, none, none, none, none, none, none], hlen, ⟨h6, trivial⟩, h⟩
  · intro f w K h
    have e : lid law08_ModelSame.b0 = 5 := by kernel_rfl
    rw [e] at h
    exact h
theorem law08_ModelSame.eqG (F24 : type_of% @model_New.f) (F26 : type_of% @law08_awake.f) (F27 : type_of% @model_Model_Chance.f) (F29 : type_of% @model_Model_Learn.f) (a0 : Int) (a1 : Option Addr) (a1n : Nat) (a1c : Nat) (a2 : Option Addr) (a2n : Nat) (a2c : Nat) (w : World) (K : Value → World → Prop) : afn (law08_ModelSame.CG F24 F26 F27 F29) law08_ModelSame.L law08_ModelSame.D tab Try.f9 [(Value.int .i64 a0), (Value.slice a1 a1n a1c), (Value.slice a2 a2n a2c)] w K = law08_ModelSame.G F24 F26 F27 F29 a0 a1 a1n a1c a2 a2n a2c w (fun r0 w => K (Value.bool r0) w) := by kernel_rfl
theorem law08_ModelSame.eq (a0 : Int) (a1 : Option Addr) (a1n : Nat) (a1c : Nat) (a2 : Option Addr) (a2n : Nat) (a2c : Nat) (w : World) (K : Value → World → Prop) : afn law08_ModelSame.C law08_ModelSame.L law08_ModelSame.D tab Try.f9 [(Value.int .i64 a0), (Value.slice a1 a1n a1c), (Value.slice a2 a2n a2c)] w K = law08_ModelSame.f a0 a1 a1n a1c a2 a2n a2c w (fun r0 w => K (Value.bool r0) w) := law08_ModelSame.eqG @model_New.f @law08_awake.f @model_Model_Chance.f @model_Model_Learn.f a0 a1 a1n a1c a2 a2n a2c w K
theorem law08_ModelSame.ok : FSound Try.prog 9 law08_ModelSame.h := by
  intro args w K h
  unfold law08_ModelSame.h law08_ModelSame.H at h
  split at h
  ·
    replace h := vI_ok h
    obtain ⟨a0, rfl, h⟩ := h
    replace h := vL_ok h
    obtain ⟨a1, a1n, a1c, rfl, h⟩ := h
    replace h := vL_ok h
    obtain ⟨a2, a2n, a2c, rfl, h⟩ := h
    refine ⟨by kernel_rfl, fn_ok tab_ok law08_ModelSame.C_ok (L := law08_ModelSame.L) (D := law08_ModelSame.D) Try.func9 law08_ModelSame.hb (by kernel_rfl) (by rw [law08_ModelSame.c_loops]; exact lcons law08_ModelSame.lok5 (lnil)) (Nat.le_of_ble_eq_true (by kernel_rfl)) ?_⟩
    rw [law08_ModelSame.eq]
    exact h
  · exact h.elim
end Go.Proofs.Ytdbnobeopgfhgaa.G
