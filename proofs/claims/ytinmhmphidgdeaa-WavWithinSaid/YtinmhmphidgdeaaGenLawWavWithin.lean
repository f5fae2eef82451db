/- Go functions as predicate transformers, written by a program of this session (gen.py), with their soundness. -/
import Derived.Test.YtinmhmphidgdeaaGen3
set_option linter.unusedVariables false
set_option linter.unusedSimpArgs false
set_option maxRecDepth 100000
namespace Go.Proofs.Ytinmhmphidgdeaa.G
open Go Go.Proofs.Ytinmhmphidgdeaa.Vm
/-! ### valise/valiselaw13.WavWithin: function 6 -/
def law13_WavWithin.f (a0 : Option Addr) (a0n : Nat) (a0c : Nat) (w : World) (K : Bool → World → Prop) : Prop :=
  bif (decide (((a0n : Nat) : Int) > 5000)) then
    law13_awake.f  w fun r8_5 w =>
    K r8_5 w
  else
    wav_Parse.f a0 a0n a0c w fun r11_7_0 r11_7_1 r11_7_2 r11_7_3 r11_8 w =>
    newC 26 [(Value.int .i64 0), (Value.int .i64 0), (Value.int .i64 0), (Value.int .i64 0)] w fun a3_9 w =>
    stCs a3_9 [(Value.int .i64 r11_7_0), (Value.int .i64 r11_7_1), (Value.int .i64 r11_7_2), (Value.int .i64 r11_7_3)] 0 w fun w =>
    let J_21 := fun (j19_13 : Bool) (w : World) =>
      ((bif j19_13 then
        law13_awake.f  w fun r20_15 w =>
        bif r20_15 then
          ldI .i64 (a3_9.add 0) w fun x22_16 =>
          ldI .i64 (a3_9.add 1) w fun x22_17 =>
          ldI .i64 (a3_9.add 2) w fun x22_18 =>
          ldI .i64 (a3_9.add 3) w fun x22_19 =>
          eqI .i64 4 #[(Value.int .i64 x22_16), (Value.int .i64 x22_17), (Value.int .i64 x22_18), (Value.int .i64 x22_19)] #[(Value.int .i64 0), (Value.int .i64 0), (Value.int .i64 0), (Value.int .i64 0)] fun e_20 =>
          K e_20 w
        else
          K false w
      else
        ldI .i64 a3_9 w fun x27_23 =>
        bif (decide (x27_23 ≥ 1)) then
          ldI .i64 a3_9 w fun x31_24 =>
          bif (decide (x31_24 ≤ 8)) then
            ldI .i64 (a3_9.add 1) w fun x36_25 =>
            bif (x36_25 == 8) then
              ldI .i64 (a3_9.add 2) w fun x46_26 =>
              bif (decide (x46_26 ≥ 44)) then
                ldI .i64 (a3_9.add 2) w fun x51_27 =>
                ldI .i64 (a3_9.add 3) w fun x53_28 =>
                bif (decide (x51_27 < x53_28)) then
                  ldI .i64 (a3_9.add 3) w fun x58_29 =>
                  bif (decide (x58_29 ≤ ((a0n : Nat) : Int))) then
                    ldI .i64 (a3_9.add 3) w fun x65_30 =>
                    ldI .i64 (a3_9.add 2) w fun x67_31 =>
                    ldI .i64 a3_9 w fun x70_32 =>
                    ldI .i64 (a3_9.add 1) w fun x72_33 =>
                    if (IntKind.wrap .i64 (Int.tdiv (IntKind.wrap .i64 (x70_32 * x72_33)) 8)) = 0 then False else
                    let v2_34 := ((Int.tmod (IntKind.wrap .i64 (x65_30 - x67_31)) (IntKind.wrap .i64 (Int.tdiv (IntKind.wrap .i64 (x70_32 * x72_33)) 8))) == 0)
                    K v2_34 w
                  else
                    K false w
                else
                  K false w
              else
                K false w
            else
              ldI .i64 (a3_9.add 1) w fun x40_35 =>
              bif (x40_35 == 16) then
                ldI .i64 (a3_9.add 2) w fun x46_36 =>
                bif (decide (x46_36 ≥ 44)) then
                  ldI .i64 (a3_9.add 2) w fun x51_37 =>
                  ldI .i64 (a3_9.add 3) w fun x53_38 =>
                  bif (decide (x51_37 < x53_38)) then
                    ldI .i64 (a3_9.add 3) w fun x58_39 =>
                    bif (decide (x58_39 ≤ ((a0n : Nat) : Int))) then
                      ldI .i64 (a3_9.add 3) w fun x65_40 =>
                      ldI .i64 (a3_9.add 2) w fun x67_41 =>
                      ldI .i64 a3_9 w fun x70_42 =>
                      ldI .i64 (a3_9.add 1) w fun x72_43 =>
                      if (IntKind.wrap .i64 (Int.tdiv (IntKind.wrap .i64 (x70_42 * x72_43)) 8)) = 0 then False else
                      let v2_44 := ((Int.tmod (IntKind.wrap .i64 (x65_40 - x67_41)) (IntKind.wrap .i64 (Int.tdiv (IntKind.wrap .i64 (x70_42 * x72_43)) 8))) == 0)
                      K v2_44 w
                    else
                      K false w
                  else
                    K false w
                else
                  K false w
              else
                K false w
          else
            K false w
        else
          K false w) : Prop)
    law13_awake.f  w fun r14_12 w =>
    bif (!r14_12) then
      J_21 true w
    else
      J_21 (!r11_8) w
def law13_WavWithin.H (F : type_of% @law13_WavWithin.f) : Hf := fun args w K => match args with
  | [v0] => vL v0 fun a0 a0n a0c => F a0 a0n a0c w (fun r0 w => K (Value.bool r0) w)
  | _ => False
def law13_WavWithin.h : Hf := law13_WavWithin.H @law13_WavWithin.f
def law13_WavWithin.CG (F13 : type_of% @law13_awake.f) (F15 : type_of% @wav_Parse.f) : Hd := hcons 15 (wav_Parse.H F15) (hcons 13 (law13_awake.H F13) (hnil))
def law13_WavWithin.C : Hd := law13_WavWithin.CG @law13_awake.f @wav_Parse.f
def law13_WavWithin.G (F13 : type_of% @law13_awake.f) (F15 : type_of% @wav_Parse.f) (a0 : Option Addr) (a0n : Nat) (a0c : Nat) (w : World) (K : Bool → World → Prop) : Prop :=
  bif (decide (((a0n : Nat) : Int) > 5000)) then
    F13  w fun r8_5 w =>
    K r8_5 w
  else
    F15 a0 a0n a0c w fun r11_7_0 r11_7_1 r11_7_2 r11_7_3 r11_8 w =>
    newC 26 [(Value.int .i64 0), (Value.int .i64 0), (Value.int .i64 0), (Value.int .i64 0)] w fun a3_9 w =>
    stCs a3_9 [(Value.int .i64 r11_7_0), (Value.int .i64 r11_7_1), (Value.int .i64 r11_7_2), (Value.int .i64 r11_7_3)] 0 w fun w =>
    let J_21 := fun (j19_13 : Bool) (w : World) =>
      ((bif j19_13 then
        F13  w fun r20_15 w =>
        bif r20_15 then
          ldI .i64 (a3_9.add 0) w fun x22_16 =>
          ldI .i64 (a3_9.add 1) w fun x22_17 =>
          ldI .i64 (a3_9.add 2) w fun x22_18 =>
          ldI .i64 (a3_9.add 3) w fun x22_19 =>
          eqI .i64 4 #[(Value.int .i64 x22_16), (Value.int .i64 x22_17), (Value.int .i64 x22_18), (Value.int .i64 x22_19)] #[(Value.int .i64 0), (Value.int .i64 0), (Value.int .i64 0), (Value.int .i64 0)] fun e_20 =>
          K e_20 w
        else
          K false w
      else
        ldI .i64 a3_9 w fun x27_23 =>
        bif (decide (x27_23 ≥ 1)) then
          ldI .i64 a3_9 w fun x31_24 =>
          bif (decide (x31_24 ≤ 8)) then
            ldI .i64 (a3_9.add 1) w fun x36_25 =>
            bif (x36_25 == 8) then
              ldI .i64 (a3_9.add 2) w fun x46_26 =>
              bif (decide (x46_26 ≥ 44)) then
                ldI .i64 (a3_9.add 2) w fun x51_27 =>
                ldI .i64 (a3_9.add 3) w fun x53_28 =>
                bif (decide (x51_27 < x53_28)) then
                  ldI .i64 (a3_9.add 3) w fun x58_29 =>
                  bif (decide (x58_29 ≤ ((a0n : Nat) : Int))) then
                    ldI .i64 (a3_9.add 3) w fun x65_30 =>
                    ldI .i64 (a3_9.add 2) w fun x67_31 =>
                    ldI .i64 a3_9 w fun x70_32 =>
                    ldI .i64 (a3_9.add 1) w fun x72_33 =>
                    if (IntKind.wrap .i64 (Int.tdiv (IntKind.wrap .i64 (x70_32 * x72_33)) 8)) = 0 then False else
                    let v2_34 := ((Int.tmod (IntKind.wrap .i64 (x65_30 - x67_31)) (IntKind.wrap .i64 (Int.tdiv (IntKind.wrap .i64 (x70_32 * x72_33)) 8))) == 0)
                    K v2_34 w
                  else
                    K false w
                else
                  K false w
              else
                K false w
            else
              ldI .i64 (a3_9.add 1) w fun x40_35 =>
              bif (x40_35 == 16) then
                ldI .i64 (a3_9.add 2) w fun x46_36 =>
                bif (decide (x46_36 ≥ 44)) then
                  ldI .i64 (a3_9.add 2) w fun x51_37 =>
                  ldI .i64 (a3_9.add 3) w fun x53_38 =>
                  bif (decide (x51_37 < x53_38)) then
                    ldI .i64 (a3_9.add 3) w fun x58_39 =>
                    bif (decide (x58_39 ≤ ((a0n : Nat) : Int))) then
                      ldI .i64 (a3_9.add 3) w fun x65_40 =>
                      ldI .i64 (a3_9.add 2) w fun x67_41 =>
                      ldI .i64 a3_9 w fun x70_42 =>
                      ldI .i64 (a3_9.add 1) w fun x72_43 =>
                      if (IntKind.wrap .i64 (Int.tdiv (IntKind.wrap .i64 (x70_42 * x72_43)) 8)) = 0 then False else
                      let v2_44 := ((Int.tmod (IntKind.wrap .i64 (x65_40 - x67_41)) (IntKind.wrap .i64 (Int.tdiv (IntKind.wrap .i64 (x70_42 * x72_43)) 8))) == 0)
                      K v2_44 w
                    else
                      K false w
                  else
                    K false w
                else
                  K false w
              else
                K false w
          else
            K false w
        else
          K false w) : Prop)
    F13  w fun r14_12 w =>
    bif (!r14_12) then
      J_21 true w
    else
      J_21 (!r11_8) w
theorem law13_WavWithin.C_ok : CSound Try.prog law13_WavWithin.C := hcons_ok wav_Parse.ok (hcons_ok law13_awake.ok (hnil_ok))
def law13_WavWithin.D : Nat → Plan := fun i => .done
noncomputable def law13_WavWithin.c : Code := Try.f6.body.getD .skip
theorem law13_WavWithin.hb : Try.f6.body = some law13_WavWithin.c := by kernel_rfl
theorem law13_WavWithin.c_loops : loopsOf law13_WavWithin.c = [] := by kernel_rfl
def law13_WavWithin.L : LHd := fun l f w K => False
theorem law13_WavWithin.eqG (F13 : type_of% @law13_awake.f) (F15 : type_of% @wav_Parse.f) (a0 : Option Addr) (a0n : Nat) (a0c : Nat) (w : World) (K : Value → World → Prop) : afn (law13_WavWithin.CG F13 F15) law13_WavWithin.L law13_WavWithin.D tab Try.f6 [(Value.slice a0 a0n a0c)] w K = law13_WavWithin.G F13 F15 a0 a0n a0c w (fun r0 w => K (Value.bool r0) w) := by kernel_rfl
theorem law13_WavWithin.eq (a0 : Option Addr) (a0n : Nat) (a0c : Nat) (w : World) (K : Value → World → Prop) : afn law13_WavWithin.C law13_WavWithin.L law13_WavWithin.D tab Try.f6 [(Value.slice a0 a0n a0c)] w K = law13_WavWithin.f a0 a0n a0c w (fun r0 w => K (Value.bool r0) w) := law13_WavWithin.eqG @law13_awake.f @wav_Parse.f a0 a0n a0c w K
theorem law13_WavWithin.ok : FSound Try.prog 6 law13_WavWithin.h := by
  intro args w K h
  unfold law13_WavWithin.h law13_WavWithin.H at h
  split at h
  ·
    replace h := vL_ok h
    obtain ⟨a0, a0n, a0c, rfl, h⟩ := h
    refine ⟨by kernel_rfl, fn_ok tab_ok law13_WavWithin.C_ok (L := law13_WavWithin.L) (D := law13_WavWithin.D) Try.func6 law13_WavWithin.hb (by kernel_rfl) (by rw [law13_WavWithin.c_loops]; exact lnil) (Nat.le_of_ble_eq_true (by kernel_rfl)) ?_⟩
    rw [law13_WavWithin.eq]
    exact h
  · exact h.elim
end Go.Proofs.Ytinmhmphidgdeaa.G
