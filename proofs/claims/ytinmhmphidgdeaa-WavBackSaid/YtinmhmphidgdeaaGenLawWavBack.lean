/- Go functions as predicate transformers, written by a program of this session (gen.py), with their soundness. -/
import Derived.Test.YtinmhmphidgdeaaGen3
set_option linter.unusedVariables false
set_option linter.unusedSimpArgs false
set_option maxRecDepth 100000
namespace Go.Proofs.Ytinmhmphidgdeaa.G
open Go Go.Proofs.Ytinmhmphidgdeaa.Vm
/-! ### valise/valiselaw13.WavBack: function 5 -/
def law13_WavBack.f (a0 : Int) (a1 : Int) (a2 : Option Addr) (a2n : Nat) (a2c : Nat) (a3 : Option Addr) (a3n : Nat) (a3c : Nat) (w : World) (K : Bool → World → Prop) : Prop :=
  bif (decide (((a2n : Nat) : Int) > 3000)) then
    law13_awake.f  w fun r23_5 w =>
    K r23_5 w
  else
    bif (decide (((a3n : Nat) : Int) > 300)) then
      law13_awake.f  w fun r23_7 w =>
      K r23_7 w
    else
      newC 26 [(Value.int .i64 0), (Value.int .i64 0), (Value.int .i64 0), (Value.int .i64 0)] w fun a9_9 w =>
      stCs a9_9 [(Value.int .i64 (IntKind.wrap .i64 (1 + (IntKind.wrap .i64 (Int.tmod (IntKind.wrap .u64 a0) 8))))), (Value.int .i64 (IntKind.wrap .i64 (8 + (IntKind.wrap .i64 (8 * (IntKind.wrap .i64 (Int.tmod (IntKind.wrap .u64 a1) 2))))))), (Value.int .i64 0), (Value.int .i64 0)] 0 w fun w =>
      ldI .i64 (a9_9.add 0) w fun x36_11 =>
      ldI .i64 (a9_9.add 1) w fun x36_12 =>
      ldI .i64 (a9_9.add 2) w fun x36_13 =>
      ldI .i64 (a9_9.add 3) w fun x36_14 =>
      wav_Make.f x36_11 x36_12 x36_13 x36_14 a2 a2n a2c w fun r38_15 r38_15n r38_15c w =>
      help_CopyBytes.f r38_15 r38_15n r38_15c w fun r41_17 r41_17n r41_17c w =>
      appL 5 1 1 [(Value.int .u8 0)] r41_17 r41_17n r41_17c a3 a3n a3c w fun a43_18 a43_18n a43_18c w =>
      wav_Parse.f a43_18 a43_18n a43_18c w fun r44_19_0 r44_19_1 r44_19_2 r44_19_3 r44_20 w =>
      newC 26 [(Value.int .i64 0), (Value.int .i64 0), (Value.int .i64 0), (Value.int .i64 0)] w fun a11_21 w =>
      stCs a11_21 [(Value.int .i64 r44_19_0), (Value.int .i64 r44_19_1), (Value.int .i64 r44_19_2), (Value.int .i64 r44_19_3)] 0 w fun w =>
      ldI .i64 a9_9 w fun x48_23 =>
      ldI .i64 (a9_9.add 1) w fun x50_24 =>
      let v13_25 := (IntKind.wrap .i64 (Int.tdiv (IntKind.wrap .i64 (x48_23 * x50_24)) 8))
      if v13_25 = 0 then False else
      let v14_27 := (IntKind.wrap .i64 ((IntKind.wrap .i64 (Int.tdiv ((a2n : Nat) : Int) v13_25)) * v13_25))
      bif (v14_27 == 0) then
        law13_awake.f  w fun r61_31 w =>
        bif r61_31 then
          bif (!r44_20) then
            ldI .i64 (a11_21.add 0) w fun x67_32 =>
            ldI .i64 (a11_21.add 1) w fun x67_33 =>
            ldI .i64 (a11_21.add 2) w fun x67_34 =>
            ldI .i64 (a11_21.add 3) w fun x67_35 =>
            eqI .i64 4 #[(Value.int .i64 x67_32), (Value.int .i64 x67_33), (Value.int .i64 x67_34), (Value.int .i64 x67_35)] #[(Value.int .i64 0), (Value.int .i64 0), (Value.int .i64 0), (Value.int .i64 0)] fun e_36 =>
            K e_36 w
          else
            K false w
        else
          K false w
      else
        law13_awake.f  w fun r71_38 w =>
        bif r71_38 then
          bif r44_20 then
            ldI .i64 (a11_21.add 0) w fun x76_39 =>
            ldI .i64 (a11_21.add 1) w fun x76_40 =>
            ldI .i64 (a11_21.add 2) w fun x76_41 =>
            ldI .i64 (a11_21.add 3) w fun x76_42 =>
            ldI .i64 a9_9 w fun x78_43 =>
            ldI .i64 (a9_9.add 1) w fun x80_44 =>
            eqI .i64 4 #[(Value.int .i64 x76_39), (Value.int .i64 x76_40), (Value.int .i64 x76_41), (Value.int .i64 x76_42)] #[(Value.int .i64 x78_43), (Value.int .i64 x80_44), (Value.int .i64 44), (Value.int .i64 (IntKind.wrap .i64 (44 + v14_27)))] fun e_45 =>
            bif e_45 then
              ldI .i64 (a9_9.add 0) w fun x88_46 =>
              ldI .i64 (a9_9.add 1) w fun x88_47 =>
              ldI .i64 (a9_9.add 2) w fun x88_48 =>
              ldI .i64 (a9_9.add 3) w fun x88_49 =>
              ref13_Make.f x88_46 x88_47 x88_48 x88_49 a2 a2n a2c w fun r90_50 r90_50n r90_50c w =>
              help_Bytes.f r38_15 r38_15n r38_15c r90_50 r90_50n r90_50c w fun r91_51 w =>
              K r91_51 w
            else
              K false w
          else
            K false w
        else
          K false w
def law13_WavBack.H (F : type_of% @law13_WavBack.f) : Hf := fun args w K => match args with
  | [v0, v1, v2, v3] => vI .i64 v0 fun a0 => vI .i64 v1 fun a1 => vL v2 fun a2 a2n a2c => vL v3 fun a3 a3n a3c => F a0 a1 a2 a2n a2c a3 a3n a3c w (fun r0 w => K (Value.bool r0) w)
  | _ => False
def law13_WavBack.h : Hf := law13_WavBack.H @law13_WavBack.f
def law13_WavBack.CG (F13 : type_of% @law13_awake.f) (F19 : type_of% @wav_Make.f) (F21 : type_of% @help_CopyBytes.f) (F15 : type_of% @wav_Parse.f) (F20 : type_of% @ref13_Make.f) (F18 : type_of% @help_Bytes.f) : Hd := hcons 18 (help_Bytes.H F18) (hcons 20 (ref13_Make.H F20) (hcons 15 (wav_Parse.H F15) (hcons 21 (help_CopyBytes.H F21) (hcons 19 (wav_Make.H F19) (hcons 13 (law13_awake.H F13) (hnil))))))
def law13_WavBack.C : Hd := law13_WavBack.CG @law13_awake.f @wav_Make.f @help_CopyBytes.f @wav_Parse.f @ref13_Make.f @help_Bytes.f
def law13_WavBack.G (F13 : type_of% @law13_awake.f) (F19 : type_of% @wav_Make.f) (F21 : type_of% @help_CopyBytes.f) (F15 : type_of% @wav_Parse.f) (F20 : type_of% @ref13_Make.f) (F18 : type_of% @help_Bytes.f) (a0 : Int) (a1 : Int) (a2 : Option Addr) (a2n : Nat) (a2c : Nat) (a3 : Option Addr) (a3n : Nat) (a3c : Nat) (w : World) (K : Bool → World → Prop) : Prop :=
  bif (decide (((a2n : Nat) : Int) > 3000)) then
    F13  w fun r23_5 w =>
    K r23_5 w
  else
    bif (decide (((a3n : Nat) : Int) > 300)) then
      F13  w fun r23_7 w =>
      K r23_7 w
    else
      newC 26 [(Value.int .i64 0), (Value.int .i64 0), (Value.int .i64 0), (Value.int .i64 0)] w fun a9_9 w =>
      stCs a9_9 [(Value.int .i64 (IntKind.wrap .i64 (1 + (IntKind.wrap .i64 (Int.tmod (IntKind.wrap .u64 a0) 8))))), (Value.int .i64 (IntKind.wrap .i64 (8 + (IntKind.wrap .i64 (8 * (IntKind.wrap .i64 (Int.tmod (IntKind.wrap .u64 a1) 2))))))), (Value.int .i64 0), (Value.int .i64 0)] 0 w fun w =>
      ldI .i64 (a9_9.add 0) w fun x36_11 =>
      ldI .i64 (a9_9.add 1) w fun x36_12 =>
      ldI .i64 (a9_9.add 2) w fun x36_13 =>
      ldI .i64 (a9_9.add 3) w fun x36_14 =>
      F19 x36_11 x36_12 x36_13 x36_14 a2 a2n a2c w fun r38_15 r38_15n r38_15c w =>
      F21 r38_15 r38_15n r38_15c w fun r41_17 r41_17n r41_17c w =>
      appL 5 1 1 [(Value.int .u8 0)] r41_17 r41_17n r41_17c a3 a3n a3c w fun a43_18 a43_18n a43_18c w =>
      F15 a43_18 a43_18n a43_18c w fun r44_19_0 r44_19_1 r44_19_2 r44_19_3 r44_20 w =>
      newC 26 [(Value.int .i64 0), (Value.int .i64 0), (Value.int .i64 0), (Value.int .i64 0)] w fun a11_21 w =>
      stCs a11_21 [(Value.int .i64 r44_19_0), (Value.int .i64 r44_19_1), (Value.int .i64 r44_19_2), (Value.int .i64 r44_19_3)] 0 w fun w =>
      ldI .i64 a9_9 w fun x48_23 =>
      ldI .i64 (a9_9.add 1) w fun x50_24 =>
      let v13_25 := (IntKind.wrap .i64 (Int.tdiv (IntKind.wrap .i64 (x48_23 * x50_24)) 8))
      if v13_25 = 0 then False else
      let v14_27 := (IntKind.wrap .i64 ((IntKind.wrap .i64 (Int.tdiv ((a2n : Nat) : Int) v13_25)) * v13_25))
      bif (v14_27 == 0) then
        F13  w fun r61_31 w =>
        bif r61_31 then
          bif (!r44_20) then
            ldI .i64 (a11_21.add 0) w fun x67_32 =>
            ldI .i64 (a11_21.add 1) w fun x67_33 =>
            ldI .i64 (a11_21.add 2) w fun x67_34 =>
            ldI .i64 (a11_21.add 3) w fun x67_35 =>
            eqI .i64 4 #[(Value.int .i64 x67_32), (Value.int .i64 x67_33), (Value.int .i64 x67_34), (Value.int .i64 x67_35)] #[(Value.int .i64 0), (Value.int .i64 0), (Value.int .i64 0), (Value.int .i64 0)] fun e_36 =>
            K e_36 w
          else
            K false w
        else
          K false w
      else
        F13  w fun r71_38 w =>
        bif r71_38 then
          bif r44_20 then
            ldI .i64 (a11_21.add 0) w fun x76_39 =>
            ldI .i64 (a11_21.add 1) w fun x76_40 =>
            ldI .i64 (a11_21.add 2) w fun x76_41 =>
            ldI .i64 (a11_21.add 3) w fun x76_42 =>
            ldI .i64 a9_9 w fun x78_43 =>
            ldI .i64 (a9_9.add 1) w fun x80_44 =>
            eqI .i64 4 #[(Value.int .i64 x76_39), (Value.int .i64 x76_40), (Value.int .i64 x76_41), (Value.int .i64 x76_42)] #[(Value.int .i64 x78_43), (Value.int .i64 x80_44), (Value.int .i64 44), (Value.int .i64 (IntKind.wrap .i64 (44 + v14_27)))] fun e_45 =>
            bif e_45 then
              ldI .i64 (a9_9.add 0) w fun x88_46 =>
              ldI .i64 (a9_9.add 1) w fun x88_47 =>
              ldI .i64 (a9_9.add 2) w fun x88_48 =>
              ldI .i64 (a9_9.add 3) w fun x88_49 =>
              F20 x88_46 x88_47 x88_48 x88_49 a2 a2n a2c w fun r90_50 r90_50n r90_50c w =>
              F18 r38_15 r38_15n r38_15c r90_50 r90_50n r90_50c w fun r91_51 w =>
              K r91_51 w
            else
              K false w
          else
            K false w
        else
          K false w
theorem law13_WavBack.C_ok : CSound Try.prog law13_WavBack.C := hcons_ok help_Bytes.ok (hcons_ok ref13_Make.ok (hcons_ok wav_Parse.ok (hcons_ok help_CopyBytes.ok (hcons_ok wav_Make.ok (hcons_ok law13_awake.ok (hnil_ok))))))
def law13_WavBack.D : Nat → Plan := fun i => .done
noncomputable def law13_WavBack.c : Code := Try.f5.body.getD .skip
theorem law13_WavBack.hb : Try.f5.body = some law13_WavBack.c := by kernel_rfl
theorem law13_WavBack.c_loops : loopsOf law13_WavBack.c = [] := by kernel_rfl
def law13_WavBack.L : LHd := fun l f w K => False
theorem law13_WavBack.eqG (F13 : type_of% @law13_awake.f) (F19 : type_of% @wav_Make.f) (F21 : type_of% @help_CopyBytes.f) (F15 : type_of% @wav_Parse.f) (F20 : type_of% @ref13_Make.f) (F18 : type_of% @help_Bytes.f) (a0 : Int) (a1 : Int) (a2 : Option Addr) (a2n : Nat) (a2c : Nat) (a3 : Option Addr) (a3n : Nat) (a3c : Nat) (w : World) (K : Value → World → Prop) : afn (law13_WavBack.CG F13 F19 F21 F15 F20 F18) law13_WavBack.L law13_WavBack.D tab Try.f5 [(Value.int .i64 a0), (Value.int .i64 a1), (Value.slice a2 a2n a2c), (Value.slice a3 a3n a3c)] w K = law13_WavBack.G F13 F19 F21 F15 F20 F18 a0 a1 a2 a2n a2c a3 a3n a3c w (fun r0 w => K (Value.bool r0) w) := by kernel_rfl
theorem law13_WavBack.eq (a0 : Int) (a1 : Int) (a2 : Option Addr) (a2n : Nat) (a2c : Nat) (a3 : Option Addr) (a3n : Nat) (a3c : Nat) (w : World) (K : Value → World → Prop) : afn law13_WavBack.C law13_WavBack.L law13_WavBack.D tab Try.f5 [(Value.int .i64 a0), (Value.int .i64 a1), (Value.slice a2 a2n a2c), (Value.slice a3 a3n a3c)] w K = law13_WavBack.f a0 a1 a2 a2n a2c a3 a3n a3c w (fun r0 w => K (Value.bool r0) w) := law13_WavBack.eqG @law13_awake.f @wav_Make.f @help_CopyBytes.f @wav_Parse.f @ref13_Make.f @help_Bytes.f a0 a1 a2 a2n a2c a3 a3n a3c w K
theorem law13_WavBack.ok : FSound Try.prog 5 law13_WavBack.h := by
  intro args w K h
  unfold law13_WavBack.h law13_WavBack.H at h
  split at h
  ·
    replace h := vI_ok h
    obtain ⟨a0, rfl, h⟩ := h
    replace h := vI_ok h
    obtain ⟨a1, rfl, h⟩ := h
    replace h := vL_ok h
    obtain ⟨a2, a2n, a2c, rfl, h⟩ := h
    replace h := vL_ok h
    obtain ⟨a3, a3n, a3c, rfl, h⟩ := h
    refine ⟨by kernel_rfl, fn_ok tab_ok law13_WavBack.C_ok (L := law13_WavBack.L) (D := law13_WavBack.D) Try.func5 law13_WavBack.hb (by kernel_rfl) (by rw [law13_WavBack.c_loops]; exact lnil) (Nat.le_of_ble_eq_true (by kernel_rfl)) ?_⟩
    rw [law13_WavBack.eq]
    exact h
  · exact h.elim
end Go.Proofs.Ytinmhmphidgdeaa.G
