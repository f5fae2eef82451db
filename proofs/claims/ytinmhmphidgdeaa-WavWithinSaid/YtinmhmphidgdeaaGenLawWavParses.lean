/- Go functions as predicate transformers, written by a program of this session (gen.py), with their soundness. -/
import Derived.Test.YtinmhmphidgdeaaGen3
set_option linter.unusedVariables false
set_option linter.unusedSimpArgs false
set_option maxRecDepth 100000
namespace Go.Proofs.Ytinmhmphidgdeaa.G
open Go Go.Proofs.Ytinmhmphidgdeaa.Vm
/-! ### valise/valiselaw13.WavParses: function 3 -/
def law13_WavParses.f (a0 : Option Addr) (a0n : Nat) (a0c : Nat) (w : World) (K : Bool → World → Prop) : Prop :=
  bif (decide (((a0n : Nat) : Int) > 5000)) then
    law13_awake.f  w fun r11_5 w =>
    K r11_5 w
  else
    help_Own_byte.f a0 a0n a0c 71 w fun r13_7 r13_7n r13_7c w =>
    wav_Parse.f r13_7 r13_7n r13_7c w fun r16_9_0 r16_9_1 r16_9_2 r16_9_3 r16_10 w =>
    newC 26 [(Value.int .i64 0), (Value.int .i64 0), (Value.int .i64 0), (Value.int .i64 0)] w fun a4_11 w =>
    stCs a4_11 [(Value.int .i64 r16_9_0), (Value.int .i64 r16_9_1), (Value.int .i64 r16_9_2), (Value.int .i64 r16_9_3)] 0 w fun w =>
    ref13_Parse.f a0 a0n a0c w fun r21_13_0 r21_13_1 r21_13_2 r21_13_3 r21_14 w =>
    newC 26 [(Value.int .i64 0), (Value.int .i64 0), (Value.int .i64 0), (Value.int .i64 0)] w fun a6_15 w =>
    stCs a6_15 [(Value.int .i64 r21_13_0), (Value.int .i64 r21_13_1), (Value.int .i64 r21_13_2), (Value.int .i64 r21_13_3)] 0 w fun w =>
    law13_awake.f  w fun r24_17 w =>
    bif r24_17 then
      ldI .i64 (a4_11.add 0) w fun x26_18 =>
      ldI .i64 (a4_11.add 1) w fun x26_19 =>
      ldI .i64 (a4_11.add 2) w fun x26_20 =>
      ldI .i64 (a4_11.add 3) w fun x26_21 =>
      ldI .i64 (a6_15.add 0) w fun x27_22 =>
      ldI .i64 (a6_15.add 1) w fun x27_23 =>
      ldI .i64 (a6_15.add 2) w fun x27_24 =>
      ldI .i64 (a6_15.add 3) w fun x27_25 =>
      eqI .i64 4 #[(Value.int .i64 x26_18), (Value.int .i64 x26_19), (Value.int .i64 x26_20), (Value.int .i64 x26_21)] #[(Value.int .i64 x27_22), (Value.int .i64 x27_23), (Value.int .i64 x27_24), (Value.int .i64 x27_25)] fun e_26 =>
      bif e_26 then
        bif (r16_10 == r21_14) then
          help_Kept_byte.f r13_7 r13_7n r13_7c a0 a0n a0c 71 w fun r38_27 w =>
          K r38_27 w
        else
          K false w
      else
        K false w
    else
      K false w
def law13_WavParses.H (F : type_of% @law13_WavParses.f) : Hf := fun args w K => match args with
  | [v0] => vL v0 fun a0 a0n a0c => F a0 a0n a0c w (fun r0 w => K (Value.bool r0) w)
  | _ => False
def law13_WavParses.h : Hf := law13_WavParses.H @law13_WavParses.f
def law13_WavParses.CG (F13 : type_of% @law13_awake.f) (F14 : type_of% @help_Own_byte.f) (F15 : type_of% @wav_Parse.f) (F16 : type_of% @ref13_Parse.f) (F17 : type_of% @help_Kept_byte.f) : Hd := hcons 17 (help_Kept_byte.H F17) (hcons 16 (ref13_Parse.H F16) (hcons 15 (wav_Parse.H F15) (hcons 14 (help_Own_byte.H F14) (hcons 13 (law13_awake.H F13) (hnil)))))
def law13_WavParses.C : Hd := law13_WavParses.CG @law13_awake.f @help_Own_byte.f @wav_Parse.f @ref13_Parse.f @help_Kept_byte.f
def law13_WavParses.G (F13 : type_of% @law13_awake.f) (F14 : type_of% @help_Own_byte.f) (F15 : type_of% @wav_Parse.f) (F16 : type_of% @ref13_Parse.f) (F17 : type_of% @help_Kept_byte.f) (a0 : Option Addr) (a0n : Nat) (a0c : Nat) (w : World) (K : Bool → World → Prop) : Prop :=
  bif (decide (((a0n : Nat) : Int) > 5000)) then
    F13  w fun r11_5 w =>
    K r11_5 w
  else
    F14 a0 a0n a0c 71 w fun r13_7 r13_7n r13_7c w =>
    F15 r13_7 r13_7n r13_7c w fun r16_9_0 r16_9_1 r16_9_2 r16_9_3 r16_10 w =>
    newC 26 [(Value.int .i64 0), (Value.int .i64 0), (Value.int .i64 0), (Value.int .i64 0)] w fun a4_11 w =>
    stCs a4_11 [(Value.int .i64 r16_9_0), (Value.int .i64 r16_9_1), (Value.int .i64 r16_9_2), (Value.int .i64 r16_9_3)] 0 w fun w =>
    F16 a0 a0n a0c w fun r21_13_0 r21_13_1 r21_13_2 r21_13_3 r21_14 w =>
    newC 26 [(Value.int .i64 0), (Value.int .i64 0), (Value.int .i64 0), (Value.int .i64 0)] w fun a6_15 w =>
    stCs a6_15 [(Value.int .i64 r21_13_0), (Value.int .i64 r21_13_1), (Value.int .i64 r21_13_2), (Value.int .i64 r21_13_3)] 0 w fun w =>
    F13  w fun r24_17 w =>
    bif r24_17 then
      ldI .i64 (a4_11.add 0) w fun x26_18 =>
      ldI .i64 (a4_11.add 1) w fun x26_19 =>
      ldI .i64 (a4_11.add 2) w fun x26_20 =>
      ldI .i64 (a4_11.add 3) w fun x26_21 =>
      ldI .i64 (a6_15.add 0) w fun x27_22 =>
      ldI .i64 (a6_15.add 1) w fun x27_23 =>
      ldI .i64 (a6_15.add 2) w fun x27_24 =>
      ldI .i64 (a6_15.add 3) w fun x27_25 =>
      eqI .i64 4 #[(Value.int .i64 x26_18), (Value.int .i64 x26_19), (Value.int .i64 x26_20), (Value.int .i64 x26_21)] #[(Value.int .i64 x27_22), (Value.int .i64 x27_23), (Value.int .i64 x27_24), (Value.int .i64 x27_25)] fun e_26 =>
      bif e_26 then
        bif (r16_10 == r21_14) then
          F17 r13_7 r13_7n r13_7c a0 a0n a0c 71 w fun r38_27 w =>
          K r38_27 w
        else
          K false w
      else
        K false w
    else
      K false w
theorem law13_WavParses.C_ok : CSound Try.prog law13_WavParses.C := hcons_ok help_Kept_byte.ok (hcons_ok ref13_Parse.ok (hcons_ok wav_Parse.ok (hcons_ok help_Own_byte.ok (hcons_ok law13_awake.ok (hnil_ok)))))
def law13_WavParses.D : Nat → Plan := fun i => .done
noncomputable def law13_WavParses.c : Code := Try.f3.body.getD .skip
theorem law13_WavParses.hb : Try.f3.body = some law13_WavParses.c := by kernel_rfl
theorem law13_WavParses.c_loops : loopsOf law13_WavParses.c = [] := by kernel_rfl
def law13_WavParses.L : LHd := fun l f w K => False
theorem law13_WavParses.eqG (F13 : type_of% @law13_awake.f) (F14 : type_of% @help_Own_byte.f) (F15 : type_of% @wav_Parse.f) (F16 : type_of% @ref13_Parse.f) (F17 : type_of% @help_Kept_byte.f) (a0 : Option Addr) (a0n : Nat) (a0c : Nat) (w : World) (K : Value → World → Prop) : afn (law13_WavParses.CG F13 F14 F15 F16 F17) law13_WavParses.L law13_WavParses.D tab Try.f3 [(Value.slice a0 a0n a0c)] w K = law13_WavParses.G F13 F14 F15 F16 F17 a0 a0n a0c w (fun r0 w => K (Value.bool r0) w) := by kernel_rfl
theorem law13_WavParses.eq (a0 : Option Addr) (a0n : Nat) (a0c : Nat) (w : World) (K : Value → World → Prop) : afn law13_WavParses.C law13_WavParses.L law13_WavParses.D tab Try.f3 [(Value.slice a0 a0n a0c)] w K = law13_WavParses.f a0 a0n a0c w (fun r0 w => K (Value.bool r0) w) := law13_WavParses.eqG @law13_awake.f @help_Own_byte.f @wav_Parse.f @ref13_Parse.f @help_Kept_byte.f a0 a0n a0c w K
theorem law13_WavParses.ok : FSound Try.prog 3 law13_WavParses.h := by
  intro args w K h
  unfold law13_WavParses.h law13_WavParses.H at h
  split at h
  ·
    replace h := vL_ok h
    obtain ⟨a0, a0n, a0c, rfl, h⟩ := h
    refine ⟨by kernel_rfl, fn_ok tab_ok law13_WavParses.C_ok (L := law13_WavParses.L) (D := law13_WavParses.D) Try.func3 law13_WavParses.hb (by kernel_rfl) (by rw [law13_WavParses.c_loops]; exact lnil) (Nat.le_of_ble_eq_true (by kernel_rfl)) ?_⟩
    rw [law13_WavParses.eq]
    exact h
  · exact h.elim
end Go.Proofs.Ytinmhmphidgdeaa.G
