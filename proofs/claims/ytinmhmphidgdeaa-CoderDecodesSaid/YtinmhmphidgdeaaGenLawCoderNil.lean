/- Go functions as predicate transformers, written by a program of this session (gen.py), with their soundness. -/
import Derived.Test.YtinmhmphidgdeaaGen3
set_option linter.unusedVariables false
set_option linter.unusedSimpArgs false
set_option maxRecDepth 100000
namespace Go.Proofs.Ytinmhmphidgdeaa.G
open Go Go.Proofs.Ytinmhmphidgdeaa.Vm
/-! ### valise/valiselaw04.CoderNil: function 10 -/
def law04_CoderNil.f (a0 : Int) (a1 : Int) (w : World) (K : Bool → World → Prop) : Prop :=
  coder_Encoder_Encode.f none a0 a1 w fun w =>
  law04_awake.f  w fun r11_6 w =>
  bif r11_6 then
    coder_Encoder_Flush.f none w fun r14_7 r14_7n r14_7c w =>
    bif (((r14_7n : Nat) : Int) == 0) then
      coder_Decoder_Decode.f none a1 w fun r21_8 w =>
      bif (r21_8 == 0) then
        coder_Decoder_Past.f none w fun r26_9 w =>
        K (r26_9 == 0) w
      else
        K false w
    else
      K false w
  else
    K false w
def law04_CoderNil.H (F : type_of% @law04_CoderNil.f) : Hf := fun args w K => match args with
  | [v0, v1] => vI .i64 v0 fun a0 => vI .i64 v1 fun a1 => F a0 a1 w (fun r0 w => K (Value.bool r0) w)
  | _ => False
def law04_CoderNil.h : Hf := law04_CoderNil.H @law04_CoderNil.f
def law04_CoderNil.CG (F26 : type_of% @coder_Encoder_Encode.f) (F25 : type_of% @law04_awake.f) (F28 : type_of% @coder_Encoder_Flush.f) (F31 : type_of% @coder_Decoder_Decode.f) (F32 : type_of% @coder_Decoder_Past.f) : Hd := hcons 32 (coder_Decoder_Past.H F32) (hcons 31 (coder_Decoder_Decode.H F31) (hcons 28 (coder_Encoder_Flush.H F28) (hcons 25 (law04_awake.H F25) (hcons 26 (coder_Encoder_Encode.H F26) (hnil)))))
def law04_CoderNil.C : Hd := law04_CoderNil.CG @coder_Encoder_Encode.f @law04_awake.f @coder_Encoder_Flush.f @coder_Decoder_Decode.f @coder_Decoder_Past.f
def law04_CoderNil.G (F26 : type_of% @coder_Encoder_Encode.f) (F25 : type_of% @law04_awake.f) (F28 : type_of% @coder_Encoder_Flush.f) (F31 : type_of% @coder_Decoder_Decode.f) (F32 : type_of% @coder_Decoder_Past.f) (a0 : Int) (a1 : Int) (w : World) (K : Bool → World → Prop) : Prop :=
  F26 none a0 a1 w fun w =>
  F25  w fun r11_6 w =>
  bif r11_6 then
    F28 none w fun r14_7 r14_7n r14_7c w =>
    bif (((r14_7n : Nat) : Int) == 0) then
      F31 none a1 w fun r21_8 w =>
      bif (r21_8 == 0) then
        F32 none w fun r26_9 w =>
        K (r26_9 == 0) w
      else
        K false w
    else
      K false w
  else
    K false w
theorem law04_CoderNil.C_ok : CSound Try.prog law04_CoderNil.C := hcons_ok coder_Decoder_Past.ok (hcons_ok coder_Decoder_Decode.ok (hcons_ok coder_Encoder_Flush.ok (hcons_ok law04_awake.ok (hcons_ok coder_Encoder_Encode.ok (hnil_ok)))))
def law04_CoderNil.D : Nat → Plan := fun i => .done
noncomputable def law04_CoderNil.c : Code := Try.f10.body.getD .skip
theorem law04_CoderNil.hb : Try.f10.body = some law04_CoderNil.c := by kernel_rfl
theorem law04_CoderNil.c_loops : loopsOf law04_CoderNil.c = [] := by kernel_rfl
def law04_CoderNil.L : LHd := fun l f w K => False
theorem law04_CoderNil.eqG (F26 : type_of% @coder_Encoder_Encode.f) (F25 : type_of% @law04_awake.f) (F28 : type_of% @coder_Encoder_Flush.f) (F31 : type_of% @coder_Decoder_Decode.f) (F32 : type_of% @coder_Decoder_Past.f) (a0 : Int) (a1 : Int) (w : World) (K : Value → World → Prop) : afn (law04_CoderNil.CG F26 F25 F28 F31 F32) law04_CoderNil.L law04_CoderNil.D tab Try.f10 [(Value.int .i64 a0), (Value.int .i64 a1)] w K = law04_CoderNil.G F26 F25 F28 F31 F32 a0 a1 w (fun r0 w => K (Value.bool r0) w) := by kernel_rfl
theorem law04_CoderNil.eq (a0 : Int) (a1 : Int) (w : World) (K : Value → World → Prop) : afn law04_CoderNil.C law04_CoderNil.L law04_CoderNil.D tab Try.f10 [(Value.int .i64 a0), (Value.int .i64 a1)] w K = law04_CoderNil.f a0 a1 w (fun r0 w => K (Value.bool r0) w) := law04_CoderNil.eqG @coder_Encoder_Encode.f @law04_awake.f @coder_Encoder_Flush.f @coder_Decoder_Decode.f @coder_Decoder_Past.f a0 a1 w K
theorem law04_CoderNil.ok : FSound Try.prog 10 law04_CoderNil.h := by
  intro args w K h
  unfold law04_CoderNil.h law04_CoderNil.H at h
  split at h
  ·
    replace h := vI_ok h
    obtain ⟨a0, rfl, h⟩ := h
    replace h := vI_ok h
    obtain ⟨a1, rfl, h⟩ := h
    refine ⟨by kernel_rfl, fn_ok tab_ok law04_CoderNil.C_ok (L := law04_CoderNil.L) (D := law04_CoderNil.D) Try.func10 law04_CoderNil.hb (by kernel_rfl) (by rw [law04_CoderNil.c_loops]; exact lnil) (Nat.le_of_ble_eq_true (by kernel_rfl)) ?_⟩
    rw [law04_CoderNil.eq]
    exact h
  · exact h.elim
end Go.Proofs.Ytinmhmphidgdeaa.G
