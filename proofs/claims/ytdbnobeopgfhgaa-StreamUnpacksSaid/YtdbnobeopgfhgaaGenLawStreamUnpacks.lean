/- Go functions as predicate transformers, written by a program of this session (gen.py), with their soundness. -/
import Derived.Test.YtdbnobeopgfhgaaGen4
set_option linter.unusedVariables false
set_option linter.unusedSimpArgs false
set_option maxRecDepth 100000
namespace Go.Proofs.Ytdbnobeopgfhgaa.G
open Go Go.Proofs.Ytdbnobeopgfhgaa.Vm
/-! ### valise/valiselaw09.StreamUnpacks: function 12 -/
def law09_StreamUnpacks.f (a0 : Option Addr) (a0n : Nat) (a0c : Nat) (a1 : Int) (a2 : Int) (w : World) (K : Bool → World → Prop) : Prop :=
  let J_20 := fun  (w : World) =>
    ((help_Own_byte.f a0 a0n a0c 71 w fun r25_9 r25_9n r25_9c w =>
    stream_Unpack.f r25_9 r25_9n r25_9c a1 a2 w fun r30_11 r30_11n r30_11c r30_12 w =>
    ref09_Unpack.f a0 a0n a0c a1 a2 w fun r37_14 r37_14n r37_14c r37_15 w =>
    law09_awake.f  w fun r40_17 w =>
    bif r40_17 then
      help_Bytes.f r30_11 r30_11n r30_11c r37_14 r37_14n r37_14c w fun r44_18 w =>
      bif r44_18 then
        bif (r30_12 == r37_15) then
          help_Kept_byte.f r25_9 r25_9n r25_9c a0 a0n a0c 71 w fun r54_19 w =>
          K r54_19 w
        else
          K false w
      else
        K false w
    else
      K false w) : Prop)
  bif (decide (((a0n : Nat) : Int) > 600)) then
    law09_awake.f  w fun r23_5 w =>
    K r23_5 w
  else
    bif (decide (a1 > 600)) then
      bif (decide (a1 ≤ 1048576)) then
        law09_awake.f  w fun r23_7 w =>
        K r23_7 w
      else
        J_20 w
    else
      J_20 w
def law09_StreamUnpacks.H (F : type_of% @law09_StreamUnpacks.f) : Hf := fun args w K => match args with
  | [v0, v1, v2] => vL v0 fun a0 a0n a0c => vI .i64 v1 fun a1 => vI .i64 v2 fun a2 => F a0 a0n a0c a1 a2 w (fun r0 w => K (Value.bool r0) w)
  | _ => False
def law09_StreamUnpacks.h : Hf := law09_StreamUnpacks.H @law09_StreamUnpacks.f
def law09_StreamUnpacks.CG (F31 : type_of% @law09_awake.f) (F32 : type_of% @help_Own_byte.f) (F37 : type_of% @stream_Unpack.f) (F38 : type_of% @ref09_Unpack.f) (F35 : type_of% @help_Bytes.f) (F36 : type_of% @help_Kept_byte.f) : Hd := hcons 36 (help_Kept_byte.H F36) (hcons 35 (help_Bytes.H F35) (hcons 38 (ref09_Unpack.H F38) (hcons 37 (stream_Unpack.H F37) (hcons 32 (help_Own_byte.H F32) (hcons 31 (law09_awake.H F31) (hnil))))))
def law09_StreamUnpacks.C : Hd := law09_StreamUnpacks.CG @law09_awake.f @help_Own_byte.f @stream_Unpack.f @ref09_Unpack.f @help_Bytes.f @help_Kept_byte.f
def law09_StreamUnpacks.G (F31 : type_of% @law09_awake.f) (F32 : type_of% @help_Own_byte.f) (F37 : type_of% @stream_Unpack.f) (F38 : type_of% @ref09_Unpack.f) (F35 : type_of% @help_Bytes.f) (F36 : type_of% @help_Kept_byte.f) (a0 : Option Addr) (a0n : Nat) (a0c : Nat) (a1 : Int) (a2 : Int) (w : World) (K : Bool → World → Prop) : Prop :=
  let J_20 := fun  (w : World) =>
    ((F32 a0 a0n a0c 71 w fun r25_9 r25_9n r25_9c w =>
    F37 r25_9 r25_9n r25_9c a1 a2 w fun r30_11 r30_11n r30_11c r30_12 w =>
    F38 a0 a0n a0c a1 a2 w fun r37_14 r37_14n r37_14c r37_15 w =>
    F31  w fun r40_17 w =>
    bif r40_17 then
      F35 r30_11 r30_11n r30_11c r37_14 r37_14n r37_14c w fun r44_18 w =>
      bif r44_18 then
        bif (r30_12 == r37_15) then
          F36 r25_9 r25_9n r25_9c a0 a0n a0c 71 w fun r54_19 w =>
          K r54_19 w
        else
          K false w
      else
        K false w
    else
      K false w) : Prop)
  bif (decide (((a0n : Nat) : Int) > 600)) then
    F31  w fun r23_5 w =>
    K r23_5 w
  else
    bif (decide (a1 > 600)) then
      bif (decide (a1 ≤ 1048576)) then
        F31  w fun r23_7 w =>
        K r23_7 w
      else
        J_20 w
    else
      J_20 w
theorem law09_StreamUnpacks.C_ok : CSound Try.prog law09_StreamUnpacks.C := hcons_ok help_Kept_byte.ok (hcons_ok help_Bytes.ok (hcons_ok ref09_Unpack.ok (hcons_ok stream_Unpack.ok (hcons_ok help_Own_byte.ok (hcons_ok law09_awake.ok (hnil_ok))))))
def law09_StreamUnpacks.D : Nat → Plan := fun i => .done
noncomputable def law09_StreamUnpacks.c : Code := Try.f12.body.getD .skip
theorem law09_StreamUnpacks.hb : Try.f12.body = some law09_StreamUnpacks.c := by kernel_rfl
theorem law09_StreamUnpacks.c_loops : loopsOf law09_StreamUnpacks.c = [] := by kernel_rfl
def law09_StreamUnpacks.L : LHd := fun l f w K => False
theorem law09_StreamUnpacks.eqG (F31 : type_of% @law09_awake.f) (F32 : type_of% @help_Own_byte.f) (F37 : type_of% @stream_Unpack.f) (F38 : type_of% @ref09_Unpack.f) (F35 : type_of% @help_Bytes.f) (F36 : type_of% @help_Kept_byte.f) (a0 : Option Addr) (a0n : Nat) (a0c : Nat) (a1 : Int) (a2 : Int) (w : World) (K : Value → World → Prop) : afn (law09_StreamUnpacks.CG F31 F32 F37 F38 F35 F36) law09_StreamUnpacks.L law09_StreamUnpacks.D tab Try.f12 [(Value.slice a0 a0n a0c), (Value.int .i64 a1), (Value.int .i64 a2)] w K = law09_StreamUnpacks.G F31 F32 F37 F38 F35 F36 a0 a0n a0c a1 a2 w (fun r0 w => K (Value.bool r0) w) := by kernel_rfl
theorem law09_StreamUnpacks.eq (a0 : Option Addr) (a0n : Nat) (a0c : Nat) (a1 : Int) (a2 : Int) (w : World) (K : Value → World → Prop) : afn law09_StreamUnpacks.C law09_StreamUnpacks.L law09_StreamUnpacks.D tab Try.f12 [(Value.slice a0 a0n a0c), (Value.int .i64 a1), (Value.int .i64 a2)] w K = law09_StreamUnpacks.f a0 a0n a0c a1 a2 w (fun r0 w => K (Value.bool r0) w) := law09_StreamUnpacks.eqG @law09_awake.f @help_Own_byte.f @stream_Unpack.f @ref09_Unpack.f @help_Bytes.f @help_Kept_byte.f a0 a0n a0c a1 a2 w K
theorem law09_StreamUnpacks.ok : FSound Try.prog 12 law09_StreamUnpacks.h := by
  intro args w K h
  unfold law09_StreamUnpacks.h law09_StreamUnpacks.H at h
  split at h
  ·
    replace h := vL_ok h
    obtain ⟨a0, a0n, a0c, rfl, h⟩ := h
    replace h := vI_ok h
    obtain ⟨a1, rfl, h⟩ := h
    replace h := vI_ok h
    obtain ⟨a2, rfl, h⟩ := h
    refine ⟨by kernel_rfl, fn_ok tab_ok law09_StreamUnpacks.C_ok (L := law09_StreamUnpacks.L) (D := law09_StreamUnpacks.D) Try.func12 law09_StreamUnpacks.hb (by kernel_rfl) (by rw [law09_StreamUnpacks.c_loops]; exact lnil) (Nat.le_of_ble_eq_true (by kernel_rfl)) ?_⟩
    rw [law09_StreamUnpacks.eq]
    exact h
  · exact h.elim
end Go.Proofs.Ytdbnobeopgfhgaa.G
