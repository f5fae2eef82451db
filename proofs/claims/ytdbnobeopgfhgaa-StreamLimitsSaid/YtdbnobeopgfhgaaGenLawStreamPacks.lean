/- Go functions as predicate transformers, written by a program of this session (gen.py), with their soundness. -/
import Derived.Test.YtdbnobeopgfhgaaGen4
set_option linter.unusedVariables false
set_option linter.unusedSimpArgs false
set_option maxRecDepth 100000
namespace Go.Proofs.Ytdbnobeopgfhgaa.G
open Go Go.Proofs.Ytdbnobeopgfhgaa.Vm
/-! ### valise/valiselaw09.StreamPacks: function 10 -/
def law09_StreamPacks.f (a0 : Option Addr) (a0n : Nat) (a0c : Nat) (a1 : Int) (w : World) (K : Bool → World → Prop) : Prop :=
  bif (decide (((a0n : Nat) : Int) > 1500)) then
    law09_awake.f  w fun r13_5 w =>
    K r13_5 w
  else
    help_Own_byte.f a0 a0n a0c 71 w fun r15_7 r15_7n r15_7c w =>
    stream_Pack.f r15_7 r15_7n r15_7c a1 w fun r19_9 r19_9n r19_9c r19_10 w =>
    ref09_Pack.f a0 a0n a0c a1 w fun r25_12 r25_12n r25_12c r25_13 w =>
    law09_awake.f  w fun r28_15 w =>
    bif r28_15 then
      help_Bytes.f r19_9 r19_9n r19_9c r25_12 r25_12n r25_12c w fun r32_16 w =>
      bif r32_16 then
        bif (r19_10 == r25_13) then
          help_Kept_byte.f r15_7 r15_7n r15_7c a0 a0n a0c 71 w fun r42_17 w =>
          K r42_17 w
        else
          K false w
      else
        K false w
    else
      K false w
def law09_StreamPacks.H (F : type_of% @law09_StreamPacks.f) : Hf := fun args w K => match args with
  | [v0, v1] => vL v0 fun a0 a0n a0c => vI .i64 v1 fun a1 => F a0 a0n a0c a1 w (fun r0 w => K (Value.bool r0) w)
  | _ => False
def law09_StreamPacks.h : Hf := law09_StreamPacks.H @law09_StreamPacks.f
def law09_StreamPacks.CG (F31 : type_of% @law09_awake.f) (F32 : type_of% @help_Own_byte.f) (F33 : type_of% @stream_Pack.f) (F34 : type_of% @ref09_Pack.f) (F35 : type_of% @help_Bytes.f) (F36 : type_of% @help_Kept_byte.f) : Hd := hcons 36 (help_Kept_byte.H F36) (hcons 35 (help_Bytes.H F35) (hcons 34 (ref09_Pack.H F34) (hcons 33 (stream_Pack.H F33) (hcons 32 (help_Own_byte.H F32) (hcons 31 (law09_awake.H F31) (hnil))))))
def law09_StreamPacks.C : Hd := law09_StreamPacks.CG @law09_awake.f @help_Own_byte.f @stream_Pack.f @ref09_Pack.f @help_Bytes.f @help_Kept_byte.f
def law09_StreamPacks.G (F31 : type_of% @law09_awake.f) (F32 : type_of% @help_Own_byte.f) (F33 : type_of% @stream_Pack.f) (F34 : type_of% @ref09_Pack.f) (F35 : type_of% @help_Bytes.f) (F36 : type_of% @help_Kept_byte.f) (a0 : Option Addr) (a0n : Nat) (a0c : Nat) (a1 : Int) (w : World) (K : Bool → World → Prop) : Prop :=
  bif (decide (((a0n : Nat) : Int) > 1500)) then
    F31  w fun r13_5 w =>
    K r13_5 w
  else
    F32 a0 a0n a0c 71 w fun r15_7 r15_7n r15_7c w =>
    F33 r15_7 r15_7n r15_7c a1 w fun r19_9 r19_9n r19_9c r19_10 w =>
    F34 a0 a0n a0c a1 w fun r25_12 r25_12n r25_12c r25_13 w =>
    F31  w fun r28_15 w =>
    bif r28_15 then
      F35 r19_9 r19_9n r19_9c r25_12 r25_12n r25_12c w fun r32_16 w =>
      bif r32_16 then
        bif (r19_10 == r25_13) then
          F36 r15_7 r15_7n r15_7c a0 a0n a0c 71 w fun r42_17 w =>
          K r42_17 w
        else
          K false w
      else
        K false w
    else
      K false w
theorem law09_StreamPacks.C_ok : CSound Try.prog law09_StreamPacks.C := hcons_ok help_Kept_byte.ok (hcons_ok help_Bytes.ok (hcons_ok ref09_Pack.ok (hcons_ok stream_Pack.ok (hcons_ok help_Own_byte.ok (hcons_ok law09_awake.ok (hnil_ok))))))
def law09_StreamPacks.D : Nat → Plan := fun i => .done
noncomputable def law09_StreamPacks.c : Code := Try.f10.body.getD .skip
theorem law09_StreamPacks.hb : Try.f10.body = some law09_StreamPacks.c := by kernel_rfl
theorem law09_StreamPacks.c_loops : loopsOf law09_StreamPacks.c = [] := by kernel_rfl
def law09_StreamPacks.L : LHd := fun l f w K => False
theorem law09_StreamPacks.eqG (F31 : type_of% @law09_awake.f) (F32 : type_of% @help_Own_byte.f) (F33 : type_of% @stream_Pack.f) (F34 : type_of% @ref09_Pack.f) (F35 : type_of% @help_Bytes.f) (F36 : type_of% @help_Kept_byte.f) (a0 : Option Addr) (a0n : Nat) (a0c : Nat) (a1 : Int) (w : World) (K : Value → World → Prop) : afn (law09_StreamPacks.CG F31 F32 F33 F34 F35 F36) law09_StreamPacks.L law09_StreamPacks.D tab Try.f10 [(Value.slice a0 a0n a0c), (Value.int .i64 a1)] w K = law09_StreamPacks.G F31 F32 F33 F34 F35 F36 a0 a0n a0c a1 w (fun r0 w => K (Value.bool r0) w) := by kernel_rfl
theorem law09_StreamPacks.eq (a0 : Option Addr) (a0n : Nat) (a0c : Nat) (a1 : Int) (w : World) (K : Value → World → Prop) : afn law09_StreamPacks.C law09_StreamPacks.L law09_StreamPacks.D tab Try.f10 [(Value.slice a0 a0n a0c), (Value.int .i64 a1)] w K = law09_StreamPacks.f a0 a0n a0c a1 w (fun r0 w => K (Value.bool r0) w) := law09_StreamPacks.eqG @law09_awake.f @help_Own_byte.f @stream_Pack.f @ref09_Pack.f @help_Bytes.f @help_Kept_byte.f a0 a0n a0c a1 w K
theorem law09_StreamPacks.ok : FSound Try.prog 10 law09_StreamPacks.h := by
  intro args w K h
  unfold law09_StreamPacks.h law09_StreamPacks.H at h
  split at h
  ·
    replace h := vL_ok h
    obtain ⟨a0, a0n, a0c, rfl, h⟩ := h
    replace h := vI_ok h
    obtain ⟨a1, rfl, h⟩ := h
    refine ⟨by kernel_rfl, fn_ok tab_ok law09_StreamPacks.C_ok (L := law09_StreamPacks.L) (D := law09_StreamPacks.D) Try.func10 law09_StreamPacks.hb (by kernel_rfl) (by rw [law09_StreamPacks.c_loops]; exact lnil) (Nat.le_of_ble_eq_true (by kernel_rfl)) ?_⟩
    rw [law09_StreamPacks.eq]
    exact h
  · exact h.elim
end Go.Proofs.Ytdbnobeopgfhgaa.G
