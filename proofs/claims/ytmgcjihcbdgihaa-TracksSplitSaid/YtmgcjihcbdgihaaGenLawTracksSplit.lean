/- Go functions as predicate transformers, written by a program of this session (gen.py), with their soundness. -/
import Derived.Test.YtmgcjihcbdgihaaGen4
set_option linter.unusedVariables false
set_option linter.unusedSimpArgs false
set_option maxRecDepth 100000
namespace Go.Proofs.Ytmgcjihcbdgihaa.G
open Go Go.Proofs.Ytmgcjihcbdgihaa.Vm
/-! ### valise/valiselaw14.TracksSplit: function 7 -/
def law14_TracksSplit.f (a0 : Option Addr) (a0n : Nat) (a0c : Nat) (a1 : Int) (a2 : Int) (w : World) (K : Bool → World → Prop) : Prop :=
  bif (decide (((a0n : Nat) : Int) > 5000)) then
    law14_awake.f  w fun r15_5 w =>
    K r15_5 w
  else
    help_Own_byte.f a0 a0n a0c 71 w fun r17_7 r17_7n r17_7c w =>
    tracks_Split.f r17_7 r17_7n r17_7c a1 a2 w fun r22_9 r22_9n r22_9c r22_10 w =>
    ref14_Split.f a0 a0n a0c a1 a2 w fun r29_12 r29_12n r29_12c r29_13 w =>
    law14_awake.f  w fun r32_15 w =>
    bif r32_15 then
      law14_plain.f r22_9 r22_9n r22_9c r29_12 r29_12n r29_12c w fun r36_16 w =>
      bif r36_16 then
        bif (r22_10 == r29_13) then
          help_Kept_byte.f r17_7 r17_7n r17_7c a0 a0n a0c 71 w fun r46_17 w =>
          K r46_17 w
        else
          K false w
      else
        K false w
    else
      K false w
def law14_TracksSplit.H (F : type_of% @law14_TracksSplit.f) : Hf := fun args w K => match args with
  | [v0, v1, v2] => vL v0 fun a0 a0n a0c => vI .i64 v1 fun a1 => vI .i64 v2 fun a2 => F a0 a0n a0c a1 a2 w (fun r0 w => K (Value.bool r0) w)
  | _ => False
def law14_TracksSplit.h : Hf := law14_TracksSplit.H @law14_TracksSplit.f
def law14_TracksSplit.CG (F27 : type_of% @law14_awake.f) (F19 : type_of% @help_Own_byte.f) (F28 : type_of% @tracks_Split.f) (F29 : type_of% @ref14_Split.f) (F30 : type_of% @law14_plain.f) (F26 : type_of% @help_Kept_byte.f) : Hd := hcons 26 (help_Kept_byte.H F26) (hcons 30 (law14_plain.H F30) (hcons 29 (ref14_Split.H F29) (hcons 28 (tracks_Split.H F28) (hcons 19 (help_Own_byte.H F19) (hcons 27 (law14_awake.H F27) (hnil))))))
def law14_TracksSplit.C : Hd := law14_TracksSplit.CG @law14_awake.f @help_Own_byte.f @tracks_Split.f @ref14_Split.f @law14_plain.f @help_Kept_byte.f
def law14_TracksSplit.G (F27 : type_of% @law14_awake.f) (F19 : type_of% @help_Own_byte.f) (F28 : type_of% @tracks_Split.f) (F29 : type_of% @ref14_Split.f) (F30 : type_of% @law14_plain.f) (F26 : type_of% @help_Kept_byte.f) (a0 : Option Addr) (a0n : Nat) (a0c : Nat) (a1 : Int) (a2 : Int) (w : World) (K : Bool → World → Prop) : Prop :=
  bif (decide (((a0n : Nat) : Int) > 5000)) then
    F27  w fun r15_5 w =>
    K r15_5 w
  else
    F19 a0 a0n a0c 71 w fun r17_7 r17_7n r17_7c w =>
    F28 r17_7 r17_7n r17_7c a1 a2 w fun r22_9 r22_9n r22_9c r22_10 w =>
    F29 a0 a0n a0c a1 a2 w fun r29_12 r29_12n r29_12c r29_13 w =>
    F27  w fun r32_15 w =>
    bif r32_15 then
      F30 r22_9 r22_9n r22_9c r29_12 r29_12n r29_12c w fun r36_16 w =>
      bif r36_16 then
        bif (r22_10 == r29_13) then
          F26 r17_7 r17_7n r17_7c a0 a0n a0c 71 w fun r46_17 w =>
          K r46_17 w
        else
          K false w
      else
        K false w
    else
      K false w
theorem law14_TracksSplit.C_ok : CSound Try.prog law14_TracksSplit.C := hcons_ok help_Kept_byte.ok (hcons_ok law14_plain.ok (hcons_ok ref14_Split.ok (hcons_ok tracks_Split.ok (hcons_ok help_Own_byte.ok (hcons_ok law14_awake.ok (hnil_ok))))))
def law14_TracksSplit.D : Nat → Plan := fun i => .done
noncomputable def law14_TracksSplit.c : Code := Try.f7.body.getD .skip
theorem law14_TracksSplit.hb : Try.f7.body = some law14_TracksSplit.c := by kernel_rfl
theorem law14_TracksSplit.c_loops : loopsOf law14_TracksSplit.c = [] := by kernel_rfl
def law14_TracksSplit.L : LHd := fun l f w K => False
theorem law14_TracksSplit.eqG (F27 : type_of% @law14_awake.f) (F19 : type_of% @help_Own_byte.f) (F28 : type_of% @tracks_Split.f) (F29 : type_of% @ref14_Split.f) (F30 : type_of% @law14_plain.f) (F26 : type_of% @help_Kept_byte.f) (a0 : Option Addr) (a0n : Nat) (a0c : Nat) (a1 : Int) (a2 : Int) (w : World) (K : Value → World → Prop) : afn (law14_TracksSplit.CG F27 F19 F28 F29 F30 F26) law14_TracksSplit.L law14_TracksSplit.D tab Try.f7 [(Value.slice a0 a0n a0c), (Value.int .i64 a1), (Value.int .i64 a2)] w K = law14_TracksSplit.G F27 F19 F28 F29 F30 F26 a0 a0n a0c a1 a2 w (fun r0 w => K (Value.bool r0) w) := by kernel_rfl
theorem law14_TracksSplit.eq (a0 : Option Addr) (a0n : Nat) (a0c : Nat) (a1 : Int) (a2 : Int) (w : World) (K : Value → World → Prop) : afn law14_TracksSplit.C law14_TracksSplit.L law14_TracksSplit.D tab Try.f7 [(Value.slice a0 a0n a0c), (Value.int .i64 a1), (Value.int .i64 a2)] w K = law14_TracksSplit.f a0 a0n a0c a1 a2 w (fun r0 w => K (Value.bool r0) w) := law14_TracksSplit.eqG @law14_awake.f @help_Own_byte.f @tracks_Split.f @ref14_Split.f @law14_plain.f @help_Kept_byte.f a0 a0n a0c a1 a2 w K
theorem law14_TracksSplit.ok : FSound Try.prog 7 law14_TracksSplit.h := by
  intro args w K h
  unfold law14_TracksSplit.h law14_TracksSplit.H at h
  split at h
  ·
    replace h := vL_ok h
    obtain ⟨a0, a0n, a0c, rfl, h⟩ := h
    replace h := vI_ok h
    obtain ⟨a1, rfl, h⟩ := h
    replace h := vI_ok h
    obtain ⟨a2, rfl, h⟩ := h
    refine ⟨by kernel_rfl, fn_ok tab_ok law14_TracksSplit.C_ok (L := law14_TracksSplit.L) (D := law14_TracksSplit.D) Try.func7 law14_TracksSplit.hb (by kernel_rfl) (by rw [law14_TracksSplit.c_loops]; exact lnil) (Nat.le_of_ble_eq_true (by kernel_rfl)) ?_⟩
    rw [law14_TracksSplit.eq]
    exact h
  · exact h.elim
end Go.Proofs.Ytmgcjihcbdgihaa.G
