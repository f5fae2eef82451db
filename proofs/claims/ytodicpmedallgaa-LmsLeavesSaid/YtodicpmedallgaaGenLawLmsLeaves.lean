/- Go functions as predicate transformers, written by a program of this session (gen.py), with their soundness. -/
import Derived.Test.YtodicpmedallgaaGen4
set_option linter.unusedVariables false
set_option linter.unusedSimpArgs false
set_option maxRecDepth 100000
namespace Go.Proofs.Ytodicpmedallgaa.G
open Go Go.Proofs.Ytodicpmedallgaa.Vm
/-! ### valise/valiselaw12.LmsLeaves: function 13 -/
def law12_LmsLeaves.f (a0 : Option Addr) (a0n : Nat) (a0c : Nat) (w : World) (K : Bool → World → Prop) : Prop :=
  bif (decide (((a0n : Nat) : Int) > 3000)) then
    law12_awake.f  w fun r7_5 w =>
    K r7_5 w
  else
    help_Own_int32.f a0 a0n a0c 71 w fun r9_7 r9_7n r9_7c w =>
    law12_awake.f  w fun r10_9 w =>
    bif r10_9 then
      lms_Residual.f r9_7 r9_7n r9_7c w fun r13_10 r13_10n r13_10c w =>
      ref12_Residual.f a0 a0n a0c w fun r15_11 r15_11n r15_11c w =>
      help_Plain_int32.f r13_10 r13_10n r13_10c r15_11 r15_11n r15_11c w fun r16_12 w =>
      bif r16_12 then
        lms_Restore.f r9_7 r9_7n r9_7c w fun r20_13 r20_13n r20_13c w =>
        ref12_Restore.f a0 a0n a0c w fun r22_14 r22_14n r22_14c w =>
        help_Plain_int32.f r20_13 r20_13n r20_13c r22_14 r22_14n r22_14c w fun r23_15 w =>
        bif r23_15 then
          help_Kept_int32.f r9_7 r9_7n r9_7c a0 a0n a0c 71 w fun r28_16 w =>
          K r28_16 w
        else
          K false w
      else
        K false w
    else
      K false w
def law12_LmsLeaves.H (F : type_of% @law12_LmsLeaves.f) : Hf := fun args w K => match args with
  | [v0] => vL v0 fun a0 a0n a0c => F a0 a0n a0c w (fun r0 w => K (Value.bool r0) w)
  | _ => False
def law12_LmsLeaves.h : Hf := law12_LmsLeaves.H @law12_LmsLeaves.f
def law12_LmsLeaves.CG (F35 : type_of% @law12_awake.f) (F40 : type_of% @help_Own_int32.f) (F42 : type_of% @lms_Residual.f) (F43 : type_of% @ref12_Residual.f) (F41 : type_of% @help_Plain_int32.f) (F44 : type_of% @lms_Restore.f) (F45 : type_of% @ref12_Restore.f) (F46 : type_of% @help_Kept_int32.f) : Hd := hcons 46 (help_Kept_int32.H F46) (hcons 45 (ref12_Restore.H F45) (hcons 44 (lms_Restore.H F44) (hcons 41 (help_Plain_int32.H F41) (hcons 43 (ref12_Residual.H F43) (hcons 42 (lms_Residual.H F42) (hcons 40 (help_Own_int32.H F40) (hcons 35 (law12_awake.H F35) (hnil))))))))
def law12_LmsLeaves.C : Hd := law12_LmsLeaves.CG @law12_awake.f @help_Own_int32.f @lms_Residual.f @ref12_Residual.f @help_Plain_int32.f @lms_Restore.f @ref12_Restore.f @help_Kept_int32.f
def law12_LmsLeaves.G (F35 : type_of% @law12_awake.f) (F40 : type_of% @help_Own_int32.f) (F42 : type_of% @lms_Residual.f) (F43 : type_of% @ref12_Residual.f) (F41 : type_of% @help_Plain_int32.f) (F44 : type_of% @lms_Restore.f) (F45 : type_of% @ref12_Restore.f) (F46 : type_of% @help_Kept_int32.f) (a0 : Option Addr) (a0n : Nat) (a0c : Nat) (w : World) (K : Bool → World → Prop) : Prop :=
  bif (decide (((a0n : Nat) : Int) > 3000)) then
    F35  w fun r7_5 w =>
    K r7_5 w
  else
    F40 a0 a0n a0c 71 w fun r9_7 r9_7n r9_7c w =>
    F35  w fun r10_9 w =>
    bif r10_9 then
      F42 r9_7 r9_7n r9_7c w fun r13_10 r13_10n r13_10c w =>
      F43 a0 a0n a0c w fun r15_11 r15_11n r15_11c w =>
      F41 r13_10 r13_10n r13_10c r15_11 r15_11n r15_11c w fun r16_12 w =>
      bif r16_12 then
        F44 r9_7 r9_7n r9_7c w fun r20_13 r20_13n r20_13c w =>
        F45 a0 a0n a0c w fun r22_14 r22_14n r22_14c w =>
        F41 r20_13 r20_13n r20_13c r22_14 r22_14n r22_14c w fun r23_15 w =>
        bif r23_15 then
          F46 r9_7 r9_7n r9_7c a0 a0n a0c 71 w fun r28_16 w =>
          K r28_16 w
        else
          K false w
      else
        K false w
    else
      K false w
theorem law12_LmsLeaves.C_ok : CSound Try.prog law12_LmsLeaves.C := hcons_ok help_Kept_int32.ok (hcons_ok ref12_Restore.ok (hcons_ok lms_Restore.ok (hcons_ok help_Plain_int32.ok (hcons_ok ref12_Residual.ok (hcons_ok lms_Residual.ok (hcons_ok help_Own_int32.ok (hcons_ok law12_awake.ok (hnil_ok))))))))
def law12_LmsLeaves.D : Nat → Plan := fun i => .done
noncomputable def law12_LmsLeaves.c : Code := Try.f13.body.getD .skip
theorem law12_LmsLeaves.hb : Try.f13.body = some law12_LmsLeaves.c := by kernel_rfl
theorem law12_LmsLeaves.c_loops : loopsOf law12_LmsLeaves.c = [] := by kernel_rfl
def law12_LmsLeaves.L : LHd := fun l f w K => False
theorem law12_LmsLeaves.eqG (F35 : type_of% @law12_awake.f) (F40 : type_of% @help_Own_int32.f) (F42 : type_of% @lms_Residual.f) (F43 : type_of% @ref12_Residual.f) (F41 : type_of% @help_Plain_int32.f) (F44 : type_of% @lms_Restore.f) (F45 : type_of% @ref12_Restore.f) (F46 : type_of% @help_Kept_int32.f) (a0 : Option Addr) (a0n : Nat) (a0c : Nat) (w : World) (K : Value → World → Prop) : afn (law12_LmsLeaves.CG F35 F40 F42 F43 F41 F44 F45 F46) law12_LmsLeaves.L law12_LmsLeaves.D tab Try.f13 [(Value.slice a0 a0n a0c)] w K = law12_LmsLeaves.G F35 F40 F42 F43 F41 F44 F45 F46 a0 a0n a0c w (fun r0 w => K (Value.bool r0) w) := by kernel_rfl
theorem law12_LmsLeaves.eq (a0 : Option Addr) (a0n : Nat) (a0c : Nat) (w : World) (K : Value → World → Prop) : afn law12_LmsLeaves.C law12_LmsLeaves.L law12_LmsLeaves.D tab Try.f13 [(Value.slice a0 a0n a0c)] w K = law12_LmsLeaves.f a0 a0n a0c w (fun r0 w => K (Value.bool r0) w) := law12_LmsLeaves.eqG @law12_awake.f @help_Own_int32.f @lms_Residual.f @ref12_Residual.f @help_Plain_int32.f @lms_Restore.f @ref12_Restore.f @help_Kept_int32.f a0 a0n a0c w K
theorem law12_LmsLeaves.ok : FSound Try.prog 13 law12_LmsLeaves.h := by
  intro args w K h
  unfold law12_LmsLeaves.h law12_LmsLeaves.H at h
  split at h
  ·
    replace h := vL_ok h
    obtain ⟨a0, a0n, a0c, rfl, h⟩ := h
    refine ⟨by kernel_rfl, fn_ok tab_ok law12_LmsLeaves.C_ok (L := law12_LmsLeaves.L) (D := law12_LmsLeaves.D) Try.func13 law12_LmsLeaves.hb (by kernel_rfl) (by rw [law12_LmsLeaves.c_loops]; exact lnil) (Nat.le_of_ble_eq_true (by kernel_rfl)) ?_⟩
    rw [law12_LmsLeaves.eq]
    exact h
  · exact h.elim
end Go.Proofs.Ytodicpmedallgaa.G
