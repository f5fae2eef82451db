/- Go functions as predicate transformers, written by a program of this session (gen.py), with their soundness. -/
import Derived.Test.YtmgcjihcbdgihaaGen4
set_option linter.unusedVariables false
set_option linter.unusedSimpArgs false
set_option maxRecDepth 100000
namespace Go.Proofs.Ytmgcjihcbdgihaa.G
open Go Go.Proofs.Ytmgcjihcbdgihaa.Vm
/-! ### valise/valiselaw11.FixedLeaves: function 14 -/
def law11_FixedLeaves.f (a0 : Option Addr) (a0n : Nat) (a0c : Nat) (a1 : Int) (w : World) (K : Bool → World → Prop) : Prop :=
  bif (decide (((a0n : Nat) : Int) > 3000)) then
    law11_awake.f  w fun r10_5 w =>
    K r10_5 w
  else
    help_Own_int32.f a0 a0n a0c 71 w fun r12_7 r12_7n r12_7c w =>
    fixed_Residual.f r12_7 r12_7n r12_7c a1 w fun r15_9 r15_9n r15_9c w =>
    law11_awake.f  w fun r16_11 w =>
    bif r16_11 then
      ref11_Residual.f a0 a0n a0c a1 w fun r21_12 r21_12n r21_12c w =>
      help_Plain_int32.f r15_9 r15_9n r15_9c r21_12 r21_12n r21_12c w fun r22_13 w =>
      bif r22_13 then
        fixed_Restore.f r12_7 r12_7n r12_7c a1 w fun r27_14 r27_14n r27_14c w =>
        ref11_Restore.f a0 a0n a0c a1 w fun r30_15 r30_15n r30_15c w =>
        help_Plain_int32.f r27_14 r27_14n r27_14c r30_15 r30_15n r30_15c w fun r31_16 w =>
        bif r31_16 then
          fixed_Weight.f r12_7 r12_7n r12_7c w fun r35_17 w =>
          ref11_Weight.f a0 a0n a0c w fun r37_18 w =>
          bif (r35_17 == r37_18) then
            fixed_Best.f r12_7 r12_7n r12_7c w fun r42_19 w =>
            ref11_Best.f a0 a0n a0c w fun r44_20 w =>
            bif (r42_19 == r44_20) then
              help_Kept_int32.f r12_7 r12_7n r12_7c a0 a0n a0c 71 w fun r50_21 w =>
              K r50_21 w
            else
              K false w
          else
            K false w
        else
          K false w
      else
        K false w
    else
      K false w
def law11_FixedLeaves.H (F : type_of% @law11_FixedLeaves.f) : Hf := fun args w K => match args with
  | [v0, v1] => vL v0 fun a0 a0n a0c => vI .i64 v1 fun a1 => F a0 a0n a0c a1 w (fun r0 w => K (Value.bool r0) w)
  | _ => False
def law11_FixedLeaves.h : Hf := law11_FixedLeaves.H @law11_FixedLeaves.f
def law11_FixedLeaves.CG (F39 : type_of% @law11_awake.f) (F41 : type_of% @help_Own_int32.f) (F38 : type_of% @fixed_Residual.f) (F42 : type_of% @ref11_Residual.f) (F35 : type_of% @help_Plain_int32.f) (F40 : type_of% @fixed_Restore.f) (F43 : type_of% @ref11_Restore.f) (F44 : type_of% @fixed_Weight.f) (F45 : type_of% @ref11_Weight.f) (F46 : type_of% @fixed_Best.f) (F47 : type_of% @ref11_Best.f) (F48 : type_of% @help_Kept_int32.f) : Hd := hcons 48 (help_Kept_int32.H F48) (hcons 47 (ref11_Best.H F47) (hcons 46 (fixed_Best.H F46) (hcons 45 (ref11_Weight.H F45) (hcons 44 (fixed_Weight.H F44) (hcons 43 (ref11_Restore.H F43) (hcons 40 (fixed_Restore.H F40) (hcons 35 (help_Plain_int32.H F35) (hcons 42 (ref11_Residual.H F42) (hcons 38 (fixed_Residual.H F38) (hcons 41 (help_Own_int32.H F41) (hcons 39 (law11_awake.H F39) (hnil))))))))))))
def law11_FixedLeaves.C : Hd := law11_FixedLeaves.CG @law11_awake.f @help_Own_int32.f @fixed_Residual.f @ref11_Residual.f @help_Plain_int32.f @fixed_Restore.f @ref11_Restore.f @fixed_Weight.f @ref11_Weight.f @fixed_Best.f @ref11_Best.f @help_Kept_int32.f
def law11_FixedLeaves.G (F39 : type_of% @law11_awake.f) (F41 : type_of% @help_Own_int32.f) (F38 : type_of% @fixed_Residual.f) (F42 : type_of% @ref11_Residual.f) (F35 : type_of% @help_Plain_int32.f) (F40 : type_of% @fixed_Restore.f) (F43 : type_of% @ref11_Restore.f) (F44 : type_of% @fixed_Weight.f) (F45 : type_of% @ref11_Weight.f) (F46 : type_of% @fixed_Best.f) (F47 : type_of% @ref11_Best.f) (F48 : type_of% @help_Kept_int32.f) (a0 : Option Addr) (a0n : Nat) (a0c : Nat) (a1 : Int) (w : World) (K : Bool → World → Prop) : Prop :=
  bif (decide (((a0n : Nat) : Int) > 3000)) then
    F39  w fun r10_5 w =>
    K r10_5 w
  else
    F41 a0 a0n a0c 71 w fun r12_7 r12_7n r12_7c w =>
    F38 r12_7 r12_7n r12_7c a1 w fun r15_9 r15_9n r15_9c w =>
    F39  w fun r16_11 w =>
    bif r16_11 then
      F42 a0 a0n a0c a1 w fun r21_12 r21_12n r21_12c w =>
      F35 r15_9 r15_9n r15_9c r21_12 r21_12n r21_12c w fun r22_13 w =>
      bif r22_13 then
        F40 r12_7 r12_7n r12_7c a1 w fun r27_14 r27_14n r27_14c w =>
        F43 a0 a0n a0c a1 w fun r30_15 r30_15n r30_15c w =>
        F35 r27_14 r27_14n r27_14c r30_15 r30_15n r30_15c w fun r31_16 w =>
        bif r31_16 then
          F44 r12_7 r12_7n r12_7c w fun r35_17 w =>
          F45 a0 a0n a0c w fun r37_18 w =>
          bif (r35_17 == r37_18) then
            F46 r12_7 r12_7n r12_7c w fun r42_19 w =>
            F47 a0 a0n a0c w fun r44_20 w =>
            bif (r42_19 == r44_20) then
              F48 r12_7 r12_7n r12_7c a0 a0n a0c 71 w fun r50_21 w =>
              K r50_21 w
            else
              K false w
          else
            K false w
        else
          K false w
      else
        K false w
    else
      K false w
theorem law11_FixedLeaves.C_ok : CSound Try.prog law11_FixedLeaves.C := hcons_ok help_Kept_int32.ok (hcons_ok ref11_Best.ok (hcons_ok fixed_Best.ok (hcons_ok ref11_Weight.ok (hcons_ok fixed_Weight.ok (hcons_ok ref11_Restore.ok (hcons_ok fixed_Restore.ok (hcons_ok help_Plain_int32.ok (hcons_ok ref11_Residual.ok (hcons_ok fixed_Residual.ok (hcons_ok help_Own_int32.ok (hcons_ok law11_awake.ok (hnil_ok))))))))))))
def law11_FixedLeaves.D : Nat → Plan := fun i => .done
noncomputable def law11_FixedLeaves.c : Code := Try.f14.body.getD .skip
theorem law11_FixedLeaves.hb : Try.f14.body = some law11_FixedLeaves.c := by kernel_rfl
theorem law11_FixedLeaves.c_loops : loopsOf law11_FixedLeaves.c = [] := by kernel_rfl
def law11_FixedLeaves.L : LHd := fun l f w K => False
theorem law11_FixedLeaves.eqG (F39 : type_of% @law11_awake.f) (F41 : type_of% @help_Own_int32.f) (F38 : type_of% @fixed_Residual.f) (F42 : type_of% @ref11_Residual.f) (F35 : type_of% @help_Plain_int32.f) (F40 : type_of% @fixed_Restore.f) (F43 : type_of% @ref11_Restore.f) (F44 : type_of% @fixed_Weight.f) (F45 : type_of% @ref11_Weight.f) (F46 : type_of% @fixed_Best.f) (F47 : type_of% @ref11_Best.f) (F48 : type_of% @help_Kept_int32.f) (a0 : Option Addr) (a0n : Nat) (a0c : Nat) (a1 : Int) (w : World) (K : Value → World → Prop) : afn (law11_FixedLeaves.CG F39 F41 F38 F42 F35 F40 F43 F44 F45 F46 F47 F48) law11_FixedLeaves.L law11_FixedLeaves.D tab Try.f14 [(Value.slice a0 a0n a0c), (Value.int .i64 a1)] w K = law11_FixedLeaves.G F39 F41 F38 F42 F35 F40 F43 F44 F45 F46 F47 F48 a0 a0n a0c a1 w (fun r0 w => K (Value.bool r0) w) := by kernel_rfl
theorem law11_FixedLeaves.eq (a0 : Option Addr) (a0n : Nat) (a0c : Nat) (a1 : Int) (w : World) (K : Value → World → Prop) : afn law11_FixedLeaves.C law11_FixedLeaves.L law11_FixedLeaves.D tab Try.f14 [(Value.slice a0 a0n a0c), (Value.int .i64 a1)] w K = law11_FixedLeaves.f a0 a0n a0c a1 w (fun r0 w => K (Value.bool r0) w) := law11_FixedLeaves.eqG @law11_awake.f @help_Own_int32.f @fixed_Residual.f @ref11_Residual.f @help_Plain_int32.f @fixed_Restore.f @ref11_Restore.f @fixed_Weight.f @ref11_Weight.f @fixed_Best.f @ref11_Best.f @help_Kept_int32.f a0 a0n a0c a1 w K
theorem law11_FixedLeaves.ok : FSound Try.prog 14 law11_FixedLeaves.h := by
  intro args w K h
  unfold law11_FixedLeaves.h law11_FixedLeaves.H at h
  split at h
  ·
    replace h := vL_ok h
    obtain ⟨a0, a0n, a0c, rfl, h⟩ := h
    replace h := vI_ok h
    obtain ⟨a1, rfl, h⟩ := h
    refine ⟨by kernel_rfl, fn_ok tab_ok law11_FixedLeaves.C_ok (L := law11_FixedLeaves.L) (D := law11_FixedLeaves.D) Try.func14 law11_FixedLeaves.hb (by kernel_rfl) (by rw [law11_FixedLeaves.c_loops]; exact lnil) (Nat.le_of_ble_eq_true (by kernel_rfl)) ?_⟩
    rw [law11_FixedLeaves.eq]
    exact h
  · exact h.elim
end Go.Proofs.Ytmgcjihcbdgihaa.G
