/- Go functions as predicate transformers, written by a program of this session (gen.py), with their soundness. -/
import Derived.Test.YtmgcjihcbdgihaaGen4
set_option linter.unusedVariables false
set_option linter.unusedSimpArgs false
set_option maxRecDepth 100000
namespace Go.Proofs.Ytmgcjihcbdgihaa.G
open Go Go.Proofs.Ytmgcjihcbdgihaa.Vm
/-! ### valise/valiselaw11.FixedSteps: function 12 -/
def law11_FixedSteps.f (a0 : Option Addr) (a0n : Nat) (a0c : Nat) (w : World) (K : Bool → World → Prop) : Prop :=
  bif (decide (((a0n : Nat) : Int) > 3000)) then
    law11_awake.f  w fun r8_5 w =>
    K r8_5 w
  else
    fixed_Residual.f a0 a0n a0c 1 w fun r10_7 r10_7n r10_7c w =>
    fixed_Residual.f r10_7 r10_7n r10_7c 1 w fun r12_9 r12_9n r12_9c w =>
    law11_awake.f  w fun r13_11 w =>
    bif r13_11 then
      fixed_Residual.f a0 a0n a0c 0 w fun r16_12 r16_12n r16_12c w =>
      help_Plain_int32.f r16_12 r16_12n r16_12c a0 a0n a0c w fun r18_13 w =>
      bif r18_13 then
        fixed_Residual.f a0 a0n a0c 2 w fun r23_14 r23_14n r23_14c w =>
        help_Plain_int32.f r12_9 r12_9n r12_9c r23_14 r23_14n r23_14c w fun r24_15 w =>
        bif r24_15 then
          fixed_Residual.f r12_9 r12_9n r12_9c 1 w fun r28_16 r28_16n r28_16c w =>
          fixed_Residual.f a0 a0n a0c 3 w fun r30_17 r30_17n r30_17c w =>
          help_Plain_int32.f r28_16 r28_16n r28_16c r30_17 r30_17n r30_17c w fun r31_18 w =>
          K r31_18 w
        else
          K false w
      else
        K false w
    else
      K false w
def law11_FixedSteps.H (F : type_of% @law11_FixedSteps.f) : Hf := fun args w K => match args with
  | [v0] => vL v0 fun a0 a0n a0c => F a0 a0n a0c w (fun r0 w => K (Value.bool r0) w)
  | _ => False
def law11_FixedSteps.h : Hf := law11_FixedSteps.H @law11_FixedSteps.f
def law11_FixedSteps.CG (F39 : type_of% @law11_awake.f) (F38 : type_of% @fixed_Residual.f) (F35 : type_of% @help_Plain_int32.f) : Hd := hcons 35 (help_Plain_int32.H F35) (hcons 38 (fixed_Residual.H F38) (hcons 39 (law11_awake.H F39) (hnil)))
def law11_FixedSteps.C : Hd := law11_FixedSteps.CG @law11_awake.f @fixed_Residual.f @help_Plain_int32.f
def law11_FixedSteps.G (F39 : type_of% @law11_awake.f) (F38 : type_of% @fixed_Residual.f) (F35 : type_of% @help_Plain_int32.f) (a0 : Option Addr) (a0n : Nat) (a0c : Nat) (w : World) (K : Bool → World → Prop) : Prop :=
  bif (decide (((a0n : Nat) : Int) > 3000)) then
    F39  w fun r8_5 w =>
    K r8_5 w
  else
    F38 a0 a0n a0c 1 w fun r10_7 r10_7n r10_7c w =>
    F38 r10_7 r10_7n r10_7c 1 w fun r12_9 r12_9n r12_9c w =>
    F39  w fun r13_11 w =>
    bif r13_11 then
      F38 a0 a0n a0c 0 w fun r16_12 r16_12n r16_12c w =>
      F35 r16_12 r16_12n r16_12c a0 a0n a0c w fun r18_13 w =>
      bif r18_13 then
        F38 a0 a0n a0c 2 w fun r23_14 r23_14n r23_14c w =>
        F35 r12_9 r12_9n r12_9c r23_14 r23_14n r23_14c w fun r24_15 w =>
        bif r24_15 then
          F38 r12_9 r12_9n r12_9c 1 w fun r28_16 r28_16n r28_16c w =>
          F38 a0 a0n a0c 3 w fun r30_17 r30_17n r30_17c w =>
          F35 r28_16 r28_16n r28_16c r30_17 r30_17n r30_17c w fun r31_18 w =>
          K r31_18 w
        else
          K false w
      else
        K false w
    else
      K false w
theorem law11_FixedSteps.C_ok : CSound Try.prog law11_FixedSteps.C := hcons_ok help_Plain_int32.ok (hcons_ok fixed_Residual.ok (hcons_ok law11_awake.ok (hnil_ok)))
def law11_FixedSteps.D : Nat → Plan := fun i => .done
noncomputable def law11_FixedSteps.c : Code := Try.f12.body.getD .skip
theorem law11_FixedSteps.hb : Try.f12.body = some law11_FixedSteps.c := by kernel_rfl
theorem law11_FixedSteps.c_loops : loopsOf law11_FixedSteps.c = [] := by kernel_rfl
def law11_FixedSteps.L : LHd := fun l f w K => False
theorem law11_FixedSteps.eqG (F39 : type_of% @law11_awake.f) (F38 : type_of% @fixed_Residual.f) (F35 : type_of% @help_Plain_int32.f) (a0 : Option Addr) (a0n : Nat) (a0c : Nat) (w : World) (K : Value → World → Prop) : afn (law11_FixedSteps.CG F39 F38 F35) law11_FixedSteps.L law11_FixedSteps.D tab Try.f12 [(Value.slice a0 a0n a0c)] w K = law11_FixedSteps.G F39 F38 F35 a0 a0n a0c w (fun r0 w => K (Value.bool r0) w) := by kernel_rfl
theorem law11_FixedSteps.eq (a0 : Option Addr) (a0n : Nat) (a0c : Nat) (w : World) (K : Value → World → Prop) : afn law11_FixedSteps.C law11_FixedSteps.L law11_FixedSteps.D tab Try.f12 [(Value.slice a0 a0n a0c)] w K = law11_FixedSteps.f a0 a0n a0c w (fun r0 w => K (Value.bool r0) w) := law11_FixedSteps.eqG @law11_awake.f @fixed_Residual.f @help_Plain_int32.f a0 a0n a0c w K
theorem law11_FixedSteps.ok : FSound Try.prog 12 law11_FixedSteps.h := by
  intro args w K h
  unfold law11_FixedSteps.h law11_FixedSteps.H at h
  split at h
  ·
    replace h := vL_ok h
    obtain ⟨a0, a0n, a0c, rfl, h⟩ := h
    refine ⟨by kernel_rfl, fn_ok tab_ok law11_FixedSteps.C_ok (L := law11_FixedSteps.L) (D := law11_FixedSteps.D) Try.func12 law11_FixedSteps.hb (by kernel_rfl) (by rw [law11_FixedSteps.c_loops]; exact lnil) (Nat.le_of_ble_eq_true (by kernel_rfl)) ?_⟩
    rw [law11_FixedSteps.eq]
    exact h
  · exact h.elim
end Go.Proofs.Ytmgcjihcbdgihaa.G
