/- Go functions as predicate transformers, written by a program of this session (gen.py), with their soundness. -/
import Derived.Test.YtplepdjcgojagaaGen2
set_option linter.unusedVariables false
set_option linter.unusedSimpArgs false
set_option maxRecDepth 100000
namespace Go.Proofs.Ytplepdjcgojagaa.G
open Go Go.Proofs.Ytplepdjcgojagaa.Vm
/-! ### valise/valiselaw06.MixSquashes: function 8 -/
def law06_MixSquashes.f (a0 : Int) (a1 : Int) (w : World) (K : Bool → World → Prop) : Prop :=
  law06_awake.f  w fun r5_3 w =>
  bif r5_3 then
    mix_Squash.f a0 w fun r8_4 w =>
    ref06_Squash.f a0 w fun r10_5 w =>
    bif (r8_4 == r10_5) then
      mix_Stretch.f a1 w fun r15_6 w =>
      ref06_Stretch.f a1 w fun r17_7 w =>
      let v4_8 := (r15_6 == r17_7)
      K v4_8 w
    else
      K false w
  else
    K false w
def law06_MixSquashes.h : Hf := fun args w K => match args with
  | [v0, v1] => vI .i64 v0 fun a0 => vI .i64 v1 fun a1 => law06_MixSquashes.f a0 a1 w (fun r0 w => K (Value.bool r0) w)
  | _ => False
def law06_MixSquashes.C : Hd := hcons 29 ref06_Stretch.h (hcons 28 mix_Stretch.h (hcons 27 ref06_Squash.h (hcons 26 mix_Squash.h (hcons 25 law06_awake.h (hnil)))))
theorem law06_MixSquashes.C_ok : CSound Try.prog law06_MixSquashes.C := hcons_ok ref06_Stretch.ok (hcons_ok mix_Stretch.ok (hcons_ok ref06_Squash.ok (hcons_ok mix_Squash.ok (hcons_ok law06_awake.ok (hnil_ok)))))
def law06_MixSquashes.D : Nat → Plan := fun i => .done
noncomputable def law06_MixSquashes.c : Code := Try.f8.body.getD .skip
theorem law06_MixSquashes.hb : Try.f8.body = some law06_MixSquashes.c := by kernel_rfl
theorem law06_MixSquashes.c_loops : loopsOf law06_MixSquashes.c = [] := by kernel_rfl
def law06_MixSquashes.L : LHd := fun l f w K => False
theorem law06_MixSquashes.eq (a0 : Int) (a1 : Int) (w : World) (K : Value → World → Prop) : afn law06_MixSquashes.C law06_MixSquashes.L law06_MixSquashes.D tab Try.f8 [(Value.int .i64 a0), (Value.int .i64 a1)] w K = law06_MixSquashes.f a0 a1 w (fun r0 w => K (Value.bool r0) w) := by kernel_rfl
theorem law06_MixSquashes.ok : FSound Try.prog 8 law06_MixSquashes.h := by
  intro args w K h
  unfold law06_MixSquashes.h at h
  split at h
  ·
    replace h := vI_ok h
    obtain ⟨a0, rfl, h⟩ := h
    replace h := vI_ok h
    obtain ⟨a1, rfl, h⟩ := h
    refine ⟨by kernel_rfl, fn_ok tab_ok law06_MixSquashes.C_ok (L := law06_MixSquashes.L) (D := law06_MixSquashes.D) Try.func8 law06_MixSquashes.hb (by kernel_rfl) (by rw [law06_MixSquashes.c_loops]; exact lnil) (Nat.le_of_ble_eq_true (by kernel_rfl)) ?_⟩
    rw [law06_MixSquashes.eq]
    exact h
  · exact h.elim
end Go.Proofs.Ytplepdjcgojagaa.G
