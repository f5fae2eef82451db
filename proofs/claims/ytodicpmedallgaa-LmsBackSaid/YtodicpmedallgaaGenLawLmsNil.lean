/- Go functions as predicate transformers, written by a program of this session (gen.py), with their soundness. -/
import Derived.Test.YtodicpmedallgaaGen4
set_option linter.unusedVariables false
set_option linter.unusedSimpArgs false
set_option maxRecDepth 100000
namespace Go.Proofs.Ytodicpmedallgaa.G
open Go Go.Proofs.Ytodicpmedallgaa.Vm
/-! ### valise/valiselaw12.LmsNil: function 12 -/
def law12_LmsNil.f (a0 : Int) (w : World) (K : Bool → World → Prop) : Prop :=
  lms_Filter_Learn.f none a0 w fun w =>
  lms_New.f  w fun r8_5 w =>
  law12_awake.f  w fun r9_7 w =>
  bif r9_7 then
    lms_Filter_Guess.f none w fun r12_8 w =>
    bif (r12_8 == 0) then
      bif (!r8_5.isNone) then
        lms_Filter_Guess.f r8_5 w fun r21_9 w =>
        K (r21_9 == 0) w
      else
        K false w
    else
      K false w
  else
    K false w
def law12_LmsNil.H (F : type_of% @law12_LmsNil.f) : Hf := fun args w K => match args with
  | [v0] => vI .i32 v0 fun a0 => F a0 w (fun r0 w => K (Value.bool r0) w)
  | _ => False
def law12_LmsNil.h : Hf := law12_LmsNil.H @law12_LmsNil.f
def law12_LmsNil.CG (F38 : type_of% @lms_Filter_Learn.f) (F34 : type_of% @lms_New.f) (F35 : type_of% @law12_awake.f) (F36 : type_of% @lms_Filter_Guess.f) : Hd := hcons 36 (lms_Filter_Guess.H F36) (hcons 35 (law12_awake.H F35) (hcons 34 (lms_New.H F34) (hcons 38 (lms_Filter_Learn.H F38) (hnil))))
def law12_LmsNil.C : Hd := law12_LmsNil.CG @lms_Filter_Learn.f @lms_New.f @law12_awake.f @lms_Filter_Guess.f
def law12_LmsNil.G (F38 : type_of% @lms_Filter_Learn.f) (F34 : type_of% @lms_New.f) (F35 : type_of% @law12_awake.f) (F36 : type_of% @lms_Filter_Guess.f) (a0 : Int) (w : World) (K : Bool → World → Prop) : Prop :=
  F38 none a0 w fun w =>
  F34  w fun r8_5 w =>
  F35  w fun r9_7 w =>
  bif r9_7 then
    F36 none w fun r12_8 w =>
    bif (r12_8 == 0) then
      bif (!r8_5.isNone) then
        F36 r8_5 w fun r21_9 w =>
        K (r21_9 == 0) w
      else
        K false w
    else
      K false w
  else
    K false w
theorem law12_LmsNil.C_ok : CSound Try.prog law12_LmsNil.C := hcons_ok lms_Filter_Guess.ok (hcons_ok law12_awake.ok (hcons_ok lms_New.ok (hcons_ok lms_Filter_Learn.ok (hnil_ok))))
def law12_LmsNil.D : Nat → Plan := fun i => .done
noncomputable def law12_LmsNil.c : Code := Try.f12.body.getD .skip
theorem law12_LmsNil.hb : Try.f12.body = some law12_LmsNil.c := by kernel_rfl
theorem law12_LmsNil.c_loops : loopsOf law12_LmsNil.c = [] := by kernel_rfl
def law12_LmsNil.L : LHd := fun l f w K => False
theorem law12_LmsNil.eqG (F38 : type_of% @lms_Filter_Learn.f) (F34 : type_of% @lms_New.f) (F35 : type_of% @law12_awake.f) (F36 : type_of% @lms_Filter_Guess.f) (a0 : Int) (w : World) (K : Value → World → Prop) : afn (law12_LmsNil.CG F38 F34 F35 F36) law12_LmsNil.L law12_LmsNil.D tab Try.f12 [(Value.int .i32 a0)] w K = law12_LmsNil.G F38 F34 F35 F36 a0 w (fun r0 w => K (Value.bool r0) w) := by kernel_rfl
theorem law12_LmsNil.eq (a0 : Int) (w : World) (K : Value → World → Prop) : afn law12_LmsNil.C law12_LmsNil.L law12_LmsNil.D tab Try.f12 [(Value.int .i32 a0)] w K = law12_LmsNil.f a0 w (fun r0 w => K (Value.bool r0) w) := law12_LmsNil.eqG @lms_Filter_Learn.f @lms_New.f @law12_awake.f @lms_Filter_Guess.f a0 w K
theorem law12_LmsNil.ok : FSound Try.prog 12 law12_LmsNil.h := by
  intro args w K h
  unfold law12_LmsNil.h law12_LmsNil.H at h
  split at h
  ·
    replace h := vI_ok h
    obtain ⟨a0, rfl, h⟩ := h
    refine ⟨by kernel_rfl, fn_ok tab_ok law12_LmsNil.C_ok (L := law12_LmsNil.L) (D := law12_LmsNil.D) Try.func12 law12_LmsNil.hb (by kernel_rfl) (by rw [law12_LmsNil.c_loops]; exact lnil) (Nat.le_of_ble_eq_true (by kernel_rfl)) ?_⟩
    rw [law12_LmsNil.eq]
    exact h
  · exact h.elim
end Go.Proofs.Ytodicpmedallgaa.G
