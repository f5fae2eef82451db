/- Go functions as predicate transformers, written by a program of this session (gen.py), with their soundness. -/
import Derived.Test.YtdbnobeopgfhgaaGen4
set_option linter.unusedVariables false
set_option linter.unusedSimpArgs false
set_option maxRecDepth 100000
namespace Go.Proofs.Ytdbnobeopgfhgaa.G
open Go Go.Proofs.Ytdbnobeopgfhgaa.Vm
/-! ### valise/valiselaw08.ModelNil: function 8 -/
def law08_ModelNil.f (a0 : Int) (w : World) (K : Bool → World → Prop) : Prop :=
  model_Model_Learn.f none a0 w fun w =>
  law08_awake.f  w fun r7_5 w =>
  bif r7_5 then
    model_Model_Chance.f none w fun r10_6 w =>
    K (r10_6 == 0) w
  else
    K false w
def law08_ModelNil.H (F : type_of% @law08_ModelNil.f) : Hf := fun args w K => match args with
  | [v0] => vI .i64 v0 fun a0 => F a0 w (fun r0 w => K (Value.bool r0) w)
  | _ => False
def law08_ModelNil.h : Hf := law08_ModelNil.H @law08_ModelNil.f
def law08_ModelNil.CG (F29 : type_of% @model_Model_Learn.f) (F26 : type_of% @law08_awake.f) (F27 : type_of% @model_Model_Chance.f) : Hd := hcons 27 (model_Model_Chance.H F27) (hcons 26 (law08_awake.H F26) (hcons 29 (model_Model_Learn.H F29) (hnil)))
def law08_ModelNil.C : Hd := law08_ModelNil.CG @model_Model_Learn.f @law08_awake.f @model_Model_Chance.f
def law08_ModelNil.G (F29 : type_of% @model_Model_Learn.f) (F26 : type_of% @law08_awake.f) (F27 : type_of% @model_Model_Chance.f) (a0 : Int) (w : World) (K : Bool → World → Prop) : Prop :=
  F29 none a0 w fun w =>
  F26  w fun r7_5 w =>
  bif r7_5 then
    F27 none w fun r10_6 w =>
    K (r10_6 == 0) w
  else
    K false w
theorem law08_ModelNil.C_ok : CSound Try.prog law08_ModelNil.C := hcons_ok model_Model_Chance.ok (hcons_ok law08_awake.ok (hcons_ok model_Model_Learn.ok (hnil_ok)))
def law08_ModelNil.D : Nat → Plan := fun i => .done
noncomputable def law08_ModelNil.c : Code := Try.f8.body.getD .skip
theorem law08_ModelNil.hb : Try.f8.body = some law08_ModelNil.c := by kernel_rfl
theorem law08_ModelNil.c_loops : loopsOf law08_ModelNil.c = [] := by kernel_rfl
def law08_ModelNil.L : LHd := fun l f w K => False
theorem law08_ModelNil.eqG (F29 : type_of% @model_Model_Learn.f) (F26 : type_of% @law08_awake.f) (F27 : type_of% @model_Model_Chance.f) (a0 : Int) (w : World) (K : Value → World → Prop) : afn (law08_ModelNil.CG F29 F26 F27) law08_ModelNil.L law08_ModelNil.D tab Try.f8 [(Value.int .i64 a0)] w K = law08_ModelNil.G F29 F26 F27 a0 w (fun r0 w => K (Value.bool r0) w) := by kernel_rfl
theorem law08_ModelNil.eq (a0 : Int) (w : World) (K : Value → World → Prop) : afn law08_ModelNil.C law08_ModelNil.L law08_ModelNil.D tab Try.f8 [(Value.int .i64 a0)] w K = law08_ModelNil.f a0 w (fun r0 w => K (Value.bool r0) w) := law08_ModelNil.eqG @model_Model_Learn.f @law08_awake.f @model_Model_Chance.f a0 w K
theorem law08_ModelNil.ok : FSound Try.prog 8 law08_ModelNil.h := by
  intro args w K h
  unfold law08_ModelNil.h law08_ModelNil.H at h
  split at h
  ·
    replace h := vI_ok h
    obtain ⟨a0, rfl, h⟩ := h
    refine ⟨by kernel_rfl, fn_ok tab_ok law08_ModelNil.C_ok (L := law08_ModelNil.L) (D := law08_ModelNil.D) Try.func8 law08_ModelNil.hb (by kernel_rfl) (by rw [law08_ModelNil.c_loops]; exact lnil) (Nat.le_of_ble_eq_true (by kernel_rfl)) ?_⟩
    rw [law08_ModelNil.eq]
    exact h
  · exact h.elim
end Go.Proofs.Ytdbnobeopgfhgaa.G
