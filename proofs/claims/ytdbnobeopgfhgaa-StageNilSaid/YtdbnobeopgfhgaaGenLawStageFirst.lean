/- Go functions as predicate transformers, written by a program of this session (gen.py), with their soundness. -/
import Derived.Test.YtdbnobeopgfhgaaGen4
set_option linter.unusedVariables false
set_option linter.unusedSimpArgs false
set_option maxRecDepth 100000
namespace Go.Proofs.Ytdbnobeopgfhgaa.G
open Go Go.Proofs.Ytdbnobeopgfhgaa.Vm
/-! ### valise/valiselaw07.StageFirst: function 3 -/
def law07_StageFirst.f (a0 : Int) (a1 : Int) (w : World) (K : Bool → World → Prop) : Prop :=
  stage_New.f 4 w fun r7_3 w =>
  law07_awake.f  w fun r8_6 w =>
  bif (!r8_6) then
    K false w
  else
    bif r7_3.isNone then
      K false w
    else
      let v0_10 := (IntKind.wrap .i64 (1 + (IntKind.wrap .i64 (Int.tmod (IntKind.wrap .u64 a0) 4095))))
      stage_Stage_Refine.f r7_3 v0_10 a1 w fun r22_12 w =>
      bif (decide (r22_12 ≥ 1)) then
        bif (decide (r22_12 ≤ 4095)) then
          bif (decide ((IntKind.wrap .i64 (r22_12 - v0_10)) ≤ 160)) then
            let v4_14 := (decide ((IntKind.wrap .i64 (v0_10 - r22_12)) ≤ 160))
            K v4_14 w
          else
            K false w
        else
          K false w
      else
        K false w
def law07_StageFirst.H (F : type_of% @law07_StageFirst.f) : Hf := fun args w K => match args with
  | [v0, v1] => vI .i64 v0 fun a0 => vI .i64 v1 fun a1 => F a0 a1 w (fun r0 w => K (Value.bool r0) w)
  | _ => False
def law07_StageFirst.h : Hf := law07_StageFirst.H @law07_StageFirst.f
def law07_StageFirst.CG (F15 : type_of% @stage_New.f) (F16 : type_of% @law07_awake.f) (F17 : type_of% @stage_Stage_Refine.f) : Hd := hcons 17 (stage_Stage_Refine.H F17) (hcons 16 (law07_awake.H F16) (hcons 15 (stage_New.H F15) (hnil)))
def law07_StageFirst.C : Hd := law07_StageFirst.CG @stage_New.f @law07_awake.f @stage_Stage_Refine.f
def law07_StageFirst.G (F15 : type_of% @stage_New.f) (F16 : type_of% @law07_awake.f) (F17 : type_of% @stage_Stage_Refine.f) (a0 : Int) (a1 : Int) (w : World) (K : Bool → World → Prop) : Prop :=
  F15 4 w fun r7_3 w =>
  F16  w fun r8_6 w =>
  bif (!r8_6) then
    K false w
  else
    bif r7_3.isNone then
      K false w
    else
      let v0_10 := (IntKind.wrap .i64 (1 + (IntKind.wrap .i64 (Int.tmod (IntKind.wrap .u64 a0) 4095))))
      F17 r7_3 v0_10 a1 w fun r22_12 w =>
      bif (decide (r22_12 ≥ 1)) then
        bif (decide (r22_12 ≤ 4095)) then
          bif (decide ((IntKind.wrap .i64 (r22_12 - v0_10)) ≤ 160)) then
            let v4_14 := (decide ((IntKind.wrap .i64 (v0_10 - r22_12)) ≤ 160))
            K v4_14 w
          else
            K false w
        else
          K false w
      else
        K false w
theorem law07_StageFirst.C_ok : CSound Try.prog law07_StageFirst.C := hcons_ok stage_Stage_Refine.ok (hcons_ok law07_awake.ok (hcons_ok stage_New.ok (hnil_ok)))
def law07_StageFirst.D : Nat → Plan := fun i => .done
noncomputable def law07_StageFirst.c : Code := Try.f3.body.getD .skip
theorem law07_StageFirst.hb : Try.f3.body = some law07_StageFirst.c := by kernel_rfl
theorem law07_StageFirst.c_loops : loopsOf law07_StageFirst.c = [] := by kernel_rfl
def law07_StageFirst.L : LHd := fun l f w K => False
theorem law07_StageFirst.eqG (F15 : type_of% @stage_New.f) (F16 : type_of% @law07_awake.f) (F17 : type_of% @stage_Stage_Refine.f) (a0 : Int) (a1 : Int) (w : World) (K : Value → World → Prop) : afn (law07_StageFirst.CG F15 F16 F17) law07_StageFirst.L law07_StageFirst.D tab Try.f3 [(Value.int .i64 a0), (Value.int .i64 a1)] w K = law07_StageFirst.G F15 F16 F17 a0 a1 w (fun r0 w => K (Value.bool r0) w) := by kernel_rfl
theorem law07_StageFirst.eq (a0 : Int) (a1 : Int) (w : World) (K : Value → World → Prop) : afn law07_StageFirst.C law07_StageFirst.L law07_StageFirst.D tab Try.f3 [(Value.int .i64 a0), (Value.int .i64 a1)] w K = law07_StageFirst.f a0 a1 w (fun r0 w => K (Value.bool r0) w) := law07_StageFirst.eqG @stage_New.f @law07_awake.f @stage_Stage_Refine.f a0 a1 w K
theorem law07_StageFirst.ok : FSound Try.prog 3 law07_StageFirst.h := by
  intro args w K h
  unfold law07_StageFirst.h law07_StageFirst.H at h
  split at h
  ·
    replace h := vI_ok h
    obtain ⟨a0, rfl, h⟩ := h
    replace h := vI_ok h
    obtain ⟨a1, rfl, h⟩ := h
    refine ⟨by kernel_rfl, fn_ok tab_ok law07_StageFirst.C_ok (L := law07_StageFirst.L) (D := law07_StageFirst.D) Try.func3 law07_StageFirst.hb (by kernel_rfl) (by rw [law07_StageFirst.c_loops]; exact lnil) (Nat.le_of_ble_eq_true (by kernel_rfl)) ?_⟩
    rw [law07_StageFirst.eq]
    exact h
  · exact h.elim
end Go.Proofs.Ytdbnobeopgfhgaa.G
