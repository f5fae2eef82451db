/- Go functions as predicate transformers, written by a program of this session (gen.py), with their soundness. -/
import Derived.Test.YtplepdjcgojagaaGen2
set_option linter.unusedVariables false
set_option linter.unusedSimpArgs false
set_option maxRecDepth 100000
namespace Go.Proofs.Ytplepdjcgojagaa.G
open Go Go.Proofs.Ytplepdjcgojagaa.Vm
/-! ### valise/valiselaw06.MixOrder: function 9 -/
def law06_MixOrder.f (a0 : Int) (a1 : Int) (a2 : Int) (w : World) (K : Bool → World → Prop) : Prop :=
  let v2_4 := (IntKind.wrap .i64 (1 + (IntKind.wrap .i64 (Int.tmod (IntKind.wrap .u64 a2) 4095))))
  mix_Squash.f (mn a0 a1) w fun r22_6 w =>
  mix_Squash.f (mx a0 a1) w fun r24_7 w =>
  mix_Stretch.f v2_4 w fun r26_8 w =>
  law06_awake.f  w fun r27_10 w =>
  bif r27_10 then
    bif (decide (r22_6 ≤ r24_7)) then
      bif (decide (r22_6 ≥ 1)) then
        bif (decide (r24_7 ≤ 4095)) then
          bif (decide (r26_8 ≥ (-2047))) then
            bif (decide (r26_8 ≤ 2047)) then
              mix_Squash.f r26_8 w fun r51_11 w =>
              bif (decide (r51_11 ≥ v2_4)) then
                bif (r26_8 == (-2047)) then
                  K true w
                else
                  mix_Squash.f (IntKind.wrap .i64 (r26_8 - 1)) w fun r61_12 w =>
                  let v6_13 := (decide (r61_12 < v2_4))
                  K v6_13 w
              else
                K false w
            else
              K false w
          else
            K false w
        else
          K false w
      else
        K false w
    else
      K false w
  else
    K false w
def law06_MixOrder.h : Hf := fun args w K => match args with
  | [v0, v1, v2] => vI .i64 v0 fun a0 => vI .i64 v1 fun a1 => vI .i64 v2 fun a2 => law06_MixOrder.f a0 a1 a2 w (fun r0 w => K (Value.bool r0) w)
  | _ => False
def law06_MixOrder.C : Hd := hcons 25 law06_awake.h (hcons 28 mix_Stretch.h (hcons 26 mix_Squash.h (hnil)))
theorem law06_MixOrder.C_ok : CSound Try.prog law06_MixOrder.C := hcons_ok law06_awake.ok (hcons_ok mix_Stretch.ok (hcons_ok mix_Squash.ok (hnil_ok)))
def law06_MixOrder.D : Nat → Plan := fun i => .done
noncomputable def law06_MixOrder.c : Code := Try.f9.body.getD .skip
theorem law06_MixOrder.hb : Try.f9.body = some law06_MixOrder.c := by kernel_rfl
theorem law06_MixOrder.c_loops : loopsOf law06_MixOrder.c = [] := by kernel_rfl
def law06_MixOrder.L : LHd := fun l f w K => False
theorem law06_MixOrder.eq (a0 : Int) (a1 : Int) (a2 : Int) (w : World) (K : Value → World → Prop) : afn law06_MixOrder.C law06_MixOrder.L law06_MixOrder.D tab Try.f9 [(Value.int .i64 a0), (Value.int .i64 a1), (Value.int .i64 a2)] w K = law06_MixOrder.f a0 a1 a2 w (fun r0 w => K (Value.bool r0) w) := by kernel_rfl
theorem law06_MixOrder.ok : FSound Try.prog 9 law06_MixOrder.h := by
  intro args w K h
  unfold law06_MixOrder.h at h
  split at h
  ·
    replace h := vI_ok h
    obtain ⟨a0, rfl, h⟩ := h
    replace h := vI_ok h
    obtain ⟨a1, rfl, h⟩ := h
    replace h := vI_ok h
    obtain ⟨a2, rfl, h⟩ := h
    refine ⟨by kernel_rfl, fn_ok tab_ok law06_MixOrder.C_ok (L := law06_MixOrder.L) (D := law06_MixOrder.D) Try.func9 law06_MixOrder.hb (by kernel_rfl) (by rw [law06_MixOrder.c_loops]; exact lnil) (Nat.le_of_ble_eq_true (by kernel_rfl)) ?_⟩
    rw [law06_MixOrder.eq]
    exact h
  · exact h.elim
end Go.Proofs.Ytplepdjcgojagaa.G
