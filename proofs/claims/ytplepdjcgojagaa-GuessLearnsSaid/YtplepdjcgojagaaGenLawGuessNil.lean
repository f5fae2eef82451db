/- Go functions as predicate transformers, written by a program of this session (gen.py), with their soundness. -/
import Derived.Test.YtplepdjcgojagaaGen2
set_option linter.unusedVariables false
set_option linter.unusedSimpArgs false
set_option maxRecDepth 100000
namespace Go.Proofs.Ytplepdjcgojagaa.G
open Go Go.Proofs.Ytplepdjcgojagaa.Vm
/-! ### valise/valiselaw05.GuessNil: function 7 -/
def law05_GuessNil.f (a0 : Int) (a1 : Int) (a2 : Int) (a3 : Int) (w : World) (K : Bool → World → Prop) : Prop :=
  guess_Table_Learn.f none a0 a1 a2 w fun w =>
  guess_New.f (mn a3 100000) w fun r18_5 w =>
  law05_awake.f  w fun r19_7 w =>
  bif r19_7 then
    guess_Table_At.f none a0 w fun r23_8 w =>
    bif (r23_8 == 0) then
      guess_Table_Len.f none w fun r28_9 w =>
      bif (r28_9 == 0) then
        bif (!r18_5.isNone) then
          guess_Table_Len.f r18_5 w fun r37_10 w =>
          let v8_11 := (r37_10 == (mx 1 (mn a3 65536)))
          K v8_11 w
        else
          K false w
      else
        K false w
    else
      K false w
  else
    K false w
def law05_GuessNil.h : Hf := fun args w K => match args with
  | [v0, v1, v2, v3] => vI .i64 v0 fun a0 => vI .i64 v1 fun a1 => vI .i64 v2 fun a2 => vI .i64 v3 fun a3 => law05_GuessNil.f a0 a1 a2 a3 w (fun r0 w => K (Value.bool r0) w)
  | _ => False
def law05_GuessNil.C : Hd := hcons 20 guess_Table_Len.h (hcons 23 guess_Table_At.h (hcons 13 law05_awake.h (hcons 18 guess_New.h (hcons 21 guess_Table_Learn.h (hnil)))))
theorem law05_GuessNil.C_ok : CSound Try.prog law05_GuessNil.C := hcons_ok guess_Table_Len.ok (hcons_ok guess_Table_At.ok (hcons_ok law05_awake.ok (hcons_ok guess_New.ok (hcons_ok guess_Table_Learn.ok (hnil_ok)))))
def law05_GuessNil.D : Nat → Plan := fun i => .done
noncomputable def law05_GuessNil.c : Code := Try.f7.body.getD .skip
theorem law05_GuessNil.hb : Try.f7.body = some law05_GuessNil.c := by kernel_rfl
theorem law05_GuessNil.c_loops : loopsOf law05_GuessNil.c = [] := by kernel_rfl
def law05_GuessNil.L : LHd := fun l f w K => False
theorem law05_GuessNil.eq (a0 : Int) (a1 : Int) (a2 : Int) (a3 : Int) (w : World) (K : Value → World → Prop) : afn law05_GuessNil.C law05_GuessNil.L law05_GuessNil.D tab Try.f7 [(Value.int .i64 a0), (Value.int .i64 a1), (Value.int .i64 a2), (Value.int .i64 a3)] w K = law05_GuessNil.f a0 a1 a2 a3 w (fun r0 w => K (Value.bool r0) w) := by kernel_rfl
theorem law05_GuessNil.ok : FSound Try.prog 7 law05_GuessNil.h := by
  intro args w K h
  unfold law05_GuessNil.h at h
  split at h
  ·
    replace h := vI_ok h
    obtain ⟨a0, rfl, h⟩ := h
    replace h := vI_ok h
    obtain ⟨a1, rfl, h⟩ := h
    replace h := vI_ok h
    obtain ⟨a2, rfl, h⟩ := h
    replace h := vI_ok h
    obtain ⟨a3, rfl, h⟩ := h
    refine ⟨by kernel_rfl, fn_ok tab_ok law05_GuessNil.C_ok (L := law05_GuessNil.L) (D := law05_GuessNil.D) Try.func7 law05_GuessNil.hb (by kernel_rfl) (by rw [law05_GuessNil.c_loops]; exact lnil) (Nat.le_of_ble_eq_true (by kernel_rfl)) ?_⟩
    rw [law05_GuessNil.eq]
    exact h
  · exact h.elim
end Go.Proofs.Ytplepdjcgojagaa.G
