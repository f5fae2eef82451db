/- Go functions as predicate transformers, written by a program of this session (gen.py), with their soundness. -/
import Derived.Test.YtplepdjcgojagaaGen2
set_option linter.unusedVariables false
set_option linter.unusedSimpArgs false
set_option maxRecDepth 100000
namespace Go.Proofs.Ytplepdjcgojagaa.G
open Go Go.Proofs.Ytplepdjcgojagaa.Vm
/-! ### valise/valiselaw05.GuessTrend: function 4 -/
def law05_GuessTrend.f (a0 : Int) (a1 : Int) (a2 : Int) (a3 : Int) (w : World) (K : Bool → World → Prop) : Prop :=
  guess_Next.f (mn a0 a1) a2 a3 w fun r21_4 w =>
  guess_Next.f (mx a0 a1) a2 a3 w fun r25_5 w =>
  guess_Chance.f r21_4 w fun r27_7 w =>
  law05_awake.f  w fun r28_9 w =>
  bif r28_9 then
    bif (decide (r21_4 ≤ r25_5)) then
      bif (decide (r21_4 ≥ (mn a0 a1))) then
        bif (decide (r21_4 > (mn a0 a1))) then
          bif ((a2 != 0) == true) then
            bif (a2 != 0) then
              bif (decide (r27_7 ≥ 1)) then
                let v8_10 := (decide (r27_7 ≤ 4095))
                K v8_10 w
              else
                K false w
            else
              bif (decide (r21_4 ≤ (mn a0 a1))) then
                bif (decide (r27_7 ≥ 1)) then
                  let v8_11 := (decide (r27_7 ≤ 4095))
                  K v8_11 w
                else
                  K false w
              else
                K false w
          else
            K false w
        else
          bif ((a2 != 0) == (a2 != 0)) then
            bif (a2 != 0) then
              bif (decide (r27_7 ≥ 1)) then
                let v8_12 := (decide (r27_7 ≤ 4095))
                K v8_12 w
              else
                K false w
            else
              bif (decide (r21_4 ≤ (mn a0 a1))) then
                bif (decide (r27_7 ≥ 1)) then
                  let v8_13 := (decide (r27_7 ≤ 4095))
                  K v8_13 w
                else
                  K false w
              else
                K false w
          else
            K false w
      else
        bif ((a2 != 0) == false) then
          bif (a2 != 0) then
            bif (decide (r27_7 ≥ 1)) then
              let v8_14 := (decide (r27_7 ≤ 4095))
              K v8_14 w
            else
              K false w
          else
            bif (decide (r21_4 ≤ (mn a0 a1))) then
              bif (decide (r27_7 ≥ 1)) then
                let v8_15 := (decide (r27_7 ≤ 4095))
                K v8_15 w
              else
                K false w
            else
              K false w
        else
          K false w
    else
      K false w
  else
    K false w
def law05_GuessTrend.h : Hf := fun args w K => match args with
  | [v0, v1, v2, v3] => vI .u16 v0 fun a0 => vI .u16 v1 fun a1 => vI .i64 v2 fun a2 => vI .i64 v3 fun a3 => law05_GuessTrend.f a0 a1 a2 a3 w (fun r0 w => K (Value.bool r0) w)
  | _ => False
def law05_GuessTrend.C : Hd := hcons 13 law05_awake.h (hcons 16 guess_Chance.h (hcons 14 guess_Next.h (hnil)))
theorem law05_GuessTrend.C_ok : CSound Try.prog law05_GuessTrend.C := hcons_ok law05_awake.ok (hcons_ok guess_Chance.ok (hcons_ok guess_Next.ok (hnil_ok)))
def law05_GuessTrend.D : Nat → Plan := fun i => .done
noncomputable def law05_GuessTrend.c : Code := Try.f4.body.getD .skip
theorem law05_GuessTrend.hb : Try.f4.body = some law05_GuessTrend.c := by kernel_rfl
theorem law05_GuessTrend.c_loops : loopsOf law05_GuessTrend.c = [] := by kernel_rfl
def law05_GuessTrend.L : LHd := fun l f w K => False
theorem law05_GuessTrend.eq (a0 : Int) (a1 : Int) (a2 : Int) (a3 : Int) (w : World) (K : Value → World → Prop) : afn law05_GuessTrend.C law05_GuessTrend.L law05_GuessTrend.D tab Try.f4 [(Value.int .u16 a0), (Value.int .u16 a1), (Value.int .i64 a2), (Value.int .i64 a3)] w K = law05_GuessTrend.f a0 a1 a2 a3 w (fun r0 w => K (Value.bool r0) w) := by kernel_rfl
theorem law05_GuessTrend.ok : FSound Try.prog 4 law05_GuessTrend.h := by
  intro args w K h
  unfold law05_GuessTrend.h at h
  split at h
  ·
    replace h := vI_ok h
    obtain ⟨a0, rfl, h⟩ := h
    replace h := vI_ok h
    obtain ⟨a1, rfl, h⟩ := h
    replace h := vI_ok h
    obtain ⟨a2, rfl, h⟩ := h
    replace h := vI_ok h
    obtain ⟨a3, rfl, h⟩ := h
    refine ⟨by kernel_rfl, fn_ok tab_ok law05_GuessTrend.C_ok (L := law05_GuessTrend.L) (D := law05_GuessTrend.D) Try.func4 law05_GuessTrend.hb (by kernel_rfl) (by rw [law05_GuessTrend.c_loops]; exact lnil) (Nat.le_of_ble_eq_true (by kernel_rfl)) ?_⟩
    rw [law05_GuessTrend.eq]
    exact h
  · exact h.elim
end Go.Proofs.Ytplepdjcgojagaa.G
