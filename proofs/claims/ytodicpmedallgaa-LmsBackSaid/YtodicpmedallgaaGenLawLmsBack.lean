/- Go functions as predicate transformers, written by a program of this session (gen.py), with their soundness. -/
import Derived.Test.YtodicpmedallgaaGen4
set_option linter.unusedVariables false
set_option linter.unusedSimpArgs false
set_option maxRecDepth 100000
namespace Go.Proofs.Ytodicpmedallgaa.G
open Go Go.Proofs.Ytodicpmedallgaa.Vm
/-! ### valise/valiselaw12.LmsBack: function 14 -/
def law12_LmsBack.f (a0 : Option Addr) (a0n : Nat) (a0c : Nat) (a1 : Int) (w : World) (K : Bool → World → Prop) : Prop :=
  bif (decide (((a0n : Nat) : Int) > 3000)) then
    law12_awake.f  w fun r10_5 w =>
    K r10_5 w
  else
    lms_Residual.f a0 a0n a0c w fun r12_7 r12_7n r12_7c w =>
    if (IntKind.wrap .u64 (IntKind.wrap .i64 (((a0n : Nat) : Int) + 1))) = 0 then False else
    let v6_9 := (IntKind.wrap .i64 (Int.tmod (IntKind.wrap .u64 a1) (IntKind.wrap .u64 (IntKind.wrap .i64 (((a0n : Nat) : Int) + 1)))))
    law12_awake.f  w.drew fun r21_11 w =>
    bif r21_11 then
      lms_Restore.f r12_7 r12_7n r12_7c w fun r24_12 r24_12n r24_12c w =>
      help_Plain_int32.f r24_12 r24_12n r24_12c a0 a0n a0c w fun r26_13 w =>
      bif r26_13 then
        lms_Restore.f a0 a0n a0c w fun r30_14 r30_14n r30_14c w =>
        lms_Residual.f r30_14 r30_14n r30_14c w fun r31_15 r31_15n r31_15c w =>
        help_Plain_int32.f r31_15 r31_15n r31_15c a0 a0n a0c w fun r33_16 w =>
        bif r33_16 then
          bif (((r12_7n : Nat) : Int) == ((a0n : Nat) : Int)) then
            bnd a0n a0c none (some (Value.int .i64 v6_9)) fun l_17 h_18 =>
            bnd r12_7n r12_7c none (some (Value.int .i64 v6_9)) fun l_19 h_20 =>
            lms_Residual.f (adrS a0 l_17 a0c 1) (h_18 - l_17) (a0c - l_17) w fun r46_21 r46_21n r46_21c w =>
            help_Plain_int32.f r46_21 r46_21n r46_21c (adrS r12_7 l_19 r12_7c 1) (h_20 - l_19) (r12_7c - l_19) w fun r50_22 w =>
            K r50_22 w
          else
            K false w
        else
          K false w
      else
        K false w
    else
      K false w
def law12_LmsBack.H (F : type_of% @law12_LmsBack.f) : Hf := fun args w K => match args with
  | [v0, v1] => vL v0 fun a0 a0n a0c => vI .i64 v1 fun a1 => F a0 a0n a0c a1 w (fun r0 w => K (Value.bool r0) w)
  | _ => False
def law12_LmsBack.h : Hf := law12_LmsBack.H @law12_LmsBack.f
def law12_LmsBack.CG (F35 : type_of% @law12_awake.f) (F42 : type_of% @lms_Residual.f) (F44 : type_of% @lms_Restore.f) (F41 : type_of% @help_Plain_int32.f) : Hd := hcons 41 (help_Plain_int32.H F41) (hcons 44 (lms_Restore.H F44) (hcons 42 (lms_Residual.H F42) (hcons 35 (law12_awake.H F35) (hnil))))
def law12_LmsBack.C : Hd := law12_LmsBack.CG @law12_awake.f @lms_Residual.f @lms_Restore.f @help_Plain_int32.f
def law12_LmsBack.G (F35 : type_of% @law12_awake.f) (F42 : type_of% @lms_Residual.f) (F44 : type_of% @lms_Restore.f) (F41 : type_of% @help_Plain_int32.f) (a0 : Option Addr) (a0n : Nat) (a0c : Nat) (a1 : Int) (w : World) (K : Bool → World → Prop) : Prop :=
  bif (decide (((a0n : Nat) : Int) > 3000)) then
    F35  w fun r10_5 w =>
    K r10_5 w
  else
    F42 a0 a0n a0c w fun r12_7 r12_7n r12_7c w =>
    if (IntKind.wrap .u64 (IntKind.wrap .i64 (((a0n : Nat) : Int) + 1))) = 0 then False else
    let v6_9 := (IntKind.wrap .i64 (Int.tmod (IntKind.wrap .u64 a1) (IntKind.wrap .u64 (IntKind.wrap .i64 (((a0n : Nat) : Int) + 1)))))
    F35  w.drew fun r21_11 w =>
    bif r21_11 then
      F44 r12_7 r12_7n r12_7c w fun r24_12 r24_12n r24_12c w =>
      F41 r24_12 r24_12n r24_12c a0 a0n a0c w fun r26_13 w =>
      bif r26_13 then
        F44 a0 a0n a0c w fun r30_14 r30_14n r30_14c w =>
        F42 r30_14 r30_14n r30_14c w fun r31_15 r31_15n r31_15c w =>
        F41 r31_15 r31_15n r31_15c a0 a0n a0c w fun r33_16 w =>
        bif r33_16 then
          bif (((r12_7n : Nat) : Int) == ((a0n : Nat) : Int)) then
            bnd a0n a0c none (some (Value.int .i64 v6_9)) fun l_17 h_18 =>
            bnd r12_7n r12_7c none (some (Value.int .i64 v6_9)) fun l_19 h_20 =>
            F42 (adrS a0 l_17 a0c 1) (h_18 - l_17) (a0c - l_17) w fun r46_21 r46_21n r46_21c w =>
            F41 r46_21 r46_21n r46_21c (adrS r12_7 l_19 r12_7c 1) (h_20 - l_19) (r12_7c - l_19) w fun r50_22 w =>
            K r50_22 w
          else
            K false w
        else
          K false w
      else
        K false w
    else
      K false w
theorem law12_LmsBack.C_ok : CSound Try.prog law12_LmsBack.C := hcons_ok help_Plain_int32.ok (hcons_ok lms_Restore.ok (hcons_ok lms_Residual.ok (hcons_ok law12_awake.ok (hnil_ok))))
def law12_LmsBack.D : Nat → Plan := fun i => (match Nat.beq i 5 with | true => .eff 0 (.take 1 (.take 2 (.take 4 (.eff 3 (.eff 5 (.take 6 (.take 7 (.take 8 (.take 11 (.eff 9 (.eff 10 (.eff 12 (.take 13 (.take 14 (.take 15 (.take 16 (.take 17 (.take 18 (.take 19 (.take 20 (.take 21 (.take 22 (.take 23 (.take 24 (.take 26 (.take 27 (.take 28 (.eff 25 (.eff 29 (.take 30 (.take 31 (.done)))))))))))))))))))))))))))))))) | false => .done)
noncomputable def law12_LmsBack.c : Code := Try.f14.body.getD .skip
theorem law12_LmsBack.hb : Try.f14.body = some law12_LmsBack.c := by kernel_rfl
theorem law12_LmsBack.c_loops : loopsOf law12_LmsBack.c = [] := by kernel_rfl
def law12_LmsBack.L : LHd := fun l f w K => False
theorem law12_LmsBack.eqG (F35 : type_of% @law12_awake.f) (F42 : type_of% @lms_Residual.f) (F44 : type_of% @lms_Restore.f) (F41 : type_of% @help_Plain_int32.f) (a0 : Option Addr) (a0n : Nat) (a0c : Nat) (a1 : Int) (w : World) (K : Value → World → Prop) : afn (law12_LmsBack.CG F35 F42 F44 F41) law12_LmsBack.L law12_LmsBack.D tab Try.f14 [(Value.slice a0 a0n a0c), (Value.int .i64 a1)] w K = law12_LmsBack.G F35 F42 F44 F41 a0 a0n a0c a1 w (fun r0 w => K (Value.bool r0) w) := by kernel_rfl
theorem law12_LmsBack.eq (a0 : Option Addr) (a0n : Nat) (a0c : Nat) (a1 : Int) (w : World) (K : Value → World → Prop) : afn law12_LmsBack.C law12_LmsBack.L law12_LmsBack.D tab Try.f14 [(Value.slice a0 a0n a0c), (Value.int .i64 a1)] w K = law12_LmsBack.f a0 a0n a0c a1 w (fun r0 w => K (Value.bool r0) w) := law12_LmsBack.eqG @law12_awake.f @lms_Residual.f @lms_Restore.f @help_Plain_int32.f a0 a0n a0c a1 w K
theorem law12_LmsBack.ok : FSound Try.prog 14 law12_LmsBack.h := by
  intro args w K h
  unfold law12_LmsBack.h law12_LmsBack.H at h
  split at h
  ·
    replace h := vL_ok h
    obtain ⟨a0, a0n, a0c, rfl, h⟩ := h
    replace h := vI_ok h
    obtain ⟨a1, rfl, h⟩ := h
    refine ⟨by kernel_rfl, fn_ok tab_ok law12_LmsBack.C_ok (L := law12_LmsBack.L) (D := law12_LmsBack.D) Try.func14 law12_LmsBack.hb (by kernel_rfl) (by rw [law12_LmsBack.c_loops]; exact lnil) (Nat.le_of_ble_eq_true (by kernel_rfl)) ?_⟩
    rw [law12_LmsBack.eq]
    exact h
  · exact h.elim
end Go.Proofs.Ytodicpmedallgaa.G
