/- Go functions as predicate transformers, written by a program of this session (gen.py), with their soundness. -/
import Derived.Test.YtmgcjihcbdgihaaGen4
set_option linter.unusedVariables false
set_option linter.unusedSimpArgs false
set_option maxRecDepth 100000
namespace Go.Proofs.Ytmgcjihcbdgihaa.G
open Go Go.Proofs.Ytmgcjihcbdgihaa.Vm
/-! ### valise/valiselaw11.FixedBack: function 13 -/
def law11_FixedBack.f (a0 : Option Addr) (a0n : Nat) (a0c : Nat) (a1 : Int) (w : World) (K : Bool → World → Prop) : Prop :=
  bif (decide (((a0n : Nat) : Int) > 3000)) then
    law11_awake.f  w fun r8_5 w =>
    K r8_5 w
  else
    law11_awake.f  w fun r9_7 w =>
    bif r9_7 then
      fixed_Residual.f a0 a0n a0c a1 w fun r13_8 r13_8n r13_8c w =>
      fixed_Restore.f r13_8 r13_8n r13_8c a1 w fun r15_9 r15_9n r15_9c w =>
      help_Plain_int32.f r15_9 r15_9n r15_9c a0 a0n a0c w fun r17_10 w =>
      bif r17_10 then
        fixed_Restore.f a0 a0n a0c a1 w fun r22_11 r22_11n r22_11c w =>
        fixed_Residual.f r22_11 r22_11n r22_11c a1 w fun r24_12 r24_12n r24_12c w =>
        help_Plain_int32.f r24_12 r24_12n r24_12c a0 a0n a0c w fun r26_13 w =>
        K r26_13 w
      else
        K false w
    else
      K false w
def law11_FixedBack.H (F : type_of% @law11_FixedBack.f) : Hf := fun args w K => match args with
  | [v0, v1] => vL v0 fun a0 a0n a0c => vI .i64 v1 fun a1 => F a0 a0n a0c a1 w (fun r0 w => K (Value.bool r0) w)
  | _ => False
def law11_FixedBack.h : Hf := law11_FixedBack.H @law11_FixedBack.f
def law11_FixedBack.CG (F39 : type_of% @law11_awake.f) (F38 : type_of% @fixed_Residual.f) (F40 : type_of% @fixed_Restore.f) (F35 : type_of% @help_Plain_int32.f) : Hd := hcons 35 (help_Plain_int32.H F35) (hcons 40 (fixed_Restore.H F40) (hcons 38 (fixed_Residual.H F38) (hcons 39 (law11_awake.H F39) (hnil))))
def law11_FixedBack.C : Hd := law11_FixedBack.CG @law11_awake.f @fixed_Residual.f @fixed_Restore.f @help_Plain_int32.f
def law11_FixedBack.G (F39 : type_of% @law11_awake.f) (F38 : type_of% @fixed_Residual.f) (F40 : type_of% @fixed_Restore.f) (F35 : type_of% @help_Plain_int32.f) (a0 : Option Addr) (a0n : Nat) (a0c : Nat) (a1 : Int) (w : World) (K : Bool → World → Prop) : Prop :=
  bif (decide (((a0n : Nat) : Int) > 3000)) then
    F39  w fun r8_5 w =>
    K r8_5 w
  else
    F39  w fun r9_7 w =>
    bif r9_7 then
      F38 a0 a0n a0c a1 w fun r13_8 r13_8n r13_8c w =>
      F40 r13_8 r13_8n r13_8c a1 w fun r15_9 r15_9n r15_9c w =>
      F35 r15_9 r15_9n r15_9c a0 a0n a0c w fun r17_10 w =>
      bif r17_10 then
        F40 a0 a0n a0c a1 w fun r22_11 r22_11n r22_11c w =>
        F38 r22_11 r22_11n r22_11c a1 w fun r24_12 r24_12n r24_12c w =>
        F35 r24_12 r24_12n r24_12c a0 a0n a0c w fun r26_13 w =>
        K r26_13 w
      else
        K false w
    else
      K false w
theorem law11_FixedBack.C_ok : CSound Try.prog law11_FixedBack.C := hcons_ok help_Plain_int32.ok (hcons_ok fixed_Restore.ok (hcons_ok fixed_Residual.ok (hcons_ok law11_awake.ok (hnil_ok))))
def law11_FixedBack.D : Nat → Plan := fun i => .done
noncomputable def law11_FixedBack.c : Code := Try.f13.body.getD .skip
theorem law11_FixedBack.hb : Try.f13.body = some law11_FixedBack.c := by kernel_rfl
theorem law11_FixedBack.c_loops : loopsOf law11_FixedBack.c = [] := by kernel_rfl
def law11_FixedBack.L : LHd := fun l f w K => False
theorem law11_FixedBack.eqG (F39 : type_of% @law11_awake.f) (F38 : type_of% @fixed_Residual.f) (F40 : type_of% @fixed_Restore.f) (F35 : type_of% @help_Plain_int32.f) (a0 : Option Addr) (a0n : Nat) (a0c : Nat) (a1 : Int) (w : World) (K : Value → World → Prop) : afn (law11_FixedBack.CG F39 F38 F40 F35) law11_FixedBack.L law11_FixedBack.D tab Try.f13 [(Value.slice a0 a0n a0c), (Value.int .i64 a1)] w K = law11_FixedBack.G F39 F38 F40 F35 a0 a0n a0c a1 w (fun r0 w => K (Value.bool r0) w) := by kernel_rfl
theorem law11_FixedBack.eq (a0 : Option Addr) (a0n : Nat) (a0c : Nat) (a1 : Int) (w : World) (K : Value → World → Prop) : afn law11_FixedBack.C law11_FixedBack.L law11_FixedBack.D tab Try.f13 [(Value.slice a0 a0n a0c), (Value.int .i64 a1)] w K = law11_FixedBack.f a0 a0n a0c a1 w (fun r0 w => K (Value.bool r0) w) := law11_FixedBack.eqG @law11_awake.f @fixed_Residual.f @fixed_Restore.f @help_Plain_int32.f a0 a0n a0c a1 w K
theorem law11_FixedBack.ok : FSound Try.prog 13 law11_FixedBack.h := by
  intro args w K h
  unfold law11_FixedBack.h law11_FixedBack.H at h
  split at h
  ·
    replace h := vL_ok h
    obtain ⟨a0, a0n, a0c, rfl, h⟩ := h
    replace h := vI_ok h
    obtain ⟨a1, rfl, h⟩ := h
    refine ⟨by kernel_rfl, fn_ok tab_ok law11_FixedBack.C_ok (L := law11_FixedBack.L) (D := law11_FixedBack.D) Try.func13 law11_FixedBack.hb (by kernel_rfl) (by rw [law11_FixedBack.c_loops]; exact lnil) (Nat.le_of_ble_eq_true (by kernel_rfl)) ?_⟩
    rw [law11_FixedBack.eq]
    exact h
  · exact h.elim
end Go.Proofs.Ytmgcjihcbdgihaa.G
