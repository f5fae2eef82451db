/- Go functions as predicate transformers, written by a program of this session (gen.py), with their soundness. -/
import Derived.Test.YtodicpmedallgaaGen4
set_option linter.unusedVariables false
set_option linter.unusedSimpArgs false
set_option maxRecDepth 100000
namespace Go.Proofs.Ytodicpmedallgaa.G
open Go Go.Proofs.Ytodicpmedallgaa.Vm
/-! ### valise/valiselaw03.CrcSums: function 3 -/
def law03_CrcSums.f (a0 : Option Addr) (a0n : Nat) (a0c : Nat) (a1 : Int) (w : World) (K : Bool → World → Prop) : Prop :=
  help_Own_byte.f a0 a0n a0c 71 w fun r7_3 r7_3n r7_3c w =>
  law03_awake.f  w fun r8_5 w =>
  bif r8_5 then
    crc_Sum.f r7_3 r7_3n r7_3c w fun r11_6 w =>
    ref03_Sum.f a0 a0n a0c w fun r13_7 w =>
    bif (r11_6 == r13_7) then
      crc_Add.f a1 r7_3 r7_3n r7_3c w fun r19_8 w =>
      ref03_Add.f a1 a0 a0n a0c w fun r22_9 w =>
      bif (r19_8 == r22_9) then
        help_Kept_byte.f r7_3 r7_3n r7_3c a0 a0n a0c 71 w fun r28_10 w =>
        K r28_10 w
      else
        K false w
    else
      K false w
  else
    K false w
def law03_CrcSums.H (F : type_of% @law03_CrcSums.f) : Hf := fun args w K => match args with
  | [v0, v1] => vL v0 fun a0 a0n a0c => vI .u32 v1 fun a1 => F a0 a0n a0c a1 w (fun r0 w => K (Value.bool r0) w)
  | _ => False
def law03_CrcSums.h : Hf := law03_CrcSums.H @law03_CrcSums.f
def law03_CrcSums.CG (F15 : type_of% @help_Own_byte.f) (F16 : type_of% @law03_awake.f) (F17 : type_of% @crc_Sum.f) (F18 : type_of% @ref03_Sum.f) (F19 : type_of% @crc_Add.f) (F20 : type_of% @ref03_Add.f) (F21 : type_of% @help_Kept_byte.f) : Hd := hcons 21 (help_Kept_byte.H F21) (hcons 20 (ref03_Add.H F20) (hcons 19 (crc_Add.H F19) (hcons 18 (ref03_Sum.H F18) (hcons 17 (crc_Sum.H F17) (hcons 16 (law03_awake.H F16) (hcons 15 (help_Own_byte.H F15) (hnil)))))))
def law03_CrcSums.C : Hd := law03_CrcSums.CG @help_Own_byte.f @law03_awake.f @crc_Sum.f @ref03_Sum.f @crc_Add.f @ref03_Add.f @help_Kept_byte.f
def law03_CrcSums.G (F15 : type_of% @help_Own_byte.f) (F16 : type_of% @law03_awake.f) (F17 : type_of% @crc_Sum.f) (F18 : type_of% @ref03_Sum.f) (F19 : type_of% @crc_Add.f) (F20 : type_of% @ref03_Add.f) (F21 : type_of% @help_Kept_byte.f) (a0 : Option Addr) (a0n : Nat) (a0c : Nat) (a1 : Int) (w : World) (K : Bool → World → Prop) : Prop :=
  F15 a0 a0n a0c 71 w fun r7_3 r7_3n r7_3c w =>
  F16  w fun r8_5 w =>
  bif r8_5 then
    F17 r7_3 r7_3n r7_3c w fun r11_6 w =>
    F18 a0 a0n a0c w fun r13_7 w =>
    bif (r11_6 == r13_7) then
      F19 a1 r7_3 r7_3n r7_3c w fun r19_8 w =>
      F20 a1 a0 a0n a0c w fun r22_9 w =>
      bif (r19_8 == r22_9) then
        F21 r7_3 r7_3n r7_3c a0 a0n a0c 71 w fun r28_10 w =>
        K r28_10 w
      else
        K false w
    else
      K false w
  else
    K false w
theorem law03_CrcSums.C_ok : CSound Try.prog law03_CrcSums.C := hcons_ok help_Kept_byte.ok (hcons_ok ref03_Add.ok (hcons_ok crc_Add.ok (hcons_ok ref03_Sum.ok (hcons_ok crc_Sum.ok (hcons_ok law03_awake.ok (hcons_ok help_Own_byte.ok (hnil_ok)))))))
def law03_CrcSums.D : Nat → Plan := fun i => .done
noncomputable def law03_CrcSums.c : Code := Try.f3.body.getD .skip
theorem law03_CrcSums.hb : Try.f3.body = some law03_CrcSums.c := by kernel_rfl
theorem law03_CrcSums.c_loops : loopsOf law03_CrcSums.c = [] := by kernel_rfl
def law03_CrcSums.L : LHd := fun l f w K => False
theorem law03_CrcSums.eqG (F15 : type_of% @help_Own_byte.f) (F16 : type_of% @law03_awake.f) (F17 : type_of% @crc_Sum.f) (F18 : type_of% @ref03_Sum.f) (F19 : type_of% @crc_Add.f) (F20 : type_of% @ref03_Add.f) (F21 : type_of% @help_Kept_byte.f) (a0 : Option Addr) (a0n : Nat) (a0c : Nat) (a1 : Int) (w : World) (K : Value → World → Prop) : afn (law03_CrcSums.CG F15 F16 F17 F18 F19 F20 F21) law03_CrcSums.L law03_CrcSums.D tab Try.f3 [(Value.slice a0 a0n a0c), (Value.int .u32 a1)] w K = law03_CrcSums.G F15 F16 F17 F18 F19 F20 F21 a0 a0n a0c a1 w (fun r0 w => K (Value.bool r0) w) := by kernel_rfl
theorem law03_CrcSums.eq (a0 : Option Addr) (a0n : Nat) (a0c : Nat) (a1 : Int) (w : World) (K : Value → World → Prop) : afn law03_CrcSums.C law03_CrcSums.L law03_CrcSums.D tab Try.f3 [(Value.slice a0 a0n a0c), (Value.int .u32 a1)] w K = law03_CrcSums.f a0 a0n a0c a1 w (fun r0 w => K (Value.bool r0) w) := law03_CrcSums.eqG @help_Own_byte.f @law03_awake.f @crc_Sum.f @ref03_Sum.f @crc_Add.f @ref03_Add.f @help_Kept_byte.f a0 a0n a0c a1 w K
theorem law03_CrcSums.ok : FSound Try.prog 3 law03_CrcSums.h := by
  intro args w K h
  unfold law03_CrcSums.h law03_CrcSums.H at h
  split at h
  ·
    replace h := vL_ok h
    obtain ⟨a0, a0n, a0c, rfl, h⟩ := h
    replace h := vI_ok h
    obtain ⟨a1, rfl, h⟩ := h
    refine ⟨by kernel_rfl, fn_ok tab_ok law03_CrcSums.C_ok (L := law03_CrcSums.L) (D := law03_CrcSums.D) Try.func3 law03_CrcSums.hb (by kernel_rfl) (by rw [law03_CrcSums.c_loops]; exact lnil) (Nat.le_of_ble_eq_true (by kernel_rfl)) ?_⟩
    rw [law03_CrcSums.eq]
    exact h
  · exact h.elim
end Go.Proofs.Ytodicpmedallgaa.G
