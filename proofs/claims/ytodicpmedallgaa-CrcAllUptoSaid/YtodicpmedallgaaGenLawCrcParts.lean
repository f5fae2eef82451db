/- Go functions as predicate transformers, written by a program of this session (gen.py), with their soundness. -/
import Derived.Test.YtodicpmedallgaaGen4
set_option linter.unusedVariables false
set_option linter.unusedSimpArgs false
set_option maxRecDepth 100000
namespace Go.Proofs.Ytodicpmedallgaa.G
open Go Go.Proofs.Ytodicpmedallgaa.Vm
/-! ### valise/valiselaw03.CrcParts: function 4 -/
def law03_CrcParts.f (a0 : Option Addr) (a0n : Nat) (a0c : Nat) (a1 : Option Addr) (a1n : Nat) (a1c : Nat) (w : World) (K : Bool → World → Prop) : Prop :=
  law03_awake.f  w fun r5_3 w =>
  bif r5_3 then
    help_CopyBytes.f a0 a0n a0c w fun r8_4 r8_4n r8_4c w =>
    appL 5 1 1 [(Value.int .u8 0)] r8_4 r8_4n r8_4c a1 a1n a1c w fun a10_5 a10_5n a10_5c w =>
    crc_Sum.f a10_5 a10_5n a10_5c w fun r11_6 w =>
    crc_Sum.f a0 a0n a0c w fun r13_7 w =>
    crc_Add.f r13_7 a1 a1n a1c w fun r15_8 w =>
    bif (r11_6 == r15_8) then
      crc_Sum.f a0 a0n a0c w fun r20_9 w =>
      crc_Add.f r20_9 none 0 0 w fun r21_10 w =>
      crc_Sum.f a0 a0n a0c w fun r23_11 w =>
      let v4_12 := (r21_10 == r23_11)
      K v4_12 w
    else
      K false w
  else
    K false w
def law03_CrcParts.H (F : type_of% @law03_CrcParts.f) : Hf := fun args w K => match args with
  | [v0, v1] => vL v0 fun a0 a0n a0c => vL v1 fun a1 a1n a1c => F a0 a0n a0c a1 a1n a1c w (fun r0 w => K (Value.bool r0) w)
  | _ => False
def law03_CrcParts.h : Hf := law03_CrcParts.H @law03_CrcParts.f
def law03_CrcParts.CG (F16 : type_of% @law03_awake.f) (F22 : type_of% @help_CopyBytes.f) (F17 : type_of% @crc_Sum.f) (F19 : type_of% @crc_Add.f) : Hd := hcons 19 (crc_Add.H F19) (hcons 17 (crc_Sum.H F17) (hcons 22 (help_CopyBytes.H F22) (hcons 16 (law03_awake.H F16) (hnil))))
def law03_CrcParts.C : Hd := law03_CrcParts.CG @law03_awake.f @help_CopyBytes.f @crc_Sum.f @crc_Add.f
def law03_CrcParts.G (F16 : type_of% @law03_awake.f) (F22 : type_of% @help_CopyBytes.f) (F17 : type_of% @crc_Sum.f) (F19 : type_of% @crc_Add.f) (a0 : Option Addr) (a0n : Nat) (a0c : Nat) (a1 : Option Addr) (a1n : Nat) (a1c : Nat) (w : World) (K : Bool → World → Prop) : Prop :=
  F16  w fun r5_3 w =>
  bif r5_3 then
    F22 a0 a0n a0c w fun r8_4 r8_4n r8_4c w =>
    appL 5 1 1 [(Value.int .u8 0)] r8_4 r8_4n r8_4c a1 a1n a1c w fun a10_5 a10_5n a10_5c w =>
    F17 a10_5 a10_5n a10_5c w fun r11_6 w =>
    F17 a0 a0n a0c w fun r13_7 w =>
    F19 r13_7 a1 a1n a1c w fun r15_8 w =>
    bif (r11_6 == r15_8) then
      F17 a0 a0n a0c w fun r20_9 w =>
      F19 r20_9 none 0 0 w fun r21_10 w =>
      F17 a0 a0n a0c w fun r23_11 w =>
      let v4_12 := (r21_10 == r23_11)
      K v4_12 w
    else
      K false w
  else
    K false w
theorem law03_CrcParts.C_ok : CSound Try.prog law03_CrcParts.C := hcons_ok crc_Add.ok (hcons_ok crc_Sum.ok (hcons_ok help_CopyBytes.ok (hcons_ok law03_awake.ok (hnil_ok))))
def law03_CrcParts.D : Nat → Plan := fun i => .done
noncomputable def law03_CrcParts.c : Code := Try.f4.body.getD .skip
theorem law03_CrcParts.hb : Try.f4.body = some law03_CrcParts.c := by kernel_rfl
theorem law03_CrcParts.c_loops : loopsOf law03_CrcParts.c = [] := by kernel_rfl
def law03_CrcParts.L : LHd := fun l f w K => False
theorem law03_CrcParts.eqG (F16 : type_of% @law03_awake.f) (F22 : type_of% @help_CopyBytes.f) (F17 : type_of% @crc_Sum.f) (F19 : type_of% @crc_Add.f) (a0 : Option Addr) (a0n : Nat) (a0c : Nat) (a1 : Option Addr) (a1n : Nat) (a1c : Nat) (w : World) (K : Value → World → Prop) : afn (law03_CrcParts.CG F16 F22 F17 F19) law03_CrcParts.L law03_CrcParts.D tab Try.f4 [(Value.slice a0 a0n a0c), (Value.slice a1 a1n a1c)] w K = law03_CrcParts.G F16 F22 F17 F19 a0 a0n a0c a1 a1n a1c w (fun r0 w => K (Value.bool r0) w) := by kernel_rfl
theorem law03_CrcParts.eq (a0 : Option Addr) (a0n : Nat) (a0c : Nat) (a1 : Option Addr) (a1n : Nat) (a1c : Nat) (w : World) (K : Value → World → Prop) : afn law03_CrcParts.C law03_CrcParts.L law03_CrcParts.D tab Try.f4 [(Value.slice a0 a0n a0c), (Value.slice a1 a1n a1c)] w K = law03_CrcParts.f a0 a0n a0c a1 a1n a1c w (fun r0 w => K (Value.bool r0) w) := law03_CrcParts.eqG @law03_awake.f @help_CopyBytes.f @crc_Sum.f @crc_Add.f a0 a0n a0c a1 a1n a1c w K
theorem law03_CrcParts.ok : FSound Try.prog 4 law03_CrcParts.h := by
  intro args w K h
  unfold law03_CrcParts.h law03_CrcParts.H at h
  split at h
  ·
    replace h := vL_ok h
    obtain ⟨a0, a0n, a0c, rfl, h⟩ := h
    replace h := vL_ok h
    obtain ⟨a1, a1n, a1c, rfl, h⟩ := h
    refine ⟨by kernel_rfl, fn_ok tab_ok law03_CrcParts.C_ok (L := law03_CrcParts.L) (D := law03_CrcParts.D) Try.func4 law03_CrcParts.hb (by kernel_rfl) (by rw [law03_CrcParts.c_loops]; exact lnil) (Nat.le_of_ble_eq_true (by kernel_rfl)) ?_⟩
    rw [law03_CrcParts.eq]
    exact h
  · exact h.elim
end Go.Proofs.Ytodicpmedallgaa.G
