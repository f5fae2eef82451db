/- Go functions as predicate transformers, written by a program of this session (gen.py), with their soundness. -/
import Derived.Test.YtinmhmphidgdeaaGen3
set_option linter.unusedVariables false
set_option linter.unusedSimpArgs false
set_option maxRecDepth 100000
namespace Go.Proofs.Ytinmhmphidgdeaa.G
open Go Go.Proofs.Ytinmhmphidgdeaa.Vm
/-! ### valise/valiselaw13.WavMakes: function 4 -/
def law13_WavMakes.f (a0_0 : Int) (a0_1 : Int) (a0_2 : Int) (a0_3 : Int) (a1 : Option Addr) (a1n : Nat) (a1c : Nat) (w : World) (K : Bool → World → Prop) : Prop :=
  newC 26 [(Value.int .i64 a0_0), (Value.int .i64 a0_1), (Value.int .i64 a0_2), (Value.int .i64 a0_3)] w fun a2_2 w =>
  bif (decide (((a1n : Nat) : Int) > 5000)) then
    law13_awake.f  w fun r9_6 w =>
    K r9_6 w
  else
    help_Own_byte.f a1 a1n a1c 71 w fun r11_8 r11_8n r11_8c w =>
    law13_awake.f  w.drew fun r12_10 w =>
    bif r12_10 then
      ldI .i64 (a2_2.add 0) w fun x14_11 =>
      ldI .i64 (a2_2.add 1) w fun x14_12 =>
      ldI .i64 (a2_2.add 2) w fun x14_13 =>
      ldI .i64 (a2_2.add 3) w fun x14_14 =>
      ldI .i64 (a2_2.add 0) w fun x17_15 =>
      ldI .i64 (a2_2.add 1) w fun x17_16 =>
      ldI .i64 (a2_2.add 2) w fun x17_17 =>
      ldI .i64 (a2_2.add 3) w fun x17_18 =>
      wav_Make.f x14_11 x14_12 x14_13 x14_14 r11_8 r11_8n r11_8c w fun r16_19 r16_19n r16_19c w =>
      (rdCs w a2_2 4 0 = some [(Value.int .i64 x17_15), (Value.int .i64 x17_16), (Value.int .i64 x17_17), (Value.int .i64 x17_18)]) ∧
      (ref13_Make.f x17_15 x17_16 x17_17 x17_18 a1 a1n a1c w fun r19_20 r19_20n r19_20c w =>
      help_Bytes.f r16_19 r16_19n r16_19c r19_20 r19_20n r19_20c w fun r20_21 w =>
      bif r20_21 then
        help_Kept_byte.f r11_8 r11_8n r11_8c a1 a1n a1c 71 w fun r25_22 w =>
        K r25_22 w
      else
        K false w)
    else
      K false w
def law13_WavMakes.H (F : type_of% @law13_WavMakes.f) : Hf := fun args w K => match args with
  | [v0, v1] => vT v0 fun l => cI .i64 l fun a0_0 l => cI .i64 l fun a0_1 l => cI .i64 l fun a0_2 l => cI .i64 l fun a0_3 l => cE l <| vL v1 fun a1 a1n a1c => F a0_0 a0_1 a0_2 a0_3 a1 a1n a1c w (fun r0 w => K (Value.bool r0) w)
  | _ => False
def law13_WavMakes.h : Hf := law13_WavMakes.H @law13_WavMakes.f
def law13_WavMakes.CG (F13 : type_of% @law13_awake.f) (F14 : type_of% @help_Own_byte.f) (F19 : type_of% @wav_Make.f) (F20 : type_of% @ref13_Make.f) (F18 : type_of% @help_Bytes.f) (F17 : type_of% @help_Kept_byte.f) : Hd := hcons 17 (help_Kept_byte.H F17) (hcons 18 (help_Bytes.H F18) (hcons 20 (ref13_Make.H F20) (hcons 19 (wav_Make.H F19) (hcons 14 (help_Own_byte.H F14) (hcons 13 (law13_awake.H F13) (hnil))))))
def law13_WavMakes.C : Hd := law13_WavMakes.CG @law13_awake.f @help_Own_byte.f @wav_Make.f @ref13_Make.f @help_Bytes.f @help_Kept_byte.f
def law13_WavMakes.G (F13 : type_of% @law13_awake.f) (F14 : type_of% @help_Own_byte.f) (F19 : type_of% @wav_Make.f) (F20 : type_of% @ref13_Make.f) (F18 : type_of% @help_Bytes.f) (F17 : type_of% @help_Kept_byte.f) (a0_0 : Int) (a0_1 : Int) (a0_2 : Int) (a0_3 : Int) (a1 : Option Addr) (a1n : Nat) (a1c : Nat) (w : World) (K : Bool → World → Prop) : Prop :=
  newC 26 [(Value.int .i64 a0_0), (Value.int .i64 a0_1), (Value.int .i64 a0_2), (Value.int .i64 a0_3)] w fun a2_2 w =>
  bif (decide (((a1n : Nat) : Int) > 5000)) then
    F13  w fun r9_6 w =>
    K r9_6 w
  else
    F14 a1 a1n a1c 71 w fun r11_8 r11_8n r11_8c w =>
    F13  w.drew fun r12_10 w =>
    bif r12_10 then
      ldI .i64 (a2_2.add 0) w fun x14_11 =>
      ldI .i64 (a2_2.add 1) w fun x14_12 =>
      ldI .i64 (a2_2.add 2) w fun x14_13 =>
      ldI .i64 (a2_2.add 3) w fun x14_14 =>
      ldI .i64 (a2_2.add 0) w fun x17_15 =>
      ldI .i64 (a2_2.add 1) w fun x17_16 =>
      ldI .i64 (a2_2.add 2) w fun x17_17 =>
      ldI .i64 (a2_2.add 3) w fun x17_18 =>
      F19 x14_11 x14_12 x14_13 x14_14 r11_8 r11_8n r11_8c w fun r16_19 r16_19n r16_19c w =>
      (rdCs w a2_2 4 0 = some [(Value.int .i64 x17_15), (Value.int .i64 x17_16), (Value.int .i64 x17_17), (Value.int .i64 x17_18)]) ∧
      (F20 x17_15 x17_16 x17_17 x17_18 a1 a1n a1c w fun r19_20 r19_20n r19_20c w =>
      F18 r16_19 r16_19n r16_19c r19_20 r19_20n r19_20c w fun r20_21 w =>
      bif r20_21 then
        F17 r11_8 r11_8n r11_8c a1 a1n a1c 71 w fun r25_22 w =>
        K r25_22 w
      else
        K false w)
    else
      K false w
theorem law13_WavMakes.C_ok : CSound Try.prog law13_WavMakes.C := hcons_ok help_Kept_byte.ok (hcons_ok help_Bytes.ok (hcons_ok ref13_Make.ok (hcons_ok wav_Make.ok (hcons_ok help_Own_byte.ok (hcons_ok law13_awake.ok (hnil_ok))))))
def law13_WavMakes.D : Nat → Plan := fun i => (match Nat.beq i 4 with | true => .eff 0 (.take 1 (.take 2 (.take 3 (.take 5 (.take 6 (.eff 4 (.eff 7 (.eff 8 (.take 9 (.take 10 (.take 11 (.take 12 (.eff 13 (.take 14 (.take 15 (.done)))))))))))))))) | false => .done)
noncomputable def law13_WavMakes.c : Code := Try.f4.body.getD .skip
theorem law13_WavMakes.hb : Try.f4.body = some law13_WavMakes.c := by kernel_rfl
theorem law13_WavMakes.c_loops : loopsOf law13_WavMakes.c = [] := by kernel_rfl
def law13_WavMakes.L : LHd := fun l f w K => False
theorem law13_WavMakes.eqG (F13 : type_of% @law13_awake.f) (F14 : type_of% @help_Own_byte.f) (F19 : type_of% @wav_Make.f) (F20 : type_of% @ref13_Make.f) (F18 : type_of% @help_Bytes.f) (F17 : type_of% @help_Kept_byte.f) (a0_0 : Int) (a0_1 : Int) (a0_2 : Int) (a0_3 : Int) (a1 : Option Addr) (a1n : Nat) (a1c : Nat) (w : World) (K : Value → World → Prop) : afn (law13_WavMakes.CG F13 F14 F19 F20 F18 F17) law13_WavMakes.L law13_WavMakes.D tab Try.f4 [(Value.agg #[(Value.int .i64 a0_0), (Value.int .i64 a0_1), (Value.int .i64 a0_2), (Value.int .i64 a0_3)]), (Value.slice a1 a1n a1c)] w K = law13_WavMakes.G F13 F14 F19 F20 F18 F17 a0_0 a0_1 a0_2 a0_3 a1 a1n a1c w (fun r0 w => K (Value.bool r0) w) := by kernel_rfl
theorem law13_WavMakes.eq (a0_0 : Int) (a0_1 : Int) (a0_2 : Int) (a0_3 : Int) (a1 : Option Addr) (a1n : Nat) (a1c : Nat) (w : World) (K : Value → World → Prop) : afn law13_WavMakes.C law13_WavMakes.L law13_WavMakes.D tab Try.f4 [(Value.agg #[(Value.int .i64 a0_0), (Value.int .i64 a0_1), (Value.int .i64 a0_2), (Value.int .i64 a0_3)]), (Value.slice a1 a1n a1c)] w K = law13_WavMakes.f a0_0 a0_1 a0_2 a0_3 a1 a1n a1c w (fun r0 w => K (Value.bool r0) w) := law13_WavMakes.eqG @law13_awake.f @help_Own_byte.f @wav_Make.f @ref13_Make.f @help_Bytes.f @help_Kept_byte.f a0_0 a0_1 a0_2 a0_3 a1 a1n a1c w K
theorem law13_WavMakes.ok : FSound Try.prog 4 law13_WavMakes.h := by
  intro args w K h
  unfold law13_WavMakes.h law13_WavMakes.H at h
  split at h
  ·
    replace h := vT_ok h
    obtain ⟨l, rfl, h⟩ := h
    replace h := cI_ok h; obtain ⟨a0_0, l, rfl, h⟩ := h
    replace h := cI_ok h; obtain ⟨a0_1, l, rfl, h⟩ := h
    replace h := cI_ok h; obtain ⟨a0_2, l, rfl, h⟩ := h
    replace h := cI_ok h; obtain ⟨a0_3, l, rfl, h⟩ := h
    replace h := cE_ok h; obtain ⟨rfl, h⟩ := h
    replace h := vL_ok h
    obtain ⟨a1, a1n, a1c, rfl, h⟩ := h
    refine ⟨by kernel_rfl, fn_ok tab_ok law13_WavMakes.C_ok (L := law13_WavMakes.L) (D := law13_WavMakes.D) Try.func4 law13_WavMakes.hb (by kernel_rfl) (by rw [law13_WavMakes.c_loops]; exact lnil) (Nat.le_of_ble_eq_true (by kernel_rfl)) ?_⟩
    rw [law13_WavMakes.eq]
    exact h
  · exact h.elim
end Go.Proofs.Ytinmhmphidgdeaa.G
