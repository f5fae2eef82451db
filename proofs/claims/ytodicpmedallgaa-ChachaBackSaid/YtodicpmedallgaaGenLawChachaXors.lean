/- Go functions as predicate transformers, written by a program of this session (gen.py), with their soundness. -/
import Derived.Test.YtodicpmedallgaaGen4
set_option linter.unusedVariables false
set_option linter.unusedSimpArgs false
set_option maxRecDepth 100000
namespace Go.Proofs.Ytodicpmedallgaa.G
open Go Go.Proofs.Ytodicpmedallgaa.Vm
/-! ### valise/valiselaw26.ChachaXors: function 9 -/
def law26_ChachaXors.f (a0 : Array Value) (a1_0 : Int) (a1_1 : Int) (a1_2 : Int) (a1_3 : Int) (a1_4 : Int) (a1_5 : Int) (a1_6 : Int) (a1_7 : Int) (a1_8 : Int) (a1_9 : Int) (a1_10 : Int) (a1_11 : Int) (a2 : Int) (a3 : Option Addr) (a3n : Nat) (a3c : Nat) (w : World) (K : Bool → World → Prop) : Prop :=
  newC 40 (a0).toList w fun a4_2 w =>
  newC 41 [(Value.int .u8 a1_0), (Value.int .u8 a1_1), (Value.int .u8 a1_2), (Value.int .u8 a1_3), (Value.int .u8 a1_4), (Value.int .u8 a1_5), (Value.int .u8 a1_6), (Value.int .u8 a1_7), (Value.int .u8 a1_8), (Value.int .u8 a1_9), (Value.int .u8 a1_10), (Value.int .u8 a1_11)] w fun a5_3 w =>
  bif (decide (((a3n : Nat) : Int) > 2000)) then
    law26_awake.f  w fun r13_7 w =>
    K r13_7 w
  else
    help_Own_byte.f a3 a3n a3c 71 w fun r15_9 r15_9n r15_9c w =>
    law26_awake.f  w.drew fun r16_11 w =>
    bif r16_11 then
      ldA a4_2 32 w fun x18_12 =>
      ldI .u8 (a5_3.add 0) w fun x19_13 =>
      ldI .u8 (a5_3.add 1) w fun x19_14 =>
      ldI .u8 (a5_3.add 2) w fun x19_15 =>
      ldI .u8 (a5_3.add 3) w fun x19_16 =>
      ldI .u8 (a5_3.add 4) w fun x19_17 =>
      ldI .u8 (a5_3.add 5) w fun x19_18 =>
      ldI .u8 (a5_3.add 6) w fun x19_19 =>
      ldI .u8 (a5_3.add 7) w fun x19_20 =>
      ldI .u8 (a5_3.add 8) w fun x19_21 =>
      ldI .u8 (a5_3.add 9) w fun x19_22 =>
      ldI .u8 (a5_3.add 10) w fun x19_23 =>
      ldI .u8 (a5_3.add 11) w fun x19_24 =>
      ldA a4_2 32 w fun x23_25 =>
      ldI .u8 (a5_3.add 0) w fun x24_26 =>
      ldI .u8 (a5_3.add 1) w fun x24_27 =>
      ldI .u8 (a5_3.add 2) w fun x24_28 =>
      ldI .u8 (a5_3.add 3) w fun x24_29 =>
      ldI .u8 (a5_3.add 4) w fun x24_30 =>
      ldI .u8 (a5_3.add 5) w fun x24_31 =>
      ldI .u8 (a5_3.add 6) w fun x24_32 =>
      ldI .u8 (a5_3.add 7) w fun x24_33 =>
      ldI .u8 (a5_3.add 8) w fun x24_34 =>
      ldI .u8 (a5_3.add 9) w fun x24_35 =>
      ldI .u8 (a5_3.add 10) w fun x24_36 =>
      ldI .u8 (a5_3.add 11) w fun x24_37 =>
      chacha_Xor.f x18_12.toArray x19_13 x19_14 x19_15 x19_16 x19_17 x19_18 x19_19 x19_20 x19_21 x19_22 x19_23 x19_24 a2 r15_9 r15_9n r15_9c w fun r22_38 r22_38n r22_38c w =>
      (rdCs w a5_3 12 0 = some [(Value.int .u8 x24_26), (Value.int .u8 x24_27), (Value.int .u8 x24_28), (Value.int .u8 x24_29), (Value.int .u8 x24_30), (Value.int .u8 x24_31), (Value.int .u8 x24_32), (Value.int .u8 x24_33), (Value.int .u8 x24_34), (Value.int .u8 x24_35), (Value.int .u8 x24_36), (Value.int .u8 x24_37)]) ∧
      ((rdCs w a4_2 32 0 = some x23_25) ∧
      (ref26_Xor.f x23_25.toArray x24_26 x24_27 x24_28 x24_29 x24_30 x24_31 x24_32 x24_33 x24_34 x24_35 x24_36 x24_37 a2 a3 a3n a3c w fun r27_39 r27_39n r27_39c w =>
      help_Bytes.f r22_38 r22_38n r22_38c r27_39 r27_39n r27_39c w fun r28_40 w =>
      bif r28_40 then
        help_Kept_byte.f r15_9 r15_9n r15_9c a3 a3n a3c 71 w fun r33_41 w =>
        K r33_41 w
      else
        K false w))
    else
      K false w
def law26_ChachaXors.H (F : type_of% @law26_ChachaXors.f) : Hf := fun args w K => match args with
  | [v0, v1, v2, v3] => vA v0 fun a0 => vT v1 fun l => cI .u8 l fun a1_0 l => cI .u8 l fun a1_1 l => cI .u8 l fun a1_2 l => cI .u8 l fun a1_3 l => cI .u8 l fun a1_4 l => cI .u8 l fun a1_5 l => cI .u8 l fun a1_6 l => cI .u8 l fun a1_7 l => cI .u8 l fun a1_8 l => cI .u8 l fun a1_9 l => cI .u8 l fun a1_10 l => cI .u8 l fun a1_11 l => cE l <| vI .u32 v2 fun a2 => vL v3 fun a3 a3n a3c => F a0 a1_0 a1_1 a1_2 a1_3 a1_4 a1_5 a1_6 a1_7 a1_8 a1_9 a1_10 a1_11 a2 a3 a3n a3c w (fun r0 w => K (Value.bool r0) w)
  | _ => False
def law26_ChachaXors.h : Hf := law26_ChachaXors.H @law26_ChachaXors.f
def law26_ChachaXors.CG (F28 : type_of% @law26_awake.f) (F15 : type_of% @help_Own_byte.f) (F32 : type_of% @chacha_Xor.f) (F33 : type_of% @ref26_Xor.f) (F31 : type_of% @help_Bytes.f) (F21 : type_of% @help_Kept_byte.f) : Hd := hcons 21 (help_Kept_byte.H F21) (hcons 31 (help_Bytes.H F31) (hcons 33 (ref26_Xor.H F33) (hcons 32 (chacha_Xor.H F32) (hcons 15 (help_Own_byte.H F15) (hcons 28 (law26_awake.H F28) (hnil))))))
def law26_ChachaXors.C : Hd := law26_ChachaXors.CG @law26_awake.f @help_Own_byte.f @chacha_Xor.f @ref26_Xor.f @help_Bytes.f @help_Kept_byte.f
def law26_ChachaXors.G (F28 : type_of% @law26_awake.f) (F15 : type_of% @help_Own_byte.f) (F32 : type_of% @chacha_Xor.f) (F33 : type_of% @ref26_Xor.f) (F31 : type_of% @help_Bytes.f) (F21 : type_of% @help_Kept_byte.f) (a0 : Array Value) (a1_0 : Int) (a1_1 : Int) (a1_2 : Int) (a1_3 : Int) (a1_4 : Int) (a1_5 : Int) (a1_6 : Int) (a1_7 : Int) (a1_8 : Int) (a1_9 : Int) (a1_10 : Int) (a1_11 : Int) (a2 : Int) (a3 : Option Addr) (a3n : Nat) (a3c : Nat) (w : World) (K : Bool → World → Prop) : Prop :=
  newC 40 (a0).toList w fun a4_2 w =>
  newC 41 [(Value.int .u8 a1_0), (Value.int .u8 a1_1), (Value.int .u8 a1_2), (Value.int .u8 a1_3), (Value.int .u8 a1_4), (Value.int .u8 a1_5), (Value.int .u8 a1_6), (Value.int .u8 a1_7), (Value.int .u8 a1_8), (Value.int .u8 a1_9), (Value.int .u8 a1_10), (Value.int .u8 a1_11)] w fun a5_3 w =>
  bif (decide (((a3n : Nat) : Int) > 2000)) then
    F28  w fun r13_7 w =>
    K r13_7 w
  else
    F15 a3 a3n a3c 71 w fun r15_9 r15_9n r15_9c w =>
    F28  w.drew fun r16_11 w =>
    bif r16_11 then
      ldA a4_2 32 w fun x18_12 =>
      ldI .u8 (a5_3.add 0) w fun x19_13 =>
      ldI .u8 (a5_3.add 1) w fun x19_14 =>
      ldI .u8 (a5_3.add 2) w fun x19_15 =>
      ldI .u8 (a5_3.add 3) w fun x19_16 =>
      ldI .u8 (a5_3.add 4) w fun x19_17 =>
      ldI .u8 (a5_3.add 5) w fun x19_18 =>
      ldI .u8 (a5_3.add 6) w fun x19_19 =>
      ldI .u8 (a5_3.add 7) w fun x19_20 =>
      ldI .u8 (a5_3.add 8) w fun x19_21 =>
      ldI .u8 (a5_3.add 9) w fun x19_22 =>
      ldI .u8 (a5_3.add 10) w fun x19_23 =>
      ldI .u8 (a5_3.add 11) w fun x19_24 =>
      ldA a4_2 32 w fun x23_25 =>
      ldI .u8 (a5_3.add 0) w fun x24_26 =>
      ldI .u8 (a5_3.add 1) w fun x24_27 =>
      ldI .u8 (a5_3.add 2) w fun x24_28 =>
      ldI .u8 (a5_3.add 3) w fun x24_29 =>
      ldI .u8 (a5_3.add 4) w fun x24_30 =>
      ldI .u8 (a5_3.add 5) w fun x24_31 =>
      ldI .u8 (a5_3.add 6) w fun x24_32 =>
      ldI .u8 (a5_3.add 7) w fun x24_33 =>
      ldI .u8 (a5_3.add 8) w fun x24_34 =>
      ldI .u8 (a5_3.add 9) w fun x24_35 =>
      ldI .u8 (a5_3.add 10) w fun x24_36 =>
      ldI .u8 (a5_3.add 11) w fun x24_37 =>
      F32 x18_12.toArray x19_13 x19_14 x19_15 x19_16 x19_17 x19_18 x19_19 x19_20 x19_21 x19_22 x19_23 x19_24 a2 r15_9 r15_9n r15_9c w fun r22_38 r22_38n r22_38c w =>
      (rdCs w a5_3 12 0 = some [(Value.int .u8 x24_26), (Value.int .u8 x24_27), (Value.int .u8 x24_28), (Value.int .u8 x24_29), (Value.int .u8 x24_30), (Value.int .u8 x24_31), (Value.int .u8 x24_32), (Value.int .u8 x24_33), (Value.int .u8 x24_34), (Value.int .u8 x24_35), (Value.int .u8 x24_36), (Value.int .u8 x24_37)]) ∧
      ((rdCs w a4_2 32 0 = some x23_25) ∧
      (F33 x23_25.toArray x24_26 x24_27 x24_28 x24_29 x24_30 x24_31 x24_32 x24_33 x24_34 x24_35 x24_36 x24_37 a2 a3 a3n a3c w fun r27_39 r27_39n r27_39c w =>
      F31 r22_38 r22_38n r22_38c r27_39 r27_39n r27_39c w fun r28_40 w =>
      bif r28_40 then
        F21 r15_9 r15_9n r15_9c a3 a3n a3c 71 w fun r33_41 w =>
        K r33_41 w
      else
        K false w))
    else
      K false w
theorem law26_ChachaXors.C_ok : CSound Try.prog law26_ChachaXors.C := hcons_ok help_Kept_byte.ok (hcons_ok help_Bytes.ok (hcons_ok ref26_Xor.ok (hcons_ok chacha_Xor.ok (hcons_ok help_Own_byte.ok (hcons_ok law26_awake.ok (hnil_ok))))))
def law26_ChachaXors.D : Nat → Plan := fun i => (match Nat.beq i 4 with | true => .eff 0 (.take 1 (.take 2 (.take 3 (.take 4 (.take 5 (.take 7 (.take 8 (.take 9 (.take 10 (.eff 6 (.eff 11 (.eff 12 (.take 13 (.take 14 (.take 15 (.take 16 (.eff 17 (.take 18 (.take 19 (.done)))))))))))))))))))) | false => .done)
noncomputable def law26_ChachaXors.c : Code := Try.f9.body.getD .skip
theorem law26_ChachaXors.hb : Try.f9.body = some law26_ChachaXors.c := by kernel_rfl
theorem law26_ChachaXors.c_loops : loopsOf law26_ChachaXors.c = [] := by kernel_rfl
def law26_ChachaXors.L : LHd := fun l f w K => False
theorem law26_ChachaXors.eqG (F28 : type_of% @law26_awake.f) (F15 : type_of% @help_Own_byte.f) (F32 : type_of% @chacha_Xor.f) (F33 : type_of% @ref26_Xor.f) (F31 : type_of% @help_Bytes.f) (F21 : type_of% @help_Kept_byte.f) (a0 : Array Value) (a1_0 : Int) (a1_1 : Int) (a1_2 : Int) (a1_3 : Int) (a1_4 : Int) (a1_5 : Int) (a1_6 : Int) (a1_7 : Int) (a1_8 : Int) (a1_9 : Int) (a1_10 : Int) (a1_11 : Int) (a2 : Int) (a3 : Option Addr) (a3n : Nat) (a3c : Nat) (w : World) (K : Value → World → Prop) : afn (law26_ChachaXors.CG F28 F15 F32 F33 F31 F21) law26_ChachaXors.L law26_ChachaXors.D tab Try.f9 [(Value.agg a0), (Value.agg #[(Value.int .u8 a1_0), (Value.int .u8 a1_1), (Value.int .u8 a1_2), (Value.int .u8 a1_3), (Value.int .u8 a1_4), (Value.int .u8 a1_5), (Value.int .u8 a1_6), (Value.int .u8 a1_7), (Value.int .u8 a1_8), (Value.int .u8 a1_9), (Value.int .u8 a1_10), (Value.int .u8 a1_11)]), (Value.int .u32 a2), (Value.slice a3 a3n a3c)] w K = law26_ChachaXors.G F28 F15 F32 F33 F31 F21 a0 a1_0 a1_1 a1_2 a1_3 a1_4 a1_5 a1_6 a1_7 a1_8 a1_9 a1_10 a1_11 a2 a3 a3n a3c w (fun r0 w => K (Value.bool r0) w) := by kernel_rfl
theorem law26_ChachaXors.eq (a0 : Array Value) (a1_0 : Int) (a1_1 : Int) (a1_2 : Int) (a1_3 : Int) (a1_4 : Int) (a1_5 : Int) (a1_6 : Int) (a1_7 : Int) (a1_8 : Int) (a1_9 : Int) (a1_10 : Int) (a1_11 : Int) (a2 : Int) (a3 : Option Addr) (a3n : Nat) (a3c : Nat) (w : World) (K : Value → World → Prop) : afn law26_ChachaXors.C law26_ChachaXors.L law26_ChachaXors.D tab Try.f9 [(Value.agg a0), (Value.agg #[(Value.int .u8 a1_0), (Value.int .u8 a1_1), (Value.int .u8 a1_2), (Value.int .u8 a1_3), (Value.int .u8 a1_4), (Value.int .u8 a1_5), (Value.int .u8 a1_6), (Value.int .u8 a1_7), (Value.int .u8 a1_8), (Value.int .u8 a1_9), (Value.int .u8 a1_10), (Value.int .u8 a1_11)]), (Value.int .u32 a2), (Value.slice a3 a3n a3c)] w K = law26_ChachaXors.f a0 a1_0 a1_1 a1_2 a1_3 a1_4 a1_5 a1_6 a1_7 a1_8 a1_9 a1_10 a1_11 a2 a3 a3n a3c w (fun r0 w => K (Value.bool r0) w) := law26_ChachaXors.eqG @law26_awake.f @help_Own_byte.f @chacha_Xor.f @ref26_Xor.f @help_Bytes.f @help_Kept_byte.f a0 a1_0 a1_1 a1_2 a1_3 a1_4 a1_5 a1_6 a1_7 a1_8 a1_9 a1_10 a1_11 a2 a3 a3n a3c w K
theorem law26_ChachaXors.ok : FSound Try.prog 9 law26_ChachaXors.h := by
  intro args w K h
  unfold law26_ChachaXors.h law26_ChachaXors.H at h
  split at h
  ·
    replace h := vA_ok h
    obtain ⟨a0, rfl, h⟩ := h
    replace h := vT_ok h
    obtain ⟨l, rfl, h⟩ := h
    replace h := cI_ok h; obtain ⟨a1_0, l, rfl, h⟩ := h
    replace h := cI_ok h; obtain ⟨a1_1, l, rfl, h⟩ := h
    replace h := cI_ok h; obtain ⟨a1_2, l, rfl, h⟩ := h
    replace h := cI_ok h; obtain ⟨a1_3, l, rfl, h⟩ := h
    replace h := cI_ok h; obtain ⟨a1_4, l, rfl, h⟩ := h
    replace h := cI_ok h; obtain ⟨a1_5, l, rfl, h⟩ := h
    replace h := cI_ok h; obtain ⟨a1_6, l, rfl, h⟩ := h
    replace h := cI_ok h; obtain ⟨a1_7, l, rfl, h⟩ := h
    replace h := cI_ok h; obtain ⟨a1_8, l, rfl, h⟩ := h
    replace h := cI_ok h; obtain ⟨a1_9, l, rfl, h⟩ := h
    replace h := cI_ok h; obtain ⟨a1_10, l, rfl, h⟩ := h
    replace h := cI_ok h; obtain ⟨a1_11, l, rfl, h⟩ := h
    replace h := cE_ok h; obtain ⟨rfl, h⟩ := h
    replace h := vI_ok h
    obtain ⟨a2, rfl, h⟩ := h
    replace h := vL_ok h
    obtain ⟨a3, a3n, a3c, rfl, h⟩ := h
    refine ⟨by kernel_rfl, fn_ok tab_ok law26_ChachaXors.C_ok (L := law26_ChachaXors.L) (D := law26_ChachaXors.D) Try.func9 law26_ChachaXors.hb (by kernel_rfl) (by rw [law26_ChachaXors.c_loops]; exact lnil) (Nat.le_of_ble_eq_true (by kernel_rfl)) ?_⟩
    rw [law26_ChachaXors.eq]
    exact h
  · exact h.elim
end Go.Proofs.Ytodicpmedallgaa.G
