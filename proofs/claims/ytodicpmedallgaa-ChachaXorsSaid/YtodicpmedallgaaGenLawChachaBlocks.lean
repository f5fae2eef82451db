/- Go functions as predicate transformers, written by a program of this session (gen.py), with their soundness. -/
import Derived.Test.YtodicpmedallgaaGen4
set_option linter.unusedVariables false
set_option linter.unusedSimpArgs false
set_option maxRecDepth 100000
namespace Go.Proofs.Ytodicpmedallgaa.G
open Go Go.Proofs.Ytodicpmedallgaa.Vm
/-! ### valise/valiselaw26.ChachaBlocks: function 8 -/
def law26_ChachaBlocks.f (a0 : Array Value) (a1 : Int) (a2_0 : Int) (a2_1 : Int) (a2_2 : Int) (a2_3 : Int) (a2_4 : Int) (a2_5 : Int) (a2_6 : Int) (a2_7 : Int) (a2_8 : Int) (a2_9 : Int) (a2_10 : Int) (a2_11 : Int) (a3_0 : Int) (a3_1 : Int) (a3_2 : Int) (a3_3 : Int) (w : World) (K : Bool → World → Prop) : Prop :=
  newC 40 (a0).toList w fun a4_2 w =>
  newC 41 [(Value.int .u8 a2_0), (Value.int .u8 a2_1), (Value.int .u8 a2_2), (Value.int .u8 a2_3), (Value.int .u8 a2_4), (Value.int .u8 a2_5), (Value.int .u8 a2_6), (Value.int .u8 a2_7), (Value.int .u8 a2_8), (Value.int .u8 a2_9), (Value.int .u8 a2_10), (Value.int .u8 a2_11)] w fun a6_3 w =>
  newC 42 [(Value.int .u32 a3_0), (Value.int .u32 a3_1), (Value.int .u32 a3_2), (Value.int .u32 a3_3)] w fun a7_4 w =>
  ldI .u32 a7_4 w fun x19_6 =>
  ldI .u32 (a7_4.add 1) w fun x21_7 =>
  ldI .u32 (a7_4.add 2) w fun x23_8 =>
  ldI .u32 (a7_4.add 3) w fun x25_9 =>
  chacha_Quarter.f x19_6 x21_7 x23_8 x25_9 w fun r26_10 r26_11 r26_12 r26_13 w =>
  ldI .u32 a7_4 w fun x33_15 =>
  ldI .u32 (a7_4.add 1) w fun x35_16 =>
  ldI .u32 (a7_4.add 2) w fun x37_17 =>
  ldI .u32 (a7_4.add 3) w fun x39_18 =>
  ref26_Quarter.f x33_15 x35_16 x37_17 x39_18 w fun r40_19 r40_20 r40_21 r40_22 w =>
  law26_awake.f  w.drew fun r45_24 w =>
  bif r45_24 then
    bif (r26_10 == r40_19) then
      bif (r26_11 == r40_20) then
        bif (r26_12 == r40_21) then
          bif (r26_13 == r40_22) then
            ldA a4_2 32 w fun x67_25 =>
            ldI .u8 (a6_3.add 0) w fun x69_26 =>
            ldI .u8 (a6_3.add 1) w fun x69_27 =>
            ldI .u8 (a6_3.add 2) w fun x69_28 =>
            ldI .u8 (a6_3.add 3) w fun x69_29 =>
            ldI .u8 (a6_3.add 4) w fun x69_30 =>
            ldI .u8 (a6_3.add 5) w fun x69_31 =>
            ldI .u8 (a6_3.add 6) w fun x69_32 =>
            ldI .u8 (a6_3.add 7) w fun x69_33 =>
            ldI .u8 (a6_3.add 8) w fun x69_34 =>
            ldI .u8 (a6_3.add 9) w fun x69_35 =>
            ldI .u8 (a6_3.add 10) w fun x69_36 =>
            ldI .u8 (a6_3.add 11) w fun x69_37 =>
            ldA a4_2 32 w fun x71_38 =>
            ldI .u8 (a6_3.add 0) w fun x73_39 =>
            ldI .u8 (a6_3.add 1) w fun x73_40 =>
            ldI .u8 (a6_3.add 2) w fun x73_41 =>
            ldI .u8 (a6_3.add 3) w fun x73_42 =>
            ldI .u8 (a6_3.add 4) w fun x73_43 =>
            ldI .u8 (a6_3.add 5) w fun x73_44 =>
            ldI .u8 (a6_3.add 6) w fun x73_45 =>
            ldI .u8 (a6_3.add 7) w fun x73_46 =>
            ldI .u8 (a6_3.add 8) w fun x73_47 =>
            ldI .u8 (a6_3.add 9) w fun x73_48 =>
            ldI .u8 (a6_3.add 10) w fun x73_49 =>
            ldI .u8 (a6_3.add 11) w fun x73_50 =>
            chacha_Block.f x67_25.toArray a1 x69_26 x69_27 x69_28 x69_29 x69_30 x69_31 x69_32 x69_33 x69_34 x69_35 x69_36 x69_37 w fun r70_51 w =>
            (rdCs w a6_3 12 0 = some [(Value.int .u8 x73_39), (Value.int .u8 x73_40), (Value.int .u8 x73_41), (Value.int .u8 x73_42), (Value.int .u8 x73_43), (Value.int .u8 x73_44), (Value.int .u8 x73_45), (Value.int .u8 x73_46), (Value.int .u8 x73_47), (Value.int .u8 x73_48), (Value.int .u8 x73_49), (Value.int .u8 x73_50)]) ∧
            ((rdCs w a4_2 32 0 = some x71_38) ∧
            (ref26_Block.f x71_38.toArray a1 x73_39 x73_40 x73_41 x73_42 x73_43 x73_44 x73_45 x73_46 x73_47 x73_48 x73_49 x73_50 w fun r74_52 w =>
            eqI .u8 64 r70_51 r74_52 fun e_53 =>
            K e_53 w))
          else
            K false w
        else
          K false w
      else
        K false w
    else
      K false w
  else
    K false w
def law26_ChachaBlocks.H (F : type_of% @law26_ChachaBlocks.f) : Hf := fun args w K => match args with
  | [v0, v1, v2, v3] => vA v0 fun a0 => vI .u32 v1 fun a1 => vT v2 fun l => cI .u8 l fun a2_0 l => cI .u8 l fun a2_1 l => cI .u8 l fun a2_2 l => cI .u8 l fun a2_3 l => cI .u8 l fun a2_4 l => cI .u8 l fun a2_5 l => cI .u8 l fun a2_6 l => cI .u8 l fun a2_7 l => cI .u8 l fun a2_8 l => cI .u8 l fun a2_9 l => cI .u8 l fun a2_10 l => cI .u8 l fun a2_11 l => cE l <| vT v3 fun l => cI .u32 l fun a3_0 l => cI .u32 l fun a3_1 l => cI .u32 l fun a3_2 l => cI .u32 l fun a3_3 l => cE l <| F a0 a1 a2_0 a2_1 a2_2 a2_3 a2_4 a2_5 a2_6 a2_7 a2_8 a2_9 a2_10 a2_11 a3_0 a3_1 a3_2 a3_3 w (fun r0 w => K (Value.bool r0) w)
  | _ => False
def law26_ChachaBlocks.h : Hf := law26_ChachaBlocks.H @law26_ChachaBlocks.f
def law26_ChachaBlocks.CG (F26 : type_of% @chacha_Quarter.f) (F27 : type_of% @ref26_Quarter.f) (F28 : type_of% @law26_awake.f) (F29 : type_of% @chacha_Block.f) (F30 : type_of% @ref26_Block.f) : Hd := hcons 30 (ref26_Block.H F30) (hcons 29 (chacha_Block.H F29) (hcons 28 (law26_awake.H F28) (hcons 27 (ref26_Quarter.H F27) (hcons 26 (chacha_Quarter.H F26) (hnil)))))
def law26_ChachaBlocks.C : Hd := law26_ChachaBlocks.CG @chacha_Quarter.f @ref26_Quarter.f @law26_awake.f @chacha_Block.f @ref26_Block.f
def law26_ChachaBlocks.G (F26 : type_of% @chacha_Quarter.f) (F27 : type_of% @ref26_Quarter.f) (F28 : type_of% @law26_awake.f) (F29 : type_of% @chacha_Block.f) (F30 : type_of% @ref26_Block.f) (a0 : Array Value) (a1 : Int) (a2_0 : Int) (a2_1 : Int) (a2_2 : Int) (a2_3 : Int) (a2_4 : Int) (a2_5 : Int) (a2_6 : Int) (a2_7 : Int) (a2_8 : Int) (a2_9 : Int) (a2_10 : Int) (a2_11 : Int) (a3_0 : Int) (a3_1 : Int) (a3_2 : Int) (a3_3 : Int) (w : World) (K : Bool → World → Prop) : Prop :=
  newC 40 (a0).toList w fun a4_2 w =>
  newC 41 [(Value.int .u8 a2_0), (Value.int .u8 a2_1), (Value.int .u8 a2_2), (Value.int .u8 a2_3), (Value.int .u8 a2_4), (Value.int .u8 a2_5), (Value.int .u8 a2_6), (Value.int .u8 a2_7), (Value.int .u8 a2_8), (Value.int .u8 a2_9), (Value.int .u8 a2_10), (Value.int .u8 a2_11)] w fun a6_3 w =>
  newC 42 [(Value.int .u32 a3_0), (Value.int .u32 a3_1), (Value.int .u32 a3_2), (Value.int .u32 a3_3)] w fun a7_4 w =>
  ldI .u32 a7_4 w fun x19_6 =>
  ldI .u32 (a7_4.add 1) w fun x21_7 =>
  ldI .u32 (a7_4.add 2) w fun x23_8 =>
  ldI .u32 (a7_4.add 3) w fun x25_9 =>
  F26 x19_6 x21_7 x23_8 x25_9 w fun r26_10 r26_11 r26_12 r26_13 w =>
  ldI .u32 a7_4 w fun x33_15 =>
  ldI .u32 (a7_4.add 1) w fun x35_16 =>
  ldI .u32 (a7_4.add 2) w fun x37_17 =>
  ldI .u32 (a7_4.add 3) w fun x39_18 =>
  F27 x33_15 x35_16 x37_17 x39_18 w fun r40_19 r40_20 r40_21 r40_22 w =>
  F28  w.drew fun r45_24 w =>
  bif r45_24 then
    bif (r26_10 == r40_19) then
      bif (r26_11 == r40_20) then
        bif (r26_12 == r40_21) then
          bif (r26_13 == r40_22) then
            ldA a4_2 32 w fun x67_25 =>
            ldI .u8 (a6_3.add 0) w fun x69_26 =>
            ldI .u8 (a6_3.add 1) w fun x69_27 =>
            ldI .u8 (a6_3.add 2) w fun x69_28 =>
            ldI .u8 (a6_3.add 3) w fun x69_29 =>
            ldI .u8 (a6_3.add 4) w fun x69_30 =>
            ldI .u8 (a6_3.add 5) w fun x69_31 =>
            ldI .u8 (a6_3.add 6) w fun x69_32 =>
            ldI .u8 (a6_3.add 7) w fun x69_33 =>
            ldI .u8 (a6_3.add 8) w fun x69_34 =>
            ldI .u8 (a6_3.add 9) w fun x69_35 =>
            ldI .u8 (a6_3.add 10) w fun x69_36 =>
            ldI .u8 (a6_3.add 11) w fun x69_37 =>
            ldA a4_2 32 w fun x71_38 =>
            ldI .u8 (a6_3.add 0) w fun x73_39 =>
            ldI .u8 (a6_3.add 1) w fun x73_40 =>
            ldI .u8 (a6_3.add 2) w fun x73_41 =>
            ldI .u8 (a6_3.add 3) w fun x73_42 =>
            ldI .u8 (a6_3.add 4) w fun x73_43 =>
            ldI .u8 (a6_3.add 5) w fun x73_44 =>
            ldI .u8 (a6_3.add 6) w fun x73_45 =>
            ldI .u8 (a6_3.add 7) w fun x73_46 =>
            ldI .u8 (a6_3.add 8) w fun x73_47 =>
            ldI .u8 (a6_3.add 9) w fun x73_48 =>
            ldI .u8 (a6_3.add 10) w fun x73_49 =>
            ldI .u8 (a6_3.add 11) w fun x73_50 =>
            F29 x67_25.toArray a1 x69_26 x69_27 x69_28 x69_29 x69_30 x69_31 x69_32 x69_33 x69_34 x69_35 x69_36 x69_37 w fun r70_51 w =>
            (rdCs w a6_3 12 0 = some [(Value.int .u8 x73_39), (Value.int .u8 x73_40), (Value.int .u8 x73_41), (Value.int .u8 x73_42), (Value.int .u8 x73_43), (Value.int .u8 x73_44), (Value.int .u8 x73_45), (Value.int .u8 x73_46), (Value.int .u8 x73_47), (Value.int .u8 x73_48), (Value.int .u8 x73_49), (Value.int .u8 x73_50)]) ∧
            ((rdCs w a4_2 32 0 = some x71_38) ∧
            (F30 x71_38.toArray a1 x73_39 x73_40 x73_41 x73_42 x73_43 x73_44 x73_45 x73_46 x73_47 x73_48 x73_49 x73_50 w fun r74_52 w =>
            eqI .u8 64 r70_51 r74_52 fun e_53 =>
            K e_53 w))
          else
            K false w
        else
          K false w
      else
        K false w
    else
      K false w
  else
    K false w
theorem law26_ChachaBlocks.C_ok : CSound Try.prog law26_ChachaBlocks.C := hcons_ok ref26_Block.ok (hcons_ok chacha_Block.ok (hcons_ok law26_awake.ok (hcons_ok ref26_Quarter.ok (hcons_ok chacha_Quarter.ok (hnil_ok)))))
def law26_ChachaBlocks.D : Nat → Plan := fun i => (match Nat.beq i 3 with | true => .eff 0 (.take 1 (.take 2 (.take 3 (.take 4 (.take 5 (.take 6 (.take 7 (.take 8 (.take 9 (.take 10 (.take 11 (.take 12 (.take 13 (.take 14 (.take 15 (.take 16 (.take 17 (.take 18 (.take 19 (.take 20 (.take 21 (.take 22 (.take 23 (.take 24 (.take 26 (.take 27 (.take 28 (.eff 25 (.eff 29 (.take 30 (.take 31 (.take 32 (.done))))))))))))))))))))))))))))))))) | false => .done)
noncomputable def law26_ChachaBlocks.c : Code := Try.f8.body.getD .skip
theorem law26_ChachaBlocks.hb : Try.f8.body = some law26_ChachaBlocks.c := by kernel_rfl
theorem law26_ChachaBlocks.c_loops : loopsOf law26_ChachaBlocks.c = [] := by kernel_rfl
def law26_ChachaBlocks.L : LHd := fun l f w K => False
theorem law26_ChachaBlocks.eqG (F26 : type_of% @chacha_Quarter.f) (F27 : type_of% @ref26_Quarter.f) (F28 : type_of% @law26_awake.f) (F29 : type_of% @chacha_Block.f) (F30 : type_of% @ref26_Block.f) (a0 : Array Value) (a1 : Int) (a2_0 : Int) (a2_1 : Int) (a2_2 : Int) (a2_3 : Int) (a2_4 : Int) (a2_5 : Int) (a2_6 : Int) (a2_7 : Int) (a2_8 : Int) (a2_9 : Int) (a2_10 : Int) (a2_11 : Int) (a3_0 : Int) (a3_1 : Int) (a3_2 : Int) (a3_3 : Int) (w : World) (K : Value → World → Prop) : afn (law26_ChachaBlocks.CG F26 F27 F28 F29 F30) law26_ChachaBlocks.L law26_ChachaBlocks.D tab Try.f8 [(Value.agg a0), (Value.int .u32 a1), (Value.agg #[(Value.int .u8 a2_0), (Value.int .u8 a2_1), (Value.int .u8 a2_2), (Value.int .u8 a2_3), (Value.int .u8 a2_4), (Value.int .u8 a2_5), (Value.int .u8 a2_6), (Value.int .u8 a2_7), (Value.int .u8 a2_8), (Value.int .u8 a2_9), (Value.int .u8 a2_10), (Value.int .u8 a2_11)]), (Value.agg #[(Value.int .u32 a3_0), (Value.int .u32 a3_1), (Value.int .u32 a3_2), (Value.int .u32 a3_3)])] w K = law26_ChachaBlocks.G F26 F27 F28 F29 F30 a0 a1 a2_0 a2_1 a2_2 a2_3 a2_4 a2_5 a2_6 a2_7 a2_8 a2_9 a2_10 a2_11 a3_0 a3_1 a3_2 a3_3 w (fun r0 w => K (Value.bool r0) w) := by kernel_rfl
theorem law26_ChachaBlocks.eq (a0 : Array Value) (a1 : Int) (a2_0 : Int) (a2_1 : Int) (a2_2 : Int) (a2_3 : Int) (a2_4 : Int) (a2_5 : Int) (a2_6 : Int) (a2_7 : Int) (a2_8 : Int) (a2_9 : Int) (a2_10 : Int) (a2_11 : Int) (a3_0 : Int) (a3_1 : Int) (a3_2 : Int) (a3_3 : Int) (w : World) (K : Value → World → Prop) : afn law26_ChachaBlocks.C law26_ChachaBlocks.L law26_ChachaBlocks.D tab Try.f8 [(Value.agg a0), (Value.int .u32 a1), (Value.agg #[(Value.int .u8 a2_0), (Value.int .u8 a2_1), (Value.int .u8 a2_2), (Value.int .u8 a2_3), (Value.int .u8 a2_4), (Value.int .u8 a2_5), (Value.int .u8 a2_6), (Value.int .u8 a2_7), (Value.int .u8 a2_8), (Value.int .u8 a2_9), (Value.int .u8 a2_10), (Value.int .u8 a2_11)]), (Value.agg #[(Value.int .u32 a3_0), (Value.int .u32 a3_1), (Value.int .u32 a3_2), (Value.int .u32 a3_3)])] w K = law26_ChachaBlocks.f a0 a1 a2_0 a2_1 a2_2 a2_3 a2_4 a2_5 a2_6 a2_7 a2_8 a2_9 a2_10 a2_11 a3_0 a3_1 a3_2 a3_3 w (fun r0 w => K (Value.bool r0) w) := law26_ChachaBlocks.eqG @chacha_Quarter.f @ref26_Quarter.f @law26_awake.f @chacha_Block.f @ref26_Block.f a0 a1 a2_0 a2_1 a2_2 a2_3 a2_4 a2_5 a2_6 a2_7 a2_8 a2_9 a2_10 a2_11 a3_0 a3_1 a3_2 a3_3 w K
theorem law26_ChachaBlocks.ok : FSound Try.prog 8 law26_ChachaBlocks.h := by
  intro args w K h
  unfold law26_ChachaBlocks.h law26_ChachaBlocks.H at h
  split at h
  ·
    replace h := vA_ok h
    obtain ⟨a0, rfl, h⟩ := h
    replace h := vI_ok h
    obtain ⟨a1, rfl, h⟩ := h
    replace h := vT_ok h
    obtain ⟨l, rfl, h⟩ := h
    replace h := cI_ok h; obtain ⟨a2_0, l, rfl, h⟩ := h
    replace h := cI_ok h; obtain ⟨a2_1, l, rfl, h⟩ := h
    replace h := cI_ok h; obtain ⟨a2_2, l, rfl, h⟩ := h
    replace h := cI_ok h; obtain ⟨a2_3, l, rfl, h⟩ := h
    replace h := cI_ok h; obtain ⟨a2_4, l, rfl, h⟩ := h
    replace h := cI_ok h; obtain ⟨a2_5, l, rfl, h⟩ := h
    replace h := cI_ok h; obtain ⟨a2_6, l, rfl, h⟩ := h
    replace h := cI_ok h; obtain ⟨a2_7, l, rfl, h⟩ := h
    replace h := cI_ok h; obtain ⟨a2_8, l, rfl, h⟩ := h
    replace h := cI_ok h; obtain ⟨a2_9, l, rfl, h⟩ := h
    replace h := cI_ok h; obtain ⟨a2_10, l, rfl, h⟩ := h
    replace h := cI_ok h; obtain ⟨a2_11, l, rfl, h⟩ := h
    replace h := cE_ok h; obtain ⟨rfl, h⟩ := h
    replace h := vT_ok h
    obtain ⟨l, rfl, h⟩ := h
    replace h := cI_ok h; obtain ⟨a3_0, l, rfl, h⟩ := h
    replace h := cI_ok h; obtain ⟨a3_1, l, rfl, h⟩ := h
    replace h := cI_ok h; obtain ⟨a3_2, l, rfl, h⟩ := h
    replace h := cI_ok h; obtain ⟨a3_3, l, rfl, h⟩ := h
    replace h := cE_ok h; obtain ⟨rfl, h⟩ := h
    refine ⟨by kernel_rfl, fn_ok tab_ok law26_ChachaBlocks.C_ok (L := law26_ChachaBlocks.L) (D := law26_ChachaBlocks.D) Try.func8 law26_ChachaBlocks.hb (by kernel_rfl) (by rw [law26_ChachaBlocks.c_loops]; exact lnil) (Nat.le_of_ble_eq_true (by kernel_rfl)) ?_⟩
    rw [law26_ChachaBlocks.eq]
    exact h
  · exact h.elim
end Go.Proofs.Ytodicpmedallgaa.G
