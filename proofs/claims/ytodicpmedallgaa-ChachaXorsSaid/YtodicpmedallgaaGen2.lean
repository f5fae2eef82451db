/- Go functions as predicate transformers, written by a program of this session (gen.py), with their soundness. -/
import Derived.Test.YtodicpmedallgaaGen1
set_option linter.unusedVariables false
set_option linter.unusedSimpArgs false
set_option maxRecDepth 100000
namespace Go.Proofs.Ytodicpmedallgaa.G
open Go Go.Proofs.Ytodicpmedallgaa.Vm
/-! ### valise/chacha.Block: function 29 -/
def chacha_Block.l3 : Nat → Int → Addr → Addr → Addr → Addr → Int → World → (Int → Addr → Addr → Addr → World → Prop) → Prop
  | 0, _, _, _, _, _, _, _, _ => False
  | N + 1, y1, y3, y5, y6, y7, y16, w, K0 =>
    bif (decide (y16 < 8)) then
      bnd 32 32 (some (Value.int .i64 (IntKind.wrap .i64 (4 * y16)))) (some (Value.int .i64 (IntKind.wrap .i64 ((IntKind.wrap .i64 (4 * y16)) + 4)))) fun l_13 h_14 =>
      chacha_word.f (adrS (some y3) l_13 32 1) (h_14 - l_13) (32 - l_13) w fun r27_15 w =>
      if 0 ≤ ((IntKind.wrap .i64 (4 + y16)) : Int) ∧ ((IntKind.wrap .i64 (4 + y16)) : Int) < ((16 : Nat) : Int) then
      stC (y7.add (Int.toNat (IntKind.wrap .i64 (4 + y16)))) (Value.int .u32 r27_15) w fun w =>
      chacha_Block.l3 N y1 y3 y5 y6 y7 (IntKind.wrap .i64 (y16 + 1)) w K0
      else False
    else
      K0 y1 y5 y6 y7 w

def chacha_Block.l9 : Nat → Addr → Addr → Addr → Int → World → (Addr → Addr → World → Prop) → Prop
  | 0, _, _, _, _, _, _ => False
  | N + 1, y5, y6, y7, y32, w, K2 =>
    bif (decide (y32 < 3)) then
      bnd 12 12 (some (Value.int .i64 (IntKind.wrap .i64 (4 * y32)))) (some (Value.int .i64 (IntKind.wrap .i64 ((IntKind.wrap .i64 (4 * y32)) + 4)))) fun l_28 h_29 =>
      chacha_word.f (adrS (some y5) l_28 12 1) (h_29 - l_28) (12 - l_28) w fun r43_30 w =>
      if 0 ≤ ((IntKind.wrap .i64 (13 + y32)) : Int) ∧ ((IntKind.wrap .i64 (13 + y32)) : Int) < ((16 : Nat) : Int) then
      stC (y7.add (Int.toNat (IntKind.wrap .i64 (13 + y32)))) (Value.int .u32 r43_30) w fun w =>
      chacha_Block.l9 N y5 y6 y7 (IntKind.wrap .i64 (y32 + 1)) w K2
      else False
    else
      K2 y6 y7 w

def chacha_Block.l21 : Nat → Addr → Addr → Addr → Int → Int → Int → Int → Int → Int → Int → Int → Int → Int → Int → Int → Int → Int → Int → Int → Int → Int → Int → Int → World → (Addr → Addr → Addr → Int → Int → Int → Int → Int → Int → Int → Int → Int → Int → Int → Int → Int → Int → Int → Int → Int → World → Prop) → Prop
  | 0, _, _, _, _, _, _, _, _, _, _, _, _, _, _, _, _, _, _, _, _, _, _, _, _, _ => False
  | N + 1, y6, y7, y11, y12, y13, y48_0, y48_1, y48_2, y48_3, y48_4, y48_5, y48_6, y48_7, y48_8, y48_9, y48_10, y48_11, y48_12, y48_13, y48_14, y48_15, y49, y58, w, K6 =>
    bif (decide (y58 < 4)) then
      if (IntKind.wrap .i64 (8 * y58)) < 0 then False else
      if 0 ≤ ((IntKind.wrap .i64 ((IntKind.wrap .i64 (4 * y12)) + y58)) : Int) ∧ ((IntKind.wrap .i64 ((IntKind.wrap .i64 (4 * y12)) + y58)) : Int) < ((64 : Nat) : Int) then
      stC (y11.add (Int.toNat (IntKind.wrap .i64 ((IntKind.wrap .i64 (4 * y12)) + y58)))) (Value.int .u8 (IntKind.wrap .u8 (shr .u32 y13 (min (Int.toNat (IntKind.wrap .i64 (8 * y58))) (IntKind.bits .u32))))) w fun w =>
      chacha_Block.l21 N y6 y7 y11 y12 y13 y48_0 y48_1 y48_2 y48_3 y48_4 y48_5 y48_6 y48_7 y48_8 y48_9 y48_10 y48_11 y48_12 y48_13 y48_14 y48_15 y49 (IntKind.wrap .i64 (y58 + 1)) w K6
      else False
    else
      K6 y6 y7 y11 y48_0 y48_1 y48_2 y48_3 y48_4 y48_5 y48_6 y48_7 y48_8 y48_9 y48_10 y48_11 y48_12 y48_13 y48_14 y48_15 y49 w

def chacha_Block.l17 : Nat → Addr → Addr → Addr → Int → Int → Int → Int → Int → Int → Int → Int → Int → Int → Int → Int → Int → Int → Int → Int → Int → World → (Addr → Addr → World → Prop) → Prop
  | 0, _, _, _, _, _, _, _, _, _, _, _, _, _, _, _, _, _, _, _, _, _, _ => False
  | N + 1, y6, y7, y11, y48_0, y48_1, y48_2, y48_3, y48_4, y48_5, y48_6, y48_7, y48_8, y48_9, y48_10, y48_11, y48_12, y48_13, y48_14, y48_15, y49, w, K4 =>
    bif (decide (y49 < 16)) then
      if 0 ≤ (y49 : Int) ∧ (y49 : Int) < ((16 : Nat) : Int) then
      ixI .u32 #[(Value.int .u32 y48_0), (Value.int .u32 y48_1), (Value.int .u32 y48_2), (Value.int .u32 y48_3), (Value.int .u32 y48_4), (Value.int .u32 y48_5), (Value.int .u32 y48_6), (Value.int .u32 y48_7), (Value.int .u32 y48_8), (Value.int .u32 y48_9), (Value.int .u32 y48_10), (Value.int .u32 y48_11), (Value.int .u32 y48_12), (Value.int .u32 y48_13), (Value.int .u32 y48_14), (Value.int .u32 y48_15)] y49 fun x_77 =>
      if 0 ≤ (y49 : Int) ∧ (y49 : Int) < ((16 : Nat) : Int) then
      ldI .u32 (y7.add (Int.toNat y49)) w fun x56_79 =>
      let v13_80 := (IntKind.wrap .u32 (x_77 + x56_79))
      ∃ N_86 : Nat, chacha_Block.l21 N_86 y6 y7 y11 y49 v13_80 y48_0 y48_1 y48_2 y48_3 y48_4 y48_5 y48_6 y48_7 y48_8 y48_9 y48_10 y48_11 y48_12 y48_13 y48_14 y48_15 y49 0 w
      (fun o6_87 o7_88 o11_89 o48_90_0 o48_90_1 o48_90_2 o48_90_3 o48_90_4 o48_90_5 o48_90_6 o48_90_7 o48_90_8 o48_90_9 o48_90_10 o48_90_11 o48_90_12 o48_90_13 o48_90_14 o48_90_15 o49_91 w =>
        chacha_Block.l17 N o6_87 o7_88 o11_89 o48_90_0 o48_90_1 o48_90_2 o48_90_3 o48_90_4 o48_90_5 o48_90_6 o48_90_7 o48_90_8 o48_90_9 o48_90_10 o48_90_11 o48_90_12 o48_90_13 o48_90_14 o48_90_15 (IntKind.wrap .i64 (o49_91 + 1)) w K4)
      else False
      else False
    else
      K4 y6 y11 w

def chacha_Block.f (a0 : Array Value) (a1 : Int) (a2_0 : Int) (a2_1 : Int) (a2_2 : Int) (a2_3 : Int) (a2_4 : Int) (a2_5 : Int) (a2_6 : Int) (a2_7 : Int) (a2_8 : Int) (a2_9 : Int) (a2_10 : Int) (a2_11 : Int) (w : World) (K : Array Value → World → Prop) : Prop :=
  newC 40 (a0).toList w fun a3_2 w =>
  newC 41 [(Value.int .u8 a2_0), (Value.int .u8 a2_1), (Value.int .u8 a2_2), (Value.int .u8 a2_3), (Value.int .u8 a2_4), (Value.int .u8 a2_5), (Value.int .u8 a2_6), (Value.int .u8 a2_7), (Value.int .u8 a2_8), (Value.int .u8 a2_9), (Value.int .u8 a2_10), (Value.int .u8 a2_11)] w fun a5_3 w =>
  newC 45 (List.replicate 64 (Value.int .u8 0)) w fun a6_4 w =>
  newC 70 (List.replicate 16 (Value.int .u32 0)) w fun a7_6 w =>
  stCs a7_6 [(Value.int .u32 1634760805), (Value.int .u32 857760878), (Value.int .u32 2036477234), (Value.int .u32 1797285236), (Value.int .u32 0), (Value.int .u32 0), (Value.int .u32 0), (Value.int .u32 0), (Value.int .u32 0), (Value.int .u32 0), (Value.int .u32 0), (Value.int .u32 0), (Value.int .u32 0), (Value.int .u32 0), (Value.int .u32 0), (Value.int .u32 0)] 0 w fun w =>
  ∃ N_16 : Nat, chacha_Block.l3 N_16 a1 a3_2 a5_3 a6_4 a7_6 0 w
  (fun o1_17 o5_18 o6_19 o7_20 w =>
    stC (o7_20.add 12) (Value.int .u32 o1_17) w fun w =>
    ∃ N_31 : Nat, chacha_Block.l9 N_31 o5_18 o6_19 o7_20 0 w
    (fun o6_32 o7_33 w =>
      ldI .u32 (o7_33.add 0) w fun x46_35 =>
      ldI .u32 (o7_33.add 1) w fun x46_36 =>
      ldI .u32 (o7_33.add 2) w fun x46_37 =>
      ldI .u32 (o7_33.add 3) w fun x46_38 =>
      ldI .u32 (o7_33.add 4) w fun x46_39 =>
      ldI .u32 (o7_33.add 5) w fun x46_40 =>
      ldI .u32 (o7_33.add 6) w fun x46_41 =>
      ldI .u32 (o7_33.add 7) w fun x46_42 =>
      ldI .u32 (o7_33.add 8) w fun x46_43 =>
      ldI .u32 (o7_33.add 9) w fun x46_44 =>
      ldI .u32 (o7_33.add 10) w fun x46_45 =>
      ldI .u32 (o7_33.add 11) w fun x46_46 =>
      ldI .u32 (o7_33.add 12) w fun x46_47 =>
      ldI .u32 (o7_33.add 13) w fun x46_48 =>
      ldI .u32 (o7_33.add 14) w fun x46_49 =>
      ldI .u32 (o7_33.add 15) w fun x46_50 =>
      newC 70 (List.replicate 16 (Value.int .u32 0)) w fun a10_51 w =>
      stCs a10_51 [(Value.int .u32 x46_35), (Value.int .u32 x46_36), (Value.int .u32 x46_37), (Value.int .u32 x46_38), (Value.int .u32 x46_39), (Value.int .u32 x46_40), (Value.int .u32 x46_41), (Value.int .u32 x46_42), (Value.int .u32 x46_43), (Value.int .u32 x46_44), (Value.int .u32 x46_45), (Value.int .u32 x46_46), (Value.int .u32 x46_47), (Value.int .u32 x46_48), (Value.int .u32 x46_49), (Value.int .u32 x46_50)] 0 w fun w =>
      chacha_state_rounds.f (some a10_51) w fun w =>
      newC 45 (List.replicate 64 (Value.int .u8 0)) w fun a11_54 w =>
      ldI .u32 (a10_51.add 0) w fun x48_57 =>
      ldI .u32 (a10_51.add 1) w fun x48_58 =>
      ldI .u32 (a10_51.add 2) w fun x48_59 =>
      ldI .u32 (a10_51.add 3) w fun x48_60 =>
      ldI .u32 (a10_51.add 4) w fun x48_61 =>
      ldI .u32 (a10_51.add 5) w fun x48_62 =>
      ldI .u32 (a10_51.add 6) w fun x48_63 =>
      ldI .u32 (a10_51.add 7) w fun x48_64 =>
      ldI .u32 (a10_51.add 8) w fun x48_65 =>
      ldI .u32 (a10_51.add 9) w fun x48_66 =>
      ldI .u32 (a10_51.add 10) w fun x48_67 =>
      ldI .u32 (a10_51.add 11) w fun x48_68 =>
      ldI .u32 (a10_51.add 12) w fun x48_69 =>
      ldI .u32 (a10_51.add 13) w fun x48_70 =>
      ldI .u32 (a10_51.add 14) w fun x48_71 =>
      ldI .u32 (a10_51.add 15) w fun x48_72 =>
      ∃ N_92 : Nat, chacha_Block.l17 N_92 o6_32 o7_33 a11_54 x48_57 x48_58 x48_59 x48_60 x48_61 x48_62 x48_63 x48_64 x48_65 x48_66 x48_67 x48_68 x48_69 x48_70 x48_71 x48_72 0 w
      (fun o6_93 o11_94 w =>
        ldA o11_94 64 w fun x73_96 =>
        if (x73_96.toArray).size = 64 then
        stCs o6_93 x73_96 0 w fun w =>
        ldA o6_93 64 w fun q_97 =>
        K q_97.toArray w
        else False)))
def chacha_Block.H (F : type_of% @chacha_Block.f) : Hf := fun args w K => match args with
  | [v0, v1, v2] => vA v0 fun a0 => vI .u32 v1 fun a1 => vT v2 fun l => cI .u8 l fun a2_0 l => cI .u8 l fun a2_1 l => cI .u8 l fun a2_2 l => cI .u8 l fun a2_3 l => cI .u8 l fun a2_4 l => cI .u8 l fun a2_5 l => cI .u8 l fun a2_6 l => cI .u8 l fun a2_7 l => cI .u8 l fun a2_8 l => cI .u8 l fun a2_9 l => cI .u8 l fun a2_10 l => cI .u8 l fun a2_11 l => cE l <| F a0 a1 a2_0 a2_1 a2_2 a2_3 a2_4 a2_5 a2_6 a2_7 a2_8 a2_9 a2_10 a2_11 w (fun r0 w => K (Value.agg r0) w)
  | _ => False
def chacha_Block.h : Hf := chacha_Block.H @chacha_Block.f
def chacha_Block.CG (F50 : type_of% @chacha_word.f) (F51 : type_of% @chacha_state_rounds.f) : Hd := hcons 51 (chacha_state_rounds.H F51) (hcons 50 (chacha_word.H F50) (hnil))
def chacha_Block.C : Hd := chacha_Block.CG @chacha_word.f @chacha_state_rounds.f
def chacha_Block.G (F50 : type_of% @chacha_word.f) (F51 : type_of% @chacha_state_rounds.f) (a0 : Array Value) (a1 : Int) (a2_0 : Int) (a2_1 : Int) (a2_2 : Int) (a2_3 : Int) (a2_4 : Int) (a2_5 : Int) (a2_6 : Int) (a2_7 : Int) (a2_8 : Int) (a2_9 : Int) (a2_10 : Int) (a2_11 : Int) (w : World) (K : Array Value → World → Prop) : Prop :=
  newC 40 (a0).toList w fun a3_2 w =>
  newC 41 [(Value.int .u8 a2_0), (Value.int .u8 a2_1), (Value.int .u8 a2_2), (Value.int .u8 a2_3), (Value.int .u8 a2_4), (Value.int .u8 a2_5), (Value.int .u8 a2_6), (Value.int .u8 a2_7), (Value.int .u8 a2_8), (Value.int .u8 a2_9), (Value.int .u8 a2_10), (Value.int .u8 a2_11)] w fun a5_3 w =>
  newC 45 (List.replicate 64 (Value.int .u8 0)) w fun a6_4 w =>
  newC 70 (List.replicate 16 (Value.int .u32 0)) w fun a7_6 w =>
  stCs a7_6 [(Value.int .u32 1634760805), (Value.int .u32 857760878), (Value.int .u32 2036477234), (Value.int .u32 1797285236), (Value.int .u32 0), (Value.int .u32 0), (Value.int .u32 0), (Value.int .u32 0), (Value.int .u32 0), (Value.int .u32 0), (Value.int .u32 0), (Value.int .u32 0), (Value.int .u32 0), (Value.int .u32 0), (Value.int .u32 0), (Value.int .u32 0)] 0 w fun w =>
  ∃ N_16 : Nat, chacha_Block.l3 N_16 a1 a3_2 a5_3 a6_4 a7_6 0 w
  (fun o1_17 o5_18 o6_19 o7_20 w =>
    stC (o7_20.add 12) (Value.int .u32 o1_17) w fun w =>
    ∃ N_31 : Nat, chacha_Block.l9 N_31 o5_18 o6_19 o7_20 0 w
    (fun o6_32 o7_33 w =>
      ldI .u32 (o7_33.add 0) w fun x46_35 =>
      ldI .u32 (o7_33.add 1) w fun x46_36 =>
      ldI .u32 (o7_33.add 2) w fun x46_37 =>
      ldI .u32 (o7_33.add 3) w fun x46_38 =>
      ldI .u32 (o7_33.add 4) w fun x46_39 =>
      ldI .u32 (o7_33.add 5) w fun x46_40 =>
      ldI .u32 (o7_33.add 6) w fun x46_41 =>
      ldI .u32 (o7_33.add 7) w fun x46_42 =>
      ldI .u32 (o7_33.add 8) w fun x46_43 =>
      ldI .u32 (o7_33.add 9) w fun x46_44 =>
      ldI .u32 (o7_33.add 10) w fun x46_45 =>
      ldI .u32 (o7_33.add 11) w fun x46_46 =>
      ldI .u32 (o7_33.add 12) w fun x46_47 =>
      ldI .u32 (o7_33.add 13) w fun x46_48 =>
      ldI .u32 (o7_33.add 14) w fun x46_49 =>
      ldI .u32 (o7_33.add 15) w fun x46_50 =>
      newC 70 (List.replicate 16 (Value.int .u32 0)) w fun a10_51 w =>
      stCs a10_51 [(Value.int .u32 x46_35), (Value.int .u32 x46_36), (Value.int .u32 x46_37), (Value.int .u32 x46_38), (Value.int .u32 x46_39), (Value.int .u32 x46_40), (Value.int .u32 x46_41), (Value.int .u32 x46_42), (Value.int .u32 x46_43), (Value.int .u32 x46_44), (Value.int .u32 x46_45), (Value.int .u32 x46_46), (Value.int .u32 x46_47), (Value.int .u32 x46_48), (Value.int .u32 x46_49), (Value.int .u32 x46_50)] 0 w fun w =>
      F51 (some a10_51) w fun w =>
      newC 45 (List.replicate 64 (Value.int .u8 0)) w fun a11_54 w =>
      ldI .u32 (a10_51.add 0) w fun x48_57 =>
      ldI .u32 (a10_51.add 1) w fun x48_58 =>
      ldI .u32 (a10_51.add 2) w fun x48_59 =>
      ldI .u32 (a10_51.add 3) w fun x48_60 =>
      ldI .u32 (a10_51.add 4) w fun x48_61 =>
      ldI .u32 (a10_51.add 5) w fun x48_62 =>
      ldI .u32 (a10_51.add 6) w fun x48_63 =>
      ldI .u32 (a10_51.add 7) w fun x48_64 =>
      ldI .u32 (a10_51.add 8) w fun x48_65 =>
      ldI .u32 (a10_51.add 9) w fun x48_66 =>
      ldI .u32 (a10_51.add 10) w fun x48_67 =>
      ldI .u32 (a10_51.add 11) w fun x48_68 =>
      ldI .u32 (a10_51.add 12) w fun x48_69 =>
      ldI .u32 (a10_51.add 13) w fun x48_70 =>
      ldI .u32 (a10_51.add 14) w fun x48_71 =>
      ldI .u32 (a10_51.add 15) w fun x48_72 =>
      ∃ N_92 : Nat, chacha_Block.l17 N_92 o6_32 o7_33 a11_54 x48_57 x48_58 x48_59 x48_60 x48_61 x48_62 x48_63 x48_64 x48_65 x48_66 x48_67 x48_68 x48_69 x48_70 x48_71 x48_72 0 w
      (fun o6_93 o11_94 w =>
        ldA o11_94 64 w fun x73_96 =>
        if (x73_96.toArray).size = 64 then
        stCs o6_93 x73_96 0 w fun w =>
        ldA o6_93 64 w fun q_97 =>
        K q_97.toArray w
        else False)))
theorem chacha_Block.C_ok : CSound Try.prog chacha_Block.C := hcons_ok chacha_state_rounds.ok (hcons_ok chacha_word.ok (hnil_ok))
def chacha_Block.D : Nat → Plan := fun i => .done
noncomputable def chacha_Block.c : Code := Try.f29.body.getD .skip
theorem chacha_Block.hb : Try.f29.body = some chacha_Block.c := by kernel_rfl
noncomputable def chacha_Block.b0 : Code := (loopsOf chacha_Block.c).getD 0 .skip
theorem chacha_Block.b0_loops : loopsOf chacha_Block.b0 = [] := by kernel_rfl
noncomputable def chacha_Block.b1 : Code := (loopsOf chacha_Block.c).getD 1 .skip
theorem chacha_Block.b1_loops : loopsOf chacha_Block.b1 = [] := by kernel_rfl
noncomputable def chacha_Block.b2 : Code := (loopsOf chacha_Block.c).getD 2 .skip
noncomputable def chacha_Block.b2_0 : Code := (loopsOf chacha_Block.b2).getD 0 .skip
theorem chacha_Block.b2_0_loops : loopsOf chacha_Block.b2_0 = [] := by kernel_rfl
theorem chacha_Block.b2_loops : loopsOf chacha_Block.b2 = [chacha_Block.b2_0] := by kernel_rfl
theorem chacha_Block.c_loops : loopsOf chacha_Block.c = [chacha_Block.b0, chacha_Block.b1, chacha_Block.b2] := by kernel_rfl
def chacha_Block.l3G (F50 : type_of% @chacha_word.f) (F51 : type_of% @chacha_state_rounds.f) (R : Int → Addr → Addr → Addr → Addr → Int → World → (Int → Addr → Addr → Addr → World → Prop) → Prop) : Int → Addr → Addr → Addr → Addr → Int → World → (Int → Addr → Addr → Addr → World → Prop) → Prop := fun y1 y3 y5 y6 y7 y16 w K0 =>
    bif (decide (y16 < 8)) then
      bnd 32 32 (some (Value.int .i64 (IntKind.wrap .i64 (4 * y16)))) (some (Value.int .i64 (IntKind.wrap .i64 ((IntKind.wrap .i64 (4 * y16)) + 4)))) fun l_13 h_14 =>
      F50 (adrS (some y3) l_13 32 1) (h_14 - l_13) (32 - l_13) w fun r27_15 w =>
      if 0 ≤ ((IntKind.wrap .i64 (4 + y16)) : Int) ∧ ((IntKind.wrap .i64 (4 + y16)) : Int) < ((16 : Nat) : Int) then
      stC (y7.add (Int.toNat (IntKind.wrap .i64 (4 + y16)))) (Value.int .u32 r27_15) w fun w =>
      R y1 y3 y5 y6 y7 (IntKind.wrap .i64 (y16 + 1)) w K0
      else False
    else
      K0 y1 y5 y6 y7 w

def chacha_Block.l9G (F50 : type_of% @chacha_word.f) (F51 : type_of% @chacha_state_rounds.f) (R : Addr → Addr → Addr → Int → World → (Addr → Addr → World → Prop) → Prop) : Addr → Addr → Addr → Int → World → (Addr → Addr → World → Prop) → Prop := fun y5 y6 y7 y32 w K2 =>
    bif (decide (y32 < 3)) then
      bnd 12 12 (some (Value.int .i64 (IntKind.wrap .i64 (4 * y32)))) (some (Value.int .i64 (IntKind.wrap .i64 ((IntKind.wrap .i64 (4 * y32)) + 4)))) fun l_28 h_29 =>
      F50 (adrS (some y5) l_28 12 1) (h_29 - l_28) (12 - l_28) w fun r43_30 w =>
      if 0 ≤ ((IntKind.wrap .i64 (13 + y32)) : Int) ∧ ((IntKind.wrap .i64 (13 + y32)) : Int) < ((16 : Nat) : Int) then
      stC (y7.add (Int.toNat (IntKind.wrap .i64 (13 + y32)))) (Value.int .u32 r43_30) w fun w =>
      R y5 y6 y7 (IntKind.wrap .i64 (y32 + 1)) w K2
      else False
    else
      K2 y6 y7 w

def chacha_Block.l21G (F50 : type_of% @chacha_word.f) (F51 : type_of% @chacha_state_rounds.f) (R : Addr → Addr → Addr → Int → Int → Int → Int → Int → Int → Int → Int → Int → Int → Int → Int → Int → Int → Int → Int → Int → Int → Int → Int → World → (Addr → Addr → Addr → Int → Int → Int → Int → Int → Int → Int → Int → Int → Int → Int → Int → Int → Int → Int → Int → Int → World → Prop) → Prop) : Addr → Addr → Addr → Int → Int → Int → Int → Int → Int → Int → Int → Int → Int → Int → Int → Int → Int → Int → Int → Int → Int → Int → Int → World → (Addr → Addr → Addr → Int → Int → Int → Int → Int → Int → Int → Int → Int → Int → Int → Int → Int → Int → Int → Int → Int → World → Prop) → Prop := fun y6 y7 y11 y12 y13 y48_0 y48_1 y48_2 y48_3 y48_4 y48_5 y48_6 y48_7 y48_8 y48_9 y48_10 y48_11 y48_12 y48_13 y48_14 y48_15 y49 y58 w K6 =>
    bif (decide (y58 < 4)) then
      if (IntKind.wrap .i64 (8 * y58)) < 0 then False else
      if 0 ≤ ((IntKind.wrap .i64 ((IntKind.wrap .i64 (4 * y12)) + y58)) : Int) ∧ ((IntKind.wrap .i64 ((IntKind.wrap .i64 (4 * y12)) + y58)) : Int) < ((64 : Nat) : Int) then
      stC (y11.add (Int.toNat (IntKind.wrap .i64 ((IntKind.wrap .i64 (4 * y12)) + y58)))) (Value.int .u8 (IntKind.wrap .u8 (shr .u32 y13 (min (Int.toNat (IntKind.wrap .i64 (8 * y58))) (IntKind.bits .u32))))) w fun w =>
      R y6 y7 y11 y12 y13 y48_0 y48_1 y48_2 y48_3 y48_4 y48_5 y48_6 y48_7 y48_8 y48_9 y48_10 y48_11 y48_12 y48_13 y48_14 y48_15 y49 (IntKind.wrap .i64 (y58 + 1)) w K6
      else False
    else
      K6 y6 y7 y11 y48_0 y48_1 y48_2 y48_3 y48_4 y48_5 y48_6 y48_7 y48_8 y48_9 y48_10 y48_11 y48_12 y48_13 y48_14 y48_15 y49 w

def chacha_Block.l17G (F50 : type_of% @chacha_word.f) (F51 : type_of% @chacha_state_rounds.f) (R : Addr → Addr → Addr → Int → Int → Int → Int → Int → Int → Int → Int → Int → Int → Int → Int → Int → Int → Int → Int → Int → World → (Addr → Addr → World → Prop) → Prop) : Addr → Addr → Addr → Int → Int → Int → Int → Int → Int → Int → Int → Int → Int → Int → Int → Int → Int → Int → Int → Int → World → (Addr → Addr → World → Prop) → Prop := fun y6 y7 y11 y48_0 y48_1 y48_2 y48_3 y48_4 y48_5 y48_6 y48_7 y48_8 y48_9 y48_10 y48_11 y48_12 y48_13 y48_14 y48_15 y49 w K4 =>
    bif (decide (y49 < 16)) then
      if 0 ≤ (y49 : Int) ∧ (y49 : Int) < ((16 : Nat) : Int) then
      ixI .u32 #[(Value.int .u32 y48_0), (Value.int .u32 y48_1), (Value.int .u32 y48_2), (Value.int .u32 y48_3), (Value.int .u32 y48_4), (Value.int .u32 y48_5), (Value.int .u32 y48_6), (Value.int .u32 y48_7), (Value.int .u32 y48_8), (Value.int .u32 y48_9), (Value.int .u32 y48_10), (Value.int .u32 y48_11), (Value.int .u32 y48_12), (Value.int .u32 y48_13), (Value.int .u32 y48_14), (Value.int .u32 y48_15)] y49 fun x_77 =>
      if 0 ≤ (y49 : Int) ∧ (y49 : Int) < ((16 : Nat) : Int) then
      ldI .u32 (y7.add (Int.toNat y49)) w fun x56_79 =>
      let v13_80 := (IntKind.wrap .u32 (x_77 + x56_79))
      ∃ N_86 : Nat, chacha_Block.l21 N_86 y6 y7 y11 y49 v13_80 y48_0 y48_1 y48_2 y48_3 y48_4 y48_5 y48_6 y48_7 y48_8 y48_9 y48_10 y48_11 y48_12 y48_13 y48_14 y48_15 y49 0 w
      (fun o6_87 o7_88 o11_89 o48_90_0 o48_90_1 o48_90_2 o48_90_3 o48_90_4 o48_90_5 o48_90_6 o48_90_7 o48_90_8 o48_90_9 o48_90_10 o48_90_11 o48_90_12 o48_90_13 o48_90_14 o48_90_15 o49_91 w =>
        R o6_87 o7_88 o11_89 o48_90_0 o48_90_1 o48_90_2 o48_90_3 o48_90_4 o48_90_5 o48_90_6 o48_90_7 o48_90_8 o48_90_9 o48_90_10 o48_90_11 o48_90_12 o48_90_13 o48_90_14 o48_90_15 (IntKind.wrap .i64 (o49_91 + 1)) w K4)
      else False
      else False
    else
      K4 y6 y11 w

def chacha_Block.hn3 (N : Nat) (f : Fr) (w : World) (K : AExit → Fr → World → Prop) : Prop :=
  gN f 74 <| gI .u32 f 1 fun y1 => gQ f 3 fun y3 => gQ f 5 fun y5 => gQ f 6 fun y6 => gQ f 7 fun y7 => gI .i64 f 16 fun y16 => chacha_Block.l3 N y1 y3 y5 y6 y7 y16 w (fun o1 o5 o6 o7 w => K (.exit 0) [none, some (Value.int .u32 o1), none, none, none, some (Value.pointer (some o5)), some (Value.pointer (some o6)), some (Value.pointer (some o7)), none, none, none, none, none, none, none, none, none, none, none, none, none, none, none, none, none, none, none, none, none, none, none, none, none, none, none, none, none, none, none, none, none, none, none, none, none, none, none, none, none, none, none, none, none, none, none, none, none, none, none, none, none, none, none, none, none, none, none, none, none, none, none, none, none, none] w)
def chacha_Block.hx3 : AExit → Fr → World → (AExit → Fr → World → Prop) → Prop := fun e f w K => match e with
  | .normal => False
  | .exit i => (match Nat.beq i 0 with | true => gN f 74 <| gI .u32 f 1 fun o1 => gQ f 5 fun o5 => gQ f 6 fun o6 => gQ f 7 fun o7 => K (.exit 0) [none, some (Value.int .u32 o1), none, none, none, some (Value.pointer (some o5)), some (Value.pointer (some o6)), some (Value.pointer (some o7)), none, none, none, none, none, none, none, none, none, none, none, none, none, none, none, none, none, none, none, none, none, none, none, none, none, none, none, none, none, none, none, none, none, none, none, none, none, none, none, none, none, none, none, none, none, none, none, none, none, none, none, none, none, none, none, none, none, none, none, none, none, none, none, none, none, none] w | false => False)
  | .ret => False
def chacha_Block.hn9 (N : Nat) (f : Fr) (w : World) (K : AExit → Fr → World → Prop) : Prop :=
  gN f 74 <| gQ f 5 fun y5 => gQ f 6 fun y6 => gQ f 7 fun y7 => gI .i64 f 32 fun y32 => chacha_Block.l9 N y5 y6 y7 y32 w (fun o6 o7 w => K (.exit 2) [none, none, none, none, none, none, some (Value.pointer (some o6)), some (Value.pointer (some o7)), none, none, none, none, none, none, none, none, none, none, none, none, none, none, none, none, none, none, none, none, none, none, none, none, none, none, none, none, none, none, none, none, none, none, none, none, none, none, none, none, none, none, none, none, none, none, none, none, none, none, none, none, none, none, none, none, none, none, none, none, none, none, none, none, none, none] w)
def chacha_Block.hx9 : AExit → Fr → World → (AExit → Fr → World → Prop) → Prop := fun e f w K => match e with
  | .normal => False
  | .exit i => (match Nat.beq i 2 with | true => gN f 74 <| gQ f 6 fun o6 => gQ f 7 fun o7 => K (.exit 2) [none, none, none, none, none, none, some (Value.pointer (some o6)), some (Value.pointer (some o7)), none, none, none, none, none, none, none, none, none, none, none, none, none, none, none, none, none, none, none, none, none, none, none, none, none, none, none, none, none, none, none, none, none, none, none, none, none, none, none, none, none, none, none, none, none, none, none, none, none, none, none, none, none, none, none, none, none, none, none, none, none, none, none, none, none, none] w | false => False)
  | .ret => False
def chacha_Block.hn21 (N : Nat) (f : Fr) (w : World) (K : AExit → Fr → World → Prop) : Prop :=
  gN f 74 <| gQ f 6 fun y6 => gQ f 7 fun y7 => gQ f 11 fun y11 => gI .i64 f 12 fun y12 => gI .u32 f 13 fun y13 => gT f 48 fun l => cI .u32 l fun y48_0 l => cI .u32 l fun y48_1 l => cI .u32 l fun y48_2 l => cI .u32 l fun y48_3 l => cI .u32 l fun y48_4 l => cI .u32 l fun y48_5 l => cI .u32 l fun y48_6 l => cI .u32 l fun y48_7 l => cI .u32 l fun y48_8 l => cI .u32 l fun y48_9 l => cI .u32 l fun y48_10 l => cI .u32 l fun y48_11 l => cI .u32 l fun y48_12 l => cI .u32 l fun y48_13 l => cI .u32 l fun y48_14 l => cI .u32 l fun y48_15 l => cE l <| gI .i64 f 49 fun y49 => gI .i64 f 58 fun y58 => chacha_Block.l21 N y6 y7 y11 y12 y13 y48_0 y48_1 y48_2 y48_3 y48_4 y48_5 y48_6 y48_7 y48_8 y48_9 y48_10 y48_11 y48_12 y48_13 y48_14 y48_15 y49 y58 w (fun o6 o7 o11 o48_0 o48_1 o48_2 o48_3 o48_4 o48_5 o48_6 o48_7 o48_8 o48_9 o48_10 o48_11 o48_12 o48_13 o48_14 o48_15 o49 w => K (.exit 6) [none, none, none, none, none, none, some (Value.pointer (some o6)), some (Value.pointer (some o7)), none, none, none, some (Value.pointer (some o11)), none, none, none, none, none, none, none, none, none, none, none, none, none, none, none, none, none, none, none, none, none, none, none, none, none, none, none, none, none, none, none, none, none, none, none, none, some (Value.agg #[(Value.int .u32 o48_0), (Value.int .u32 o48_1), (Value.int .u32 o48_2), (Value.int .u32 o48_3), (Value.int .u32 o48_4), (Value.int .u32 o48_5), (Value.int .u32 o48_6), (Value.int .u32 o48_7), (Value.int .u32 o48_8), (Value.int .u32 o48_9), (Value.int .u32 o48_10), (Value.int .u32 o48_11), (Value.int .u32 o48_12), (Value.int .u32 o48_13), (Value.int .u32 o48_14), (Value.int .u32 o48_15)]), some (Value.int .i64 o49), none, none, none, none, none, none, none, none, none, none, none, none, none, none, none, none, none, none, none, none, none, none, none, none] w)
def chacha_Block.hx21 : AExit → Fr → World → (AExit → Fr → World → Prop) → Prop := fun e f w K => match e with
  | .normal => False
  | .exit i => (match Nat.beq i 6 with | true => gN f 74 <| gQ f 6 fun o6 => gQ f 7 fun o7 => gQ f 11 fun o11 => gT f 48 fun l => cI .u32 l fun o48_0 l => cI .u32 l fun o48_1 l => cI .u32 l fun o48_2 l => cI .u32 l fun o48_3 l => cI .u32 l fun o48_4 l => cI .u32 l fun o48_5 l => cI .u32 l fun o48_6 l => cI .u32 l fun o48_7 l => cI .u32 l fun o48_8 l => cI .u32 l fun o48_9 l => cI .u32 l fun o48_10 l => cI .u32 l fun o48_11 l => cI .u32 l fun o48_12 l => cI .u32 l fun o48_13 l => cI .u32 l fun o48_14 l => cI .u32 l fun o48_15 l => cE l <| gI .i64 f 49 fun o49 => K (.exit 6) [none, none, none, none, none, none, some (Value.pointer (some o6)), some (Value.pointer (some o7)), none, none, none, some (Value.pointer (some o11)), none, none, none, none, none, none, none, none, none, none, none, none, none, none, none, none, none, none, none, none, none, none, none, none, none, none, none, none, none, none, none, none, none, none, none, none, some (Value.agg #[(Value.int .u32 o48_0), (Value.int .u32 o48_1), (Value.int .u32 o48_2), (Value.int .u32 o48_3), (Value.int .u32 o48_4), (Value.int .u32 o48_5), (Value.int .u32 o48_6), (Value.int .u32 o48_7), (Value.int .u32 o48_8), (Value.int .u32 o48_9), (Value.int .u32 o48_10), (Value.int .u32 o48_11), (Value.int .u32 o48_12), (Value.int .u32 o48_13), (Value.int .u32 o48_14), (Value.int .u32 o48_15)]), some (Value.int .i64 o49), none, none, none, none, none, none, none, none, none, none, none, none, none, none, none, none, none, none, none, none, none, none, none, none] w | false => False)
  | .ret => False
def chacha_Block.hn17 (N : Nat) (f : Fr) (w : World) (K : AExit → Fr → World → Prop) : Prop :=
  gN f 74 <| gQ f 6 fun y6 => gQ f 7 fun y7 => gQ f 11 fun y11 => gT f 48 fun l => cI .u32 l fun y48_0 l => cI .u32 l fun y48_1 l => cI .u32 l fun y48_2 l => cI .u32 l fun y48_3 l => cI .u32 l fun y48_4 l => cI .u32 l fun y48_5 l => cI .u32 l fun y48_6 l => cI .u32 l fun y48_7 l => cI .u32 l fun y48_8 l => cI .u32 l fun y48_9 l => cI .u32 l fun y48_10 l => cI .u32 l fun y48_11 l => cI .u32 l fun y48_12 l => cI .u32 l fun y48_13 l => cI .u32 l fun y48_14 l => cI .u32 l fun y48_15 l => cE l <| gI .i64 f 49 fun y49 => chacha_Block.l17 N y6 y7 y11 y48_0 y48_1 y48_2 y48_3 y48_4 y48_5 y48_6 y48_7 y48_8 y48_9 y48_10 y48_11 y48_12 y48_13 y48_14 y48_15 y49 w (fun o6 o11 w => K (.exit 4) [none, none, none, none, none, none, some (Value.pointer (some o6)), none, none, none, none, some (Value.pointer (some o11)), none, none, none, none, none, none, none, none, none, none, none, none, none, none, none, none, none, none, none, none, none, none, none, none, none, none, none, none, none, none, none, none, none, none, none, none, none, none, none, none, none, none, none, none, none, none, none, none, none, none, none, none, none, none, none, none, none, none, none, none, none, none] w)
def chacha_Block.hx17 : AExit → Fr → World → (AExit → Fr → World → Prop) → Prop := fun e f w K => match e with
  | .normal => False
  | .exit i => (match Nat.beq i 4 with | true => gN f 74 <| gQ f 6 fun o6 => gQ f 11 fun o11 => K (.exit 4) [none, none, none, none, none, none, some (Value.pointer (some o6)), none, none, none, none, some (Value.pointer (some o11)), none, none, none, none, none, none, none, none, none, none, none, none, none, none, none, none, none, none, none, none, none, none, none, none, none, none, none, none, none, none, none, none, none, none, none, none, none, none, none, none, none, none, none, none, none, none, none, none, none, none, none, none, none, none, none, none, none, none, none, none, none, none] w | false => False)
  | .ret => False
def chacha_Block.L : LHd := fun l f w K => (match Nat.beq l 17 with | true => ∃ N, chacha_Block.hn17 N f w K | false => (match Nat.beq l 21 with | true => ∃ N, chacha_Block.hn21 N f w K | false => (match Nat.beq l 9 with | true => ∃ N, chacha_Block.hn9 N f w K | false => (match Nat.beq l 3 with | true => ∃ N, chacha_Block.hn3 N f w K | false => False))))
theorem chacha_Block.leG3 (F50 : type_of% @chacha_word.f) (F51 : type_of% @chacha_state_rounds.f) (N : Nat) (y1 : Int) (y3 : Addr) (y5 : Addr) (y6 : Addr) (y7 : Addr) (y16 : Int) (w : World) (K : AExit → Fr → World → Prop) : awp (chacha_Block.CG F50 F51) chacha_Block.L chacha_Block.D tab chacha_Block.b0 (lpost chacha_Block.hn3 chacha_Block.hx3 N K) [none, some (Value.int .u32 y1), none, some (Value.pointer (some y3)), none, some (Value.pointer (some y5)), some (Value.pointer (some y6)), some (Value.pointer (some y7)), none, none, none, none, none, none, none, none, some (Value.int .i64 y16), none, none, none, none, none, none, none, none, none, none, none, none, none, none, none, none, none, none, none, none, none, none, none, none, none, none, none, none, none, none, none, none, none, none, none, none, none, none, none, none, none, none, none, none, none, none, none, none, none, none, none, none, none, none, none, none, none] w = chacha_Block.l3G F50 F51 (chacha_Block.l3 N) y1 y3 y5 y6 y7 y16 w (fun o1 o5 o6 o7 w => K (.exit 0) [none, some (Value.int .u32 o1), none, none, none, some (Value.pointer (some o5)), some (Value.pointer (some o6)), some (Value.pointer (some o7)), none, none, none, none, none, none, none, none, none, none, none, none, none, none, none, none, none, none, none, none, none, none, none, none, none, none, none, none, none, none, none, none, none, none, none, none, none, none, none, none, none, none, none, none, none, none, none, none, none, none, none, none, none, none, none, none, none, none, none, none, none, none, none, none, none, none] w) := by kernel_rfl
theorem chacha_Block.les3 (N : Nat) : chacha_Block.l3 (N + 1) = chacha_Block.l3G @chacha_word.f @chacha_state_rounds.f (chacha_Block.l3 N) := by kernel_rfl
theorem chacha_Block.le3 (N : Nat) (y1 : Int) (y3 : Addr) (y5 : Addr) (y6 : Addr) (y7 : Addr) (y16 : Int) (w : World) (K : AExit → Fr → World → Prop) : awp chacha_Block.C chacha_Block.L chacha_Block.D tab chacha_Block.b0 (lpost chacha_Block.hn3 chacha_Block.hx3 N K) [none, some (Value.int .u32 y1), none, some (Value.pointer (some y3)), none, some (Value.pointer (some y5)), some (Value.pointer (some y6)), some (Value.pointer (some y7)), none, none, none, none, none, none, none, none, some (Value.int .i64 y16), none, none, none, none, none, none, none, none, none, none, none, none, none, none, none, none, none, none, none, none, none, none, none, none, none, none, none, none, none, none, none, none, none, none, none, none, none, none, none, none, none, none, none, none, none, none, none, none, none, none, none, none, none, none, none, none, none] w = chacha_Block.l3 (N + 1) y1 y3 y5 y6 y7 y16 w (fun o1 o5 o6 o7 w => K (.exit 0) [none, some (Value.int .u32 o1), none, none, none, some (Value.pointer (some o5)), some (Value.pointer (some o6)), some (Value.pointer (some o7)), none, none, none, none, none, none, none, none, none, none, none, none, none, none, none, none, none, none, none, none, none, none, none, none, none, none, none, none, none, none, none, none, none, none, none, none, none, none, none, none, none, none, none, none, none, none, none, none, none, none, none, none, none, none, none, none, none, none, none, none, none, none, none, none, none, none] w) := by
  rw [chacha_Block.les3]
  exact chacha_Block.leG3 @chacha_word.f @chacha_state_rounds.f N y1 y3 y5 y6 y7 y16 w K
theorem chacha_Block.lok3 : LoopOk Try.prog chacha_Block.L chacha_Block.b0 := by
  refine loop_ok tab_ok chacha_Block.C_ok (D := chacha_Block.D) (chacha_Block.hn3) (chacha_Block.hx3) (by kernel_rfl) (by rw [chacha_Block.b0_loops]; exact lnil) ?_ ?_ ?_ ?_
  · intro f w K h
    unfold chacha_Block.hn3 at h
    obtain ⟨hlen, h⟩ := gN_ok h
    obtain ⟨y1, h1, h⟩ := gI_ok h
    obtain ⟨y3, h3, h⟩ := gQ_ok h
    obtain ⟨y5, h5, h⟩ := gQ_ok h
    obtain ⟨y6, h6, h⟩ := gQ_ok h
    obtain ⟨y7, h7, h⟩ := gQ_ok h
    obtain ⟨y16, h16, h⟩ := gI_ok h
    exact h
  · intro N f w K h
    unfold chacha_Block.hn3 at h
    obtain ⟨hlen, h⟩ := gN_ok h
    obtain ⟨y1, h1, h⟩ := gI_ok h
    obtain ⟨y3, h3, h⟩ := gQ_ok h
    obtain ⟨y5, h5, h⟩ := gQ_ok h
    obtain ⟨y6, h6, h⟩ := gQ_ok h
    obtain ⟨y7, h7, h⟩ := gQ_ok h
    obtain ⟨y16, h16, h⟩ := gI_ok h
    refine ⟨[none, some (Value.int .u32 y1), none, some (Value.pointer (some y3)), none, some (Value.pointer (some y5)), some (Value.pointer (some y6)), some (Value.pointer (some y7)), none, none, none, none, none, none, none, none, some (Value.int .i64 y16), none, none, none, none, none, none, none, none, none, none, none, none, none, none, none, none, none, none, none, none, none, none, none, none, none, none, none, none, none, none, none, none, none, none, none, none, none, none, none, none, none, none, none, none, none, none, none, none, none, none, none, none, none, none, none, none, none], hlen, ⟨h1, h3, h5, h6, h7, h16, trivial⟩, ?_⟩
    rw [chacha_Block.le3]
    exact h
  · intro e f w K h
    cases e with
    | normal => exact h.elim
    | exit i =>
      unfold chacha_Block.hx3 at h
      simp only at h
      split at h
      · rename_i hb
        obtain rfl := Nat.eq_of_beq_eq_true hb
        obtain ⟨hlen, h⟩ := gN_ok h
        obtain ⟨o1, h1, h⟩ := gI_ok h
        obtain ⟨o5, h5, h⟩ := gQ_ok h
        obtain ⟨o6, h6, h⟩ := gQ_ok h
        obtain ⟨o7, h7, h⟩ := gQ_ok h
        exact ⟨[none, some (Value.int .u32 o1), none, none, none, some (Value.pointer (some o5)), some (Value.pointer (some o6)), some (Value.pointer (some o7)), none, none, none, none, none, none, none, none, none, none, none, none, none, none, none, none, none, none, none, none, none, none, none, none, none, none, none, none, none, none, none, none, none, none, none, none, none, none, none, none, none, none, none, none, none, none, none, none, none, none, none, none, none, none, none, none, none, none, none, none, none, none, none, none, none, none], hlen, ⟨h1, h5, h6, h7, trivial⟩, h⟩
      · exact (show False from h).elim
    | ret =>
      exact (show False from h).elim
  · intro f w K h
    have e : lid chacha_Block.b0 = 3 := by kernel_rfl
    rw [e] at h
    exact h
theorem chacha_Block.leG9 (F50 : type_of% @chacha_word.f) (F51 : type_of% @chacha_state_rounds.f) (N : Nat) (y5 : Addr) (y6 : Addr) (y7 : Addr) (y32 : Int) (w : World) (K : AExit → Fr → World → Prop) : awp (chacha_Block.CG F50 F51) chacha_Block.L chacha_Block.D tab chacha_Block.b1 (lpost chacha_Block.hn9 chacha_Block.hx9 N K) [none, none, none, none, none, some (Value.pointer (some y5)), some (Value.pointer (some y6)), some (Value.pointer (some y7)), none, none, none, none, none, none, none, none, none, none, none, none, none, none, none, none, none, none, none, none, none, none, none, none, some (Value.int .i64 y32), none, none, none, none, none, none, none, none, none, none, none, none, none, none, none, none, none, none, none, none, none, none, none, none, none, none, none, none, none, none, none, none, none, none, none, none, none, none, none, none, none] w = chacha_Block.l9G F50 F51 (chacha_Block.l9 N) y5 y6 y7 y32 w (fun o6 o7 w => K (.exit 2) [none, none, none, none, none, none, some (Value.pointer (some o6)), some (Value.pointer (some o7)), none, none, none, none, none, none, none, none, none, none, none, none, none, none, none, none, none, none, none, none, none, none, none, none, none, none, none, none, none, none, none, none, none, none, none, none, none, none, none, none, none, none, none, none, none, none, none, none, none, none, none, none, none, none, none, none, none, none, none, none, none, none, none, none, none, none] w) := by kernel_rfl
theorem chacha_Block.les9 (N : Nat) : chacha_Block.l9 (N + 1) = chacha_Block.l9G @chacha_word.f @chacha_state_rounds.f (chacha_Block.l9 N) := by kernel_rfl
theorem chacha_Block.le9 (N : Nat) (y5 : Addr) (y6 : Addr) (y7 : Addr) (y32 : Int) (w : World) (K : AExit → Fr → World → Prop) : awp chacha_Block.C chacha_Block.L chacha_Block.D tab chacha_Block.b1 (lpost chacha_Block.hn9 chacha_Block.hx9 N K) [none, none, none, none, none, some (Value.pointer (some y5)), some (Value.pointer (some y6)), some (Value.pointer (some y7)), none, none, none, none, none, none, none, none, none, none, none, none, none, none, none, none, none, none, none, none, none, none, none, none, some (Value.int .i64 y32), none, none, none, none, none, none, none, none, none, none, none, none, none, none, none, none, none, none, none, none, none, none, none, none, none, none, none, none, none, none, none, none, none, none, none, none, none, none, none, none, none] w = chacha_Block.l9 (N + 1) y5 y6 y7 y32 w (fun o6 o7 w => K (.exit 2) [none, none, none, none, none, none, some (Value.pointer (some o6)), some (Value.pointer (some o7)), none, none, none, none, none, none, none, none, none, none, none, none, none, none, none, none, none, none, none, none, none, none, none, none, none, none, none, none, none, none, none, none, none, none, none, none, none, none, none, none, none, none, none, none, none, none, none, none, none, none, none, none, none, none, none, none, none, none, none, none, none, none, none, none, none, none] w) := by
  rw [chacha_Block.les9]
  exact chacha_Block.leG9 @chacha_word.f @chacha_state_rounds.f N y5 y6 y7 y32 w K
theorem chacha_Block.lok9 : LoopOk Try.prog chacha_Block.L chacha_Block.b1 := by
  refine loop_ok tab_ok chacha_Block.C_ok (D := chacha_Block.D) (chacha_Block.hn9) (chacha_Block.hx9) (by kernel_rfl) (by rw [chacha_Block.b1_loops]; exact lnil) ?_ ?_ ?_ ?_
  · intro f w K h
    unfold chacha_Block.hn9 at h
    obtain ⟨hlen, h⟩ := gN_ok h
    obtain ⟨y5, h5, h⟩ := gQ_ok h
    obtain ⟨y6, h6, h⟩ := gQ_ok h
    obtain ⟨y7, h7, h⟩ := gQ_ok h
    obtain ⟨y32, h32, h⟩ := gI_ok h
    exact h
  · intro N f w K h
    unfold chacha_Block.hn9 at h
    obtain ⟨hlen, h⟩ := gN_ok h
    obtain ⟨y5, h5, h⟩ := gQ_ok h
    obtain ⟨y6, h6, h⟩ := gQ_ok h
    obtain ⟨y7, h7, h⟩ := gQ_ok h
    obtain ⟨y32, h32, h⟩ := gI_ok h
    refine ⟨[none, none, none, none, none, some (Value.pointer (some y5)), some (Value.pointer (some y6)), some (Value.pointer (some y7)), none, none, none, none, none, none, none, none, none, none, none, none, none, none, none, none, none, none, none, none, none, none, none, none, some (Value.int .i64 y32), none, none, none, none, none, none, none, none, none, none, none, none, none, none, none, none, none, none, none, none, none, none, none, none, none, none, none, none, none, none, none, none, none, none, none, none, none, none, none, none, none], hlen, ⟨h5, h6, h7, h32, trivial⟩, ?_⟩
    rw [chacha_Block.le9]
    exact h
  · intro e f w K h
    cases e with
    | normal => exact h.elim
    | exit i =>
      unfold chacha_Block.hx9 at h
      simp only at h
      split at h
      · rename_i hb
        obtain rfl := Nat.eq_of_beq_eq_true hb
        obtain ⟨hlen, h⟩ := gN_ok h
        obtain ⟨o6, h6, h⟩ := gQ_ok h
        obtain ⟨o7, h7, h⟩ := gQ_ok h
        exact ⟨[none, none, none, none, none, none, some (Value.pointer (some o6)), some (Value.pointer (some o7)), none, none, none, none, none, none, none, none, none, none, none, none, none, none, none, none, none, none, none, none, none, none, none, none, none, none, none, none, none, none, none, none, none, none, none, none, none, none, none, none, none, none, none, none, none, none, none, none, none, none, none, none, none, none, none, none, none, none, none, none, none, none, none, none, none, none], hlen, ⟨h6, h7, trivial⟩, h⟩
      · exact (show False from h).elim
    | ret =>
      exact (show False from h).elim
  · intro f w K h
    have e : lid chacha_Block.b1 = 9 := by kernel_rfl
    rw [e] at h
    exact h
theorem chacha_Block.leG21 (F50 : type_of% @chacha_word.f) (F51 : type_of% @chacha_state_rounds.f) (N : Nat) (y6 : Addr) (y7 : Addr) (y11 : Addr) (y12 : Int) (y13 : Int) (y48_0 : Int) (y48_1 : Int) (y48_2 : Int) (y48_3 : Int) (y48_4 : Int) (y48_5 : Int) (y48_6 : Int) (y48_7 : Int) (y48_8 : Int) (y48_9 : Int) (y48_10 : Int) (y48_11 : Int) (y48_12 : Int) (y48_13 : Int) (y48_14 : Int) (y48_15 : Int) (y49 : Int) (y58 : Int) (w : World) (K : AExit → Fr → World → Prop) : awp (chacha_Block.CG F50 F51) chacha_Block.L chacha_Block.D tab chacha_Block.b2_0 (lpost chacha_Block.hn21 chacha_Block.hx21 N K) [none, none, none, none, none, none, some (Value.pointer (some y6)), some (Value.pointer (some y7)), none, none, none, some (Value.pointer (some y11)), some (Value.int .i64 y12), some (Value.int .u32 y13), none, none, none, none, none, none, none, none, none, none, none, none, none, none, none, none, none, none, none, none, none, none, none, none, none, none, none, none, none, none, none, none, none, none, some (Value.agg #[(Value.int .u32 y48_0), (Value.int .u32 y48_1), (Value.int .u32 y48_2), (Value.int .u32 y48_3), (Value.int .u32 y48_4), (Value.int .u32 y48_5), (Value.int .u32 y48_6), (Value.int .u32 y48_7), (Value.int .u32 y48_8), (Value.int .u32 y48_9), (Value.int .u32 y48_10), (Value.int .u32 y48_11), (Value.int .u32 y48_12), (Value.int .u32 y48_13), (Value.int .u32 y48_14), (Value.int .u32 y48_15)]), some (Value.int .i64 y49), none, none, none, none, none, none, none, none, some (Value.int .i64 y58), none, none, none, none, none, none, none, none, none, none, none, none, none, none, none] w = chacha_Block.l21G F50 F51 (chacha_Block.l21 N) y6 y7 y11 y12 y13 y48_0 y48_1 y48_2 y48_3 y48_4 y48_5 y48_6 y48_7 y48_8 y48_9 y48_10 y48_11 y48_12 y48_13 y48_14 y48_15 y49 y58 w (fun o6 o7 o11 o48_0 o48_1 o48_2 o48_3 o48_4 o48_5 o48_6 o48_7 o48_8 o48_9 o48_10 o48_11 o48_12 o48_13 o48_14 o48_15 o49 w => K (.exit 6) [none, none, none, none, none, none, some (Value.pointer (some o6)), some (Value.pointer (some o7)), none, none, none, some (Value.pointer (some o11)), none, none, none, none, none, none, none, none, none, none, none, none, none, none, none, none, none, none, none, none, none, none, none, none, none, none, none, none, none, none, none, none, none, none, none, none, some (Value.agg #[(Value.int .u32 o48_0), (Value.int .u32 o48_1), (Value.int .u32 o48_2), (Value.int .u32 o48_3), (Value.int .u32 o48_4), (Value.int .u32 o48_5), (Value.int .u32 o48_6), (Value.int .u32 o48_7), (Value.int .u32 o48_8), (Value.int .u32 o48_9), (Value.int .u32 o48_10), (Value.int .u32 o48_11), (Value.int .u32 o48_12), (Value.int .u32 o48_13), (Value.int .u32 o48_14), (Value.int .u32 o48_15)]), some (Value.int .i64 o49), none, none, none, none, none, none, none, none, none, none, none, none, none, none, none, none, none, none, none, none, none, none, none, none] w) := by kernel_rfl
theorem chacha_Block.les21 (N : Nat) : chacha_Block.l21 (N + 1) = chacha_Block.l21G @chacha_word.f @chacha_state_rounds.f (chacha_Block.l21 N) := by kernel_rfl
theorem chacha_Block.le21 (N : Nat) (y6 : Addr) (y7 : Addr) (y11 : Addr) (y12 : Int) (y13 : Int) (y48_0 : Int) (y48_1 : Int) (y48_2 : Int) (y48_3 : Int) (y48_4 : Int) (y48_5 : Int) (y48_6 : Int) (y48_7 : Int) (y48_8 : Int) (y48_9 : Int) (y48_10 : Int) (y48_11 : Int) (y48_12 : Int) (y48_13 : Int) (y48_14 : Int) (y48_15 : Int) (y49 : Int) (y58 : Int) (w : World) (K : AExit → Fr → World → Prop) : awp chacha_Block.C chacha_Block.L chacha_Block.D tab chacha_Block.b2_0 (lpost chacha_Block.hn21 chacha_Block.hx21 N K) [none, none, none, none, none, none, some (Value.pointer (some y6)), some (Value.pointer (some y7)), none, none, none, some (Value.pointer (some y11)), some (Value.int .i64 y12), some (Value.int .u32 y13), none, none, none, none, none, none, none, none, none, none, none, none, none, none, none, none, none, none, none, none, none, none, none, none, none, none, none, none, none, none, none, none, none, none, some (Value.agg #[(Value.int .u32 y48_0), (Value.int .u32 y48_1), (Value.int .u32 y48_2), (Value.int .u32 y48_3), (Value.int .u32 y48_4), (Value.int .u32 y48_5), (Value.int .u32 y48_6), (Value.int .u32 y48_7), (Value.int .u32 y48_8), (Value.int .u32 y48_9), (Value.int .u32 y48_10), (Value.int .u32 y48_11), (Value.int .u32 y48_12), (Value.int .u32 y48_13), (Value.int .u32 y48_14), (Value.int .u32 y48_15)]), some (Value.int .i64 y49), none, none, none, none, none, none, none, none, some (Value.int .i64 y58), none, none, none, none, none, none, none, none, none, none, none, none, none, none, none] w = chacha_Block.l21 (N + 1) y6 y7 y11 y12 y13 y48_0 y48_1 y48_2 y48_3 y48_4 y48_5 y48_6 y48_7 y48_8 y48_9 y48_10 y48_11 y48_12 y48_13 y48_14 y48_15 y49 y58 w (fun o6 o7 o11 o48_0 o48_1 o48_2 o48_3 o48_4 o48_5 o48_6 o48_7 o48_8 o48_9 o48_10 o48_11 o48_12 o48_13 o48_14 o48_15 o49 w => K (.exit 6) [none, none, none, none, none, none, some (Value.pointer (some o6)), some (Value.pointer (some o7)), none, none, none, some (Value.pointer (some o11)), none, none, none, none, none, none, none, none, none, none, none, none, none, none, none, none, none, none, none, none, none, none, none, none, none, none, none, none, none, none, none, none, none, none, none, none, some (Value.agg #[(Value.int .u32 o48_0), (Value.int .u32 o48_1), (Value.int .u32 o48_2), (Value.int .u32 o48_3), (Value.int .u32 o48_4), (Value.int .u32 o48_5), (Value.int .u32 o48_6), (Value.int .u32 o48_7), (Value.int .u32 o48_8), (Value.int .u32 o48_9), (Value.int .u32 o48_10), (Value.int .u32 o48_11), (Value.int .u32 o48_12), (Value.int .u32 o48_13), (Value.int .u32 o48_14), (Value.int .u32 o48_15)]), some (Value.int .i64 o49), none, none, none, none, none, none, none, none, none, none, none, none, none, none, none, none, none, none, none, none, none, none, none, none] w) := by
  rw [chacha_Block.les21]
  exact chacha_Block.leG21 @chacha_word.f @chacha_state_rounds.f N y6 y7 y11 y12 y13 y48_0 y48_1 y48_2 y48_3 y48_4 y48_5 y48_6 y48_7 y48_8 y48_9 y48_10 y48_11 y48_12 y48_13 y48_14 y48_15 y49 y58 w K
theorem chacha_Block.lok21 : LoopOk Try.prog chacha_Block.L chacha_Block.b2_0 := by
  refine loop_ok tab_ok chacha_Block.C_ok (D := chacha_Block.D) (chacha_Block.hn21) (chacha_Block.hx21) (by kernel_rfl) (by rw [chacha_Block.b2_0_loops]; exact lnil) ?_ ?_ ?_ ?_
  · intro f w K h
    unfold chacha_Block.hn21 at h
    obtain ⟨hlen, h⟩ := gN_ok h
    obtain ⟨y6, h6, h⟩ := gQ_ok h
    obtain ⟨y7, h7, h⟩ := gQ_ok h
    obtain ⟨y11, h11, h⟩ := gQ_ok h
    obtain ⟨y12, h12, h⟩ := gI_ok h
    obtain ⟨y13, h13, h⟩ := gI_ok h
    obtain ⟨l, h48, h⟩ := gT_ok h
    replace h := cI_ok h; obtain ⟨y48_0, l, rfl, h⟩ := h
    replace h := cI_ok h; obtain ⟨y48_1, l, rfl, h⟩ := h
    replace h := cI_ok h; obtain ⟨y48_2, l, rfl, h⟩ := h
    replace h := cI_ok h; obtain ⟨y48_3, l, rfl, h⟩ := h
    replace h := cI_ok h; obtain ⟨y48_4, l, rfl, h⟩ := h
    replace h := cI_ok h; obtain ⟨y48_5, l, rfl, h⟩ := h
    replace h := cI_ok h; obtain ⟨y48_6, l, rfl, h⟩ := h
    replace h := cI_ok h; obtain ⟨y48_7, l, rfl, h⟩ := h
    replace h := cI_ok h; obtain ⟨y48_8, l, rfl, h⟩ := h
    replace h := cI_ok h; obtain ⟨y48_9, l, rfl, h⟩ := h
    replace h := cI_ok h; obtain ⟨y48_10, l, rfl, h⟩ := h
    replace h := cI_ok h; obtain ⟨y48_11, l, rfl, h⟩ := h
    replace h := cI_ok h; obtain ⟨y48_12, l, rfl, h⟩ := h
    replace h := cI_ok h; obtain ⟨y48_13, l, rfl, h⟩ := h
    replace h := cI_ok h; obtain ⟨y48_14, l, rfl, h⟩ := h
    replace h := cI_ok h; obtain ⟨y48_15, l, rfl, h⟩ := h
    replace h := cE_ok h; obtain ⟨rfl, h⟩ := h
    obtain ⟨y49, h49, h⟩ := gI_ok h
    obtain ⟨y58, h58, h⟩ := gI_ok h
    exact h
  · intro N f w K h
    unfold chacha_Block.hn21 at h
    obtain ⟨hlen, h⟩ := gN_ok h
    obtain ⟨y6, h6, h⟩ := gQ_ok h
    obtain ⟨y7, h7, h⟩ := gQ_ok h
    obtain ⟨y11, h11, h⟩ := gQ_ok h
    obtain ⟨y12, h12, h⟩ := gI_ok h
    obtain ⟨y13, h13, h⟩ := gI_ok h
    obtain ⟨l, h48, h⟩ := gT_ok h
    replace h := cI_ok h; obtain ⟨y48_0, l, rfl, h⟩ := h
    replace h := cI_ok h; obtain ⟨y48_1, l, rfl, h⟩ := h
    replace h := cI_ok h; obtain ⟨y48_2, l, rfl, h⟩ := h
    replace h := cI_ok h; obtain ⟨y48_3, l, rfl, h⟩ := h
    replace h := cI_ok h; obtain ⟨y48_4, l, rfl, h⟩ := h
    replace h := cI_ok h; obtain ⟨y48_5, l, rfl, h⟩ := h
    replace h := cI_ok h; obtain ⟨y48_6, l, rfl, h⟩ := h
    replace h := cI_ok h; obtain ⟨y48_7, l, rfl, h⟩ := h
    replace h := cI_ok h; obtain ⟨y48_8, l, rfl, h⟩ := h
    replace h := cI_ok h; obtain ⟨y48_9, l, rfl, h⟩ := h
    replace h := cI_ok h; obtain ⟨y48_10, l, rfl, h⟩ := h
    replace h := cI_ok h; obtain ⟨y48_11, l, rfl, h⟩ := h
    replace h := cI_ok h; obtain ⟨y48_12, l, rfl, h⟩ := h
    replace h := cI_ok h; obtain ⟨y48_13, l, rfl, h⟩ := h
    replace h := cI_ok h; obtain ⟨y48_14, l, rfl, h⟩ := h
    replace h := cI_ok h; obtain ⟨y48_15, l, rfl, h⟩ := h
    replace h := cE_ok h; obtain ⟨rfl, h⟩ := h
    obtain ⟨y49, h49, h⟩ := gI_ok h
    obtain ⟨y58, h58, h⟩ := gI_ok h
    refine ⟨[none, none, none, none, none, none, some (Value.pointer (some y6)), some (Value.pointer (some y7)), none, none, none, some (Value.pointer (some y11)), some (Value.int .i64 y12), some (Value.int .u32 y13), none, none, none, none, none, none, none, none, none, none, none, none, none, none, none, none, none, none, none, none, none, none, none, none, none, none, none, none, none, none, none, none, none, none, some (Value.agg #[(Value.int .u32 y48_0), (Value.int .u32 y48_1), (Value.int .u32 y48_2), (Value.int .u32 y48_3), (Value.int .u32 y48_4), (Value.int .u32 y48_5), (Value.int .u32 y48_6), (Value.int .u32 y48_7), (Value.int .u32 y48_8), (Value.int .u32 y48_9), (Value.int .u32 y48_10), (Value.int .u32 y48_11), (Value.int .u32 y48_12), (Value.int .u32 y48_13), (Value.int .u32 y48_14), (Value.int .u32 y48_15)]), some (Value.int .i64 y49), none, none, none, none, none, none, none, none, some (Value.int .i64 y58), none, none, none, none, none, none, none, none, none, none, none, none, none, none, none], hlen, ⟨h6, h7, h11, h12, h13, h48, h49, h58, trivial⟩, ?_⟩
    rw [chacha_Block.le21]
    exact h
  · intro e f w K h
    cases e with
    | normal => exact h.elim
    | exit i =>
      unfold chacha_Block.hx21 at h
      simp only at h
      split at h
      · rename_i hb
        obtain rfl := Nat.eq_of_beq_eq_true hb
        obtain ⟨hlen, h⟩ := gN_ok h
        obtain ⟨o6, h6, h⟩ := gQ_ok h
        obtain ⟨o7, h7, h⟩ := gQ_ok h
        obtain ⟨o11, h11, h⟩ := gQ_ok h
        obtain ⟨l, h48, h⟩ := gT_ok h
        replace h := cI_ok h; obtain ⟨o48_0, l, rfl, h⟩ := h
        replace h := cI_ok h; obtain ⟨o48_1, l, rfl, h⟩ := h
        replace h := cI_ok h; obtain ⟨o48_2, l, rfl, h⟩ := h
        replace h := cI_ok h; obtain ⟨o48_3, l, rfl, h⟩ := h
        replace h := cI_ok h; obtain ⟨o48_4, l, rfl, h⟩ := h
        replace h := cI_ok h; obtain ⟨o48_5, l, rfl, h⟩ := h
        replace h := cI_ok h; obtain ⟨o48_6, l, rfl, h⟩ := h
        replace h := cI_ok h; obtain ⟨o48_7, l, rfl, h⟩ := h
        replace h := cI_ok h; obtain ⟨o48_8, l, rfl, h⟩ := h
        replace h := cI_ok h; obtain ⟨o48_9, l, rfl, h⟩ := h
        replace h := cI_ok h; obtain ⟨o48_10, l, rfl, h⟩ := h
        replace h := cI_ok h; obtain ⟨o48_11, l, rfl, h⟩ := h
        replace h := cI_ok h; obtain ⟨o48_12, l, rfl, h⟩ := h
        replace h := cI_ok h; obtain ⟨o48_13, l, rfl, h⟩ := h
        replace h := cI_ok h; obtain ⟨o48_14, l, rfl, h⟩ := h
        replace h := cI_ok h; obtain ⟨o48_15, l, rfl, h⟩ := h
        replace h := cE_ok h; obtain ⟨rfl, h⟩ := h
        obtain ⟨o49, h49, h⟩ := gI_ok h
        exact ⟨[none, none, none, none, none, none, some (Value.pointer (some o6)), some (Value.pointer (some o7)), none, none, none, some (Value.pointer (some o11)), none, none, none, none, none, none, none, none, none, none, none, none, none, none, none, none, none, none, none, none, none, none, none, none, none, none, none, none, none, none, none, none, none, none, none, none, some (Value.agg #[(Value.int .u32 o48_0), (Value.int .u32 o48_1), (Value.int .u32 o48_2), (Value.int .u32 o48_3), (Value.int .u32 o48_4), (Value.int .u32 o48_5), (Value.int .u32 o48_6), (Value.int .u32 o48_7), (Value.int .u32 o48_8), (Value.int .u32 o48_9), (Value.int .u32 o48_10), (Value.int .u32 o48_11), (Value.int .u32 o48_12), (Value.int .u32 o48_13), (Value.int .u32 o48_14), (Value.int .u32 o48_15)]), some (Value.int .i64 o49), none, none, none, none, none, none, none, none, none, none, none, none, none, none, none, none, none, none, none, none, none, none, none, none], hlen, ⟨h6, h7, h11, h48, h49, trivial⟩, h⟩
      · exact (show False from h).elim
    | ret =>
      exact (show False from h).elim
  · intro f w K h
    have e : lid chacha_Block.b2_0 = 21 := by kernel_rfl
    rw [e] at h
    exact h
theorem chacha_Block.leG17 (F50 : type_of% @chacha_word.f) (F51 : type_of% @chacha_state_rounds.f) (N : Nat) (y6 : Addr) (y7 : Addr) (y11 : Addr) (y48_0 : Int) (y48_1 : Int) (y48_2 : Int) (y48_3 : Int) (y48_4 : Int) (y48_5 : Int) (y48_6 : Int) (y48_7 : Int) (y48_8 : Int) (y48_9 : Int) (y48_10 : Int) (y48_11 : Int) (y48_12 : Int) (y48_13 : Int) (y48_14 : Int) (y48_15 : Int) (y49 : Int) (w : World) (K : AExit → Fr → World → Prop) : awp (chacha_Block.CG F50 F51) chacha_Block.L chacha_Block.D tab chacha_Block.b2 (lpost chacha_Block.hn17 chacha_Block.hx17 N K) [none, none, none, none, none, none, some (Value.pointer (some y6)), some (Value.pointer (some y7)), none, none, none, some (Value.pointer (some y11)), none, none, none, none, none, none, none, none, none, none, none, none, none, none, none, none, none, none, none, none, none, none, none, none, none, none, none, none, none, none, none, none, none, none, none, none, some (Value.agg #[(Value.int .u32 y48_0), (Value.int .u32 y48_1), (Value.int .u32 y48_2), (Value.int .u32 y48_3), (Value.int .u32 y48_4), (Value.int .u32 y48_5), (Value.int .u32 y48_6), (Value.int .u32 y48_7), (Value.int .u32 y48_8), (Value.int .u32 y48_9), (Value.int .u32 y48_10), (Value.int .u32 y48_11), (Value.int .u32 y48_12), (Value.int .u32 y48_13), (Value.int .u32 y48_14), (Value.int .u32 y48_15)]), some (Value.int .i64 y49), none, none, none, none, none, none, none, none, none, none, none, none, none, none, none, none, none, none, none, none, none, none, none, none] w = chacha_Block.l17G F50 F51 (chacha_Block.l17 N) y6 y7 y11 y48_0 y48_1 y48_2 y48_3 y48_4 y48_5 y48_6 y48_7 y48_8 y48_9 y48_10 y48_11 y48_12 y48_13 y48_14 y48_15 y49 w (fun o6 o11 w => K (.exit 4) [none, none, none, none, none, none, some (Value.pointer (some o6)), none, none, none, none, some (Value.pointer (some o11)), none, none, none, none, none, none, none, none, none, none, none, none, none, none, none, none, none, none, none, none, none, none, none, none, none, none, none, none, none, none, none, none, none, none, none, none, none, none, none, none, none, none, none, none, none, none, none, none, none, none, none, none, none, none, none, none, none, none, none, none, none, none] w) := by kernel_rfl
theorem chacha_Block.les17 (N : Nat) : chacha_Block.l17 (N + 1) = chacha_Block.l17G @chacha_word.f @chacha_state_rounds.f (chacha_Block.l17 N) := by kernel_rfl
theorem chacha_Block.le17 (N : Nat) (y6 : Addr) (y7 : Addr) (y11 : Addr) (y48_0 : Int) (y48_1 : Int) (y48_2 : Int) (y48_3 : Int) (y48_4 : Int) (y48_5 : Int) (y48_6 : Int) (y48_7 : Int) (y48_8 : Int) (y48_9 : Int) (y48_10 : Int) (y48_11 : Int) (y48_12 : Int) (y48_13 : Int) (y48_14 : Int) (y48_15 : Int) (y49 : Int) (w : World) (K : AExit → Fr → World → Prop) : awp chacha_Block.C chacha_Block.L chacha_Block.D tab chacha_Block.b2 (lpost chacha_Block.hn17 chacha_Block.hx17 N K) [none, none, none, none, none, none, some (Value.pointer (some y6)), some (Value.pointer (some y7)), none, none, none, some (Value.pointer (some y11)), none, none, none, none, none, none, none, none, none, none, none, none, none, none, none, none, none, none, none, none, none, none, none, none, none, none, none, none, none, none, none, none, none, none, none, none, some (Value.agg #[(Value.int .u32 y48_0), (Value.int .u32 y48_1), (Value.int .u32 y48_2), (Value.int .u32 y48_3), (Value.int .u32 y48_4), (Value.int .u32 y48_5), (Value.int .u32 y48_6), (Value.int .u32 y48_7), (Value.int .u32 y48_8), (Value.int .u32 y48_9), (Value.int .u32 y48_10), (Value.int .u32 y48_11), (Value.int .u32 y48_12), (Value.int .u32 y48_13), (Value.int .u32 y48_14), (Value.int .u32 y48_15)]), some (Value.int .i64 y49), none, none, none, none, none, none, none, none, none, none, none, none, none, none, none, none, none, none, none, none, none, none, none, none] w = chacha_Block.l17 (N + 1) y6 y7 y11 y48_0 y48_1 y48_2 y48_3 y48_4 y48_5 y48_6 y48_7 y48_8 y48_9 y48_10 y48_11 y48_12 y48_13 y48_14 y48_15 y49 w (fun o6 o11 w => K (.exit 4) [none, none, none, none, none, none, some (Value.pointer (some o6)), none, none, none, none, some (Value.pointer (some o11)), none, none, none, none, none, none, none, none, none, none, none, none, none, none, none, none, none, none, none, none, none, none, none, none, none, none, none, none, none, none, none, none, none, none, none, none, none, none, none, none, none, none, none, none, none, none, none, none, none, none, none, none, none, none, none, none, none, none, none, none, none, none] w) := by
  rw [chacha_Block.les17]
  exact chacha_Block.leG17 @chacha_word.f @chacha_state_rounds.f N y6 y7 y11 y48_0 y48_1 y48_2 y48_3 y48_4 y48_5 y48_6 y48_7 y48_8 y48_9 y48_10 y48_11 y48_12 y48_13 y48_14 y48_15 y49 w K
theorem chacha_Block.lok17 : LoopOk Try.prog chacha_Block.L chacha_Block.b2 := by
  refine loop_ok tab_ok chacha_Block.C_ok (D := chacha_Block.D) (chacha_Block.hn17) (chacha_Block.hx17) (by kernel_rfl) (by rw [chacha_Block.b2_loops]; exact lcons chacha_Block.lok21 (lnil)) ?_ ?_ ?_ ?_
  · intro f w K h
    unfold chacha_Block.hn17 at h
    obtain ⟨hlen, h⟩ := gN_ok h
    obtain ⟨y6, h6, h⟩ := gQ_ok h
    obtain ⟨y7, h7, h⟩ := gQ_ok h
    obtain ⟨y11, h11, h⟩ := gQ_ok h
    obtain ⟨l, h48, h⟩ := gT_ok h
    replace h := cI_ok h; obtain ⟨y48_0, l, rfl, h⟩ := h
    replace h := cI_ok h; obtain ⟨y48_1, l, rfl, h⟩ := h
    replace h := cI_ok h; obtain ⟨y48_2, l, rfl, h⟩ := h
    replace h := cI_ok h; obtain ⟨y48_3, l, rfl, h⟩ := h
    replace h := cI_ok h; obtain ⟨y48_4, l, rfl, h⟩ := h
    replace h := cI_ok h; obtain ⟨y48_5, l, rfl, h⟩ := h
    replace h := cI_ok h; obtain ⟨y48_6, l, rfl, h⟩ := h
    replace h := cI_ok h; obtain ⟨y48_7, l, rfl, h⟩ := h
    replace h := cI_ok h; obtain ⟨y48_8, l, rfl, h⟩ := h
    replace h := cI_ok h; obtain ⟨y48_9, l, rfl, h⟩ := h
    replace h := cI_ok h; obtain ⟨y48_10, l, rfl, h⟩ := h
    replace h := cI_ok h; obtain ⟨y48_11, l, rfl, h⟩ := h
    replace h := cI_ok h; obtain ⟨y48_12, l, rfl, h⟩ := h
    replace h := cI_ok h; obtain ⟨y48_13, l, rfl, h⟩ := h
    replace h := cI_ok h; obtain ⟨y48_14, l, rfl, h⟩ := h
    replace h := cI_ok h; obtain ⟨y48_15, l, rfl, h⟩ := h
    replace h := cE_ok h; obtain ⟨rfl, h⟩ := h
    obtain ⟨y49, h49, h⟩ := gI_ok h
    exact h
  · intro N f w K h
    unfold chacha_Block.hn17 at h
    obtain ⟨hlen, h⟩ := gN_ok h
    obtain ⟨y6, h6, h⟩ := gQ_ok h
    obtain ⟨y7, h7, h⟩ := gQ_ok h
    obtain ⟨y11, h11, h⟩ := gQ_ok h
    obtain ⟨l, h48, h⟩ := gT_ok h
    replace h := cI_ok h; obtain ⟨y48_0, l, rfl, h⟩ := h
    replace h := cI_ok h; obtain ⟨y48_1, l, rfl, h⟩ := h
    replace h := cI_ok h; obtain ⟨y48_2, l, rfl, h⟩ := h
    replace h := cI_ok h; obtain ⟨y48_3, l, rfl, h⟩ := h
    replace h := cI_ok h; obtain ⟨y48_4, l, rfl, h⟩ := h
    replace h := cI_ok h; obtain ⟨y48_5, l, rfl, h⟩ := h
    replace h := cI_ok h; obtain ⟨y48_6, l, rfl, h⟩ := h
    replace h := cI_ok h; obtain ⟨y48_7, l, rfl, h⟩ := h
    replace h := cI_ok h; obtain ⟨y48_8, l, rfl, h⟩ := h
    replace h := cI_ok h; obtain ⟨y48_9, l, rfl, h⟩ := h
    replace h := cI_ok h; obtain ⟨y48_10, l, rfl, h⟩ := h
    replace h := cI_ok h; obtain ⟨y48_11, l, rfl, h⟩ := h
    replace h := cI_ok h; obtain ⟨y48_12, l, rfl, h⟩ := h
    replace h := cI_ok h; obtain ⟨y48_13, l, rfl, h⟩ := h
    replace h := cI_ok h; obtain ⟨y48_14, l, rfl, h⟩ := h
    replace h := cI_ok h; obtain ⟨y48_15, l, rfl, h⟩ := h
    replace h := cE_ok h; obtain ⟨rfl, h⟩ := h
    obtain ⟨y49, h49, h⟩ := gI_ok h
    refine ⟨[none, none, none, none, none, none, some (Value.pointer (some y6)), some (Value.pointer (some y7)), none, none, none, some (Value.pointer (some y11)), none, none, none, none, none, none, none, none, none, none, none, none, none, none, none, none, none, none, none, none, none, none, none, none, none, none, none, none, none, none, none, none, none, none, none, none, some (Value.agg #[(Value.int .u32 y48_0), (Value.int .u32 y48_1), (Value.int .u32 y48_2), (Value.int .u32 y48_3), (Value.int .u32 y48_4), (Value.int .u32 y48_5), (Value.int .u32 y48_6), (Value.int .u32 y48_7), (Value.int .u32 y48_8), (Value.int .u32 y48_9), (Value.int .u32 y48_10), (Value.int .u32 y48_11), (Value.int .u32 y48_12), (Value.int .u32 y48_13), (Value.int .u32 y48_14), (Value.int .u32 y48_15)]), some (Value.int .i64 y49), none, none, none, none, none, none, none, none, none, none, none, none, none, none, none, none, none, none, none, none, none, none, none, none], hlen, ⟨h6, h7, h11, h48, h49, trivial⟩, ?_⟩
    rw [chacha_Block.le17]
    exact h
  · intro e f w K h
    cases e with
    | normal => exact h.elim
    | exit i =>
      unfold chacha_Block.hx17 at h
      simp only at h
      split at h
      · rename_i hb
        obtain rfl := Nat.eq_of_beq_eq_true hb
        obtain ⟨hlen, h⟩ := gN_ok h
        obtain ⟨o6, h6, h⟩ := gQ_ok h
        obtain ⟨o11, h11, h⟩ := gQ_ok h
        exact ⟨[none, none, none, none, none, none, some (Value.pointer (some o6)), none, none, none, none, some (Value.pointer (some o11)), none, none, none, none, none, none, none, none, none, none, none, none, none, none, none, none, none, none, none, none, none, none, none, none, none, none, none, none, none, none, none, none, none, none, none, none, none, none, none, none, none, none, none, none, none, none, none, none, none, none, none, none, none, none, none, none, none, none, none, none, none, none], hlen, ⟨h6, h11, trivial⟩, h⟩
      · exact (show False from h).elim
    | ret =>
      exact (show False from h).elim
  · intro f w K h
    have e : lid chacha_Block.b2 = 17 := by kernel_rfl
    rw [e] at h
    exact h
theorem chacha_Block.eqG (F50 : type_of% @chacha_word.f) (F51 : type_of% @chacha_state_rounds.f) (a0 : Array Value) (a1 : Int) (a2_0 : Int) (a2_1 : Int) (a2_2 : Int) (a2_3 : Int) (a2_4 : Int) (a2_5 : Int) (a2_6 : Int) (a2_7 : Int) (a2_8 : Int) (a2_9 : Int) (a2_10 : Int) (a2_11 : Int) (w : World) (K : Value → World → Prop) : afn (chacha_Block.CG F50 F51) chacha_Block.L chacha_Block.D tab Try.f29 [(Value.agg a0), (Value.int .u32 a1), (Value.agg #[(Value.int .u8 a2_0), (Value.int .u8 a2_1), (Value.int .u8 a2_2), (Value.int .u8 a2_3), (Value.int .u8 a2_4), (Value.int .u8 a2_5), (Value.int .u8 a2_6), (Value.int .u8 a2_7), (Value.int .u8 a2_8), (Value.int .u8 a2_9), (Value.int .u8 a2_10), (Value.int .u8 a2_11)])] w K = chacha_Block.G F50 F51 a0 a1 a2_0 a2_1 a2_2 a2_3 a2_4 a2_5 a2_6 a2_7 a2_8 a2_9 a2_10 a2_11 w (fun r0 w => K (Value.agg r0) w) := by kernel_rfl
theorem chacha_Block.eq (a0 : Array Value) (a1 : Int) (a2_0 : Int) (a2_1 : Int) (a2_2 : Int) (a2_3 : Int) (a2_4 : Int) (a2_5 : Int) (a2_6 : Int) (a2_7 : Int) (a2_8 : Int) (a2_9 : Int) (a2_10 : Int) (a2_11 : Int) (w : World) (K : Value → World → Prop) : afn chacha_Block.C chacha_Block.L chacha_Block.D tab Try.f29 [(Value.agg a0), (Value.int .u32 a1), (Value.agg #[(Value.int .u8 a2_0), (Value.int .u8 a2_1), (Value.int .u8 a2_2), (Value.int .u8 a2_3), (Value.int .u8 a2_4), (Value.int .u8 a2_5), (Value.int .u8 a2_6), (Value.int .u8 a2_7), (Value.int .u8 a2_8), (Value.int .u8 a2_9), (Value.int .u8 a2_10), (Value.int .u8 a2_11)])] w K = chacha_Block.f a0 a1 a2_0 a2_1 a2_2 a2_3 a2_4 a2_5 a2_6 a2_7 a2_8 a2_9 a2_10 a2_11 w (fun r0 w => K (Value.agg r0) w) := chacha_Block.eqG @chacha_word.f @chacha_state_rounds.f a0 a1 a2_0 a2_1 a2_2 a2_3 a2_4 a2_5 a2_6 a2_7 a2_8 a2_9 a2_10 a2_11 w K
theorem chacha_Block.ok : FSound Try.prog 29 chacha_Block.h := by
  intro args w K h
  unfold chacha_Block.h chacha_Block.H at h
  split at h
  ·
    replace h := vA_ok h
    obtain ⟨a0, rfl, h⟩ := h
    replace h := vI_ok h
    obtain ⟨a1, rfl, h⟩ := h
    replace h := vT_ok h
    obtain ⟨l, rfl, h⟩ := h
    replace h := cI_ok h; obtain ⟨a2_0, l, rfl, h⟩ := h
    replace h := cI_ok h; obtain ⟨a2_1, l, rfl, h⟩ := h
    replace h := cI_ok h; obtain ⟨a2_2, l, rfl, h⟩ := h
    replace h := cI_ok h; obtain ⟨a2_3, l, rfl, h⟩ := h
    replace h := cI_ok h; obtain ⟨a2_4, l, rfl, h⟩ := h
    replace h := cI_ok h; obtain ⟨a2_5, l, rfl, h⟩ := h
    replace h := cI_ok h; obtain ⟨a2_6, l, rfl, h⟩ := h
    replace h := cI_ok h; obtain ⟨a2_7, l, rfl, h⟩ := h
    replace h := cI_ok h; obtain ⟨a2_8, l, rfl, h⟩ := h
    replace h := cI_ok h; obtain ⟨a2_9, l, rfl, h⟩ := h
    replace h := cI_ok h; obtain ⟨a2_10, l, rfl, h⟩ := h
    replace h := cI_ok h; obtain ⟨a2_11, l, rfl, h⟩ := h
    replace h := cE_ok h; obtain ⟨rfl, h⟩ := h
    refine ⟨by kernel_rfl, fn_ok tab_ok chacha_Block.C_ok (L := chacha_Block.L) (D := chacha_Block.D) Try.func29 chacha_Block.hb (by kernel_rfl) (by rw [chacha_Block.c_loops]; exact lcons chacha_Block.lok3 (lcons chacha_Block.lok9 (lcons chacha_Block.lok17 (lnil)))) (Nat.le_of_ble_eq_true (by kernel_rfl)) ?_⟩
    rw [chacha_Block.eq]
    exact h
  · exact h.elim
/-! ### valise/valiseref26.little: function 52 -/
def ref26_little.f (a0 : Option Addr) (a0n : Nat) (a0c : Nat) (w : World) (K : Int → World → Prop) : Prop :=
  sm a0 fun p_3 =>
  if 0 ≤ (0 : Int) ∧ (0 : Int) < ((a0n : Nat) : Int) then
  ldI .u8 p_3 w.drew fun x5_4 =>
  sm a0 fun p_5 =>
  if 0 ≤ (1 : Int) ∧ (1 : Int) < ((a0n : Nat) : Int) then
  ldI .u8 (p_5.add 1) w.drew fun x9_6 =>
  sm a0 fun p_7 =>
  if 0 ≤ (2 : Int) ∧ (2 : Int) < ((a0n : Nat) : Int) then
  ldI .u8 (p_7.add 2) w.drew fun x15_8 =>
  sm a0 fun p_9 =>
  if 0 ≤ (3 : Int) ∧ (3 : Int) < ((a0n : Nat) : Int) then
  ldI .u8 (p_9.add 3) w.drew fun x21_10 =>
  let v2_11 := (bor .u32 (bor .u32 (bor .u32 (IntKind.wrap .u32 x5_4) (shl .u32 (IntKind.wrap .u32 x9_6) 8)) (shl .u32 (IntKind.wrap .u32 x15_8) 16)) (shl .u32 (IntKind.wrap .u32 x21_10) 24))
  K v2_11 w.drew
  else False
  else False
  else False
  else False
def ref26_little.H (F : type_of% @ref26_little.f) : Hf := fun args w K => match args with
  | [v0] => vL v0 fun a0 a0n a0c => F a0 a0n a0c w (fun r0 w => K (Value.int .u32 r0) w)
  | _ => False
def ref26_little.h : Hf := ref26_little.H @ref26_little.f
def ref26_little.C : Hd := hnil
theorem ref26_little.C_ok : CSound Try.prog ref26_little.C := hnil_ok
def ref26_little.D : Nat → Plan := fun i => (match Nat.beq i 1 with | true => .take 0 (.take 1 (.take 2 (.take 3 (.take 4 (.take 5 (.take 6 (.take 7 (.take 8 (.take 9 (.take 10 (.take 11 (.take 12 (.take 13 (.take 14 (.take 15 (.take 16 (.take 17 (.take 18 (.take 19 (.take 20 (.take 21 (.take 22 (.done))))))))))))))))))))))) | false => .done)
noncomputable def ref26_little.c : Code := Try.f52.body.getD .skip
theorem ref26_little.hb : Try.f52.body = some ref26_little.c := by kernel_rfl
theorem ref26_little.c_loops : loopsOf ref26_little.c = [] := by kernel_rfl
def ref26_little.L : LHd := fun l f w K => False
theorem ref26_little.eq (a0 : Option Addr) (a0n : Nat) (a0c : Nat) (w : World) (K : Value → World → Prop) : afn ref26_little.C ref26_little.L ref26_little.D tab Try.f52 [(Value.slice a0 a0n a0c)] w K = ref26_little.f a0 a0n a0c w (fun r0 w => K (Value.int .u32 r0) w) := by kernel_rfl
theorem ref26_little.ok : FSound Try.prog 52 ref26_little.h := by
  intro args w K h
  unfold ref26_little.h ref26_little.H at h
  split at h
  ·
    replace h := vL_ok h
    obtain ⟨a0, a0n, a0c, rfl, h⟩ := h
    refine ⟨by kernel_rfl, fn_ok tab_ok ref26_little.C_ok (L := ref26_little.L) (D := ref26_little.D) Try.func52 ref26_little.hb (by kernel_rfl) (by rw [ref26_little.c_loops]; exact lnil) (Nat.le_of_ble_eq_true (by kernel_rfl)) ?_⟩
    rw [ref26_little.eq]
    exact h
  · exact h.elim
/-! ### valise/valiseref26.round: function 53 -/
def ref26_round.f (a0_0 : Int) (a0_1 : Int) (a0_2 : Int) (a0_3 : Int) (a0_4 : Int) (a0_5 : Int) (a0_6 : Int) (a0_7 : Int) (a0_8 : Int) (a0_9 : Int) (a0_10 : Int) (a0_11 : Int) (a0_12 : Int) (a0_13 : Int) (a0_14 : Int) (a0_15 : Int) (a1 : Int) (a2 : Int) (a3 : Int) (a4 : Int) (w : World) (K : Int → Int → Int → Int → Int → Int → Int → Int → Int → Int → Int → Int → Int → Int → Int → Int → World → Prop) : Prop :=
  newC 69 [(Value.int .u32 a0_0), (Value.int .u32 a0_1), (Value.int .u32 a0_2), (Value.int .u32 a0_3), (Value.int .u32 a0_4), (Value.int .u32 a0_5), (Value.int .u32 a0_6), (Value.int .u32 a0_7), (Value.int .u32 a0_8), (Value.int .u32 a0_9), (Value.int .u32 a0_10), (Value.int .u32 a0_11), (Value.int .u32 a0_12), (Value.int .u32 a0_13), (Value.int .u32 a0_14), (Value.int .u32 a0_15)] w fun a5_2 w =>
  newC 69 (List.replicate 16 (Value.int .u32 0)) w fun a10_3 w =>
  if 0 ≤ (a1 : Int) ∧ (a1 : Int) < ((16 : Nat) : Int) then
  ldI .u32 (a5_2.add (Int.toNat a1)) w.drew fun x18_5 =>
  if 0 ≤ (a2 : Int) ∧ (a2 : Int) < ((16 : Nat) : Int) then
  ldI .u32 (a5_2.add (Int.toNat a2)) w.drew fun x21_6 =>
  if 0 ≤ (a3 : Int) ∧ (a3 : Int) < ((16 : Nat) : Int) then
  ldI .u32 (a5_2.add (Int.toNat a3)) w.drew fun x24_7 =>
  if 0 ≤ (a4 : Int) ∧ (a4 : Int) < ((16 : Nat) : Int) then
  ldI .u32 (a5_2.add (Int.toNat a4)) w.drew fun x27_8 =>
  ref26_Quarter.f x18_5 x21_6 x24_7 x27_8 w.drew fun r28_9 r28_10 r28_11 r28_12 w =>
  if 0 ≤ (a1 : Int) ∧ (a1 : Int) < ((16 : Nat) : Int) then
  stC (a5_2.add (Int.toNat a1)) (Value.int .u32 r28_9) w fun w =>
  if 0 ≤ (a2 : Int) ∧ (a2 : Int) < ((16 : Nat) : Int) then
  stC (a5_2.add (Int.toNat a2)) (Value.int .u32 r28_10) w fun w =>
  if 0 ≤ (a3 : Int) ∧ (a3 : Int) < ((16 : Nat) : Int) then
  stC (a5_2.add (Int.toNat a3)) (Value.int .u32 r28_11) w fun w =>
  if 0 ≤ (a4 : Int) ∧ (a4 : Int) < ((16 : Nat) : Int) then
  stC (a5_2.add (Int.toNat a4)) (Value.int .u32 r28_12) w fun w =>
  ldI .u32 (a5_2.add 0) w fun x45_16 =>
  ldI .u32 (a5_2.add 1) w fun x45_17 =>
  ldI .u32 (a5_2.add 2) w fun x45_18 =>
  ldI .u32 (a5_2.add 3) w fun x45_19 =>
  ldI .u32 (a5_2.add 4) w fun x45_20 =>
  ldI .u32 (a5_2.add 5) w fun x45_21 =>
  ldI .u32 (a5_2.add 6) w fun x45_22 =>
  ldI .u32 (a5_2.add 7) w fun x45_23 =>
  ldI .u32 (a5_2.add 8) w fun x45_24 =>
  ldI .u32 (a5_2.add 9) w fun x45_25 =>
  ldI .u32 (a5_2.add 10) w fun x45_26 =>
  ldI .u32 (a5_2.add 11) w fun x45_27 =>
  ldI .u32 (a5_2.add 12) w fun x45_28 =>
  ldI .u32 (a5_2.add 13) w fun x45_29 =>
  ldI .u32 (a5_2.add 14) w fun x45_30 =>
  ldI .u32 (a5_2.add 15) w fun x45_31 =>
  stCs a10_3 [(Value.int .u32 x45_16), (Value.int .u32 x45_17), (Value.int .u32 x45_18), (Value.int .u32 x45_19), (Value.int .u32 x45_20), (Value.int .u32 x45_21), (Value.int .u32 x45_22), (Value.int .u32 x45_23), (Value.int .u32 x45_24), (Value.int .u32 x45_25), (Value.int .u32 x45_26), (Value.int .u32 x45_27), (Value.int .u32 x45_28), (Value.int .u32 x45_29), (Value.int .u32 x45_30), (Value.int .u32 x45_31)] 0 w fun w =>
  ldI .u32 (a10_3.add 0) w fun q_32_0 =>
  ldI .u32 (a10_3.add 1) w fun q_32_1 =>
  ldI .u32 (a10_3.add 2) w fun q_32_2 =>
  ldI .u32 (a10_3.add 3) w fun q_32_3 =>
  ldI .u32 (a10_3.add 4) w fun q_32_4 =>
  ldI .u32 (a10_3.add 5) w fun q_32_5 =>
  ldI .u32 (a10_3.add 6) w fun q_32_6 =>
  ldI .u32 (a10_3.add 7) w fun q_32_7 =>
  ldI .u32 (a10_3.add 8) w fun q_32_8 =>
  ldI .u32 (a10_3.add 9) w fun q_32_9 =>
  ldI .u32 (a10_3.add 10) w fun q_32_10 =>
  ldI .u32 (a10_3.add 11) w fun q_32_11 =>
  ldI .u32 (a10_3.add 12) w fun q_32_12 =>
  ldI .u32 (a10_3.add 13) w fun q_32_13 =>
  ldI .u32 (a10_3.add 14) w fun q_32_14 =>
  ldI .u32 (a10_3.add 15) w fun q_32_15 =>
  K q_32_0 q_32_1 q_32_2 q_32_3 q_32_4 q_32_5 q_32_6 q_32_7 q_32_8 q_32_9 q_32_10 q_32_11 q_32_12 q_32_13 q_32_14 q_32_15 w
  else False
  else False
  else False
  else False
  else False
  else False
  else False
  else False
def ref26_round.H (F : type_of% @ref26_round.f) : Hf := fun args w K => match args with
  | [v0, v1, v2, v3, v4] => vT v0 fun l => cI .u32 l fun a0_0 l => cI .u32 l fun a0_1 l => cI .u32 l fun a0_2 l => cI .u32 l fun a0_3 l => cI .u32 l fun a0_4 l => cI .u32 l fun a0_5 l => cI .u32 l fun a0_6 l => cI .u32 l fun a0_7 l => cI .u32 l fun a0_8 l => cI .u32 l fun a0_9 l => cI .u32 l fun a0_10 l => cI .u32 l fun a0_11 l => cI .u32 l fun a0_12 l => cI .u32 l fun a0_13 l => cI .u32 l fun a0_14 l => cI .u32 l fun a0_15 l => cE l <| vI .i64 v1 fun a1 => vI .i64 v2 fun a2 => vI .i64 v3 fun a3 => vI .i64 v4 fun a4 => F a0_0 a0_1 a0_2 a0_3 a0_4 a0_5 a0_6 a0_7 a0_8 a0_9 a0_10 a0_11 a0_12 a0_13 a0_14 a0_15 a1 a2 a3 a4 w (fun r0_0 r0_1 r0_2 r0_3 r0_4 r0_5 r0_6 r0_7 r0_8 r0_9 r0_10 r0_11 r0_12 r0_13 r0_14 r0_15 w => K (Value.agg #[(Value.int .u32 r0_0), (Value.int .u32 r0_1), (Value.int .u32 r0_2), (Value.int .u32 r0_3), (Value.int .u32 r0_4), (Value.int .u32 r0_5), (Value.int .u32 r0_6), (Value.int .u32 r0_7), (Value.int .u32 r0_8), (Value.int .u32 r0_9), (Value.int .u32 r0_10), (Value.int .u32 r0_11), (Value.int .u32 r0_12), (Value.int .u32 r0_13), (Value.int .u32 r0_14), (Value.int .u32 r0_15)]) w)
  | _ => False
def ref26_round.h : Hf := ref26_round.H @ref26_round.f
def ref26_round.C : Hd := hcons 27 ref26_Quarter.h (hnil)
theorem ref26_round.C_ok : CSound Try.prog ref26_round.C := hcons_ok ref26_Quarter.ok (hnil_ok)
def ref26_round.D : Nat → Plan := fun i => (match Nat.beq i 1 with | true => .take 0 (.take 1 (.take 2 (.take 3 (.take 4 (.take 5 (.take 6 (.take 7 (.take 8 (.take 9 (.take 10 (.take 11 (.eff 12 (.take 13 (.take 14 (.take 15 (.take 16 (.take 17 (.take 18 (.take 19 (.take 20 (.take 21 (.done)))))))))))))))))))))) | false => .done)
noncomputable def ref26_round.c : Code := Try.f53.body.getD .skip
theorem ref26_round.hb : Try.f53.body = some ref26_round.c := by kernel_rfl
theorem ref26_round.c_loops : loopsOf ref26_round.c = [] := by kernel_rfl
def ref26_round.L : LHd := fun l f w K => False
theorem ref26_round.eq (a0_0 : Int) (a0_1 : Int) (a0_2 : Int) (a0_3 : Int) (a0_4 : Int) (a0_5 : Int) (a0_6 : Int) (a0_7 : Int) (a0_8 : Int) (a0_9 : Int) (a0_10 : Int) (a0_11 : Int) (a0_12 : Int) (a0_13 : Int) (a0_14 : Int) (a0_15 : Int) (a1 : Int) (a2 : Int) (a3 : Int) (a4 : Int) (w : World) (K : Value → World → Prop) : afn ref26_round.C ref26_round.L ref26_round.D tab Try.f53 [(Value.agg #[(Value.int .u32 a0_0), (Value.int .u32 a0_1), (Value.int .u32 a0_2), (Value.int .u32 a0_3), (Value.int .u32 a0_4), (Value.int .u32 a0_5), (Value.int .u32 a0_6), (Value.int .u32 a0_7), (Value.int .u32 a0_8), (Value.int .u32 a0_9), (Value.int .u32 a0_10), (Value.int .u32 a0_11), (Value.int .u32 a0_12), (Value.int .u32 a0_13), (Value.int .u32 a0_14), (Value.int .u32 a0_15)]), (Value.int .i64 a1), (Value.int .i64 a2), (Value.int .i64 a3), (Value.int .i64 a4)] w K = ref26_round.f a0_0 a0_1 a0_2 a0_3 a0_4 a0_5 a0_6 a0_7 a0_8 a0_9 a0_10 a0_11 a0_12 a0_13 a0_14 a0_15 a1 a2 a3 a4 w (fun r0_0 r0_1 r0_2 r0_3 r0_4 r0_5 r0_6 r0_7 r0_8 r0_9 r0_10 r0_11 r0_12 r0_13 r0_14 r0_15 w => K (Value.agg #[(Value.int .u32 r0_0), (Value.int .u32 r0_1), (Value.int .u32 r0_2), (Value.int .u32 r0_3), (Value.int .u32 r0_4), (Value.int .u32 r0_5), (Value.int .u32 r0_6), (Value.int .u32 r0_7), (Value.int .u32 r0_8), (Value.int .u32 r0_9), (Value.int .u32 r0_10), (Value.int .u32 r0_11), (Value.int .u32 r0_12), (Value.int .u32 r0_13), (Value.int .u32 r0_14), (Value.int .u32 r0_15)]) w) := by kernel_rfl
theorem ref26_round.ok : FSound Try.prog 53 ref26_round.h := by
  intro args w K h
  unfold ref26_round.h ref26_round.H at h
  split at h
  ·
    replace h := vT_ok h
    obtain ⟨l, rfl, h⟩ := h
    replace h := cI_ok h; obtain ⟨a0_0, l, rfl, h⟩ := h
    replace h := cI_ok h; obtain ⟨a0_1, l, rfl, h⟩ := h
    replace h := cI_ok h; obtain ⟨a0_2, l, rfl, h⟩ := h
    replace h := cI_ok h; obtain ⟨a0_3, l, rfl, h⟩ := h
    replace h := cI_ok h; obtain ⟨a0_4, l, rfl, h⟩ := h
    replace h := cI_ok h; obtain ⟨a0_5, l, rfl, h⟩ := h
    replace h := cI_ok h; obtain ⟨a0_6, l, rfl, h⟩ := h
    replace h := cI_ok h; obtain ⟨a0_7, l, rfl, h⟩ := h
    replace h := cI_ok h; obtain ⟨a0_8, l, rfl, h⟩ := h
    replace h := cI_ok h; obtain ⟨a0_9, l, rfl, h⟩ := h
    replace h := cI_ok h; obtain ⟨a0_10, l, rfl, h⟩ := h
    replace h := cI_ok h; obtain ⟨a0_11, l, rfl, h⟩ := h
    replace h := cI_ok h; obtain ⟨a0_12, l, rfl, h⟩ := h
    replace h := cI_ok h; obtain ⟨a0_13, l, rfl, h⟩ := h
    replace h := cI_ok h; obtain ⟨a0_14, l, rfl, h⟩ := h
    replace h := cI_ok h; obtain ⟨a0_15, l, rfl, h⟩ := h
    replace h := cE_ok h; obtain ⟨rfl, h⟩ := h
    replace h := vI_ok h
    obtain ⟨a1, rfl, h⟩ := h
    replace h := vI_ok h
    obtain ⟨a2, rfl, h⟩ := h
    replace h := vI_ok h
    obtain ⟨a3, rfl, h⟩ := h
    replace h := vI_ok h
    obtain ⟨a4, rfl, h⟩ := h
    refine ⟨by kernel_rfl, fn_ok tab_ok ref26_round.C_ok (L := ref26_round.L) (D := ref26_round.D) Try.func53 ref26_round.hb (by kernel_rfl) (by rw [ref26_round.c_loops]; exact lnil) (Nat.le_of_ble_eq_true (by kernel_rfl)) ?_⟩
    rw [ref26_round.eq]
    exact h
  · exact h.elim

end Go.Proofs.Ytodicpmedallgaa.G
