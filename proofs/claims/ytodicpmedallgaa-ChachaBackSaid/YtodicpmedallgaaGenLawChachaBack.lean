/- Go functions as predicate transformers, written by a program of this session (gen.py), with their soundness. -/
import Derived.Test.YtodicpmedallgaaGen4
set_option linter.unusedVariables false
set_option linter.unusedSimpArgs false
set_option maxRecDepth 100000
namespace Go.Proofs.Ytodicpmedallgaa.G
open Go Go.Proofs.Ytodicpmedallgaa.Vm
/-! ### valise/valiselaw26.ChachaBack: function 10 -/
def law26_ChachaBack.f (a0 : Array Value) (a1_0 : Int) (a1_1 : Int) (a1_2 : Int) (a1_3 : Int) (a1_4 : Int) (a1_5 : Int) (a1_6 : Int) (a1_7 : Int) (a1_8 : Int) (a1_9 : Int) (a1_10 : Int) (a1_11 : Int) (a2 : Int) (a3 : Option Addr) (a3n : Nat) (a3c : Nat) (a4 : Int) (w : World) (K : Bool → World → Prop) : Prop :=
  newC 40 (a0).toList w fun a5_2 w =>
  newC 41 [(Value.int .u8 a1_0), (Value.int .u8 a1_1), (Value.int .u8 a1_2), (Value.int .u8 a1_3), (Value.int .u8 a1_4), (Value.int .u8 a1_5), (Value.int .u8 a1_6), (Value.int .u8 a1_7), (Value.int .u8 a1_8), (Value.int .u8 a1_9), (Value.int .u8 a1_10), (Value.int .u8 a1_11)] w fun a6_3 w =>
  bif (decide (((a3n : Nat) : Int) > 2000)) then
    law26_awake.f  w fun r18_7 w =>
    K r18_7 w
  else
    ldA a5_2 32 w fun x19_9 =>
    ldI .u8 (a6_3.add 0) w fun x20_10 =>
    ldI .u8 (a6_3.add 1) w fun x20_11 =>
    ldI .u8 (a6_3.add 2) w fun x20_12 =>
    ldI .u8 (a6_3.add 3) w fun x20_13 =>
    ldI .u8 (a6_3.add 4) w fun x20_14 =>
    ldI .u8 (a6_3.add 5) w fun x20_15 =>
    ldI .u8 (a6_3.add 6) w fun x20_16 =>
    ldI .u8 (a6_3.add 7) w fun x20_17 =>
    ldI .u8 (a6_3.add 8) w fun x20_18 =>
    ldI .u8 (a6_3.add 9) w fun x20_19 =>
    ldI .u8 (a6_3.add 10) w fun x20_20 =>
    ldI .u8 (a6_3.add 11) w fun x20_21 =>
    chacha_Xor.f x19_9.toArray x20_10 x20_11 x20_12 x20_13 x20_14 x20_15 x20_16 x20_17 x20_18 x20_19 x20_20 x20_21 a2 a3 a3n a3c w fun r23_22 r23_22n r23_22c w =>
    if (IntKind.wrap .u64 (IntKind.wrap .i64 ((IntKind.wrap .i64 (Int.tdiv ((a3n : Nat) : Int) 64)) + 1))) = 0 then False else
    let v12_24 := (IntKind.wrap .i64 (Int.tmod (IntKind.wrap .u64 a4) (IntKind.wrap .u64 (IntKind.wrap .i64 ((IntKind.wrap .i64 (Int.tdiv ((a3n : Nat) : Int) 64)) + 1)))))
    ldA a5_2 32 w.drew fun x33_26 =>
    ldI .u8 (a6_3.add 0) w.drew fun x34_27 =>
    ldI .u8 (a6_3.add 1) w.drew fun x34_28 =>
    ldI .u8 (a6_3.add 2) w.drew fun x34_29 =>
    ldI .u8 (a6_3.add 3) w.drew fun x34_30 =>
    ldI .u8 (a6_3.add 4) w.drew fun x34_31 =>
    ldI .u8 (a6_3.add 5) w.drew fun x34_32 =>
    ldI .u8 (a6_3.add 6) w.drew fun x34_33 =>
    ldI .u8 (a6_3.add 7) w.drew fun x34_34 =>
    ldI .u8 (a6_3.add 8) w.drew fun x34_35 =>
    ldI .u8 (a6_3.add 9) w.drew fun x34_36 =>
    ldI .u8 (a6_3.add 10) w.drew fun x34_37 =>
    ldI .u8 (a6_3.add 11) w.drew fun x34_38 =>
    bnd a3n a3c none (some (Value.int .i64 (IntKind.wrap .i64 (64 * v12_24)))) fun l_39 h_40 =>
    chacha_Xor.f x33_26.toArray x34_27 x34_28 x34_29 x34_30 x34_31 x34_32 x34_33 x34_34 x34_35 x34_36 x34_37 x34_38 a2 (adrS a3 l_39 a3c 1) (h_40 - l_39) (a3c - l_39) w.drew fun r40_41 r40_41n r40_41c w =>
    ldA a5_2 32 w.drew fun x41_43 =>
    ldI .u8 (a6_3.add 0) w.drew fun x42_44 =>
    ldI .u8 (a6_3.add 1) w.drew fun x42_45 =>
    ldI .u8 (a6_3.add 2) w.drew fun x42_46 =>
    ldI .u8 (a6_3.add 3) w.drew fun x42_47 =>
    ldI .u8 (a6_3.add 4) w.drew fun x42_48 =>
    ldI .u8 (a6_3.add 5) w.drew fun x42_49 =>
    ldI .u8 (a6_3.add 6) w.drew fun x42_50 =>
    ldI .u8 (a6_3.add 7) w.drew fun x42_51 =>
    ldI .u8 (a6_3.add 8) w.drew fun x42_52 =>
    ldI .u8 (a6_3.add 9) w.drew fun x42_53 =>
    ldI .u8 (a6_3.add 10) w.drew fun x42_54 =>
    ldI .u8 (a6_3.add 11) w.drew fun x42_55 =>
    bnd a3n a3c (some (Value.int .i64 (IntKind.wrap .i64 (64 * v12_24)))) none fun l_56 h_57 =>
    chacha_Xor.f x41_43.toArray x42_44 x42_45 x42_46 x42_47 x42_48 x42_49 x42_50 x42_51 x42_52 x42_53 x42_54 x42_55 (IntKind.wrap .u32 (a2 + (IntKind.wrap .u32 v12_24))) (adrS a3 l_56 a3c 1) (h_57 - l_56) (a3c - l_56) w.drew fun r51_58 r51_58n r51_58c w =>
    law26_awake.f  w fun r52_60 w =>
    bif r52_60 then
      ldA a5_2 32 w fun x54_61 =>
      ldI .u8 (a6_3.add 0) w fun x55_62 =>
      ldI .u8 (a6_3.add 1) w fun x55_63 =>
      ldI .u8 (a6_3.add 2) w fun x55_64 =>
      ldI .u8 (a6_3.add 3) w fun x55_65 =>
      ldI .u8 (a6_3.add 4) w fun x55_66 =>
      ldI .u8 (a6_3.add 5) w fun x55_67 =>
      ldI .u8 (a6_3.add 6) w fun x55_68 =>
      ldI .u8 (a6_3.add 7) w fun x55_69 =>
      ldI .u8 (a6_3.add 8) w fun x55_70 =>
      ldI .u8 (a6_3.add 9) w fun x55_71 =>
      ldI .u8 (a6_3.add 10) w fun x55_72 =>
      ldI .u8 (a6_3.add 11) w fun x55_73 =>
      chacha_Xor.f x54_61.toArray x55_62 x55_63 x55_64 x55_65 x55_66 x55_67 x55_68 x55_69 x55_70 x55_71 x55_72 x55_73 a2 r23_22 r23_22n r23_22c w fun r58_74 r58_74n r58_74c w =>
      help_Bytes.f r58_74 r58_74n r58_74c a3 a3n a3c w fun r60_75 w =>
      bif r60_75 then
        help_CopyBytes.f r40_41 r40_41n r40_41c w fun r64_76 r64_76n r64_76c w =>
        appL 5 1 1 [(Value.int .u8 0)] r64_76 r64_76n r64_76c r51_58 r51_58n r51_58c w fun a66_77 a66_77n a66_77c w =>
        help_Bytes.f a66_77 a66_77n a66_77c r23_22 r23_22n r23_22c w fun r68_78 w =>
        K r68_78 w
      else
        K false w
    else
      K false w
def law26_ChachaBack.H (F : type_of% @law26_ChachaBack.f) : Hf := fun args w K => match args with
  | [v0, v1, v2, v3, v4] => vA v0 fun a0 => vT v1 fun l => cI .u8 l fun a1_0 l => cI .u8 l fun a1_1 l => cI .u8 l fun a1_2 l => cI .u8 l fun a1_3 l => cI .u8 l fun a1_4 l => cI .u8 l fun a1_5 l => cI .u8 l fun a1_6 l => cI .u8 l fun a1_7 l => cI .u8 l fun a1_8 l => cI .u8 l fun a1_9 l => cI .u8 l fun a1_10 l => cI .u8 l fun a1_11 l => cE l <| vI .u32 v2 fun a2 => vL v3 fun a3 a3n a3c => vI .i64 v4 fun a4 => F a0 a1_0 a1_1 a1_2 a1_3 a1_4 a1_5 a1_6 a1_7 a1_8 a1_9 a1_10 a1_11 a2 a3 a3n a3c a4 w (fun r0 w => K (Value.bool r0) w)
  | _ => False
def law26_ChachaBack.h : Hf := law26_ChachaBack.H @law26_ChachaBack.f
def law26_ChachaBack.CG (F28 : type_of% @law26_awake.f) (F32 : type_of% @chacha_Xor.f) (F31 : type_of% @help_Bytes.f) (F22 : type_of% @help_CopyBytes.f) : Hd := hcons 22 (help_CopyBytes.H F22) (hcons 31 (help_Bytes.H F31) (hcons 32 (chacha_Xor.H F32) (hcons 28 (law26_awake.H F28) (hnil))))
def law26_ChachaBack.C : Hd := law26_ChachaBack.CG @law26_awake.f @chacha_Xor.f @help_Bytes.f @help_CopyBytes.f
def law26_ChachaBack.G (F28 : type_of% @law26_awake.f) (F32 : type_of% @chacha_Xor.f) (F31 : type_of% @help_Bytes.f) (F22 : type_of% @help_CopyBytes.f) (a0 : Array Value) (a1_0 : Int) (a1_1 : Int) (a1_2 : Int) (a1_3 : Int) (a1_4 : Int) (a1_5 : Int) (a1_6 : Int) (a1_7 : Int) (a1_8 : Int) (a1_9 : Int) (a1_10 : Int) (a1_11 : Int) (a2 : Int) (a3 : Option Addr) (a3n : Nat) (a3c : Nat) (a4 : Int) (w : World) (K : Bool → World → Prop) : Prop :=
  newC 40 (a0).toList w fun a5_2 w =>
  newC 41 [(Value.int .u8 a1_0), (Value.int .u8 a1_1), (Value.int .u8 a1_2), (Value.int .u8 a1_3), (Value.int .u8 a1_4), (Value.int .u8 a1_5), (Value.int .u8 a1_6), (Value.int .u8 a1_7), (Value.int .u8 a1_8), (Value.int .u8 a1_9), (Value.int .u8 a1_10), (Value.int .u8 a1_11)] w fun a6_3 w =>
  bif (decide (((a3n : Nat) : Int) > 2000)) then
    F28  w fun r18_7 w =>
    K r18_7 w
  else
    ldA a5_2 32 w fun x19_9 =>
    ldI .u8 (a6_3.add 0) w fun x20_10 =>
    ldI .u8 (a6_3.add 1) w fun x20_11 =>
    ldI .u8 (a6_3.add 2) w fun x20_12 =>
    ldI .u8 (a6_3.add 3) w fun x20_13 =>
    ldI .u8 (a6_3.add 4) w fun x20_14 =>
    ldI .u8 (a6_3.add 5) w fun x20_15 =>
    ldI .u8 (a6_3.add 6) w fun x20_16 =>
    ldI .u8 (a6_3.add 7) w fun x20_17 =>
    ldI .u8 (a6_3.add 8) w fun x20_18 =>
    ldI .u8 (a6_3.add 9) w fun x20_19 =>
    ldI .u8 (a6_3.add 10) w fun x20_20 =>
    ldI .u8 (a6_3.add 11) w fun x20_21 =>
    F32 x19_9.toArray x20_10 x20_11 x20_12 x20_13 x20_14 x20_15 x20_16 x20_17 x20_18 x20_19 x20_20 x20_21 a2 a3 a3n a3c w fun r23_22 r23_22n r23_22c w =>
    if (IntKind.wrap .u64 (IntKind.wrap .i64 ((IntKind.wrap .i64 (Int.tdiv ((a3n : Nat) : Int) 64)) + 1))) = 0 then False else
    let v12_24 := (IntKind.wrap .i64 (Int.tmod (IntKind.wrap .u64 a4) (IntKind.wrap .u64 (IntKind.wrap .i64 ((IntKind.wrap .i64 (Int.tdiv ((a3n : Nat) : Int) 64)) + 1)))))
    ldA a5_2 32 w.drew fun x33_26 =>
    ldI .u8 (a6_3.add 0) w.drew fun x34_27 =>
    ldI .u8 (a6_3.add 1) w.drew fun x34_28 =>
    ldI .u8 (a6_3.add 2) w.drew fun x34_29 =>
    ldI .u8 (a6_3.add 3) w.drew fun x34_30 =>
    ldI .u8 (a6_3.add 4) w.drew fun x34_31 =>
    ldI .u8 (a6_3.add 5) w.drew fun x34_32 =>
    ldI .u8 (a6_3.add 6) w.drew fun x34_33 =>
    ldI .u8 (a6_3.add 7) w.drew fun x34_34 =>
    ldI .u8 (a6_3.add 8) w.drew fun x34_35 =>
    ldI .u8 (a6_3.add 9) w.drew fun x34_36 =>
    ldI .u8 (a6_3.add 10) w.drew fun x34_37 =>
    ldI .u8 (a6_3.add 11) w.drew fun x34_38 =>
    bnd a3n a3c none (some (Value.int .i64 (IntKind.wrap .i64 (64 * v12_24)))) fun l_39 h_40 =>
    F32 x33_26.toArray x34_27 x34_28 x34_29 x34_30 x34_31 x34_32 x34_33 x34_34 x34_35 x34_36 x34_37 x34_38 a2 (adrS a3 l_39 a3c 1) (h_40 - l_39) (a3c - l_39) w.drew fun r40_41 r40_41n r40_41c w =>
    ldA a5_2 32 w.drew fun x41_43 =>
    ldI .u8 (a6_3.add 0) w.drew fun x42_44 =>
    ldI .u8 (a6_3.add 1) w.drew fun x42_45 =>
    ldI .u8 (a6_3.add 2) w.drew fun x42_46 =>
    ldI .u8 (a6_3.add 3) w.drew fun x42_47 =>
    ldI .u8 (a6_3.add 4) w.drew fun x42_48 =>
    ldI .u8 (a6_3.add 5) w.drew fun x42_49 =>
    ldI .u8 (a6_3.add 6) w.drew fun x42_50 =>
    ldI .u8 (a6_3.add 7) w.drew fun x42_51 =>
    ldI .u8 (a6_3.add 8) w.drew fun x42_52 =>
    ldI .u8 (a6_3.add 9) w.drew fun x42_53 =>
    ldI .u8 (a6_3.add 10) w.drew fun x42_54 =>
    ldI .u8 (a6_3.add 11) w.drew fun x42_55 =>
    bnd a3n a3c (some (Value.int .i64 (IntKind.wrap .i64 (64 * v12_24)))) none fun l_56 h_57 =>
    F32 x41_43.toArray x42_44 x42_45 x42_46 x42_47 x42_48 x42_49 x42_50 x42_51 x42_52 x42_53 x42_54 x42_55 (IntKind.wrap .u32 (a2 + (IntKind.wrap .u32 v12_24))) (adrS a3 l_56 a3c 1) (h_57 - l_56) (a3c - l_56) w.drew fun r51_58 r51_58n r51_58c w =>
    F28  w fun r52_60 w =>
    bif r52_60 then
      ldA a5_2 32 w fun x54_61 =>
      ldI .u8 (a6_3.add 0) w fun x55_62 =>
      ldI .u8 (a6_3.add 1) w fun x55_63 =>
      ldI .u8 (a6_3.add 2) w fun x55_64 =>
      ldI .u8 (a6_3.add 3) w fun x55_65 =>
      ldI .u8 (a6_3.add 4) w fun x55_66 =>
      ldI .u8 (a6_3.add 5) w fun x55_67 =>
      ldI .u8 (a6_3.add 6) w fun x55_68 =>
      ldI .u8 (a6_3.add 7) w fun x55_69 =>
      ldI .u8 (a6_3.add 8) w fun x55_70 =>
      ldI .u8 (a6_3.add 9) w fun x55_71 =>
      ldI .u8 (a6_3.add 10) w fun x55_72 =>
      ldI .u8 (a6_3.add 11) w fun x55_73 =>
      F32 x54_61.toArray x55_62 x55_63 x55_64 x55_65 x55_66 x55_67 x55_68 x55_69 x55_70 x55_71 x55_72 x55_73 a2 r23_22 r23_22n r23_22c w fun r58_74 r58_74n r58_74c w =>
      F31 r58_74 r58_74n r58_74c a3 a3n a3c w fun r60_75 w =>
      bif r60_75 then
        F22 r40_41 r40_41n r40_41c w fun r64_76 r64_76n r64_76c w =>
        appL 5 1 1 [(Value.int .u8 0)] r64_76 r64_76n r64_76c r51_58 r51_58n r51_58c w fun a66_77 a66_77n a66_77c w =>
        F31 a66_77 a66_77n a66_77c r23_22 r23_22n r23_22c w fun r68_78 w =>
        K r68_78 w
      else
        K false w
    else
      K false w
theorem law26_ChachaBack.C_ok : CSound Try.prog law26_ChachaBack.C := hcons_ok help_CopyBytes.ok (hcons_ok help_Bytes.ok (hcons_ok chacha_Xor.ok (hcons_ok law26_awake.ok (hnil_ok))))
def law26_ChachaBack.D : Nat → Plan := fun i => (match Nat.beq i 6 with | true => .take 0 (.take 1 (.take 2 (.take 3 (.take 4 (.take 5 (.take 6 (.take 7 (.take 8 (.take 9 (.eff 10 (.take 11 (.done)))))))))))) | false => (match Nat.beq i 5 with | true => .take 0 (.take 1 (.take 2 (.take 3 (.take 4 (.take 5 (.take 6 (.eff 7 (.take 8 (.done))))))))) | false => .done))
noncomputable def law26_ChachaBack.c : Code := Try.f10.body.getD .skip
theorem law26_ChachaBack.hb : Try.f10.body = some law26_ChachaBack.c := by kernel_rfl
theorem law26_ChachaBack.c_loops : loopsOf law26_ChachaBack.c = [] := by kernel_rfl
def law26_ChachaBack.L : LHd := fun l f w K => False
theorem law26_ChachaBack.eqG (F28 : type_of% @law26_awake.f) (F32 : type_of% @chacha_Xor.f) (F31 : type_of% @help_Bytes.f) (F22 : type_of% @help_CopyBytes.f) (a0 : Array Value) (a1_0 : Int) (a1_1 : Int) (a1_2 : Int) (a1_3 : Int) (a1_4 : Int) (a1_5 : Int) (a1_6 : Int) (a1_7 : Int) (a1_8 : Int) (a1_9 : Int) (a1_10 : Int) (a1_11 : Int) (a2 : Int) (a3 : Option Addr) (a3n : Nat) (a3c : Nat) (a4 : Int) (w : World) (K : Value → World → Prop) : afn (law26_ChachaBack.CG F28 F32 F31 F22) law26_ChachaBack.L law26_ChachaBack.D tab Try.f10 [(Value.agg a0), (Value.agg #[(Value.int .u8 a1_0), (Value.int .u8 a1_1), (Value.int .u8 a1_2), (Value.int .u8 a1_3), (Value.int .u8 a1_4), (Value.int .u8 a1_5), (Value.int .u8 a1_6), (Value.int .u8 a1_7), (Value.int .u8 a1_8), (Value.int .u8 a1_9), (Value.int .u8 a1_10), (Value.int .u8 a1_11)]), (Value.int .u32 a2), (Value.slice a3 a3n a3c), (Value.int .i64 a4)] w K = law26_ChachaBack.G F28 F32 F31 F22 a0 a1_0 a1_1 a1_2 a1_3 a1_4 a1_5 a1_6 a1_7 a1_8 a1_9 a1_10 a1_11 a2 a3 a3n a3c a4 w (fun r0 w => K (Value.bool r0) w) := by kernel_rfl
theorem law26_ChachaBack.eq (a0 : Array Value) (a1_0 : Int) (a1_1 : Int) (a1_2 : Int) (a1_3 : Int) (a1_4 : Int) (a1_5 : Int) (a1_6 : Int) (a1_7 : Int) (a1_8 : Int) (a1_9 : Int) (a1_10 : Int) (a1_11 : Int) (a2 : Int) (a3 : Option Addr) (a3n : Nat) (a3c : Nat) (a4 : Int) (w : World) (K : Value → World → Prop) : afn law26_ChachaBack.C law26_ChachaBack.L law26_ChachaBack.D tab Try.f10 [(Value.agg a0), (Value.agg #[(Value.int .u8 a1_0), (Value.int .u8 a1_1), (Value.int .u8 a1_2), (Value.int .u8 a1_3), (Value.int .u8 a1_4), (Value.int .u8 a1_5), (Value.int .u8 a1_6), (Value.int .u8 a1_7), (Value.int .u8 a1_8), (Value.int .u8 a1_9), (Value.int .u8 a1_10), (Value.int .u8 a1_11)]), (Value.int .u32 a2), (Value.slice a3 a3n a3c), (Value.int .i64 a4)] w K = law26_ChachaBack.f a0 a1_0 a1_1 a1_2 a1_3 a1_4 a1_5 a1_6 a1_7 a1_8 a1_9 a1_10 a1_11 a2 a3 a3n a3c a4 w (fun r0 w => K (Value.bool r0) w) := law26_ChachaBack.eqG @law26_awake.f @chacha_Xor.f @help_Bytes.f @help_CopyBytes.f a0 a1_0 a1_1 a1_2 a1_3 a1_4 a1_5 a1_6 a1_7 a1_8 a1_9 a1_10 a1_11 a2 a3 a3n a3c a4 w K
theorem law26_ChachaBack.ok : FSound Try.prog 10 law26_ChachaBack.h := by
  intro args w K h
  unfold law26_ChachaBack.h law26_ChachaBack.H at h
  split at h
  ·
    replace h := vA_ok h
    obtain ⟨a0, rfl, h⟩ := h
    replace h := vT_ok h
    obtain ⟨l, rfl, h⟩ := h
    replace h := cI_ok h; obtain ⟨a1_0, l, rfl, h⟩ := h
    replace h := cI_ok h; obtain ⟨a1_1, l, rfl, h⟩ := h
    replace h := cI_ok h; obtain ⟨a1_2, l, rfl, h⟩ := h
    replace h := cI_ok h; obtain ⟨a1_3, l, rfl, h⟩ := h
    replace h := cI_ok h; obtain ⟨a1_4, l, rfl, h⟩ := h
    replace h := cI_ok h; obtain ⟨a1_5, l, rfl, h⟩ := h
    replace h := cI_ok h; obtain ⟨a1_6, l, rfl, h⟩ := h
    replace h := cI_ok h; obtain ⟨a1_7, l, rfl, h⟩ := h
    replace h := cI_ok h; obtain ⟨a1_8, l, rfl, h⟩ := h
    replace h := cI_ok h; obtain ⟨a1_9, l, rfl, h⟩ := h
    replace h := cI_ok h; obtain ⟨a1_10, l, rfl, h⟩ := h
    replace h := cI_ok h; obtain ⟨a1_11, l, rfl, h⟩ := h
    replace h := cE_ok h; obtain ⟨rfl, h⟩ := h
    replace h := vI_ok h
    obtain ⟨a2, rfl, h⟩ := h
    replace h := vL_ok h
    obtain ⟨a3, a3n, a3c, rfl, h⟩ := h
    replace h := vI_ok h
    obtain ⟨a4, rfl, h⟩ := h
    refine ⟨by kernel_rfl, fn_ok tab_ok law26_ChachaBack.C_ok (L := law26_ChachaBack.L) (D := law26_ChachaBack.D) Try.func10 law26_ChachaBack.hb (by kernel_rfl) (by rw [law26_ChachaBack.c_loops]; exact lnil) (Nat.le_of_ble_eq_true (by kernel_rfl)) ?_⟩
    rw [law26_ChachaBack.eq]
    exact h
  · exact h.elim
end Go.Proofs.Ytodicpmedallgaa.G
