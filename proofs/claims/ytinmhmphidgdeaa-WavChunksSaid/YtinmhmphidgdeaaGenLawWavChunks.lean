/- Go functions as predicate transformers, written by a program of this session (gen.py), with their soundness. -/
import Derived.Test.YtinmhmphidgdeaaGen3
set_option linter.unusedVariables false
set_option linter.unusedSimpArgs false
set_option maxRecDepth 100000
namespace Go.Proofs.Ytinmhmphidgdeaa.G
open Go Go.Proofs.Ytinmhmphidgdeaa.Vm
/-! ### valise/valiselaw13.WavChunks: function 7 -/
def law13_WavChunks.l10 : Nat → Option Addr → Nat → Nat → Option Addr → Nat → Nat → Option Addr → Nat → Nat → Addr → Int → Option Addr → Nat → Nat → Option Addr → Nat → Nat → Int → World → (Option Addr → Nat → Nat → Addr → Int → Option Addr → Nat → Nat → Option Addr → Nat → Nat → World → Prop) → Prop
  | 0, _, _, _, _, _, _, _, _, _, _, _, _, _, _, _, _, _, _, _, _ => False
  | N + 1, y2, y2n, y2c, y3, y3n, y3c, y4, y4n, y4c, y11, y12, y13, y13n, y13c, y14, y14n, y14c, y15, w, K0 =>
    bif (decide (y15 < ((y3n : Nat) : Int))) then
      bif (decide (y15 < ((y4n : Nat) : Int))) then
        bif (decide (y15 < 5)) then
          sm y3 fun p_33 =>
          if 0 ≤ (y15 : Int) ∧ (y15 : Int) < ((y3n : Nat) : Int) then
          ldS (p_33.add (Int.toNat y15)) w fun x80_34 =>
          bif (((ByteArray.size x80_34 : Nat) : Int) != 4) then
            let v15_59 := (IntKind.wrap .i64 (y15 + 1))
            law13_WavChunks.l10 N y2 y2n y2c y3 y3n y3c y4 y4n y4c y11 y12 y13 y13n y13c y14 y14n y14c v15_59 w K0
          else
            sm y3 fun p_35 =>
            if 0 ≤ (y15 : Int) ∧ (y15 : Int) < ((y3n : Nat) : Int) then
            ldS (p_35.add (Int.toNat y15)) w fun x87_36 =>
            bif (x87_36.toList == (ByteArray.mk #[100, 97, 116, 97]).toList) then
              let v15_60 := (IntKind.wrap .i64 (y15 + 1))
              law13_WavChunks.l10 N y2 y2n y2c y3 y3n y3c y4 y4n y4c y11 y12 y13 y13n y13c y14 y14n y14c v15_60 w K0
            else
              sm y3 fun p_37 =>
              if 0 ≤ (y15 : Int) ∧ (y15 : Int) < ((y3n : Nat) : Int) then
              ldS (p_37.add (Int.toNat y15)) w fun x94_38 =>
              bif (x94_38.toList == (ByteArray.mk #[102, 109, 116, 32]).toList) then
                let v15_61 := (IntKind.wrap .i64 (y15 + 1))
                law13_WavChunks.l10 N y2 y2n y2c y3 y3n y3c y4 y4n y4c y11 y12 y13 y13n y13c y14 y14n y14c v15_61 w K0
              else
                sm y4 fun p_39 =>
                if 0 ≤ (y15 : Int) ∧ (y15 : Int) < ((y4n : Nat) : Int) then
                ldL (p_39.add (Int.toNat y15)) w fun x101_40 x101_40n x101_40c =>
                bif (decide (((x101_40n : Nat) : Int) > 300)) then
                  let v15_62 := (IntKind.wrap .i64 (y15 + 1))
                  law13_WavChunks.l10 N y2 y2n y2c y3 y3n y3c y4 y4n y4c y11 y12 y13 y13n y13c y14 y14n y14c v15_62 w K0
                else
                  sm y3 fun p_42 =>
                  if 0 ≤ (y15 : Int) ∧ (y15 : Int) < ((y3n : Nat) : Int) then
                  ldS (p_42.add (Int.toNat y15)) w fun x109_43 =>
                  appT 5 1 [(Value.int .u8 0)] y14 y14n y14c x109_43 w fun a110_44 a110_44n a110_44c w =>
                  sm y4 fun p_46 =>
                  if 0 ≤ (y15 : Int) ∧ (y15 : Int) < ((y4n : Nat) : Int) then
                  ldL (p_46.add (Int.toNat y15)) w fun x115_47 x115_47n x115_47c =>
                  ref02_Little.f (IntKind.wrap .u64 ((x115_47n : Nat) : Int)) 4 w fun r118_48 r118_48n r118_48c w =>
                  appL 5 1 1 [(Value.int .u8 0)] a110_44 a110_44n a110_44c r118_48 r118_48n r118_48c w fun a119_49 a119_49n a119_49c w =>
                  sm y4 fun p_51 =>
                  if 0 ≤ (y15 : Int) ∧ (y15 : Int) < ((y4n : Nat) : Int) then
                  ldL (p_51.add (Int.toNat y15)) w fun x124_52 x124_52n x124_52c =>
                  appL 5 1 1 [(Value.int .u8 0)] a119_49 a119_49n a119_49c x124_52 x124_52n x124_52c w fun a125_53 a125_53n a125_53c w =>
                  sm y4 fun p_55 =>
                  if 0 ≤ (y15 : Int) ∧ (y15 : Int) < ((y4n : Nat) : Int) then
                  ldL (p_55.add (Int.toNat y15)) w fun x129_56 x129_56n x129_56c =>
                  bif ((Int.tmod ((x129_56n : Nat) : Int) 2) == 1) then
                    newC 5 [(Value.int .u8 0)] w fun a134_57 w =>
                    appL 5 1 1 [(Value.int .u8 0)] a125_53 a125_53n a125_53c (some a134_57) 1 1 w fun a135_58 a135_58n a135_58c w =>
                    let v15_63 := (IntKind.wrap .i64 (y15 + 1))
                    law13_WavChunks.l10 N y2 y2n y2c y3 y3n y3c y4 y4n y4c y11 y12 y13 y13n y13c a135_58 a135_58n a135_58c v15_63 w K0
                  else
                    let v15_64 := (IntKind.wrap .i64 (y15 + 1))
                    law13_WavChunks.l10 N y2 y2n y2c y3 y3n y3c y4 y4n y4c y11 y12 y13 y13n y13c a125_53 a125_53n a125_53c v15_64 w K0
                  else False
                  else False
                  else False
                  else False
                else False
              else False
            else False
          else False
        else
          K0 y2 y2n y2c y11 y12 y13 y13n y13c y14 y14n y14c w
      else
        K0 y2 y2n y2c y11 y12 y13 y13n y13c y14 y14n y14c w
    else
      K0 y2 y2n y2c y11 y12 y13 y13n y13c y14 y14n y14c w

def law13_WavChunks.f (a0 : Int) (a1 : Int) (a2 : Option Addr) (a2n : Nat) (a2c : Nat) (a3 : Option Addr) (a3n : Nat) (a3c : Nat) (a4 : Option Addr) (a4n : Nat) (a4c : Nat) (w : World) (K : Bool → World → Prop) : Prop :=
  newC 26 [(Value.int .i64 0), (Value.int .i64 0), (Value.int .i64 0), (Value.int .i64 0)] w fun a11_3 w =>
  stCs a11_3 [(Value.int .i64 (IntKind.wrap .i64 (1 + (IntKind.wrap .i64 (Int.tmod (IntKind.wrap .u64 a0) 8))))), (Value.int .i64 (IntKind.wrap .i64 (8 + (IntKind.wrap .i64 (8 * (IntKind.wrap .i64 (Int.tmod (IntKind.wrap .u64 a1) 2))))))), (Value.int .i64 0), (Value.int .i64 0)] 0 w fun w =>
  ldI .i64 a11_3 w fun x33_5 =>
  ldI .i64 (a11_3.add 1) w fun x35_6 =>
  let v12_7 := (IntKind.wrap .i64 (Int.tdiv (IntKind.wrap .i64 (x33_5 * x35_6)) 8))
  bif (decide (((a2n : Nat) : Int) > 1000)) then
    law13_awake.f  w fun r47_11 w =>
    K r47_11 w
  else
    bif (decide (((a2n : Nat) : Int) < v12_7)) then
      law13_awake.f  w fun r47_13 w =>
      K r47_13 w
    else
      ldI .i64 (a11_3.add 0) w fun x48_15 =>
      ldI .i64 (a11_3.add 1) w fun x48_16 =>
      ldI .i64 (a11_3.add 2) w fun x48_17 =>
      ldI .i64 (a11_3.add 3) w fun x48_18 =>
      wav_Make.f x48_15 x48_16 x48_17 x48_18 a2 a2n a2c w fun r50_19 r50_19n r50_19c w =>
      law13_awake.f  w fun r51_22 w =>
      bif (!r51_22) then
        K false w
      else
        bif (((r50_19n : Nat) : Int) != (IntKind.wrap .i64 (44 + ((a2n : Nat) : Int)))) then
          K false w
        else
          ∃ N_65 : Nat, law13_WavChunks.l10 N_65 a2 a2n a2c a3 a3n a3c a4 a4n a4c a11_3 v12_7 r50_19 r50_19n r50_19c none 0 0 0 w
          (fun o2_66 o2_66n o2_66c o11_67 o12_68 o13_69 o13_69n o13_69c o14_70 o14_70n o14_70c w =>
            bnd o13_69n o13_69c none (some (Value.int .i64 36)) fun l_72 h_73 =>
            bnd o13_69n o13_69c (some (Value.int .i64 36)) none fun l_74 h_75 =>
            appL 5 1 1 [(Value.int .u8 0)] none 0 0 (adrS o13_69 l_72 o13_69c 1) (h_73 - l_72) (o13_69c - l_72) w.drew fun a138_76 a138_76n a138_76c w =>
            appL 5 1 1 [(Value.int .u8 0)] a138_76 a138_76n a138_76c o14_70 o14_70n o14_70c w fun a140_77 a140_77n a140_77c w =>
            appL 5 1 1 [(Value.int .u8 0)] a140_77 a140_77n a140_77c (adrS o13_69 l_74 o13_69c 1) (h_75 - l_74) (o13_69c - l_74) w fun a143_78 a143_78n a143_78c w =>
            wav_Parse.f a143_78 a143_78n a143_78c w fun r146_80_0 r146_80_1 r146_80_2 r146_80_3 r146_81 w =>
            newC 26 [(Value.int .i64 0), (Value.int .i64 0), (Value.int .i64 0), (Value.int .i64 0)] w fun a17_82 w =>
            stCs a17_82 [(Value.int .i64 r146_80_0), (Value.int .i64 r146_80_1), (Value.int .i64 r146_80_2), (Value.int .i64 r146_80_3)] 0 w fun w =>
            if o12_68 = 0 then False else
            let v19_84 := (IntKind.wrap .i64 ((IntKind.wrap .i64 (Int.tdiv ((o2_66n : Nat) : Int) o12_68)) * o12_68))
            bif r146_81 then
              ldI .i64 (a17_82.add 0) w.drew fun x157_86 =>
              ldI .i64 (a17_82.add 1) w.drew fun x157_87 =>
              ldI .i64 (a17_82.add 2) w.drew fun x157_88 =>
              ldI .i64 (a17_82.add 3) w.drew fun x157_89 =>
              ldI .i64 o11_67 w.drew fun x159_90 =>
              ldI .i64 (o11_67.add 1) w.drew fun x161_91 =>
              eqI .i64 4 #[(Value.int .i64 x157_86), (Value.int .i64 x157_87), (Value.int .i64 x157_88), (Value.int .i64 x157_89)] #[(Value.int .i64 x159_90), (Value.int .i64 x161_91), (Value.int .i64 (IntKind.wrap .i64 (44 + ((o14_70n : Nat) : Int)))), (Value.int .i64 (IntKind.wrap .i64 ((IntKind.wrap .i64 (44 + ((o14_70n : Nat) : Int))) + v19_84)))] fun e_92 =>
              bif e_92 then
                ldI .i64 (a17_82.add 2) w.drew fun x176_93 =>
                ldI .i64 (a17_82.add 3) w.drew fun x178_94 =>
                bnd a143_78n a143_78c (some (Value.int .i64 x176_93)) (some (Value.int .i64 x178_94)) fun l_95 h_96 =>
                bnd o2_66n o2_66c none (some (Value.int .i64 v19_84)) fun l_97 h_98 =>
                help_Bytes.f (adrS a143_78 l_95 a143_78c 1) (h_96 - l_95) (a143_78c - l_95) (adrS o2_66 l_97 o2_66c 1) (h_98 - l_97) (o2_66c - l_97) w.drew fun r183_99 w =>
                (World.cell? w (a17_82.add 3) = some (.int .i64 x178_94)) ∧
                ((World.cell? w (a17_82.add 2) = some (.int .i64 x176_93)) ∧
                ((World.cell? w (o11_67.add 1) = some (.int .i64 x161_91)) ∧
                ((World.cell? w o11_67 = some (.int .i64 x159_90)) ∧
                ((rdCs w a17_82 4 0 = some [(Value.int .i64 x157_86), (Value.int .i64 x157_87), (Value.int .i64 x157_88), (Value.int .i64 x157_89)]) ∧
                (K r183_99 w)))))
              else
                K false w.drew
            else
              K false w.drew)
def law13_WavChunks.H (F : type_of% @law13_WavChunks.f) : Hf := fun args w K => match args with
  | [v0, v1, v2, v3, v4] => vI .i64 v0 fun a0 => vI .i64 v1 fun a1 => vL v2 fun a2 a2n a2c => vL v3 fun a3 a3n a3c => vL v4 fun a4 a4n a4c => F a0 a1 a2 a2n a2c a3 a3n a3c a4 a4n a4c w (fun r0 w => K (Value.bool r0) w)
  | _ => False
def law13_WavChunks.h : Hf := law13_WavChunks.H @law13_WavChunks.f
def law13_WavChunks.CG (F13 : type_of% @law13_awake.f) (F19 : type_of% @wav_Make.f) (F22 : type_of% @ref02_Little.f) (F15 : type_of% @wav_Parse.f) (F18 : type_of% @help_Bytes.f) : Hd := hcons 18 (help_Bytes.H F18) (hcons 15 (wav_Parse.H F15) (hcons 22 (ref02_Little.H F22) (hcons 19 (wav_Make.H F19) (hcons 13 (law13_awake.H F13) (hnil)))))
def law13_WavChunks.C : Hd := law13_WavChunks.CG @law13_awake.f @wav_Make.f @ref02_Little.f @wav_Parse.f @help_Bytes.f
def law13_WavChunks.G (F13 : type_of% @law13_awake.f) (F19 : type_of% @wav_Make.f) (F22 : type_of% @ref02_Little.f) (F15 : type_of% @wav_Parse.f) (F18 : type_of% @help_Bytes.f) (a0 : Int) (a1 : Int) (a2 : Option Addr) (a2n : Nat) (a2c : Nat) (a3 : Option Addr) (a3n : Nat) (a3c : Nat) (a4 : Option Addr) (a4n : Nat) (a4c : Nat) (w : World) (K : Bool → World → Prop) : Prop :=
  newC 26 [(Value.int .i64 0), (Value.int .i64 0), (Value.int .i64 0), (Value.int .i64 0)] w fun a11_3 w =>
  stCs a11_3 [(Value.int .i64 (IntKind.wrap .i64 (1 + (IntKind.wrap .i64 (Int.tmod (IntKind.wrap .u64 a0) 8))))), (Value.int .i64 (IntKind.wrap .i64 (8 + (IntKind.wrap .i64 (8 * (IntKind.wrap .i64 (Int.tmod (IntKind.wrap .u64 a1) 2))))))), (Value.int .i64 0), (Value.int .i64 0)] 0 w fun w =>
  ldI .i64 a11_3 w fun x33_5 =>
  ldI .i64 (a11_3.add 1) w fun x35_6 =>
  let v12_7 := (IntKind.wrap .i64 (Int.tdiv (IntKind.wrap .i64 (x33_5 * x35_6)) 8))
  bif (decide (((a2n : Nat) : Int) > 1000)) then
    F13  w fun r47_11 w =>
    K r47_11 w
  else
    bif (decide (((a2n : Nat) : Int) < v12_7)) then
      F13  w fun r47_13 w =>
      K r47_13 w
    else
      ldI .i64 (a11_3.add 0) w fun x48_15 =>
      ldI .i64 (a11_3.add 1) w fun x48_16 =>
      ldI .i64 (a11_3.add 2) w fun x48_17 =>
      ldI .i64 (a11_3.add 3) w fun x48_18 =>
      F19 x48_15 x48_16 x48_17 x48_18 a2 a2n a2c w fun r50_19 r50_19n r50_19c w =>
      F13  w fun r51_22 w =>
      bif (!r51_22) then
        K false w
      else
        bif (((r50_19n : Nat) : Int) != (IntKind.wrap .i64 (44 + ((a2n : Nat) : Int)))) then
          K false w
        else
          ∃ N_65 : Nat, law13_WavChunks.l10 N_65 a2 a2n a2c a3 a3n a3c a4 a4n a4c a11_3 v12_7 r50_19 r50_19n r50_19c none 0 0 0 w
          (fun o2_66 o2_66n o2_66c o11_67 o12_68 o13_69 o13_69n o13_69c o14_70 o14_70n o14_70c w =>
            bnd o13_69n o13_69c none (some (Value.int .i64 36)) fun l_72 h_73 =>
            bnd o13_69n o13_69c (some (Value.int .i64 36)) none fun l_74 h_75 =>
            appL 5 1 1 [(Value.int .u8 0)] none 0 0 (adrS o13_69 l_72 o13_69c 1) (h_73 - l_72) (o13_69c - l_72) w.drew fun a138_76 a138_76n a138_76c w =>
            appL 5 1 1 [(Value.int .u8 0)] a138_76 a138_76n a138_76c o14_70 o14_70n o14_70c w fun a140_77 a140_77n a140_77c w =>
            appL 5 1 1 [(Value.int .u8 0)] a140_77 a140_77n a140_77c (adrS o13_69 l_74 o13_69c 1) (h_75 - l_74) (o13_69c - l_74) w fun a143_78 a143_78n a143_78c w =>
            F15 a143_78 a143_78n a143_78c w fun r146_80_0 r146_80_1 r146_80_2 r146_80_3 r146_81 w =>
            newC 26 [(Value.int .i64 0), (Value.int .i64 0), (Value.int .i64 0), (Value.int .i64 0)] w fun a17_82 w =>
            stCs a17_82 [(Value.int .i64 r146_80_0), (Value.int .i64 r146_80_1), (Value.int .i64 r146_80_2), (Value.int .i64 r146_80_3)] 0 w fun w =>
            if o12_68 = 0 then False else
            let v19_84 := (IntKind.wrap .i64 ((IntKind.wrap .i64 (Int.tdiv ((o2_66n : Nat) : Int) o12_68)) * o12_68))
            bif r146_81 then
              ldI .i64 (a17_82.add 0) w.drew fun x157_86 =>
              ldI .i64 (a17_82.add 1) w.drew fun x157_87 =>
              ldI .i64 (a17_82.add 2) w.drew fun x157_88 =>
              ldI .i64 (a17_82.add 3) w.drew fun x157_89 =>
              ldI .i64 o11_67 w.drew fun x159_90 =>
              ldI .i64 (o11_67.add 1) w.drew fun x161_91 =>
              eqI .i64 4 #[(Value.int .i64 x157_86), (Value.int .i64 x157_87), (Value.int .i64 x157_88), (Value.int .i64 x157_89)] #[(Value.int .i64 x159_90), (Value.int .i64 x161_91), (Value.int .i64 (IntKind.wrap .i64 (44 + ((o14_70n : Nat) : Int)))), (Value.int .i64 (IntKind.wrap .i64 ((IntKind.wrap .i64 (44 + ((o14_70n : Nat) : Int))) + v19_84)))] fun e_92 =>
              bif e_92 then
                ldI .i64 (a17_82.add 2) w.drew fun x176_93 =>
                ldI .i64 (a17_82.add 3) w.drew fun x178_94 =>
                bnd a143_78n a143_78c (some (Value.int .i64 x176_93)) (some (Value.int .i64 x178_94)) fun l_95 h_96 =>
                bnd o2_66n o2_66c none (some (Value.int .i64 v19_84)) fun l_97 h_98 =>
                F18 (adrS a143_78 l_95 a143_78c 1) (h_96 - l_95) (a143_78c - l_95) (adrS o2_66 l_97 o2_66c 1) (h_98 - l_97) (o2_66c - l_97) w.drew fun r183_99 w =>
                (World.cell? w (a17_82.add 3) = some (.int .i64 x178_94)) ∧
                ((World.cell? w (a17_82.add 2) = some (.int .i64 x176_93)) ∧
                ((World.cell? w (o11_67.add 1) = some (.int .i64 x161_91)) ∧
                ((World.cell? w o11_67 = some (.int .i64 x159_90)) ∧
                ((rdCs w a17_82 4 0 = some [(Value.int .i64 x157_86), (Value.int .i64 x157_87), (Value.int .i64 x157_88), (Value.int .i64 x157_89)]) ∧
                (K r183_99 w)))))
              else
                K false w.drew
            else
              K false w.drew)
theorem law13_WavChunks.C_ok : CSound Try.prog law13_WavChunks.C := hcons_ok help_Bytes.ok (hcons_ok wav_Parse.ok (hcons_ok ref02_Little.ok (hcons_ok wav_Make.ok (hcons_ok law13_awake.ok (hnil_ok)))))
def law13_WavChunks.D : Nat → Plan := fun i => (match Nat.beq i 21 with | true => .take 0 (.take 1 (.take 2 (.take 3 (.take 4 (.take 5 (.take 6 (.take 7 (.take 8 (.take 9 (.take 10 (.take 11 (.take 12 (.take 13 (.take 14 (.take 15 (.take 16 (.take 17 (.take 18 (.take 19 (.take 20 (.take 21 (.take 22 (.take 23 (.take 24 (.take 25 (.take 26 (.take 27 (.eff 28 (.take 29 (.take 30 (.done))))))))))))))))))))))))))))))) | false => (match Nat.beq i 18 with | true => .take 0 (.take 1 (.take 3 (.take 5 (.take 6 (.eff 2 (.eff 4 (.eff 7 (.take 8 (.done))))))))) | false => .done))
noncomputable def law13_WavChunks.c : Code := Try.f7.body.getD .skip
theorem law13_WavChunks.hb : Try.f7.body = some law13_WavChunks.c := by kernel_rfl
noncomputable def law13_WavChunks.b0 : Code := (loopsOf law13_WavChunks.c).getD 0 .skip
theorem law13_WavChunks.b0_loops : loopsOf law13_WavChunks.b0 = [] := by kernel_rfl
theorem law13_WavChunks.c_loops : loopsOf law13_WavChunks.c = [law13_WavChunks.b0] := by kernel_rfl
def law13_WavChunks.l10G (F13 : type_of% @law13_awake.f) (F19 : type_of% @wav_Make.f) (F22 : type_of% @ref02_Little.f) (F15 : type_of% @wav_Parse.f) (F18 : type_of% @help_Bytes.f) (R : Option Addr → Nat → Nat → Option Addr → Nat → Nat → Option Addr → Nat → Nat → Addr → Int → Option Addr → Nat → Nat → Option Addr → Nat → Nat → Int → World → (Option Addr → Nat → Nat → Addr → Int → Option Addr → Nat → Nat → Option Addr → Nat → Nat → World → Prop) → Prop) : Option Addr → Nat → Nat → Option Addr → Nat → Nat → Option Addr → Nat → Nat → Addr → Int → Option Addr → Nat → Nat → Option Addr → Nat → Nat → Int → World → (Option Addr → Nat → Nat → Addr → Int → Option Addr → Nat → Nat → Option Addr → Nat → Nat → World → Prop) → Prop := fun y2 y2n y2c y3 y3n y3c y4 y4n y4c y11 y12 y13 y13n y13c y14 y14n y14c y15 w K0 =>
    bif (decide (y15 < ((y3n : Nat) : Int))) then
      bif (decide (y15 < ((y4n : Nat) : Int))) then
        bif (decide (y15 < 5)) then
          sm y3 fun p_33 =>
          if 0 ≤ (y15 : Int) ∧ (y15 : Int) < ((y3n : Nat) : Int) then
          ldS (p_33.add (Int.toNat y15)) w fun x80_34 =>
          bif (((ByteArray.size x80_34 : Nat) : Int) != 4) then
            let v15_59 := (IntKind.wrap .i64 (y15 + 1))
            R y2 y2n y2c y3 y3n y3c y4 y4n y4c y11 y12 y13 y13n y13c y14 y14n y14c v15_59 w K0
          else
            sm y3 fun p_35 =>
            if 0 ≤ (y15 : Int) ∧ (y15 : Int) < ((y3n : Nat) : Int) then
            ldS (p_35.add (Int.toNat y15)) w fun x87_36 =>
            bif (x87_36.toList == (ByteArray.mk #[100, 97, 116, 97]).toList) then
              let v15_60 := (IntKind.wrap .i64 (y15 + 1))
              R y2 y2n y2c y3 y3n y3c y4 y4n y4c y11 y12 y13 y13n y13c y14 y14n y14c v15_60 w K0
            else
              sm y3 fun p_37 =>
              if 0 ≤ (y15 : Int) ∧ (y15 : Int) < ((y3n : Nat) : Int) then
              ldS (p_37.add (Int.toNat y15)) w fun x94_38 =>
              bif (x94_38.toList == (ByteArray.mk #[102, 109, 116, 32]).toList) then
                let v15_61 := (IntKind.wrap .i64 (y15 + 1))
                R y2 y2n y2c y3 y3n y3c y4 y4n y4c y11 y12 y13 y13n y13c y14 y14n y14c v15_61 w K0
              else
                sm y4 fun p_39 =>
                if 0 ≤ (y15 : Int) ∧ (y15 : Int) < ((y4n : Nat) : Int) then
                ldL (p_39.add (Int.toNat y15)) w fun x101_40 x101_40n x101_40c =>
                bif (decide (((x101_40n : Nat) : Int) > 300)) then
                  let v15_62 := (IntKind.wrap .i64 (y15 + 1))
                  R y2 y2n y2c y3 y3n y3c y4 y4n y4c y11 y12 y13 y13n y13c y14 y14n y14c v15_62 w K0
                else
                  sm y3 fun p_42 =>
                  if 0 ≤ (y15 : Int) ∧ (y15 : Int) < ((y3n : Nat) : Int) then
                  ldS (p_42.add (Int.toNat y15)) w fun x109_43 =>
                  appT 5 1 [(Value.int .u8 0)] y14 y14n y14c x109_43 w fun a110_44 a110_44n a110_44c w =>
                  sm y4 fun p_46 =>
                  if 0 ≤ (y15 : Int) ∧ (y15 : Int) < ((y4n : Nat) : Int) then
                  ldL (p_46.add (Int.toNat y15)) w fun x115_47 x115_47n x115_47c =>
                  F22 (IntKind.wrap .u64 ((x115_47n : Nat) : Int)) 4 w fun r118_48 r118_48n r118_48c w =>
                  appL 5 1 1 [(Value.int .u8 0)] a110_44 a110_44n a110_44c r118_48 r118_48n r118_48c w fun a119_49 a119_49n a119_49c w =>
                  sm y4 fun p_51 =>
                  if 0 ≤ (y15 : Int) ∧ (y15 : Int) < ((y4n : Nat) : Int) then
                  ldL (p_51.add (Int.toNat y15)) w fun x124_52 x124_52n x124_52c =>
                  appL 5 1 1 [(Value.int .u8 0)] a119_49 a119_49n a119_49c x124_52 x124_52n x124_52c w fun a125_53 a125_53n a125_53c w =>
                  sm y4 fun p_55 =>
                  if 0 ≤ (y15 : Int) ∧ (y15 : Int) < ((y4n : Nat) : Int) then
                  ldL (p_55.add (Int.toNat y15)) w fun x129_56 x129_56n x129_56c =>
                  bif ((Int.tmod ((x129_56n : Nat) : Int) 2) == 1) then
                    newC 5 [(Value.int .u8 0)] w fun a134_57 w =>
                    appL 5 1 1 [(Value.int .u8 0)] a125_53 a125_53n a125_53c (some a134_57) 1 1 w fun a135_58 a135_58n a135_58c w =>
                    let v15_63 := (IntKind.wrap .i64 (y15 + 1))
                    R y2 y2n y2c y3 y3n y3c y4 y4n y4c y11 y12 y13 y13n y13c a135_58 a135_58n a135_58c v15_63 w K0
                  else
                    let v15_64 := (IntKind.wrap .i64 (y15 + 1))
                    R y2 y2n y2c y3 y3n y3c y4 y4n y4c y11 y12 y13 y13n y13c a125_53 a125_53n a125_53c v15_64 w K0
                  else False
                  else False
                  else False
                  else False
                else False
              else False
            else False
          else False
        else
          K0 y2 y2n y2c y11 y12 y13 y13n y13c y14 y14n y14c w
      else
        K0 y2 y2n y2c y11 y12 y13 y13n y13c y14 y14n y14c w
    else
      K0 y2 y2n y2c y11 y12 y13 y13n y13c y14 y14n y14c w

def law13_WavChunks.hn10 (N : Nat) (f : Fr) (w : World) (K : AExit → Fr → World → Prop) : Prop :=
  gN f 185 <| gL f 2 fun y2 y2n y2c => gL f 3 fun y3 y3n y3c => gL f 4 fun y4 y4n y4c => gQ f 11 fun y11 => gI .i64 f 12 fun y12 => gL f 13 fun y13 y13n y13c => gL f 14 fun y14 y14n y14c => gI .i64 f 15 fun y15 => law13_WavChunks.l10 N y2 y2n y2c y3 y3n y3c y4 y4n y4c y11 y12 y13 y13n y13c y14 y14n y14c y15 w (fun o2 o2n o2c o11 o12 o13 o13n o13c o14 o14n o14c w => K (.exit 0) [none, none, some (Value.slice o2 o2n o2c), none, none, none, none, none, none, none, none, some (Value.pointer (some o11)), some (Value.int .i64 o12), some (Value.slice o13 o13n o13c), some (Value.slice o14 o14n o14c), none, none, none, none, none, none, none, none, none, none, none, none, none, none, none, none, none, none, none, none, none, none, none, none, none, none, none, none, none, none, none, none, none, none, none, none, none, none, none, none, none, none, none, none, none, none, none, none, none, none, none, none, none, none, none, none, none, none, none, none, none, none, none, none, none, none, none, none, none, none, none, none, none, none, none, none, none, none, none, none, none, none, none, none, none, none, none, none, none, none, none, none, none, none, none, none, none, none, none, none, none, none, none, none, none, none, none, none, none, none, none, none, none, none, none, none, none, none, none, none, none, none, none, none, none, none, none, none, none, none, none, none, none, none, none, none, none, none, none, none, none, none, none, none, none, none, none, none, none, none, none, none, none, none, none, none, none, none, none, none, none, none, none, none, none, none, none, none, none, none] w)
def law13_WavChunks.hx10 : AExit → Fr → World → (AExit → Fr → World → Prop) → Prop := fun e f w K => match e with
  | .normal => False
  | .exit i => (match Nat.beq i 0 with | true => gN f 185 <| gL f 2 fun o2 o2n o2c => gQ f 11 fun o11 => gI .i64 f 12 fun o12 => gL f 13 fun o13 o13n o13c => gL f 14 fun o14 o14n o14c => K (.exit 0) [none, none, some (Value.slice o2 o2n o2c), none, none, none, none, none, none, none, none, some (Value.pointer (some o11)), some (Value.int .i64 o12), some (Value.slice o13 o13n o13c), some (Value.slice o14 o14n o14c), none, none, none, none, none, none, none, none, none, none, none, none, none, none, none, none, none, none, none, none, none, none, none, none, none, none, none, none, none, none, none, none, none, none, none, none, none, none, none, none, none, none, none, none, none, none, none, none, none, none, none, none, none, none, none, none, none, none, none, none, none, none, none, none, none, none, none, none, none, none, none, none, none, none, none, none, none, none, none, none, none, none, none, none, none, none, none, none, none, none, none, none, none, none, none, none, none, none, none, none, none, none, none, none, none, none, none, none, none, none, none, none, none, none, none, none, none, none, none, none, none, none, none, none, none, none, none, none, none, none, none, none, none, none, none, none, none, none, none, none, none, none, none, none, none, none, none, none, none, none, none, none, none, none, none, none, none, none, none, none, none, none, none, none, none, none, none, none, none, none] w | false => False)
  | .ret => False
def law13_WavChunks.L : LHd := fun l f w K => (match Nat.beq l 10 with | true => ∃ N, law13_WavChunks.hn10 N f w K | false => False)
theorem law13_WavChunks.leG10 (F13 : type_of% @law13_awake.f) (F19 : type_of% @wav_Make.f) (F22 : type_of% @ref02_Little.f) (F15 : type_of% @wav_Parse.f) (F18 : type_of% @help_Bytes.f) (N : Nat) (y2 : Option Addr) (y2n : Nat) (y2c : Nat) (y3 : Option Addr) (y3n : Nat) (y3c : Nat) (y4 : Option Addr) (y4n : Nat) (y4c : Nat) (y11 : Addr) (y12 : Int) (y13 : Option Addr) (y13n : Nat) (y13c : Nat) (y14 : Option Addr) (y14n : Nat) (y14c : Nat) (y15 : Int) (w : World) (K : AExit → Fr → World → Prop) : awp (law13_WavChunks.CG F13 F19 F22 F15 F18) law13_WavChunks.L law13_WavChunks.D tab law13_WavChunks.b0 (lpost law13_WavChunks.hn10 law13_WavChunks.hx10 N K) [none, none, some (Value.slice y2 y2n y2c), some (Value.slice y3 y3n y3c), some (Value.slice y4 y4n y4c), none, none, none, none, none, none, some (Value.pointer (some y11)), some (Value.int .i64 y12), some (Value.slice y13 y13n y13c), some (Value.slice y14 y14n y14c), some (Value.int .i64 y15), none, none, none, none, none, none, none, none, none, none, none, none, none, none, none, none, none, none, none, none, none, none, none, none, none, none, none, none, none, none, none, none, none, none, none, none, none, none, none, none, none, none, none, none, none, none, none, none, none, none, none, none, none, none, none, none, none, none, none, none, none, none, none, none, none, none, none, none, none, none, none, none, none, none, none, none, none, none, none, none, none, none, none, none, none, none, none, none, none, none, none, none, none, none, none, none, none, none, none, none, none, none, none, none, none, none, none, none, none, none, none, none, none, none, none, none, none, none, none, none, none, none, none, none, none, none, none, none, none, none, none, none, none, none, none, none, none, none, none, none, none, none, none, none, none, none, none, none, none, none, none, none, none, none, none, none, none, none, none, none, none, none, none, none, none, none, none, none, none] w = law13_WavChunks.l10G F13 F19 F22 F15 F18 (law13_WavChunks.l10 N) y2 y2n y2c y3 y3n y3c y4 y4n y4c y11 y12 y13 y13n y13c y14 y14n y14c y15 w (fun o2 o2n o2c o11 o12 o13 o13n o13c o14 o14n o14c w => K (.exit 0) [none, none, some (Value.slice o2 o2n o2c), none, none, none, none, none, none, none, none, some (Value.pointer (some o11)), some (Value.int .i64 o12), some (Value.slice o13 o13n o13c), some (Value.slice o14 o14n o14c), none, none, none, none, none, none, none, none, none, none, none, none, none, none, none, none, none, none, none, none, none, none, none, none, none, none, none, none, none, none, none, none, none, none, none, none, none, none, none, none, none, none, none, none, none, none, none, none, none, none, none, none, none, none, none, none, none, none, none, none, none, none, none, none, none, none, none, none, none, none, none, none, none, none, none, none, none, none, none, none, none, none, none, none, none, none, none, none, none, none, none, none, none, none, none, none, none, none, none, none, none, none, none, none, none, none, none, none, none, none, none, none, none, none, none, none, none, none, none, none, none, none, none, none, none, none, none, none, none, none, none, none, none, none, none, none, none, none, none, none, none, none, none, none, none, none, none, none, none, none, none, none, none, none, none, none, none, none, none, none, none, none, none, none, none, none, none, none, none, none] w) := by kernel_rfl
theorem law13_WavChunks.les10 (N : Nat) : law13_WavChunks.l10 (N + 1) = law13_WavChunks.l10G @law13_awake.f @wav_Make.f @ref02_Little.f @wav_Parse.f @help_Bytes.f (law13_WavChunks.l10 N) := by
  funext y2 y2n y2c y3 y3n y3c y4 y4n y4c y11 y12 y13 y13n y13c y14 y14n y14c y15 w K0
  rw [law13_WavChunks.l10]
  rfl
theorem law13_WavChunks.le10 (N : Nat) (y2 : Option Addr) (y2n : Nat) (y2c : Nat) (y3 : Option Addr) (y3n : Nat) (y3c : Nat) (y4 : Option Addr) (y4n : Nat) (y4c : Nat) (y11 : Addr) (y12 : Int) (y13 : Option Addr) (y13n : Nat) (y13c : Nat) (y14 : Option Addr) (y14n : Nat) (y14c : Nat) (y15 : Int) (w : World) (K : AExit → Fr → World → Prop) : awp law13_WavChunks.C law13_WavChunks.L law13_WavChunks.D tab law13_WavChunks.b0 (lpost law13_WavChunks.hn10 law13_WavChunks.hx10 N K) [none, none, some (Value.slice y2 y2n y2c), some (Value.slice y3 y3n y3c), some (Value.slice y4 y4n y4c), none, none, none, none, none, none, some (Value.pointer (some y11)), some (Value.int .i64 y12), some (Value.slice y13 y13n y13c), some (Value.slice y14 y14n y14c), some (Value.int .i64 y15), none, none, none, none, none, none, none, none, none, none, none, none, none, none, none, none, none, none, none, none, none, none, none, none, none, none, none, none, none, none, none, none, none, none, none, none, none, none, none, none, none, none, none, none, none, none, none, none, none, none, none, none, none, none, none, none, none, none, none, none, none, none, none, none, none, none, none, none, none, none, none, none, none, none, none, none, none, none, none, none, none, none, none, none, none, none, none, none, none, none, none, none, none, none, none, none, none, none, none, none, none, none, none, none, none, none, none, none, none, none, none, none, none, none, none, none, none, none, none, none, none, none, none, none, none, none, none, none, none, none, none, none, none, none, none, none, none, none, none, none, none, none, none, none, none, none, none, none, none, none, none, none, none, none, none, none, none, none, none, none, none, none, none, none, none, none, none, none, none] w = law13_WavChunks.l10 (N + 1) y2 y2n y2c y3 y3n y3c y4 y4n y4c y11 y12 y13 y13n y13c y14 y14n y14c y15 w (fun o2 o2n o2c o11 o12 o13 o13n o13c o14 o14n o14c w => K (.exit 0) [none, none, some (Value.slice o2 o2n o2c), none, none, none, none, none, none, none, none, some (Value.pointer (some o11)), some (Value.int .i64 o12), some (Value.slice o13 o13n o13c), some (Value.slice o14 o14n o14c), none, none, none, none, none, none, none, none, none, none, none, none, none, none, none, none, none, none, none, none, none, none, none, none, none, none, none, none, none, none, none, none, none, none, none, none, none, none, none, none, none, none, none, none, none, none, none, none, none, none, none, none, none, none, none, none, none, none, none, none, none, none, none, none, none, none, none, none, none, none, none, none, none, none, none, none, none, none, none, none, none, none, none, none, none, none, none, none, none, none, none, none, none, none, none, none, none, none, none, none, none, none, none, none, none, none, none, none, none, none, none, none, none, none, none, none, none, none, none, none, none, none, none, none, none, none, none, none, none, none, none, none, none, none, none, none, none, none, none, none, none, none, none, none, none, none, none, none, none, none, none, none, none, none, none, none, none, none, none, none, none, none, none, none, none, none, none, none, none, none] w) := by
  rw [law13_WavChunks.les10]
  exact law13_WavChunks.leG10 @law13_awake.f @wav_Make.f @ref02_Little.f @wav_Parse.f @help_Bytes.f N y2 y2n y2c y3 y3n y3c y4 y4n y4c y11 y12 y13 y13n y13c y14 y14n y14c y15 w K
theorem law13_WavChunks.lok10 : LoopOk Try.prog law13_WavChunks.L law13_WavChunks.b0 := by
  refine loop_ok tab_ok law13_WavChunks.C_ok (D := law13_WavChunks.D) (law13_WavChunks.hn10) (law13_WavChunks.hx10) (by kernel_rfl) (by rw [law13_WavChunks.b0_loops]; exact lnil) ?_ ?_ ?_ ?_
  · intro f w K h
    unfold law13_WavChunks.hn10 at h
    obtain ⟨hlen, h⟩ := gN_ok h
    obtain ⟨y2, y2n, y2c, h2, h⟩ := gL_ok h
    obtain ⟨y3, y3n, y3c, h3, h⟩ := gL_ok h
    obtain ⟨y4, y4n, y4c, h4, h⟩ := gL_ok h
    obtain ⟨y11, h11, h⟩ := gQ_ok h
    obtain ⟨y12, h12, h⟩ := gI_ok h
    obtain ⟨y13, y13n, y13c, h13, h⟩ := gL_ok h
    obtain ⟨y14, y14n, y14c, h14, h⟩ := gL_ok h
    obtain ⟨y15, h15, h⟩ := gI_ok h
    rw [law13_WavChunks.l10] at h
    exact h
  · intro N f w K h
    unfold law13_WavChunks.hn10 at h
    obtain ⟨hlen, h⟩ := gN_ok h
    obtain ⟨y2, y2n, y2c, h2, h⟩ := gL_ok h
    obtain ⟨y3, y3n, y3c, h3, h⟩ := gL_ok h
    obtain ⟨y4, y4n, y4c, h4, h⟩ := gL_ok h
    obtain ⟨y11, h11, h⟩ := gQ_ok h
    obtain ⟨y12, h12, h⟩ := gI_ok h
    obtain ⟨y13, y13n, y13c, h13, h⟩ := gL_ok h
    obtain ⟨y14, y14n, y14c, h14, h⟩ := gL_ok h
    obtain ⟨y15, h15, h⟩ := gI_ok h
    refine ⟨[none, none, some (Value.slice y2 y2n y2c), some (Value.slice y3 y3n y3c), some (Value.slice y4 y4n y4c), none, none, none, none, none, none, some (Value.pointer (some y11)), some (Value.int .i64 y12), some (Value.slice y13 y13n y13c), some (Value.slice y14 y14n y14c), some (Value.int .i64 y15), none, none, none, none, none, none, none, none, none, none, none, none, none, none, none, none, none, none, none, none, none, none, none, none, none, none, none, none, none, none, none, none, none, none, none, none, none, none, none, none, none, none, none, none, none, none, none, none, none, none, none, none, none, none, none, none, none, none, none, none, none, none, none, none, none, none, none, none, none, none, none, none, none, none, none, none, none, none, none, none, none, none, none, none, none, none, none, none, none, none, none, none, none, none, none, none, none, none, none, none, none, none, none, none, none, none, none, none, none, none, none, none, none, none, none, none, none, none, none, none, none, none, none, none, none, none, none, none, none, none, none, none, none, none, none, none, none, none, none, none, none, none, none, none, none, none, none, none, none, none, none, none, none, none, none, none, none, none, none, none, none, none, none, none, none, none, none, none, none], hlen, ⟨h2, h3, h4, h11, h12, h13, h14, h15, trivial⟩, ?_⟩
    rw [law13_WavChunks.le10]
    exact h
  · intro e f w K h
    cases e with
    | normal => exact h.elim
    | exit i =>
      unfold law13_WavChunks.hx10 at h
      simp only at h
      split at h
      · rename_i hb
        obtain rfl := Nat.eq_of_beq_eq_true hb
        obtain ⟨hlen, h⟩ := gN_ok h
        obtain ⟨o2, o2n, o2c, h2, h⟩ := gL_ok h
        obtain ⟨o11, h11, h⟩ := gQ_ok h
        obtain ⟨o12, h12, h⟩ := gI_ok h
        obtain ⟨o13, o13n, o13c, h13, h⟩ := gL_ok h
        obtain ⟨o14, o14n, o14c, h14, h⟩ := gL_ok h
        exact ⟨[none, none, some (Value.slice o2 o2n o2c), none, none, none, none, none, none, none, none, some (Value.pointer (some o11)), some (Value.int .i64 o12), some (Value.slice o13 o13n o13c), some (Value.slice o14 o14n o14c), none, none, none, none, none, none, none, none, none, none, none, none, none, none, none, none, none, none, none, none, none, none, none, none, none, none, none, none, none, none, none, none, none, none, none, none, none, none, none, none, none, none, none, none, none, none, none, none, none, none, none, none, none, none, none, none, none, none, none, none, none, none, none, none, none, none, none, none, none, none, none, none, none, none, none, none, none, none, none, none, none, none, none, none, none, none, none, none, none, none, none, none, none, none, none, none, none, none, none, none, none, none, none, none, none, none, none, none, none, none, none, none, none, none, none, none, none, none, none, none, none, none, none, none, none, none, none, none, none, none, none, none, none, none, none, none, none, none, none, none, none, none, none, none, none, none, none, none, none, none, none, none, none, none, none, none, none, none, none, none, none, none, none, none, none, none, none, none, none, none], hlen, ⟨h2, h11, h12, h13, h14, trivial⟩, h⟩
      · exact (show False from h).elim
    | ret =>
      exact (show False from h).elim
  · intro f w K h
    have e : lid law13_WavChunks.b0 = 10 := by kernel_rfl
    rw [e] at h
    exact h
theorem law13_WavChunks.eqG (F13 : type_of% @law13_awake.f) (F19 : type_of% @wav_Make.f) (F22 : type_of% @ref02_Little.f) (F15 : type_of% @wav_Parse.f) (F18 : type_of% @help_Bytes.f) (a0 : Int) (a1 : Int) (a2 : Option Addr) (a2n : Nat) (a2c : Nat) (a3 : Option Addr) (a3n : Nat) (a3c : Nat) (a4 : Option Addr) (a4n : Nat) (a4c : Nat) (w : World) (K : Value → World → Prop) : afn (law13_WavChunks.CG F13 F19 F22 F15 F18) law13_WavChunks.L law13_WavChunks.D tab Try.f7 [(Value.int .i64 a0), (Value.int .i64 a1), (Value.slice a2 a2n a2c), (Value.slice a3 a3n a3c), (Value.slice a4 a4n a4c)] w K = law13_WavChunks.G F13 F19 F22 F15 F18 a0 a1 a2 a2n a2c a3 a3n a3c a4 a4n a4c w (fun r0 w => K (Value.bool r0) w) := by kernel_rfl
theorem law13_WavChunks.eq (a0 : Int) (a1 : Int) (a2 : Option Addr) (a2n : Nat) (a2c : Nat) (a3 : Option Addr) (a3n : Nat) (a3c : Nat) (a4 : Option Addr) (a4n : Nat) (a4c : Nat) (w : World) (K : Value → World → Prop) : afn law13_WavChunks.C law13_WavChunks.L law13_WavChunks.D tab Try.f7 [(Value.int .i64 a0), (Value.int .i64 a1), (Value.slice a2 a2n a2c), (Value.slice a3 a3n a3c), (Value.slice a4 a4n a4c)] w K = law13_WavChunks.f a0 a1 a2 a2n a2c a3 a3n a3c a4 a4n a4c w (fun r0 w => K (Value.bool r0) w) := law13_WavChunks.eqG @law13_awake.f @wav_Make.f @ref02_Little.f @wav_Parse.f @help_Bytes.f a0 a1 a2 a2n a2c a3 a3n a3c a4 a4n a4c w K
theorem law13_WavChunks.ok : FSound Try.prog 7 law13_WavChunks.h := by
  intro args w K h
  unfold law13_WavChunks.h law13_WavChunks.H at h
  split at h
  ·
    replace h := vI_ok h
    obtain ⟨a0, rfl, h⟩ := h
    replace h := vI_ok h
    obtain ⟨a1, rfl, h⟩ := h
    replace h := vL_ok h
    obtain ⟨a2, a2n, a2c, rfl, h⟩ := h
    replace h := vL_ok h
    obtain ⟨a3, a3n, a3c, rfl, h⟩ := h
    replace h := vL_ok h
    obtain ⟨a4, a4n, a4c, rfl, h⟩ := h
    refine ⟨by kernel_rfl, fn_ok tab_ok law13_WavChunks.C_ok (L := law13_WavChunks.L) (D := law13_WavChunks.D) Try.func7 law13_WavChunks.hb (by kernel_rfl) (by rw [law13_WavChunks.c_loops]; exact lcons law13_WavChunks.lok10 (lnil)) (Nat.le_of_ble_eq_true (by kernel_rfl)) ?_⟩
    rw [law13_WavChunks.eq]
    exact h
  · exact h.elim
end Go.Proofs.Ytinmhmphidgdeaa.G
