/- Go functions as predicate transformers, written by a program of this session (gen.py), with their soundness. -/
import Derived.Test.YtinmhmphidgdeaaGen1
set_option linter.unusedVariables false
set_option linter.unusedSimpArgs false
set_option maxRecDepth 100000
namespace Go.Proofs.Ytinmhmphidgdeaa.G
open Go Go.Proofs.Ytinmhmphidgdeaa.Vm
/-! ### valise/valiseref13.Parse: function 16 -/
def ref13_Parse.l7 : Nat → Option Addr → Nat → Nat → Addr → Addr → Bool → Int → Int → World → (Addr → World → Prop) → (Addr → Bool → World → Prop) → Prop
  | 0, _, _, _, _, _, _, _, _, _, _, _ => False
  | N + 1, y0, y0n, y0c, y2, y4, y5, y6, y7, w, K0, Kr =>
    bif (decide ((IntKind.wrap .i64 (y7 + 8)) ≤ ((y0n : Nat) : Int))) then
      bnd y0n y0c (some (Value.int .i64 y7)) (some (Value.int .i64 (IntKind.wrap .i64 (y7 + 4)))) fun l_24 h_25 =>
      strL (adrS y0 l_24 y0c 1) (h_25 - l_24) (y0c - l_24) w.drew fun s_26 =>
      ref13_little.f y0 y0n y0c (IntKind.wrap .i64 (y7 + 4)) 4 w.drew fun r43_27 w =>
      (strL (adrS y0 l_24 y0c 1) (h_25 - l_24) (y0c - l_24)  w (fun u => u = s_26)) ∧
      (let v10_29 := (IntKind.wrap .i64 (y7 + 8))
      let J_69 := fun (j5_38 : Bool) (j6_39 : Int) (w : World) =>
        ((let J_67 := fun (j80_42 : Bool) (w : World) =>
          ((bif j80_42 then
            let J_51 := fun (j102_49 : Bool) (w : World) =>
              ((bif j102_49 then
                stCs y2 [(Value.int .i64 0), (Value.int .i64 0), (Value.int .i64 0), (Value.int .i64 0)] 0 w fun w =>
                Kr y2 false w
              else
                ldI .i64 y4 w fun x105_53 =>
                ldI .i64 (y4.add 1) w fun x107_54 =>
                let v11_55 := (IntKind.wrap .i64 (Int.tdiv (IntKind.wrap .i64 (x105_53 * x107_54)) 8))
                if v11_55 = 0 then False else
                let v12_57 := (IntKind.wrap .i64 ((IntKind.wrap .i64 (Int.tdiv (mn r43_27 (IntKind.wrap .i64 (((y0n : Nat) : Int) - v10_29))) v11_55)) * v11_55))
                bif (decide (v12_57 < 1)) then
                  stCs y2 [(Value.int .i64 0), (Value.int .i64 0), (Value.int .i64 0), (Value.int .i64 0)] 0 w fun w =>
                  Kr y2 false w
                else
                  stC (y4.add 2) (Value.int .i64 v10_29) w fun w =>
                  stC (y4.add 3) (Value.int .i64 (IntKind.wrap .i64 (v10_29 + v12_57))) w fun w =>
                  ldI .i64 (y4.add 0) w fun x129_63 =>
                  ldI .i64 (y4.add 1) w fun x129_64 =>
                  ldI .i64 (y4.add 2) w fun x129_65 =>
                  ldI .i64 (y4.add 3) w fun x129_66 =>
                  stCs y2 [(Value.int .i64 x129_63), (Value.int .i64 x129_64), (Value.int .i64 x129_65), (Value.int .i64 x129_66)] 0 w fun w =>
                  Kr y2 true w) : Prop)
            bif (j6_39 != 1) then
              J_51 true w
            else
              ldI .i64 y4 w fun x85_45 =>
              bif (decide (x85_45 < 1)) then
                J_51 true w
              else
                ldI .i64 y4 w fun x90_46 =>
                bif (decide (x90_46 > 8)) then
                  J_51 true w
                else
                  ldI .i64 (y4.add 1) w fun x95_47 =>
                  bif (x95_47 != 8) then
                    ldI .i64 (y4.add 1) w fun x99_48 =>
                    J_51 (x99_48 != 16) w
                  else
                    J_51 false w
          else
            let v7_68 := (IntKind.wrap .i64 ((IntKind.wrap .i64 (v10_29 + r43_27)) + (Int.tmod r43_27 2)))
            ref13_Parse.l7 N y0 y0n y0c y2 y4 j5_38 j6_39 v7_68 w K0 Kr) : Prop)
        bif (s_26.toList == (ByteArray.mk #[100, 97, 116, 97]).toList) then
          J_67 j5_38 w
        else
          J_67 false w) : Prop)
      let J_37 := fun (j62_32 : Bool) (w : World) =>
        ((bif j62_32 then
          ref13_little.f y0 y0n y0c v10_29 2 w fun r65_34 w =>
          ref13_little.f y0 y0n y0c (IntKind.wrap .i64 (v10_29 + 2)) 2 w fun r69_35 w =>
          ref13_little.f y0 y0n y0c (IntKind.wrap .i64 (v10_29 + 14)) 2 w fun r73_36 w =>
          stC y4 (Value.int .i64 r69_35) w fun w =>
          stC (y4.add 1) (Value.int .i64 r73_36) w fun w =>
          J_69 true r65_34 w
        else
          J_69 y5 y6 w) : Prop)
      bif (s_26.toList == (ByteArray.mk #[102, 109, 116, 32]).toList) then
        bif (!y5) then
          bif (decide (r43_27 ≥ 16)) then
            J_37 (decide ((IntKind.wrap .i64 (v10_29 + 16)) ≤ ((y0n : Nat) : Int))) w
          else
            J_37 false w
        else
          J_37 false w
      else
        J_37 false w)
    else
      K0 y2 w

def ref13_Parse.f (a0 : Option Addr) (a0n : Nat) (a0c : Nat) (w : World) (K : Int → Int → Int → Int → Bool → World → Prop) : Prop :=
  newC 26 [(Value.int .i64 0), (Value.int .i64 0), (Value.int .i64 0), (Value.int .i64 0)] w fun a2_2 w =>
  let J_14 := fun (j27_11 : Bool) (w : World) =>
    ((bif j27_11 then
      stCs a2_2 [(Value.int .i64 0), (Value.int .i64 0), (Value.int .i64 0), (Value.int .i64 0)] 0 w fun w =>
      ldI .i64 (a2_2.add 0) w fun q_13_0 =>
      ldI .i64 (a2_2.add 1) w fun q_13_1 =>
      ldI .i64 (a2_2.add 2) w fun q_13_2 =>
      ldI .i64 (a2_2.add 3) w fun q_13_3 =>
      K q_13_0 q_13_1 q_13_2 q_13_3 false w
    else
      newC 26 [(Value.int .i64 0), (Value.int .i64 0), (Value.int .i64 0), (Value.int .i64 0)] w fun a4_16 w =>
      ∃ N_70 : Nat, ref13_Parse.l7 N_70 a0 a0n a0c a2_2 a4_16 false 0 12 w
      (fun o2_71 w =>
        stCs o2_71 [(Value.int .i64 0), (Value.int .i64 0), (Value.int .i64 0), (Value.int .i64 0)] 0 w fun w =>
        ldI .i64 (o2_71.add 0) w fun q_76_0 =>
        ldI .i64 (o2_71.add 1) w fun q_76_1 =>
        ldI .i64 (o2_71.add 2) w fun q_76_2 =>
        ldI .i64 (o2_71.add 3) w fun q_76_3 =>
        K q_76_0 q_76_1 q_76_2 q_76_3 false w)
      (fun o2_72 o3_73 w =>
        ldI .i64 (o2_72.add 0) w fun q_74_0 =>
        ldI .i64 (o2_72.add 1) w fun q_74_1 =>
        ldI .i64 (o2_72.add 2) w fun q_74_2 =>
        ldI .i64 (o2_72.add 3) w fun q_74_3 =>
        K q_74_0 q_74_1 q_74_2 q_74_3 o3_73 w)) : Prop)
  bif (decide (((a0n : Nat) : Int) < 12)) then
    J_14 true w
  else
    bnd a0n a0c none (some (Value.int .i64 4)) fun l_5 h_6 =>
    strL (adrS a0 l_5 a0c 1) (h_6 - l_5) (a0c - l_5) w fun s_7 =>
    bif (!(s_7.toList == (ByteArray.mk #[82, 73, 70, 70]).toList)) then
      J_14 true w
    else
      bnd a0n a0c (some (Value.int .i64 8)) (some (Value.int .i64 12)) fun l_8 h_9 =>
      strL (adrS a0 l_8 a0c 1) (h_9 - l_8) (a0c - l_8) w fun s_10 =>
      J_14 (!(s_10.toList == (ByteArray.mk #[87, 65, 86, 69]).toList)) w
def ref13_Parse.H (F : type_of% @ref13_Parse.f) : Hf := fun args w K => match args with
  | [v0] => vL v0 fun a0 a0n a0c => F a0 a0n a0c w (fun r0_0 r0_1 r0_2 r0_3 r1 w => K (Value.tuple #[(Value.agg #[(Value.int .i64 r0_0), (Value.int .i64 r0_1), (Value.int .i64 r0_2), (Value.int .i64 r0_3)]), (Value.bool r1)]) w)
  | _ => False
def ref13_Parse.h : Hf := ref13_Parse.H @ref13_Parse.f
def ref13_Parse.CG (F43 : type_of% @ref13_little.f) : Hd := hcons 43 (ref13_little.H F43) (hnil)
def ref13_Parse.C : Hd := ref13_Parse.CG @ref13_little.f
def ref13_Parse.G (F43 : type_of% @ref13_little.f) (a0 : Option Addr) (a0n : Nat) (a0c : Nat) (w : World) (K : Int → Int → Int → Int → Bool → World → Prop) : Prop :=
  newC 26 [(Value.int .i64 0), (Value.int .i64 0), (Value.int .i64 0), (Value.int .i64 0)] w fun a2_2 w =>
  let J_14 := fun (j27_11 : Bool) (w : World) =>
    ((bif j27_11 then
      stCs a2_2 [(Value.int .i64 0), (Value.int .i64 0), (Value.int .i64 0), (Value.int .i64 0)] 0 w fun w =>
      ldI .i64 (a2_2.add 0) w fun q_13_0 =>
      ldI .i64 (a2_2.add 1) w fun q_13_1 =>
      ldI .i64 (a2_2.add 2) w fun q_13_2 =>
      ldI .i64 (a2_2.add 3) w fun q_13_3 =>
      K q_13_0 q_13_1 q_13_2 q_13_3 false w
    else
      newC 26 [(Value.int .i64 0), (Value.int .i64 0), (Value.int .i64 0), (Value.int .i64 0)] w fun a4_16 w =>
      ∃ N_70 : Nat, ref13_Parse.l7 N_70 a0 a0n a0c a2_2 a4_16 false 0 12 w
      (fun o2_71 w =>
        stCs o2_71 [(Value.int .i64 0), (Value.int .i64 0), (Value.int .i64 0), (Value.int .i64 0)] 0 w fun w =>
        ldI .i64 (o2_71.add 0) w fun q_76_0 =>
        ldI .i64 (o2_71.add 1) w fun q_76_1 =>
        ldI .i64 (o2_71.add 2) w fun q_76_2 =>
        ldI .i64 (o2_71.add 3) w fun q_76_3 =>
        K q_76_0 q_76_1 q_76_2 q_76_3 false w)
      (fun o2_72 o3_73 w =>
        ldI .i64 (o2_72.add 0) w fun q_74_0 =>
        ldI .i64 (o2_72.add 1) w fun q_74_1 =>
        ldI .i64 (o2_72.add 2) w fun q_74_2 =>
        ldI .i64 (o2_72.add 3) w fun q_74_3 =>
        K q_74_0 q_74_1 q_74_2 q_74_3 o3_73 w)) : Prop)
  bif (decide (((a0n : Nat) : Int) < 12)) then
    J_14 true w
  else
    bnd a0n a0c none (some (Value.int .i64 4)) fun l_5 h_6 =>
    strL (adrS a0 l_5 a0c 1) (h_6 - l_5) (a0c - l_5) w fun s_7 =>
    bif (!(s_7.toList == (ByteArray.mk #[82, 73, 70, 70]).toList)) then
      J_14 true w
    else
      bnd a0n a0c (some (Value.int .i64 8)) (some (Value.int .i64 12)) fun l_8 h_9 =>
      strL (adrS a0 l_8 a0c 1) (h_9 - l_8) (a0c - l_8) w fun s_10 =>
      J_14 (!(s_10.toList == (ByteArray.mk #[87, 65, 86, 69]).toList)) w
theorem ref13_Parse.C_ok : CSound Try.prog ref13_Parse.C := hcons_ok ref13_little.ok (hnil_ok)
def ref13_Parse.D : Nat → Plan := fun i => (match Nat.beq i 8 with | true => .take 0 (.take 1 (.take 2 (.take 3 (.take 4 (.take 5 (.take 6 (.take 7 (.take 8 (.eff 9 (.take 10 (.take 11 (.done)))))))))))) | false => .done)
noncomputable def ref13_Parse.c : Code := Try.f16.body.getD .skip
theorem ref13_Parse.hb : Try.f16.body = some ref13_Parse.c := by kernel_rfl
noncomputable def ref13_Parse.b0 : Code := (loopsOf ref13_Parse.c).getD 0 .skip
theorem ref13_Parse.b0_loops : loopsOf ref13_Parse.b0 = [] := by kernel_rfl
theorem ref13_Parse.c_loops : loopsOf ref13_Parse.c = [ref13_Parse.b0] := by kernel_rfl
def ref13_Parse.l7G (F43 : type_of% @ref13_little.f) (R : Option Addr → Nat → Nat → Addr → Addr → Bool → Int → Int → World → (Addr → World → Prop) → (Addr → Bool → World → Prop) → Prop) : Option Addr → Nat → Nat → Addr → Addr → Bool → Int → Int → World → (Addr → World → Prop) → (Addr → Bool → World → Prop) → Prop := fun y0 y0n y0c y2 y4 y5 y6 y7 w K0 Kr =>
    bif (decide ((IntKind.wrap .i64 (y7 + 8)) ≤ ((y0n : Nat) : Int))) then
      bnd y0n y0c (some (Value.int .i64 y7)) (some (Value.int .i64 (IntKind.wrap .i64 (y7 + 4)))) fun l_24 h_25 =>
      strL (adrS y0 l_24 y0c 1) (h_25 - l_24) (y0c - l_24) w.drew fun s_26 =>
      F43 y0 y0n y0c (IntKind.wrap .i64 (y7 + 4)) 4 w.drew fun r43_27 w =>
      (strL (adrS y0 l_24 y0c 1) (h_25 - l_24) (y0c - l_24)  w (fun u => u = s_26)) ∧
      (let v10_29 := (IntKind.wrap .i64 (y7 + 8))
      let J_69 := fun (j5_38 : Bool) (j6_39 : Int) (w : World) =>
        ((let J_67 := fun (j80_42 : Bool) (w : World) =>
          ((bif j80_42 then
            let J_51 := fun (j102_49 : Bool) (w : World) =>
              ((bif j102_49 then
                stCs y2 [(Value.int .i64 0), (Value.int .i64 0), (Value.int .i64 0), (Value.int .i64 0)] 0 w fun w =>
                Kr y2 false w
              else
                ldI .i64 y4 w fun x105_53 =>
                ldI .i64 (y4.add 1) w fun x107_54 =>
                let v11_55 := (IntKind.wrap .i64 (Int.tdiv (IntKind.wrap .i64 (x105_53 * x107_54)) 8))
                if v11_55 = 0 then False else
                let v12_57 := (IntKind.wrap .i64 ((IntKind.wrap .i64 (Int.tdiv (mn r43_27 (IntKind.wrap .i64 (((y0n : Nat) : Int) - v10_29))) v11_55)) * v11_55))
                bif (decide (v12_57 < 1)) then
                  stCs y2 [(Value.int .i64 0), (Value.int .i64 0), (Value.int .i64 0), (Value.int .i64 0)] 0 w fun w =>
                  Kr y2 false w
                else
                  stC (y4.add 2) (Value.int .i64 v10_29) w fun w =>
                  stC (y4.add 3) (Value.int .i64 (IntKind.wrap .i64 (v10_29 + v12_57))) w fun w =>
                  ldI .i64 (y4.add 0) w fun x129_63 =>
                  ldI .i64 (y4.add 1) w fun x129_64 =>
                  ldI .i64 (y4.add 2) w fun x129_65 =>
                  ldI .i64 (y4.add 3) w fun x129_66 =>
                  stCs y2 [(Value.int .i64 x129_63), (Value.int .i64 x129_64), (Value.int .i64 x129_65), (Value.int .i64 x129_66)] 0 w fun w =>
                  Kr y2 true w) : Prop)
            bif (j6_39 != 1) then
              J_51 true w
            else
              ldI .i64 y4 w fun x85_45 =>
              bif (decide (x85_45 < 1)) then
                J_51 true w
              else
                ldI .i64 y4 w fun x90_46 =>
                bif (decide (x90_46 > 8)) then
                  J_51 true w
                else
                  ldI .i64 (y4.add 1) w fun x95_47 =>
                  bif (x95_47 != 8) then
                    ldI .i64 (y4.add 1) w fun x99_48 =>
                    J_51 (x99_48 != 16) w
                  else
                    J_51 false w
          else
            let v7_68 := (IntKind.wrap .i64 ((IntKind.wrap .i64 (v10_29 + r43_27)) + (Int.tmod r43_27 2)))
            R y0 y0n y0c y2 y4 j5_38 j6_39 v7_68 w K0 Kr) : Prop)
        bif (s_26.toList == (ByteArray.mk #[100, 97, 116, 97]).toList) then
          J_67 j5_38 w
        else
          J_67 false w) : Prop)
      let J_37 := fun (j62_32 : Bool) (w : World) =>
        ((bif j62_32 then
          F43 y0 y0n y0c v10_29 2 w fun r65_34 w =>
          F43 y0 y0n y0c (IntKind.wrap .i64 (v10_29 + 2)) 2 w fun r69_35 w =>
          F43 y0 y0n y0c (IntKind.wrap .i64 (v10_29 + 14)) 2 w fun r73_36 w =>
          stC y4 (Value.int .i64 r69_35) w fun w =>
          stC (y4.add 1) (Value.int .i64 r73_36) w fun w =>
          J_69 true r65_34 w
        else
          J_69 y5 y6 w) : Prop)
      bif (s_26.toList == (ByteArray.mk #[102, 109, 116, 32]).toList) then
        bif (!y5) then
          bif (decide (r43_27 ≥ 16)) then
            J_37 (decide ((IntKind.wrap .i64 (v10_29 + 16)) ≤ ((y0n : Nat) : Int))) w
          else
            J_37 false w
        else
          J_37 false w
      else
        J_37 false w)
    else
      K0 y2 w

def ref13_Parse.hn7 (N : Nat) (f : Fr) (w : World) (K : AExit → Fr → World → Prop) : Prop :=
  gN f 137 <| gL f 0 fun y0 y0n y0c => gQ f 2 fun y2 => gQ f 4 fun y4 => gB f 5 fun y5 => gI .i64 f 6 fun y6 => gI .i64 f 7 fun y7 => ref13_Parse.l7 N y0 y0n y0c y2 y4 y5 y6 y7 w (fun o2 w => K (.exit 0) [none, none, some (Value.pointer (some o2)), none, none, none, none, none, none, none, none, none, none, none, none, none, none, none, none, none, none, none, none, none, none, none, none, none, none, none, none, none, none, none, none, none, none, none, none, none, none, none, none, none, none, none, none, none, none, none, none, none, none, none, none, none, none, none, none, none, none, none, none, none, none, none, none, none, none, none, none, none, none, none, none, none, none, none, none, none, none, none, none, none, none, none, none, none, none, none, none, none, none, none, none, none, none, none, none, none, none, none, none, none, none, none, none, none, none, none, none, none, none, none, none, none, none, none, none, none, none, none, none, none, none, none, none, none, none, none, none, none, none, none, none, none, none] w) (fun o2 o3 w => K .ret [none, none, some (Value.pointer (some o2)), some (Value.bool o3), none, none, none, none, none, none, none, none, none, none, none, none, none, none, none, none, none, none, none, none, none, none, none, none, none, none, none, none, none, none, none, none, none, none, none, none, none, none, none, none, none, none, none, none, none, none, none, none, none, none, none, none, none, none, none, none, none, none, none, none, none, none, none, none, none, none, none, none, none, none, none, none, none, none, none, none, none, none, none, none, none, none, none, none, none, none, none, none, none, none, none, none, none, none, none, none, none, none, none, none, none, none, none, none, none, none, none, none, none, none, none, none, none, none, none, none, none, none, none, none, none, none, none, none, none, none, none, none, none, none, none, none, none] w)
def ref13_Parse.hx7 : AExit → Fr → World → (AExit → Fr → World → Prop) → Prop := fun e f w K => match e with
  | .normal => False
  | .exit i => (match Nat.beq i 0 with | true => gN f 137 <| gQ f 2 fun o2 => K (.exit 0) [none, none, some (Value.pointer (some o2)), none, none, none, none, none, none, none, none, none, none, none, none, none, none, none, none, none, none, none, none, none, none, none, none, none, none, none, none, none, none, none, none, none, none, none, none, none, none, none, none, none, none, none, none, none, none, none, none, none, none, none, none, none, none, none, none, none, none, none, none, none, none, none, none, none, none, none, none, none, none, none, none, none, none, none, none, none, none, none, none, none, none, none, none, none, none, none, none, none, none, none, none, none, none, none, none, none, none, none, none, none, none, none, none, none, none, none, none, none, none, none, none, none, none, none, none, none, none, none, none, none, none, none, none, none, none, none, none, none, none, none, none, none, none] w | false => False)
  | .ret => gN f 137 <| gQ f 2 fun o2 => gB f 3 fun o3 => K .ret [none, none, some (Value.pointer (some o2)), some (Value.bool o3), none, none, none, none, none, none, none, none, none, none, none, none, none, none, none, none, none, none, none, none, none, none, none, none, none, none, none, none, none, none, none, none, none, none, none, none, none, none, none, none, none, none, none, none, none, none, none, none, none, none, none, none, none, none, none, none, none, none, none, none, none, none, none, none, none, none, none, none, none, none, none, none, none, none, none, none, none, none, none, none, none, none, none, none, none, none, none, none, none, none, none, none, none, none, none, none, none, none, none, none, none, none, none, none, none, none, none, none, none, none, none, none, none, none, none, none, none, none, none, none, none, none, none, none, none, none, none, none, none, none, none, none, none] w
def ref13_Parse.L : LHd := fun l f w K => (match Nat.beq l 7 with | true => ∃ N, ref13_Parse.hn7 N f w K | false => False)
theorem ref13_Parse.leG7 (F43 : type_of% @ref13_little.f) (N : Nat) (y0 : Option Addr) (y0n : Nat) (y0c : Nat) (y2 : Addr) (y4 : Addr) (y5 : Bool) (y6 : Int) (y7 : Int) (w : World) (K : AExit → Fr → World → Prop) : awp (ref13_Parse.CG F43) ref13_Parse.L ref13_Parse.D tab ref13_Parse.b0 (lpost ref13_Parse.hn7 ref13_Parse.hx7 N K) [some (Value.slice y0 y0n y0c), none, some (Value.pointer (some y2)), none, some (Value.pointer (some y4)), some (Value.bool y5), some (Value.int .i64 y6), some (Value.int .i64 y7), none, none, none, none, none, none, none, none, none, none, none, none, none, none, none, none, none, none, none, none, none, none, none, none, none, none, none, none, none, none, none, none, none, none, none, none, none, none, none, none, none, none, none, none, none, none, none, none, none, none, none, none, none, none, none, none, none, none, none, none, none, none, none, none, none, none, none, none, none, none, none, none, none, none, none, none, none, none, none, none, none, none, none, none, none, none, none, none, none, none, none, none, none, none, none, none, none, none, none, none, none, none, none, none, none, none, none, none, none, none, none, none, none, none, none, none, none, none, none, none, none, none, none, none, none, none, none, none, none] w = ref13_Parse.l7G F43 (ref13_Parse.l7 N) y0 y0n y0c y2 y4 y5 y6 y7 w (fun o2 w => K (.exit 0) [none, none, some (Value.pointer (some o2)), none, none, none, none, none, none, none, none, none, none, none, none, none, none, none, none, none, none, none, none, none, none, none, none, none, none, none, none, none, none, none, none, none, none, none, none, none, none, none, none, none, none, none, none, none, none, none, none, none, none, none, none, none, none, none, none, none, none, none, none, none, none, none, none, none, none, none, none, none, none, none, none, none, none, none, none, none, none, none, none, none, none, none, none, none, none, none, none, none, none, none, none, none, none, none, none, none, none, none, none, none, none, none, none, none, none, none, none, none, none, none, none, none, none, none, none, none, none, none, none, none, none, none, none, none, none, none, none, none, none, none, none, none, none] w) (fun o2 o3 w => K .ret [none, none, some (Value.pointer (some o2)), some (Value.bool o3), none, none, none, none, none, none, none, none, none, none, none, none, none, none, none, none, none, none, none, none, none, none, none, none, none, none, none, none, none, none, none, none, none, none, none, none, none, none, none, none, none, none, none, none, none, none, none, none, none, none, none, none, none, none, none, none, none, none, none, none, none, none, none, none, none, none, none, none, none, none, none, none, none, none, none, none, none, none, none, none, none, none, none, none, none, none, none, none, none, none, none, none, none, none, none, none, none, none, none, none, none, none, none, none, none, none, none, none, none, none, none, none, none, none, none, none, none, none, none, none, none, none, none, none, none, none, none, none, none, none, none, none, none] w) := by kernel_rfl
theorem ref13_Parse.les7 (N : Nat) : ref13_Parse.l7 (N + 1) = ref13_Parse.l7G @ref13_little.f (ref13_Parse.l7 N) := by kernel_rfl
theorem ref13_Parse.le7 (N : Nat) (y0 : Option Addr) (y0n : Nat) (y0c : Nat) (y2 : Addr) (y4 : Addr) (y5 : Bool) (y6 : Int) (y7 : Int) (w : World) (K : AExit → Fr → World → Prop) : awp ref13_Parse.C ref13_Parse.L ref13_Parse.D tab ref13_Parse.b0 (lpost ref13_Parse.hn7 ref13_Parse.hx7 N K) [some (Value.slice y0 y0n y0c), none, some (Value.pointer (some y2)), none, some (Value.pointer (some y4)), some (Value.bool y5), some (Value.int .i64 y6), some (Value.int .i64 y7), none, none, none, none, none, none, none, none, none, none, none, none, none, none, none, none, none, none, none, none, none, none, none, none, none, none, none, none, none, none, none, none, none, none, none, none, none, none, none, none, none, none, none, none, none, none, none, none, none, none, none, none, none, none, none, none, none, none, none, none, none, none, none, none, none, none, none, none, none, none, none, none, none, none, none, none, none, none, none, none, none, none, none, none, none, none, none, none, none, none, none, none, none, none, none, none, none, none, none, none, none, none, none, none, none, none, none, none, none, none, none, none, none, none, none, none, none, none, none, none, none, none, none, none, none, none, none, none, none] w = ref13_Parse.l7 (N + 1) y0 y0n y0c y2 y4 y5 y6 y7 w (fun o2 w => K (.exit 0) [none, none, some (Value.pointer (some o2)), none, none, none, none, none, none, none, none, none, none, none, none, none, none, none, none, none, none, none, none, none, none, none, none, none, none, none, none, none, none, none, none, none, none, none, none, none, none, none, none, none, none, none, none, none, none, none, none, none, none, none, none, none, none, none, none, none, none, none, none, none, none, none, none, none, none, none, none, none, none, none, none, none, none, none, none, none, none, none, none, none, none, none, none, none, none, none, none, none, none, none, none, none, none, none, none, none, none, none, none, none, none, none, none, none, none, none, none, none, none, none, none, none, none, none, none, none, none, none, none, none, none, none, none, none, none, none, none, none, none, none, none, none, none] w) (fun o2 o3 w => K .ret [none, none, some (Value.pointer (some o2)), some (Value.bool o3), none, none, none, none, none, none, none, none, none, none, none, none, none, none, none, none, none, none, none, none, none, none, none, none, none, none, none, none, none, none, none, none, none, none, none, none, none, none, none, none, none, none, none, none, none, none, none, none, none, none, none, none, none, none, none, none, none, none, none, none, none, none, none, none, none, none, none, none, none, none, none, none, none, none, none, none, none, none, none, none, none, none, none, none, none, none, none, none, none, none, none, none, none, none, none, none, none, none, none, none, none, none, none, none, none, none, none, none, none, none, none, none, none, none, none, none, none, none, none, none, none, none, none, none, none, none, none, none, none, none, none, none, none] w) := by
  rw [ref13_Parse.les7]
  exact ref13_Parse.leG7 @ref13_little.f N y0 y0n y0c y2 y4 y5 y6 y7 w K
theorem ref13_Parse.lok7 : LoopOk Try.prog ref13_Parse.L ref13_Parse.b0 := by
  refine loop_ok tab_ok ref13_Parse.C_ok (D := ref13_Parse.D) (ref13_Parse.hn7) (ref13_Parse.hx7) (by kernel_rfl) (by rw [ref13_Parse.b0_loops]; exact lnil) ?_ ?_ ?_ ?_
  · intro f w K h
    unfold ref13_Parse.hn7 at h
    obtain ⟨hlen, h⟩ := gN_ok h
    obtain ⟨y0, y0n, y0c, h0, h⟩ := gL_ok h
    obtain ⟨y2, h2, h⟩ := gQ_ok h
    obtain ⟨y4, h4, h⟩ := gQ_ok h
    obtain ⟨y5, h5, h⟩ := gB_ok h
    obtain ⟨y6, h6, h⟩ := gI_ok h
    obtain ⟨y7, h7, h⟩ := gI_ok h
    exact h
  · intro N f w K h
    unfold ref13_Parse.hn7 at h
    obtain ⟨hlen, h⟩ := gN_ok h
    obtain ⟨y0, y0n, y0c, h0, h⟩ := gL_ok h
    obtain ⟨y2, h2, h⟩ := gQ_ok h
    obtain ⟨y4, h4, h⟩ := gQ_ok h
    obtain ⟨y5, h5, h⟩ := gB_ok h
    obtain ⟨y6, h6, h⟩ := gI_ok h
    obtain ⟨y7, h7, h⟩ := gI_ok h
    refine ⟨[some (Value.slice y0 y0n y0c), none, some (Value.pointer (some y2)), none, some (Value.pointer (some y4)), some (Value.bool y5), some (Value.int .i64 y6), some (Value.int .i64 y7), none, none, none, none, none, none, none, none, none, none, none, none, none, none, none, none, none, none, none, none, none, none, none, none, none, none, none, none, none, none, none, none, none, none, none, none, none, none, none, none, none, none, none, none, none, none, none, none, none, none, none, none, none, none, none, none, none, none, none, none, none, none, none, none, none, none, none, none, none, none, none, none, none, none, none, none, none, none, none, none, none, none, none, none, none, none, none, none, none, none, none, none, none, none, none, none, none, none, none, none, none, none, none, none, none, none, none, none, none, none, none, none, none, none, none, none, none, none, none, none, none, none, none, none, none, none, none, none, none], hlen, ⟨h0, h2, h4, h5, h6, h7, trivial⟩, ?_⟩
    rw [ref13_Parse.le7]
    exact h
  · intro e f w K h
    cases e with
    | normal => exact h.elim
    | exit i =>
      unfold ref13_Parse.hx7 at h
      simp only at h
      split at h
      · rename_i hb
        obtain rfl := Nat.eq_of_beq_eq_true hb
        obtain ⟨hlen, h⟩ := gN_ok h
        obtain ⟨o2, h2, h⟩ := gQ_ok h
        exact ⟨[none, none, some (Value.pointer (some o2)), none, none, none, none, none, none, none, none, none, none, none, none, none, none, none, none, none, none, none, none, none, none, none, none, none, none, none, none, none, none, none, none, none, none, none, none, none, none, none, none, none, none, none, none, none, none, none, none, none, none, none, none, none, none, none, none, none, none, none, none, none, none, none, none, none, none, none, none, none, none, none, none, none, none, none, none, none, none, none, none, none, none, none, none, none, none, none, none, none, none, none, none, none, none, none, none, none, none, none, none, none, none, none, none, none, none, none, none, none, none, none, none, none, none, none, none, none, none, none, none, none, none, none, none, none, none, none, none, none, none, none, none, none, none], hlen, ⟨h2, trivial⟩, h⟩
      · exact (show False from h).elim
    | ret =>
      unfold ref13_Parse.hx7 at h
      simp only at h
      obtain ⟨hlen, h⟩ := gN_ok h
      obtain ⟨o2, h2, h⟩ := gQ_ok h
      obtain ⟨o3, h3, h⟩ := gB_ok h
      exact ⟨[none, none, some (Value.pointer (some o2)), some (Value.bool o3), none, none, none, none, none, none, none, none, none, none, none, none, none, none, none, none, none, none, none, none, none, none, none, none, none, none, none, none, none, none, none, none, none, none, none, none, none, none, none, none, none, none, none, none, none, none, none, none, none, none, none, none, none, none, none, none, none, none, none, none, none, none, none, none, none, none, none, none, none, none, none, none, none, none, none, none, none, none, none, none, none, none, none, none, none, none, none, none, none, none, none, none, none, none, none, none, none, none, none, none, none, none, none, none, none, none, none, none, none, none, none, none, none, none, none, none, none, none, none, none, none, none, none, none, none, none, none, none, none, none, none, none, none], hlen, ⟨h2, h3, trivial⟩, h⟩
  · intro f w K h
    have e : lid ref13_Parse.b0 = 7 := by kernel_rfl
    rw [e] at h
    exact h
theorem ref13_Parse.eqG (F43 : type_of% @ref13_little.f) (a0 : Option Addr) (a0n : Nat) (a0c : Nat) (w : World) (K : Value → World → Prop) : afn (ref13_Parse.CG F43) ref13_Parse.L ref13_Parse.D tab Try.f16 [(Value.slice a0 a0n a0c)] w K = ref13_Parse.G F43 a0 a0n a0c w (fun r0_0 r0_1 r0_2 r0_3 r1 w => K (Value.tuple #[(Value.agg #[(Value.int .i64 r0_0), (Value.int .i64 r0_1), (Value.int .i64 r0_2), (Value.int .i64 r0_3)]), (Value.bool r1)]) w) := by kernel_rfl
theorem ref13_Parse.eq (a0 : Option Addr) (a0n : Nat) (a0c : Nat) (w : World) (K : Value → World → Prop) : afn ref13_Parse.C ref13_Parse.L ref13_Parse.D tab Try.f16 [(Value.slice a0 a0n a0c)] w K = ref13_Parse.f a0 a0n a0c w (fun r0_0 r0_1 r0_2 r0_3 r1 w => K (Value.tuple #[(Value.agg #[(Value.int .i64 r0_0), (Value.int .i64 r0_1), (Value.int .i64 r0_2), (Value.int .i64 r0_3)]), (Value.bool r1)]) w) := ref13_Parse.eqG @ref13_little.f a0 a0n a0c w K
theorem ref13_Parse.ok : FSound Try.prog 16 ref13_Parse.h := by
  intro args w K h
  unfold ref13_Parse.h ref13_Parse.H at h
  split at h
  ·
    replace h := vL_ok h
    obtain ⟨a0, a0n, a0c, rfl, h⟩ := h
    refine ⟨by kernel_rfl, fn_ok tab_ok ref13_Parse.C_ok (L := ref13_Parse.L) (D := ref13_Parse.D) Try.func16 ref13_Parse.hb (by kernel_rfl) (by rw [ref13_Parse.c_loops]; exact lcons ref13_Parse.lok7 (lnil)) (Nat.le_of_ble_eq_true (by kernel_rfl)) ?_⟩
    rw [ref13_Parse.eq]
    exact h
  · exact h.elim
/-! ### valise/valisehelp.Plain[byte]$1: function 64 -/
def help_Plain_byte_f1.f (a0 : Int) (a1 : Int) (w : World) (K : Bool → World → Prop) : Prop :=
  K (a0 == a1) w
def help_Plain_byte_f1.H (F : type_of% @help_Plain_byte_f1.f) : Hf := fun args w K => match args with
  | [v0, v1] => vI .u8 v0 fun a0 => vI .u8 v1 fun a1 => F a0 a1 w (fun r0 w => K (Value.bool r0) w)
  | _ => False
def help_Plain_byte_f1.h : Hf := help_Plain_byte_f1.H @help_Plain_byte_f1.f
def help_Plain_byte_f1.C : Hd := hnil
theorem help_Plain_byte_f1.C_ok : CSound Try.prog help_Plain_byte_f1.C := hnil_ok
def help_Plain_byte_f1.D : Nat → Plan := fun i => .done
noncomputable def help_Plain_byte_f1.c : Code := Try.f64.body.getD .skip
theorem help_Plain_byte_f1.hb : Try.f64.body = some help_Plain_byte_f1.c := by kernel_rfl
theorem help_Plain_byte_f1.c_loops : loopsOf help_Plain_byte_f1.c = [] := by kernel_rfl
def help_Plain_byte_f1.L : LHd := fun l f w K => False
theorem help_Plain_byte_f1.eq (a0 : Int) (a1 : Int) (w : World) (K : Value → World → Prop) : afn help_Plain_byte_f1.C help_Plain_byte_f1.L help_Plain_byte_f1.D tab Try.f64 [(Value.int .u8 a0), (Value.int .u8 a1)] w K = help_Plain_byte_f1.f a0 a1 w (fun r0 w => K (Value.bool r0) w) := by kernel_rfl
theorem help_Plain_byte_f1.ok : FSound Try.prog 64 help_Plain_byte_f1.h := by
  intro args w K h
  unfold help_Plain_byte_f1.h help_Plain_byte_f1.H at h
  split at h
  ·
    replace h := vI_ok h
    obtain ⟨a0, rfl, h⟩ := h
    replace h := vI_ok h
    obtain ⟨a1, rfl, h⟩ := h
    refine ⟨by kernel_rfl, fn_ok tab_ok help_Plain_byte_f1.C_ok (L := help_Plain_byte_f1.L) (D := help_Plain_byte_f1.D) Try.func64 help_Plain_byte_f1.hb (by kernel_rfl) (by rw [help_Plain_byte_f1.c_loops]; exact lnil) (Nat.le_of_ble_eq_true (by kernel_rfl)) ?_⟩
    rw [help_Plain_byte_f1.eq]
    exact h
  · exact h.elim
/-! ### valise/valisehelp.Same[byte]: function 63 -/
def help_Same_byte.l4 : Nat → Option Addr → Nat → Nat → Option Addr → Nat → Nat → Int → World → (World → Prop) → (Bool → World → Prop) → Prop
  | 0, _, _, _, _, _, _, _, _, _, _ => False
  | N + 1, y0, y0n, y0c, y1, y1n, y1c, y7, w, K0, Kr =>
    bif (decide (y7 < ((y0n : Nat) : Int))) then
      sm y0 fun p_11 =>
      if 0 ≤ (y7 : Int) ∧ (y7 : Int) < ((y0n : Nat) : Int) then
      ldI .u8 (p_11.add (Int.toNat y7)) w.drew fun x23_12 =>
      sm y1 fun p_13 =>
      if 0 ≤ (y7 : Int) ∧ (y7 : Int) < ((y1n : Nat) : Int) then
      ldI .u8 (p_13.add (Int.toNat y7)) w.drew fun x27_14 =>
      help_Plain_byte_f1.f x23_12 x27_14 w.drew fun r28_15 w =>
      bif (!r28_15) then
        Kr false w
      else
        let v7_17 := (IntKind.wrap .i64 (y7 + 1))
        help_Same_byte.l4 N y0 y0n y0c y1 y1n y1c v7_17 w K0 Kr
      else False
      else False
    else
      K0 w

def help_Same_byte.f (a0 : Option Addr) (a0n : Nat) (a0c : Nat) (a1 : Option Addr) (a1n : Nat) (a1c : Nat) (w : World) (K : Bool → World → Prop) : Prop :=
  bif (((a0n : Nat) : Int) != ((a1n : Nat) : Int)) then
    K false w
  else
    ∃ N_18 : Nat, help_Same_byte.l4 N_18 a0 a0n a0c a1 a1n a1c 0 w
    (fun w =>
      K true w)
    (fun o6_19 w =>
      K o6_19 w)
def help_Same_byte.H (F : type_of% @help_Same_byte.f) : Hf := fun args w K => match args with
  | [v0, v1, v2] => vL v0 fun a0 a0n a0c => vL v1 fun a1 a1n a1c => vF 64 v2 <| F a0 a0n a0c a1 a1n a1c w (fun r0 w => K (Value.bool r0) w)
  | _ => False
def help_Same_byte.h : Hf := help_Same_byte.H @help_Same_byte.f
def help_Same_byte.C : Hd := hcons 64 help_Plain_byte_f1.h (hnil)
theorem help_Same_byte.C_ok : CSound Try.prog help_Same_byte.C := hcons_ok help_Plain_byte_f1.ok (hnil_ok)
def help_Same_byte.D : Nat → Plan := fun i => (match Nat.beq i 6 with | true => .take 0 (.take 1 (.take 2 (.take 3 (.take 4 (.take 5 (.take 6 (.take 7 (.take 8 (.eff 9 (.take 10 (.done))))))))))) | false => .done)
noncomputable def help_Same_byte.c : Code := Try.f63.body.getD .skip
theorem help_Same_byte.hb : Try.f63.body = some help_Same_byte.c := by kernel_rfl
noncomputable def help_Same_byte.b0 : Code := (loopsOf help_Same_byte.c).getD 0 .skip
theorem help_Same_byte.b0_loops : loopsOf help_Same_byte.b0 = [] := by kernel_rfl
theorem help_Same_byte.c_loops : loopsOf help_Same_byte.c = [help_Same_byte.b0] := by kernel_rfl
def help_Same_byte.hn4 (N : Nat) (f : Fr) (w : World) (K : AExit → Fr → World → Prop) : Prop :=
  gN f 30 <| gL f 0 fun y0 y0n y0c => gL f 1 fun y1 y1n y1c => gF 64 f 2 <| gI .i64 f 7 fun y7 => help_Same_byte.l4 N y0 y0n y0c y1 y1n y1c y7 w (fun w => K (.exit 0) [none, none, none, none, none, none, none, none, none, none, none, none, none, none, none, none, none, none, none, none, none, none, none, none, none, none, none, none, none, none] w) (fun o6 w => K .ret [none, none, none, none, none, none, some (Value.bool o6), none, none, none, none, none, none, none, none, none, none, none, none, none, none, none, none, none, none, none, none, none, none, none] w)
def help_Same_byte.hx4 : AExit → Fr → World → (AExit → Fr → World → Prop) → Prop := fun e f w K => match e with
  | .normal => False
  | .exit i => (match Nat.beq i 0 with | true => gN f 30 <|  K (.exit 0) [none, none, none, none, none, none, none, none, none, none, none, none, none, none, none, none, none, none, none, none, none, none, none, none, none, none, none, none, none, none] w | false => False)
  | .ret => gN f 30 <| gB f 6 fun o6 => K .ret [none, none, none, none, none, none, some (Value.bool o6), none, none, none, none, none, none, none, none, none, none, none, none, none, none, none, none, none, none, none, none, none, none, none] w
def help_Same_byte.L : LHd := fun l f w K => (match Nat.beq l 4 with | true => ∃ N, help_Same_byte.hn4 N f w K | false => False)
theorem help_Same_byte.le4 (N : Nat) (y0 : Option Addr) (y0n : Nat) (y0c : Nat) (y1 : Option Addr) (y1n : Nat) (y1c : Nat) (y7 : Int) (w : World) (K : AExit → Fr → World → Prop) : awp help_Same_byte.C help_Same_byte.L help_Same_byte.D tab help_Same_byte.b0 (lpost help_Same_byte.hn4 help_Same_byte.hx4 N K) [some (Value.slice y0 y0n y0c), some (Value.slice y1 y1n y1c), some (Value.func (.func 64) #[] #[]), none, none, none, none, some (Value.int .i64 y7), none, none, none, none, none, none, none, none, none, none, none, none, none, none, none, none, none, none, none, none, none, none] w = help_Same_byte.l4 (N + 1) y0 y0n y0c y1 y1n y1c y7 w (fun w => K (.exit 0) [none, none, none, none, none, none, none, none, none, none, none, none, none, none, none, none, none, none, none, none, none, none, none, none, none, none, none, none, none, none] w) (fun o6 w => K .ret [none, none, none, none, none, none, some (Value.bool o6), none, none, none, none, none, none, none, none, none, none, none, none, none, none, none, none, none, none, none, none, none, none, none] w) := by kernel_rfl
theorem help_Same_byte.lok4 : LoopOk Try.prog help_Same_byte.L help_Same_byte.b0 := by
  refine loop_ok tab_ok help_Same_byte.C_ok (D := help_Same_byte.D) (help_Same_byte.hn4) (help_Same_byte.hx4) (by kernel_rfl) (by rw [help_Same_byte.b0_loops]; exact lnil) ?_ ?_ ?_ ?_
  · intro f w K h
    unfold help_Same_byte.hn4 at h
    obtain ⟨hlen, h⟩ := gN_ok h
    obtain ⟨y0, y0n, y0c, h0, h⟩ := gL_ok h
    obtain ⟨y1, y1n, y1c, h1, h⟩ := gL_ok h
    obtain ⟨h2, h⟩ := gF_ok h
    obtain ⟨y7, h7, h⟩ := gI_ok h
    exact h
  · intro N f w K h
    unfold help_Same_byte.hn4 at h
    obtain ⟨hlen, h⟩ := gN_ok h
    obtain ⟨y0, y0n, y0c, h0, h⟩ := gL_ok h
    obtain ⟨y1, y1n, y1c, h1, h⟩ := gL_ok h
    obtain ⟨h2, h⟩ := gF_ok h
    obtain ⟨y7, h7, h⟩ := gI_ok h
    refine ⟨[some (Value.slice y0 y0n y0c), some (Value.slice y1 y1n y1c), some (Value.func (.func 64) #[] #[]), none, none, none, none, some (Value.int .i64 y7), none, none, none, none, none, none, none, none, none, none, none, none, none, none, none, none, none, none, none, none, none, none], hlen, ⟨h0, h1, h2, h7, trivial⟩, ?_⟩
    rw [help_Same_byte.le4]
    exact h
  · intro e f w K h
    cases e with
    | normal => exact h.elim
    | exit i =>
      unfold help_Same_byte.hx4 at h
      simp only at h
      split at h
      · rename_i hb
        obtain rfl := Nat.eq_of_beq_eq_true hb
        obtain ⟨hlen, h⟩ := gN_ok h
        exact ⟨[none, none, none, none, none, none, none, none, none, none, none, none, none, none, none, none, none, none, none, none, none, none, none, none, none, none, none, none, none, none], hlen, trivial, h⟩
      · exact (show False from h).elim
    | ret =>
      unfold help_Same_byte.hx4 at h
      simp only at h
      obtain ⟨hlen, h⟩ := gN_ok h
      obtain ⟨o6, h6, h⟩ := gB_ok h
      exact ⟨[none, none, none, none, none, none, some (Value.bool o6), none, none, none, none, none, none, none, none, none, none, none, none, none, none, none, none, none, none, none, none, none, none, none], hlen, ⟨h6, trivial⟩, h⟩
  · intro f w K h
    have e : lid help_Same_byte.b0 = 4 := by kernel_rfl
    rw [e] at h
    exact h
theorem help_Same_byte.eq (a0 : Option Addr) (a0n : Nat) (a0c : Nat) (a1 : Option Addr) (a1n : Nat) (a1c : Nat) (w : World) (K : Value → World → Prop) : afn help_Same_byte.C help_Same_byte.L help_Same_byte.D tab Try.f63 [(Value.slice a0 a0n a0c), (Value.slice a1 a1n a1c), (Value.func (.func 64) #[] #[])] w K = help_Same_byte.f a0 a0n a0c a1 a1n a1c w (fun r0 w => K (Value.bool r0) w) := by kernel_rfl
theorem help_Same_byte.ok : FSound Try.prog 63 help_Same_byte.h := by
  intro args w K h
  unfold help_Same_byte.h help_Same_byte.H at h
  split at h
  ·
    replace h := vL_ok h
    obtain ⟨a0, a0n, a0c, rfl, h⟩ := h
    replace h := vL_ok h
    obtain ⟨a1, a1n, a1c, rfl, h⟩ := h
    replace h := vF_ok h
    obtain ⟨rfl, h⟩ := h
    refine ⟨by kernel_rfl, fn_ok tab_ok help_Same_byte.C_ok (L := help_Same_byte.L) (D := help_Same_byte.D) Try.func63 help_Same_byte.hb (by kernel_rfl) (by rw [help_Same_byte.c_loops]; exact lcons help_Same_byte.lok4 (lnil)) (Nat.le_of_ble_eq_true (by kernel_rfl)) ?_⟩
    rw [help_Same_byte.eq]
    exact h
  · exact h.elim
/-! ### valise/valisehelp.Plain[byte]: function 44 -/
def help_Plain_byte.f (a0 : Option Addr) (a0n : Nat) (a0c : Nat) (a1 : Option Addr) (a1n : Nat) (a1c : Nat) (w : World) (K : Bool → World → Prop) : Prop :=
  help_Same_byte.f a0 a0n a0c a1 a1n a1c w fun r7_3 w =>
  K r7_3 w
def help_Plain_byte.H (F : type_of% @help_Plain_byte.f) : Hf := fun args w K => match args with
  | [v0, v1] => vL v0 fun a0 a0n a0c => vL v1 fun a1 a1n a1c => F a0 a0n a0c a1 a1n a1c w (fun r0 w => K (Value.bool r0) w)
  | _ => False
def help_Plain_byte.h : Hf := help_Plain_byte.H @help_Plain_byte.f
def help_Plain_byte.C : Hd := hcons 63 help_Same_byte.h (hnil)
theorem help_Plain_byte.C_ok : CSound Try.prog help_Plain_byte.C := hcons_ok help_Same_byte.ok (hnil_ok)
def help_Plain_byte.D : Nat → Plan := fun i => .done
noncomputable def help_Plain_byte.c : Code := Try.f44.body.getD .skip
theorem help_Plain_byte.hb : Try.f44.body = some help_Plain_byte.c := by kernel_rfl
theorem help_Plain_byte.c_loops : loopsOf help_Plain_byte.c = [] := by kernel_rfl
def help_Plain_byte.L : LHd := fun l f w K => False
theorem help_Plain_byte.eq (a0 : Option Addr) (a0n : Nat) (a0c : Nat) (a1 : Option Addr) (a1n : Nat) (a1c : Nat) (w : World) (K : Value → World → Prop) : afn help_Plain_byte.C help_Plain_byte.L help_Plain_byte.D tab Try.f44 [(Value.slice a0 a0n a0c), (Value.slice a1 a1n a1c)] w K = help_Plain_byte.f a0 a0n a0c a1 a1n a1c w (fun r0 w => K (Value.bool r0) w) := by kernel_rfl
theorem help_Plain_byte.ok : FSound Try.prog 44 help_Plain_byte.h := by
  intro args w K h
  unfold help_Plain_byte.h help_Plain_byte.H at h
  split at h
  ·
    replace h := vL_ok h
    obtain ⟨a0, a0n, a0c, rfl, h⟩ := h
    replace h := vL_ok h
    obtain ⟨a1, a1n, a1c, rfl, h⟩ := h
    refine ⟨by kernel_rfl, fn_ok tab_ok help_Plain_byte.C_ok (L := help_Plain_byte.L) (D := help_Plain_byte.D) Try.func44 help_Plain_byte.hb (by kernel_rfl) (by rw [help_Plain_byte.c_loops]; exact lnil) (Nat.le_of_ble_eq_true (by kernel_rfl)) ?_⟩
    rw [help_Plain_byte.eq]
    exact h
  · exact h.elim
/-! ### valise/valisehelp.Kept[byte]: function 17 -/
def help_Kept_byte.l5 : Nat → Int → Option Addr → Nat → Nat → Int → World → (World → Prop) → (Bool → World → Prop) → Prop
  | 0, _, _, _, _, _, _, _, _ => False
  | N + 1, y2, y7, y7n, y7c, y8, w, K0, Kr =>
    bif (decide (y8 < ((y7n : Nat) : Int))) then
      sm y7 fun p_17 =>
      if 0 ≤ (y8 : Int) ∧ (y8 : Int) < ((y7n : Nat) : Int) then
      ldI .u8 (p_17.add (Int.toNat y8)) w fun x37_18 =>
      bif (x37_18 != y2) then
        Kr false w
      else
        let v8_20 := (IntKind.wrap .i64 (y8 + 1))
        help_Kept_byte.l5 N y2 y7 y7n y7c v8_20 w K0 Kr
      else False
    else
      K0 w

def help_Kept_byte.f (a0 : Option Addr) (a0n : Nat) (a0c : Nat) (a1 : Option Addr) (a1n : Nat) (a1c : Nat) (a2 : Int) (w : World) (K : Bool → World → Prop) : Prop :=
  help_Plain_byte.f a0 a0n a0c a1 a1n a1c w fun r11_4 w =>
  bif (!r11_4) then
    K false w
  else
    bif (decide (((a0c : Nat) : Int) < (IntKind.wrap .i64 (((a1n : Nat) : Int) + 3)))) then
      K false w
    else
      bnd a0n a0c none (some (Value.int .i64 (IntKind.wrap .i64 (((a1n : Nat) : Int) + 3)))) fun l_8 h_9 =>
      let v8_12 := ((a1n : Nat) : Int)
      ∃ N_21 : Nat, help_Kept_byte.l5 N_21 a2 (adrS a0 l_8 a0c 1) (h_9 - l_8) (a0c - l_8) v8_12 w
      (fun w =>
        K true w)
      (fun o6_22 w =>
        K o6_22 w)
def help_Kept_byte.H (F : type_of% @help_Kept_byte.f) : Hf := fun args w K => match args with
  | [v0, v1, v2] => vL v0 fun a0 a0n a0c => vL v1 fun a1 a1n a1c => vI .u8 v2 fun a2 => F a0 a0n a0c a1 a1n a1c a2 w (fun r0 w => K (Value.bool r0) w)
  | _ => False
def help_Kept_byte.h : Hf := help_Kept_byte.H @help_Kept_byte.f
def help_Kept_byte.C : Hd := hcons 44 help_Plain_byte.h (hnil)
theorem help_Kept_byte.C_ok : CSound Try.prog help_Kept_byte.C := hcons_ok help_Plain_byte.ok (hnil_ok)
def help_Kept_byte.D : Nat → Plan := fun i => .done
noncomputable def help_Kept_byte.c : Code := Try.f17.body.getD .skip
theorem help_Kept_byte.hb : Try.f17.body = some help_Kept_byte.c := by kernel_rfl
noncomputable def help_Kept_byte.b0 : Code := (loopsOf help_Kept_byte.c).getD 0 .skip
theorem help_Kept_byte.b0_loops : loopsOf help_Kept_byte.b0 = [] := by kernel_rfl
theorem help_Kept_byte.c_loops : loopsOf help_Kept_byte.c = [help_Kept_byte.b0] := by kernel_rfl
def help_Kept_byte.hn5 (N : Nat) (f : Fr) (w : World) (K : AExit → Fr → World → Prop) : Prop :=
  gN f 40 <| gI .u8 f 2 fun y2 => gL f 7 fun y7 y7n y7c => gI .i64 f 8 fun y8 => help_Kept_byte.l5 N y2 y7 y7n y7c y8 w (fun w => K (.exit 0) [none, none, none, none, none, none, none, none, none, none, none, none, none, none, none, none, none, none, none, none, none, none, none, none, none, none, none, none, none, none, none, none, none, none, none, none, none, none, none, none] w) (fun o6 w => K .ret [none, none, none, none, none, none, some (Value.bool o6), none, none, none, none, none, none, none, none, none, none, none, none, none, none, none, none, none, none, none, none, none, none, none, none, none, none, none, none, none, none, none, none, none] w)
def help_Kept_byte.hx5 : AExit → Fr → World → (AExit → Fr → World → Prop) → Prop := fun e f w K => match e with
  | .normal => False
  | .exit i => (match Nat.beq i 0 with | true => gN f 40 <|  K (.exit 0) [none, none, none, none, none, none, none, none, none, none, none, none, none, none, none, none, none, none, none, none, none, none, none, none, none, none, none, none, none, none, none, none, none, none, none, none, none, none, none, none] w | false => False)
  | .ret => gN f 40 <| gB f 6 fun o6 => K .ret [none, none, none, none, none, none, some (Value.bool o6), none, none, none, none, none, none, none, none, none, none, none, none, none, none, none, none, none, none, none, none, none, none, none, none, none, none, none, none, none, none, none, none, none] w
def help_Kept_byte.L : LHd := fun l f w K => (match Nat.beq l 5 with | true => ∃ N, help_Kept_byte.hn5 N f w K | false => False)
theorem help_Kept_byte.le5 (N : Nat) (y2 : Int) (y7 : Option Addr) (y7n : Nat) (y7c : Nat) (y8 : Int) (w : World) (K : AExit → Fr → World → Prop) : awp help_Kept_byte.C help_Kept_byte.L help_Kept_byte.D tab help_Kept_byte.b0 (lpost help_Kept_byte.hn5 help_Kept_byte.hx5 N K) [none, none, some (Value.int .u8 y2), none, none, none, none, some (Value.slice y7 y7n y7c), some (Value.int .i64 y8), none, none, none, none, none, none, none, none, none, none, none, none, none, none, none, none, none, none, none, none, none, none, none, none, none, none, none, none, none, none, none] w = help_Kept_byte.l5 (N + 1) y2 y7 y7n y7c y8 w (fun w => K (.exit 0) [none, none, none, none, none, none, none, none, none, none, none, none, none, none, none, none, none, none, none, none, none, none, none, none, none, none, none, none, none, none, none, none, none, none, none, none, none, none, none, none] w) (fun o6 w => K .ret [none, none, none, none, none, none, some (Value.bool o6), none, none, none, none, none, none, none, none, none, none, none, none, none, none, none, none, none, none, none, none, none, none, none, none, none, none, none, none, none, none, none, none, none] w) := by kernel_rfl
theorem help_Kept_byte.lok5 : LoopOk Try.prog help_Kept_byte.L help_Kept_byte.b0 := by
  refine loop_ok tab_ok help_Kept_byte.C_ok (D := help_Kept_byte.D) (help_Kept_byte.hn5) (help_Kept_byte.hx5) (by kernel_rfl) (by rw [help_Kept_byte.b0_loops]; exact lnil) ?_ ?_ ?_ ?_
  · intro f w K h
    unfold help_Kept_byte.hn5 at h
    obtain ⟨hlen, h⟩ := gN_ok h
    obtain ⟨y2, h2, h⟩ := gI_ok h
    obtain ⟨y7, y7n, y7c, h7, h⟩ := gL_ok h
    obtain ⟨y8, h8, h⟩ := gI_ok h
    exact h
  · intro N f w K h
    unfold help_Kept_byte.hn5 at h
    obtain ⟨hlen, h⟩ := gN_ok h
    obtain ⟨y2, h2, h⟩ := gI_ok h
    obtain ⟨y7, y7n, y7c, h7, h⟩ := gL_ok h
    obtain ⟨y8, h8, h⟩ := gI_ok h
    refine ⟨[none, none, some (Value.int .u8 y2), none, none, none, none, some (Value.slice y7 y7n y7c), some (Value.int .i64 y8), none, none, none, none, none, none, none, none, none, none, none, none, none, none, none, none, none, none, none, none, none, none, none, none, none, none, none, none, none, none, none], hlen, ⟨h2, h7, h8, trivial⟩, ?_⟩
    rw [help_Kept_byte.le5]
    exact h
  · intro e f w K h
    cases e with
    | normal => exact h.elim
    | exit i =>
      unfold help_Kept_byte.hx5 at h
      simp only at h
      split at h
      · rename_i hb
        obtain rfl := Nat.eq_of_beq_eq_true hb
        obtain ⟨hlen, h⟩ := gN_ok h
        exact ⟨[none, none, none, none, none, none, none, none, none, none, none, none, none, none, none, none, none, none, none, none, none, none, none, none, none, none, none, none, none, none, none, none, none, none, none, none, none, none, none, none], hlen, trivial, h⟩
      · exact (show False from h).elim
    | ret =>
      unfold help_Kept_byte.hx5 at h
      simp only at h
      obtain ⟨hlen, h⟩ := gN_ok h
      obtain ⟨o6, h6, h⟩ := gB_ok h
      exact ⟨[none, none, none, none, none, none, some (Value.bool o6), none, none, none, none, none, none, none, none, none, none, none, none, none, none, none, none, none, none, none, none, none, none, none, none, none, none, none, none, none, none, none, none, none], hlen, ⟨h6, trivial⟩, h⟩
  · intro f w K h
    have e : lid help_Kept_byte.b0 = 5 := by kernel_rfl
    rw [e] at h
    exact h
theorem help_Kept_byte.eq (a0 : Option Addr) (a0n : Nat) (a0c : Nat) (a1 : Option Addr) (a1n : Nat) (a1c : Nat) (a2 : Int) (w : World) (K : Value → World → Prop) : afn help_Kept_byte.C help_Kept_byte.L help_Kept_byte.D tab Try.f17 [(Value.slice a0 a0n a0c), (Value.slice a1 a1n a1c), (Value.int .u8 a2)] w K = help_Kept_byte.f a0 a0n a0c a1 a1n a1c a2 w (fun r0 w => K (Value.bool r0) w) := by kernel_rfl
theorem help_Kept_byte.ok : FSound Try.prog 17 help_Kept_byte.h := by
  intro args w K h
  unfold help_Kept_byte.h help_Kept_byte.H at h
  split at h
  ·
    replace h := vL_ok h
    obtain ⟨a0, a0n, a0c, rfl, h⟩ := h
    replace h := vL_ok h
    obtain ⟨a1, a1n, a1c, rfl, h⟩ := h
    replace h := vI_ok h
    obtain ⟨a2, rfl, h⟩ := h
    refine ⟨by kernel_rfl, fn_ok tab_ok help_Kept_byte.C_ok (L := help_Kept_byte.L) (D := help_Kept_byte.D) Try.func17 help_Kept_byte.hb (by kernel_rfl) (by rw [help_Kept_byte.c_loops]; exact lcons help_Kept_byte.lok5 (lnil)) (Nat.le_of_ble_eq_true (by kernel_rfl)) ?_⟩
    rw [help_Kept_byte.eq]
    exact h
  · exact h.elim
/-! ### valise/valiseref02.Little: function 22 -/
def ref02_Little.l3 : Nat → Int → Int → Option Addr → Nat → Nat → Int → World → (Option Addr → Nat → Nat → World → Prop) → Prop
  | 0, _, _, _, _, _, _, _, _ => False
  | N + 1, y0, y1, y5, y5n, y5c, y6, w, K0 =>
    bif (decide (y6 < (mx 0 (mn y1 8)))) then
      if (IntKind.wrap .u64 (IntKind.wrap .i64 (8 * y6))) < 0 then False else
      newC 5 [(Value.int .u8 (IntKind.wrap .u8 (shr .u64 y0 (min (Int.toNat (IntKind.wrap .u64 (IntKind.wrap .i64 (8 * y6)))) (IntKind.bits .u64)))))] w fun a21_8 w =>
      appL 5 1 1 [(Value.int .u8 0)] y5 y5n y5c (some a21_8) 1 1 w fun a22_9 a22_9n a22_9c w =>
      let v6_10 := (IntKind.wrap .i64 (y6 + 1))
      ref02_Little.l3 N y0 y1 a22_9 a22_9n a22_9c v6_10 w K0
    else
      K0 y5 y5n y5c w

def ref02_Little.f (a0 : Int) (a1 : Int) (w : World) (K : Option Addr → Nat → Nat → World → Prop) : Prop :=
  ∃ N_11 : Nat, ref02_Little.l3 N_11 a0 a1 none 0 0 0 w
  (fun o5_12 o5_12n o5_12c w =>
    K o5_12 o5_12n o5_12c w)
def ref02_Little.H (F : type_of% @ref02_Little.f) : Hf := fun args w K => match args with
  | [v0, v1] => vI .u64 v0 fun a0 => vI .i64 v1 fun a1 => F a0 a1 w (fun r0 r0n r0c w => K (Value.slice r0 r0n r0c) w)
  | _ => False
def ref02_Little.h : Hf := ref02_Little.H @ref02_Little.f
def ref02_Little.C : Hd := hnil
theorem ref02_Little.C_ok : CSound Try.prog ref02_Little.C := hnil_ok
def ref02_Little.D : Nat → Plan := fun i => .done
noncomputable def ref02_Little.c : Code := Try.f22.body.getD .skip
theorem ref02_Little.hb : Try.f22.body = some ref02_Little.c := by kernel_rfl
noncomputable def ref02_Little.b0 : Code := (loopsOf ref02_Little.c).getD 0 .skip
theorem ref02_Little.b0_loops : loopsOf ref02_Little.b0 = [] := by kernel_rfl
theorem ref02_Little.c_loops : loopsOf ref02_Little.c = [ref02_Little.b0] := by kernel_rfl
def ref02_Little.hn3 (N : Nat) (f : Fr) (w : World) (K : AExit → Fr → World → Prop) : Prop :=
  gN f 24 <| gI .u64 f 0 fun y0 => gI .i64 f 1 fun y1 => gL f 5 fun y5 y5n y5c => gI .i64 f 6 fun y6 => ref02_Little.l3 N y0 y1 y5 y5n y5c y6 w (fun o5 o5n o5c w => K (.exit 0) [none, none, none, none, none, some (Value.slice o5 o5n o5c), none, none, none, none, none, none, none, none, none, none, none, none, none, none, none, none, none, none] w)
def ref02_Little.hx3 : AExit → Fr → World → (AExit → Fr → World → Prop) → Prop := fun e f w K => match e with
  | .normal => False
  | .exit i => (match Nat.beq i 0 with | true => gN f 24 <| gL f 5 fun o5 o5n o5c => K (.exit 0) [none, none, none, none, none, some (Value.slice o5 o5n o5c), none, none, none, none, none, none, none, none, none, none, none, none, none, none, none, none, none, none] w | false => False)
  | .ret => False
def ref02_Little.L : LHd := fun l f w K => (match Nat.beq l 3 with | true => ∃ N, ref02_Little.hn3 N f w K | false => False)
theorem ref02_Little.le3 (N : Nat) (y0 : Int) (y1 : Int) (y5 : Option Addr) (y5n : Nat) (y5c : Nat) (y6 : Int) (w : World) (K : AExit → Fr → World → Prop) : awp ref02_Little.C ref02_Little.L ref02_Little.D tab ref02_Little.b0 (lpost ref02_Little.hn3 ref02_Little.hx3 N K) [some (Value.int .u64 y0), some (Value.int .i64 y1), none, none, none, some (Value.slice y5 y5n y5c), some (Value.int .i64 y6), none, none, none, none, none, none, none, none, none, none, none, none, none, none, none, none, none] w = ref02_Little.l3 (N + 1) y0 y1 y5 y5n y5c y6 w (fun o5 o5n o5c w => K (.exit 0) [none, none, none, none, none, some (Value.slice o5 o5n o5c), none, none, none, none, none, none, none, none, none, none, none, none, none, none, none, none, none, none] w) := by kernel_rfl
theorem ref02_Little.lok3 : LoopOk Try.prog ref02_Little.L ref02_Little.b0 := by
  refine loop_ok tab_ok ref02_Little.C_ok (D := ref02_Little.D) (ref02_Little.hn3) (ref02_Little.hx3) (by kernel_rfl) (by rw [ref02_Little.b0_loops]; exact lnil) ?_ ?_ ?_ ?_
  · intro f w K h
    unfold ref02_Little.hn3 at h
    obtain ⟨hlen, h⟩ := gN_ok h
    obtain ⟨y0, h0, h⟩ := gI_ok h
    obtain ⟨y1, h1, h⟩ := gI_ok h
    obtain ⟨y5, y5n, y5c, h5, h⟩ := gL_ok h
    obtain ⟨y6, h6, h⟩ := gI_ok h
    exact h
  · intro N f w K h
    unfold ref02_Little.hn3 at h
    obtain ⟨hlen, h⟩ := gN_ok h
    obtain ⟨y0, h0, h⟩ := gI_ok h
    obtain ⟨y1, h1, h⟩ := gI_ok h
    obtain ⟨y5, y5n, y5c, h5, h⟩ := gL_ok h
    obtain ⟨y6, h6, h⟩ := gI_ok h
    refine ⟨[some (Value.int .u64 y0), some (Value.int .i64 y1), none, none, none, some (Value.slice y5 y5n y5c), some (Value.int .i64 y6), none, none, none, none, none, none, none, none, none, none, none, none, none, none, none, none, none], hlen, ⟨h0, h1, h5, h6, trivial⟩, ?_⟩
    rw [ref02_Little.le3]
    exact h
  · intro e f w K h
    cases e with
    | normal => exact h.elim
    | exit i =>
      unfold ref02_Little.hx3 at h
      simp only at h
      split at h
      · rename_i hb
        obtain rfl := Nat.eq_of_beq_eq_true hb
        obtain ⟨hlen, h⟩ := gN_ok h
        obtain ⟨o5, o5n, o5c, h5, h⟩ := gL_ok h
        exact ⟨[none, none, none, none, none, some (Value.slice o5 o5n o5c), none, none, none, none, none, none, none, none, none, none, none, none, none, none, none, none, none, none], hlen, ⟨h5, trivial⟩, h⟩
      · exact (show False from h).elim
    | ret =>
      exact (show False from h).elim
  · intro f w K h
    have e : lid ref02_Little.b0 = 3 := by kernel_rfl
    rw [e] at h
    exact h
theorem ref02_Little.eq (a0 : Int) (a1 : Int) (w : World) (K : Value → World → Prop) : afn ref02_Little.C ref02_Little.L ref02_Little.D tab Try.f22 [(Value.int .u64 a0), (Value.int .i64 a1)] w K = ref02_Little.f a0 a1 w (fun r0 r0n r0c w => K (Value.slice r0 r0n r0c) w) := by kernel_rfl
theorem ref02_Little.ok : FSound Try.prog 22 ref02_Little.h := by
  intro args w K h
  unfold ref02_Little.h ref02_Little.H at h
  split at h
  ·
    replace h := vI_ok h
    obtain ⟨a0, rfl, h⟩ := h
    replace h := vI_ok h
    obtain ⟨a1, rfl, h⟩ := h
    refine ⟨by kernel_rfl, fn_ok tab_ok ref02_Little.C_ok (L := ref02_Little.L) (D := ref02_Little.D) Try.func22 ref02_Little.hb (by kernel_rfl) (by rw [ref02_Little.c_loops]; exact lcons ref02_Little.lok3 (lnil)) (Nat.le_of_ble_eq_true (by kernel_rfl)) ?_⟩
    rw [ref02_Little.eq]
    exact h
  · exact h.elim
/-! ### valise/valisehelp.CopyBytes: function 21 -/
def help_CopyBytes.f (a0 : Option Addr) (a0n : Nat) (a0c : Nat) (w : World) (K : Option Addr → Nat → Nat → World → Prop) : Prop :=
  appL 5 1 1 [(Value.int .u8 0)] none 0 0 a0 a0n a0c w fun a4_3 a4_3n a4_3c w =>
  K a4_3 a4_3n a4_3c w
def help_CopyBytes.H (F : type_of% @help_CopyBytes.f) : Hf := fun args w K => match args with
  | [v0] => vL v0 fun a0 a0n a0c => F a0 a0n a0c w (fun r0 r0n r0c w => K (Value.slice r0 r0n r0c) w)
  | _ => False
def help_CopyBytes.h : Hf := help_CopyBytes.H @help_CopyBytes.f
def help_CopyBytes.C : Hd := hnil
theorem help_CopyBytes.C_ok : CSound Try.prog help_CopyBytes.C := hnil_ok
def help_CopyBytes.D : Nat → Plan := fun i => .done
noncomputable def help_CopyBytes.c : Code := Try.f21.body.getD .skip
theorem help_CopyBytes.hb : Try.f21.body = some help_CopyBytes.c := by kernel_rfl
theorem help_CopyBytes.c_loops : loopsOf help_CopyBytes.c = [] := by kernel_rfl
def help_CopyBytes.L : LHd := fun l f w K => False
theorem help_CopyBytes.eq (a0 : Option Addr) (a0n : Nat) (a0c : Nat) (w : World) (K : Value → World → Prop) : afn help_CopyBytes.C help_CopyBytes.L help_CopyBytes.D tab Try.f21 [(Value.slice a0 a0n a0c)] w K = help_CopyBytes.f a0 a0n a0c w (fun r0 r0n r0c w => K (Value.slice r0 r0n r0c) w) := by kernel_rfl
theorem help_CopyBytes.ok : FSound Try.prog 21 help_CopyBytes.h := by
  intro args w K h
  unfold help_CopyBytes.h help_CopyBytes.H at h
  split at h
  ·
    replace h := vL_ok h
    obtain ⟨a0, a0n, a0c, rfl, h⟩ := h
    refine ⟨by kernel_rfl, fn_ok tab_ok help_CopyBytes.C_ok (L := help_CopyBytes.L) (D := help_CopyBytes.D) Try.func21 help_CopyBytes.hb (by kernel_rfl) (by rw [help_CopyBytes.c_loops]; exact lnil) (Nat.le_of_ble_eq_true (by kernel_rfl)) ?_⟩
    rw [help_CopyBytes.eq]
    exact h
  · exact h.elim
/-! ### valise/valiseref13.Make: function 20 -/
def ref13_Make.f (a0_0 : Int) (a0_1 : Int) (a0_2 : Int) (a0_3 : Int) (a1 : Option Addr) (a1n : Nat) (a1c : Nat) (w : World) (K : Option Addr → Nat → Nat → World → Prop) : Prop :=
  newC 26 [(Value.int .i64 a0_0), (Value.int .i64 a0_1), (Value.int .i64 a0_2), (Value.int .i64 a0_3)] w fun a2_2 w =>
  let J_56 := fun  (w : World) =>
    ((let v5_13 := (IntKind.wrap .u64 ((a1n : Nat) : Int))
    ldI .i64 a2_2 w fun x30_15 =>
    ldI .i64 (a2_2.add 1) w fun x32_16 =>
    let v6_17 := (IntKind.wrap .u64 (IntKind.wrap .i64 (Int.tdiv (IntKind.wrap .i64 (x30_15 * x32_16)) 8)))
    newC 5 [(Value.int .u8 82), (Value.int .u8 73), (Value.int .u8 70), (Value.int .u8 70)] w fun a36_19 w =>
    mkStr a36_19 w fun w =>
    ref02_Little.f (IntKind.wrap .u64 (36 + v5_13)) 4 w fun r41_21 r41_21n r41_21c w =>
    appL 5 1 1 [(Value.int .u8 0)] (some a36_19) 4 4 r41_21 r41_21n r41_21c w fun a42_22 a42_22n a42_22c w =>
    appT 5 1 [(Value.int .u8 0)] a42_22 a42_22n a42_22c (ByteArray.mk #[87, 65, 86, 69, 102, 109, 116, 32]) w fun a44_24 a44_24n a44_24c w =>
    ref02_Little.f 16 4 w fun r46_26 r46_26n r46_26c w =>
    appL 5 1 1 [(Value.int .u8 0)] a44_24 a44_24n a44_24c r46_26 r46_26n r46_26c w fun a47_27 a47_27n a47_27c w =>
    ref02_Little.f 1 2 w fun r49_29 r49_29n r49_29c w =>
    appL 5 1 1 [(Value.int .u8 0)] a47_27 a47_27n a47_27c r49_29 r49_29n r49_29c w fun a50_30 a50_30n a50_30c w =>
    ldI .i64 a2_2 w fun x53_32 =>
    ref02_Little.f (IntKind.wrap .u64 x53_32) 2 w fun r55_33 r55_33n r55_33c w =>
    appL 5 1 1 [(Value.int .u8 0)] a50_30 a50_30n a50_30c r55_33 r55_33n r55_33c w fun a56_34 a56_34n a56_34c w =>
    ref02_Little.f 8000 4 w fun r58_36 r58_36n r58_36c w =>
    appL 5 1 1 [(Value.int .u8 0)] a56_34 a56_34n a56_34c r58_36 r58_36n r58_36c w fun a59_37 a59_37n a59_37c w =>
    ref02_Little.f (IntKind.wrap .u64 (8000 * v6_17)) 4 w fun r63_39 r63_39n r63_39c w =>
    appL 5 1 1 [(Value.int .u8 0)] a59_37 a59_37n a59_37c r63_39 r63_39n r63_39c w fun a64_40 a64_40n a64_40c w =>
    ref02_Little.f v6_17 2 w fun r67_42 r67_42n r67_42c w =>
    appL 5 1 1 [(Value.int .u8 0)] a64_40 a64_40n a64_40c r67_42 r67_42n r67_42c w fun a68_43 a68_43n a68_43c w =>
    ldI .i64 (a2_2.add 1) w fun x71_45 =>
    ref02_Little.f (IntKind.wrap .u64 x71_45) 2 w fun r73_46 r73_46n r73_46c w =>
    appL 5 1 1 [(Value.int .u8 0)] a68_43 a68_43n a68_43c r73_46 r73_46n r73_46c w fun a74_47 a74_47n a74_47c w =>
    appT 5 1 [(Value.int .u8 0)] a74_47 a74_47n a74_47c (ByteArray.mk #[100, 97, 116, 97]) w fun a76_49 a76_49n a76_49c w =>
    ref02_Little.f v5_13 4 w fun r79_51 r79_51n r79_51c w =>
    appL 5 1 1 [(Value.int .u8 0)] a76_49 a76_49n a76_49c r79_51 r79_51n r79_51c w fun a80_52 a80_52n a80_52c w =>
    help_CopyBytes.f a1 a1n a1c w fun r83_54 r83_54n r83_54c w =>
    appL 5 1 1 [(Value.int .u8 0)] a80_52 a80_52n a80_52c r83_54 r83_54n r83_54c w fun a84_55 a84_55n a84_55c w =>
    K a84_55 a84_55n a84_55c w) : Prop)
  ldI .i64 a2_2 w fun x9_5 =>
  bif (decide (x9_5 < 1)) then
    K none 0 0 w
  else
    ldI .i64 a2_2 w fun x13_6 =>
    bif (decide (x13_6 > 8)) then
      K none 0 0 w
    else
      ldI .i64 (a2_2.add 1) w fun x18_7 =>
      bif (x18_7 != 8) then
        ldI .i64 (a2_2.add 1) w fun x22_8 =>
        bif (x22_8 != 16) then
          K none 0 0 w
        else
          J_56 w
      else
        J_56 w
def ref13_Make.H (F : type_of% @ref13_Make.f) : Hf := fun args w K => match args with
  | [v0, v1] => vT v0 fun l => cI .i64 l fun a0_0 l => cI .i64 l fun a0_1 l => cI .i64 l fun a0_2 l => cI .i64 l fun a0_3 l => cE l <| vL v1 fun a1 a1n a1c => F a0_0 a0_1 a0_2 a0_3 a1 a1n a1c w (fun r0 r0n r0c w => K (Value.slice r0 r0n r0c) w)
  | _ => False
def ref13_Make.h : Hf := ref13_Make.H @ref13_Make.f
def ref13_Make.CG (F22 : type_of% @ref02_Little.f) (F21 : type_of% @help_CopyBytes.f) : Hd := hcons 21 (help_CopyBytes.H F21) (hcons 22 (ref02_Little.H F22) (hnil))
def ref13_Make.C : Hd := ref13_Make.CG @ref02_Little.f @help_CopyBytes.f
def ref13_Make.G (F22 : type_of% @ref02_Little.f) (F21 : type_of% @help_CopyBytes.f) (a0_0 : Int) (a0_1 : Int) (a0_2 : Int) (a0_3 : Int) (a1 : Option Addr) (a1n : Nat) (a1c : Nat) (w : World) (K : Option Addr → Nat → Nat → World → Prop) : Prop :=
  newC 26 [(Value.int .i64 a0_0), (Value.int .i64 a0_1), (Value.int .i64 a0_2), (Value.int .i64 a0_3)] w fun a2_2 w =>
  let J_56 := fun  (w : World) =>
    ((let v5_13 := (IntKind.wrap .u64 ((a1n : Nat) : Int))
    ldI .i64 a2_2 w fun x30_15 =>
    ldI .i64 (a2_2.add 1) w fun x32_16 =>
    let v6_17 := (IntKind.wrap .u64 (IntKind.wrap .i64 (Int.tdiv (IntKind.wrap .i64 (x30_15 * x32_16)) 8)))
    newC 5 [(Value.int .u8 82), (Value.int .u8 73), (Value.int .u8 70), (Value.int .u8 70)] w fun a36_19 w =>
    mkStr a36_19 w fun w =>
    F22 (IntKind.wrap .u64 (36 + v5_13)) 4 w fun r41_21 r41_21n r41_21c w =>
    appL 5 1 1 [(Value.int .u8 0)] (some a36_19) 4 4 r41_21 r41_21n r41_21c w fun a42_22 a42_22n a42_22c w =>
    appT 5 1 [(Value.int .u8 0)] a42_22 a42_22n a42_22c (ByteArray.mk #[87, 65, 86, 69, 102, 109, 116, 32]) w fun a44_24 a44_24n a44_24c w =>
    F22 16 4 w fun r46_26 r46_26n r46_26c w =>
    appL 5 1 1 [(Value.int .u8 0)] a44_24 a44_24n a44_24c r46_26 r46_26n r46_26c w fun a47_27 a47_27n a47_27c w =>
    F22 1 2 w fun r49_29 r49_29n r49_29c w =>
    appL 5 1 1 [(Value.int .u8 0)] a47_27 a47_27n a47_27c r49_29 r49_29n r49_29c w fun a50_30 a50_30n a50_30c w =>
    ldI .i64 a2_2 w fun x53_32 =>
    F22 (IntKind.wrap .u64 x53_32) 2 w fun r55_33 r55_33n r55_33c w =>
    appL 5 1 1 [(Value.int .u8 0)] a50_30 a50_30n a50_30c r55_33 r55_33n r55_33c w fun a56_34 a56_34n a56_34c w =>
    F22 8000 4 w fun r58_36 r58_36n r58_36c w =>
    appL 5 1 1 [(Value.int .u8 0)] a56_34 a56_34n a56_34c r58_36 r58_36n r58_36c w fun a59_37 a59_37n a59_37c w =>
    F22 (IntKind.wrap .u64 (8000 * v6_17)) 4 w fun r63_39 r63_39n r63_39c w =>
    appL 5 1 1 [(Value.int .u8 0)] a59_37 a59_37n a59_37c r63_39 r63_39n r63_39c w fun a64_40 a64_40n a64_40c w =>
    F22 v6_17 2 w fun r67_42 r67_42n r67_42c w =>
    appL 5 1 1 [(Value.int .u8 0)] a64_40 a64_40n a64_40c r67_42 r67_42n r67_42c w fun a68_43 a68_43n a68_43c w =>
    ldI .i64 (a2_2.add 1) w fun x71_45 =>
    F22 (IntKind.wrap .u64 x71_45) 2 w fun r73_46 r73_46n r73_46c w =>
    appL 5 1 1 [(Value.int .u8 0)] a68_43 a68_43n a68_43c r73_46 r73_46n r73_46c w fun a74_47 a74_47n a74_47c w =>
    appT 5 1 [(Value.int .u8 0)] a74_47 a74_47n a74_47c (ByteArray.mk #[100, 97, 116, 97]) w fun a76_49 a76_49n a76_49c w =>
    F22 v5_13 4 w fun r79_51 r79_51n r79_51c w =>
    appL 5 1 1 [(Value.int .u8 0)] a76_49 a76_49n a76_49c r79_51 r79_51n r79_51c w fun a80_52 a80_52n a80_52c w =>
    F21 a1 a1n a1c w fun r83_54 r83_54n r83_54c w =>
    appL 5 1 1 [(Value.int .u8 0)] a80_52 a80_52n a80_52c r83_54 r83_54n r83_54c w fun a84_55 a84_55n a84_55c w =>
    K a84_55 a84_55n a84_55c w) : Prop)
  ldI .i64 a2_2 w fun x9_5 =>
  bif (decide (x9_5 < 1)) then
    K none 0 0 w
  else
    ldI .i64 a2_2 w fun x13_6 =>
    bif (decide (x13_6 > 8)) then
      K none 0 0 w
    else
      ldI .i64 (a2_2.add 1) w fun x18_7 =>
      bif (x18_7 != 8) then
        ldI .i64 (a2_2.add 1) w fun x22_8 =>
        bif (x22_8 != 16) then
          K none 0 0 w
        else
          J_56 w
      else
        J_56 w
theorem ref13_Make.C_ok : CSound Try.prog ref13_Make.C := hcons_ok help_CopyBytes.ok (hcons_ok ref02_Little.ok (hnil_ok))
def ref13_Make.D : Nat → Plan := fun i => .done
noncomputable def ref13_Make.c : Code := Try.f20.body.getD .skip
theorem ref13_Make.hb : Try.f20.body = some ref13_Make.c := by kernel_rfl
theorem ref13_Make.c_loops : loopsOf ref13_Make.c = [] := by kernel_rfl
def ref13_Make.L : LHd := fun l f w K => False
theorem ref13_Make.eqG (F22 : type_of% @ref02_Little.f) (F21 : type_of% @help_CopyBytes.f) (a0_0 : Int) (a0_1 : Int) (a0_2 : Int) (a0_3 : Int) (a1 : Option Addr) (a1n : Nat) (a1c : Nat) (w : World) (K : Value → World → Prop) : afn (ref13_Make.CG F22 F21) ref13_Make.L ref13_Make.D tab Try.f20 [(Value.agg #[(Value.int .i64 a0_0), (Value.int .i64 a0_1), (Value.int .i64 a0_2), (Value.int .i64 a0_3)]), (Value.slice a1 a1n a1c)] w K = ref13_Make.G F22 F21 a0_0 a0_1 a0_2 a0_3 a1 a1n a1c w (fun r0 r0n r0c w => K (Value.slice r0 r0n r0c) w) := by kernel_rfl
theorem ref13_Make.eq (a0_0 : Int) (a0_1 : Int) (a0_2 : Int) (a0_3 : Int) (a1 : Option Addr) (a1n : Nat) (a1c : Nat) (w : World) (K : Value → World → Prop) : afn ref13_Make.C ref13_Make.L ref13_Make.D tab Try.f20 [(Value.agg #[(Value.int .i64 a0_0), (Value.int .i64 a0_1), (Value.int .i64 a0_2), (Value.int .i64 a0_3)]), (Value.slice a1 a1n a1c)] w K = ref13_Make.f a0_0 a0_1 a0_2 a0_3 a1 a1n a1c w (fun r0 r0n r0c w => K (Value.slice r0 r0n r0c) w) := ref13_Make.eqG @ref02_Little.f @help_CopyBytes.f a0_0 a0_1 a0_2 a0_3 a1 a1n a1c w K
theorem ref13_Make.ok : FSound Try.prog 20 ref13_Make.h := by
  intro args w K h
  unfold ref13_Make.h ref13_Make.H at h
  split at h
  ·
    replace h := vT_ok h
    obtain ⟨l, rfl, h⟩ := h
    replace h := cI_ok h; obtain ⟨a0_0, l, rfl, h⟩ := h
    replace h := cI_ok h; obtain ⟨a0_1, l, rfl, h⟩ := h
    replace h := cI_ok h; obtain ⟨a0_2, l, rfl, h⟩ := h
    replace h := cI_ok h; obtain ⟨a0_3, l, rfl, h⟩ := h
    replace h := cE_ok h; obtain ⟨rfl, h⟩ := h
    replace h := vL_ok h
    obtain ⟨a1, a1n, a1c, rfl, h⟩ := h
    refine ⟨by kernel_rfl, fn_ok tab_ok ref13_Make.C_ok (L := ref13_Make.L) (D := ref13_Make.D) Try.func20 ref13_Make.hb (by kernel_rfl) (by rw [ref13_Make.c_loops]; exact lnil) (Nat.le_of_ble_eq_true (by kernel_rfl)) ?_⟩
    rw [ref13_Make.eq]
    exact h
  · exact h.elim
/-! ### valise/valisehelp.Bytes: function 18 -/
def help_Bytes.f (a0 : Option Addr) (a0n : Nat) (a0c : Nat) (a1 : Option Addr) (a1n : Nat) (a1c : Nat) (w : World) (K : Bool → World → Prop) : Prop :=
  strL a0 a0n a0c w fun s_3 =>
  strL a1 a1n a1c w fun s_4 =>
  let v4_5 := (s_3.toList == s_4.toList)
  K v4_5 w
def help_Bytes.H (F : type_of% @help_Bytes.f) : Hf := fun args w K => match args with
  | [v0, v1] => vL v0 fun a0 a0n a0c => vL v1 fun a1 a1n a1c => F a0 a0n a0c a1 a1n a1c w (fun r0 w => K (Value.bool r0) w)
  | _ => False
def help_Bytes.h : Hf := help_Bytes.H @help_Bytes.f
def help_Bytes.C : Hd := hnil
theorem help_Bytes.C_ok : CSound Try.prog help_Bytes.C := hnil_ok
def help_Bytes.D : Nat → Plan := fun i => .done
noncomputable def help_Bytes.c : Code := Try.f18.body.getD .skip
theorem help_Bytes.hb : Try.f18.body = some help_Bytes.c := by kernel_rfl
theorem help_Bytes.c_loops : loopsOf help_Bytes.c = [] := by kernel_rfl
def help_Bytes.L : LHd := fun l f w K => False
theorem help_Bytes.eq (a0 : Option Addr) (a0n : Nat) (a0c : Nat) (a1 : Option Addr) (a1n : Nat) (a1c : Nat) (w : World) (K : Value → World → Prop) : afn help_Bytes.C help_Bytes.L help_Bytes.D tab Try.f18 [(Value.slice a0 a0n a0c), (Value.slice a1 a1n a1c)] w K = help_Bytes.f a0 a0n a0c a1 a1n a1c w (fun r0 w => K (Value.bool r0) w) := by kernel_rfl
theorem help_Bytes.ok : FSound Try.prog 18 help_Bytes.h := by
  intro args w K h
  unfold help_Bytes.h help_Bytes.H at h
  split at h
  ·
    replace h := vL_ok h
    obtain ⟨a0, a0n, a0c, rfl, h⟩ := h
    replace h := vL_ok h
    obtain ⟨a1, a1n, a1c, rfl, h⟩ := h
    refine ⟨by kernel_rfl, fn_ok tab_ok help_Bytes.C_ok (L := help_Bytes.L) (D := help_Bytes.D) Try.func18 help_Bytes.hb (by kernel_rfl) (by rw [help_Bytes.c_loops]; exact lnil) (Nat.le_of_ble_eq_true (by kernel_rfl)) ?_⟩
    rw [help_Bytes.eq]
    exact h
  · exact h.elim
/-! ### valise/coder.whole: function 49 -/
def coder_whole.f  (w : World) (K : Int → Int → World → Prop) : Prop :=
  newC 83 [(Value.int .u32 0), (Value.int .u32 0)] w fun a0_2 w =>
  stCs a0_2 [(Value.int .u32 0), (Value.int .u32 4294967295)] 0 w fun w =>
  ldI .u32 (a0_2.add 0) w fun q_4_0 =>
  ldI .u32 (a0_2.add 1) w fun q_4_1 =>
  K q_4_0 q_4_1 w
def coder_whole.H (F : type_of% @coder_whole.f) : Hf := fun args w K => match args with
  | [] =>  F  w (fun r0_0 r0_1 w => K (Value.agg #[(Value.int .u32 r0_0), (Value.int .u32 r0_1)]) w)
  | _ => False
def coder_whole.h : Hf := coder_whole.H @coder_whole.f
def coder_whole.C : Hd := hnil
theorem coder_whole.C_ok : CSound Try.prog coder_whole.C := hnil_ok
def coder_whole.D : Nat → Plan := fun i => .done
noncomputable def coder_whole.c : Code := Try.f49.body.getD .skip
theorem coder_whole.hb : Try.f49.body = some coder_whole.c := by kernel_rfl
theorem coder_whole.c_loops : loopsOf coder_whole.c = [] := by kernel_rfl
def coder_whole.L : LHd := fun l f w K => False
theorem coder_whole.eq  (w : World) (K : Value → World → Prop) : afn coder_whole.C coder_whole.L coder_whole.D tab Try.f49 [] w K = coder_whole.f  w (fun r0_0 r0_1 w => K (Value.agg #[(Value.int .u32 r0_0), (Value.int .u32 r0_1)]) w) := by kernel_rfl
theorem coder_whole.ok : FSound Try.prog 49 coder_whole.h := by
  intro args w K h
  unfold coder_whole.h coder_whole.H at h
  split at h
  ·
    refine ⟨by kernel_rfl, fn_ok tab_ok coder_whole.C_ok (L := coder_whole.L) (D := coder_whole.D) Try.func49 coder_whole.hb (by kernel_rfl) (by rw [coder_whole.c_loops]; exact lnil) (Nat.le_of_ble_eq_true (by kernel_rfl)) ?_⟩
    rw [coder_whole.eq]
    exact h
  · exact h.elim
/-! ### valise/coder.NewEncoder: function 23 -/
def coder_NewEncoder.f  (w : World) (K : Option Addr → World → Prop) : Prop :=
  coder_whole.f  w fun r1_3_0 r1_3_1 w =>
  newC 86 [(Value.int .u32 r1_3_0), (Value.int .u32 r1_3_1), (Value.slice none 0 0)] w fun a3_4 w =>
  K (some a3_4) w
def coder_NewEncoder.H (F : type_of% @coder_NewEncoder.f) : Hf := fun args w K => match args with
  | [] =>  F  w (fun r0 w => K (Value.pointer r0) w)
  | _ => False
def coder_NewEncoder.h : Hf := coder_NewEncoder.H @coder_NewEncoder.f
def coder_NewEncoder.C : Hd := hcons 49 coder_whole.h (hnil)
theorem coder_NewEncoder.C_ok : CSound Try.prog coder_NewEncoder.C := hcons_ok coder_whole.ok (hnil_ok)
def coder_NewEncoder.D : Nat → Plan := fun i => .done
noncomputable def coder_NewEncoder.c : Code := Try.f23.body.getD .skip
theorem coder_NewEncoder.hb : Try.f23.body = some coder_NewEncoder.c := by kernel_rfl
theorem coder_NewEncoder.c_loops : loopsOf coder_NewEncoder.c = [] := by kernel_rfl
def coder_NewEncoder.L : LHd := fun l f w K => False
theorem coder_NewEncoder.eq  (w : World) (K : Value → World → Prop) : afn coder_NewEncoder.C coder_NewEncoder.L coder_NewEncoder.D tab Try.f23 [] w K = coder_NewEncoder.f  w (fun r0 w => K (Value.pointer r0) w) := by kernel_rfl
theorem coder_NewEncoder.ok : FSound Try.prog 23 coder_NewEncoder.h := by
  intro args w K h
  unfold coder_NewEncoder.h coder_NewEncoder.H at h
  split at h
  ·
    refine ⟨by kernel_rfl, fn_ok tab_ok coder_NewEncoder.C_ok (L := coder_NewEncoder.L) (D := coder_NewEncoder.D) Try.func23 coder_NewEncoder.hb (by kernel_rfl) (by rw [coder_NewEncoder.c_loops]; exact lnil) (Nat.le_of_ble_eq_true (by kernel_rfl)) ?_⟩
    rw [coder_NewEncoder.eq]
    exact h
  · exact h.elim
/-! ### valise/valiseref04.full: function 50 -/
def ref04_full.f  (w : World) (K : Int → Int → World → Prop) : Prop :=
  newC 88 [(Value.int .u32 0), (Value.int .u32 0)] w fun a0_2 w =>
  stCs a0_2 [(Value.int .u32 0), (Value.int .u32 4294967295)] 0 w fun w =>
  ldI .u32 (a0_2.add 0) w fun q_4_0 =>
  ldI .u32 (a0_2.add 1) w fun q_4_1 =>
  K q_4_0 q_4_1 w
def ref04_full.H (F : type_of% @ref04_full.f) : Hf := fun args w K => match args with
  | [] =>  F  w (fun r0_0 r0_1 w => K (Value.agg #[(Value.int .u32 r0_0), (Value.int .u32 r0_1)]) w)
  | _ => False
def ref04_full.h : Hf := ref04_full.H @ref04_full.f
def ref04_full.C : Hd := hnil
theorem ref04_full.C_ok : CSound Try.prog ref04_full.C := hnil_ok
def ref04_full.D : Nat → Plan := fun i => .done
noncomputable def ref04_full.c : Code := Try.f50.body.getD .skip
theorem ref04_full.hb : Try.f50.body = some ref04_full.c := by kernel_rfl
theorem ref04_full.c_loops : loopsOf ref04_full.c = [] := by kernel_rfl
def ref04_full.L : LHd := fun l f w K => False
theorem ref04_full.eq  (w : World) (K : Value → World → Prop) : afn ref04_full.C ref04_full.L ref04_full.D tab Try.f50 [] w K = ref04_full.f  w (fun r0_0 r0_1 w => K (Value.agg #[(Value.int .u32 r0_0), (Value.int .u32 r0_1)]) w) := by kernel_rfl
theorem ref04_full.ok : FSound Try.prog 50 ref04_full.h := by
  intro args w K h
  unfold ref04_full.h ref04_full.H at h
  split at h
  ·
    refine ⟨by kernel_rfl, fn_ok tab_ok ref04_full.C_ok (L := ref04_full.L) (D := ref04_full.D) Try.func50 ref04_full.hb (by kernel_rfl) (by rw [ref04_full.c_loops]; exact lnil) (Nat.le_of_ble_eq_true (by kernel_rfl)) ?_⟩
    rw [ref04_full.eq]
    exact h
  · exact h.elim
/-! ### valise/valiseref04.NewEncoder: function 24 -/
def ref04_NewEncoder.f  (w : World) (K : Option Addr → World → Prop) : Prop :=
  ref04_full.f  w fun r1_3_0 r1_3_1 w =>
  newC 91 [(Value.int .u32 r1_3_0), (Value.int .u32 r1_3_1), (Value.slice none 0 0)] w fun a3_4 w =>
  K (some a3_4) w
def ref04_NewEncoder.H (F : type_of% @ref04_NewEncoder.f) : Hf := fun args w K => match args with
  | [] =>  F  w (fun r0 w => K (Value.pointer r0) w)
  | _ => False
def ref04_NewEncoder.h : Hf := ref04_NewEncoder.H @ref04_NewEncoder.f
def ref04_NewEncoder.C : Hd := hcons 50 ref04_full.h (hnil)
theorem ref04_NewEncoder.C_ok : CSound Try.prog ref04_NewEncoder.C := hcons_ok ref04_full.ok (hnil_ok)
def ref04_NewEncoder.D : Nat → Plan := fun i => .done
noncomputable def ref04_NewEncoder.c : Code := Try.f24.body.getD .skip
theorem ref04_NewEncoder.hb : Try.f24.body = some ref04_NewEncoder.c := by kernel_rfl
theorem ref04_NewEncoder.c_loops : loopsOf ref04_NewEncoder.c = [] := by kernel_rfl
def ref04_NewEncoder.L : LHd := fun l f w K => False
theorem ref04_NewEncoder.eq  (w : World) (K : Value → World → Prop) : afn ref04_NewEncoder.C ref04_NewEncoder.L ref04_NewEncoder.D tab Try.f24 [] w K = ref04_NewEncoder.f  w (fun r0 w => K (Value.pointer r0) w) := by kernel_rfl
theorem ref04_NewEncoder.ok : FSound Try.prog 24 ref04_NewEncoder.h := by
  intro args w K h
  unfold ref04_NewEncoder.h ref04_NewEncoder.H at h
  split at h
  ·
    refine ⟨by kernel_rfl, fn_ok tab_ok ref04_NewEncoder.C_ok (L := ref04_NewEncoder.L) (D := ref04_NewEncoder.D) Try.func24 ref04_NewEncoder.hb (by kernel_rfl) (by rw [ref04_NewEncoder.c_loops]; exact lnil) (Nat.le_of_ble_eq_true (by kernel_rfl)) ?_⟩
    rw [ref04_NewEncoder.eq]
    exact h
  · exact h.elim
/-! ### (*valise/coder.span).mid: function 52 -/
def coder_span_mid.f (a0 : Option Addr) (a1 : Int) (w : World) (K : Int → World → Prop) : Prop :=
  let v5_3 := (IntKind.wrap .u32 (mx 1 (mn a1 4095)))
  sm a0 fun p_5 =>
  ldI .u32 (p_5.add 1) w.drew fun x14_6 =>
  sm a0 fun p_7 =>
  ldI .u32 p_7 w.drew fun x18_8 =>
  let v6_9 := (IntKind.wrap .u32 (x14_6 - x18_8))
  sm a0 fun p_11 =>
  ldI .u32 p_11 w.drew fun x23_12 =>
  let v4_13 := (IntKind.wrap .u32 ((IntKind.wrap .u32 (x23_12 + (IntKind.wrap .u32 ((IntKind.wrap .u32 (Int.tdiv v6_9 4096)) * v5_3)))) + (IntKind.wrap .u32 (Int.tdiv (IntKind.wrap .u32 ((Int.tmod v6_9 4096) * v5_3)) 4096))))
  K v4_13 w.drew
def coder_span_mid.H (F : type_of% @coder_span_mid.f) : Hf := fun args w K => match args with
  | [v0, v1] => vP v0 fun a0 => vI .i64 v1 fun a1 => F a0 a1 w (fun r0 w => K (Value.int .u32 r0) w)
  | _ => False
def coder_span_mid.h : Hf := coder_span_mid.H @coder_span_mid.f
def coder_span_mid.C : Hd := hnil
theorem coder_span_mid.C_ok : CSound Try.prog coder_span_mid.C := hnil_ok
def coder_span_mid.D : Nat → Plan := fun i => (match Nat.beq i 2 with | true => .take 0 (.take 1 (.take 2 (.take 3 (.take 4 (.take 5 (.take 6 (.take 7 (.take 8 (.take 9 (.done)))))))))) | false => .done)
noncomputable def coder_span_mid.c : Code := Try.f52.body.getD .skip
theorem coder_span_mid.hb : Try.f52.body = some coder_span_mid.c := by kernel_rfl
theorem coder_span_mid.c_loops : loopsOf coder_span_mid.c = [] := by kernel_rfl
def coder_span_mid.L : LHd := fun l f w K => False
theorem coder_span_mid.eq (a0 : Option Addr) (a1 : Int) (w : World) (K : Value → World → Prop) : afn coder_span_mid.C coder_span_mid.L coder_span_mid.D tab Try.f52 [(Value.pointer a0), (Value.int .i64 a1)] w K = coder_span_mid.f a0 a1 w (fun r0 w => K (Value.int .u32 r0) w) := by kernel_rfl
theorem coder_span_mid.ok : FSound Try.prog 52 coder_span_mid.h := by
  intro args w K h
  unfold coder_span_mid.h coder_span_mid.H at h
  split at h
  ·
    replace h := vP_ok h
    obtain ⟨a0, rfl, h⟩ := h
    replace h := vI_ok h
    obtain ⟨a1, rfl, h⟩ := h
    refine ⟨by kernel_rfl, fn_ok tab_ok coder_span_mid.C_ok (L := coder_span_mid.L) (D := coder_span_mid.D) Try.func52 coder_span_mid.hb (by kernel_rfl) (by rw [coder_span_mid.c_loops]; exact lnil) (Nat.le_of_ble_eq_true (by kernel_rfl)) ?_⟩
    rw [coder_span_mid.eq]
    exact h
  · exact h.elim
/-! ### (*valise/coder.span).take: function 51 -/
def coder_span_take.f (a0 : Option Addr) (a1 : Int) (a2 : Int) (w : World) (K : World → Prop) : Prop :=
  bif (a1 != 0) then
    sm a0 fun p_2 =>
    stC (p_2.add 1) (Value.int .u32 a2) w fun w =>
    K w
  else
    sm a0 fun p_3 =>
    stC p_3 (Value.int .u32 (IntKind.wrap .u32 (a2 + 1))) w fun w =>
    K w
def coder_span_take.H (F : type_of% @coder_span_take.f) : Hf := fun args w K => match args with
  | [v0, v1, v2] => vP v0 fun a0 => vI .i64 v1 fun a1 => vI .u32 v2 fun a2 => F a0 a1 a2 w (fun w => K (Value.tuple #[]) w)
  | _ => False
def coder_span_take.h : Hf := coder_span_take.H @coder_span_take.f
def coder_span_take.C : Hd := hnil
theorem coder_span_take.C_ok : CSound Try.prog coder_span_take.C := hnil_ok
def coder_span_take.D : Nat → Plan := fun i => .done
noncomputable def coder_span_take.c : Code := Try.f51.body.getD .skip
theorem coder_span_take.hb : Try.f51.body = some coder_span_take.c := by kernel_rfl
theorem coder_span_take.c_loops : loopsOf coder_span_take.c = [] := by kernel_rfl
def coder_span_take.L : LHd := fun l f w K => False
theorem coder_span_take.eq (a0 : Option Addr) (a1 : Int) (a2 : Int) (w : World) (K : Value → World → Prop) : afn coder_span_take.C coder_span_take.L coder_span_take.D tab Try.f51 [(Value.pointer a0), (Value.int .i64 a1), (Value.int .u32 a2)] w K = coder_span_take.f a0 a1 a2 w (fun w => K (Value.tuple #[]) w) := by kernel_rfl
theorem coder_span_take.ok : FSound Try.prog 51 coder_span_take.h := by
  intro args w K h
  unfold coder_span_take.h coder_span_take.H at h
  split at h
  ·
    replace h := vP_ok h
    obtain ⟨a0, rfl, h⟩ := h
    replace h := vI_ok h
    obtain ⟨a1, rfl, h⟩ := h
    replace h := vI_ok h
    obtain ⟨a2, rfl, h⟩ := h
    refine ⟨by kernel_rfl, fn_ok tab_ok coder_span_take.C_ok (L := coder_span_take.L) (D := coder_span_take.D) Try.func51 coder_span_take.hb (by kernel_rfl) (by rw [coder_span_take.c_loops]; exact lnil) (Nat.le_of_ble_eq_true (by kernel_rfl)) ?_⟩
    rw [coder_span_take.eq]
    exact h
  · exact h.elim
/-! ### (*valise/coder.span).shift: function 53 -/
def coder_span_shift.f (a0 : Option Addr) (w : World) (K : Int → Bool → World → Prop) : Prop :=
  sm a0 fun p_4 =>
  ldI .u32 p_4 w.drew fun x8_5 =>
  sm a0 fun p_6 =>
  ldI .u32 (p_6.add 1) w.drew fun x13_7 =>
  bif ((shr .u32 x8_5 24) != (shr .u32 x13_7 24)) then
    K 0 false w.drew
  else
    sm a0 fun p_10 =>
    ldI .u32 p_10 w.drew fun x19_11 =>
    let v4_12 := (IntKind.wrap .u8 (shr .u32 x19_11 24))
    sm a0 fun p_14 =>
    ldI .u32 p_14 w.drew.drew fun x27_15 =>
    sm a0 fun p_16 =>
    ldI .u32 (p_16.add 1) w.drew.drew fun x32_17 =>
    sm a0 fun p_18 =>
    stC p_18 (Value.int .u32 (shl .u32 x27_15 8)) w.drew.drew fun w =>
    sm a0 fun p_19 =>
    stC (p_19.add 1) (Value.int .u32 (bor .u32 (shl .u32 x32_17 8) 255)) w fun w =>
    K v4_12 true w
def coder_span_shift.H (F : type_of% @coder_span_shift.f) : Hf := fun args w K => match args with
  | [v0] => vP v0 fun a0 => F a0 w (fun r0 r1 w => K (Value.tuple #[(Value.int .u8 r0), (Value.bool r1)]) w)
  | _ => False
def coder_span_shift.h : Hf := coder_span_shift.H @coder_span_shift.f
def coder_span_shift.C : Hd := hnil
theorem coder_span_shift.C_ok : CSound Try.prog coder_span_shift.C := hnil_ok
def coder_span_shift.D : Nat → Plan := fun i => (match Nat.beq i 4 with | true => .take 0 (.take 1 (.take 2 (.take 3 (.take 4 (.take 5 (.take 6 (.take 7 (.take 8 (.take 9 (.take 10 (.take 11 (.take 12 (.take 13 (.take 14 (.eff 15 (.take 16 (.take 17 (.eff 18 (.done))))))))))))))))))) | false => (match Nat.beq i 1 with | true => .take 0 (.take 1 (.take 2 (.take 3 (.take 4 (.take 5 (.take 6 (.take 7 (.take 8 (.take 9 (.take 10 (.done))))))))))) | false => .done))
noncomputable def coder_span_shift.c : Code := Try.f53.body.getD .skip
theorem coder_span_shift.hb : Try.f53.body = some coder_span_shift.c := by kernel_rfl
theorem coder_span_shift.c_loops : loopsOf coder_span_shift.c = [] := by kernel_rfl
def coder_span_shift.L : LHd := fun l f w K => False
theorem coder_span_shift.eq (a0 : Option Addr) (w : World) (K : Value → World → Prop) : afn coder_span_shift.C coder_span_shift.L coder_span_shift.D tab Try.f53 [(Value.pointer a0)] w K = coder_span_shift.f a0 w (fun r0 r1 w => K (Value.tuple #[(Value.int .u8 r0), (Value.bool r1)]) w) := by kernel_rfl
theorem coder_span_shift.ok : FSound Try.prog 53 coder_span_shift.h := by
  intro args w K h
  unfold coder_span_shift.h coder_span_shift.H at h
  split at h
  ·
    replace h := vP_ok h
    obtain ⟨a0, rfl, h⟩ := h
    refine ⟨by kernel_rfl, fn_ok tab_ok coder_span_shift.C_ok (L := coder_span_shift.L) (D := coder_span_shift.D) Try.func53 coder_span_shift.hb (by kernel_rfl) (by rw [coder_span_shift.c_loops]; exact lnil) (Nat.le_of_ble_eq_true (by kernel_rfl)) ?_⟩
    rw [coder_span_shift.eq]
    exact h
  · exact h.elim
/-! ### (*valise/coder.Encoder).Encode: function 26 -/
def coder_Encoder_Encode.l3 : Nat → Option Addr → Int → Bool → World → (World → Prop) → Prop
  | 0, _, _, _, _, _ => False
  | N + 1, y0, y6, y7, w, K0 =>
    bif y7 then
      sm y0 fun p_14 =>
      ldL (p_14.add 2) w fun x39_15 x39_15n x39_15c =>
      newC 5 [(Value.int .u8 y6)] w fun a41_16 w =>
      appL 5 1 1 [(Value.int .u8 0)] x39_15 x39_15n x39_15c (some a41_16) 1 1 w fun a42_17 a42_17n a42_17c w =>
      sm y0 fun p_18 =>
      stC (p_18.add 2) (Value.slice a42_17 a42_17n a42_17c) w fun w =>
      sm y0 fun p_19 =>
      coder_span_shift.f (some p_19) w fun r32_20 r32_21 w =>
      coder_Encoder_Encode.l3 N y0 r32_20 r32_21 w K0
    else
      K0 w

def coder_Encoder_Encode.f (a0 : Option Addr) (a1 : Int) (a2 : Int) (w : World) (K : World → Prop) : Prop :=
  bif a0.isNone then
    K w
  else
    sm a0 fun p_4 =>
    sm a0 fun p_5 =>
    coder_span_mid.f (some p_5) a2 w.drew fun r18_6 w =>
    coder_span_take.f (some p_4) a1 r18_6 w fun w =>
    sm a0 fun p_8 =>
    coder_span_shift.f (some p_8) w fun r24_9 r24_10 w =>
    ∃ N_22 : Nat, coder_Encoder_Encode.l3 N_22 a0 r24_9 r24_10 w
    (fun w =>
      K w)
def coder_Encoder_Encode.H (F : type_of% @coder_Encoder_Encode.f) : Hf := fun args w K => match args with
  | [v0, v1, v2] => vP v0 fun a0 => vI .i64 v1 fun a1 => vI .i64 v2 fun a2 => F a0 a1 a2 w (fun w => K (Value.tuple #[]) w)
  | _ => False
def coder_Encoder_Encode.h : Hf := coder_Encoder_Encode.H @coder_Encoder_Encode.f
def coder_Encoder_Encode.CG (F52 : type_of% @coder_span_mid.f) (F51 : type_of% @coder_span_take.f) (F53 : type_of% @coder_span_shift.f) : Hd := hcons 53 (coder_span_shift.H F53) (hcons 51 (coder_span_take.H F51) (hcons 52 (coder_span_mid.H F52) (hnil)))
def coder_Encoder_Encode.C : Hd := coder_Encoder_Encode.CG @coder_span_mid.f @coder_span_take.f @coder_span_shift.f
def coder_Encoder_Encode.G (F52 : type_of% @coder_span_mid.f) (F51 : type_of% @coder_span_take.f) (F53 : type_of% @coder_span_shift.f) (a0 : Option Addr) (a1 : Int) (a2 : Int) (w : World) (K : World → Prop) : Prop :=
  bif a0.isNone then
    K w
  else
    sm a0 fun p_4 =>
    sm a0 fun p_5 =>
    F52 (some p_5) a2 w.drew fun r18_6 w =>
    F51 (some p_4) a1 r18_6 w fun w =>
    sm a0 fun p_8 =>
    F53 (some p_8) w fun r24_9 r24_10 w =>
    ∃ N_22 : Nat, coder_Encoder_Encode.l3 N_22 a0 r24_9 r24_10 w
    (fun w =>
      K w)
theorem coder_Encoder_Encode.C_ok : CSound Try.prog coder_Encoder_Encode.C := hcons_ok coder_span_shift.ok (hcons_ok coder_span_take.ok (hcons_ok coder_span_mid.ok (hnil_ok)))
def coder_Encoder_Encode.D : Nat → Plan := fun i => (match Nat.beq i 1 with | true => .take 0 (.take 1 (.take 2 (.take 3 (.take 4 (.take 5 (.take 6 (.take 7 (.eff 8 (.eff 9 (.done)))))))))) | false => .done)
noncomputable def coder_Encoder_Encode.c : Code := Try.f26.body.getD .skip
theorem coder_Encoder_Encode.hb : Try.f26.body = some coder_Encoder_Encode.c := by kernel_rfl
noncomputable def coder_Encoder_Encode.b0 : Code := (loopsOf coder_Encoder_Encode.c).getD 0 .skip
theorem coder_Encoder_Encode.b0_loops : loopsOf coder_Encoder_Encode.b0 = [] := by kernel_rfl
theorem coder_Encoder_Encode.c_loops : loopsOf coder_Encoder_Encode.c = [coder_Encoder_Encode.b0] := by kernel_rfl
def coder_Encoder_Encode.l3G (F52 : type_of% @coder_span_mid.f) (F51 : type_of% @coder_span_take.f) (F53 : type_of% @coder_span_shift.f) (R : Option Addr → Int → Bool → World → (World → Prop) → Prop) : Option Addr → Int → Bool → World → (World → Prop) → Prop := fun y0 y6 y7 w K0 =>
    bif y7 then
      sm y0 fun p_14 =>
      ldL (p_14.add 2) w fun x39_15 x39_15n x39_15c =>
      newC 5 [(Value.int .u8 y6)] w fun a41_16 w =>
      appL 5 1 1 [(Value.int .u8 0)] x39_15 x39_15n x39_15c (some a41_16) 1 1 w fun a42_17 a42_17n a42_17c w =>
      sm y0 fun p_18 =>
      stC (p_18.add 2) (Value.slice a42_17 a42_17n a42_17c) w fun w =>
      sm y0 fun p_19 =>
      F53 (some p_19) w fun r32_20 r32_21 w =>
      R y0 r32_20 r32_21 w K0
    else
      K0 w

def coder_Encoder_Encode.hn3 (N : Nat) (f : Fr) (w : World) (K : AExit → Fr → World → Prop) : Prop :=
  gN f 45 <| gP f 0 fun y0 => gI .u8 f 6 fun y6 => gB f 7 fun y7 => coder_Encoder_Encode.l3 N y0 y6 y7 w (fun w => K (.exit 0) [none, none, none, none, none, none, none, none, none, none, none, none, none, none, none, none, none, none, none, none, none, none, none, none, none, none, none, none, none, none, none, none, none, none, none, none, none, none, none, none, none, none, none, none, none] w)
def coder_Encoder_Encode.hx3 : AExit → Fr → World → (AExit → Fr → World → Prop) → Prop := fun e f w K => match e with
  | .normal => False
  | .exit i => (match Nat.beq i 0 with | true => gN f 45 <|  K (.exit 0) [none, none, none, none, none, none, none, none, none, none, none, none, none, none, none, none, none, none, none, none, none, none, none, none, none, none, none, none, none, none, none, none, none, none, none, none, none, none, none, none, none, none, none, none, none] w | false => False)
  | .ret => False
def coder_Encoder_Encode.L : LHd := fun l f w K => (match Nat.beq l 3 with | true => ∃ N, coder_Encoder_Encode.hn3 N f w K | false => False)
theorem coder_Encoder_Encode.leG3 (F52 : type_of% @coder_span_mid.f) (F51 : type_of% @coder_span_take.f) (F53 : type_of% @coder_span_shift.f) (N : Nat) (y0 : Option Addr) (y6 : Int) (y7 : Bool) (w : World) (K : AExit → Fr → World → Prop) : awp (coder_Encoder_Encode.CG F52 F51 F53) coder_Encoder_Encode.L coder_Encoder_Encode.D tab coder_Encoder_Encode.b0 (lpost coder_Encoder_Encode.hn3 coder_Encoder_Encode.hx3 N K) [some (Value.pointer y0), none, none, none, none, none, some (Value.int .u8 y6), some (Value.bool y7), none, none, none, none, none, none, none, none, none, none, none, none, none, none, none, none, none, none, none, none, none, none, none, none, none, none, none, none, none, none, none, none, none, none, none, none, none] w = coder_Encoder_Encode.l3G F52 F51 F53 (coder_Encoder_Encode.l3 N) y0 y6 y7 w (fun w => K (.exit 0) [none, none, none, none, none, none, none, none, none, none, none, none, none, none, none, none, none, none, none, none, none, none, none, none, none, none, none, none, none, none, none, none, none, none, none, none, none, none, none, none, none, none, none, none, none] w) := by kernel_rfl
theorem coder_Encoder_Encode.les3 (N : Nat) : coder_Encoder_Encode.l3 (N + 1) = coder_Encoder_Encode.l3G @coder_span_mid.f @coder_span_take.f @coder_span_shift.f (coder_Encoder_Encode.l3 N) := by kernel_rfl
theorem coder_Encoder_Encode.le3 (N : Nat) (y0 : Option Addr) (y6 : Int) (y7 : Bool) (w : World) (K : AExit → Fr → World → Prop) : awp coder_Encoder_Encode.C coder_Encoder_Encode.L coder_Encoder_Encode.D tab coder_Encoder_Encode.b0 (lpost coder_Encoder_Encode.hn3 coder_Encoder_Encode.hx3 N K) [some (Value.pointer y0), none, none, none, none, none, some (Value.int .u8 y6), some (Value.bool y7), none, none, none, none, none, none, none, none, none, none, none, none, none, none, none, none, none, none, none, none, none, none, none, none, none, none, none, none, none, none, none, none, none, none, none, none, none] w = coder_Encoder_Encode.l3 (N + 1) y0 y6 y7 w (fun w => K (.exit 0) [none, none, none, none, none, none, none, none, none, none, none, none, none, none, none, none, none, none, none, none, none, none, none, none, none, none, none, none, none, none, none, none, none, none, none, none, none, none, none, none, none, none, none, none, none] w) := by
  rw [coder_Encoder_Encode.les3]
  exact coder_Encoder_Encode.leG3 @coder_span_mid.f @coder_span_take.f @coder_span_shift.f N y0 y6 y7 w K
theorem coder_Encoder_Encode.lok3 : LoopOk Try.prog coder_Encoder_Encode.L coder_Encoder_Encode.b0 := by
  refine loop_ok tab_ok coder_Encoder_Encode.C_ok (D := coder_Encoder_Encode.D) (coder_Encoder_Encode.hn3) (coder_Encoder_Encode.hx3) (by kernel_rfl) (by rw [coder_Encoder_Encode.b0_loops]; exact lnil) ?_ ?_ ?_ ?_
  · intro f w K h
    unfold coder_Encoder_Encode.hn3 at h
    obtain ⟨hlen, h⟩ := gN_ok h
    obtain ⟨y0, h0, h⟩ := gP_ok h
    obtain ⟨y6, h6, h⟩ := gI_ok h
    obtain ⟨y7, h7, h⟩ := gB_ok h
    exact h
  · intro N f w K h
    unfold coder_Encoder_Encode.hn3 at h
    obtain ⟨hlen, h⟩ := gN_ok h
    obtain ⟨y0, h0, h⟩ := gP_ok h
    obtain ⟨y6, h6, h⟩ := gI_ok h
    obtain ⟨y7, h7, h⟩ := gB_ok h
    refine ⟨[some (Value.pointer y0), none, none, none, none, none, some (Value.int .u8 y6), some (Value.bool y7), none, none, none, none, none, none, none, none, none, none, none, none, none, none, none, none, none, none, none, none, none, none, none, none, none, none, none, none, none, none, none, none, none, none, none, none, none], hlen, ⟨h0, h6, h7, trivial⟩, ?_⟩
    rw [coder_Encoder_Encode.le3]
    exact h
  · intro e f w K h
    cases e with
    | normal => exact h.elim
    | exit i =>
      unfold coder_Encoder_Encode.hx3 at h
      simp only at h
      split at h
      · rename_i hb
        obtain rfl := Nat.eq_of_beq_eq_true hb
        obtain ⟨hlen, h⟩ := gN_ok h
        exact ⟨[none, none, none, none, none, none, none, none, none, none, none, none, none, none, none, none, none, none, none, none, none, none, none, none, none, none, none, none, none, none, none, none, none, none, none, none, none, none, none, none, none, none, none, none, none], hlen, trivial, h⟩
      · exact (show False from h).elim
    | ret =>
      exact (show False from h).elim
  · intro f w K h
    have e : lid coder_Encoder_Encode.b0 = 3 := by kernel_rfl
    rw [e] at h
    exact h
theorem coder_Encoder_Encode.eqG (F52 : type_of% @coder_span_mid.f) (F51 : type_of% @coder_span_take.f) (F53 : type_of% @coder_span_shift.f) (a0 : Option Addr) (a1 : Int) (a2 : Int) (w : World) (K : Value → World → Prop) : afn (coder_Encoder_Encode.CG F52 F51 F53) coder_Encoder_Encode.L coder_Encoder_Encode.D tab Try.f26 [(Value.pointer a0), (Value.int .i64 a1), (Value.int .i64 a2)] w K = coder_Encoder_Encode.G F52 F51 F53 a0 a1 a2 w (fun w => K (Value.tuple #[]) w) := by kernel_rfl
theorem coder_Encoder_Encode.eq (a0 : Option Addr) (a1 : Int) (a2 : Int) (w : World) (K : Value → World → Prop) : afn coder_Encoder_Encode.C coder_Encoder_Encode.L coder_Encoder_Encode.D tab Try.f26 [(Value.pointer a0), (Value.int .i64 a1), (Value.int .i64 a2)] w K = coder_Encoder_Encode.f a0 a1 a2 w (fun w => K (Value.tuple #[]) w) := coder_Encoder_Encode.eqG @coder_span_mid.f @coder_span_take.f @coder_span_shift.f a0 a1 a2 w K
theorem coder_Encoder_Encode.ok : FSound Try.prog 26 coder_Encoder_Encode.h := by
  intro args w K h
  unfold coder_Encoder_Encode.h coder_Encoder_Encode.H at h
  split at h
  ·
    replace h := vP_ok h
    obtain ⟨a0, rfl, h⟩ := h
    replace h := vI_ok h
    obtain ⟨a1, rfl, h⟩ := h
    replace h := vI_ok h
    obtain ⟨a2, rfl, h⟩ := h
    refine ⟨by kernel_rfl, fn_ok tab_ok coder_Encoder_Encode.C_ok (L := coder_Encoder_Encode.L) (D := coder_Encoder_Encode.D) Try.func26 coder_Encoder_Encode.hb (by kernel_rfl) (by rw [coder_Encoder_Encode.c_loops]; exact lcons coder_Encoder_Encode.lok3 (lnil)) (Nat.le_of_ble_eq_true (by kernel_rfl)) ?_⟩
    rw [coder_Encoder_Encode.eq]
    exact h
  · exact h.elim
/-! ### (*valise/coder.Encoder).Flush: function 28 -/
def coder_Encoder_Flush.f (a0 : Option Addr) (w : World) (K : Option Addr → Nat → Nat → World → Prop) : Prop :=
  bif a0.isNone then
    K none 0 0 w
  else
    sm a0 fun p_6 =>
    ldL (p_6.add 2) w.drew fun x9_7 x9_7n x9_7c =>
    sm a0 fun p_8 =>
    ldI .u32 p_8 w.drew fun x14_9 =>
    sm a0 fun p_10 =>
    ldI .u32 p_10 w.drew fun x21_11 =>
    sm a0 fun p_12 =>
    ldI .u32 p_12 w.drew fun x28_13 =>
    sm a0 fun p_14 =>
    ldI .u32 p_14 w.drew fun x35_15 =>
    newC 5 [(Value.int .u8 (IntKind.wrap .u8 (shr .u32 x14_9 24))), (Value.int .u8 (IntKind.wrap .u8 (shr .u32 x21_11 16))), (Value.int .u8 (IntKind.wrap .u8 (shr .u32 x28_13 8))), (Value.int .u8 (IntKind.wrap .u8 x35_15))] w.drew fun a37_16 w =>
    (World.cell? w p_14 = some (.int .u32 x35_15)) ∧
    ((World.cell? w p_12 = some (.int .u32 x28_13)) ∧
    ((World.cell? w p_10 = some (.int .u32 x21_11)) ∧
    ((World.cell? w p_8 = some (.int .u32 x14_9)) ∧
    ((World.cell? w (p_6.add 2) = some (.slice x9_7 x9_7n x9_7c)) ∧
    (appL 5 1 1 [(Value.int .u8 0)] x9_7 x9_7n x9_7c (some a37_16) 4 4 w fun a38_17 a38_17n a38_17c w =>
    (World.cell? w p_14 = some (.int .u32 x35_15)) ∧
    ((World.cell? w p_12 = some (.int .u32 x28_13)) ∧
    ((World.cell? w p_10 = some (.int .u32 x21_11)) ∧
    ((World.cell? w p_8 = some (.int .u32 x14_9)) ∧
    (coder_NewEncoder.f  w fun r40_19 w =>
    sm r40_19 fun p_20 =>
    ldI .u32 (p_20.add 0) w fun x42_21 =>
    ldI .u32 (p_20.add 1) w fun x42_22 =>
    ldL (p_20.add 2) w fun x42_23 x42_23n x42_23c =>
    sm a0 fun p_24 =>
    stCs p_24 [(Value.int .u32 x42_21), (Value.int .u32 x42_22), (Value.slice x42_23 x42_23n x42_23c)] 0 w fun w =>
    K a38_17 a38_17n a38_17c w)))))))))
def coder_Encoder_Flush.H (F : type_of% @coder_Encoder_Flush.f) : Hf := fun args w K => match args with
  | [v0] => vP v0 fun a0 => F a0 w (fun r0 r0n r0c w => K (Value.slice r0 r0n r0c) w)
  | _ => False
def coder_Encoder_Flush.h : Hf := coder_Encoder_Flush.H @coder_Encoder_Flush.f
def coder_Encoder_Flush.C : Hd := hcons 23 coder_NewEncoder.h (hnil)
theorem coder_Encoder_Flush.C_ok : CSound Try.prog coder_Encoder_Flush.C := hcons_ok coder_NewEncoder.ok (hnil_ok)
def coder_Encoder_Flush.D : Nat → Plan := fun i => (match Nat.beq i 3 with | true => .take 0 (.take 1 (.take 2 (.take 3 (.take 4 (.take 5 (.take 6 (.take 7 (.take 8 (.take 9 (.take 10 (.take 11 (.take 12 (.take 13 (.take 14 (.take 15 (.take 16 (.take 17 (.take 18 (.take 19 (.take 20 (.take 21 (.take 22 (.take 23 (.take 24 (.take 25 (.take 26 (.take 27 (.take 28 (.take 29 (.take 30 (.eff 31 (.eff 32 (.take 33 (.done)))))))))))))))))))))))))))))))))) | false => .done)
noncomputable def coder_Encoder_Flush.c : Code := Try.f28.body.getD .skip
theorem coder_Encoder_Flush.hb : Try.f28.body = some coder_Encoder_Flush.c := by kernel_rfl
theorem coder_Encoder_Flush.c_loops : loopsOf coder_Encoder_Flush.c = [] := by kernel_rfl
def coder_Encoder_Flush.L : LHd := fun l f w K => False
theorem coder_Encoder_Flush.eq (a0 : Option Addr) (w : World) (K : Value → World → Prop) : afn coder_Encoder_Flush.C coder_Encoder_Flush.L coder_Encoder_Flush.D tab Try.f28 [(Value.pointer a0)] w K = coder_Encoder_Flush.f a0 w (fun r0 r0n r0c w => K (Value.slice r0 r0n r0c) w) := by kernel_rfl
theorem coder_Encoder_Flush.ok : FSound Try.prog 28 coder_Encoder_Flush.h := by
  intro args w K h
  unfold coder_Encoder_Flush.h coder_Encoder_Flush.H at h
  split at h
  ·
    replace h := vP_ok h
    obtain ⟨a0, rfl, h⟩ := h
    refine ⟨by kernel_rfl, fn_ok tab_ok coder_Encoder_Flush.C_ok (L := coder_Encoder_Flush.L) (D := coder_Encoder_Flush.D) Try.func28 coder_Encoder_Flush.hb (by kernel_rfl) (by rw [coder_Encoder_Flush.c_loops]; exact lnil) (Nat.le_of_ble_eq_true (by kernel_rfl)) ?_⟩
    rw [coder_Encoder_Flush.eq]
    exact h
  · exact h.elim
/-! ### valise/valiselaw04.awake: function 25 -/
def law04_awake.f  (w : World) (K : Bool → World → Prop) : Prop :=
  coder_NewEncoder.f  w fun r3_3 w =>
  bif r3_3.isNone then
    K false w
  else
    coder_Encoder_Encode.f r3_3 0 2048 w fun w =>
    coder_Encoder_Flush.f r3_3 w fun r9_9 r9_9n r9_9c w =>
    bif (((r9_9n : Nat) : Int) == 4) then
      sm r9_9 fun p_11 =>
      if 0 ≤ (0 : Int) ∧ (0 : Int) < ((r9_9n : Nat) : Int) then
      ldI .u8 p_11 w fun x16_12 =>
      bif (x16_12 == 128) then
        sm r9_9 fun p_13 =>
        if 0 ≤ (3 : Int) ∧ (3 : Int) < ((r9_9n : Nat) : Int) then
        ldI .u8 (p_13.add 3) w fun x22_14 =>
        let v0_15 := (x22_14 == 0)
        K v0_15 w
        else False
      else
        K false w
      else False
    else
      K false w
def law04_awake.H (F : type_of% @law04_awake.f) : Hf := fun args w K => match args with
  | [] =>  F  w (fun r0 w => K (Value.bool r0) w)
  | _ => False
def law04_awake.h : Hf := law04_awake.H @law04_awake.f
def law04_awake.CG (F23 : type_of% @coder_NewEncoder.f) (F26 : type_of% @coder_Encoder_Encode.f) (F28 : type_of% @coder_Encoder_Flush.f) : Hd := hcons 28 (coder_Encoder_Flush.H F28) (hcons 26 (coder_Encoder_Encode.H F26) (hcons 23 (coder_NewEncoder.H F23) (hnil)))
def law04_awake.C : Hd := law04_awake.CG @coder_NewEncoder.f @coder_Encoder_Encode.f @coder_Encoder_Flush.f
def law04_awake.G (F23 : type_of% @coder_NewEncoder.f) (F26 : type_of% @coder_Encoder_Encode.f) (F28 : type_of% @coder_Encoder_Flush.f)  (w : World) (K : Bool → World → Prop) : Prop :=
  F23  w fun r3_3 w =>
  bif r3_3.isNone then
    K false w
  else
    F26 r3_3 0 2048 w fun w =>
    F28 r3_3 w fun r9_9 r9_9n r9_9c w =>
    bif (((r9_9n : Nat) : Int) == 4) then
      sm r9_9 fun p_11 =>
      if 0 ≤ (0 : Int) ∧ (0 : Int) < ((r9_9n : Nat) : Int) then
      ldI .u8 p_11 w fun x16_12 =>
      bif (x16_12 == 128) then
        sm r9_9 fun p_13 =>
        if 0 ≤ (3 : Int) ∧ (3 : Int) < ((r9_9n : Nat) : Int) then
        ldI .u8 (p_13.add 3) w fun x22_14 =>
        let v0_15 := (x22_14 == 0)
        K v0_15 w
        else False
      else
        K false w
      else False
    else
      K false w
theorem law04_awake.C_ok : CSound Try.prog law04_awake.C := hcons_ok coder_Encoder_Flush.ok (hcons_ok coder_Encoder_Encode.ok (hcons_ok coder_NewEncoder.ok (hnil_ok)))
def law04_awake.D : Nat → Plan := fun i => .done
noncomputable def law04_awake.c : Code := Try.f25.body.getD .skip
theorem law04_awake.hb : Try.f25.body = some law04_awake.c := by kernel_rfl
theorem law04_awake.c_loops : loopsOf law04_awake.c = [] := by kernel_rfl
def law04_awake.L : LHd := fun l f w K => False
theorem law04_awake.eqG (F23 : type_of% @coder_NewEncoder.f) (F26 : type_of% @coder_Encoder_Encode.f) (F28 : type_of% @coder_Encoder_Flush.f)  (w : World) (K : Value → World → Prop) : afn (law04_awake.CG F23 F26 F28) law04_awake.L law04_awake.D tab Try.f25 [] w K = law04_awake.G F23 F26 F28  w (fun r0 w => K (Value.bool r0) w) := by kernel_rfl
theorem law04_awake.eq  (w : World) (K : Value → World → Prop) : afn law04_awake.C law04_awake.L law04_awake.D tab Try.f25 [] w K = law04_awake.f  w (fun r0 w => K (Value.bool r0) w) := law04_awake.eqG @coder_NewEncoder.f @coder_Encoder_Encode.f @coder_Encoder_Flush.f  w K
theorem law04_awake.ok : FSound Try.prog 25 law04_awake.h := by
  intro args w K h
  unfold law04_awake.h law04_awake.H at h
  split at h
  ·
    refine ⟨by kernel_rfl, fn_ok tab_ok law04_awake.C_ok (L := law04_awake.L) (D := law04_awake.D) Try.func25 law04_awake.hb (by kernel_rfl) (by rw [law04_awake.c_loops]; exact lnil) (Nat.le_of_ble_eq_true (by kernel_rfl)) ?_⟩
    rw [law04_awake.eq]
    exact h
  · exact h.elim
/-! ### (valise/valiseref04.Range).Mid: function 59 -/
def ref04_Range_Mid.f (a0_0 : Int) (a0_1 : Int) (a1 : Int) (w : World) (K : Int → World → Prop) : Prop :=
  newC 88 [(Value.int .u32 a0_0), (Value.int .u32 a0_1)] w fun a2_2 w =>
  let v5_4 := (IntKind.wrap .u64 (mx 1 (mn a1 4095)))
  ldI .u32 (a2_2.add 1) w fun x12_6 =>
  ldI .u32 a2_2 w fun x14_7 =>
  let v6_8 := (IntKind.wrap .u64 (IntKind.wrap .u32 (x12_6 - x14_7)))
  ldI .u32 a2_2 w fun x18_10 =>
  let v4_11 := (IntKind.wrap .u32 (x18_10 + (IntKind.wrap .u32 (IntKind.wrap .u64 ((IntKind.wrap .u64 ((IntKind.wrap .u64 (Int.tdiv v6_8 4096)) * v5_4)) + (IntKind.wrap .u64 (Int.tdiv (IntKind.wrap .u64 ((Int.tmod v6_8 4096) * v5_4)) 4096)))))))
  K v4_11 w
def ref04_Range_Mid.H (F : type_of% @ref04_Range_Mid.f) : Hf := fun args w K => match args with
  | [v0, v1] => vT v0 fun l => cI .u32 l fun a0_0 l => cI .u32 l fun a0_1 l => cE l <| vI .i64 v1 fun a1 => F a0_0 a0_1 a1 w (fun r0 w => K (Value.int .u32 r0) w)
  | _ => False
def ref04_Range_Mid.h : Hf := ref04_Range_Mid.H @ref04_Range_Mid.f
def ref04_Range_Mid.C : Hd := hnil
theorem ref04_Range_Mid.C_ok : CSound Try.prog ref04_Range_Mid.C := hnil_ok
def ref04_Range_Mid.D : Nat → Plan := fun i => .done
noncomputable def ref04_Range_Mid.c : Code := Try.f59.body.getD .skip
theorem ref04_Range_Mid.hb : Try.f59.body = some ref04_Range_Mid.c := by kernel_rfl
theorem ref04_Range_Mid.c_loops : loopsOf ref04_Range_Mid.c = [] := by kernel_rfl
def ref04_Range_Mid.L : LHd := fun l f w K => False
theorem ref04_Range_Mid.eq (a0_0 : Int) (a0_1 : Int) (a1 : Int) (w : World) (K : Value → World → Prop) : afn ref04_Range_Mid.C ref04_Range_Mid.L ref04_Range_Mid.D tab Try.f59 [(Value.agg #[(Value.int .u32 a0_0), (Value.int .u32 a0_1)]), (Value.int .i64 a1)] w K = ref04_Range_Mid.f a0_0 a0_1 a1 w (fun r0 w => K (Value.int .u32 r0) w) := by kernel_rfl
theorem ref04_Range_Mid.ok : FSound Try.prog 59 ref04_Range_Mid.h := by
  intro args w K h
  unfold ref04_Range_Mid.h ref04_Range_Mid.H at h
  split at h
  ·
    replace h := vT_ok h
    obtain ⟨l, rfl, h⟩ := h
    replace h := cI_ok h; obtain ⟨a0_0, l, rfl, h⟩ := h
    replace h := cI_ok h; obtain ⟨a0_1, l, rfl, h⟩ := h
    replace h := cE_ok h; obtain ⟨rfl, h⟩ := h
    replace h := vI_ok h
    obtain ⟨a1, rfl, h⟩ := h
    refine ⟨by kernel_rfl, fn_ok tab_ok ref04_Range_Mid.C_ok (L := ref04_Range_Mid.L) (D := ref04_Range_Mid.D) Try.func59 ref04_Range_Mid.hb (by kernel_rfl) (by rw [ref04_Range_Mid.c_loops]; exact lnil) (Nat.le_of_ble_eq_true (by kernel_rfl)) ?_⟩
    rw [ref04_Range_Mid.eq]
    exact h
  · exact h.elim
/-! ### (valise/valiseref04.Range).cut: function 54 -/
def ref04_Range_cut.f (a0_0 : Int) (a0_1 : Int) (a1 : Int) (a2 : Int) (w : World) (K : Int → Int → World → Prop) : Prop :=
  newC 88 [(Value.int .u32 a0_0), (Value.int .u32 a0_1)] w fun a3_2 w =>
  newC 88 [(Value.int .u32 0), (Value.int .u32 0)] w fun a6_3 w =>
  ldI .u32 (a3_2.add 0) w fun x8_5 =>
  ldI .u32 (a3_2.add 1) w fun x8_6 =>
  ref04_Range_Mid.f x8_5 x8_6 a2 w fun r10_7 w =>
  bif (a1 != 0) then
    ldI .u32 a3_2 w fun x14_11 =>
    stCs a6_3 [(Value.int .u32 x14_11), (Value.int .u32 r10_7)] 0 w fun w =>
    ldI .u32 (a6_3.add 0) w fun q_12_0 =>
    ldI .u32 (a6_3.add 1) w fun q_12_1 =>
    K q_12_0 q_12_1 w
  else
    ldI .u32 (a3_2.add 1) w fun x20_14 =>
    stCs a6_3 [(Value.int .u32 (IntKind.wrap .u32 (r10_7 + 1))), (Value.int .u32 x20_14)] 0 w fun w =>
    ldI .u32 (a6_3.add 0) w fun q_15_0 =>
    ldI .u32 (a6_3.add 1) w fun q_15_1 =>
    K q_15_0 q_15_1 w
def ref04_Range_cut.H (F : type_of% @ref04_Range_cut.f) : Hf := fun args w K => match args with
  | [v0, v1, v2] => vT v0 fun l => cI .u32 l fun a0_0 l => cI .u32 l fun a0_1 l => cE l <| vI .i64 v1 fun a1 => vI .i64 v2 fun a2 => F a0_0 a0_1 a1 a2 w (fun r0_0 r0_1 w => K (Value.agg #[(Value.int .u32 r0_0), (Value.int .u32 r0_1)]) w)
  | _ => False
def ref04_Range_cut.h : Hf := ref04_Range_cut.H @ref04_Range_cut.f
def ref04_Range_cut.C : Hd := hcons 59 ref04_Range_Mid.h (hnil)
theorem ref04_Range_cut.C_ok : CSound Try.prog ref04_Range_cut.C := hcons_ok ref04_Range_Mid.ok (hnil_ok)
def ref04_Range_cut.D : Nat → Plan := fun i => .done
noncomputable def ref04_Range_cut.c : Code := Try.f54.body.getD .skip
theorem ref04_Range_cut.hb : Try.f54.body = some ref04_Range_cut.c := by kernel_rfl
theorem ref04_Range_cut.c_loops : loopsOf ref04_Range_cut.c = [] := by kernel_rfl
def ref04_Range_cut.L : LHd := fun l f w K => False
theorem ref04_Range_cut.eq (a0_0 : Int) (a0_1 : Int) (a1 : Int) (a2 : Int) (w : World) (K : Value → World → Prop) : afn ref04_Range_cut.C ref04_Range_cut.L ref04_Range_cut.D tab Try.f54 [(Value.agg #[(Value.int .u32 a0_0), (Value.int .u32 a0_1)]), (Value.int .i64 a1), (Value.int .i64 a2)] w K = ref04_Range_cut.f a0_0 a0_1 a1 a2 w (fun r0_0 r0_1 w => K (Value.agg #[(Value.int .u32 r0_0), (Value.int .u32 r0_1)]) w) := by kernel_rfl
theorem ref04_Range_cut.ok : FSound Try.prog 54 ref04_Range_cut.h := by
  intro args w K h
  unfold ref04_Range_cut.h ref04_Range_cut.H at h
  split at h
  ·
    replace h := vT_ok h
    obtain ⟨l, rfl, h⟩ := h
    replace h := cI_ok h; obtain ⟨a0_0, l, rfl, h⟩ := h
    replace h := cI_ok h; obtain ⟨a0_1, l, rfl, h⟩ := h
    replace h := cE_ok h; obtain ⟨rfl, h⟩ := h
    replace h := vI_ok h
    obtain ⟨a1, rfl, h⟩ := h
    replace h := vI_ok h
    obtain ⟨a2, rfl, h⟩ := h
    refine ⟨by kernel_rfl, fn_ok tab_ok ref04_Range_cut.C_ok (L := ref04_Range_cut.L) (D := ref04_Range_cut.D) Try.func54 ref04_Range_cut.hb (by kernel_rfl) (by rw [ref04_Range_cut.c_loops]; exact lnil) (Nat.le_of_ble_eq_true (by kernel_rfl)) ?_⟩
    rw [ref04_Range_cut.eq]
    exact h
  · exact h.elim
/-! ### (valise/valiseref04.Range).out: function 55 -/
def ref04_Range_out.f (a0_0 : Int) (a0_1 : Int) (w : World) (K : Bool → World → Prop) : Prop :=
  newC 88 [(Value.int .u32 a0_0), (Value.int .u32 a0_1)] w fun a1_2 w =>
  ldI .u32 a1_2 w fun x4_4 =>
  ldI .u32 (a1_2.add 1) w fun x7_5 =>
  let v2_6 := ((shr .u32 x4_4 24) == (shr .u32 x7_5 24))
  K v2_6 w
def ref04_Range_out.H (F : type_of% @ref04_Range_out.f) : Hf := fun args w K => match args with
  | [v0] => vT v0 fun l => cI .u32 l fun a0_0 l => cI .u32 l fun a0_1 l => cE l <| F a0_0 a0_1 w (fun r0 w => K (Value.bool r0) w)
  | _ => False
def ref04_Range_out.h : Hf := ref04_Range_out.H @ref04_Range_out.f
def ref04_Range_out.C : Hd := hnil
theorem ref04_Range_out.C_ok : CSound Try.prog ref04_Range_out.C := hnil_ok
def ref04_Range_out.D : Nat → Plan := fun i => .done
noncomputable def ref04_Range_out.c : Code := Try.f55.body.getD .skip
theorem ref04_Range_out.hb : Try.f55.body = some ref04_Range_out.c := by kernel_rfl
theorem ref04_Range_out.c_loops : loopsOf ref04_Range_out.c = [] := by kernel_rfl
def ref04_Range_out.L : LHd := fun l f w K => False
theorem ref04_Range_out.eq (a0_0 : Int) (a0_1 : Int) (w : World) (K : Value → World → Prop) : afn ref04_Range_out.C ref04_Range_out.L ref04_Range_out.D tab Try.f55 [(Value.agg #[(Value.int .u32 a0_0), (Value.int .u32 a0_1)])] w K = ref04_Range_out.f a0_0 a0_1 w (fun r0 w => K (Value.bool r0) w) := by kernel_rfl
theorem ref04_Range_out.ok : FSound Try.prog 55 ref04_Range_out.h := by
  intro args w K h
  unfold ref04_Range_out.h ref04_Range_out.H at h
  split at h
  ·
    replace h := vT_ok h
    obtain ⟨l, rfl, h⟩ := h
    replace h := cI_ok h; obtain ⟨a0_0, l, rfl, h⟩ := h
    replace h := cI_ok h; obtain ⟨a0_1, l, rfl, h⟩ := h
    replace h := cE_ok h; obtain ⟨rfl, h⟩ := h
    refine ⟨by kernel_rfl, fn_ok tab_ok ref04_Range_out.C_ok (L := ref04_Range_out.L) (D := ref04_Range_out.D) Try.func55 ref04_Range_out.hb (by kernel_rfl) (by rw [ref04_Range_out.c_loops]; exact lnil) (Nat.le_of_ble_eq_true (by kernel_rfl)) ?_⟩
    rw [ref04_Range_out.eq]
    exact h
  · exact h.elim
/-! ### (valise/valiseref04.Range).next: function 56 -/
def ref04_Range_next.f (a0_0 : Int) (a0_1 : Int) (w : World) (K : Int → Int → World → Prop) : Prop :=
  newC 88 [(Value.int .u32 a0_0), (Value.int .u32 a0_1)] w fun a1_2 w =>
  newC 88 [(Value.int .u32 0), (Value.int .u32 0)] w fun a2_3 w =>
  ldI .u32 a1_2 w fun x4_5 =>
  ldI .u32 (a1_2.add 1) w fun x7_6 =>
  stCs a2_3 [(Value.int .u32 (shl .u32 x4_5 8)), (Value.int .u32 (bor .u32 (shl .u32 x7_6 8) 255))] 0 w fun w =>
  ldI .u32 (a2_3.add 0) w fun q_7_0 =>
  ldI .u32 (a2_3.add 1) w fun q_7_1 =>
  K q_7_0 q_7_1 w
def ref04_Range_next.H (F : type_of% @ref04_Range_next.f) : Hf := fun args w K => match args with
  | [v0] => vT v0 fun l => cI .u32 l fun a0_0 l => cI .u32 l fun a0_1 l => cE l <| F a0_0 a0_1 w (fun r0_0 r0_1 w => K (Value.agg #[(Value.int .u32 r0_0), (Value.int .u32 r0_1)]) w)
  | _ => False
def ref04_Range_next.h : Hf := ref04_Range_next.H @ref04_Range_next.f
def ref04_Range_next.C : Hd := hnil
theorem ref04_Range_next.C_ok : CSound Try.prog ref04_Range_next.C := hnil_ok
def ref04_Range_next.D : Nat → Plan := fun i => .done
noncomputable def ref04_Range_next.c : Code := Try.f56.body.getD .skip
theorem ref04_Range_next.hb : Try.f56.body = some ref04_Range_next.c := by kernel_rfl
theorem ref04_Range_next.c_loops : loopsOf ref04_Range_next.c = [] := by kernel_rfl
def ref04_Range_next.L : LHd := fun l f w K => False
theorem ref04_Range_next.eq (a0_0 : Int) (a0_1 : Int) (w : World) (K : Value → World → Prop) : afn ref04_Range_next.C ref04_Range_next.L ref04_Range_next.D tab Try.f56 [(Value.agg #[(Value.int .u32 a0_0), (Value.int .u32 a0_1)])] w K = ref04_Range_next.f a0_0 a0_1 w (fun r0_0 r0_1 w => K (Value.agg #[(Value.int .u32 r0_0), (Value.int .u32 r0_1)]) w) := by kernel_rfl
theorem ref04_Range_next.ok : FSound Try.prog 56 ref04_Range_next.h := by
  intro args w K h
  unfold ref04_Range_next.h ref04_Range_next.H at h
  split at h
  ·
    replace h := vT_ok h
    obtain ⟨l, rfl, h⟩ := h
    replace h := cI_ok h; obtain ⟨a0_0, l, rfl, h⟩ := h
    replace h := cI_ok h; obtain ⟨a0_1, l, rfl, h⟩ := h
    replace h := cE_ok h; obtain ⟨rfl, h⟩ := h
    refine ⟨by kernel_rfl, fn_ok tab_ok ref04_Range_next.C_ok (L := ref04_Range_next.L) (D := ref04_Range_next.D) Try.func56 ref04_Range_next.hb (by kernel_rfl) (by rw [ref04_Range_next.c_loops]; exact lnil) (Nat.le_of_ble_eq_true (by kernel_rfl)) ?_⟩
    rw [ref04_Range_next.eq]
    exact h
  · exact h.elim

end Go.Proofs.Ytinmhmphidgdeaa.G
