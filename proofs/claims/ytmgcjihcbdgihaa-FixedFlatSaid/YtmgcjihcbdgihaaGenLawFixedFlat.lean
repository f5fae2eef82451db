/- Go functions as predicate transformers, written by a program of this session (gen.py), with their soundness. -/
import Derived.Test.YtmgcjihcbdgihaaGen4
set_option linter.unusedVariables false
set_option linter.unusedSimpArgs false
set_option maxRecDepth 100000
namespace Go.Proofs.Ytmgcjihcbdgihaa.G
open Go Go.Proofs.Ytmgcjihcbdgihaa.Vm
/-! ### valise/valiselaw11.FixedFlat: function 11 -/
def law11_FixedFlat.l5 : Nat → Int → Int → Int → Int → Option Addr → Nat → Nat → Option Addr → Nat → Nat → Option Addr → Nat → Nat → Int → Int → Int → World → (Int → Option Addr → Nat → Nat → Option Addr → Nat → Nat → Option Addr → Nat → Nat → World → Prop) → Prop
  | 0, _, _, _, _, _, _, _, _, _, _, _, _, _, _, _, _, _, _ => False
  | N + 1, y0, y1, y2, y3, y9, y9n, y9c, y10, y10n, y10c, y11, y11n, y11c, y12, y13, y14, w, K0 =>
    bif (decide (y14 < y3)) then
      newC 21 [(Value.int .i32 y0)] w fun a32_12 w =>
      appL 21 1 4 [(Value.int .i32 0)] y9 y9n y9c (some a32_12) 1 1 w fun a33_13 a33_13n a33_13c w =>
      newC 21 [(Value.int .i32 (IntKind.wrap .i32 (y0 + (IntKind.wrap .i32 (y1 * (IntKind.wrap .i32 y14))))))] w fun a41_14 w =>
      appL 21 1 4 [(Value.int .i32 0)] y10 y10n y10c (some a41_14) 1 1 w fun a42_15 a42_15n a42_15c w =>
      newC 21 [(Value.int .i32 y12)] w fun a45_16 w =>
      appL 21 1 4 [(Value.int .i32 0)] y11 y11n y11c (some a45_16) 1 1 w fun a46_17 a46_17n a46_17c w =>
      let v12_18 := (IntKind.wrap .i32 (y12 + y13))
      let v13_19 := (IntKind.wrap .i32 (y13 + y2))
      let v14_20 := (IntKind.wrap .i64 (y14 + 1))
      law11_FixedFlat.l5 N y0 y1 y2 y3 a33_13 a33_13n a33_13c a42_15 a42_15n a42_15c a46_17 a46_17n a46_17c v12_18 v13_19 v14_20 w K0
    else
      K0 y3 y9 y9n y9c y10 y10n y10c y11 y11n y11c w

def law11_FixedFlat.l13 : Nat → Int → Option Addr → Nat → Nat → Option Addr → Nat → Nat → Option Addr → Nat → Nat → Int → World → (World → Prop) → (Bool → World → Prop) → Prop
  | 0, _, _, _, _, _, _, _, _, _, _, _, _, _, _ => False
  | N + 1, y3, y15, y15n, y15c, y16, y16n, y16c, y17, y17n, y17c, y18, w, K2, Kr =>
    bif (decide (y18 < y3)) then
      sm y15 fun p_43 =>
      if 0 ≤ (y18 : Int) ∧ (y18 : Int) < ((y15n : Nat) : Int) then
      ldI .i32 (p_43.add (Int.toNat y18)) w fun x87_44 =>
      bif (x87_44 != 0) then
        Kr false w
      else
        bif (decide (y18 ≥ 2)) then
          sm y16 fun p_45 =>
          if 0 ≤ (y18 : Int) ∧ (y18 : Int) < ((y16n : Nat) : Int) then
          ldI .i32 (p_45.add (Int.toNat y18)) w fun x96_46 =>
          bif (x96_46 != 0) then
            Kr false w
          else
            bif (decide (y18 ≥ 3)) then
              sm y17 fun p_47 =>
              if 0 ≤ (y18 : Int) ∧ (y18 : Int) < ((y17n : Nat) : Int) then
              ldI .i32 (p_47.add (Int.toNat y18)) w fun x107_48 =>
              bif (x107_48 != 0) then
                Kr false w
              else
                let v18_55 := (IntKind.wrap .i64 (y18 + 1))
                law11_FixedFlat.l13 N y3 y15 y15n y15c y16 y16n y16c y17 y17n y17c v18_55 w K2 Kr
              else False
            else
              let v18_56 := (IntKind.wrap .i64 (y18 + 1))
              law11_FixedFlat.l13 N y3 y15 y15n y15c y16 y16n y16c y17 y17n y17c v18_56 w K2 Kr
          else False
        else
          bif (decide (y18 ≥ 3)) then
            sm y17 fun p_49 =>
            if 0 ≤ (y18 : Int) ∧ (y18 : Int) < ((y17n : Nat) : Int) then
            ldI .i32 (p_49.add (Int.toNat y18)) w fun x107_50 =>
            bif (x107_50 != 0) then
              Kr false w
            else
              let v18_57 := (IntKind.wrap .i64 (y18 + 1))
              law11_FixedFlat.l13 N y3 y15 y15n y15c y16 y16n y16c y17 y17n y17c v18_57 w K2 Kr
            else False
          else
            let v18_58 := (IntKind.wrap .i64 (y18 + 1))
            law11_FixedFlat.l13 N y3 y15 y15n y15c y16 y16n y16c y17 y17n y17c v18_58 w K2 Kr
      else False
    else
      K2 w

def law11_FixedFlat.f (a0 : Int) (a1 : Int) (a2 : Int) (a3 : Int) (w : World) (K : Bool → World → Prop) : Prop :=
  let v3_3 := (IntKind.wrap .i64 (Int.tmod (IntKind.wrap .u64 a3) 300))
  ∃ N_21 : Nat, law11_FixedFlat.l5 N_21 a0 a1 a2 v3_3 none 0 0 none 0 0 none 0 0 a0 a1 0 w
  (fun o3_22 o9_23 o9_23n o9_23c o10_24 o10_24n o10_24c o11_25 o11_25n o11_25c w =>
    fixed_Residual.f o9_23 o9_23n o9_23c 1 w fun r54_27 r54_27n r54_27c w =>
    fixed_Residual.f o10_24 o10_24n o10_24c 2 w fun r56_28 r56_28n r56_28c w =>
    fixed_Residual.f o11_25 o11_25n o11_25c 3 w fun r58_29 r58_29n r58_29c w =>
    law11_awake.f  w fun r59_32 w =>
    bif (!r59_32) then
      K false w
    else
      bif (((r54_27n : Nat) : Int) != o3_22) then
        K false w
      else
        bif (((r56_28n : Nat) : Int) != o3_22) then
          K false w
        else
          bif (((r58_29n : Nat) : Int) != o3_22) then
            K false w
          else
            ∃ N_59 : Nat, law11_FixedFlat.l13 N_59 o3_22 r54_27 r54_27n r54_27c r56_28 r56_28n r56_28c r58_29 r58_29n r58_29c 1 w
            (fun w =>
              K true w)
            (fun o8_60 w =>
              K o8_60 w))
def law11_FixedFlat.H (F : type_of% @law11_FixedFlat.f) : Hf := fun args w K => match args with
  | [v0, v1, v2, v3] => vI .i32 v0 fun a0 => vI .i32 v1 fun a1 => vI .i32 v2 fun a2 => vI .i64 v3 fun a3 => F a0 a1 a2 a3 w (fun r0 w => K (Value.bool r0) w)
  | _ => False
def law11_FixedFlat.h : Hf := law11_FixedFlat.H @law11_FixedFlat.f
def law11_FixedFlat.CG (F38 : type_of% @fixed_Residual.f) (F39 : type_of% @law11_awake.f) : Hd := hcons 39 (law11_awake.H F39) (hcons 38 (fixed_Residual.H F38) (hnil))
def law11_FixedFlat.C : Hd := law11_FixedFlat.CG @fixed_Residual.f @law11_awake.f
def law11_FixedFlat.G (F38 : type_of% @fixed_Residual.f) (F39 : type_of% @law11_awake.f) (a0 : Int) (a1 : Int) (a2 : Int) (a3 : Int) (w : World) (K : Bool → World → Prop) : Prop :=
  let v3_3 := (IntKind.wrap .i64 (Int.tmod (IntKind.wrap .u64 a3) 300))
  ∃ N_21 : Nat, law11_FixedFlat.l5 N_21 a0 a1 a2 v3_3 none 0 0 none 0 0 none 0 0 a0 a1 0 w
  (fun o3_22 o9_23 o9_23n o9_23c o10_24 o10_24n o10_24c o11_25 o11_25n o11_25c w =>
    F38 o9_23 o9_23n o9_23c 1 w fun r54_27 r54_27n r54_27c w =>
    F38 o10_24 o10_24n o10_24c 2 w fun r56_28 r56_28n r56_28c w =>
    F38 o11_25 o11_25n o11_25c 3 w fun r58_29 r58_29n r58_29c w =>
    F39  w fun r59_32 w =>
    bif (!r59_32) then
      K false w
    else
      bif (((r54_27n : Nat) : Int) != o3_22) then
        K false w
      else
        bif (((r56_28n : Nat) : Int) != o3_22) then
          K false w
        else
          bif (((r58_29n : Nat) : Int) != o3_22) then
            K false w
          else
            ∃ N_59 : Nat, law11_FixedFlat.l13 N_59 o3_22 r54_27 r54_27n r54_27c r56_28 r56_28n r56_28c r58_29 r58_29n r58_29c 1 w
            (fun w =>
              K true w)
            (fun o8_60 w =>
              K o8_60 w))
theorem law11_FixedFlat.C_ok : CSound Try.prog law11_FixedFlat.C := hcons_ok law11_awake.ok (hcons_ok fixed_Residual.ok (hnil_ok))
def law11_FixedFlat.D : Nat → Plan := fun i => .done
noncomputable def law11_FixedFlat.c : Code := Try.f11.body.getD .skip
theorem law11_FixedFlat.hb : Try.f11.body = some law11_FixedFlat.c := by kernel_rfl
noncomputable def law11_FixedFlat.b0 : Code := (loopsOf law11_FixedFlat.c).getD 0 .skip
theorem law11_FixedFlat.b0_loops : loopsOf law11_FixedFlat.b0 = [] := by kernel_rfl
noncomputable def law11_FixedFlat.b1 : Code := (loopsOf law11_FixedFlat.c).getD 1 .skip
theorem law11_FixedFlat.b1_loops : loopsOf law11_FixedFlat.b1 = [] := by kernel_rfl
theorem law11_FixedFlat.c_loops : loopsOf law11_FixedFlat.c = [law11_FixedFlat.b0, law11_FixedFlat.b1] := by kernel_rfl
def law11_FixedFlat.l5G (F38 : type_of% @fixed_Residual.f) (F39 : type_of% @law11_awake.f) (R : Int → Int → Int → Int → Option Addr → Nat → Nat → Option Addr → Nat → Nat → Option Addr → Nat → Nat → Int → Int → Int → World → (Int → Option Addr → Nat → Nat → Option Addr → Nat → Nat → Option Addr → Nat → Nat → World → Prop) → Prop) : Int → Int → Int → Int → Option Addr → Nat → Nat → Option Addr → Nat → Nat → Option Addr → Nat → Nat → Int → Int → Int → World → (Int → Option Addr → Nat → Nat → Option Addr → Nat → Nat → Option Addr → Nat → Nat → World → Prop) → Prop := fun y0 y1 y2 y3 y9 y9n y9c y10 y10n y10c y11 y11n y11c y12 y13 y14 w K0 =>
    bif (decide (y14 < y3)) then
      newC 21 [(Value.int .i32 y0)] w fun a32_12 w =>
      appL 21 1 4 [(Value.int .i32 0)] y9 y9n y9c (some a32_12) 1 1 w fun a33_13 a33_13n a33_13c w =>
      newC 21 [(Value.int .i32 (IntKind.wrap .i32 (y0 + (IntKind.wrap .i32 (y1 * (IntKind.wrap .i32 y14))))))] w fun a41_14 w =>
      appL 21 1 4 [(Value.int .i32 0)] y10 y10n y10c (some a41_14) 1 1 w fun a42_15 a42_15n a42_15c w =>
      newC 21 [(Value.int .i32 y12)] w fun a45_16 w =>
      appL 21 1 4 [(Value.int .i32 0)] y11 y11n y11c (some a45_16) 1 1 w fun a46_17 a46_17n a46_17c w =>
      let v12_18 := (IntKind.wrap .i32 (y12 + y13))
      let v13_19 := (IntKind.wrap .i32 (y13 + y2))
      let v14_20 := (IntKind.wrap .i64 (y14 + 1))
      R y0 y1 y2 y3 a33_13 a33_13n a33_13c a42_15 a42_15n a42_15c a46_17 a46_17n a46_17c v12_18 v13_19 v14_20 w K0
    else
      K0 y3 y9 y9n y9c y10 y10n y10c y11 y11n y11c w

def law11_FixedFlat.l13G (F38 : type_of% @fixed_Residual.f) (F39 : type_of% @law11_awake.f) (R : Int → Option Addr → Nat → Nat → Option Addr → Nat → Nat → Option Addr → Nat → Nat → Int → World → (World → Prop) → (Bool → World → Prop) → Prop) : Int → Option Addr → Nat → Nat → Option Addr → Nat → Nat → Option Addr → Nat → Nat → Int → World → (World → Prop) → (Bool → World → Prop) → Prop := fun y3 y15 y15n y15c y16 y16n y16c y17 y17n y17c y18 w K2 Kr =>
    bif (decide (y18 < y3)) then
      sm y15 fun p_43 =>
      if 0 ≤ (y18 : Int) ∧ (y18 : Int) < ((y15n : Nat) : Int) then
      ldI .i32 (p_43.add (Int.toNat y18)) w fun x87_44 =>
      bif (x87_44 != 0) then
        Kr false w
      else
        bif (decide (y18 ≥ 2)) then
          sm y16 fun p_45 =>
          if 0 ≤ (y18 : Int) ∧ (y18 : Int) < ((y16n : Nat) : Int) then
          ldI .i32 (p_45.add (Int.toNat y18)) w fun x96_46 =>
          bif (x96_46 != 0) then
            Kr false w
          else
            bif (decide (y18 ≥ 3)) then
              sm y17 fun p_47 =>
              if 0 ≤ (y18 : Int) ∧ (y18 : Int) < ((y17n : Nat) : Int) then
              ldI .i32 (p_47.add (Int.toNat y18)) w fun x107_48 =>
              bif (x107_48 != 0) then
                Kr false w
              else
                let v18_55 := (IntKind.wrap .i64 (y18 + 1))
                R y3 y15 y15n y15c y16 y16n y16c y17 y17n y17c v18_55 w K2 Kr
              else False
            else
              let v18_56 := (IntKind.wrap .i64 (y18 + 1))
              R y3 y15 y15n y15c y16 y16n y16c y17 y17n y17c v18_56 w K2 Kr
          else False
        else
          bif (decide (y18 ≥ 3)) then
            sm y17 fun p_49 =>
            if 0 ≤ (y18 : Int) ∧ (y18 : Int) < ((y17n : Nat) : Int) then
            ldI .i32 (p_49.add (Int.toNat y18)) w fun x107_50 =>
            bif (x107_50 != 0) then
              Kr false w
            else
              let v18_57 := (IntKind.wrap .i64 (y18 + 1))
              R y3 y15 y15n y15c y16 y16n y16c y17 y17n y17c v18_57 w K2 Kr
            else False
          else
            let v18_58 := (IntKind.wrap .i64 (y18 + 1))
            R y3 y15 y15n y15c y16 y16n y16c y17 y17n y17c v18_58 w K2 Kr
      else False
    else
      K2 w

def law11_FixedFlat.hn5 (N : Nat) (f : Fr) (w : World) (K : AExit → Fr → World → Prop) : Prop :=
  gN f 111 <| gI .i32 f 0 fun y0 => gI .i32 f 1 fun y1 => gI .i32 f 2 fun y2 => gI .i64 f 3 fun y3 => gL f 9 fun y9 y9n y9c => gL f 10 fun y10 y10n y10c => gL f 11 fun y11 y11n y11c => gI .i32 f 12 fun y12 => gI .i32 f 13 fun y13 => gI .i64 f 14 fun y14 => law11_FixedFlat.l5 N y0 y1 y2 y3 y9 y9n y9c y10 y10n y10c y11 y11n y11c y12 y13 y14 w (fun o3 o9 o9n o9c o10 o10n o10c o11 o11n o11c w => K (.exit 0) [none, none, none, some (Value.int .i64 o3), none, none, none, none, none, some (Value.slice o9 o9n o9c), some (Value.slice o10 o10n o10c), some (Value.slice o11 o11n o11c), none, none, none, none, none, none, none, none, none, none, none, none, none, none, none, none, none, none, none, none, none, none, none, none, none, none, none, none, none, none, none, none, none, none, none, none, none, none, none, none, none, none, none, none, none, none, none, none, none, none, none, none, none, none, none, none, none, none, none, none, none, none, none, none, none, none, none, none, none, none, none, none, none, none, none, none, none, none, none, none, none, none, none, none, none, none, none, none, none, none, none, none, none, none, none, none, none, none, none] w)
def law11_FixedFlat.hx5 : AExit → Fr → World → (AExit → Fr → World → Prop) → Prop := fun e f w K => match e with
  | .normal => False
  | .exit i => (match Nat.beq i 0 with | true => gN f 111 <| gI .i64 f 3 fun o3 => gL f 9 fun o9 o9n o9c => gL f 10 fun o10 o10n o10c => gL f 11 fun o11 o11n o11c => K (.exit 0) [none, none, none, some (Value.int .i64 o3), none, none, none, none, none, some (Value.slice o9 o9n o9c), some (Value.slice o10 o10n o10c), some (Value.slice o11 o11n o11c), none, none, none, none, none, none, none, none, none, none, none, none, none, none, none, none, none, none, none, none, none, none, none, none, none, none, none, none, none, none, none, none, none, none, none, none, none, none, none, none, none, none, none, none, none, none, none, none, none, none, none, none, none, none, none, none, none, none, none, none, none, none, none, none, none, none, none, none, none, none, none, none, none, none, none, none, none, none, none, none, none, none, none, none, none, none, none, none, none, none, none, none, none, none, none, none, none, none, none] w | false => False)
  | .ret => False
def law11_FixedFlat.hn13 (N : Nat) (f : Fr) (w : World) (K : AExit → Fr → World → Prop) : Prop :=
  gN f 111 <| gI .i64 f 3 fun y3 => gL f 15 fun y15 y15n y15c => gL f 16 fun y16 y16n y16c => gL f 17 fun y17 y17n y17c => gI .i64 f 18 fun y18 => law11_FixedFlat.l13 N y3 y15 y15n y15c y16 y16n y16c y17 y17n y17c y18 w (fun w => K (.exit 2) [none, none, none, none, none, none, none, none, none, none, none, none, none, none, none, none, none, none, none, none, none, none, none, none, none, none, none, none, none, none, none, none, none, none, none, none, none, none, none, none, none, none, none, none, none, none, none, none, none, none, none, none, none, none, none, none, none, none, none, none, none, none, none, none, none, none, none, none, none, none, none, none, none, none, none, none, none, none, none, none, none, none, none, none, none, none, none, none, none, none, none, none, none, none, none, none, none, none, none, none, none, none, none, none, none, none, none, none, none, none, none] w) (fun o8 w => K .ret [none, none, none, none, none, none, none, none, some (Value.bool o8), none, none, none, none, none, none, none, none, none, none, none, none, none, none, none, none, none, none, none, none, none, none, none, none, none, none, none, none, none, none, none, none, none, none, none, none, none, none, none, none, none, none, none, none, none, none, none, none, none, none, none, none, none, none, none, none, none, none, none, none, none, none, none, none, none, none, none, none, none, none, none, none, none, none, none, none, none, none, none, none, none, none, none, none, none, none, none, none, none, none, none, none, none, none, none, none, none, none, none, none, none, none] w)
def law11_FixedFlat.hx13 : AExit → Fr → World → (AExit → Fr → World → Prop) → Prop := fun e f w K => match e with
  | .normal => False
  | .exit i => (match Nat.beq i 2 with | true => gN f 111 <|  K (.exit 2) [none, none, none, none, none, none, none, none, none, none, none, none, none, none, none, none, none, none, none, none, none, none, none, none, none, none, none, none, none, none, none, none, none, none, none, none, none, none, none, none, none, none, none, none, none, none, none, none, none, none, none, none, none, none, none, none, none, none, none, none, none, none, none, none, none, none, none, none, none, none, none, none, none, none, none, none, none, none, none, none, none, none, none, none, none, none, none, none, none, none, none, none, none, none, none, none, none, none, none, none, none, none, none, none, none, none, none, none, none, none, none] w | false => False)
  | .ret => gN f 111 <| gB f 8 fun o8 => K .ret [none, none, none, none, none, none, none, none, some (Value.bool o8), none, none, none, none, none, none, none, none, none, none, none, none, none, none, none, none, none, none, none, none, none, none, none, none, none, none, none, none, none, none, none, none, none, none, none, none, none, none, none, none, none, none, none, none, none, none, none, none, none, none, none, none, none, none, none, none, none, none, none, none, none, none, none, none, none, none, none, none, none, none, none, none, none, none, none, none, none, none, none, none, none, none, none, none, none, none, none, none, none, none, none, none, none, none, none, none, none, none, none, none, none, none] w
def law11_FixedFlat.L : LHd := fun l f w K => (match Nat.beq l 13 with | true => ∃ N, law11_FixedFlat.hn13 N f w K | false => (match Nat.beq l 5 with | true => ∃ N, law11_FixedFlat.hn5 N f w K | false => False))
theorem law11_FixedFlat.leG5 (F38 : type_of% @fixed_Residual.f) (F39 : type_of% @law11_awake.f) (N : Nat) (y0 : Int) (y1 : Int) (y2 : Int) (y3 : Int) (y9 : Option Addr) (y9n : Nat) (y9c : Nat) (y10 : Option Addr) (y10n : Nat) (y10c : Nat) (y11 : Option Addr) (y11n : Nat) (y11c : Nat) (y12 : Int) (y13 : Int) (y14 : Int) (w : World) (K : AExit → Fr → World → Prop) : awp (law11_FixedFlat.CG F38 F39) law11_FixedFlat.L law11_FixedFlat.D tab law11_FixedFlat.b0 (lpost law11_FixedFlat.hn5 law11_FixedFlat.hx5 N K) [some (Value.int .i32 y0), some (Value.int .i32 y1), some (Value.int .i32 y2), some (Value.int .i64 y3), none, none, none, none, none, some (Value.slice y9 y9n y9c), some (Value.slice y10 y10n y10c), some (Value.slice y11 y11n y11c), some (Value.int .i32 y12), some (Value.int .i32 y13), some (Value.int .i64 y14), none, none, none, none, none, none, none, none, none, none, none, none, none, none, none, none, none, none, none, none, none, none, none, none, none, none, none, none, none, none, none, none, none, none, none, none, none, none, none, none, none, none, none, none, none, none, none, none, none, none, none, none, none, none, none, none, none, none, none, none, none, none, none, none, none, none, none, none, none, none, none, none, none, none, none, none, none, none, none, none, none, none, none, none, none, none, none, none, none, none, none, none, none, none, none, none] w = law11_FixedFlat.l5G F38 F39 (law11_FixedFlat.l5 N) y0 y1 y2 y3 y9 y9n y9c y10 y10n y10c y11 y11n y11c y12 y13 y14 w (fun o3 o9 o9n o9c o10 o10n o10c o11 o11n o11c w => K (.exit 0) [none, none, none, some (Value.int .i64 o3), none, none, none, none, none, some (Value.slice o9 o9n o9c), some (Value.slice o10 o10n o10c), some (Value.slice o11 o11n o11c), none, none, none, none, none, none, none, none, none, none, none, none, none, none, none, none, none, none, none, none, none, none, none, none, none, none, none, none, none, none, none, none, none, none, none, none, none, none, none, none, none, none, none, none, none, none, none, none, none, none, none, none, none, none, none, none, none, none, none, none, none, none, none, none, none, none, none, none, none, none, none, none, none, none, none, none, none, none, none, none, none, none, none, none, none, none, none, none, none, none, none, none, none, none, none, none, none, none, none] w) := by kernel_rfl
theorem law11_FixedFlat.les5 (N : Nat) : law11_FixedFlat.l5 (N + 1) = law11_FixedFlat.l5G @fixed_Residual.f @law11_awake.f (law11_FixedFlat.l5 N) := by kernel_rfl
theorem law11_FixedFlat.le5 (N : Nat) (y0 : Int) (y1 : Int) (y2 : Int) (y3 : Int) (y9 : Option Addr) (y9n : Nat) (y9c : Nat) (y10 : Option Addr) (y10n : Nat) (y10c : Nat) (y11 : Option Addr) (y11n : Nat) (y11c : Nat) (y12 : Int) (y13 : Int) (y14 : Int) (w : World) (K : AExit → Fr → World → Prop) : awp law11_FixedFlat.C law11_FixedFlat.L law11_FixedFlat.D tab law11_FixedFlat.b0 (lpost law11_FixedFlat.hn5 law11_FixedFlat.hx5 N K) [some (Value.int .i32 y0), some (Value.int .i32 y1), some (Value.int .i32 y2), some (Value.int .i64 y3), none, none, none, none, none, some (Value.slice y9 y9n y9c), some (Value.slice y10 y10n y10c), some (Value.slice y11 y11n y11c), some (Value.int .i32 y12), some (Value.int .i32 y13), some (Value.int .i64 y14), none, none, none, none, none, none, none, none, none, none, none, none, none, none, none, none, none, none, none, none, none, none, none, none, none, none, none, none, none, none, none, none, none, none, none, none, none, none, none, none, none, none, none, none, none, none, none, none, none, none, none, none, none, none, none, none, none, none, none, none, none, none, none, none, none, none, none, none, none, none, none, none, none, none, none, none, none, none, none, none, none, none, none, none, none, none, none, none, none, none, none, none, none, none, none, none] w = law11_FixedFlat.l5 (N + 1) y0 y1 y2 y3 y9 y9n y9c y10 y10n y10c y11 y11n y11c y12 y13 y14 w (fun o3 o9 o9n o9c o10 o10n o10c o11 o11n o11c w => K (.exit 0) [none, none, none, some (Value.int .i64 o3), none, none, none, none, none, some (Value.slice o9 o9n o9c), some (Value.slice o10 o10n o10c), some (Value.slice o11 o11n o11c), none, none, none, none, none, none, none, none, none, none, none, none, none, none, none, none, none, none, none, none, none, none, none, none, none, none, none, none, none, none, none, none, none, none, none, none, none, none, none, none, none, none, none, none, none, none, none, none, none, none, none, none, none, none, none, none, none, none, none, none, none, none, none, none, none, none, none, none, none, none, none, none, none, none, none, none, none, none, none, none, none, none, none, none, none, none, none, none, none, none, none, none, none, none, none, none, none, none, none] w) := by
  rw [law11_FixedFlat.les5]
  exact law11_FixedFlat.leG5 @fixed_Residual.f @law11_awake.f N y0 y1 y2 y3 y9 y9n y9c y10 y10n y10c y11 y11n y11c y12 y13 y14 w K
theorem law11_FixedFlat.lok5 : LoopOk Try.prog law11_FixedFlat.L law11_FixedFlat.b0 := by
  refine loop_ok tab_ok law11_FixedFlat.C_ok (D := law11_FixedFlat.D) (law11_FixedFlat.hn5) (law11_FixedFlat.hx5) (by kernel_rfl) (by rw [law11_FixedFlat.b0_loops]; exact lnil) ?_ ?_ ?_ ?_
  · intro f w K h
    unfold law11_FixedFlat.hn5 at h
    obtain ⟨hlen, h⟩ := gN_ok h
    obtain ⟨y0, h0, h⟩ := gI_ok h
    obtain ⟨y1, h1, h⟩ := gI_ok h
    obtain ⟨y2, h2, h⟩ := gI_ok h
    obtain ⟨y3, h3, h⟩ := gI_ok h
    obtain ⟨y9, y9n, y9c, h9, h⟩ := gL_ok h
    obtain ⟨y10, y10n, y10c, h10, h⟩ := gL_ok h
    obtain ⟨y11, y11n, y11c, h11, h⟩ := gL_ok h
    obtain ⟨y12, h12, h⟩ := gI_ok h
    obtain ⟨y13, h13, h⟩ := gI_ok h
    obtain ⟨y14, h14, h⟩ := gI_ok h
    exact h
  · intro N f w K h
    unfold law11_FixedFlat.hn5 at h
    obtain ⟨hlen, h⟩ := gN_ok h
    obtain ⟨y0, h0, h⟩ := gI_ok h
    obtain ⟨y1, h1, h⟩ := gI_ok h
    obtain ⟨y2, h2, h⟩ := gI_ok h
    obtain ⟨y3, h3, h⟩ := gI_ok h
    obtain ⟨y9, y9n, y9c, h9, h⟩ := gL_ok h
    obtain ⟨y10, y10n, y10c, h10, h⟩ := gL_ok h
    obtain ⟨y11, y11n, y11c, h11, h⟩ := gL_ok h
    obtain ⟨y12, h12, h⟩ := gI_ok h
    obtain ⟨y13, h13, h⟩ := gI_ok h
    obtain ⟨y14, h14, h⟩ := gI_ok h
    refine ⟨[some (Value.int .i32 y0), some (Value.int .i32 y1), some (Value.int .i32 y2), some (Value.int .i64 y3), none, none, none, none, none, some (Value.slice y9 y9n y9c), some (Value.slice y10 y10n y10c), some (Value.slice y11 y11n y11c), some (Value.int .i32 y12), some (Value.int .i32 y13), some (Value.int .i64 y14), none, none, none, none, none, none, none, none, none, none, none, none, none, none, none, none, none, none, none, none, none, none, none, none, none, none, none, none, none, none, none, none, none, none, none, none, none, none, none, none, none, none, none, none, none, none, none, none, none, none, none, none, none, none, none, none, none, none, none, none, none, none, none, none, none, none, none, none, none, none, none, none, none, none, none, none, none, none, none, none, none, none, none, none, none, none, none, none, none, none, none, none, none, none, none, none], hlen, ⟨h0, h1, h2, h3, h9, h10, h11, h12, h13, h14, trivial⟩, ?_⟩
    rw [law11_FixedFlat.le5]
    exact h
  · intro e f w K h
    cases e with
    | normal => exact h.elim
    | exit i =>
      unfold law11_FixedFlat.hx5 at h
      simp only at h
      split at h
      · rename_i hb
        obtain rfl := Nat.eq_of_beq_eq_true hb
        obtain ⟨hlen, h⟩ := gN_ok h
        obtain ⟨o3, h3, h⟩ := gI_ok h
        obtain ⟨o9, o9n, o9c, h9, h⟩ := gL_ok h
        obtain ⟨o10, o10n, o10c, h10, h⟩ := gL_ok h
        obtain ⟨o11, o11n, o11c, h11, h⟩ := gL_ok h
        exact ⟨[none, none, none, some (Value.int .i64 o3), none, none, none, none, none, some (Value.slice o9 o9n o9c), some (Value.slice o10 o10n o10c), some (Value.slice o11 o11n o11c), none, none, none, none, none, none, none, none, none, none, none, none, none, none, none, none, none, none, none, none, none, none, none, none, none, none, none, none, none, none, none, none, none, none, none, none, none, none, none, none, none, none, none, none, none, none, none, none, none, none, none, none, none, none, none, none, none, none, none, none, none, none, none, none, none, none, none, none, none, none, none, none, none, none, none, none, none, none, none, none, none, none, none, none, none, none, none, none, none, none, none, none, none, none, none, none, none, none, none], hlen, ⟨h3, h9, h10, h11, trivial⟩, h⟩
      · exact (show False from h).elim
    | ret =>
      exact (show False from h).elim
  · intro f w K h
    have e : lid law11_FixedFlat.b0 = 5 := by kernel_rfl
    rw [e] at h
    exact h
theorem law11_FixedFlat.leG13 (F38 : type_of% @fixed_Residual.f) (F39 : type_of% @law11_awake.f) (N : Nat) (y3 : Int) (y15 : Option Addr) (y15n : Nat) (y15c : Nat) (y16 : Option Addr) (y16n : Nat) (y16c : Nat) (y17 : Option Addr) (y17n : Nat) (y17c : Nat) (y18 : Int) (w : World) (K : AExit → Fr → World → Prop) : awp (law11_FixedFlat.CG F38 F39) law11_FixedFlat.L law11_FixedFlat.D tab law11_FixedFlat.b1 (lpost law11_FixedFlat.hn13 law11_FixedFlat.hx13 N K) [none, none, none, some (Value.int .i64 y3), none, none, none, none, none, none, none, none, none, none, none, some (Value.slice y15 y15n y15c), some (Value.slice y16 y16n y16c), some (Value.slice y17 y17n y17c), some (Value.int .i64 y18), none, none, none, none, none, none, none, none, none, none, none, none, none, none, none, none, none, none, none, none, none, none, none, none, none, none, none, none, none, none, none, none, none, none, none, none, none, none, none, none, none, none, none, none, none, none, none, none, none, none, none, none, none, none, none, none, none, none, none, none, none, none, none, none, none, none, none, none, none, none, none, none, none, none, none, none, none, none, none, none, none, none, none, none, none, none, none, none, none, none, none, none] w = law11_FixedFlat.l13G F38 F39 (law11_FixedFlat.l13 N) y3 y15 y15n y15c y16 y16n y16c y17 y17n y17c y18 w (fun w => K (.exit 2) [none, none, none, none, none, none, none, none, none, none, none, none, none, none, none, none, none, none, none, none, none, none, none, none, none, none, none, none, none, none, none, none, none, none, none, none, none, none, none, none, none, none, none, none, none, none, none, none, none, none, none, none, none, none, none, none, none, none, none, none, none, none, none, none, none, none, none, none, none, none, none, none, none, none, none, none, none, none, none, none, none, none, none, none, none, none, none, none, none, none, none, none, none, none, none, none, none, none, none, none, none, none, none, none, none, none, none, none, none, none, none] w) (fun o8 w => K .ret [none, none, none, none, none, none, none, none, some (Value.bool o8), none, none, none, none, none, none, none, none, none, none, none, none, none, none, none, none, none, none, none, none, none, none, none, none, none, none, none, none, none, none, none, none, none, none, none, none, none, none, none, none, none, none, none, none, none, none, none, none, none, none, none, none, none, none, none, none, none, none, none, none, none, none, none, none, none, none, none, none, none, none, none, none, none, none, none, none, none, none, none, none, none, none, none, none, none, none, none, none, none, none, none, none, none, none, none, none, none, none, none, none, none, none] w) := by kernel_rfl
theorem law11_FixedFlat.les13 (N : Nat) : law11_FixedFlat.l13 (N + 1) = law11_FixedFlat.l13G @fixed_Residual.f @law11_awake.f (law11_FixedFlat.l13 N) := by kernel_rfl
theorem law11_FixedFlat.le13 (N : Nat) (y3 : Int) (y15 : Option Addr) (y15n : Nat) (y15c : Nat) (y16 : Option Addr) (y16n : Nat) (y16c : Nat) (y17 : Option Addr) (y17n : Nat) (y17c : Nat) (y18 : Int) (w : World) (K : AExit → Fr → World → Prop) : awp law11_FixedFlat.C law11_FixedFlat.L law11_FixedFlat.D tab law11_FixedFlat.b1 (lpost law11_FixedFlat.hn13 law11_FixedFlat.hx13 N K) [none, none, none, some (Value.int .i64 y3), none, none, none, none, none, none, none, none, none, none, none, some (Value.slice y15 y15n y15c), some (Value.slice y16 y16n y16c), some (Value.slice y17 y17n y17c), some (Value.int .i64 y18), none, none, none, none, none, none, none, none, none, none, none, none, none, none, none, none, none, none, none, none, none, none, none, none, none, none, none, none, none, none, none, none, none, none, none, none, none, none, none, none, none, none, none, none, none, none, none, none, none, none, none, none, none, none, none, none, none, none, none, none, none, none, none, none, none, none, none, none, none, none, none, none, none, none, none, none, none, none, none, none, none, none, none, none, none, none, none, none, none, none, none, none] w = law11_FixedFlat.l13 (N + 1) y3 y15 y15n y15c y16 y16n y16c y17 y17n y17c y18 w (fun w => K (.exit 2) [none, none, none, none, none, none, none, none, none, none, none, none, none, none, none, none, none, none, none, none, none, none, none, none, none, none, none, none, none, none, none, none, none, none, none, none, none, none, none, none, none, none, none, none, none, none, none, none, none, none, none, none, none, none, none, none, none, none, none, none, none, none, none, none, none, none, none, none, none, none, none, none, none, none, none, none, none, none, none, none, none, none, none, none, none, none, none, none, none, none, none, none, none, none, none, none, none, none, none, none, none, none, none, none, none, none, none, none, none, none, none] w) (fun o8 w => K .ret [none, none, none, none, none, none, none, none, some (Value.bool o8), none, none, none, none, none, none, none, none, none, none, none, none, none, none, none, none, none, none, none, none, none, none, none, none, none, none, none, none, none, none, none, none, none, none, none, none, none, none, none, none, none, none, none, none, none, none, none, none, none, none, none, none, none, none, none, none, none, none, none, none, none, none, none, none, none, none, none, none, none, none, none, none, none, none, none, none, none, none, none, none, none, none, none, none, none, none, none, none, none, none, none, none, none, none, none, none, none, none, none, none, none, none] w) := by
  rw [law11_FixedFlat.les13]
  exact law11_FixedFlat.leG13 @fixed_Residual.f @law11_awake.f N y3 y15 y15n y15c y16 y16n y16c y17 y17n y17c y18 w K
theorem law11_FixedFlat.lok13 : LoopOk Try.prog law11_FixedFlat.L law11_FixedFlat.b1 := by
  refine loop_ok tab_ok law11_FixedFlat.C_ok (D := law11_FixedFlat.D) (law11_FixedFlat.hn13) (law11_FixedFlat.hx13) (by kernel_rfl) (by rw [law11_FixedFlat.b1_loops]; exact lnil) ?_ ?_ ?_ ?_
  · intro f w K h
    unfold law11_FixedFlat.hn13 at h
    obtain ⟨hlen, h⟩ := gN_ok h
    obtain ⟨y3, h3, h⟩ := gI_ok h
    obtain ⟨y15, y15n, y15c, h15, h⟩ := gL_ok h
    obtain ⟨y16, y16n, y16c, h16, h⟩ := gL_ok h
    obtain ⟨y17, y17n, y17c, h17, h⟩ := gL_ok h
    obtain ⟨y18, h18, h⟩ := gI_ok h
    exact h
  · intro N f w K h
    unfold law11_FixedFlat.hn13 at h
    obtain ⟨hlen, h⟩ := gN_ok h
    obtain ⟨y3, h3, h⟩ := gI_ok h
    obtain ⟨y15, y15n, y15c, h15, h⟩ := gL_ok h
    obtain ⟨y16, y16n, y16c, h16, h⟩ := gL_ok h
    obtain ⟨y17, y17n, y17c, h17, h⟩ := gL_ok h
    obtain ⟨y18, h18, h⟩ := gI_ok h
    refine ⟨[none, none, none, some (Value.int .i64 y3), none, none, none, none, none, none, none, none, none, none, none, some (Value.slice y15 y15n y15c), some (Value.slice y16 y16n y16c), some (Value.slice y17 y17n y17c), some (Value.int .i64 y18), none, none, none, none, none, none, none, none, none, none, none, none, none, none, none, none, none, none, none, none, none, none, none, none, none, none, none, none, none, none, none, none, none, none, none, none, none, none, none, none, none, none, none, none, none, none, none, none, none, none, none, none, none, none, none, none, none, none, none, none, none, none, none, none, none, none, none, none, none, none, none, none, none, none, none, none, none, none, none, none, none, none, none, none, none, none, none, none, none, none, none, none], hlen, ⟨h3, h15, h16, h17, h18, trivial⟩, ?_⟩
    rw [law11_FixedFlat.le13]
    exact h
  · intro e f w K h
    cases e with
    | normal => exact h.elim
    | exit i =>
      unfold law11_FixedFlat.hx13 at h
      simp only at h
      split at h
      · rename_i hb
        obtain rfl := Nat.eq_of_beq_eq_true hb
        obtain ⟨hlen, h⟩ := gN_ok h
        exact ⟨[none, none, none, none, none, none, none, none, none, none, none, none, none, none, none, none, none, none, none, none, none, none, none, none, none, none, none, none, none, none, none, none, none, none, none, none, none, none, none, none, none, none, none, none, none, none, none, none, none, none, none, none, none, none, none, none, none, none, none, none, none, none, none, none, none, none, none, none, none, none, none, none, none, none, none, none, none, none, none, none, none, none, none, none, none, none, none, none, none, none, none, none, none, none, none, none, none, none, none, none, none, none, none, none, none, none, none, none, none, none, none], hlen, trivial, h⟩
      · exact (show False from h).elim
    | ret =>
      unfold law11_FixedFlat.hx13 at h
      simp only at h
      obtain ⟨hlen, h⟩ := gN_ok h
      obtain ⟨o8, h8, h⟩ := gB_ok h
      exact ⟨[none, none, none, none, none, none, none, none, some (Value.bool o8), none, none, none, none, none, none, none, none, none, none, none, none, none, none, none, none, none, none, none, none, none, none, none, none, none, none, none, none, none, none, none, none, none, none, none, none, none, none, none, none, none, none, none, none, none, none, none, none, none, none, none, none, none, none, none, none, none, none, none, none, none, none, none, none, none, none, none, none, none, none, none, none, none, none, none, none, none, none, none, none, none, none, none, none, none, none, none, none, none, none, none, none, none, none, none, none, none, none, none, none, none, none], hlen, ⟨h8, trivial⟩, h⟩
  · intro f w K h
    have e : lid law11_FixedFlat.b1 = 13 := by kernel_rfl
    rw [e] at h
    exact h
theorem law11_FixedFlat.eqG (F38 : type_of% @fixed_Residual.f) (F39 : type_of% @law11_awake.f) (a0 : Int) (a1 : Int) (a2 : Int) (a3 : Int) (w : World) (K : Value → World → Prop) : afn (law11_FixedFlat.CG F38 F39) law11_FixedFlat.L law11_FixedFlat.D tab Try.f11 [(Value.int .i32 a0), (Value.int .i32 a1), (Value.int .i32 a2), (Value.int .i64 a3)] w K = law11_FixedFlat.G F38 F39 a0 a1 a2 a3 w (fun r0 w => K (Value.bool r0) w) := by kernel_rfl
theorem law11_FixedFlat.eq (a0 : Int) (a1 : Int) (a2 : Int) (a3 : Int) (w : World) (K : Value → World → Prop) : afn law11_FixedFlat.C law11_FixedFlat.L law11_FixedFlat.D tab Try.f11 [(Value.int .i32 a0), (Value.int .i32 a1), (Value.int .i32 a2), (Value.int .i64 a3)] w K = law11_FixedFlat.f a0 a1 a2 a3 w (fun r0 w => K (Value.bool r0) w) := law11_FixedFlat.eqG @fixed_Residual.f @law11_awake.f a0 a1 a2 a3 w K
theorem law11_FixedFlat.ok : FSound Try.prog 11 law11_FixedFlat.h := by
  intro args w K h
  unfold law11_FixedFlat.h law11_FixedFlat.H at h
  split at h
  ·
    replace h := vI_ok h
    obtain ⟨a0, rfl, h⟩ := h
    replace h := vI_ok h
    obtain ⟨a1, rfl, h⟩ := h
    replace h := vI_ok h
    obtain ⟨a2, rfl, h⟩ := h
    replace h := vI_ok h
    obtain ⟨a3, rfl, h⟩ := h
    refine ⟨by kernel_rfl, fn_ok tab_ok law11_FixedFlat.C_ok (L := law11_FixedFlat.L) (D := law11_FixedFlat.D) Try.func11 law11_FixedFlat.hb (by kernel_rfl) (by rw [law11_FixedFlat.c_loops]; exact lcons law11_FixedFlat.lok5 (lcons law11_FixedFlat.lok13 (lnil))) (Nat.le_of_ble_eq_true (by kernel_rfl)) ?_⟩
    rw [law11_FixedFlat.eq]
    exact h
  · exact h.elim
end Go.Proofs.Ytmgcjihcbdgihaa.G
