/- Go functions as predicate transformers, written by a program of this session (gen.py), with their soundness. -/
import Derived.Test.YtplepdjcgojagaaGen2
set_option linter.unusedVariables false
set_option linter.unusedSimpArgs false
set_option maxRecDepth 100000
namespace Go.Proofs.Ytplepdjcgojagaa.G
open Go Go.Proofs.Ytplepdjcgojagaa.Vm
/-! ### valise/valiselaw06.MixPlays: function 11 -/
def law06_MixPlays.l15 : Nat → Option Addr → Nat → Nat → Option Addr → Option Addr → Int → Addr → Option Addr → Nat → Nat → Int → Int → World → (Option Addr → Nat → Nat → Option Addr → Option Addr → Int → Addr → World → Prop) → Prop
  | 0, _, _, _, _, _, _, _, _, _, _, _, _, _, _ => False
  | N + 1, y1, y1n, y1c, y5, y6, y7, y8, y9, y9n, y9c, y66, y67, w, K2 =>
    bif (decide (y67 < y66)) then
      sm y9 fun p_47 =>
      if 0 ≤ (y67 : Int) ∧ (y67 : Int) < ((y9n : Nat) : Int) then
      stC (p_47.add (Int.toNat y67)) (Value.int .i64 5) w fun w =>
      law06_MixPlays.l15 N y1 y1n y1c y5 y6 y7 y8 y9 y9n y9c y66 (IntKind.wrap .i64 (y67 + 1)) w K2
      else False
    else
      K2 y1 y1n y1c y5 y6 y7 y8 w

def law06_MixPlays.l26 : Nat → Option Addr → Nat → Nat → Option Addr → Option Addr → Int → Addr → Option Addr → Nat → Nat → Int → Int → World → (Option Addr → Nat → Nat → Option Addr → Option Addr → Int → Addr → World → Prop) → Prop
  | 0, _, _, _, _, _, _, _, _, _, _, _, _, _, _ => False
  | N + 1, y1, y1n, y1c, y5, y6, y7, y8, y11, y11n, y11c, y108, y109, w, K4 =>
    bif (decide (y109 < y108)) then
      sm y11 fun p_82 =>
      if 0 ≤ (y109 : Int) ∧ (y109 : Int) < ((y11n : Nat) : Int) then
      stC (p_82.add (Int.toNat y109)) (Value.int .i64 7) w fun w =>
      law06_MixPlays.l26 N y1 y1n y1c y5 y6 y7 y8 y11 y11n y11c y108 (IntKind.wrap .i64 (y109 + 1)) w K4
      else False
    else
      K4 y1 y1n y1c y5 y6 y7 y8 w

def law06_MixPlays.l7 : Nat → Option Addr → Nat → Nat → Option Addr → Option Addr → Int → World → (World → Prop) → (Bool → World → Prop) → Prop
  | 0, _, _, _, _, _, _, _, _, _ => False
  | N + 1, y1, y1n, y1c, y5, y6, y7, w, K0, Kr =>
    bif (decide (y7 < ((y1n : Nat) : Int))) then
      bif (decide (y7 < 200)) then
        sm y1 fun p_19 =>
        if 0 ≤ (y7 : Int) ∧ (y7 : Int) < ((y1n : Nat) : Int) then
        ldI .i64 ((p_19.add (Int.toNat y7 * 3)).add 0) w fun x38_20 =>
        ldI .i64 ((p_19.add (Int.toNat y7 * 3)).add 1) w fun x38_21 =>
        ldL ((p_19.add (Int.toNat y7 * 3)).add 2) w fun x38_22 x38_22n x38_22c =>
        newC 57 [(Value.int .i64 0), (Value.int .i64 0), (Value.slice none 0 0)] w fun a8_23 w =>
        stCs a8_23 [(Value.int .i64 x38_20), (Value.int .i64 x38_21), (Value.slice x38_22 x38_22n x38_22c)] 0 w fun w =>
        ldL (a8_23.add 2) w fun x40_26 x40_26n x40_26c =>
        bif (decide (((x40_26n : Nat) : Int) > 20)) then
          let v7_101 := (IntKind.wrap .i64 (y7 + 1))
          law06_MixPlays.l7 N y1 y1n y1c y5 y6 v7_101 w K0 Kr
        else
          ldL (a8_23.add 2) w fun x44_28 x44_28n x44_28c =>
          help_Own_int.f x44_28 x44_28n x44_28c 71 w fun r45_29 r45_29n r45_29c w =>
          ldI .i64 a8_23 w.drew fun x48_32 =>
          ldI .i64 a8_23 w.drew fun x53_33 =>
          ldL (a8_23.add 2) w.drew fun x55_34 x55_34n x55_34c =>
          mix_Mixer_Mix.f y5 x48_32 r45_29 r45_29n r45_29c w.drew fun r50_35 w =>
          (World.cell? w (a8_23.add 2) = some (.slice x55_34 x55_34n x55_34c)) ∧
          ((World.cell? w a8_23 = some (.int .i64 x53_33)) ∧
          (ref06_Mixer_Mix.f y6 x53_33 x55_34 x55_34n x55_34c w fun r56_36 w =>
          bif (r50_35 != r56_36) then
            Kr false w
          else
            ldL (a8_23.add 2) w fun x61_37 x61_37n x61_37c =>
            help_Kept_int.f r45_29 r45_29n r45_29c x61_37 x61_37n x61_37c 71 w fun r62_38 w =>
            bif (!r62_38) then
              Kr false w
            else
              ∃ N_48 : Nat, law06_MixPlays.l15 N_48 y1 y1n y1c y5 y6 y7 a8_23 r45_29 r45_29n r45_29c ((r45_29n : Nat) : Int) 0 w
              (fun o1_49 o1_49n o1_49c o5_50 o6_51 o7_52 o8_53 w =>
                let J_100 := fun  (w : World) =>
                  ((ldI .i64 o8_53 w fun x92_64 =>
                  mix_Mixer_Weights.f o5_50 x92_64 w fun r93_65 r93_65n r93_65c w =>
                  sm o6_51 fun p_68 =>
                  ldL p_68 w.drew fun x98_69 x98_69n x98_69c =>
                  sm o6_51 fun p_70 =>
                  ldI .i64 (p_70.add 2) w.drew fun x102_71 =>
                  sm x98_69 fun p_72 =>
                  if 0 ≤ (x102_71 : Int) ∧ (x102_71 : Int) < ((x98_69n : Nat) : Int) then
                  ldL (p_72.add (Int.toNat x102_71)) w.drew fun x104_73 x104_73n x104_73c =>
                  help_Plain_int.f r93_65 r93_65n r93_65c x104_73 x104_73n x104_73c w.drew fun r105_74 w =>
                  (World.cell? w (p_70.add 2) = some (.int .i64 x102_71)) ∧
                  ((World.cell? w p_68 = some (.slice x98_69 x98_69n x98_69c)) ∧
                  (bif (!r105_74) then
                    Kr false w
                  else
                    ∃ N_83 : Nat, law06_MixPlays.l26 N_83 o1_49 o1_49n o1_49c o5_50 o6_51 o7_52 o8_53 r93_65 r93_65n r93_65c ((r93_65n : Nat) : Int) 0 w
                    (fun o1_84 o1_84n o1_84c o5_85 o6_86 o7_87 o8_88 w =>
                      ldI .i64 o8_88 w.drew fun x118_90 =>
                      sm o6_86 fun p_91 =>
                      ldL p_91 w.drew fun x123_92 x123_92n x123_92c =>
                      sm o6_86 fun p_93 =>
                      ldI .i64 (p_93.add 2) w.drew fun x127_94 =>
                      sm x123_92 fun p_95 =>
                      if 0 ≤ (x127_94 : Int) ∧ (x127_94 : Int) < ((x123_92n : Nat) : Int) then
                      ldL (p_95.add (Int.toNat x127_94)) w.drew fun x129_96 x129_96n x129_96c =>
                      mix_Mixer_Weights.f o5_85 x118_90 w.drew fun r119_97 r119_97n r119_97c w =>
                      (World.cell? w (p_95.add (Int.toNat x127_94)) = some (.slice x129_96 x129_96n x129_96c)) ∧
                      ((World.cell? w (p_93.add 2) = some (.int .i64 x127_94)) ∧
                      ((World.cell? w p_91 = some (.slice x123_92 x123_92n x123_92c)) ∧
                      (help_Plain_int.f r119_97 r119_97n r119_97c x129_96 x129_96n x129_96c w fun r130_98 w =>
                      (World.cell? w (p_93.add 2) = some (.int .i64 x127_94)) ∧
                      ((World.cell? w p_91 = some (.slice x123_92 x123_92n x123_92c)) ∧
                      (bif (!r130_98) then
                        Kr false w
                      else
                        let v7_102 := (IntKind.wrap .i64 (o7_87 + 1))
                        law06_MixPlays.l7 N o1_84 o1_84n o1_84c o5_85 o6_86 v7_102 w K0 Kr)))))
                      else False)))
                  else False) : Prop)
                let J_62 := fun (j81_58 : Bool) (w : World) =>
                  ((bif j81_58 then
                    ldI .i64 (o8_53.add 1) w fun x84_60 =>
                    mix_Mixer_Learn.f o5_50 x84_60 w fun w =>
                    ldI .i64 (o8_53.add 1) w fun x88_61 =>
                    ref06_Mixer_Learn.f o6_51 x88_61 w fun w =>
                    J_100 w
                  else
                    J_100 w) : Prop)
                ldI .i64 (o8_53.add 1) w fun x75_56 =>
                bif (x75_56 == 0) then
                  J_62 true w
                else
                  ldI .i64 (o8_53.add 1) w fun x79_57 =>
                  J_62 (x79_57 == 1) w)))
        else False
      else
        K0 w
    else
      K0 w

def law06_MixPlays.f (a0 : Int) (a1 : Option Addr) (a1n : Nat) (a1c : Nat) (w : World) (K : Bool → World → Prop) : Prop :=
  let J_106 := fun (j0_4 : Int) (w : World) =>
    ((mix_New.f j0_4 w fun r16_6 w =>
    ref06_New.f j0_4 w fun r18_7 w =>
    law06_awake.f  w fun r19_10 w =>
    bif (!r19_10) then
      K false w
    else
      bif r16_6.isNone then
        K false w
      else
        ∃ N_103 : Nat, law06_MixPlays.l7 N_103 a1 a1n a1c r16_6 r18_7 0 w
        (fun w =>
          K true w)
        (fun o4_104 w =>
          K o4_104 w)) : Prop)
  bif (decide (a0 > 50)) then
    J_106 50 w
  else
    J_106 a0 w
def law06_MixPlays.H (F : type_of% @law06_MixPlays.f) : Hf := fun args w K => match args with
  | [v0, v1] => vI .i64 v0 fun a0 => vL v1 fun a1 a1n a1c => F a0 a1 a1n a1c w (fun r0 w => K (Value.bool r0) w)
  | _ => False
def law06_MixPlays.h : Hf := law06_MixPlays.H @law06_MixPlays.f
def law06_MixPlays.CG (F30 : type_of% @mix_New.f) (F33 : type_of% @ref06_New.f) (F25 : type_of% @law06_awake.f) (F34 : type_of% @help_Own_int.f) (F31 : type_of% @mix_Mixer_Mix.f) (F35 : type_of% @ref06_Mixer_Mix.f) (F36 : type_of% @help_Kept_int.f) (F32 : type_of% @mix_Mixer_Learn.f) (F37 : type_of% @ref06_Mixer_Learn.f) (F38 : type_of% @mix_Mixer_Weights.f) (F39 : type_of% @help_Plain_int.f) : Hd := hcons 39 (help_Plain_int.H F39) (hcons 38 (mix_Mixer_Weights.H F38) (hcons 37 (ref06_Mixer_Learn.H F37) (hcons 32 (mix_Mixer_Learn.H F32) (hcons 36 (help_Kept_int.H F36) (hcons 35 (ref06_Mixer_Mix.H F35) (hcons 31 (mix_Mixer_Mix.H F31) (hcons 34 (help_Own_int.H F34) (hcons 25 (law06_awake.H F25) (hcons 33 (ref06_New.H F33) (hcons 30 (mix_New.H F30) (hnil)))))))))))
def law06_MixPlays.C : Hd := law06_MixPlays.CG @mix_New.f @ref06_New.f @law06_awake.f @help_Own_int.f @mix_Mixer_Mix.f @ref06_Mixer_Mix.f @help_Kept_int.f @mix_Mixer_Learn.f @ref06_Mixer_Learn.f @mix_Mixer_Weights.f @help_Plain_int.f
def law06_MixPlays.G (F30 : type_of% @mix_New.f) (F33 : type_of% @ref06_New.f) (F25 : type_of% @law06_awake.f) (F34 : type_of% @help_Own_int.f) (F31 : type_of% @mix_Mixer_Mix.f) (F35 : type_of% @ref06_Mixer_Mix.f) (F36 : type_of% @help_Kept_int.f) (F32 : type_of% @mix_Mixer_Learn.f) (F37 : type_of% @ref06_Mixer_Learn.f) (F38 : type_of% @mix_Mixer_Weights.f) (F39 : type_of% @help_Plain_int.f) (a0 : Int) (a1 : Option Addr) (a1n : Nat) (a1c : Nat) (w : World) (K : Bool → World → Prop) : Prop :=
  let J_106 := fun (j0_4 : Int) (w : World) =>
    ((F30 j0_4 w fun r16_6 w =>
    F33 j0_4 w fun r18_7 w =>
    F25  w fun r19_10 w =>
    bif (!r19_10) then
      K false w
    else
      bif r16_6.isNone then
        K false w
      else
        ∃ N_103 : Nat, law06_MixPlays.l7 N_103 a1 a1n a1c r16_6 r18_7 0 w
        (fun w =>
          K true w)
        (fun o4_104 w =>
          K o4_104 w)) : Prop)
  bif (decide (a0 > 50)) then
    J_106 50 w
  else
    J_106 a0 w
theorem law06_MixPlays.C_ok : CSound Try.prog law06_MixPlays.C := hcons_ok help_Plain_int.ok (hcons_ok mix_Mixer_Weights.ok (hcons_ok ref06_Mixer_Learn.ok (hcons_ok mix_Mixer_Learn.ok (hcons_ok help_Kept_int.ok (hcons_ok ref06_Mixer_Mix.ok (hcons_ok mix_Mixer_Mix.ok (hcons_ok help_Own_int.ok (hcons_ok law06_awake.ok (hcons_ok ref06_New.ok (hcons_ok mix_New.ok (hnil_ok)))))))))))
def law06_MixPlays.D : Nat → Plan := fun i => (match Nat.beq i 30 with | true => .take 0 (.take 1 (.take 2 (.take 4 (.take 5 (.take 6 (.take 7 (.take 8 (.take 9 (.take 10 (.take 11 (.take 12 (.take 13 (.eff 3 (.eff 14 (.take 15 (.done)))))))))))))))) | false => (match Nat.beq i 23 with | true => .take 0 (.take 1 (.take 2 (.take 3 (.take 4 (.take 5 (.take 6 (.take 7 (.take 8 (.take 9 (.take 10 (.eff 11 (.take 12 (.done))))))))))))) | false => (match Nat.beq i 12 with | true => .take 0 (.take 1 (.take 2 (.take 3 (.take 5 (.take 6 (.take 7 (.take 8 (.take 9 (.eff 4 (.eff 10 (.take 11 (.take 12 (.take 13 (.take 14 (.take 15 (.eff 16 (.take 17 (.take 18 (.done))))))))))))))))))) | false => .done)))
noncomputable def law06_MixPlays.c : Code := Try.f11.body.getD .skip
theorem law06_MixPlays.hb : Try.f11.body = some law06_MixPlays.c := by kernel_rfl
noncomputable def law06_MixPlays.b0 : Code := (loopsOf law06_MixPlays.c).getD 0 .skip
noncomputable def law06_MixPlays.b0_0 : Code := (loopsOf law06_MixPlays.b0).getD 0 .skip
theorem law06_MixPlays.b0_0_loops : loopsOf law06_MixPlays.b0_0 = [] := by kernel_rfl
noncomputable def law06_MixPlays.b0_1 : Code := (loopsOf law06_MixPlays.b0).getD 1 .skip
theorem law06_MixPlays.b0_1_loops : loopsOf law06_MixPlays.b0_1 = [] := by kernel_rfl
theorem law06_MixPlays.b0_loops : loopsOf law06_MixPlays.b0 = [law06_MixPlays.b0_0, law06_MixPlays.b0_1] := by kernel_rfl
theorem law06_MixPlays.c_loops : loopsOf law06_MixPlays.c = [law06_MixPlays.b0] := by kernel_rfl
def law06_MixPlays.l15G (F30 : type_of% @mix_New.f) (F33 : type_of% @ref06_New.f) (F25 : type_of% @law06_awake.f) (F34 : type_of% @help_Own_int.f) (F31 : type_of% @mix_Mixer_Mix.f) (F35 : type_of% @ref06_Mixer_Mix.f) (F36 : type_of% @help_Kept_int.f) (F32 : type_of% @mix_Mixer_Learn.f) (F37 : type_of% @ref06_Mixer_Learn.f) (F38 : type_of% @mix_Mixer_Weights.f) (F39 : type_of% @help_Plain_int.f) (R : Option Addr → Nat → Nat → Option Addr → Option Addr → Int → Addr → Option Addr → Nat → Nat → Int → Int → World → (Option Addr → Nat → Nat → Option Addr → Option Addr → Int → Addr → World → Prop) → Prop) : Option Addr → Nat → Nat → Option Addr → Option Addr → Int → Addr → Option Addr → Nat → Nat → Int → Int → World → (Option Addr → Nat → Nat → Option Addr → Option Addr → Int → Addr → World → Prop) → Prop := fun y1 y1n y1c y5 y6 y7 y8 y9 y9n y9c y66 y67 w K2 =>
    bif (decide (y67 < y66)) then
      sm y9 fun p_47 =>
      if 0 ≤ (y67 : Int) ∧ (y67 : Int) < ((y9n : Nat) : Int) then
      stC (p_47.add (Int.toNat y67)) (Value.int .i64 5) w fun w =>
      R y1 y1n y1c y5 y6 y7 y8 y9 y9n y9c y66 (IntKind.wrap .i64 (y67 + 1)) w K2
      else False
    else
      K2 y1 y1n y1c y5 y6 y7 y8 w

def law06_MixPlays.l26G (F30 : type_of% @mix_New.f) (F33 : type_of% @ref06_New.f) (F25 : type_of% @law06_awake.f) (F34 : type_of% @help_Own_int.f) (F31 : type_of% @mix_Mixer_Mix.f) (F35 : type_of% @ref06_Mixer_Mix.f) (F36 : type_of% @help_Kept_int.f) (F32 : type_of% @mix_Mixer_Learn.f) (F37 : type_of% @ref06_Mixer_Learn.f) (F38 : type_of% @mix_Mixer_Weights.f) (F39 : type_of% @help_Plain_int.f) (R : Option Addr → Nat → Nat → Option Addr → Option Addr → Int → Addr → Option Addr → Nat → Nat → Int → Int → World → (Option Addr → Nat → Nat → Option Addr → Option Addr → Int → Addr → World → Prop) → Prop) : Option Addr → Nat → Nat → Option Addr → Option Addr → Int → Addr → Option Addr → Nat → Nat → Int → Int → World → (Option Addr → Nat → Nat → Option Addr → Option Addr → Int → Addr → World → Prop) → Prop := fun y1 y1n y1c y5 y6 y7 y8 y11 y11n y11c y108 y109 w K4 =>
    bif (decide (y109 < y108)) then
      sm y11 fun p_82 =>
      if 0 ≤ (y109 : Int) ∧ (y109 : Int) < ((y11n : Nat) : Int) then
      stC (p_82.add (Int.toNat y109)) (Value.int .i64 7) w fun w =>
      R y1 y1n y1c y5 y6 y7 y8 y11 y11n y11c y108 (IntKind.wrap .i64 (y109 + 1)) w K4
      else False
    else
      K4 y1 y1n y1c y5 y6 y7 y8 w

def law06_MixPlays.l7G (F30 : type_of% @mix_New.f) (F33 : type_of% @ref06_New.f) (F25 : type_of% @law06_awake.f) (F34 : type_of% @help_Own_int.f) (F31 : type_of% @mix_Mixer_Mix.f) (F35 : type_of% @ref06_Mixer_Mix.f) (F36 : type_of% @help_Kept_int.f) (F32 : type_of% @mix_Mixer_Learn.f) (F37 : type_of% @ref06_Mixer_Learn.f) (F38 : type_of% @mix_Mixer_Weights.f) (F39 : type_of% @help_Plain_int.f) (R : Option Addr → Nat → Nat → Option Addr → Option Addr → Int → World → (World → Prop) → (Bool → World → Prop) → Prop) : Option Addr → Nat → Nat → Option Addr → Option Addr → Int → World → (World → Prop) → (Bool → World → Prop) → Prop := fun y1 y1n y1c y5 y6 y7 w K0 Kr =>
    bif (decide (y7 < ((y1n : Nat) : Int))) then
      bif (decide (y7 < 200)) then
        sm y1 fun p_19 =>
        if 0 ≤ (y7 : Int) ∧ (y7 : Int) < ((y1n : Nat) : Int) then
        ldI .i64 ((p_19.add (Int.toNat y7 * 3)).add 0) w fun x38_20 =>
        ldI .i64 ((p_19.add (Int.toNat y7 * 3)).add 1) w fun x38_21 =>
        ldL ((p_19.add (Int.toNat y7 * 3)).add 2) w fun x38_22 x38_22n x38_22c =>
        newC 57 [(Value.int .i64 0), (Value.int .i64 0), (Value.slice none 0 0)] w fun a8_23 w =>
        stCs a8_23 [(Value.int .i64 x38_20), (Value.int .i64 x38_21), (Value.slice x38_22 x38_22n x38_22c)] 0 w fun w =>
        ldL (a8_23.add 2) w fun x40_26 x40_26n x40_26c =>
        bif (decide (((x40_26n : Nat) : Int) > 20)) then
          let v7_101 := (IntKind.wrap .i64 (y7 + 1))
          R y1 y1n y1c y5 y6 v7_101 w K0 Kr
        else
          ldL (a8_23.add 2) w fun x44_28 x44_28n x44_28c =>
          F34 x44_28 x44_28n x44_28c 71 w fun r45_29 r45_29n r45_29c w =>
          ldI .i64 a8_23 w.drew fun x48_32 =>
          ldI .i64 a8_23 w.drew fun x53_33 =>
          ldL (a8_23.add 2) w.drew fun x55_34 x55_34n x55_34c =>
          F31 y5 x48_32 r45_29 r45_29n r45_29c w.drew fun r50_35 w =>
          (World.cell? w (a8_23.add 2) = some (.slice x55_34 x55_34n x55_34c)) ∧
          ((World.cell? w a8_23 = some (.int .i64 x53_33)) ∧
          (F35 y6 x53_33 x55_34 x55_34n x55_34c w fun r56_36 w =>
          bif (r50_35 != r56_36) then
            Kr false w
          else
            ldL (a8_23.add 2) w fun x61_37 x61_37n x61_37c =>
            F36 r45_29 r45_29n r45_29c x61_37 x61_37n x61_37c 71 w fun r62_38 w =>
            bif (!r62_38) then
              Kr false w
            else
              ∃ N_48 : Nat, law06_MixPlays.l15 N_48 y1 y1n y1c y5 y6 y7 a8_23 r45_29 r45_29n r45_29c ((r45_29n : Nat) : Int) 0 w
              (fun o1_49 o1_49n o1_49c o5_50 o6_51 o7_52 o8_53 w =>
                let J_100 := fun  (w : World) =>
                  ((ldI .i64 o8_53 w fun x92_64 =>
                  F38 o5_50 x92_64 w fun r93_65 r93_65n r93_65c w =>
                  sm o6_51 fun p_68 =>
                  ldL p_68 w.drew fun x98_69 x98_69n x98_69c =>
                  sm o6_51 fun p_70 =>
                  ldI .i64 (p_70.add 2) w.drew fun x102_71 =>
                  sm x98_69 fun p_72 =>
                  if 0 ≤ (x102_71 : Int) ∧ (x102_71 : Int) < ((x98_69n : Nat) : Int) then
                  ldL (p_72.add (Int.toNat x102_71)) w.drew fun x104_73 x104_73n x104_73c =>
                  F39 r93_65 r93_65n r93_65c x104_73 x104_73n x104_73c w.drew fun r105_74 w =>
                  (World.cell? w (p_70.add 2) = some (.int .i64 x102_71)) ∧
                  ((World.cell? w p_68 = some (.slice x98_69 x98_69n x98_69c)) ∧
                  (bif (!r105_74) then
                    Kr false w
                  else
                    ∃ N_83 : Nat, law06_MixPlays.l26 N_83 o1_49 o1_49n o1_49c o5_50 o6_51 o7_52 o8_53 r93_65 r93_65n r93_65c ((r93_65n : Nat) : Int) 0 w
                    (fun o1_84 o1_84n o1_84c o5_85 o6_86 o7_87 o8_88 w =>
                      ldI .i64 o8_88 w.drew fun x118_90 =>
                      sm o6_86 fun p_91 =>
                      ldL p_91 w.drew fun x123_92 x123_92n x123_92c =>
                      sm o6_86 fun p_93 =>
                      ldI .i64 (p_93.add 2) w.drew fun x127_94 =>
                      sm x123_92 fun p_95 =>
                      if 0 ≤ (x127_94 : Int) ∧ (x127_94 : Int) < ((x123_92n : Nat) : Int) then
                      ldL (p_95.add (Int.toNat x127_94)) w.drew fun x129_96 x129_96n x129_96c =>
                      F38 o5_85 x118_90 w.drew fun r119_97 r119_97n r119_97c w =>
                      (World.cell? w (p_95.add (Int.toNat x127_94)) = some (.slice x129_96 x129_96n x129_96c)) ∧
                      ((World.cell? w (p_93.add 2) = some (.int .i64 x127_94)) ∧
                      ((World.cell? w p_91 = some (.slice x123_92 x123_92n x123_92c)) ∧
                      (F39 r119_97 r119_97n r119_97c x129_96 x129_96n x129_96c w fun r130_98 w =>
                      (World.cell? w (p_93.add 2) = some (.int .i64 x127_94)) ∧
                      ((World.cell? w p_91 = some (.slice x123_92 x123_92n x123_92c)) ∧
                      (bif (!r130_98) then
                        Kr false w
                      else
                        let v7_102 := (IntKind.wrap .i64 (o7_87 + 1))
                        R o1_84 o1_84n o1_84c o5_85 o6_86 v7_102 w K0 Kr)))))
                      else False)))
                  else False) : Prop)
                let J_62 := fun (j81_58 : Bool) (w : World) =>
                  ((bif j81_58 then
                    ldI .i64 (o8_53.add 1) w fun x84_60 =>
                    F32 o5_50 x84_60 w fun w =>
                    ldI .i64 (o8_53.add 1) w fun x88_61 =>
                    F37 o6_51 x88_61 w fun w =>
                    J_100 w
                  else
                    J_100 w) : Prop)
                ldI .i64 (o8_53.add 1) w fun x75_56 =>
                bif (x75_56 == 0) then
                  J_62 true w
                else
                  ldI .i64 (o8_53.add 1) w fun x79_57 =>
                  J_62 (x79_57 == 1) w)))
        else False
      else
        K0 w
    else
      K0 w

def law06_MixPlays.hn15 (N : Nat) (f : Fr) (w : World) (K : AExit → Fr → World → Prop) : Prop :=
  gN f 132 <| gL f 1 fun y1 y1n y1c => gP f 5 fun y5 => gP f 6 fun y6 => gI .i64 f 7 fun y7 => gQ f 8 fun y8 => gL f 9 fun y9 y9n y9c => gI .i64 f 66 fun y66 => gI .i64 f 67 fun y67 => law06_MixPlays.l15 N y1 y1n y1c y5 y6 y7 y8 y9 y9n y9c y66 y67 w (fun o1 o1n o1c o5 o6 o7 o8 w => K (.exit 2) [none, some (Value.slice o1 o1n o1c), none, none, none, some (Value.pointer o5), some (Value.pointer o6), some (Value.int .i64 o7), some (Value.pointer (some o8)), none, none, none, none, none, none, none, none, none, none, none, none, none, none, none, none, none, none, none, none, none, none, none, none, none, none, none, none, none, none, none, none, none, none, none, none, none, none, none, none, none, none, none, none, none, none, none, none, none, none, none, none, none, none, none, none, none, none, none, none, none, none, none, none, none, none, none, none, none, none, none, none, none, none, none, none, none, none, none, none, none, none, none, none, none, none, none, none, none, none, none, none, none, none, none, none, none, none, none, none, none, none, none, none, none, none, none, none, none, none, none, none, none, none, none, none, none, none, none, none, none, none, none] w)
def law06_MixPlays.hx15 : AExit → Fr → World → (AExit → Fr → World → Prop) → Prop := fun e f w K => match e with
  | .normal => False
  | .exit i => (match Nat.beq i 2 with | true => gN f 132 <| gL f 1 fun o1 o1n o1c => gP f 5 fun o5 => gP f 6 fun o6 => gI .i64 f 7 fun o7 => gQ f 8 fun o8 => K (.exit 2) [none, some (Value.slice o1 o1n o1c), none, none, none, some (Value.pointer o5), some (Value.pointer o6), some (Value.int .i64 o7), some (Value.pointer (some o8)), none, none, none, none, none, none, none, none, none, none, none, none, none, none, none, none, none, none, none, none, none, none, none, none, none, none, none, none, none, none, none, none, none, none, none, none, none, none, none, none, none, none, none, none, none, none, none, none, none, none, none, none, none, none, none, none, none, none, none, none, none, none, none, none, none, none, none, none, none, none, none, none, none, none, none, none, none, none, none, none, none, none, none, none, none, none, none, none, none, none, none, none, none, none, none, none, none, none, none, none, none, none, none, none, none, none, none, none, none, none, none, none, none, none, none, none, none, none, none, none, none, none, none] w | false => False)
  | .ret => False
def law06_MixPlays.hn26 (N : Nat) (f : Fr) (w : World) (K : AExit → Fr → World → Prop) : Prop :=
  gN f 132 <| gL f 1 fun y1 y1n y1c => gP f 5 fun y5 => gP f 6 fun y6 => gI .i64 f 7 fun y7 => gQ f 8 fun y8 => gL f 11 fun y11 y11n y11c => gI .i64 f 108 fun y108 => gI .i64 f 109 fun y109 => law06_MixPlays.l26 N y1 y1n y1c y5 y6 y7 y8 y11 y11n y11c y108 y109 w (fun o1 o1n o1c o5 o6 o7 o8 w => K (.exit 4) [none, some (Value.slice o1 o1n o1c), none, none, none, some (Value.pointer o5), some (Value.pointer o6), some (Value.int .i64 o7), some (Value.pointer (some o8)), none, none, none, none, none, none, none, none, none, none, none, none, none, none, none, none, none, none, none, none, none, none, none, none, none, none, none, none, none, none, none, none, none, none, none, none, none, none, none, none, none, none, none, none, none, none, none, none, none, none, none, none, none, none, none, none, none, none, none, none, none, none, none, none, none, none, none, none, none, none, none, none, none, none, none, none, none, none, none, none, none, none, none, none, none, none, none, none, none, none, none, none, none, none, none, none, none, none, none, none, none, none, none, none, none, none, none, none, none, none, none, none, none, none, none, none, none, none, none, none, none, none, none] w)
def law06_MixPlays.hx26 : AExit → Fr → World → (AExit → Fr → World → Prop) → Prop := fun e f w K => match e with
  | .normal => False
  | .exit i => (match Nat.beq i 4 with | true => gN f 132 <| gL f 1 fun o1 o1n o1c => gP f 5 fun o5 => gP f 6 fun o6 => gI .i64 f 7 fun o7 => gQ f 8 fun o8 => K (.exit 4) [none, some (Value.slice o1 o1n o1c), none, none, none, some (Value.pointer o5), some (Value.pointer o6), some (Value.int .i64 o7), some (Value.pointer (some o8)), none, none, none, none, none, none, none, none, none, none, none, none, none, none, none, none, none, none, none, none, none, none, none, none, none, none, none, none, none, none, none, none, none, none, none, none, none, none, none, none, none, none, none, none, none, none, none, none, none, none, none, none, none, none, none, none, none, none, none, none, none, none, none, none, none, none, none, none, none, none, none, none, none, none, none, none, none, none, none, none, none, none, none, none, none, none, none, none, none, none, none, none, none, none, none, none, none, none, none, none, none, none, none, none, none, none, none, none, none, none, none, none, none, none, none, none, none, none, none, none, none, none, none] w | false => False)
  | .ret => False
def law06_MixPlays.hn7 (N : Nat) (f : Fr) (w : World) (K : AExit → Fr → World → Prop) : Prop :=
  gN f 132 <| gL f 1 fun y1 y1n y1c => gP f 5 fun y5 => gP f 6 fun y6 => gI .i64 f 7 fun y7 => law06_MixPlays.l7 N y1 y1n y1c y5 y6 y7 w (fun w => K (.exit 0) [none, none, none, none, none, none, none, none, none, none, none, none, none, none, none, none, none, none, none, none, none, none, none, none, none, none, none, none, none, none, none, none, none, none, none, none, none, none, none, none, none, none, none, none, none, none, none, none, none, none, none, none, none, none, none, none, none, none, none, none, none, none, none, none, none, none, none, none, none, none, none, none, none, none, none, none, none, none, none, none, none, none, none, none, none, none, none, none, none, none, none, none, none, none, none, none, none, none, none, none, none, none, none, none, none, none, none, none, none, none, none, none, none, none, none, none, none, none, none, none, none, none, none, none, none, none, none, none, none, none, none, none] w) (fun o4 w => K .ret [none, none, none, none, some (Value.bool o4), none, none, none, none, none, none, none, none, none, none, none, none, none, none, none, none, none, none, none, none, none, none, none, none, none, none, none, none, none, none, none, none, none, none, none, none, none, none, none, none, none, none, none, none, none, none, none, none, none, none, none, none, none, none, none, none, none, none, none, none, none, none, none, none, none, none, none, none, none, none, none, none, none, none, none, none, none, none, none, none, none, none, none, none, none, none, none, none, none, none, none, none, none, none, none, none, none, none, none, none, none, none, none, none, none, none, none, none, none, none, none, none, none, none, none, none, none, none, none, none, none, none, none, none, none, none, none] w)
def law06_MixPlays.hx7 : AExit → Fr → World → (AExit → Fr → World → Prop) → Prop := fun e f w K => match e with
  | .normal => False
  | .exit i => (match Nat.beq i 0 with | true => gN f 132 <|  K (.exit 0) [none, none, none, none, none, none, none, none, none, none, none, none, none, none, none, none, none, none, none, none, none, none, none, none, none, none, none, none, none, none, none, none, none, none, none, none, none, none, none, none, none, none, none, none, none, none, none, none, none, none, none, none, none, none, none, none, none, none, none, none, none, none, none, none, none, none, none, none, none, none, none, none, none, none, none, none, none, none, none, none, none, none, none, none, none, none, none, none, none, none, none, none, none, none, none, none, none, none, none, none, none, none, none, none, none, none, none, none, none, none, none, none, none, none, none, none, none, none, none, none, none, none, none, none, none, none, none, none, none, none, none, none] w | false => False)
  | .ret => gN f 132 <| gB f 4 fun o4 => K .ret [none, none, none, none, some (Value.bool o4), none, none, none, none, none, none, none, none, none, none, none, none, none, none, none, none, none, none, none, none, none, none, none, none, none, none, none, none, none, none, none, none, none, none, none, none, none, none, none, none, none, none, none, none, none, none, none, none, none, none, none, none, none, none, none, none, none, none, none, none, none, none, none, none, none, none, none, none, none, none, none, none, none, none, none, none, none, none, none, none, none, none, none, none, none, none, none, none, none, none, none, none, none, none, none, none, none, none, none, none, none, none, none, none, none, none, none, none, none, none, none, none, none, none, none, none, none, none, none, none, none, none, none, none, none, none, none] w
def law06_MixPlays.L : LHd := fun l f w K => (match Nat.beq l 7 with | true => ∃ N, law06_MixPlays.hn7 N f w K | false => (match Nat.beq l 26 with | true => ∃ N, law06_MixPlays.hn26 N f w K | false => (match Nat.beq l 15 with | true => ∃ N, law06_MixPlays.hn15 N f w K | false => False)))
theorem law06_MixPlays.leG15 (F30 : type_of% @mix_New.f) (F33 : type_of% @ref06_New.f) (F25 : type_of% @law06_awake.f) (F34 : type_of% @help_Own_int.f) (F31 : type_of% @mix_Mixer_Mix.f) (F35 : type_of% @ref06_Mixer_Mix.f) (F36 : type_of% @help_Kept_int.f) (F32 : type_of% @mix_Mixer_Learn.f) (F37 : type_of% @ref06_Mixer_Learn.f) (F38 : type_of% @mix_Mixer_Weights.f) (F39 : type_of% @help_Plain_int.f) (N : Nat) (y1 : Option Addr) (y1n : Nat) (y1c : Nat) (y5 : Option Addr) (y6 : Option Addr) (y7 : Int) (y8 : Addr) (y9 : Option Addr) (y9n : Nat) (y9c : Nat) (y66 : Int) (y67 : Int) (w : World) (K : AExit → Fr → World → Prop) : awp (law06_MixPlays.CG F30 F33 F25 F34 F31 F35 F36 F32 F37 F38 F39) law06_MixPlays.L law06_MixPlays.D tab law06_MixPlays.b0_0 (lpost law06_MixPlays.hn15 law06_MixPlays.hx15 N K) [none, some (Value.slice y1 y1n y1c), none, none, none, some (Value.pointer y5), some (Value.pointer y6), some (Value.int .i64 y7), some (Value.pointer (some y8)), some (Value.slice y9 y9n y9c), none, none, none, none, none, none, none, none, none, none, none, none, none, none, none, none, none, none, none, none, none, none, none, none, none, none, none, none, none, none, none, none, none, none, none, none, none, none, none, none, none, none, none, none, none, none, none, none, none, none, none, none, none, none, none, none, some (Value.int .i64 y66), some (Value.int .i64 y67), none, none, none, none, none, none, none, none, none, none, none, none, none, none, none, none, none, none, none, none, none, none, none, none, none, none, none, none, none, none, none, none, none, none, none, none, none, none, none, none, none, none, none, none, none, none, none, none, none, none, none, none, none, none, none, none, none, none, none, none, none, none, none, none] w = law06_MixPlays.l15G F30 F33 F25 F34 F31 F35 F36 F32 F37 F38 F39 (law06_MixPlays.l15 N) y1 y1n y1c y5 y6 y7 y8 y9 y9n y9c y66 y67 w (fun o1 o1n o1c o5 o6 o7 o8 w => K (.exit 2) [none, some (Value.slice o1 o1n o1c), none, none, none, some (Value.pointer o5), some (Value.pointer o6), some (Value.int .i64 o7), some (Value.pointer (some o8)), none, none, none, none, none, none, none, none, none, none, none, none, none, none, none, none, none, none, none, none, none, none, none, none, none, none, none, none, none, none, none, none, none, none, none, none, none, none, none, none, none, none, none, none, none, none, none, none, none, none, none, none, none, none, none, none, none, none, none, none, none, none, none, none, none, none, none, none, none, none, none, none, none, none, none, none, none, none, none, none, none, none, none, none, none, none, none, none, none, none, none, none, none, none, none, none, none, none, none, none, none, none, none, none, none, none, none, none, none, none, none, none, none, none, none, none, none, none, none, none, none, none, none] w) := by kernel_rfl
theorem law06_MixPlays.les15 (N : Nat) : law06_MixPlays.l15 (N + 1) = law06_MixPlays.l15G @mix_New.f @ref06_New.f @law06_awake.f @help_Own_int.f @mix_Mixer_Mix.f @ref06_Mixer_Mix.f @help_Kept_int.f @mix_Mixer_Learn.f @ref06_Mixer_Learn.f @mix_Mixer_Weights.f @help_Plain_int.f (law06_MixPlays.l15 N) := by kernel_rfl
theorem law06_MixPlays.le15 (N : Nat) (y1 : Option Addr) (y1n : Nat) (y1c : Nat) (y5 : Option Addr) (y6 : Option Addr) (y7 : Int) (y8 : Addr) (y9 : Option Addr) (y9n : Nat) (y9c : Nat) (y66 : Int) (y67 : Int) (w : World) (K : AExit → Fr → World → Prop) : awp law06_MixPlays.C law06_MixPlays.L law06_MixPlays.D tab law06_MixPlays.b0_0 (lpost law06_MixPlays.hn15 law06_MixPlays.hx15 N K) [none, some (Value.slice y1 y1n y1c), none, none, none, some (Value.pointer y5), some (Value.pointer y6), some (Value.int .i64 y7), some (Value.pointer (some y8)), some (Value.slice y9 y9n y9c), none, none, none, none, none, none, none, none, none, none, none, none, none, none, none, none, none, none, none, none, none, none, none, none, none, none, none, none, none, none, none, none, none, none, none, none, none, none, none, none, none, none, none, none, none, none, none, none, none, none, none, none, none, none, none, none, some (Value.int .i64 y66), some (Value.int .i64 y67), none, none, none, none, none, none, none, none, none, none, none, none, none, none, none, none, none, none, none, none, none, none, none, none, none, none, none, none, none, none, none, none, none, none, none, none, none, none, none, none, none, none, none, none, none, none, none, none, none, none, none, none, none, none, none, none, none, none, none, none, none, none, none, none] w = law06_MixPlays.l15 (N + 1) y1 y1n y1c y5 y6 y7 y8 y9 y9n y9c y66 y67 w (fun o1 o1n o1c o5 o6 o7 o8 w => K (.exit 2) [none, some (Value.slice o1 o1n o1c), none, none, none, some (Value.pointer o5), some (Value.pointer o6), some (Value.int .i64 o7), some (Value.pointer (some o8)), none, none, none, none, none, none, none, none, none, none, none, none, none, none, none, none, none, none, none, none, none, none, none, none, none, none, none, none, none, none, none, none, none, none, none, none, none, none, none, none, none, none, none, none, none, none, none, none, none, none, none, none, none, none, none, none, none, none, none, none, none, none, none, none, none, none, none, none, none, none, none, none, none, none, none, none, none, none, none, none, none, none, none, none, none, none, none, none, none, none, none, none, none, none, none, none, none, none, none, none, none, none, none, none, none, none, none, none, none, none, none, none, none, none, none, none, none, none, none, none, none, none, none] w) := by
  rw [law06_MixPlays.les15]
  exact law06_MixPlays.leG15 @mix_New.f @ref06_New.f @law06_awake.f @help_Own_int.f @mix_Mixer_Mix.f @ref06_Mixer_Mix.f @help_Kept_int.f @mix_Mixer_Learn.f @ref06_Mixer_Learn.f @mix_Mixer_Weights.f @help_Plain_int.f N y1 y1n y1c y5 y6 y7 y8 y9 y9n y9c y66 y67 w K
theorem law06_MixPlays.lok15 : LoopOk Try.prog law06_MixPlays.L law06_MixPlays.b0_0 := by
  refine loop_ok tab_ok law06_MixPlays.C_ok (D := law06_MixPlays.D) (law06_MixPlays.hn15) (law06_MixPlays.hx15) (by kernel_rfl) (by rw [law06_MixPlays.b0_0_loops]; exact lnil) ?_ ?_ ?_ ?_
  · intro f w K h
    unfold law06_MixPlays.hn15 at h
    obtain ⟨hlen, h⟩ := gN_ok h
    obtain ⟨y1, y1n, y1c, h1, h⟩ := gL_ok h
    obtain ⟨y5, h5, h⟩ := gP_ok h
    obtain ⟨y6, h6, h⟩ := gP_ok h
    obtain ⟨y7, h7, h⟩ := gI_ok h
    obtain ⟨y8, h8, h⟩ := gQ_ok h
    obtain ⟨y9, y9n, y9c, h9, h⟩ := gL_ok h
    obtain ⟨y66, h66, h⟩ := gI_ok h
    obtain ⟨y67, h67, h⟩ := gI_ok h
    exact h
  · intro N f w K h
    unfold law06_MixPlays.hn15 at h
    obtain ⟨hlen, h⟩ := gN_ok h
    obtain ⟨y1, y1n, y1c, h1, h⟩ := gL_ok h
    obtain ⟨y5, h5, h⟩ := gP_ok h
    obtain ⟨y6, h6, h⟩ := gP_ok h
    obtain ⟨y7, h7, h⟩ := gI_ok h
    obtain ⟨y8, h8, h⟩ := gQ_ok h
    obtain ⟨y9, y9n, y9c, h9, h⟩ := gL_ok h
    obtain ⟨y66, h66, h⟩ := gI_ok h
    obtain ⟨y67, h67, h⟩ := gI_ok h
    refine ⟨[none, some (Value.slice y1 y1n y1c), none, none, none, some (Value.pointer y5), some (Value.pointer y6), some (Value.int .i64 y7), some (Value.pointer (some y8)), some (Value.slice y9 y9n y9c), none, none, none, none, none, none, none, none, none, none, none, none, none, none, none, none, none, none, none, none, none, none, none, none, none, none, none, none, none, none, none, none, none, none, none, none, none, none, none, none, none, none, none, none, none, none, none, none, none, none, none, none, none, none, none, none, some (Value.int .i64 y66), some (Value.int .i64 y67), none, none, none, none, none, none, none, none, none, none, none, none, none, none, none, none, none, none, none, none, none, none, none, none, none, none, none, none, none, none, none, none, none, none, none, none, none, none, none, none, none, none, none, none, none, none, none, none, none, none, none, none, none, none, none, none, none, none, none, none, none, none, none, none], hlen, ⟨h1, h5, h6, h7, h8, h9, h66, h67, trivial⟩, ?_⟩
    rw [law06_MixPlays.le15]
    exact h
  · intro e f w K h
    cases e with
    | normal => exact h.elim
    | exit i =>
      unfold law06_MixPlays.hx15 at h
      simp only at h
      split at h
      · rename_i hb
        obtain rfl := Nat.eq_of_beq_eq_true hb
        obtain ⟨hlen, h⟩ := gN_ok h
        obtain ⟨o1, o1n, o1c, h1, h⟩ := gL_ok h
        obtain ⟨o5, h5, h⟩ := gP_ok h
        obtain ⟨o6, h6, h⟩ := gP_ok h
        obtain ⟨o7, h7, h⟩ := gI_ok h
        obtain ⟨o8, h8, h⟩ := gQ_ok h
        exact ⟨[none, some (Value.slice o1 o1n o1c), none, none, none, some (Value.pointer o5), some (Value.pointer o6), some (Value.int .i64 o7), some (Value.pointer (some o8)), none, none, none, none, none, none, none, none, none, none, none, none, none, none, none, none, none, none, none, none, none, none, none, none, none, none, none, none, none, none, none, none, none, none, none, none, none, none, none, none, none, none, none, none, none, none, none, none, none, none, none, none, none, none, none, none, none, none, none, none, none, none, none, none, none, none, none, none, none, none, none, none, none, none, none, none, none, none, none, none, none, none, none, none, none, none, none, none, none, none, none, none, none, none, none, none, none, none, none, none, none, none, none, none, none, none, none, none, none, none, none, none, none, none, none, none, none, none, none, none, none, none, none], hlen, ⟨h1, h5, h6, h7, h8, trivial⟩, h⟩
      · exact (show False from h).elim
    | ret =>
      exact (show False from h).elim
  · intro f w K h
    have e : lid law06_MixPlays.b0_0 = 15 := by kernel_rfl
    rw [e] at h
    exact h
theorem law06_MixPlays.leG26 (F30 : type_of% @mix_New.f) (F33 : type_of% @ref06_New.f) (F25 : type_of% @law06_awake.f) (F34 : type_of% @help_Own_int.f) (F31 : type_of% @mix_Mixer_Mix.f) (F35 : type_of% @ref06_Mixer_Mix.f) (F36 : type_of% @help_Kept_int.f) (F32 : type_of% @mix_Mixer_Learn.f) (F37 : type_of% @ref06_Mixer_Learn.f) (F38 : type_of% @mix_Mixer_Weights.f) (F39 : type_of% @help_Plain_int.f) (N : Nat) (y1 : Option Addr) (y1n : Nat) (y1c : Nat) (y5 : Option Addr) (y6 : Option Addr) (y7 : Int) (y8 : Addr) (y11 : Option Addr) (y11n : Nat) (y11c : Nat) (y108 : Int) (y109 : Int) (w : World) (K : AExit → Fr → World → Prop) : awp (law06_MixPlays.CG F30 F33 F25 F34 F31 F35 F36 F32 F37 F38 F39) law06_MixPlays.L law06_MixPlays.D tab law06_MixPlays.b0_1 (lpost law06_MixPlays.hn26 law06_MixPlays.hx26 N K) [none, some (Value.slice y1 y1n y1c), none, none, none, some (Value.pointer y5), some (Value.pointer y6), some (Value.int .i64 y7), some (Value.pointer (some y8)), none, none, some (Value.slice y11 y11n y11c), none, none, none, none, none, none, none, none, none, none, none, none, none, none, none, none, none, none, none, none, none, none, none, none, none, none, none, none, none, none, none, none, none, none, none, none, none, none, none, none, none, none, none, none, none, none, none, none, none, none, none, none, none, none, none, none, none, none, none, none, none, none, none, none, none, none, none, none, none, none, none, none, none, none, none, none, none, none, none, none, none, none, none, none, none, none, none, none, none, none, none, none, none, none, none, none, some (Value.int .i64 y108), some (Value.int .i64 y109), none, none, none, none, none, none, none, none, none, none, none, none, none, none, none, none, none, none, none, none, none, none] w = law06_MixPlays.l26G F30 F33 F25 F34 F31 F35 F36 F32 F37 F38 F39 (law06_MixPlays.l26 N) y1 y1n y1c y5 y6 y7 y8 y11 y11n y11c y108 y109 w (fun o1 o1n o1c o5 o6 o7 o8 w => K (.exit 4) [none, some (Value.slice o1 o1n o1c), none, none, none, some (Value.pointer o5), some (Value.pointer o6), some (Value.int .i64 o7), some (Value.pointer (some o8)), none, none, none, none, none, none, none, none, none, none, none, none, none, none, none, none, none, none, none, none, none, none, none, none, none, none, none, none, none, none, none, none, none, none, none, none, none, none, none, none, none, none, none, none, none, none, none, none, none, none, none, none, none, none, none, none, none, none, none, none, none, none, none, none, none, none, none, none, none, none, none, none, none, none, none, none, none, none, none, none, none, none, none, none, none, none, none, none, none, none, none, none, none, none, none, none, none, none, none, none, none, none, none, none, none, none, none, none, none, none, none, none, none, none, none, none, none, none, none, none, none, none, none] w) := by kernel_rfl
theorem law06_MixPlays.les26 (N : Nat) : law06_MixPlays.l26 (N + 1) = law06_MixPlays.l26G @mix_New.f @ref06_New.f @law06_awake.f @help_Own_int.f @mix_Mixer_Mix.f @ref06_Mixer_Mix.f @help_Kept_int.f @mix_Mixer_Learn.f @ref06_Mixer_Learn.f @mix_Mixer_Weights.f @help_Plain_int.f (law06_MixPlays.l26 N) := by kernel_rfl
theorem law06_MixPlays.le26 (N : Nat) (y1 : Option Addr) (y1n : Nat) (y1c : Nat) (y5 : Option Addr) (y6 : Option Addr) (y7 : Int) (y8 : Addr) (y11 : Option Addr) (y11n : Nat) (y11c : Nat) (y108 : Int) (y109 : Int) (w : World) (K : AExit → Fr → World → Prop) : awp law06_MixPlays.C law06_MixPlays.L law06_MixPlays.D tab law06_MixPlays.b0_1 (lpost law06_MixPlays.hn26 law06_MixPlays.hx26 N K) [none, some (Value.slice y1 y1n y1c), none, none, none, some (Value.pointer y5), some (Value.pointer y6), some (Value.int .i64 y7), some (Value.pointer (some y8)), none, none, some (Value.slice y11 y11n y11c), none, none, none, none, none, none, none, none, none, none, none, none, none, none, none, none, none, none, none, none, none, none, none, none, none, none, none, none, none, none, none, none, none, none, none, none, none, none, none, none, none, none, none, none, none, none, none, none, none, none, none, none, none, none, none, none, none, none, none, none, none, none, none, none, none, none, none, none, none, none, none, none, none, none, none, none, none, none, none, none, none, none, none, none, none, none, none, none, none, none, none, none, none, none, none, none, some (Value.int .i64 y108), some (Value.int .i64 y109), none, none, none, none, none, none, none, none, none, none, none, none, none, none, none, none, none, none, none, none, none, none] w = law06_MixPlays.l26 (N + 1) y1 y1n y1c y5 y6 y7 y8 y11 y11n y11c y108 y109 w (fun o1 o1n o1c o5 o6 o7 o8 w => K (.exit 4) [none, some (Value.slice o1 o1n o1c), none, none, none, some (Value.pointer o5), some (Value.pointer o6), some (Value.int .i64 o7), some (Value.pointer (some o8)), none, none, none, none, none, none, none, none, none, none, none, none, none, none, none, none, none, none, none, none, none, none, none, none, none, none, none, none, none, none, none, none, none, none, none, none, none, none, none, none, none, none, none, none, none, none, none, none, none, none, none, none, none, none, none, none, none, none, none, none, none, none, none, none, none, none, none, none, none, none, none, none, none, none, none, none, none, none, none, none, none, none, none, none, none, none, none, none, none, none, none, none, none, none, none, none, none, none, none, none, none, none, none, none, none, none, none, none, none, none, none, none, none, none, none, none, none, none, none, none, none, none, none] w) := by
  rw [law06_MixPlays.les26]
  exact law06_MixPlays.leG26 @mix_New.f @ref06_New.f @law06_awake.f @help_Own_int.f @mix_Mixer_Mix.f @ref06_Mixer_Mix.f @help_Kept_int.f @mix_Mixer_Learn.f @ref06_Mixer_Learn.f @mix_Mixer_Weights.f @help_Plain_int.f N y1 y1n y1c y5 y6 y7 y8 y11 y11n y11c y108 y109 w K
theorem law06_MixPlays.lok26 : LoopOk Try.prog law06_MixPlays.L law06_MixPlays.b0_1 := by
  refine loop_ok tab_ok law06_MixPlays.C_ok (D := law06_MixPlays.D) (law06_MixPlays.hn26) (law06_MixPlays.hx26) (by kernel_rfl) (by rw [law06_MixPlays.b0_1_loops]; exact lnil) ?_ ?_ ?_ ?_
  · intro f w K h
    unfold law06_MixPlays.hn26 at h
    obtain ⟨hlen, h⟩ := gN_ok h
    obtain ⟨y1, y1n, y1c, h1, h⟩ := gL_ok h
    obtain ⟨y5, h5, h⟩ := gP_ok h
    obtain ⟨y6, h6, h⟩ := gP_ok h
    obtain ⟨y7, h7, h⟩ := gI_ok h
    obtain ⟨y8, h8, h⟩ := gQ_ok h
    obtain ⟨y11, y11n, y11c, h11, h⟩ := gL_ok h
    obtain ⟨y108, h108, h⟩ := gI_ok h
    obtain ⟨y109, h109, h⟩ := gI_ok h
    exact h
  · intro N f w K h
    unfold law06_MixPlays.hn26 at h
    obtain ⟨hlen, h⟩ := gN_ok h
    obtain ⟨y1, y1n, y1c, h1, h⟩ := gL_ok h
    obtain ⟨y5, h5, h⟩ := gP_ok h
    obtain ⟨y6, h6, h⟩ := gP_ok h
    obtain ⟨y7, h7, h⟩ := gI_ok h
    obtain ⟨y8, h8, h⟩ := gQ_ok h
    obtain ⟨y11, y11n, y11c, h11, h⟩ := gL_ok h
    obtain ⟨y108, h108, h⟩ := gI_ok h
    obtain ⟨y109, h109, h⟩ := gI_ok h
    refine ⟨[none, some (Value.slice y1 y1n y1c), none, none, none, some (Value.pointer y5), some (Value.pointer y6), some (Value.int .i64 y7), some (Value.pointer (some y8)), none, none, some (Value.slice y11 y11n y11c), none, none, none, none, none, none, none, none, none, none, none, none, none, none, none, none, none, none, none, none, none, none, none, none, none, none, none, none, none, none, none, none, none, none, none, none, none, none, none, none, none, none, none, none, none, none, none, none, none, none, none, none, none, none, none, none, none, none, none, none, none, none, none, none, none, none, none, none, none, none, none, none, none, none, none, none, none, none, none, none, none, none, none, none, none, none, none, none, none, none, none, none, none, none, none, none, some (Value.int .i64 y108), some (Value.int .i64 y109), none, none, none, none, none, none, none, none, none, none, none, none, none, none, none, none, none, none, none, none, none, none], hlen, ⟨h1, h5, h6, h7, h8, h11, h108, h109, trivial⟩, ?_⟩
    rw [law06_MixPlays.le26]
    exact h
  · intro e f w K h
    cases e with
    | normal => exact h.elim
    | exit i =>
      unfold law06_MixPlays.hx26 at h
      simp only at h
      split at h
      · rename_i hb
        obtain rfl := Nat.eq_of_beq_eq_true hb
        obtain ⟨hlen, h⟩ := gN_ok h
        obtain ⟨o1, o1n, o1c, h1, h⟩ := gL_ok h
        obtain ⟨o5, h5, h⟩ := gP_ok h
        obtain ⟨o6, h6, h⟩ := gP_ok h
        obtain ⟨o7, h7, h⟩ := gI_ok h
        obtain ⟨o8, h8, h⟩ := gQ_ok h
        exact ⟨[none, some (Value.slice o1 o1n o1c), none, none, none, some (Value.pointer o5), some (Value.pointer o6), some (Value.int .i64 o7), some (Value.pointer (some o8)), none, none, none, none, none, none, none, none, none, none, none, none, none, none, none, none, none, none, none, none, none, none, none, none, none, none, none, none, none, none, none, none, none, none, none, none, none, none, none, none, none, none, none, none, none, none, none, none, none, none, none, none, none, none, none, none, none, none, none, none, none, none, none, none, none, none, none, none, none, none, none, none, none, none, none, none, none, none, none, none, none, none, none, none, none, none, none, none, none, none, none, none, none, none, none, none, none, none, none, none, none, none, none, none, none, none, none, none, none, none, none, none, none, none, none, none, none, none, none, none, none, none, none], hlen, ⟨h1, h5, h6, h7, h8, trivial⟩, h⟩
      · exact (show False from h).elim
    | ret =>
      exact (show False from h).elim
  · intro f w K h
    have e : lid law06_MixPlays.b0_1 = 26 := by kernel_rfl
    rw [e] at h
    exact h
theorem law06_MixPlays.leG7 (F30 : type_of% @mix_New.f) (F33 : type_of% @ref06_New.f) (F25 : type_of% @law06_awake.f) (F34 : type_of% @help_Own_int.f) (F31 : type_of% @mix_Mixer_Mix.f) (F35 : type_of% @ref06_Mixer_Mix.f) (F36 : type_of% @help_Kept_int.f) (F32 : type_of% @mix_Mixer_Learn.f) (F37 : type_of% @ref06_Mixer_Learn.f) (F38 : type_of% @mix_Mixer_Weights.f) (F39 : type_of% @help_Plain_int.f) (N : Nat) (y1 : Option Addr) (y1n : Nat) (y1c : Nat) (y5 : Option Addr) (y6 : Option Addr) (y7 : Int) (w : World) (K : AExit → Fr → World → Prop) : awp (law06_MixPlays.CG F30 F33 F25 F34 F31 F35 F36 F32 F37 F38 F39) law06_MixPlays.L law06_MixPlays.D tab law06_MixPlays.b0 (lpost law06_MixPlays.hn7 law06_MixPlays.hx7 N K) [none, some (Value.slice y1 y1n y1c), none, none, none, some (Value.pointer y5), some (Value.pointer y6), some (Value.int .i64 y7), none, none, none, none, none, none, none, none, none, none, none, none, none, none, none, none, none, none, none, none, none, none, none, none, none, none, none, none, none, none, none, none, none, none, none, none, none, none, none, none, none, none, none, none, none, none, none, none, none, none, none, none, none, none, none, none, none, none, none, none, none, none, none, none, none, none, none, none, none, none, none, none, none, none, none, none, none, none, none, none, none, none, none, none, none, none, none, none, none, none, none, none, none, none, none, none, none, none, none, none, none, none, none, none, none, none, none, none, none, none, none, none, none, none, none, none, none, none, none, none, none, none, none, none] w = law06_MixPlays.l7G F30 F33 F25 F34 F31 F35 F36 F32 F37 F38 F39 (law06_MixPlays.l7 N) y1 y1n y1c y5 y6 y7 w (fun w => K (.exit 0) [none, none, none, none, none, none, none, none, none, none, none, none, none, none, none, none, none, none, none, none, none, none, none, none, none, none, none, none, none, none, none, none, none, none, none, none, none, none, none, none, none, none, none, none, none, none, none, none, none, none, none, none, none, none, none, none, none, none, none, none, none, none, none, none, none, none, none, none, none, none, none, none, none, none, none, none, none, none, none, none, none, none, none, none, none, none, none, none, none, none, none, none, none, none, none, none, none, none, none, none, none, none, none, none, none, none, none, none, none, none, none, none, none, none, none, none, none, none, none, none, none, none, none, none, none, none, none, none, none, none, none, none] w) (fun o4 w => K .ret [none, none, none, none, some (Value.bool o4), none, none, none, none, none, none, none, none, none, none, none, none, none, none, none, none, none, none, none, none, none, none, none, none, none, none, none, none, none, none, none, none, none, none, none, none, none, none, none, none, none, none, none, none, none, none, none, none, none, none, none, none, none, none, none, none, none, none, none, none, none, none, none, none, none, none, none, none, none, none, none, none, none, none, none, none, none, none, none, none, none, none, none, none, none, none, none, none, none, none, none, none, none, none, none, none, none, none, none, none, none, none, none, none, none, none, none, none, none, none, none, none, none, none, none, none, none, none, none, none, none, none, none, none, none, none, none] w) := by kernel_rfl
theorem law06_MixPlays.les7 (N : Nat) : law06_MixPlays.l7 (N + 1) = law06_MixPlays.l7G @mix_New.f @ref06_New.f @law06_awake.f @help_Own_int.f @mix_Mixer_Mix.f @ref06_Mixer_Mix.f @help_Kept_int.f @mix_Mixer_Learn.f @ref06_Mixer_Learn.f @mix_Mixer_Weights.f @help_Plain_int.f (law06_MixPlays.l7 N) := by kernel_rfl
theorem law06_MixPlays.le7 (N : Nat) (y1 : Option Addr) (y1n : Nat) (y1c : Nat) (y5 : Option Addr) (y6 : Option Addr) (y7 : Int) (w : World) (K : AExit → Fr → World → Prop) : awp law06_MixPlays.C law06_MixPlays.L law06_MixPlays.D tab law06_MixPlays.b0 (lpost law06_MixPlays.hn7 law06_MixPlays.hx7 N K) [none, some (Value.slice y1 y1n y1c), none, none, none, some (Value.pointer y5), some (Value.pointer y6), some (Value.int .i64 y7), none, none, none, none, none, none, none, none, none, none, none, none, none, none, none, none, none, none, none, none, none, none, none, none, none, none, none, none, none, none, none, none, none, none, none, none, none, none, none, none, none, none, none, none, none, none, none, none, none, none, none, none, none, none, none, none, none, none, none, none, none, none, none, none, none, none, none, none, none, none, none, none, none, none, none, none, none, none, none, none, none, none, none, none, none, none, none, none, none, none, none, none, none, none, none, none, none, none, none, none, none, none, none, none, none, none, none, none, none, none, none, none, none, none, none, none, none, none, none, none, none, none, none, none] w = law06_MixPlays.l7 (N + 1) y1 y1n y1c y5 y6 y7 w (fun w => K (.exit 0) [none, none, none, none, none, none, none, none, none, none, none, none, none, none, none, none, none, none, none, none, none, none, none, none, none, none, none, none, none, none, none, none, none, none, none, none, none, none, none, none, none, none, none, none, none, none, none, none, none, none, none, none, none, none, none, none, none, none, none, none, none, none, none, none, none, none, none, none, none, none, none, none, none, none, none, none, none, none, none, none, none, none, none, none, none, none, none, none, none, none, none, none, none, none, none, none, none, none, none, none, none, none, none, none, none, none, none, none, none, none, none, none, none, none, none, none, none, none, none, none, none, none, none, none, none, none, none, none, none, none, none, none] w) (fun o4 w => K .ret [none, none, none, none, some (Value.bool o4), none, none, none, none, none, none, none, none, none, none, none, none, none, none, none, none, none, none, none, none, none, none, none, none, none, none, none, none, none, none, none, none, none, none, none, none, none, none, none, none, none, none, none, none, none, none, none, none, none, none, none, none, none, none, none, none, none, none, none, none, none, none, none, none, none, none, none, none, none, none, none, none, none, none, none, none, none, none, none, none, none, none, none, none, none, none, none, none, none, none, none, none, none, none, none, none, none, none, none, none, none, none, none, none, none, none, none, none, none, none, none, none, none, none, none, none, none, none, none, none, none, none, none, none, none, none, none] w) := by
  rw [law06_MixPlays.les7]
  exact law06_MixPlays.leG7 @mix_New.f @ref06_New.f @law06_awake.f @help_Own_int.f @mix_Mixer_Mix.f @ref06_Mixer_Mix.f @help_Kept_int.f @mix_Mixer_Learn.f @ref06_Mixer_Learn.f @mix_Mixer_Weights.f @help_Plain_int.f N y1 y1n y1c y5 y6 y7 w K
theorem law06_MixPlays.lok7 : LoopOk Try.prog law06_MixPlays.L law06_MixPlays.b0 := by
  refine loop_ok tab_ok law06_MixPlays.C_ok (D := law06_MixPlays.D) (law06_MixPlays.hn7) (law06_MixPlays.hx7) (by kernel_rfl) (by rw [law06_MixPlays.b0_loops]; exact lcons law06_MixPlays.lok15 (lcons law06_MixPlays.lok26 (lnil))) ?_ ?_ ?_ ?_
  · intro f w K h
    unfold law06_MixPlays.hn7 at h
    obtain ⟨hlen, h⟩ := gN_ok h
    obtain ⟨y1, y1n, y1c, h1, h⟩ := gL_ok h
    obtain ⟨y5, h5, h⟩ := gP_ok h
    obtain ⟨y6, h6, h⟩ := gP_ok h
    obtain ⟨y7, h7, h⟩ := gI_ok h
    exact h
  · intro N f w K h
    unfold law06_MixPlays.hn7 at h
    obtain ⟨hlen, h⟩ := gN_ok h
    obtain ⟨y1, y1n, y1c, h1, h⟩ := gL_ok h
    obtain ⟨y5, h5, h⟩ := gP_ok h
    obtain ⟨y6, h6, h⟩ := gP_ok h
    obtain ⟨y7, h7, h⟩ := gI_ok h
    refine ⟨[none, some (Value.slice y1 y1n y1c), none, none, none, some (Value.pointer y5), some (Value.pointer y6), some (Value.int .i64 y7), none, none, none, none, none, none, none, none, none, none, none, none, none, none, none, none, none, none, none, none, none, none, none, none, none, none, none, none, none, none, none, none, none, none, none, none, none, none, none, none, none, none, none, none, none, none, none, none, none, none, none, none, none, none, none, none, none, none, none, none, none, none, none, none, none, none, none, none, none, none, none, none, none, none, none, none, none, none, none, none, none, none, none, none, none, none, none, none, none, none, none, none, none, none, none, none, none, none, none, none, none, none, none, none, none, none, none, none, none, none, none, none, none, none, none, none, none, none, none, none, none, none, none, none], hlen, ⟨h1, h5, h6, h7, trivial⟩, ?_⟩
    rw [law06_MixPlays.le7]
    exact h
  · intro e f w K h
    cases e with
    | normal => exact h.elim
    | exit i =>
      unfold law06_MixPlays.hx7 at h
      simp only at h
      split at h
      · rename_i hb
        obtain rfl := Nat.eq_of_beq_eq_true hb
        obtain ⟨hlen, h⟩ := gN_ok h
        exact ⟨[none, none, none, none, none, none, none, none, none, none, none, none, none, none, none, none, none, none, none, none, none, none, none, none, none, none, none, none, none, none, none, none, none, none, none, none, none, none, none, none, none, none, none, none, none, none, none, none, none, none, none, none, none, none, none, none, none, none, none, none, none, none, none, none, none, none, none, none, none, none, none, none, none, none, none, none, none, none, none, none, none, none, none, none, none, none, none, none, none, none, none, none, none, none, none, none, none, none, none, none, none, none, none, none, none, none, none, none, none, none, none, none, none, none, none, none, none, none, none, none, none, none, none, none, none, none, none, none, none, none, none, none], hlen, trivial, h⟩
      · exact (show False from h).elim
    | ret =>
      unfold law06_MixPlays.hx7 at h
      simp only at h
      obtain ⟨hlen, h⟩ := gN_ok h
      obtain ⟨o4, h4, h⟩ := gB_ok h
      exact ⟨[none, none, none, none, some (Value.bool o4), none, none, none, none, none, none, none, none, none, none, none, none, none, none, none, none, none, none, none, none, none, none, none, none, none, none, none, none, none, none, none, none, none, none, none, none, none, none, none, none, none, none, none, none, none, none, none, none, none, none, none, none, none, none, none, none, none, none, none, none, none, none, none, none, none, none, none, none, none, none, none, none, none, none, none, none, none, none, none, none, none, none, none, none, none, none, none, none, none, none, none, none, none, none, none, none, none, none, none, none, none, none, none, none, none, none, none, none, none, none, none, none, none, none, none, none, none, none, none, none, none, none, none, none, none, none, none], hlen, ⟨h4, trivial⟩, h⟩
  · intro f w K h
    have e : lid law06_MixPlays.b0 = 7 := by kernel_rfl
    rw [e] at h
    exact h
theorem law06_MixPlays.eqG (F30 : type_of% @mix_New.f) (F33 : type_of% @ref06_New.f) (F25 : type_of% @law06_awake.f) (F34 : type_of% @help_Own_int.f) (F31 : type_of% @mix_Mixer_Mix.f) (F35 : type_of% @ref06_Mixer_Mix.f) (F36 : type_of% @help_Kept_int.f) (F32 : type_of% @mix_Mixer_Learn.f) (F37 : type_of% @ref06_Mixer_Learn.f) (F38 : type_of% @mix_Mixer_Weights.f) (F39 : type_of% @help_Plain_int.f) (a0 : Int) (a1 : Option Addr) (a1n : Nat) (a1c : Nat) (w : World) (K : Value → World → Prop) : afn (law06_MixPlays.CG F30 F33 F25 F34 F31 F35 F36 F32 F37 F38 F39) law06_MixPlays.L law06_MixPlays.D tab Try.f11 [(Value.int .i64 a0), (Value.slice a1 a1n a1c)] w K = law06_MixPlays.G F30 F33 F25 F34 F31 F35 F36 F32 F37 F38 F39 a0 a1 a1n a1c w (fun r0 w => K (Value.bool r0) w) := by kernel_rfl
theorem law06_MixPlays.eq (a0 : Int) (a1 : Option Addr) (a1n : Nat) (a1c : Nat) (w : World) (K : Value → World → Prop) : afn law06_MixPlays.C law06_MixPlays.L law06_MixPlays.D tab Try.f11 [(Value.int .i64 a0), (Value.slice a1 a1n a1c)] w K = law06_MixPlays.f a0 a1 a1n a1c w (fun r0 w => K (Value.bool r0) w) := law06_MixPlays.eqG @mix_New.f @ref06_New.f @law06_awake.f @help_Own_int.f @mix_Mixer_Mix.f @ref06_Mixer_Mix.f @help_Kept_int.f @mix_Mixer_Learn.f @ref06_Mixer_Learn.f @mix_Mixer_Weights.f @help_Plain_int.f a0 a1 a1n a1c w K
theorem law06_MixPlays.ok : FSound Try.prog 11 law06_MixPlays.h := by
  intro args w K h
  unfold law06_MixPlays.h law06_MixPlays.H at h
  split at h
  ·
    replace h := vI_ok h
    obtain ⟨a0, rfl, h⟩ := h
    replace h := vL_ok h
    obtain ⟨a1, a1n, a1c, rfl, h⟩ := h
    refine ⟨by kernel_rfl, fn_ok tab_ok law06_MixPlays.C_ok (L := law06_MixPlays.L) (D := law06_MixPlays.D) Try.func11 law06_MixPlays.hb (by kernel_rfl) (by rw [law06_MixPlays.c_loops]; exact lcons law06_MixPlays.lok7 (lnil)) (Nat.le_of_ble_eq_true (by kernel_rfl)) ?_⟩
    rw [law06_MixPlays.eq]
    exact h
  · exact h.elim
end Go.Proofs.Ytplepdjcgojagaa.G
