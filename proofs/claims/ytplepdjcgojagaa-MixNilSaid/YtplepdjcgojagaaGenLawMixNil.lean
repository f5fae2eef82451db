/- Go functions as predicate transformers, written by a program of this session (gen.py), with their soundness. -/
import Derived.Test.YtplepdjcgojagaaGen2
set_option linter.unusedVariables false
set_option linter.unusedSimpArgs false
set_option maxRecDepth 100000
namespace Go.Proofs.Ytplepdjcgojagaa.G
open Go Go.Proofs.Ytplepdjcgojagaa.Vm
/-! ### valise/valiselaw06.MixNil: function 12 -/
def law06_MixNil.l9 : Nat → Int → Option Addr → Nat → Nat → Option Addr → Option Addr → Nat → Nat → Int → World → (Int → Option Addr → Nat → Nat → Option Addr → Option Addr → Nat → Nat → World → Prop) → (Bool → World → Prop) → Prop
  | 0, _, _, _, _, _, _, _, _, _, _, _, _ => False
  | N + 1, y0, y2, y2n, y2c, y7, y9, y9n, y9c, y10, w, K0, Kr =>
    bif (decide (y10 < ((y9n : Nat) : Int))) then
      sm y9 fun p_24 =>
      if 0 ≤ (y10 : Int) ∧ (y10 : Int) < ((y9n : Nat) : Int) then
      ldI .i64 (p_24.add (Int.toNat y10)) w fun x42_25 =>
      bif (x42_25 != 16384) then
        Kr false w
      else
        let v10_27 := (IntKind.wrap .i64 (y10 + 1))
        law06_MixNil.l9 N y0 y2 y2n y2c y7 y9 y9n y9c v10_27 w K0 Kr
      else False
    else
      K0 y0 y2 y2n y2c y7 y9 y9n y9c w

def law06_MixNil.f (a0 : Int) (a1 : Int) (a2 : Option Addr) (a2n : Nat) (a2c : Nat) (w : World) (K : Bool → World → Prop) : Prop :=
  mix_Mixer_Learn.f none a1 w fun w =>
  mix_New.f 2 w fun r14_5 w =>
  law06_awake.f  w fun r15_8 w =>
  bif (!r15_8) then
    law06_awake.f  w fun r26_10 w =>
    K r26_10 w
  else
    bif r14_5.isNone then
      law06_awake.f  w fun r26_12 w =>
      K r26_12 w
    else
      bif (decide (((a2n : Nat) : Int) > 100)) then
        law06_awake.f  w fun r26_14 w =>
        K r26_14 w
      else
        mix_Mixer_Learn.f r14_5 a1 w fun w =>
        mix_Mixer_Weights.f r14_5 a0 w fun r32_17 r32_17n r32_17c w =>
        ∃ N_28 : Nat, law06_MixNil.l9 N_28 a0 a2 a2n a2c none r32_17 r32_17n r32_17c 0 w
        (fun o0_29 o2_30 o2_30n o2_30c o7_31 o9_32 o9_32n o9_32c w =>
          bif (((o9_32n : Nat) : Int) == 4) then
            mix_Mixer_Mix.f o7_31 o0_29 o2_30 o2_30n o2_30c w fun r51_35 w =>
            bif (r51_35 == 0) then
              mix_Mixer_Weights.f o7_31 o0_29 w fun r57_36 r57_36n r57_36c w =>
              let v6_37 := (((r57_36n : Nat) : Int) == 0)
              K v6_37 w
            else
              K false w
          else
            K false w)
        (fun o6_33 w =>
          K o6_33 w)
def law06_MixNil.H (F : type_of% @law06_MixNil.f) : Hf := fun args w K => match args with
  | [v0, v1, v2] => vI .i64 v0 fun a0 => vI .i64 v1 fun a1 => vL v2 fun a2 a2n a2c => F a0 a1 a2 a2n a2c w (fun r0 w => K (Value.bool r0) w)
  | _ => False
def law06_MixNil.h : Hf := law06_MixNil.H @law06_MixNil.f
def law06_MixNil.CG (F32 : type_of% @mix_Mixer_Learn.f) (F30 : type_of% @mix_New.f) (F25 : type_of% @law06_awake.f) (F38 : type_of% @mix_Mixer_Weights.f) (F31 : type_of% @mix_Mixer_Mix.f) : Hd := hcons 31 (mix_Mixer_Mix.H F31) (hcons 38 (mix_Mixer_Weights.H F38) (hcons 25 (law06_awake.H F25) (hcons 30 (mix_New.H F30) (hcons 32 (mix_Mixer_Learn.H F32) (hnil)))))
def law06_MixNil.C : Hd := law06_MixNil.CG @mix_Mixer_Learn.f @mix_New.f @law06_awake.f @mix_Mixer_Weights.f @mix_Mixer_Mix.f
def law06_MixNil.G (F32 : type_of% @mix_Mixer_Learn.f) (F30 : type_of% @mix_New.f) (F25 : type_of% @law06_awake.f) (F38 : type_of% @mix_Mixer_Weights.f) (F31 : type_of% @mix_Mixer_Mix.f) (a0 : Int) (a1 : Int) (a2 : Option Addr) (a2n : Nat) (a2c : Nat) (w : World) (K : Bool → World → Prop) : Prop :=
  F32 none a1 w fun w =>
  F30 2 w fun r14_5 w =>
  F25  w fun r15_8 w =>
  bif (!r15_8) then
    F25  w fun r26_10 w =>
    K r26_10 w
  else
    bif r14_5.isNone then
      F25  w fun r26_12 w =>
      K r26_12 w
    else
      bif (decide (((a2n : Nat) : Int) > 100)) then
        F25  w fun r26_14 w =>
        K r26_14 w
      else
        F32 r14_5 a1 w fun w =>
        F38 r14_5 a0 w fun r32_17 r32_17n r32_17c w =>
        ∃ N_28 : Nat, law06_MixNil.l9 N_28 a0 a2 a2n a2c none r32_17 r32_17n r32_17c 0 w
        (fun o0_29 o2_30 o2_30n o2_30c o7_31 o9_32 o9_32n o9_32c w =>
          bif (((o9_32n : Nat) : Int) == 4) then
            F31 o7_31 o0_29 o2_30 o2_30n o2_30c w fun r51_35 w =>
            bif (r51_35 == 0) then
              F38 o7_31 o0_29 w fun r57_36 r57_36n r57_36c w =>
              let v6_37 := (((r57_36n : Nat) : Int) == 0)
              K v6_37 w
            else
              K false w
          else
            K false w)
        (fun o6_33 w =>
          K o6_33 w)
theorem law06_MixNil.C_ok : CSound Try.prog law06_MixNil.C := hcons_ok mix_Mixer_Mix.ok (hcons_ok mix_Mixer_Weights.ok (hcons_ok law06_awake.ok (hcons_ok mix_New.ok (hcons_ok mix_Mixer_Learn.ok (hnil_ok)))))
def law06_MixNil.D : Nat → Plan := fun i => .done
noncomputable def law06_MixNil.c : Code := Try.f12.body.getD .skip
theorem law06_MixNil.hb : Try.f12.body = some law06_MixNil.c := by kernel_rfl
noncomputable def law06_MixNil.b0 : Code := (loopsOf law06_MixNil.c).getD 0 .skip
theorem law06_MixNil.b0_loops : loopsOf law06_MixNil.b0 = [] := by kernel_rfl
theorem law06_MixNil.c_loops : loopsOf law06_MixNil.c = [law06_MixNil.b0] := by kernel_rfl
def law06_MixNil.l9G (F32 : type_of% @mix_Mixer_Learn.f) (F30 : type_of% @mix_New.f) (F25 : type_of% @law06_awake.f) (F38 : type_of% @mix_Mixer_Weights.f) (F31 : type_of% @mix_Mixer_Mix.f) (R : Int → Option Addr → Nat → Nat → Option Addr → Option Addr → Nat → Nat → Int → World → (Int → Option Addr → Nat → Nat → Option Addr → Option Addr → Nat → Nat → World → Prop) → (Bool → World → Prop) → Prop) : Int → Option Addr → Nat → Nat → Option Addr → Option Addr → Nat → Nat → Int → World → (Int → Option Addr → Nat → Nat → Option Addr → Option Addr → Nat → Nat → World → Prop) → (Bool → World → Prop) → Prop := fun y0 y2 y2n y2c y7 y9 y9n y9c y10 w K0 Kr =>
    bif (decide (y10 < ((y9n : Nat) : Int))) then
      sm y9 fun p_24 =>
      if 0 ≤ (y10 : Int) ∧ (y10 : Int) < ((y9n : Nat) : Int) then
      ldI .i64 (p_24.add (Int.toNat y10)) w fun x42_25 =>
      bif (x42_25 != 16384) then
        Kr false w
      else
        let v10_27 := (IntKind.wrap .i64 (y10 + 1))
        R y0 y2 y2n y2c y7 y9 y9n y9c v10_27 w K0 Kr
      else False
    else
      K0 y0 y2 y2n y2c y7 y9 y9n y9c w

def law06_MixNil.hn9 (N : Nat) (f : Fr) (w : World) (K : AExit → Fr → World → Prop) : Prop :=
  gN f 61 <| gI .i64 f 0 fun y0 => gL f 2 fun y2 y2n y2c => gP f 7 fun y7 => gL f 9 fun y9 y9n y9c => gI .i64 f 10 fun y10 => law06_MixNil.l9 N y0 y2 y2n y2c y7 y9 y9n y9c y10 w (fun o0 o2 o2n o2c o7 o9 o9n o9c w => K (.exit 0) [some (Value.int .i64 o0), none, some (Value.slice o2 o2n o2c), none, none, none, none, some (Value.pointer o7), none, some (Value.slice o9 o9n o9c), none, none, none, none, none, none, none, none, none, none, none, none, none, none, none, none, none, none, none, none, none, none, none, none, none, none, none, none, none, none, none, none, none, none, none, none, none, none, none, none, none, none, none, none, none, none, none, none, none, none, none] w) (fun o6 w => K .ret [none, none, none, none, none, none, some (Value.bool o6), none, none, none, none, none, none, none, none, none, none, none, none, none, none, none, none, none, none, none, none, none, none, none, none, none, none, none, none, none, none, none, none, none, none, none, none, none, none, none, none, none, none, none, none, none, none, none, none, none, none, none, none, none, none] w)
def law06_MixNil.hx9 : AExit → Fr → World → (AExit → Fr → World → Prop) → Prop := fun e f w K => match e with
  | .normal => False
  | .exit i => (match Nat.beq i 0 with | true => gN f 61 <| gI .i64 f 0 fun o0 => gL f 2 fun o2 o2n o2c => gP f 7 fun o7 => gL f 9 fun o9 o9n o9c => K (.exit 0) [some (Value.int .i64 o0), none, some (Value.slice o2 o2n o2c), none, none, none, none, some (Value.pointer o7), none, some (Value.slice o9 o9n o9c), none, none, none, none, none, none, none, none, none, none, none, none, none, none, none, none, none, none, none, none, none, none, none, none, none, none, none, none, none, none, none, none, none, none, none, none, none, none, none, none, none, none, none, none, none, none, none, none, none, none, none] w | false => False)
  | .ret => gN f 61 <| gB f 6 fun o6 => K .ret [none, none, none, none, none, none, some (Value.bool o6), none, none, none, none, none, none, none, none, none, none, none, none, none, none, none, none, none, none, none, none, none, none, none, none, none, none, none, none, none, none, none, none, none, none, none, none, none, none, none, none, none, none, none, none, none, none, none, none, none, none, none, none, none, none] w
def law06_MixNil.L : LHd := fun l f w K => (match Nat.beq l 9 with | true => ∃ N, law06_MixNil.hn9 N f w K | false => False)
theorem law06_MixNil.leG9 (F32 : type_of% @mix_Mixer_Learn.f) (F30 : type_of% @mix_New.f) (F25 : type_of% @law06_awake.f) (F38 : type_of% @mix_Mixer_Weights.f) (F31 : type_of% @mix_Mixer_Mix.f) (N : Nat) (y0 : Int) (y2 : Option Addr) (y2n : Nat) (y2c : Nat) (y7 : Option Addr) (y9 : Option Addr) (y9n : Nat) (y9c : Nat) (y10 : Int) (w : World) (K : AExit → Fr → World → Prop) : awp (law06_MixNil.CG F32 F30 F25 F38 F31) law06_MixNil.L law06_MixNil.D tab law06_MixNil.b0 (lpost law06_MixNil.hn9 law06_MixNil.hx9 N K) [some (Value.int .i64 y0), none, some (Value.slice y2 y2n y2c), none, none, none, none, some (Value.pointer y7), none, some (Value.slice y9 y9n y9c), some (Value.int .i64 y10), none, none, none, none, none, none, none, none, none, none, none, none, none, none, none, none, none, none, none, none, none, none, none, none, none, none, none, none, none, none, none, none, none, none, none, none, none, none, none, none, none, none, none, none, none, none, none, none, none, none] w = law06_MixNil.l9G F32 F30 F25 F38 F31 (law06_MixNil.l9 N) y0 y2 y2n y2c y7 y9 y9n y9c y10 w (fun o0 o2 o2n o2c o7 o9 o9n o9c w => K (.exit 0) [some (Value.int .i64 o0), none, some (Value.slice o2 o2n o2c), none, none, none, none, some (Value.pointer o7), none, some (Value.slice o9 o9n o9c), none, none, none, none, none, none, none, none, none, none, none, none, none, none, none, none, none, none, none, none, none, none, none, none, none, none, none, none, none, none, none, none, none, none, none, none, none, none, none, none, none, none, none, none, none, none, none, none, none, none, none] w) (fun o6 w => K .ret [none, none, none, none, none, none, some (Value.bool o6), none, none, none, none, none, none, none, none, none, none, none, none, none, none, none, none, none, none, none, none, none, none, none, none, none, none, none, none, none, none, none, none, none, none, none, none, none, none, none, none, none, none, none, none, none, none, none, none, none, none, none, none, none, none] w) := by kernel_rfl
theorem law06_MixNil.les9 (N : Nat) : law06_MixNil.l9 (N + 1) = law06_MixNil.l9G @mix_Mixer_Learn.f @mix_New.f @law06_awake.f @mix_Mixer_Weights.f @mix_Mixer_Mix.f (law06_MixNil.l9 N) := by kernel_rfl
theorem law06_MixNil.le9 (N : Nat) (y0 : Int) (y2 : Option Addr) (y2n : Nat) (y2c : Nat) (y7 : Option Addr) (y9 : Option Addr) (y9n : Nat) (y9c : Nat) (y10 : Int) (w : World) (K : AExit → Fr → World → Prop) : awp law06_MixNil.C law06_MixNil.L law06_MixNil.D tab law06_MixNil.b0 (lpost law06_MixNil.hn9 law06_MixNil.hx9 N K) [some (Value.int .i64 y0), none, some (Value.slice y2 y2n y2c), none, none, none, none, some (Value.pointer y7), none, some (Value.slice y9 y9n y9c), some (Value.int .i64 y10), none, none, none, none, none, none, none, none, none, none, none, none, none, none, none, none, none, none, none, none, none, none, none, none, none, none, none, none, none, none, none, none, none, none, none, none, none, none, none, none, none, none, none, none, none, none, none, none, none, none] w = law06_MixNil.l9 (N + 1) y0 y2 y2n y2c y7 y9 y9n y9c y10 w (fun o0 o2 o2n o2c o7 o9 o9n o9c w => K (.exit 0) [some (Value.int .i64 o0), none, some (Value.slice o2 o2n o2c), none, none, none, none, some (Value.pointer o7), none, some (Value.slice o9 o9n o9c), none, none, none, none, none, none, none, none, none, none, none, none, none, none, none, none, none, none, none, none, none, none, none, none, none, none, none, none, none, none, none, none, none, none, none, none, none, none, none, none, none, none, none, none, none, none, none, none, none, none, none] w) (fun o6 w => K .ret [none, none, none, none, none, none, some (Value.bool o6), none, none, none, none, none, none, none, none, none, none, none, none, none, none, none, none, none, none, none, none, none, none, none, none, none, none, none, none, none, none, none, none, none, none, none, none, none, none, none, none, none, none, none, none, none, none, none, none, none, none, none, none, none, none] w) := by
  rw [law06_MixNil.les9]
  exact law06_MixNil.leG9 @mix_Mixer_Learn.f @mix_New.f @law06_awake.f @mix_Mixer_Weights.f @mix_Mixer_Mix.f N y0 y2 y2n y2c y7 y9 y9n y9c y10 w K
theorem law06_MixNil.lok9 : LoopOk Try.prog law06_MixNil.L law06_MixNil.b0 := by
  refine loop_ok tab_ok law06_MixNil.C_ok (D := law06_MixNil.D) (law06_MixNil.hn9) (law06_MixNil.hx9) (by kernel_rfl) (by rw [law06_MixNil.b0_loops]; exact lnil) ?_ ?_ ?_ ?_
  · intro f w K h
    unfold law06_MixNil.hn9 at h
    obtain ⟨hlen, h⟩ := gN_ok h
    obtain ⟨y0, h0, h⟩ := gI_ok h
    obtain ⟨y2, y2n, y2c, h2, h⟩ := gL_ok h
    obtain ⟨y7, h7, h⟩ := gP_ok h
    obtain ⟨y9, y9n, y9c, h9, h⟩ := gL_ok h
    obtain ⟨y10, h10, h⟩ := gI_ok h
    exact h
  · intro N f w K h
    unfold law06_MixNil.hn9 at h
    obtain ⟨hlen, h⟩ := gN_ok h
    obtain ⟨y0, h0, h⟩ := gI_ok h
    obtain ⟨y2, y2n, y2c, h2, h⟩ := gL_ok h
    obtain ⟨y7, h7, h⟩ := gP_ok h
    obtain ⟨y9, y9n, y9c, h9, h⟩ := gL_ok h
    obtain ⟨y10, h10, h⟩ := gI_ok h
    refine ⟨[some (Value.int .i64 y0), none, some (Value.slice y2 y2n y2c), none, none, none, none, some (Value.pointer y7), none, some (Value.slice y9 y9n y9c), some (Value.int .i64 y10), none, none, none, none, none, none, none, none, none, none, none, none, none, none, none, none, none, none, none, none, none, none, none, none, none, none, none, none, none, none, none, none, none, none, none, none, none, none, none, none, none, none, none, none, none, none, none, none, none, none], hlen, ⟨h0, h2, h7, h9, h10, trivial⟩, ?_⟩
    rw [law06_MixNil.le9]
    exact h
  · intro e f w K h
    cases e with
    | normal => exact h.elim
    | exit i =>
      unfold law06_MixNil.hx9 at h
      simp only at h
      split at h
      · rename_i hb
        obtain rfl := Nat.eq_of_beq_eq_true hb
        obtain ⟨hlen, h⟩ := gN_ok h
        obtain ⟨o0, h0, h⟩ := gI_ok h
        obtain ⟨o2, o2n, o2c, h2, h⟩ := gL_ok h
        obtain ⟨o7, h7, h⟩ := gP_ok h
        obtain ⟨o9, o9n, o9c, h9, h⟩ := gL_ok h
        exact ⟨[some (Value.int .i64 o0), none, some (Value.slice o2 o2n o2c), none, none, none, none, some (Value.pointer o7), none, some (Value.slice o9 o9n o9c), none, none, none, none, none, none, none, none, none, none, none, none, none, none, none, none, none, none, none, none, none, none, none, none, none, none, none, none, none, none, none, none, none, none, none, none, none, none, none, none, none, none, none, none, none, none, none, none, none, none, none], hlen, ⟨h0, h2, h7, h9, trivial⟩, h⟩
      · exact (show False from h).elim
    | ret =>
      unfold law06_MixNil.hx9 at h
      simp only at h
      obtain ⟨hlen, h⟩ := gN_ok h
      obtain ⟨o6, h6, h⟩ := gB_ok h
      exact ⟨[none, none, none, none, none, none, some (Value.bool o6), none, none, none, none, none, none, none, none, none, none, none, none, none, none, none, none, none, none, none, none, none, none, none, none, none, none, none, none, none, none, none, none, none, none, none, none, none, none, none, none, none, none, none, none, none, none, none, none, none, none, none, none, none, none], hlen, ⟨h6, trivial⟩, h⟩
  · intro f w K h
    have e : lid law06_MixNil.b0 = 9 := by kernel_rfl
    rw [e] at h
    exact h
theorem law06_MixNil.eqG (F32 : type_of% @mix_Mixer_Learn.f) (F30 : type_of% @mix_New.f) (F25 : type_of% @law06_awake.f) (F38 : type_of% @mix_Mixer_Weights.f) (F31 : type_of% @mix_Mixer_Mix.f) (a0 : Int) (a1 : Int) (a2 : Option Addr) (a2n : Nat) (a2c : Nat) (w : World) (K : Value → World → Prop) : afn (law06_MixNil.CG F32 F30 F25 F38 F31) law06_MixNil.L law06_MixNil.D tab Try.f12 [(Value.int .i64 a0), (Value.int .i64 a1), (Value.slice a2 a2n a2c)] w K = law06_MixNil.G F32 F30 F25 F38 F31 a0 a1 a2 a2n a2c w (fun r0 w => K (Value.bool r0) w) := by kernel_rfl
theorem law06_MixNil.eq (a0 : Int) (a1 : Int) (a2 : Option Addr) (a2n : Nat) (a2c : Nat) (w : World) (K : Value → World → Prop) : afn law06_MixNil.C law06_MixNil.L law06_MixNil.D tab Try.f12 [(Value.int .i64 a0), (Value.int .i64 a1), (Value.slice a2 a2n a2c)] w K = law06_MixNil.f a0 a1 a2 a2n a2c w (fun r0 w => K (Value.bool r0) w) := law06_MixNil.eqG @mix_Mixer_Learn.f @mix_New.f @law06_awake.f @mix_Mixer_Weights.f @mix_Mixer_Mix.f a0 a1 a2 a2n a2c w K
theorem law06_MixNil.ok : FSound Try.prog 12 law06_MixNil.h := by
  intro args w K h
  unfold law06_MixNil.h law06_MixNil.H at h
  split at h
  ·
    replace h := vI_ok h
    obtain ⟨a0, rfl, h⟩ := h
    replace h := vI_ok h
    obtain ⟨a1, rfl, h⟩ := h
    replace h := vL_ok h
    obtain ⟨a2, a2n, a2c, rfl, h⟩ := h
    refine ⟨by kernel_rfl, fn_ok tab_ok law06_MixNil.C_ok (L := law06_MixNil.L) (D := law06_MixNil.D) Try.func12 law06_MixNil.hb (by kernel_rfl) (by rw [law06_MixNil.c_loops]; exact lcons law06_MixNil.lok9 (lnil)) (Nat.le_of_ble_eq_true (by kernel_rfl)) ?_⟩
    rw [law06_MixNil.eq]
    exact h
  · exact h.elim
end Go.Proofs.Ytplepdjcgojagaa.G
