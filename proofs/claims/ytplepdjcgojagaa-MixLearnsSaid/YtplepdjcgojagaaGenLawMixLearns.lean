/- Go functions as predicate transformers, written by a program of this session (gen.py), with their soundness. -/
import Derived.Test.YtplepdjcgojagaaGen2
set_option linter.unusedVariables false
set_option linter.unusedSimpArgs false
set_option maxRecDepth 100000
namespace Go.Proofs.Ytplepdjcgojagaa.G
open Go Go.Proofs.Ytplepdjcgojagaa.Vm
/-! ### valise/valiselaw06.MixLearns: function 10 -/
def law06_MixLearns.l9 : Nat → Option Addr → Nat → Nat → Bool → Int → Option Addr → Int → Int → Int → World → (World → Prop) → (Bool → World → Prop) → Prop
  | 0, _, _, _, _, _, _, _, _, _, _, _, _ => False
  | N + 1, y0, y0n, y0c, y1, y2, y7, y8, y9, y10, w, K0, Kr =>
    bif (decide (y10 < (IntKind.wrap .i64 (Int.tmod (IntKind.wrap .u64 y2) 60)))) then
      mix_Mixer_Learn.f y7 y8 w fun w =>
      mix_Mixer_Mix.f y7 0 y0 y0n y0c w fun r42_26 w =>
      bif y1 then
        bif (decide (r42_26 < y9)) then
          Kr false w
        else
          bif (!y1) then
            bif (decide (r42_26 > y9)) then
              Kr false w
            else
              let v10_32 := (IntKind.wrap .i64 (y10 + 1))
              law06_MixLearns.l9 N y0 y0n y0c y1 y2 y7 y8 r42_26 v10_32 w K0 Kr
          else
            let v10_33 := (IntKind.wrap .i64 (y10 + 1))
            law06_MixLearns.l9 N y0 y0n y0c y1 y2 y7 y8 r42_26 v10_33 w K0 Kr
      else
        bif (!y1) then
          bif (decide (r42_26 > y9)) then
            Kr false w
          else
            let v10_34 := (IntKind.wrap .i64 (y10 + 1))
            law06_MixLearns.l9 N y0 y0n y0c y1 y2 y7 y8 r42_26 v10_34 w K0 Kr
        else
          let v10_35 := (IntKind.wrap .i64 (y10 + 1))
          law06_MixLearns.l9 N y0 y0n y0c y1 y2 y7 y8 r42_26 v10_35 w K0 Kr
    else
      K0 w

def law06_MixLearns.f (a0 : Option Addr) (a0n : Nat) (a0c : Nat) (a1 : Bool) (a2 : Int) (w : World) (K : Bool → World → Prop) : Prop :=
  mix_New.f 1 w fun r12_3 w =>
  law06_awake.f  w fun r13_6 w =>
  bif (!r13_6) then
    law06_awake.f  w fun r24_8 w =>
    K r24_8 w
  else
    bif r12_3.isNone then
      law06_awake.f  w fun r24_10 w =>
      K r24_10 w
    else
      bif (decide (((a0n : Nat) : Int) > 20)) then
        law06_awake.f  w fun r24_12 w =>
        K r24_12 w
      else
        let J_39 := fun (j8_16 : Int) (w : World) =>
          ((mix_Mixer_Mix.f r12_3 0 a0 a0n a0c w fun r28_18 w =>
          ∃ N_36 : Nat, law06_MixLearns.l9 N_36 a0 a0n a0c a1 a2 r12_3 j8_16 r28_18 0 w
          (fun w =>
            K true w)
          (fun o6_37 w =>
            K o6_37 w)) : Prop)
        bif a1 then
          J_39 1 w
        else
          J_39 0 w
def law06_MixLearns.H (F : type_of% @law06_MixLearns.f) : Hf := fun args w K => match args with
  | [v0, v1, v2] => vL v0 fun a0 a0n a0c => vB v1 fun a1 => vI .i64 v2 fun a2 => F a0 a0n a0c a1 a2 w (fun r0 w => K (Value.bool r0) w)
  | _ => False
def law06_MixLearns.h : Hf := law06_MixLearns.H @law06_MixLearns.f
def law06_MixLearns.CG (F30 : type_of% @mix_New.f) (F25 : type_of% @law06_awake.f) (F31 : type_of% @mix_Mixer_Mix.f) (F32 : type_of% @mix_Mixer_Learn.f) : Hd := hcons 32 (mix_Mixer_Learn.H F32) (hcons 31 (mix_Mixer_Mix.H F31) (hcons 25 (law06_awake.H F25) (hcons 30 (mix_New.H F30) (hnil))))
def law06_MixLearns.C : Hd := law06_MixLearns.CG @mix_New.f @law06_awake.f @mix_Mixer_Mix.f @mix_Mixer_Learn.f
def law06_MixLearns.G (F30 : type_of% @mix_New.f) (F25 : type_of% @law06_awake.f) (F31 : type_of% @mix_Mixer_Mix.f) (F32 : type_of% @mix_Mixer_Learn.f) (a0 : Option Addr) (a0n : Nat) (a0c : Nat) (a1 : Bool) (a2 : Int) (w : World) (K : Bool → World → Prop) : Prop :=
  F30 1 w fun r12_3 w =>
  F25  w fun r13_6 w =>
  bif (!r13_6) then
    F25  w fun r24_8 w =>
    K r24_8 w
  else
    bif r12_3.isNone then
      F25  w fun r24_10 w =>
      K r24_10 w
    else
      bif (decide (((a0n : Nat) : Int) > 20)) then
        F25  w fun r24_12 w =>
        K r24_12 w
      else
        let J_39 := fun (j8_16 : Int) (w : World) =>
          ((F31 r12_3 0 a0 a0n a0c w fun r28_18 w =>
          ∃ N_36 : Nat, law06_MixLearns.l9 N_36 a0 a0n a0c a1 a2 r12_3 j8_16 r28_18 0 w
          (fun w =>
            K true w)
          (fun o6_37 w =>
            K o6_37 w)) : Prop)
        bif a1 then
          J_39 1 w
        else
          J_39 0 w
theorem law06_MixLearns.C_ok : CSound Try.prog law06_MixLearns.C := hcons_ok mix_Mixer_Learn.ok (hcons_ok mix_Mixer_Mix.ok (hcons_ok law06_awake.ok (hcons_ok mix_New.ok (hnil_ok))))
def law06_MixLearns.D : Nat → Plan := fun i => .done
noncomputable def law06_MixLearns.c : Code := Try.f10.body.getD .skip
theorem law06_MixLearns.hb : Try.f10.body = some law06_MixLearns.c := by kernel_rfl
noncomputable def law06_MixLearns.b0 : Code := (loopsOf law06_MixLearns.c).getD 0 .skip
theorem law06_MixLearns.b0_loops : loopsOf law06_MixLearns.b0 = [] := by kernel_rfl
theorem law06_MixLearns.c_loops : loopsOf law06_MixLearns.c = [law06_MixLearns.b0] := by kernel_rfl
def law06_MixLearns.l9G (F30 : type_of% @mix_New.f) (F25 : type_of% @law06_awake.f) (F31 : type_of% @mix_Mixer_Mix.f) (F32 : type_of% @mix_Mixer_Learn.f) (R : Option Addr → Nat → Nat → Bool → Int → Option Addr → Int → Int → Int → World → (World → Prop) → (Bool → World → Prop) → Prop) : Option Addr → Nat → Nat → Bool → Int → Option Addr → Int → Int → Int → World → (World → Prop) → (Bool → World → Prop) → Prop := fun y0 y0n y0c y1 y2 y7 y8 y9 y10 w K0 Kr =>
    bif (decide (y10 < (IntKind.wrap .i64 (Int.tmod (IntKind.wrap .u64 y2) 60)))) then
      F32 y7 y8 w fun w =>
      F31 y7 0 y0 y0n y0c w fun r42_26 w =>
      bif y1 then
        bif (decide (r42_26 < y9)) then
          Kr false w
        else
          bif (!y1) then
            bif (decide (r42_26 > y9)) then
              Kr false w
            else
              let v10_32 := (IntKind.wrap .i64 (y10 + 1))
              R y0 y0n y0c y1 y2 y7 y8 r42_26 v10_32 w K0 Kr
          else
            let v10_33 := (IntKind.wrap .i64 (y10 + 1))
            R y0 y0n y0c y1 y2 y7 y8 r42_26 v10_33 w K0 Kr
      else
        bif (!y1) then
          bif (decide (r42_26 > y9)) then
            Kr false w
          else
            let v10_34 := (IntKind.wrap .i64 (y10 + 1))
            R y0 y0n y0c y1 y2 y7 y8 r42_26 v10_34 w K0 Kr
        else
          let v10_35 := (IntKind.wrap .i64 (y10 + 1))
          R y0 y0n y0c y1 y2 y7 y8 r42_26 v10_35 w K0 Kr
    else
      K0 w

def law06_MixLearns.hn9 (N : Nat) (f : Fr) (w : World) (K : AExit → Fr → World → Prop) : Prop :=
  gN f 59 <| gL f 0 fun y0 y0n y0c => gB f 1 fun y1 => gI .i64 f 2 fun y2 => gP f 7 fun y7 => gI .i64 f 8 fun y8 => gI .i64 f 9 fun y9 => gI .i64 f 10 fun y10 => law06_MixLearns.l9 N y0 y0n y0c y1 y2 y7 y8 y9 y10 w (fun w => K (.exit 0) [none, none, none, none, none, none, none, none, none, none, none, none, none, none, none, none, none, none, none, none, none, none, none, none, none, none, none, none, none, none, none, none, none, none, none, none, none, none, none, none, none, none, none, none, none, none, none, none, none, none, none, none, none, none, none, none, none, none, none] w) (fun o6 w => K .ret [none, none, none, none, none, none, some (Value.bool o6), none, none, none, none, none, none, none, none, none, none, none, none, none, none, none, none, none, none, none, none, none, none, none, none, none, none, none, none, none, none, none, none, none, none, none, none, none, none, none, none, none, none, none, none, none, none, none, none, none, none, none, none] w)
def law06_MixLearns.hx9 : AExit → Fr → World → (AExit → Fr → World → Prop) → Prop := fun e f w K => match e with
  | .normal => False
  | .exit i => (match Nat.beq i 0 with | true => gN f 59 <|  K (.exit 0) [none, none, none, none, none, none, none, none, none, none, none, none, none, none, none, none, none, none, none, none, none, none, none, none, none, none, none, none, none, none, none, none, none, none, none, none, none, none, none, none, none, none, none, none, none, none, none, none, none, none, none, none, none, none, none, none, none, none, none] w | false => False)
  | .ret => gN f 59 <| gB f 6 fun o6 => K .ret [none, none, none, none, none, none, some (Value.bool o6), none, none, none, none, none, none, none, none, none, none, none, none, none, none, none, none, none, none, none, none, none, none, none, none, none, none, none, none, none, none, none, none, none, none, none, none, none, none, none, none, none, none, none, none, none, none, none, none, none, none, none, none] w
def law06_MixLearns.L : LHd := fun l f w K => (match Nat.beq l 9 with | true => ∃ N, law06_MixLearns.hn9 N f w K | false => False)
theorem law06_MixLearns.leG9 (F30 : type_of% @mix_New.f) (F25 : type_of% @law06_awake.f) (F31 : type_of% @mix_Mixer_Mix.f) (F32 : type_of% @mix_Mixer_Learn.f) (N : Nat) (y0 : Option Addr) (y0n : Nat) (y0c : Nat) (y1 : Bool) (y2 : Int) (y7 : Option Addr) (y8 : Int) (y9 : Int) (y10 : Int) (w : World) (K : AExit → Fr → World → Prop) : awp (law06_MixLearns.CG F30 F25 F31 F32) law06_MixLearns.L law06_MixLearns.D tab law06_MixLearns.b0 (lpost law06_MixLearns.hn9 law06_MixLearns.hx9 N K) [some (Value.slice y0 y0n y0c), some (Value.bool y1), some (Value.int .i64 y2), none, none, none, none, some (Value.pointer y7), some (Value.int .i64 y8), some (Value.int .i64 y9), some (Value.int .i64 y10), none, none, none, none, none, none, none, none, none, none, none, none, none, none, none, none, none, none, none, none, none, none, none, none, none, none, none, none, none, none, none, none, none, none, none, none, none, none, none, none, none, none, none, none, none, none, none, none] w = law06_MixLearns.l9G F30 F25 F31 F32 (law06_MixLearns.l9 N) y0 y0n y0c y1 y2 y7 y8 y9 y10 w (fun w => K (.exit 0) [none, none, none, none, none, none, none, none, none, none, none, none, none, none, none, none, none, none, none, none, none, none, none, none, none, none, none, none, none, none, none, none, none, none, none, none, none, none, none, none, none, none, none, none, none, none, none, none, none, none, none, none, none, none, none, none, none, none, none] w) (fun o6 w => K .ret [none, none, none, none, none, none, some (Value.bool o6), none, none, none, none, none, none, none, none, none, none, none, none, none, none, none, none, none, none, none, none, none, none, none, none, none, none, none, none, none, none, none, none, none, none, none, none, none, none, none, none, none, none, none, none, none, none, none, none, none, none, none, none] w) := by kernel_rfl
theorem law06_MixLearns.les9 (N : Nat) : law06_MixLearns.l9 (N + 1) = law06_MixLearns.l9G @mix_New.f @law06_awake.f @mix_Mixer_Mix.f @mix_Mixer_Learn.f (law06_MixLearns.l9 N) := by kernel_rfl
theorem law06_MixLearns.le9 (N : Nat) (y0 : Option Addr) (y0n : Nat) (y0c : Nat) (y1 : Bool) (y2 : Int) (y7 : Option Addr) (y8 : Int) (y9 : Int) (y10 : Int) (w : World) (K : AExit → Fr → World → Prop) : awp law06_MixLearns.C law06_MixLearns.L law06_MixLearns.D tab law06_MixLearns.b0 (lpost law06_MixLearns.hn9 law06_MixLearns.hx9 N K) [some (Value.slice y0 y0n y0c), some (Value.bool y1), some (Value.int .i64 y2), none, none, none, none, some (Value.pointer y7), some (Value.int .i64 y8), some (Value.int .i64 y9), some (Value.int .i64 y10), none, none, none, none, none, none, none, none, none, none, none, none, none, none, none, none, none, none, none, none, none, none, none, none, none, none, none, none, none, none, none, none, none, none, none, none, none, none, none, none, none, none, none, none, none, none, none, none] w = law06_MixLearns.l9 (N + 1) y0 y0n y0c y1 y2 y7 y8 y9 y10 w (fun w => K (.exit 0) [none, none, none, none, none, none, none, none, none, none, none, none, none, none, none, none, none, none, none, none, none, none, none, none, none, none, none, none, none, none, none, none, none, none, none, none, none, none, none, none, none, none, none, none, none, none, none, none, none, none, none, none, none, none, none, none, none, none, none] w) (fun o6 w => K .ret [none, none, none, none, none, none, some (Value.bool o6), none, none, none, none, none, none, none, none, none, none, none, none, none, none, none, none, none, none, none, none, none, none, none, none, none, none, none, none, none, none, none, none, none, none, none, none, none, none, none, none, none, none, none, none, none, none, none, none, none, none, none, none] w) := by
  rw [law06_MixLearns.les9]
  exact law06_MixLearns.leG9 @mix_New.f @law06_awake.f @mix_Mixer_Mix.f @mix_Mixer_Learn.f N y0 y0n y0c y1 y2 y7 y8 y9 y10 w K
theorem law06_MixLearns.lok9 : LoopOk Try.prog law06_MixLearns.L law06_MixLearns.b0 := by
  refine loop_ok tab_ok law06_MixLearns.C_ok (D := law06_MixLearns.D) (law06_MixLearns.hn9) (law06_MixLearns.hx9) (by kernel_rfl) (by rw [law06_MixLearns.b0_loops]; exact lnil) ?_ ?_ ?_ ?_
  · intro f w K h
    unfold law06_MixLearns.hn9 at h
    obtain ⟨hlen, h⟩ := gN_ok h
    obtain ⟨y0, y0n, y0c, h0, h⟩ := gL_ok h
    obtain ⟨y1, h1, h⟩ := gB_ok h
    obtain ⟨y2, h2, h⟩ := gI_ok h
    obtain ⟨y7, h7, h⟩ := gP_ok h
    obtain ⟨y8, h8, h⟩ := gI_ok h
    obtain ⟨y9, h9, h⟩ := gI_ok h
    obtain ⟨y10, h10, h⟩ := gI_ok h
    exact h
  · intro N f w K h
    unfold law06_MixLearns.hn9 at h
    obtain ⟨hlen, h⟩ := gN_ok h
    obtain ⟨y0, y0n, y0c, h0, h⟩ := gL_ok h
    obtain ⟨y1, h1, h⟩ := gB_ok h
    obtain ⟨y2, h2, h⟩ := gI_ok h
    obtain ⟨y7, h7, h⟩ := gP_ok h
    obtain ⟨y8, h8, h⟩ := gI_ok h
    obtain ⟨y9, h9, h⟩ := gI_ok h
    obtain ⟨y10, h10, h⟩ := gI_ok h
    refine ⟨[some (Value.slice y0 y0n y0c), some (Value.bool y1), some (Value.int .i64 y2), none, none, none, none, some (Value.pointer y7), some (Value.int .i64 y8), some (Value.int .i64 y9), some (Value.int .i64 y10), none, none, none, none, none, none, none, none, none, none, none, none, none, none, none, none, none, none, none, none, none, none, none, none, none, none, none, none, none, none, none, none, none, none, none, none, none, none, none, none, none, none, none, none, none, none, none, none], hlen, ⟨h0, h1, h2, h7, h8, h9, h10, trivial⟩, ?_⟩
    rw [law06_MixLearns.le9]
    exact h
  · intro e f w K h
    cases e with
    | normal => exact h.elim
    | exit i =>
      unfold law06_MixLearns.hx9 at h
      simp only at h
      split at h
      · rename_i hb
        obtain rfl := Nat.eq_of_beq_eq_true hb
        obtain ⟨hlen, h⟩ := gN_ok h
        exact ⟨[none, none, none, none, none, none, none, none, none, none, none, none, none, none, none, none, none, none, none, none, none, none, none, none, none, none, none, none, none, none, none, none, none, none, none, none, none, none, none, none, none, none, none, none, none, none, none, none, none, none, none, none, none, none, none, none, none, none, none], hlen, trivial, h⟩
      · exact (show False from h).elim
    | ret =>
      unfold law06_MixLearns.hx9 at h
      simp only at h
      obtain ⟨hlen, h⟩ := gN_ok h
      obtain ⟨o6, h6, h⟩ := gB_ok h
      exact ⟨[none, none, none, none, none, none, some (Value.bool o6), none, none, none, none, none, none, none, none, none, none, none, none, none, none, none, none, none, none, none, none, none, none, none, none, none, none, none, none, none, none, none, none, none, none, none, none, none, none, none, none, none, none, none, none, none, none, none, none, none, none, none, none], hlen, ⟨h6, trivial⟩, h⟩
  · intro f w K h
    have e : lid law06_MixLearns.b0 = 9 := by kernel_rfl
    rw [e] at h
    exact h
theorem law06_MixLearns.eqG (F30 : type_of% @mix_New.f) (F25 : type_of% @law06_awake.f) (F31 : type_of% @mix_Mixer_Mix.f) (F32 : type_of% @mix_Mixer_Learn.f) (a0 : Option Addr) (a0n : Nat) (a0c : Nat) (a1 : Bool) (a2 : Int) (w : World) (K : Value → World → Prop) : afn (law06_MixLearns.CG F30 F25 F31 F32) law06_MixLearns.L law06_MixLearns.D tab Try.f10 [(Value.slice a0 a0n a0c), (Value.bool a1), (Value.int .i64 a2)] w K = law06_MixLearns.G F30 F25 F31 F32 a0 a0n a0c a1 a2 w (fun r0 w => K (Value.bool r0) w) := by kernel_rfl
theorem law06_MixLearns.eq (a0 : Option Addr) (a0n : Nat) (a0c : Nat) (a1 : Bool) (a2 : Int) (w : World) (K : Value → World → Prop) : afn law06_MixLearns.C law06_MixLearns.L law06_MixLearns.D tab Try.f10 [(Value.slice a0 a0n a0c), (Value.bool a1), (Value.int .i64 a2)] w K = law06_MixLearns.f a0 a0n a0c a1 a2 w (fun r0 w => K (Value.bool r0) w) := law06_MixLearns.eqG @mix_New.f @law06_awake.f @mix_Mixer_Mix.f @mix_Mixer_Learn.f a0 a0n a0c a1 a2 w K
theorem law06_MixLearns.ok : FSound Try.prog 10 law06_MixLearns.h := by
  intro args w K h
  unfold law06_MixLearns.h law06_MixLearns.H at h
  split at h
  ·
    replace h := vL_ok h
    obtain ⟨a0, a0n, a0c, rfl, h⟩ := h
    replace h := vB_ok h
    obtain ⟨a1, rfl, h⟩ := h
    replace h := vI_ok h
    obtain ⟨a2, rfl, h⟩ := h
    refine ⟨by kernel_rfl, fn_ok tab_ok law06_MixLearns.C_ok (L := law06_MixLearns.L) (D := law06_MixLearns.D) Try.func10 law06_MixLearns.hb (by kernel_rfl) (by rw [law06_MixLearns.c_loops]; exact lcons law06_MixLearns.lok9 (lnil)) (Nat.le_of_ble_eq_true (by kernel_rfl)) ?_⟩
    rw [law06_MixLearns.eq]
    exact h
  · exact h.elim
end Go.Proofs.Ytplepdjcgojagaa.G
