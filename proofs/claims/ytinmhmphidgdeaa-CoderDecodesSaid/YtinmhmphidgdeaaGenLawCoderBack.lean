/- Go functions as predicate transformers, written by a program of this session (gen.py), with their soundness. -/
import Derived.Test.YtinmhmphidgdeaaGen3
set_option linter.unusedVariables false
set_option linter.unusedSimpArgs false
set_option maxRecDepth 100000
namespace Go.Proofs.Ytinmhmphidgdeaa.G
open Go Go.Proofs.Ytinmhmphidgdeaa.Vm
/-! ### valise/valiselaw04.CoderBack: function 12 -/
def law04_CoderBack.l5 : Nat → Option Addr → Nat → Nat → Option Addr → Int → World → (Option Addr → Nat → Nat → Option Addr → World → Prop) → Prop
  | 0, _, _, _, _, _, _, _ => False
  | N + 1, y0, y0n, y0c, y3, y4, w, K0 =>
    bif (decide (y4 < ((y0n : Nat) : Int))) then
      bif (decide (y4 < 2000)) then
        sm y0 fun p_14 =>
        if 0 ≤ (y4 : Int) ∧ (y4 : Int) < ((y0n : Nat) : Int) then
        ldI .i64 (p_14.add (Int.toNat y4 * 2)) w.drew fun x29_15 =>
        sm y0 fun p_16 =>
        if 0 ≤ (y4 : Int) ∧ (y4 : Int) < ((y0n : Nat) : Int) then
        ldI .i64 ((p_16.add (Int.toNat y4 * 2)).add 1) w.drew fun x34_17 =>
        coder_Encoder_Encode.f y3 x29_15 x34_17 w.drew fun w =>
        let v4_18 := (IntKind.wrap .i64 (y4 + 1))
        law04_CoderBack.l5 N y0 y0n y0c y3 v4_18 w K0
        else False
        else False
      else
        K0 y0 y0n y0c y3 w
    else
      K0 y0 y0n y0c y3 w

def law04_CoderBack.l12 : Nat → Option Addr → Nat → Nat → Option Addr → Int → World → (Option Addr → World → Prop) → (Bool → World → Prop) → Prop
  | 0, _, _, _, _, _, _, _, _ => False
  | N + 1, y0, y0n, y0c, y5, y6, w, K2, Kr =>
    bif (decide (y6 < ((y0n : Nat) : Int))) then
      bif (decide (y6 < 2000)) then
        sm y0 fun p_34 =>
        if 0 ≤ (y6 : Int) ∧ (y6 : Int) < ((y0n : Nat) : Int) then
        ldI .i64 ((p_34.add (Int.toNat y6 * 2)).add 1) w.drew fun x56_35 =>
        sm y0 fun p_36 =>
        if 0 ≤ (y6 : Int) ∧ (y6 : Int) < ((y0n : Nat) : Int) then
        ldI .i64 (p_36.add (Int.toNat y6 * 2)) w.drew fun x63_37 =>
        coder_Decoder_Decode.f y5 x56_35 w.drew fun r57_38 w =>
        (World.cell? w (p_36.add (Int.toNat y6 * 2)) = some (.int .i64 x63_37)) ∧
        (bif (!((r57_38 == 1) == (x63_37 != 0))) then
          Kr false w
        else
          let v6_40 := (IntKind.wrap .i64 (y6 + 1))
          law04_CoderBack.l12 N y0 y0n y0c y5 v6_40 w K2 Kr)
        else False
        else False
      else
        K2 y5 w
    else
      K2 y5 w

def law04_CoderBack.f (a0 : Option Addr) (a0n : Nat) (a0c : Nat) (w : World) (K : Bool → World → Prop) : Prop :=
  coder_NewEncoder.f  w fun r7_3 w =>
  law04_awake.f  w fun r8_6 w =>
  bif (!r8_6) then
    K false w
  else
    bif r7_3.isNone then
      K false w
    else
      ∃ N_19 : Nat, law04_CoderBack.l5 N_19 a0 a0n a0c r7_3 0 w
      (fun o0_20 o0_20n o0_20c o3_21 w =>
        coder_Encoder_Flush.f o3_21 w fun r37_23 r37_23n r37_23c w =>
        coder_NewDecoder.f r37_23 r37_23n r37_23c w fun r38_24 w =>
        bif r38_24.isNone then
          K false w
        else
          ∃ N_41 : Nat, law04_CoderBack.l12 N_41 o0_20 o0_20n o0_20c r38_24 0 w
          (fun o5_42 w =>
            coder_Decoder_Past.f o5_42 w fun r67_45 w =>
            let v2_46 := (r67_45 == 0)
            K v2_46 w)
          (fun o2_43 w =>
            K o2_43 w))
def law04_CoderBack.H (F : type_of% @law04_CoderBack.f) : Hf := fun args w K => match args with
  | [v0] => vL v0 fun a0 a0n a0c => F a0 a0n a0c w (fun r0 w => K (Value.bool r0) w)
  | _ => False
def law04_CoderBack.h : Hf := law04_CoderBack.H @law04_CoderBack.f
def law04_CoderBack.CG (F23 : type_of% @coder_NewEncoder.f) (F25 : type_of% @law04_awake.f) (F26 : type_of% @coder_Encoder_Encode.f) (F28 : type_of% @coder_Encoder_Flush.f) (F33 : type_of% @coder_NewDecoder.f) (F31 : type_of% @coder_Decoder_Decode.f) (F32 : type_of% @coder_Decoder_Past.f) : Hd := hcons 32 (coder_Decoder_Past.H F32) (hcons 31 (coder_Decoder_Decode.H F31) (hcons 33 (coder_NewDecoder.H F33) (hcons 28 (coder_Encoder_Flush.H F28) (hcons 26 (coder_Encoder_Encode.H F26) (hcons 25 (law04_awake.H F25) (hcons 23 (coder_NewEncoder.H F23) (hnil)))))))
def law04_CoderBack.C : Hd := law04_CoderBack.CG @coder_NewEncoder.f @law04_awake.f @coder_Encoder_Encode.f @coder_Encoder_Flush.f @coder_NewDecoder.f @coder_Decoder_Decode.f @coder_Decoder_Past.f
def law04_CoderBack.G (F23 : type_of% @coder_NewEncoder.f) (F25 : type_of% @law04_awake.f) (F26 : type_of% @coder_Encoder_Encode.f) (F28 : type_of% @coder_Encoder_Flush.f) (F33 : type_of% @coder_NewDecoder.f) (F31 : type_of% @coder_Decoder_Decode.f) (F32 : type_of% @coder_Decoder_Past.f) (a0 : Option Addr) (a0n : Nat) (a0c : Nat) (w : World) (K : Bool → World → Prop) : Prop :=
  F23  w fun r7_3 w =>
  F25  w fun r8_6 w =>
  bif (!r8_6) then
    K false w
  else
    bif r7_3.isNone then
      K false w
    else
      ∃ N_19 : Nat, law04_CoderBack.l5 N_19 a0 a0n a0c r7_3 0 w
      (fun o0_20 o0_20n o0_20c o3_21 w =>
        F28 o3_21 w fun r37_23 r37_23n r37_23c w =>
        F33 r37_23 r37_23n r37_23c w fun r38_24 w =>
        bif r38_24.isNone then
          K false w
        else
          ∃ N_41 : Nat, law04_CoderBack.l12 N_41 o0_20 o0_20n o0_20c r38_24 0 w
          (fun o5_42 w =>
            F32 o5_42 w fun r67_45 w =>
            let v2_46 := (r67_45 == 0)
            K v2_46 w)
          (fun o2_43 w =>
            K o2_43 w))
theorem law04_CoderBack.C_ok : CSound Try.prog law04_CoderBack.C := hcons_ok coder_Decoder_Past.ok (hcons_ok coder_Decoder_Decode.ok (hcons_ok coder_NewDecoder.ok (hcons_ok coder_Encoder_Flush.ok (hcons_ok coder_Encoder_Encode.ok (hcons_ok law04_awake.ok (hcons_ok coder_NewEncoder.ok (hnil_ok)))))))
def law04_CoderBack.D : Nat → Plan := fun i => (match Nat.beq i 14 with | true => .take 0 (.take 1 (.take 2 (.take 3 (.take 4 (.take 5 (.take 8 (.take 9 (.take 10 (.take 11 (.take 12 (.take 13 (.eff 6 (.take 7 (.take 14 (.done))))))))))))))) | false => (match Nat.beq i 7 with | true => .take 0 (.take 1 (.take 2 (.take 3 (.take 4 (.take 5 (.take 6 (.take 7 (.take 8 (.take 9 (.take 10 (.eff 11 (.done)))))))))))) | false => .done))
noncomputable def law04_CoderBack.c : Code := Try.f12.body.getD .skip
theorem law04_CoderBack.hb : Try.f12.body = some law04_CoderBack.c := by kernel_rfl
noncomputable def law04_CoderBack.b0 : Code := (loopsOf law04_CoderBack.c).getD 0 .skip
theorem law04_CoderBack.b0_loops : loopsOf law04_CoderBack.b0 = [] := by kernel_rfl
noncomputable def law04_CoderBack.b1 : Code := (loopsOf law04_CoderBack.c).getD 1 .skip
theorem law04_CoderBack.b1_loops : loopsOf law04_CoderBack.b1 = [] := by kernel_rfl
theorem law04_CoderBack.c_loops : loopsOf law04_CoderBack.c = [law04_CoderBack.b0, law04_CoderBack.b1] := by kernel_rfl
def law04_CoderBack.l5G (F23 : type_of% @coder_NewEncoder.f) (F25 : type_of% @law04_awake.f) (F26 : type_of% @coder_Encoder_Encode.f) (F28 : type_of% @coder_Encoder_Flush.f) (F33 : type_of% @coder_NewDecoder.f) (F31 : type_of% @coder_Decoder_Decode.f) (F32 : type_of% @coder_Decoder_Past.f) (R : Option Addr → Nat → Nat → Option Addr → Int → World → (Option Addr → Nat → Nat → Option Addr → World → Prop) → Prop) : Option Addr → Nat → Nat → Option Addr → Int → World → (Option Addr → Nat → Nat → Option Addr → World → Prop) → Prop := fun y0 y0n y0c y3 y4 w K0 =>
    bif (decide (y4 < ((y0n : Nat) : Int))) then
      bif (decide (y4 < 2000)) then
        sm y0 fun p_14 =>
        if 0 ≤ (y4 : Int) ∧ (y4 : Int) < ((y0n : Nat) : Int) then
        ldI .i64 (p_14.add (Int.toNat y4 * 2)) w.drew fun x29_15 =>
        sm y0 fun p_16 =>
        if 0 ≤ (y4 : Int) ∧ (y4 : Int) < ((y0n : Nat) : Int) then
        ldI .i64 ((p_16.add (Int.toNat y4 * 2)).add 1) w.drew fun x34_17 =>
        F26 y3 x29_15 x34_17 w.drew fun w =>
        let v4_18 := (IntKind.wrap .i64 (y4 + 1))
        R y0 y0n y0c y3 v4_18 w K0
        else False
        else False
      else
        K0 y0 y0n y0c y3 w
    else
      K0 y0 y0n y0c y3 w

def law04_CoderBack.l12G (F23 : type_of% @coder_NewEncoder.f) (F25 : type_of% @law04_awake.f) (F26 : type_of% @coder_Encoder_Encode.f) (F28 : type_of% @coder_Encoder_Flush.f) (F33 : type_of% @coder_NewDecoder.f) (F31 : type_of% @coder_Decoder_Decode.f) (F32 : type_of% @coder_Decoder_Past.f) (R : Option Addr → Nat → Nat → Option Addr → Int → World → (Option Addr → World → Prop) → (Bool → World → Prop) → Prop) : Option Addr → Nat → Nat → Option Addr → Int → World → (Option Addr → World → Prop) → (Bool → World → Prop) → Prop := fun y0 y0n y0c y5 y6 w K2 Kr =>
    bif (decide (y6 < ((y0n : Nat) : Int))) then
      bif (decide (y6 < 2000)) then
        sm y0 fun p_34 =>
        if 0 ≤ (y6 : Int) ∧ (y6 : Int) < ((y0n : Nat) : Int) then
        ldI .i64 ((p_34.add (Int.toNat y6 * 2)).add 1) w.drew fun x56_35 =>
        sm y0 fun p_36 =>
        if 0 ≤ (y6 : Int) ∧ (y6 : Int) < ((y0n : Nat) : Int) then
        ldI .i64 (p_36.add (Int.toNat y6 * 2)) w.drew fun x63_37 =>
        F31 y5 x56_35 w.drew fun r57_38 w =>
        (World.cell? w (p_36.add (Int.toNat y6 * 2)) = some (.int .i64 x63_37)) ∧
        (bif (!((r57_38 == 1) == (x63_37 != 0))) then
          Kr false w
        else
          let v6_40 := (IntKind.wrap .i64 (y6 + 1))
          R y0 y0n y0c y5 v6_40 w K2 Kr)
        else False
        else False
      else
        K2 y5 w
    else
      K2 y5 w

def law04_CoderBack.hn5 (N : Nat) (f : Fr) (w : World) (K : AExit → Fr → World → Prop) : Prop :=
  gN f 69 <| gL f 0 fun y0 y0n y0c => gP f 3 fun y3 => gI .i64 f 4 fun y4 => law04_CoderBack.l5 N y0 y0n y0c y3 y4 w (fun o0 o0n o0c o3 w => K (.exit 0) [some (Value.slice o0 o0n o0c), none, none, some (Value.pointer o3), none, none, none, none, none, none, none, none, none, none, none, none, none, none, none, none, none, none, none, none, none, none, none, none, none, none, none, none, none, none, none, none, none, none, none, none, none, none, none, none, none, none, none, none, none, none, none, none, none, none, none, none, none, none, none, none, none, none, none, none, none, none, none, none, none] w)
def law04_CoderBack.hx5 : AExit → Fr → World → (AExit → Fr → World → Prop) → Prop := fun e f w K => match e with
  | .normal => False
  | .exit i => (match Nat.beq i 0 with | true => gN f 69 <| gL f 0 fun o0 o0n o0c => gP f 3 fun o3 => K (.exit 0) [some (Value.slice o0 o0n o0c), none, none, some (Value.pointer o3), none, none, none, none, none, none, none, none, none, none, none, none, none, none, none, none, none, none, none, none, none, none, none, none, none, none, none, none, none, none, none, none, none, none, none, none, none, none, none, none, none, none, none, none, none, none, none, none, none, none, none, none, none, none, none, none, none, none, none, none, none, none, none, none, none] w | false => False)
  | .ret => False
def law04_CoderBack.hn12 (N : Nat) (f : Fr) (w : World) (K : AExit → Fr → World → Prop) : Prop :=
  gN f 69 <| gL f 0 fun y0 y0n y0c => gP f 5 fun y5 => gI .i64 f 6 fun y6 => law04_CoderBack.l12 N y0 y0n y0c y5 y6 w (fun o5 w => K (.exit 2) [none, none, none, none, none, some (Value.pointer o5), none, none, none, none, none, none, none, none, none, none, none, none, none, none, none, none, none, none, none, none, none, none, none, none, none, none, none, none, none, none, none, none, none, none, none, none, none, none, none, none, none, none, none, none, none, none, none, none, none, none, none, none, none, none, none, none, none, none, none, none, none, none, none] w) (fun o2 w => K .ret [none, none, some (Value.bool o2), none, none, none, none, none, none, none, none, none, none, none, none, none, none, none, none, none, none, none, none, none, none, none, none, none, none, none, none, none, none, none, none, none, none, none, none, none, none, none, none, none, none, none, none, none, none, none, none, none, none, none, none, none, none, none, none, none, none, none, none, none, none, none, none, none, none] w)
def law04_CoderBack.hx12 : AExit → Fr → World → (AExit → Fr → World → Prop) → Prop := fun e f w K => match e with
  | .normal => False
  | .exit i => (match Nat.beq i 2 with | true => gN f 69 <| gP f 5 fun o5 => K (.exit 2) [none, none, none, none, none, some (Value.pointer o5), none, none, none, none, none, none, none, none, none, none, none, none, none, none, none, none, none, none, none, none, none, none, none, none, none, none, none, none, none, none, none, none, none, none, none, none, none, none, none, none, none, none, none, none, none, none, none, none, none, none, none, none, none, none, none, none, none, none, none, none, none, none, none] w | false => False)
  | .ret => gN f 69 <| gB f 2 fun o2 => K .ret [none, none, some (Value.bool o2), none, none, none, none, none, none, none, none, none, none, none, none, none, none, none, none, none, none, none, none, none, none, none, none, none, none, none, none, none, none, none, none, none, none, none, none, none, none, none, none, none, none, none, none, none, none, none, none, none, none, none, none, none, none, none, none, none, none, none, none, none, none, none, none, none, none] w
def law04_CoderBack.L : LHd := fun l f w K => (match Nat.beq l 12 with | true => ∃ N, law04_CoderBack.hn12 N f w K | false => (match Nat.beq l 5 with | true => ∃ N, law04_CoderBack.hn5 N f w K | false => False))
theorem law04_CoderBack.leG5 (F23 : type_of% @coder_NewEncoder.f) (F25 : type_of% @law04_awake.f) (F26 : type_of% @coder_Encoder_Encode.f) (F28 : type_of% @coder_Encoder_Flush.f) (F33 : type_of% @coder_NewDecoder.f) (F31 : type_of% @coder_Decoder_Decode.f) (F32 : type_of% @coder_Decoder_Past.f) (N : Nat) (y0 : Option Addr) (y0n : Nat) (y0c : Nat) (y3 : Option Addr) (y4 : Int) (w : World) (K : AExit → Fr → World → Prop) : awp (law04_CoderBack.CG F23 F25 F26 F28 F33 F31 F32) law04_CoderBack.L law04_CoderBack.D tab law04_CoderBack.b0 (lpost law04_CoderBack.hn5 law04_CoderBack.hx5 N K) [some (Value.slice y0 y0n y0c), none, none, some (Value.pointer y3), some (Value.int .i64 y4), none, none, none, none, none, none, none, none, none, none, none, none, none, none, none, none, none, none, none, none, none, none, none, none, none, none, none, none, none, none, none, none, none, none, none, none, none, none, none, none, none, none, none, none, none, none, none, none, none, none, none, none, none, none, none, none, none, none, none, none, none, none, none, none] w = law04_CoderBack.l5G F23 F25 F26 F28 F33 F31 F32 (law04_CoderBack.l5 N) y0 y0n y0c y3 y4 w (fun o0 o0n o0c o3 w => K (.exit 0) [some (Value.slice o0 o0n o0c), none, none, some (Value.pointer o3), none, none, none, none, none, none, none, none, none, none, none, none, none, none, none, none, none, none, none, none, none, none, none, none, none, none, none, none, none, none, none, none, none, none, none, none, none, none, none, none, none, none, none, none, none, none, none, none, none, none, none, none, none, none, none, none, none, none, none, none, none, none, none, none, none] w) := by kernel_rfl
theorem law04_CoderBack.les5 (N : Nat) : law04_CoderBack.l5 (N + 1) = law04_CoderBack.l5G @coder_NewEncoder.f @law04_awake.f @coder_Encoder_Encode.f @coder_Encoder_Flush.f @coder_NewDecoder.f @coder_Decoder_Decode.f @coder_Decoder_Past.f (law04_CoderBack.l5 N) := by kernel_rfl
theorem law04_CoderBack.le5 (N : Nat) (y0 : Option Addr) (y0n : Nat) (y0c : Nat) (y3 : Option Addr) (y4 : Int) (w : World) (K : AExit → Fr → World → Prop) : awp law04_CoderBack.C law04_CoderBack.L law04_CoderBack.D tab law04_CoderBack.b0 (lpost law04_CoderBack.hn5 law04_CoderBack.hx5 N K) [some (Value.slice y0 y0n y0c), none, none, some (Value.pointer y3), some (Value.int .i64 y4), none, none, none, none, none, none, none, none, none, none, none, none, none, none, none, none, none, none, none, none, none, none, none, none, none, none, none, none, none, none, none, none, none, none, none, none, none, none, none, none, none, none, none, none, none, none, none, none, none, none, none, none, none, none, none, none, none, none, none, none, none, none, none, none] w = law04_CoderBack.l5 (N + 1) y0 y0n y0c y3 y4 w (fun o0 o0n o0c o3 w => K (.exit 0) [some (Value.slice o0 o0n o0c), none, none, some (Value.pointer o3), none, none, none, none, none, none, none, none, none, none, none, none, none, none, none, none, none, none, none, none, none, none, none, none, none, none, none, none, none, none, none, none, none, none, none, none, none, none, none, none, none, none, none, none, none, none, none, none, none, none, none, none, none, none, none, none, none, none, none, none, none, none, none, none, none] w) := by
  rw [law04_CoderBack.les5]
  exact law04_CoderBack.leG5 @coder_NewEncoder.f @law04_awake.f @coder_Encoder_Encode.f @coder_Encoder_Flush.f @coder_NewDecoder.f @coder_Decoder_Decode.f @coder_Decoder_Past.f N y0 y0n y0c y3 y4 w K
theorem law04_CoderBack.lok5 : LoopOk Try.prog law04_CoderBack.L law04_CoderBack.b0 := by
  refine loop_ok tab_ok law04_CoderBack.C_ok (D := law04_CoderBack.D) (law04_CoderBack.hn5) (law04_CoderBack.hx5) (by kernel_rfl) (by rw [law04_CoderBack.b0_loops]; exact lnil) ?_ ?_ ?_ ?_
  · intro f w K h
    unfold law04_CoderBack.hn5 at h
    obtain ⟨hlen, h⟩ := gN_ok h
    obtain ⟨y0, y0n, y0c, h0, h⟩ := gL_ok h
    obtain ⟨y3, h3, h⟩ := gP_ok h
    obtain ⟨y4, h4, h⟩ := gI_ok h
    exact h
  · intro N f w K h
    unfold law04_CoderBack.hn5 at h
    obtain ⟨hlen, h⟩ := gN_ok h
    obtain ⟨y0, y0n, y0c, h0, h⟩ := gL_ok h
    obtain ⟨y3, h3, h⟩ := gP_ok h
    obtain ⟨y4, h4, h⟩ := gI_ok h
    refine ⟨[some (Value.slice y0 y0n y0c), none, none, some (Value.pointer y3), some (Value.int .i64 y4), none, none, none, none, none, none, none, none, none, none, none, none, none, none, none, none, none, none, none, none, none, none, none, none, none, none, none, none, none, none, none, none, none, none, none, none, none, none, none, none, none, none, none, none, none, none, none, none, none, none, none, none, none, none, none, none, none, none, none, none, none, none, none, none], hlen, ⟨h0, h3, h4, trivial⟩, ?_⟩
    rw [law04_CoderBack.le5]
    exact h
  · intro e f w K h
    cases e with
    | normal => exact h.elim
    | exit i =>
      unfold law04_CoderBack.hx5 at h
      simp only at h
      split at h
      · rename_i hb
        obtain rfl := Nat.eq_of_beq_eq_true hb
        obtain ⟨hlen, h⟩ := gN_ok h
        obtain ⟨o0, o0n, o0c, h0, h⟩ := gL_ok h
        obtain ⟨o3, h3, h⟩ := gP_ok h
        exact ⟨[some (Value.slice o0 o0n o0c), none, none, some (Value.pointer o3), none, none, none, none, none, none, none, none, none, none, none, none, none, none, none, none, none, none, none, none, none, none, none, none, none, none, none, none, none, none, none, none, none, none, none, none, none, none, none, none, none, none, none, none, none, none, none, none, none, none, none, none, none, none, none, none, none, none, none, none, none, none, none, none, none], hlen, ⟨h0, h3, trivial⟩, h⟩
      · exact (show False from h).elim
    | ret =>
      exact (show False from h).elim
  · intro f w K h
    have e : lid law04_CoderBack.b0 = 5 := by kernel_rfl
    rw [e] at h
    exact h
theorem law04_CoderBack.leG12 (F23 : type_of% @coder_NewEncoder.f) (F25 : type_of% @law04_awake.f) (F26 : type_of% @coder_Encoder_Encode.f) (F28 : type_of% @coder_Encoder_Flush.f) (F33 : type_of% @coder_NewDecoder.f) (F31 : type_of% @coder_Decoder_Decode.f) (F32 : type_of% @coder_Decoder_Past.f) (N : Nat) (y0 : Option Addr) (y0n : Nat) (y0c : Nat) (y5 : Option Addr) (y6 : Int) (w : World) (K : AExit → Fr → World → Prop) : awp (law04_CoderBack.CG F23 F25 F26 F28 F33 F31 F32) law04_CoderBack.L law04_CoderBack.D tab law04_CoderBack.b1 (lpost law04_CoderBack.hn12 law04_CoderBack.hx12 N K) [some (Value.slice y0 y0n y0c), none, none, none, none, some (Value.pointer y5), some (Value.int .i64 y6), none, none, none, none, none, none, none, none, none, none, none, none, none, none, none, none, none, none, none, none, none, none, none, none, none, none, none, none, none, none, none, none, none, none, none, none, none, none, none, none, none, none, none, none, none, none, none, none, none, none, none, none, none, none, none, none, none, none, none, none, none, none] w = law04_CoderBack.l12G F23 F25 F26 F28 F33 F31 F32 (law04_CoderBack.l12 N) y0 y0n y0c y5 y6 w (fun o5 w => K (.exit 2) [none, none, none, none, none, some (Value.pointer o5), none, none, none, none, none, none, none, none, none, none, none, none, none, none, none, none, none, none, none, none, none, none, none, none, none, none, none, none, none, none, none, none, none, none, none, none, none, none, none, none, none, none, none, none, none, none, none, none, none, none, none, none, none, none, none, none, none, none, none, none, none, none, none] w) (fun o2 w => K .ret [none, none, some (Value.bool o2), none, none, none, none, none, none, none, none, none, none, none, none, none, none, none, none, none, none, none, none, none, none, none, none, none, none, none, none, none, none, none, none, none, none, none, none, none, none, none, none, none, none, none, none, none, none, none, none, none, none, none, none, none, none, none, none, none, none, none, none, none, none, none, none, none, none] w) := by kernel_rfl
theorem law04_CoderBack.les12 (N : Nat) : law04_CoderBack.l12 (N + 1) = law04_CoderBack.l12G @coder_NewEncoder.f @law04_awake.f @coder_Encoder_Encode.f @coder_Encoder_Flush.f @coder_NewDecoder.f @coder_Decoder_Decode.f @coder_Decoder_Past.f (law04_CoderBack.l12 N) := by kernel_rfl
theorem law04_CoderBack.le12 (N : Nat) (y0 : Option Addr) (y0n : Nat) (y0c : Nat) (y5 : Option Addr) (y6 : Int) (w : World) (K : AExit → Fr → World → Prop) : awp law04_CoderBack.C law04_CoderBack.L law04_CoderBack.D tab law04_CoderBack.b1 (lpost law04_CoderBack.hn12 law04_CoderBack.hx12 N K) [some (Value.slice y0 y0n y0c), none, none, none, none, some (Value.pointer y5), some (Value.int .i64 y6), none, none, none, none, none, none, none, none, none, none, none, none, none, none, none, none, none, none, none, none, none, none, none, none, none, none, none, none, none, none, none, none, none, none, none, none, none, none, none, none, none, none, none, none, none, none, none, none, none, none, none, none, none, none, none, none, none, none, none, none, none, none] w = law04_CoderBack.l12 (N + 1) y0 y0n y0c y5 y6 w (fun o5 w => K (.exit 2) [none, none, none, none, none, some (Value.pointer o5), none, none, none, none, none, none, none, none, none, none, none, none, none, none, none, none, none, none, none, none, none, none, none, none, none, none, none, none, none, none, none, none, none, none, none, none, none, none, none, none, none, none, none, none, none, none, none, none, none, none, none, none, none, none, none, none, none, none, none, none, none, none, none] w) (fun o2 w => K .ret [none, none, some (Value.bool o2), none, none, none, none, none, none, none, none, none, none, none, none, none, none, none, none, none, none, none, none, none, none, none, none, none, none, none, none, none, none, none, none, none, none, none, none, none, none, none, none, none, none, none, none, none, none, none, none, none, none, none, none, none, none, none, none, none, none, none, none, none, none, none, none, none, none] w) := by
  rw [law04_CoderBack.les12]
  exact law04_CoderBack.leG12 @coder_NewEncoder.f @law04_awake.f @coder_Encoder_Encode.f @coder_Encoder_Flush.f @coder_NewDecoder.f @coder_Decoder_Decode.f @coder_Decoder_Past.f N y0 y0n y0c y5 y6 w K
theorem law04_CoderBack.lok12 : LoopOk Try.prog law04_CoderBack.L law04_CoderBack.b1 := by
  refine loop_ok tab_ok law04_CoderBack.C_ok (D := law04_CoderBack.D) (law04_CoderBack.hn12) (law04_CoderBack.hx12) (by kernel_rfl) (by rw [law04_CoderBack.b1_loops]; exact lnil) ?_ ?_ ?_ ?_
  · intro f w K h
    unfold law04_CoderBack.hn12 at h
    obtain ⟨hlen, h⟩ := gN_ok h
    obtain ⟨y0, y0n, y0c, h0, h⟩ := gL_ok h
    obtain ⟨y5, h5, h⟩ := gP_ok h
    obtain ⟨y6, h6, h⟩ := gI_ok h
    exact h
  · intro N f w K h
    unfold law04_CoderBack.hn12 at h
    obtain ⟨hlen, h⟩ := gN_ok h
    obtain ⟨y0, y0n, y0c, h0, h⟩ := gL_ok h
    obtain ⟨y5, h5, h⟩ := gP_ok h
    obtain ⟨y6, h6, h⟩ := gI_ok h
    refine ⟨[some (Value.slice y0 y0n y0c), none, none, none, none, some (Value.pointer y5), some (Value.int .i64 y6), none, none, none, none, none, none, none, none, none, none, none, none, none, none, none, none, none, none, none, none, none, none, none, none, none, none, none, none, none, none, none, none, none, none, none, none, none, none, none, none, none, none, none, none, none, none, none, none, none, none, none, none, none, none, none, none, none, none, none, none, none, none], hlen, ⟨h0, h5, h6, trivial⟩, ?_⟩
    rw [law04_CoderBack.le12]
    exact h
  · intro e f w K h
    cases e with
    | normal => exact h.elim
    | exit i =>
      unfold law04_CoderBack.hx12 at h
      simp only at h
      split at h
      · rename_i hb
        obtain rfl := Nat.eq_of_beq_eq_true hb
        obtain ⟨hlen, h⟩ := gN_ok h
        obtain ⟨o5, h5, h⟩ := gP_ok h
        exact ⟨[none, none, none, none, none, some (Value.pointer o5), none, none, none, none, none, none, none, none, none, none, none, none, none, none, none, none, none, none, none, none, none, none, none, none, none, none, none, none, none, none, none, none, none, none, none, none, none, none, none, none, none, none, none, none, none, none, none, none, none, none, none, none, none, none, none, none, none, none, none, none, none, none, none], hlen, ⟨h5, trivial⟩, h⟩
      · exact (show False from h).elim
    | ret =>
      unfold law04_CoderBack.hx12 at h
      simp only at h
      obtain ⟨hlen, h⟩ := gN_ok h
      obtain ⟨o2, h2, h⟩ := gB_ok h
      exact ⟨[none, none, some (Value.bool o2), none, none, none, none, none, none, none, none, none, none, none, none, none, none, none, none, none, none, none, none, none, none, none, none, none, none, none, none, none, none, none, none, none, none, none, none, none, none, none, none, none, none, none, none, none, none, none, none, none, none, none, none, none, none, none, none, none, none, none, none, none, none, none, none, none, none], hlen, ⟨h2, trivial⟩, h⟩
  · intro f w K h
    have e : lid law04_CoderBack.b1 = 12 := by kernel_rfl
    rw [e] at h
    exact h
theorem law04_CoderBack.eqG (F23 : type_of% @coder_NewEncoder.f) (F25 : type_of% @law04_awake.f) (F26 : type_of% @coder_Encoder_Encode.f) (F28 : type_of% @coder_Encoder_Flush.f) (F33 : type_of% @coder_NewDecoder.f) (F31 : type_of% @coder_Decoder_Decode.f) (F32 : type_of% @coder_Decoder_Past.f) (a0 : Option Addr) (a0n : Nat) (a0c : Nat) (w : World) (K : Value → World → Prop) : afn (law04_CoderBack.CG F23 F25 F26 F28 F33 F31 F32) law04_CoderBack.L law04_CoderBack.D tab Try.f12 [(Value.slice a0 a0n a0c)] w K = law04_CoderBack.G F23 F25 F26 F28 F33 F31 F32 a0 a0n a0c w (fun r0 w => K (Value.bool r0) w) := by kernel_rfl
theorem law04_CoderBack.eq (a0 : Option Addr) (a0n : Nat) (a0c : Nat) (w : World) (K : Value → World → Prop) : afn law04_CoderBack.C law04_CoderBack.L law04_CoderBack.D tab Try.f12 [(Value.slice a0 a0n a0c)] w K = law04_CoderBack.f a0 a0n a0c w (fun r0 w => K (Value.bool r0) w) := law04_CoderBack.eqG @coder_NewEncoder.f @law04_awake.f @coder_Encoder_Encode.f @coder_Encoder_Flush.f @coder_NewDecoder.f @coder_Decoder_Decode.f @coder_Decoder_Past.f a0 a0n a0c w K
theorem law04_CoderBack.ok : FSound Try.prog 12 law04_CoderBack.h := by
  intro args w K h
  unfold law04_CoderBack.h law04_CoderBack.H at h
  split at h
  ·
    replace h := vL_ok h
    obtain ⟨a0, a0n, a0c, rfl, h⟩ := h
    refine ⟨by kernel_rfl, fn_ok tab_ok law04_CoderBack.C_ok (L := law04_CoderBack.L) (D := law04_CoderBack.D) Try.func12 law04_CoderBack.hb (by kernel_rfl) (by rw [law04_CoderBack.c_loops]; exact lcons law04_CoderBack.lok5 (lcons law04_CoderBack.lok12 (lnil))) (Nat.le_of_ble_eq_true (by kernel_rfl)) ?_⟩
    rw [law04_CoderBack.eq]
    exact h
  · exact h.elim
end Go.Proofs.Ytinmhmphidgdeaa.G
