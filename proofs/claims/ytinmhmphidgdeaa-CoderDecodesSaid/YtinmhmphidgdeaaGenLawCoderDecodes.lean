/- Go functions as predicate transformers, written by a program of this session (gen.py), with their soundness. -/
import Derived.Test.YtinmhmphidgdeaaGen3
set_option linter.unusedVariables false
set_option linter.unusedSimpArgs false
set_option maxRecDepth 100000
namespace Go.Proofs.Ytinmhmphidgdeaa.G
open Go Go.Proofs.Ytinmhmphidgdeaa.Vm
/-! ### valise/valiselaw04.CoderDecodes: function 11 -/
def law04_CoderDecodes.l9 : Nat → Option Addr → Nat → Nat → Option Addr → Option Addr → Int → World → (Option Addr → Option Addr → World → Prop) → (Bool → World → Prop) → Prop
  | 0, _, _, _, _, _, _, _, _, _ => False
  | N + 1, y1, y1n, y1c, y6, y7, y8, w, K0, Kr =>
    bif (decide (y8 < ((y1n : Nat) : Int))) then
      bif (decide (y8 < 2000)) then
        sm y1 fun p_25 =>
        if 0 ≤ (y8 : Int) ∧ (y8 : Int) < ((y1n : Nat) : Int) then
        ldI .i64 (p_25.add (Int.toNat y8)) w.drew fun x47_26 =>
        sm y1 fun p_27 =>
        if 0 ≤ (y8 : Int) ∧ (y8 : Int) < ((y1n : Nat) : Int) then
        ldI .i64 (p_27.add (Int.toNat y8)) w.drew fun x53_28 =>
        coder_Decoder_Decode.f y6 x47_26 w.drew fun r48_29 w =>
        (World.cell? w (p_27.add (Int.toNat y8)) = some (.int .i64 x53_28)) ∧
        (ref04_Decoder_Decode.f y7 x53_28 w fun r54_30 w =>
        bif (r48_29 != r54_30) then
          Kr false w
        else
          coder_Decoder_Past.f y6 w fun r58_31 w =>
          ref04_Decoder_Past.f y7 w fun r60_32 w =>
          bif (r58_31 != r60_32) then
            Kr false w
          else
            let v8_35 := (IntKind.wrap .i64 (y8 + 1))
            law04_CoderDecodes.l9 N y1 y1n y1c y6 y7 v8_35 w K0 Kr)
        else False
        else False
      else
        K0 y6 y7 w
    else
      K0 y6 y7 w

def law04_CoderDecodes.f (a0 : Option Addr) (a0n : Nat) (a0c : Nat) (a1 : Option Addr) (a1n : Nat) (a1c : Nat) (w : World) (K : Bool → World → Prop) : Prop :=
  bif (decide (((a0n : Nat) : Int) > 3000)) then
    law04_awake.f  w fun r12_5 w =>
    K r12_5 w
  else
    help_Own_byte.f a0 a0n a0c 71 w fun r14_7 r14_7n r14_7c w =>
    coder_NewDecoder.f r14_7 r14_7n r14_7c w fun r16_9 w =>
    ref04_NewDecoder.f a0 a0n a0c w fun r18_10 w =>
    law04_awake.f  w fun r19_13 w =>
    bif (!r19_13) then
      K false w
    else
      bif r16_9.isNone then
        K false w
      else
        help_Kept_byte.f r14_7 r14_7n r14_7c a0 a0n a0c 71 w fun r28_14 w =>
        bif (!r28_14) then
          K false w
        else
          help_Spoil.f r14_7 r14_7n r14_7c w fun w =>
          ∃ N_36 : Nat, law04_CoderDecodes.l9 N_36 a1 a1n a1c r16_9 r18_10 0 w
          (fun o6_37 o7_38 w =>
            coder_Decoder_Past.f o6_37 w fun r64_41 w =>
            ref04_Decoder_Past.f o7_38 w fun r66_42 w =>
            let v4_43 := (r64_41 == r66_42)
            K v4_43 w)
          (fun o4_39 w =>
            K o4_39 w)
def law04_CoderDecodes.H (F : type_of% @law04_CoderDecodes.f) : Hf := fun args w K => match args with
  | [v0, v1] => vL v0 fun a0 a0n a0c => vL v1 fun a1 a1n a1c => F a0 a0n a0c a1 a1n a1c w (fun r0 w => K (Value.bool r0) w)
  | _ => False
def law04_CoderDecodes.h : Hf := law04_CoderDecodes.H @law04_CoderDecodes.f
def law04_CoderDecodes.CG (F25 : type_of% @law04_awake.f) (F14 : type_of% @help_Own_byte.f) (F33 : type_of% @coder_NewDecoder.f) (F34 : type_of% @ref04_NewDecoder.f) (F17 : type_of% @help_Kept_byte.f) (F30 : type_of% @help_Spoil.f) (F31 : type_of% @coder_Decoder_Decode.f) (F35 : type_of% @ref04_Decoder_Decode.f) (F32 : type_of% @coder_Decoder_Past.f) (F36 : type_of% @ref04_Decoder_Past.f) : Hd := hcons 36 (ref04_Decoder_Past.H F36) (hcons 32 (coder_Decoder_Past.H F32) (hcons 35 (ref04_Decoder_Decode.H F35) (hcons 31 (coder_Decoder_Decode.H F31) (hcons 30 (help_Spoil.H F30) (hcons 17 (help_Kept_byte.H F17) (hcons 34 (ref04_NewDecoder.H F34) (hcons 33 (coder_NewDecoder.H F33) (hcons 14 (help_Own_byte.H F14) (hcons 25 (law04_awake.H F25) (hnil))))))))))
def law04_CoderDecodes.C : Hd := law04_CoderDecodes.CG @law04_awake.f @help_Own_byte.f @coder_NewDecoder.f @ref04_NewDecoder.f @help_Kept_byte.f @help_Spoil.f @coder_Decoder_Decode.f @ref04_Decoder_Decode.f @coder_Decoder_Past.f @ref04_Decoder_Past.f
def law04_CoderDecodes.G (F25 : type_of% @law04_awake.f) (F14 : type_of% @help_Own_byte.f) (F33 : type_of% @coder_NewDecoder.f) (F34 : type_of% @ref04_NewDecoder.f) (F17 : type_of% @help_Kept_byte.f) (F30 : type_of% @help_Spoil.f) (F31 : type_of% @coder_Decoder_Decode.f) (F35 : type_of% @ref04_Decoder_Decode.f) (F32 : type_of% @coder_Decoder_Past.f) (F36 : type_of% @ref04_Decoder_Past.f) (a0 : Option Addr) (a0n : Nat) (a0c : Nat) (a1 : Option Addr) (a1n : Nat) (a1c : Nat) (w : World) (K : Bool → World → Prop) : Prop :=
  bif (decide (((a0n : Nat) : Int) > 3000)) then
    F25  w fun r12_5 w =>
    K r12_5 w
  else
    F14 a0 a0n a0c 71 w fun r14_7 r14_7n r14_7c w =>
    F33 r14_7 r14_7n r14_7c w fun r16_9 w =>
    F34 a0 a0n a0c w fun r18_10 w =>
    F25  w fun r19_13 w =>
    bif (!r19_13) then
      K false w
    else
      bif r16_9.isNone then
        K false w
      else
        F17 r14_7 r14_7n r14_7c a0 a0n a0c 71 w fun r28_14 w =>
        bif (!r28_14) then
          K false w
        else
          F30 r14_7 r14_7n r14_7c w fun w =>
          ∃ N_36 : Nat, law04_CoderDecodes.l9 N_36 a1 a1n a1c r16_9 r18_10 0 w
          (fun o6_37 o7_38 w =>
            F32 o6_37 w fun r64_41 w =>
            F36 o7_38 w fun r66_42 w =>
            let v4_43 := (r64_41 == r66_42)
            K v4_43 w)
          (fun o4_39 w =>
            K o4_39 w)
theorem law04_CoderDecodes.C_ok : CSound Try.prog law04_CoderDecodes.C := hcons_ok ref04_Decoder_Past.ok (hcons_ok coder_Decoder_Past.ok (hcons_ok ref04_Decoder_Decode.ok (hcons_ok coder_Decoder_Decode.ok (hcons_ok help_Spoil.ok (hcons_ok help_Kept_byte.ok (hcons_ok ref04_NewDecoder.ok (hcons_ok coder_NewDecoder.ok (hcons_ok help_Own_byte.ok (hcons_ok law04_awake.ok (hnil_ok))))))))))
def law04_CoderDecodes.D : Nat → Plan := fun i => (match Nat.beq i 11 with | true => .take 0 (.take 1 (.take 2 (.take 3 (.take 4 (.take 6 (.take 7 (.take 8 (.take 9 (.take 10 (.eff 5 (.eff 11 (.take 12 (.take 13 (.take 14 (.take 16 (.eff 15 (.eff 17 (.take 18 (.take 19 (.done)))))))))))))))))))) | false => .done)
noncomputable def law04_CoderDecodes.c : Code := Try.f11.body.getD .skip
theorem law04_CoderDecodes.hb : Try.f11.body = some law04_CoderDecodes.c := by kernel_rfl
noncomputable def law04_CoderDecodes.b0 : Code := (loopsOf law04_CoderDecodes.c).getD 0 .skip
theorem law04_CoderDecodes.b0_loops : loopsOf law04_CoderDecodes.b0 = [] := by kernel_rfl
theorem law04_CoderDecodes.c_loops : loopsOf law04_CoderDecodes.c = [law04_CoderDecodes.b0] := by kernel_rfl
def law04_CoderDecodes.l9G (F25 : type_of% @law04_awake.f) (F14 : type_of% @help_Own_byte.f) (F33 : type_of% @coder_NewDecoder.f) (F34 : type_of% @ref04_NewDecoder.f) (F17 : type_of% @help_Kept_byte.f) (F30 : type_of% @help_Spoil.f) (F31 : type_of% @coder_Decoder_Decode.f) (F35 : type_of% @ref04_Decoder_Decode.f) (F32 : type_of% @coder_Decoder_Past.f) (F36 : type_of% @ref04_Decoder_Past.f) (R : Option Addr → Nat → Nat → Option Addr → Option Addr → Int → World → (Option Addr → Option Addr → World → Prop) → (Bool → World → Prop) → Prop) : Option Addr → Nat → Nat → Option Addr → Option Addr → Int → World → (Option Addr → Option Addr → World → Prop) → (Bool → World → Prop) → Prop := fun y1 y1n y1c y6 y7 y8 w K0 Kr =>
    bif (decide (y8 < ((y1n : Nat) : Int))) then
      bif (decide (y8 < 2000)) then
        sm y1 fun p_25 =>
        if 0 ≤ (y8 : Int) ∧ (y8 : Int) < ((y1n : Nat) : Int) then
        ldI .i64 (p_25.add (Int.toNat y8)) w.drew fun x47_26 =>
        sm y1 fun p_27 =>
        if 0 ≤ (y8 : Int) ∧ (y8 : Int) < ((y1n : Nat) : Int) then
        ldI .i64 (p_27.add (Int.toNat y8)) w.drew fun x53_28 =>
        F31 y6 x47_26 w.drew fun r48_29 w =>
        (World.cell? w (p_27.add (Int.toNat y8)) = some (.int .i64 x53_28)) ∧
        (F35 y7 x53_28 w fun r54_30 w =>
        bif (r48_29 != r54_30) then
          Kr false w
        else
          F32 y6 w fun r58_31 w =>
          F36 y7 w fun r60_32 w =>
          bif (r58_31 != r60_32) then
            Kr false w
          else
            let v8_35 := (IntKind.wrap .i64 (y8 + 1))
            R y1 y1n y1c y6 y7 v8_35 w K0 Kr)
        else False
        else False
      else
        K0 y6 y7 w
    else
      K0 y6 y7 w

def law04_CoderDecodes.hn9 (N : Nat) (f : Fr) (w : World) (K : AExit → Fr → World → Prop) : Prop :=
  gN f 68 <| gL f 1 fun y1 y1n y1c => gP f 6 fun y6 => gP f 7 fun y7 => gI .i64 f 8 fun y8 => law04_CoderDecodes.l9 N y1 y1n y1c y6 y7 y8 w (fun o6 o7 w => K (.exit 0) [none, none, none, none, none, none, some (Value.pointer o6), some (Value.pointer o7), none, none, none, none, none, none, none, none, none, none, none, none, none, none, none, none, none, none, none, none, none, none, none, none, none, none, none, none, none, none, none, none, none, none, none, none, none, none, none, none, none, none, none, none, none, none, none, none, none, none, none, none, none, none, none, none, none, none, none, none] w) (fun o4 w => K .ret [none, none, none, none, some (Value.bool o4), none, none, none, none, none, none, none, none, none, none, none, none, none, none, none, none, none, none, none, none, none, none, none, none, none, none, none, none, none, none, none, none, none, none, none, none, none, none, none, none, none, none, none, none, none, none, none, none, none, none, none, none, none, none, none, none, none, none, none, none, none, none, none] w)
def law04_CoderDecodes.hx9 : AExit → Fr → World → (AExit → Fr → World → Prop) → Prop := fun e f w K => match e with
  | .normal => False
  | .exit i => (match Nat.beq i 0 with | true => gN f 68 <| gP f 6 fun o6 => gP f 7 fun o7 => K (.exit 0) [none, none, none, none, none, none, some (Value.pointer o6), some (Value.pointer o7), none, none, none, none, none, none, none, none, none, none, none, none, none, none, none, none, none, none, none, none, none, none, none, none, none, none, none, none, none, none, none, none, none, none, none, none, none, none, none, none, none, none, none, none, none, none, none, none, none, none, none, none, none, none, none, none, none, none, none, none] w | false => False)
  | .ret => gN f 68 <| gB f 4 fun o4 => K .ret [none, none, none, none, some (Value.bool o4), none, none, none, none, none, none, none, none, none, none, none, none, none, none, none, none, none, none, none, none, none, none, none, none, none, none, none, none, none, none, none, none, none, none, none, none, none, none, none, none, none, none, none, none, none, none, none, none, none, none, none, none, none, none, none, none, none, none, none, none, none, none, none] w
def law04_CoderDecodes.L : LHd := fun l f w K => (match Nat.beq l 9 with | true => ∃ N, law04_CoderDecodes.hn9 N f w K | false => False)
theorem law04_CoderDecodes.leG9 (F25 : type_of% @law04_awake.f) (F14 : type_of% @help_Own_byte.f) (F33 : type_of% @coder_NewDecoder.f) (F34 : type_of% @ref04_NewDecoder.f) (F17 : type_of% @help_Kept_byte.f) (F30 : type_of% @help_Spoil.f) (F31 : type_of% @coder_Decoder_Decode.f) (F35 : type_of% @ref04_Decoder_Decode.f) (F32 : type_of% @coder_Decoder_Past.f) (F36 : type_of% @ref04_Decoder_Past.f) (N : Nat) (y1 : Option Addr) (y1n : Nat) (y1c : Nat) (y6 : Option Addr) (y7 : Option Addr) (y8 : Int) (w : World) (K : AExit → Fr → World → Prop) : awp (law04_CoderDecodes.CG F25 F14 F33 F34 F17 F30 F31 F35 F32 F36) law04_CoderDecodes.L law04_CoderDecodes.D tab law04_CoderDecodes.b0 (lpost law04_CoderDecodes.hn9 law04_CoderDecodes.hx9 N K) [none, some (Value.slice y1 y1n y1c), none, none, none, none, some (Value.pointer y6), some (Value.pointer y7), some (Value.int .i64 y8), none, none, none, none, none, none, none, none, none, none, none, none, none, none, none, none, none, none, none, none, none, none, none, none, none, none, none, none, none, none, none, none, none, none, none, none, none, none, none, none, none, none, none, none, none, none, none, none, none, none, none, none, none, none, none, none, none, none, none] w = law04_CoderDecodes.l9G F25 F14 F33 F34 F17 F30 F31 F35 F32 F36 (law04_CoderDecodes.l9 N) y1 y1n y1c y6 y7 y8 w (fun o6 o7 w => K (.exit 0) [none, none, none, none, none, none, some (Value.pointer o6), some (Value.pointer o7), none, none, none, none, none, none, none, none, none, none, none, none, none, none, none, none, none, none, none, none, none, none, none, none, none, none, none, none, none, none, none, none, none, none, none, none, none, none, none, none, none, none, none, none, none, none, none, none, none, none, none, none, none, none, none, none, none, none, none, none] w) (fun o4 w => K .ret [none, none, none, none, some (Value.bool o4), none, none, none, none, none, none, none, none, none, none, none, none, none, none, none, none, none, none, none, none, none, none, none, none, none, none, none, none, none, none, none, none, none, none, none, none, none, none, none, none, none, none, none, none, none, none, none, none, none, none, none, none, none, none, none, none, none, none, none, none, none, none, none] w) := by kernel_rfl
theorem law04_CoderDecodes.les9 (N : Nat) : law04_CoderDecodes.l9 (N + 1) = law04_CoderDecodes.l9G @law04_awake.f @help_Own_byte.f @coder_NewDecoder.f @ref04_NewDecoder.f @help_Kept_byte.f @help_Spoil.f @coder_Decoder_Decode.f @ref04_Decoder_Decode.f @coder_Decoder_Past.f @ref04_Decoder_Past.f (law04_CoderDecodes.l9 N) := by kernel_rfl
theorem law04_CoderDecodes.le9 (N : Nat) (y1 : Option Addr) (y1n : Nat) (y1c : Nat) (y6 : Option Addr) (y7 : Option Addr) (y8 : Int) (w : World) (K : AExit → Fr → World → Prop) : awp law04_CoderDecodes.C law04_CoderDecodes.L law04_CoderDecodes.D tab law04_CoderDecodes.b0 (lpost law04_CoderDecodes.hn9 law04_CoderDecodes.hx9 N K) [none, some (Value.slice y1 y1n y1c), none, none, none, none, some (Value.pointer y6), some (Value.pointer y7), some (Value.int .i64 y8), none, none, none, none, none, none, none, none, none, none, none, none, none, none, none, none, none, none, none, none, none, none, none, none, none, none, none, none, none, none, none, none, none, none, none, none, none, none, none, none, none, none, none, none, none, none, none, none, none, none, none, none, none, none, none, none, none, none, none] w = law04_CoderDecodes.l9 (N + 1) y1 y1n y1c y6 y7 y8 w (fun o6 o7 w => K (.exit 0) [none, none, none, none, none, none, some (Value.pointer o6), some (Value.pointer o7), none, none, none, none, none, none, none, none, none, none, none, none, none, none, none, none, none, none, none, none, none, none, none, none, none, none, none, none, none, none, none, none, none, none, none, none, none, none, none, none, none, none, none, none, none, none, none, none, none, none, none, none, none, none, none, none, none, none, none, none] w) (fun o4 w => K .ret [none, none, none, none, some (Value.bool o4), none, none, none, none, none, none, none, none, none, none, none, none, none, none, none, none, none, none, none, none, none, none, none, none, none, none, none, none, none, none, none, none, none, none, none, none, none, none, none, none, none, none, none, none, none, none, none, none, none, none, none, none, none, none, none, none, none, none, none, none, none, none, none] w) := by
  rw [law04_CoderDecodes.les9]
  exact law04_CoderDecodes.leG9 @law04_awake.f @help_Own_byte.f @coder_NewDecoder.f @ref04_NewDecoder.f @help_Kept_byte.f @help_Spoil.f @coder_Decoder_Decode.f @ref04_Decoder_Decode.f @coder_Decoder_Past.f @ref04_Decoder_Past.f N y1 y1n y1c y6 y7 y8 w K
theorem law04_CoderDecodes.lok9 : LoopOk Try.prog law04_CoderDecodes.L law04_CoderDecodes.b0 := by
  refine loop_ok tab_ok law04_CoderDecodes.C_ok (D := law04_CoderDecodes.D) (law04_CoderDecodes.hn9) (law04_CoderDecodes.hx9) (by kernel_rfl) (by rw [law04_CoderDecodes.b0_loops]; exact lnil) ?_ ?_ ?_ ?_
  · intro f w K h
    unfold law04_CoderDecodes.hn9 at h
    obtain ⟨hlen, h⟩ := gN_ok h
    obtain ⟨y1, y1n, y1c, h1, h⟩ := gL_ok h
    obtain ⟨y6, h6, h⟩ := gP_ok h
    obtain ⟨y7, h7, h⟩ := gP_ok h
    obtain ⟨y8, h8, h⟩ := gI_ok h
    exact h
  · intro N f w K h
    unfold law04_CoderDecodes.hn9 at h
    obtain ⟨hlen, h⟩ := gN_ok h
    obtain ⟨y1, y1n, y1c, h1, h⟩ := gL_ok h
    obtain ⟨y6, h6, h⟩ := gP_ok h
    obtain ⟨y7, h7, h⟩ := gP_ok h
    obtain ⟨y8, h8, h⟩ := gI_ok h
    refine ⟨[none, some (Value.slice y1 y1n y1c), none, none, none, none, some (Value.pointer y6), some (Value.pointer y7), some (Value.int .i64 y8), none, none, none, none, none, none, none, none, none, none, none, none, none, none, none, none, none, none, none, none, none, none, none, none, none, none, none, none, none, none, none, none, none, none, none, none, none, none, none, none, none, none, none, none, none, none, none, none, none, none, none, none, none, none, none, none, none, none, none], hlen, ⟨h1, h6, h7, h8, trivial⟩, ?_⟩
    rw [law04_CoderDecodes.le9]
    exact h
  · intro e f w K h
    cases e with
    | normal => exact h.elim
    | exit i =>
      unfold law04_CoderDecodes.hx9 at h
      simp only at h
      split at h
      · rename_i hb
        obtain rfl := Nat.eq_of_beq_eq_true hb
        obtain ⟨hlen, h⟩ := gN_ok h
        obtain ⟨o6, h6, h⟩ := gP_ok h
        obtain ⟨o7, h7, h⟩ := gP_ok h
        exact ⟨[none, none, none, none, none, none, some (Value.pointer o6), some (Value.pointer o7), none, none, none, none, none, none, none, none, none, none, none, none, none, none, none, none, none, none, none, none, none, none, none, none, none, none, none, none, none, none, none, none, none, none, none, none, none, none, none, none, none, none, none, none, none, none, none, none, none, none, none, none, none, none, none, none, none, none, none, none], hlen, ⟨h6, h7, trivial⟩, h⟩
      · exact (show False from h).elim
    | ret =>
      unfold law04_CoderDecodes.hx9 at h
      simp only at h
      obtain ⟨hlen, h⟩ := gN_ok h
      obtain ⟨o4, h4, h⟩ := gB_ok h
      exact ⟨[none, none, none, none, some (Value.bool o4), none, none, none, none, none, none, none, none, none, none, none, none, none, none, none, none, none, none, none, none, none, none, none, none, none, none, none, none, none, none, none, none, none, none, none, none, none, none, none, none, none, none, none, none, none, none, none, none, none, none, none, none, none, none, none, none, none, none, none, none, none, none, none], hlen, ⟨h4, trivial⟩, h⟩
  · intro f w K h
    have e : lid law04_CoderDecodes.b0 = 9 := by kernel_rfl
    rw [e] at h
    exact h
theorem law04_CoderDecodes.eqG (F25 : type_of% @law04_awake.f) (F14 : type_of% @help_Own_byte.f) (F33 : type_of% @coder_NewDecoder.f) (F34 : type_of% @ref04_NewDecoder.f) (F17 : type_of% @help_Kept_byte.f) (F30 : type_of% @help_Spoil.f) (F31 : type_of% @coder_Decoder_Decode.f) (F35 : type_of% @ref04_Decoder_Decode.f) (F32 : type_of% @coder_Decoder_Past.f) (F36 : type_of% @ref04_Decoder_Past.f) (a0 : Option Addr) (a0n : Nat) (a0c : Nat) (a1 : Option Addr) (a1n : Nat) (a1c : Nat) (w : World) (K : Value → World → Prop) : afn (law04_CoderDecodes.CG F25 F14 F33 F34 F17 F30 F31 F35 F32 F36) law04_CoderDecodes.L law04_CoderDecodes.D tab Try.f11 [(Value.slice a0 a0n a0c), (Value.slice a1 a1n a1c)] w K = law04_CoderDecodes.G F25 F14 F33 F34 F17 F30 F31 F35 F32 F36 a0 a0n a0c a1 a1n a1c w (fun r0 w => K (Value.bool r0) w) := by kernel_rfl
theorem law04_CoderDecodes.eq (a0 : Option Addr) (a0n : Nat) (a0c : Nat) (a1 : Option Addr) (a1n : Nat) (a1c : Nat) (w : World) (K : Value → World → Prop) : afn law04_CoderDecodes.C law04_CoderDecodes.L law04_CoderDecodes.D tab Try.f11 [(Value.slice a0 a0n a0c), (Value.slice a1 a1n a1c)] w K = law04_CoderDecodes.f a0 a0n a0c a1 a1n a1c w (fun r0 w => K (Value.bool r0) w) := law04_CoderDecodes.eqG @law04_awake.f @help_Own_byte.f @coder_NewDecoder.f @ref04_NewDecoder.f @help_Kept_byte.f @help_Spoil.f @coder_Decoder_Decode.f @ref04_Decoder_Decode.f @coder_Decoder_Past.f @ref04_Decoder_Past.f a0 a0n a0c a1 a1n a1c w K
theorem law04_CoderDecodes.ok : FSound Try.prog 11 law04_CoderDecodes.h := by
  intro args w K h
  unfold law04_CoderDecodes.h law04_CoderDecodes.H at h
  split at h
  ·
    replace h := vL_ok h
    obtain ⟨a0, a0n, a0c, rfl, h⟩ := h
    replace h := vL_ok h
    obtain ⟨a1, a1n, a1c, rfl, h⟩ := h
    refine ⟨by kernel_rfl, fn_ok tab_ok law04_CoderDecodes.C_ok (L := law04_CoderDecodes.L) (D := law04_CoderDecodes.D) Try.func11 law04_CoderDecodes.hb (by kernel_rfl) (by rw [law04_CoderDecodes.c_loops]; exact lcons law04_CoderDecodes.lok9 (lnil)) (Nat.le_of_ble_eq_true (by kernel_rfl)) ?_⟩
    rw [law04_CoderDecodes.eq]
    exact h
  · exact h.elim
end Go.Proofs.Ytinmhmphidgdeaa.G
