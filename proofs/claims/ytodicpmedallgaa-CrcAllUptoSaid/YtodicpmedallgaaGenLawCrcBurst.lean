/- Go functions as predicate transformers, written by a program of this session (gen.py), with their soundness. -/
import Derived.Test.YtodicpmedallgaaGen4
set_option linter.unusedVariables false
set_option linter.unusedSimpArgs false
set_option maxRecDepth 100000
namespace Go.Proofs.Ytodicpmedallgaa.G
open Go Go.Proofs.Ytodicpmedallgaa.Vm
/-! ### valise/valiselaw03.CrcBurst: function 5 -/
def law03_CrcBurst.l7 : Nat → Option Addr → Nat → Nat → Int → Option Addr → Nat → Nat → Int → Bool → Int → World → (Option Addr → Nat → Nat → Option Addr → Nat → Nat → Bool → World → Prop) → Prop
  | 0, _, _, _, _, _, _, _, _, _, _, _, _ => False
  | N + 1, y0, y0n, y0c, y2, y7, y7n, y7c, y8, y9, y10, w, K0 =>
    bif (decide (y10 < 32)) then
      bif (decide ((IntKind.wrap .i64 (y8 + y10)) < (IntKind.wrap .i64 (8 * ((y0n : Nat) : Int))))) then
        if (IntKind.wrap .u64 y10) < 0 then False else
        bif ((band .u32 (shr .u32 y2 (min (Int.toNat (IntKind.wrap .u64 y10)) (IntKind.bits .u32))) 1) == 1) then
          let v11_25 := (IntKind.wrap .i64 (y8 + y10))
          sm y7 fun p_27 =>
          if 0 ≤ ((IntKind.wrap .i64 (Int.tdiv v11_25 8)) : Int) ∧ ((IntKind.wrap .i64 (Int.tdiv v11_25 8)) : Int) < ((y7n : Nat) : Int) then
          ldI .u8 (p_27.add (Int.toNat (IntKind.wrap .i64 (Int.tdiv v11_25 8)))) w fun x68_28 =>
          if (IntKind.wrap .u64 (Int.tmod v11_25 8)) < 0 then False else
          sm y7 fun p_29 =>
          if 0 ≤ ((IntKind.wrap .i64 (Int.tdiv v11_25 8)) : Int) ∧ ((IntKind.wrap .i64 (Int.tdiv v11_25 8)) : Int) < ((y7n : Nat) : Int) then
          stC (p_29.add (Int.toNat (IntKind.wrap .i64 (Int.tdiv v11_25 8)))) (Value.int .u8 (bxor .u8 x68_28 (shl .u8 1 (min (Int.toNat (IntKind.wrap .u64 (Int.tmod v11_25 8))) (IntKind.bits .u8))))) w fun w =>
          let v10_30 := (IntKind.wrap .i64 (y10 + 1))
          law03_CrcBurst.l7 N y0 y0n y0c y2 y7 y7n y7c y8 true v10_30 w K0
          else False
          else False
        else
          let v10_31 := (IntKind.wrap .i64 (y10 + 1))
          law03_CrcBurst.l7 N y0 y0n y0c y2 y7 y7n y7c y8 y9 v10_31 w K0
      else
        K0 y0 y0n y0c y7 y7n y7c y9 w
    else
      K0 y0 y0n y0c y7 y7n y7c y9 w

def law03_CrcBurst.f (a0 : Option Addr) (a0n : Nat) (a0c : Nat) (a1 : Int) (a2 : Int) (w : World) (K : Bool → World → Prop) : Prop :=
  law03_awake.f  w fun r12_4 w =>
  bif (!r12_4) then
    law03_awake.f  w fun r28_6 w =>
    K r28_6 w
  else
    bif (((a0n : Nat) : Int) == 0) then
      law03_awake.f  w fun r28_8 w =>
      K r28_8 w
    else
      bif (a2 == 0) then
        law03_awake.f  w fun r28_10 w =>
        K r28_10 w
      else
        bif (decide (((a0n : Nat) : Int) > 1048576)) then
          law03_awake.f  w fun r28_12 w =>
          K r28_12 w
        else
          help_CopyBytes.f a0 a0n a0c w fun r30_14 r30_14n r30_14c w =>
          if (IntKind.wrap .u64 (IntKind.wrap .i64 (8 * ((a0n : Nat) : Int)))) = 0 then False else
          let v8_16 := (IntKind.wrap .i64 (Int.tmod (IntKind.wrap .u64 a1) (IntKind.wrap .u64 (IntKind.wrap .i64 (8 * ((a0n : Nat) : Int))))))
          ∃ N_32 : Nat, law03_CrcBurst.l7 N_32 a0 a0n a0c a2 r30_14 r30_14n r30_14c v8_16 false 0 w
          (fun o0_33 o0_33n o0_33c o7_34 o7_34n o7_34c o9_35 w =>
            crc_Sum.f o7_34 o7_34n o7_34c w fun r76_37 w =>
            crc_Sum.f o0_33 o0_33n o0_33c w fun r78_38 w =>
            let v6_39 := ((r76_37 != r78_38) == o9_35)
            K v6_39 w)
def law03_CrcBurst.H (F : type_of% @law03_CrcBurst.f) : Hf := fun args w K => match args with
  | [v0, v1, v2] => vL v0 fun a0 a0n a0c => vI .i64 v1 fun a1 => vI .u32 v2 fun a2 => F a0 a0n a0c a1 a2 w (fun r0 w => K (Value.bool r0) w)
  | _ => False
def law03_CrcBurst.h : Hf := law03_CrcBurst.H @law03_CrcBurst.f
def law03_CrcBurst.CG (F16 : type_of% @law03_awake.f) (F22 : type_of% @help_CopyBytes.f) (F17 : type_of% @crc_Sum.f) : Hd := hcons 17 (crc_Sum.H F17) (hcons 22 (help_CopyBytes.H F22) (hcons 16 (law03_awake.H F16) (hnil)))
def law03_CrcBurst.C : Hd := law03_CrcBurst.CG @law03_awake.f @help_CopyBytes.f @crc_Sum.f
def law03_CrcBurst.G (F16 : type_of% @law03_awake.f) (F22 : type_of% @help_CopyBytes.f) (F17 : type_of% @crc_Sum.f) (a0 : Option Addr) (a0n : Nat) (a0c : Nat) (a1 : Int) (a2 : Int) (w : World) (K : Bool → World → Prop) : Prop :=
  F16  w fun r12_4 w =>
  bif (!r12_4) then
    F16  w fun r28_6 w =>
    K r28_6 w
  else
    bif (((a0n : Nat) : Int) == 0) then
      F16  w fun r28_8 w =>
      K r28_8 w
    else
      bif (a2 == 0) then
        F16  w fun r28_10 w =>
        K r28_10 w
      else
        bif (decide (((a0n : Nat) : Int) > 1048576)) then
          F16  w fun r28_12 w =>
          K r28_12 w
        else
          F22 a0 a0n a0c w fun r30_14 r30_14n r30_14c w =>
          if (IntKind.wrap .u64 (IntKind.wrap .i64 (8 * ((a0n : Nat) : Int)))) = 0 then False else
          let v8_16 := (IntKind.wrap .i64 (Int.tmod (IntKind.wrap .u64 a1) (IntKind.wrap .u64 (IntKind.wrap .i64 (8 * ((a0n : Nat) : Int))))))
          ∃ N_32 : Nat, law03_CrcBurst.l7 N_32 a0 a0n a0c a2 r30_14 r30_14n r30_14c v8_16 false 0 w
          (fun o0_33 o0_33n o0_33c o7_34 o7_34n o7_34c o9_35 w =>
            F17 o7_34 o7_34n o7_34c w fun r76_37 w =>
            F17 o0_33 o0_33n o0_33c w fun r78_38 w =>
            let v6_39 := ((r76_37 != r78_38) == o9_35)
            K v6_39 w)
theorem law03_CrcBurst.C_ok : CSound Try.prog law03_CrcBurst.C := hcons_ok crc_Sum.ok (hcons_ok help_CopyBytes.ok (hcons_ok law03_awake.ok (hnil_ok)))
def law03_CrcBurst.D : Nat → Plan := fun i => .done
noncomputable def law03_CrcBurst.c : Code := Try.f5.body.getD .skip
theorem law03_CrcBurst.hb : Try.f5.body = some law03_CrcBurst.c := by kernel_rfl
noncomputable def law03_CrcBurst.b0 : Code := (loopsOf law03_CrcBurst.c).getD 0 .skip
theorem law03_CrcBurst.b0_loops : loopsOf law03_CrcBurst.b0 = [] := by kernel_rfl
theorem law03_CrcBurst.c_loops : loopsOf law03_CrcBurst.c = [law03_CrcBurst.b0] := by kernel_rfl
def law03_CrcBurst.l7G (F16 : type_of% @law03_awake.f) (F22 : type_of% @help_CopyBytes.f) (F17 : type_of% @crc_Sum.f) (R : Option Addr → Nat → Nat → Int → Option Addr → Nat → Nat → Int → Bool → Int → World → (Option Addr → Nat → Nat → Option Addr → Nat → Nat → Bool → World → Prop) → Prop) : Option Addr → Nat → Nat → Int → Option Addr → Nat → Nat → Int → Bool → Int → World → (Option Addr → Nat → Nat → Option Addr → Nat → Nat → Bool → World → Prop) → Prop := fun y0 y0n y0c y2 y7 y7n y7c y8 y9 y10 w K0 =>
    bif (decide (y10 < 32)) then
      bif (decide ((IntKind.wrap .i64 (y8 + y10)) < (IntKind.wrap .i64 (8 * ((y0n : Nat) : Int))))) then
        if (IntKind.wrap .u64 y10) < 0 then False else
        bif ((band .u32 (shr .u32 y2 (min (Int.toNat (IntKind.wrap .u64 y10)) (IntKind.bits .u32))) 1) == 1) then
          let v11_25 := (IntKind.wrap .i64 (y8 + y10))
          sm y7 fun p_27 =>
          if 0 ≤ ((IntKind.wrap .i64 (Int.tdiv v11_25 8)) : Int) ∧ ((IntKind.wrap .i64 (Int.tdiv v11_25 8)) : Int) < ((y7n : Nat) : Int) then
          ldI .u8 (p_27.add (Int.toNat (IntKind.wrap .i64 (Int.tdiv v11_25 8)))) w fun x68_28 =>
          if (IntKind.wrap .u64 (Int.tmod v11_25 8)) < 0 then False else
          sm y7 fun p_29 =>
          if 0 ≤ ((IntKind.wrap .i64 (Int.tdiv v11_25 8)) : Int) ∧ ((IntKind.wrap .i64 (Int.tdiv v11_25 8)) : Int) < ((y7n : Nat) : Int) then
          stC (p_29.add (Int.toNat (IntKind.wrap .i64 (Int.tdiv v11_25 8)))) (Value.int .u8 (bxor .u8 x68_28 (shl .u8 1 (min (Int.toNat (IntKind.wrap .u64 (Int.tmod v11_25 8))) (IntKind.bits .u8))))) w fun w =>
          let v10_30 := (IntKind.wrap .i64 (y10 + 1))
          R y0 y0n y0c y2 y7 y7n y7c y8 true v10_30 w K0
          else False
          else False
        else
          let v10_31 := (IntKind.wrap .i64 (y10 + 1))
          R y0 y0n y0c y2 y7 y7n y7c y8 y9 v10_31 w K0
      else
        K0 y0 y0n y0c y7 y7n y7c y9 w
    else
      K0 y0 y0n y0c y7 y7n y7c y9 w

def law03_CrcBurst.hn7 (N : Nat) (f : Fr) (w : World) (K : AExit → Fr → World → Prop) : Prop :=
  gN f 82 <| gL f 0 fun y0 y0n y0c => gI .u32 f 2 fun y2 => gL f 7 fun y7 y7n y7c => gI .i64 f 8 fun y8 => gB f 9 fun y9 => gI .i64 f 10 fun y10 => law03_CrcBurst.l7 N y0 y0n y0c y2 y7 y7n y7c y8 y9 y10 w (fun o0 o0n o0c o7 o7n o7c o9 w => K (.exit 0) [some (Value.slice o0 o0n o0c), none, none, none, none, none, none, some (Value.slice o7 o7n o7c), none, some (Value.bool o9), none, none, none, none, none, none, none, none, none, none, none, none, none, none, none, none, none, none, none, none, none, none, none, none, none, none, none, none, none, none, none, none, none, none, none, none, none, none, none, none, none, none, none, none, none, none, none, none, none, none, none, none, none, none, none, none, none, none, none, none, none, none, none, none, none, none, none, none, none, none, none, none] w)
def law03_CrcBurst.hx7 : AExit → Fr → World → (AExit → Fr → World → Prop) → Prop := fun e f w K => match e with
  | .normal => False
  | .exit i => (match Nat.beq i 0 with | true => gN f 82 <| gL f 0 fun o0 o0n o0c => gL f 7 fun o7 o7n o7c => gB f 9 fun o9 => K (.exit 0) [some (Value.slice o0 o0n o0c), none, none, none, none, none, none, some (Value.slice o7 o7n o7c), none, some (Value.bool o9), none, none, none, none, none, none, none, none, none, none, none, none, none, none, none, none, none, none, none, none, none, none, none, none, none, none, none, none, none, none, none, none, none, none, none, none, none, none, none, none, none, none, none, none, none, none, none, none, none, none, none, none, none, none, none, none, none, none, none, none, none, none, none, none, none, none, none, none, none, none, none, none] w | false => False)
  | .ret => False
def law03_CrcBurst.L : LHd := fun l f w K => (match Nat.beq l 7 with | true => ∃ N, law03_CrcBurst.hn7 N f w K | false => False)
theorem law03_CrcBurst.leG7 (F16 : type_of% @law03_awake.f) (F22 : type_of% @help_CopyBytes.f) (F17 : type_of% @crc_Sum.f) (N : Nat) (y0 : Option Addr) (y0n : Nat) (y0c : Nat) (y2 : Int) (y7 : Option Addr) (y7n : Nat) (y7c : Nat) (y8 : Int) (y9 : Bool) (y10 : Int) (w : World) (K : AExit → Fr → World → Prop) : awp (law03_CrcBurst.CG F16 F22 F17) law03_CrcBurst.L law03_CrcBurst.D tab law03_CrcBurst.b0 (lpost law03_CrcBurst.hn7 law03_CrcBurst.hx7 N K) [some (Value.slice y0 y0n y0c), none, some (Value.int .u32 y2), none, none, none, none, some (Value.slice y7 y7n y7c), some (Value.int .i64 y8), some (Value.bool y9), some (Value.int .i64 y10), none, none, none, none, none, none, none, none, none, none, none, none, none, none, none, none, none, none, none, none, none, none, none, none, none, none, none, none, none, none, none, none, none, none, none, none, none, none, none, none, none, none, none, none, none, none, none, none, none, none, none, none, none, none, none, none, none, none, none, none, none, none, none, none, none, none, none, none, none, none, none] w = law03_CrcBurst.l7G F16 F22 F17 (law03_CrcBurst.l7 N) y0 y0n y0c y2 y7 y7n y7c y8 y9 y10 w (fun o0 o0n o0c o7 o7n o7c o9 w => K (.exit 0) [some (Value.slice o0 o0n o0c), none, none, none, none, none, none, some (Value.slice o7 o7n o7c), none, some (Value.bool o9), none, none, none, none, none, none, none, none, none, none, none, none, none, none, none, none, none, none, none, none, none, none, none, none, none, none, none, none, none, none, none, none, none, none, none, none, none, none, none, none, none, none, none, none, none, none, none, none, none, none, none, none, none, none, none, none, none, none, none, none, none, none, none, none, none, none, none, none, none, none, none, none] w) := by kernel_rfl
theorem law03_CrcBurst.les7 (N : Nat) : law03_CrcBurst.l7 (N + 1) = law03_CrcBurst.l7G @law03_awake.f @help_CopyBytes.f @crc_Sum.f (law03_CrcBurst.l7 N) := by kernel_rfl
theorem law03_CrcBurst.le7 (N : Nat) (y0 : Option Addr) (y0n : Nat) (y0c : Nat) (y2 : Int) (y7 : Option Addr) (y7n : Nat) (y7c : Nat) (y8 : Int) (y9 : Bool) (y10 : Int) (w : World) (K : AExit → Fr → World → Prop) : awp law03_CrcBurst.C law03_CrcBurst.L law03_CrcBurst.D tab law03_CrcBurst.b0 (lpost law03_CrcBurst.hn7 law03_CrcBurst.hx7 N K) [some (Value.slice y0 y0n y0c), none, some (Value.int .u32 y2), none, none, none, none, some (Value.slice y7 y7n y7c), some (Value.int .i64 y8), some (Value.bool y9), some (Value.int .i64 y10), none, none, none, none, none, none, none, none, none, none, none, none, none, none, none, none, none, none, none, none, none, none, none, none, none, none, none, none, none, none, none, none, none, none, none, none, none, none, none, none, none, none, none, none, none, none, none, none, none, none, none, none, none, none, none, none, none, none, none, none, none, none, none, none, none, none, none, none, none, none, none] w = law03_CrcBurst.l7 (N + 1) y0 y0n y0c y2 y7 y7n y7c y8 y9 y10 w (fun o0 o0n o0c o7 o7n o7c o9 w => K (.exit 0) [some (Value.slice o0 o0n o0c), none, none, none, none, none, none, some (Value.slice o7 o7n o7c), none, some (Value.bool o9), none, none, none, none, none, none, none, none, none, none, none, none, none, none, none, none, none, none, none, none, none, none, none, none, none, none, none, none, none, none, none, none, none, none, none, none, none, none, none, none, none, none, none, none, none, none, none, none, none, none, none, none, none, none, none, none, none, none, none, none, none, none, none, none, none, none, none, none, none, none, none, none] w) := by
  rw [law03_CrcBurst.les7]
  exact law03_CrcBurst.leG7 @law03_awake.f @help_CopyBytes.f @crc_Sum.f N y0 y0n y0c y2 y7 y7n y7c y8 y9 y10 w K
theorem law03_CrcBurst.lok7 : LoopOk Try.prog law03_CrcBurst.L law03_CrcBurst.b0 := by
  refine loop_ok tab_ok law03_CrcBurst.C_ok (D := law03_CrcBurst.D) (law03_CrcBurst.hn7) (law03_CrcBurst.hx7) (by kernel_rfl) (by rw [law03_CrcBurst.b0_loops]; exact lnil) ?_ ?_ ?_ ?_
  · intro f w K h
    unfold law03_CrcBurst.hn7 at h
    obtain ⟨hlen, h⟩ := gN_ok h
    obtain ⟨y0, y0n, y0c, h0, h⟩ := gL_ok h
    obtain ⟨y2, h2, h⟩ := gI_ok h
    obtain ⟨y7, y7n, y7c, h7, h⟩ := gL_ok h
    obtain ⟨y8, h8, h⟩ := gI_ok h
    obtain ⟨y9, h9, h⟩ := gB_ok h
    obtain ⟨y10, h10, h⟩ := gI_ok h
    exact h
  · intro N f w K h
    unfold law03_CrcBurst.hn7 at h
    obtain ⟨hlen, h⟩ := gN_ok h
    obtain ⟨y0, y0n, y0c, h0, h⟩ := gL_ok h
    obtain ⟨y2, h2, h⟩ := gI_ok h
    obtain ⟨y7, y7n, y7c, h7, h⟩ := gL_ok h
    obtain ⟨y8, h8, h⟩ := gI_ok h
    obtain ⟨y9, h9, h⟩ := gB_ok h
    obtain ⟨y10, h10, h⟩ := gI_ok h
    refine ⟨[some (Value.slice y0 y0n y0c), none, some (Value.int .u32 y2), none, none, none, none, some (Value.slice y7 y7n y7c), some (Value.int .i64 y8), some (Value.bool y9), some (Value.int .i64 y10), none, none, none, none, none, none, none, none, none, none, none, none, none, none, none, none, none, none, none, none, none, none, none, none, none, none, none, none, none, none, none, none, none, none, none, none, none, none, none, none, none, none, none, none, none, none, none, none, none, none, none, none, none, none, none, none, none, none, none, none, none, none, none, none, none, none, none, none, none, none, none], hlen, ⟨h0, h2, h7, h8, h9, h10, trivial⟩, ?_⟩
    rw [law03_CrcBurst.le7]
    exact h
  · intro e f w K h
    cases e with
    | normal => exact h.elim
    | exit i =>
      unfold law03_CrcBurst.hx7 at h
      simp only at h
      split at h
      · rename_i hb
        obtain rfl := Nat.eq_of_beq_eq_true hb
        obtain ⟨hlen, h⟩ := gN_ok h
        obtain ⟨o0, o0n, o0c, h0, h⟩ := gL_ok h
        obtain ⟨o7, o7n, o7c, h7, h⟩ := gL_ok h
        obtain ⟨o9, h9, h⟩ := gB_ok h
        exact ⟨[some (Value.slice o0 o0n o0c), none, none, none, none, none, none, some (Value.slice o7 o7n o7c), none, some (Value.bool o9), none, none, none, none, none, none, none, none, none, none, none, none, none, none, none, none, none, none, none, none, none, none, none, none, none, none, none, none, none, none, none, none, none, none, none, none, none, none, none, none, none, none, none, none, none, none, none, none, none, none, none, none, none, none, none, none, none, none, none, none, none, none, none, none, none, none, none, none, none, none, none, none], hlen, ⟨h0, h7, h9, trivial⟩, h⟩
      · exact (show False from h).elim
    | ret =>
      exact (show False from h).elim
  · intro f w K h
    have e : lid law03_CrcBurst.b0 = 7 := by kernel_rfl
    rw [e] at h
    exact h
theorem law03_CrcBurst.eqG (F16 : type_of% @law03_awake.f) (F22 : type_of% @help_CopyBytes.f) (F17 : type_of% @crc_Sum.f) (a0 : Option Addr) (a0n : Nat) (a0c : Nat) (a1 : Int) (a2 : Int) (w : World) (K : Value → World → Prop) : afn (law03_CrcBurst.CG F16 F22 F17) law03_CrcBurst.L law03_CrcBurst.D tab Try.f5 [(Value.slice a0 a0n a0c), (Value.int .i64 a1), (Value.int .u32 a2)] w K = law03_CrcBurst.G F16 F22 F17 a0 a0n a0c a1 a2 w (fun r0 w => K (Value.bool r0) w) := by kernel_rfl
theorem law03_CrcBurst.eq (a0 : Option Addr) (a0n : Nat) (a0c : Nat) (a1 : Int) (a2 : Int) (w : World) (K : Value → World → Prop) : afn law03_CrcBurst.C law03_CrcBurst.L law03_CrcBurst.D tab Try.f5 [(Value.slice a0 a0n a0c), (Value.int .i64 a1), (Value.int .u32 a2)] w K = law03_CrcBurst.f a0 a0n a0c a1 a2 w (fun r0 w => K (Value.bool r0) w) := law03_CrcBurst.eqG @law03_awake.f @help_CopyBytes.f @crc_Sum.f a0 a0n a0c a1 a2 w K
theorem law03_CrcBurst.ok : FSound Try.prog 5 law03_CrcBurst.h := by
  intro args w K h
  unfold law03_CrcBurst.h law03_CrcBurst.H at h
  split at h
  ·
    replace h := vL_ok h
    obtain ⟨a0, a0n, a0c, rfl, h⟩ := h
    replace h := vI_ok h
    obtain ⟨a1, rfl, h⟩ := h
    replace h := vI_ok h
    obtain ⟨a2, rfl, h⟩ := h
    refine ⟨by kernel_rfl, fn_ok tab_ok law03_CrcBurst.C_ok (L := law03_CrcBurst.L) (D := law03_CrcBurst.D) Try.func5 law03_CrcBurst.hb (by kernel_rfl) (by rw [law03_CrcBurst.c_loops]; exact lcons law03_CrcBurst.lok7 (lnil)) (Nat.le_of_ble_eq_true (by kernel_rfl)) ?_⟩
    rw [law03_CrcBurst.eq]
    exact h
  · exact h.elim
end Go.Proofs.Ytodicpmedallgaa.G
