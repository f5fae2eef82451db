/- Go functions as predicate transformers, written by a program of this session (gen.py), with their soundness. -/
import Derived.Test.YtodicpmedallgaaGen4
set_option linter.unusedVariables false
set_option linter.unusedSimpArgs false
set_option maxRecDepth 100000
namespace Go.Proofs.Ytodicpmedallgaa.G
open Go Go.Proofs.Ytodicpmedallgaa.Vm
/-! ### valise/valiselaw03.CrcLinear: function 6 -/
def law03_CrcLinear.l4 : Nat → Option Addr → Nat → Nat → Option Addr → Nat → Nat → Option Addr → Nat → Nat → Int → Option Addr → Nat → Nat → Int → World → (Option Addr → Nat → Nat → Option Addr → Nat → Nat → Option Addr → Nat → Nat → Int → Option Addr → Nat → Nat → World → Prop) → Prop
  | 0, _, _, _, _, _, _, _, _, _, _, _, _, _, _, _, _ => False
  | N + 1, y0, y0n, y0c, y1, y1n, y1c, y2, y2n, y2c, y7, y8, y8n, y8c, y9, w, K0 =>
    bif (decide (y9 < y7)) then
      sm y8 fun p_13 =>
      if 0 ≤ (y9 : Int) ∧ (y9 : Int) < ((y8n : Nat) : Int) then
      ldI .u8 (p_13.add (Int.toNat y9)) w.drew fun x31_14 =>
      sm y1 fun p_15 =>
      if 0 ≤ (y9 : Int) ∧ (y9 : Int) < ((y1n : Nat) : Int) then
      ldI .u8 (p_15.add (Int.toNat y9)) w.drew fun x35_16 =>
      sm y2 fun p_17 =>
      if 0 ≤ (y9 : Int) ∧ (y9 : Int) < ((y2n : Nat) : Int) then
      ldI .u8 (p_17.add (Int.toNat y9)) w.drew fun x40_18 =>
      sm y8 fun p_19 =>
      if 0 ≤ (y9 : Int) ∧ (y9 : Int) < ((y8n : Nat) : Int) then
      stC (p_19.add (Int.toNat y9)) (Value.int .u8 (bxor .u8 (bxor .u8 x31_14 x35_16) x40_18)) w.drew fun w =>
      let v9_20 := (IntKind.wrap .i64 (y9 + 1))
      law03_CrcLinear.l4 N y0 y0n y0c y1 y1n y1c y2 y2n y2c y7 y8 y8n y8c v9_20 w K0
      else False
      else False
      else False
      else False
    else
      K0 y0 y0n y0c y1 y1n y1c y2 y2n y2c y7 y8 y8n y8c w

def law03_CrcLinear.f (a0 : Option Addr) (a0n : Nat) (a0c : Nat) (a1 : Option Addr) (a1n : Nat) (a1c : Nat) (a2 : Option Addr) (a2n : Nat) (a2c : Nat) (w : World) (K : Bool → World → Prop) : Prop :=
  let v7_3 := (mn (mn ((a0n : Nat) : Int) ((a1n : Nat) : Int)) ((a2n : Nat) : Int))
  bnd a0n a0c none (some (Value.int .i64 v7_3)) fun l_5 h_6 =>
  help_CopyBytes.f (adrS a0 l_5 a0c 1) (h_6 - l_5) (a0c - l_5) w fun r20_7 r20_7n r20_7c w =>
  ∃ N_21 : Nat, law03_CrcLinear.l4 N_21 a0 a0n a0c a1 a1n a1c a2 a2n a2c v7_3 r20_7 r20_7n r20_7c 0 w
  (fun o0_22 o0_22n o0_22c o1_23 o1_23n o1_23c o2_24 o2_24n o2_24c o7_25 o8_26 o8_26n o8_26c w =>
    law03_awake.f  w.drew fun r43_28 w =>
    bif r43_28 then
      bnd o0_22n o0_22c none (some (Value.int .i64 o7_25)) fun l_29 h_30 =>
      bnd o1_23n o1_23c none (some (Value.int .i64 o7_25)) fun l_31 h_32 =>
      bnd o2_24n o2_24c none (some (Value.int .i64 o7_25)) fun l_33 h_34 =>
      crc_Sum.f o8_26 o8_26n o8_26c w fun r46_35 w =>
      crc_Sum.f (adrS o0_22 l_29 o0_22c 1) (h_30 - l_29) (o0_22c - l_29) w fun r50_36 w =>
      crc_Sum.f (adrS o1_23 l_31 o1_23c 1) (h_32 - l_31) (o1_23c - l_31) w fun r54_37 w =>
      crc_Sum.f (adrS o2_24 l_33 o2_24c 1) (h_34 - l_33) (o2_24c - l_33) w fun r59_38 w =>
      let v6_39 := (r46_35 == (bxor .u32 (bxor .u32 r50_36 r54_37) r59_38))
      K v6_39 w
    else
      K false w)
def law03_CrcLinear.H (F : type_of% @law03_CrcLinear.f) : Hf := fun args w K => match args with
  | [v0, v1, v2] => vL v0 fun a0 a0n a0c => vL v1 fun a1 a1n a1c => vL v2 fun a2 a2n a2c => F a0 a0n a0c a1 a1n a1c a2 a2n a2c w (fun r0 w => K (Value.bool r0) w)
  | _ => False
def law03_CrcLinear.h : Hf := law03_CrcLinear.H @law03_CrcLinear.f
def law03_CrcLinear.CG (F22 : type_of% @help_CopyBytes.f) (F16 : type_of% @law03_awake.f) (F17 : type_of% @crc_Sum.f) : Hd := hcons 17 (crc_Sum.H F17) (hcons 16 (law03_awake.H F16) (hcons 22 (help_CopyBytes.H F22) (hnil)))
def law03_CrcLinear.C : Hd := law03_CrcLinear.CG @help_CopyBytes.f @law03_awake.f @crc_Sum.f
def law03_CrcLinear.G (F22 : type_of% @help_CopyBytes.f) (F16 : type_of% @law03_awake.f) (F17 : type_of% @crc_Sum.f) (a0 : Option Addr) (a0n : Nat) (a0c : Nat) (a1 : Option Addr) (a1n : Nat) (a1c : Nat) (a2 : Option Addr) (a2n : Nat) (a2c : Nat) (w : World) (K : Bool → World → Prop) : Prop :=
  let v7_3 := (mn (mn ((a0n : Nat) : Int) ((a1n : Nat) : Int)) ((a2n : Nat) : Int))
  bnd a0n a0c none (some (Value.int .i64 v7_3)) fun l_5 h_6 =>
  F22 (adrS a0 l_5 a0c 1) (h_6 - l_5) (a0c - l_5) w fun r20_7 r20_7n r20_7c w =>
  ∃ N_21 : Nat, law03_CrcLinear.l4 N_21 a0 a0n a0c a1 a1n a1c a2 a2n a2c v7_3 r20_7 r20_7n r20_7c 0 w
  (fun o0_22 o0_22n o0_22c o1_23 o1_23n o1_23c o2_24 o2_24n o2_24c o7_25 o8_26 o8_26n o8_26c w =>
    F16  w.drew fun r43_28 w =>
    bif r43_28 then
      bnd o0_22n o0_22c none (some (Value.int .i64 o7_25)) fun l_29 h_30 =>
      bnd o1_23n o1_23c none (some (Value.int .i64 o7_25)) fun l_31 h_32 =>
      bnd o2_24n o2_24c none (some (Value.int .i64 o7_25)) fun l_33 h_34 =>
      F17 o8_26 o8_26n o8_26c w fun r46_35 w =>
      F17 (adrS o0_22 l_29 o0_22c 1) (h_30 - l_29) (o0_22c - l_29) w fun r50_36 w =>
      F17 (adrS o1_23 l_31 o1_23c 1) (h_32 - l_31) (o1_23c - l_31) w fun r54_37 w =>
      F17 (adrS o2_24 l_33 o2_24c 1) (h_34 - l_33) (o2_24c - l_33) w fun r59_38 w =>
      let v6_39 := (r46_35 == (bxor .u32 (bxor .u32 r50_36 r54_37) r59_38))
      K v6_39 w
    else
      K false w)
theorem law03_CrcLinear.C_ok : CSound Try.prog law03_CrcLinear.C := hcons_ok crc_Sum.ok (hcons_ok law03_awake.ok (hcons_ok help_CopyBytes.ok (hnil_ok)))
def law03_CrcLinear.D : Nat → Plan := fun i => (match Nat.beq i 7 with | true => .eff 0 (.take 1 (.take 2 (.take 4 (.take 5 (.take 6 (.take 8 (.take 9 (.take 10 (.take 13 (.take 14 (.take 15 (.eff 3 (.eff 7 (.eff 11 (.take 12 (.eff 16 (.take 17 (.take 18 (.take 19 (.take 20 (.done))))))))))))))))))))) | false => (match Nat.beq i 6 with | true => .take 0 (.take 1 (.take 2 (.take 3 (.take 4 (.take 5 (.take 6 (.take 7 (.take 8 (.take 9 (.take 10 (.take 11 (.take 12 (.take 13 (.take 14 (.take 15 (.take 16 (.eff 17 (.done)))))))))))))))))) | false => .done))
noncomputable def law03_CrcLinear.c : Code := Try.f6.body.getD .skip
theorem law03_CrcLinear.hb : Try.f6.body = some law03_CrcLinear.c := by kernel_rfl
noncomputable def law03_CrcLinear.b0 : Code := (loopsOf law03_CrcLinear.c).getD 0 .skip
theorem law03_CrcLinear.b0_loops : loopsOf law03_CrcLinear.b0 = [] := by kernel_rfl
theorem law03_CrcLinear.c_loops : loopsOf law03_CrcLinear.c = [law03_CrcLinear.b0] := by kernel_rfl
def law03_CrcLinear.l4G (F22 : type_of% @help_CopyBytes.f) (F16 : type_of% @law03_awake.f) (F17 : type_of% @crc_Sum.f) (R : Option Addr → Nat → Nat → Option Addr → Nat → Nat → Option Addr → Nat → Nat → Int → Option Addr → Nat → Nat → Int → World → (Option Addr → Nat → Nat → Option Addr → Nat → Nat → Option Addr → Nat → Nat → Int → Option Addr → Nat → Nat → World → Prop) → Prop) : Option Addr → Nat → Nat → Option Addr → Nat → Nat → Option Addr → Nat → Nat → Int → Option Addr → Nat → Nat → Int → World → (Option Addr → Nat → Nat → Option Addr → Nat → Nat → Option Addr → Nat → Nat → Int → Option Addr → Nat → Nat → World → Prop) → Prop := fun y0 y0n y0c y1 y1n y1c y2 y2n y2c y7 y8 y8n y8c y9 w K0 =>
    bif (decide (y9 < y7)) then
      sm y8 fun p_13 =>
      if 0 ≤ (y9 : Int) ∧ (y9 : Int) < ((y8n : Nat) : Int) then
      ldI .u8 (p_13.add (Int.toNat y9)) w.drew fun x31_14 =>
      sm y1 fun p_15 =>
      if 0 ≤ (y9 : Int) ∧ (y9 : Int) < ((y1n : Nat) : Int) then
      ldI .u8 (p_15.add (Int.toNat y9)) w.drew fun x35_16 =>
      sm y2 fun p_17 =>
      if 0 ≤ (y9 : Int) ∧ (y9 : Int) < ((y2n : Nat) : Int) then
      ldI .u8 (p_17.add (Int.toNat y9)) w.drew fun x40_18 =>
      sm y8 fun p_19 =>
      if 0 ≤ (y9 : Int) ∧ (y9 : Int) < ((y8n : Nat) : Int) then
      stC (p_19.add (Int.toNat y9)) (Value.int .u8 (bxor .u8 (bxor .u8 x31_14 x35_16) x40_18)) w.drew fun w =>
      let v9_20 := (IntKind.wrap .i64 (y9 + 1))
      R y0 y0n y0c y1 y1n y1c y2 y2n y2c y7 y8 y8n y8c v9_20 w K0
      else False
      else False
      else False
      else False
    else
      K0 y0 y0n y0c y1 y1n y1c y2 y2n y2c y7 y8 y8n y8c w

def law03_CrcLinear.hn4 (N : Nat) (f : Fr) (w : World) (K : AExit → Fr → World → Prop) : Prop :=
  gN f 63 <| gL f 0 fun y0 y0n y0c => gL f 1 fun y1 y1n y1c => gL f 2 fun y2 y2n y2c => gI .i64 f 7 fun y7 => gL f 8 fun y8 y8n y8c => gI .i64 f 9 fun y9 => law03_CrcLinear.l4 N y0 y0n y0c y1 y1n y1c y2 y2n y2c y7 y8 y8n y8c y9 w (fun o0 o0n o0c o1 o1n o1c o2 o2n o2c o7 o8 o8n o8c w => K (.exit 0) [some (Value.slice o0 o0n o0c), some (Value.slice o1 o1n o1c), some (Value.slice o2 o2n o2c), none, none, none, none, some (Value.int .i64 o7), some (Value.slice o8 o8n o8c), none, none, none, none, none, none, none, none, none, none, none, none, none, none, none, none, none, none, none, none, none, none, none, none, none, none, none, none, none, none, none, none, none, none, none, none, none, none, none, none, none, none, none, none, none, none, none, none, none, none, none, none, none, none] w)
def law03_CrcLinear.hx4 : AExit → Fr → World → (AExit → Fr → World → Prop) → Prop := fun e f w K => match e with
  | .normal => False
  | .exit i => (match Nat.beq i 0 with | true => gN f 63 <| gL f 0 fun o0 o0n o0c => gL f 1 fun o1 o1n o1c => gL f 2 fun o2 o2n o2c => gI .i64 f 7 fun o7 => gL f 8 fun o8 o8n o8c => K (.exit 0) [some (Value.slice o0 o0n o0c), some (Value.slice o1 o1n o1c), some (Value.slice o2 o2n o2c), none, none, none, none, some (Value.int .i64 o7), some (Value.slice o8 o8n o8c), none, none, none, none, none, none, none, none, none, none, none, none, none, none, none, none, none, none, none, none, none, none, none, none, none, none, none, none, none, none, none, none, none, none, none, none, none, none, none, none, none, none, none, none, none, none, none, none, none, none, none, none, none, none] w | false => False)
  | .ret => False
def law03_CrcLinear.L : LHd := fun l f w K => (match Nat.beq l 4 with | true => ∃ N, law03_CrcLinear.hn4 N f w K | false => False)
theorem law03_CrcLinear.leG4 (F22 : type_of% @help_CopyBytes.f) (F16 : type_of% @law03_awake.f) (F17 : type_of% @crc_Sum.f) (N : Nat) (y0 : Option Addr) (y0n : Nat) (y0c : Nat) (y1 : Option Addr) (y1n : Nat) (y1c : Nat) (y2 : Option Addr) (y2n : Nat) (y2c : Nat) (y7 : Int) (y8 : Option Addr) (y8n : Nat) (y8c : Nat) (y9 : Int) (w : World) (K : AExit → Fr → World → Prop) : awp (law03_CrcLinear.CG F22 F16 F17) law03_CrcLinear.L law03_CrcLinear.D tab law03_CrcLinear.b0 (lpost law03_CrcLinear.hn4 law03_CrcLinear.hx4 N K) [some (Value.slice y0 y0n y0c), some (Value.slice y1 y1n y1c), some (Value.slice y2 y2n y2c), none, none, none, none, some (Value.int .i64 y7), some (Value.slice y8 y8n y8c), some (Value.int .i64 y9), none, none, none, none, none, none, none, none, none, none, none, none, none, none, none, none, none, none, none, none, none, none, none, none, none, none, none, none, none, none, none, none, none, none, none, none, none, none, none, none, none, none, none, none, none, none, none, none, none, none, none, none, none] w = law03_CrcLinear.l4G F22 F16 F17 (law03_CrcLinear.l4 N) y0 y0n y0c y1 y1n y1c y2 y2n y2c y7 y8 y8n y8c y9 w (fun o0 o0n o0c o1 o1n o1c o2 o2n o2c o7 o8 o8n o8c w => K (.exit 0) [some (Value.slice o0 o0n o0c), some (Value.slice o1 o1n o1c), some (Value.slice o2 o2n o2c), none, none, none, none, some (Value.int .i64 o7), some (Value.slice o8 o8n o8c), none, none, none, none, none, none, none, none, none, none, none, none, none, none, none, none, none, none, none, none, none, none, none, none, none, none, none, none, none, none, none, none, none, none, none, none, none, none, none, none, none, none, none, none, none, none, none, none, none, none, none, none, none, none] w) := by kernel_rfl
theorem law03_CrcLinear.les4 (N : Nat) : law03_CrcLinear.l4 (N + 1) = law03_CrcLinear.l4G @help_CopyBytes.f @law03_awake.f @crc_Sum.f (law03_CrcLinear.l4 N) := by kernel_rfl
theorem law03_CrcLinear.le4 (N : Nat) (y0 : Option Addr) (y0n : Nat) (y0c : Nat) (y1 : Option Addr) (y1n : Nat) (y1c : Nat) (y2 : Option Addr) (y2n : Nat) (y2c : Nat) (y7 : Int) (y8 : Option Addr) (y8n : Nat) (y8c : Nat) (y9 : Int) (w : World) (K : AExit → Fr → World → Prop) : awp law03_CrcLinear.C law03_CrcLinear.L law03_CrcLinear.D tab law03_CrcLinear.b0 (lpost law03_CrcLinear.hn4 law03_CrcLinear.hx4 N K) [some (Value.slice y0 y0n y0c), some (Value.slice y1 y1n y1c), some (Value.slice y2 y2n y2c), none, none, none, none, some (Value.int .i64 y7), some (Value.slice y8 y8n y8c), some (Value.int .i64 y9), none, none, none, none, none, none, none, none, none, none, none, none, none, none, none, none, none, none, none, none, none, none, none, none, none, none, none, none, none, none, none, none, none, none, none, none, none, none, none, none, none, none, none, none, none, none, none, none, none, none, none, none, none] w = law03_CrcLinear.l4 (N + 1) y0 y0n y0c y1 y1n y1c y2 y2n y2c y7 y8 y8n y8c y9 w (fun o0 o0n o0c o1 o1n o1c o2 o2n o2c o7 o8 o8n o8c w => K (.exit 0) [some (Value.slice o0 o0n o0c), some (Value.slice o1 o1n o1c), some (Value.slice o2 o2n o2c), none, none, none, none, some (Value.int .i64 o7), some (Value.slice o8 o8n o8c), none, none, none, none, none, none, none, none, none, none, none, none, none, none, none, none, none, none, none, none, none, none, none, none, none, none, none, none, none, none, none, none, none, none, none, none, none, none, none, none, none, none, none, none, none, none, none, none, none, none, none, none, none, none] w) := by
  rw [law03_CrcLinear.les4]
  exact law03_CrcLinear.leG4 @help_CopyBytes.f @law03_awake.f @crc_Sum.f N y0 y0n y0c y1 y1n y1c y2 y2n y2c y7 y8 y8n y8c y9 w K
theorem law03_CrcLinear.lok4 : LoopOk Try.prog law03_CrcLinear.L law03_CrcLinear.b0 := by
  refine loop_ok tab_ok law03_CrcLinear.C_ok (D := law03_CrcLinear.D) (law03_CrcLinear.hn4) (law03_CrcLinear.hx4) (by kernel_rfl) (by rw [law03_CrcLinear.b0_loops]; exact lnil) ?_ ?_ ?_ ?_
  · intro f w K h
    unfold law03_CrcLinear.hn4 at h
    obtain ⟨hlen, h⟩ := gN_ok h
    obtain ⟨y0, y0n, y0c, h0, h⟩ := gL_ok h
    obtain ⟨y1, y1n, y1c, h1, h⟩ := gL_ok h
    obtain ⟨y2, y2n, y2c, h2, h⟩ := gL_ok h
    obtain ⟨y7, h7, h⟩ := gI_ok h
    obtain ⟨y8, y8n, y8c, h8, h⟩ := gL_ok h
    obtain ⟨y9, h9, h⟩ := gI_ok h
    exact h
  · intro N f w K h
    unfold law03_CrcLinear.hn4 at h
    obtain ⟨hlen, h⟩ := gN_ok h
    obtain ⟨y0, y0n, y0c, h0, h⟩ := gL_ok h
    obtain ⟨y1, y1n, y1c, h1, h⟩ := gL_ok h
    obtain ⟨y2, y2n, y2c, h2, h⟩ := gL_ok h
    obtain ⟨y7, h7, h⟩ := gI_ok h
    obtain ⟨y8, y8n, y8c, h8, h⟩ := gL_ok h
    obtain ⟨y9, h9, h⟩ := gI_ok h
    refine ⟨[some (Value.slice y0 y0n y0c), some (Value.slice y1 y1n y1c), some (Value.slice y2 y2n y2c), none, none, none, none, some (Value.int .i64 y7), some (Value.slice y8 y8n y8c), some (Value.int .i64 y9), none, none, none, none, none, none, none, none, none, none, none, none, none, none, none, none, none, none, none, none, none, none, none, none, none, none, none, none, none, none, none, none, none, none, none, none, none, none, none, none, none, none, none, none, none, none, none, none, none, none, none, none, none], hlen, ⟨h0, h1, h2, h7, h8, h9, trivial⟩, ?_⟩
    rw [law03_CrcLinear.le4]
    exact h
  · intro e f w K h
    cases e with
    | normal => exact h.elim
    | exit i =>
      unfold law03_CrcLinear.hx4 at h
      simp only at h
      split at h
      · rename_i hb
        obtain rfl := Nat.eq_of_beq_eq_true hb
        obtain ⟨hlen, h⟩ := gN_ok h
        obtain ⟨o0, o0n, o0c, h0, h⟩ := gL_ok h
        obtain ⟨o1, o1n, o1c, h1, h⟩ := gL_ok h
        obtain ⟨o2, o2n, o2c, h2, h⟩ := gL_ok h
        obtain ⟨o7, h7, h⟩ := gI_ok h
        obtain ⟨o8, o8n, o8c, h8, h⟩ := gL_ok h
        exact ⟨[some (Value.slice o0 o0n o0c), some (Value.slice o1 o1n o1c), some (Value.slice o2 o2n o2c), none, none, none, none, some (Value.int .i64 o7), some (Value.slice o8 o8n o8c), none, none, none, none, none, none, none, none, none, none, none, none, none, none, none, none, none, none, none, none, none, none, none, none, none, none, none, none, none, none, none, none, none, none, none, none, none, none, none, none, none, none, none, none, none, none, none, none, none, none, none, none, none, none], hlen, ⟨h0, h1, h2, h7, h8, trivial⟩, h⟩
      · exact (show False from h).elim
    | ret =>
      exact (show False from h).elim
  · intro f w K h
    have e : lid law03_CrcLinear.b0 = 4 := by kernel_rfl
    rw [e] at h
    exact h
theorem law03_CrcLinear.eqG (F22 : type_of% @help_CopyBytes.f) (F16 : type_of% @law03_awake.f) (F17 : type_of% @crc_Sum.f) (a0 : Option Addr) (a0n : Nat) (a0c : Nat) (a1 : Option Addr) (a1n : Nat) (a1c : Nat) (a2 : Option Addr) (a2n : Nat) (a2c : Nat) (w : World) (K : Value → World → Prop) : afn (law03_CrcLinear.CG F22 F16 F17) law03_CrcLinear.L law03_CrcLinear.D tab Try.f6 [(Value.slice a0 a0n a0c), (Value.slice a1 a1n a1c), (Value.slice a2 a2n a2c)] w K = law03_CrcLinear.G F22 F16 F17 a0 a0n a0c a1 a1n a1c a2 a2n a2c w (fun r0 w => K (Value.bool r0) w) := by kernel_rfl
theorem law03_CrcLinear.eq (a0 : Option Addr) (a0n : Nat) (a0c : Nat) (a1 : Option Addr) (a1n : Nat) (a1c : Nat) (a2 : Option Addr) (a2n : Nat) (a2c : Nat) (w : World) (K : Value → World → Prop) : afn law03_CrcLinear.C law03_CrcLinear.L law03_CrcLinear.D tab Try.f6 [(Value.slice a0 a0n a0c), (Value.slice a1 a1n a1c), (Value.slice a2 a2n a2c)] w K = law03_CrcLinear.f a0 a0n a0c a1 a1n a1c a2 a2n a2c w (fun r0 w => K (Value.bool r0) w) := law03_CrcLinear.eqG @help_CopyBytes.f @law03_awake.f @crc_Sum.f a0 a0n a0c a1 a1n a1c a2 a2n a2c w K
theorem law03_CrcLinear.ok : FSound Try.prog 6 law03_CrcLinear.h := by
  intro args w K h
  unfold law03_CrcLinear.h law03_CrcLinear.H at h
  split at h
  ·
    replace h := vL_ok h
    obtain ⟨a0, a0n, a0c, rfl, h⟩ := h
    replace h := vL_ok h
    obtain ⟨a1, a1n, a1c, rfl, h⟩ := h
    replace h := vL_ok h
    obtain ⟨a2, a2n, a2c, rfl, h⟩ := h
    refine ⟨by kernel_rfl, fn_ok tab_ok law03_CrcLinear.C_ok (L := law03_CrcLinear.L) (D := law03_CrcLinear.D) Try.func6 law03_CrcLinear.hb (by kernel_rfl) (by rw [law03_CrcLinear.c_loops]; exact lcons law03_CrcLinear.lok4 (lnil)) (Nat.le_of_ble_eq_true (by kernel_rfl)) ?_⟩
    rw [law03_CrcLinear.eq]
    exact h
  · exact h.elim
end Go.Proofs.Ytodicpmedallgaa.G
