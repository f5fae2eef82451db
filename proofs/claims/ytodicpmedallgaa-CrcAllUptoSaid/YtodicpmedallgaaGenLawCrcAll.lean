/- Go functions as predicate transformers, written by a program of this session (gen.py), with their soundness. -/
import Derived.Test.YtodicpmedallgaaGen4
set_option linter.unusedVariables false
set_option linter.unusedSimpArgs false
set_option maxRecDepth 100000
namespace Go.Proofs.Ytodicpmedallgaa.G
open Go Go.Proofs.Ytodicpmedallgaa.Vm
/-! ### valise/valiselaw03.CrcAll: function 7 -/
def law03_CrcAll.l5 : Nat → Option Addr → Nat → Nat → Option Addr → Nat → Nat → Int → World → (Option Addr → Nat → Nat → Option Addr → Nat → Nat → World → Prop) → Prop
  | 0, _, _, _, _, _, _, _, _, _ => False
  | N + 1, y0, y0n, y0c, y3, y3n, y3c, y4, w, K0 =>
    bif (decide (y4 < ((y0n : Nat) : Int))) then
      sm y0 fun p_12 =>
      if 0 ≤ (y4 : Int) ∧ (y4 : Int) < ((y0n : Nat) : Int) then
      ldL (p_12.add (Int.toNat y4)) w fun x19_13 x19_13n x19_13c =>
      appL 5 1 1 [(Value.int .u8 0)] y3 y3n y3c x19_13 x19_13n x19_13c w fun a20_14 a20_14n a20_14c w =>
      let v4_15 := (IntKind.wrap .i64 (y4 + 1))
      law03_CrcAll.l5 N y0 y0n y0c a20_14 a20_14n a20_14c v4_15 w K0
      else False
    else
      K0 y0 y0n y0c y3 y3n y3c w

def law03_CrcAll.f (a0 : Option Addr) (a0n : Nat) (a0c : Nat) (w : World) (K : Bool → World → Prop) : Prop :=
  bif (decide (((a0n : Nat) : Int) > 60)) then
    law03_awake.f  w fun r8_5 w =>
    K r8_5 w
  else
    ∃ N_16 : Nat, law03_CrcAll.l5 N_16 a0 a0n a0c none 0 0 0 w
    (fun o0_17 o0_17n o0_17c o3_18 o3_18n o3_18c w =>
      law03_awake.f  w fun r21_20 w =>
      bif r21_20 then
        crc_All.f o0_17 o0_17n o0_17c w fun r24_21 w =>
        ref03_Sum.f o3_18 o3_18n o3_18c w fun r26_22 w =>
        bif (r24_21 == r26_22) then
          crc_All.f none 0 0 w fun r30_23 w =>
          bif (r30_23 == 0) then
            crc_Table.f  w fun r34_24 w =>
            ref03_Table.f  w fun r35_25 w =>
            eqI .u32 256 r34_24 r35_25 fun e_26 =>
            K e_26 w
          else
            K false w
        else
          K false w
      else
        K false w)
def law03_CrcAll.H (F : type_of% @law03_CrcAll.f) : Hf := fun args w K => match args with
  | [v0] => vL v0 fun a0 a0n a0c => F a0 a0n a0c w (fun r0 w => K (Value.bool r0) w)
  | _ => False
def law03_CrcAll.h : Hf := law03_CrcAll.H @law03_CrcAll.f
def law03_CrcAll.CG (F16 : type_of% @law03_awake.f) (F23 : type_of% @crc_All.f) (F18 : type_of% @ref03_Sum.f) (F24 : type_of% @crc_Table.f) (F25 : type_of% @ref03_Table.f) : Hd := hcons 25 (ref03_Table.H F25) (hcons 24 (crc_Table.H F24) (hcons 18 (ref03_Sum.H F18) (hcons 23 (crc_All.H F23) (hcons 16 (law03_awake.H F16) (hnil)))))
def law03_CrcAll.C : Hd := law03_CrcAll.CG @law03_awake.f @crc_All.f @ref03_Sum.f @crc_Table.f @ref03_Table.f
def law03_CrcAll.G (F16 : type_of% @law03_awake.f) (F23 : type_of% @crc_All.f) (F18 : type_of% @ref03_Sum.f) (F24 : type_of% @crc_Table.f) (F25 : type_of% @ref03_Table.f) (a0 : Option Addr) (a0n : Nat) (a0c : Nat) (w : World) (K : Bool → World → Prop) : Prop :=
  bif (decide (((a0n : Nat) : Int) > 60)) then
    F16  w fun r8_5 w =>
    K r8_5 w
  else
    ∃ N_16 : Nat, law03_CrcAll.l5 N_16 a0 a0n a0c none 0 0 0 w
    (fun o0_17 o0_17n o0_17c o3_18 o3_18n o3_18c w =>
      F16  w fun r21_20 w =>
      bif r21_20 then
        F23 o0_17 o0_17n o0_17c w fun r24_21 w =>
        F18 o3_18 o3_18n o3_18c w fun r26_22 w =>
        bif (r24_21 == r26_22) then
          F23 none 0 0 w fun r30_23 w =>
          bif (r30_23 == 0) then
            F24  w fun r34_24 w =>
            F25  w fun r35_25 w =>
            eqI .u32 256 r34_24 r35_25 fun e_26 =>
            K e_26 w
          else
            K false w
        else
          K false w
      else
        K false w)
theorem law03_CrcAll.C_ok : CSound Try.prog law03_CrcAll.C := hcons_ok ref03_Table.ok (hcons_ok crc_Table.ok (hcons_ok ref03_Sum.ok (hcons_ok crc_All.ok (hcons_ok law03_awake.ok (hnil_ok)))))
def law03_CrcAll.D : Nat → Plan := fun i => .done
noncomputable def law03_CrcAll.c : Code := Try.f7.body.getD .skip
theorem law03_CrcAll.hb : Try.f7.body = some law03_CrcAll.c := by kernel_rfl
noncomputable def law03_CrcAll.b0 : Code := (loopsOf law03_CrcAll.c).getD 0 .skip
theorem law03_CrcAll.b0_loops : loopsOf law03_CrcAll.b0 = [] := by kernel_rfl
theorem law03_CrcAll.c_loops : loopsOf law03_CrcAll.c = [law03_CrcAll.b0] := by kernel_rfl
def law03_CrcAll.l5G (F16 : type_of% @law03_awake.f) (F23 : type_of% @crc_All.f) (F18 : type_of% @ref03_Sum.f) (F24 : type_of% @crc_Table.f) (F25 : type_of% @ref03_Table.f) (R : Option Addr → Nat → Nat → Option Addr → Nat → Nat → Int → World → (Option Addr → Nat → Nat → Option Addr → Nat → Nat → World → Prop) → Prop) : Option Addr → Nat → Nat → Option Addr → Nat → Nat → Int → World → (Option Addr → Nat → Nat → Option Addr → Nat → Nat → World → Prop) → Prop := fun y0 y0n y0c y3 y3n y3c y4 w K0 =>
    bif (decide (y4 < ((y0n : Nat) : Int))) then
      sm y0 fun p_12 =>
      if 0 ≤ (y4 : Int) ∧ (y4 : Int) < ((y0n : Nat) : Int) then
      ldL (p_12.add (Int.toNat y4)) w fun x19_13 x19_13n x19_13c =>
      appL 5 1 1 [(Value.int .u8 0)] y3 y3n y3c x19_13 x19_13n x19_13c w fun a20_14 a20_14n a20_14c w =>
      let v4_15 := (IntKind.wrap .i64 (y4 + 1))
      R y0 y0n y0c a20_14 a20_14n a20_14c v4_15 w K0
      else False
    else
      K0 y0 y0n y0c y3 y3n y3c w

def law03_CrcAll.hn5 (N : Nat) (f : Fr) (w : World) (K : AExit → Fr → World → Prop) : Prop :=
  gN f 38 <| gL f 0 fun y0 y0n y0c => gL f 3 fun y3 y3n y3c => gI .i64 f 4 fun y4 => law03_CrcAll.l5 N y0 y0n y0c y3 y3n y3c y4 w (fun o0 o0n o0c o3 o3n o3c w => K (.exit 0) [some (Value.slice o0 o0n o0c), none, none, some (Value.slice o3 o3n o3c), none, none, none, none, none, none, none, none, none, none, none, none, none, none, none, none, none, none, none, none, none, none, none, none, none, none, none, none, none, none, none, none, none, none] w)
def law03_CrcAll.hx5 : AExit → Fr → World → (AExit → Fr → World → Prop) → Prop := fun e f w K => match e with
  | .normal => False
  | .exit i => (match Nat.beq i 0 with | true => gN f 38 <| gL f 0 fun o0 o0n o0c => gL f 3 fun o3 o3n o3c => K (.exit 0) [some (Value.slice o0 o0n o0c), none, none, some (Value.slice o3 o3n o3c), none, none, none, none, none, none, none, none, none, none, none, none, none, none, none, none, none, none, none, none, none, none, none, none, none, none, none, none, none, none, none, none, none, none] w | false => False)
  | .ret => False
def law03_CrcAll.L : LHd := fun l f w K => (match Nat.beq l 5 with | true => ∃ N, law03_CrcAll.hn5 N f w K | false => False)
theorem law03_CrcAll.leG5 (F16 : type_of% @law03_awake.f) (F23 : type_of% @crc_All.f) (F18 : type_of% @ref03_Sum.f) (F24 : type_of% @crc_Table.f) (F25 : type_of% @ref03_Table.f) (N : Nat) (y0 : Option Addr) (y0n : Nat) (y0c : Nat) (y3 : Option Addr) (y3n : Nat) (y3c : Nat) (y4 : Int) (w : World) (K : AExit → Fr → World → Prop) : awp (law03_CrcAll.CG F16 F23 F18 F24 F25) law03_CrcAll.L law03_CrcAll.D tab law03_CrcAll.b0 (lpost law03_CrcAll.hn5 law03_CrcAll.hx5 N K) [some (Value.slice y0 y0n y0c), none, none, some (Value.slice y3 y3n y3c), some (Value.int .i64 y4), none, none, none, none, none, none, none, none, none, none, none, none, none, none, none, none, none, none, none, none, none, none, none, none, none, none, none, none, none, none, none, none, none] w = law03_CrcAll.l5G F16 F23 F18 F24 F25 (law03_CrcAll.l5 N) y0 y0n y0c y3 y3n y3c y4 w (fun o0 o0n o0c o3 o3n o3c w => K (.exit 0) [some (Value.slice o0 o0n o0c), none, none, some (Value.slice o3 o3n o3c), none, none, none, none, none, none, none, none, none, none, none, none, none, none, none, none, none, none, none, none, none, none, none, none, none, none, none, none, none, none, none, none, none, none] w) := by kernel_rfl
theorem law03_CrcAll.les5 (N : Nat) : law03_CrcAll.l5 (N + 1) = law03_CrcAll.l5G @law03_awake.f @crc_All.f @ref03_Sum.f @crc_Table.f @ref03_Table.f (law03_CrcAll.l5 N) := by kernel_rfl
theorem law03_CrcAll.le5 (N : Nat) (y0 : Option Addr) (y0n : Nat) (y0c : Nat) (y3 : Option Addr) (y3n : Nat) (y3c : Nat) (y4 : Int) (w : World) (K : AExit → Fr → World → Prop) : awp law03_CrcAll.C law03_CrcAll.L law03_CrcAll.D tab law03_CrcAll.b0 (lpost law03_CrcAll.hn5 law03_CrcAll.hx5 N K) [some (Value.slice y0 y0n y0c), none, none, some (Value.slice y3 y3n y3c), some (Value.int .i64 y4), none, none, none, none, none, none, none, none, none, none, none, none, none, none, none, none, none, none, none, none, none, none, none, none, none, none, none, none, none, none, none, none, none] w = law03_CrcAll.l5 (N + 1) y0 y0n y0c y3 y3n y3c y4 w (fun o0 o0n o0c o3 o3n o3c w => K (.exit 0) [some (Value.slice o0 o0n o0c), none, none, some (Value.slice o3 o3n o3c), none, none, none, none, none, none, none, none, none, none, none, none, none, none, none, none, none, none, none, none, none, none, none, none, none, none, none, none, none, none, none, none, none, none] w) := by
  rw [law03_CrcAll.les5]
  exact law03_CrcAll.leG5 @law03_awake.f @crc_All.f @ref03_Sum.f @crc_Table.f @ref03_Table.f N y0 y0n y0c y3 y3n y3c y4 w K
theorem law03_CrcAll.lok5 : LoopOk Try.prog law03_CrcAll.L law03_CrcAll.b0 := by
  refine loop_ok tab_ok law03_CrcAll.C_ok (D := law03_CrcAll.D) (law03_CrcAll.hn5) (law03_CrcAll.hx5) (by kernel_rfl) (by rw [law03_CrcAll.b0_loops]; exact lnil) ?_ ?_ ?_ ?_
  · intro f w K h
    unfold law03_CrcAll.hn5 at h
    obtain ⟨hlen, h⟩ := gN_ok h
    obtain ⟨y0, y0n, y0c, h0, h⟩ := gL_ok h
    obtain ⟨y3, y3n, y3c, h3, h⟩ := gL_ok h
    obtain ⟨y4, h4, h⟩ := gI_ok h
    exact h
  · intro N f w K h
    unfold law03_CrcAll.hn5 at h
    obtain ⟨hlen, h⟩ := gN_ok h
    obtain ⟨y0, y0n, y0c, h0, h⟩ := gL_ok h
    obtain ⟨y3, y3n, y3c, h3, h⟩ := gL_ok h
    obtain ⟨y4, h4, h⟩ := gI_ok h
    refine ⟨[some (Value.slice y0 y0n y0c), none, none, some (Value.slice y3 y3n y3c), some (Value.int .i64 y4), none, none, none, none, none, none, none, none, none, none, none, none, none, none, none, none, none, none, none, none, none, none, none, none, none, none, none, none, none, none, none, none, none], hlen, ⟨h0, h3, h4, trivial⟩, ?_⟩
    rw [law03_CrcAll.le5]
    exact h
  · intro e f w K h
    cases e with
    | normal => exact h.elim
    | exit i =>
      unfold law03_CrcAll.hx5 at h
      simp only at h
      split at h
      · rename_i hb
        obtain rfl := Nat.eq_of_beq_eq_true hb
        obtain ⟨hlen, h⟩ := gN_ok h
        obtain ⟨o0, o0n, o0c, h0, h⟩ := gL_ok h
        obtain ⟨o3, o3n, o3c, h3, h⟩ := gL_ok h
        exact ⟨[some (Value.slice o0 o0n o0c), none, none, some (Value.slice o3 o3n o3c), none, none, none, none, none, none, none, none, none, none, none, none, none, none, none, none, none, none, none, none, none, none, none, none, none, none, none, none, none, none, none, none, none, none], hlen, ⟨h0, h3, trivial⟩, h⟩
      · exact (show False from h).elim
    | ret =>
      exact (show False from h).elim
  · intro f w K h
    have e : lid law03_CrcAll.b0 = 5 := by kernel_rfl
    rw [e] at h
    exact h
theorem law03_CrcAll.eqG (F16 : type_of% @law03_awake.f) (F23 : type_of% @crc_All.f) (F18 : type_of% @ref03_Sum.f) (F24 : type_of% @crc_Table.f) (F25 : type_of% @ref03_Table.f) (a0 : Option Addr) (a0n : Nat) (a0c : Nat) (w : World) (K : Value → World → Prop) : afn (law03_CrcAll.CG F16 F23 F18 F24 F25) law03_CrcAll.L law03_CrcAll.D tab Try.f7 [(Value.slice a0 a0n a0c)] w K = law03_CrcAll.G F16 F23 F18 F24 F25 a0 a0n a0c w (fun r0 w => K (Value.bool r0) w) := by kernel_rfl
theorem law03_CrcAll.eq (a0 : Option Addr) (a0n : Nat) (a0c : Nat) (w : World) (K : Value → World → Prop) : afn law03_CrcAll.C law03_CrcAll.L law03_CrcAll.D tab Try.f7 [(Value.slice a0 a0n a0c)] w K = law03_CrcAll.f a0 a0n a0c w (fun r0 w => K (Value.bool r0) w) := law03_CrcAll.eqG @law03_awake.f @crc_All.f @ref03_Sum.f @crc_Table.f @ref03_Table.f a0 a0n a0c w K
theorem law03_CrcAll.ok : FSound Try.prog 7 law03_CrcAll.h := by
  intro args w K h
  unfold law03_CrcAll.h law03_CrcAll.H at h
  split at h
  ·
    replace h := vL_ok h
    obtain ⟨a0, a0n, a0c, rfl, h⟩ := h
    refine ⟨by kernel_rfl, fn_ok tab_ok law03_CrcAll.C_ok (L := law03_CrcAll.L) (D := law03_CrcAll.D) Try.func7 law03_CrcAll.hb (by kernel_rfl) (by rw [law03_CrcAll.c_loops]; exact lcons law03_CrcAll.lok5 (lnil)) (Nat.le_of_ble_eq_true (by kernel_rfl)) ?_⟩
    rw [law03_CrcAll.eq]
    exact h
  · exact h.elim
end Go.Proofs.Ytodicpmedallgaa.G
