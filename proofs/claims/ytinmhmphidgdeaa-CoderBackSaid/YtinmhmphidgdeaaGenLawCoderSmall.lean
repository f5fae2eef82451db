/- Go functions as predicate transformers, written by a program of this session (gen.py), with their soundness. -/
import Derived.Test.YtinmhmphidgdeaaGen3
set_option linter.unusedVariables false
set_option linter.unusedSimpArgs false
set_option maxRecDepth 100000
namespace Go.Proofs.Ytinmhmphidgdeaa.G
open Go Go.Proofs.Ytinmhmphidgdeaa.Vm
/-! ### valise/valiselaw04.CoderSmall: function 9 -/
def law04_CoderSmall.l6 : Nat → Int → Option Addr → Int → World → (Int → Option Addr → World → Prop) → Prop
  | 0, _, _, _, _, _ => False
  | N + 1, y0, y3, y4, w, K0 =>
    bif (decide (y4 < y0)) then
      coder_Encoder_Encode.f y3 1 4095 w fun w =>
      let v4_16 := (IntKind.wrap .i64 (y4 + 1))
      law04_CoderSmall.l6 N y0 y3 v4_16 w K0
    else
      K0 y0 y3 w

def law04_CoderSmall.f (a0 : Int) (w : World) (K : Bool → World → Prop) : Prop :=
  let v0_3 := (IntKind.wrap .i64 (Int.tmod (IntKind.wrap .u64 a0) 20000))
  coder_NewEncoder.f  w fun r9_5 w =>
  law04_awake.f  w fun r10_8 w =>
  bif (!r10_8) then
    K false w
  else
    bif r9_5.isNone then
      K false w
    else
      ∃ N_17 : Nat, law04_CoderSmall.l6 N_17 v0_3 r9_5 0 w
      (fun o0_18 o3_19 w =>
        coder_Encoder_Flush.f o3_19 w fun r24_21 r24_21n r24_21c w =>
        let v2_22 := (decide (((r24_21n : Nat) : Int) ≤ (IntKind.wrap .i64 ((IntKind.wrap .i64 (Int.tdiv o0_18 2048)) + 6))))
        K v2_22 w)
def law04_CoderSmall.H (F : type_of% @law04_CoderSmall.f) : Hf := fun args w K => match args with
  | [v0] => vI .i64 v0 fun a0 => F a0 w (fun r0 w => K (Value.bool r0) w)
  | _ => False
def law04_CoderSmall.h : Hf := law04_CoderSmall.H @law04_CoderSmall.f
def law04_CoderSmall.CG (F23 : type_of% @coder_NewEncoder.f) (F25 : type_of% @law04_awake.f) (F26 : type_of% @coder_Encoder_Encode.f) (F28 : type_of% @coder_Encoder_Flush.f) : Hd := hcons 28 (coder_Encoder_Flush.H F28) (hcons 26 (coder_Encoder_Encode.H F26) (hcons 25 (law04_awake.H F25) (hcons 23 (coder_NewEncoder.H F23) (hnil))))
def law04_CoderSmall.C : Hd := law04_CoderSmall.CG @coder_NewEncoder.f @law04_awake.f @coder_Encoder_Encode.f @coder_Encoder_Flush.f
def law04_CoderSmall.G (F23 : type_of% @coder_NewEncoder.f) (F25 : type_of% @law04_awake.f) (F26 : type_of% @coder_Encoder_Encode.f) (F28 : type_of% @coder_Encoder_Flush.f) (a0 : Int) (w : World) (K : Bool → World → Prop) : Prop :=
  let v0_3 := (IntKind.wrap .i64 (Int.tmod (IntKind.wrap .u64 a0) 20000))
  F23  w fun r9_5 w =>
  F25  w fun r10_8 w =>
  bif (!r10_8) then
    K false w
  else
    bif r9_5.isNone then
      K false w
    else
      ∃ N_17 : Nat, law04_CoderSmall.l6 N_17 v0_3 r9_5 0 w
      (fun o0_18 o3_19 w =>
        F28 o3_19 w fun r24_21 r24_21n r24_21c w =>
        let v2_22 := (decide (((r24_21n : Nat) : Int) ≤ (IntKind.wrap .i64 ((IntKind.wrap .i64 (Int.tdiv o0_18 2048)) + 6))))
        K v2_22 w)
theorem law04_CoderSmall.C_ok : CSound Try.prog law04_CoderSmall.C := hcons_ok coder_Encoder_Flush.ok (hcons_ok coder_Encoder_Encode.ok (hcons_ok law04_awake.ok (hcons_ok coder_NewEncoder.ok (hnil_ok))))
def law04_CoderSmall.D : Nat → Plan := fun i => .done
noncomputable def law04_CoderSmall.c : Code := Try.f9.body.getD .skip
theorem law04_CoderSmall.hb : Try.f9.body = some law04_CoderSmall.c := by kernel_rfl
noncomputable def law04_CoderSmall.b0 : Code := (loopsOf law04_CoderSmall.c).getD 0 .skip
theorem law04_CoderSmall.b0_loops : loopsOf law04_CoderSmall.b0 = [] := by kernel_rfl
theorem law04_CoderSmall.c_loops : loopsOf law04_CoderSmall.c = [law04_CoderSmall.b0] := by kernel_rfl
def law04_CoderSmall.l6G (F23 : type_of% @coder_NewEncoder.f) (F25 : type_of% @law04_awake.f) (F26 : type_of% @coder_Encoder_Encode.f) (F28 : type_of% @coder_Encoder_Flush.f) (R : Int → Option Addr → Int → World → (Int → Option Addr → World → Prop) → Prop) : Int → Option Addr → Int → World → (Int → Option Addr → World → Prop) → Prop := fun y0 y3 y4 w K0 =>
    bif (decide (y4 < y0)) then
      F26 y3 1 4095 w fun w =>
      let v4_16 := (IntKind.wrap .i64 (y4 + 1))
      R y0 y3 v4_16 w K0
    else
      K0 y0 y3 w

def law04_CoderSmall.hn6 (N : Nat) (f : Fr) (w : World) (K : AExit → Fr → World → Prop) : Prop :=
  gN f 30 <| gI .i64 f 0 fun y0 => gP f 3 fun y3 => gI .i64 f 4 fun y4 => law04_CoderSmall.l6 N y0 y3 y4 w (fun o0 o3 w => K (.exit 0) [some (Value.int .i64 o0), none, none, some (Value.pointer o3), none, none, none, none, none, none, none, none, none, none, none, none, none, none, none, none, none, none, none, none, none, none, none, none, none, none] w)
def law04_CoderSmall.hx6 : AExit → Fr → World → (AExit → Fr → World → Prop) → Prop := fun e f w K => match e with
  | .normal => False
  | .exit i => (match Nat.beq i 0 with | true => gN f 30 <| gI .i64 f 0 fun o0 => gP f 3 fun o3 => K (.exit 0) [some (Value.int .i64 o0), none, none, some (Value.pointer o3), none, none, none, none, none, none, none, none, none, none, none, none, none, none, none, none, none, none, none, none, none, none, none, none, none, none] w | false => False)
  | .ret => False
def law04_CoderSmall.L : LHd := fun l f w K => (match Nat.beq l 6 with | true => ∃ N, law04_CoderSmall.hn6 N f w K | false => False)
theorem law04_CoderSmall.leG6 (F23 : type_of% @coder_NewEncoder.f) (F25 : type_of% @law04_awake.f) (F26 : type_of% @coder_Encoder_Encode.f) (F28 : type_of% @coder_Encoder_Flush.f) (N : Nat) (y0 : Int) (y3 : Option Addr) (y4 : Int) (w : World) (K : AExit → Fr → World → Prop) : awp (law04_CoderSmall.CG F23 F25 F26 F28) law04_CoderSmall.L law04_CoderSmall.D tab law04_CoderSmall.b0 (lpost law04_CoderSmall.hn6 law04_CoderSmall.hx6 N K) [some (Value.int .i64 y0), none, none, some (Value.pointer y3), some (Value.int .i64 y4), none, none, none, none, none, none, none, none, none, none, none, none, none, none, none, none, none, none, none, none, none, none, none, none, none] w = law04_CoderSmall.l6G F23 F25 F26 F28 (law04_CoderSmall.l6 N) y0 y3 y4 w (fun o0 o3 w => K (.exit 0) [some (Value.int .i64 o0), none, none, some (Value.pointer o3), none, none, none, none, none, none, none, none, none, none, none, none, none, none, none, none, none, none, none, none, none, none, none, none, none, none] w) := by kernel_rfl
theorem law04_CoderSmall.les6 (N : Nat) : law04_CoderSmall.l6 (N + 1) = law04_CoderSmall.l6G @coder_NewEncoder.f @law04_awake.f @coder_Encoder_Encode.f @coder_Encoder_Flush.f (law04_CoderSmall.l6 N) := by kernel_rfl
theorem law04_CoderSmall.le6 (N : Nat) (y0 : Int) (y3 : Option Addr) (y4 : Int) (w : World) (K : AExit → Fr → World → Prop) : awp law04_CoderSmall.C law04_CoderSmall.L law04_CoderSmall.D tab law04_CoderSmall.b0 (lpost law04_CoderSmall.hn6 law04_CoderSmall.hx6 N K) [some (Value.int .i64 y0), none, none, some (Value.pointer y3), some (Value.int .i64 y4), none, none, none, none, none, none, none, none, none, none, none, none, none, none, none, none, none, none, none, none, none, none, none, none, none] w = law04_CoderSmall.l6 (N + 1) y0 y3 y4 w (fun o0 o3 w => K (.exit 0) [some (Value.int .i64 o0), none, none, some (Value.pointer o3), none, none, none, none, none, none, none, none, none, none, none, none, none, none, none, none, none, none, none, none, none, none, none, none, none, none] w) := by
  rw [law04_CoderSmall.les6]
  exact law04_CoderSmall.leG6 @coder_NewEncoder.f @law04_awake.f @coder_Encoder_Encode.f @coder_Encoder_Flush.f N y0 y3 y4 w K
theorem law04_CoderSmall.lok6 : LoopOk Try.prog law04_CoderSmall.L law04_CoderSmall.b0 := by
  refine loop_ok tab_ok law04_CoderSmall.C_ok (D := law04_CoderSmall.D) (law04_CoderSmall.hn6) (law04_CoderSmall.hx6) (by kernel_rfl) (by rw [law04_CoderSmall.b0_loops]; exact lnil) ?_ ?_ ?_ ?_
  · intro f w K h
    unfold law04_CoderSmall.hn6 at h
    obtain ⟨hlen, h⟩ := gN_ok h
    obtain ⟨y0, h0, h⟩ := gI_ok h
    obtain ⟨y3, h3, h⟩ := gP_ok h
    obtain ⟨y4, h4, h⟩ := gI_ok h
    exact h
  · intro N f w K h
    unfold law04_CoderSmall.hn6 at h
    obtain ⟨hlen, h⟩ := gN_ok h
    obtain ⟨y0, h0, h⟩ := gI_ok h
    obtain ⟨y3, h3, h⟩ := gP_ok h
    obtain ⟨y4, h4, h⟩ := gI_ok h
    refine ⟨[some (Value.int .i64 y0), none, none, some (Value.pointer y3), some (Value.int .i64 y4), none, none, none, none, none, none, none, none, none, none, none, none, none, none, none, none, none, none, none, none, none, none, none, none, none], hlen, ⟨h0, h3, h4, trivial⟩, ?_⟩
    rw [law04_CoderSmall.le6]
    exact h
  · intro e f w K h
    cases e with
    | normal => exact h.elim
    | exit i =>
      unfold law04_CoderSmall.hx6 at h
      simp only at h
      split at h
      · rename_i hb
        obtain rfl := Nat.eq_of_beq_eq_true hb
        obtain ⟨hlen, h⟩ := gN_ok h
        obtain ⟨o0, h0, h⟩ := gI_ok h
        obtain ⟨o3, h3, h⟩ := gP_ok h
        exact ⟨[some (Value.int .i64 o0), none, none, some (Value.pointer o3), none, none, none, none, none, none, none, none, none, none, none, none, none, none, none, none, none, none, none, none, none, none, none, none, none, none], hlen, ⟨h0, h3, trivial⟩, h⟩
      · exact (show False from h).elim
    | ret =>
      exact (show False from h).elim
  · intro f w K h
    have e : lid law04_CoderSmall.b0 = 6 := by kernel_rfl
    rw [e] at h
    exact h
theorem law04_CoderSmall.eqG (F23 : type_of% @coder_NewEncoder.f) (F25 : type_of% @law04_awake.f) (F26 : type_of% @coder_Encoder_Encode.f) (F28 : type_of% @coder_Encoder_Flush.f) (a0 : Int) (w : World) (K : Value → World → Prop) : afn (law04_CoderSmall.CG F23 F25 F26 F28) law04_CoderSmall.L law04_CoderSmall.D tab Try.f9 [(Value.int .i64 a0)] w K = law04_CoderSmall.G F23 F25 F26 F28 a0 w (fun r0 w => K (Value.bool r0) w) := by kernel_rfl
theorem law04_CoderSmall.eq (a0 : Int) (w : World) (K : Value → World → Prop) : afn law04_CoderSmall.C law04_CoderSmall.L law04_CoderSmall.D tab Try.f9 [(Value.int .i64 a0)] w K = law04_CoderSmall.f a0 w (fun r0 w => K (Value.bool r0) w) := law04_CoderSmall.eqG @coder_NewEncoder.f @law04_awake.f @coder_Encoder_Encode.f @coder_Encoder_Flush.f a0 w K
theorem law04_CoderSmall.ok : FSound Try.prog 9 law04_CoderSmall.h := by
  intro args w K h
  unfold law04_CoderSmall.h law04_CoderSmall.H at h
  split at h
  ·
    replace h := vI_ok h
    obtain ⟨a0, rfl, h⟩ := h
    refine ⟨by kernel_rfl, fn_ok tab_ok law04_CoderSmall.C_ok (L := law04_CoderSmall.L) (D := law04_CoderSmall.D) Try.func9 law04_CoderSmall.hb (by kernel_rfl) (by rw [law04_CoderSmall.c_loops]; exact lcons law04_CoderSmall.lok6 (lnil)) (Nat.le_of_ble_eq_true (by kernel_rfl)) ?_⟩
    rw [law04_CoderSmall.eq]
    exact h
  · exact h.elim
end Go.Proofs.Ytinmhmphidgdeaa.G
