/- Go functions as predicate transformers, written by a program of this session (gen.py), with their soundness. -/
import Derived.Test.YtdbnobeopgfhgaaGen4
set_option linter.unusedVariables false
set_option linter.unusedSimpArgs false
set_option maxRecDepth 100000
namespace Go.Proofs.Ytdbnobeopgfhgaa.G
open Go Go.Proofs.Ytdbnobeopgfhgaa.Vm
/-! ### valise/valiselaw09.StreamSmall: function 11 -/
def law09_StreamSmall.l4 : Nat → Int → Int → Int → Option Addr → Nat → Nat → Int → Int → World → (Int → Int → Option Addr → Nat → Nat → World → Prop) → Prop
  | 0, _, _, _, _, _, _, _, _, _, _ => False
  | N + 1, y0, y1, y2, y7, y7n, y7c, y19, y20, w, K0 =>
    bif (decide (y20 < y19)) then
      sm y7 fun p_12 =>
      if 0 ≤ (y20 : Int) ∧ (y20 : Int) < ((y7n : Nat) : Int) then
      stC (p_12.add (Int.toNat y20)) (Value.int .u8 y0) w fun w =>
      law09_StreamSmall.l4 N y0 y1 y2 y7 y7n y7c y19 (IntKind.wrap .i64 (y20 + 1)) w K0
      else False
    else
      K0 y1 y2 y7 y7n y7c w

def law09_StreamSmall.f (a0 : Int) (a1 : Int) (a2 : Int) (w : World) (K : Bool → World → Prop) : Prop :=
  let v1_3 := (IntKind.wrap .i64 (1500 + (IntKind.wrap .i64 (Int.tmod (IntKind.wrap .u64 a1) 500))))
  mkL 5 1 1 [(Value.int .u8 0)] v1_3 v1_3 w fun a17_5 a17_5n a17_5c w =>
  ∃ N_13 : Nat, law09_StreamSmall.l4 N_13 a0 v1_3 a2 a17_5 a17_5n a17_5c ((a17_5n : Nat) : Int) 0 w
  (fun o1_14 o2_15 o7_16 o7_16n o7_16c w =>
    stream_Pack.f o7_16 o7_16n o7_16c (IntKind.wrap .i64 (Int.tmod (IntKind.wrap .u64 o2_15) 3)) w fun r34_18 r34_18n r34_18c r34_19 w =>
    law09_awake.f  w fun r37_21 w =>
    bif r37_21 then
      bif (r34_19 == 0) then
        let v6_22 := (decide ((IntKind.wrap .i64 (10 * ((r34_18n : Nat) : Int))) ≤ o1_14))
        K v6_22 w
      else
        K false w
    else
      K false w)
def law09_StreamSmall.H (F : type_of% @law09_StreamSmall.f) : Hf := fun args w K => match args with
  | [v0, v1, v2] => vI .u8 v0 fun a0 => vI .i64 v1 fun a1 => vI .i64 v2 fun a2 => F a0 a1 a2 w (fun r0 w => K (Value.bool r0) w)
  | _ => False
def law09_StreamSmall.h : Hf := law09_StreamSmall.H @law09_StreamSmall.f
def law09_StreamSmall.C : Hd := hcons 31 law09_awake.h (hcons 33 stream_Pack.h (hnil))
theorem law09_StreamSmall.C_ok : CSound Try.prog law09_StreamSmall.C := hcons_ok law09_awake.ok (hcons_ok stream_Pack.ok (hnil_ok))
def law09_StreamSmall.D : Nat → Plan := fun i => .done
noncomputable def law09_StreamSmall.c : Code := Try.f11.body.getD .skip
theorem law09_StreamSmall.hb : Try.f11.body = some law09_StreamSmall.c := by kernel_rfl
noncomputable def law09_StreamSmall.b0 : Code := (loopsOf law09_StreamSmall.c).getD 0 .skip
theorem law09_StreamSmall.b0_loops : loopsOf law09_StreamSmall.b0 = [] := by kernel_rfl
theorem law09_StreamSmall.c_loops : loopsOf law09_StreamSmall.c = [law09_StreamSmall.b0] := by kernel_rfl
def law09_StreamSmall.hn4 (N : Nat) (f : Fr) (w : World) (K : AExit → Fr → World → Prop) : Prop :=
  gN f 49 <| gI .u8 f 0 fun y0 => gI .i64 f 1 fun y1 => gI .i64 f 2 fun y2 => gL f 7 fun y7 y7n y7c => gI .i64 f 19 fun y19 => gI .i64 f 20 fun y20 => law09_StreamSmall.l4 N y0 y1 y2 y7 y7n y7c y19 y20 w (fun o1 o2 o7 o7n o7c w => K (.exit 0) [none, some (Value.int .i64 o1), some (Value.int .i64 o2), none, none, none, none, some (Value.slice o7 o7n o7c), none, none, none, none, none, none, none, none, none, none, none, none, none, none, none, none, none, none, none, none, none, none, none, none, none, none, none, none, none, none, none, none, none, none, none, none, none, none, none, none, none] w)
def law09_StreamSmall.hx4 : AExit → Fr → World → (AExit → Fr → World → Prop) → Prop := fun e f w K => match e with
  | .normal => False
  | .exit i => (match Nat.beq i 0 with | true => gN f 49 <| gI .i64 f 1 fun o1 => gI .i64 f 2 fun o2 => gL f 7 fun o7 o7n o7c => K (.exit 0) [none, some (Value.int .i64 o1), some (Value.int .i64 o2), none, none, none, none, some (Value.slice o7 o7n o7c), none, none, none, none, none, none, none, none, none, none, none, none, none, none, none, none, none, none, none, none, none, none, none, none, none, none, none, none, none, none, none, none, none, none, none, none, none, none, none, none, none] w | false => False)
  | .ret => False
def law09_StreamSmall.L : LHd := fun l f w K => (match Nat.beq l 4 with | true => ∃ N, law09_StreamSmall.hn4 N f w K | false => False)
theorem law09_StreamSmall.le4 (N : Nat) (y0 : Int) (y1 : Int) (y2 : Int) (y7 : Option Addr) (y7n : Nat) (y7c : Nat) (y19 : Int) (y20 : Int) (w : World) (K : AExit → Fr → World → Prop) : awp law09_StreamSmall.C law09_StreamSmall.L law09_StreamSmall.D tab law09_StreamSmall.b0 (lpost law09_StreamSmall.hn4 law09_StreamSmall.hx4 N K) [some (Value.int .u8 y0), some (Value.int .i64 y1), some (Value.int .i64 y2), none, none, none, none, some (Value.slice y7 y7n y7c), none, none, none, none, none, none, none, none, none, none, none, some (Value.int .i64 y19), some (Value.int .i64 y20), none, none, none, none, none, none, none, none, none, none, none, none, none, none, none, none, none, none, none, none, none, none, none, none, none, none, none, none] w = law09_StreamSmall.l4 (N + 1) y0 y1 y2 y7 y7n y7c y19 y20 w (fun o1 o2 o7 o7n o7c w => K (.exit 0) [none, some (Value.int .i64 o1), some (Value.int .i64 o2), none, none, none, none, some (Value.slice o7 o7n o7c), none, none, none, none, none, none, none, none, none, none, none, none, none, none, none, none, none, none, none, none, none, none, none, none, none, none, none, none, none, none, none, none, none, none, none, none, none, none, none, none, none] w) := by kernel_rfl
theorem law09_StreamSmall.lok4 : LoopOk Try.prog law09_StreamSmall.L law09_StreamSmall.b0 := by
  refine loop_ok tab_ok law09_StreamSmall.C_ok (D := law09_StreamSmall.D) (law09_StreamSmall.hn4) (law09_StreamSmall.hx4) (by kernel_rfl) (by rw [law09_StreamSmall.b0_loops]; exact lnil) ?_ ?_ ?_ ?_
  · intro f w K h
    unfold law09_StreamSmall.hn4 at h
    obtain ⟨hlen, h⟩ := gN_ok h
    obtain ⟨y0, h0, h⟩ := gI_ok h
    obtain ⟨y1, h1, h⟩ := gI_ok h
    obtain ⟨y2, h2, h⟩ := gI_ok h
    obtain ⟨y7, y7n, y7c, h7, h⟩ := gL_ok h
    obtain ⟨y19, h19, h⟩ := gI_ok h
    obtain ⟨y20, h20, h⟩ := gI_ok h
    exact h
  · intro N f w K h
    unfold law09_StreamSmall.hn4 at h
    obtain ⟨hlen, h⟩ := gN_ok h
    obtain ⟨y0, h0, h⟩ := gI_ok h
    obtain ⟨y1, h1, h⟩ := gI_ok h
    obtain ⟨y2, h2, h⟩ := gI_ok h
    obtain ⟨y7, y7n, y7c, h7, h⟩ := gL_ok h
    obtain ⟨y19, h19, h⟩ := gI_ok h
    obtain ⟨y20, h20, h⟩ := gI_ok h
    refine ⟨[some (Value.int .u8 y0), some (Value.int .i64 y1), some (Value.int .i64 y2), none, none, none, none, some (Value.slice y7 y7n y7c), none, none, none, none, none, none, none, none, none, none, none, some (Value.int .i64 y19), some (Value.int .i64 y20), none, none, none, none, none, none, none, none, none, none, none, none, none, none, none, none, none, none, none, none, none, none, none, none, none, none, none, none], hlen, ⟨h0, h1, h2, h7, h19, h20, trivial⟩, ?_⟩
    rw [law09_StreamSmall.le4]
    exact h
  · intro e f w K h
    cases e with
    | normal => exact h.elim
    | exit i =>
      unfold law09_StreamSmall.hx4 at h
      simp only at h
      split at h
      · rename_i hb
        obtain rfl := Nat.eq_of_beq_eq_true hb
        obtain ⟨hlen, h⟩ := gN_ok h
        obtain ⟨o1, h1, h⟩ := gI_ok h
        obtain ⟨o2, h2, h⟩ := gI_ok h
        obtain ⟨o7, o7n, o7c, h7, h⟩ := gL_ok h
        exact ⟨[none, some (Value.int .i64 o1), some (Value.int .i64 o2), none, none, none, none, some (Value.slice o7 o7n o7c), none, none, none, none, none, none, none, none, none, none, none, none, none, none, none, none, none, none, none, none, none, none, none, none, none, none, none, none, none, none, none, none, none, none, none, none, none, none, none, none, none], hlen, ⟨h1, h2, h7, trivial⟩, h⟩
      · exact (show False from h).elim
    | ret =>
      exact (show False from h).elim
  · intro f w K h
    have e : lid law09_StreamSmall.b0 = 4 := by kernel_rfl
    rw [e] at h
    exact h
theorem law09_StreamSmall.eq (a0 : Int) (a1 : Int) (a2 : Int) (w : World) (K : Value → World → Prop) : afn law09_StreamSmall.C law09_StreamSmall.L law09_StreamSmall.D tab Try.f11 [(Value.int .u8 a0), (Value.int .i64 a1), (Value.int .i64 a2)] w K = law09_StreamSmall.f a0 a1 a2 w (fun r0 w => K (Value.bool r0) w) := by kernel_rfl
theorem law09_StreamSmall.ok : FSound Try.prog 11 law09_StreamSmall.h := by
  intro args w K h
  unfold law09_StreamSmall.h law09_StreamSmall.H at h
  split at h
  ·
    replace h := vI_ok h
    obtain ⟨a0, rfl, h⟩ := h
    replace h := vI_ok h
    obtain ⟨a1, rfl, h⟩ := h
    replace h := vI_ok h
    obtain ⟨a2, rfl, h⟩ := h
    refine ⟨by kernel_rfl, fn_ok tab_ok law09_StreamSmall.C_ok (L := law09_StreamSmall.L) (D := law09_StreamSmall.D) Try.func11 law09_StreamSmall.hb (by kernel_rfl) (by rw [law09_StreamSmall.c_loops]; exact lcons law09_StreamSmall.lok4 (lnil)) (Nat.le_of_ble_eq_true (by kernel_rfl)) ?_⟩
    rw [law09_StreamSmall.eq]
    exact h
  · exact h.elim
end Go.Proofs.Ytdbnobeopgfhgaa.G
