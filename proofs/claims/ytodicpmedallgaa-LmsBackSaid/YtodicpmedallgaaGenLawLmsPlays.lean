/- Go functions as predicate transformers, written by a program of this session (gen.py), with their soundness. -/
import Derived.Test.YtodicpmedallgaaGen4
set_option linter.unusedVariables false
set_option linter.unusedSimpArgs false
set_option maxRecDepth 100000
namespace Go.Proofs.Ytodicpmedallgaa.G
open Go Go.Proofs.Ytodicpmedallgaa.Vm
/-! ### valise/valiselaw12.LmsPlays: function 11 -/
def law12_LmsPlays.l5 : Nat → Option Addr → Nat → Nat → Option Addr → Addr → Int → World → (Option Addr → Addr → World → Prop) → (Bool → World → Prop) → Prop
  | 0, _, _, _, _, _, _, _, _, _ => False
  | N + 1, y0, y0n, y0c, y3, y4, y5, w, K0, Kr =>
    bif (decide (y5 < ((y0n : Nat) : Int))) then
      bif (decide (y5 < 1000)) then
        lms_Filter_Guess.f y3 w fun r26_17 w =>
        ref12_Filter_Guess.f (some y4) w fun r28_18 w =>
        bif (r26_17 != r28_18) then
          Kr false w
        else
          lms_Filter_Guess.f y3 w fun r32_19 w =>
          ref12_Filter_Guess.f (some y4) w fun r34_20 w =>
          bif (r32_19 != r34_20) then
            Kr false w
          else
            sm y0 fun p_24 =>
            if 0 ≤ (y5 : Int) ∧ (y5 : Int) < ((y0n : Nat) : Int) then
            ldI .i32 (p_24.add (Int.toNat y5)) w fun x41_25 =>
            lms_Filter_Learn.f y3 x41_25 w fun w =>
            sm y0 fun p_26 =>
            if 0 ≤ (y5 : Int) ∧ (y5 : Int) < ((y0n : Nat) : Int) then
            ldI .i32 (p_26.add (Int.toNat y5)) w fun x47_27 =>
            ref12_Filter_Learn.f (some y4) x47_27 w fun w =>
            let v5_28 := (IntKind.wrap .i64 (y5 + 1))
            law12_LmsPlays.l5 N y0 y0n y0c y3 y4 v5_28 w K0 Kr
            else False
            else False
      else
        K0 y3 y4 w
    else
      K0 y3 y4 w

def law12_LmsPlays.f (a0 : Option Addr) (a0n : Nat) (a0c : Nat) (w : World) (K : Bool → World → Prop) : Prop :=
  lms_New.f  w fun r6_3 w =>
  newC 57 [(Value.int .i32 0), (Value.int .i32 0), (Value.int .i32 0), (Value.int .i32 0), (Value.int .i32 0), (Value.int .i32 0), (Value.int .i32 0), (Value.int .i32 0), (Value.int .i32 0), (Value.int .i32 0), (Value.int .i32 0), (Value.int .i32 0), (Value.int .i32 0), (Value.int .i32 0), (Value.int .i32 0), (Value.int .i32 0)] w fun a8_4 w =>
  law12_awake.f  w fun r9_7 w =>
  bif (!r9_7) then
    K false w
  else
    bif r6_3.isNone then
      K false w
    else
      ∃ N_29 : Nat, law12_LmsPlays.l5 N_29 a0 a0n a0c r6_3 a8_4 0 w
      (fun o3_30 o4_31 w =>
        lms_Filter_Guess.f o3_30 w fun r50_34 w =>
        ref12_Filter_Guess.f (some o4_31) w fun r52_35 w =>
        let v2_36 := (r50_34 == r52_35)
        K v2_36 w)
      (fun o2_32 w =>
        K o2_32 w)
def law12_LmsPlays.H (F : type_of% @law12_LmsPlays.f) : Hf := fun args w K => match args with
  | [v0] => vL v0 fun a0 a0n a0c => F a0 a0n a0c w (fun r0 w => K (Value.bool r0) w)
  | _ => False
def law12_LmsPlays.h : Hf := law12_LmsPlays.H @law12_LmsPlays.f
def law12_LmsPlays.CG (F34 : type_of% @lms_New.f) (F35 : type_of% @law12_awake.f) (F36 : type_of% @lms_Filter_Guess.f) (F37 : type_of% @ref12_Filter_Guess.f) (F38 : type_of% @lms_Filter_Learn.f) (F39 : type_of% @ref12_Filter_Learn.f) : Hd := hcons 39 (ref12_Filter_Learn.H F39) (hcons 38 (lms_Filter_Learn.H F38) (hcons 37 (ref12_Filter_Guess.H F37) (hcons 36 (lms_Filter_Guess.H F36) (hcons 35 (law12_awake.H F35) (hcons 34 (lms_New.H F34) (hnil))))))
def law12_LmsPlays.C : Hd := law12_LmsPlays.CG @lms_New.f @law12_awake.f @lms_Filter_Guess.f @ref12_Filter_Guess.f @lms_Filter_Learn.f @ref12_Filter_Learn.f
def law12_LmsPlays.G (F34 : type_of% @lms_New.f) (F35 : type_of% @law12_awake.f) (F36 : type_of% @lms_Filter_Guess.f) (F37 : type_of% @ref12_Filter_Guess.f) (F38 : type_of% @lms_Filter_Learn.f) (F39 : type_of% @ref12_Filter_Learn.f) (a0 : Option Addr) (a0n : Nat) (a0c : Nat) (w : World) (K : Bool → World → Prop) : Prop :=
  F34  w fun r6_3 w =>
  newC 57 [(Value.int .i32 0), (Value.int .i32 0), (Value.int .i32 0), (Value.int .i32 0), (Value.int .i32 0), (Value.int .i32 0), (Value.int .i32 0), (Value.int .i32 0), (Value.int .i32 0), (Value.int .i32 0), (Value.int .i32 0), (Value.int .i32 0), (Value.int .i32 0), (Value.int .i32 0), (Value.int .i32 0), (Value.int .i32 0)] w fun a8_4 w =>
  F35  w fun r9_7 w =>
  bif (!r9_7) then
    K false w
  else
    bif r6_3.isNone then
      K false w
    else
      ∃ N_29 : Nat, law12_LmsPlays.l5 N_29 a0 a0n a0c r6_3 a8_4 0 w
      (fun o3_30 o4_31 w =>
        F36 o3_30 w fun r50_34 w =>
        F37 (some o4_31) w fun r52_35 w =>
        let v2_36 := (r50_34 == r52_35)
        K v2_36 w)
      (fun o2_32 w =>
        K o2_32 w)
theorem law12_LmsPlays.C_ok : CSound Try.prog law12_LmsPlays.C := hcons_ok ref12_Filter_Learn.ok (hcons_ok lms_Filter_Learn.ok (hcons_ok ref12_Filter_Guess.ok (hcons_ok lms_Filter_Guess.ok (hcons_ok law12_awake.ok (hcons_ok lms_New.ok (hnil_ok))))))
def law12_LmsPlays.D : Nat → Plan := fun i => .done
noncomputable def law12_LmsPlays.c : Code := Try.f11.body.getD .skip
theorem law12_LmsPlays.hb : Try.f11.body = some law12_LmsPlays.c := by kernel_rfl
noncomputable def law12_LmsPlays.b0 : Code := (loopsOf law12_LmsPlays.c).getD 0 .skip
theorem law12_LmsPlays.b0_loops : loopsOf law12_LmsPlays.b0 = [] := by kernel_rfl
theorem law12_LmsPlays.c_loops : loopsOf law12_LmsPlays.c = [law12_LmsPlays.b0] := by kernel_rfl
def law12_LmsPlays.l5G (F34 : type_of% @lms_New.f) (F35 : type_of% @law12_awake.f) (F36 : type_of% @lms_Filter_Guess.f) (F37 : type_of% @ref12_Filter_Guess.f) (F38 : type_of% @lms_Filter_Learn.f) (F39 : type_of% @ref12_Filter_Learn.f) (R : Option Addr → Nat → Nat → Option Addr → Addr → Int → World → (Option Addr → Addr → World → Prop) → (Bool → World → Prop) → Prop) : Option Addr → Nat → Nat → Option Addr → Addr → Int → World → (Option Addr → Addr → World → Prop) → (Bool → World → Prop) → Prop := fun y0 y0n y0c y3 y4 y5 w K0 Kr =>
    bif (decide (y5 < ((y0n : Nat) : Int))) then
      bif (decide (y5 < 1000)) then
        F36 y3 w fun r26_17 w =>
        F37 (some y4) w fun r28_18 w =>
        bif (r26_17 != r28_18) then
          Kr false w
        else
          F36 y3 w fun r32_19 w =>
          F37 (some y4) w fun r34_20 w =>
          bif (r32_19 != r34_20) then
            Kr false w
          else
            sm y0 fun p_24 =>
            if 0 ≤ (y5 : Int) ∧ (y5 : Int) < ((y0n : Nat) : Int) then
            ldI .i32 (p_24.add (Int.toNat y5)) w fun x41_25 =>
            F38 y3 x41_25 w fun w =>
            sm y0 fun p_26 =>
            if 0 ≤ (y5 : Int) ∧ (y5 : Int) < ((y0n : Nat) : Int) then
            ldI .i32 (p_26.add (Int.toNat y5)) w fun x47_27 =>
            F39 (some y4) x47_27 w fun w =>
            let v5_28 := (IntKind.wrap .i64 (y5 + 1))
            R y0 y0n y0c y3 y4 v5_28 w K0 Kr
            else False
            else False
      else
        K0 y3 y4 w
    else
      K0 y3 y4 w

def law12_LmsPlays.hn5 (N : Nat) (f : Fr) (w : World) (K : AExit → Fr → World → Prop) : Prop :=
  gN f 54 <| gL f 0 fun y0 y0n y0c => gP f 3 fun y3 => gQ f 4 fun y4 => gI .i64 f 5 fun y5 => law12_LmsPlays.l5 N y0 y0n y0c y3 y4 y5 w (fun o3 o4 w => K (.exit 0) [none, none, none, some (Value.pointer o3), some (Value.pointer (some o4)), none, none, none, none, none, none, none, none, none, none, none, none, none, none, none, none, none, none, none, none, none, none, none, none, none, none, none, none, none, none, none, none, none, none, none, none, none, none, none, none, none, none, none, none, none, none, none, none, none] w) (fun o2 w => K .ret [none, none, some (Value.bool o2), none, none, none, none, none, none, none, none, none, none, none, none, none, none, none, none, none, none, none, none, none, none, none, none, none, none, none, none, none, none, none, none, none, none, none, none, none, none, none, none, none, none, none, none, none, none, none, none, none, none, none] w)
def law12_LmsPlays.hx5 : AExit → Fr → World → (AExit → Fr → World → Prop) → Prop := fun e f w K => match e with
  | .normal => False
  | .exit i => (match Nat.beq i 0 with | true => gN f 54 <| gP f 3 fun o3 => gQ f 4 fun o4 => K (.exit 0) [none, none, none, some (Value.pointer o3), some (Value.pointer (some o4)), none, none, none, none, none, none, none, none, none, none, none, none, none, none, none, none, none, none, none, none, none, none, none, none, none, none, none, none, none, none, none, none, none, none, none, none, none, none, none, none, none, none, none, none, none, none, none, none, none] w | false => False)
  | .ret => gN f 54 <| gB f 2 fun o2 => K .ret [none, none, some (Value.bool o2), none, none, none, none, none, none, none, none, none, none, none, none, none, none, none, none, none, none, none, none, none, none, none, none, none, none, none, none, none, none, none, none, none, none, none, none, none, none, none, none, none, none, none, none, none, none, none, none, none, none, none] w
def law12_LmsPlays.L : LHd := fun l f w K => (match Nat.beq l 5 with | true => ∃ N, law12_LmsPlays.hn5 N f w K | false => False)
theorem law12_LmsPlays.leG5 (F34 : type_of% @lms_New.f) (F35 : type_of% @law12_awake.f) (F36 : type_of% @lms_Filter_Guess.f) (F37 : type_of% @ref12_Filter_Guess.f) (F38 : type_of% @lms_Filter_Learn.f) (F39 : type_of% @ref12_Filter_Learn.f) (N : Nat) (y0 : Option Addr) (y0n : Nat) (y0c : Nat) (y3 : Option Addr) (y4 : Addr) (y5 : Int) (w : World) (K : AExit → Fr → World → Prop) : awp (law12_LmsPlays.CG F34 F35 F36 F37 F38 F39) law12_LmsPlays.L law12_LmsPlays.D tab law12_LmsPlays.b0 (lpost law12_LmsPlays.hn5 law12_LmsPlays.hx5 N K) [some (Value.slice y0 y0n y0c), none, none, some (Value.pointer y3), some (Value.pointer (some y4)), some (Value.int .i64 y5), none, none, none, none, none, none, none, none, none, none, none, none, none, none, none, none, none, none, none, none, none, none, none, none, none, none, none, none, none, none, none, none, none, none, none, none, none, none, none, none, none, none, none, none, none, none, none, none] w = law12_LmsPlays.l5G F34 F35 F36 F37 F38 F39 (law12_LmsPlays.l5 N) y0 y0n y0c y3 y4 y5 w (fun o3 o4 w => K (.exit 0) [none, none, none, some (Value.pointer o3), some (Value.pointer (some o4)), none, none, none, none, none, none, none, none, none, none, none, none, none, none, none, none, none, none, none, none, none, none, none, none, none, none, none, none, none, none, none, none, none, none, none, none, none, none, none, none, none, none, none, none, none, none, none, none, none] w) (fun o2 w => K .ret [none, none, some (Value.bool o2), none, none, none, none, none, none, none, none, none, none, none, none, none, none, none, none, none, none, none, none, none, none, none, none, none, none, none, none, none, none, none, none, none, none, none, none, none, none, none, none, none, none, none, none, none, none, none, none, none, none, none] w) := by kernel_rfl
theorem law12_LmsPlays.les5 (N : Nat) : law12_LmsPlays.l5 (N + 1) = law12_LmsPlays.l5G @lms_New.f @law12_awake.f @lms_Filter_Guess.f @ref12_Filter_Guess.f @lms_Filter_Learn.f @ref12_Filter_Learn.f (law12_LmsPlays.l5 N) := by kernel_rfl
theorem law12_LmsPlays.le5 (N : Nat) (y0 : Option Addr) (y0n : Nat) (y0c : Nat) (y3 : Option Addr) (y4 : Addr) (y5 : Int) (w : World) (K : AExit → Fr → World → Prop) : awp law12_LmsPlays.C law12_LmsPlays.L law12_LmsPlays.D tab law12_LmsPlays.b0 (lpost law12_LmsPlays.hn5 law12_LmsPlays.hx5 N K) [some (Value.slice y0 y0n y0c), none, none, some (Value.pointer y3), some (Value.pointer (some y4)), some (Value.int .i64 y5), none, none, none, none, none, none, none, none, none, none, none, none, none, none, none, none, none, none, none, none, none, none, none, none, none, none, none, none, none, none, none, none, none, none, none, none, none, none, none, none, none, none, none, none, none, none, none, none] w = law12_LmsPlays.l5 (N + 1) y0 y0n y0c y3 y4 y5 w (fun o3 o4 w => K (.exit 0) [none, none, none, some (Value.pointer o3), some (Value.pointer (some o4)), none, none, none, none, none, none, none, none, none, none, none, none, none, none, none, none, none, none, none, none, none, none, none, none, none, none, none, none, none, none, none, none, none, none, none, none, none, none, none, none, none, none, none, none, none, none, none, none, none] w) (fun o2 w => K .ret [none, none, some (Value.bool o2), none, none, none, none, none, none, none, none, none, none, none, none, none, none, none, none, none, none, none, none, none, none, none, none, none, none, none, none, none, none, none, none, none, none, none, none, none, none, none, none, none, none, none, none, none, none, none, none, none, none, none] w) := by
  rw [law12_LmsPlays.les5]
  exact law12_LmsPlays.leG5 @lms_New.f @law12_awake.f @lms_Filter_Guess.f @ref12_Filter_Guess.f @lms_Filter_Learn.f @ref12_Filter_Learn.f N y0 y0n y0c y3 y4 y5 w K
theorem law12_LmsPlays.lok5 : LoopOk Try.prog law12_LmsPlays.L law12_LmsPlays.b0 := by
  refine loop_ok tab_ok law12_LmsPlays.C_ok (D := law12_LmsPlays.D) (law12_LmsPlays.hn5) (law12_LmsPlays.hx5) (by kernel_rfl) (by rw [law12_LmsPlays.b0_loops]; exact lnil) ?_ ?_ ?_ ?_
  · intro f w K h
    unfold law12_LmsPlays.hn5 at h
    obtain ⟨hlen, h⟩ := gN_ok h
    obtain ⟨y0, y0n, y0c, h0, h⟩ := gL_ok h
    obtain ⟨y3, h3, h⟩ := gP_ok h
    obtain ⟨y4, h4, h⟩ := gQ_ok h
    obtain ⟨y5, h5, h⟩ := gI_ok h
    exact h
  · intro N f w K h
    unfold law12_LmsPlays.hn5 at h
    obtain ⟨hlen, h⟩ := gN_ok h
    obtain ⟨y0, y0n, y0c, h0, h⟩ := gL_ok h
    obtain ⟨y3, h3, h⟩ := gP_ok h
    obtain ⟨y4, h4, h⟩ := gQ_ok h
    obtain ⟨y5, h5, h⟩ := gI_ok h
    refine ⟨[some (Value.slice y0 y0n y0c), none, none, some (Value.pointer y3), some (Value.pointer (some y4)), some (Value.int .i64 y5), none, none, none, none, none, none, none, none, none, none, none, none, none, none, none, none, none, none, none, none, none, none, none, none, none, none, none, none, none, none, none, none, none, none, none, none, none, none, none, none, none, none, none, none, none, none, none, none], hlen, ⟨h0, h3, h4, h5, trivial⟩, ?_⟩
    rw [law12_LmsPlays.le5]
    exact h
  · intro e f w K h
    cases e with
    | normal => exact h.elim
    | exit i =>
      unfold law12_LmsPlays.hx5 at h
      simp only at h
      split at h
      · rename_i hb
        obtain rfl := Nat.eq_of_beq_eq_true hb
        obtain ⟨hlen, h⟩ := gN_ok h
        obtain ⟨o3, h3, h⟩ := gP_ok h
        obtain ⟨o4, h4, h⟩ := gQ_ok h
        exact ⟨[none, none, none, some (Value.pointer o3), some (Value.pointer (some o4)), none, none, none, none, none, none, none, none, none, none, none, none, none, none, none, none, none, none, none, none, none, none, none, none, none, none, none, none, none, none, none, none, none, none, none, none, none, none, none, none, none, none, none, none, none, none, none, none, none], hlen, ⟨h3, h4, trivial⟩, h⟩
      · exact (show False from h).elim
    | ret =>
      unfold law12_LmsPlays.hx5 at h
      simp only at h
      obtain ⟨hlen, h⟩ := gN_ok h
      obtain ⟨o2, h2, h⟩ := gB_ok h
      exact ⟨[none, none, some (Value.bool o2), none, none, none, none, none, none, none, none, none, none, none, none, none, none, none, none, none, none, none, none, none, none, none, none, none, none, none, none, none, none, none, none, none, none, none, none, none, none, none, none, none, none, none, none, none, none, none, none, none, none, none], hlen, ⟨h2, trivial⟩, h⟩
  · intro f w K h
    have e : lid law12_LmsPlays.b0 = 5 := by kernel_rfl
    rw [e] at h
    exact h
theorem law12_LmsPlays.eqG (F34 : type_of% @lms_New.f) (F35 : type_of% @law12_awake.f) (F36 : type_of% @lms_Filter_Guess.f) (F37 : type_of% @ref12_Filter_Guess.f) (F38 : type_of% @lms_Filter_Learn.f) (F39 : type_of% @ref12_Filter_Learn.f) (a0 : Option Addr) (a0n : Nat) (a0c : Nat) (w : World) (K : Value → World → Prop) : afn (law12_LmsPlays.CG F34 F35 F36 F37 F38 F39) law12_LmsPlays.L law12_LmsPlays.D tab Try.f11 [(Value.slice a0 a0n a0c)] w K = law12_LmsPlays.G F34 F35 F36 F37 F38 F39 a0 a0n a0c w (fun r0 w => K (Value.bool r0) w) := by kernel_rfl
theorem law12_LmsPlays.eq (a0 : Option Addr) (a0n : Nat) (a0c : Nat) (w : World) (K : Value → World → Prop) : afn law12_LmsPlays.C law12_LmsPlays.L law12_LmsPlays.D tab Try.f11 [(Value.slice a0 a0n a0c)] w K = law12_LmsPlays.f a0 a0n a0c w (fun r0 w => K (Value.bool r0) w) := law12_LmsPlays.eqG @lms_New.f @law12_awake.f @lms_Filter_Guess.f @ref12_Filter_Guess.f @lms_Filter_Learn.f @ref12_Filter_Learn.f a0 a0n a0c w K
theorem law12_LmsPlays.ok : FSound Try.prog 11 law12_LmsPlays.h := by
  intro args w K h
  unfold law12_LmsPlays.h law12_LmsPlays.H at h
  split at h
  ·
    replace h := vL_ok h
    obtain ⟨a0, a0n, a0c, rfl, h⟩ := h
    refine ⟨by kernel_rfl, fn_ok tab_ok law12_LmsPlays.C_ok (L := law12_LmsPlays.L) (D := law12_LmsPlays.D) Try.func11 law12_LmsPlays.hb (by kernel_rfl) (by rw [law12_LmsPlays.c_loops]; exact lcons law12_LmsPlays.lok5 (lnil)) (Nat.le_of_ble_eq_true (by kernel_rfl)) ?_⟩
    rw [law12_LmsPlays.eq]
    exact h
  · exact h.elim
end Go.Proofs.Ytodicpmedallgaa.G
