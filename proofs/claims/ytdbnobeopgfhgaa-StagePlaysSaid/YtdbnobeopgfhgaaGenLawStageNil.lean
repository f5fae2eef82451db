/- Go functions as predicate transformers, written by a program of this session (gen.py), with their soundness. -/
import Derived.Test.YtdbnobeopgfhgaaGen4
set_option linter.unusedVariables false
set_option linter.unusedSimpArgs false
set_option maxRecDepth 100000
namespace Go.Proofs.Ytdbnobeopgfhgaa.G
open Go Go.Proofs.Ytdbnobeopgfhgaa.Vm
/-! ### valise/valiselaw07.StageNil: function 5 -/
def law07_StageNil.l8 : Nat → Int → Int → Option Addr → Option Addr → Option Addr → Int → World → (Int → Int → Option Addr → World → Prop) → (Bool → World → Prop) → Prop
  | 0, _, _, _, _, _, _, _, _, _ => False
  | N + 1, y0, y1, y9, y10, y11, y12, w, K0, Kr =>
    bif (decide (y12 < 33)) then
      stage_Stage_At.f y10 y1 y12 w fun r40_20 w =>
      stage_Stage_At.f y11 y1 y12 w fun r44_21 w =>
      bif (r40_20 != r44_21) then
        Kr false w
      else
        let v12_23 := (IntKind.wrap .i64 (y12 + 1))
        law07_StageNil.l8 N y0 y1 y9 y10 y11 v12_23 w K0 Kr
    else
      K0 y0 y1 y9 w

def law07_StageNil.f (a0 : Int) (a1 : Int) (a2 : Int) (a3 : Int) (w : World) (K : Bool → World → Prop) : Prop :=
  stage_Stage_Learn.f none a2 a3 w fun w =>
  stage_New.f 3 w fun r17_5 w =>
  stage_New.f 3 w fun r18_6 w =>
  law07_awake.f  w fun r19_9 w =>
  bif (!r19_9) then
    K false w
  else
    bif r17_5.isNone then
      K false w
    else
      bif r18_6.isNone then
        K false w
      else
        stage_Stage_Learn.f r17_5 a2 a3 w fun w =>
        ∃ N_24 : Nat, law07_StageNil.l8 N_24 a0 a1 none r17_5 r18_6 0 w
        (fun o0_25 o1_26 o9_27 w =>
          stage_Stage_Refine.f o9_27 o0_25 o1_26 w fun r49_30 w =>
          bif (r49_30 == 0) then
            stage_Stage_At.f o9_27 o1_26 o0_25 w fun r55_31 w =>
            let v8_32 := (r55_31 == 0)
            K v8_32 w
          else
            K false w)
        (fun o8_28 w =>
          K o8_28 w)
def law07_StageNil.H (F : type_of% @law07_StageNil.f) : Hf := fun args w K => match args with
  | [v0, v1, v2, v3] => vI .i64 v0 fun a0 => vI .i64 v1 fun a1 => vI .i64 v2 fun a2 => vI .i64 v3 fun a3 => F a0 a1 a2 a3 w (fun r0 w => K (Value.bool r0) w)
  | _ => False
def law07_StageNil.h : Hf := law07_StageNil.H @law07_StageNil.f
def law07_StageNil.CG (F22 : type_of% @stage_Stage_Learn.f) (F15 : type_of% @stage_New.f) (F16 : type_of% @law07_awake.f) (F19 : type_of% @stage_Stage_At.f) (F17 : type_of% @stage_Stage_Refine.f) : Hd := hcons 17 (stage_Stage_Refine.H F17) (hcons 19 (stage_Stage_At.H F19) (hcons 16 (law07_awake.H F16) (hcons 15 (stage_New.H F15) (hcons 22 (stage_Stage_Learn.H F22) (hnil)))))
def law07_StageNil.C : Hd := law07_StageNil.CG @stage_Stage_Learn.f @stage_New.f @law07_awake.f @stage_Stage_At.f @stage_Stage_Refine.f
def law07_StageNil.G (F22 : type_of% @stage_Stage_Learn.f) (F15 : type_of% @stage_New.f) (F16 : type_of% @law07_awake.f) (F19 : type_of% @stage_Stage_At.f) (F17 : type_of% @stage_Stage_Refine.f) (a0 : Int) (a1 : Int) (a2 : Int) (a3 : Int) (w : World) (K : Bool → World → Prop) : Prop :=
  F22 none a2 a3 w fun w =>
  F15 3 w fun r17_5 w =>
  F15 3 w fun r18_6 w =>
  F16  w fun r19_9 w =>
  bif (!r19_9) then
    K false w
  else
    bif r17_5.isNone then
      K false w
    else
      bif r18_6.isNone then
        K false w
      else
        F22 r17_5 a2 a3 w fun w =>
        ∃ N_24 : Nat, law07_StageNil.l8 N_24 a0 a1 none r17_5 r18_6 0 w
        (fun o0_25 o1_26 o9_27 w =>
          F17 o9_27 o0_25 o1_26 w fun r49_30 w =>
          bif (r49_30 == 0) then
            F19 o9_27 o1_26 o0_25 w fun r55_31 w =>
            let v8_32 := (r55_31 == 0)
            K v8_32 w
          else
            K false w)
        (fun o8_28 w =>
          K o8_28 w)
theorem law07_StageNil.C_ok : CSound Try.prog law07_StageNil.C := hcons_ok stage_Stage_Refine.ok (hcons_ok stage_Stage_At.ok (hcons_ok law07_awake.ok (hcons_ok stage_New.ok (hcons_ok stage_Stage_Learn.ok (hnil_ok)))))
def law07_StageNil.D : Nat → Plan := fun i => .done
noncomputable def law07_StageNil.c : Code := Try.f5.body.getD .skip
theorem law07_StageNil.hb : Try.f5.body = some law07_StageNil.c := by kernel_rfl
noncomputable def law07_StageNil.b0 : Code := (loopsOf law07_StageNil.c).getD 0 .skip
theorem law07_StageNil.b0_loops : loopsOf law07_StageNil.b0 = [] := by kernel_rfl
theorem law07_StageNil.c_loops : loopsOf law07_StageNil.c = [law07_StageNil.b0] := by kernel_rfl
def law07_StageNil.l8G (F22 : type_of% @stage_Stage_Learn.f) (F15 : type_of% @stage_New.f) (F16 : type_of% @law07_awake.f) (F19 : type_of% @stage_Stage_At.f) (F17 : type_of% @stage_Stage_Refine.f) (R : Int → Int → Option Addr → Option Addr → Option Addr → Int → World → (Int → Int → Option Addr → World → Prop) → (Bool → World → Prop) → Prop) : Int → Int → Option Addr → Option Addr → Option Addr → Int → World → (Int → Int → Option Addr → World → Prop) → (Bool → World → Prop) → Prop := fun y0 y1 y9 y10 y11 y12 w K0 Kr =>
    bif (decide (y12 < 33)) then
      F19 y10 y1 y12 w fun r40_20 w =>
      F19 y11 y1 y12 w fun r44_21 w =>
      bif (r40_20 != r44_21) then
        Kr false w
      else
        let v12_23 := (IntKind.wrap .i64 (y12 + 1))
        R y0 y1 y9 y10 y11 v12_23 w K0 Kr
    else
      K0 y0 y1 y9 w

def law07_StageNil.hn8 (N : Nat) (f : Fr) (w : World) (K : AExit → Fr → World → Prop) : Prop :=
  gN f 58 <| gI .i64 f 0 fun y0 => gI .i64 f 1 fun y1 => gP f 9 fun y9 => gP f 10 fun y10 => gP f 11 fun y11 => gI .i64 f 12 fun y12 => law07_StageNil.l8 N y0 y1 y9 y10 y11 y12 w (fun o0 o1 o9 w => K (.exit 0) [some (Value.int .i64 o0), some (Value.int .i64 o1), none, none, none, none, none, none, none, some (Value.pointer o9), none, none, none, none, none, none, none, none, none, none, none, none, none, none, none, none, none, none, none, none, none, none, none, none, none, none, none, none, none, none, none, none, none, none, none, none, none, none, none, none, none, none, none, none, none, none, none, none] w) (fun o8 w => K .ret [none, none, none, none, none, none, none, none, some (Value.bool o8), none, none, none, none, none, none, none, none, none, none, none, none, none, none, none, none, none, none, none, none, none, none, none, none, none, none, none, none, none, none, none, none, none, none, none, none, none, none, none, none, none, none, none, none, none, none, none, none, none] w)
def law07_StageNil.hx8 : AExit → Fr → World → (AExit → Fr → World → Prop) → Prop := fun e f w K => match e with
  | .normal => False
  | .exit i => (match Nat.beq i 0 with | true => gN f 58 <| gI .i64 f 0 fun o0 => gI .i64 f 1 fun o1 => gP f 9 fun o9 => K (.exit 0) [some (Value.int .i64 o0), some (Value.int .i64 o1), none, none, none, none, none, none, none, some (Value.pointer o9), none, none, none, none, none, none, none, none, none, none, none, none, none, none, none, none, none, none, none, none, none, none, none, none, none, none, none, none, none, none, none, none, none, none, none, none, none, none, none, none, none, none, none, none, none, none, none, none] w | false => False)
  | .ret => gN f 58 <| gB f 8 fun o8 => K .ret [none, none, none, none, none, none, none, none, some (Value.bool o8), none, none, none, none, none, none, none, none, none, none, none, none, none, none, none, none, none, none, none, none, none, none, none, none, none, none, none, none, none, none, none, none, none, none, none, none, none, none, none, none, none, none, none, none, none, none, none, none, none] w
def law07_StageNil.L : LHd := fun l f w K => (match Nat.beq l 8 with | true => ∃ N, law07_StageNil.hn8 N f w K | false => False)
theorem law07_StageNil.leG8 (F22 : type_of% @stage_Stage_Learn.f) (F15 : type_of% @stage_New.f) (F16 : type_of% @law07_awake.f) (F19 : type_of% @stage_Stage_At.f) (F17 : type_of% @stage_Stage_Refine.f) (N : Nat) (y0 : Int) (y1 : Int) (y9 : Option Addr) (y10 : Option Addr) (y11 : Option Addr) (y12 : Int) (w : World) (K : AExit → Fr → World → Prop) : awp (law07_StageNil.CG F22 F15 F16 F19 F17) law07_StageNil.L law07_StageNil.D tab law07_StageNil.b0 (lpost law07_StageNil.hn8 law07_StageNil.hx8 N K) [some (Value.int .i64 y0), some (Value.int .i64 y1), none, none, none, none, none, none, none, some (Value.pointer y9), some (Value.pointer y10), some (Value.pointer y11), some (Value.int .i64 y12), none, none, none, none, none, none, none, none, none, none, none, none, none, none, none, none, none, none, none, none, none, none, none, none, none, none, none, none, none, none, none, none, none, none, none, none, none, none, none, none, none, none, none, none, none] w = law07_StageNil.l8G F22 F15 F16 F19 F17 (law07_StageNil.l8 N) y0 y1 y9 y10 y11 y12 w (fun o0 o1 o9 w => K (.exit 0) [some (Value.int .i64 o0), some (Value.int .i64 o1), none, none, none, none, none, none, none, some (Value.pointer o9), none, none, none, none, none, none, none, none, none, none, none, none, none, none, none, none, none, none, none, none, none, none, none, none, none, none, none, none, none, none, none, none, none, none, none, none, none, none, none, none, none, none, none, none, none, none, none, none] w) (fun o8 w => K .ret [none, none, none, none, none, none, none, none, some (Value.bool o8), none, none, none, none, none, none, none, none, none, none, none, none, none, none, none, none, none, none, none, none, none, none, none, none, none, none, none, none, none, none, none, none, none, none, none, none, none, none, none, none, none, none, none, none, none, none, none, none, none] w) := by kernel_rfl
theorem law07_StageNil.les8 (N : Nat) : law07_StageNil.l8 (N + 1) = law07_StageNil.l8G @stage_Stage_Learn.f @stage_New.f @law07_awake.f @stage_Stage_At.f @stage_Stage_Refine.f (law07_StageNil.l8 N) := by kernel_rfl
theorem law07_StageNil.le8 (N : Nat) (y0 : Int) (y1 : Int) (y9 : Option Addr) (y10 : Option Addr) (y11 : Option Addr) (y12 : Int) (w : World) (K : AExit → Fr → World → Prop) : awp law07_StageNil.C law07_StageNil.L law07_StageNil.D tab law07_StageNil.b0 (lpost law07_StageNil.hn8 law07_StageNil.hx8 N K) [some (Value.int .i64 y0), some (Value.int .i64 y1), none, none, none, none, none, none, none, some (Value.pointer y9), some (Value.pointer y10), some (Value.pointer y11), some (Value.int .i64 y12), none, none, none, none, none, none, none, none, none, none, none, none, none, none, none, none, none, none, none, none, none, none, none, none, none, none, none, none, none, none, none, none, none, none, none, none, none, none, none, none, none, none, none, none, none] w = law07_StageNil.l8 (N + 1) y0 y1 y9 y10 y11 y12 w (fun o0 o1 o9 w => K (.exit 0) [some (Value.int .i64 o0), some (Value.int .i64 o1), none, none, none, none, none, none, none, some (Value.pointer o9), none, none, none, none, none, none, none, none, none, none, none, none, none, none, none, none, none, none, none, none, none, none, none, none, none, none, none, none, none, none, none, none, none, none, none, none, none, none, none, none, none, none, none, none, none, none, none, none] w) (fun o8 w => K .ret [none, none, none, none, none, none, none, none, some (Value.bool o8), none, none, none, none, none, none, none, none, none, none, none, none, none, none, none, none, none, none, none, none, none, none, none, none, none, none, none, none, none, none, none, none, none, none, none, none, none, none, none, none, none, none, none, none, none, none, none, none, none] w) := by
  rw [law07_StageNil.les8]
  exact law07_StageNil.leG8 @stage_Stage_Learn.f @stage_New.f @law07_awake.f @stage_Stage_At.f @stage_Stage_Refine.f N y0 y1 y9 y10 y11 y12 w K
theorem law07_StageNil.lok8 : LoopOk Try.prog law07_StageNil.L law07_StageNil.b0 := by
  refine loop_ok tab_ok law07_StageNil.C_ok (D := law07_StageNil.D) (law07_StageNil.hn8) (law07_StageNil.hx8) (by kernel_rfl) (by rw [law07_StageNil.b0_loops]; exact lnil) ?_ ?_ ?_ ?_
  · intro f w K h
    unfold law07_StageNil.hn8 at h
    obtain ⟨hlen, h⟩ := gN_ok h
    obtain ⟨y0, h0, h⟩ := gI_ok h
    obtain ⟨y1, h1, h⟩ := gI_ok h
    obtain ⟨y9, h9, h⟩ := gP_ok h
    obtain ⟨y10, h10, h⟩ := gP_ok h
    obtain ⟨y11, h11, h⟩ := gP_ok h
    obtain ⟨y12, h12, h⟩ := gI_ok h
    exact h
  · intro N f w K h
    unfold law07_StageNil.hn8 at h
    obtain ⟨hlen, h⟩ := gN_ok h
    obtain ⟨y0, h0, h⟩ := gI_ok h
    obtain ⟨y1, h1, h⟩ := gI_ok h
    obtain ⟨y9, h9, h⟩ := gP_ok h
    obtain ⟨y10, h10, h⟩ := gP_ok h
    obtain ⟨y11, h11, h⟩ := gP_ok h
    obtain ⟨y12, h12, h⟩ := gI_ok h
    refine ⟨[some (Value.int .i64 y0), some (Value.int .i64 y1), none, none, none, none, none, none, none, some (Value.pointer y9), some (Value.pointer y10), some (Value.pointer y11), some (Value.int .i64 y12), none, none, none, none, none, none, none, none, none, none, none, none, none, none, none, none, none, none, none, none, none, none, none, none, none, none, none, none, none, none, none, none, none, none, none, none, none, none, none, none, none, none, none, none, none], hlen, ⟨h0, h1, h9, h10, h11, h12, trivial⟩, ?_⟩
    rw [law07_StageNil.le8]
    exact h
  · intro e f w K h
    cases e with
    | normal => exact h.elim
    | exit i =>
      unfold law07_StageNil.hx8 at h
      simp only at h
      split at h
      · rename_i hb
        obtain rfl := Nat.eq_of_beq_eq_true hb
        obtain ⟨hlen, h⟩ := gN_ok h
        obtain ⟨o0, h0, h⟩ := gI_ok h
        obtain ⟨o1, h1, h⟩ := gI_ok h
        obtain ⟨o9, h9, h⟩ := gP_ok h
        exact ⟨[some (Value.int .i64 o0), some (Value.int .i64 o1), none, none, none, none, none, none, none, some (Value.pointer o9), none, none, none, none, none, none, none, none, none, none, none, none, none, none, none, none, none, none, none, none, none, none, none, none, none, none, none, none, none, none, none, none, none, none, none, none, none, none, none, none, none, none, none, none, none, none, none, none], hlen, ⟨h0, h1, h9, trivial⟩, h⟩
      · exact (show False from h).elim
    | ret =>
      unfold law07_StageNil.hx8 at h
      simp only at h
      obtain ⟨hlen, h⟩ := gN_ok h
      obtain ⟨o8, h8, h⟩ := gB_ok h
      exact ⟨[none, none, none, none, none, none, none, none, some (Value.bool o8), none, none, none, none, none, none, none, none, none, none, none, none, none, none, none, none, none, none, none, none, none, none, none, none, none, none, none, none, none, none, none, none, none, none, none, none, none, none, none, none, none, none, none, none, none, none, none, none, none], hlen, ⟨h8, trivial⟩, h⟩
  · intro f w K h
    have e : lid law07_StageNil.b0 = 8 := by kernel_rfl
    rw [e] at h
    exact h
theorem law07_StageNil.eqG (F22 : type_of% @stage_Stage_Learn.f) (F15 : type_of% @stage_New.f) (F16 : type_of% @law07_awake.f) (F19 : type_of% @stage_Stage_At.f) (F17 : type_of% @stage_Stage_Refine.f) (a0 : Int) (a1 : Int) (a2 : Int) (a3 : Int) (w : World) (K : Value → World → Prop) : afn (law07_StageNil.CG F22 F15 F16 F19 F17) law07_StageNil.L law07_StageNil.D tab Try.f5 [(Value.int .i64 a0), (Value.int .i64 a1), (Value.int .i64 a2), (Value.int .i64 a3)] w K = law07_StageNil.G F22 F15 F16 F19 F17 a0 a1 a2 a3 w (fun r0 w => K (Value.bool r0) w) := by kernel_rfl
theorem law07_StageNil.eq (a0 : Int) (a1 : Int) (a2 : Int) (a3 : Int) (w : World) (K : Value → World → Prop) : afn law07_StageNil.C law07_StageNil.L law07_StageNil.D tab Try.f5 [(Value.int .i64 a0), (Value.int .i64 a1), (Value.int .i64 a2), (Value.int .i64 a3)] w K = law07_StageNil.f a0 a1 a2 a3 w (fun r0 w => K (Value.bool r0) w) := law07_StageNil.eqG @stage_Stage_Learn.f @stage_New.f @law07_awake.f @stage_Stage_At.f @stage_Stage_Refine.f a0 a1 a2 a3 w K
theorem law07_StageNil.ok : FSound Try.prog 5 law07_StageNil.h := by
  intro args w K h
  unfold law07_StageNil.h law07_StageNil.H at h
  split at h
  ·
    replace h := vI_ok h
    obtain ⟨a0, rfl, h⟩ := h
    replace h := vI_ok h
    obtain ⟨a1, rfl, h⟩ := h
    replace h := vI_ok h
    obtain ⟨a2, rfl, h⟩ := h
    replace h := vI_ok h
    obtain ⟨a3, rfl, h⟩ := h
    refine ⟨by kernel_rfl, fn_ok tab_ok law07_StageNil.C_ok (L := law07_StageNil.L) (D := law07_StageNil.D) Try.func5 law07_StageNil.hb (by kernel_rfl) (by rw [law07_StageNil.c_loops]; exact lcons law07_StageNil.lok8 (lnil)) (Nat.le_of_ble_eq_true (by kernel_rfl)) ?_⟩
    rw [law07_StageNil.eq]
    exact h
  · exact h.elim
end Go.Proofs.Ytdbnobeopgfhgaa.G
