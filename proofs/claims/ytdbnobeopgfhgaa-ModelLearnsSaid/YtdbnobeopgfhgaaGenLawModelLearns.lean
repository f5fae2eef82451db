/- Go functions as predicate transformers, written by a program of this session (gen.py), with their soundness. -/
import Derived.Test.YtdbnobeopgfhgaaGen4
set_option linter.unusedVariables false
set_option linter.unusedSimpArgs false
set_option maxRecDepth 100000
namespace Go.Proofs.Ytdbnobeopgfhgaa.G
open Go Go.Proofs.Ytdbnobeopgfhgaa.Vm
/-! ### valise/valiselaw08.ModelLearns: function 7 -/
def law08_ModelLearns.l8 : Nat → Int → Option Addr → Int → Int → World → (Int → Option Addr → Int → World → Prop) → Prop
  | 0, _, _, _, _, _, _ => False
  | N + 1, y1, y5, y6, y7, w, K2 =>
    bif (decide (y7 ≥ 0)) then
      if (IntKind.wrap .u64 y7) < 0 then False else
      model_Model_Learn.f y5 (IntKind.wrap .i64 (band .u8 (shr .u8 y1 (min (Int.toNat (IntKind.wrap .u64 y7)) (IntKind.bits .u8))) 1)) w fun w =>
      let v7_18 := (IntKind.wrap .i64 (y7 - 1))
      law08_ModelLearns.l8 N y1 y5 y6 v7_18 w K2
    else
      K2 y1 y5 y6 w

def law08_ModelLearns.l5 : Nat → Int → Option Addr → Int → World → (Int → Option Addr → World → Prop) → Prop
  | 0, _, _, _, _, _ => False
  | N + 1, y1, y5, y6, w, K0 =>
    bif (decide (y6 < 60)) then
      ∃ N_19 : Nat, law08_ModelLearns.l8 N_19 y1 y5 y6 7 w
      (fun o1_20 o5_21 o6_22 w =>
        let v6_23 := (IntKind.wrap .i64 (o6_22 + 1))
        law08_ModelLearns.l5 N o1_20 o5_21 v6_23 w K0)
    else
      K0 y1 y5 w

def law08_ModelLearns.l12 : Nat → Int → Option Addr → Int → World → (World → Prop) → (Bool → World → Prop) → Prop
  | 0, _, _, _, _, _, _ => False
  | N + 1, y1, y5, y8, w, K4, Kr =>
    bif (decide (y8 ≥ 0)) then
      model_Model_Chance.f y5 w fun r39_33 w =>
      let J_41 := fun (j9_37 : Int) (w : World) =>
        ((bif (decide (j9_37 < 3072)) then
          Kr false w
        else
          if (IntKind.wrap .u64 y8) < 0 then False else
          model_Model_Learn.f y5 (IntKind.wrap .i64 (band .u8 (shr .u8 y1 (min (Int.toNat (IntKind.wrap .u64 y8)) (IntKind.bits .u8))) 1)) w fun w =>
          let v8_42 := (IntKind.wrap .i64 (y8 - 1))
          law08_ModelLearns.l12 N y1 y5 v8_42 w K4 Kr) : Prop)
      if (IntKind.wrap .u64 y8) < 0 then False else
      bif ((band .u8 (shr .u8 y1 (min (Int.toNat (IntKind.wrap .u64 y8)) (IntKind.bits .u8))) 1) == 0) then
        let v9_36 := (IntKind.wrap .i64 (4096 - r39_33))
        J_41 v9_36 w
      else
        J_41 r39_33 w
    else
      K4 w

def law08_ModelLearns.f (a0 : Int) (a1 : Int) (w : World) (K : Bool → World → Prop) : Prop :=
  model_New.f a0 w fun r11_3 w =>
  law08_awake.f  w fun r12_6 w =>
  bif (!r12_6) then
    K false w
  else
    bif r11_3.isNone then
      K false w
    else
      ∃ N_24 : Nat, law08_ModelLearns.l5 N_24 a1 r11_3 0 w
      (fun o1_25 o5_26 w =>
        ∃ N_43 : Nat, law08_ModelLearns.l12 N_43 o1_25 o5_26 7 w
        (fun w =>
          K true w)
        (fun o4_44 w =>
          K o4_44 w))
def law08_ModelLearns.H (F : type_of% @law08_ModelLearns.f) : Hf := fun args w K => match args with
  | [v0, v1] => vI .i64 v0 fun a0 => vI .u8 v1 fun a1 => F a0 a1 w (fun r0 w => K (Value.bool r0) w)
  | _ => False
def law08_ModelLearns.h : Hf := law08_ModelLearns.H @law08_ModelLearns.f
def law08_ModelLearns.CG (F24 : type_of% @model_New.f) (F26 : type_of% @law08_awake.f) (F29 : type_of% @model_Model_Learn.f) (F27 : type_of% @model_Model_Chance.f) : Hd := hcons 27 (model_Model_Chance.H F27) (hcons 29 (model_Model_Learn.H F29) (hcons 26 (law08_awake.H F26) (hcons 24 (model_New.H F24) (hnil))))
def law08_ModelLearns.C : Hd := law08_ModelLearns.CG @model_New.f @law08_awake.f @model_Model_Learn.f @model_Model_Chance.f
def law08_ModelLearns.G (F24 : type_of% @model_New.f) (F26 : type_of% @law08_awake.f) (F29 : type_of% @model_Model_Learn.f) (F27 : type_of% @model_Model_Chance.f) (a0 : Int) (a1 : Int) (w : World) (K : Bool → World → Prop) : Prop :=
  F24 a0 w fun r11_3 w =>
  F26  w fun r12_6 w =>
  bif (!r12_6) then
    K false w
  else
    bif r11_3.isNone then
      K false w
    else
      ∃ N_24 : Nat, law08_ModelLearns.l5 N_24 a1 r11_3 0 w
      (fun o1_25 o5_26 w =>
        ∃ N_43 : Nat, law08_ModelLearns.l12 N_43 o1_25 o5_26 7 w
        (fun w =>
          K true w)
        (fun o4_44 w =>
          K o4_44 w))
theorem law08_ModelLearns.C_ok : CSound Try.prog law08_ModelLearns.C := hcons_ok model_Model_Chance.ok (hcons_ok model_Model_Learn.ok (hcons_ok law08_awake.ok (hcons_ok model_New.ok (hnil_ok))))
def law08_ModelLearns.D : Nat → Plan := fun i => .done
noncomputable def law08_ModelLearns.c : Code := Try.f7.body.getD .skip
theorem law08_ModelLearns.hb : Try.f7.body = some law08_ModelLearns.c := by kernel_rfl
noncomputable def law08_ModelLearns.b0 : Code := (loopsOf law08_ModelLearns.c).getD 0 .skip
noncomputable def law08_ModelLearns.b0_0 : Code := (loopsOf law08_ModelLearns.b0).getD 0 .skip
theorem law08_ModelLearns.b0_0_loops : loopsOf law08_ModelLearns.b0_0 = [] := by kernel_rfl
theorem law08_ModelLearns.b0_loops : loopsOf law08_ModelLearns.b0 = [law08_ModelLearns.b0_0] := by kernel_rfl
noncomputable def law08_ModelLearns.b1 : Code := (loopsOf law08_ModelLearns.c).getD 1 .skip
theorem law08_ModelLearns.b1_loops : loopsOf law08_ModelLearns.b1 = [] := by kernel_rfl
theorem law08_ModelLearns.c_loops : loopsOf law08_ModelLearns.c = [law08_ModelLearns.b0, law08_ModelLearns.b1] := by kernel_rfl
def law08_ModelLearns.l8G (F24 : type_of% @model_New.f) (F26 : type_of% @law08_awake.f) (F29 : type_of% @model_Model_Learn.f) (F27 : type_of% @model_Model_Chance.f) (R : Int → Option Addr → Int → Int → World → (Int → Option Addr → Int → World → Prop) → Prop) : Int → Option Addr → Int → Int → World → (Int → Option Addr → Int → World → Prop) → Prop := fun y1 y5 y6 y7 w K2 =>
    bif (decide (y7 ≥ 0)) then
      if (IntKind.wrap .u64 y7) < 0 then False else
      F29 y5 (IntKind.wrap .i64 (band .u8 (shr .u8 y1 (min (Int.toNat (IntKind.wrap .u64 y7)) (IntKind.bits .u8))) 1)) w fun w =>
      let v7_18 := (IntKind.wrap .i64 (y7 - 1))
      R y1 y5 y6 v7_18 w K2
    else
      K2 y1 y5 y6 w

def law08_ModelLearns.l5G (F24 : type_of% @model_New.f) (F26 : type_of% @law08_awake.f) (F29 : type_of% @model_Model_Learn.f) (F27 : type_of% @model_Model_Chance.f) (R : Int → Option Addr → Int → World → (Int → Option Addr → World → Prop) → Prop) : Int → Option Addr → Int → World → (Int → Option Addr → World → Prop) → Prop := fun y1 y5 y6 w K0 =>
    bif (decide (y6 < 60)) then
      ∃ N_19 : Nat, law08_ModelLearns.l8 N_19 y1 y5 y6 7 w
      (fun o1_20 o5_21 o6_22 w =>
        let v6_23 := (IntKind.wrap .i64 (o6_22 + 1))
        R o1_20 o5_21 v6_23 w K0)
    else
      K0 y1 y5 w

def law08_ModelLearns.l12G (F24 : type_of% @model_New.f) (F26 : type_of% @law08_awake.f) (F29 : type_of% @model_Model_Learn.f) (F27 : type_of% @model_Model_Chance.f) (R : Int → Option Addr → Int → World → (World → Prop) → (Bool → World → Prop) → Prop) : Int → Option Addr → Int → World → (World → Prop) → (Bool → World → Prop) → Prop := fun y1 y5 y8 w K4 Kr =>
    bif (decide (y8 ≥ 0)) then
      F27 y5 w fun r39_33 w =>
      let J_41 := fun (j9_37 : Int) (w : World) =>
        ((bif (decide (j9_37 < 3072)) then
          Kr false w
        else
          if (IntKind.wrap .u64 y8) < 0 then False else
          F29 y5 (IntKind.wrap .i64 (band .u8 (shr .u8 y1 (min (Int.toNat (IntKind.wrap .u64 y8)) (IntKind.bits .u8))) 1)) w fun w =>
          let v8_42 := (IntKind.wrap .i64 (y8 - 1))
          R y1 y5 v8_42 w K4 Kr) : Prop)
      if (IntKind.wrap .u64 y8) < 0 then False else
      bif ((band .u8 (shr .u8 y1 (min (Int.toNat (IntKind.wrap .u64 y8)) (IntKind.bits .u8))) 1) == 0) then
        let v9_36 := (IntKind.wrap .i64 (4096 - r39_33))
        J_41 v9_36 w
      else
        J_41 r39_33 w
    else
      K4 w

def law08_ModelLearns.hn8 (N : Nat) (f : Fr) (w : World) (K : AExit → Fr → World → Prop) : Prop :=
  gN f 58 <| gI .u8 f 1 fun y1 => gP f 5 fun y5 => gI .i64 f 6 fun y6 => gI .i64 f 7 fun y7 => law08_ModelLearns.l8 N y1 y5 y6 y7 w (fun o1 o5 o6 w => K (.exit 2) [none, some (Value.int .u8 o1), none, none, none, some (Value.pointer o5), some (Value.int .i64 o6), none, none, none, none, none, none, none, none, none, none, none, none, none, none, none, none, none, none, none, none, none, none, none, none, none, none, none, none, none, none, none, none, none, none, none, none, none, none, none, none, none, none, none, none, none, none, none, none, none, none, none] w)
def law08_ModelLearns.hx8 : AExit → Fr → World → (AExit → Fr → World → Prop) → Prop := fun e f w K => match e with
  | .normal => False
  | .exit i => (match Nat.beq i 2 with | true => gN f 58 <| gI .u8 f 1 fun o1 => gP f 5 fun o5 => gI .i64 f 6 fun o6 => K (.exit 2) [none, some (Value.int .u8 o1), none, none, none, some (Value.pointer o5), some (Value.int .i64 o6), none, none, none, none, none, none, none, none, none, none, none, none, none, none, none, none, none, none, none, none, none, none, none, none, none, none, none, none, none, none, none, none, none, none, none, none, none, none, none, none, none, none, none, none, none, none, none, none, none, none, none] w | false => False)
  | .ret => False
def law08_ModelLearns.hn5 (N : Nat) (f : Fr) (w : World) (K : AExit → Fr → World → Prop) : Prop :=
  gN f 58 <| gI .u8 f 1 fun y1 => gP f 5 fun y5 => gI .i64 f 6 fun y6 => law08_ModelLearns.l5 N y1 y5 y6 w (fun o1 o5 w => K (.exit 0) [none, some (Value.int .u8 o1), none, none, none, some (Value.pointer o5), none, none, none, none, none, none, none, none, none, none, none, none, none, none, none, none, none, none, none, none, none, none, none, none, none, none, none, none, none, none, none, none, none, none, none, none, none, none, none, none, none, none, none, none, none, none, none, none, none, none, none, none] w)
def law08_ModelLearns.hx5 : AExit → Fr → World → (AExit → Fr → World → Prop) → Prop := fun e f w K => match e with
  | .normal => False
  | .exit i => (match Nat.beq i 0 with | true => gN f 58 <| gI .u8 f 1 fun o1 => gP f 5 fun o5 => K (.exit 0) [none, some (Value.int .u8 o1), none, none, none, some (Value.pointer o5), none, none, none, none, none, none, none, none, none, none, none, none, none, none, none, none, none, none, none, none, none, none, none, none, none, none, none, none, none, none, none, none, none, none, none, none, none, none, none, none, none, none, none, none, none, none, none, none, none, none, none, none] w | false => False)
  | .ret => False
def law08_ModelLearns.hn12 (N : Nat) (f : Fr) (w : World) (K : AExit → Fr → World → Prop) : Prop :=
  gN f 58 <| gI .u8 f 1 fun y1 => gP f 5 fun y5 => gI .i64 f 8 fun y8 => law08_ModelLearns.l12 N y1 y5 y8 w (fun w => K (.exit 4) [none, none, none, none, none, none, none, none, none, none, none, none, none, none, none, none, none, none, none, none, none, none, none, none, none, none, none, none, none, none, none, none, none, none, none, none, none, none, none, none, none, none, none, none, none, none, none, none, none, none, none, none, none, none, none, none, none, none] w) (fun o4 w => K .ret [none, none, none, none, some (Value.bool o4), none, none, none, none, none, none, none, none, none, none, none, none, none, none, none, none, none, none, none, none, none, none, none, none, none, none, none, none, none, none, none, none, none, none, none, none, none, none, none, none, none, none, none, none, none, none, none, none, none, none, none, none, none] w)
def law08_ModelLearns.hx12 : AExit → Fr → World → (AExit → Fr → World → Prop) → Prop := fun e f w K => match e with
  | .normal => False
  | .exit i => (match Nat.beq i 4 with | true => gN f 58 <|  K (.exit 4) [none, none, none, none, none, none, none, none, none, none, none, none, none, none, none, none, none, none, none, none, none, none, none, none, none, none, none, none, none, none, none, none, none, none, none, none, none, none, none, none, none, none, none, none, none, none, none, none, none, none, none, none, none, none, none, none, none, none] w | false => False)
  | .ret => gN f 58 <| gB f 4 fun o4 => K .ret [none, none, none, none, some (Value.bool o4), none, none, none, none, none, none, none, none, none, none, none, none, none, none, none, none, none, none, none, none, none, none, none, none, none, none, none, none, none, none, none, none, none, none, none, none, none, none, none, none, none, none, none, none, none, none, none, none, none, none, none, none, none] w
def law08_ModelLearns.L : LHd := fun l f w K => (match Nat.beq l 12 with | true => ∃ N, law08_ModelLearns.hn12 N f w K | false => (match Nat.beq l 5 with | true => ∃ N, law08_ModelLearns.hn5 N f w K | false => (match Nat.beq l 8 with | true => ∃ N, law08_ModelLearns.hn8 N f w K | false => False)))
theorem law08_ModelLearns.leG8 (F24 : type_of% @model_New.f) (F26 : type_of% @law08_awake.f) (F29 : type_of% @model_Model_Learn.f) (F27 : type_of% @model_Model_Chance.f) (N : Nat) (y1 : Int) (y5 : Option Addr) (y6 : Int) (y7 : Int) (w : World) (K : AExit → Fr → World → Prop) : awp (law08_ModelLearns.CG F24 F26 F29 F27) law08_ModelLearns.L law08_ModelLearns.D tab law08_ModelLearns.b0_0 (lpost law08_ModelLearns.hn8 law08_ModelLearns.hx8 N K) [none, some (Value.int .u8 y1), none, none, none, some (Value.pointer y5), some (Value.int .i64 y6), some (Value.int .i64 y7), none, none, none, none, none, none, none, none, none, none, none, none, none, none, none, none, none, none, none, none, none, none, none, none, none, none, none, none, none, none, none, none, none, none, none, none, none, none, none, none, none, none, none, none, none, none, none, none, none, none] w = law08_ModelLearns.l8G F24 F26 F29 F27 (law08_ModelLearns.l8 N) y1 y5 y6 y7 w (fun o1 o5 o6 w => K (.exit 2) [none, some (Value.int .u8 o1), none, none, none, some (Value.pointer o5), some (Value.int .i64 o6), none, none, none, none, none, none, none, none, none, none, none, none, none, none, none, none, none, none, none, none, none, none, none, none, none, none, none, none, none, none, none, none, none, none, none, none, none, none, none, none, none, none, none, none, none, none, none, none, none, none, none] w) := by kernel_rfl
theorem law08_ModelLearns.les8 (N : Nat) : law08_ModelLearns.l8 (N + 1) = law08_ModelLearns.l8G @model_New.f @law08_awake.f @model_Model_Learn.f @model_Model_Chance.f (law08_ModelLearns.l8 N) := by kernel_rfl
theorem law08_ModelLearns.le8 (N : Nat) (y1 : Int) (y5 : Option Addr) (y6 : Int) (y7 : Int) (w : World) (K : AExit → Fr → World → Prop) : awp law08_ModelLearns.C law08_ModelLearns.L law08_ModelLearns.D tab law08_ModelLearns.b0_0 (lpost law08_ModelLearns.hn8 law08_ModelLearns.hx8 N K) [none, some (Value.int .u8 y1), none, none, none, some (Value.pointer y5), some (Value.int .i64 y6), some (Value.int .i64 y7), none, none, none, none, none, none, none, none, none, none, none, none, none, none, none, none, none, none, none, none, none, none, none, none, none, none, none, none, none, none, none, none, none, none, none, none, none, none, none, none, none, none, none, none, none, none, none, none, none, none] w = law08_ModelLearns.l8 (N + 1) y1 y5 y6 y7 w (fun o1 o5 o6 w => K (.exit 2) [none, some (Value.int .u8 o1), none, none, none, some (Value.pointer o5), some (Value.int .i64 o6), none, none, none, none, none, none, none, none, none, none, none, none, none, none, none, none, none, none, none, none, none, none, none, none, none, none, none, none, none, none, none, none, none, none, none, none, none, none, none, none, none, none, none, none, none, none, none, none, none, none, none] w) := by
  rw [law08_ModelLearns.les8]
  exact law08_ModelLearns.leG8 @model_New.f @law08_awake.f @model_Model_Learn.f @model_Model_Chance.f N y1 y5 y6 y7 w K
theorem law08_ModelLearns.lok8 : LoopOk Try.prog law08_ModelLearns.L law08_ModelLearns.b0_0 := by
  refine loop_ok tab_ok law08_ModelLearns.C_ok (D := law08_ModelLearns.D) (law08_ModelLearns.hn8) (law08_ModelLearns.hx8) (by kernel_rfl) (by rw [law08_ModelLearns.b0_0_loops]; exact lnil) ?_ ?_ ?_ ?_
  · intro f w K h
    unfold law08_ModelLearns.hn8 at h
    obtain ⟨hlen, h⟩ := gN_ok h
    obtain ⟨y1, h1, h⟩ := gI_ok h
    obtain ⟨y5, h5, h⟩ := gP_ok h
    obtain ⟨y6, h6, h⟩ := gI_ok h
    obtain ⟨y7, h7, h⟩ := gI_ok h
    exact h
  · intro N f w K h
    unfold law08_ModelLearns.hn8 at h
    obtain ⟨hlen, h⟩ := gN_ok h
    obtain ⟨y1, h1, h⟩ := gI_ok h
    obtain ⟨y5, h5, h⟩ := gP_ok h
    obtain ⟨y6, h6, h⟩ := gI_ok h
    obtain ⟨y7, h7, h⟩ := gI_ok h
    refine ⟨[none, some (Value.int .u8 y1), none, none, none, some (Value.pointer y5), some (Value.int .i64 y6), some (Value.int .i64 y7), none, none, none, none, none, none, none, none, none, none, none, none, none, none, none, none, none, none, none, none, none, none, none, none, none, none, none, none, none, none, none, none, none, none, none, none, none, none, none, none, none, none, none, none, none, none, none, none, none, none], hlen, ⟨h1, h5, h6, h7, trivial⟩, ?_⟩
    rw [law08_ModelLearns.le8]
    exact h
  · intro e f w K h
    cases e with
    | normal => exact h.elim
    | exit i =>
      unfold law08_ModelLearns.hx8 at h
      simp only at h
      split at h
      · rename_i hb
        obtain rfl := Nat.eq_of_beq_eq_true hb
        obtain ⟨hlen, h⟩ := gN_ok h
        obtain ⟨o1, h1, h⟩ := gI_ok h
        obtain ⟨o5, h5, h⟩ := gP_ok h
        obtain ⟨o6, h6, h⟩ := gI_ok h
        exact ⟨[none, some (Value.int .u8 o1), none, none, none, some (Value.pointer o5), some (Value.int .i64 o6), none, none, none, none, none, none, none, none, none, none, none, none, none, none, none, none, none, none, none, none, none, none, none, none, none, none, none, none, none, none, none, none, none, none, none, none, none, none, none, none, none, none, none, none, none, none, none, none, none, none, none], hlen, ⟨h1, h5, h6, trivial⟩, h⟩
      · exact (show False from h).elim
    | ret =>
      exact (show False from h).elim
  · intro f w K h
    have e : lid law08_ModelLearns.b0_0 = 8 := by kernel_rfl
    rw [e] at h
    exact h
theorem law08_ModelLearns.leG5 (F24 : type_of% @model_New.f) (F26 : type_of% @law08_awake.f) (F29 : type_of% @model_Model_Learn.f) (F27 : type_of% @model_Model_Chance.f) (N : Nat) (y1 : Int) (y5 : Option Addr) (y6 : Int) (w : World) (K : AExit → Fr → World → Prop) : awp (law08_ModelLearns.CG F24 F26 F29 F27) law08_ModelLearns.L law08_ModelLearns.D tab law08_ModelLearns.b0 (lpost law08_ModelLearns.hn5 law08_ModelLearns.hx5 N K) [none, some (Value.int .u8 y1), none, none, none, some (Value.pointer y5), some (Value.int .i64 y6), none, none, none, none, none, none, none, none, none, none, none, none, none, none, none, none, none, none, none, none, none, none, none, none, none, none, none, none, none, none, none, none, none, none, none, none, none, none, none, none, none, none, none, none, none, none, none, none, none, none, none] w = law08_ModelLearns.l5G F24 F26 F29 F27 (law08_ModelLearns.l5 N) y1 y5 y6 w (fun o1 o5 w => K (.exit 0) [none, some (Value.int .u8 o1), none, none, none, some (Value.pointer o5), none, none, none, none, none, none, none, none, none, none, none, none, none, none, none, none, none, none, none, none, none, none, none, none, none, none, none, none, none, none, none, none, none, none, none, none, none, none, none, none, none, none, none, none, none, none, none, none, none, none, none, none] w) := by kernel_rfl
theorem law08_ModelLearns.les5 (N : Nat) : law08_ModelLearns.l5 (N + 1) = law08_ModelLearns.l5G @model_New.f @law08_awake.f @model_Model_Learn.f @model_Model_Chance.f (law08_ModelLearns.l5 N) := by kernel_rfl
theorem law08_ModelLearns.le5 (N : Nat) (y1 : Int) (y5 : Option Addr) (y6 : Int) (w : World) (K : AExit → Fr → World → Prop) : awp law08_ModelLearns.C law08_ModelLearns.L law08_ModelLearns.D tab law08_ModelLearns.b0 (lpost law08_ModelLearns.hn5 law08_ModelLearns.hx5 N K) [none, some (Value.int .u8 y1), none, none, none, some (Value.pointer y5), some (Value.int .i64 y6), none, none, none, none, none, none, none, none, none, none, none, none, none, none, none, none, none, none, none, none, none, none, none, none, none, none, none, none, none, none, none, none, none, none, none, none, none, none, none, none, none, none, none, none, none, none, none, none, none, none, none] w = law08_ModelLearns.l5 (N + 1) y1 y5 y6 w (fun o1 o5 w => K (.exit 0) [none, some (Value.int .u8 o1), none, none, none, some (Value.pointer o5), none, none, none, none, none, none, none, none, none, none, none, none, none, none, none, none, none, none, none, none, none, none, none, none, none, none, none, none, none, none, none, none, none, none, none, none, none, none, none, none, none, none, none, none, none, none, none, none, none, none, none, none] w) := by
  rw [law08_ModelLearns.les5]
  exact law08_ModelLearns.leG5 @model_New.f @law08_awake.f @model_Model_Learn.f @model_Model_Chance.f N y1 y5 y6 w K
theorem law08_ModelLearns.lok5 : LoopOk Try.prog law08_ModelLearns.L law08_ModelLearns.b0 := by
  refine loop_ok tab_ok law08_ModelLearns.C_ok (D := law08_ModelLearns.D) (law08_ModelLearns.hn5) (law08_ModelLearns.hx5) (by kernel_rfl) (by rw [law08_ModelLearns.b0_loops]; exact lcons law08_ModelLearns.lok8 (lnil)) ?_ ?_ ?_ ?_
  · intro f w K h
    unfold law08_ModelLearns.hn5 at h
    obtain ⟨hlen, h⟩ := gN_ok h
    obtain ⟨y1, h1, h⟩ := gI_ok h
    obtain ⟨y5, h5, h⟩ := gP_ok h
    obtain ⟨y6, h6, h⟩ := gI_ok h
    exact h
  · intro N f w K h
    unfold law08_ModelLearns.hn5 at h
    obtain ⟨hlen, h⟩ := gN_ok h
    obtain ⟨y1, h1, h⟩ := gI_ok h
    obtain ⟨y5, h5, h⟩ := gP_ok h
    obtain ⟨y6, h6, h⟩ := gI_ok h
    refine ⟨[none, some (Value.int .u8 y1), none, none, none, some (Value.pointer y5), some (Value.int .i64 y6), none, none, none, none, none, none, none, none, none, none, none, none, none, none, none, none, none, none, none, none, none, none, none, none, none, none, none, none, none, none, none, none, none, none, none, none, none, none, none, none, none, none, none, none, none, none, none, none, none, none, none], hlen, ⟨h1, h5, h6, trivial⟩, ?_⟩
    rw [law08_ModelLearns.le5]
    exact h
  · intro e f w K h
    cases e with
    | normal => exact h.elim
    | exit i =>
      unfold law08_ModelLearns.hx5 at h
      simp only at h
      split at h
      · rename_i hb
        obtain rfl := Nat.eq_of_beq_eq_true hb
        obtain ⟨hlen, h⟩ := gN_ok h
        obtain ⟨o1, h1, h⟩ := gI_ok h
        obtain ⟨o5, h5, h⟩ := gP_ok h
        exact ⟨[none, some (Value.int .u8 o1), none, none, none, some (Value.pointer o5), none, none, none, none, none, none, none, none, none, none, none, none, none, none, none, none, none, none, none, none, none, none, none, none, none, none, none, none, none, none, none, none, none, none, none, none, none, none, none, none, none, none, none, none, none, none, none, none, none, none, none, none], hlen, ⟨h1, h5, trivial⟩, h⟩
      · exact (show False from h).elim
    | ret =>
      exact (show False from h).elim
  · intro f w K h
    have e : lid law08_ModelLearns.b0 = 5 := by kernel_rfl
    rw [e] at h
    exact h
theorem law08_ModelLearns.leG12 (F24 : type_of% @model_New.f) (F26 : type_of% @law08_awake.f) (F29 : type_of% @model_Model_Learn.f) (F27 : type_of% @model_Model_Chance.f) (N : Nat) (y1 : Int) (y5 : Option Addr) (y8 : Int) (w : World) (K : AExit → Fr → World → Prop) : awp (law08_ModelLearns.CG F24 F26 F29 F27) law08_ModelLearns.L law08_ModelLearns.D tab law08_ModelLearns.b1 (lpost law08_ModelLearns.hn12 law08_ModelLearns.hx12 N K) [none, some (Value.int .u8 y1), none, none, none, some (Value.pointer y5), none, none, some (Value.int .i64 y8), none, none, none, none, none, none, none, none, none, none, none, none, none, none, none, none, none, none, none, none, none, none, none, none, none, none, none, none, none, none, none, none, none, none, none, none, none, none, none, none, none, none, none, none, none, none, none, none, none] w = law08_ModelLearns.l12G F24 F26 F29 F27 (law08_ModelLearns.l12 N) y1 y5 y8 w (fun w => K (.exit 4) [none, none, none, none, none, none, none, none, none, none, none, none, none, none, none, none, none, none, none, none, none, none, none, none, none, none, none, none, none, none, none, none, none, none, none, none, none, none, none, none, none, none, none, none, none, none, none, none, none, none, none, none, none, none, none, none, none, none] w) (fun o4 w => K .ret [none, none, none, none, some (Value.bool o4), none, none, none, none, none, none, none, none, none, none, none, none, none, none, none, none, none, none, none, none, none, none, none, none, none, none, none, none, none, none, none, none, none, none, none, none, none, none, none, none, none, none, none, none, none, none, none, none, none, none, none, none, none] w) := by kernel_rfl
theorem law08_ModelLearns.les12 (N : Nat) : law08_ModelLearns.l12 (N + 1) = law08_ModelLearns.l12G @model_New.f @law08_awake.f @model_Model_Learn.f @model_Model_Chance.f (law08_ModelLearns.l12 N) := by kernel_rfl
theorem law08_ModelLearns.le12 (N : Nat) (y1 : Int) (y5 : Option Addr) (y8 : Int) (w : World) (K : AExit → Fr → World → Prop) : awp law08_ModelLearns.C law08_ModelLearns.L law08_ModelLearns.D tab law08_ModelLearns.b1 (lpost law08_ModelLearns.hn12 law08_ModelLearns.hx12 N K) [none, some (Value.int .u8 y1), none, none, none, some (Value.pointer y5), none, none, some (Value.int .i64 y8), none, none, none, none, none, none, none, none, none, none, none, none, none, none, none, none, none, none, none, none, none, none, none, none, none, none, none, none, none, none, none, none, none, none, none, none, none, none, none, none, none, none, none, none, none, none, none, none, none] w = law08_ModelLearns.l12 (N + 1) y1 y5 y8 w (fun w => K (.exit 4) [none, none, none, none, none, none, none, none, none, none, none, none, none, none, none, none, none, none, none, none, none, none, none, none, none, none, none, none, none, none, none, none, none, none, none, none, none, none, none, none, none, none, none, none, none, none, none, none, none, none, none, none, none, none, none, none, none, none] w) (fun o4 w => K .ret [none, none, none, none, some (Value.bool o4), none, none, none, none, none, none, none, none, none, none, none, none, none, none, none, none, none, none, none, none, none, none, none, none, none, none, none, none, none, none, none, none, none, none, none, none, none, none, none, none, none, none, none, none, none, none, none, none, none, none, none, none, none] w) := by
  rw [law08_ModelLearns.les12]
  exact law08_ModelLearns.leG12 @model_New.f @law08_awake.f @model_Model_Learn.f @model_Model_Chance.f N y1 y5 y8 w K
theorem law08_ModelLearns.lok12 : LoopOk Try.prog law08_ModelLearns.L law08_ModelLearns.b1 := by
  refine loop_ok tab_ok law08_ModelLearns.C_ok (D := law08_ModelLearns.D) (law08_ModelLearns.hn12) (law08_ModelLearns.hx12) (by kernel_rfl) (by rw [law08_ModelLearns.b1_loops]; exact lnil) ?_ ?_ ?_ ?_
  · intro f w K h
    unfold law08_ModelLearns.hn12 at h
    obtain ⟨hlen, h⟩ := gN_ok h
    obtain ⟨y1, h1, h⟩ := gI_ok h
    obtain ⟨y5, h5, h⟩ := gP_ok h
    obtain ⟨y8, h8, h⟩ := gI_ok h
    exact h
  · intro N f w K h
    unfold law08_ModelLearns.hn12 at h
    obtain ⟨hlen, h⟩ := gN_ok h
    obtain ⟨y1, h1, h⟩ := gI_ok h
    obtain ⟨y5, h5, h⟩ := gP_ok h
    obtain ⟨y8, h8, h⟩ := gI_ok h
    refine ⟨[none, some (Value.int .u8 y1), none, none, none, some (Value.pointer y5), none, none, some (Value.int .i64 y8), none, none, none, none, none, none, none, none, none, none, none, none, none, none, none, none, none, none, none, none, none, none, none, none, none, none, none, none, none, none, none, none, none, none, none, none, none, none, none, none, none, none, none, none, none, none, none, none, none], hlen, ⟨h1, h5, h8, trivial⟩, ?_⟩
    rw [law08_ModelLearns.le12]
    exact h
  · intro e f w K h
    cases e with
    | normal => exact h.elim
    | exit i =>
      unfold law08_ModelLearns.hx12 at h
      simp only at h
      split at h
      · rename_i hb
        obtain rfl := Nat.eq_of_beq_eq_true hb
        obtain ⟨hlen, h⟩ := gN_ok h
        exact ⟨[none, none, none, none, none, none, none, none, none, none, none, none, none, none, none, none, none, none, none, none, none, none, none, none, none, none, none, none, none, none, none, none, none, none, none, none, none, none, none, none, none, none, none, none, none, none, none, none, none, none, none, none, none, none, none, none, none, none], hlen, trivial, h⟩
      · exact (show False from h).elim
    | ret =>
      unfold law08_ModelLearns.hx12 at h
      simp only at h
      obtain ⟨hlen, h⟩ := gN_ok h
      obtain ⟨o4, h4, h⟩ := gB_ok h
      exact ⟨[none, none, none, none, some (Value.bool o4), none, none, none, none, none, none, none, none, none, none, none, none, none, none, none, none, none, none, none, none, none, none, none, none, none, none, none, none, none, none, none, none, none, none, none, none, none, none, none, none, none, none, none, none, none, none, none, none, none, none, none, none, none], hlen, ⟨h4, trivial⟩, h⟩
  · intro f w K h
    have e : lid law08_ModelLearns.b1 = 12 := by kernel_rfl
    rw [e] at h
    exact h
theorem law08_ModelLearns.eqG (F24 : type_of% @model_New.f) (F26 : type_of% @law08_awake.f) (F29 : type_of% @model_Model_Learn.f) (F27 : type_of% @model_Model_Chance.f) (a0 : Int) (a1 : Int) (w : World) (K : Value → World → Prop) : afn (law08_ModelLearns.CG F24 F26 F29 F27) law08_ModelLearns.L law08_ModelLearns.D tab Try.f7 [(Value.int .i64 a0), (Value.int .u8 a1)] w K = law08_ModelLearns.G F24 F26 F29 F27 a0 a1 w (fun r0 w => K (Value.bool r0) w) := by kernel_rfl
theorem law08_ModelLearns.eq (a0 : Int) (a1 : Int) (w : World) (K : Value → World → Prop) : afn law08_ModelLearns.C law08_ModelLearns.L law08_ModelLearns.D tab Try.f7 [(Value.int .i64 a0), (Value.int .u8 a1)] w K = law08_ModelLearns.f a0 a1 w (fun r0 w => K (Value.bool r0) w) := law08_ModelLearns.eqG @model_New.f @law08_awake.f @model_Model_Learn.f @model_Model_Chance.f a0 a1 w K
theorem law08_ModelLearns.ok : FSound Try.prog 7 law08_ModelLearns.h := by
  intro args w K h
  unfold law08_ModelLearns.h law08_ModelLearns.H at h
  split at h
  ·
    replace h := vI_ok h
    obtain ⟨a0, rfl, h⟩ := h
    replace h := vI_ok h
    obtain ⟨a1, rfl, h⟩ := h
    refine ⟨by kernel_rfl, fn_ok tab_ok law08_ModelLearns.C_ok (L := law08_ModelLearns.L) (D := law08_ModelLearns.D) Try.func7 law08_ModelLearns.hb (by kernel_rfl) (by rw [law08_ModelLearns.c_loops]; exact lcons law08_ModelLearns.lok5 (lcons law08_ModelLearns.lok12 (lnil))) (Nat.le_of_ble_eq_true (by kernel_rfl)) ?_⟩
    rw [law08_ModelLearns.eq]
    exact h
  · exact h.elim
end Go.Proofs.Ytdbnobeopgfhgaa.G
