/- Go functions as predicate transformers, written by a program of this session (gen.py), with their soundness. -/
import Derived.Test.YtmgcjihcbdgihaaGenT
set_option linter.unusedVariables false
set_option linter.unusedSimpArgs false
set_option maxRecDepth 100000
namespace Go.Proofs.Ytmgcjihcbdgihaa.G
open Go Go.Proofs.Ytmgcjihcbdgihaa.Vm
/-! ### valise/colour.Turn: function 16 -/
def colour_Turn.l3 : Nat → Option Addr → Nat → Nat → Int → World → (Option Addr → Nat → Nat → World → Prop) → Prop
  | 0, _, _, _, _, _, _ => False
  | N + 1, y3, y3n, y3c, y4, w, K0 =>
    bif (decide ((IntKind.wrap .i64 (y4 + 3)) ≤ ((y3n : Nat) : Int))) then
      sm y3 fun p_10 =>
      if 0 ≤ (y4 : Int) ∧ (y4 : Int) < ((y3n : Nat) : Int) then
      ldI .u8 (p_10.add (Int.toNat y4)) w.drew fun x20_11 =>
      sm y3 fun p_12 =>
      if 0 ≤ ((IntKind.wrap .i64 (y4 + 1)) : Int) ∧ ((IntKind.wrap .i64 (y4 + 1)) : Int) < ((y3n : Nat) : Int) then
      ldI .u8 (p_12.add (Int.toNat (IntKind.wrap .i64 (y4 + 1)))) w.drew fun x26_13 =>
      sm y3 fun p_14 =>
      if 0 ≤ ((IntKind.wrap .i64 (y4 + 2)) : Int) ∧ ((IntKind.wrap .i64 (y4 + 2)) : Int) < ((y3n : Nat) : Int) then
      ldI .u8 (p_14.add (Int.toNat (IntKind.wrap .i64 (y4 + 2)))) w.drew fun x32_15 =>
      let v5_16 := (IntKind.wrap .i64 x20_11)
      let v6_17 := (IntKind.wrap .i64 x26_13)
      let v7_18 := (IntKind.wrap .i64 x32_15)
      sm y3 fun p_19 =>
      if 0 ≤ (y4 : Int) ∧ (y4 : Int) < ((y3n : Nat) : Int) then
      stC (p_19.add (Int.toNat y4)) (Value.int .u8 (IntKind.wrap .u8 (IntKind.wrap .i64 (v5_16 - v6_17)))) w.drew fun w =>
      sm y3 fun p_20 =>
      if 0 ≤ ((IntKind.wrap .i64 (y4 + 2)) : Int) ∧ ((IntKind.wrap .i64 (y4 + 2)) : Int) < ((y3n : Nat) : Int) then
      stC (p_20.add (Int.toNat (IntKind.wrap .i64 (y4 + 2)))) (Value.int .u8 (IntKind.wrap .u8 (IntKind.wrap .i64 (v7_18 - v6_17)))) w fun w =>
      let v4_21 := (IntKind.wrap .i64 (y4 + 3))
      colour_Turn.l3 N y3 y3n y3c v4_21 w K0
      else False
      else False
      else False
      else False
      else False
    else
      K0 y3 y3n y3c w

def colour_Turn.f (a0 : Option Addr) (a0n : Nat) (a0c : Nat) (w : World) (K : Option Addr → Nat → Nat → World → Prop) : Prop :=
  appL 5 1 1 [(Value.int .u8 0)] none 0 0 a0 a0n a0c w fun a9_3 a9_3n a9_3c w =>
  ∃ N_22 : Nat, colour_Turn.l3 N_22 a9_3 a9_3n a9_3c 0 w
  (fun o3_23 o3_23n o3_23c w =>
    K o3_23 o3_23n o3_23c w)
def colour_Turn.H (F : type_of% @colour_Turn.f) : Hf := fun args w K => match args with
  | [v0] => vL v0 fun a0 a0n a0c => F a0 a0n a0c w (fun r0 r0n r0c w => K (Value.slice r0 r0n r0c) w)
  | _ => False
def colour_Turn.h : Hf := colour_Turn.H @colour_Turn.f
def colour_Turn.C : Hd := hnil
theorem colour_Turn.C_ok : CSound Try.prog colour_Turn.C := hnil_ok
def colour_Turn.D : Nat → Plan := fun i => (match Nat.beq i 5 with | true => .take 0 (.take 1 (.take 2 (.take 3 (.take 4 (.take 5 (.take 6 (.take 7 (.take 8 (.take 9 (.take 10 (.take 11 (.take 12 (.take 13 (.take 14 (.take 15 (.take 16 (.take 17 (.take 18 (.take 19 (.done)))))))))))))))))))) | false => .done)
noncomputable def colour_Turn.c : Code := Try.f16.body.getD .skip
theorem colour_Turn.hb : Try.f16.body = some colour_Turn.c := by kernel_rfl
noncomputable def colour_Turn.b0 : Code := (loopsOf colour_Turn.c).getD 0 .skip
theorem colour_Turn.b0_loops : loopsOf colour_Turn.b0 = [] := by kernel_rfl
theorem colour_Turn.c_loops : loopsOf colour_Turn.c = [colour_Turn.b0] := by kernel_rfl
def colour_Turn.hn3 (N : Nat) (f : Fr) (w : World) (K : AExit → Fr → World → Prop) : Prop :=
  gN f 50 <| gL f 3 fun y3 y3n y3c => gI .i64 f 4 fun y4 => colour_Turn.l3 N y3 y3n y3c y4 w (fun o3 o3n o3c w => K (.exit 0) [none, none, none, some (Value.slice o3 o3n o3c), none, none, none, none, none, none, none, none, none, none, none, none, none, none, none, none, none, none, none, none, none, none, none, none, none, none, none, none, none, none, none, none, none, none, none, none, none, none, none, none, none, none, none, none, none, none] w)
def colour_Turn.hx3 : AExit → Fr → World → (AExit → Fr → World → Prop) → Prop := fun e f w K => match e with
  | .normal => False
  | .exit i => (match Nat.beq i 0 with | true => gN f 50 <| gL f 3 fun o3 o3n o3c => K (.exit 0) [none, none, none, some (Value.slice o3 o3n o3c), none, none, none, none, none, none, none, none, none, none, none, none, none, none, none, none, none, none, none, none, none, none, none, none, none, none, none, none, none, none, none, none, none, none, none, none, none, none, none, none, none, none, none, none, none, none] w | false => False)
  | .ret => False
def colour_Turn.L : LHd := fun l f w K => (match Nat.beq l 3 with | true => ∃ N, colour_Turn.hn3 N f w K | false => False)
theorem colour_Turn.le3 (N : Nat) (y3 : Option Addr) (y3n : Nat) (y3c : Nat) (y4 : Int) (w : World) (K : AExit → Fr → World → Prop) : awp colour_Turn.C colour_Turn.L colour_Turn.D tab colour_Turn.b0 (lpost colour_Turn.hn3 colour_Turn.hx3 N K) [none, none, none, some (Value.slice y3 y3n y3c), some (Value.int .i64 y4), none, none, none, none, none, none, none, none, none, none, none, none, none, none, none, none, none, none, none, none, none, none, none, none, none, none, none, none, none, none, none, none, none, none, none, none, none, none, none, none, none, none, none, none, none] w = colour_Turn.l3 (N + 1) y3 y3n y3c y4 w (fun o3 o3n o3c w => K (.exit 0) [none, none, none, some (Value.slice o3 o3n o3c), none, none, none, none, none, none, none, none, none, none, none, none, none, none, none, none, none, none, none, none, none, none, none, none, none, none, none, none, none, none, none, none, none, none, none, none, none, none, none, none, none, none, none, none, none, none] w) := by kernel_rfl
theorem colour_Turn.lok3 : LoopOk Try.prog colour_Turn.L colour_Turn.b0 := by
  refine loop_ok tab_ok colour_Turn.C_ok (D := colour_Turn.D) (colour_Turn.hn3) (colour_Turn.hx3) (by kernel_rfl) (by rw [colour_Turn.b0_loops]; exact lnil) ?_ ?_ ?_ ?_
  · intro f w K h
    unfold colour_Turn.hn3 at h
    obtain ⟨hlen, h⟩ := gN_ok h
    obtain ⟨y3, y3n, y3c, h3, h⟩ := gL_ok h
    obtain ⟨y4, h4, h⟩ := gI_ok h
    exact h
  · intro N f w K h
    unfold colour_Turn.hn3 at h
    obtain ⟨hlen, h⟩ := gN_ok h
    obtain ⟨y3, y3n, y3c, h3, h⟩ := gL_ok h
    obtain ⟨y4, h4, h⟩ := gI_ok h
    refine ⟨[none, none, none, some (Value.slice y3 y3n y3c), some (Value.int .i64 y4), none, none, none, none, none, none, none, none, none, none, none, none, none, none, none, none, none, none, none, none, none, none, none, none, none, none, none, none, none, none, none, none, none, none, none, none, none, none, none, none, none, none, none, none, none], hlen, ⟨h3, h4, trivial⟩, ?_⟩
    rw [colour_Turn.le3]
    exact h
  · intro e f w K h
    cases e with
    | normal => exact h.elim
    | exit i =>
      unfold colour_Turn.hx3 at h
      simp only at h
      split at h
      · rename_i hb
        obtain rfl := Nat.eq_of_beq_eq_true hb
        obtain ⟨hlen, h⟩ := gN_ok h
        obtain ⟨o3, o3n, o3c, h3, h⟩ := gL_ok h
        exact ⟨[none, none, none, some (Value.slice o3 o3n o3c), none, none, none, none, none, none, none, none, none, none, none, none, none, none, none, none, none, none, none, none, none, none, none, none, none, none, none, none, none, none, none, none, none, none, none, none, none, none, none, none, none, none, none, none, none, none], hlen, ⟨h3, trivial⟩, h⟩
      · exact (show False from h).elim
    | ret =>
      exact (show False from h).elim
  · intro f w K h
    have e : lid colour_Turn.b0 = 3 := by kernel_rfl
    rw [e] at h
    exact h
theorem colour_Turn.eq (a0 : Option Addr) (a0n : Nat) (a0c : Nat) (w : World) (K : Value → World → Prop) : afn colour_Turn.C colour_Turn.L colour_Turn.D tab Try.f16 [(Value.slice a0 a0n a0c)] w K = colour_Turn.f a0 a0n a0c w (fun r0 r0n r0c w => K (Value.slice r0 r0n r0c) w) := by kernel_rfl
theorem colour_Turn.ok : FSound Try.prog 16 colour_Turn.h := by
  intro args w K h
  unfold colour_Turn.h colour_Turn.H at h
  split at h
  ·
    replace h := vL_ok h
    obtain ⟨a0, a0n, a0c, rfl, h⟩ := h
    refine ⟨by kernel_rfl, fn_ok tab_ok colour_Turn.C_ok (L := colour_Turn.L) (D := colour_Turn.D) Try.func16 colour_Turn.hb (by kernel_rfl) (by rw [colour_Turn.c_loops]; exact lcons colour_Turn.lok3 (lnil)) (Nat.le_of_ble_eq_true (by kernel_rfl)) ?_⟩
    rw [colour_Turn.eq]
    exact h
  · exact h.elim
/-! ### valise/valiselaw18.awake: function 15 -/
def law18_awake.f  (w : World) (K : Bool → World → Prop) : Prop :=
  newC 5 [(Value.int .u8 5), (Value.int .u8 3), (Value.int .u8 4)] w fun a2_3 w =>
  colour_Turn.f (some a2_3) 3 3 w fun r3_4 r3_4n r3_4c w =>
  bif (((r3_4n : Nat) : Int) == 3) then
    sm r3_4 fun p_6 =>
    if 0 ≤ (0 : Int) ∧ (0 : Int) < ((r3_4n : Nat) : Int) then
    ldI .u8 p_6 w fun x10_7 =>
    bif (x10_7 == 2) then
      sm r3_4 fun p_8 =>
      if 0 ≤ (1 : Int) ∧ (1 : Int) < ((r3_4n : Nat) : Int) then
      ldI .u8 (p_8.add 1) w fun x16_9 =>
      bif (x16_9 == 3) then
        sm r3_4 fun p_10 =>
        if 0 ≤ (2 : Int) ∧ (2 : Int) < ((r3_4n : Nat) : Int) then
        ldI .u8 (p_10.add 2) w fun x22_11 =>
        let v0_12 := (x22_11 == 1)
        K v0_12 w
        else False
      else
        K false w
      else False
    else
      K false w
    else False
  else
    K false w
def law18_awake.H (F : type_of% @law18_awake.f) : Hf := fun args w K => match args with
  | [] =>  F  w (fun r0 w => K (Value.bool r0) w)
  | _ => False
def law18_awake.h : Hf := law18_awake.H @law18_awake.f
def law18_awake.C : Hd := hcons 16 colour_Turn.h (hnil)
theorem law18_awake.C_ok : CSound Try.prog law18_awake.C := hcons_ok colour_Turn.ok (hnil_ok)
def law18_awake.D : Nat → Plan := fun i => .done
noncomputable def law18_awake.c : Code := Try.f15.body.getD .skip
theorem law18_awake.hb : Try.f15.body = some law18_awake.c := by kernel_rfl
theorem law18_awake.c_loops : loopsOf law18_awake.c = [] := by kernel_rfl
def law18_awake.L : LHd := fun l f w K => False
theorem law18_awake.eq  (w : World) (K : Value → World → Prop) : afn law18_awake.C law18_awake.L law18_awake.D tab Try.f15 [] w K = law18_awake.f  w (fun r0 w => K (Value.bool r0) w) := by kernel_rfl
theorem law18_awake.ok : FSound Try.prog 15 law18_awake.h := by
  intro args w K h
  unfold law18_awake.h law18_awake.H at h
  split at h
  ·
    refine ⟨by kernel_rfl, fn_ok tab_ok law18_awake.C_ok (L := law18_awake.L) (D := law18_awake.D) Try.func15 law18_awake.hb (by kernel_rfl) (by rw [law18_awake.c_loops]; exact lnil) (Nat.le_of_ble_eq_true (by kernel_rfl)) ?_⟩
    rw [law18_awake.eq]
    exact h
  · exact h.elim
/-! ### valise/colour.Apart: function 17 -/
def colour_Apart.l8 : Nat → Option Addr → Nat → Nat → Int → Int → Option Addr → Nat → Nat → Int → Int → Int → Int → Int → World → (Option Addr → Nat → Nat → Int → Int → Option Addr → Nat → Nat → Int → Int → World → Prop) → Prop
  | 0, _, _, _, _, _, _, _, _, _, _, _, _, _, _, _ => False
  | N + 1, y0, y0n, y0c, y1, y5, y6, y6n, y6c, y7, y18, y19, y22, y23, w, K2 =>
    bif (decide (y23 < y22)) then
      sm y0 fun p_19 =>
      if 0 ≤ ((IntKind.wrap .i64 ((IntKind.wrap .i64 (y23 * y1)) + y7)) : Int) ∧ ((IntKind.wrap .i64 ((IntKind.wrap .i64 (y23 * y1)) + y7)) : Int) < ((y0n : Nat) : Int) then
      ldI .u8 (p_19.add (Int.toNat (IntKind.wrap .i64 ((IntKind.wrap .i64 (y23 * y1)) + y7)))) w fun x39_20 =>
      sm y6 fun p_21 =>
      if 0 ≤ ((IntKind.wrap .i64 ((IntKind.wrap .i64 (y7 * y5)) + y23)) : Int) ∧ ((IntKind.wrap .i64 ((IntKind.wrap .i64 (y7 * y5)) + y23)) : Int) < ((y6n : Nat) : Int) then
      stC (p_21.add (Int.toNat (IntKind.wrap .i64 ((IntKind.wrap .i64 (y7 * y5)) + y23)))) (Value.int .u8 x39_20) w fun w =>
      colour_Apart.l8 N y0 y0n y0c y1 y5 y6 y6n y6c y7 y18 y19 y22 (IntKind.wrap .i64 (y23 + 1)) w K2
      else False
      else False
    else
      K2 y0 y0n y0c y1 y5 y6 y6n y6c y18 y19 w

def colour_Apart.l5 : Nat → Option Addr → Nat → Nat → Int → Int → Option Addr → Nat → Nat → Int → Int → World → (Option Addr → Nat → Nat → World → Prop) → Prop
  | 0, _, _, _, _, _, _, _, _, _, _, _, _ => False
  | N + 1, y0, y0n, y0c, y1, y5, y6, y6n, y6c, y18, y19, w, K0 =>
    bif (decide (y19 < y18)) then
      ∃ N_22 : Nat, colour_Apart.l8 N_22 y0 y0n y0c y1 y5 y6 y6n y6c y19 y18 y19 y5 0 w
      (fun o0_23 o0_23n o0_23c o1_24 o5_25 o6_26 o6_26n o6_26c o18_27 o19_28 w =>
        colour_Apart.l5 N o0_23 o0_23n o0_23c o1_24 o5_25 o6_26 o6_26n o6_26c o18_27 (IntKind.wrap .i64 (o19_28 + 1)) w K0)
    else
      K0 y6 y6n y6c w

def colour_Apart.f (a0 : Option Addr) (a0n : Nat) (a0c : Nat) (a1 : Int) (w : World) (K : Option Addr → Nat → Nat → World → Prop) : Prop :=
  let v1_3 := (mx 1 (mn a1 16))
  if v1_3 = 0 then False else
  let v5_5 := (IntKind.wrap .i64 (Int.tdiv ((a0n : Nat) : Int) v1_3))
  appL 5 1 1 [(Value.int .u8 0)] none 0 0 a0 a0n a0c w fun a17_7 a17_7n a17_7c w =>
  ∃ N_29 : Nat, colour_Apart.l5 N_29 a0 a0n a0c v1_3 v5_5 a17_7 a17_7n a17_7c v1_3 0 w
  (fun o6_30 o6_30n o6_30c w =>
    K o6_30 o6_30n o6_30c w)
def colour_Apart.H (F : type_of% @colour_Apart.f) : Hf := fun args w K => match args with
  | [v0, v1] => vL v0 fun a0 a0n a0c => vI .i64 v1 fun a1 => F a0 a0n a0c a1 w (fun r0 r0n r0c w => K (Value.slice r0 r0n r0c) w)
  | _ => False
def colour_Apart.h : Hf := colour_Apart.H @colour_Apart.f
def colour_Apart.C : Hd := hnil
theorem colour_Apart.C_ok : CSound Try.prog colour_Apart.C := hnil_ok
def colour_Apart.D : Nat → Plan := fun i => .done
noncomputable def colour_Apart.c : Code := Try.f17.body.getD .skip
theorem colour_Apart.hb : Try.f17.body = some colour_Apart.c := by kernel_rfl
noncomputable def colour_Apart.b0 : Code := (loopsOf colour_Apart.c).getD 0 .skip
noncomputable def colour_Apart.b0_0 : Code := (loopsOf colour_Apart.b0).getD 0 .skip
theorem colour_Apart.b0_0_loops : loopsOf colour_Apart.b0_0 = [] := by kernel_rfl
theorem colour_Apart.b0_loops : loopsOf colour_Apart.b0 = [colour_Apart.b0_0] := by kernel_rfl
theorem colour_Apart.c_loops : loopsOf colour_Apart.c = [colour_Apart.b0] := by kernel_rfl
def colour_Apart.hn8 (N : Nat) (f : Fr) (w : World) (K : AExit → Fr → World → Prop) : Prop :=
  gN f 44 <| gL f 0 fun y0 y0n y0c => gI .i64 f 1 fun y1 => gI .i64 f 5 fun y5 => gL f 6 fun y6 y6n y6c => gI .i64 f 7 fun y7 => gI .i64 f 18 fun y18 => gI .i64 f 19 fun y19 => gI .i64 f 22 fun y22 => gI .i64 f 23 fun y23 => colour_Apart.l8 N y0 y0n y0c y1 y5 y6 y6n y6c y7 y18 y19 y22 y23 w (fun o0 o0n o0c o1 o5 o6 o6n o6c o18 o19 w => K (.exit 2) [some (Value.slice o0 o0n o0c), some (Value.int .i64 o1), none, none, none, some (Value.int .i64 o5), some (Value.slice o6 o6n o6c), none, none, none, none, none, none, none, none, none, none, none, some (Value.int .i64 o18), some (Value.int .i64 o19), none, none, none, none, none, none, none, none, none, none, none, none, none, none, none, none, none, none, none, none, none, none, none, none] w)
def colour_Apart.hx8 : AExit → Fr → World → (AExit → Fr → World → Prop) → Prop := fun e f w K => match e with
  | .normal => False
  | .exit i => (match Nat.beq i 2 with | true => gN f 44 <| gL f 0 fun o0 o0n o0c => gI .i64 f 1 fun o1 => gI .i64 f 5 fun o5 => gL f 6 fun o6 o6n o6c => gI .i64 f 18 fun o18 => gI .i64 f 19 fun o19 => K (.exit 2) [some (Value.slice o0 o0n o0c), some (Value.int .i64 o1), none, none, none, some (Value.int .i64 o5), some (Value.slice o6 o6n o6c), none, none, none, none, none, none, none, none, none, none, none, some (Value.int .i64 o18), some (Value.int .i64 o19), none, none, none, none, none, none, none, none, none, none, none, none, none, none, none, none, none, none, none, none, none, none, none, none] w | false => False)
  | .ret => False
def colour_Apart.hn5 (N : Nat) (f : Fr) (w : World) (K : AExit → Fr → World → Prop) : Prop :=
  gN f 44 <| gL f 0 fun y0 y0n y0c => gI .i64 f 1 fun y1 => gI .i64 f 5 fun y5 => gL f 6 fun y6 y6n y6c => gI .i64 f 18 fun y18 => gI .i64 f 19 fun y19 => colour_Apart.l5 N y0 y0n y0c y1 y5 y6 y6n y6c y18 y19 w (fun o6 o6n o6c w => K (.exit 0) [none, none, none, none, none, none, some (Value.slice o6 o6n o6c), none, none, none, none, none, none, none, none, none, none, none, none, none, none, none, none, none, none, none, none, none, none, none, none, none, none, none, none, none, none, none, none, none, none, none, none, none] w)
def colour_Apart.hx5 : AExit → Fr → World → (AExit → Fr → World → Prop) → Prop := fun e f w K => match e with
  | .normal => False
  | .exit i => (match Nat.beq i 0 with | true => gN f 44 <| gL f 6 fun o6 o6n o6c => K (.exit 0) [none, none, none, none, none, none, some (Value.slice o6 o6n o6c), none, none, none, none, none, none, none, none, none, none, none, none, none, none, none, none, none, none, none, none, none, none, none, none, none, none, none, none, none, none, none, none, none, none, none, none, none] w | false => False)
  | .ret => False
def colour_Apart.L : LHd := fun l f w K => (match Nat.beq l 5 with | true => ∃ N, colour_Apart.hn5 N f w K | false => (match Nat.beq l 8 with | true => ∃ N, colour_Apart.hn8 N f w K | false => False))
theorem colour_Apart.le8 (N : Nat) (y0 : Option Addr) (y0n : Nat) (y0c : Nat) (y1 : Int) (y5 : Int) (y6 : Option Addr) (y6n : Nat) (y6c : Nat) (y7 : Int) (y18 : Int) (y19 : Int) (y22 : Int) (y23 : Int) (w : World) (K : AExit → Fr → World → Prop) : awp colour_Apart.C colour_Apart.L colour_Apart.D tab colour_Apart.b0_0 (lpost colour_Apart.hn8 colour_Apart.hx8 N K) [some (Value.slice y0 y0n y0c), some (Value.int .i64 y1), none, none, none, some (Value.int .i64 y5), some (Value.slice y6 y6n y6c), some (Value.int .i64 y7), none, none, none, none, none, none, none, none, none, none, some (Value.int .i64 y18), some (Value.int .i64 y19), none, none, some (Value.int .i64 y22), some (Value.int .i64 y23), none, none, none, none, none, none, none, none, none, none, none, none, none, none, none, none, none, none, none, none] w = colour_Apart.l8 (N + 1) y0 y0n y0c y1 y5 y6 y6n y6c y7 y18 y19 y22 y23 w (fun o0 o0n o0c o1 o5 o6 o6n o6c o18 o19 w => K (.exit 2) [some (Value.slice o0 o0n o0c), some (Value.int .i64 o1), none, none, none, some (Value.int .i64 o5), some (Value.slice o6 o6n o6c), none, none, none, none, none, none, none, none, none, none, none, some (Value.int .i64 o18), some (Value.int .i64 o19), none, none, none, none, none, none, none, none, none, none, none, none, none, none, none, none, none, none, none, none, none, none, none, none] w) := by kernel_rfl
theorem colour_Apart.lok8 : LoopOk Try.prog colour_Apart.L colour_Apart.b0_0 := by
  refine loop_ok tab_ok colour_Apart.C_ok (D := colour_Apart.D) (colour_Apart.hn8) (colour_Apart.hx8) (by kernel_rfl) (by rw [colour_Apart.b0_0_loops]; exact lnil) ?_ ?_ ?_ ?_
  · intro f w K h
    unfold colour_Apart.hn8 at h
    obtain ⟨hlen, h⟩ := gN_ok h
    obtain ⟨y0, y0n, y0c, h0, h⟩ := gL_ok h
    obtain ⟨y1, h1, h⟩ := gI_ok h
    obtain ⟨y5, h5, h⟩ := gI_ok h
    obtain ⟨y6, y6n, y6c, h6, h⟩ := gL_ok h
    obtain ⟨y7, h7, h⟩ := gI_ok h
    obtain ⟨y18, h18, h⟩ := gI_ok h
    obtain ⟨y19, h19, h⟩ := gI_ok h
    obtain ⟨y22, h22, h⟩ := gI_ok h
    obtain ⟨y23, h23, h⟩ := gI_ok h
    exact h
  · intro N f w K h
    unfold colour_Apart.hn8 at h
    obtain ⟨hlen, h⟩ := gN_ok h
    obtain ⟨y0, y0n, y0c, h0, h⟩ := gL_ok h
    obtain ⟨y1, h1, h⟩ := gI_ok h
    obtain ⟨y5, h5, h⟩ := gI_ok h
    obtain ⟨y6, y6n, y6c, h6, h⟩ := gL_ok h
    obtain ⟨y7, h7, h⟩ := gI_ok h
    obtain ⟨y18, h18, h⟩ := gI_ok h
    obtain ⟨y19, h19, h⟩ := gI_ok h
    obtain ⟨y22, h22, h⟩ := gI_ok h
    obtain ⟨y23, h23, h⟩ := gI_ok h
    refine ⟨[some (Value.slice y0 y0n y0c), some (Value.int .i64 y1), none, none, none, some (Value.int .i64 y5), some (Value.slice y6 y6n y6c), some (Value.int .i64 y7), none, none, none, none, none, none, none, none, none, none, some (Value.int .i64 y18), some (Value.int .i64 y19), none, none, some (Value.int .i64 y22), some (Value.int .i64 y23), none, none, none, none, none, none, none, none, none, none, none, none, none, none, none, none, none, none, none, none], hlen, ⟨h0, h1, h5, h6, h7, h18, h19, h22, h23, trivial⟩, ?_⟩
    rw [colour_Apart.le8]
    exact h
  · intro e f w K h
    cases e with
    | normal => exact h.elim
    | exit i =>
      unfold colour_Apart.hx8 at h
      simp only at h
      split at h
      · rename_i hb
        obtain rfl := Nat.eq_of_beq_eq_true hb
        obtain ⟨hlen, h⟩ := gN_ok h
        obtain ⟨o0, o0n, o0c, h0, h⟩ := gL_ok h
        obtain ⟨o1, h1, h⟩ := gI_ok h
        obtain ⟨o5, h5, h⟩ := gI_ok h
        obtain ⟨o6, o6n, o6c, h6, h⟩ := gL_ok h
        obtain ⟨o18, h18, h⟩ := gI_ok h
        obtain ⟨o19, h19, h⟩ := gI_ok h
        exact ⟨[some (Value.slice o0 o0n o0c), some (Value.int .i64 o1), none, none, none, some (Value.int .i64 o5), some (Value.slice o6 o6n o6c), none, none, none, none, none, none, none, none, none, none, none, some (Value.int .i64 o18), some (Value.int .i64 o19), none, none, none, none, none, none, none, none, none, none, none, none, none, none, none, none, none, none, none, none, none, none, none, none], hlen, ⟨h0, h1, h5, h6, h18, h19, trivial⟩, h⟩
      · exact (show False from h).elim
    | ret =>
      exact (show False from h).elim
  · intro f w K h
    have e : lid colour_Apart.b0_0 = 8 := by kernel_rfl
    rw [e] at h
    exact h
theorem colour_Apart.le5 (N : Nat) (y0 : Option Addr) (y0n : Nat) (y0c : Nat) (y1 : Int) (y5 : Int) (y6 : Option Addr) (y6n : Nat) (y6c : Nat) (y18 : Int) (y19 : Int) (w : World) (K : AExit → Fr → World → Prop) : awp colour_Apart.C colour_Apart.L colour_Apart.D tab colour_Apart.b0 (lpost colour_Apart.hn5 colour_Apart.hx5 N K) [some (Value.slice y0 y0n y0c), some (Value.int .i64 y1), none, none, none, some (Value.int .i64 y5), some (Value.slice y6 y6n y6c), none, none, none, none, none, none, none, none, none, none, none, some (Value.int .i64 y18), some (Value.int .i64 y19), none, none, none, none, none, none, none, none, none, none, none, none, none, none, none, none, none, none, none, none, none, none, none, none] w = colour_Apart.l5 (N + 1) y0 y0n y0c y1 y5 y6 y6n y6c y18 y19 w (fun o6 o6n o6c w => K (.exit 0) [none, none, none, none, none, none, some (Value.slice o6 o6n o6c), none, none, none, none, none, none, none, none, none, none, none, none, none, none, none, none, none, none, none, none, none, none, none, none, none, none, none, none, none, none, none, none, none, none, none, none, none] w) := by kernel_rfl
theorem colour_Apart.lok5 : LoopOk Try.prog colour_Apart.L colour_Apart.b0 := by
  refine loop_ok tab_ok colour_Apart.C_ok (D := colour_Apart.D) (colour_Apart.hn5) (colour_Apart.hx5) (by kernel_rfl) (by rw [colour_Apart.b0_loops]; exact lcons colour_Apart.lok8 (lnil)) ?_ ?_ ?_ ?_
  · intro f w K h
    unfold colour_Apart.hn5 at h
    obtain ⟨hlen, h⟩ := gN_ok h
    obtain ⟨y0, y0n, y0c, h0, h⟩ := gL_ok h
    obtain ⟨y1, h1, h⟩ := gI_ok h
    obtain ⟨y5, h5, h⟩ := gI_ok h
    obtain ⟨y6, y6n, y6c, h6, h⟩ := gL_ok h
    obtain ⟨y18, h18, h⟩ := gI_ok h
    obtain ⟨y19, h19, h⟩ := gI_ok h
    exact h
  · intro N f w K h
    unfold colour_Apart.hn5 at h
    obtain ⟨hlen, h⟩ := gN_ok h
    obtain ⟨y0, y0n, y0c, h0, h⟩ := gL_ok h
    obtain ⟨y1, h1, h⟩ := gI_ok h
    obtain ⟨y5, h5, h⟩ := gI_ok h
    obtain ⟨y6, y6n, y6c, h6, h⟩ := gL_ok h
    obtain ⟨y18, h18, h⟩ := gI_ok h
    obtain ⟨y19, h19, h⟩ := gI_ok h
    refine ⟨[some (Value.slice y0 y0n y0c), some (Value.int .i64 y1), none, none, none, some (Value.int .i64 y5), some (Value.slice y6 y6n y6c), none, none, none, none, none, none, none, none, none, none, none, some (Value.int .i64 y18), some (Value.int .i64 y19), none, none, none, none, none, none, none, none, none, none, none, none, none, none, none, none, none, none, none, none, none, none, none, none], hlen, ⟨h0, h1, h5, h6, h18, h19, trivial⟩, ?_⟩
    rw [colour_Apart.le5]
    exact h
  · intro e f w K h
    cases e with
    | normal => exact h.elim
    | exit i =>
      unfold colour_Apart.hx5 at h
      simp only at h
      split at h
      · rename_i hb
        obtain rfl := Nat.eq_of_beq_eq_true hb
        obtain ⟨hlen, h⟩ := gN_ok h
        obtain ⟨o6, o6n, o6c, h6, h⟩ := gL_ok h
        exact ⟨[none, none, none, none, none, none, some (Value.slice o6 o6n o6c), none, none, none, none, none, none, none, none, none, none, none, none, none, none, none, none, none, none, none, none, none, none, none, none, none, none, none, none, none, none, none, none, none, none, none, none, none], hlen, ⟨h6, trivial⟩, h⟩
      · exact (show False from h).elim
    | ret =>
      exact (show False from h).elim
  · intro f w K h
    have e : lid colour_Apart.b0 = 5 := by kernel_rfl
    rw [e] at h
    exact h
theorem colour_Apart.eq (a0 : Option Addr) (a0n : Nat) (a0c : Nat) (a1 : Int) (w : World) (K : Value → World → Prop) : afn colour_Apart.C colour_Apart.L colour_Apart.D tab Try.f17 [(Value.slice a0 a0n a0c), (Value.int .i64 a1)] w K = colour_Apart.f a0 a0n a0c a1 w (fun r0 r0n r0c w => K (Value.slice r0 r0n r0c) w) := by kernel_rfl
theorem colour_Apart.ok : FSound Try.prog 17 colour_Apart.h := by
  intro args w K h
  unfold colour_Apart.h colour_Apart.H at h
  split at h
  ·
    replace h := vL_ok h
    obtain ⟨a0, a0n, a0c, rfl, h⟩ := h
    replace h := vI_ok h
    obtain ⟨a1, rfl, h⟩ := h
    refine ⟨by kernel_rfl, fn_ok tab_ok colour_Apart.C_ok (L := colour_Apart.L) (D := colour_Apart.D) Try.func17 colour_Apart.hb (by kernel_rfl) (by rw [colour_Apart.c_loops]; exact lcons colour_Apart.lok5 (lnil)) (Nat.le_of_ble_eq_true (by kernel_rfl)) ?_⟩
    rw [colour_Apart.eq]
    exact h
  · exact h.elim
/-! ### valise/valisehelp.Bytes: function 18 -/
def help_Bytes.f (a0 : Option Addr) (a0n : Nat) (a0c : Nat) (a1 : Option Addr) (a1n : Nat) (a1c : Nat) (w : World) (K : Bool → World → Prop) : Prop :=
  strL a0 a0n a0c w fun s_3 =>
  strL a1 a1n a1c w fun s_4 =>
  let v4_5 := (s_3.toList == s_4.toList)
  K v4_5 w
def help_Bytes.H (F : type_of% @help_Bytes.f) : Hf := fun args w K => match args with
  | [v0, v1] => vL v0 fun a0 a0n a0c => vL v1 fun a1 a1n a1c => F a0 a0n a0c a1 a1n a1c w (fun r0 w => K (Value.bool r0) w)
  | _ => False
def help_Bytes.h : Hf := help_Bytes.H @help_Bytes.f
def help_Bytes.C : Hd := hnil
theorem help_Bytes.C_ok : CSound Try.prog help_Bytes.C := hnil_ok
def help_Bytes.D : Nat → Plan := fun i => .done
noncomputable def help_Bytes.c : Code := Try.f18.body.getD .skip
theorem help_Bytes.hb : Try.f18.body = some help_Bytes.c := by kernel_rfl
theorem help_Bytes.c_loops : loopsOf help_Bytes.c = [] := by kernel_rfl
def help_Bytes.L : LHd := fun l f w K => False
theorem help_Bytes.eq (a0 : Option Addr) (a0n : Nat) (a0c : Nat) (a1 : Option Addr) (a1n : Nat) (a1c : Nat) (w : World) (K : Value → World → Prop) : afn help_Bytes.C help_Bytes.L help_Bytes.D tab Try.f18 [(Value.slice a0 a0n a0c), (Value.slice a1 a1n a1c)] w K = help_Bytes.f a0 a0n a0c a1 a1n a1c w (fun r0 w => K (Value.bool r0) w) := by kernel_rfl
theorem help_Bytes.ok : FSound Try.prog 18 help_Bytes.h := by
  intro args w K h
  unfold help_Bytes.h help_Bytes.H at h
  split at h
  ·
    replace h := vL_ok h
    obtain ⟨a0, a0n, a0c, rfl, h⟩ := h
    replace h := vL_ok h
    obtain ⟨a1, a1n, a1c, rfl, h⟩ := h
    refine ⟨by kernel_rfl, fn_ok tab_ok help_Bytes.C_ok (L := help_Bytes.L) (D := help_Bytes.D) Try.func18 help_Bytes.hb (by kernel_rfl) (by rw [help_Bytes.c_loops]; exact lnil) (Nat.le_of_ble_eq_true (by kernel_rfl)) ?_⟩
    rw [help_Bytes.eq]
    exact h
  · exact h.elim
/-! ### valise/valisehelp.Own[byte]: function 19 -/
def help_Own_byte.l5 : Nat → Int → Option Addr → Nat → Nat → Option Addr → Nat → Nat → Int → World → (Option Addr → Nat → Nat → World → Prop) → Prop
  | 0, _, _, _, _, _, _, _, _, _, _ => False
  | N + 1, y1, y5, y5n, y5c, y6, y6n, y6c, y7, w, K0 =>
    bif (decide (y7 < ((y6n : Nat) : Int))) then
      sm y6 fun p_15 =>
      if 0 ≤ (y7 : Int) ∧ (y7 : Int) < ((y6n : Nat) : Int) then
      stC (p_15.add (Int.toNat y7)) (Value.int .u8 y1) w fun w =>
      let v7_16 := (IntKind.wrap .i64 (y7 + 1))
      help_Own_byte.l5 N y1 y5 y5n y5c y6 y6n y6c v7_16 w K0
      else False
    else
      K0 y5 y5n y5c w

def help_Own_byte.f (a0 : Option Addr) (a0n : Nat) (a0c : Nat) (a1 : Int) (w : World) (K : Option Addr → Nat → Nat → World → Prop) : Prop :=
  mkL 5 1 1 [(Value.int .u8 0)] 0 (IntKind.wrap .i64 (((a0n : Nat) : Int) + 3)) w fun a11_3 a11_3n a11_3c w =>
  appL 5 1 1 [(Value.int .u8 0)] a11_3 a11_3n a11_3c a0 a0n a0c w fun a14_5 a14_5n a14_5c w =>
  bnd a14_5n a14_5c none (some (Value.int .i64 (IntKind.wrap .i64 (((a0n : Nat) : Int) + 3)))) fun l_7 h_8 =>
  let v7_11 := ((a0n : Nat) : Int)
  ∃ N_17 : Nat, help_Own_byte.l5 N_17 a1 a14_5 a14_5n a14_5c (adrS a14_5 l_7 a14_5c 1) (h_8 - l_7) (a14_5c - l_7) v7_11 w
  (fun o5_18 o5_18n o5_18c w =>
    K o5_18 o5_18n o5_18c w)
def help_Own_byte.H (F : type_of% @help_Own_byte.f) : Hf := fun args w K => match args with
  | [v0, v1] => vL v0 fun a0 a0n a0c => vI .u8 v1 fun a1 => F a0 a0n a0c a1 w (fun r0 r0n r0c w => K (Value.slice r0 r0n r0c) w)
  | _ => False
def help_Own_byte.h : Hf := help_Own_byte.H @help_Own_byte.f
def help_Own_byte.C : Hd := hnil
theorem help_Own_byte.C_ok : CSound Try.prog help_Own_byte.C := hnil_ok
def help_Own_byte.D : Nat → Plan := fun i => .done
noncomputable def help_Own_byte.c : Code := Try.f19.body.getD .skip
theorem help_Own_byte.hb : Try.f19.body = some help_Own_byte.c := by kernel_rfl
noncomputable def help_Own_byte.b0 : Code := (loopsOf help_Own_byte.c).getD 0 .skip
theorem help_Own_byte.b0_loops : loopsOf help_Own_byte.b0 = [] := by kernel_rfl
theorem help_Own_byte.c_loops : loopsOf help_Own_byte.c = [help_Own_byte.b0] := by kernel_rfl
def help_Own_byte.hn5 (N : Nat) (f : Fr) (w : World) (K : AExit → Fr → World → Prop) : Prop :=
  gN f 33 <| gI .u8 f 1 fun y1 => gL f 5 fun y5 y5n y5c => gL f 6 fun y6 y6n y6c => gI .i64 f 7 fun y7 => help_Own_byte.l5 N y1 y5 y5n y5c y6 y6n y6c y7 w (fun o5 o5n o5c w => K (.exit 0) [none, none, none, none, none, some (Value.slice o5 o5n o5c), none, none, none, none, none, none, none, none, none, none, none, none, none, none, none, none, none, none, none, none, none, none, none, none, none, none, none] w)
def help_Own_byte.hx5 : AExit → Fr → World → (AExit → Fr → World → Prop) → Prop := fun e f w K => match e with
  | .normal => False
  | .exit i => (match Nat.beq i 0 with | true => gN f 33 <| gL f 5 fun o5 o5n o5c => K (.exit 0) [none, none, none, none, none, some (Value.slice o5 o5n o5c), none, none, none, none, none, none, none, none, none, none, none, none, none, none, none, none, none, none, none, none, none, none, none, none, none, none, none] w | false => False)
  | .ret => False
def help_Own_byte.L : LHd := fun l f w K => (match Nat.beq l 5 with | true => ∃ N, help_Own_byte.hn5 N f w K | false => False)
theorem help_Own_byte.le5 (N : Nat) (y1 : Int) (y5 : Option Addr) (y5n : Nat) (y5c : Nat) (y6 : Option Addr) (y6n : Nat) (y6c : Nat) (y7 : Int) (w : World) (K : AExit → Fr → World → Prop) : awp help_Own_byte.C help_Own_byte.L help_Own_byte.D tab help_Own_byte.b0 (lpost help_Own_byte.hn5 help_Own_byte.hx5 N K) [none, some (Value.int .u8 y1), none, none, none, some (Value.slice y5 y5n y5c), some (Value.slice y6 y6n y6c), some (Value.int .i64 y7), none, none, none, none, none, none, none, none, none, none, none, none, none, none, none, none, none, none, none, none, none, none, none, none, none] w = help_Own_byte.l5 (N + 1) y1 y5 y5n y5c y6 y6n y6c y7 w (fun o5 o5n o5c w => K (.exit 0) [none, none, none, none, none, some (Value.slice o5 o5n o5c), none, none, none, none, none, none, none, none, none, none, none, none, none, none, none, none, none, none, none, none, none, none, none, none, none, none, none] w) := by kernel_rfl
theorem help_Own_byte.lok5 : LoopOk Try.prog help_Own_byte.L help_Own_byte.b0 := by
  refine loop_ok tab_ok help_Own_byte.C_ok (D := help_Own_byte.D) (help_Own_byte.hn5) (help_Own_byte.hx5) (by kernel_rfl) (by rw [help_Own_byte.b0_loops]; exact lnil) ?_ ?_ ?_ ?_
  · intro f w K h
    unfold help_Own_byte.hn5 at h
    obtain ⟨hlen, h⟩ := gN_ok h
    obtain ⟨y1, h1, h⟩ := gI_ok h
    obtain ⟨y5, y5n, y5c, h5, h⟩ := gL_ok h
    obtain ⟨y6, y6n, y6c, h6, h⟩ := gL_ok h
    obtain ⟨y7, h7, h⟩ := gI_ok h
    exact h
  · intro N f w K h
    unfold help_Own_byte.hn5 at h
    obtain ⟨hlen, h⟩ := gN_ok h
    obtain ⟨y1, h1, h⟩ := gI_ok h
    obtain ⟨y5, y5n, y5c, h5, h⟩ := gL_ok h
    obtain ⟨y6, y6n, y6c, h6, h⟩ := gL_ok h
    obtain ⟨y7, h7, h⟩ := gI_ok h
    refine ⟨[none, some (Value.int .u8 y1), none, none, none, some (Value.slice y5 y5n y5c), some (Value.slice y6 y6n y6c), some (Value.int .i64 y7), none, none, none, none, none, none, none, none, none, none, none, none, none, none, none, none, none, none, none, none, none, none, none, none, none], hlen, ⟨h1, h5, h6, h7, trivial⟩, ?_⟩
    rw [help_Own_byte.le5]
    exact h
  · intro e f w K h
    cases e with
    | normal => exact h.elim
    | exit i =>
      unfold help_Own_byte.hx5 at h
      simp only at h
      split at h
      · rename_i hb
        obtain rfl := Nat.eq_of_beq_eq_true hb
        obtain ⟨hlen, h⟩ := gN_ok h
        obtain ⟨o5, o5n, o5c, h5, h⟩ := gL_ok h
        exact ⟨[none, none, none, none, none, some (Value.slice o5 o5n o5c), none, none, none, none, none, none, none, none, none, none, none, none, none, none, none, none, none, none, none, none, none, none, none, none, none, none, none], hlen, ⟨h5, trivial⟩, h⟩
      · exact (show False from h).elim
    | ret =>
      exact (show False from h).elim
  · intro f w K h
    have e : lid help_Own_byte.b0 = 5 := by kernel_rfl
    rw [e] at h
    exact h
theorem help_Own_byte.eq (a0 : Option Addr) (a0n : Nat) (a0c : Nat) (a1 : Int) (w : World) (K : Value → World → Prop) : afn help_Own_byte.C help_Own_byte.L help_Own_byte.D tab Try.f19 [(Value.slice a0 a0n a0c), (Value.int .u8 a1)] w K = help_Own_byte.f a0 a0n a0c a1 w (fun r0 r0n r0c w => K (Value.slice r0 r0n r0c) w) := by kernel_rfl
theorem help_Own_byte.ok : FSound Try.prog 19 help_Own_byte.h := by
  intro args w K h
  unfold help_Own_byte.h help_Own_byte.H at h
  split at h
  ·
    replace h := vL_ok h
    obtain ⟨a0, a0n, a0c, rfl, h⟩ := h
    replace h := vI_ok h
    obtain ⟨a1, rfl, h⟩ := h
    refine ⟨by kernel_rfl, fn_ok tab_ok help_Own_byte.C_ok (L := help_Own_byte.L) (D := help_Own_byte.D) Try.func19 help_Own_byte.hb (by kernel_rfl) (by rw [help_Own_byte.c_loops]; exact lcons help_Own_byte.lok5 (lnil)) (Nat.le_of_ble_eq_true (by kernel_rfl)) ?_⟩
    rw [help_Own_byte.eq]
    exact h
  · exact h.elim
/-! ### valise/valiseref18.Turn: function 20 -/
def ref18_Turn.l3 : Nat → Option Addr → Nat → Nat → Option Addr → Nat → Nat → Int → World → (Option Addr → Nat → Nat → World → Prop) → Prop
  | 0, _, _, _, _, _, _, _, _, _ => False
  | N + 1, y0, y0n, y0c, y3, y3n, y3c, y4, w, K0 =>
    bif (decide ((IntKind.wrap .i64 (y4 + 3)) ≤ ((y0n : Nat) : Int))) then
      sm y0 fun p_9 =>
      if 0 ≤ (y4 : Int) ∧ (y4 : Int) < ((y0n : Nat) : Int) then
      ldI .u8 (p_9.add (Int.toNat y4)) w.drew fun x22_10 =>
      sm y0 fun p_11 =>
      if 0 ≤ ((IntKind.wrap .i64 (y4 + 1)) : Int) ∧ ((IntKind.wrap .i64 (y4 + 1)) : Int) < ((y0n : Nat) : Int) then
      ldI .u8 (p_11.add (Int.toNat (IntKind.wrap .i64 (y4 + 1)))) w.drew fun x27_12 =>
      sm y0 fun p_13 =>
      if 0 ≤ ((IntKind.wrap .i64 (y4 + 2)) : Int) ∧ ((IntKind.wrap .i64 (y4 + 2)) : Int) < ((y0n : Nat) : Int) then
      ldI .u8 (p_13.add (Int.toNat (IntKind.wrap .i64 (y4 + 2)))) w.drew fun x33_14 =>
      sm y0 fun p_15 =>
      if 0 ≤ ((IntKind.wrap .i64 (y4 + 1)) : Int) ∧ ((IntKind.wrap .i64 (y4 + 1)) : Int) < ((y0n : Nat) : Int) then
      ldI .u8 (p_15.add (Int.toNat (IntKind.wrap .i64 (y4 + 1)))) w.drew fun x38_16 =>
      sm y3 fun p_17 =>
      if 0 ≤ (y4 : Int) ∧ (y4 : Int) < ((y3n : Nat) : Int) then
      stC (p_17.add (Int.toNat y4)) (Value.int .u8 (IntKind.wrap .u8 (x22_10 - x27_12))) w.drew fun w =>
      sm y3 fun p_18 =>
      if 0 ≤ ((IntKind.wrap .i64 (y4 + 2)) : Int) ∧ ((IntKind.wrap .i64 (y4 + 2)) : Int) < ((y3n : Nat) : Int) then
      stC (p_18.add (Int.toNat (IntKind.wrap .i64 (y4 + 2)))) (Value.int .u8 (IntKind.wrap .u8 (x33_14 - x38_16))) w fun w =>
      let v4_19 := (IntKind.wrap .i64 (y4 + 3))
      ref18_Turn.l3 N y0 y0n y0c y3 y3n y3c v4_19 w K0
      else False
      else False
      else False
      else False
      else False
      else False
    else
      K0 y3 y3n y3c w

def ref18_Turn.f (a0 : Option Addr) (a0n : Nat) (a0c : Nat) (w : World) (K : Option Addr → Nat → Nat → World → Prop) : Prop :=
  appL 5 1 1 [(Value.int .u8 0)] none 0 0 a0 a0n a0c w fun a6_3 a6_3n a6_3c w =>
  ∃ N_20 : Nat, ref18_Turn.l3 N_20 a0 a0n a0c a6_3 a6_3n a6_3c 0 w
  (fun o3_21 o3_21n o3_21c w =>
    K o3_21 o3_21n o3_21c w)
def ref18_Turn.H (F : type_of% @ref18_Turn.f) : Hf := fun args w K => match args with
  | [v0] => vL v0 fun a0 a0n a0c => F a0 a0n a0c w (fun r0 r0n r0c w => K (Value.slice r0 r0n r0c) w)
  | _ => False
def ref18_Turn.h : Hf := ref18_Turn.H @ref18_Turn.f
def ref18_Turn.C : Hd := hnil
theorem ref18_Turn.C_ok : CSound Try.prog ref18_Turn.C := hnil_ok
def ref18_Turn.D : Nat → Plan := fun i => (match Nat.beq i 5 with | true => .take 0 (.take 1 (.take 2 (.take 3 (.take 4 (.take 5 (.take 6 (.take 7 (.take 8 (.take 9 (.take 10 (.take 11 (.take 12 (.take 13 (.take 14 (.take 15 (.take 16 (.take 17 (.take 18 (.take 19 (.take 20 (.take 21 (.take 22 (.take 23 (.take 24 (.take 25 (.take 26 (.eff 27 (.take 28 (.eff 29 (.done)))))))))))))))))))))))))))))) | false => .done)
noncomputable def ref18_Turn.c : Code := Try.f20.body.getD .skip
theorem ref18_Turn.hb : Try.f20.body = some ref18_Turn.c := by kernel_rfl
noncomputable def ref18_Turn.b0 : Code := (loopsOf ref18_Turn.c).getD 0 .skip
theorem ref18_Turn.b0_loops : loopsOf ref18_Turn.b0 = [] := by kernel_rfl
theorem ref18_Turn.c_loops : loopsOf ref18_Turn.c = [ref18_Turn.b0] := by kernel_rfl
def ref18_Turn.hn3 (N : Nat) (f : Fr) (w : World) (K : AExit → Fr → World → Prop) : Prop :=
  gN f 43 <| gL f 0 fun y0 y0n y0c => gL f 3 fun y3 y3n y3c => gI .i64 f 4 fun y4 => ref18_Turn.l3 N y0 y0n y0c y3 y3n y3c y4 w (fun o3 o3n o3c w => K (.exit 0) [none, none, none, some (Value.slice o3 o3n o3c), none, none, none, none, none, none, none, none, none, none, none, none, none, none, none, none, none, none, none, none, none, none, none, none, none, none, none, none, none, none, none, none, none, none, none, none, none, none, none] w)
def ref18_Turn.hx3 : AExit → Fr → World → (AExit → Fr → World → Prop) → Prop := fun e f w K => match e with
  | .normal => False
  | .exit i => (match Nat.beq i 0 with | true => gN f 43 <| gL f 3 fun o3 o3n o3c => K (.exit 0) [none, none, none, some (Value.slice o3 o3n o3c), none, none, none, none, none, none, none, none, none, none, none, none, none, none, none, none, none, none, none, none, none, none, none, none, none, none, none, none, none, none, none, none, none, none, none, none, none, none, none] w | false => False)
  | .ret => False
def ref18_Turn.L : LHd := fun l f w K => (match Nat.beq l 3 with | true => ∃ N, ref18_Turn.hn3 N f w K | false => False)
theorem ref18_Turn.le3 (N : Nat) (y0 : Option Addr) (y0n : Nat) (y0c : Nat) (y3 : Option Addr) (y3n : Nat) (y3c : Nat) (y4 : Int) (w : World) (K : AExit → Fr → World → Prop) : awp ref18_Turn.C ref18_Turn.L ref18_Turn.D tab ref18_Turn.b0 (lpost ref18_Turn.hn3 ref18_Turn.hx3 N K) [some (Value.slice y0 y0n y0c), none, none, some (Value.slice y3 y3n y3c), some (Value.int .i64 y4), none, none, none, none, none, none, none, none, none, none, none, none, none, none, none, none, none, none, none, none, none, none, none, none, none, none, none, none, none, none, none, none, none, none, none, none, none, none] w = ref18_Turn.l3 (N + 1) y0 y0n y0c y3 y3n y3c y4 w (fun o3 o3n o3c w => K (.exit 0) [none, none, none, some (Value.slice o3 o3n o3c), none, none, none, none, none, none, none, none, none, none, none, none, none, none, none, none, none, none, none, none, none, none, none, none, none, none, none, none, none, none, none, none, none, none, none, none, none, none, none] w) := by kernel_rfl
theorem ref18_Turn.lok3 : LoopOk Try.prog ref18_Turn.L ref18_Turn.b0 := by
  refine loop_ok tab_ok ref18_Turn.C_ok (D := ref18_Turn.D) (ref18_Turn.hn3) (ref18_Turn.hx3) (by kernel_rfl) (by rw [ref18_Turn.b0_loops]; exact lnil) ?_ ?_ ?_ ?_
  · intro f w K h
    unfold ref18_Turn.hn3 at h
    obtain ⟨hlen, h⟩ := gN_ok h
    obtain ⟨y0, y0n, y0c, h0, h⟩ := gL_ok h
    obtain ⟨y3, y3n, y3c, h3, h⟩ := gL_ok h
    obtain ⟨y4, h4, h⟩ := gI_ok h
    exact h
  · intro N f w K h
    unfold ref18_Turn.hn3 at h
    obtain ⟨hlen, h⟩ := gN_ok h
    obtain ⟨y0, y0n, y0c, h0, h⟩ := gL_ok h
    obtain ⟨y3, y3n, y3c, h3, h⟩ := gL_ok h
    obtain ⟨y4, h4, h⟩ := gI_ok h
    refine ⟨[some (Value.slice y0 y0n y0c), none, none, some (Value.slice y3 y3n y3c), some (Value.int .i64 y4), none, none, none, none, none, none, none, none, none, none, none, none, none, none, none, none, none, none, none, none, none, none, none, none, none, none, none, none, none, none, none, none, none, none, none, none, none, none], hlen, ⟨h0, h3, h4, trivial⟩, ?_⟩
    rw [ref18_Turn.le3]
    exact h
  · intro e f w K h
    cases e with
    | normal => exact h.elim
    | exit i =>
      unfold ref18_Turn.hx3 at h
      simp only at h
      split at h
      · rename_i hb
        obtain rfl := Nat.eq_of_beq_eq_true hb
        obtain ⟨hlen, h⟩ := gN_ok h
        obtain ⟨o3, o3n, o3c, h3, h⟩ := gL_ok h
        exact ⟨[none, none, none, some (Value.slice o3 o3n o3c), none, none, none, none, none, none, none, none, none, none, none, none, none, none, none, none, none, none, none, none, none, none, none, none, none, none, none, none, none, none, none, none, none, none, none, none, none, none, none], hlen, ⟨h3, trivial⟩, h⟩
      · exact (show False from h).elim
    | ret =>
      exact (show False from h).elim
  · intro f w K h
    have e : lid ref18_Turn.b0 = 3 := by kernel_rfl
    rw [e] at h
    exact h
theorem ref18_Turn.eq (a0 : Option Addr) (a0n : Nat) (a0c : Nat) (w : World) (K : Value → World → Prop) : afn ref18_Turn.C ref18_Turn.L ref18_Turn.D tab Try.f20 [(Value.slice a0 a0n a0c)] w K = ref18_Turn.f a0 a0n a0c w (fun r0 r0n r0c w => K (Value.slice r0 r0n r0c) w) := by kernel_rfl
theorem ref18_Turn.ok : FSound Try.prog 20 ref18_Turn.h := by
  intro args w K h
  unfold ref18_Turn.h ref18_Turn.H at h
  split at h
  ·
    replace h := vL_ok h
    obtain ⟨a0, a0n, a0c, rfl, h⟩ := h
    refine ⟨by kernel_rfl, fn_ok tab_ok ref18_Turn.C_ok (L := ref18_Turn.L) (D := ref18_Turn.D) Try.func20 ref18_Turn.hb (by kernel_rfl) (by rw [ref18_Turn.c_loops]; exact lcons ref18_Turn.lok3 (lnil)) (Nat.le_of_ble_eq_true (by kernel_rfl)) ?_⟩
    rw [ref18_Turn.eq]
    exact h
  · exact h.elim
/-! ### valise/colour.Back: function 21 -/
def colour_Back.l3 : Nat → Option Addr → Nat → Nat → Int → World → (Option Addr → Nat → Nat → World → Prop) → Prop
  | 0, _, _, _, _, _, _ => False
  | N + 1, y3, y3n, y3c, y4, w, K0 =>
    bif (decide ((IntKind.wrap .i64 (y4 + 3)) ≤ ((y3n : Nat) : Int))) then
      sm y3 fun p_10 =>
      if 0 ≤ (y4 : Int) ∧ (y4 : Int) < ((y3n : Nat) : Int) then
      ldI .u8 (p_10.add (Int.toNat y4)) w.drew fun x20_11 =>
      sm y3 fun p_12 =>
      if 0 ≤ ((IntKind.wrap .i64 (y4 + 1)) : Int) ∧ ((IntKind.wrap .i64 (y4 + 1)) : Int) < ((y3n : Nat) : Int) then
      ldI .u8 (p_12.add (Int.toNat (IntKind.wrap .i64 (y4 + 1)))) w.drew fun x26_13 =>
      sm y3 fun p_14 =>
      if 0 ≤ ((IntKind.wrap .i64 (y4 + 2)) : Int) ∧ ((IntKind.wrap .i64 (y4 + 2)) : Int) < ((y3n : Nat) : Int) then
      ldI .u8 (p_14.add (Int.toNat (IntKind.wrap .i64 (y4 + 2)))) w.drew fun x32_15 =>
      let v5_16 := (IntKind.wrap .i64 x20_11)
      let v6_17 := (IntKind.wrap .i64 x26_13)
      let v7_18 := (IntKind.wrap .i64 x32_15)
      sm y3 fun p_19 =>
      if 0 ≤ (y4 : Int) ∧ (y4 : Int) < ((y3n : Nat) : Int) then
      stC (p_19.add (Int.toNat y4)) (Value.int .u8 (IntKind.wrap .u8 (IntKind.wrap .i64 (v5_16 + v6_17)))) w.drew fun w =>
      sm y3 fun p_20 =>
      if 0 ≤ ((IntKind.wrap .i64 (y4 + 2)) : Int) ∧ ((IntKind.wrap .i64 (y4 + 2)) : Int) < ((y3n : Nat) : Int) then
      stC (p_20.add (Int.toNat (IntKind.wrap .i64 (y4 + 2)))) (Value.int .u8 (IntKind.wrap .u8 (IntKind.wrap .i64 (v7_18 + v6_17)))) w fun w =>
      let v4_21 := (IntKind.wrap .i64 (y4 + 3))
      colour_Back.l3 N y3 y3n y3c v4_21 w K0
      else False
      else False
      else False
      else False
      else False
    else
      K0 y3 y3n y3c w

def colour_Back.f (a0 : Option Addr) (a0n : Nat) (a0c : Nat) (w : World) (K : Option Addr → Nat → Nat → World → Prop) : Prop :=
  appL 5 1 1 [(Value.int .u8 0)] none 0 0 a0 a0n a0c w fun a9_3 a9_3n a9_3c w =>
  ∃ N_22 : Nat, colour_Back.l3 N_22 a9_3 a9_3n a9_3c 0 w
  (fun o3_23 o3_23n o3_23c w =>
    K o3_23 o3_23n o3_23c w)
def colour_Back.H (F : type_of% @colour_Back.f) : Hf := fun args w K => match args with
  | [v0] => vL v0 fun a0 a0n a0c => F a0 a0n a0c w (fun r0 r0n r0c w => K (Value.slice r0 r0n r0c) w)
  | _ => False
def colour_Back.h : Hf := colour_Back.H @colour_Back.f
def colour_Back.C : Hd := hnil
theorem colour_Back.C_ok : CSound Try.prog colour_Back.C := hnil_ok
def colour_Back.D : Nat → Plan := fun i => (match Nat.beq i 5 with | true => .take 0 (.take 1 (.take 2 (.take 3 (.take 4 (.take 5 (.take 6 (.take 7 (.take 8 (.take 9 (.take 10 (.take 11 (.take 12 (.take 13 (.take 14 (.take 15 (.take 16 (.take 17 (.take 18 (.take 19 (.done)))))))))))))))))))) | false => .done)
noncomputable def colour_Back.c : Code := Try.f21.body.getD .skip
theorem colour_Back.hb : Try.f21.body = some colour_Back.c := by kernel_rfl
noncomputable def colour_Back.b0 : Code := (loopsOf colour_Back.c).getD 0 .skip
theorem colour_Back.b0_loops : loopsOf colour_Back.b0 = [] := by kernel_rfl
theorem colour_Back.c_loops : loopsOf colour_Back.c = [colour_Back.b0] := by kernel_rfl
def colour_Back.hn3 (N : Nat) (f : Fr) (w : World) (K : AExit → Fr → World → Prop) : Prop :=
  gN f 50 <| gL f 3 fun y3 y3n y3c => gI .i64 f 4 fun y4 => colour_Back.l3 N y3 y3n y3c y4 w (fun o3 o3n o3c w => K (.exit 0) [none, none, none, some (Value.slice o3 o3n o3c), none, none, none, none, none, none, none, none, none, none, none, none, none, none, none, none, none, none, none, none, none, none, none, none, none, none, none, none, none, none, none, none, none, none, none, none, none, none, none, none, none, none, none, none, none, none] w)
def colour_Back.hx3 : AExit → Fr → World → (AExit → Fr → World → Prop) → Prop := fun e f w K => match e with
  | .normal => False
  | .exit i => (match Nat.beq i 0 with | true => gN f 50 <| gL f 3 fun o3 o3n o3c => K (.exit 0) [none, none, none, some (Value.slice o3 o3n o3c), none, none, none, none, none, none, none, none, none, none, none, none, none, none, none, none, none, none, none, none, none, none, none, none, none, none, none, none, none, none, none, none, none, none, none, none, none, none, none, none, none, none, none, none, none, none] w | false => False)
  | .ret => False
def colour_Back.L : LHd := fun l f w K => (match Nat.beq l 3 with | true => ∃ N, colour_Back.hn3 N f w K | false => False)
theorem colour_Back.le3 (N : Nat) (y3 : Option Addr) (y3n : Nat) (y3c : Nat) (y4 : Int) (w : World) (K : AExit → Fr → World → Prop) : awp colour_Back.C colour_Back.L colour_Back.D tab colour_Back.b0 (lpost colour_Back.hn3 colour_Back.hx3 N K) [none, none, none, some (Value.slice y3 y3n y3c), some (Value.int .i64 y4), none, none, none, none, none, none, none, none, none, none, none, none, none, none, none, none, none, none, none, none, none, none, none, none, none, none, none, none, none, none, none, none, none, none, none, none, none, none, none, none, none, none, none, none, none] w = colour_Back.l3 (N + 1) y3 y3n y3c y4 w (fun o3 o3n o3c w => K (.exit 0) [none, none, none, some (Value.slice o3 o3n o3c), none, none, none, none, none, none, none, none, none, none, none, none, none, none, none, none, none, none, none, none, none, none, none, none, none, none, none, none, none, none, none, none, none, none, none, none, none, none, none, none, none, none, none, none, none, none] w) := by kernel_rfl
theorem colour_Back.lok3 : LoopOk Try.prog colour_Back.L colour_Back.b0 := by
  refine loop_ok tab_ok colour_Back.C_ok (D := colour_Back.D) (colour_Back.hn3) (colour_Back.hx3) (by kernel_rfl) (by rw [colour_Back.b0_loops]; exact lnil) ?_ ?_ ?_ ?_
  · intro f w K h
    unfold colour_Back.hn3 at h
    obtain ⟨hlen, h⟩ := gN_ok h
    obtain ⟨y3, y3n, y3c, h3, h⟩ := gL_ok h
    obtain ⟨y4, h4, h⟩ := gI_ok h
    exact h
  · intro N f w K h
    unfold colour_Back.hn3 at h
    obtain ⟨hlen, h⟩ := gN_ok h
    obtain ⟨y3, y3n, y3c, h3, h⟩ := gL_ok h
    obtain ⟨y4, h4, h⟩ := gI_ok h
    refine ⟨[none, none, none, some (Value.slice y3 y3n y3c), some (Value.int .i64 y4), none, none, none, none, none, none, none, none, none, none, none, none, none, none, none, none, none, none, none, none, none, none, none, none, none, none, none, none, none, none, none, none, none, none, none, none, none, none, none, none, none, none, none, none, none], hlen, ⟨h3, h4, trivial⟩, ?_⟩
    rw [colour_Back.le3]
    exact h
  · intro e f w K h
    cases e with
    | normal => exact h.elim
    | exit i =>
      unfold colour_Back.hx3 at h
      simp only at h
      split at h
      · rename_i hb
        obtain rfl := Nat.eq_of_beq_eq_true hb
        obtain ⟨hlen, h⟩ := gN_ok h
        obtain ⟨o3, o3n, o3c, h3, h⟩ := gL_ok h
        exact ⟨[none, none, none, some (Value.slice o3 o3n o3c), none, none, none, none, none, none, none, none, none, none, none, none, none, none, none, none, none, none, none, none, none, none, none, none, none, none, none, none, none, none, none, none, none, none, none, none, none, none, none, none, none, none, none, none, none, none], hlen, ⟨h3, trivial⟩, h⟩
      · exact (show False from h).elim
    | ret =>
      exact (show False from h).elim
  · intro f w K h
    have e : lid colour_Back.b0 = 3 := by kernel_rfl
    rw [e] at h
    exact h
theorem colour_Back.eq (a0 : Option Addr) (a0n : Nat) (a0c : Nat) (w : World) (K : Value → World → Prop) : afn colour_Back.C colour_Back.L colour_Back.D tab Try.f21 [(Value.slice a0 a0n a0c)] w K = colour_Back.f a0 a0n a0c w (fun r0 r0n r0c w => K (Value.slice r0 r0n r0c) w) := by kernel_rfl
theorem colour_Back.ok : FSound Try.prog 21 colour_Back.h := by
  intro args w K h
  unfold colour_Back.h colour_Back.H at h
  split at h
  ·
    replace h := vL_ok h
    obtain ⟨a0, a0n, a0c, rfl, h⟩ := h
    refine ⟨by kernel_rfl, fn_ok tab_ok colour_Back.C_ok (L := colour_Back.L) (D := colour_Back.D) Try.func21 colour_Back.hb (by kernel_rfl) (by rw [colour_Back.c_loops]; exact lcons colour_Back.lok3 (lnil)) (Nat.le_of_ble_eq_true (by kernel_rfl)) ?_⟩
    rw [colour_Back.eq]
    exact h
  · exact h.elim
/-! ### valise/valiseref18.Back: function 22 -/
def ref18_Back.l3 : Nat → Option Addr → Nat → Nat → Option Addr → Nat → Nat → Int → World → (Option Addr → Nat → Nat → World → Prop) → Prop
  | 0, _, _, _, _, _, _, _, _, _ => False
  | N + 1, y0, y0n, y0c, y3, y3n, y3c, y4, w, K0 =>
    bif (decide ((IntKind.wrap .i64 (y4 + 3)) ≤ ((y0n : Nat) : Int))) then
      sm y0 fun p_9 =>
      if 0 ≤ (y4 : Int) ∧ (y4 : Int) < ((y0n : Nat) : Int) then
      ldI .u8 (p_9.add (Int.toNat y4)) w.drew fun x22_10 =>
      sm y0 fun p_11 =>
      if 0 ≤ ((IntKind.wrap .i64 (y4 + 1)) : Int) ∧ ((IntKind.wrap .i64 (y4 + 1)) : Int) < ((y0n : Nat) : Int) then
      ldI .u8 (p_11.add (Int.toNat (IntKind.wrap .i64 (y4 + 1)))) w.drew fun x27_12 =>
      sm y0 fun p_13 =>
      if 0 ≤ ((IntKind.wrap .i64 (y4 + 2)) : Int) ∧ ((IntKind.wrap .i64 (y4 + 2)) : Int) < ((y0n : Nat) : Int) then
      ldI .u8 (p_13.add (Int.toNat (IntKind.wrap .i64 (y4 + 2)))) w.drew fun x33_14 =>
      sm y0 fun p_15 =>
      if 0 ≤ ((IntKind.wrap .i64 (y4 + 1)) : Int) ∧ ((IntKind.wrap .i64 (y4 + 1)) : Int) < ((y0n : Nat) : Int) then
      ldI .u8 (p_15.add (Int.toNat (IntKind.wrap .i64 (y4 + 1)))) w.drew fun x38_16 =>
      sm y3 fun p_17 =>
      if 0 ≤ (y4 : Int) ∧ (y4 : Int) < ((y3n : Nat) : Int) then
      stC (p_17.add (Int.toNat y4)) (Value.int .u8 (IntKind.wrap .u8 (x22_10 + x27_12))) w.drew fun w =>
      sm y3 fun p_18 =>
      if 0 ≤ ((IntKind.wrap .i64 (y4 + 2)) : Int) ∧ ((IntKind.wrap .i64 (y4 + 2)) : Int) < ((y3n : Nat) : Int) then
      stC (p_18.add (Int.toNat (IntKind.wrap .i64 (y4 + 2)))) (Value.int .u8 (IntKind.wrap .u8 (x33_14 + x38_16))) w fun w =>
      let v4_19 := (IntKind.wrap .i64 (y4 + 3))
      ref18_Back.l3 N y0 y0n y0c y3 y3n y3c v4_19 w K0
      else False
      else False
      else False
      else False
      else False
      else False
    else
      K0 y3 y3n y3c w

def ref18_Back.f (a0 : Option Addr) (a0n : Nat) (a0c : Nat) (w : World) (K : Option Addr → Nat → Nat → World → Prop) : Prop :=
  appL 5 1 1 [(Value.int .u8 0)] none 0 0 a0 a0n a0c w fun a6_3 a6_3n a6_3c w =>
  ∃ N_20 : Nat, ref18_Back.l3 N_20 a0 a0n a0c a6_3 a6_3n a6_3c 0 w
  (fun o3_21 o3_21n o3_21c w =>
    K o3_21 o3_21n o3_21c w)
def ref18_Back.H (F : type_of% @ref18_Back.f) : Hf := fun args w K => match args with
  | [v0] => vL v0 fun a0 a0n a0c => F a0 a0n a0c w (fun r0 r0n r0c w => K (Value.slice r0 r0n r0c) w)
  | _ => False
def ref18_Back.h : Hf := ref18_Back.H @ref18_Back.f
def ref18_Back.C : Hd := hnil
theorem ref18_Back.C_ok : CSound Try.prog ref18_Back.C := hnil_ok
def ref18_Back.D : Nat → Plan := fun i => (match Nat.beq i 5 with | true => .take 0 (.take 1 (.take 2 (.take 3 (.take 4 (.take 5 (.take 6 (.take 7 (.take 8 (.take 9 (.take 10 (.take 11 (.take 12 (.take 13 (.take 14 (.take 15 (.take 16 (.take 17 (.take 18 (.take 19 (.take 20 (.take 21 (.take 22 (.take 23 (.take 24 (.take 25 (.take 26 (.eff 27 (.take 28 (.eff 29 (.done)))))))))))))))))))))))))))))) | false => .done)
noncomputable def ref18_Back.c : Code := Try.f22.body.getD .skip
theorem ref18_Back.hb : Try.f22.body = some ref18_Back.c := by kernel_rfl
noncomputable def ref18_Back.b0 : Code := (loopsOf ref18_Back.c).getD 0 .skip
theorem ref18_Back.b0_loops : loopsOf ref18_Back.b0 = [] := by kernel_rfl
theorem ref18_Back.c_loops : loopsOf ref18_Back.c = [ref18_Back.b0] := by kernel_rfl
def ref18_Back.hn3 (N : Nat) (f : Fr) (w : World) (K : AExit → Fr → World → Prop) : Prop :=
  gN f 43 <| gL f 0 fun y0 y0n y0c => gL f 3 fun y3 y3n y3c => gI .i64 f 4 fun y4 => ref18_Back.l3 N y0 y0n y0c y3 y3n y3c y4 w (fun o3 o3n o3c w => K (.exit 0) [none, none, none, some (Value.slice o3 o3n o3c), none, none, none, none, none, none, none, none, none, none, none, none, none, none, none, none, none, none, none, none, none, none, none, none, none, none, none, none, none, none, none, none, none, none, none, none, none, none, none] w)
def ref18_Back.hx3 : AExit → Fr → World → (AExit → Fr → World → Prop) → Prop := fun e f w K => match e with
  | .normal => False
  | .exit i => (match Nat.beq i 0 with | true => gN f 43 <| gL f 3 fun o3 o3n o3c => K (.exit 0) [none, none, none, some (Value.slice o3 o3n o3c), none, none, none, none, none, none, none, none, none, none, none, none, none, none, none, none, none, none, none, none, none, none, none, none, none, none, none, none, none, none, none, none, none, none, none, none, none, none, none] w | false => False)
  | .ret => False
def ref18_Back.L : LHd := fun l f w K => (match Nat.beq l 3 with | true => ∃ N, ref18_Back.hn3 N f w K | false => False)
theorem ref18_Back.le3 (N : Nat) (y0 : Option Addr) (y0n : Nat) (y0c : Nat) (y3 : Option Addr) (y3n : Nat) (y3c : Nat) (y4 : Int) (w : World) (K : AExit → Fr → World → Prop) : awp ref18_Back.C ref18_Back.L ref18_Back.D tab ref18_Back.b0 (lpost ref18_Back.hn3 ref18_Back.hx3 N K) [some (Value.slice y0 y0n y0c), none, none, some (Value.slice y3 y3n y3c), some (Value.int .i64 y4), none, none, none, none, none, none, none, none, none, none, none, none, none, none, none, none, none, none, none, none, none, none, none, none, none, none, none, none, none, none, none, none, none, none, none, none, none, none] w = ref18_Back.l3 (N + 1) y0 y0n y0c y3 y3n y3c y4 w (fun o3 o3n o3c w => K (.exit 0) [none, none, none, some (Value.slice o3 o3n o3c), none, none, none, none, none, none, none, none, none, none, none, none, none, none, none, none, none, none, none, none, none, none, none, none, none, none, none, none, none, none, none, none, none, none, none, none, none, none, none] w) := by kernel_rfl
theorem ref18_Back.lok3 : LoopOk Try.prog ref18_Back.L ref18_Back.b0 := by
  refine loop_ok tab_ok ref18_Back.C_ok (D := ref18_Back.D) (ref18_Back.hn3) (ref18_Back.hx3) (by kernel_rfl) (by rw [ref18_Back.b0_loops]; exact lnil) ?_ ?_ ?_ ?_
  · intro f w K h
    unfold ref18_Back.hn3 at h
    obtain ⟨hlen, h⟩ := gN_ok h
    obtain ⟨y0, y0n, y0c, h0, h⟩ := gL_ok h
    obtain ⟨y3, y3n, y3c, h3, h⟩ := gL_ok h
    obtain ⟨y4, h4, h⟩ := gI_ok h
    exact h
  · intro N f w K h
    unfold ref18_Back.hn3 at h
    obtain ⟨hlen, h⟩ := gN_ok h
    obtain ⟨y0, y0n, y0c, h0, h⟩ := gL_ok h
    obtain ⟨y3, y3n, y3c, h3, h⟩ := gL_ok h
    obtain ⟨y4, h4, h⟩ := gI_ok h
    refine ⟨[some (Value.slice y0 y0n y0c), none, none, some (Value.slice y3 y3n y3c), some (Value.int .i64 y4), none, none, none, none, none, none, none, none, none, none, none, none, none, none, none, none, none, none, none, none, none, none, none, none, none, none, none, none, none, none, none, none, none, none, none, none, none, none], hlen, ⟨h0, h3, h4, trivial⟩, ?_⟩
    rw [ref18_Back.le3]
    exact h
  · intro e f w K h
    cases e with
    | normal => exact h.elim
    | exit i =>
      unfold ref18_Back.hx3 at h
      simp only at h
      split at h
      · rename_i hb
        obtain rfl := Nat.eq_of_beq_eq_true hb
        obtain ⟨hlen, h⟩ := gN_ok h
        obtain ⟨o3, o3n, o3c, h3, h⟩ := gL_ok h
        exact ⟨[none, none, none, some (Value.slice o3 o3n o3c), none, none, none, none, none, none, none, none, none, none, none, none, none, none, none, none, none, none, none, none, none, none, none, none, none, none, none, none, none, none, none, none, none, none, none, none, none, none, none], hlen, ⟨h3, trivial⟩, h⟩
      · exact (show False from h).elim
    | ret =>
      exact (show False from h).elim
  · intro f w K h
    have e : lid ref18_Back.b0 = 3 := by kernel_rfl
    rw [e] at h
    exact h
theorem ref18_Back.eq (a0 : Option Addr) (a0n : Nat) (a0c : Nat) (w : World) (K : Value → World → Prop) : afn ref18_Back.C ref18_Back.L ref18_Back.D tab Try.f22 [(Value.slice a0 a0n a0c)] w K = ref18_Back.f a0 a0n a0c w (fun r0 r0n r0c w => K (Value.slice r0 r0n r0c) w) := by kernel_rfl
theorem ref18_Back.ok : FSound Try.prog 22 ref18_Back.h := by
  intro args w K h
  unfold ref18_Back.h ref18_Back.H at h
  split at h
  ·
    replace h := vL_ok h
    obtain ⟨a0, a0n, a0c, rfl, h⟩ := h
    refine ⟨by kernel_rfl, fn_ok tab_ok ref18_Back.C_ok (L := ref18_Back.L) (D := ref18_Back.D) Try.func22 ref18_Back.hb (by kernel_rfl) (by rw [ref18_Back.c_loops]; exact lcons ref18_Back.lok3 (lnil)) (Nat.le_of_ble_eq_true (by kernel_rfl)) ?_⟩
    rw [ref18_Back.eq]
    exact h
  · exact h.elim
/-! ### valise/valiseref18.Apart: function 23 -/
def ref18_Apart.l8 : Nat → Option Addr → Nat → Nat → Int → Int → Option Addr → Nat → Nat → Int → Int → World → (Option Addr → Nat → Nat → Int → Int → Option Addr → Nat → Nat → Int → World → Prop) → Prop
  | 0, _, _, _, _, _, _, _, _, _, _, _, _ => False
  | N + 1, y0, y0n, y0c, y1, y5, y6, y6n, y6c, y7, y8, w, K2 =>
    bif (decide (y8 < y5)) then
      sm y0 fun p_16 =>
      if 0 ≤ ((IntKind.wrap .i64 ((IntKind.wrap .i64 (y8 * y1)) + y7)) : Int) ∧ ((IntKind.wrap .i64 ((IntKind.wrap .i64 (y8 * y1)) + y7)) : Int) < ((y0n : Nat) : Int) then
      ldI .u8 (p_16.add (Int.toNat (IntKind.wrap .i64 ((IntKind.wrap .i64 (y8 * y1)) + y7)))) w fun x34_17 =>
      newC 5 [(Value.int .u8 x34_17)] w fun a35_18 w =>
      appL 5 1 1 [(Value.int .u8 0)] y6 y6n y6c (some a35_18) 1 1 w fun a36_19 a36_19n a36_19c w =>
      let v8_20 := (IntKind.wrap .i64 (y8 + 1))
      ref18_Apart.l8 N y0 y0n y0c y1 y5 a36_19 a36_19n a36_19c y7 v8_20 w K2
      else False
    else
      K2 y0 y0n y0c y1 y5 y6 y6n y6c y7 w

def ref18_Apart.l5 : Nat → Option Addr → Nat → Nat → Int → Int → Option Addr → Nat → Nat → Int → World → (Option Addr → Nat → Nat → Int → Int → Option Addr → Nat → Nat → World → Prop) → Prop
  | 0, _, _, _, _, _, _, _, _, _, _, _ => False
  | N + 1, y0, y0n, y0c, y1, y5, y6, y6n, y6c, y7, w, K0 =>
    bif (decide (y7 < y1)) then
      ∃ N_21 : Nat, ref18_Apart.l8 N_21 y0 y0n y0c y1 y5 y6 y6n y6c y7 0 w
      (fun o0_22 o0_22n o0_22c o1_23 o5_24 o6_25 o6_25n o6_25c o7_26 w =>
        let v7_27 := (IntKind.wrap .i64 (o7_26 + 1))
        ref18_Apart.l5 N o0_22 o0_22n o0_22c o1_23 o5_24 o6_25 o6_25n o6_25c v7_27 w K0)
    else
      K0 y0 y0n y0c y1 y5 y6 y6n y6c w

def ref18_Apart.f (a0 : Option Addr) (a0n : Nat) (a0c : Nat) (a1 : Int) (w : World) (K : Option Addr → Nat → Nat → World → Prop) : Prop :=
  let v1_3 := (mx 1 (mn a1 16))
  if v1_3 = 0 then False else
  let v5_5 := (IntKind.wrap .i64 (Int.tdiv ((a0n : Nat) : Int) v1_3))
  ∃ N_28 : Nat, ref18_Apart.l5 N_28 a0 a0n a0c v1_3 v5_5 none 0 0 0 w
  (fun o0_29 o0_29n o0_29c o1_30 o5_31 o6_32 o6_32n o6_32c w =>
    bnd o0_29n o0_29c (some (Value.int .i64 (IntKind.wrap .i64 (o5_31 * o1_30)))) none fun l_34 h_35 =>
    appL 5 1 1 [(Value.int .u8 0)] o6_32 o6_32n o6_32c (adrS o0_29 l_34 o0_29c 1) (h_35 - l_34) (o0_29c - l_34) w fun a43_36 a43_36n a43_36c w =>
    K a43_36 a43_36n a43_36c w)
def ref18_Apart.H (F : type_of% @ref18_Apart.f) : Hf := fun args w K => match args with
  | [v0, v1] => vL v0 fun a0 a0n a0c => vI .i64 v1 fun a1 => F a0 a0n a0c a1 w (fun r0 r0n r0c w => K (Value.slice r0 r0n r0c) w)
  | _ => False
def ref18_Apart.h : Hf := ref18_Apart.H @ref18_Apart.f
def ref18_Apart.C : Hd := hnil
theorem ref18_Apart.C_ok : CSound Try.prog ref18_Apart.C := hnil_ok
def ref18_Apart.D : Nat → Plan := fun i => .done
noncomputable def ref18_Apart.c : Code := Try.f23.body.getD .skip
theorem ref18_Apart.hb : Try.f23.body = some ref18_Apart.c := by kernel_rfl
noncomputable def ref18_Apart.b0 : Code := (loopsOf ref18_Apart.c).getD 0 .skip
noncomputable def ref18_Apart.b0_0 : Code := (loopsOf ref18_Apart.b0).getD 0 .skip
theorem ref18_Apart.b0_0_loops : loopsOf ref18_Apart.b0_0 = [] := by kernel_rfl
theorem ref18_Apart.b0_loops : loopsOf ref18_Apart.b0 = [ref18_Apart.b0_0] := by kernel_rfl
theorem ref18_Apart.c_loops : loopsOf ref18_Apart.c = [ref18_Apart.b0] := by kernel_rfl
def ref18_Apart.hn8 (N : Nat) (f : Fr) (w : World) (K : AExit → Fr → World → Prop) : Prop :=
  gN f 44 <| gL f 0 fun y0 y0n y0c => gI .i64 f 1 fun y1 => gI .i64 f 5 fun y5 => gL f 6 fun y6 y6n y6c => gI .i64 f 7 fun y7 => gI .i64 f 8 fun y8 => ref18_Apart.l8 N y0 y0n y0c y1 y5 y6 y6n y6c y7 y8 w (fun o0 o0n o0c o1 o5 o6 o6n o6c o7 w => K (.exit 2) [some (Value.slice o0 o0n o0c), some (Value.int .i64 o1), none, none, none, some (Value.int .i64 o5), some (Value.slice o6 o6n o6c), some (Value.int .i64 o7), none, none, none, none, none, none, none, none, none, none, none, none, none, none, none, none, none, none, none, none, none, none, none, none, none, none, none, none, none, none, none, none, none, none, none, none] w)
def ref18_Apart.hx8 : AExit → Fr → World → (AExit → Fr → World → Prop) → Prop := fun e f w K => match e with
  | .normal => False
  | .exit i => (match Nat.beq i 2 with | true => gN f 44 <| gL f 0 fun o0 o0n o0c => gI .i64 f 1 fun o1 => gI .i64 f 5 fun o5 => gL f 6 fun o6 o6n o6c => gI .i64 f 7 fun o7 => K (.exit 2) [some (Value.slice o0 o0n o0c), some (Value.int .i64 o1), none, none, none, some (Value.int .i64 o5), some (Value.slice o6 o6n o6c), some (Value.int .i64 o7), none, none, none, none, none, none, none, none, none, none, none, none, none, none, none, none, none, none, none, none, none, none, none, none, none, none, none, none, none, none, none, none, none, none, none, none] w | false => False)
  | .ret => False
def ref18_Apart.hn5 (N : Nat) (f : Fr) (w : World) (K : AExit → Fr → World → Prop) : Prop :=
  gN f 44 <| gL f 0 fun y0 y0n y0c => gI .i64 f 1 fun y1 => gI .i64 f 5 fun y5 => gL f 6 fun y6 y6n y6c => gI .i64 f 7 fun y7 => ref18_Apart.l5 N y0 y0n y0c y1 y5 y6 y6n y6c y7 w (fun o0 o0n o0c o1 o5 o6 o6n o6c w => K (.exit 0) [some (Value.slice o0 o0n o0c), some (Value.int .i64 o1), none, none, none, some (Value.int .i64 o5), some (Value.slice o6 o6n o6c), none, none, none, none, none, none, none, none, none, none, none, none, none, none, none, none, none, none, none, none, none, none, none, none, none, none, none, none, none, none, none, none, none, none, none, none, none] w)
def ref18_Apart.hx5 : AExit → Fr → World → (AExit → Fr → World → Prop) → Prop := fun e f w K => match e with
  | .normal => False
  | .exit i => (match Nat.beq i 0 with | true => gN f 44 <| gL f 0 fun o0 o0n o0c => gI .i64 f 1 fun o1 => gI .i64 f 5 fun o5 => gL f 6 fun o6 o6n o6c => K (.exit 0) [some (Value.slice o0 o0n o0c), some (Value.int .i64 o1), none, none, none, some (Value.int .i64 o5), some (Value.slice o6 o6n o6c), none, none, none, none, none, none, none, none, none, none, none, none, none, none, none, none, none, none, none, none, none, none, none, none, none, none, none, none, none, none, none, none, none, none, none, none, none] w | false => False)
  | .ret => False
def ref18_Apart.L : LHd := fun l f w K => (match Nat.beq l 5 with | true => ∃ N, ref18_Apart.hn5 N f w K | false => (match Nat.beq l 8 with | true => ∃ N, ref18_Apart.hn8 N f w K | false => False))
theorem ref18_Apart.le8 (N : Nat) (y0 : Option Addr) (y0n : Nat) (y0c : Nat) (y1 : Int) (y5 : Int) (y6 : Option Addr) (y6n : Nat) (y6c : Nat) (y7 : Int) (y8 : Int) (w : World) (K : AExit → Fr → World → Prop) : awp ref18_Apart.C ref18_Apart.L ref18_Apart.D tab ref18_Apart.b0_0 (lpost ref18_Apart.hn8 ref18_Apart.hx8 N K) [some (Value.slice y0 y0n y0c), some (Value.int .i64 y1), none, none, none, some (Value.int .i64 y5), some (Value.slice y6 y6n y6c), some (Value.int .i64 y7), some (Value.int .i64 y8), none, none, none, none, none, none, none, none, none, none, none, none, none, none, none, none, none, none, none, none, none, none, none, none, none, none, none, none, none, none, none, none, none, none, none] w = ref18_Apart.l8 (N + 1) y0 y0n y0c y1 y5 y6 y6n y6c y7 y8 w (fun o0 o0n o0c o1 o5 o6 o6n o6c o7 w => K (.exit 2) [some (Value.slice o0 o0n o0c), some (Value.int .i64 o1), none, none, none, some (Value.int .i64 o5), some (Value.slice o6 o6n o6c), some (Value.int .i64 o7), none, none, none, none, none, none, none, none, none, none, none, none, none, none, none, none, none, none, none, none, none, none, none, none, none, none, none, none, none, none, none, none, none, none, none, none] w) := by kernel_rfl
theorem ref18_Apart.lok8 : LoopOk Try.prog ref18_Apart.L ref18_Apart.b0_0 := by
  refine loop_ok tab_ok ref18_Apart.C_ok (D := ref18_Apart.D) (ref18_Apart.hn8) (ref18_Apart.hx8) (by kernel_rfl) (by rw [ref18_Apart.b0_0_loops]; exact lnil) ?_ ?_ ?_ ?_
  · intro f w K h
    unfold ref18_Apart.hn8 at h
    obtain ⟨hlen, h⟩ := gN_ok h
    obtain ⟨y0, y0n, y0c, h0, h⟩ := gL_ok h
    obtain ⟨y1, h1, h⟩ := gI_ok h
    obtain ⟨y5, h5, h⟩ := gI_ok h
    obtain ⟨y6, y6n, y6c, h6, h⟩ := gL_ok h
    obtain ⟨y7, h7, h⟩ := gI_ok h
    obtain ⟨y8, h8, h⟩ := gI_ok h
    exact h
  · intro N f w K h
    unfold ref18_Apart.hn8 at h
    obtain ⟨hlen, h⟩ := gN_ok h
    obtain ⟨y0, y0n, y0c, h0, h⟩ := gL_ok h
    obtain ⟨y1, h1, h⟩ := gI_ok h
    obtain ⟨y5, h5, h⟩ := gI_ok h
    obtain ⟨y6, y6n, y6c, h6, h⟩ := gL_ok h
    obtain ⟨y7, h7, h⟩ := gI_ok h
    obtain ⟨y8, h8, h⟩ := gI_ok h
    refine ⟨[some (Value.slice y0 y0n y0c), some (Value.int .i64 y1), none, none, none, some (Value.int .i64 y5), some (Value.slice y6 y6n y6c), some (Value.int .i64 y7), some (Value.int .i64 y8), none, none, none, none, none, none, none, none, none, none, none, none, none, none, none, none, none, none, none, none, none, none, none, none, none, none, none, none, none, none, none, none, none, none, none], hlen, ⟨h0, h1, h5, h6, h7, h8, trivial⟩, ?_⟩
    rw [ref18_Apart.le8]
    exact h
  · intro e f w K h
    cases e with
    | normal => exact h.elim
    | exit i =>
      unfold ref18_Apart.hx8 at h
      simp only at h
      split at h
      · rename_i hb
        obtain rfl := Nat.eq_of_beq_eq_true hb
        obtain ⟨hlen, h⟩ := gN_ok h
        obtain ⟨o0, o0n, o0c, h0, h⟩ := gL_ok h
        obtain ⟨o1, h1, h⟩ := gI_ok h
        obtain ⟨o5, h5, h⟩ := gI_ok h
        obtain ⟨o6, o6n, o6c, h6, h⟩ := gL_ok h
        obtain ⟨o7, h7, h⟩ := gI_ok h
        exact ⟨[some (Value.slice o0 o0n o0c), some (Value.int .i64 o1), none, none, none, some (Value.int .i64 o5), some (Value.slice o6 o6n o6c), some (Value.int .i64 o7), none, none, none, none, none, none, none, none, none, none, none, none, none, none, none, none, none, none, none, none, none, none, none, none, none, none, none, none, none, none, none, none, none, none, none, none], hlen, ⟨h0, h1, h5, h6, h7, trivial⟩, h⟩
      · exact (show False from h).elim
    | ret =>
      exact (show False from h).elim
  · intro f w K h
    have e : lid ref18_Apart.b0_0 = 8 := by kernel_rfl
    rw [e] at h
    exact h
theorem ref18_Apart.le5 (N : Nat) (y0 : Option Addr) (y0n : Nat) (y0c : Nat) (y1 : Int) (y5 : Int) (y6 : Option Addr) (y6n : Nat) (y6c : Nat) (y7 : Int) (w : World) (K : AExit → Fr → World → Prop) : awp ref18_Apart.C ref18_Apart.L ref18_Apart.D tab ref18_Apart.b0 (lpost ref18_Apart.hn5 ref18_Apart.hx5 N K) [some (Value.slice y0 y0n y0c), some (Value.int .i64 y1), none, none, none, some (Value.int .i64 y5), some (Value.slice y6 y6n y6c), some (Value.int .i64 y7), none, none, none, none, none, none, none, none, none, none, none, none, none, none, none, none, none, none, none, none, none, none, none, none, none, none, none, none, none, none, none, none, none, none, none, none] w = ref18_Apart.l5 (N + 1) y0 y0n y0c y1 y5 y6 y6n y6c y7 w (fun o0 o0n o0c o1 o5 o6 o6n o6c w => K (.exit 0) [some (Value.slice o0 o0n o0c), some (Value.int .i64 o1), none, none, none, some (Value.int .i64 o5), some (Value.slice o6 o6n o6c), none, none, none, none, none, none, none, none, none, none, none, none, none, none, none, none, none, none, none, none, none, none, none, none, none, none, none, none, none, none, none, none, none, none, none, none, none] w) := by kernel_rfl
theorem ref18_Apart.lok5 : LoopOk Try.prog ref18_Apart.L ref18_Apart.b0 := by
  refine loop_ok tab_ok ref18_Apart.C_ok (D := ref18_Apart.D) (ref18_Apart.hn5) (ref18_Apart.hx5) (by kernel_rfl) (by rw [ref18_Apart.b0_loops]; exact lcons ref18_Apart.lok8 (lnil)) ?_ ?_ ?_ ?_
  · intro f w K h
    unfold ref18_Apart.hn5 at h
    obtain ⟨hlen, h⟩ := gN_ok h
    obtain ⟨y0, y0n, y0c, h0, h⟩ := gL_ok h
    obtain ⟨y1, h1, h⟩ := gI_ok h
    obtain ⟨y5, h5, h⟩ := gI_ok h
    obtain ⟨y6, y6n, y6c, h6, h⟩ := gL_ok h
    obtain ⟨y7, h7, h⟩ := gI_ok h
    exact h
  · intro N f w K h
    unfold ref18_Apart.hn5 at h
    obtain ⟨hlen, h⟩ := gN_ok h
    obtain ⟨y0, y0n, y0c, h0, h⟩ := gL_ok h
    obtain ⟨y1, h1, h⟩ := gI_ok h
    obtain ⟨y5, h5, h⟩ := gI_ok h
    obtain ⟨y6, y6n, y6c, h6, h⟩ := gL_ok h
    obtain ⟨y7, h7, h⟩ := gI_ok h
    refine ⟨[some (Value.slice y0 y0n y0c), some (Value.int .i64 y1), none, none, none, some (Value.int .i64 y5), some (Value.slice y6 y6n y6c), some (Value.int .i64 y7), none, none, none, none, none, none, none, none, none, none, none, none, none, none, none, none, none, none, none, none, none, none, none, none, none, none, none, none, none, none, none, none, none, none, none, none], hlen, ⟨h0, h1, h5, h6, h7, trivial⟩, ?_⟩
    rw [ref18_Apart.le5]
    exact h
  · intro e f w K h
    cases e with
    | normal => exact h.elim
    | exit i =>
      unfold ref18_Apart.hx5 at h
      simp only at h
      split at h
      · rename_i hb
        obtain rfl := Nat.eq_of_beq_eq_true hb
        obtain ⟨hlen, h⟩ := gN_ok h
        obtain ⟨o0, o0n, o0c, h0, h⟩ := gL_ok h
        obtain ⟨o1, h1, h⟩ := gI_ok h
        obtain ⟨o5, h5, h⟩ := gI_ok h
        obtain ⟨o6, o6n, o6c, h6, h⟩ := gL_ok h
        exact ⟨[some (Value.slice o0 o0n o0c), some (Value.int .i64 o1), none, none, none, some (Value.int .i64 o5), some (Value.slice o6 o6n o6c), none, none, none, none, none, none, none, none, none, none, none, none, none, none, none, none, none, none, none, none, none, none, none, none, none, none, none, none, none, none, none, none, none, none, none, none, none], hlen, ⟨h0, h1, h5, h6, trivial⟩, h⟩
      · exact (show False from h).elim
    | ret =>
      exact (show False from h).elim
  · intro f w K h
    have e : lid ref18_Apart.b0 = 5 := by kernel_rfl
    rw [e] at h
    exact h
theorem ref18_Apart.eq (a0 : Option Addr) (a0n : Nat) (a0c : Nat) (a1 : Int) (w : World) (K : Value → World → Prop) : afn ref18_Apart.C ref18_Apart.L ref18_Apart.D tab Try.f23 [(Value.slice a0 a0n a0c), (Value.int .i64 a1)] w K = ref18_Apart.f a0 a0n a0c a1 w (fun r0 r0n r0c w => K (Value.slice r0 r0n r0c) w) := by kernel_rfl
theorem ref18_Apart.ok : FSound Try.prog 23 ref18_Apart.h := by
  intro args w K h
  unfold ref18_Apart.h ref18_Apart.H at h
  split at h
  ·
    replace h := vL_ok h
    obtain ⟨a0, a0n, a0c, rfl, h⟩ := h
    replace h := vI_ok h
    obtain ⟨a1, rfl, h⟩ := h
    refine ⟨by kernel_rfl, fn_ok tab_ok ref18_Apart.C_ok (L := ref18_Apart.L) (D := ref18_Apart.D) Try.func23 ref18_Apart.hb (by kernel_rfl) (by rw [ref18_Apart.c_loops]; exact lcons ref18_Apart.lok5 (lnil)) (Nat.le_of_ble_eq_true (by kernel_rfl)) ?_⟩
    rw [ref18_Apart.eq]
    exact h
  · exact h.elim
/-! ### valise/colour.Together: function 24 -/
def colour_Together.l8 : Nat → Option Addr → Nat → Nat → Int → Int → Option Addr → Nat → Nat → Int → Int → Int → Int → Int → World → (Option Addr → Nat → Nat → Int → Int → Option Addr → Nat → Nat → Int → Int → World → Prop) → Prop
  | 0, _, _, _, _, _, _, _, _, _, _, _, _, _, _, _ => False
  | N + 1, y0, y0n, y0c, y1, y5, y6, y6n, y6c, y7, y18, y19, y22, y23, w, K2 =>
    bif (decide (y23 < y22)) then
      sm y0 fun p_19 =>
      if 0 ≤ ((IntKind.wrap .i64 ((IntKind.wrap .i64 (y7 * y5)) + y23)) : Int) ∧ ((IntKind.wrap .i64 ((IntKind.wrap .i64 (y7 * y5)) + y23)) : Int) < ((y0n : Nat) : Int) then
      ldI .u8 (p_19.add (Int.toNat (IntKind.wrap .i64 ((IntKind.wrap .i64 (y7 * y5)) + y23)))) w fun x39_20 =>
      sm y6 fun p_21 =>
      if 0 ≤ ((IntKind.wrap .i64 ((IntKind.wrap .i64 (y23 * y1)) + y7)) : Int) ∧ ((IntKind.wrap .i64 ((IntKind.wrap .i64 (y23 * y1)) + y7)) : Int) < ((y6n : Nat) : Int) then
      stC (p_21.add (Int.toNat (IntKind.wrap .i64 ((IntKind.wrap .i64 (y23 * y1)) + y7)))) (Value.int .u8 x39_20) w fun w =>
      colour_Together.l8 N y0 y0n y0c y1 y5 y6 y6n y6c y7 y18 y19 y22 (IntKind.wrap .i64 (y23 + 1)) w K2
      else False
      else False
    else
      K2 y0 y0n y0c y1 y5 y6 y6n y6c y18 y19 w

def colour_Together.l5 : Nat → Option Addr → Nat → Nat → Int → Int → Option Addr → Nat → Nat → Int → Int → World → (Option Addr → Nat → Nat → World → Prop) → Prop
  | 0, _, _, _, _, _, _, _, _, _, _, _, _ => False
  | N + 1, y0, y0n, y0c, y1, y5, y6, y6n, y6c, y18, y19, w, K0 =>
    bif (decide (y19 < y18)) then
      ∃ N_22 : Nat, colour_Together.l8 N_22 y0 y0n y0c y1 y5 y6 y6n y6c y19 y18 y19 y5 0 w
      (fun o0_23 o0_23n o0_23c o1_24 o5_25 o6_26 o6_26n o6_26c o18_27 o19_28 w =>
        colour_Together.l5 N o0_23 o0_23n o0_23c o1_24 o5_25 o6_26 o6_26n o6_26c o18_27 (IntKind.wrap .i64 (o19_28 + 1)) w K0)
    else
      K0 y6 y6n y6c w

def colour_Together.f (a0 : Option Addr) (a0n : Nat) (a0c : Nat) (a1 : Int) (w : World) (K : Option Addr → Nat → Nat → World → Prop) : Prop :=
  let v1_3 := (mx 1 (mn a1 16))
  if v1_3 = 0 then False else
  let v5_5 := (IntKind.wrap .i64 (Int.tdiv ((a0n : Nat) : Int) v1_3))
  appL 5 1 1 [(Value.int .u8 0)] none 0 0 a0 a0n a0c w fun a17_7 a17_7n a17_7c w =>
  ∃ N_29 : Nat, colour_Together.l5 N_29 a0 a0n a0c v1_3 v5_5 a17_7 a17_7n a17_7c v1_3 0 w
  (fun o6_30 o6_30n o6_30c w =>
    K o6_30 o6_30n o6_30c w)
def colour_Together.H (F : type_of% @colour_Together.f) : Hf := fun args w K => match args with
  | [v0, v1] => vL v0 fun a0 a0n a0c => vI .i64 v1 fun a1 => F a0 a0n a0c a1 w (fun r0 r0n r0c w => K (Value.slice r0 r0n r0c) w)
  | _ => False
def colour_Together.h : Hf := colour_Together.H @colour_Together.f
def colour_Together.C : Hd := hnil
theorem colour_Together.C_ok : CSound Try.prog colour_Together.C := hnil_ok
def colour_Together.D : Nat → Plan := fun i => .done
noncomputable def colour_Together.c : Code := Try.f24.body.getD .skip
theorem colour_Together.hb : Try.f24.body = some colour_Together.c := by kernel_rfl
noncomputable def colour_Together.b0 : Code := (loopsOf colour_Together.c).getD 0 .skip
noncomputable def colour_Together.b0_0 : Code := (loopsOf colour_Together.b0).getD 0 .skip
theorem colour_Together.b0_0_loops : loopsOf colour_Together.b0_0 = [] := by kernel_rfl
theorem colour_Together.b0_loops : loopsOf colour_Together.b0 = [colour_Together.b0_0] := by kernel_rfl
theorem colour_Together.c_loops : loopsOf colour_Together.c = [colour_Together.b0] := by kernel_rfl
def colour_Together.hn8 (N : Nat) (f : Fr) (w : World) (K : AExit → Fr → World → Prop) : Prop :=
  gN f 44 <| gL f 0 fun y0 y0n y0c => gI .i64 f 1 fun y1 => gI .i64 f 5 fun y5 => gL f 6 fun y6 y6n y6c => gI .i64 f 7 fun y7 => gI .i64 f 18 fun y18 => gI .i64 f 19 fun y19 => gI .i64 f 22 fun y22 => gI .i64 f 23 fun y23 => colour_Together.l8 N y0 y0n y0c y1 y5 y6 y6n y6c y7 y18 y19 y22 y23 w (fun o0 o0n o0c o1 o5 o6 o6n o6c o18 o19 w => K (.exit 2) [some (Value.slice o0 o0n o0c), some (Value.int .i64 o1), none, none, none, some (Value.int .i64 o5), some (Value.slice o6 o6n o6c), none, none, none, none, none, none, none, none, none, none, none, some (Value.int .i64 o18), some (Value.int .i64 o19), none, none, none, none, none, none, none, none, none, none, none, none, none, none, none, none, none, none, none, none, none, none, none, none] w)
def colour_Together.hx8 : AExit → Fr → World → (AExit → Fr → World → Prop) → Prop := fun e f w K => match e with
  | .normal => False
  | .exit i => (match Nat.beq i 2 with | true => gN f 44 <| gL f 0 fun o0 o0n o0c => gI .i64 f 1 fun o1 => gI .i64 f 5 fun o5 => gL f 6 fun o6 o6n o6c => gI .i64 f 18 fun o18 => gI .i64 f 19 fun o19 => K (.exit 2) [some (Value.slice o0 o0n o0c), some (Value.int .i64 o1), none, none, none, some (Value.int .i64 o5), some (Value.slice o6 o6n o6c), none, none, none, none, none, none, none, none, none, none, none, some (Value.int .i64 o18), some (Value.int .i64 o19), none, none, none, none, none, none, none, none, none, none, none, none, none, none, none, none, none, none, none, none, none, none, none, none] w | false => False)
  | .ret => False
def colour_Together.hn5 (N : Nat) (f : Fr) (w : World) (K : AExit → Fr → World → Prop) : Prop :=
  gN f 44 <| gL f 0 fun y0 y0n y0c => gI .i64 f 1 fun y1 => gI .i64 f 5 fun y5 => gL f 6 fun y6 y6n y6c => gI .i64 f 18 fun y18 => gI .i64 f 19 fun y19 => colour_Together.l5 N y0 y0n y0c y1 y5 y6 y6n y6c y18 y19 w (fun o6 o6n o6c w => K (.exit 0) [none, none, none, none, none, none, some (Value.slice o6 o6n o6c), none, none, none, none, none, none, none, none, none, none, none, none, none, none, none, none, none, none, none, none, none, none, none, none, none, none, none, none, none, none, none, none, none, none, none, none, none] w)
def colour_Together.hx5 : AExit → Fr → World → (AExit → Fr → World → Prop) → Prop := fun e f w K => match e with
  | .normal => False
  | .exit i => (match Nat.beq i 0 with | true => gN f 44 <| gL f 6 fun o6 o6n o6c => K (.exit 0) [none, none, none, none, none, none, some (Value.slice o6 o6n o6c), none, none, none, none, none, none, none, none, none, none, none, none, none, none, none, none, none, none, none, none, none, none, none, none, none, none, none, none, none, none, none, none, none, none, none, none, none] w | false => False)
  | .ret => False
def colour_Together.L : LHd := fun l f w K => (match Nat.beq l 5 with | true => ∃ N, colour_Together.hn5 N f w K | false => (match Nat.beq l 8 with | true => ∃ N, colour_Together.hn8 N f w K | false => False))
theorem colour_Together.le8 (N : Nat) (y0 : Option Addr) (y0n : Nat) (y0c : Nat) (y1 : Int) (y5 : Int) (y6 : Option Addr) (y6n : Nat) (y6c : Nat) (y7 : Int) (y18 : Int) (y19 : Int) (y22 : Int) (y23 : Int) (w : World) (K : AExit → Fr → World → Prop) : awp colour_Together.C colour_Together.L colour_Together.D tab colour_Together.b0_0 (lpost colour_Together.hn8 colour_Together.hx8 N K) [some (Value.slice y0 y0n y0c), some (Value.int .i64 y1), none, none, none, some (Value.int .i64 y5), some (Value.slice y6 y6n y6c), some (Value.int .i64 y7), none, none, none, none, none, none, none, none, none, none, some (Value.int .i64 y18), some (Value.int .i64 y19), none, none, some (Value.int .i64 y22), some (Value.int .i64 y23), none, none, none, none, none, none, none, none, none, none, none, none, none, none, none, none, none, none, none, none] w = colour_Together.l8 (N + 1) y0 y0n y0c y1 y5 y6 y6n y6c y7 y18 y19 y22 y23 w (fun o0 o0n o0c o1 o5 o6 o6n o6c o18 o19 w => K (.exit 2) [some (Value.slice o0 o0n o0c), some (Value.int .i64 o1), none, none, none, some (Value.int .i64 o5), some (Value.slice o6 o6n o6c), none, none, none, none, none, none, none, none, none, none, none, some (Value.int .i64 o18), some (Value.int .i64 o19), none, none, none, none, none, none, none, none, none, none, none, none, none, none, none, none, none, none, none, none, none, none, none, none] w) := by kernel_rfl
theorem colour_Together.lok8 : LoopOk Try.prog colour_Together.L colour_Together.b0_0 := by
  refine loop_ok tab_ok colour_Together.C_ok (D := colour_Together.D) (colour_Together.hn8) (colour_Together.hx8) (by kernel_rfl) (by rw [colour_Together.b0_0_loops]; exact lnil) ?_ ?_ ?_ ?_
  · intro f w K h
    unfold colour_Together.hn8 at h
    obtain ⟨hlen, h⟩ := gN_ok h
    obtain ⟨y0, y0n, y0c, h0, h⟩ := gL_ok h
    obtain ⟨y1, h1, h⟩ := gI_ok h
    obtain ⟨y5, h5, h⟩ := gI_ok h
    obtain ⟨y6, y6n, y6c, h6, h⟩ := gL_ok h
    obtain ⟨y7, h7, h⟩ := gI_ok h
    obtain ⟨y18, h18, h⟩ := gI_ok h
    obtain ⟨y19, h19, h⟩ := gI_ok h
    obtain ⟨y22, h22, h⟩ := gI_ok h
    obtain ⟨y23, h23, h⟩ := gI_ok h
    exact h
  · intro N f w K h
    unfold colour_Together.hn8 at h
    obtain ⟨hlen, h⟩ := gN_ok h
    obtain ⟨y0, y0n, y0c, h0, h⟩ := gL_ok h
    obtain ⟨y1, h1, h⟩ := gI_ok h
    obtain ⟨y5, h5, h⟩ := gI_ok h
    obtain ⟨y6, y6n, y6c, h6, h⟩ := gL_ok h
    obtain ⟨y7, h7, h⟩ := gI_ok h
    obtain ⟨y18, h18, h⟩ := gI_ok h
    obtain ⟨y19, h19, h⟩ := gI_ok h
    obtain ⟨y22, h22, h⟩ := gI_ok h
    obtain ⟨y23, h23, h⟩ := gI_ok h
    refine ⟨[some (Value.slice y0 y0n y0c), some (Value.int .i64 y1), none, none, none, some (Value.int .i64 y5), some (Value.slice y6 y6n y6c), some (Value.int .i64 y7), none, none, none, none, none, none, none, none, none, none, some (Value.int .i64 y18), some (Value.int .i64 y19), none, none, some (Value.int .i64 y22), some (Value.int .i64 y23), none, none, none, none, none, none, none, none, none, none, none, none, none, none, none, none, none, none, none, none], hlen, ⟨h0, h1, h5, h6, h7, h18, h19, h22, h23, trivial⟩, ?_⟩
    rw [colour_Together.le8]
    exact h
  · intro e f w K h
    cases e with
    | normal => exact h.elim
    | exit i =>
      unfold colour_Together.hx8 at h
      simp only at h
      split at h
      · rename_i hb
        obtain rfl := Nat.eq_of_beq_eq_true hb
        obtain ⟨hlen, h⟩ := gN_ok h
        obtain ⟨o0, o0n, o0c, h0, h⟩ := gL_ok h
        obtain ⟨o1, h1, h⟩ := gI_ok h
        obtain ⟨o5, h5, h⟩ := gI_ok h
        obtain ⟨o6, o6n, o6c, h6, h⟩ := gL_ok h
        obtain ⟨o18, h18, h⟩ := gI_ok h
        obtain ⟨o19, h19, h⟩ := gI_ok h
        exact ⟨[some (Value.slice o0 o0n o0c), some (Value.int .i64 o1), none, none, none, some (Value.int .i64 o5), some (Value.slice o6 o6n o6c), none, none, none, none, none, none, none, none, none, none, none, some (Value.int .i64 o18), some (Value.int .i64 o19), none, none, none, none, none, none, none, none, none, none, none, none, none, none, none, none, none, none, none, none, none, none, none, none], hlen, ⟨h0, h1, h5, h6, h18, h19, trivial⟩, h⟩
      · exact (show False from h).elim
    | ret =>
      exact (show False from h).elim
  · intro f w K h
    have e : lid colour_Together.b0_0 = 8 := by kernel_rfl
    rw [e] at h
    exact h
theorem colour_Together.le5 (N : Nat) (y0 : Option Addr) (y0n : Nat) (y0c : Nat) (y1 : Int) (y5 : Int) (y6 : Option Addr) (y6n : Nat) (y6c : Nat) (y18 : Int) (y19 : Int) (w : World) (K : AExit → Fr → World → Prop) : awp colour_Together.C colour_Together.L colour_Together.D tab colour_Together.b0 (lpost colour_Together.hn5 colour_Together.hx5 N K) [some (Value.slice y0 y0n y0c), some (Value.int .i64 y1), none, none, none, some (Value.int .i64 y5), some (Value.slice y6 y6n y6c), none, none, none, none, none, none, none, none, none, none, none, some (Value.int .i64 y18), some (Value.int .i64 y19), none, none, none, none, none, none, none, none, none, none, none, none, none, none, none, none, none, none, none, none, none, none, none, none] w = colour_Together.l5 (N + 1) y0 y0n y0c y1 y5 y6 y6n y6c y18 y19 w (fun o6 o6n o6c w => K (.exit 0) [none, none, none, none, none, none, some (Value.slice o6 o6n o6c), none, none, none, none, none, none, none, none, none, none, none, none, none, none, none, none, none, none, none, none, none, none, none, none, none, none, none, none, none, none, none, none, none, none, none, none, none] w) := by kernel_rfl
theorem colour_Together.lok5 : LoopOk Try.prog colour_Together.L colour_Together.b0 := by
  refine loop_ok tab_ok colour_Together.C_ok (D := colour_Together.D) (colour_Together.hn5) (colour_Together.hx5) (by kernel_rfl) (by rw [colour_Together.b0_loops]; exact lcons colour_Together.lok8 (lnil)) ?_ ?_ ?_ ?_
  · intro f w K h
    unfold colour_Together.hn5 at h
    obtain ⟨hlen, h⟩ := gN_ok h
    obtain ⟨y0, y0n, y0c, h0, h⟩ := gL_ok h
    obtain ⟨y1, h1, h⟩ := gI_ok h
    obtain ⟨y5, h5, h⟩ := gI_ok h
    obtain ⟨y6, y6n, y6c, h6, h⟩ := gL_ok h
    obtain ⟨y18, h18, h⟩ := gI_ok h
    obtain ⟨y19, h19, h⟩ := gI_ok h
    exact h
  · intro N f w K h
    unfold colour_Together.hn5 at h
    obtain ⟨hlen, h⟩ := gN_ok h
    obtain ⟨y0, y0n, y0c, h0, h⟩ := gL_ok h
    obtain ⟨y1, h1, h⟩ := gI_ok h
    obtain ⟨y5, h5, h⟩ := gI_ok h
    obtain ⟨y6, y6n, y6c, h6, h⟩ := gL_ok h
    obtain ⟨y18, h18, h⟩ := gI_ok h
    obtain ⟨y19, h19, h⟩ := gI_ok h
    refine ⟨[some (Value.slice y0 y0n y0c), some (Value.int .i64 y1), none, none, none, some (Value.int .i64 y5), some (Value.slice y6 y6n y6c), none, none, none, none, none, none, none, none, none, none, none, some (Value.int .i64 y18), some (Value.int .i64 y19), none, none, none, none, none, none, none, none, none, none, none, none, none, none, none, none, none, none, none, none, none, none, none, none], hlen, ⟨h0, h1, h5, h6, h18, h19, trivial⟩, ?_⟩
    rw [colour_Together.le5]
    exact h
  · intro e f w K h
    cases e with
    | normal => exact h.elim
    | exit i =>
      unfold colour_Together.hx5 at h
      simp only at h
      split at h
      · rename_i hb
        obtain rfl := Nat.eq_of_beq_eq_true hb
        obtain ⟨hlen, h⟩ := gN_ok h
        obtain ⟨o6, o6n, o6c, h6, h⟩ := gL_ok h
        exact ⟨[none, none, none, none, none, none, some (Value.slice o6 o6n o6c), none, none, none, none, none, none, none, none, none, none, none, none, none, none, none, none, none, none, none, none, none, none, none, none, none, none, none, none, none, none, none, none, none, none, none, none, none], hlen, ⟨h6, trivial⟩, h⟩
      · exact (show False from h).elim
    | ret =>
      exact (show False from h).elim
  · intro f w K h
    have e : lid colour_Together.b0 = 5 := by kernel_rfl
    rw [e] at h
    exact h
theorem colour_Together.eq (a0 : Option Addr) (a0n : Nat) (a0c : Nat) (a1 : Int) (w : World) (K : Value → World → Prop) : afn colour_Together.C colour_Together.L colour_Together.D tab Try.f24 [(Value.slice a0 a0n a0c), (Value.int .i64 a1)] w K = colour_Together.f a0 a0n a0c a1 w (fun r0 r0n r0c w => K (Value.slice r0 r0n r0c) w) := by kernel_rfl
theorem colour_Together.ok : FSound Try.prog 24 colour_Together.h := by
  intro args w K h
  unfold colour_Together.h colour_Together.H at h
  split at h
  ·
    replace h := vL_ok h
    obtain ⟨a0, a0n, a0c, rfl, h⟩ := h
    replace h := vI_ok h
    obtain ⟨a1, rfl, h⟩ := h
    refine ⟨by kernel_rfl, fn_ok tab_ok colour_Together.C_ok (L := colour_Together.L) (D := colour_Together.D) Try.func24 colour_Together.hb (by kernel_rfl) (by rw [colour_Together.c_loops]; exact lcons colour_Together.lok5 (lnil)) (Nat.le_of_ble_eq_true (by kernel_rfl)) ?_⟩
    rw [colour_Together.eq]
    exact h
  · exact h.elim
/-! ### valise/valiseref18.Together: function 25 -/
def ref18_Together.l8 : Nat → Option Addr → Nat → Nat → Int → Int → Option Addr → Nat → Nat → Int → Int → World → (Option Addr → Nat → Nat → Int → Int → Option Addr → Nat → Nat → Int → World → Prop) → Prop
  | 0, _, _, _, _, _, _, _, _, _, _, _, _ => False
  | N + 1, y0, y0n, y0c, y1, y5, y6, y6n, y6c, y7, y8, w, K2 =>
    bif (decide (y8 < y1)) then
      sm y0 fun p_16 =>
      if 0 ≤ ((IntKind.wrap .i64 ((IntKind.wrap .i64 (y8 * y5)) + y7)) : Int) ∧ ((IntKind.wrap .i64 ((IntKind.wrap .i64 (y8 * y5)) + y7)) : Int) < ((y0n : Nat) : Int) then
      ldI .u8 (p_16.add (Int.toNat (IntKind.wrap .i64 ((IntKind.wrap .i64 (y8 * y5)) + y7)))) w fun x34_17 =>
      newC 5 [(Value.int .u8 x34_17)] w fun a35_18 w =>
      appL 5 1 1 [(Value.int .u8 0)] y6 y6n y6c (some a35_18) 1 1 w fun a36_19 a36_19n a36_19c w =>
      let v8_20 := (IntKind.wrap .i64 (y8 + 1))
      ref18_Together.l8 N y0 y0n y0c y1 y5 a36_19 a36_19n a36_19c y7 v8_20 w K2
      else False
    else
      K2 y0 y0n y0c y1 y5 y6 y6n y6c y7 w

def ref18_Together.l5 : Nat → Option Addr → Nat → Nat → Int → Int → Option Addr → Nat → Nat → Int → World → (Option Addr → Nat → Nat → Int → Int → Option Addr → Nat → Nat → World → Prop) → Prop
  | 0, _, _, _, _, _, _, _, _, _, _, _ => False
  | N + 1, y0, y0n, y0c, y1, y5, y6, y6n, y6c, y7, w, K0 =>
    bif (decide (y7 < y5)) then
      ∃ N_21 : Nat, ref18_Together.l8 N_21 y0 y0n y0c y1 y5 y6 y6n y6c y7 0 w
      (fun o0_22 o0_22n o0_22c o1_23 o5_24 o6_25 o6_25n o6_25c o7_26 w =>
        let v7_27 := (IntKind.wrap .i64 (o7_26 + 1))
        ref18_Together.l5 N o0_22 o0_22n o0_22c o1_23 o5_24 o6_25 o6_25n o6_25c v7_27 w K0)
    else
      K0 y0 y0n y0c y1 y5 y6 y6n y6c w

def ref18_Together.f (a0 : Option Addr) (a0n : Nat) (a0c : Nat) (a1 : Int) (w : World) (K : Option Addr → Nat → Nat → World → Prop) : Prop :=
  let v1_3 := (mx 1 (mn a1 16))
  if v1_3 = 0 then False else
  let v5_5 := (IntKind.wrap .i64 (Int.tdiv ((a0n : Nat) : Int) v1_3))
  ∃ N_28 : Nat, ref18_Together.l5 N_28 a0 a0n a0c v1_3 v5_5 none 0 0 0 w
  (fun o0_29 o0_29n o0_29c o1_30 o5_31 o6_32 o6_32n o6_32c w =>
    bnd o0_29n o0_29c (some (Value.int .i64 (IntKind.wrap .i64 (o5_31 * o1_30)))) none fun l_34 h_35 =>
    appL 5 1 1 [(Value.int .u8 0)] o6_32 o6_32n o6_32c (adrS o0_29 l_34 o0_29c 1) (h_35 - l_34) (o0_29c - l_34) w fun a43_36 a43_36n a43_36c w =>
    K a43_36 a43_36n a43_36c w)
def ref18_Together.H (F : type_of% @ref18_Together.f) : Hf := fun args w K => match args with
  | [v0, v1] => vL v0 fun a0 a0n a0c => vI .i64 v1 fun a1 => F a0 a0n a0c a1 w (fun r0 r0n r0c w => K (Value.slice r0 r0n r0c) w)
  | _ => False
def ref18_Together.h : Hf := ref18_Together.H @ref18_Together.f
def ref18_Together.C : Hd := hnil
theorem ref18_Together.C_ok : CSound Try.prog ref18_Together.C := hnil_ok
def ref18_Together.D : Nat → Plan := fun i => .done
noncomputable def ref18_Together.c : Code := Try.f25.body.getD .skip
theorem ref18_Together.hb : Try.f25.body = some ref18_Together.c := by kernel_rfl
noncomputable def ref18_Together.b0 : Code := (loopsOf ref18_Together.c).getD 0 .skip
noncomputable def ref18_Together.b0_0 : Code := (loopsOf ref18_Together.b0).getD 0 .skip
theorem ref18_Together.b0_0_loops : loopsOf ref18_Together.b0_0 = [] := by kernel_rfl
theorem ref18_Together.b0_loops : loopsOf ref18_Together.b0 = [ref18_Together.b0_0] := by kernel_rfl
theorem ref18_Together.c_loops : loopsOf ref18_Together.c = [ref18_Together.b0] := by kernel_rfl
def ref18_Together.hn8 (N : Nat) (f : Fr) (w : World) (K : AExit → Fr → World → Prop) : Prop :=
  gN f 44 <| gL f 0 fun y0 y0n y0c => gI .i64 f 1 fun y1 => gI .i64 f 5 fun y5 => gL f 6 fun y6 y6n y6c => gI .i64 f 7 fun y7 => gI .i64 f 8 fun y8 => ref18_Together.l8 N y0 y0n y0c y1 y5 y6 y6n y6c y7 y8 w (fun o0 o0n o0c o1 o5 o6 o6n o6c o7 w => K (.exit 2) [some (Value.slice o0 o0n o0c), some (Value.int .i64 o1), none, none, none, some (Value.int .i64 o5), some (Value.slice o6 o6n o6c), some (Value.int .i64 o7), none, none, none, none, none, none, none, none, none, none, none, none, none, none, none, none, none, none, none, none, none, none, none, none, none, none, none, none, none, none, none, none, none, none, none, none] w)
def ref18_Together.hx8 : AExit → Fr → World → (AExit → Fr → World → Prop) → Prop := fun e f w K => match e with
  | .normal => False
  | .exit i => (match Nat.beq i 2 with | true => gN f 44 <| gL f 0 fun o0 o0n o0c => gI .i64 f 1 fun o1 => gI .i64 f 5 fun o5 => gL f 6 fun o6 o6n o6c => gI .i64 f 7 fun o7 => K (.exit 2) [some (Value.slice o0 o0n o0c), some (Value.int .i64 o1), none, none, none, some (Value.int .i64 o5), some (Value.slice o6 o6n o6c), some (Value.int .i64 o7), none, none, none, none, none, none, none, none, none, none, none, none, none, none, none, none, none, none, none, none, none, none, none, none, none, none, none, none, none, none, none, none, none, none, none, none] w | false => False)
  | .ret => False
def ref18_Together.hn5 (N : Nat) (f : Fr) (w : World) (K : AExit → Fr → World → Prop) : Prop :=
  gN f 44 <| gL f 0 fun y0 y0n y0c => gI .i64 f 1 fun y1 => gI .i64 f 5 fun y5 => gL f 6 fun y6 y6n y6c => gI .i64 f 7 fun y7 => ref18_Together.l5 N y0 y0n y0c y1 y5 y6 y6n y6c y7 w (fun o0 o0n o0c o1 o5 o6 o6n o6c w => K (.exit 0) [some (Value.slice o0 o0n o0c), some (Value.int .i64 o1), none, none, none, some (Value.int .i64 o5), some (Value.slice o6 o6n o6c), none, none, none, none, none, none, none, none, none, none, none, none, none, none, none, none, none, none, none, none, none, none, none, none, none, none, none, none, none, none, none, none, none, none, none, none, none] w)
def ref18_Together.hx5 : AExit → Fr → World → (AExit → Fr → World → Prop) → Prop := fun e f w K => match e with
  | .normal => False
  | .exit i => (match Nat.beq i 0 with | true => gN f 44 <| gL f 0 fun o0 o0n o0c => gI .i64 f 1 fun o1 => gI .i64 f 5 fun o5 => gL f 6 fun o6 o6n o6c => K (.exit 0) [some (Value.slice o0 o0n o0c), some (Value.int .i64 o1), none, none, none, some (Value.int .i64 o5), some (Value.slice o6 o6n o6c), none, none, none, none, none, none, none, none, none, none, none, none, none, none, none, none, none, none, none, none, none, none, none, none, none, none, none, none, none, none, none, none, none, none, none, none, none] w | false => False)
  | .ret => False
def ref18_Together.L : LHd := fun l f w K => (match Nat.beq l 5 with | true => ∃ N, ref18_Together.hn5 N f w K | false => (match Nat.beq l 8 with | true => ∃ N, ref18_Together.hn8 N f w K | false => False))
theorem ref18_Together.le8 (N : Nat) (y0 : Option Addr) (y0n : Nat) (y0c : Nat) (y1 : Int) (y5 : Int) (y6 : Option Addr) (y6n : Nat) (y6c : Nat) (y7 : Int) (y8 : Int) (w : World) (K : AExit → Fr → World → Prop) : awp ref18_Together.C ref18_Together.L ref18_Together.D tab ref18_Together.b0_0 (lpost ref18_Together.hn8 ref18_Together.hx8 N K) [some (Value.slice y0 y0n y0c), some (Value.int .i64 y1), none, none, none, some (Value.int .i64 y5), some (Value.slice y6 y6n y6c), some (Value.int .i64 y7), some (Value.int .i64 y8), none, none, none, none, none, none, none, none, none, none, none, none, none, none, none, none, none, none, none, none, none, none, none, none, none, none, none, none, none, none, none, none, none, none, none] w = ref18_Together.l8 (N + 1) y0 y0n y0c y1 y5 y6 y6n y6c y7 y8 w (fun o0 o0n o0c o1 o5 o6 o6n o6c o7 w => K (.exit 2) [some (Value.slice o0 o0n o0c), some (Value.int .i64 o1), none, none, none, some (Value.int .i64 o5), some (Value.slice o6 o6n o6c), some (Value.int .i64 o7), none, none, none, none, none, none, none, none, none, none, none, none, none, none, none, none, none, none, none, none, none, none, none, none, none, none, none, none, none, none, none, none, none, none, none, none] w) := by kernel_rfl
theorem ref18_Together.lok8 : LoopOk Try.prog ref18_Together.L ref18_Together.b0_0 := by
  refine loop_ok tab_ok ref18_Together.C_ok (D := ref18_Together.D) (ref18_Together.hn8) (ref18_Together.hx8) (by kernel_rfl) (by rw [ref18_Together.b0_0_loops]; exact lnil) ?_ ?_ ?_ ?_
  · intro f w K h
    unfold ref18_Together.hn8 at h
    obtain ⟨hlen, h⟩ := gN_ok h
    obtain ⟨y0, y0n, y0c, h0, h⟩ := gL_ok h
    obtain ⟨y1, h1, h⟩ := gI_ok h
    obtain ⟨y5, h5, h⟩ := gI_ok h
    obtain ⟨y6, y6n, y6c, h6, h⟩ := gL_ok h
    obtain ⟨y7, h7, h⟩ := gI_ok h
    obtain ⟨y8, h8, h⟩ := gI_ok h
    exact h
  · intro N f w K h
    unfold ref18_Together.hn8 at h
    obtain ⟨hlen, h⟩ := gN_ok h
    obtain ⟨y0, y0n, y0c, h0, h⟩ := gL_ok h
    obtain ⟨y1, h1, h⟩ := gI_ok h
    obtain ⟨y5, h5, h⟩ := gI_ok h
    obtain ⟨y6, y6n, y6c, h6, h⟩ := gL_ok h
    obtain ⟨y7, h7, h⟩ := gI_ok h
    obtain ⟨y8, h8, h⟩ := gI_ok h
    refine ⟨[some (Value.slice y0 y0n y0c), some (Value.int .i64 y1), none, none, none, some (Value.int .i64 y5), some (Value.slice y6 y6n y6c), some (Value.int .i64 y7), some (Value.int .i64 y8), none, none, none, none, none, none, none, none, none, none, none, none, none, none, none, none, none, none, none, none, none, none, none, none, none, none, none, none, none, none, none, none, none, none, none], hlen, ⟨h0, h1, h5, h6, h7, h8, trivial⟩, ?_⟩
    rw [ref18_Together.le8]
    exact h
  · intro e f w K h
    cases e with
    | normal => exact h.elim
    | exit i =>
      unfold ref18_Together.hx8 at h
      simp only at h
      split at h
      · rename_i hb
        obtain rfl := Nat.eq_of_beq_eq_true hb
        obtain ⟨hlen, h⟩ := gN_ok h
        obtain ⟨o0, o0n, o0c, h0, h⟩ := gL_ok h
        obtain ⟨o1, h1, h⟩ := gI_ok h
        obtain ⟨o5, h5, h⟩ := gI_ok h
        obtain ⟨o6, o6n, o6c, h6, h⟩ := gL_ok h
        obtain ⟨o7, h7, h⟩ := gI_ok h
        exact ⟨[some (Value.slice o0 o0n o0c), some (Value.int .i64 o1), none, none, none, some (Value.int .i64 o5), some (Value.slice o6 o6n o6c), some (Value.int .i64 o7), none, none, none, none, none, none, none, none, none, none, none, none, none, none, none, none, none, none, none, none, none, none, none, none, none, none, none, none, none, none, none, none, none, none, none, none], hlen, ⟨h0, h1, h5, h6, h7, trivial⟩, h⟩
      · exact (show False from h).elim
    | ret =>
      exact (show False from h).elim
  · intro f w K h
    have e : lid ref18_Together.b0_0 = 8 := by kernel_rfl
    rw [e] at h
    exact h
theorem ref18_Together.le5 (N : Nat) (y0 : Option Addr) (y0n : Nat) (y0c : Nat) (y1 : Int) (y5 : Int) (y6 : Option Addr) (y6n : Nat) (y6c : Nat) (y7 : Int) (w : World) (K : AExit → Fr → World → Prop) : awp ref18_Together.C ref18_Together.L ref18_Together.D tab ref18_Together.b0 (lpost ref18_Together.hn5 ref18_Together.hx5 N K) [some (Value.slice y0 y0n y0c), some (Value.int .i64 y1), none, none, none, some (Value.int .i64 y5), some (Value.slice y6 y6n y6c), some (Value.int .i64 y7), none, none, none, none, none, none, none, none, none, none, none, none, none, none, none, none, none, none, none, none, none, none, none, none, none, none, none, none, none, none, none, none, none, none, none, none] w = ref18_Together.l5 (N + 1) y0 y0n y0c y1 y5 y6 y6n y6c y7 w (fun o0 o0n o0c o1 o5 o6 o6n o6c w => K (.exit 0) [some (Value.slice o0 o0n o0c), some (Value.int .i64 o1), none, none, none, some (Value.int .i64 o5), some (Value.slice o6 o6n o6c), none, none, none, none, none, none, none, none, none, none, none, none, none, none, none, none, none, none, none, none, none, none, none, none, none, none, none, none, none, none, none, none, none, none, none, none, none] w) := by kernel_rfl
theorem ref18_Together.lok5 : LoopOk Try.prog ref18_Together.L ref18_Together.b0 := by
  refine loop_ok tab_ok ref18_Together.C_ok (D := ref18_Together.D) (ref18_Together.hn5) (ref18_Together.hx5) (by kernel_rfl) (by rw [ref18_Together.b0_loops]; exact lcons ref18_Together.lok8 (lnil)) ?_ ?_ ?_ ?_
  · intro f w K h
    unfold ref18_Together.hn5 at h
    obtain ⟨hlen, h⟩ := gN_ok h
    obtain ⟨y0, y0n, y0c, h0, h⟩ := gL_ok h
    obtain ⟨y1, h1, h⟩ := gI_ok h
    obtain ⟨y5, h5, h⟩ := gI_ok h
    obtain ⟨y6, y6n, y6c, h6, h⟩ := gL_ok h
    obtain ⟨y7, h7, h⟩ := gI_ok h
    exact h
  · intro N f w K h
    unfold ref18_Together.hn5 at h
    obtain ⟨hlen, h⟩ := gN_ok h
    obtain ⟨y0, y0n, y0c, h0, h⟩ := gL_ok h
    obtain ⟨y1, h1, h⟩ := gI_ok h
    obtain ⟨y5, h5, h⟩ := gI_ok h
    obtain ⟨y6, y6n, y6c, h6, h⟩ := gL_ok h
    obtain ⟨y7, h7, h⟩ := gI_ok h
    refine ⟨[some (Value.slice y0 y0n y0c), some (Value.int .i64 y1), none, none, none, some (Value.int .i64 y5), some (Value.slice y6 y6n y6c), some (Value.int .i64 y7), none, none, none, none, none, none, none, none, none, none, none, none, none, none, none, none, none, none, none, none, none, none, none, none, none, none, none, none, none, none, none, none, none, none, none, none], hlen, ⟨h0, h1, h5, h6, h7, trivial⟩, ?_⟩
    rw [ref18_Together.le5]
    exact h
  · intro e f w K h
    cases e with
    | normal => exact h.elim
    | exit i =>
      unfold ref18_Together.hx5 at h
      simp only at h
      split at h
      · rename_i hb
        obtain rfl := Nat.eq_of_beq_eq_true hb
        obtain ⟨hlen, h⟩ := gN_ok h
        obtain ⟨o0, o0n, o0c, h0, h⟩ := gL_ok h
        obtain ⟨o1, h1, h⟩ := gI_ok h
        obtain ⟨o5, h5, h⟩ := gI_ok h
        obtain ⟨o6, o6n, o6c, h6, h⟩ := gL_ok h
        exact ⟨[some (Value.slice o0 o0n o0c), some (Value.int .i64 o1), none, none, none, some (Value.int .i64 o5), some (Value.slice o6 o6n o6c), none, none, none, none, none, none, none, none, none, none, none, none, none, none, none, none, none, none, none, none, none, none, none, none, none, none, none, none, none, none, none, none, none, none, none, none, none], hlen, ⟨h0, h1, h5, h6, trivial⟩, h⟩
      · exact (show False from h).elim
    | ret =>
      exact (show False from h).elim
  · intro f w K h
    have e : lid ref18_Together.b0 = 5 := by kernel_rfl
    rw [e] at h
    exact h
theorem ref18_Together.eq (a0 : Option Addr) (a0n : Nat) (a0c : Nat) (a1 : Int) (w : World) (K : Value → World → Prop) : afn ref18_Together.C ref18_Together.L ref18_Together.D tab Try.f25 [(Value.slice a0 a0n a0c), (Value.int .i64 a1)] w K = ref18_Together.f a0 a0n a0c a1 w (fun r0 r0n r0c w => K (Value.slice r0 r0n r0c) w) := by kernel_rfl
theorem ref18_Together.ok : FSound Try.prog 25 ref18_Together.h := by
  intro args w K h
  unfold ref18_Together.h ref18_Together.H at h
  split at h
  ·
    replace h := vL_ok h
    obtain ⟨a0, a0n, a0c, rfl, h⟩ := h
    replace h := vI_ok h
    obtain ⟨a1, rfl, h⟩ := h
    refine ⟨by kernel_rfl, fn_ok tab_ok ref18_Together.C_ok (L := ref18_Together.L) (D := ref18_Together.D) Try.func25 ref18_Together.hb (by kernel_rfl) (by rw [ref18_Together.c_loops]; exact lcons ref18_Together.lok5 (lnil)) (Nat.le_of_ble_eq_true (by kernel_rfl)) ?_⟩
    rw [ref18_Together.eq]
    exact h
  · exact h.elim
/-! ### valise/valisehelp.Plain[byte]$1: function 58 -/
def help_Plain_byte_f1.f (a0 : Int) (a1 : Int) (w : World) (K : Bool → World → Prop) : Prop :=
  K (a0 == a1) w
def help_Plain_byte_f1.H (F : type_of% @help_Plain_byte_f1.f) : Hf := fun args w K => match args with
  | [v0, v1] => vI .u8 v0 fun a0 => vI .u8 v1 fun a1 => F a0 a1 w (fun r0 w => K (Value.bool r0) w)
  | _ => False
def help_Plain_byte_f1.h : Hf := help_Plain_byte_f1.H @help_Plain_byte_f1.f
def help_Plain_byte_f1.C : Hd := hnil
theorem help_Plain_byte_f1.C_ok : CSound Try.prog help_Plain_byte_f1.C := hnil_ok
def help_Plain_byte_f1.D : Nat → Plan := fun i => .done
noncomputable def help_Plain_byte_f1.c : Code := Try.f58.body.getD .skip
theorem help_Plain_byte_f1.hb : Try.f58.body = some help_Plain_byte_f1.c := by kernel_rfl
theorem help_Plain_byte_f1.c_loops : loopsOf help_Plain_byte_f1.c = [] := by kernel_rfl
def help_Plain_byte_f1.L : LHd := fun l f w K => False
theorem help_Plain_byte_f1.eq (a0 : Int) (a1 : Int) (w : World) (K : Value → World → Prop) : afn help_Plain_byte_f1.C help_Plain_byte_f1.L help_Plain_byte_f1.D tab Try.f58 [(Value.int .u8 a0), (Value.int .u8 a1)] w K = help_Plain_byte_f1.f a0 a1 w (fun r0 w => K (Value.bool r0) w) := by kernel_rfl
theorem help_Plain_byte_f1.ok : FSound Try.prog 58 help_Plain_byte_f1.h := by
  intro args w K h
  unfold help_Plain_byte_f1.h help_Plain_byte_f1.H at h
  split at h
  ·
    replace h := vI_ok h
    obtain ⟨a0, rfl, h⟩ := h
    replace h := vI_ok h
    obtain ⟨a1, rfl, h⟩ := h
    refine ⟨by kernel_rfl, fn_ok tab_ok help_Plain_byte_f1.C_ok (L := help_Plain_byte_f1.L) (D := help_Plain_byte_f1.D) Try.func58 help_Plain_byte_f1.hb (by kernel_rfl) (by rw [help_Plain_byte_f1.c_loops]; exact lnil) (Nat.le_of_ble_eq_true (by kernel_rfl)) ?_⟩
    rw [help_Plain_byte_f1.eq]
    exact h
  · exact h.elim
/-! ### valise/valisehelp.Same[byte]: function 57 -/
def help_Same_byte.l4 : Nat → Option Addr → Nat → Nat → Option Addr → Nat → Nat → Int → World → (World → Prop) → (Bool → World → Prop) → Prop
  | 0, _, _, _, _, _, _, _, _, _, _ => False
  | N + 1, y0, y0n, y0c, y1, y1n, y1c, y7, w, K0, Kr =>
    bif (decide (y7 < ((y0n : Nat) : Int))) then
      sm y0 fun p_11 =>
      if 0 ≤ (y7 : Int) ∧ (y7 : Int) < ((y0n : Nat) : Int) then
      ldI .u8 (p_11.add (Int.toNat y7)) w.drew fun x23_12 =>
      sm y1 fun p_13 =>
      if 0 ≤ (y7 : Int) ∧ (y7 : Int) < ((y1n : Nat) : Int) then
      ldI .u8 (p_13.add (Int.toNat y7)) w.drew fun x27_14 =>
      help_Plain_byte_f1.f x23_12 x27_14 w.drew fun r28_15 w =>
      bif (!r28_15) then
        Kr false w
      else
        let v7_17 := (IntKind.wrap .i64 (y7 + 1))
        help_Same_byte.l4 N y0 y0n y0c y1 y1n y1c v7_17 w K0 Kr
      else False
      else False
    else
      K0 w

def help_Same_byte.f (a0 : Option Addr) (a0n : Nat) (a0c : Nat) (a1 : Option Addr) (a1n : Nat) (a1c : Nat) (w : World) (K : Bool → World → Prop) : Prop :=
  bif (((a0n : Nat) : Int) != ((a1n : Nat) : Int)) then
    K false w
  else
    ∃ N_18 : Nat, help_Same_byte.l4 N_18 a0 a0n a0c a1 a1n a1c 0 w
    (fun w =>
      K true w)
    (fun o6_19 w =>
      K o6_19 w)
def help_Same_byte.H (F : type_of% @help_Same_byte.f) : Hf := fun args w K => match args with
  | [v0, v1, v2] => vL v0 fun a0 a0n a0c => vL v1 fun a1 a1n a1c => vF 58 v2 <| F a0 a0n a0c a1 a1n a1c w (fun r0 w => K (Value.bool r0) w)
  | _ => False
def help_Same_byte.h : Hf := help_Same_byte.H @help_Same_byte.f
def help_Same_byte.C : Hd := hcons 58 help_Plain_byte_f1.h (hnil)
theorem help_Same_byte.C_ok : CSound Try.prog help_Same_byte.C := hcons_ok help_Plain_byte_f1.ok (hnil_ok)
def help_Same_byte.D : Nat → Plan := fun i => (match Nat.beq i 6 with | true => .take 0 (.take 1 (.take 2 (.take 3 (.take 4 (.take 5 (.take 6 (.take 7 (.take 8 (.eff 9 (.take 10 (.done))))))))))) | false => .done)
noncomputable def help_Same_byte.c : Code := Try.f57.body.getD .skip
theorem help_Same_byte.hb : Try.f57.body = some help_Same_byte.c := by kernel_rfl
noncomputable def help_Same_byte.b0 : Code := (loopsOf help_Same_byte.c).getD 0 .skip
theorem help_Same_byte.b0_loops : loopsOf help_Same_byte.b0 = [] := by kernel_rfl
theorem help_Same_byte.c_loops : loopsOf help_Same_byte.c = [help_Same_byte.b0] := by kernel_rfl
def help_Same_byte.hn4 (N : Nat) (f : Fr) (w : World) (K : AExit → Fr → World → Prop) : Prop :=
  gN f 30 <| gL f 0 fun y0 y0n y0c => gL f 1 fun y1 y1n y1c => gF 58 f 2 <| gI .i64 f 7 fun y7 => help_Same_byte.l4 N y0 y0n y0c y1 y1n y1c y7 w (fun w => K (.exit 0) [none, none, none, none, none, none, none, none, none, none, none, none, none, none, none, none, none, none, none, none, none, none, none, none, none, none, none, none, none, none] w) (fun o6 w => K .ret [none, none, none, none, none, none, some (Value.bool o6), none, none, none, none, none, none, none, none, none, none, none, none, none, none, none, none, none, none, none, none, none, none, none] w)
def help_Same_byte.hx4 : AExit → Fr → World → (AExit → Fr → World → Prop) → Prop := fun e f w K => match e with
  | .normal => False
  | .exit i => (match Nat.beq i 0 with | true => gN f 30 <|  K (.exit 0) [none, none, none, none, none, none, none, none, none, none, none, none, none, none, none, none, none, none, none, none, none, none, none, none, none, none, none, none, none, none] w | false => False)
  | .ret => gN f 30 <| gB f 6 fun o6 => K .ret [none, none, none, none, none, none, some (Value.bool o6), none, none, none, none, none, none, none, none, none, none, none, none, none, none, none, none, none, none, none, none, none, none, none] w
def help_Same_byte.L : LHd := fun l f w K => (match Nat.beq l 4 with | true => ∃ N, help_Same_byte.hn4 N f w K | false => False)
theorem help_Same_byte.le4 (N : Nat) (y0 : Option Addr) (y0n : Nat) (y0c : Nat) (y1 : Option Addr) (y1n : Nat) (y1c : Nat) (y7 : Int) (w : World) (K : AExit → Fr → World → Prop) : awp help_Same_byte.C help_Same_byte.L help_Same_byte.D tab help_Same_byte.b0 (lpost help_Same_byte.hn4 help_Same_byte.hx4 N K) [some (Value.slice y0 y0n y0c), some (Value.slice y1 y1n y1c), some (Value.func (.func 58) #[] #[]), none, none, none, none, some (Value.int .i64 y7), none, none, none, none, none, none, none, none, none, none, none, none, none, none, none, none, none, none, none, none, none, none] w = help_Same_byte.l4 (N + 1) y0 y0n y0c y1 y1n y1c y7 w (fun w => K (.exit 0) [none, none, none, none, none, none, none, none, none, none, none, none, none, none, none, none, none, none, none, none, none, none, none, none, none, none, none, none, none, none] w) (fun o6 w => K .ret [none, none, none, none, none, none, some (Value.bool o6), none, none, none, none, none, none, none, none, none, none, none, none, none, none, none, none, none, none, none, none, none, none, none] w) := by kernel_rfl
theorem help_Same_byte.lok4 : LoopOk Try.prog help_Same_byte.L help_Same_byte.b0 := by
  refine loop_ok tab_ok help_Same_byte.C_ok (D := help_Same_byte.D) (help_Same_byte.hn4) (help_Same_byte.hx4) (by kernel_rfl) (by rw [help_Same_byte.b0_loops]; exact lnil) ?_ ?_ ?_ ?_
  · intro f w K h
    unfold help_Same_byte.hn4 at h
    obtain ⟨hlen, h⟩ := gN_ok h
    obtain ⟨y0, y0n, y0c, h0, h⟩ := gL_ok h
    obtain ⟨y1, y1n, y1c, h1, h⟩ := gL_ok h
    obtain ⟨h2, h⟩ := gF_ok h
    obtain ⟨y7, h7, h⟩ := gI_ok h
    exact h
  · intro N f w K h
    unfold help_Same_byte.hn4 at h
    obtain ⟨hlen, h⟩ := gN_ok h
    obtain ⟨y0, y0n, y0c, h0, h⟩ := gL_ok h
    obtain ⟨y1, y1n, y1c, h1, h⟩ := gL_ok h
    obtain ⟨h2, h⟩ := gF_ok h
    obtain ⟨y7, h7, h⟩ := gI_ok h
    refine ⟨[some (Value.slice y0 y0n y0c), some (Value.slice y1 y1n y1c), some (Value.func (.func 58) #[] #[]), none, none, none, none, some (Value.int .i64 y7), none, none, none, none, none, none, none, none, none, none, none, none, none, none, none, none, none, none, none, none, none, none], hlen, ⟨h0, h1, h2, h7, trivial⟩, ?_⟩
    rw [help_Same_byte.le4]
    exact h
  · intro e f w K h
    cases e with
    | normal => exact h.elim
    | exit i =>
      unfold help_Same_byte.hx4 at h
      simp only at h
      split at h
      · rename_i hb
        obtain rfl := Nat.eq_of_beq_eq_true hb
        obtain ⟨hlen, h⟩ := gN_ok h
        exact ⟨[none, none, none, none, none, none, none, none, none, none, none, none, none, none, none, none, none, none, none, none, none, none, none, none, none, none, none, none, none, none], hlen, trivial, h⟩
      · exact (show False from h).elim
    | ret =>
      unfold help_Same_byte.hx4 at h
      simp only at h
      obtain ⟨hlen, h⟩ := gN_ok h
      obtain ⟨o6, h6, h⟩ := gB_ok h
      exact ⟨[none, none, none, none, none, none, some (Value.bool o6), none, none, none, none, none, none, none, none, none, none, none, none, none, none, none, none, none, none, none, none, none, none, none], hlen, ⟨h6, trivial⟩, h⟩
  · intro f w K h
    have e : lid help_Same_byte.b0 = 4 := by kernel_rfl
    rw [e] at h
    exact h
theorem help_Same_byte.eq (a0 : Option Addr) (a0n : Nat) (a0c : Nat) (a1 : Option Addr) (a1n : Nat) (a1c : Nat) (w : World) (K : Value → World → Prop) : afn help_Same_byte.C help_Same_byte.L help_Same_byte.D tab Try.f57 [(Value.slice a0 a0n a0c), (Value.slice a1 a1n a1c), (Value.func (.func 58) #[] #[])] w K = help_Same_byte.f a0 a0n a0c a1 a1n a1c w (fun r0 w => K (Value.bool r0) w) := by kernel_rfl
theorem help_Same_byte.ok : FSound Try.prog 57 help_Same_byte.h := by
  intro args w K h
  unfold help_Same_byte.h help_Same_byte.H at h
  split at h
  ·
    replace h := vL_ok h
    obtain ⟨a0, a0n, a0c, rfl, h⟩ := h
    replace h := vL_ok h
    obtain ⟨a1, a1n, a1c, rfl, h⟩ := h
    replace h := vF_ok h
    obtain ⟨rfl, h⟩ := h
    refine ⟨by kernel_rfl, fn_ok tab_ok help_Same_byte.C_ok (L := help_Same_byte.L) (D := help_Same_byte.D) Try.func57 help_Same_byte.hb (by kernel_rfl) (by rw [help_Same_byte.c_loops]; exact lcons help_Same_byte.lok4 (lnil)) (Nat.le_of_ble_eq_true (by kernel_rfl)) ?_⟩
    rw [help_Same_byte.eq]
    exact h
  · exact h.elim
/-! ### valise/valisehelp.Plain[byte]: function 49 -/
def help_Plain_byte.f (a0 : Option Addr) (a0n : Nat) (a0c : Nat) (a1 : Option Addr) (a1n : Nat) (a1c : Nat) (w : World) (K : Bool → World → Prop) : Prop :=
  help_Same_byte.f a0 a0n a0c a1 a1n a1c w fun r7_3 w =>
  K r7_3 w
def help_Plain_byte.H (F : type_of% @help_Plain_byte.f) : Hf := fun args w K => match args with
  | [v0, v1] => vL v0 fun a0 a0n a0c => vL v1 fun a1 a1n a1c => F a0 a0n a0c a1 a1n a1c w (fun r0 w => K (Value.bool r0) w)
  | _ => False
def help_Plain_byte.h : Hf := help_Plain_byte.H @help_Plain_byte.f
def help_Plain_byte.C : Hd := hcons 57 help_Same_byte.h (hnil)
theorem help_Plain_byte.C_ok : CSound Try.prog help_Plain_byte.C := hcons_ok help_Same_byte.ok (hnil_ok)
def help_Plain_byte.D : Nat → Plan := fun i => .done
noncomputable def help_Plain_byte.c : Code := Try.f49.body.getD .skip
theorem help_Plain_byte.hb : Try.f49.body = some help_Plain_byte.c := by kernel_rfl
theorem help_Plain_byte.c_loops : loopsOf help_Plain_byte.c = [] := by kernel_rfl
def help_Plain_byte.L : LHd := fun l f w K => False
theorem help_Plain_byte.eq (a0 : Option Addr) (a0n : Nat) (a0c : Nat) (a1 : Option Addr) (a1n : Nat) (a1c : Nat) (w : World) (K : Value → World → Prop) : afn help_Plain_byte.C help_Plain_byte.L help_Plain_byte.D tab Try.f49 [(Value.slice a0 a0n a0c), (Value.slice a1 a1n a1c)] w K = help_Plain_byte.f a0 a0n a0c a1 a1n a1c w (fun r0 w => K (Value.bool r0) w) := by kernel_rfl
theorem help_Plain_byte.ok : FSound Try.prog 49 help_Plain_byte.h := by
  intro args w K h
  unfold help_Plain_byte.h help_Plain_byte.H at h
  split at h
  ·
    replace h := vL_ok h
    obtain ⟨a0, a0n, a0c, rfl, h⟩ := h
    replace h := vL_ok h
    obtain ⟨a1, a1n, a1c, rfl, h⟩ := h
    refine ⟨by kernel_rfl, fn_ok tab_ok help_Plain_byte.C_ok (L := help_Plain_byte.L) (D := help_Plain_byte.D) Try.func49 help_Plain_byte.hb (by kernel_rfl) (by rw [help_Plain_byte.c_loops]; exact lnil) (Nat.le_of_ble_eq_true (by kernel_rfl)) ?_⟩
    rw [help_Plain_byte.eq]
    exact h
  · exact h.elim

end Go.Proofs.Ytmgcjihcbdgihaa.G
