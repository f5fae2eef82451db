/- Go functions as predicate transformers, written by a program of this session (gen.py), with their soundness. -/
import Derived.Test.YtodicpmedallgaaGen3
set_option linter.unusedVariables false
set_option linter.unusedSimpArgs false
set_option maxRecDepth 100000
namespace Go.Proofs.Ytodicpmedallgaa.G
open Go Go.Proofs.Ytodicpmedallgaa.Vm
/-! ### valise/lms.sign: function 54 -/
def lms_sign.f (a0 : Int) (w : World) (K : Int → World → Prop) : Prop :=
  let v3_4 := (decide (a0 > 0))
  bif v3_4 then
    K 1 w
  else
    let v6_7 := (decide (a0 < 0))
    bif v6_7 then
      K (-1) w
    else
      K 0 w
def lms_sign.H (F : type_of% @lms_sign.f) : Hf := fun args w K => match args with
  | [v0] => vI .i32 v0 fun a0 => F a0 w (fun r0 w => K (Value.int .i64 r0) w)
  | _ => False
def lms_sign.h : Hf := lms_sign.H @lms_sign.f
def lms_sign.C : Hd := hnil
theorem lms_sign.C_ok : CSound Try.prog lms_sign.C := hnil_ok
def lms_sign.D : Nat → Plan := fun i => .done
noncomputable def lms_sign.c : Code := Try.f54.body.getD .skip
theorem lms_sign.hb : Try.f54.body = some lms_sign.c := by kernel_rfl
theorem lms_sign.c_loops : loopsOf lms_sign.c = [] := by kernel_rfl
def lms_sign.L : LHd := fun l f w K => False
theorem lms_sign.eq (a0 : Int) (w : World) (K : Value → World → Prop) : afn lms_sign.C lms_sign.L lms_sign.D tab Try.f54 [(Value.int .i32 a0)] w K = lms_sign.f a0 w (fun r0 w => K (Value.int .i64 r0) w) := by kernel_rfl
theorem lms_sign.ok : FSound Try.prog 54 lms_sign.h := by
  intro args w K h
  unfold lms_sign.h lms_sign.H at h
  split at h
  ·
    replace h := vI_ok h
    obtain ⟨a0, rfl, h⟩ := h
    refine ⟨by kernel_rfl, fn_ok tab_ok lms_sign.C_ok (L := lms_sign.L) (D := lms_sign.D) Try.func54 lms_sign.hb (by kernel_rfl) (by rw [lms_sign.c_loops]; exact lnil) (Nat.le_of_ble_eq_true (by kernel_rfl)) ?_⟩
    rw [lms_sign.eq]
    exact h
  · exact h.elim
/-! ### (*valise/lms.Filter).Learn: function 38 -/
def lms_Filter_Learn.l3 : Nat → Option Addr → Int → Int → Int → Int → Int → Int → Int → Int → Int → Int → Int → World → (Option Addr → Int → World → Prop) → Prop
  | 0, _, _, _, _, _, _, _, _, _, _, _, _, _, _ => False
  | N + 1, y0, y1, y4, y18_0, y18_1, y18_2, y18_3, y18_4, y18_5, y18_6, y18_7, y19, w, K0 =>
    bif (decide (y19 < 8)) then
      if 0 ≤ (y19 : Int) ∧ (y19 : Int) < ((8 : Nat) : Int) then
      ixI .i32 #[(Value.int .i32 y18_0), (Value.int .i32 y18_1), (Value.int .i32 y18_2), (Value.int .i32 y18_3), (Value.int .i32 y18_4), (Value.int .i32 y18_5), (Value.int .i32 y18_6), (Value.int .i32 y18_7)] y19 fun x_21 =>
      sm y0 fun p_22 =>
      if 0 ≤ (y19 : Int) ∧ (y19 : Int) < ((8 : Nat) : Int) then
      ldI .i64 (p_22.add (Int.toNat y19)) w.drew fun x29_23 =>
      sm y0 fun p_24 =>
      lms_sign.f x_21 w.drew fun r32_25 w =>
      (World.cell? w (p_22.add (Int.toNat y19)) = some (.int .i64 x29_23)) ∧
      (if 0 ≤ (y19 : Int) ∧ (y19 : Int) < ((8 : Nat) : Int) then
      stC (p_24.add (Int.toNat y19)) (Value.int .i64 (IntKind.wrap .i64 (x29_23 + (IntKind.wrap .i64 (y4 * r32_25))))) w fun w =>
      lms_Filter_Learn.l3 N y0 y1 y4 y18_0 y18_1 y18_2 y18_3 y18_4 y18_5 y18_6 y18_7 (IntKind.wrap .i64 (y19 + 1)) w K0
      else False)
      else False
      else False
    else
      K0 y0 y1 w

def lms_Filter_Learn.f (a0 : Option Addr) (a1 : Int) (w : World) (K : World → Prop) : Prop :=
  bif a0.isNone then
    K w
  else
    lms_Filter_Guess.f a0 w fun r11_4 w =>
    lms_sign.f (IntKind.wrap .i32 (a1 - r11_4)) w fun r13_5 w =>
    sm a0 fun p_8 =>
    ldI .i32 ((p_8.add 8).add 0) w fun x18_9 =>
    ldI .i32 ((p_8.add 8).add 1) w fun x18_10 =>
    ldI .i32 ((p_8.add 8).add 2) w fun x18_11 =>
    ldI .i32 ((p_8.add 8).add 3) w fun x18_12 =>
    ldI .i32 ((p_8.add 8).add 4) w fun x18_13 =>
    ldI .i32 ((p_8.add 8).add 5) w fun x18_14 =>
    ldI .i32 ((p_8.add 8).add 6) w fun x18_15 =>
    ldI .i32 ((p_8.add 8).add 7) w fun x18_16 =>
    ∃ N_26 : Nat, lms_Filter_Learn.l3 N_26 a0 a1 r13_5 x18_9 x18_10 x18_11 x18_12 x18_13 x18_14 x18_15 x18_16 0 w
    (fun o0_27 o1_28 w =>
      sm o0_27 fun p_30 =>
      sm o0_27 fun p_31 =>
      cpL 1 (some ((p_30.add 8).add 1)) 7 7 (some (p_31.add 8)) 8 8 w.drew fun n50_32 w =>
      sm o0_27 fun p_33 =>
      stC (p_33.add 8) (Value.int .i32 o1_28) w fun w =>
      K w)
def lms_Filter_Learn.H (F : type_of% @lms_Filter_Learn.f) : Hf := fun args w K => match args with
  | [v0, v1] => vP v0 fun a0 => vI .i32 v1 fun a1 => F a0 a1 w (fun w => K (Value.tuple #[]) w)
  | _ => False
def lms_Filter_Learn.h : Hf := lms_Filter_Learn.H @lms_Filter_Learn.f
def lms_Filter_Learn.CG (F36 : type_of% @lms_Filter_Guess.f) (F54 : type_of% @lms_sign.f) : Hd := hcons 54 (lms_sign.H F54) (hcons 36 (lms_Filter_Guess.H F36) (hnil))
def lms_Filter_Learn.C : Hd := lms_Filter_Learn.CG @lms_Filter_Guess.f @lms_sign.f
def lms_Filter_Learn.G (F36 : type_of% @lms_Filter_Guess.f) (F54 : type_of% @lms_sign.f) (a0 : Option Addr) (a1 : Int) (w : World) (K : World → Prop) : Prop :=
  bif a0.isNone then
    K w
  else
    F36 a0 w fun r11_4 w =>
    F54 (IntKind.wrap .i32 (a1 - r11_4)) w fun r13_5 w =>
    sm a0 fun p_8 =>
    ldI .i32 ((p_8.add 8).add 0) w fun x18_9 =>
    ldI .i32 ((p_8.add 8).add 1) w fun x18_10 =>
    ldI .i32 ((p_8.add 8).add 2) w fun x18_11 =>
    ldI .i32 ((p_8.add 8).add 3) w fun x18_12 =>
    ldI .i32 ((p_8.add 8).add 4) w fun x18_13 =>
    ldI .i32 ((p_8.add 8).add 5) w fun x18_14 =>
    ldI .i32 ((p_8.add 8).add 6) w fun x18_15 =>
    ldI .i32 ((p_8.add 8).add 7) w fun x18_16 =>
    ∃ N_26 : Nat, lms_Filter_Learn.l3 N_26 a0 a1 r13_5 x18_9 x18_10 x18_11 x18_12 x18_13 x18_14 x18_15 x18_16 0 w
    (fun o0_27 o1_28 w =>
      sm o0_27 fun p_30 =>
      sm o0_27 fun p_31 =>
      cpL 1 (some ((p_30.add 8).add 1)) 7 7 (some (p_31.add 8)) 8 8 w.drew fun n50_32 w =>
      sm o0_27 fun p_33 =>
      stC (p_33.add 8) (Value.int .i32 o1_28) w fun w =>
      K w)
theorem lms_Filter_Learn.C_ok : CSound Try.prog lms_Filter_Learn.C := hcons_ok lms_sign.ok (hcons_ok lms_Filter_Guess.ok (hnil_ok))
def lms_Filter_Learn.D : Nat → Plan := fun i => (match Nat.beq i 7 with | true => .take 0 (.take 1 (.take 2 (.take 3 (.take 4 (.take 5 (.take 6 (.take 7 (.take 8 (.take 9 (.eff 10 (.done))))))))))) | false => (match Nat.beq i 5 with | true => .take 0 (.take 1 (.take 2 (.take 3 (.take 4 (.take 5 (.take 6 (.take 7 (.take 8 (.take 12 (.take 13 (.take 14 (.eff 9 (.take 10 (.take 11 (.take 15 (.eff 16 (.done))))))))))))))))) | false => .done))
noncomputable def lms_Filter_Learn.c : Code := Try.f38.body.getD .skip
theorem lms_Filter_Learn.hb : Try.f38.body = some lms_Filter_Learn.c := by kernel_rfl
noncomputable def lms_Filter_Learn.b0 : Code := (loopsOf lms_Filter_Learn.c).getD 0 .skip
theorem lms_Filter_Learn.b0_loops : loopsOf lms_Filter_Learn.b0 = [] := by kernel_rfl
theorem lms_Filter_Learn.c_loops : loopsOf lms_Filter_Learn.c = [lms_Filter_Learn.b0] := by kernel_rfl
def lms_Filter_Learn.l3G (F36 : type_of% @lms_Filter_Guess.f) (F54 : type_of% @lms_sign.f) (R : Option Addr → Int → Int → Int → Int → Int → Int → Int → Int → Int → Int → Int → World → (Option Addr → Int → World → Prop) → Prop) : Option Addr → Int → Int → Int → Int → Int → Int → Int → Int → Int → Int → Int → World → (Option Addr → Int → World → Prop) → Prop := fun y0 y1 y4 y18_0 y18_1 y18_2 y18_3 y18_4 y18_5 y18_6 y18_7 y19 w K0 =>
    bif (decide (y19 < 8)) then
      if 0 ≤ (y19 : Int) ∧ (y19 : Int) < ((8 : Nat) : Int) then
      ixI .i32 #[(Value.int .i32 y18_0), (Value.int .i32 y18_1), (Value.int .i32 y18_2), (Value.int .i32 y18_3), (Value.int .i32 y18_4), (Value.int .i32 y18_5), (Value.int .i32 y18_6), (Value.int .i32 y18_7)] y19 fun x_21 =>
      sm y0 fun p_22 =>
      if 0 ≤ (y19 : Int) ∧ (y19 : Int) < ((8 : Nat) : Int) then
      ldI .i64 (p_22.add (Int.toNat y19)) w.drew fun x29_23 =>
      sm y0 fun p_24 =>
      F54 x_21 w.drew fun r32_25 w =>
      (World.cell? w (p_22.add (Int.toNat y19)) = some (.int .i64 x29_23)) ∧
      (if 0 ≤ (y19 : Int) ∧ (y19 : Int) < ((8 : Nat) : Int) then
      stC (p_24.add (Int.toNat y19)) (Value.int .i64 (IntKind.wrap .i64 (x29_23 + (IntKind.wrap .i64 (y4 * r32_25))))) w fun w =>
      R y0 y1 y4 y18_0 y18_1 y18_2 y18_3 y18_4 y18_5 y18_6 y18_7 (IntKind.wrap .i64 (y19 + 1)) w K0
      else False)
      else False
      else False
    else
      K0 y0 y1 w

def lms_Filter_Learn.hn3 (N : Nat) (f : Fr) (w : World) (K : AExit → Fr → World → Prop) : Prop :=
  gN f 57 <| gP f 0 fun y0 => gI .i32 f 1 fun y1 => gI .i64 f 4 fun y4 => gT f 18 fun l => cI .i32 l fun y18_0 l => cI .i32 l fun y18_1 l => cI .i32 l fun y18_2 l => cI .i32 l fun y18_3 l => cI .i32 l fun y18_4 l => cI .i32 l fun y18_5 l => cI .i32 l fun y18_6 l => cI .i32 l fun y18_7 l => cE l <| gI .i64 f 19 fun y19 => lms_Filter_Learn.l3 N y0 y1 y4 y18_0 y18_1 y18_2 y18_3 y18_4 y18_5 y18_6 y18_7 y19 w (fun o0 o1 w => K (.exit 0) [some (Value.pointer o0), some (Value.int .i32 o1), none, none, none, none, none, none, none, none, none, none, none, none, none, none, none, none, none, none, none, none, none, none, none, none, none, none, none, none, none, none, none, none, none, none, none, none, none, none, none, none, none, none, none, none, none, none, none, none, none, none, none, none, none, none, none] w)
def lms_Filter_Learn.hx3 : AExit → Fr → World → (AExit → Fr → World → Prop) → Prop := fun e f w K => match e with
  | .normal => False
  | .exit i => (match Nat.beq i 0 with | true => gN f 57 <| gP f 0 fun o0 => gI .i32 f 1 fun o1 => K (.exit 0) [some (Value.pointer o0), some (Value.int .i32 o1), none, none, none, none, none, none, none, none, none, none, none, none, none, none, none, none, none, none, none, none, none, none, none, none, none, none, none, none, none, none, none, none, none, none, none, none, none, none, none, none, none, none, none, none, none, none, none, none, none, none, none, none, none, none, none] w | false => False)
  | .ret => False
def lms_Filter_Learn.L : LHd := fun l f w K => (match Nat.beq l 3 with | true => ∃ N, lms_Filter_Learn.hn3 N f w K | false => False)
theorem lms_Filter_Learn.leG3 (F36 : type_of% @lms_Filter_Guess.f) (F54 : type_of% @lms_sign.f) (N : Nat) (y0 : Option Addr) (y1 : Int) (y4 : Int) (y18_0 : Int) (y18_1 : Int) (y18_2 : Int) (y18_3 : Int) (y18_4 : Int) (y18_5 : Int) (y18_6 : Int) (y18_7 : Int) (y19 : Int) (w : World) (K : AExit → Fr → World → Prop) : awp (lms_Filter_Learn.CG F36 F54) lms_Filter_Learn.L lms_Filter_Learn.D tab lms_Filter_Learn.b0 (lpost lms_Filter_Learn.hn3 lms_Filter_Learn.hx3 N K) [some (Value.pointer y0), some (Value.int .i32 y1), none, none, some (Value.int .i64 y4), none, none, none, none, none, none, none, none, none, none, none, none, none, some (Value.agg #[(Value.int .i32 y18_0), (Value.int .i32 y18_1), (Value.int .i32 y18_2), (Value.int .i32 y18_3), (Value.int .i32 y18_4), (Value.int .i32 y18_5), (Value.int .i32 y18_6), (Value.int .i32 y18_7)]), some (Value.int .i64 y19), none, none, none, none, none, none, none, none, none, none, none, none, none, none, none, none, none, none, none, none, none, none, none, none, none, none, none, none, none, none, none, none, none, none, none, none, none] w = lms_Filter_Learn.l3G F36 F54 (lms_Filter_Learn.l3 N) y0 y1 y4 y18_0 y18_1 y18_2 y18_3 y18_4 y18_5 y18_6 y18_7 y19 w (fun o0 o1 w => K (.exit 0) [some (Value.pointer o0), some (Value.int .i32 o1), none, none, none, none, none, none, none, none, none, none, none, none, none, none, none, none, none, none, none, none, none, none, none, none, none, none, none, none, none, none, none, none, none, none, none, none, none, none, none, none, none, none, none, none, none, none, none, none, none, none, none, none, none, none, none] w) := by kernel_rfl
theorem lms_Filter_Learn.les3 (N : Nat) : lms_Filter_Learn.l3 (N + 1) = lms_Filter_Learn.l3G @lms_Filter_Guess.f @lms_sign.f (lms_Filter_Learn.l3 N) := by kernel_rfl
theorem lms_Filter_Learn.le3 (N : Nat) (y0 : Option Addr) (y1 : Int) (y4 : Int) (y18_0 : Int) (y18_1 : Int) (y18_2 : Int) (y18_3 : Int) (y18_4 : Int) (y18_5 : Int) (y18_6 : Int) (y18_7 : Int) (y19 : Int) (w : World) (K : AExit → Fr → World → Prop) : awp lms_Filter_Learn.C lms_Filter_Learn.L lms_Filter_Learn.D tab lms_Filter_Learn.b0 (lpost lms_Filter_Learn.hn3 lms_Filter_Learn.hx3 N K) [some (Value.pointer y0), some (Value.int .i32 y1), none, none, some (Value.int .i64 y4), none, none, none, none, none, none, none, none, none, none, none, none, none, some (Value.agg #[(Value.int .i32 y18_0), (Value.int .i32 y18_1), (Value.int .i32 y18_2), (Value.int .i32 y18_3), (Value.int .i32 y18_4), (Value.int .i32 y18_5), (Value.int .i32 y18_6), (Value.int .i32 y18_7)]), some (Value.int .i64 y19), none, none, none, none, none, none, none, none, none, none, none, none, none, none, none, none, none, none, none, none, none, none, none, none, none, none, none, none, none, none, none, none, none, none, none, none, none] w = lms_Filter_Learn.l3 (N + 1) y0 y1 y4 y18_0 y18_1 y18_2 y18_3 y18_4 y18_5 y18_6 y18_7 y19 w (fun o0 o1 w => K (.exit 0) [some (Value.pointer o0), some (Value.int .i32 o1), none, none, none, none, none, none, none, none, none, none, none, none, none, none, none, none, none, none, none, none, none, none, none, none, none, none, none, none, none, none, none, none, none, none, none, none, none, none, none, none, none, none, none, none, none, none, none, none, none, none, none, none, none, none, none] w) := by
  rw [lms_Filter_Learn.les3]
  exact lms_Filter_Learn.leG3 @lms_Filter_Guess.f @lms_sign.f N y0 y1 y4 y18_0 y18_1 y18_2 y18_3 y18_4 y18_5 y18_6 y18_7 y19 w K
theorem lms_Filter_Learn.lok3 : LoopOk Try.prog lms_Filter_Learn.L lms_Filter_Learn.b0 := by
  refine loop_ok tab_ok lms_Filter_Learn.C_ok (D := lms_Filter_Learn.D) (lms_Filter_Learn.hn3) (lms_Filter_Learn.hx3) (by kernel_rfl) (by rw [lms_Filter_Learn.b0_loops]; exact lnil) ?_ ?_ ?_ ?_
  · intro f w K h
    unfold lms_Filter_Learn.hn3 at h
    obtain ⟨hlen, h⟩ := gN_ok h
    obtain ⟨y0, h0, h⟩ := gP_ok h
    obtain ⟨y1, h1, h⟩ := gI_ok h
    obtain ⟨y4, h4, h⟩ := gI_ok h
    obtain ⟨l, h18, h⟩ := gT_ok h
    replace h := cI_ok h; obtain ⟨y18_0, l, rfl, h⟩ := h
    replace h := cI_ok h; obtain ⟨y18_1, l, rfl, h⟩ := h
    replace h := cI_ok h; obtain ⟨y18_2, l, rfl, h⟩ := h
    replace h := cI_ok h; obtain ⟨y18_3, l, rfl, h⟩ := h
    replace h := cI_ok h; obtain ⟨y18_4, l, rfl, h⟩ := h
    replace h := cI_ok h; obtain ⟨y18_5, l, rfl, h⟩ := h
    replace h := cI_ok h; obtain ⟨y18_6, l, rfl, h⟩ := h
    replace h := cI_ok h; obtain ⟨y18_7, l, rfl, h⟩ := h
    replace h := cE_ok h; obtain ⟨rfl, h⟩ := h
    obtain ⟨y19, h19, h⟩ := gI_ok h
    exact h
  · intro N f w K h
    unfold lms_Filter_Learn.hn3 at h
    obtain ⟨hlen, h⟩ := gN_ok h
    obtain ⟨y0, h0, h⟩ := gP_ok h
    obtain ⟨y1, h1, h⟩ := gI_ok h
    obtain ⟨y4, h4, h⟩ := gI_ok h
    obtain ⟨l, h18, h⟩ := gT_ok h
    replace h := cI_ok h; obtain ⟨y18_0, l, rfl, h⟩ := h
    replace h := cI_ok h; obtain ⟨y18_1, l, rfl, h⟩ := h
    replace h := cI_ok h; obtain ⟨y18_2, l, rfl, h⟩ := h
    replace h := cI_ok h; obtain ⟨y18_3, l, rfl, h⟩ := h
    replace h := cI_ok h; obtain ⟨y18_4, l, rfl, h⟩ := h
    replace h := cI_ok h; obtain ⟨y18_5, l, rfl, h⟩ := h
    replace h := cI_ok h; obtain ⟨y18_6, l, rfl, h⟩ := h
    replace h := cI_ok h; obtain ⟨y18_7, l, rfl, h⟩ := h
    replace h := cE_ok h; obtain ⟨rfl, h⟩ := h
    obtain ⟨y19, h19, h⟩ := gI_ok h
    refine ⟨[some (Value.pointer y0), some (Value.int .i32 y1), none, none, some (Value.int .i64 y4), none, none, none, none, none, none, none, none, none, none, none, none, none, some (Value.agg #[(Value.int .i32 y18_0), (Value.int .i32 y18_1), (Value.int .i32 y18_2), (Value.int .i32 y18_3), (Value.int .i32 y18_4), (Value.int .i32 y18_5), (Value.int .i32 y18_6), (Value.int .i32 y18_7)]), some (Value.int .i64 y19), none, none, none, none, none, none, none, none, none, none, none, none, none, none, none, none, none, none, none, none, none, none, none, none, none, none, none, none, none, none, none, none, none, none, none, none, none], hlen, ⟨h0, h1, h4, h18, h19, trivial⟩, ?_⟩
    rw [lms_Filter_Learn.le3]
    exact h
  · intro e f w K h
    cases e with
    | normal => exact h.elim
    | exit i =>
      unfold lms_Filter_Learn.hx3 at h
      simp only at h
      split at h
      · rename_i hb
        obtain rfl := Nat.eq_of_beq_eq_true hb
        obtain ⟨hlen, h⟩ := gN_ok h
        obtain ⟨o0, h0, h⟩ := gP_ok h
        obtain ⟨o1, h1, h⟩ := gI_ok h
        exact ⟨[some (Value.pointer o0), some (Value.int .i32 o1), none, none, none, none, none, none, none, none, none, none, none, none, none, none, none, none, none, none, none, none, none, none, none, none, none, none, none, none, none, none, none, none, none, none, none, none, none, none, none, none, none, none, none, none, none, none, none, none, none, none, none, none, none, none, none], hlen, ⟨h0, h1, trivial⟩, h⟩
      · exact (show False from h).elim
    | ret =>
      exact (show False from h).elim
  · intro f w K h
    have e : lid lms_Filter_Learn.b0 = 3 := by kernel_rfl
    rw [e] at h
    exact h
theorem lms_Filter_Learn.eqG (F36 : type_of% @lms_Filter_Guess.f) (F54 : type_of% @lms_sign.f) (a0 : Option Addr) (a1 : Int) (w : World) (K : Value → World → Prop) : afn (lms_Filter_Learn.CG F36 F54) lms_Filter_Learn.L lms_Filter_Learn.D tab Try.f38 [(Value.pointer a0), (Value.int .i32 a1)] w K = lms_Filter_Learn.G F36 F54 a0 a1 w (fun w => K (Value.tuple #[]) w) := by kernel_rfl
theorem lms_Filter_Learn.eq (a0 : Option Addr) (a1 : Int) (w : World) (K : Value → World → Prop) : afn lms_Filter_Learn.C lms_Filter_Learn.L lms_Filter_Learn.D tab Try.f38 [(Value.pointer a0), (Value.int .i32 a1)] w K = lms_Filter_Learn.f a0 a1 w (fun w => K (Value.tuple #[]) w) := lms_Filter_Learn.eqG @lms_Filter_Guess.f @lms_sign.f a0 a1 w K
theorem lms_Filter_Learn.ok : FSound Try.prog 38 lms_Filter_Learn.h := by
  intro args w K h
  unfold lms_Filter_Learn.h lms_Filter_Learn.H at h
  split at h
  ·
    replace h := vP_ok h
    obtain ⟨a0, rfl, h⟩ := h
    replace h := vI_ok h
    obtain ⟨a1, rfl, h⟩ := h
    refine ⟨by kernel_rfl, fn_ok tab_ok lms_Filter_Learn.C_ok (L := lms_Filter_Learn.L) (D := lms_Filter_Learn.D) Try.func38 lms_Filter_Learn.hb (by kernel_rfl) (by rw [lms_Filter_Learn.c_loops]; exact lcons lms_Filter_Learn.lok3 (lnil)) (Nat.le_of_ble_eq_true (by kernel_rfl)) ?_⟩
    rw [lms_Filter_Learn.eq]
    exact h
  · exact h.elim
/-! ### valise/lms.Residual: function 42 -/
def lms_Residual.l4 : Nat → Option Addr → Option Addr → Nat → Nat → Option Addr → Nat → Nat → Int → Int → World → (Option Addr → Nat → Nat → World → Prop) → Prop
  | 0, _, _, _, _, _, _, _, _, _, _, _ => False
  | N + 1, y3, y4, y4n, y4c, y11, y11n, y11c, y12, y13, w, K0 =>
    bif (decide (y13 < y12)) then
      sm y11 fun p_12 =>
      if 0 ≤ (y13 : Int) ∧ (y13 : Int) < ((y11n : Nat) : Int) then
      ldI .i32 (p_12.add (Int.toNat y13)) w fun x17_13 =>
      lms_Filter_Guess.f y3 w fun r22_15 w =>
      sm y4 fun p_16 =>
      if 0 ≤ (y13 : Int) ∧ (y13 : Int) < ((y4n : Nat) : Int) then
      stC (p_16.add (Int.toNat y13)) (Value.int .i32 (IntKind.wrap .i32 (x17_13 - r22_15))) w fun w =>
      lms_Filter_Learn.f y3 x17_13 w fun w =>
      lms_Residual.l4 N y3 y4 y4n y4c y11 y11n y11c y12 (IntKind.wrap .i64 (y13 + 1)) w K0
      else False
      else False
    else
      K0 y4 y4n y4c w

def lms_Residual.f (a0 : Option Addr) (a0n : Nat) (a0c : Nat) (w : World) (K : Option Addr → Nat → Nat → World → Prop) : Prop :=
  lms_New.f  w fun r7_3 w =>
  mkL 21 1 4 [(Value.int .i32 0)] ((a0n : Nat) : Int) ((a0n : Nat) : Int) w fun a10_5 a10_5n a10_5c w =>
  ∃ N_17 : Nat, lms_Residual.l4 N_17 r7_3 a10_5 a10_5n a10_5c a0 a0n a0c ((a0n : Nat) : Int) 0 w
  (fun o4_18 o4_18n o4_18c w =>
    K o4_18 o4_18n o4_18c w)
def lms_Residual.H (F : type_of% @lms_Residual.f) : Hf := fun args w K => match args with
  | [v0] => vL v0 fun a0 a0n a0c => F a0 a0n a0c w (fun r0 r0n r0c w => K (Value.slice r0 r0n r0c) w)
  | _ => False
def lms_Residual.h : Hf := lms_Residual.H @lms_Residual.f
def lms_Residual.CG (F34 : type_of% @lms_New.f) (F36 : type_of% @lms_Filter_Guess.f) (F38 : type_of% @lms_Filter_Learn.f) : Hd := hcons 38 (lms_Filter_Learn.H F38) (hcons 36 (lms_Filter_Guess.H F36) (hcons 34 (lms_New.H F34) (hnil)))
def lms_Residual.C : Hd := lms_Residual.CG @lms_New.f @lms_Filter_Guess.f @lms_Filter_Learn.f
def lms_Residual.G (F34 : type_of% @lms_New.f) (F36 : type_of% @lms_Filter_Guess.f) (F38 : type_of% @lms_Filter_Learn.f) (a0 : Option Addr) (a0n : Nat) (a0c : Nat) (w : World) (K : Option Addr → Nat → Nat → World → Prop) : Prop :=
  F34  w fun r7_3 w =>
  mkL 21 1 4 [(Value.int .i32 0)] ((a0n : Nat) : Int) ((a0n : Nat) : Int) w fun a10_5 a10_5n a10_5c w =>
  ∃ N_17 : Nat, lms_Residual.l4 N_17 r7_3 a10_5 a10_5n a10_5c a0 a0n a0c ((a0n : Nat) : Int) 0 w
  (fun o4_18 o4_18n o4_18c w =>
    K o4_18 o4_18n o4_18c w)
theorem lms_Residual.C_ok : CSound Try.prog lms_Residual.C := hcons_ok lms_Filter_Learn.ok (hcons_ok lms_Filter_Guess.ok (hcons_ok lms_New.ok (hnil_ok)))
def lms_Residual.D : Nat → Plan := fun i => .done
noncomputable def lms_Residual.c : Code := Try.f42.body.getD .skip
theorem lms_Residual.hb : Try.f42.body = some lms_Residual.c := by kernel_rfl
noncomputable def lms_Residual.b0 : Code := (loopsOf lms_Residual.c).getD 0 .skip
theorem lms_Residual.b0_loops : loopsOf lms_Residual.b0 = [] := by kernel_rfl
theorem lms_Residual.c_loops : loopsOf lms_Residual.c = [lms_Residual.b0] := by kernel_rfl
def lms_Residual.l4G (F34 : type_of% @lms_New.f) (F36 : type_of% @lms_Filter_Guess.f) (F38 : type_of% @lms_Filter_Learn.f) (R : Option Addr → Option Addr → Nat → Nat → Option Addr → Nat → Nat → Int → Int → World → (Option Addr → Nat → Nat → World → Prop) → Prop) : Option Addr → Option Addr → Nat → Nat → Option Addr → Nat → Nat → Int → Int → World → (Option Addr → Nat → Nat → World → Prop) → Prop := fun y3 y4 y4n y4c y11 y11n y11c y12 y13 w K0 =>
    bif (decide (y13 < y12)) then
      sm y11 fun p_12 =>
      if 0 ≤ (y13 : Int) ∧ (y13 : Int) < ((y11n : Nat) : Int) then
      ldI .i32 (p_12.add (Int.toNat y13)) w fun x17_13 =>
      F36 y3 w fun r22_15 w =>
      sm y4 fun p_16 =>
      if 0 ≤ (y13 : Int) ∧ (y13 : Int) < ((y4n : Nat) : Int) then
      stC (p_16.add (Int.toNat y13)) (Value.int .i32 (IntKind.wrap .i32 (x17_13 - r22_15))) w fun w =>
      F38 y3 x17_13 w fun w =>
      R y3 y4 y4n y4c y11 y11n y11c y12 (IntKind.wrap .i64 (y13 + 1)) w K0
      else False
      else False
    else
      K0 y4 y4n y4c w

def lms_Residual.hn4 (N : Nat) (f : Fr) (w : World) (K : AExit → Fr → World → Prop) : Prop :=
  gN f 30 <| gP f 3 fun y3 => gL f 4 fun y4 y4n y4c => gL f 11 fun y11 y11n y11c => gI .i64 f 12 fun y12 => gI .i64 f 13 fun y13 => lms_Residual.l4 N y3 y4 y4n y4c y11 y11n y11c y12 y13 w (fun o4 o4n o4c w => K (.exit 0) [none, none, none, none, some (Value.slice o4 o4n o4c), none, none, none, none, none, none, none, none, none, none, none, none, none, none, none, none, none, none, none, none, none, none, none, none, none] w)
def lms_Residual.hx4 : AExit → Fr → World → (AExit → Fr → World → Prop) → Prop := fun e f w K => match e with
  | .normal => False
  | .exit i => (match Nat.beq i 0 with | true => gN f 30 <| gL f 4 fun o4 o4n o4c => K (.exit 0) [none, none, none, none, some (Value.slice o4 o4n o4c), none, none, none, none, none, none, none, none, none, none, none, none, none, none, none, none, none, none, none, none, none, none, none, none, none] w | false => False)
  | .ret => False
def lms_Residual.L : LHd := fun l f w K => (match Nat.beq l 4 with | true => ∃ N, lms_Residual.hn4 N f w K | false => False)
theorem lms_Residual.leG4 (F34 : type_of% @lms_New.f) (F36 : type_of% @lms_Filter_Guess.f) (F38 : type_of% @lms_Filter_Learn.f) (N : Nat) (y3 : Option Addr) (y4 : Option Addr) (y4n : Nat) (y4c : Nat) (y11 : Option Addr) (y11n : Nat) (y11c : Nat) (y12 : Int) (y13 : Int) (w : World) (K : AExit → Fr → World → Prop) : awp (lms_Residual.CG F34 F36 F38) lms_Residual.L lms_Residual.D tab lms_Residual.b0 (lpost lms_Residual.hn4 lms_Residual.hx4 N K) [none, none, none, some (Value.pointer y3), some (Value.slice y4 y4n y4c), none, none, none, none, none, none, some (Value.slice y11 y11n y11c), some (Value.int .i64 y12), some (Value.int .i64 y13), none, none, none, none, none, none, none, none, none, none, none, none, none, none, none, none] w = lms_Residual.l4G F34 F36 F38 (lms_Residual.l4 N) y3 y4 y4n y4c y11 y11n y11c y12 y13 w (fun o4 o4n o4c w => K (.exit 0) [none, none, none, none, some (Value.slice o4 o4n o4c), none, none, none, none, none, none, none, none, none, none, none, none, none, none, none, none, none, none, none, none, none, none, none, none, none] w) := by kernel_rfl
theorem lms_Residual.les4 (N : Nat) : lms_Residual.l4 (N + 1) = lms_Residual.l4G @lms_New.f @lms_Filter_Guess.f @lms_Filter_Learn.f (lms_Residual.l4 N) := by kernel_rfl
theorem lms_Residual.le4 (N : Nat) (y3 : Option Addr) (y4 : Option Addr) (y4n : Nat) (y4c : Nat) (y11 : Option Addr) (y11n : Nat) (y11c : Nat) (y12 : Int) (y13 : Int) (w : World) (K : AExit → Fr → World → Prop) : awp lms_Residual.C lms_Residual.L lms_Residual.D tab lms_Residual.b0 (lpost lms_Residual.hn4 lms_Residual.hx4 N K) [none, none, none, some (Value.pointer y3), some (Value.slice y4 y4n y4c), none, none, none, none, none, none, some (Value.slice y11 y11n y11c), some (Value.int .i64 y12), some (Value.int .i64 y13), none, none, none, none, none, none, none, none, none, none, none, none, none, none, none, none] w = lms_Residual.l4 (N + 1) y3 y4 y4n y4c y11 y11n y11c y12 y13 w (fun o4 o4n o4c w => K (.exit 0) [none, none, none, none, some (Value.slice o4 o4n o4c), none, none, none, none, none, none, none, none, none, none, none, none, none, none, none, none, none, none, none, none, none, none, none, none, none] w) := by
  rw [lms_Residual.les4]
  exact lms_Residual.leG4 @lms_New.f @lms_Filter_Guess.f @lms_Filter_Learn.f N y3 y4 y4n y4c y11 y11n y11c y12 y13 w K
theorem lms_Residual.lok4 : LoopOk Try.prog lms_Residual.L lms_Residual.b0 := by
  refine loop_ok tab_ok lms_Residual.C_ok (D := lms_Residual.D) (lms_Residual.hn4) (lms_Residual.hx4) (by kernel_rfl) (by rw [lms_Residual.b0_loops]; exact lnil) ?_ ?_ ?_ ?_
  · intro f w K h
    unfold lms_Residual.hn4 at h
    obtain ⟨hlen, h⟩ := gN_ok h
    obtain ⟨y3, h3, h⟩ := gP_ok h
    obtain ⟨y4, y4n, y4c, h4, h⟩ := gL_ok h
    obtain ⟨y11, y11n, y11c, h11, h⟩ := gL_ok h
    obtain ⟨y12, h12, h⟩ := gI_ok h
    obtain ⟨y13, h13, h⟩ := gI_ok h
    exact h
  · intro N f w K h
    unfold lms_Residual.hn4 at h
    obtain ⟨hlen, h⟩ := gN_ok h
    obtain ⟨y3, h3, h⟩ := gP_ok h
    obtain ⟨y4, y4n, y4c, h4, h⟩ := gL_ok h
    obtain ⟨y11, y11n, y11c, h11, h⟩ := gL_ok h
    obtain ⟨y12, h12, h⟩ := gI_ok h
    obtain ⟨y13, h13, h⟩ := gI_ok h
    refine ⟨[none, none, none, some (Value.pointer y3), some (Value.slice y4 y4n y4c), none, none, none, none, none, none, some (Value.slice y11 y11n y11c), some (Value.int .i64 y12), some (Value.int .i64 y13), none, none, none, none, none, none, none, none, none, none, none, none, none, none, none, none], hlen, ⟨h3, h4, h11, h12, h13, trivial⟩, ?_⟩
    rw [lms_Residual.le4]
    exact h
  · intro e f w K h
    cases e with
    | normal => exact h.elim
    | exit i =>
      unfold lms_Residual.hx4 at h
      simp only at h
      split at h
      · rename_i hb
        obtain rfl := Nat.eq_of_beq_eq_true hb
        obtain ⟨hlen, h⟩ := gN_ok h
        obtain ⟨o4, o4n, o4c, h4, h⟩ := gL_ok h
        exact ⟨[none, none, none, none, some (Value.slice o4 o4n o4c), none, none, none, none, none, none, none, none, none, none, none, none, none, none, none, none, none, none, none, none, none, none, none, none, none], hlen, ⟨h4, trivial⟩, h⟩
      · exact (show False from h).elim
    | ret =>
      exact (show False from h).elim
  · intro f w K h
    have e : lid lms_Residual.b0 = 4 := by kernel_rfl
    rw [e] at h
    exact h
theorem lms_Residual.eqG (F34 : type_of% @lms_New.f) (F36 : type_of% @lms_Filter_Guess.f) (F38 : type_of% @lms_Filter_Learn.f) (a0 : Option Addr) (a0n : Nat) (a0c : Nat) (w : World) (K : Value → World → Prop) : afn (lms_Residual.CG F34 F36 F38) lms_Residual.L lms_Residual.D tab Try.f42 [(Value.slice a0 a0n a0c)] w K = lms_Residual.G F34 F36 F38 a0 a0n a0c w (fun r0 r0n r0c w => K (Value.slice r0 r0n r0c) w) := by kernel_rfl
theorem lms_Residual.eq (a0 : Option Addr) (a0n : Nat) (a0c : Nat) (w : World) (K : Value → World → Prop) : afn lms_Residual.C lms_Residual.L lms_Residual.D tab Try.f42 [(Value.slice a0 a0n a0c)] w K = lms_Residual.f a0 a0n a0c w (fun r0 r0n r0c w => K (Value.slice r0 r0n r0c) w) := lms_Residual.eqG @lms_New.f @lms_Filter_Guess.f @lms_Filter_Learn.f a0 a0n a0c w K
theorem lms_Residual.ok : FSound Try.prog 42 lms_Residual.h := by
  intro args w K h
  unfold lms_Residual.h lms_Residual.H at h
  split at h
  ·
    replace h := vL_ok h
    obtain ⟨a0, a0n, a0c, rfl, h⟩ := h
    refine ⟨by kernel_rfl, fn_ok tab_ok lms_Residual.C_ok (L := lms_Residual.L) (D := lms_Residual.D) Try.func42 lms_Residual.hb (by kernel_rfl) (by rw [lms_Residual.c_loops]; exact lcons lms_Residual.lok4 (lnil)) (Nat.le_of_ble_eq_true (by kernel_rfl)) ?_⟩
    rw [lms_Residual.eq]
    exact h
  · exact h.elim
/-! ### valise/valiselaw12.awake: function 35 -/
def law12_awake.f  (w : World) (K : Bool → World → Prop) : Prop :=
  newC 21 [(Value.int .i32 1), (Value.int .i32 1)] w fun a2_3 w =>
  lms_Residual.f (some a2_3) 2 2 w fun r3_4 r3_4n r3_4c w =>
  bif (((r3_4n : Nat) : Int) == 2) then
    sm r3_4 fun p_6 =>
    if 0 ≤ (0 : Int) ∧ (0 : Int) < ((r3_4n : Nat) : Int) then
    ldI .i32 p_6 w fun x10_7 =>
    bif (x10_7 == 1) then
      sm r3_4 fun p_8 =>
      if 0 ≤ (1 : Int) ∧ (1 : Int) < ((r3_4n : Nat) : Int) then
      ldI .i32 (p_8.add 1) w fun x16_9 =>
      K (x16_9 == 1) w
      else False
    else
      K false w
    else False
  else
    K false w
def law12_awake.H (F : type_of% @law12_awake.f) : Hf := fun args w K => match args with
  | [] =>  F  w (fun r0 w => K (Value.bool r0) w)
  | _ => False
def law12_awake.h : Hf := law12_awake.H @law12_awake.f
def law12_awake.C : Hd := hcons 42 lms_Residual.h (hnil)
theorem law12_awake.C_ok : CSound Try.prog law12_awake.C := hcons_ok lms_Residual.ok (hnil_ok)
def law12_awake.D : Nat → Plan := fun i => .done
noncomputable def law12_awake.c : Code := Try.f35.body.getD .skip
theorem law12_awake.hb : Try.f35.body = some law12_awake.c := by kernel_rfl
theorem law12_awake.c_loops : loopsOf law12_awake.c = [] := by kernel_rfl
def law12_awake.L : LHd := fun l f w K => False
theorem law12_awake.eq  (w : World) (K : Value → World → Prop) : afn law12_awake.C law12_awake.L law12_awake.D tab Try.f35 [] w K = law12_awake.f  w (fun r0 w => K (Value.bool r0) w) := by kernel_rfl
theorem law12_awake.ok : FSound Try.prog 35 law12_awake.h := by
  intro args w K h
  unfold law12_awake.h law12_awake.H at h
  split at h
  ·
    refine ⟨by kernel_rfl, fn_ok tab_ok law12_awake.C_ok (L := law12_awake.L) (D := law12_awake.D) Try.func35 law12_awake.hb (by kernel_rfl) (by rw [law12_awake.c_loops]; exact lnil) (Nat.le_of_ble_eq_true (by kernel_rfl)) ?_⟩
    rw [law12_awake.eq]
    exact h
  · exact h.elim
/-! ### (*valise/valiseref12.Filter).Guess: function 37 -/
def ref12_Filter_Guess.l3 : Nat → Option Addr → Int → Int → World → (Int → World → Prop) → Prop
  | 0, _, _, _, _, _ => False
  | N + 1, y0, y3, y4, w, K0 =>
    bif (decide (y4 < 8)) then
      sm y0 fun p_8 =>
      if 0 ≤ (y4 : Int) ∧ (y4 : Int) < ((8 : Nat) : Int) then
      ldI .i32 (p_8.add (Int.toNat y4)) w.drew fun x15_9 =>
      sm y0 fun p_10 =>
      if 0 ≤ (y4 : Int) ∧ (y4 : Int) < ((8 : Nat) : Int) then
      ldI .i32 ((p_10.add 8).add (Int.toNat y4)) w.drew fun x22_11 =>
      let v3_12 := (IntKind.wrap .i64 (y3 + (IntKind.wrap .i64 ((IntKind.wrap .i64 x15_9) * (IntKind.wrap .i64 x22_11)))))
      let v4_13 := (IntKind.wrap .i64 (y4 + 1))
      ref12_Filter_Guess.l3 N y0 v3_12 v4_13 w.drew K0
      else False
      else False
    else
      K0 y3 w

def ref12_Filter_Guess.f (a0 : Option Addr) (w : World) (K : Int → World → Prop) : Prop :=
  ∃ N_14 : Nat, ref12_Filter_Guess.l3 N_14 a0 0 0 w
  (fun o3_15 w =>
    let v2_17 := (IntKind.wrap .i32 (shr .i64 o3_15 8))
    K v2_17 w)
def ref12_Filter_Guess.H (F : type_of% @ref12_Filter_Guess.f) : Hf := fun args w K => match args with
  | [v0] => vP v0 fun a0 => F a0 w (fun r0 w => K (Value.int .i32 r0) w)
  | _ => False
def ref12_Filter_Guess.h : Hf := ref12_Filter_Guess.H @ref12_Filter_Guess.f
def ref12_Filter_Guess.C : Hd := hnil
theorem ref12_Filter_Guess.C_ok : CSound Try.prog ref12_Filter_Guess.C := hnil_ok
def ref12_Filter_Guess.D : Nat → Plan := fun i => (match Nat.beq i 5 with | true => .take 0 (.take 1 (.take 2 (.take 3 (.take 4 (.take 5 (.take 6 (.take 7 (.take 8 (.take 9 (.take 10 (.take 11 (.take 12 (.take 13 (.take 14 (.take 15 (.take 16 (.take 17 (.done)))))))))))))))))) | false => .done)
noncomputable def ref12_Filter_Guess.c : Code := Try.f37.body.getD .skip
theorem ref12_Filter_Guess.hb : Try.f37.body = some ref12_Filter_Guess.c := by kernel_rfl
noncomputable def ref12_Filter_Guess.b0 : Code := (loopsOf ref12_Filter_Guess.c).getD 0 .skip
theorem ref12_Filter_Guess.b0_loops : loopsOf ref12_Filter_Guess.b0 = [] := by kernel_rfl
theorem ref12_Filter_Guess.c_loops : loopsOf ref12_Filter_Guess.c = [ref12_Filter_Guess.b0] := by kernel_rfl
def ref12_Filter_Guess.hn3 (N : Nat) (f : Fr) (w : World) (K : AExit → Fr → World → Prop) : Prop :=
  gN f 29 <| gP f 0 fun y0 => gI .i64 f 3 fun y3 => gI .i64 f 4 fun y4 => ref12_Filter_Guess.l3 N y0 y3 y4 w (fun o3 w => K (.exit 0) [none, none, none, some (Value.int .i64 o3), none, none, none, none, none, none, none, none, none, none, none, none, none, none, none, none, none, none, none, none, none, none, none, none, none] w)
def ref12_Filter_Guess.hx3 : AExit → Fr → World → (AExit → Fr → World → Prop) → Prop := fun e f w K => match e with
  | .normal => False
  | .exit i => (match Nat.beq i 0 with | true => gN f 29 <| gI .i64 f 3 fun o3 => K (.exit 0) [none, none, none, some (Value.int .i64 o3), none, none, none, none, none, none, none, none, none, none, none, none, none, none, none, none, none, none, none, none, none, none, none, none, none] w | false => False)
  | .ret => False
def ref12_Filter_Guess.L : LHd := fun l f w K => (match Nat.beq l 3 with | true => ∃ N, ref12_Filter_Guess.hn3 N f w K | false => False)
theorem ref12_Filter_Guess.le3 (N : Nat) (y0 : Option Addr) (y3 : Int) (y4 : Int) (w : World) (K : AExit → Fr → World → Prop) : awp ref12_Filter_Guess.C ref12_Filter_Guess.L ref12_Filter_Guess.D tab ref12_Filter_Guess.b0 (lpost ref12_Filter_Guess.hn3 ref12_Filter_Guess.hx3 N K) [some (Value.pointer y0), none, none, some (Value.int .i64 y3), some (Value.int .i64 y4), none, none, none, none, none, none, none, none, none, none, none, none, none, none, none, none, none, none, none, none, none, none, none, none] w = ref12_Filter_Guess.l3 (N + 1) y0 y3 y4 w (fun o3 w => K (.exit 0) [none, none, none, some (Value.int .i64 o3), none, none, none, none, none, none, none, none, none, none, none, none, none, none, none, none, none, none, none, none, none, none, none, none, none] w) := by kernel_rfl
theorem ref12_Filter_Guess.lok3 : LoopOk Try.prog ref12_Filter_Guess.L ref12_Filter_Guess.b0 := by
  refine loop_ok tab_ok ref12_Filter_Guess.C_ok (D := ref12_Filter_Guess.D) (ref12_Filter_Guess.hn3) (ref12_Filter_Guess.hx3) (by kernel_rfl) (by rw [ref12_Filter_Guess.b0_loops]; exact lnil) ?_ ?_ ?_ ?_
  · intro f w K h
    unfold ref12_Filter_Guess.hn3 at h
    obtain ⟨hlen, h⟩ := gN_ok h
    obtain ⟨y0, h0, h⟩ := gP_ok h
    obtain ⟨y3, h3, h⟩ := gI_ok h
    obtain ⟨y4, h4, h⟩ := gI_ok h
    exact h
  · intro N f w K h
    unfold ref12_Filter_Guess.hn3 at h
    obtain ⟨hlen, h⟩ := gN_ok h
    obtain ⟨y0, h0, h⟩ := gP_ok h
    obtain ⟨y3, h3, h⟩ := gI_ok h
    obtain ⟨y4, h4, h⟩ := gI_ok h
    refine ⟨[some (Value.pointer y0), none, none, some (Value.int .i64 y3), some (Value.int .i64 y4), none, none, none, none, none, none, none, none, none, none, none, none, none, none, none, none, none, none, none, none, none, none, none, none], hlen, ⟨h0, h3, h4, trivial⟩, ?_⟩
    rw [ref12_Filter_Guess.le3]
    exact h
  · intro e f w K h
    cases e with
    | normal => exact h.elim
    | exit i =>
      unfold ref12_Filter_Guess.hx3 at h
      simp only at h
      split at h
      · rename_i hb
        obtain rfl := Nat.eq_of_beq_eq_true hb
        obtain ⟨hlen, h⟩ := gN_ok h
        obtain ⟨o3, h3, h⟩ := gI_ok h
        exact ⟨[none, none, none, some (Value.int .i64 o3), none, none, none, none, none, none, none, none, none, none, none, none, none, none, none, none, none, none, none, none, none, none, none, none, none], hlen, ⟨h3, trivial⟩, h⟩
      · exact (show False from h).elim
    | ret =>
      exact (show False from h).elim
  · intro f w K h
    have e : lid ref12_Filter_Guess.b0 = 3 := by kernel_rfl
    rw [e] at h
    exact h
theorem ref12_Filter_Guess.eq (a0 : Option Addr) (w : World) (K : Value → World → Prop) : afn ref12_Filter_Guess.C ref12_Filter_Guess.L ref12_Filter_Guess.D tab Try.f37 [(Value.pointer a0)] w K = ref12_Filter_Guess.f a0 w (fun r0 w => K (Value.int .i32 r0) w) := by kernel_rfl
theorem ref12_Filter_Guess.ok : FSound Try.prog 37 ref12_Filter_Guess.h := by
  intro args w K h
  unfold ref12_Filter_Guess.h ref12_Filter_Guess.H at h
  split at h
  ·
    replace h := vP_ok h
    obtain ⟨a0, rfl, h⟩ := h
    refine ⟨by kernel_rfl, fn_ok tab_ok ref12_Filter_Guess.C_ok (L := ref12_Filter_Guess.L) (D := ref12_Filter_Guess.D) Try.func37 ref12_Filter_Guess.hb (by kernel_rfl) (by rw [ref12_Filter_Guess.c_loops]; exact lcons ref12_Filter_Guess.lok3 (lnil)) (Nat.le_of_ble_eq_true (by kernel_rfl)) ?_⟩
    rw [ref12_Filter_Guess.eq]
    exact h
  · exact h.elim
/-! ### valise/valiseref12.sign: function 55 -/
def ref12_sign.f (a0 : Int) (w : World) (K : Int → World → Prop) : Prop :=
  let v3_4 := (decide (a0 > 0))
  bif v3_4 then
    K 1 w
  else
    let v6_7 := (decide (a0 < 0))
    bif v6_7 then
      K (-1) w
    else
      K 0 w
def ref12_sign.H (F : type_of% @ref12_sign.f) : Hf := fun args w K => match args with
  | [v0] => vI .i32 v0 fun a0 => F a0 w (fun r0 w => K (Value.int .i32 r0) w)
  | _ => False
def ref12_sign.h : Hf := ref12_sign.H @ref12_sign.f
def ref12_sign.C : Hd := hnil
theorem ref12_sign.C_ok : CSound Try.prog ref12_sign.C := hnil_ok
def ref12_sign.D : Nat → Plan := fun i => .done
noncomputable def ref12_sign.c : Code := Try.f55.body.getD .skip
theorem ref12_sign.hb : Try.f55.body = some ref12_sign.c := by kernel_rfl
theorem ref12_sign.c_loops : loopsOf ref12_sign.c = [] := by kernel_rfl
def ref12_sign.L : LHd := fun l f w K => False
theorem ref12_sign.eq (a0 : Int) (w : World) (K : Value → World → Prop) : afn ref12_sign.C ref12_sign.L ref12_sign.D tab Try.f55 [(Value.int .i32 a0)] w K = ref12_sign.f a0 w (fun r0 w => K (Value.int .i32 r0) w) := by kernel_rfl
theorem ref12_sign.ok : FSound Try.prog 55 ref12_sign.h := by
  intro args w K h
  unfold ref12_sign.h ref12_sign.H at h
  split at h
  ·
    replace h := vI_ok h
    obtain ⟨a0, rfl, h⟩ := h
    refine ⟨by kernel_rfl, fn_ok tab_ok ref12_sign.C_ok (L := ref12_sign.L) (D := ref12_sign.D) Try.func55 ref12_sign.hb (by kernel_rfl) (by rw [ref12_sign.c_loops]; exact lnil) (Nat.le_of_ble_eq_true (by kernel_rfl)) ?_⟩
    rw [ref12_sign.eq]
    exact h
  · exact h.elim
/-! ### (*valise/valiseref12.Filter).Learn: function 39 -/
def ref12_Filter_Learn.l2 : Nat → Option Addr → Int → Int → Int → World → (Option Addr → Int → World → Prop) → Prop
  | 0, _, _, _, _, _, _ => False
  | N + 1, y0, y1, y4, y5, w, K0 =>
    bif (decide (y5 < 8)) then
      sm y0 fun p_9 =>
      if 0 ≤ (y5 : Int) ∧ (y5 : Int) < ((8 : Nat) : Int) then
      ldI .i32 (p_9.add (Int.toNat y5)) w.drew fun x23_10 =>
      sm y0 fun p_11 =>
      if 0 ≤ (y5 : Int) ∧ (y5 : Int) < ((8 : Nat) : Int) then
      ldI .i32 ((p_11.add 8).add (Int.toNat y5)) w.drew fun x30_12 =>
      sm y0 fun p_13 =>
      ref12_sign.f x30_12 w.drew fun r31_14 w =>
      (World.cell? w (p_9.add (Int.toNat y5)) = some (.int .i32 x23_10)) ∧
      (if 0 ≤ (y5 : Int) ∧ (y5 : Int) < ((8 : Nat) : Int) then
      stC (p_13.add (Int.toNat y5)) (Value.int .i32 (IntKind.wrap .i32 (x23_10 + (IntKind.wrap .i32 (y4 * r31_14))))) w fun w =>
      let v5_15 := (IntKind.wrap .i64 (y5 + 1))
      ref12_Filter_Learn.l2 N y0 y1 y4 v5_15 w K0
      else False)
      else False
      else False
    else
      K0 y0 y1 w

def ref12_Filter_Learn.l6 : Nat → Option Addr → Int → Int → World → (Option Addr → Int → World → Prop) → Prop
  | 0, _, _, _, _, _ => False
  | N + 1, y0, y1, y6, w, K2 =>
    bif (decide (y6 > 0)) then
      sm y0 fun p_24 =>
      if 0 ≤ ((IntKind.wrap .i64 (y6 - 1)) : Int) ∧ ((IntKind.wrap .i64 (y6 - 1)) : Int) < ((8 : Nat) : Int) then
      ldI .i32 ((p_24.add 8).add (Int.toNat (IntKind.wrap .i64 (y6 - 1)))) w.drew fun x49_25 =>
      sm y0 fun p_26 =>
      if 0 ≤ (y6 : Int) ∧ (y6 : Int) < ((8 : Nat) : Int) then
      stC ((p_26.add 8).add (Int.toNat y6)) (Value.int .i32 x49_25) w.drew fun w =>
      let v6_27 := (IntKind.wrap .i64 (y6 - 1))
      ref12_Filter_Learn.l6 N y0 y1 v6_27 w K2
      else False
      else False
    else
      K2 y0 y1 w

def ref12_Filter_Learn.f (a0 : Option Addr) (a1 : Int) (w : World) (K : World → Prop) : Prop :=
  ref12_Filter_Guess.f a0 w fun r9_2 w =>
  ref12_sign.f (IntKind.wrap .i32 (a1 - r9_2)) w fun r11_3 w =>
  ∃ N_16 : Nat, ref12_Filter_Learn.l2 N_16 a0 a1 r11_3 0 w
  (fun o0_17 o1_18 w =>
    ∃ N_28 : Nat, ref12_Filter_Learn.l6 N_28 o0_17 o1_18 7 w
    (fun o0_29 o1_30 w =>
      sm o0_29 fun p_31 =>
      stC (p_31.add 8) (Value.int .i32 o1_30) w fun w =>
      K w))
def ref12_Filter_Learn.H (F : type_of% @ref12_Filter_Learn.f) : Hf := fun args w K => match args with
  | [v0, v1] => vP v0 fun a0 => vI .i32 v1 fun a1 => F a0 a1 w (fun w => K (Value.tuple #[]) w)
  | _ => False
def ref12_Filter_Learn.h : Hf := ref12_Filter_Learn.H @ref12_Filter_Learn.f
def ref12_Filter_Learn.CG (F37 : type_of% @ref12_Filter_Guess.f) (F55 : type_of% @ref12_sign.f) : Hd := hcons 55 (ref12_sign.H F55) (hcons 37 (ref12_Filter_Guess.H F37) (hnil))
def ref12_Filter_Learn.C : Hd := ref12_Filter_Learn.CG @ref12_Filter_Guess.f @ref12_sign.f
def ref12_Filter_Learn.G (F37 : type_of% @ref12_Filter_Guess.f) (F55 : type_of% @ref12_sign.f) (a0 : Option Addr) (a1 : Int) (w : World) (K : World → Prop) : Prop :=
  F37 a0 w fun r9_2 w =>
  F55 (IntKind.wrap .i32 (a1 - r9_2)) w fun r11_3 w =>
  ∃ N_16 : Nat, ref12_Filter_Learn.l2 N_16 a0 a1 r11_3 0 w
  (fun o0_17 o1_18 w =>
    ∃ N_28 : Nat, ref12_Filter_Learn.l6 N_28 o0_17 o1_18 7 w
    (fun o0_29 o1_30 w =>
      sm o0_29 fun p_31 =>
      stC (p_31.add 8) (Value.int .i32 o1_30) w fun w =>
      K w))
theorem ref12_Filter_Learn.C_ok : CSound Try.prog ref12_Filter_Learn.C := hcons_ok ref12_sign.ok (hcons_ok ref12_Filter_Guess.ok (hnil_ok))
def ref12_Filter_Learn.D : Nat → Plan := fun i => (match Nat.beq i 8 with | true => .take 0 (.take 1 (.take 2 (.take 3 (.take 4 (.take 5 (.take 6 (.take 7 (.take 8 (.take 9 (.take 10 (.take 11 (.eff 12 (.done))))))))))))) | false => (match Nat.beq i 4 with | true => .take 0 (.take 1 (.take 2 (.take 3 (.take 4 (.take 5 (.take 6 (.take 7 (.take 8 (.take 9 (.take 10 (.take 11 (.take 12 (.take 13 (.take 14 (.take 18 (.take 19 (.eff 15 (.take 16 (.take 17 (.take 20 (.eff 21 (.done)))))))))))))))))))))) | false => .done))
noncomputable def ref12_Filter_Learn.c : Code := Try.f39.body.getD .skip
theorem ref12_Filter_Learn.hb : Try.f39.body = some ref12_Filter_Learn.c := by kernel_rfl
noncomputable def ref12_Filter_Learn.b0 : Code := (loopsOf ref12_Filter_Learn.c).getD 0 .skip
theorem ref12_Filter_Learn.b0_loops : loopsOf ref12_Filter_Learn.b0 = [] := by kernel_rfl
noncomputable def ref12_Filter_Learn.b1 : Code := (loopsOf ref12_Filter_Learn.c).getD 1 .skip
theorem ref12_Filter_Learn.b1_loops : loopsOf ref12_Filter_Learn.b1 = [] := by kernel_rfl
theorem ref12_Filter_Learn.c_loops : loopsOf ref12_Filter_Learn.c = [ref12_Filter_Learn.b0, ref12_Filter_Learn.b1] := by kernel_rfl
def ref12_Filter_Learn.l2G (F37 : type_of% @ref12_Filter_Guess.f) (F55 : type_of% @ref12_sign.f) (R : Option Addr → Int → Int → Int → World → (Option Addr → Int → World → Prop) → Prop) : Option Addr → Int → Int → Int → World → (Option Addr → Int → World → Prop) → Prop := fun y0 y1 y4 y5 w K0 =>
    bif (decide (y5 < 8)) then
      sm y0 fun p_9 =>
      if 0 ≤ (y5 : Int) ∧ (y5 : Int) < ((8 : Nat) : Int) then
      ldI .i32 (p_9.add (Int.toNat y5)) w.drew fun x23_10 =>
      sm y0 fun p_11 =>
      if 0 ≤ (y5 : Int) ∧ (y5 : Int) < ((8 : Nat) : Int) then
      ldI .i32 ((p_11.add 8).add (Int.toNat y5)) w.drew fun x30_12 =>
      sm y0 fun p_13 =>
      F55 x30_12 w.drew fun r31_14 w =>
      (World.cell? w (p_9.add (Int.toNat y5)) = some (.int .i32 x23_10)) ∧
      (if 0 ≤ (y5 : Int) ∧ (y5 : Int) < ((8 : Nat) : Int) then
      stC (p_13.add (Int.toNat y5)) (Value.int .i32 (IntKind.wrap .i32 (x23_10 + (IntKind.wrap .i32 (y4 * r31_14))))) w fun w =>
      let v5_15 := (IntKind.wrap .i64 (y5 + 1))
      R y0 y1 y4 v5_15 w K0
      else False)
      else False
      else False
    else
      K0 y0 y1 w

def ref12_Filter_Learn.l6G (F37 : type_of% @ref12_Filter_Guess.f) (F55 : type_of% @ref12_sign.f) (R : Option Addr → Int → Int → World → (Option Addr → Int → World → Prop) → Prop) : Option Addr → Int → Int → World → (Option Addr → Int → World → Prop) → Prop := fun y0 y1 y6 w K2 =>
    bif (decide (y6 > 0)) then
      sm y0 fun p_24 =>
      if 0 ≤ ((IntKind.wrap .i64 (y6 - 1)) : Int) ∧ ((IntKind.wrap .i64 (y6 - 1)) : Int) < ((8 : Nat) : Int) then
      ldI .i32 ((p_24.add 8).add (Int.toNat (IntKind.wrap .i64 (y6 - 1)))) w.drew fun x49_25 =>
      sm y0 fun p_26 =>
      if 0 ≤ (y6 : Int) ∧ (y6 : Int) < ((8 : Nat) : Int) then
      stC ((p_26.add 8).add (Int.toNat y6)) (Value.int .i32 x49_25) w.drew fun w =>
      let v6_27 := (IntKind.wrap .i64 (y6 - 1))
      R y0 y1 v6_27 w K2
      else False
      else False
    else
      K2 y0 y1 w

def ref12_Filter_Learn.hn2 (N : Nat) (f : Fr) (w : World) (K : AExit → Fr → World → Prop) : Prop :=
  gN f 58 <| gP f 0 fun y0 => gI .i32 f 1 fun y1 => gI .i32 f 4 fun y4 => gI .i64 f 5 fun y5 => ref12_Filter_Learn.l2 N y0 y1 y4 y5 w (fun o0 o1 w => K (.exit 0) [some (Value.pointer o0), some (Value.int .i32 o1), none, none, none, none, none, none, none, none, none, none, none, none, none, none, none, none, none, none, none, none, none, none, none, none, none, none, none, none, none, none, none, none, none, none, none, none, none, none, none, none, none, none, none, none, none, none, none, none, none, none, none, none, none, none, none, none] w)
def ref12_Filter_Learn.hx2 : AExit → Fr → World → (AExit → Fr → World → Prop) → Prop := fun e f w K => match e with
  | .normal => False
  | .exit i => (match Nat.beq i 0 with | true => gN f 58 <| gP f 0 fun o0 => gI .i32 f 1 fun o1 => K (.exit 0) [some (Value.pointer o0), some (Value.int .i32 o1), none, none, none, none, none, none, none, none, none, none, none, none, none, none, none, none, none, none, none, none, none, none, none, none, none, none, none, none, none, none, none, none, none, none, none, none, none, none, none, none, none, none, none, none, none, none, none, none, none, none, none, none, none, none, none, none] w | false => False)
  | .ret => False
def ref12_Filter_Learn.hn6 (N : Nat) (f : Fr) (w : World) (K : AExit → Fr → World → Prop) : Prop :=
  gN f 58 <| gP f 0 fun y0 => gI .i32 f 1 fun y1 => gI .i64 f 6 fun y6 => ref12_Filter_Learn.l6 N y0 y1 y6 w (fun o0 o1 w => K (.exit 2) [some (Value.pointer o0), some (Value.int .i32 o1), none, none, none, none, none, none, none, none, none, none, none, none, none, none, none, none, none, none, none, none, none, none, none, none, none, none, none, none, none, none, none, none, none, none, none, none, none, none, none, none, none, none, none, none, none, none, none, none, none, none, none, none, none, none, none, none] w)
def ref12_Filter_Learn.hx6 : AExit → Fr → World → (AExit → Fr → World → Prop) → Prop := fun e f w K => match e with
  | .normal => False
  | .exit i => (match Nat.beq i 2 with | true => gN f 58 <| gP f 0 fun o0 => gI .i32 f 1 fun o1 => K (.exit 2) [some (Value.pointer o0), some (Value.int .i32 o1), none, none, none, none, none, none, none, none, none, none, none, none, none, none, none, none, none, none, none, none, none, none, none, none, none, none, none, none, none, none, none, none, none, none, none, none, none, none, none, none, none, none, none, none, none, none, none, none, none, none, none, none, none, none, none, none] w | false => False)
  | .ret => False
def ref12_Filter_Learn.L : LHd := fun l f w K => (match Nat.beq l 6 with | true => ∃ N, ref12_Filter_Learn.hn6 N f w K | false => (match Nat.beq l 2 with | true => ∃ N, ref12_Filter_Learn.hn2 N f w K | false => False))
theorem ref12_Filter_Learn.leG2 (F37 : type_of% @ref12_Filter_Guess.f) (F55 : type_of% @ref12_sign.f) (N : Nat) (y0 : Option Addr) (y1 : Int) (y4 : Int) (y5 : Int) (w : World) (K : AExit → Fr → World → Prop) : awp (ref12_Filter_Learn.CG F37 F55) ref12_Filter_Learn.L ref12_Filter_Learn.D tab ref12_Filter_Learn.b0 (lpost ref12_Filter_Learn.hn2 ref12_Filter_Learn.hx2 N K) [some (Value.pointer y0), some (Value.int .i32 y1), none, none, some (Value.int .i32 y4), some (Value.int .i64 y5), none, none, none, none, none, none, none, none, none, none, none, none, none, none, none, none, none, none, none, none, none, none, none, none, none, none, none, none, none, none, none, none, none, none, none, none, none, none, none, none, none, none, none, none, none, none, none, none, none, none, none, none] w = ref12_Filter_Learn.l2G F37 F55 (ref12_Filter_Learn.l2 N) y0 y1 y4 y5 w (fun o0 o1 w => K (.exit 0) [some (Value.pointer o0), some (Value.int .i32 o1), none, none, none, none, none, none, none, none, none, none, none, none, none, none, none, none, none, none, none, none, none, none, none, none, none, none, none, none, none, none, none, none, none, none, none, none, none, none, none, none, none, none, none, none, none, none, none, none, none, none, none, none, none, none, none, none] w) := by kernel_rfl
theorem ref12_Filter_Learn.les2 (N : Nat) : ref12_Filter_Learn.l2 (N + 1) = ref12_Filter_Learn.l2G @ref12_Filter_Guess.f @ref12_sign.f (ref12_Filter_Learn.l2 N) := by kernel_rfl
theorem ref12_Filter_Learn.le2 (N : Nat) (y0 : Option Addr) (y1 : Int) (y4 : Int) (y5 : Int) (w : World) (K : AExit → Fr → World → Prop) : awp ref12_Filter_Learn.C ref12_Filter_Learn.L ref12_Filter_Learn.D tab ref12_Filter_Learn.b0 (lpost ref12_Filter_Learn.hn2 ref12_Filter_Learn.hx2 N K) [some (Value.pointer y0), some (Value.int .i32 y1), none, none, some (Value.int .i32 y4), some (Value.int .i64 y5), none, none, none, none, none, none, none, none, none, none, none, none, none, none, none, none, none, none, none, none, none, none, none, none, none, none, none, none, none, none, none, none, none, none, none, none, none, none, none, none, none, none, none, none, none, none, none, none, none, none, none, none] w = ref12_Filter_Learn.l2 (N + 1) y0 y1 y4 y5 w (fun o0 o1 w => K (.exit 0) [some (Value.pointer o0), some (Value.int .i32 o1), none, none, none, none, none, none, none, none, none, none, none, none, none, none, none, none, none, none, none, none, none, none, none, none, none, none, none, none, none, none, none, none, none, none, none, none, none, none, none, none, none, none, none, none, none, none, none, none, none, none, none, none, none, none, none, none] w) := by
  rw [ref12_Filter_Learn.les2]
  exact ref12_Filter_Learn.leG2 @ref12_Filter_Guess.f @ref12_sign.f N y0 y1 y4 y5 w K
theorem ref12_Filter_Learn.lok2 : LoopOk Try.prog ref12_Filter_Learn.L ref12_Filter_Learn.b0 := by
  refine loop_ok tab_ok ref12_Filter_Learn.C_ok (D := ref12_Filter_Learn.D) (ref12_Filter_Learn.hn2) (ref12_Filter_Learn.hx2) (by kernel_rfl) (by rw [ref12_Filter_Learn.b0_loops]; exact lnil) ?_ ?_ ?_ ?_
  · intro f w K h
    unfold ref12_Filter_Learn.hn2 at h
    obtain ⟨hlen, h⟩ := gN_ok h
    obtain ⟨y0, h0, h⟩ := gP_ok h
    obtain ⟨y1, h1, h⟩ := gI_ok h
    obtain ⟨y4, h4, h⟩ := gI_ok h
    obtain ⟨y5, h5, h⟩ := gI_ok h
    exact h
  · intro N f w K h
    unfold ref12_Filter_Learn.hn2 at h
    obtain ⟨hlen, h⟩ := gN_ok h
    obtain ⟨y0, h0, h⟩ := gP_ok h
    obtain ⟨y1, h1, h⟩ := gI_ok h
    obtain ⟨y4, h4, h⟩ := gI_ok h
    obtain ⟨y5, h5, h⟩ := gI_ok h
    refine ⟨[some (Value.pointer y0), some (Value.int .i32 y1), none, none, some (Value.int .i32 y4), some (Value.int .i64 y5), none, none, none, none, none, none, none, none, none, none, none, none, none, none, none, none, none, none, none, none, none, none, none, none, none, none, none, none, none, none, none, none, none, none, none, none, none, none, none, none, none, none, none, none, none, none, none, none, none, none, none, none], hlen, ⟨h0, h1, h4, h5, trivial⟩, ?_⟩
    rw [ref12_Filter_Learn.le2]
    exact h
  · intro e f w K h
    cases e with
    | normal => exact h.elim
    | exit i =>
      unfold ref12_Filter_Learn.hx2 at h
      simp only at h
      split at h
      · rename_i hb
        obtain rfl := Nat.eq_of_beq_eq_true hb
        obtain ⟨hlen, h⟩ := gN_ok h
        obtain ⟨o0, h0, h⟩ := gP_ok h
        obtain ⟨o1, h1, h⟩ := gI_ok h
        exact ⟨[some (Value.pointer o0), some (Value.int .i32 o1), none, none, none, none, none, none, none, none, none, none, none, none, none, none, none, none, none, none, none, none, none, none, none, none, none, none, none, none, none, none, none, none, none, none, none, none, none, none, none, none, none, none, none, none, none, none, none, none, none, none, none, none, none, none, none, none], hlen, ⟨h0, h1, trivial⟩, h⟩
      · exact (show False from h).elim
    | ret =>
      exact (show False from h).elim
  · intro f w K h
    have e : lid ref12_Filter_Learn.b0 = 2 := by kernel_rfl
    rw [e] at h
    exact h
theorem ref12_Filter_Learn.leG6 (F37 : type_of% @ref12_Filter_Guess.f) (F55 : type_of% @ref12_sign.f) (N : Nat) (y0 : Option Addr) (y1 : Int) (y6 : Int) (w : World) (K : AExit → Fr → World → Prop) : awp (ref12_Filter_Learn.CG F37 F55) ref12_Filter_Learn.L ref12_Filter_Learn.D tab ref12_Filter_Learn.b1 (lpost ref12_Filter_Learn.hn6 ref12_Filter_Learn.hx6 N K) [some (Value.pointer y0), some (Value.int .i32 y1), none, none, none, none, some (Value.int .i64 y6), none, none, none, none, none, none, none, none, none, none, none, none, none, none, none, none, none, none, none, none, none, none, none, none, none, none, none, none, none, none, none, none, none, none, none, none, none, none, none, none, none, none, none, none, none, none, none, none, none, none, none] w = ref12_Filter_Learn.l6G F37 F55 (ref12_Filter_Learn.l6 N) y0 y1 y6 w (fun o0 o1 w => K (.exit 2) [some (Value.pointer o0), some (Value.int .i32 o1), none, none, none, none, none, none, none, none, none, none, none, none, none, none, none, none, none, none, none, none, none, none, none, none, none, none, none, none, none, none, none, none, none, none, none, none, none, none, none, none, none, none, none, none, none, none, none, none, none, none, none, none, none, none, none, none] w) := by kernel_rfl
theorem ref12_Filter_Learn.les6 (N : Nat) : ref12_Filter_Learn.l6 (N + 1) = ref12_Filter_Learn.l6G @ref12_Filter_Guess.f @ref12_sign.f (ref12_Filter_Learn.l6 N) := by kernel_rfl
theorem ref12_Filter_Learn.le6 (N : Nat) (y0 : Option Addr) (y1 : Int) (y6 : Int) (w : World) (K : AExit → Fr → World → Prop) : awp ref12_Filter_Learn.C ref12_Filter_Learn.L ref12_Filter_Learn.D tab ref12_Filter_Learn.b1 (lpost ref12_Filter_Learn.hn6 ref12_Filter_Learn.hx6 N K) [some (Value.pointer y0), some (Value.int .i32 y1), none, none, none, none, some (Value.int .i64 y6), none, none, none, none, none, none, none, none, none, none, none, none, none, none, none, none, none, none, none, none, none, none, none, none, none, none, none, none, none, none, none, none, none, none, none, none, none, none, none, none, none, none, none, none, none, none, none, none, none, none, none] w = ref12_Filter_Learn.l6 (N + 1) y0 y1 y6 w (fun o0 o1 w => K (.exit 2) [some (Value.pointer o0), some (Value.int .i32 o1), none, none, none, none, none, none, none, none, none, none, none, none, none, none, none, none, none, none, none, none, none, none, none, none, none, none, none, none, none, none, none, none, none, none, none, none, none, none, none, none, none, none, none, none, none, none, none, none, none, none, none, none, none, none, none, none] w) := by
  rw [ref12_Filter_Learn.les6]
  exact ref12_Filter_Learn.leG6 @ref12_Filter_Guess.f @ref12_sign.f N y0 y1 y6 w K
theorem ref12_Filter_Learn.lok6 : LoopOk Try.prog ref12_Filter_Learn.L ref12_Filter_Learn.b1 := by
  refine loop_ok tab_ok ref12_Filter_Learn.C_ok (D := ref12_Filter_Learn.D) (ref12_Filter_Learn.hn6) (ref12_Filter_Learn.hx6) (by kernel_rfl) (by rw [ref12_Filter_Learn.b1_loops]; exact lnil) ?_ ?_ ?_ ?_
  · intro f w K h
    unfold ref12_Filter_Learn.hn6 at h
    obtain ⟨hlen, h⟩ := gN_ok h
    obtain ⟨y0, h0, h⟩ := gP_ok h
    obtain ⟨y1, h1, h⟩ := gI_ok h
    obtain ⟨y6, h6, h⟩ := gI_ok h
    exact h
  · intro N f w K h
    unfold ref12_Filter_Learn.hn6 at h
    obtain ⟨hlen, h⟩ := gN_ok h
    obtain ⟨y0, h0, h⟩ := gP_ok h
    obtain ⟨y1, h1, h⟩ := gI_ok h
    obtain ⟨y6, h6, h⟩ := gI_ok h
    refine ⟨[some (Value.pointer y0), some (Value.int .i32 y1), none, none, none, none, some (Value.int .i64 y6), none, none, none, none, none, none, none, none, none, none, none, none, none, none, none, none, none, none, none, none, none, none, none, none, none, none, none, none, none, none, none, none, none, none, none, none, none, none, none, none, none, none, none, none, none, none, none, none, none, none, none], hlen, ⟨h0, h1, h6, trivial⟩, ?_⟩
    rw [ref12_Filter_Learn.le6]
    exact h
  · intro e f w K h
    cases e with
    | normal => exact h.elim
    | exit i =>
      unfold ref12_Filter_Learn.hx6 at h
      simp only at h
      split at h
      · rename_i hb
        obtain rfl := Nat.eq_of_beq_eq_true hb
        obtain ⟨hlen, h⟩ := gN_ok h
        obtain ⟨o0, h0, h⟩ := gP_ok h
        obtain ⟨o1, h1, h⟩ := gI_ok h
        exact ⟨[some (Value.pointer o0), some (Value.int .i32 o1), none, none, none, none, none, none, none, none, none, none, none, none, none, none, none, none, none, none, none, none, none, none, none, none, none, none, none, none, none, none, none, none, none, none, none, none, none, none, none, none, none, none, none, none, none, none, none, none, none, none, none, none, none, none, none, none], hlen, ⟨h0, h1, trivial⟩, h⟩
      · exact (show False from h).elim
    | ret =>
      exact (show False from h).elim
  · intro f w K h
    have e : lid ref12_Filter_Learn.b1 = 6 := by kernel_rfl
    rw [e] at h
    exact h
theorem ref12_Filter_Learn.eqG (F37 : type_of% @ref12_Filter_Guess.f) (F55 : type_of% @ref12_sign.f) (a0 : Option Addr) (a1 : Int) (w : World) (K : Value → World → Prop) : afn (ref12_Filter_Learn.CG F37 F55) ref12_Filter_Learn.L ref12_Filter_Learn.D tab Try.f39 [(Value.pointer a0), (Value.int .i32 a1)] w K = ref12_Filter_Learn.G F37 F55 a0 a1 w (fun w => K (Value.tuple #[]) w) := by kernel_rfl
theorem ref12_Filter_Learn.eq (a0 : Option Addr) (a1 : Int) (w : World) (K : Value → World → Prop) : afn ref12_Filter_Learn.C ref12_Filter_Learn.L ref12_Filter_Learn.D tab Try.f39 [(Value.pointer a0), (Value.int .i32 a1)] w K = ref12_Filter_Learn.f a0 a1 w (fun w => K (Value.tuple #[]) w) := ref12_Filter_Learn.eqG @ref12_Filter_Guess.f @ref12_sign.f a0 a1 w K
theorem ref12_Filter_Learn.ok : FSound Try.prog 39 ref12_Filter_Learn.h := by
  intro args w K h
  unfold ref12_Filter_Learn.h ref12_Filter_Learn.H at h
  split at h
  ·
    replace h := vP_ok h
    obtain ⟨a0, rfl, h⟩ := h
    replace h := vI_ok h
    obtain ⟨a1, rfl, h⟩ := h
    refine ⟨by kernel_rfl, fn_ok tab_ok ref12_Filter_Learn.C_ok (L := ref12_Filter_Learn.L) (D := ref12_Filter_Learn.D) Try.func39 ref12_Filter_Learn.hb (by kernel_rfl) (by rw [ref12_Filter_Learn.c_loops]; exact lcons ref12_Filter_Learn.lok2 (lcons ref12_Filter_Learn.lok6 (lnil))) (Nat.le_of_ble_eq_true (by kernel_rfl)) ?_⟩
    rw [ref12_Filter_Learn.eq]
    exact h
  · exact h.elim
/-! ### valise/valisehelp.Own[int32]: function 40 -/
def help_Own_int32.l5 : Nat → Int → Option Addr → Nat → Nat → Option Addr → Nat → Nat → Int → World → (Option Addr → Nat → Nat → World → Prop) → Prop
  | 0, _, _, _, _, _, _, _, _, _, _ => False
  | N + 1, y1, y5, y5n, y5c, y6, y6n, y6c, y7, w, K0 =>
    bif (decide (y7 < ((y6n : Nat) : Int))) then
      sm y6 fun p_15 =>
      if 0 ≤ (y7 : Int) ∧ (y7 : Int) < ((y6n : Nat) : Int) then
      stC (p_15.add (Int.toNat y7)) (Value.int .i32 y1) w fun w =>
      let v7_16 := (IntKind.wrap .i64 (y7 + 1))
      help_Own_int32.l5 N y1 y5 y5n y5c y6 y6n y6c v7_16 w K0
      else False
    else
      K0 y5 y5n y5c w

def help_Own_int32.f (a0 : Option Addr) (a0n : Nat) (a0c : Nat) (a1 : Int) (w : World) (K : Option Addr → Nat → Nat → World → Prop) : Prop :=
  mkL 21 1 4 [(Value.int .i32 0)] 0 (IntKind.wrap .i64 (((a0n : Nat) : Int) + 3)) w fun a11_3 a11_3n a11_3c w =>
  appL 21 1 4 [(Value.int .i32 0)] a11_3 a11_3n a11_3c a0 a0n a0c w fun a14_5 a14_5n a14_5c w =>
  bnd a14_5n a14_5c none (some (Value.int .i64 (IntKind.wrap .i64 (((a0n : Nat) : Int) + 3)))) fun l_7 h_8 =>
  let v7_11 := ((a0n : Nat) : Int)
  ∃ N_17 : Nat, help_Own_int32.l5 N_17 a1 a14_5 a14_5n a14_5c (adrS a14_5 l_7 a14_5c 1) (h_8 - l_7) (a14_5c - l_7) v7_11 w
  (fun o5_18 o5_18n o5_18c w =>
    K o5_18 o5_18n o5_18c w)
def help_Own_int32.H (F : type_of% @help_Own_int32.f) : Hf := fun args w K => match args with
  | [v0, v1] => vL v0 fun a0 a0n a0c => vI .i32 v1 fun a1 => F a0 a0n a0c a1 w (fun r0 r0n r0c w => K (Value.slice r0 r0n r0c) w)
  | _ => False
def help_Own_int32.h : Hf := help_Own_int32.H @help_Own_int32.f
def help_Own_int32.C : Hd := hnil
theorem help_Own_int32.C_ok : CSound Try.prog help_Own_int32.C := hnil_ok
def help_Own_int32.D : Nat → Plan := fun i => .done
noncomputable def help_Own_int32.c : Code := Try.f40.body.getD .skip
theorem help_Own_int32.hb : Try.f40.body = some help_Own_int32.c := by kernel_rfl
noncomputable def help_Own_int32.b0 : Code := (loopsOf help_Own_int32.c).getD 0 .skip
theorem help_Own_int32.b0_loops : loopsOf help_Own_int32.b0 = [] := by kernel_rfl
theorem help_Own_int32.c_loops : loopsOf help_Own_int32.c = [help_Own_int32.b0] := by kernel_rfl
def help_Own_int32.hn5 (N : Nat) (f : Fr) (w : World) (K : AExit → Fr → World → Prop) : Prop :=
  gN f 33 <| gI .i32 f 1 fun y1 => gL f 5 fun y5 y5n y5c => gL f 6 fun y6 y6n y6c => gI .i64 f 7 fun y7 => help_Own_int32.l5 N y1 y5 y5n y5c y6 y6n y6c y7 w (fun o5 o5n o5c w => K (.exit 0) [none, none, none, none, none, some (Value.slice o5 o5n o5c), none, none, none, none, none, none, none, none, none, none, none, none, none, none, none, none, none, none, none, none, none, none, none, none, none, none, none] w)
def help_Own_int32.hx5 : AExit → Fr → World → (AExit → Fr → World → Prop) → Prop := fun e f w K => match e with
  | .normal => False
  | .exit i => (match Nat.beq i 0 with | true => gN f 33 <| gL f 5 fun o5 o5n o5c => K (.exit 0) [none, none, none, none, none, some (Value.slice o5 o5n o5c), none, none, none, none, none, none, none, none, none, none, none, none, none, none, none, none, none, none, none, none, none, none, none, none, none, none, none] w | false => False)
  | .ret => False
def help_Own_int32.L : LHd := fun l f w K => (match Nat.beq l 5 with | true => ∃ N, help_Own_int32.hn5 N f w K | false => False)
theorem help_Own_int32.le5 (N : Nat) (y1 : Int) (y5 : Option Addr) (y5n : Nat) (y5c : Nat) (y6 : Option Addr) (y6n : Nat) (y6c : Nat) (y7 : Int) (w : World) (K : AExit → Fr → World → Prop) : awp help_Own_int32.C help_Own_int32.L help_Own_int32.D tab help_Own_int32.b0 (lpost help_Own_int32.hn5 help_Own_int32.hx5 N K) [none, some (Value.int .i32 y1), none, none, none, some (Value.slice y5 y5n y5c), some (Value.slice y6 y6n y6c), some (Value.int .i64 y7), none, none, none, none, none, none, none, none, none, none, none, none, none, none, none, none, none, none, none, none, none, none, none, none, none] w = help_Own_int32.l5 (N + 1) y1 y5 y5n y5c y6 y6n y6c y7 w (fun o5 o5n o5c w => K (.exit 0) [none, none, none, none, none, some (Value.slice o5 o5n o5c), none, none, none, none, none, none, none, none, none, none, none, none, none, none, none, none, none, none, none, none, none, none, none, none, none, none, none] w) := by kernel_rfl
theorem help_Own_int32.lok5 : LoopOk Try.prog help_Own_int32.L help_Own_int32.b0 := by
  refine loop_ok tab_ok help_Own_int32.C_ok (D := help_Own_int32.D) (help_Own_int32.hn5) (help_Own_int32.hx5) (by kernel_rfl) (by rw [help_Own_int32.b0_loops]; exact lnil) ?_ ?_ ?_ ?_
  · intro f w K h
    unfold help_Own_int32.hn5 at h
    obtain ⟨hlen, h⟩ := gN_ok h
    obtain ⟨y1, h1, h⟩ := gI_ok h
    obtain ⟨y5, y5n, y5c, h5, h⟩ := gL_ok h
    obtain ⟨y6, y6n, y6c, h6, h⟩ := gL_ok h
    obtain ⟨y7, h7, h⟩ := gI_ok h
    exact h
  · intro N f w K h
    unfold help_Own_int32.hn5 at h
    obtain ⟨hlen, h⟩ := gN_ok h
    obtain ⟨y1, h1, h⟩ := gI_ok h
    obtain ⟨y5, y5n, y5c, h5, h⟩ := gL_ok h
    obtain ⟨y6, y6n, y6c, h6, h⟩ := gL_ok h
    obtain ⟨y7, h7, h⟩ := gI_ok h
    refine ⟨[none, some (Value.int .i32 y1), none, none, none, some (Value.slice y5 y5n y5c), some (Value.slice y6 y6n y6c), some (Value.int .i64 y7), none, none, none, none, none, none, none, none, none, none, none, none, none, none, none, none, none, none, none, none, none, none, none, none, none], hlen, ⟨h1, h5, h6, h7, trivial⟩, ?_⟩
    rw [help_Own_int32.le5]
    exact h
  · intro e f w K h
    cases e with
    | normal => exact h.elim
    | exit i =>
      unfold help_Own_int32.hx5 at h
      simp only at h
      split at h
      · rename_i hb
        obtain rfl := Nat.eq_of_beq_eq_true hb
        obtain ⟨hlen, h⟩ := gN_ok h
        obtain ⟨o5, o5n, o5c, h5, h⟩ := gL_ok h
        exact ⟨[none, none, none, none, none, some (Value.slice o5 o5n o5c), none, none, none, none, none, none, none, none, none, none, none, none, none, none, none, none, none, none, none, none, none, none, none, none, none, none, none], hlen, ⟨h5, trivial⟩, h⟩
      · exact (show False from h).elim
    | ret =>
      exact (show False from h).elim
  · intro f w K h
    have e : lid help_Own_int32.b0 = 5 := by kernel_rfl
    rw [e] at h
    exact h
theorem help_Own_int32.eq (a0 : Option Addr) (a0n : Nat) (a0c : Nat) (a1 : Int) (w : World) (K : Value → World → Prop) : afn help_Own_int32.C help_Own_int32.L help_Own_int32.D tab Try.f40 [(Value.slice a0 a0n a0c), (Value.int .i32 a1)] w K = help_Own_int32.f a0 a0n a0c a1 w (fun r0 r0n r0c w => K (Value.slice r0 r0n r0c) w) := by kernel_rfl
theorem help_Own_int32.ok : FSound Try.prog 40 help_Own_int32.h := by
  intro args w K h
  unfold help_Own_int32.h help_Own_int32.H at h
  split at h
  ·
    replace h := vL_ok h
    obtain ⟨a0, a0n, a0c, rfl, h⟩ := h
    replace h := vI_ok h
    obtain ⟨a1, rfl, h⟩ := h
    refine ⟨by kernel_rfl, fn_ok tab_ok help_Own_int32.C_ok (L := help_Own_int32.L) (D := help_Own_int32.D) Try.func40 help_Own_int32.hb (by kernel_rfl) (by rw [help_Own_int32.c_loops]; exact lcons help_Own_int32.lok5 (lnil)) (Nat.le_of_ble_eq_true (by kernel_rfl)) ?_⟩
    rw [help_Own_int32.eq]
    exact h
  · exact h.elim
/-! ### valise/valiseref12.Residual: function 43 -/
def ref12_Residual.l4 : Nat → Option Addr → Nat → Nat → Addr → Option Addr → Nat → Nat → Int → World → (Option Addr → Nat → Nat → World → Prop) → Prop
  | 0, _, _, _, _, _, _, _, _, _, _ => False
  | N + 1, y0, y0n, y0c, y3, y4, y4n, y4c, y5, w, K0 =>
    bif (decide (y5 < ((y0n : Nat) : Int))) then
      sm y0 fun p_11 =>
      if 0 ≤ (y5 : Int) ∧ (y5 : Int) < ((y0n : Nat) : Int) then
      ldI .i32 (p_11.add (Int.toNat y5)) w.drew fun x18_12 =>
      ref12_Filter_Guess.f (some y3) w.drew fun r20_13 w =>
      (World.cell? w (p_11.add (Int.toNat y5)) = some (.int .i32 x18_12)) ∧
      (newC 21 [(Value.int .i32 (IntKind.wrap .i32 (x18_12 - r20_13)))] w fun a22_14 w =>
      (World.cell? w (p_11.add (Int.toNat y5)) = some (.int .i32 x18_12)) ∧
      (appL 21 1 4 [(Value.int .i32 0)] y4 y4n y4c (some a22_14) 1 1 w fun a23_15 a23_15n a23_15c w =>
      (World.cell? w (p_11.add (Int.toNat y5)) = some (.int .i32 x18_12)) ∧
      (sm y0 fun p_16 =>
      if 0 ≤ (y5 : Int) ∧ (y5 : Int) < ((y0n : Nat) : Int) then
      ldI .i32 (p_16.add (Int.toNat y5)) w fun x28_17 =>
      ref12_Filter_Learn.f (some y3) x28_17 w fun w =>
      let v5_18 := (IntKind.wrap .i64 (y5 + 1))
      ref12_Residual.l4 N y0 y0n y0c y3 a23_15 a23_15n a23_15c v5_18 w K0
      else False)))
      else False
    else
      K0 y4 y4n y4c w

def ref12_Residual.f (a0 : Option Addr) (a0n : Nat) (a0c : Nat) (w : World) (K : Option Addr → Nat → Nat → World → Prop) : Prop :=
  newC 57 [(Value.int .i32 0), (Value.int .i32 0), (Value.int .i32 0), (Value.int .i32 0), (Value.int .i32 0), (Value.int .i32 0), (Value.int .i32 0), (Value.int .i32 0), (Value.int .i32 0), (Value.int .i32 0), (Value.int .i32 0), (Value.int .i32 0), (Value.int .i32 0), (Value.int .i32 0), (Value.int .i32 0), (Value.int .i32 0)] w fun a7_3 w =>
  ∃ N_19 : Nat, ref12_Residual.l4 N_19 a0 a0n a0c a7_3 none 0 0 0 w
  (fun o4_20 o4_20n o4_20c w =>
    K o4_20 o4_20n o4_20c w)
def ref12_Residual.H (F : type_of% @ref12_Residual.f) : Hf := fun args w K => match args with
  | [v0] => vL v0 fun a0 a0n a0c => F a0 a0n a0c w (fun r0 r0n r0c w => K (Value.slice r0 r0n r0c) w)
  | _ => False
def ref12_Residual.h : Hf := ref12_Residual.H @ref12_Residual.f
def ref12_Residual.C : Hd := hcons 39 ref12_Filter_Learn.h (hcons 37 ref12_Filter_Guess.h (hnil))
theorem ref12_Residual.C_ok : CSound Try.prog ref12_Residual.C := hcons_ok ref12_Filter_Learn.ok (hcons_ok ref12_Filter_Guess.ok (hnil_ok))
def ref12_Residual.D : Nat → Plan := fun i => (match Nat.beq i 6 with | true => .take 0 (.take 1 (.take 2 (.take 3 (.take 4 (.take 5 (.eff 6 (.take 7 (.eff 8 (.eff 9 (.take 10 (.done))))))))))) | false => .done)
noncomputable def ref12_Residual.c : Code := Try.f43.body.getD .skip
theorem ref12_Residual.hb : Try.f43.body = some ref12_Residual.c := by kernel_rfl
noncomputable def ref12_Residual.b0 : Code := (loopsOf ref12_Residual.c).getD 0 .skip
theorem ref12_Residual.b0_loops : loopsOf ref12_Residual.b0 = [] := by kernel_rfl
theorem ref12_Residual.c_loops : loopsOf ref12_Residual.c = [ref12_Residual.b0] := by kernel_rfl
def ref12_Residual.hn4 (N : Nat) (f : Fr) (w : World) (K : AExit → Fr → World → Prop) : Prop :=
  gN f 31 <| gL f 0 fun y0 y0n y0c => gQ f 3 fun y3 => gL f 4 fun y4 y4n y4c => gI .i64 f 5 fun y5 => ref12_Residual.l4 N y0 y0n y0c y3 y4 y4n y4c y5 w (fun o4 o4n o4c w => K (.exit 0) [none, none, none, none, some (Value.slice o4 o4n o4c), none, none, none, none, none, none, none, none, none, none, none, none, none, none, none, none, none, none, none, none, none, none, none, none, none, none] w)
def ref12_Residual.hx4 : AExit → Fr → World → (AExit → Fr → World → Prop) → Prop := fun e f w K => match e with
  | .normal => False
  | .exit i => (match Nat.beq i 0 with | true => gN f 31 <| gL f 4 fun o4 o4n o4c => K (.exit 0) [none, none, none, none, some (Value.slice o4 o4n o4c), none, none, none, none, none, none, none, none, none, none, none, none, none, none, none, none, none, none, none, none, none, none, none, none, none, none] w | false => False)
  | .ret => False
def ref12_Residual.L : LHd := fun l f w K => (match Nat.beq l 4 with | true => ∃ N, ref12_Residual.hn4 N f w K | false => False)
theorem ref12_Residual.le4 (N : Nat) (y0 : Option Addr) (y0n : Nat) (y0c : Nat) (y3 : Addr) (y4 : Option Addr) (y4n : Nat) (y4c : Nat) (y5 : Int) (w : World) (K : AExit → Fr → World → Prop) : awp ref12_Residual.C ref12_Residual.L ref12_Residual.D tab ref12_Residual.b0 (lpost ref12_Residual.hn4 ref12_Residual.hx4 N K) [some (Value.slice y0 y0n y0c), none, none, some (Value.pointer (some y3)), some (Value.slice y4 y4n y4c), some (Value.int .i64 y5), none, none, none, none, none, none, none, none, none, none, none, none, none, none, none, none, none, none, none, none, none, none, none, none, none] w = ref12_Residual.l4 (N + 1) y0 y0n y0c y3 y4 y4n y4c y5 w (fun o4 o4n o4c w => K (.exit 0) [none, none, none, none, some (Value.slice o4 o4n o4c), none, none, none, none, none, none, none, none, none, none, none, none, none, none, none, none, none, none, none, none, none, none, none, none, none, none] w) := by kernel_rfl
theorem ref12_Residual.lok4 : LoopOk Try.prog ref12_Residual.L ref12_Residual.b0 := by
  refine loop_ok tab_ok ref12_Residual.C_ok (D := ref12_Residual.D) (ref12_Residual.hn4) (ref12_Residual.hx4) (by kernel_rfl) (by rw [ref12_Residual.b0_loops]; exact lnil) ?_ ?_ ?_ ?_
  · intro f w K h
    unfold ref12_Residual.hn4 at h
    obtain ⟨hlen, h⟩ := gN_ok h
    obtain ⟨y0, y0n, y0c, h0, h⟩ := gL_ok h
    obtain ⟨y3, h3, h⟩ := gQ_ok h
    obtain ⟨y4, y4n, y4c, h4, h⟩ := gL_ok h
    obtain ⟨y5, h5, h⟩ := gI_ok h
    exact h
  · intro N f w K h
    unfold ref12_Residual.hn4 at h
    obtain ⟨hlen, h⟩ := gN_ok h
    obtain ⟨y0, y0n, y0c, h0, h⟩ := gL_ok h
    obtain ⟨y3, h3, h⟩ := gQ_ok h
    obtain ⟨y4, y4n, y4c, h4, h⟩ := gL_ok h
    obtain ⟨y5, h5, h⟩ := gI_ok h
    refine ⟨[some (Value.slice y0 y0n y0c), none, none, some (Value.pointer (some y3)), some (Value.slice y4 y4n y4c), some (Value.int .i64 y5), none, none, none, none, none, none, none, none, none, none, none, none, none, none, none, none, none, none, none, none, none, none, none, none, none], hlen, ⟨h0, h3, h4, h5, trivial⟩, ?_⟩
    rw [ref12_Residual.le4]
    exact h
  · intro e f w K h
    cases e with
    | normal => exact h.elim
    | exit i =>
      unfold ref12_Residual.hx4 at h
      simp only at h
      split at h
      · rename_i hb
        obtain rfl := Nat.eq_of_beq_eq_true hb
        obtain ⟨hlen, h⟩ := gN_ok h
        obtain ⟨o4, o4n, o4c, h4, h⟩ := gL_ok h
        exact ⟨[none, none, none, none, some (Value.slice o4 o4n o4c), none, none, none, none, none, none, none, none, none, none, none, none, none, none, none, none, none, none, none, none, none, none, none, none, none, none], hlen, ⟨h4, trivial⟩, h⟩
      · exact (show False from h).elim
    | ret =>
      exact (show False from h).elim
  · intro f w K h
    have e : lid ref12_Residual.b0 = 4 := by kernel_rfl
    rw [e] at h
    exact h
theorem ref12_Residual.eq (a0 : Option Addr) (a0n : Nat) (a0c : Nat) (w : World) (K : Value → World → Prop) : afn ref12_Residual.C ref12_Residual.L ref12_Residual.D tab Try.f43 [(Value.slice a0 a0n a0c)] w K = ref12_Residual.f a0 a0n a0c w (fun r0 r0n r0c w => K (Value.slice r0 r0n r0c) w) := by kernel_rfl
theorem ref12_Residual.ok : FSound Try.prog 43 ref12_Residual.h := by
  intro args w K h
  unfold ref12_Residual.h ref12_Residual.H at h
  split at h
  ·
    replace h := vL_ok h
    obtain ⟨a0, a0n, a0c, rfl, h⟩ := h
    refine ⟨by kernel_rfl, fn_ok tab_ok ref12_Residual.C_ok (L := ref12_Residual.L) (D := ref12_Residual.D) Try.func43 ref12_Residual.hb (by kernel_rfl) (by rw [ref12_Residual.c_loops]; exact lcons ref12_Residual.lok4 (lnil)) (Nat.le_of_ble_eq_true (by kernel_rfl)) ?_⟩
    rw [ref12_Residual.eq]
    exact h
  · exact h.elim
/-! ### valise/valisehelp.Plain[int32]$1: function 57 -/
def help_Plain_int32_f1.f (a0 : Int) (a1 : Int) (w : World) (K : Bool → World → Prop) : Prop :=
  K (a0 == a1) w
def help_Plain_int32_f1.H (F : type_of% @help_Plain_int32_f1.f) : Hf := fun args w K => match args with
  | [v0, v1] => vI .i32 v0 fun a0 => vI .i32 v1 fun a1 => F a0 a1 w (fun r0 w => K (Value.bool r0) w)
  | _ => False
def help_Plain_int32_f1.h : Hf := help_Plain_int32_f1.H @help_Plain_int32_f1.f
def help_Plain_int32_f1.C : Hd := hnil
theorem help_Plain_int32_f1.C_ok : CSound Try.prog help_Plain_int32_f1.C := hnil_ok
def help_Plain_int32_f1.D : Nat → Plan := fun i => .done
noncomputable def help_Plain_int32_f1.c : Code := Try.f57.body.getD .skip
theorem help_Plain_int32_f1.hb : Try.f57.body = some help_Plain_int32_f1.c := by kernel_rfl
theorem help_Plain_int32_f1.c_loops : loopsOf help_Plain_int32_f1.c = [] := by kernel_rfl
def help_Plain_int32_f1.L : LHd := fun l f w K => False
theorem help_Plain_int32_f1.eq (a0 : Int) (a1 : Int) (w : World) (K : Value → World → Prop) : afn help_Plain_int32_f1.C help_Plain_int32_f1.L help_Plain_int32_f1.D tab Try.f57 [(Value.int .i32 a0), (Value.int .i32 a1)] w K = help_Plain_int32_f1.f a0 a1 w (fun r0 w => K (Value.bool r0) w) := by kernel_rfl
theorem help_Plain_int32_f1.ok : FSound Try.prog 57 help_Plain_int32_f1.h := by
  intro args w K h
  unfold help_Plain_int32_f1.h help_Plain_int32_f1.H at h
  split at h
  ·
    replace h := vI_ok h
    obtain ⟨a0, rfl, h⟩ := h
    replace h := vI_ok h
    obtain ⟨a1, rfl, h⟩ := h
    refine ⟨by kernel_rfl, fn_ok tab_ok help_Plain_int32_f1.C_ok (L := help_Plain_int32_f1.L) (D := help_Plain_int32_f1.D) Try.func57 help_Plain_int32_f1.hb (by kernel_rfl) (by rw [help_Plain_int32_f1.c_loops]; exact lnil) (Nat.le_of_ble_eq_true (by kernel_rfl)) ?_⟩
    rw [help_Plain_int32_f1.eq]
    exact h
  · exact h.elim
/-! ### valise/valisehelp.Same[int32]: function 56 -/
def help_Same_int32.l4 : Nat → Option Addr → Nat → Nat → Option Addr → Nat → Nat → Int → World → (World → Prop) → (Bool → World → Prop) → Prop
  | 0, _, _, _, _, _, _, _, _, _, _ => False
  | N + 1, y0, y0n, y0c, y1, y1n, y1c, y7, w, K0, Kr =>
    bif (decide (y7 < ((y0n : Nat) : Int))) then
      sm y0 fun p_11 =>
      if 0 ≤ (y7 : Int) ∧ (y7 : Int) < ((y0n : Nat) : Int) then
      ldI .i32 (p_11.add (Int.toNat y7)) w.drew fun x23_12 =>
      sm y1 fun p_13 =>
      if 0 ≤ (y7 : Int) ∧ (y7 : Int) < ((y1n : Nat) : Int) then
      ldI .i32 (p_13.add (Int.toNat y7)) w.drew fun x27_14 =>
      help_Plain_int32_f1.f x23_12 x27_14 w.drew fun r28_15 w =>
      bif (!r28_15) then
        Kr false w
      else
        let v7_17 := (IntKind.wrap .i64 (y7 + 1))
        help_Same_int32.l4 N y0 y0n y0c y1 y1n y1c v7_17 w K0 Kr
      else False
      else False
    else
      K0 w

def help_Same_int32.f (a0 : Option Addr) (a0n : Nat) (a0c : Nat) (a1 : Option Addr) (a1n : Nat) (a1c : Nat) (w : World) (K : Bool → World → Prop) : Prop :=
  bif (((a0n : Nat) : Int) != ((a1n : Nat) : Int)) then
    K false w
  else
    ∃ N_18 : Nat, help_Same_int32.l4 N_18 a0 a0n a0c a1 a1n a1c 0 w
    (fun w =>
      K true w)
    (fun o6_19 w =>
      K o6_19 w)
def help_Same_int32.H (F : type_of% @help_Same_int32.f) : Hf := fun args w K => match args with
  | [v0, v1, v2] => vL v0 fun a0 a0n a0c => vL v1 fun a1 a1n a1c => vF 57 v2 <| F a0 a0n a0c a1 a1n a1c w (fun r0 w => K (Value.bool r0) w)
  | _ => False
def help_Same_int32.h : Hf := help_Same_int32.H @help_Same_int32.f
def help_Same_int32.C : Hd := hcons 57 help_Plain_int32_f1.h (hnil)
theorem help_Same_int32.C_ok : CSound Try.prog help_Same_int32.C := hcons_ok help_Plain_int32_f1.ok (hnil_ok)
def help_Same_int32.D : Nat → Plan := fun i => (match Nat.beq i 6 with | true => .take 0 (.take 1 (.take 2 (.take 3 (.take 4 (.take 5 (.take 6 (.take 7 (.take 8 (.eff 9 (.take 10 (.done))))))))))) | false => .done)
noncomputable def help_Same_int32.c : Code := Try.f56.body.getD .skip
theorem help_Same_int32.hb : Try.f56.body = some help_Same_int32.c := by kernel_rfl
noncomputable def help_Same_int32.b0 : Code := (loopsOf help_Same_int32.c).getD 0 .skip
theorem help_Same_int32.b0_loops : loopsOf help_Same_int32.b0 = [] := by kernel_rfl
theorem help_Same_int32.c_loops : loopsOf help_Same_int32.c = [help_Same_int32.b0] := by kernel_rfl
def help_Same_int32.hn4 (N : Nat) (f : Fr) (w : World) (K : AExit → Fr → World → Prop) : Prop :=
  gN f 30 <| gL f 0 fun y0 y0n y0c => gL f 1 fun y1 y1n y1c => gF 57 f 2 <| gI .i64 f 7 fun y7 => help_Same_int32.l4 N y0 y0n y0c y1 y1n y1c y7 w (fun w => K (.exit 0) [none, none, none, none, none, none, none, none, none, none, none, none, none, none, none, none, none, none, none, none, none, none, none, none, none, none, none, none, none, none] w) (fun o6 w => K .ret [none, none, none, none, none, none, some (Value.bool o6), none, none, none, none, none, none, none, none, none, none, none, none, none, none, none, none, none, none, none, none, none, none, none] w)
def help_Same_int32.hx4 : AExit → Fr → World → (AExit → Fr → World → Prop) → Prop := fun e f w K => match e with
  | .normal => False
  | .exit i => (match Nat.beq i 0 with | true => gN f 30 <|  K (.exit 0) [none, none, none, none, none, none, none, none, none, none, none, none, none, none, none, none, none, none, none, none, none, none, none, none, none, none, none, none, none, none] w | false => False)
  | .ret => gN f 30 <| gB f 6 fun o6 => K .ret [none, none, none, none, none, none, some (Value.bool o6), none, none, none, none, none, none, none, none, none, none, none, none, none, none, none, none, none, none, none, none, none, none, none] w
def help_Same_int32.L : LHd := fun l f w K => (match Nat.beq l 4 with | true => ∃ N, help_Same_int32.hn4 N f w K | false => False)
theorem help_Same_int32.le4 (N : Nat) (y0 : Option Addr) (y0n : Nat) (y0c : Nat) (y1 : Option Addr) (y1n : Nat) (y1c : Nat) (y7 : Int) (w : World) (K : AExit → Fr → World → Prop) : awp help_Same_int32.C help_Same_int32.L help_Same_int32.D tab help_Same_int32.b0 (lpost help_Same_int32.hn4 help_Same_int32.hx4 N K) [some (Value.slice y0 y0n y0c), some (Value.slice y1 y1n y1c), some (Value.func (.func 57) #[] #[]), none, none, none, none, some (Value.int .i64 y7), none, none, none, none, none, none, none, none, none, none, none, none, none, none, none, none, none, none, none, none, none, none] w = help_Same_int32.l4 (N + 1) y0 y0n y0c y1 y1n y1c y7 w (fun w => K (.exit 0) [none, none, none, none, none, none, none, none, none, none, none, none, none, none, none, none, none, none, none, none, none, none, none, none, none, none, none, none, none, none] w) (fun o6 w => K .ret [none, none, none, none, none, none, some (Value.bool o6), none, none, none, none, none, none, none, none, none, none, none, none, none, none, none, none, none, none, none, none, none, none, none] w) := by kernel_rfl
theorem help_Same_int32.lok4 : LoopOk Try.prog help_Same_int32.L help_Same_int32.b0 := by
  refine loop_ok tab_ok help_Same_int32.C_ok (D := help_Same_int32.D) (help_Same_int32.hn4) (help_Same_int32.hx4) (by kernel_rfl) (by rw [help_Same_int32.b0_loops]; exact lnil) ?_ ?_ ?_ ?_
  · intro f w K h
    unfold help_Same_int32.hn4 at h
    obtain ⟨hlen, h⟩ := gN_ok h
    obtain ⟨y0, y0n, y0c, h0, h⟩ := gL_ok h
    obtain ⟨y1, y1n, y1c, h1, h⟩ := gL_ok h
    obtain ⟨h2, h⟩ := gF_ok h
    obtain ⟨y7, h7, h⟩ := gI_ok h
    exact h
  · intro N f w K h
    unfold help_Same_int32.hn4 at h
    obtain ⟨hlen, h⟩ := gN_ok h
    obtain ⟨y0, y0n, y0c, h0, h⟩ := gL_ok h
    obtain ⟨y1, y1n, y1c, h1, h⟩ := gL_ok h
    obtain ⟨h2, h⟩ := gF_ok h
    obtain ⟨y7, h7, h⟩ := gI_ok h
    refine ⟨[some (Value.slice y0 y0n y0c), some (Value.slice y1 y1n y1c), some (Value.func (.func 57) #[] #[]), none, none, none, none, some (Value.int .i64 y7), none, none, none, none, none, none, none, none, none, none, none, none, none, none, none, none, none, none, none, none, none, none], hlen, ⟨h0, h1, h2, h7, trivial⟩, ?_⟩
    rw [help_Same_int32.le4]
    exact h
  · intro e f w K h
    cases e with
    | normal => exact h.elim
    | exit i =>
      unfold help_Same_int32.hx4 at h
      simp only at h
      split at h
      · rename_i hb
        obtain rfl := Nat.eq_of_beq_eq_true hb
        obtain ⟨hlen, h⟩ := gN_ok h
        exact ⟨[none, none, none, none, none, none, none, none, none, none, none, none, none, none, none, none, none, none, none, none, none, none, none, none, none, none, none, none, none, none], hlen, trivial, h⟩
      · exact (show False from h).elim
    | ret =>
      unfold help_Same_int32.hx4 at h
      simp only at h
      obtain ⟨hlen, h⟩ := gN_ok h
      obtain ⟨o6, h6, h⟩ := gB_ok h
      exact ⟨[none, none, none, none, none, none, some (Value.bool o6), none, none, none, none, none, none, none, none, none, none, none, none, none, none, none, none, none, none, none, none, none, none, none], hlen, ⟨h6, trivial⟩, h⟩
  · intro f w K h
    have e : lid help_Same_int32.b0 = 4 := by kernel_rfl
    rw [e] at h
    exact h
theorem help_Same_int32.eq (a0 : Option Addr) (a0n : Nat) (a0c : Nat) (a1 : Option Addr) (a1n : Nat) (a1c : Nat) (w : World) (K : Value → World → Prop) : afn help_Same_int32.C help_Same_int32.L help_Same_int32.D tab Try.f56 [(Value.slice a0 a0n a0c), (Value.slice a1 a1n a1c), (Value.func (.func 57) #[] #[])] w K = help_Same_int32.f a0 a0n a0c a1 a1n a1c w (fun r0 w => K (Value.bool r0) w) := by kernel_rfl
theorem help_Same_int32.ok : FSound Try.prog 56 help_Same_int32.h := by
  intro args w K h
  unfold help_Same_int32.h help_Same_int32.H at h
  split at h
  ·
    replace h := vL_ok h
    obtain ⟨a0, a0n, a0c, rfl, h⟩ := h
    replace h := vL_ok h
    obtain ⟨a1, a1n, a1c, rfl, h⟩ := h
    replace h := vF_ok h
    obtain ⟨rfl, h⟩ := h
    refine ⟨by kernel_rfl, fn_ok tab_ok help_Same_int32.C_ok (L := help_Same_int32.L) (D := help_Same_int32.D) Try.func56 help_Same_int32.hb (by kernel_rfl) (by rw [help_Same_int32.c_loops]; exact lcons help_Same_int32.lok4 (lnil)) (Nat.le_of_ble_eq_true (by kernel_rfl)) ?_⟩
    rw [help_Same_int32.eq]
    exact h
  · exact h.elim
/-! ### valise/valisehelp.Plain[int32]: function 41 -/
def help_Plain_int32.f (a0 : Option Addr) (a0n : Nat) (a0c : Nat) (a1 : Option Addr) (a1n : Nat) (a1c : Nat) (w : World) (K : Bool → World → Prop) : Prop :=
  help_Same_int32.f a0 a0n a0c a1 a1n a1c w fun r7_3 w =>
  K r7_3 w
def help_Plain_int32.H (F : type_of% @help_Plain_int32.f) : Hf := fun args w K => match args with
  | [v0, v1] => vL v0 fun a0 a0n a0c => vL v1 fun a1 a1n a1c => F a0 a0n a0c a1 a1n a1c w (fun r0 w => K (Value.bool r0) w)
  | _ => False
def help_Plain_int32.h : Hf := help_Plain_int32.H @help_Plain_int32.f
def help_Plain_int32.C : Hd := hcons 56 help_Same_int32.h (hnil)
theorem help_Plain_int32.C_ok : CSound Try.prog help_Plain_int32.C := hcons_ok help_Same_int32.ok (hnil_ok)
def help_Plain_int32.D : Nat → Plan := fun i => .done
noncomputable def help_Plain_int32.c : Code := Try.f41.body.getD .skip
theorem help_Plain_int32.hb : Try.f41.body = some help_Plain_int32.c := by kernel_rfl
theorem help_Plain_int32.c_loops : loopsOf help_Plain_int32.c = [] := by kernel_rfl
def help_Plain_int32.L : LHd := fun l f w K => False
theorem help_Plain_int32.eq (a0 : Option Addr) (a0n : Nat) (a0c : Nat) (a1 : Option Addr) (a1n : Nat) (a1c : Nat) (w : World) (K : Value → World → Prop) : afn help_Plain_int32.C help_Plain_int32.L help_Plain_int32.D tab Try.f41 [(Value.slice a0 a0n a0c), (Value.slice a1 a1n a1c)] w K = help_Plain_int32.f a0 a0n a0c a1 a1n a1c w (fun r0 w => K (Value.bool r0) w) := by kernel_rfl
theorem help_Plain_int32.ok : FSound Try.prog 41 help_Plain_int32.h := by
  intro args w K h
  unfold help_Plain_int32.h help_Plain_int32.H at h
  split at h
  ·
    replace h := vL_ok h
    obtain ⟨a0, a0n, a0c, rfl, h⟩ := h
    replace h := vL_ok h
    obtain ⟨a1, a1n, a1c, rfl, h⟩ := h
    refine ⟨by kernel_rfl, fn_ok tab_ok help_Plain_int32.C_ok (L := help_Plain_int32.L) (D := help_Plain_int32.D) Try.func41 help_Plain_int32.hb (by kernel_rfl) (by rw [help_Plain_int32.c_loops]; exact lnil) (Nat.le_of_ble_eq_true (by kernel_rfl)) ?_⟩
    rw [help_Plain_int32.eq]
    exact h
  · exact h.elim
/-! ### valise/lms.Restore: function 44 -/
def lms_Restore.l4 : Nat → Option Addr → Option Addr → Nat → Nat → Option Addr → Nat → Nat → Int → Int → World → (Option Addr → Nat → Nat → World → Prop) → Prop
  | 0, _, _, _, _, _, _, _, _, _, _, _ => False
  | N + 1, y3, y4, y4n, y4c, y11, y11n, y11c, y12, y13, w, K0 =>
    bif (decide (y13 < y12)) then
      sm y11 fun p_12 =>
      if 0 ≤ (y13 : Int) ∧ (y13 : Int) < ((y11n : Nat) : Int) then
      ldI .i32 (p_12.add (Int.toNat y13)) w fun x17_13 =>
      lms_Filter_Guess.f y3 w fun r22_15 w =>
      sm y4 fun p_16 =>
      if 0 ≤ (y13 : Int) ∧ (y13 : Int) < ((y4n : Nat) : Int) then
      stC (p_16.add (Int.toNat y13)) (Value.int .i32 (IntKind.wrap .i32 (x17_13 + r22_15))) w fun w =>
      sm y4 fun p_17 =>
      if 0 ≤ (y13 : Int) ∧ (y13 : Int) < ((y4n : Nat) : Int) then
      ldI .i32 (p_17.add (Int.toNat y13)) w fun x29_18 =>
      lms_Filter_Learn.f y3 x29_18 w fun w =>
      lms_Restore.l4 N y3 y4 y4n y4c y11 y11n y11c y12 (IntKind.wrap .i64 (y13 + 1)) w K0
      else False
      else False
      else False
    else
      K0 y4 y4n y4c w

def lms_Restore.f (a0 : Option Addr) (a0n : Nat) (a0c : Nat) (w : World) (K : Option Addr → Nat → Nat → World → Prop) : Prop :=
  lms_New.f  w fun r7_3 w =>
  mkL 21 1 4 [(Value.int .i32 0)] ((a0n : Nat) : Int) ((a0n : Nat) : Int) w fun a10_5 a10_5n a10_5c w =>
  ∃ N_19 : Nat, lms_Restore.l4 N_19 r7_3 a10_5 a10_5n a10_5c a0 a0n a0c ((a0n : Nat) : Int) 0 w
  (fun o4_20 o4_20n o4_20c w =>
    K o4_20 o4_20n o4_20c w)
def lms_Restore.H (F : type_of% @lms_Restore.f) : Hf := fun args w K => match args with
  | [v0] => vL v0 fun a0 a0n a0c => F a0 a0n a0c w (fun r0 r0n r0c w => K (Value.slice r0 r0n r0c) w)
  | _ => False
def lms_Restore.h : Hf := lms_Restore.H @lms_Restore.f
def lms_Restore.CG (F34 : type_of% @lms_New.f) (F36 : type_of% @lms_Filter_Guess.f) (F38 : type_of% @lms_Filter_Learn.f) : Hd := hcons 38 (lms_Filter_Learn.H F38) (hcons 36 (lms_Filter_Guess.H F36) (hcons 34 (lms_New.H F34) (hnil)))
def lms_Restore.C : Hd := lms_Restore.CG @lms_New.f @lms_Filter_Guess.f @lms_Filter_Learn.f
def lms_Restore.G (F34 : type_of% @lms_New.f) (F36 : type_of% @lms_Filter_Guess.f) (F38 : type_of% @lms_Filter_Learn.f) (a0 : Option Addr) (a0n : Nat) (a0c : Nat) (w : World) (K : Option Addr → Nat → Nat → World → Prop) : Prop :=
  F34  w fun r7_3 w =>
  mkL 21 1 4 [(Value.int .i32 0)] ((a0n : Nat) : Int) ((a0n : Nat) : Int) w fun a10_5 a10_5n a10_5c w =>
  ∃ N_19 : Nat, lms_Restore.l4 N_19 r7_3 a10_5 a10_5n a10_5c a0 a0n a0c ((a0n : Nat) : Int) 0 w
  (fun o4_20 o4_20n o4_20c w =>
    K o4_20 o4_20n o4_20c w)
theorem lms_Restore.C_ok : CSound Try.prog lms_Restore.C := hcons_ok lms_Filter_Learn.ok (hcons_ok lms_Filter_Guess.ok (hcons_ok lms_New.ok (hnil_ok)))
def lms_Restore.D : Nat → Plan := fun i => .done
noncomputable def lms_Restore.c : Code := Try.f44.body.getD .skip
theorem lms_Restore.hb : Try.f44.body = some lms_Restore.c := by kernel_rfl
noncomputable def lms_Restore.b0 : Code := (loopsOf lms_Restore.c).getD 0 .skip
theorem lms_Restore.b0_loops : loopsOf lms_Restore.b0 = [] := by kernel_rfl
theorem lms_Restore.c_loops : loopsOf lms_Restore.c = [lms_Restore.b0] := by kernel_rfl
def lms_Restore.l4G (F34 : type_of% @lms_New.f) (F36 : type_of% @lms_Filter_Guess.f) (F38 : type_of% @lms_Filter_Learn.f) (R : Option Addr → Option Addr → Nat → Nat → Option Addr → Nat → Nat → Int → Int → World → (Option Addr → Nat → Nat → World → Prop) → Prop) : Option Addr → Option Addr → Nat → Nat → Option Addr → Nat → Nat → Int → Int → World → (Option Addr → Nat → Nat → World → Prop) → Prop := fun y3 y4 y4n y4c y11 y11n y11c y12 y13 w K0 =>
    bif (decide (y13 < y12)) then
      sm y11 fun p_12 =>
      if 0 ≤ (y13 : Int) ∧ (y13 : Int) < ((y11n : Nat) : Int) then
      ldI .i32 (p_12.add (Int.toNat y13)) w fun x17_13 =>
      F36 y3 w fun r22_15 w =>
      sm y4 fun p_16 =>
      if 0 ≤ (y13 : Int) ∧ (y13 : Int) < ((y4n : Nat) : Int) then
      stC (p_16.add (Int.toNat y13)) (Value.int .i32 (IntKind.wrap .i32 (x17_13 + r22_15))) w fun w =>
      sm y4 fun p_17 =>
      if 0 ≤ (y13 : Int) ∧ (y13 : Int) < ((y4n : Nat) : Int) then
      ldI .i32 (p_17.add (Int.toNat y13)) w fun x29_18 =>
      F38 y3 x29_18 w fun w =>
      R y3 y4 y4n y4c y11 y11n y11c y12 (IntKind.wrap .i64 (y13 + 1)) w K0
      else False
      else False
      else False
    else
      K0 y4 y4n y4c w

def lms_Restore.hn4 (N : Nat) (f : Fr) (w : World) (K : AExit → Fr → World → Prop) : Prop :=
  gN f 33 <| gP f 3 fun y3 => gL f 4 fun y4 y4n y4c => gL f 11 fun y11 y11n y11c => gI .i64 f 12 fun y12 => gI .i64 f 13 fun y13 => lms_Restore.l4 N y3 y4 y4n y4c y11 y11n y11c y12 y13 w (fun o4 o4n o4c w => K (.exit 0) [none, none, none, none, some (Value.slice o4 o4n o4c), none, none, none, none, none, none, none, none, none, none, none, none, none, none, none, none, none, none, none, none, none, none, none, none, none, none, none, none] w)
def lms_Restore.hx4 : AExit → Fr → World → (AExit → Fr → World → Prop) → Prop := fun e f w K => match e with
  | .normal => False
  | .exit i => (match Nat.beq i 0 with | true => gN f 33 <| gL f 4 fun o4 o4n o4c => K (.exit 0) [none, none, none, none, some (Value.slice o4 o4n o4c), none, none, none, none, none, none, none, none, none, none, none, none, none, none, none, none, none, none, none, none, none, none, none, none, none, none, none, none] w | false => False)
  | .ret => False
def lms_Restore.L : LHd := fun l f w K => (match Nat.beq l 4 with | true => ∃ N, lms_Restore.hn4 N f w K | false => False)
theorem lms_Restore.leG4 (F34 : type_of% @lms_New.f) (F36 : type_of% @lms_Filter_Guess.f) (F38 : type_of% @lms_Filter_Learn.f) (N : Nat) (y3 : Option Addr) (y4 : Option Addr) (y4n : Nat) (y4c : Nat) (y11 : Option Addr) (y11n : Nat) (y11c : Nat) (y12 : Int) (y13 : Int) (w : World) (K : AExit → Fr → World → Prop) : awp (lms_Restore.CG F34 F36 F38) lms_Restore.L lms_Restore.D tab lms_Restore.b0 (lpost lms_Restore.hn4 lms_Restore.hx4 N K) [none, none, none, some (Value.pointer y3), some (Value.slice y4 y4n y4c), none, none, none, none, none, none, some (Value.slice y11 y11n y11c), some (Value.int .i64 y12), some (Value.int .i64 y13), none, none, none, none, none, none, none, none, none, none, none, none, none, none, none, none, none, none, none] w = lms_Restore.l4G F34 F36 F38 (lms_Restore.l4 N) y3 y4 y4n y4c y11 y11n y11c y12 y13 w (fun o4 o4n o4c w => K (.exit 0) [none, none, none, none, some (Value.slice o4 o4n o4c), none, none, none, none, none, none, none, none, none, none, none, none, none, none, none, none, none, none, none, none, none, none, none, none, none, none, none, none] w) := by kernel_rfl
theorem lms_Restore.les4 (N : Nat) : lms_Restore.l4 (N + 1) = lms_Restore.l4G @lms_New.f @lms_Filter_Guess.f @lms_Filter_Learn.f (lms_Restore.l4 N) := by kernel_rfl
theorem lms_Restore.le4 (N : Nat) (y3 : Option Addr) (y4 : Option Addr) (y4n : Nat) (y4c : Nat) (y11 : Option Addr) (y11n : Nat) (y11c : Nat) (y12 : Int) (y13 : Int) (w : World) (K : AExit → Fr → World → Prop) : awp lms_Restore.C lms_Restore.L lms_Restore.D tab lms_Restore.b0 (lpost lms_Restore.hn4 lms_Restore.hx4 N K) [none, none, none, some (Value.pointer y3), some (Value.slice y4 y4n y4c), none, none, none, none, none, none, some (Value.slice y11 y11n y11c), some (Value.int .i64 y12), some (Value.int .i64 y13), none, none, none, none, none, none, none, none, none, none, none, none, none, none, none, none, none, none, none] w = lms_Restore.l4 (N + 1) y3 y4 y4n y4c y11 y11n y11c y12 y13 w (fun o4 o4n o4c w => K (.exit 0) [none, none, none, none, some (Value.slice o4 o4n o4c), none, none, none, none, none, none, none, none, none, none, none, none, none, none, none, none, none, none, none, none, none, none, none, none, none, none, none, none] w) := by
  rw [lms_Restore.les4]
  exact lms_Restore.leG4 @lms_New.f @lms_Filter_Guess.f @lms_Filter_Learn.f N y3 y4 y4n y4c y11 y11n y11c y12 y13 w K
theorem lms_Restore.lok4 : LoopOk Try.prog lms_Restore.L lms_Restore.b0 := by
  refine loop_ok tab_ok lms_Restore.C_ok (D := lms_Restore.D) (lms_Restore.hn4) (lms_Restore.hx4) (by kernel_rfl) (by rw [lms_Restore.b0_loops]; exact lnil) ?_ ?_ ?_ ?_
  · intro f w K h
    unfold lms_Restore.hn4 at h
    obtain ⟨hlen, h⟩ := gN_ok h
    obtain ⟨y3, h3, h⟩ := gP_ok h
    obtain ⟨y4, y4n, y4c, h4, h⟩ := gL_ok h
    obtain ⟨y11, y11n, y11c, h11, h⟩ := gL_ok h
    obtain ⟨y12, h12, h⟩ := gI_ok h
    obtain ⟨y13, h13, h⟩ := gI_ok h
    exact h
  · intro N f w K h
    unfold lms_Restore.hn4 at h
    obtain ⟨hlen, h⟩ := gN_ok h
    obtain ⟨y3, h3, h⟩ := gP_ok h
    obtain ⟨y4, y4n, y4c, h4, h⟩ := gL_ok h
    obtain ⟨y11, y11n, y11c, h11, h⟩ := gL_ok h
    obtain ⟨y12, h12, h⟩ := gI_ok h
    obtain ⟨y13, h13, h⟩ := gI_ok h
    refine ⟨[none, none, none, some (Value.pointer y3), some (Value.slice y4 y4n y4c), none, none, none, none, none, none, some (Value.slice y11 y11n y11c), some (Value.int .i64 y12), some (Value.int .i64 y13), none, none, none, none, none, none, none, none, none, none, none, none, none, none, none, none, none, none, none], hlen, ⟨h3, h4, h11, h12, h13, trivial⟩, ?_⟩
    rw [lms_Restore.le4]
    exact h
  · intro e f w K h
    cases e with
    | normal => exact h.elim
    | exit i =>
      unfold lms_Restore.hx4 at h
      simp only at h
      split at h
      · rename_i hb
        obtain rfl := Nat.eq_of_beq_eq_true hb
        obtain ⟨hlen, h⟩ := gN_ok h
        obtain ⟨o4, o4n, o4c, h4, h⟩ := gL_ok h
        exact ⟨[none, none, none, none, some (Value.slice o4 o4n o4c), none, none, none, none, none, none, none, none, none, none, none, none, none, none, none, none, none, none, none, none, none, none, none, none, none, none, none, none], hlen, ⟨h4, trivial⟩, h⟩
      · exact (show False from h).elim
    | ret =>
      exact (show False from h).elim
  · intro f w K h
    have e : lid lms_Restore.b0 = 4 := by kernel_rfl
    rw [e] at h
    exact h
theorem lms_Restore.eqG (F34 : type_of% @lms_New.f) (F36 : type_of% @lms_Filter_Guess.f) (F38 : type_of% @lms_Filter_Learn.f) (a0 : Option Addr) (a0n : Nat) (a0c : Nat) (w : World) (K : Value → World → Prop) : afn (lms_Restore.CG F34 F36 F38) lms_Restore.L lms_Restore.D tab Try.f44 [(Value.slice a0 a0n a0c)] w K = lms_Restore.G F34 F36 F38 a0 a0n a0c w (fun r0 r0n r0c w => K (Value.slice r0 r0n r0c) w) := by kernel_rfl
theorem lms_Restore.eq (a0 : Option Addr) (a0n : Nat) (a0c : Nat) (w : World) (K : Value → World → Prop) : afn lms_Restore.C lms_Restore.L lms_Restore.D tab Try.f44 [(Value.slice a0 a0n a0c)] w K = lms_Restore.f a0 a0n a0c w (fun r0 r0n r0c w => K (Value.slice r0 r0n r0c) w) := lms_Restore.eqG @lms_New.f @lms_Filter_Guess.f @lms_Filter_Learn.f a0 a0n a0c w K
theorem lms_Restore.ok : FSound Try.prog 44 lms_Restore.h := by
  intro args w K h
  unfold lms_Restore.h lms_Restore.H at h
  split at h
  ·
    replace h := vL_ok h
    obtain ⟨a0, a0n, a0c, rfl, h⟩ := h
    refine ⟨by kernel_rfl, fn_ok tab_ok lms_Restore.C_ok (L := lms_Restore.L) (D := lms_Restore.D) Try.func44 lms_Restore.hb (by kernel_rfl) (by rw [lms_Restore.c_loops]; exact lcons lms_Restore.lok4 (lnil)) (Nat.le_of_ble_eq_true (by kernel_rfl)) ?_⟩
    rw [lms_Restore.eq]
    exact h
  · exact h.elim
/-! ### valise/valiseref12.Restore: function 45 -/
def ref12_Restore.l4 : Nat → Option Addr → Nat → Nat → Addr → Option Addr → Nat → Nat → Int → World → (Option Addr → Nat → Nat → World → Prop) → Prop
  | 0, _, _, _, _, _, _, _, _, _, _ => False
  | N + 1, y0, y0n, y0c, y3, y4, y4n, y4c, y5, w, K0 =>
    bif (decide (y5 < ((y0n : Nat) : Int))) then
      sm y0 fun p_11 =>
      if 0 ≤ (y5 : Int) ∧ (y5 : Int) < ((y0n : Nat) : Int) then
      ldI .i32 (p_11.add (Int.toNat y5)) w.drew fun x18_12 =>
      ref12_Filter_Guess.f (some y3) w.drew fun r20_13 w =>
      (World.cell? w (p_11.add (Int.toNat y5)) = some (.int .i32 x18_12)) ∧
      (let v6_14 := (IntKind.wrap .i32 (x18_12 + r20_13))
      newC 21 [(Value.int .i32 v6_14)] w fun a24_16 w =>
      appL 21 1 4 [(Value.int .i32 0)] y4 y4n y4c (some a24_16) 1 1 w fun a25_17 a25_17n a25_17c w =>
      ref12_Filter_Learn.f (some y3) v6_14 w fun w =>
      let v5_18 := (IntKind.wrap .i64 (y5 + 1))
      ref12_Restore.l4 N y0 y0n y0c y3 a25_17 a25_17n a25_17c v5_18 w K0)
      else False
    else
      K0 y4 y4n y4c w

def ref12_Restore.f (a0 : Option Addr) (a0n : Nat) (a0c : Nat) (w : World) (K : Option Addr → Nat → Nat → World → Prop) : Prop :=
  newC 57 [(Value.int .i32 0), (Value.int .i32 0), (Value.int .i32 0), (Value.int .i32 0), (Value.int .i32 0), (Value.int .i32 0), (Value.int .i32 0), (Value.int .i32 0), (Value.int .i32 0), (Value.int .i32 0), (Value.int .i32 0), (Value.int .i32 0), (Value.int .i32 0), (Value.int .i32 0), (Value.int .i32 0), (Value.int .i32 0)] w fun a8_3 w =>
  ∃ N_19 : Nat, ref12_Restore.l4 N_19 a0 a0n a0c a8_3 none 0 0 0 w
  (fun o4_20 o4_20n o4_20c w =>
    K o4_20 o4_20n o4_20c w)
def ref12_Restore.H (F : type_of% @ref12_Restore.f) : Hf := fun args w K => match args with
  | [v0] => vL v0 fun a0 a0n a0c => F a0 a0n a0c w (fun r0 r0n r0c w => K (Value.slice r0 r0n r0c) w)
  | _ => False
def ref12_Restore.h : Hf := ref12_Restore.H @ref12_Restore.f
def ref12_Restore.C : Hd := hcons 39 ref12_Filter_Learn.h (hcons 37 ref12_Filter_Guess.h (hnil))
theorem ref12_Restore.C_ok : CSound Try.prog ref12_Restore.C := hcons_ok ref12_Filter_Learn.ok (hcons_ok ref12_Filter_Guess.ok (hnil_ok))
def ref12_Restore.D : Nat → Plan := fun i => (match Nat.beq i 6 with | true => .take 0 (.take 1 (.take 2 (.take 3 (.take 4 (.eff 5 (.take 6 (.take 7 (.done)))))))) | false => .done)
noncomputable def ref12_Restore.c : Code := Try.f45.body.getD .skip
theorem ref12_Restore.hb : Try.f45.body = some ref12_Restore.c := by kernel_rfl
noncomputable def ref12_Restore.b0 : Code := (loopsOf ref12_Restore.c).getD 0 .skip
theorem ref12_Restore.b0_loops : loopsOf ref12_Restore.b0 = [] := by kernel_rfl
theorem ref12_Restore.c_loops : loopsOf ref12_Restore.c = [ref12_Restore.b0] := by kernel_rfl
def ref12_Restore.hn4 (N : Nat) (f : Fr) (w : World) (K : AExit → Fr → World → Prop) : Prop :=
  gN f 30 <| gL f 0 fun y0 y0n y0c => gQ f 3 fun y3 => gL f 4 fun y4 y4n y4c => gI .i64 f 5 fun y5 => ref12_Restore.l4 N y0 y0n y0c y3 y4 y4n y4c y5 w (fun o4 o4n o4c w => K (.exit 0) [none, none, none, none, some (Value.slice o4 o4n o4c), none, none, none, none, none, none, none, none, none, none, none, none, none, none, none, none, none, none, none, none, none, none, none, none, none] w)
def ref12_Restore.hx4 : AExit → Fr → World → (AExit → Fr → World → Prop) → Prop := fun e f w K => match e with
  | .normal => False
  | .exit i => (match Nat.beq i 0 with | true => gN f 30 <| gL f 4 fun o4 o4n o4c => K (.exit 0) [none, none, none, none, some (Value.slice o4 o4n o4c), none, none, none, none, none, none, none, none, none, none, none, none, none, none, none, none, none, none, none, none, none, none, none, none, none] w | false => False)
  | .ret => False
def ref12_Restore.L : LHd := fun l f w K => (match Nat.beq l 4 with | true => ∃ N, ref12_Restore.hn4 N f w K | false => False)
theorem ref12_Restore.le4 (N : Nat) (y0 : Option Addr) (y0n : Nat) (y0c : Nat) (y3 : Addr) (y4 : Option Addr) (y4n : Nat) (y4c : Nat) (y5 : Int) (w : World) (K : AExit → Fr → World → Prop) : awp ref12_Restore.C ref12_Restore.L ref12_Restore.D tab ref12_Restore.b0 (lpost ref12_Restore.hn4 ref12_Restore.hx4 N K) [some (Value.slice y0 y0n y0c), none, none, some (Value.pointer (some y3)), some (Value.slice y4 y4n y4c), some (Value.int .i64 y5), none, none, none, none, none, none, none, none, none, none, none, none, none, none, none, none, none, none, none, none, none, none, none, none] w = ref12_Restore.l4 (N + 1) y0 y0n y0c y3 y4 y4n y4c y5 w (fun o4 o4n o4c w => K (.exit 0) [none, none, none, none, some (Value.slice o4 o4n o4c), none, none, none, none, none, none, none, none, none, none, none, none, none, none, none, none, none, none, none, none, none, none, none, none, none] w) := by kernel_rfl
theorem ref12_Restore.lok4 : LoopOk Try.prog ref12_Restore.L ref12_Restore.b0 := by
  refine loop_ok tab_ok ref12_Restore.C_ok (D := ref12_Restore.D) (ref12_Restore.hn4) (ref12_Restore.hx4) (by kernel_rfl) (by rw [ref12_Restore.b0_loops]; exact lnil) ?_ ?_ ?_ ?_
  · intro f w K h
    unfold ref12_Restore.hn4 at h
    obtain ⟨hlen, h⟩ := gN_ok h
    obtain ⟨y0, y0n, y0c, h0, h⟩ := gL_ok h
    obtain ⟨y3, h3, h⟩ := gQ_ok h
    obtain ⟨y4, y4n, y4c, h4, h⟩ := gL_ok h
    obtain ⟨y5, h5, h⟩ := gI_ok h
    exact h
  · intro N f w K h
    unfold ref12_Restore.hn4 at h
    obtain ⟨hlen, h⟩ := gN_ok h
    obtain ⟨y0, y0n, y0c, h0, h⟩ := gL_ok h
    obtain ⟨y3, h3, h⟩ := gQ_ok h
    obtain ⟨y4, y4n, y4c, h4, h⟩ := gL_ok h
    obtain ⟨y5, h5, h⟩ := gI_ok h
    refine ⟨[some (Value.slice y0 y0n y0c), none, none, some (Value.pointer (some y3)), some (Value.slice y4 y4n y4c), some (Value.int .i64 y5), none, none, none, none, none, none, none, none, none, none, none, none, none, none, none, none, none, none, none, none, none, none, none, none], hlen, ⟨h0, h3, h4, h5, trivial⟩, ?_⟩
    rw [ref12_Restore.le4]
    exact h
  · intro e f w K h
    cases e with
    | normal => exact h.elim
    | exit i =>
      unfold ref12_Restore.hx4 at h
      simp only at h
      split at h
      · rename_i hb
        obtain rfl := Nat.eq_of_beq_eq_true hb
        obtain ⟨hlen, h⟩ := gN_ok h
        obtain ⟨o4, o4n, o4c, h4, h⟩ := gL_ok h
        exact ⟨[none, none, none, none, some (Value.slice o4 o4n o4c), none, none, none, none, none, none, none, none, none, none, none, none, none, none, none, none, none, none, none, none, none, none, none, none, none], hlen, ⟨h4, trivial⟩, h⟩
      · exact (show False from h).elim
    | ret =>
      exact (show False from h).elim
  · intro f w K h
    have e : lid ref12_Restore.b0 = 4 := by kernel_rfl
    rw [e] at h
    exact h
theorem ref12_Restore.eq (a0 : Option Addr) (a0n : Nat) (a0c : Nat) (w : World) (K : Value → World → Prop) : afn ref12_Restore.C ref12_Restore.L ref12_Restore.D tab Try.f45 [(Value.slice a0 a0n a0c)] w K = ref12_Restore.f a0 a0n a0c w (fun r0 r0n r0c w => K (Value.slice r0 r0n r0c) w) := by kernel_rfl
theorem ref12_Restore.ok : FSound Try.prog 45 ref12_Restore.h := by
  intro args w K h
  unfold ref12_Restore.h ref12_Restore.H at h
  split at h
  ·
    replace h := vL_ok h
    obtain ⟨a0, a0n, a0c, rfl, h⟩ := h
    refine ⟨by kernel_rfl, fn_ok tab_ok ref12_Restore.C_ok (L := ref12_Restore.L) (D := ref12_Restore.D) Try.func45 ref12_Restore.hb (by kernel_rfl) (by rw [ref12_Restore.c_loops]; exact lcons ref12_Restore.lok4 (lnil)) (Nat.le_of_ble_eq_true (by kernel_rfl)) ?_⟩
    rw [ref12_Restore.eq]
    exact h
  · exact h.elim
/-! ### valise/valisehelp.Kept[int32]: function 46 -/
def help_Kept_int32.l5 : Nat → Int → Option Addr → Nat → Nat → Int → World → (World → Prop) → (Bool → World → Prop) → Prop
  | 0, _, _, _, _, _, _, _, _ => False
  | N + 1, y2, y7, y7n, y7c, y8, w, K0, Kr =>
    bif (decide (y8 < ((y7n : Nat) : Int))) then
      sm y7 fun p_17 =>
      if 0 ≤ (y8 : Int) ∧ (y8 : Int) < ((y7n : Nat) : Int) then
      ldI .i32 (p_17.add (Int.toNat y8)) w fun x37_18 =>
      bif (x37_18 != y2) then
        Kr false w
      else
        let v8_20 := (IntKind.wrap .i64 (y8 + 1))
        help_Kept_int32.l5 N y2 y7 y7n y7c v8_20 w K0 Kr
      else False
    else
      K0 w

def help_Kept_int32.f (a0 : Option Addr) (a0n : Nat) (a0c : Nat) (a1 : Option Addr) (a1n : Nat) (a1c : Nat) (a2 : Int) (w : World) (K : Bool → World → Prop) : Prop :=
  help_Plain_int32.f a0 a0n a0c a1 a1n a1c w fun r11_4 w =>
  bif (!r11_4) then
    K false w
  else
    bif (decide (((a0c : Nat) : Int) < (IntKind.wrap .i64 (((a1n : Nat) : Int) + 3)))) then
      K false w
    else
      bnd a0n a0c none (some (Value.int .i64 (IntKind.wrap .i64 (((a1n : Nat) : Int) + 3)))) fun l_8 h_9 =>
      let v8_12 := ((a1n : Nat) : Int)
      ∃ N_21 : Nat, help_Kept_int32.l5 N_21 a2 (adrS a0 l_8 a0c 1) (h_9 - l_8) (a0c - l_8) v8_12 w
      (fun w =>
        K true w)
      (fun o6_22 w =>
        K o6_22 w)
def help_Kept_int32.H (F : type_of% @help_Kept_int32.f) : Hf := fun args w K => match args with
  | [v0, v1, v2] => vL v0 fun a0 a0n a0c => vL v1 fun a1 a1n a1c => vI .i32 v2 fun a2 => F a0 a0n a0c a1 a1n a1c a2 w (fun r0 w => K (Value.bool r0) w)
  | _ => False
def help_Kept_int32.h : Hf := help_Kept_int32.H @help_Kept_int32.f
def help_Kept_int32.C : Hd := hcons 41 help_Plain_int32.h (hnil)
theorem help_Kept_int32.C_ok : CSound Try.prog help_Kept_int32.C := hcons_ok help_Plain_int32.ok (hnil_ok)
def help_Kept_int32.D : Nat → Plan := fun i => .done
noncomputable def help_Kept_int32.c : Code := Try.f46.body.getD .skip
theorem help_Kept_int32.hb : Try.f46.body = some help_Kept_int32.c := by kernel_rfl
noncomputable def help_Kept_int32.b0 : Code := (loopsOf help_Kept_int32.c).getD 0 .skip
theorem help_Kept_int32.b0_loops : loopsOf help_Kept_int32.b0 = [] := by kernel_rfl
theorem help_Kept_int32.c_loops : loopsOf help_Kept_int32.c = [help_Kept_int32.b0] := by kernel_rfl
def help_Kept_int32.hn5 (N : Nat) (f : Fr) (w : World) (K : AExit → Fr → World → Prop) : Prop :=
  gN f 40 <| gI .i32 f 2 fun y2 => gL f 7 fun y7 y7n y7c => gI .i64 f 8 fun y8 => help_Kept_int32.l5 N y2 y7 y7n y7c y8 w (fun w => K (.exit 0) [none, none, none, none, none, none, none, none, none, none, none, none, none, none, none, none, none, none, none, none, none, none, none, none, none, none, none, none, none, none, none, none, none, none, none, none, none, none, none, none] w) (fun o6 w => K .ret [none, none, none, none, none, none, some (Value.bool o6), none, none, none, none, none, none, none, none, none, none, none, none, none, none, none, none, none, none, none, none, none, none, none, none, none, none, none, none, none, none, none, none, none] w)
def help_Kept_int32.hx5 : AExit → Fr → World → (AExit → Fr → World → Prop) → Prop := fun e f w K => match e with
  | .normal => False
  | .exit i => (match Nat.beq i 0 with | true => gN f 40 <|  K (.exit 0) [none, none, none, none, none, none, none, none, none, none, none, none, none, none, none, none, none, none, none, none, none, none, none, none, none, none, none, none, none, none, none, none, none, none, none, none, none, none, none, none] w | false => False)
  | .ret => gN f 40 <| gB f 6 fun o6 => K .ret [none, none, none, none, none, none, some (Value.bool o6), none, none, none, none, none, none, none, none, none, none, none, none, none, none, none, none, none, none, none, none, none, none, none, none, none, none, none, none, none, none, none, none, none] w
def help_Kept_int32.L : LHd := fun l f w K => (match Nat.beq l 5 with | true => ∃ N, help_Kept_int32.hn5 N f w K | false => False)
theorem help_Kept_int32.le5 (N : Nat) (y2 : Int) (y7 : Option Addr) (y7n : Nat) (y7c : Nat) (y8 : Int) (w : World) (K : AExit → Fr → World → Prop) : awp help_Kept_int32.C help_Kept_int32.L help_Kept_int32.D tab help_Kept_int32.b0 (lpost help_Kept_int32.hn5 help_Kept_int32.hx5 N K) [none, none, some (Value.int .i32 y2), none, none, none, none, some (Value.slice y7 y7n y7c), some (Value.int .i64 y8), none, none, none, none, none, none, none, none, none, none, none, none, none, none, none, none, none, none, none, none, none, none, none, none, none, none, none, none, none, none, none] w = help_Kept_int32.l5 (N + 1) y2 y7 y7n y7c y8 w (fun w => K (.exit 0) [none, none, none, none, none, none, none, none, none, none, none, none, none, none, none, none, none, none, none, none, none, none, none, none, none, none, none, none, none, none, none, none, none, none, none, none, none, none, none, none] w) (fun o6 w => K .ret [none, none, none, none, none, none, some (Value.bool o6), none, none, none, none, none, none, none, none, none, none, none, none, none, none, none, none, none, none, none, none, none, none, none, none, none, none, none, none, none, none, none, none, none] w) := by kernel_rfl
theorem help_Kept_int32.lok5 : LoopOk Try.prog help_Kept_int32.L help_Kept_int32.b0 := by
  refine loop_ok tab_ok help_Kept_int32.C_ok (D := help_Kept_int32.D) (help_Kept_int32.hn5) (help_Kept_int32.hx5) (by kernel_rfl) (by rw [help_Kept_int32.b0_loops]; exact lnil) ?_ ?_ ?_ ?_
  · intro f w K h
    unfold help_Kept_int32.hn5 at h
    obtain ⟨hlen, h⟩ := gN_ok h
    obtain ⟨y2, h2, h⟩ := gI_ok h
    obtain ⟨y7, y7n, y7c, h7, h⟩ := gL_ok h
    obtain ⟨y8, h8, h⟩ := gI_ok h
    exact h
  · intro N f w K h
    unfold help_Kept_int32.hn5 at h
    obtain ⟨hlen, h⟩ := gN_ok h
    obtain ⟨y2, h2, h⟩ := gI_ok h
    obtain ⟨y7, y7n, y7c, h7, h⟩ := gL_ok h
    obtain ⟨y8, h8, h⟩ := gI_ok h
    refine ⟨[none, none, some (Value.int .i32 y2), none, none, none, none, some (Value.slice y7 y7n y7c), some (Value.int .i64 y8), none, none, none, none, none, none, none, none, none, none, none, none, none, none, none, none, none, none, none, none, none, none, none, none, none, none, none, none, none, none, none], hlen, ⟨h2, h7, h8, trivial⟩, ?_⟩
    rw [help_Kept_int32.le5]
    exact h
  · intro e f w K h
    cases e with
    | normal => exact h.elim
    | exit i =>
      unfold help_Kept_int32.hx5 at h
      simp only at h
      split at h
      · rename_i hb
        obtain rfl := Nat.eq_of_beq_eq_true hb
        obtain ⟨hlen, h⟩ := gN_ok h
        exact ⟨[none, none, none, none, none, none, none, none, none, none, none, none, none, none, none, none, none, none, none, none, none, none, none, none, none, none, none, none, none, none, none, none, none, none, none, none, none, none, none, none], hlen, trivial, h⟩
      · exact (show False from h).elim
    | ret =>
      unfold help_Kept_int32.hx5 at h
      simp only at h
      obtain ⟨hlen, h⟩ := gN_ok h
      obtain ⟨o6, h6, h⟩ := gB_ok h
      exact ⟨[none, none, none, none, none, none, some (Value.bool o6), none, none, none, none, none, none, none, none, none, none, none, none, none, none, none, none, none, none, none, none, none, none, none, none, none, none, none, none, none, none, none, none, none], hlen, ⟨h6, trivial⟩, h⟩
  · intro f w K h
    have e : lid help_Kept_int32.b0 = 5 := by kernel_rfl
    rw [e] at h
    exact h
theorem help_Kept_int32.eq (a0 : Option Addr) (a0n : Nat) (a0c : Nat) (a1 : Option Addr) (a1n : Nat) (a1c : Nat) (a2 : Int) (w : World) (K : Value → World → Prop) : afn help_Kept_int32.C help_Kept_int32.L help_Kept_int32.D tab Try.f46 [(Value.slice a0 a0n a0c), (Value.slice a1 a1n a1c), (Value.int .i32 a2)] w K = help_Kept_int32.f a0 a0n a0c a1 a1n a1c a2 w (fun r0 w => K (Value.bool r0) w) := by kernel_rfl
theorem help_Kept_int32.ok : FSound Try.prog 46 help_Kept_int32.h := by
  intro args w K h
  unfold help_Kept_int32.h help_Kept_int32.H at h
  split at h
  ·
    replace h := vL_ok h
    obtain ⟨a0, a0n, a0c, rfl, h⟩ := h
    replace h := vL_ok h
    obtain ⟨a1, a1n, a1c, rfl, h⟩ := h
    replace h := vI_ok h
    obtain ⟨a2, rfl, h⟩ := h
    refine ⟨by kernel_rfl, fn_ok tab_ok help_Kept_int32.C_ok (L := help_Kept_int32.L) (D := help_Kept_int32.D) Try.func46 help_Kept_int32.hb (by kernel_rfl) (by rw [help_Kept_int32.c_loops]; exact lcons help_Kept_int32.lok5 (lnil)) (Nat.le_of_ble_eq_true (by kernel_rfl)) ?_⟩
    rw [help_Kept_int32.eq]
    exact h
  · exact h.elim

end Go.Proofs.Ytodicpmedallgaa.G
