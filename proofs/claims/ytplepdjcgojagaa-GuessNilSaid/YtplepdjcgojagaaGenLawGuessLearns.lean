/- Go functions as predicate transformers, written by a program of this session (gen.py), with their soundness. -/
import Derived.Test.YtplepdjcgojagaaGen2
set_option linter.unusedVariables false
set_option linter.unusedSimpArgs false
set_option maxRecDepth 100000
namespace Go.Proofs.Ytplepdjcgojagaa.G
open Go Go.Proofs.Ytplepdjcgojagaa.Vm
/-! ### valise/valiselaw05.GuessLearns: function 6 -/
def law05_GuessLearns.l7 : Nat → Option Addr → Nat → Nat → Option Addr → Nat → Nat → Option Addr → Option Addr → Int → World → (Option Addr → Nat → Nat → Option Addr → Option Addr → World → Prop) → (Bool → World → Prop) → Prop
  | 0, _, _, _, _, _, _, _, _, _, _, _, _ => False
  | N + 1, y1, y1n, y1c, y2, y2n, y2c, y7, y8, y9, w, K0, Kr =>
    bif (decide (y9 < ((y1n : Nat) : Int))) then
      bif (decide (y9 < 300)) then
        sm y1 fun p_23 =>
        if 0 ≤ (y9 : Int) ∧ (y9 : Int) < ((y1n : Nat) : Int) then
        ldI .i64 ((p_23.add (Int.toNat y9 * 3)).add 0) w fun x47_24 =>
        ldI .i64 ((p_23.add (Int.toNat y9 * 3)).add 1) w fun x47_25 =>
        ldI .i64 ((p_23.add (Int.toNat y9 * 3)).add 2) w fun x47_26 =>
        newC 40 [(Value.int .i64 0), (Value.int .i64 0), (Value.int .i64 0)] w fun a10_27 w =>
        stCs a10_27 [(Value.int .i64 x47_24), (Value.int .i64 x47_25), (Value.int .i64 x47_26)] 0 w fun w =>
        ldI .i64 a10_27 w fun x50_29 =>
        ldI .i64 (a10_27.add 1) w fun x52_30 =>
        ldI .i64 (a10_27.add 2) w fun x54_31 =>
        guess_Table_Learn.f y7 x50_29 x52_30 x54_31 w fun w =>
        ldI .i64 a10_27 w fun x58_33 =>
        ldI .i64 (a10_27.add 1) w fun x60_34 =>
        ldI .i64 (a10_27.add 2) w fun x62_35 =>
        ref05_Table_Learn.f y8 x58_33 x60_34 x62_35 w fun w =>
        ldI .i64 a10_27 w.drew fun x66_37 =>
        ldI .i64 a10_27 w.drew fun x70_38 =>
        guess_Table_At.f y7 x66_37 w.drew fun r67_39 w =>
        (World.cell? w a10_27 = some (.int .i64 x70_38)) ∧
        (ref05_Table_At.f y8 x70_38 w fun r71_40 w =>
        bif (r67_39 != r71_40) then
          Kr false w
        else
          let v9_42 := (IntKind.wrap .i64 (y9 + 1))
          law05_GuessLearns.l7 N y1 y1n y1c y2 y2n y2c y7 y8 v9_42 w K0 Kr)
        else False
      else
        K0 y2 y2n y2c y7 y8 w
    else
      K0 y2 y2n y2c y7 y8 w

def law05_GuessLearns.l15 : Nat → Option Addr → Nat → Nat → Option Addr → Option Addr → Int → World → (World → Prop) → (Bool → World → Prop) → Prop
  | 0, _, _, _, _, _, _, _, _, _ => False
  | N + 1, y2, y2n, y2c, y7, y8, y11, w, K2, Kr =>
    bif (decide (y11 < ((y2n : Nat) : Int))) then
      bif (decide (y11 < 100)) then
        sm y2 fun p_54 =>
        if 0 ≤ (y11 : Int) ∧ (y11 : Int) < ((y2n : Nat) : Int) then
        ldI .i64 (p_54.add (Int.toNat y11)) w.drew fun x87_55 =>
        sm y2 fun p_56 =>
        if 0 ≤ (y11 : Int) ∧ (y11 : Int) < ((y2n : Nat) : Int) then
        ldI .i64 (p_56.add (Int.toNat y11)) w.drew fun x93_57 =>
        guess_Table_At.f y7 x87_55 w.drew fun r88_58 w =>
        (World.cell? w (p_56.add (Int.toNat y11)) = some (.int .i64 x93_57)) ∧
        (ref05_Table_At.f y8 x93_57 w fun r94_59 w =>
        bif (r88_58 != r94_59) then
          Kr false w
        else
          let v11_61 := (IntKind.wrap .i64 (y11 + 1))
          law05_GuessLearns.l15 N y2 y2n y2c y7 y8 v11_61 w K2 Kr)
        else False
        else False
      else
        K2 w
    else
      K2 w

def law05_GuessLearns.f (a0 : Int) (a1 : Option Addr) (a1n : Nat) (a1c : Nat) (a2 : Option Addr) (a2n : Nat) (a2c : Nat) (w : World) (K : Bool → World → Prop) : Prop :=
  let J_65 := fun (j0_4 : Int) (w : World) =>
    ((guess_New.f j0_4 w fun r15_6 w =>
    ref05_New.f j0_4 w fun r17_7 w =>
    law05_awake.f  w.drew fun r18_10 w =>
    bif (!r18_10) then
      K false w
    else
      bif r15_6.isNone then
        K false w
      else
        sm r17_7 fun p_11 =>
        ldL p_11 w fun x30_12 x30_12n x30_12c =>
        guess_Table_Len.f r15_6 w fun r26_13 w =>
        (World.cell? w p_11 = some (.slice x30_12 x30_12n x30_12c)) ∧
        (bif (r26_13 != ((x30_12n : Nat) : Int)) then
          K false w
        else
          ∃ N_43 : Nat, law05_GuessLearns.l7 N_43 a1 a1n a1c a2 a2n a2c r15_6 r17_7 0 w
          (fun o2_44 o2_44n o2_44c o7_45 o8_46 w =>
            ∃ N_62 : Nat, law05_GuessLearns.l15 N_62 o2_44 o2_44n o2_44c o7_45 o8_46 0 w
            (fun w =>
              K true w)
            (fun o6_63 w =>
              K o6_63 w))
          (fun o6_47 w =>
            K o6_47 w))) : Prop)
  bif (decide (a0 > 3000)) then
    J_65 3000 w
  else
    J_65 a0 w
def law05_GuessLearns.h : Hf := fun args w K => match args with
  | [v0, v1, v2] => vI .i64 v0 fun a0 => vL v1 fun a1 a1n a1c => vL v2 fun a2 a2n a2c => law05_GuessLearns.f a0 a1 a1n a1c a2 a2n a2c w (fun r0 w => K (Value.bool r0) w)
  | _ => False
def law05_GuessLearns.C : Hd := hcons 24 ref05_Table_At.h (hcons 23 guess_Table_At.h (hcons 22 ref05_Table_Learn.h (hcons 21 guess_Table_Learn.h (hcons 20 guess_Table_Len.h (hcons 13 law05_awake.h (hcons 19 ref05_New.h (hcons 18 guess_New.h (hnil))))))))
theorem law05_GuessLearns.C_ok : CSound Try.prog law05_GuessLearns.C := hcons_ok ref05_Table_At.ok (hcons_ok guess_Table_At.ok (hcons_ok ref05_Table_Learn.ok (hcons_ok guess_Table_Learn.ok (hcons_ok guess_Table_Len.ok (hcons_ok law05_awake.ok (hcons_ok ref05_New.ok (hcons_ok guess_New.ok (hnil_ok))))))))
def law05_GuessLearns.D : Nat → Plan := fun i => (match Nat.beq i 17 with | true => .take 0 (.take 1 (.take 2 (.take 3 (.take 4 (.take 6 (.take 7 (.take 8 (.take 9 (.take 10 (.eff 5 (.eff 11 (.take 12 (.done))))))))))))) | false => (match Nat.beq i 12 with | true => .take 0 (.take 1 (.take 2 (.take 4 (.take 5 (.take 6 (.eff 3 (.eff 7 (.take 8 (.done))))))))) | false => (match Nat.beq i 4 with | true => .eff 0 (.take 1 (.take 2 (.take 3 (.take 4 (.take 5 (.take 6 (.take 7 (.take 9 (.take 10 (.take 11 (.take 12 (.take 13 (.eff 8 (.take 14 (.take 15 (.done)))))))))))))))) | false => .done)))
noncomputable def law05_GuessLearns.c : Code := Try.f6.body.getD .skip
theorem law05_GuessLearns.hb : Try.f6.body = some law05_GuessLearns.c := by kernel_rfl
noncomputable def law05_GuessLearns.b0 : Code := (loopsOf law05_GuessLearns.c).getD 0 .skip
theorem law05_GuessLearns.b0_loops : loopsOf law05_GuessLearns.b0 = [] := by kernel_rfl
noncomputable def law05_GuessLearns.b1 : Code := (loopsOf law05_GuessLearns.c).getD 1 .skip
theorem law05_GuessLearns.b1_loops : loopsOf law05_GuessLearns.b1 = [] := by kernel_rfl
theorem law05_GuessLearns.c_loops : loopsOf law05_GuessLearns.c = [law05_GuessLearns.b0, law05_GuessLearns.b1] := by kernel_rfl
def law05_GuessLearns.hn7 (N : Nat) (f : Fr) (w : World) (K : AExit → Fr → World → Prop) : Prop :=
  gN f 96 <| gL f 1 fun y1 y1n y1c => gL f 2 fun y2 y2n y2c => gP f 7 fun y7 => gP f 8 fun y8 => gI .i64 f 9 fun y9 => law05_GuessLearns.l7 N y1 y1n y1c y2 y2n y2c y7 y8 y9 w (fun o2 o2n o2c o7 o8 w => K (.exit 0) [none, none, some (Value.slice o2 o2n o2c), none, none, none, none, some (Value.pointer o7), some (Value.pointer o8), none, none, none, none, none, none, none, none, none, none, none, none, none, none, none, none, none, none, none, none, none, none, none, none, none, none, none, none, none, none, none, none, none, none, none, none, none, none, none, none, none, none, none, none, none, none, none, none, none, none, none, none, none, none, none, none, none, none, none, none, none, none, none, none, none, none, none, none, none, none, none, none, none, none, none, none, none, none, none, none, none, none, none, none, none, none, none] w) (fun o6 w => K .ret [none, none, none, none, none, none, some (Value.bool o6), none, none, none, none, none, none, none, none, none, none, none, none, none, none, none, none, none, none, none, none, none, none, none, none, none, none, none, none, none, none, none, none, none, none, none, none, none, none, none, none, none, none, none, none, none, none, none, none, none, none, none, none, none, none, none, none, none, none, none, none, none, none, none, none, none, none, none, none, none, none, none, none, none, none, none, none, none, none, none, none, none, none, none, none, none, none, none, none, none] w)
def law05_GuessLearns.hx7 : AExit → Fr → World → (AExit → Fr → World → Prop) → Prop := fun e f w K => match e with
  | .normal => False
  | .exit i => (match Nat.beq i 0 with | true => gN f 96 <| gL f 2 fun o2 o2n o2c => gP f 7 fun o7 => gP f 8 fun o8 => K (.exit 0) [none, none, some (Value.slice o2 o2n o2c), none, none, none, none, some (Value.pointer o7), some (Value.pointer o8), none, none, none, none, none, none, none, none, none, none, none, none, none, none, none, none, none, none, none, none, none, none, none, none, none, none, none, none, none, none, none, none, none, none, none, none, none, none, none, none, none, none, none, none, none, none, none, none, none, none, none, none, none, none, none, none, none, none, none, none, none, none, none, none, none, none, none, none, none, none, none, none, none, none, none, none, none, none, none, none, none, none, none, none, none, none, none] w | false => False)
  | .ret => gN f 96 <| gB f 6 fun o6 => K .ret [none, none, none, none, none, none, some (Value.bool o6), none, none, none, none, none, none, none, none, none, none, none, none, none, none, none, none, none, none, none, none, none, none, none, none, none, none, none, none, none, none, none, none, none, none, none, none, none, none, none, none, none, none, none, none, none, none, none, none, none, none, none, none, none, none, none, none, none, none, none, none, none, none, none, none, none, none, none, none, none, none, none, none, none, none, none, none, none, none, none, none, none, none, none, none, none, none, none, none, none] w
def law05_GuessLearns.hn15 (N : Nat) (f : Fr) (w : World) (K : AExit → Fr → World → Prop) : Prop :=
  gN f 96 <| gL f 2 fun y2 y2n y2c => gP f 7 fun y7 => gP f 8 fun y8 => gI .i64 f 11 fun y11 => law05_GuessLearns.l15 N y2 y2n y2c y7 y8 y11 w (fun w => K (.exit 2) [none, none, none, none, none, none, none, none, none, none, none, none, none, none, none, none, none, none, none, none, none, none, none, none, none, none, none, none, none, none, none, none, none, none, none, none, none, none, none, none, none, none, none, none, none, none, none, none, none, none, none, none, none, none, none, none, none, none, none, none, none, none, none, none, none, none, none, none, none, none, none, none, none, none, none, none, none, none, none, none, none, none, none, none, none, none, none, none, none, none, none, none, none, none, none, none] w) (fun o6 w => K .ret [none, none, none, none, none, none, some (Value.bool o6), none, none, none, none, none, none, none, none, none, none, none, none, none, none, none, none, none, none, none, none, none, none, none, none, none, none, none, none, none, none, none, none, none, none, none, none, none, none, none, none, none, none, none, none, none, none, none, none, none, none, none, none, none, none, none, none, none, none, none, none, none, none, none, none, none, none, none, none, none, none, none, none, none, none, none, none, none, none, none, none, none, none, none, none, none, none, none, none, none] w)
def law05_GuessLearns.hx15 : AExit → Fr → World → (AExit → Fr → World → Prop) → Prop := fun e f w K => match e with
  | .normal => False
  | .exit i => (match Nat.beq i 2 with | true => gN f 96 <|  K (.exit 2) [none, none, none, none, none, none, none, none, none, none, none, none, none, none, none, none, none, none, none, none, none, none, none, none, none, none, none, none, none, none, none, none, none, none, none, none, none, none, none, none, none, none, none, none, none, none, none, none, none, none, none, none, none, none, none, none, none, none, none, none, none, none, none, none, none, none, none, none, none, none, none, none, none, none, none, none, none, none, none, none, none, none, none, none, none, none, none, none, none, none, none, none, none, none, none, none] w | false => False)
  | .ret => gN f 96 <| gB f 6 fun o6 => K .ret [none, none, none, none, none, none, some (Value.bool o6), none, none, none, none, none, none, none, none, none, none, none, none, none, none, none, none, none, none, none, none, none, none, none, none, none, none, none, none, none, none, none, none, none, none, none, none, none, none, none, none, none, none, none, none, none, none, none, none, none, none, none, none, none, none, none, none, none, none, none, none, none, none, none, none, none, none, none, none, none, none, none, none, none, none, none, none, none, none, none, none, none, none, none, none, none, none, none, none, none] w
def law05_GuessLearns.L : LHd := fun l f w K => (match Nat.beq l 15 with | true => ∃ N, law05_GuessLearns.hn15 N f w K | false => (match Nat.beq l 7 with | true => ∃ N, law05_GuessLearns.hn7 N f w K | false => False))
theorem law05_GuessLearns.le7 (N : Nat) (y1 : Option Addr) (y1n : Nat) (y1c : Nat) (y2 : Option Addr) (y2n : Nat) (y2c : Nat) (y7 : Option Addr) (y8 : Option Addr) (y9 : Int) (w : World) (K : AExit → Fr → World → Prop) : awp law05_GuessLearns.C law05_GuessLearns.L law05_GuessLearns.D tab law05_GuessLearns.b0 (lpost law05_GuessLearns.hn7 law05_GuessLearns.hx7 N K) [none, some (Value.slice y1 y1n y1c), some (Value.slice y2 y2n y2c), none, none, none, none, some (Value.pointer y7), some (Value.pointer y8), some (Value.int .i64 y9), none, none, none, none, none, none, none, none, none, none, none, none, none, none, none, none, none, none, none, none, none, none, none, none, none, none, none, none, none, none, none, none, none, none, none, none, none, none, none, none, none, none, none, none, none, none, none, none, none, none, none, none, none, none, none, none, none, none, none, none, none, none, none, none, none, none, none, none, none, none, none, none, none, none, none, none, none, none, none, none, none, none, none, none, none, none] w = law05_GuessLearns.l7 (N + 1) y1 y1n y1c y2 y2n y2c y7 y8 y9 w (fun o2 o2n o2c o7 o8 w => K (.exit 0) [none, none, some (Value.slice o2 o2n o2c), none, none, none, none, some (Value.pointer o7), some (Value.pointer o8), none, none, none, none, none, none, none, none, none, none, none, none, none, none, none, none, none, none, none, none, none, none, none, none, none, none, none, none, none, none, none, none, none, none, none, none, none, none, none, none, none, none, none, none, none, none, none, none, none, none, none, none, none, none, none, none, none, none, none, none, none, none, none, none, none, none, none, none, none, none, none, none, none, none, none, none, none, none, none, none, none, none, none, none, none, none, none] w) (fun o6 w => K .ret [none, none, none, none, none, none, some (Value.bool o6), none, none, none, none, none, none, none, none, none, none, none, none, none, none, none, none, none, none, none, none, none, none, none, none, none, none, none, none, none, none, none, none, none, none, none, none, none, none, none, none, none, none, none, none, none, none, none, none, none, none, none, none, none, none, none, none, none, none, none, none, none, none, none, none, none, none, none, none, none, none, none, none, none, none, none, none, none, none, none, none, none, none, none, none, none, none, none, none, none] w) := by kernel_rfl
theorem law05_GuessLearns.lok7 : LoopOk Try.prog law05_GuessLearns.L law05_GuessLearns.b0 := by
  refine loop_ok tab_ok law05_GuessLearns.C_ok (D := law05_GuessLearns.D) (law05_GuessLearns.hn7) (law05_GuessLearns.hx7) (by kernel_rfl) (by rw [law05_GuessLearns.b0_loops]; exact lnil) ?_ ?_ ?_ ?_
  · intro f w K h
    unfold law05_GuessLearns.hn7 at h
    obtain ⟨hlen, h⟩ := gN_ok h
    obtain ⟨y1, y1n, y1c, h1, h⟩ := gL_ok h
    obtain ⟨y2, y2n, y2c, h2, h⟩ := gL_ok h
    obtain ⟨y7, h7, h⟩ := gP_ok h
    obtain ⟨y8, h8, h⟩ := gP_ok h
    obtain ⟨y9, h9, h⟩ := gI_ok h
    exact h
  · intro N f w K h
    unfold law05_GuessLearns.hn7 at h
    obtain ⟨hlen, h⟩ := gN_ok h
    obtain ⟨y1, y1n, y1c, h1, h⟩ := gL_ok h
    obtain ⟨y2, y2n, y2c, h2, h⟩ := gL_ok h
    obtain ⟨y7, h7, h⟩ := gP_ok h
    obtain ⟨y8, h8, h⟩ := gP_ok h
    obtain ⟨y9, h9, h⟩ := gI_ok h
    refine ⟨[none, some (Value.slice y1 y1n y1c), some (Value.slice y2 y2n y2c), none, none, none, none, some (Value.pointer y7), some (Value.pointer y8), some (Value.int .i64 y9), none, none, none, none, none, none, none, none, none, none, none, none, none, none, none, none, none, none, none, none, none, none, none, none, none, none, none, none, none, none, none, none, none, none, none, none, none, none, none, none, none, none, none, none, none, none, none, none, none, none, none, none, none, none, none, none, none, none, none, none, none, none, none, none, none, none, none, none, none, none, none, none, none, none, none, none, none, none, none, none, none, none, none, none, none, none], hlen, ⟨h1, h2, h7, h8, h9, trivial⟩, ?_⟩
    rw [law05_GuessLearns.le7]
    exact h
  · intro e f w K h
    cases e with
    | normal => exact h.elim
    | exit i =>
      unfold law05_GuessLearns.hx7 at h
      simp only at h
      split at h
      · rename_i hb
        obtain rfl := Nat.eq_of_beq_eq_true hb
        obtain ⟨hlen, h⟩ := gN_ok h
        obtain ⟨o2, o2n, o2c, h2, h⟩ := gL_ok h
        obtain ⟨o7, h7, h⟩ := gP_ok h
        obtain ⟨o8, h8, h⟩ := gP_ok h
        exact ⟨[none, none, some (Value.slice o2 o2n o2c), none, none, none, none, some (Value.pointer o7), some (Value.pointer o8), none, none, none, none, none, none, none, none, none, none, none, none, none, none, none, none, none, none, none, none, none, none, none, none, none, none, none, none, none, none, none, none, none, none, none, none, none, none, none, none, none, none, none, none, none, none, none, none, none, none, none, none, none, none, none, none, none, none, none, none, none, none, none, none, none, none, none, none, none, none, none, none, none, none, none, none, none, none, none, none, none, none, none, none, none, none, none], hlen, ⟨h2, h7, h8, trivial⟩, h⟩
      · exact (show False from h).elim
    | ret =>
      unfold law05_GuessLearns.hx7 at h
      simp only at h
      obtain ⟨hlen, h⟩ := gN_ok h
      obtain ⟨o6, h6, h⟩ := gB_ok h
      exact ⟨[none, none, none, none, none, none, some (Value.bool o6), none, none, none, none, none, none, none, none, none, none, none, none, none, none, none, none, none, none, none, none, none, none, none, none, none, none, none, none, none, none, none, none, none, none, none, none, none, none, none, none, none, none, none, none, none, none, none, none, none, none, none, none, none, none, none, none, none, none, none, none, none, none, none, none, none, none, none, none, none, none, none, none, none, none, none, none, none, none, none, none, none, none, none, none, none, none, none, none, none], hlen, ⟨h6, trivial⟩, h⟩
  · intro f w K h
    have e : lid law05_GuessLearns.b0 = 7 := by kernel_rfl
    rw [e] at h
    exact h
theorem law05_GuessLearns.le15 (N : Nat) (y2 : Option Addr) (y2n : Nat) (y2c : Nat) (y7 : Option Addr) (y8 : Option Addr) (y11 : Int) (w : World) (K : AExit → Fr → World → Prop) : awp law05_GuessLearns.C law05_GuessLearns.L law05_GuessLearns.D tab law05_GuessLearns.b1 (lpost law05_GuessLearns.hn15 law05_GuessLearns.hx15 N K) [none, none, some (Value.slice y2 y2n y2c), none, none, none, none, some (Value.pointer y7), some (Value.pointer y8), none, none, some (Value.int .i64 y11), none, none, none, none, none, none, none, none, none, none, none, none, none, none, none, none, none, none, none, none, none, none, none, none, none, none, none, none, none, none, none, none, none, none, none, none, none, none, none, none, none, none, none, none, none, none, none, none, none, none, none, none, none, none, none, none, none, none, none, none, none, none, none, none, none, none, none, none, none, none, none, none, none, none, none, none, none, none, none, none, none, none, none, none] w = law05_GuessLearns.l15 (N + 1) y2 y2n y2c y7 y8 y11 w (fun w => K (.exit 2) [none, none, none, none, none, none, none, none, none, none, none, none, none, none, none, none, none, none, none, none, none, none, none, none, none, none, none, none, none, none, none, none, none, none, none, none, none, none, none, none, none, none, none, none, none, none, none, none, none, none, none, none, none, none, none, none, none, none, none, none, none, none, none, none, none, none, none, none, none, none, none, none, none, none, none, none, none, none, none, none, none, none, none, none, none, none, none, none, none, none, none, none, none, none, none, none] w) (fun o6 w => K .ret [none, none, none, none, none, none, some (Value.bool o6), none, none, none, none, none, none, none, none, none, none, none, none, none, none, none, none, none, none, none, none, none, none, none, none, none, none, none, none, none, none, none, none, none, none, none, none, none, none, none, none, none, none, none, none, none, none, none, none, none, none, none, none, none, none, none, none, none, none, none, none, none, none, none, none, none, none, none, none, none, none, none, none, none, none, none, none, none, none, none, none, none, none, none, none, none, none, none, none, none] w) := by kernel_rfl
theorem law05_GuessLearns.lok15 : LoopOk Try.prog law05_GuessLearns.L law05_GuessLearns.b1 := by
  refine loop_ok tab_ok law05_GuessLearns.C_ok (D := law05_GuessLearns.D) (law05_GuessLearns.hn15) (law05_GuessLearns.hx15) (by kernel_rfl) (by rw [law05_GuessLearns.b1_loops]; exact lnil) ?_ ?_ ?_ ?_
  · intro f w K h
    unfold law05_GuessLearns.hn15 at h
    obtain ⟨hlen, h⟩ := gN_ok h
    obtain ⟨y2, y2n, y2c, h2, h⟩ := gL_ok h
    obtain ⟨y7, h7, h⟩ := gP_ok h
    obtain ⟨y8, h8, h⟩ := gP_ok h
    obtain ⟨y11, h11, h⟩ := gI_ok h
    exact h
  · intro N f w K h
    unfold law05_GuessLearns.hn15 at h
    obtain ⟨hlen, h⟩ := gN_ok h
    obtain ⟨y2, y2n, y2c, h2, h⟩ := gL_ok h
    obtain ⟨y7, h7, h⟩ := gP_ok h
    obtain ⟨y8, h8, h⟩ := gP_ok h
    obtain ⟨y11, h11, h⟩ := gI_ok h
    refine ⟨[none, none, some (Value.slice y2 y2n y2c), none, none, none, none, some (Value.pointer y7), some (Value.pointer y8), none, none, some (Value.int .i64 y11), none, none, none, none, none, none, none, none, none, none, none, none, none, none, none, none, none, none, none, none, none, none, none, none, none, none, none, none, none, none, none, none, none, none, none, none, none, none, none, none, none, none, none, none, none, none, none, none, none, none, none, none, none, none, none, none, none, none, none, none, none, none, none, none, none, none, none, none, none, none, none, none, none, none, none, none, none, none, none, none, none, none, none, none], hlen, ⟨h2, h7, h8, h11, trivial⟩, ?_⟩
    rw [law05_GuessLearns.le15]
    exact h
  · intro e f w K h
    cases e with
    | normal => exact h.elim
    | exit i =>
      unfold law05_GuessLearns.hx15 at h
      simp only at h
      split at h
      · rename_i hb
        obtain rfl := Nat.eq_of_beq_eq_true hb
        obtain ⟨hlen, h⟩ := gN_ok h
        exact ⟨[none, none, none, none, none, none, none, none, none, none, none, none, none, none, none, none, none, none, none, none, none, none, none, none, none, none, none, none, none, none, none, none, none, none, none, none, none, none, none, none, none, none, none, none, none, none, none, none, none, none, none, none, none, none, none, none, none, none, none, none, none, none, none, none, none, none, none, none, none, none, none, none, none, none, none, none, none, none, none, none, none, none, none, none, none, none, none, none, none, none, none, none, none, none, none, none], hlen, trivial, h⟩
      · exact (show False from h).elim
    | ret =>
      unfold law05_GuessLearns.hx15 at h
      simp only at h
      obtain ⟨hlen, h⟩ := gN_ok h
      obtain ⟨o6, h6, h⟩ := gB_ok h
      exact ⟨[none, none, none, none, none, none, some (Value.bool o6), none, none, none, none, none, none, none, none, none, none, none, none, none, none, none, none, none, none, none, none, none, none, none, none, none, none, none, none, none, none, none, none, none, none, none, none, none, none, none, none, none, none, none, none, none, none, none, none, none, none, none, none, none, none, none, none, none, none, none, none, none, none, none, none, none, none, none, none, none, none, none, none, none, none, none, none, none, none, none, none, none, none, none, none, none, none, none, none, none], hlen, ⟨h6, trivial⟩, h⟩
  · intro f w K h
    have e : lid law05_GuessLearns.b1 = 15 := by kernel_rfl
    rw [e] at h
    exact h
theorem law05_GuessLearns.eq (a0 : Int) (a1 : Option Addr) (a1n : Nat) (a1c : Nat) (a2 : Option Addr) (a2n : Nat) (a2c : Nat) (w : World) (K : Value → World → Prop) : afn law05_GuessLearns.C law05_GuessLearns.L law05_GuessLearns.D tab Try.f6 [(Value.int .i64 a0), (Value.slice a1 a1n a1c), (Value.slice a2 a2n a2c)] w K = law05_GuessLearns.f a0 a1 a1n a1c a2 a2n a2c w (fun r0 w => K (Value.bool r0) w) := by kernel_rfl
theorem law05_GuessLearns.ok : FSound Try.prog 6 law05_GuessLearns.h := by
  intro args w K h
  unfold law05_GuessLearns.h at h
  split at h
  ·
    replace h := vI_ok h
    obtain ⟨a0, rfl, h⟩ := h
    replace h := vL_ok h
    obtain ⟨a1, a1n, a1c, rfl, h⟩ := h
    replace h := vL_ok h
    obtain ⟨a2, a2n, a2c, rfl, h⟩ := h
    refine ⟨by kernel_rfl, fn_ok tab_ok law05_GuessLearns.C_ok (L := law05_GuessLearns.L) (D := law05_GuessLearns.D) Try.func6 law05_GuessLearns.hb (by kernel_rfl) (by rw [law05_GuessLearns.c_loops]; exact lcons law05_GuessLearns.lok7 (lcons law05_GuessLearns.lok15 (lnil))) (Nat.le_of_ble_eq_true (by kernel_rfl)) ?_⟩
    rw [law05_GuessLearns.eq]
    exact h
  · exact h.elim
end Go.Proofs.Ytplepdjcgojagaa.G
