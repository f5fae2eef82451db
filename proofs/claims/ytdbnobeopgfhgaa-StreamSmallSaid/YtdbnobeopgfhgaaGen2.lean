/- Go functions as predicate transformers, written by a program of this session (gen.py), with their soundness. -/
import Derived.Test.YtdbnobeopgfhgaaGen1
set_option linter.unusedVariables false
set_option linter.unusedSimpArgs false
set_option maxRecDepth 100000
namespace Go.Proofs.Ytdbnobeopgfhgaa.G
open Go Go.Proofs.Ytdbnobeopgfhgaa.Vm
/-! ### (*valise/mix.Mixer).place: function 77 -/
def mix_Mixer_place.f (a0 : Option Addr) (a1 : Int) (w : World) (K : Int → World → Prop) : Prop :=
  sm a0 fun p_3 =>
  ldL (p_3.add 7) w fun x9_4 x9_4n x9_4c =>
  let v5_5 := ((x9_4n : Nat) : Int)
  if v5_5 = 0 then False else
  if v5_5 = 0 then False else
  let v4_7 := (Int.tmod (IntKind.wrap .i64 ((Int.tmod a1 v5_5) + v5_5)) v5_5)
  K v4_7 w
def mix_Mixer_place.H (F : type_of% @mix_Mixer_place.f) : Hf := fun args w K => match args with
  | [v0, v1] => vP v0 fun a0 => vI .i64 v1 fun a1 => F a0 a1 w (fun r0 w => K (Value.int .i64 r0) w)
  | _ => False
def mix_Mixer_place.h : Hf := mix_Mixer_place.H @mix_Mixer_place.f
def mix_Mixer_place.C : Hd := hnil
theorem mix_Mixer_place.C_ok : CSound Try.prog mix_Mixer_place.C := hnil_ok
def mix_Mixer_place.D : Nat → Plan := fun i => .done
noncomputable def mix_Mixer_place.c : Code := Try.f77.body.getD .skip
theorem mix_Mixer_place.hb : Try.f77.body = some mix_Mixer_place.c := by kernel_rfl
theorem mix_Mixer_place.c_loops : loopsOf mix_Mixer_place.c = [] := by kernel_rfl
def mix_Mixer_place.L : LHd := fun l f w K => False
theorem mix_Mixer_place.eq (a0 : Option Addr) (a1 : Int) (w : World) (K : Value → World → Prop) : afn mix_Mixer_place.C mix_Mixer_place.L mix_Mixer_place.D tab Try.f77 [(Value.pointer a0), (Value.int .i64 a1)] w K = mix_Mixer_place.f a0 a1 w (fun r0 w => K (Value.int .i64 r0) w) := by kernel_rfl
theorem mix_Mixer_place.ok : FSound Try.prog 77 mix_Mixer_place.h := by
  intro args w K h
  unfold mix_Mixer_place.h mix_Mixer_place.H at h
  split at h
  ·
    replace h := vP_ok h
    obtain ⟨a0, rfl, h⟩ := h
    replace h := vI_ok h
    obtain ⟨a1, rfl, h⟩ := h
    refine ⟨by kernel_rfl, fn_ok tab_ok mix_Mixer_place.C_ok (L := mix_Mixer_place.L) (D := mix_Mixer_place.D) Try.func77 mix_Mixer_place.hb (by kernel_rfl) (by rw [mix_Mixer_place.c_loops]; exact lnil) (Nat.le_of_ble_eq_true (by kernel_rfl)) ?_⟩
    rw [mix_Mixer_place.eq]
    exact h
  · exact h.elim
/-! ### (*valise/mix.Mixer).Mix: function 52 -/
def mix_Mixer_Mix.l6 : Nat → Option Addr → Option Addr → Nat → Nat → Int → Int → Int → World → (Option Addr → Int → World → Prop) → Prop
  | 0, _, _, _, _, _, _, _, _, _ => False
  | N + 1, y0, y2, y2n, y2c, y7, y28, y29, w, K0 =>
    bif (decide (y29 < y28)) then
      sm y2 fun p_19 =>
      if 0 ≤ (y29 : Int) ∧ (y29 : Int) < ((y2n : Nat) : Int) then
      ldI .i64 (p_19.add (Int.toNat y29)) w.drew fun x37_20 =>
      sm y0 fun p_21 =>
      if 0 ≤ (y29 : Int) ∧ (y29 : Int) < ((4 : Nat) : Int) then
      stC ((p_21.add 2).add (Int.toNat y29)) (Value.int .i64 (mx (-2047) (mn x37_20 2047))) w.drew fun w =>
      sm y0 fun p_22 =>
      if 0 ≤ (y29 : Int) ∧ (y29 : Int) < ((4 : Nat) : Int) then
      ldI .i64 ((p_22.add 2).add (Int.toNat y29)) w.drew fun x51_23 =>
      sm y0 fun p_24 =>
      ldL (p_24.add 7) w.drew fun x55_25 x55_25n x55_25c =>
      sm y0 fun p_26 =>
      ldI .i64 (p_26.add 1) w.drew fun x60_27 =>
      sm x55_25 fun p_28 =>
      if 0 ≤ (x60_27 : Int) ∧ (x60_27 : Int) < ((x55_25n : Nat) : Int) then
      if 0 ≤ (y29 : Int) ∧ (y29 : Int) < ((4 : Nat) : Int) then
      ldI .i64 ((p_28.add (Int.toNat x60_27 * 4)).add (Int.toNat y29)) w.drew fun x64_29 =>
      let v7_30 := (IntKind.wrap .i64 (y7 + (IntKind.wrap .i64 (x51_23 * x64_29))))
      mix_Mixer_Mix.l6 N y0 y2 y2n y2c v7_30 y28 (IntKind.wrap .i64 (y29 + 1)) w.drew K0
      else False
      else False
      else False
      else False
      else False
    else
      K0 y0 y7 w

def mix_Mixer_Mix.f (a0 : Option Addr) (a1 : Int) (a2 : Option Addr) (a2n : Nat) (a2c : Nat) (w : World) (K : Int → World → Prop) : Prop :=
  bif a0.isNone then
    K 0 w
  else
    sm a0 fun p_4 =>
    ldL (p_4.add 7) w fun x15_5 x15_5n x15_5c =>
    bif (((x15_5n : Nat) : Int) == 0) then
      K 0 w
    else
      mix_Mixer_place.f a0 a1 w fun r22_9 w =>
      sm a0 fun p_10 =>
      stCs p_10 [(Value.bool true), (Value.int .i64 r22_9), (Value.int .i64 0), (Value.int .i64 0), (Value.int .i64 0), (Value.int .i64 0), (Value.int .i64 0)] 0 w fun w =>
      ∃ N_31 : Nat, mix_Mixer_Mix.l6 N_31 a0 a2 a2n a2c 0 (mn ((a2n : Nat) : Int) 4) 0 w
      (fun o0_32 o7_33 w =>
        mix_Squash.f (mx (-2047) (mn (shr .i64 o7_33 16) 2047)) w fun r73_35 w =>
        sm o0_32 fun p_36 =>
        stC (p_36.add 6) (Value.int .i64 r73_35) w fun w =>
        sm o0_32 fun p_38 =>
        ldI .i64 (p_38.add 6) w fun x81_39 =>
        K x81_39 w)
def mix_Mixer_Mix.H (F : type_of% @mix_Mixer_Mix.f) : Hf := fun args w K => match args with
  | [v0, v1, v2] => vP v0 fun a0 => vI .i64 v1 fun a1 => vL v2 fun a2 a2n a2c => F a0 a1 a2 a2n a2c w (fun r0 w => K (Value.int .i64 r0) w)
  | _ => False
def mix_Mixer_Mix.h : Hf := mix_Mixer_Mix.H @mix_Mixer_Mix.f
def mix_Mixer_Mix.C : Hd := hcons 40 mix_Squash.h (hcons 77 mix_Mixer_place.h (hnil))
theorem mix_Mixer_Mix.C_ok : CSound Try.prog mix_Mixer_Mix.C := hcons_ok mix_Squash.ok (hcons_ok mix_Mixer_place.ok (hnil_ok))
def mix_Mixer_Mix.D : Nat → Plan := fun i => (match Nat.beq i 9 with | true => .take 0 (.take 1 (.take 2 (.take 3 (.take 4 (.take 5 (.take 6 (.take 7 (.take 8 (.take 9 (.take 10 (.take 11 (.take 12 (.take 13 (.take 14 (.take 15 (.take 16 (.take 17 (.take 18 (.take 19 (.take 20 (.take 21 (.take 22 (.take 23 (.done)))))))))))))))))))))))) | false => (match Nat.beq i 8 with | true => .take 0 (.take 1 (.take 2 (.take 3 (.take 4 (.take 5 (.take 6 (.take 7 (.take 8 (.take 9 (.take 10 (.take 11 (.eff 12 (.done))))))))))))) | false => .done))
noncomputable def mix_Mixer_Mix.c : Code := Try.f52.body.getD .skip
theorem mix_Mixer_Mix.hb : Try.f52.body = some mix_Mixer_Mix.c := by kernel_rfl
noncomputable def mix_Mixer_Mix.b0 : Code := (loopsOf mix_Mixer_Mix.c).getD 0 .skip
theorem mix_Mixer_Mix.b0_loops : loopsOf mix_Mixer_Mix.b0 = [] := by kernel_rfl
theorem mix_Mixer_Mix.c_loops : loopsOf mix_Mixer_Mix.c = [mix_Mixer_Mix.b0] := by kernel_rfl
def mix_Mixer_Mix.hn6 (N : Nat) (f : Fr) (w : World) (K : AExit → Fr → World → Prop) : Prop :=
  gN f 82 <| gP f 0 fun y0 => gL f 2 fun y2 y2n y2c => gI .i64 f 7 fun y7 => gI .i64 f 28 fun y28 => gI .i64 f 29 fun y29 => mix_Mixer_Mix.l6 N y0 y2 y2n y2c y7 y28 y29 w (fun o0 o7 w => K (.exit 0) [some (Value.pointer o0), none, none, none, none, none, none, some (Value.int .i64 o7), none, none, none, none, none, none, none, none, none, none, none, none, none, none, none, none, none, none, none, none, none, none, none, none, none, none, none, none, none, none, none, none, none, none, none, none, none, none, none, none, none, none, none, none, none, none, none, none, none, none, none, none, none, none, none, none, none, none, none, none, none, none, none, none, none, none, none, none, none, none, none, none, none, none] w)
def mix_Mixer_Mix.hx6 : AExit → Fr → World → (AExit → Fr → World → Prop) → Prop := fun e f w K => match e with
  | .normal => False
  | .exit i => (match Nat.beq i 0 with | true => gN f 82 <| gP f 0 fun o0 => gI .i64 f 7 fun o7 => K (.exit 0) [some (Value.pointer o0), none, none, none, none, none, none, some (Value.int .i64 o7), none, none, none, none, none, none, none, none, none, none, none, none, none, none, none, none, none, none, none, none, none, none, none, none, none, none, none, none, none, none, none, none, none, none, none, none, none, none, none, none, none, none, none, none, none, none, none, none, none, none, none, none, none, none, none, none, none, none, none, none, none, none, none, none, none, none, none, none, none, none, none, none, none, none] w | false => False)
  | .ret => False
def mix_Mixer_Mix.L : LHd := fun l f w K => (match Nat.beq l 6 with | true => ∃ N, mix_Mixer_Mix.hn6 N f w K | false => False)
theorem mix_Mixer_Mix.le6 (N : Nat) (y0 : Option Addr) (y2 : Option Addr) (y2n : Nat) (y2c : Nat) (y7 : Int) (y28 : Int) (y29 : Int) (w : World) (K : AExit → Fr → World → Prop) : awp mix_Mixer_Mix.C mix_Mixer_Mix.L mix_Mixer_Mix.D tab mix_Mixer_Mix.b0 (lpost mix_Mixer_Mix.hn6 mix_Mixer_Mix.hx6 N K) [some (Value.pointer y0), none, some (Value.slice y2 y2n y2c), none, none, none, none, some (Value.int .i64 y7), none, none, none, none, none, none, none, none, none, none, none, none, none, none, none, none, none, none, none, none, some (Value.int .i64 y28), some (Value.int .i64 y29), none, none, none, none, none, none, none, none, none, none, none, none, none, none, none, none, none, none, none, none, none, none, none, none, none, none, none, none, none, none, none, none, none, none, none, none, none, none, none, none, none, none, none, none, none, none, none, none, none, none, none, none] w = mix_Mixer_Mix.l6 (N + 1) y0 y2 y2n y2c y7 y28 y29 w (fun o0 o7 w => K (.exit 0) [some (Value.pointer o0), none, none, none, none, none, none, some (Value.int .i64 o7), none, none, none, none, none, none, none, none, none, none, none, none, none, none, none, none, none, none, none, none, none, none, none, none, none, none, none, none, none, none, none, none, none, none, none, none, none, none, none, none, none, none, none, none, none, none, none, none, none, none, none, none, none, none, none, none, none, none, none, none, none, none, none, none, none, none, none, none, none, none, none, none, none, none] w) := by kernel_rfl
theorem mix_Mixer_Mix.lok6 : LoopOk Try.prog mix_Mixer_Mix.L mix_Mixer_Mix.b0 := by
  refine loop_ok tab_ok mix_Mixer_Mix.C_ok (D := mix_Mixer_Mix.D) (mix_Mixer_Mix.hn6) (mix_Mixer_Mix.hx6) (by kernel_rfl) (by rw [mix_Mixer_Mix.b0_loops]; exact lnil) ?_ ?_ ?_ ?_
  · intro f w K h
    unfold mix_Mixer_Mix.hn6 at h
    obtain ⟨hlen, h⟩ := gN_ok h
    obtain ⟨y0, h0, h⟩ := gP_ok h
    obtain ⟨y2, y2n, y2c, h2, h⟩ := gL_ok h
    obtain ⟨y7, h7, h⟩ := gI_ok h
    obtain ⟨y28, h28, h⟩ := gI_ok h
    obtain ⟨y29, h29, h⟩ := gI_ok h
    exact h
  · intro N f w K h
    unfold mix_Mixer_Mix.hn6 at h
    obtain ⟨hlen, h⟩ := gN_ok h
    obtain ⟨y0, h0, h⟩ := gP_ok h
    obtain ⟨y2, y2n, y2c, h2, h⟩ := gL_ok h
    obtain ⟨y7, h7, h⟩ := gI_ok h
    obtain ⟨y28, h28, h⟩ := gI_ok h
    obtain ⟨y29, h29, h⟩ := gI_ok h
    refine ⟨[some (Value.pointer y0), none, some (Value.slice y2 y2n y2c), none, none, none, none, some (Value.int .i64 y7), none, none, none, none, none, none, none, none, none, none, none, none, none, none, none, none, none, none, none, none, some (Value.int .i64 y28), some (Value.int .i64 y29), none, none, none, none, none, none, none, none, none, none, none, none, none, none, none, none, none, none, none, none, none, none, none, none, none, none, none, none, none, none, none, none, none, none, none, none, none, none, none, none, none, none, none, none, none, none, none, none, none, none, none, none], hlen, ⟨h0, h2, h7, h28, h29, trivial⟩, ?_⟩
    rw [mix_Mixer_Mix.le6]
    exact h
  · intro e f w K h
    cases e with
    | normal => exact h.elim
    | exit i =>
      unfold mix_Mixer_Mix.hx6 at h
      simp only at h
      split at h
      · rename_i hb
        obtain rfl := Nat.eq_of_beq_eq_true hb
        obtain ⟨hlen, h⟩ := gN_ok h
        obtain ⟨o0, h0, h⟩ := gP_ok h
        obtain ⟨o7, h7, h⟩ := gI_ok h
        exact ⟨[some (Value.pointer o0), none, none, none, none, none, none, some (Value.int .i64 o7), none, none, none, none, none, none, none, none, none, none, none, none, none, none, none, none, none, none, none, none, none, none, none, none, none, none, none, none, none, none, none, none, none, none, none, none, none, none, none, none, none, none, none, none, none, none, none, none, none, none, none, none, none, none, none, none, none, none, none, none, none, none, none, none, none, none, none, none, none, none, none, none, none, none], hlen, ⟨h0, h7, trivial⟩, h⟩
      · exact (show False from h).elim
    | ret =>
      exact (show False from h).elim
  · intro f w K h
    have e : lid mix_Mixer_Mix.b0 = 6 := by kernel_rfl
    rw [e] at h
    exact h
theorem mix_Mixer_Mix.eq (a0 : Option Addr) (a1 : Int) (a2 : Option Addr) (a2n : Nat) (a2c : Nat) (w : World) (K : Value → World → Prop) : afn mix_Mixer_Mix.C mix_Mixer_Mix.L mix_Mixer_Mix.D tab Try.f52 [(Value.pointer a0), (Value.int .i64 a1), (Value.slice a2 a2n a2c)] w K = mix_Mixer_Mix.f a0 a1 a2 a2n a2c w (fun r0 w => K (Value.int .i64 r0) w) := by kernel_rfl
theorem mix_Mixer_Mix.ok : FSound Try.prog 52 mix_Mixer_Mix.h := by
  intro args w K h
  unfold mix_Mixer_Mix.h mix_Mixer_Mix.H at h
  split at h
  ·
    replace h := vP_ok h
    obtain ⟨a0, rfl, h⟩ := h
    replace h := vI_ok h
    obtain ⟨a1, rfl, h⟩ := h
    replace h := vL_ok h
    obtain ⟨a2, a2n, a2c, rfl, h⟩ := h
    refine ⟨by kernel_rfl, fn_ok tab_ok mix_Mixer_Mix.C_ok (L := mix_Mixer_Mix.L) (D := mix_Mixer_Mix.D) Try.func52 mix_Mixer_Mix.hb (by kernel_rfl) (by rw [mix_Mixer_Mix.c_loops]; exact lcons mix_Mixer_Mix.lok6 (lnil)) (Nat.le_of_ble_eq_true (by kernel_rfl)) ?_⟩
    rw [mix_Mixer_Mix.eq]
    exact h
  · exact h.elim
/-! ### (*valise/model.Model).Chance: function 27 -/
def model_Model_Chance.f (a0 : Option Addr) (w : World) (K : Int → World → Prop) : Prop :=
  bif a0.isNone then
    K 0 w
  else
    sm a0 fun p_4 =>
    ldP p_4 w fun x15_5 =>
    bif x15_5.isNone then
      K 0 w
    else
      model_Model_contexts.f a0 w fun r20_9 r20_10 r20_11 w =>
      sm a0 fun p_13 =>
      ldP p_13 w fun x28_14 =>
      guess_Table_At.f x28_14 r20_9 w fun r30_15 w =>
      sm a0 fun p_18 =>
      ldI .i64 (p_18.add 5) w fun x34_19 =>
      bif (x34_19 == 0) then
        K r30_15 w
      else
        let J_60 := fun (j7_37 : Addr) (w : World) =>
          ((let J_59 := fun  (w : World) =>
            ((sm a0 fun p_47 =>
            ldP (p_47.add 3) w.drew fun x65_48 =>
            sm a0 fun p_49 =>
            ldI .i64 (p_49.add 6) w.drew fun x69_50 =>
            mix_Mixer_Mix.f x65_48 x69_50 (some j7_37) 4 4 w.drew fun r71_51 w =>
            sm a0 fun p_53 =>
            ldP (p_53.add 4) w.drew fun x76_54 =>
            sm a0 fun p_55 =>
            ldI .i64 (p_55.add 6) w.drew fun x81_56 =>
            stage_Stage_Refine.f x76_54 r71_51 x81_56 w.drew fun r82_57 w =>
            let v2_58 := (IntKind.wrap .i64 (Int.tdiv (IntKind.wrap .i64 (r71_51 + (IntKind.wrap .i64 (3 * r82_57)))) 4))
            K v2_58 w) : Prop)
          sm a0 fun p_40 =>
          ldI .i64 (p_40.add 5) w fun x51_41 =>
          bif (decide (x51_41 > 1)) then
            sm a0 fun p_42 =>
            ldP (p_42.add 2) w fun x57_43 =>
            guess_Table_At.f x57_43 r20_11 w fun r59_44 w =>
            mix_Stretch.f r59_44 w fun r60_45 w =>
            stC (j7_37.add 2) (Value.int .i64 r60_45) w fun w =>
            J_59 w
          else
            J_59 w) : Prop)
        sm a0 fun p_22 =>
        ldP (p_22.add 1) w.drew fun x43_23 =>
        (mix_Stretch.f r30_15 w.drew fun r38_24 w =>
        (World.cell? w (p_22.add 1) = some (.pointer x43_23)) ∧
        ((guess_Table_At.f x43_23 r20_10 w fun r45_25 w =>
        (mix_Stretch.f r45_25 w fun r46_26 w =>
        newC 88 [(Value.int .i64 0), (Value.int .i64 0), (Value.int .i64 0), (Value.int .i64 0)] w fun a7_27 w =>
        stCs a7_27 [(Value.int .i64 r38_24), (Value.int .i64 r46_26), (Value.int .i64 0), (Value.int .i64 256)] 0 w fun w =>
        J_60 a7_27 w) ∧
        (newC 88 [(Value.int .i64 0), (Value.int .i64 0), (Value.int .i64 0), (Value.int .i64 0)] w fun a7_28 w =>
        mix_Stretch.f r45_25 w fun r46_29 w =>
        stCs a7_28 [(Value.int .i64 r38_24), (Value.int .i64 r46_29), (Value.int .i64 0), (Value.int .i64 256)] 0 w fun w =>
        J_60 a7_28 w)) ∧
        (newC 88 [(Value.int .i64 0), (Value.int .i64 0), (Value.int .i64 0), (Value.int .i64 0)] w fun a7_30 w =>
        (World.cell? w (p_22.add 1) = some (.pointer x43_23)) ∧
        (guess_Table_At.f x43_23 r20_10 w fun r45_31 w =>
        mix_Stretch.f r45_31 w fun r46_32 w =>
        stCs a7_30 [(Value.int .i64 r38_24), (Value.int .i64 r46_32), (Value.int .i64 0), (Value.int .i64 256)] 0 w fun w =>
        J_60 a7_30 w)))) ∧
        (newC 88 [(Value.int .i64 0), (Value.int .i64 0), (Value.int .i64 0), (Value.int .i64 0)] w.drew fun a7_33 w =>
        (World.cell? w (p_22.add 1) = some (.pointer x43_23)) ∧
        (mix_Stretch.f r30_15 w fun r38_34 w =>
        (World.cell? w (p_22.add 1) = some (.pointer x43_23)) ∧
        (guess_Table_At.f x43_23 r20_10 w fun r45_35 w =>
        mix_Stretch.f r45_35 w fun r46_36 w =>
        stCs a7_33 [(Value.int .i64 r38_34), (Value.int .i64 r46_36), (Value.int .i64 0), (Value.int .i64 256)] 0 w fun w =>
        J_60 a7_33 w)))
def model_Model_Chance.H (F : type_of% @model_Model_Chance.f) : Hf := fun args w K => match args with
  | [v0] => vP v0 fun a0 => F a0 w (fun r0 w => K (Value.int .i64 r0) w)
  | _ => False
def model_Model_Chance.h : Hf := model_Model_Chance.H @model_Model_Chance.f
def model_Model_Chance.CG (F50 : type_of% @model_Model_contexts.f) (F51 : type_of% @guess_Table_At.f) (F41 : type_of% @mix_Stretch.f) (F52 : type_of% @mix_Mixer_Mix.f) (F17 : type_of% @stage_Stage_Refine.f) : Hd := hcons 17 (stage_Stage_Refine.H F17) (hcons 52 (mix_Mixer_Mix.H F52) (hcons 41 (mix_Stretch.H F41) (hcons 51 (guess_Table_At.H F51) (hcons 50 (model_Model_contexts.H F50) (hnil)))))
def model_Model_Chance.C : Hd := model_Model_Chance.CG @model_Model_contexts.f @guess_Table_At.f @mix_Stretch.f @mix_Mixer_Mix.f @stage_Stage_Refine.f
def model_Model_Chance.G (F50 : type_of% @model_Model_contexts.f) (F51 : type_of% @guess_Table_At.f) (F41 : type_of% @mix_Stretch.f) (F52 : type_of% @mix_Mixer_Mix.f) (F17 : type_of% @stage_Stage_Refine.f) (a0 : Option Addr) (w : World) (K : Int → World → Prop) : Prop :=
  bif a0.isNone then
    K 0 w
  else
    sm a0 fun p_4 =>
    ldP p_4 w fun x15_5 =>
    bif x15_5.isNone then
      K 0 w
    else
      F50 a0 w fun r20_9 r20_10 r20_11 w =>
      sm a0 fun p_13 =>
      ldP p_13 w fun x28_14 =>
      F51 x28_14 r20_9 w fun r30_15 w =>
      sm a0 fun p_18 =>
      ldI .i64 (p_18.add 5) w fun x34_19 =>
      bif (x34_19 == 0) then
        K r30_15 w
      else
        let J_60 := fun (j7_37 : Addr) (w : World) =>
          ((let J_59 := fun  (w : World) =>
            ((sm a0 fun p_47 =>
            ldP (p_47.add 3) w.drew fun x65_48 =>
            sm a0 fun p_49 =>
            ldI .i64 (p_49.add 6) w.drew fun x69_50 =>
            F52 x65_48 x69_50 (some j7_37) 4 4 w.drew fun r71_51 w =>
            sm a0 fun p_53 =>
            ldP (p_53.add 4) w.drew fun x76_54 =>
            sm a0 fun p_55 =>
            ldI .i64 (p_55.add 6) w.drew fun x81_56 =>
            F17 x76_54 r71_51 x81_56 w.drew fun r82_57 w =>
            let v2_58 := (IntKind.wrap .i64 (Int.tdiv (IntKind.wrap .i64 (r71_51 + (IntKind.wrap .i64 (3 * r82_57)))) 4))
            K v2_58 w) : Prop)
          sm a0 fun p_40 =>
          ldI .i64 (p_40.add 5) w fun x51_41 =>
          bif (decide (x51_41 > 1)) then
            sm a0 fun p_42 =>
            ldP (p_42.add 2) w fun x57_43 =>
            F51 x57_43 r20_11 w fun r59_44 w =>
            F41 r59_44 w fun r60_45 w =>
            stC (j7_37.add 2) (Value.int .i64 r60_45) w fun w =>
            J_59 w
          else
            J_59 w) : Prop)
        sm a0 fun p_22 =>
        ldP (p_22.add 1) w.drew fun x43_23 =>
        (F41 r30_15 w.drew fun r38_24 w =>
        (World.cell? w (p_22.add 1) = some (.pointer x43_23)) ∧
        ((F51 x43_23 r20_10 w fun r45_25 w =>
        (F41 r45_25 w fun r46_26 w =>
        newC 88 [(Value.int .i64 0), (Value.int .i64 0), (Value.int .i64 0), (Value.int .i64 0)] w fun a7_27 w =>
        stCs a7_27 [(Value.int .i64 r38_24), (Value.int .i64 r46_26), (Value.int .i64 0), (Value.int .i64 256)] 0 w fun w =>
        J_60 a7_27 w) ∧
        (newC 88 [(Value.int .i64 0), (Value.int .i64 0), (Value.int .i64 0), (Value.int .i64 0)] w fun a7_28 w =>
        F41 r45_25 w fun r46_29 w =>
        stCs a7_28 [(Value.int .i64 r38_24), (Value.int .i64 r46_29), (Value.int .i64 0), (Value.int .i64 256)] 0 w fun w =>
        J_60 a7_28 w)) ∧
        (newC 88 [(Value.int .i64 0), (Value.int .i64 0), (Value.int .i64 0), (Value.int .i64 0)] w fun a7_30 w =>
        (World.cell? w (p_22.add 1) = some (.pointer x43_23)) ∧
        (F51 x43_23 r20_10 w fun r45_31 w =>
        F41 r45_31 w fun r46_32 w =>
        stCs a7_30 [(Value.int .i64 r38_24), (Value.int .i64 r46_32), (Value.int .i64 0), (Value.int .i64 256)] 0 w fun w =>
        J_60 a7_30 w)))) ∧
        (newC 88 [(Value.int .i64 0), (Value.int .i64 0), (Value.int .i64 0), (Value.int .i64 0)] w.drew fun a7_33 w =>
        (World.cell? w (p_22.add 1) = some (.pointer x43_23)) ∧
        (F41 r30_15 w fun r38_34 w =>
        (World.cell? w (p_22.add 1) = some (.pointer x43_23)) ∧
        (F51 x43_23 r20_10 w fun r45_35 w =>
        F41 r45_35 w fun r46_36 w =>
        stCs a7_33 [(Value.int .i64 r38_34), (Value.int .i64 r46_36), (Value.int .i64 0), (Value.int .i64 256)] 0 w fun w =>
        J_60 a7_33 w)))
theorem model_Model_Chance.C_ok : CSound Try.prog model_Model_Chance.C := hcons_ok stage_Stage_Refine.ok (hcons_ok mix_Mixer_Mix.ok (hcons_ok mix_Stretch.ok (hcons_ok guess_Table_At.ok (hcons_ok model_Model_contexts.ok (hnil_ok)))))
def model_Model_Chance.D : Nat → Plan := fun i => (match Nat.beq i 11 with | true => .take 0 (.take 1 (.take 2 (.take 3 (.take 4 (.take 5 (.take 6 (.take 7 (.take 8 (.take 9 (.eff 10 (.take 11 (.take 12 (.take 13 (.take 14 (.done))))))))))))))) | false => (match Nat.beq i 10 with | true => .take 0 (.take 1 (.take 2 (.take 3 (.take 4 (.take 5 (.take 6 (.take 7 (.take 8 (.eff 9 (.take 10 (.done))))))))))) | false => (match Nat.beq i 7 with | true => .take 0 (.take 2 (.take 3 (.take 4 (.take 5 (.take 6 (.take 7 (.eff2 1 (.eff2 8 (.eff2 9 (.take 10 (.eff 11 (.eff 12 (.done)))) 11 (.eff 9 (.take 10 (.eff 12 (.done))))) 11 (.eff 8 (.eff 9 (.take 10 (.eff 12 (.done)))))) 11 (.eff 1 (.eff 8 (.eff 9 (.take 10 (.eff 12 (.done))))))))))))) | false => .done)))
noncomputable def model_Model_Chance.c : Code := Try.f27.body.getD .skip
theorem model_Model_Chance.hb : Try.f27.body = some model_Model_Chance.c := by kernel_rfl
theorem model_Model_Chance.c_loops : loopsOf model_Model_Chance.c = [] := by kernel_rfl
def model_Model_Chance.L : LHd := fun l f w K => False
theorem model_Model_Chance.eqG (F50 : type_of% @model_Model_contexts.f) (F51 : type_of% @guess_Table_At.f) (F41 : type_of% @mix_Stretch.f) (F52 : type_of% @mix_Mixer_Mix.f) (F17 : type_of% @stage_Stage_Refine.f) (a0 : Option Addr) (w : World) (K : Value → World → Prop) : afn (model_Model_Chance.CG F50 F51 F41 F52 F17) model_Model_Chance.L model_Model_Chance.D tab Try.f27 [(Value.pointer a0)] w K = model_Model_Chance.G F50 F51 F41 F52 F17 a0 w (fun r0 w => K (Value.int .i64 r0) w) := by kernel_rfl
theorem model_Model_Chance.eq (a0 : Option Addr) (w : World) (K : Value → World → Prop) : afn model_Model_Chance.C model_Model_Chance.L model_Model_Chance.D tab Try.f27 [(Value.pointer a0)] w K = model_Model_Chance.f a0 w (fun r0 w => K (Value.int .i64 r0) w) := model_Model_Chance.eqG @model_Model_contexts.f @guess_Table_At.f @mix_Stretch.f @mix_Mixer_Mix.f @stage_Stage_Refine.f a0 w K
theorem model_Model_Chance.ok : FSound Try.prog 27 model_Model_Chance.h := by
  intro args w K h
  unfold model_Model_Chance.h model_Model_Chance.H at h
  split at h
  ·
    replace h := vP_ok h
    obtain ⟨a0, rfl, h⟩ := h
    refine ⟨by kernel_rfl, fn_ok tab_ok model_Model_Chance.C_ok (L := model_Model_Chance.L) (D := model_Model_Chance.D) Try.func27 model_Model_Chance.hb (by kernel_rfl) (by rw [model_Model_Chance.c_loops]; exact lnil) (Nat.le_of_ble_eq_true (by kernel_rfl)) ?_⟩
    rw [model_Model_Chance.eq]
    exact h
  · exact h.elim
/-! ### valise/valiselaw08.awake: function 26 -/
def law08_awake.f  (w : World) (K : Bool → World → Prop) : Prop :=
  model_New.f 0 w fun r2_3 w =>
  bif (!r2_3.isNone) then
    model_Model_Chance.f r2_3 w fun r7_5 w =>
    let v0_6 := (r7_5 == 2048)
    K v0_6 w
  else
    K false w
def law08_awake.H (F : type_of% @law08_awake.f) : Hf := fun args w K => match args with
  | [] =>  F  w (fun r0 w => K (Value.bool r0) w)
  | _ => False
def law08_awake.h : Hf := law08_awake.H @law08_awake.f
def law08_awake.C : Hd := hcons 27 model_Model_Chance.h (hcons 24 model_New.h (hnil))
theorem law08_awake.C_ok : CSound Try.prog law08_awake.C := hcons_ok model_Model_Chance.ok (hcons_ok model_New.ok (hnil_ok))
def law08_awake.D : Nat → Plan := fun i => .done
noncomputable def law08_awake.c : Code := Try.f26.body.getD .skip
theorem law08_awake.hb : Try.f26.body = some law08_awake.c := by kernel_rfl
theorem law08_awake.c_loops : loopsOf law08_awake.c = [] := by kernel_rfl
def law08_awake.L : LHd := fun l f w K => False
theorem law08_awake.eq  (w : World) (K : Value → World → Prop) : afn law08_awake.C law08_awake.L law08_awake.D tab Try.f26 [] w K = law08_awake.f  w (fun r0 w => K (Value.bool r0) w) := by kernel_rfl
theorem law08_awake.ok : FSound Try.prog 26 law08_awake.h := by
  intro args w K h
  unfold law08_awake.h law08_awake.H at h
  split at h
  ·
    refine ⟨by kernel_rfl, fn_ok tab_ok law08_awake.C_ok (L := law08_awake.L) (D := law08_awake.D) Try.func26 law08_awake.hb (by kernel_rfl) (by rw [law08_awake.c_loops]; exact lnil) (Nat.le_of_ble_eq_true (by kernel_rfl)) ?_⟩
    rw [law08_awake.eq]
    exact h
  · exact h.elim
/-! ### valise/valiseref05.Chance: function 78 -/
def ref05_Chance.f (a0 : Int) (w : World) (K : Int → World → Prop) : Prop :=
  let v2_3 := (mx 1 (IntKind.wrap .i64 (shr .u16 a0 4)))
  K v2_3 w
def ref05_Chance.H (F : type_of% @ref05_Chance.f) : Hf := fun args w K => match args with
  | [v0] => vI .u16 v0 fun a0 => F a0 w (fun r0 w => K (Value.int .i64 r0) w)
  | _ => False
def ref05_Chance.h : Hf := ref05_Chance.H @ref05_Chance.f
def ref05_Chance.C : Hd := hnil
theorem ref05_Chance.C_ok : CSound Try.prog ref05_Chance.C := hnil_ok
def ref05_Chance.D : Nat → Plan := fun i => .done
noncomputable def ref05_Chance.c : Code := Try.f78.body.getD .skip
theorem ref05_Chance.hb : Try.f78.body = some ref05_Chance.c := by kernel_rfl
theorem ref05_Chance.c_loops : loopsOf ref05_Chance.c = [] := by kernel_rfl
def ref05_Chance.L : LHd := fun l f w K => False
theorem ref05_Chance.eq (a0 : Int) (w : World) (K : Value → World → Prop) : afn ref05_Chance.C ref05_Chance.L ref05_Chance.D tab Try.f78 [(Value.int .u16 a0)] w K = ref05_Chance.f a0 w (fun r0 w => K (Value.int .i64 r0) w) := by kernel_rfl
theorem ref05_Chance.ok : FSound Try.prog 78 ref05_Chance.h := by
  intro args w K h
  unfold ref05_Chance.h ref05_Chance.H at h
  split at h
  ·
    replace h := vI_ok h
    obtain ⟨a0, rfl, h⟩ := h
    refine ⟨by kernel_rfl, fn_ok tab_ok ref05_Chance.C_ok (L := ref05_Chance.L) (D := ref05_Chance.D) Try.func78 ref05_Chance.hb (by kernel_rfl) (by rw [ref05_Chance.c_loops]; exact lnil) (Nat.le_of_ble_eq_true (by kernel_rfl)) ?_⟩
    rw [ref05_Chance.eq]
    exact h
  · exact h.elim
/-! ### (*valise/valiseref05.Table).At: function 53 -/
def ref05_Table_At.f (a0 : Option Addr) (a1 : Int) (w : World) (K : Int → World → Prop) : Prop :=
  sm a0 fun p_3 =>
  ldL p_3 w.drew fun x8_4 x8_4n x8_4c =>
  sm a0 fun p_5 =>
  ldL p_5 w.drew fun x13_6 x13_6n x13_6c =>
  ref05_Round.f a1 ((x13_6n : Nat) : Int) w.drew fun r15_7 w =>
  (World.cell? w p_5 = some (.slice x13_6 x13_6n x13_6c)) ∧
  ((World.cell? w p_3 = some (.slice x8_4 x8_4n x8_4c)) ∧
  (sm x8_4 fun p_8 =>
  if 0 ≤ (r15_7 : Int) ∧ (r15_7 : Int) < ((x8_4n : Nat) : Int) then
  ldI .u16 (p_8.add (Int.toNat r15_7)) w fun x17_9 =>
  ref05_Chance.f x17_9 w fun r18_10 w =>
  (World.cell? w p_5 = some (.slice x13_6 x13_6n x13_6c)) ∧
  ((World.cell? w p_3 = some (.slice x8_4 x8_4n x8_4c)) ∧
  (K r18_10 w))
  else False))
def ref05_Table_At.H (F : type_of% @ref05_Table_At.f) : Hf := fun args w K => match args with
  | [v0, v1] => vP v0 fun a0 => vI .i64 v1 fun a1 => F a0 a1 w (fun r0 w => K (Value.int .i64 r0) w)
  | _ => False
def ref05_Table_At.h : Hf := ref05_Table_At.H @ref05_Table_At.f
def ref05_Table_At.C : Hd := hcons 78 ref05_Chance.h (hcons 44 ref05_Round.h (hnil))
theorem ref05_Table_At.C_ok : CSound Try.prog ref05_Table_At.C := hcons_ok ref05_Chance.ok (hcons_ok ref05_Round.ok (hnil_ok))
def ref05_Table_At.D : Nat → Plan := fun i => (match Nat.beq i 1 with | true => .take 0 (.take 1 (.take 2 (.take 3 (.take 4 (.take 5 (.take 6 (.take 7 (.take 8 (.take 9 (.eff 10 (.take 11 (.take 12 (.eff 13 (.take 14 (.done))))))))))))))) | false => .done)
noncomputable def ref05_Table_At.c : Code := Try.f53.body.getD .skip
theorem ref05_Table_At.hb : Try.f53.body = some ref05_Table_At.c := by kernel_rfl
theorem ref05_Table_At.c_loops : loopsOf ref05_Table_At.c = [] := by kernel_rfl
def ref05_Table_At.L : LHd := fun l f w K => False
theorem ref05_Table_At.eq (a0 : Option Addr) (a1 : Int) (w : World) (K : Value → World → Prop) : afn ref05_Table_At.C ref05_Table_At.L ref05_Table_At.D tab Try.f53 [(Value.pointer a0), (Value.int .i64 a1)] w K = ref05_Table_At.f a0 a1 w (fun r0 w => K (Value.int .i64 r0) w) := by kernel_rfl
theorem ref05_Table_At.ok : FSound Try.prog 53 ref05_Table_At.h := by
  intro args w K h
  unfold ref05_Table_At.h ref05_Table_At.H at h
  split at h
  ·
    replace h := vP_ok h
    obtain ⟨a0, rfl, h⟩ := h
    replace h := vI_ok h
    obtain ⟨a1, rfl, h⟩ := h
    refine ⟨by kernel_rfl, fn_ok tab_ok ref05_Table_At.C_ok (L := ref05_Table_At.L) (D := ref05_Table_At.D) Try.func53 ref05_Table_At.hb (by kernel_rfl) (by rw [ref05_Table_At.c_loops]; exact lnil) (Nat.le_of_ble_eq_true (by kernel_rfl)) ?_⟩
    rw [ref05_Table_At.eq]
    exact h
  · exact h.elim
/-! ### (*valise/valiseref08.Model).third: function 54 -/
def ref08_Model_third.f (a0 : Option Addr) (w : World) (K : Int → World → Prop) : Prop :=
  sm a0 fun p_3 =>
  ldI .i64 (p_3.add 8) w.drew fun x6_4 =>
  sm a0 fun p_5 =>
  ldI .i64 (p_5.add 7) w.drew fun x11_6 =>
  sm a0 fun p_7 =>
  ldI .i64 (p_7.add 6) w.drew fun x17_8 =>
  let v2_9 := (Int.tmod (IntKind.wrap .i64 ((IntKind.wrap .i64 ((IntKind.wrap .i64 ((IntKind.wrap .i64 (x6_4 * 256)) + x11_6)) * 40503)) + (IntKind.wrap .i64 (x17_8 * 7919)))) 65536)
  K v2_9 w.drew
def ref08_Model_third.H (F : type_of% @ref08_Model_third.f) : Hf := fun args w K => match args with
  | [v0] => vP v0 fun a0 => F a0 w (fun r0 w => K (Value.int .i64 r0) w)
  | _ => False
def ref08_Model_third.h : Hf := ref08_Model_third.H @ref08_Model_third.f
def ref08_Model_third.C : Hd := hnil
theorem ref08_Model_third.C_ok : CSound Try.prog ref08_Model_third.C := hnil_ok
def ref08_Model_third.D : Nat → Plan := fun i => (match Nat.beq i 1 with | true => .take 0 (.take 1 (.take 2 (.take 3 (.take 4 (.take 5 (.take 6 (.take 7 (.take 8 (.take 9 (.take 10 (.take 11 (.take 12 (.take 13 (.take 14 (.take 15 (.take 16 (.take 17 (.take 18 (.done))))))))))))))))))) | false => .done)
noncomputable def ref08_Model_third.c : Code := Try.f54.body.getD .skip
theorem ref08_Model_third.hb : Try.f54.body = some ref08_Model_third.c := by kernel_rfl
theorem ref08_Model_third.c_loops : loopsOf ref08_Model_third.c = [] := by kernel_rfl
def ref08_Model_third.L : LHd := fun l f w K => False
theorem ref08_Model_third.eq (a0 : Option Addr) (w : World) (K : Value → World → Prop) : afn ref08_Model_third.C ref08_Model_third.L ref08_Model_third.D tab Try.f54 [(Value.pointer a0)] w K = ref08_Model_third.f a0 w (fun r0 w => K (Value.int .i64 r0) w) := by kernel_rfl
theorem ref08_Model_third.ok : FSound Try.prog 54 ref08_Model_third.h := by
  intro args w K h
  unfold ref08_Model_third.h ref08_Model_third.H at h
  split at h
  ·
    replace h := vP_ok h
    obtain ⟨a0, rfl, h⟩ := h
    refine ⟨by kernel_rfl, fn_ok tab_ok ref08_Model_third.C_ok (L := ref08_Model_third.L) (D := ref08_Model_third.D) Try.func54 ref08_Model_third.hb (by kernel_rfl) (by rw [ref08_Model_third.c_loops]; exact lnil) (Nat.le_of_ble_eq_true (by kernel_rfl)) ?_⟩
    rw [ref08_Model_third.eq]
    exact h
  · exact h.elim
/-! ### (*valise/valiseref08.Model).second: function 56 -/
def ref08_Model_second.f (a0 : Option Addr) (w : World) (K : Int → World → Prop) : Prop :=
  sm a0 fun p_3 =>
  ldI .i64 (p_3.add 7) w.drew fun x6_4 =>
  sm a0 fun p_5 =>
  ldI .i64 (p_5.add 6) w.drew fun x11_6 =>
  let v2_7 := (IntKind.wrap .i64 ((IntKind.wrap .i64 (x6_4 * 256)) + x11_6))
  K v2_7 w.drew
def ref08_Model_second.H (F : type_of% @ref08_Model_second.f) : Hf := fun args w K => match args with
  | [v0] => vP v0 fun a0 => F a0 w (fun r0 w => K (Value.int .i64 r0) w)
  | _ => False
def ref08_Model_second.h : Hf := ref08_Model_second.H @ref08_Model_second.f
def ref08_Model_second.C : Hd := hnil
theorem ref08_Model_second.C_ok : CSound Try.prog ref08_Model_second.C := hnil_ok
def ref08_Model_second.D : Nat → Plan := fun i => (match Nat.beq i 1 with | true => .take 0 (.take 1 (.take 2 (.take 3 (.take 4 (.take 5 (.take 6 (.take 7 (.take 8 (.take 9 (.take 10 (.done))))))))))) | false => .done)
noncomputable def ref08_Model_second.c : Code := Try.f56.body.getD .skip
theorem ref08_Model_second.hb : Try.f56.body = some ref08_Model_second.c := by kernel_rfl
theorem ref08_Model_second.c_loops : loopsOf ref08_Model_second.c = [] := by kernel_rfl
def ref08_Model_second.L : LHd := fun l f w K => False
theorem ref08_Model_second.eq (a0 : Option Addr) (w : World) (K : Value → World → Prop) : afn ref08_Model_second.C ref08_Model_second.L ref08_Model_second.D tab Try.f56 [(Value.pointer a0)] w K = ref08_Model_second.f a0 w (fun r0 w => K (Value.int .i64 r0) w) := by kernel_rfl
theorem ref08_Model_second.ok : FSound Try.prog 56 ref08_Model_second.h := by
  intro args w K h
  unfold ref08_Model_second.h ref08_Model_second.H at h
  split at h
  ·
    replace h := vP_ok h
    obtain ⟨a0, rfl, h⟩ := h
    refine ⟨by kernel_rfl, fn_ok tab_ok ref08_Model_second.C_ok (L := ref08_Model_second.L) (D := ref08_Model_second.D) Try.func56 ref08_Model_second.hb (by kernel_rfl) (by rw [ref08_Model_second.c_loops]; exact lnil) (Nat.le_of_ble_eq_true (by kernel_rfl)) ?_⟩
    rw [ref08_Model_second.eq]
    exact h
  · exact h.elim
/-! ### (*valise/valiseref06.Mixer).Mix: function 55 -/
def ref06_Mixer_Mix.l4 : Nat → Option Addr → Option Addr → Nat → Nat → Int → Int → World → (Option Addr → Int → World → Prop) → Prop
  | 0, _, _, _, _, _, _, _, _ => False
  | N + 1, y0, y2, y2n, y2c, y7, y8, w, K0 =>
    bif (decide (y8 < 4)) then
      let J_37 := fun (j9_21 : Int) (w : World) =>
        ((sm y0 fun p_23 =>
        ldL (p_23.add 1) w fun x44_24 x44_24n x44_24c =>
        newC 3 [(Value.int .i64 j9_21)] w fun a46_25 w =>
        appL 3 1 8 [(Value.int .i64 0)] x44_24 x44_24n x44_24c (some a46_25) 1 1 w fun a47_26 a47_26n a47_26c w =>
        sm y0 fun p_27 =>
        stC (p_27.add 1) (Value.slice a47_26 a47_26n a47_26c) w fun w =>
        sm y0 fun p_28 =>
        ldL p_28 w.drew fun x55_29 x55_29n x55_29c =>
        sm y0 fun p_30 =>
        ldI .i64 (p_30.add 2) w.drew fun x59_31 =>
        sm x55_29 fun p_32 =>
        if 0 ≤ (x59_31 : Int) ∧ (x59_31 : Int) < ((x55_29n : Nat) : Int) then
        ldL (p_32.add (Int.toNat x59_31)) w.drew fun x61_33 x61_33n x61_33c =>
        sm x61_33 fun p_34 =>
        if 0 ≤ (y8 : Int) ∧ (y8 : Int) < ((x61_33n : Nat) : Int) then
        ldI .i64 (p_34.add (Int.toNat y8)) w.drew fun x64_35 =>
        let v7_36 := (IntKind.wrap .i64 (y7 + (IntKind.wrap .i64 (j9_21 * x64_35))))
        let v8_38 := (IntKind.wrap .i64 (y8 + 1))
        ref06_Mixer_Mix.l4 N y0 y2 y2n y2c v7_36 v8_38 w.drew K0
        else False
        else False) : Prop)
      bif (decide (y8 < ((y2n : Nat) : Int))) then
        sm y2 fun p_18 =>
        if 0 ≤ (y8 : Int) ∧ (y8 : Int) < ((y2n : Nat) : Int) then
        ldI .i64 (p_18.add (Int.toNat y8)) w fun x37_19 =>
        let v9_20 := (mx (-2047) (mn x37_19 2047))
        J_37 v9_20 w
        else False
      else
        J_37 0 w
    else
      K0 y0 y7 w

def ref06_Mixer_Mix.f (a0 : Option Addr) (a1 : Int) (a2 : Option Addr) (a2n : Nat) (a2c : Nat) (w : World) (K : Int → World → Prop) : Prop :=
  sm a0 fun p_3 =>
  ldL p_3 w fun x17_4 x17_4n x17_4c =>
  ref05_Round.f a1 ((x17_4n : Nat) : Int) w fun r19_5 w =>
  sm a0 fun p_6 =>
  stC (p_6.add 2) (Value.int .i64 r19_5) w fun w =>
  sm a0 fun p_7 =>
  stC (p_7.add 1) (Value.slice none 0 0) w fun w =>
  sm a0 fun p_8 =>
  stC (p_8.add 4) (Value.bool true) w fun w =>
  ∃ N_39 : Nat, ref06_Mixer_Mix.l4 N_39 a0 a2 a2n a2c 0 0 w
  (fun o0_40 o7_41 w =>
    ref06_Squash.f (shr .i64 o7_41 16) w fun r70_43 w =>
    sm o0_40 fun p_44 =>
    stC (p_44.add 3) (Value.int .i64 r70_43) w fun w =>
    sm o0_40 fun p_46 =>
    ldI .i64 (p_46.add 3) w fun x76_47 =>
    K x76_47 w)
def ref06_Mixer_Mix.H (F : type_of% @ref06_Mixer_Mix.f) : Hf := fun args w K => match args with
  | [v0, v1, v2] => vP v0 fun a0 => vI .i64 v1 fun a1 => vL v2 fun a2 a2n a2c => F a0 a1 a2 a2n a2c w (fun r0 w => K (Value.int .i64 r0) w)
  | _ => False
def ref06_Mixer_Mix.h : Hf := ref06_Mixer_Mix.H @ref06_Mixer_Mix.f
def ref06_Mixer_Mix.C : Hd := hcons 43 ref06_Squash.h (hcons 44 ref05_Round.h (hnil))
theorem ref06_Mixer_Mix.C_ok : CSound Try.prog ref06_Mixer_Mix.C := hcons_ok ref06_Squash.ok (hcons_ok ref05_Round.ok (hnil_ok))
def ref06_Mixer_Mix.D : Nat → Plan := fun i => (match Nat.beq i 10 with | true => .take 0 (.take 1 (.take 2 (.take 3 (.take 4 (.take 5 (.take 6 (.take 7 (.take 8 (.take 9 (.take 10 (.take 11 (.take 12 (.take 13 (.take 14 (.take 15 (.take 16 (.take 17 (.done)))))))))))))))))) | false => .done)
noncomputable def ref06_Mixer_Mix.c : Code := Try.f55.body.getD .skip
theorem ref06_Mixer_Mix.hb : Try.f55.body = some ref06_Mixer_Mix.c := by kernel_rfl
noncomputable def ref06_Mixer_Mix.b0 : Code := (loopsOf ref06_Mixer_Mix.c).getD 0 .skip
theorem ref06_Mixer_Mix.b0_loops : loopsOf ref06_Mixer_Mix.b0 = [] := by kernel_rfl
theorem ref06_Mixer_Mix.c_loops : loopsOf ref06_Mixer_Mix.c = [ref06_Mixer_Mix.b0] := by kernel_rfl
def ref06_Mixer_Mix.hn4 (N : Nat) (f : Fr) (w : World) (K : AExit → Fr → World → Prop) : Prop :=
  gN f 77 <| gP f 0 fun y0 => gL f 2 fun y2 y2n y2c => gI .i64 f 7 fun y7 => gI .i64 f 8 fun y8 => ref06_Mixer_Mix.l4 N y0 y2 y2n y2c y7 y8 w (fun o0 o7 w => K (.exit 0) [some (Value.pointer o0), none, none, none, none, none, none, some (Value.int .i64 o7), none, none, none, none, none, none, none, none, none, none, none, none, none, none, none, none, none, none, none, none, none, none, none, none, none, none, none, none, none, none, none, none, none, none, none, none, none, none, none, none, none, none, none, none, none, none, none, none, none, none, none, none, none, none, none, none, none, none, none, none, none, none, none, none, none, none, none, none, none] w)
def ref06_Mixer_Mix.hx4 : AExit → Fr → World → (AExit → Fr → World → Prop) → Prop := fun e f w K => match e with
  | .normal => False
  | .exit i => (match Nat.beq i 0 with | true => gN f 77 <| gP f 0 fun o0 => gI .i64 f 7 fun o7 => K (.exit 0) [some (Value.pointer o0), none, none, none, none, none, none, some (Value.int .i64 o7), none, none, none, none, none, none, none, none, none, none, none, none, none, none, none, none, none, none, none, none, none, none, none, none, none, none, none, none, none, none, none, none, none, none, none, none, none, none, none, none, none, none, none, none, none, none, none, none, none, none, none, none, none, none, none, none, none, none, none, none, none, none, none, none, none, none, none, none, none] w | false => False)
  | .ret => False
def ref06_Mixer_Mix.L : LHd := fun l f w K => (match Nat.beq l 4 with | true => ∃ N, ref06_Mixer_Mix.hn4 N f w K | false => False)
theorem ref06_Mixer_Mix.le4 (N : Nat) (y0 : Option Addr) (y2 : Option Addr) (y2n : Nat) (y2c : Nat) (y7 : Int) (y8 : Int) (w : World) (K : AExit → Fr → World → Prop) : awp ref06_Mixer_Mix.C ref06_Mixer_Mix.L ref06_Mixer_Mix.D tab ref06_Mixer_Mix.b0 (lpost ref06_Mixer_Mix.hn4 ref06_Mixer_Mix.hx4 N K) [some (Value.pointer y0), none, some (Value.slice y2 y2n y2c), none, none, none, none, some (Value.int .i64 y7), some (Value.int .i64 y8), none, none, none, none, none, none, none, none, none, none, none, none, none, none, none, none, none, none, none, none, none, none, none, none, none, none, none, none, none, none, none, none, none, none, none, none, none, none, none, none, none, none, none, none, none, none, none, none, none, none, none, none, none, none, none, none, none, none, none, none, none, none, none, none, none, none, none, none] w = ref06_Mixer_Mix.l4 (N + 1) y0 y2 y2n y2c y7 y8 w (fun o0 o7 w => K (.exit 0) [some (Value.pointer o0), none, none, none, none, none, none, some (Value.int .i64 o7), none, none, none, none, none, none, none, none, none, none, none, none, none, none, none, none, none, none, none, none, none, none, none, none, none, none, none, none, none, none, none, none, none, none, none, none, none, none, none, none, none, none, none, none, none, none, none, none, none, none, none, none, none, none, none, none, none, none, none, none, none, none, none, none, none, none, none, none, none] w) := by kernel_rfl
theorem ref06_Mixer_Mix.lok4 : LoopOk Try.prog ref06_Mixer_Mix.L ref06_Mixer_Mix.b0 := by
  refine loop_ok tab_ok ref06_Mixer_Mix.C_ok (D := ref06_Mixer_Mix.D) (ref06_Mixer_Mix.hn4) (ref06_Mixer_Mix.hx4) (by kernel_rfl) (by rw [ref06_Mixer_Mix.b0_loops]; exact lnil) ?_ ?_ ?_ ?_
  · intro f w K h
    unfold ref06_Mixer_Mix.hn4 at h
    obtain ⟨hlen, h⟩ := gN_ok h
    obtain ⟨y0, h0, h⟩ := gP_ok h
    obtain ⟨y2, y2n, y2c, h2, h⟩ := gL_ok h
    obtain ⟨y7, h7, h⟩ := gI_ok h
    obtain ⟨y8, h8, h⟩ := gI_ok h
    exact h
  · intro N f w K h
    unfold ref06_Mixer_Mix.hn4 at h
    obtain ⟨hlen, h⟩ := gN_ok h
    obtain ⟨y0, h0, h⟩ := gP_ok h
    obtain ⟨y2, y2n, y2c, h2, h⟩ := gL_ok h
    obtain ⟨y7, h7, h⟩ := gI_ok h
    obtain ⟨y8, h8, h⟩ := gI_ok h
    refine ⟨[some (Value.pointer y0), none, some (Value.slice y2 y2n y2c), none, none, none, none, some (Value.int .i64 y7), some (Value.int .i64 y8), none, none, none, none, none, none, none, none, none, none, none, none, none, none, none, none, none, none, none, none, none, none, none, none, none, none, none, none, none, none, none, none, none, none, none, none, none, none, none, none, none, none, none, none, none, none, none, none, none, none, none, none, none, none, none, none, none, none, none, none, none, none, none, none, none, none, none, none], hlen, ⟨h0, h2, h7, h8, trivial⟩, ?_⟩
    rw [ref06_Mixer_Mix.le4]
    exact h
  · intro e f w K h
    cases e with
    | normal => exact h.elim
    | exit i =>
      unfold ref06_Mixer_Mix.hx4 at h
      simp only at h
      split at h
      · rename_i hb
        obtain rfl := Nat.eq_of_beq_eq_true hb
        obtain ⟨hlen, h⟩ := gN_ok h
        obtain ⟨o0, h0, h⟩ := gP_ok h
        obtain ⟨o7, h7, h⟩ := gI_ok h
        exact ⟨[some (Value.pointer o0), none, none, none, none, none, none, some (Value.int .i64 o7), none, none, none, none, none, none, none, none, none, none, none, none, none, none, none, none, none, none, none, none, none, none, none, none, none, none, none, none, none, none, none, none, none, none, none, none, none, none, none, none, none, none, none, none, none, none, none, none, none, none, none, none, none, none, none, none, none, none, none, none, none, none, none, none, none, none, none, none, none], hlen, ⟨h0, h7, trivial⟩, h⟩
      · exact (show False from h).elim
    | ret =>
      exact (show False from h).elim
  · intro f w K h
    have e : lid ref06_Mixer_Mix.b0 = 4 := by kernel_rfl
    rw [e] at h
    exact h
theorem ref06_Mixer_Mix.eq (a0 : Option Addr) (a1 : Int) (a2 : Option Addr) (a2n : Nat) (a2c : Nat) (w : World) (K : Value → World → Prop) : afn ref06_Mixer_Mix.C ref06_Mixer_Mix.L ref06_Mixer_Mix.D tab Try.f55 [(Value.pointer a0), (Value.int .i64 a1), (Value.slice a2 a2n a2c)] w K = ref06_Mixer_Mix.f a0 a1 a2 a2n a2c w (fun r0 w => K (Value.int .i64 r0) w) := by kernel_rfl
theorem ref06_Mixer_Mix.ok : FSound Try.prog 55 ref06_Mixer_Mix.h := by
  intro args w K h
  unfold ref06_Mixer_Mix.h ref06_Mixer_Mix.H at h
  split at h
  ·
    replace h := vP_ok h
    obtain ⟨a0, rfl, h⟩ := h
    replace h := vI_ok h
    obtain ⟨a1, rfl, h⟩ := h
    replace h := vL_ok h
    obtain ⟨a2, a2n, a2c, rfl, h⟩ := h
    refine ⟨by kernel_rfl, fn_ok tab_ok ref06_Mixer_Mix.C_ok (L := ref06_Mixer_Mix.L) (D := ref06_Mixer_Mix.D) Try.func55 ref06_Mixer_Mix.hb (by kernel_rfl) (by rw [ref06_Mixer_Mix.c_loops]; exact lcons ref06_Mixer_Mix.lok4 (lnil)) (Nat.le_of_ble_eq_true (by kernel_rfl)) ?_⟩
    rw [ref06_Mixer_Mix.eq]
    exact h
  · exact h.elim
/-! ### (*valise/valiseref08.Model).Chance: function 28 -/
def ref08_Model_Chance.f (a0 : Option Addr) (w : World) (K : Int → World → Prop) : Prop :=
  sm a0 fun p_4 =>
  ldI .i64 p_4 w fun x8_5 =>
  bif (x8_5 == 0) then
    sm a0 fun p_7 =>
    ldP (p_7.add 1) w.drew fun x13_8 =>
    sm a0 fun p_9 =>
    ldI .i64 (p_9.add 6) w.drew fun x17_10 =>
    ref05_Table_At.f x13_8 x17_10 w.drew fun r18_11 w =>
    K r18_11 w
  else
    let J_48 := fun (j3_22 : Int) (w : World) =>
      ((sm a0 fun p_24 =>
      ldP (p_24.add 4) w.drew fun x35_25 =>
      sm a0 fun p_26 =>
      ldI .i64 (p_26.add 6) w.drew fun x39_27 =>
      sm a0 fun p_28 =>
      ldP (p_28.add 1) w.drew fun x43_29 =>
      sm a0 fun p_30 =>
      ldI .i64 (p_30.add 6) w.drew fun x47_31 =>
      sm a0 fun p_32 =>
      ldP (p_32.add 2) w.drew fun x53_33 =>
      ref05_Table_At.f x43_29 x47_31 w.drew fun r48_34 w =>
      (World.cell? w (p_32.add 2) = some (.pointer x53_33)) ∧
      ((World.cell? w (p_26.add 6) = some (.int .i64 x39_27)) ∧
      ((World.cell? w (p_24.add 4) = some (.pointer x35_25)) ∧
      (ref06_Stretch.f r48_34 w fun r49_35 w =>
      (World.cell? w (p_32.add 2) = some (.pointer x53_33)) ∧
      ((World.cell? w (p_26.add 6) = some (.int .i64 x39_27)) ∧
      ((World.cell? w (p_24.add 4) = some (.pointer x35_25)) ∧
      (ref08_Model_second.f a0 w fun r55_36 w =>
      (World.cell? w (p_32.add 2) = some (.pointer x53_33)) ∧
      ((World.cell? w (p_26.add 6) = some (.int .i64 x39_27)) ∧
      ((World.cell? w (p_24.add 4) = some (.pointer x35_25)) ∧
      (ref05_Table_At.f x53_33 r55_36 w fun r56_37 w =>
      (World.cell? w (p_26.add 6) = some (.int .i64 x39_27)) ∧
      ((World.cell? w (p_24.add 4) = some (.pointer x35_25)) ∧
      (ref06_Stretch.f r56_37 w fun r57_38 w =>
      (World.cell? w (p_26.add 6) = some (.int .i64 x39_27)) ∧
      ((World.cell? w (p_24.add 4) = some (.pointer x35_25)) ∧
      (newC 3 [(Value.int .i64 r49_35), (Value.int .i64 r57_38), (Value.int .i64 j3_22), (Value.int .i64 256)] w fun a59_39 w =>
      (World.cell? w (p_26.add 6) = some (.int .i64 x39_27)) ∧
      ((World.cell? w (p_24.add 4) = some (.pointer x35_25)) ∧
      (ref06_Mixer_Mix.f x35_25 x39_27 (some a59_39) 4 4 w fun r60_40 w =>
      sm a0 fun p_42 =>
      ldP (p_42.add 5) w.drew fun x65_43 =>
      sm a0 fun p_44 =>
      ldI .i64 (p_44.add 6) w.drew fun x70_45 =>
      ref07_Stage_Refine.f x65_43 r60_40 x70_45 w.drew fun r71_46 w =>
      let v2_47 := (IntKind.wrap .i64 (Int.tdiv (IntKind.wrap .i64 (r60_40 + (IntKind.wrap .i64 (3 * r71_46)))) 4))
      K v2_47 w)))))))))))))))) : Prop)
    sm a0 fun p_15 =>
    ldI .i64 p_15 w fun x22_16 =>
    bif (x22_16 == 2) then
      sm a0 fun p_17 =>
      ldP (p_17.add 3) w.drew fun x27_18 =>
      ref08_Model_third.f a0 w.drew fun r29_19 w =>
      (World.cell? w (p_17.add 3) = some (.pointer x27_18)) ∧
      (ref05_Table_At.f x27_18 r29_19 w fun r30_20 w =>
      ref06_Stretch.f r30_20 w fun r31_21 w =>
      J_48 r31_21 w)
    else
      J_48 0 w
def ref08_Model_Chance.H (F : type_of% @ref08_Model_Chance.f) : Hf := fun args w K => match args with
  | [v0] => vP v0 fun a0 => F a0 w (fun r0 w => K (Value.int .i64 r0) w)
  | _ => False
def ref08_Model_Chance.h : Hf := ref08_Model_Chance.H @ref08_Model_Chance.f
def ref08_Model_Chance.CG (F53 : type_of% @ref05_Table_At.f) (F54 : type_of% @ref08_Model_third.f) (F45 : type_of% @ref06_Stretch.f) (F56 : type_of% @ref08_Model_second.f) (F55 : type_of% @ref06_Mixer_Mix.f) (F21 : type_of% @ref07_Stage_Refine.f) : Hd := hcons 21 (ref07_Stage_Refine.H F21) (hcons 55 (ref06_Mixer_Mix.H F55) (hcons 56 (ref08_Model_second.H F56) (hcons 45 (ref06_Stretch.H F45) (hcons 54 (ref08_Model_third.H F54) (hcons 53 (ref05_Table_At.H F53) (hnil))))))
def ref08_Model_Chance.C : Hd := ref08_Model_Chance.CG @ref05_Table_At.f @ref08_Model_third.f @ref06_Stretch.f @ref08_Model_second.f @ref06_Mixer_Mix.f @ref07_Stage_Refine.f
def ref08_Model_Chance.G (F53 : type_of% @ref05_Table_At.f) (F54 : type_of% @ref08_Model_third.f) (F45 : type_of% @ref06_Stretch.f) (F56 : type_of% @ref08_Model_second.f) (F55 : type_of% @ref06_Mixer_Mix.f) (F21 : type_of% @ref07_Stage_Refine.f) (a0 : Option Addr) (w : World) (K : Int → World → Prop) : Prop :=
  sm a0 fun p_4 =>
  ldI .i64 p_4 w fun x8_5 =>
  bif (x8_5 == 0) then
    sm a0 fun p_7 =>
    ldP (p_7.add 1) w.drew fun x13_8 =>
    sm a0 fun p_9 =>
    ldI .i64 (p_9.add 6) w.drew fun x17_10 =>
    F53 x13_8 x17_10 w.drew fun r18_11 w =>
    K r18_11 w
  else
    let J_48 := fun (j3_22 : Int) (w : World) =>
      ((sm a0 fun p_24 =>
      ldP (p_24.add 4) w.drew fun x35_25 =>
      sm a0 fun p_26 =>
      ldI .i64 (p_26.add 6) w.drew fun x39_27 =>
      sm a0 fun p_28 =>
      ldP (p_28.add 1) w.drew fun x43_29 =>
      sm a0 fun p_30 =>
      ldI .i64 (p_30.add 6) w.drew fun x47_31 =>
      sm a0 fun p_32 =>
      ldP (p_32.add 2) w.drew fun x53_33 =>
      F53 x43_29 x47_31 w.drew fun r48_34 w =>
      (World.cell? w (p_32.add 2) = some (.pointer x53_33)) ∧
      ((World.cell? w (p_26.add 6) = some (.int .i64 x39_27)) ∧
      ((World.cell? w (p_24.add 4) = some (.pointer x35_25)) ∧
      (F45 r48_34 w fun r49_35 w =>
      (World.cell? w (p_32.add 2) = some (.pointer x53_33)) ∧
      ((World.cell? w (p_26.add 6) = some (.int .i64 x39_27)) ∧
      ((World.cell? w (p_24.add 4) = some (.pointer x35_25)) ∧
      (F56 a0 w fun r55_36 w =>
      (World.cell? w (p_32.add 2) = some (.pointer x53_33)) ∧
      ((World.cell? w (p_26.add 6) = some (.int .i64 x39_27)) ∧
      ((World.cell? w (p_24.add 4) = some (.pointer x35_25)) ∧
      (F53 x53_33 r55_36 w fun r56_37 w =>
      (World.cell? w (p_26.add 6) = some (.int .i64 x39_27)) ∧
      ((World.cell? w (p_24.add 4) = some (.pointer x35_25)) ∧
      (F45 r56_37 w fun r57_38 w =>
      (World.cell? w (p_26.add 6) = some (.int .i64 x39_27)) ∧
      ((World.cell? w (p_24.add 4) = some (.pointer x35_25)) ∧
      (newC 3 [(Value.int .i64 r49_35), (Value.int .i64 r57_38), (Value.int .i64 j3_22), (Value.int .i64 256)] w fun a59_39 w =>
      (World.cell? w (p_26.add 6) = some (.int .i64 x39_27)) ∧
      ((World.cell? w (p_24.add 4) = some (.pointer x35_25)) ∧
      (F55 x35_25 x39_27 (some a59_39) 4 4 w fun r60_40 w =>
      sm a0 fun p_42 =>
      ldP (p_42.add 5) w.drew fun x65_43 =>
      sm a0 fun p_44 =>
      ldI .i64 (p_44.add 6) w.drew fun x70_45 =>
      F21 x65_43 r60_40 x70_45 w.drew fun r71_46 w =>
      let v2_47 := (IntKind.wrap .i64 (Int.tdiv (IntKind.wrap .i64 (r60_40 + (IntKind.wrap .i64 (3 * r71_46)))) 4))
      K v2_47 w)))))))))))))))) : Prop)
    sm a0 fun p_15 =>
    ldI .i64 p_15 w fun x22_16 =>
    bif (x22_16 == 2) then
      sm a0 fun p_17 =>
      ldP (p_17.add 3) w.drew fun x27_18 =>
      F54 a0 w.drew fun r29_19 w =>
      (World.cell? w (p_17.add 3) = some (.pointer x27_18)) ∧
      (F53 x27_18 r29_19 w fun r30_20 w =>
      F45 r30_20 w fun r31_21 w =>
      J_48 r31_21 w)
    else
      J_48 0 w
theorem ref08_Model_Chance.C_ok : CSound Try.prog ref08_Model_Chance.C := hcons_ok ref07_Stage_Refine.ok (hcons_ok ref06_Mixer_Mix.ok (hcons_ok ref08_Model_second.ok (hcons_ok ref06_Stretch.ok (hcons_ok ref08_Model_third.ok (hcons_ok ref05_Table_At.ok (hnil_ok))))))
def ref08_Model_Chance.D : Nat → Plan := fun i => (match Nat.beq i 7 with | true => .take 0 (.take 1 (.take 2 (.take 3 (.take 4 (.take 5 (.take 6 (.take 7 (.take 8 (.take 9 (.eff 10 (.take 11 (.take 12 (.take 13 (.take 14 (.done))))))))))))))) | false => (match Nat.beq i 6 with | true => .take 0 (.take 1 (.take 2 (.take 3 (.take 4 (.take 5 (.take 6 (.take 7 (.take 8 (.take 9 (.take 10 (.take 11 (.take 12 (.take 13 (.take 14 (.take 15 (.take 18 (.take 19 (.take 20 (.take 21 (.take 22 (.take 26 (.eff 16 (.eff 17 (.eff 23 (.eff 24 (.eff 25 (.eff 27 (.eff 28 (.take 29 (.done)))))))))))))))))))))))))))))) | false => (match Nat.beq i 5 with | true => .take 0 (.take 1 (.take 2 (.take 3 (.take 4 (.eff 5 (.eff 6 (.eff 7 (.take 8 (.done))))))))) | false => (match Nat.beq i 2 with | true => .take 0 (.take 1 (.take 2 (.take 3 (.take 4 (.take 5 (.take 6 (.take 7 (.eff 8 (.take 9 (.done)))))))))) | false => .done))))
noncomputable def ref08_Model_Chance.c : Code := Try.f28.body.getD .skip
theorem ref08_Model_Chance.hb : Try.f28.body = some ref08_Model_Chance.c := by kernel_rfl
theorem ref08_Model_Chance.c_loops : loopsOf ref08_Model_Chance.c = [] := by kernel_rfl
def ref08_Model_Chance.L : LHd := fun l f w K => False
theorem ref08_Model_Chance.eqG (F53 : type_of% @ref05_Table_At.f) (F54 : type_of% @ref08_Model_third.f) (F45 : type_of% @ref06_Stretch.f) (F56 : type_of% @ref08_Model_second.f) (F55 : type_of% @ref06_Mixer_Mix.f) (F21 : type_of% @ref07_Stage_Refine.f) (a0 : Option Addr) (w : World) (K : Value → World → Prop) : afn (ref08_Model_Chance.CG F53 F54 F45 F56 F55 F21) ref08_Model_Chance.L ref08_Model_Chance.D tab Try.f28 [(Value.pointer a0)] w K = ref08_Model_Chance.G F53 F54 F45 F56 F55 F21 a0 w (fun r0 w => K (Value.int .i64 r0) w) := by kernel_rfl
theorem ref08_Model_Chance.eq (a0 : Option Addr) (w : World) (K : Value → World → Prop) : afn ref08_Model_Chance.C ref08_Model_Chance.L ref08_Model_Chance.D tab Try.f28 [(Value.pointer a0)] w K = ref08_Model_Chance.f a0 w (fun r0 w => K (Value.int .i64 r0) w) := ref08_Model_Chance.eqG @ref05_Table_At.f @ref08_Model_third.f @ref06_Stretch.f @ref08_Model_second.f @ref06_Mixer_Mix.f @ref07_Stage_Refine.f a0 w K
theorem ref08_Model_Chance.ok : FSound Try.prog 28 ref08_Model_Chance.h := by
  intro args w K h
  unfold ref08_Model_Chance.h ref08_Model_Chance.H at h
  split at h
  ·
    replace h := vP_ok h
    obtain ⟨a0, rfl, h⟩ := h
    refine ⟨by kernel_rfl, fn_ok tab_ok ref08_Model_Chance.C_ok (L := ref08_Model_Chance.L) (D := ref08_Model_Chance.D) Try.func28 ref08_Model_Chance.hb (by kernel_rfl) (by rw [ref08_Model_Chance.c_loops]; exact lnil) (Nat.le_of_ble_eq_true (by kernel_rfl)) ?_⟩
    rw [ref08_Model_Chance.eq]
    exact h
  · exact h.elim
/-! ### valise/guess.Next: function 79 -/
def guess_Next.f (a0 : Int) (a1 : Int) (a2 : Int) (w : World) (K : Int → World → Prop) : Prop :=
  let v2_3 := (mx 1 (mn a2 15))
  bif (a1 != 0) then
    if v2_3 < 0 then False else
    let v6_7 := (IntKind.wrap .u16 (a0 + (shr .u16 (IntKind.wrap .u16 (65535 - a0)) (min (Int.toNat v2_3) (IntKind.bits .u16)))))
    K v6_7 w
  else
    if v2_3 < 0 then False else
    let v6_9 := (IntKind.wrap .u16 (a0 - (shr .u16 a0 (min (Int.toNat v2_3) (IntKind.bits .u16)))))
    K v6_9 w
def guess_Next.H (F : type_of% @guess_Next.f) : Hf := fun args w K => match args with
  | [v0, v1, v2] => vI .u16 v0 fun a0 => vI .i64 v1 fun a1 => vI .i64 v2 fun a2 => F a0 a1 a2 w (fun r0 w => K (Value.int .u16 r0) w)
  | _ => False
def guess_Next.h : Hf := guess_Next.H @guess_Next.f
def guess_Next.C : Hd := hnil
theorem guess_Next.C_ok : CSound Try.prog guess_Next.C := hnil_ok
def guess_Next.D : Nat → Plan := fun i => .done
noncomputable def guess_Next.c : Code := Try.f79.body.getD .skip
theorem guess_Next.hb : Try.f79.body = some guess_Next.c := by kernel_rfl
theorem guess_Next.c_loops : loopsOf guess_Next.c = [] := by kernel_rfl
def guess_Next.L : LHd := fun l f w K => False
theorem guess_Next.eq (a0 : Int) (a1 : Int) (a2 : Int) (w : World) (K : Value → World → Prop) : afn guess_Next.C guess_Next.L guess_Next.D tab Try.f79 [(Value.int .u16 a0), (Value.int .i64 a1), (Value.int .i64 a2)] w K = guess_Next.f a0 a1 a2 w (fun r0 w => K (Value.int .u16 r0) w) := by kernel_rfl
theorem guess_Next.ok : FSound Try.prog 79 guess_Next.h := by
  intro args w K h
  unfold guess_Next.h guess_Next.H at h
  split at h
  ·
    replace h := vI_ok h
    obtain ⟨a0, rfl, h⟩ := h
    replace h := vI_ok h
    obtain ⟨a1, rfl, h⟩ := h
    replace h := vI_ok h
    obtain ⟨a2, rfl, h⟩ := h
    refine ⟨by kernel_rfl, fn_ok tab_ok guess_Next.C_ok (L := guess_Next.L) (D := guess_Next.D) Try.func79 guess_Next.hb (by kernel_rfl) (by rw [guess_Next.c_loops]; exact lnil) (Nat.le_of_ble_eq_true (by kernel_rfl)) ?_⟩
    rw [guess_Next.eq]
    exact h
  · exact h.elim
/-! ### (*valise/guess.Table).Learn: function 57 -/
def guess_Table_Learn.f (a0 : Option Addr) (a1 : Int) (a2 : Int) (a3 : Int) (w : World) (K : World → Prop) : Prop :=
  guess_Table_Len.f a0 w fun r10_2 w =>
  bif (decide (r10_2 > 0)) then
    sm a0 fun p_4 =>
    ldL p_4 w.drew fun x16_5 x16_5n x16_5c =>
    sm a0 fun p_6 =>
    guess_cells_place.f (some p_6) a1 w.drew fun r21_7 w =>
    (World.cell? w p_4 = some (.slice x16_5 x16_5n x16_5c)) ∧
    (sm x16_5 fun p_8 =>
    if 0 ≤ (r21_7 : Int) ∧ (r21_7 : Int) < ((x16_5n : Nat) : Int) then
    ldI .u16 (p_8.add (Int.toNat r21_7)) w fun x26_9 =>
    guess_Next.f (bxor .u16 x26_9 32768) a2 a3 w fun r30_10 w =>
    stC (p_8.add (Int.toNat r21_7)) (Value.int .u16 (bxor .u16 r30_10 32768)) w fun w =>
    K w
    else False)
  else
    K w
def guess_Table_Learn.H (F : type_of% @guess_Table_Learn.f) : Hf := fun args w K => match args with
  | [v0, v1, v2, v3] => vP v0 fun a0 => vI .i64 v1 fun a1 => vI .i64 v2 fun a2 => vI .i64 v3 fun a3 => F a0 a1 a2 a3 w (fun w => K (Value.tuple #[]) w)
  | _ => False
def guess_Table_Learn.h : Hf := guess_Table_Learn.H @guess_Table_Learn.f
def guess_Table_Learn.CG (F74 : type_of% @guess_Table_Len.f) (F76 : type_of% @guess_cells_place.f) (F79 : type_of% @guess_Next.f) : Hd := hcons 79 (guess_Next.H F79) (hcons 76 (guess_cells_place.H F76) (hcons 74 (guess_Table_Len.H F74) (hnil)))
def guess_Table_Learn.C : Hd := guess_Table_Learn.CG @guess_Table_Len.f @guess_cells_place.f @guess_Next.f
def guess_Table_Learn.G (F74 : type_of% @guess_Table_Len.f) (F76 : type_of% @guess_cells_place.f) (F79 : type_of% @guess_Next.f) (a0 : Option Addr) (a1 : Int) (a2 : Int) (a3 : Int) (w : World) (K : World → Prop) : Prop :=
  F74 a0 w fun r10_2 w =>
  bif (decide (r10_2 > 0)) then
    sm a0 fun p_4 =>
    ldL p_4 w.drew fun x16_5 x16_5n x16_5c =>
    sm a0 fun p_6 =>
    F76 (some p_6) a1 w.drew fun r21_7 w =>
    (World.cell? w p_4 = some (.slice x16_5 x16_5n x16_5c)) ∧
    (sm x16_5 fun p_8 =>
    if 0 ≤ (r21_7 : Int) ∧ (r21_7 : Int) < ((x16_5n : Nat) : Int) then
    ldI .u16 (p_8.add (Int.toNat r21_7)) w fun x26_9 =>
    F79 (bxor .u16 x26_9 32768) a2 a3 w fun r30_10 w =>
    stC (p_8.add (Int.toNat r21_7)) (Value.int .u16 (bxor .u16 r30_10 32768)) w fun w =>
    K w
    else False)
  else
    K w
theorem guess_Table_Learn.C_ok : CSound Try.prog guess_Table_Learn.C := hcons_ok guess_Next.ok (hcons_ok guess_cells_place.ok (hcons_ok guess_Table_Len.ok (hnil_ok)))
def guess_Table_Learn.D : Nat → Plan := fun i => (match Nat.beq i 1 with | true => .take 0 (.take 1 (.take 2 (.take 3 (.take 4 (.take 5 (.take 6 (.take 7 (.take 8 (.eff 9 (.take 10 (.take 11 (.done)))))))))))) | false => .done)
noncomputable def guess_Table_Learn.c : Code := Try.f57.body.getD .skip
theorem guess_Table_Learn.hb : Try.f57.body = some guess_Table_Learn.c := by kernel_rfl
theorem guess_Table_Learn.c_loops : loopsOf guess_Table_Learn.c = [] := by kernel_rfl
def guess_Table_Learn.L : LHd := fun l f w K => False
theorem guess_Table_Learn.eqG (F74 : type_of% @guess_Table_Len.f) (F76 : type_of% @guess_cells_place.f) (F79 : type_of% @guess_Next.f) (a0 : Option Addr) (a1 : Int) (a2 : Int) (a3 : Int) (w : World) (K : Value → World → Prop) : afn (guess_Table_Learn.CG F74 F76 F79) guess_Table_Learn.L guess_Table_Learn.D tab Try.f57 [(Value.pointer a0), (Value.int .i64 a1), (Value.int .i64 a2), (Value.int .i64 a3)] w K = guess_Table_Learn.G F74 F76 F79 a0 a1 a2 a3 w (fun w => K (Value.tuple #[]) w) := by kernel_rfl
theorem guess_Table_Learn.eq (a0 : Option Addr) (a1 : Int) (a2 : Int) (a3 : Int) (w : World) (K : Value → World → Prop) : afn guess_Table_Learn.C guess_Table_Learn.L guess_Table_Learn.D tab Try.f57 [(Value.pointer a0), (Value.int .i64 a1), (Value.int .i64 a2), (Value.int .i64 a3)] w K = guess_Table_Learn.f a0 a1 a2 a3 w (fun w => K (Value.tuple #[]) w) := guess_Table_Learn.eqG @guess_Table_Len.f @guess_cells_place.f @guess_Next.f a0 a1 a2 a3 w K
theorem guess_Table_Learn.ok : FSound Try.prog 57 guess_Table_Learn.h := by
  intro args w K h
  unfold guess_Table_Learn.h guess_Table_Learn.H at h
  split at h
  ·
    replace h := vP_ok h
    obtain ⟨a0, rfl, h⟩ := h
    replace h := vI_ok h
    obtain ⟨a1, rfl, h⟩ := h
    replace h := vI_ok h
    obtain ⟨a2, rfl, h⟩ := h
    replace h := vI_ok h
    obtain ⟨a3, rfl, h⟩ := h
    refine ⟨by kernel_rfl, fn_ok tab_ok guess_Table_Learn.C_ok (L := guess_Table_Learn.L) (D := guess_Table_Learn.D) Try.func57 guess_Table_Learn.hb (by kernel_rfl) (by rw [guess_Table_Learn.c_loops]; exact lnil) (Nat.le_of_ble_eq_true (by kernel_rfl)) ?_⟩
    rw [guess_Table_Learn.eq]
    exact h
  · exact h.elim
/-! ### (*valise/mix.Mixer).Learn: function 58 -/
def mix_Mixer_Learn.l6 : Nat → Option Addr → Int → Int → World → (World → Prop) → Prop
  | 0, _, _, _, _, _ => False
  | N + 1, y0, y5, y28, w, K0 =>
    bif (decide (y28 < 4)) then
      sm y0 fun p_19 =>
      ldL (p_19.add 7) w.drew fun x34_20 x34_20n x34_20c =>
      sm y0 fun p_21 =>
      ldI .i64 (p_21.add 1) w.drew fun x39_22 =>
      sm x34_20 fun p_23 =>
      if 0 ≤ (x39_22 : Int) ∧ (x39_22 : Int) < ((x34_20n : Nat) : Int) then
      if 0 ≤ (y28 : Int) ∧ (y28 : Int) < ((4 : Nat) : Int) then
      ldI .i64 ((p_23.add (Int.toNat x39_22 * 4)).add (Int.toNat y28)) w.drew.drew fun x46_24 =>
      sm y0 fun p_25 =>
      if 0 ≤ (y28 : Int) ∧ (y28 : Int) < ((4 : Nat) : Int) then
      ldI .i64 ((p_25.add 2).add (Int.toNat y28)) w.drew.drew fun x53_26 =>
      stC ((p_23.add (Int.toNat x39_22 * 4)).add (Int.toNat y28)) (Value.int .i64 (mx (-16777216) (mn (IntKind.wrap .i64 (x46_24 + (shr .i64 (IntKind.wrap .i64 ((IntKind.wrap .i64 (x53_26 * y5)) + 32768)) 16))) 16777216))) w.drew.drew fun w =>
      mix_Mixer_Learn.l6 N y0 y5 (IntKind.wrap .i64 (y28 + 1)) w K0
      else False
      else False
      else False
    else
      K0 w

def mix_Mixer_Learn.f (a0 : Option Addr) (a1 : Int) (w : World) (K : World → Prop) : Prop :=
  bif a0.isNone then
    K w
  else
    sm a0 fun p_3 =>
    ldB p_3 w fun x15_4 =>
    bif (!x15_4) then
      K w
    else
      let J_28 := fun (j4_8 : Int) (w : World) =>
        ((sm a0 fun p_10 =>
        ldI .i64 (p_10.add 6) w fun x25_11 =>
        let v5_12 := (IntKind.wrap .i64 (7 * (IntKind.wrap .i64 (j4_8 - x25_11))))
        ∃ N_27 : Nat, mix_Mixer_Learn.l6 N_27 a0 v5_12 0 w
        (fun w =>
          K w)) : Prop)
      bif (a1 != 0) then
        J_28 4095 w
      else
        J_28 0 w
def mix_Mixer_Learn.H (F : type_of% @mix_Mixer_Learn.f) : Hf := fun args w K => match args with
  | [v0, v1] => vP v0 fun a0 => vI .i64 v1 fun a1 => F a0 a1 w (fun w => K (Value.tuple #[]) w)
  | _ => False
def mix_Mixer_Learn.h : Hf := mix_Mixer_Learn.H @mix_Mixer_Learn.f
def mix_Mixer_Learn.C : Hd := hnil
theorem mix_Mixer_Learn.C_ok : CSound Try.prog mix_Mixer_Learn.C := hnil_ok
def mix_Mixer_Learn.D : Nat → Plan := fun i => (match Nat.beq i 9 with | true => .take 0 (.take 1 (.take 2 (.take 3 (.take 4 (.take 5 (.take 6 (.take 7 (.take 8 (.take 9 (.take 10 (.take 11 (.take 12 (.take 13 (.take 14 (.take 15 (.take 16 (.take 17 (.take 18 (.eff 19 (.done)))))))))))))))))))) | false => (match Nat.beq i 8 with | true => .take 0 (.take 1 (.take 2 (.take 3 (.take 4 (.take 5 (.take 6 (.take 7 (.take 8 (.take 9 (.take 10 (.take 11 (.take 12 (.done))))))))))))) | false => .done))
noncomputable def mix_Mixer_Learn.c : Code := Try.f58.body.getD .skip
theorem mix_Mixer_Learn.hb : Try.f58.body = some mix_Mixer_Learn.c := by kernel_rfl
noncomputable def mix_Mixer_Learn.b0 : Code := (loopsOf mix_Mixer_Learn.c).getD 0 .skip
theorem mix_Mixer_Learn.b0_loops : loopsOf mix_Mixer_Learn.b0 = [] := by kernel_rfl
theorem mix_Mixer_Learn.c_loops : loopsOf mix_Mixer_Learn.c = [mix_Mixer_Learn.b0] := by kernel_rfl
def mix_Mixer_Learn.hn6 (N : Nat) (f : Fr) (w : World) (K : AExit → Fr → World → Prop) : Prop :=
  gN f 63 <| gP f 0 fun y0 => gI .i64 f 5 fun y5 => gI .i64 f 28 fun y28 => mix_Mixer_Learn.l6 N y0 y5 y28 w (fun w => K (.exit 0) [none, none, none, none, none, none, none, none, none, none, none, none, none, none, none, none, none, none, none, none, none, none, none, none, none, none, none, none, none, none, none, none, none, none, none, none, none, none, none, none, none, none, none, none, none, none, none, none, none, none, none, none, none, none, none, none, none, none, none, none, none, none, none] w)
def mix_Mixer_Learn.hx6 : AExit → Fr → World → (AExit → Fr → World → Prop) → Prop := fun e f w K => match e with
  | .normal => False
  | .exit i => (match Nat.beq i 0 with | true => gN f 63 <|  K (.exit 0) [none, none, none, none, none, none, none, none, none, none, none, none, none, none, none, none, none, none, none, none, none, none, none, none, none, none, none, none, none, none, none, none, none, none, none, none, none, none, none, none, none, none, none, none, none, none, none, none, none, none, none, none, none, none, none, none, none, none, none, none, none, none, none] w | false => False)
  | .ret => False
def mix_Mixer_Learn.L : LHd := fun l f w K => (match Nat.beq l 6 with | true => ∃ N, mix_Mixer_Learn.hn6 N f w K | false => False)
theorem mix_Mixer_Learn.le6 (N : Nat) (y0 : Option Addr) (y5 : Int) (y28 : Int) (w : World) (K : AExit → Fr → World → Prop) : awp mix_Mixer_Learn.C mix_Mixer_Learn.L mix_Mixer_Learn.D tab mix_Mixer_Learn.b0 (lpost mix_Mixer_Learn.hn6 mix_Mixer_Learn.hx6 N K) [some (Value.pointer y0), none, none, none, none, some (Value.int .i64 y5), none, none, none, none, none, none, none, none, none, none, none, none, none, none, none, none, none, none, none, none, none, none, some (Value.int .i64 y28), none, none, none, none, none, none, none, none, none, none, none, none, none, none, none, none, none, none, none, none, none, none, none, none, none, none, none, none, none, none, none, none, none, none] w = mix_Mixer_Learn.l6 (N + 1) y0 y5 y28 w (fun w => K (.exit 0) [none, none, none, none, none, none, none, none, none, none, none, none, none, none, none, none, none, none, none, none, none, none, none, none, none, none, none, none, none, none, none, none, none, none, none, none, none, none, none, none, none, none, none, none, none, none, none, none, none, none, none, none, none, none, none, none, none, none, none, none, none, none, none] w) := by kernel_rfl
theorem mix_Mixer_Learn.lok6 : LoopOk Try.prog mix_Mixer_Learn.L mix_Mixer_Learn.b0 := by
  refine loop_ok tab_ok mix_Mixer_Learn.C_ok (D := mix_Mixer_Learn.D) (mix_Mixer_Learn.hn6) (mix_Mixer_Learn.hx6) (by kernel_rfl) (by rw [mix_Mixer_Learn.b0_loops]; exact lnil) ?_ ?_ ?_ ?_
  · intro f w K h
    unfold mix_Mixer_Learn.hn6 at h
    obtain ⟨hlen, h⟩ := gN_ok h
    obtain ⟨y0, h0, h⟩ := gP_ok h
    obtain ⟨y5, h5, h⟩ := gI_ok h
    obtain ⟨y28, h28, h⟩ := gI_ok h
    exact h
  · intro N f w K h
    unfold mix_Mixer_Learn.hn6 at h
    obtain ⟨hlen, h⟩ := gN_ok h
    obtain ⟨y0, h0, h⟩ := gP_ok h
    obtain ⟨y5, h5, h⟩ := gI_ok h
    obtain ⟨y28, h28, h⟩ := gI_ok h
    refine ⟨[some (Value.pointer y0), none, none, none, none, some (Value.int .i64 y5), none, none, none, none, none, none, none, none, none, none, none, none, none, none, none, none, none, none, none, none, none, none, some (Value.int .i64 y28), none, none, none, none, none, none, none, none, none, none, none, none, none, none, none, none, none, none, none, none, none, none, none, none, none, none, none, none, none, none, none, none, none, none], hlen, ⟨h0, h5, h28, trivial⟩, ?_⟩
    rw [mix_Mixer_Learn.le6]
    exact h
  · intro e f w K h
    cases e with
    | normal => exact h.elim
    | exit i =>
      unfold mix_Mixer_Learn.hx6 at h
      simp only at h
      split at h
      · rename_i hb
        obtain rfl := Nat.eq_of_beq_eq_true hb
        obtain ⟨hlen, h⟩ := gN_ok h
        exact ⟨[none, none, none, none, none, none, none, none, none, none, none, none, none, none, none, none, none, none, none, none, none, none, none, none, none, none, none, none, none, none, none, none, none, none, none, none, none, none, none, none, none, none, none, none, none, none, none, none, none, none, none, none, none, none, none, none, none, none, none, none, none, none, none], hlen, trivial, h⟩
      · exact (show False from h).elim
    | ret =>
      exact (show False from h).elim
  · intro f w K h
    have e : lid mix_Mixer_Learn.b0 = 6 := by kernel_rfl
    rw [e] at h
    exact h
theorem mix_Mixer_Learn.eq (a0 : Option Addr) (a1 : Int) (w : World) (K : Value → World → Prop) : afn mix_Mixer_Learn.C mix_Mixer_Learn.L mix_Mixer_Learn.D tab Try.f58 [(Value.pointer a0), (Value.int .i64 a1)] w K = mix_Mixer_Learn.f a0 a1 w (fun w => K (Value.tuple #[]) w) := by kernel_rfl
theorem mix_Mixer_Learn.ok : FSound Try.prog 58 mix_Mixer_Learn.h := by
  intro args w K h
  unfold mix_Mixer_Learn.h mix_Mixer_Learn.H at h
  split at h
  ·
    replace h := vP_ok h
    obtain ⟨a0, rfl, h⟩ := h
    replace h := vI_ok h
    obtain ⟨a1, rfl, h⟩ := h
    refine ⟨by kernel_rfl, fn_ok tab_ok mix_Mixer_Learn.C_ok (L := mix_Mixer_Learn.L) (D := mix_Mixer_Learn.D) Try.func58 mix_Mixer_Learn.hb (by kernel_rfl) (by rw [mix_Mixer_Learn.c_loops]; exact lcons mix_Mixer_Learn.lok6 (lnil)) (Nat.le_of_ble_eq_true (by kernel_rfl)) ?_⟩
    rw [mix_Mixer_Learn.eq]
    exact h
  · exact h.elim
/-! ### (*valise/model.Model).Learn: function 29 -/
def model_Model_Learn.f (a0 : Option Addr) (a1 : Int) (w : World) (K : World → Prop) : Prop :=
  bif a0.isNone then
    K w
  else
    sm a0 fun p_3 =>
    ldP p_3 w fun x14_4 =>
    bif x14_4.isNone then
      K w
    else
      model_Model_Chance.f a0 w fun r18_6 w =>
      model_Model_contexts.f a0 w fun r21_8 r21_9 r21_10 w =>
      sm a0 fun p_12 =>
      ldP p_12 w fun x29_13 =>
      guess_Table_Learn.f x29_13 r21_8 a1 4 w fun w =>
      let J_53 := fun  (w : World) =>
        ((let J_52 := fun  (w : World) =>
          ((sm a0 fun p_33 =>
          ldI .i64 (p_33.add 6) w fun x74_34 =>
          sm a0 fun p_35 =>
          stC (p_35.add 6) (Value.int .i64 (IntKind.wrap .i64 (x74_34 * 2))) w fun w =>
          let J_51 := fun  (w : World) =>
            ((sm a0 fun p_42 =>
            ldI .i64 (p_42.add 6) w fun x90_43 =>
            bif (decide (x90_43 ≥ 256)) then
              sm a0 fun p_44 =>
              ldI .i64 (p_44.add 7) w.drew fun x98_45 =>
              sm a0 fun p_46 =>
              ldI .i64 (p_46.add 6) w.drew fun x102_47 =>
              sm a0 fun p_48 =>
              stC (p_48.add 8) (Value.int .i64 x98_45) w.drew fun w =>
              sm a0 fun p_49 =>
              stC (p_49.add 7) (Value.int .i64 (IntKind.wrap .i64 (x102_47 - 256))) w fun w =>
              sm a0 fun p_50 =>
              stC (p_50.add 6) (Value.int .i64 1) w fun w =>
              K w
            else
              K w) : Prop)
          bif (a1 != 0) then
            sm a0 fun p_38 =>
            ldI .i64 (p_38.add 6) w fun x83_39 =>
            sm a0 fun p_40 =>
            stC (p_40.add 6) (Value.int .i64 (IntKind.wrap .i64 (x83_39 + 1))) w fun w =>
            J_51 w
          else
            J_51 w) : Prop)
        sm a0 fun p_28 =>
        ldI .i64 (p_28.add 5) w fun x61_29 =>
        bif (decide (x61_29 > 1)) then
          sm a0 fun p_30 =>
          ldP (p_30.add 2) w fun x67_31 =>
          guess_Table_Learn.f x67_31 r21_10 a1 3 w fun w =>
          J_52 w
        else
          J_52 w) : Prop)
      sm a0 fun p_16 =>
      ldI .i64 (p_16.add 5) w fun x36_17 =>
      bif (decide (x36_17 > 0)) then
        sm a0 fun p_19 =>
        ldP (p_19.add 1) w fun x42_20 =>
        guess_Table_Learn.f x42_20 r21_9 a1 4 w fun w =>
        sm a0 fun p_22 =>
        ldP (p_22.add 3) w fun x49_23 =>
        mix_Mixer_Learn.f x49_23 a1 w fun w =>
        sm a0 fun p_24 =>
        ldP (p_24.add 4) w fun x55_25 =>
        stage_Stage_Learn.f x55_25 a1 6 w fun w =>
        J_53 w
      else
        J_53 w
def model_Model_Learn.H (F : type_of% @model_Model_Learn.f) : Hf := fun args w K => match args with
  | [v0, v1] => vP v0 fun a0 => vI .i64 v1 fun a1 => F a0 a1 w (fun w => K (Value.tuple #[]) w)
  | _ => False
def model_Model_Learn.h : Hf := model_Model_Learn.H @model_Model_Learn.f
def model_Model_Learn.CG (F27 : type_of% @model_Model_Chance.f) (F50 : type_of% @model_Model_contexts.f) (F57 : type_of% @guess_Table_Learn.f) (F58 : type_of% @mix_Mixer_Learn.f) (F22 : type_of% @stage_Stage_Learn.f) : Hd := hcons 22 (stage_Stage_Learn.H F22) (hcons 58 (mix_Mixer_Learn.H F58) (hcons 57 (guess_Table_Learn.H F57) (hcons 50 (model_Model_contexts.H F50) (hcons 27 (model_Model_Chance.H F27) (hnil)))))
def model_Model_Learn.C : Hd := model_Model_Learn.CG @model_Model_Chance.f @model_Model_contexts.f @guess_Table_Learn.f @mix_Mixer_Learn.f @stage_Stage_Learn.f
def model_Model_Learn.G (F27 : type_of% @model_Model_Chance.f) (F50 : type_of% @model_Model_contexts.f) (F57 : type_of% @guess_Table_Learn.f) (F58 : type_of% @mix_Mixer_Learn.f) (F22 : type_of% @stage_Stage_Learn.f) (a0 : Option Addr) (a1 : Int) (w : World) (K : World → Prop) : Prop :=
  bif a0.isNone then
    K w
  else
    sm a0 fun p_3 =>
    ldP p_3 w fun x14_4 =>
    bif x14_4.isNone then
      K w
    else
      F27 a0 w fun r18_6 w =>
      F50 a0 w fun r21_8 r21_9 r21_10 w =>
      sm a0 fun p_12 =>
      ldP p_12 w fun x29_13 =>
      F57 x29_13 r21_8 a1 4 w fun w =>
      let J_53 := fun  (w : World) =>
        ((let J_52 := fun  (w : World) =>
          ((sm a0 fun p_33 =>
          ldI .i64 (p_33.add 6) w fun x74_34 =>
          sm a0 fun p_35 =>
          stC (p_35.add 6) (Value.int .i64 (IntKind.wrap .i64 (x74_34 * 2))) w fun w =>
          let J_51 := fun  (w : World) =>
            ((sm a0 fun p_42 =>
            ldI .i64 (p_42.add 6) w fun x90_43 =>
            bif (decide (x90_43 ≥ 256)) then
              sm a0 fun p_44 =>
              ldI .i64 (p_44.add 7) w.drew fun x98_45 =>
              sm a0 fun p_46 =>
              ldI .i64 (p_46.add 6) w.drew fun x102_47 =>
              sm a0 fun p_48 =>
              stC (p_48.add 8) (Value.int .i64 x98_45) w.drew fun w =>
              sm a0 fun p_49 =>
              stC (p_49.add 7) (Value.int .i64 (IntKind.wrap .i64 (x102_47 - 256))) w fun w =>
              sm a0 fun p_50 =>
              stC (p_50.add 6) (Value.int .i64 1) w fun w =>
              K w
            else
              K w) : Prop)
          bif (a1 != 0) then
            sm a0 fun p_38 =>
            ldI .i64 (p_38.add 6) w fun x83_39 =>
            sm a0 fun p_40 =>
            stC (p_40.add 6) (Value.int .i64 (IntKind.wrap .i64 (x83_39 + 1))) w fun w =>
            J_51 w
          else
            J_51 w) : Prop)
        sm a0 fun p_28 =>
        ldI .i64 (p_28.add 5) w fun x61_29 =>
        bif (decide (x61_29 > 1)) then
          sm a0 fun p_30 =>
          ldP (p_30.add 2) w fun x67_31 =>
          F57 x67_31 r21_10 a1 3 w fun w =>
          J_52 w
        else
          J_52 w) : Prop)
      sm a0 fun p_16 =>
      ldI .i64 (p_16.add 5) w fun x36_17 =>
      bif (decide (x36_17 > 0)) then
        sm a0 fun p_19 =>
        ldP (p_19.add 1) w fun x42_20 =>
        F57 x42_20 r21_9 a1 4 w fun w =>
        sm a0 fun p_22 =>
        ldP (p_22.add 3) w fun x49_23 =>
        F58 x49_23 a1 w fun w =>
        sm a0 fun p_24 =>
        ldP (p_24.add 4) w fun x55_25 =>
        F22 x55_25 a1 6 w fun w =>
        J_53 w
      else
        J_53 w
theorem model_Model_Learn.C_ok : CSound Try.prog model_Model_Learn.C := hcons_ok stage_Stage_Learn.ok (hcons_ok mix_Mixer_Learn.ok (hcons_ok guess_Table_Learn.ok (hcons_ok model_Model_contexts.ok (hcons_ok model_Model_Chance.ok (hnil_ok)))))
def model_Model_Learn.D : Nat → Plan := fun i => (match Nat.beq i 14 with | true => .take 0 (.take 1 (.take 2 (.take 3 (.take 4 (.take 5 (.take 6 (.take 7 (.take 8 (.take 9 (.take 10 (.take 11 (.take 12 (.take 13 (.eff 14 (.take 15 (.take 16 (.eff 17 (.take 18 (.take 19 (.eff 20 (.done))))))))))))))))))))) | false => .done)
noncomputable def model_Model_Learn.c : Code := Try.f29.body.getD .skip
theorem model_Model_Learn.hb : Try.f29.body = some model_Model_Learn.c := by kernel_rfl
theorem model_Model_Learn.c_loops : loopsOf model_Model_Learn.c = [] := by kernel_rfl
def model_Model_Learn.L : LHd := fun l f w K => False
theorem model_Model_Learn.eqG (F27 : type_of% @model_Model_Chance.f) (F50 : type_of% @model_Model_contexts.f) (F57 : type_of% @guess_Table_Learn.f) (F58 : type_of% @mix_Mixer_Learn.f) (F22 : type_of% @stage_Stage_Learn.f) (a0 : Option Addr) (a1 : Int) (w : World) (K : Value → World → Prop) : afn (model_Model_Learn.CG F27 F50 F57 F58 F22) model_Model_Learn.L model_Model_Learn.D tab Try.f29 [(Value.pointer a0), (Value.int .i64 a1)] w K = model_Model_Learn.G F27 F50 F57 F58 F22 a0 a1 w (fun w => K (Value.tuple #[]) w) := by kernel_rfl
theorem model_Model_Learn.eq (a0 : Option Addr) (a1 : Int) (w : World) (K : Value → World → Prop) : afn model_Model_Learn.C model_Model_Learn.L model_Model_Learn.D tab Try.f29 [(Value.pointer a0), (Value.int .i64 a1)] w K = model_Model_Learn.f a0 a1 w (fun w => K (Value.tuple #[]) w) := model_Model_Learn.eqG @model_Model_Chance.f @model_Model_contexts.f @guess_Table_Learn.f @mix_Mixer_Learn.f @stage_Stage_Learn.f a0 a1 w K
theorem model_Model_Learn.ok : FSound Try.prog 29 model_Model_Learn.h := by
  intro args w K h
  unfold model_Model_Learn.h model_Model_Learn.H at h
  split at h
  ·
    replace h := vP_ok h
    obtain ⟨a0, rfl, h⟩ := h
    replace h := vI_ok h
    obtain ⟨a1, rfl, h⟩ := h
    refine ⟨by kernel_rfl, fn_ok tab_ok model_Model_Learn.C_ok (L := model_Model_Learn.L) (D := model_Model_Learn.D) Try.func29 model_Model_Learn.hb (by kernel_rfl) (by rw [model_Model_Learn.c_loops]; exact lnil) (Nat.le_of_ble_eq_true (by kernel_rfl)) ?_⟩
    rw [model_Model_Learn.eq]
    exact h
  · exact h.elim
/-! ### valise/valiseref05.Next: function 80 -/
def ref05_Next.f (a0 : Int) (a1 : Int) (a2 : Int) (w : World) (K : Int → World → Prop) : Prop :=
  let v7_3 := (IntKind.wrap .u64 (mx 1 (mn a2 15)))
  bif (a1 != 0) then
    if v7_3 < 0 then False else
    let v6_7 := (IntKind.wrap .u16 (a0 + (shr .u16 (IntKind.wrap .u16 (65535 - a0)) (min (Int.toNat v7_3) (IntKind.bits .u16)))))
    K v6_7 w
  else
    if v7_3 < 0 then False else
    let v6_9 := (IntKind.wrap .u16 (a0 - (shr .u16 a0 (min (Int.toNat v7_3) (IntKind.bits .u16)))))
    K v6_9 w
def ref05_Next.H (F : type_of% @ref05_Next.f) : Hf := fun args w K => match args with
  | [v0, v1, v2] => vI .u16 v0 fun a0 => vI .i64 v1 fun a1 => vI .i64 v2 fun a2 => F a0 a1 a2 w (fun r0 w => K (Value.int .u16 r0) w)
  | _ => False
def ref05_Next.h : Hf := ref05_Next.H @ref05_Next.f
def ref05_Next.C : Hd := hnil
theorem ref05_Next.C_ok : CSound Try.prog ref05_Next.C := hnil_ok
def ref05_Next.D : Nat → Plan := fun i => .done
noncomputable def ref05_Next.c : Code := Try.f80.body.getD .skip
theorem ref05_Next.hb : Try.f80.body = some ref05_Next.c := by kernel_rfl
theorem ref05_Next.c_loops : loopsOf ref05_Next.c = [] := by kernel_rfl
def ref05_Next.L : LHd := fun l f w K => False
theorem ref05_Next.eq (a0 : Int) (a1 : Int) (a2 : Int) (w : World) (K : Value → World → Prop) : afn ref05_Next.C ref05_Next.L ref05_Next.D tab Try.f80 [(Value.int .u16 a0), (Value.int .i64 a1), (Value.int .i64 a2)] w K = ref05_Next.f a0 a1 a2 w (fun r0 w => K (Value.int .u16 r0) w) := by kernel_rfl
theorem ref05_Next.ok : FSound Try.prog 80 ref05_Next.h := by
  intro args w K h
  unfold ref05_Next.h ref05_Next.H at h
  split at h
  ·
    replace h := vI_ok h
    obtain ⟨a0, rfl, h⟩ := h
    replace h := vI_ok h
    obtain ⟨a1, rfl, h⟩ := h
    replace h := vI_ok h
    obtain ⟨a2, rfl, h⟩ := h
    refine ⟨by kernel_rfl, fn_ok tab_ok ref05_Next.C_ok (L := ref05_Next.L) (D := ref05_Next.D) Try.func80 ref05_Next.hb (by kernel_rfl) (by rw [ref05_Next.c_loops]; exact lnil) (Nat.le_of_ble_eq_true (by kernel_rfl)) ?_⟩
    rw [ref05_Next.eq]
    exact h
  · exact h.elim
/-! ### (*valise/valiseref05.Table).Learn: function 59 -/
def ref05_Table_Learn.f (a0 : Option Addr) (a1 : Int) (a2 : Int) (a3 : Int) (w : World) (K : World → Prop) : Prop :=
  sm a0 fun p_2 =>
  ldL p_2 w fun x13_3 x13_3n x13_3c =>
  ref05_Round.f a1 ((x13_3n : Nat) : Int) w fun r15_4 w =>
  sm a0 fun p_5 =>
  ldL p_5 w.drew fun x19_6 x19_6n x19_6c =>
  sm a0 fun p_7 =>
  ldL p_7 w.drew fun x24_8 x24_8n x24_8c =>
  sm x24_8 fun p_9 =>
  if 0 ≤ (r15_4 : Int) ∧ (r15_4 : Int) < ((x24_8n : Nat) : Int) then
  ldI .u16 (p_9.add (Int.toNat r15_4)) w.drew fun x27_10 =>
  ref05_Next.f x27_10 a2 a3 w.drew fun r30_11 w =>
  (World.cell? w p_7 = some (.slice x24_8 x24_8n x24_8c)) ∧
  ((World.cell? w p_5 = some (.slice x19_6 x19_6n x19_6c)) ∧
  (sm x19_6 fun p_12 =>
  if 0 ≤ (r15_4 : Int) ∧ (r15_4 : Int) < ((x19_6n : Nat) : Int) then
  stC (p_12.add (Int.toNat r15_4)) (Value.int .u16 r30_11) w fun w =>
  K w
  else False))
  else False
def ref05_Table_Learn.H (F : type_of% @ref05_Table_Learn.f) : Hf := fun args w K => match args with
  | [v0, v1, v2, v3] => vP v0 fun a0 => vI .i64 v1 fun a1 => vI .i64 v2 fun a2 => vI .i64 v3 fun a3 => F a0 a1 a2 a3 w (fun w => K (Value.tuple #[]) w)
  | _ => False
def ref05_Table_Learn.h : Hf := ref05_Table_Learn.H @ref05_Table_Learn.f
def ref05_Table_Learn.C : Hd := hcons 80 ref05_Next.h (hcons 44 ref05_Round.h (hnil))
theorem ref05_Table_Learn.C_ok : CSound Try.prog ref05_Table_Learn.C := hcons_ok ref05_Next.ok (hcons_ok ref05_Round.ok (hnil_ok))
def ref05_Table_Learn.D : Nat → Plan := fun i => (match Nat.beq i 1 with | true => .take 0 (.take 1 (.take 2 (.take 3 (.take 4 (.take 5 (.take 6 (.take 7 (.take 8 (.take 9 (.take 10 (.take 11 (.take 12 (.take 13 (.eff 14 (.take 15 (.eff 16 (.done))))))))))))))))) | false => .done)
noncomputable def ref05_Table_Learn.c : Code := Try.f59.body.getD .skip
theorem ref05_Table_Learn.hb : Try.f59.body = some ref05_Table_Learn.c := by kernel_rfl
theorem ref05_Table_Learn.c_loops : loopsOf ref05_Table_Learn.c = [] := by kernel_rfl
def ref05_Table_Learn.L : LHd := fun l f w K => False
theorem ref05_Table_Learn.eq (a0 : Option Addr) (a1 : Int) (a2 : Int) (a3 : Int) (w : World) (K : Value → World → Prop) : afn ref05_Table_Learn.C ref05_Table_Learn.L ref05_Table_Learn.D tab Try.f59 [(Value.pointer a0), (Value.int .i64 a1), (Value.int .i64 a2), (Value.int .i64 a3)] w K = ref05_Table_Learn.f a0 a1 a2 a3 w (fun w => K (Value.tuple #[]) w) := by kernel_rfl
theorem ref05_Table_Learn.ok : FSound Try.prog 59 ref05_Table_Learn.h := by
  intro args w K h
  unfold ref05_Table_Learn.h ref05_Table_Learn.H at h
  split at h
  ·
    replace h := vP_ok h
    obtain ⟨a0, rfl, h⟩ := h
    replace h := vI_ok h
    obtain ⟨a1, rfl, h⟩ := h
    replace h := vI_ok h
    obtain ⟨a2, rfl, h⟩ := h
    replace h := vI_ok h
    obtain ⟨a3, rfl, h⟩ := h
    refine ⟨by kernel_rfl, fn_ok tab_ok ref05_Table_Learn.C_ok (L := ref05_Table_Learn.L) (D := ref05_Table_Learn.D) Try.func59 ref05_Table_Learn.hb (by kernel_rfl) (by rw [ref05_Table_Learn.c_loops]; exact lnil) (Nat.le_of_ble_eq_true (by kernel_rfl)) ?_⟩
    rw [ref05_Table_Learn.eq]
    exact h
  · exact h.elim
/-! ### (*valise/valiseref06.Mixer).Learn: function 60 -/
def ref06_Mixer_Learn.l6 : Nat → Option Addr → Int → Option Addr → Nat → Nat → Int → World → (World → Prop) → Prop
  | 0, _, _, _, _, _, _, _, _ => False
  | N + 1, y0, y4, y5, y5n, y5c, y6, w, K0 =>
    bif (decide (y6 < 4)) then
      sm y5 fun p_26 =>
      if 0 ≤ (y6 : Int) ∧ (y6 : Int) < ((y5n : Nat) : Int) then
      ldI .i64 (p_26.add (Int.toNat y6)) w.drew fun x45_27 =>
      sm y0 fun p_28 =>
      ldL (p_28.add 1) w.drew fun x49_29 x49_29n x49_29c =>
      sm x49_29 fun p_30 =>
      if 0 ≤ (y6 : Int) ∧ (y6 : Int) < ((x49_29n : Nat) : Int) then
      ldI .i64 (p_30.add (Int.toNat y6)) w.drew fun x52_31 =>
      sm y5 fun p_32 =>
      if 0 ≤ (y6 : Int) ∧ (y6 : Int) < ((y5n : Nat) : Int) then
      stC (p_32.add (Int.toNat y6)) (Value.int .i64 (mx (-16777216) (mn (IntKind.wrap .i64 (x45_27 + (shr .i64 (IntKind.wrap .i64 ((IntKind.wrap .i64 (x52_31 * y4)) + 32768)) 16))) 16777216))) w.drew fun w =>
      let v6_33 := (IntKind.wrap .i64 (y6 + 1))
      ref06_Mixer_Learn.l6 N y0 y4 y5 y5n y5c v6_33 w K0
      else False
      else False
      else False
    else
      K0 w

def ref06_Mixer_Learn.f (a0 : Option Addr) (a1 : Int) (w : World) (K : World → Prop) : Prop :=
  sm a0 fun p_3 =>
  ldB (p_3.add 4) w fun x10_4 =>
  bif (!x10_4) then
    K w
  else
    sm a0 fun p_6 =>
    ldI .i64 (p_6.add 3) w fun x15_7 =>
    let v4_8 := (IntKind.wrap .i64 ((IntKind.wrap .i64 (0 - x15_7)) * 7))
    let J_35 := fun (j4_14 : Int) (w : World) =>
      ((sm a0 fun p_16 =>
      ldL p_16 w.drew fun x29_17 x29_17n x29_17c =>
      sm a0 fun p_18 =>
      ldI .i64 (p_18.add 2) w.drew fun x33_19 =>
      sm x29_17 fun p_20 =>
      if 0 ≤ (x33_19 : Int) ∧ (x33_19 : Int) < ((x29_17n : Nat) : Int) then
      ldL (p_20.add (Int.toNat x33_19)) w.drew fun x35_21 x35_21n x35_21c =>
      ∃ N_34 : Nat, ref06_Mixer_Learn.l6 N_34 a0 j4_14 x35_21 x35_21n x35_21c 0 w.drew
      (fun w =>
        K w)
      else False) : Prop)
    bif (a1 != 0) then
      sm a0 fun p_11 =>
      ldI .i64 (p_11.add 3) w fun x23_12 =>
      let v4_13 := (IntKind.wrap .i64 ((IntKind.wrap .i64 (4095 - x23_12)) * 7))
      J_35 v4_13 w
    else
      J_35 v4_8 w
def ref06_Mixer_Learn.H (F : type_of% @ref06_Mixer_Learn.f) : Hf := fun args w K => match args with
  | [v0, v1] => vP v0 fun a0 => vI .i64 v1 fun a1 => F a0 a1 w (fun w => K (Value.tuple #[]) w)
  | _ => False
def ref06_Mixer_Learn.h : Hf := ref06_Mixer_Learn.H @ref06_Mixer_Learn.f
def ref06_Mixer_Learn.C : Hd := hnil
theorem ref06_Mixer_Learn.C_ok : CSound Try.prog ref06_Mixer_Learn.C := hnil_ok
def ref06_Mixer_Learn.D : Nat → Plan := fun i => (match Nat.beq i 8 with | true => .take 0 (.take 1 (.take 2 (.take 3 (.take 4 (.take 5 (.take 6 (.take 7 (.take 8 (.take 9 (.take 10 (.take 11 (.take 12 (.take 13 (.take 14 (.take 15 (.take 16 (.take 17 (.take 18 (.take 19 (.take 20 (.eff 21 (.done)))))))))))))))))))))) | false => (match Nat.beq i 4 with | true => .take 0 (.take 1 (.take 2 (.take 3 (.take 4 (.take 5 (.take 6 (.take 7 (.take 8 (.take 9 (.take 10 (.done))))))))))) | false => .done))
noncomputable def ref06_Mixer_Learn.c : Code := Try.f60.body.getD .skip
theorem ref06_Mixer_Learn.hb : Try.f60.body = some ref06_Mixer_Learn.c := by kernel_rfl
noncomputable def ref06_Mixer_Learn.b0 : Code := (loopsOf ref06_Mixer_Learn.c).getD 0 .skip
theorem ref06_Mixer_Learn.b0_loops : loopsOf ref06_Mixer_Learn.b0 = [] := by kernel_rfl
theorem ref06_Mixer_Learn.c_loops : loopsOf ref06_Mixer_Learn.c = [ref06_Mixer_Learn.b0] := by kernel_rfl
def ref06_Mixer_Learn.hn6 (N : Nat) (f : Fr) (w : World) (K : AExit → Fr → World → Prop) : Prop :=
  gN f 61 <| gP f 0 fun y0 => gI .i64 f 4 fun y4 => gL f 5 fun y5 y5n y5c => gI .i64 f 6 fun y6 => ref06_Mixer_Learn.l6 N y0 y4 y5 y5n y5c y6 w (fun w => K (.exit 0) [none, none, none, none, none, none, none, none, none, none, none, none, none, none, none, none, none, none, none, none, none, none, none, none, none, none, none, none, none, none, none, none, none, none, none, none, none, none, none, none, none, none, none, none, none, none, none, none, none, none, none, none, none, none, none, none, none, none, none, none, none] w)
def ref06_Mixer_Learn.hx6 : AExit → Fr → World → (AExit → Fr → World → Prop) → Prop := fun e f w K => match e with
  | .normal => False
  | .exit i => (match Nat.beq i 0 with | true => gN f 61 <|  K (.exit 0) [none, none, none, none, none, none, none, none, none, none, none, none, none, none, none, none, none, none, none, none, none, none, none, none, none, none, none, none, none, none, none, none, none, none, none, none, none, none, none, none, none, none, none, none, none, none, none, none, none, none, none, none, none, none, none, none, none, none, none, none, none] w | false => False)
  | .ret => False
def ref06_Mixer_Learn.L : LHd := fun l f w K => (match Nat.beq l 6 with | true => ∃ N, ref06_Mixer_Learn.hn6 N f w K | false => False)
theorem ref06_Mixer_Learn.le6 (N : Nat) (y0 : Option Addr) (y4 : Int) (y5 : Option Addr) (y5n : Nat) (y5c : Nat) (y6 : Int) (w : World) (K : AExit → Fr → World → Prop) : awp ref06_Mixer_Learn.C ref06_Mixer_Learn.L ref06_Mixer_Learn.D tab ref06_Mixer_Learn.b0 (lpost ref06_Mixer_Learn.hn6 ref06_Mixer_Learn.hx6 N K) [some (Value.pointer y0), none, none, none, some (Value.int .i64 y4), some (Value.slice y5 y5n y5c), some (Value.int .i64 y6), none, none, none, none, none, none, none, none, none, none, none, none, none, none, none, none, none, none, none, none, none, none, none, none, none, none, none, none, none, none, none, none, none, none, none, none, none, none, none, none, none, none, none, none, none, none, none, none, none, none, none, none, none, none] w = ref06_Mixer_Learn.l6 (N + 1) y0 y4 y5 y5n y5c y6 w (fun w => K (.exit 0) [none, none, none, none, none, none, none, none, none, none, none, none, none, none, none, none, none, none, none, none, none, none, none, none, none, none, none, none, none, none, none, none, none, none, none, none, none, none, none, none, none, none, none, none, none, none, none, none, none, none, none, none, none, none, none, none, none, none, none, none, none] w) := by kernel_rfl
theorem ref06_Mixer_Learn.lok6 : LoopOk Try.prog ref06_Mixer_Learn.L ref06_Mixer_Learn.b0 := by
  refine loop_ok tab_ok ref06_Mixer_Learn.C_ok (D := ref06_Mixer_Learn.D) (ref06_Mixer_Learn.hn6) (ref06_Mixer_Learn.hx6) (by kernel_rfl) (by rw [ref06_Mixer_Learn.b0_loops]; exact lnil) ?_ ?_ ?_ ?_
  · intro f w K h
    unfold ref06_Mixer_Learn.hn6 at h
    obtain ⟨hlen, h⟩ := gN_ok h
    obtain ⟨y0, h0, h⟩ := gP_ok h
    obtain ⟨y4, h4, h⟩ := gI_ok h
    obtain ⟨y5, y5n, y5c, h5, h⟩ := gL_ok h
    obtain ⟨y6, h6, h⟩ := gI_ok h
    exact h
  · intro N f w K h
    unfold ref06_Mixer_Learn.hn6 at h
    obtain ⟨hlen, h⟩ := gN_ok h
    obtain ⟨y0, h0, h⟩ := gP_ok h
    obtain ⟨y4, h4, h⟩ := gI_ok h
    obtain ⟨y5, y5n, y5c, h5, h⟩ := gL_ok h
    obtain ⟨y6, h6, h⟩ := gI_ok h
    refine ⟨[some (Value.pointer y0), none, none, none, some (Value.int .i64 y4), some (Value.slice y5 y5n y5c), some (Value.int .i64 y6), none, none, none, none, none, none, none, none, none, none, none, none, none, none, none, none, none, none, none, none, none, none, none, none, none, none, none, none, none, none, none, none, none, none, none, none, none, none, none, none, none, none, none, none, none, none, none, none, none, none, none, none, none, none], hlen, ⟨h0, h4, h5, h6, trivial⟩, ?_⟩
    rw [ref06_Mixer_Learn.le6]
    exact h
  · intro e f w K h
    cases e with
    | normal => exact h.elim
    | exit i =>
      unfold ref06_Mixer_Learn.hx6 at h
      simp only at h
      split at h
      · rename_i hb
        obtain rfl := Nat.eq_of_beq_eq_true hb
        obtain ⟨hlen, h⟩ := gN_ok h
        exact ⟨[none, none, none, none, none, none, none, none, none, none, none, none, none, none, none, none, none, none, none, none, none, none, none, none, none, none, none, none, none, none, none, none, none, none, none, none, none, none, none, none, none, none, none, none, none, none, none, none, none, none, none, none, none, none, none, none, none, none, none, none, none], hlen, trivial, h⟩
      · exact (show False from h).elim
    | ret =>
      exact (show False from h).elim
  · intro f w K h
    have e : lid ref06_Mixer_Learn.b0 = 6 := by kernel_rfl
    rw [e] at h
    exact h
theorem ref06_Mixer_Learn.eq (a0 : Option Addr) (a1 : Int) (w : World) (K : Value → World → Prop) : afn ref06_Mixer_Learn.C ref06_Mixer_Learn.L ref06_Mixer_Learn.D tab Try.f60 [(Value.pointer a0), (Value.int .i64 a1)] w K = ref06_Mixer_Learn.f a0 a1 w (fun w => K (Value.tuple #[]) w) := by kernel_rfl
theorem ref06_Mixer_Learn.ok : FSound Try.prog 60 ref06_Mixer_Learn.h := by
  intro args w K h
  unfold ref06_Mixer_Learn.h ref06_Mixer_Learn.H at h
  split at h
  ·
    replace h := vP_ok h
    obtain ⟨a0, rfl, h⟩ := h
    replace h := vI_ok h
    obtain ⟨a1, rfl, h⟩ := h
    refine ⟨by kernel_rfl, fn_ok tab_ok ref06_Mixer_Learn.C_ok (L := ref06_Mixer_Learn.L) (D := ref06_Mixer_Learn.D) Try.func60 ref06_Mixer_Learn.hb (by kernel_rfl) (by rw [ref06_Mixer_Learn.c_loops]; exact lcons ref06_Mixer_Learn.lok6 (lnil)) (Nat.le_of_ble_eq_true (by kernel_rfl)) ?_⟩
    rw [ref06_Mixer_Learn.eq]
    exact h
  · exact h.elim
/-! ### (*valise/valiseref08.Model).Learn: function 30 -/
def ref08_Model_Learn.f (a0 : Option Addr) (a1 : Int) (w : World) (K : World → Prop) : Prop :=
  ref08_Model_Chance.f a0 w fun r6_2 w =>
  let J_48 := fun (j4_6 : Int) (w : World) =>
    ((sm a0 fun p_8 =>
    ldP (p_8.add 1) w.drew fun x12_9 =>
    sm a0 fun p_10 =>
    ldI .i64 (p_10.add 6) w.drew fun x16_11 =>
    ref05_Table_Learn.f x12_9 x16_11 j4_6 4 w.drew fun w =>
    let J_47 := fun  (w : World) =>
      ((sm a0 fun p_34 =>
      ldI .i64 (p_34.add 6) w fun x61_35 =>
      sm a0 fun p_36 =>
      stC (p_36.add 6) (Value.int .i64 (IntKind.wrap .i64 ((IntKind.wrap .i64 (2 * x61_35)) + j4_6))) w fun w =>
      sm a0 fun p_38 =>
      ldI .i64 (p_38.add 6) w fun x70_39 =>
      bif (decide (x70_39 ≥ 256)) then
        sm a0 fun p_40 =>
        ldI .i64 (p_40.add 7) w.drew fun x78_41 =>
        sm a0 fun p_42 =>
        ldI .i64 (p_42.add 6) w.drew fun x82_43 =>
        sm a0 fun p_44 =>
        stC (p_44.add 8) (Value.int .i64 x78_41) w.drew fun w =>
        sm a0 fun p_45 =>
        stC (p_45.add 7) (Value.int .i64 (IntKind.wrap .i64 (x82_43 - 256))) w fun w =>
        sm a0 fun p_46 =>
        stC (p_46.add 6) (Value.int .i64 1) w fun w =>
        K w
      else
        K w) : Prop)
    sm a0 fun p_14 =>
    ldI .i64 p_14 w fun x22_15 =>
    bif (decide (x22_15 > 0)) then
      sm a0 fun p_17 =>
      ldP (p_17.add 2) w.drew fun x27_18 =>
      ref08_Model_second.f a0 w.drew fun r29_19 w =>
      (World.cell? w (p_17.add 2) = some (.pointer x27_18)) ∧
      (ref05_Table_Learn.f x27_18 r29_19 j4_6 4 w fun w =>
      let J_32 := fun  (w : World) =>
        ((sm a0 fun p_28 =>
        ldP (p_28.add 4) w fun x48_29 =>
        ref06_Mixer_Learn.f x48_29 j4_6 w fun w =>
        sm a0 fun p_30 =>
        ldP (p_30.add 5) w fun x54_31 =>
        ref07_Stage_Learn.f x54_31 j4_6 6 w fun w =>
        J_47 w) : Prop)
      sm a0 fun p_22 =>
      ldI .i64 p_22 w fun x35_23 =>
      bif (x35_23 == 2) then
        sm a0 fun p_24 =>
        ldP (p_24.add 3) w.drew fun x40_25 =>
        ref08_Model_third.f a0 w.drew fun r42_26 w =>
        (World.cell? w (p_24.add 3) = some (.pointer x40_25)) ∧
        (ref05_Table_Learn.f x40_25 r42_26 j4_6 3 w fun w =>
        J_32 w)
      else
        J_32 w)
    else
      J_47 w) : Prop)
  bif (a1 != 0) then
    J_48 1 w
  else
    J_48 0 w
def ref08_Model_Learn.H (F : type_of% @ref08_Model_Learn.f) : Hf := fun args w K => match args with
  | [v0, v1] => vP v0 fun a0 => vI .i64 v1 fun a1 => F a0 a1 w (fun w => K (Value.tuple #[]) w)
  | _ => False
def ref08_Model_Learn.h : Hf := ref08_Model_Learn.H @ref08_Model_Learn.f
def ref08_Model_Learn.CG (F28 : type_of% @ref08_Model_Chance.f) (F59 : type_of% @ref05_Table_Learn.f) (F56 : type_of% @ref08_Model_second.f) (F54 : type_of% @ref08_Model_third.f) (F60 : type_of% @ref06_Mixer_Learn.f) (F23 : type_of% @ref07_Stage_Learn.f) : Hd := hcons 23 (ref07_Stage_Learn.H F23) (hcons 60 (ref06_Mixer_Learn.H F60) (hcons 54 (ref08_Model_third.H F54) (hcons 56 (ref08_Model_second.H F56) (hcons 59 (ref05_Table_Learn.H F59) (hcons 28 (ref08_Model_Chance.H F28) (hnil))))))
def ref08_Model_Learn.C : Hd := ref08_Model_Learn.CG @ref08_Model_Chance.f @ref05_Table_Learn.f @ref08_Model_second.f @ref08_Model_third.f @ref06_Mixer_Learn.f @ref07_Stage_Learn.f
def ref08_Model_Learn.G (F28 : type_of% @ref08_Model_Chance.f) (F59 : type_of% @ref05_Table_Learn.f) (F56 : type_of% @ref08_Model_second.f) (F54 : type_of% @ref08_Model_third.f) (F60 : type_of% @ref06_Mixer_Learn.f) (F23 : type_of% @ref07_Stage_Learn.f) (a0 : Option Addr) (a1 : Int) (w : World) (K : World → Prop) : Prop :=
  F28 a0 w fun r6_2 w =>
  let J_48 := fun (j4_6 : Int) (w : World) =>
    ((sm a0 fun p_8 =>
    ldP (p_8.add 1) w.drew fun x12_9 =>
    sm a0 fun p_10 =>
    ldI .i64 (p_10.add 6) w.drew fun x16_11 =>
    F59 x12_9 x16_11 j4_6 4 w.drew fun w =>
    let J_47 := fun  (w : World) =>
      ((sm a0 fun p_34 =>
      ldI .i64 (p_34.add 6) w fun x61_35 =>
      sm a0 fun p_36 =>
      stC (p_36.add 6) (Value.int .i64 (IntKind.wrap .i64 ((IntKind.wrap .i64 (2 * x61_35)) + j4_6))) w fun w =>
      sm a0 fun p_38 =>
      ldI .i64 (p_38.add 6) w fun x70_39 =>
      bif (decide (x70_39 ≥ 256)) then
        sm a0 fun p_40 =>
        ldI .i64 (p_40.add 7) w.drew fun x78_41 =>
        sm a0 fun p_42 =>
        ldI .i64 (p_42.add 6) w.drew fun x82_43 =>
        sm a0 fun p_44 =>
        stC (p_44.add 8) (Value.int .i64 x78_41) w.drew fun w =>
        sm a0 fun p_45 =>
        stC (p_45.add 7) (Value.int .i64 (IntKind.wrap .i64 (x82_43 - 256))) w fun w =>
        sm a0 fun p_46 =>
        stC (p_46.add 6) (Value.int .i64 1) w fun w =>
        K w
      else
        K w) : Prop)
    sm a0 fun p_14 =>
    ldI .i64 p_14 w fun x22_15 =>
    bif (decide (x22_15 > 0)) then
      sm a0 fun p_17 =>
      ldP (p_17.add 2) w.drew fun x27_18 =>
      F56 a0 w.drew fun r29_19 w =>
      (World.cell? w (p_17.add 2) = some (.pointer x27_18)) ∧
      (F59 x27_18 r29_19 j4_6 4 w fun w =>
      let J_32 := fun  (w : World) =>
        ((sm a0 fun p_28 =>
        ldP (p_28.add 4) w fun x48_29 =>
        F60 x48_29 j4_6 w fun w =>
        sm a0 fun p_30 =>
        ldP (p_30.add 5) w fun x54_31 =>
        F23 x54_31 j4_6 6 w fun w =>
        J_47 w) : Prop)
      sm a0 fun p_22 =>
      ldI .i64 p_22 w fun x35_23 =>
      bif (x35_23 == 2) then
        sm a0 fun p_24 =>
        ldP (p_24.add 3) w.drew fun x40_25 =>
        F54 a0 w.drew fun r42_26 w =>
        (World.cell? w (p_24.add 3) = some (.pointer x40_25)) ∧
        (F59 x40_25 r42_26 j4_6 3 w fun w =>
        J_32 w)
      else
        J_32 w)
    else
      J_47 w) : Prop)
  bif (a1 != 0) then
    J_48 1 w
  else
    J_48 0 w
theorem ref08_Model_Learn.C_ok : CSound Try.prog ref08_Model_Learn.C := hcons_ok ref07_Stage_Learn.ok (hcons_ok ref06_Mixer_Learn.ok (hcons_ok ref08_Model_third.ok (hcons_ok ref08_Model_second.ok (hcons_ok ref05_Table_Learn.ok (hcons_ok ref08_Model_Chance.ok (hnil_ok))))))
def ref08_Model_Learn.D : Nat → Plan := fun i => (match Nat.beq i 13 with | true => .take 0 (.take 1 (.take 2 (.take 3 (.take 4 (.take 5 (.take 6 (.take 7 (.take 8 (.take 9 (.take 10 (.take 11 (.take 12 (.take 13 (.eff 14 (.take 15 (.take 16 (.eff 17 (.take 18 (.take 19 (.eff 20 (.done))))))))))))))))))))) | false => (match Nat.beq i 8 with | true => .take 0 (.take 1 (.take 2 (.take 3 (.take 4 (.take 6 (.eff 5 (.eff 7 (.done)))))))) | false => (match Nat.beq i 6 with | true => .take 0 (.take 1 (.take 2 (.take 3 (.take 4 (.take 6 (.eff 5 (.eff 7 (.done)))))))) | false => (match Nat.beq i 4 with | true => .take 0 (.take 1 (.take 2 (.take 3 (.take 4 (.take 5 (.take 6 (.take 7 (.take 8 (.eff 9 (.done)))))))))) | false => .done))))
noncomputable def ref08_Model_Learn.c : Code := Try.f30.body.getD .skip
theorem ref08_Model_Learn.hb : Try.f30.body = some ref08_Model_Learn.c := by kernel_rfl
theorem ref08_Model_Learn.c_loops : loopsOf ref08_Model_Learn.c = [] := by kernel_rfl
def ref08_Model_Learn.L : LHd := fun l f w K => False
theorem ref08_Model_Learn.eqG (F28 : type_of% @ref08_Model_Chance.f) (F59 : type_of% @ref05_Table_Learn.f) (F56 : type_of% @ref08_Model_second.f) (F54 : type_of% @ref08_Model_third.f) (F60 : type_of% @ref06_Mixer_Learn.f) (F23 : type_of% @ref07_Stage_Learn.f) (a0 : Option Addr) (a1 : Int) (w : World) (K : Value → World → Prop) : afn (ref08_Model_Learn.CG F28 F59 F56 F54 F60 F23) ref08_Model_Learn.L ref08_Model_Learn.D tab Try.f30 [(Value.pointer a0), (Value.int .i64 a1)] w K = ref08_Model_Learn.G F28 F59 F56 F54 F60 F23 a0 a1 w (fun w => K (Value.tuple #[]) w) := by kernel_rfl
theorem ref08_Model_Learn.eq (a0 : Option Addr) (a1 : Int) (w : World) (K : Value → World → Prop) : afn ref08_Model_Learn.C ref08_Model_Learn.L ref08_Model_Learn.D tab Try.f30 [(Value.pointer a0), (Value.int .i64 a1)] w K = ref08_Model_Learn.f a0 a1 w (fun w => K (Value.tuple #[]) w) := ref08_Model_Learn.eqG @ref08_Model_Chance.f @ref05_Table_Learn.f @ref08_Model_second.f @ref08_Model_third.f @ref06_Mixer_Learn.f @ref07_Stage_Learn.f a0 a1 w K
theorem ref08_Model_Learn.ok : FSound Try.prog 30 ref08_Model_Learn.h := by
  intro args w K h
  unfold ref08_Model_Learn.h ref08_Model_Learn.H at h
  split at h
  ·
    replace h := vP_ok h
    obtain ⟨a0, rfl, h⟩ := h
    replace h := vI_ok h
    obtain ⟨a1, rfl, h⟩ := h
    refine ⟨by kernel_rfl, fn_ok tab_ok ref08_Model_Learn.C_ok (L := ref08_Model_Learn.L) (D := ref08_Model_Learn.D) Try.func30 ref08_Model_Learn.hb (by kernel_rfl) (by rw [ref08_Model_Learn.c_loops]; exact lnil) (Nat.le_of_ble_eq_true (by kernel_rfl)) ?_⟩
    rw [ref08_Model_Learn.eq]
    exact h
  · exact h.elim
/-! ### valise/stream.right: function 61 -/
def stream_right.f (a0 : Int) (w : World) (K : Bool → World → Prop) : Prop :=
  bif (decide (a0 ≥ 0)) then
    let v2_3 := (decide (a0 < 3))
    K v2_3 w
  else
    K false w
def stream_right.H (F : type_of% @stream_right.f) : Hf := fun args w K => match args with
  | [v0] => vI .i64 v0 fun a0 => F a0 w (fun r0 w => K (Value.bool r0) w)
  | _ => False
def stream_right.h : Hf := stream_right.H @stream_right.f
def stream_right.C : Hd := hnil
theorem stream_right.C_ok : CSound Try.prog stream_right.C := hnil_ok
def stream_right.D : Nat → Plan := fun i => .done
noncomputable def stream_right.c : Code := Try.f61.body.getD .skip
theorem stream_right.hb : Try.f61.body = some stream_right.c := by kernel_rfl
theorem stream_right.c_loops : loopsOf stream_right.c = [] := by kernel_rfl
def stream_right.L : LHd := fun l f w K => False
theorem stream_right.eq (a0 : Int) (w : World) (K : Value → World → Prop) : afn stream_right.C stream_right.L stream_right.D tab Try.f61 [(Value.int .i64 a0)] w K = stream_right.f a0 w (fun r0 w => K (Value.bool r0) w) := by kernel_rfl
theorem stream_right.ok : FSound Try.prog 61 stream_right.h := by
  intro args w K h
  unfold stream_right.h stream_right.H at h
  split at h
  ·
    replace h := vI_ok h
    obtain ⟨a0, rfl, h⟩ := h
    refine ⟨by kernel_rfl, fn_ok tab_ok stream_right.C_ok (L := stream_right.L) (D := stream_right.D) Try.func61 stream_right.hb (by kernel_rfl) (by rw [stream_right.c_loops]; exact lnil) (Nat.le_of_ble_eq_true (by kernel_rfl)) ?_⟩
    rw [stream_right.eq]
    exact h
  · exact h.elim
/-! ### valise/coder.whole: function 81 -/
def coder_whole.f  (w : World) (K : Int → Int → World → Prop) : Prop :=
  newC 128 [(Value.int .u32 0), (Value.int .u32 0)] w fun a0_2 w =>
  stCs a0_2 [(Value.int .u32 0), (Value.int .u32 4294967295)] 0 w fun w =>
  ldI .u32 (a0_2.add 0) w fun q_4_0 =>
  ldI .u32 (a0_2.add 1) w fun q_4_1 =>
  K q_4_0 q_4_1 w
def coder_whole.H (F : type_of% @coder_whole.f) : Hf := fun args w K => match args with
  | [] =>  F  w (fun r0_0 r0_1 w => K (Value.agg #[(Value.int .u32 r0_0), (Value.int .u32 r0_1)]) w)
  | _ => False
def coder_whole.h : Hf := coder_whole.H @coder_whole.f
def coder_whole.C : Hd := hnil
theorem coder_whole.C_ok : CSound Try.prog coder_whole.C := hnil_ok
def coder_whole.D : Nat → Plan := fun i => .done
noncomputable def coder_whole.c : Code := Try.f81.body.getD .skip
theorem coder_whole.hb : Try.f81.body = some coder_whole.c := by kernel_rfl
theorem coder_whole.c_loops : loopsOf coder_whole.c = [] := by kernel_rfl
def coder_whole.L : LHd := fun l f w K => False
theorem coder_whole.eq  (w : World) (K : Value → World → Prop) : afn coder_whole.C coder_whole.L coder_whole.D tab Try.f81 [] w K = coder_whole.f  w (fun r0_0 r0_1 w => K (Value.agg #[(Value.int .u32 r0_0), (Value.int .u32 r0_1)]) w) := by kernel_rfl
theorem coder_whole.ok : FSound Try.prog 81 coder_whole.h := by
  intro args w K h
  unfold coder_whole.h coder_whole.H at h
  split at h
  ·
    refine ⟨by kernel_rfl, fn_ok tab_ok coder_whole.C_ok (L := coder_whole.L) (D := coder_whole.D) Try.func81 coder_whole.hb (by kernel_rfl) (by rw [coder_whole.c_loops]; exact lnil) (Nat.le_of_ble_eq_true (by kernel_rfl)) ?_⟩
    rw [coder_whole.eq]
    exact h
  · exact h.elim
/-! ### valise/coder.NewEncoder: function 62 -/
def coder_NewEncoder.f  (w : World) (K : Option Addr → World → Prop) : Prop :=
  coder_whole.f  w fun r1_3_0 r1_3_1 w =>
  newC 131 [(Value.int .u32 r1_3_0), (Value.int .u32 r1_3_1), (Value.slice none 0 0)] w fun a3_4 w =>
  K (some a3_4) w
def coder_NewEncoder.H (F : type_of% @coder_NewEncoder.f) : Hf := fun args w K => match args with
  | [] =>  F  w (fun r0 w => K (Value.pointer r0) w)
  | _ => False
def coder_NewEncoder.h : Hf := coder_NewEncoder.H @coder_NewEncoder.f
def coder_NewEncoder.C : Hd := hcons 81 coder_whole.h (hnil)
theorem coder_NewEncoder.C_ok : CSound Try.prog coder_NewEncoder.C := hcons_ok coder_whole.ok (hnil_ok)
def coder_NewEncoder.D : Nat → Plan := fun i => .done
noncomputable def coder_NewEncoder.c : Code := Try.f62.body.getD .skip
theorem coder_NewEncoder.hb : Try.f62.body = some coder_NewEncoder.c := by kernel_rfl
theorem coder_NewEncoder.c_loops : loopsOf coder_NewEncoder.c = [] := by kernel_rfl
def coder_NewEncoder.L : LHd := fun l f w K => False
theorem coder_NewEncoder.eq  (w : World) (K : Value → World → Prop) : afn coder_NewEncoder.C coder_NewEncoder.L coder_NewEncoder.D tab Try.f62 [] w K = coder_NewEncoder.f  w (fun r0 w => K (Value.pointer r0) w) := by kernel_rfl
theorem coder_NewEncoder.ok : FSound Try.prog 62 coder_NewEncoder.h := by
  intro args w K h
  unfold coder_NewEncoder.h coder_NewEncoder.H at h
  split at h
  ·
    refine ⟨by kernel_rfl, fn_ok tab_ok coder_NewEncoder.C_ok (L := coder_NewEncoder.L) (D := coder_NewEncoder.D) Try.func62 coder_NewEncoder.hb (by kernel_rfl) (by rw [coder_NewEncoder.c_loops]; exact lnil) (Nat.le_of_ble_eq_true (by kernel_rfl)) ?_⟩
    rw [coder_NewEncoder.eq]
    exact h
  · exact h.elim
/-! ### (*valise/coder.span).mid: function 94 -/
def coder_span_mid.f (a0 : Option Addr) (a1 : Int) (w : World) (K : Int → World → Prop) : Prop :=
  let v5_3 := (IntKind.wrap .u32 (mx 1 (mn a1 4095)))
  sm a0 fun p_5 =>
  ldI .u32 (p_5.add 1) w.drew fun x14_6 =>
  sm a0 fun p_7 =>
  ldI .u32 p_7 w.drew fun x18_8 =>
  let v6_9 := (IntKind.wrap .u32 (x14_6 - x18_8))
  sm a0 fun p_11 =>
  ldI .u32 p_11 w.drew fun x23_12 =>
  let v4_13 := (IntKind.wrap .u32 ((IntKind.wrap .u32 (x23_12 + (IntKind.wrap .u32 ((IntKind.wrap .u32 (Int.tdiv v6_9 4096)) * v5_3)))) + (IntKind.wrap .u32 (Int.tdiv (IntKind.wrap .u32 ((Int.tmod v6_9 4096) * v5_3)) 4096))))
  K v4_13 w.drew
def coder_span_mid.H (F : type_of% @coder_span_mid.f) : Hf := fun args w K => match args with
  | [v0, v1] => vP v0 fun a0 => vI .i64 v1 fun a1 => F a0 a1 w (fun r0 w => K (Value.int .u32 r0) w)
  | _ => False
def coder_span_mid.h : Hf := coder_span_mid.H @coder_span_mid.f
def coder_span_mid.C : Hd := hnil
theorem coder_span_mid.C_ok : CSound Try.prog coder_span_mid.C := hnil_ok
def coder_span_mid.D : Nat → Plan := fun i => (match Nat.beq i 2 with | true => .take 0 (.take 1 (.take 2 (.take 3 (.take 4 (.take 5 (.take 6 (.take 7 (.take 8 (.take 9 (.done)))))))))) | false => .done)
noncomputable def coder_span_mid.c : Code := Try.f94.body.getD .skip
theorem coder_span_mid.hb : Try.f94.body = some coder_span_mid.c := by kernel_rfl
theorem coder_span_mid.c_loops : loopsOf coder_span_mid.c = [] := by kernel_rfl
def coder_span_mid.L : LHd := fun l f w K => False
theorem coder_span_mid.eq (a0 : Option Addr) (a1 : Int) (w : World) (K : Value → World → Prop) : afn coder_span_mid.C coder_span_mid.L coder_span_mid.D tab Try.f94 [(Value.pointer a0), (Value.int .i64 a1)] w K = coder_span_mid.f a0 a1 w (fun r0 w => K (Value.int .u32 r0) w) := by kernel_rfl
theorem coder_span_mid.ok : FSound Try.prog 94 coder_span_mid.h := by
  intro args w K h
  unfold coder_span_mid.h coder_span_mid.H at h
  split at h
  ·
    replace h := vP_ok h
    obtain ⟨a0, rfl, h⟩ := h
    replace h := vI_ok h
    obtain ⟨a1, rfl, h⟩ := h
    refine ⟨by kernel_rfl, fn_ok tab_ok coder_span_mid.C_ok (L := coder_span_mid.L) (D := coder_span_mid.D) Try.func94 coder_span_mid.hb (by kernel_rfl) (by rw [coder_span_mid.c_loops]; exact lnil) (Nat.le_of_ble_eq_true (by kernel_rfl)) ?_⟩
    rw [coder_span_mid.eq]
    exact h
  · exact h.elim
/-! ### (*valise/coder.span).take: function 93 -/
def coder_span_take.f (a0 : Option Addr) (a1 : Int) (a2 : Int) (w : World) (K : World → Prop) : Prop :=
  bif (a1 != 0) then
    sm a0 fun p_2 =>
    stC (p_2.add 1) (Value.int .u32 a2) w fun w =>
    K w
  else
    sm a0 fun p_3 =>
    stC p_3 (Value.int .u32 (IntKind.wrap .u32 (a2 + 1))) w fun w =>
    K w
def coder_span_take.H (F : type_of% @coder_span_take.f) : Hf := fun args w K => match args with
  | [v0, v1, v2] => vP v0 fun a0 => vI .i64 v1 fun a1 => vI .u32 v2 fun a2 => F a0 a1 a2 w (fun w => K (Value.tuple #[]) w)
  | _ => False
def coder_span_take.h : Hf := coder_span_take.H @coder_span_take.f
def coder_span_take.C : Hd := hnil
theorem coder_span_take.C_ok : CSound Try.prog coder_span_take.C := hnil_ok
def coder_span_take.D : Nat → Plan := fun i => .done
noncomputable def coder_span_take.c : Code := Try.f93.body.getD .skip
theorem coder_span_take.hb : Try.f93.body = some coder_span_take.c := by kernel_rfl
theorem coder_span_take.c_loops : loopsOf coder_span_take.c = [] := by kernel_rfl
def coder_span_take.L : LHd := fun l f w K => False
theorem coder_span_take.eq (a0 : Option Addr) (a1 : Int) (a2 : Int) (w : World) (K : Value → World → Prop) : afn coder_span_take.C coder_span_take.L coder_span_take.D tab Try.f93 [(Value.pointer a0), (Value.int .i64 a1), (Value.int .u32 a2)] w K = coder_span_take.f a0 a1 a2 w (fun w => K (Value.tuple #[]) w) := by kernel_rfl
theorem coder_span_take.ok : FSound Try.prog 93 coder_span_take.h := by
  intro args w K h
  unfold coder_span_take.h coder_span_take.H at h
  split at h
  ·
    replace h := vP_ok h
    obtain ⟨a0, rfl, h⟩ := h
    replace h := vI_ok h
    obtain ⟨a1, rfl, h⟩ := h
    replace h := vI_ok h
    obtain ⟨a2, rfl, h⟩ := h
    refine ⟨by kernel_rfl, fn_ok tab_ok coder_span_take.C_ok (L := coder_span_take.L) (D := coder_span_take.D) Try.func93 coder_span_take.hb (by kernel_rfl) (by rw [coder_span_take.c_loops]; exact lnil) (Nat.le_of_ble_eq_true (by kernel_rfl)) ?_⟩
    rw [coder_span_take.eq]
    exact h
  · exact h.elim
/-! ### (*valise/coder.span).shift: function 95 -/
def coder_span_shift.f (a0 : Option Addr) (w : World) (K : Int → Bool → World → Prop) : Prop :=
  sm a0 fun p_4 =>
  ldI .u32 p_4 w.drew fun x8_5 =>
  sm a0 fun p_6 =>
  ldI .u32 (p_6.add 1) w.drew fun x13_7 =>
  bif ((shr .u32 x8_5 24) != (shr .u32 x13_7 24)) then
    K 0 false w.drew
  else
    sm a0 fun p_10 =>
    ldI .u32 p_10 w.drew fun x19_11 =>
    let v4_12 := (IntKind.wrap .u8 (shr .u32 x19_11 24))
    sm a0 fun p_14 =>
    ldI .u32 p_14 w.drew.drew fun x27_15 =>
    sm a0 fun p_16 =>
    ldI .u32 (p_16.add 1) w.drew.drew fun x32_17 =>
    sm a0 fun p_18 =>
    stC p_18 (Value.int .u32 (shl .u32 x27_15 8)) w.drew.drew fun w =>
    sm a0 fun p_19 =>
    stC (p_19.add 1) (Value.int .u32 (bor .u32 (shl .u32 x32_17 8) 255)) w fun w =>
    K v4_12 true w
def coder_span_shift.H (F : type_of% @coder_span_shift.f) : Hf := fun args w K => match args with
  | [v0] => vP v0 fun a0 => F a0 w (fun r0 r1 w => K (Value.tuple #[(Value.int .u8 r0), (Value.bool r1)]) w)
  | _ => False
def coder_span_shift.h : Hf := coder_span_shift.H @coder_span_shift.f
def coder_span_shift.C : Hd := hnil
theorem coder_span_shift.C_ok : CSound Try.prog coder_span_shift.C := hnil_ok
def coder_span_shift.D : Nat → Plan := fun i => (match Nat.beq i 4 with | true => .take 0 (.take 1 (.take 2 (.take 3 (.take 4 (.take 5 (.take 6 (.take 7 (.take 8 (.take 9 (.take 10 (.take 11 (.take 12 (.take 13 (.take 14 (.eff 15 (.take 16 (.take 17 (.eff 18 (.done))))))))))))))))))) | false => (match Nat.beq i 1 with | true => .take 0 (.take 1 (.take 2 (.take 3 (.take 4 (.take 5 (.take 6 (.take 7 (.take 8 (.take 9 (.take 10 (.done))))))))))) | false => .done))
noncomputable def coder_span_shift.c : Code := Try.f95.body.getD .skip
theorem coder_span_shift.hb : Try.f95.body = some coder_span_shift.c := by kernel_rfl
theorem coder_span_shift.c_loops : loopsOf coder_span_shift.c = [] := by kernel_rfl
def coder_span_shift.L : LHd := fun l f w K => False
theorem coder_span_shift.eq (a0 : Option Addr) (w : World) (K : Value → World → Prop) : afn coder_span_shift.C coder_span_shift.L coder_span_shift.D tab Try.f95 [(Value.pointer a0)] w K = coder_span_shift.f a0 w (fun r0 r1 w => K (Value.tuple #[(Value.int .u8 r0), (Value.bool r1)]) w) := by kernel_rfl
theorem coder_span_shift.ok : FSound Try.prog 95 coder_span_shift.h := by
  intro args w K h
  unfold coder_span_shift.h coder_span_shift.H at h
  split at h
  ·
    replace h := vP_ok h
    obtain ⟨a0, rfl, h⟩ := h
    refine ⟨by kernel_rfl, fn_ok tab_ok coder_span_shift.C_ok (L := coder_span_shift.L) (D := coder_span_shift.D) Try.func95 coder_span_shift.hb (by kernel_rfl) (by rw [coder_span_shift.c_loops]; exact lnil) (Nat.le_of_ble_eq_true (by kernel_rfl)) ?_⟩
    rw [coder_span_shift.eq]
    exact h
  · exact h.elim

end Go.Proofs.Ytdbnobeopgfhgaa.G
