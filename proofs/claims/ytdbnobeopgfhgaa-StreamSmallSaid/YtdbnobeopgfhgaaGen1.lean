/- Go functions as predicate transformers, written by a program of this session (gen.py), with their soundness. -/
import Derived.Test.YtdbnobeopgfhgaaGenT
set_option linter.unusedVariables false
set_option linter.unusedSimpArgs false
set_option maxRecDepth 100000
namespace Go.Proofs.Ytdbnobeopgfhgaa.G
open Go Go.Proofs.Ytdbnobeopgfhgaa.Vm
/-! ### valise/mix.Squash: function 40 -/
def mix_Squash.f (a0 : Int) (w : World) (K : Int → World → Prop) : Prop :=
  let v0_3 := (mx (-2047) (mn a0 2047))
  if (IntKind.wrap .i64 (512 + (mx v0_3 (IntKind.wrap .i64 (0 - v0_3))))) = 0 then False else
  let v2_5 := (IntKind.wrap .i64 (2048 + (IntKind.wrap .i64 (Int.tdiv (IntKind.wrap .i64 (2560 * v0_3)) (IntKind.wrap .i64 (512 + (mx v0_3 (IntKind.wrap .i64 (0 - v0_3)))))))))
  K v2_5 w
def mix_Squash.H (F : type_of% @mix_Squash.f) : Hf := fun args w K => match args with
  | [v0] => vI .i64 v0 fun a0 => F a0 w (fun r0 w => K (Value.int .i64 r0) w)
  | _ => False
def mix_Squash.h : Hf := mix_Squash.H @mix_Squash.f
def mix_Squash.C : Hd := hnil
theorem mix_Squash.C_ok : CSound Try.prog mix_Squash.C := hnil_ok
def mix_Squash.D : Nat → Plan := fun i => .done
noncomputable def mix_Squash.c : Code := Try.f40.body.getD .skip
theorem mix_Squash.hb : Try.f40.body = some mix_Squash.c := by kernel_rfl
theorem mix_Squash.c_loops : loopsOf mix_Squash.c = [] := by kernel_rfl
def mix_Squash.L : LHd := fun l f w K => False
theorem mix_Squash.eq (a0 : Int) (w : World) (K : Value → World → Prop) : afn mix_Squash.C mix_Squash.L mix_Squash.D tab Try.f40 [(Value.int .i64 a0)] w K = mix_Squash.f a0 w (fun r0 w => K (Value.int .i64 r0) w) := by kernel_rfl
theorem mix_Squash.ok : FSound Try.prog 40 mix_Squash.h := by
  intro args w K h
  unfold mix_Squash.h mix_Squash.H at h
  split at h
  ·
    replace h := vI_ok h
    obtain ⟨a0, rfl, h⟩ := h
    refine ⟨by kernel_rfl, fn_ok tab_ok mix_Squash.C_ok (L := mix_Squash.L) (D := mix_Squash.D) Try.func40 mix_Squash.hb (by kernel_rfl) (by rw [mix_Squash.c_loops]; exact lnil) (Nat.le_of_ble_eq_true (by kernel_rfl)) ?_⟩
    rw [mix_Squash.eq]
    exact h
  · exact h.elim
/-! ### valise/stage.New: function 15 -/
def stage_New.l4 : Nat → Addr → Addr → Int → World → (Addr → Addr → World → Prop) → Prop
  | 0, _, _, _, _, _ => False
  | N + 1, y3, y4, y13, w, K0 =>
    bif (decide (y13 < 33)) then
      mix_Squash.f (IntKind.wrap .i64 (128 * (IntKind.wrap .i64 (y13 - 16)))) w fun r20_13 w =>
      if 0 ≤ (y13 : Int) ∧ (y13 : Int) < ((33 : Nat) : Int) then
      stC (y4.add (Int.toNat y13)) (Value.int .i64 (IntKind.wrap .i64 (16 * r20_13))) w fun w =>
      stage_New.l4 N y3 y4 (IntKind.wrap .i64 (y13 + 1)) w K0
      else False
    else
      K0 y3 y4 w

def stage_New.l9 : Nat → Addr → Addr → Int → Int → World → (Addr → World → Prop) → Prop
  | 0, _, _, _, _, _, _ => False
  | N + 1, y3, y4, y28, y29, w, K2 =>
    bif (decide (y29 < y28)) then
      ldL y3 w.drew fun x35_24 x35_24n x35_24c =>
      ldA y4 33 w.drew fun x37_25 =>
      sm x35_24 fun p_26 =>
      if 0 ≤ (y29 : Int) ∧ (y29 : Int) < ((x35_24n : Nat) : Int) then
      if (x37_25.toArray).size = 33 then
      stCs (p_26.add (Int.toNat y29 * 33)) x37_25 0 w.drew fun w =>
      stage_New.l9 N y3 y4 y28 (IntKind.wrap .i64 (y29 + 1)) w K2
      else False
      else False
    else
      K2 y3 w

def stage_New.f (a0 : Int) (w : World) (K : Option Addr → World → Prop) : Prop :=
  mkL 63 33 264 (List.replicate 33 (Value.int .i64 0)) (mx 1 (mn a0 1024)) (mx 1 (mn a0 1024)) w fun a10_3 a10_3n a10_3c w =>
  newC 62 [(Value.slice a10_3 a10_3n a10_3c), (Value.bool false), (Value.int .i64 0), (Value.int .i64 0)] w fun a12_4 w =>
  newC 63 (List.replicate 33 (Value.int .i64 0)) w fun a4_6 w =>
  ∃ N_14 : Nat, stage_New.l4 N_14 a12_4 a4_6 0 w
  (fun o3_15 o4_16 w =>
    ldL o3_15 w fun x27_19 x27_19n x27_19c =>
    ∃ N_27 : Nat, stage_New.l9 N_27 o3_15 o4_16 ((x27_19n : Nat) : Int) 0 w
    (fun o3_28 w =>
      K (some o3_28) w))
def stage_New.H (F : type_of% @stage_New.f) : Hf := fun args w K => match args with
  | [v0] => vI .i64 v0 fun a0 => F a0 w (fun r0 w => K (Value.pointer r0) w)
  | _ => False
def stage_New.h : Hf := stage_New.H @stage_New.f
def stage_New.C : Hd := hcons 40 mix_Squash.h (hnil)
theorem stage_New.C_ok : CSound Try.prog stage_New.C := hcons_ok mix_Squash.ok (hnil_ok)
def stage_New.D : Nat → Plan := fun i => (match Nat.beq i 11 with | true => .take 0 (.take 1 (.take 2 (.take 3 (.take 4 (.take 5 (.take 6 (.eff 7 (.done)))))))) | false => .done)
noncomputable def stage_New.c : Code := Try.f15.body.getD .skip
theorem stage_New.hb : Try.f15.body = some stage_New.c := by kernel_rfl
noncomputable def stage_New.b0 : Code := (loopsOf stage_New.c).getD 0 .skip
theorem stage_New.b0_loops : loopsOf stage_New.b0 = [] := by kernel_rfl
noncomputable def stage_New.b1 : Code := (loopsOf stage_New.c).getD 1 .skip
theorem stage_New.b1_loops : loopsOf stage_New.b1 = [] := by kernel_rfl
theorem stage_New.c_loops : loopsOf stage_New.c = [stage_New.b0, stage_New.b1] := by kernel_rfl
def stage_New.hn4 (N : Nat) (f : Fr) (w : World) (K : AExit → Fr → World → Prop) : Prop :=
  gN f 41 <| gQ f 3 fun y3 => gQ f 4 fun y4 => gI .i64 f 13 fun y13 => stage_New.l4 N y3 y4 y13 w (fun o3 o4 w => K (.exit 0) [none, none, none, some (Value.pointer (some o3)), some (Value.pointer (some o4)), none, none, none, none, none, none, none, none, none, none, none, none, none, none, none, none, none, none, none, none, none, none, none, none, none, none, none, none, none, none, none, none, none, none, none, none] w)
def stage_New.hx4 : AExit → Fr → World → (AExit → Fr → World → Prop) → Prop := fun e f w K => match e with
  | .normal => False
  | .exit i => (match Nat.beq i 0 with | true => gN f 41 <| gQ f 3 fun o3 => gQ f 4 fun o4 => K (.exit 0) [none, none, none, some (Value.pointer (some o3)), some (Value.pointer (some o4)), none, none, none, none, none, none, none, none, none, none, none, none, none, none, none, none, none, none, none, none, none, none, none, none, none, none, none, none, none, none, none, none, none, none, none, none] w | false => False)
  | .ret => False
def stage_New.hn9 (N : Nat) (f : Fr) (w : World) (K : AExit → Fr → World → Prop) : Prop :=
  gN f 41 <| gQ f 3 fun y3 => gQ f 4 fun y4 => gI .i64 f 28 fun y28 => gI .i64 f 29 fun y29 => stage_New.l9 N y3 y4 y28 y29 w (fun o3 w => K (.exit 2) [none, none, none, some (Value.pointer (some o3)), none, none, none, none, none, none, none, none, none, none, none, none, none, none, none, none, none, none, none, none, none, none, none, none, none, none, none, none, none, none, none, none, none, none, none, none, none] w)
def stage_New.hx9 : AExit → Fr → World → (AExit → Fr → World → Prop) → Prop := fun e f w K => match e with
  | .normal => False
  | .exit i => (match Nat.beq i 2 with | true => gN f 41 <| gQ f 3 fun o3 => K (.exit 2) [none, none, none, some (Value.pointer (some o3)), none, none, none, none, none, none, none, none, none, none, none, none, none, none, none, none, none, none, none, none, none, none, none, none, none, none, none, none, none, none, none, none, none, none, none, none, none] w | false => False)
  | .ret => False
def stage_New.L : LHd := fun l f w K => (match Nat.beq l 9 with | true => ∃ N, stage_New.hn9 N f w K | false => (match Nat.beq l 4 with | true => ∃ N, stage_New.hn4 N f w K | false => False))
theorem stage_New.le4 (N : Nat) (y3 : Addr) (y4 : Addr) (y13 : Int) (w : World) (K : AExit → Fr → World → Prop) : awp stage_New.C stage_New.L stage_New.D tab stage_New.b0 (lpost stage_New.hn4 stage_New.hx4 N K) [none, none, none, some (Value.pointer (some y3)), some (Value.pointer (some y4)), none, none, none, none, none, none, none, none, some (Value.int .i64 y13), none, none, none, none, none, none, none, none, none, none, none, none, none, none, none, none, none, none, none, none, none, none, none, none, none, none, none] w = stage_New.l4 (N + 1) y3 y4 y13 w (fun o3 o4 w => K (.exit 0) [none, none, none, some (Value.pointer (some o3)), some (Value.pointer (some o4)), none, none, none, none, none, none, none, none, none, none, none, none, none, none, none, none, none, none, none, none, none, none, none, none, none, none, none, none, none, none, none, none, none, none, none, none] w) := by kernel_rfl
theorem stage_New.lok4 : LoopOk Try.prog stage_New.L stage_New.b0 := by
  refine loop_ok tab_ok stage_New.C_ok (D := stage_New.D) (stage_New.hn4) (stage_New.hx4) (by kernel_rfl) (by rw [stage_New.b0_loops]; exact lnil) ?_ ?_ ?_ ?_
  · intro f w K h
    unfold stage_New.hn4 at h
    obtain ⟨hlen, h⟩ := gN_ok h
    obtain ⟨y3, h3, h⟩ := gQ_ok h
    obtain ⟨y4, h4, h⟩ := gQ_ok h
    obtain ⟨y13, h13, h⟩ := gI_ok h
    exact h
  · intro N f w K h
    unfold stage_New.hn4 at h
    obtain ⟨hlen, h⟩ := gN_ok h
    obtain ⟨y3, h3, h⟩ := gQ_ok h
    obtain ⟨y4, h4, h⟩ := gQ_ok h
    obtain ⟨y13, h13, h⟩ := gI_ok h
    refine ⟨[none, none, none, some (Value.pointer (some y3)), some (Value.pointer (some y4)), none, none, none, none, none, none, none, none, some (Value.int .i64 y13), none, none, none, none, none, none, none, none, none, none, none, none, none, none, none, none, none, none, none, none, none, none, none, none, none, none, none], hlen, ⟨h3, h4, h13, trivial⟩, ?_⟩
    rw [stage_New.le4]
    exact h
  · intro e f w K h
    cases e with
    | normal => exact h.elim
    | exit i =>
      unfold stage_New.hx4 at h
      simp only at h
      split at h
      · rename_i hb
        obtain rfl := Nat.eq_of_beq_eq_true hb
        obtain ⟨hlen, h⟩ := gN_ok h
        obtain ⟨o3, h3, h⟩ := gQ_ok h
        obtain ⟨o4, h4, h⟩ := gQ_ok h
        exact ⟨[none, none, none, some (Value.pointer (some o3)), some (Value.pointer (some o4)), none, none, none, none, none, none, none, none, none, none, none, none, none, none, none, none, none, none, none, none, none, none, none, none, none, none, none, none, none, none, none, none, none, none, none, none], hlen, ⟨h3, h4, trivial⟩, h⟩
      · exact (show False from h).elim
    | ret =>
      exact (show False from h).elim
  · intro f w K h
    have e : lid stage_New.b0 = 4 := by kernel_rfl
    rw [e] at h
    exact h
theorem stage_New.le9 (N : Nat) (y3 : Addr) (y4 : Addr) (y28 : Int) (y29 : Int) (w : World) (K : AExit → Fr → World → Prop) : awp stage_New.C stage_New.L stage_New.D tab stage_New.b1 (lpost stage_New.hn9 stage_New.hx9 N K) [none, none, none, some (Value.pointer (some y3)), some (Value.pointer (some y4)), none, none, none, none, none, none, none, none, none, none, none, none, none, none, none, none, none, none, none, none, none, none, none, some (Value.int .i64 y28), some (Value.int .i64 y29), none, none, none, none, none, none, none, none, none, none, none] w = stage_New.l9 (N + 1) y3 y4 y28 y29 w (fun o3 w => K (.exit 2) [none, none, none, some (Value.pointer (some o3)), none, none, none, none, none, none, none, none, none, none, none, none, none, none, none, none, none, none, none, none, none, none, none, none, none, none, none, none, none, none, none, none, none, none, none, none, none] w) := by kernel_rfl
theorem stage_New.lok9 : LoopOk Try.prog stage_New.L stage_New.b1 := by
  refine loop_ok tab_ok stage_New.C_ok (D := stage_New.D) (stage_New.hn9) (stage_New.hx9) (by kernel_rfl) (by rw [stage_New.b1_loops]; exact lnil) ?_ ?_ ?_ ?_
  · intro f w K h
    unfold stage_New.hn9 at h
    obtain ⟨hlen, h⟩ := gN_ok h
    obtain ⟨y3, h3, h⟩ := gQ_ok h
    obtain ⟨y4, h4, h⟩ := gQ_ok h
    obtain ⟨y28, h28, h⟩ := gI_ok h
    obtain ⟨y29, h29, h⟩ := gI_ok h
    exact h
  · intro N f w K h
    unfold stage_New.hn9 at h
    obtain ⟨hlen, h⟩ := gN_ok h
    obtain ⟨y3, h3, h⟩ := gQ_ok h
    obtain ⟨y4, h4, h⟩ := gQ_ok h
    obtain ⟨y28, h28, h⟩ := gI_ok h
    obtain ⟨y29, h29, h⟩ := gI_ok h
    refine ⟨[none, none, none, some (Value.pointer (some y3)), some (Value.pointer (some y4)), none, none, none, none, none, none, none, none, none, none, none, none, none, none, none, none, none, none, none, none, none, none, none, some (Value.int .i64 y28), some (Value.int .i64 y29), none, none, none, none, none, none, none, none, none, none, none], hlen, ⟨h3, h4, h28, h29, trivial⟩, ?_⟩
    rw [stage_New.le9]
    exact h
  · intro e f w K h
    cases e with
    | normal => exact h.elim
    | exit i =>
      unfold stage_New.hx9 at h
      simp only at h
      split at h
      · rename_i hb
        obtain rfl := Nat.eq_of_beq_eq_true hb
        obtain ⟨hlen, h⟩ := gN_ok h
        obtain ⟨o3, h3, h⟩ := gQ_ok h
        exact ⟨[none, none, none, some (Value.pointer (some o3)), none, none, none, none, none, none, none, none, none, none, none, none, none, none, none, none, none, none, none, none, none, none, none, none, none, none, none, none, none, none, none, none, none, none, none, none, none], hlen, ⟨h3, trivial⟩, h⟩
      · exact (show False from h).elim
    | ret =>
      exact (show False from h).elim
  · intro f w K h
    have e : lid stage_New.b1 = 9 := by kernel_rfl
    rw [e] at h
    exact h
theorem stage_New.eq (a0 : Int) (w : World) (K : Value → World → Prop) : afn stage_New.C stage_New.L stage_New.D tab Try.f15 [(Value.int .i64 a0)] w K = stage_New.f a0 w (fun r0 w => K (Value.pointer r0) w) := by kernel_rfl
theorem stage_New.ok : FSound Try.prog 15 stage_New.h := by
  intro args w K h
  unfold stage_New.h stage_New.H at h
  split at h
  ·
    replace h := vI_ok h
    obtain ⟨a0, rfl, h⟩ := h
    refine ⟨by kernel_rfl, fn_ok tab_ok stage_New.C_ok (L := stage_New.L) (D := stage_New.D) Try.func15 stage_New.hb (by kernel_rfl) (by rw [stage_New.c_loops]; exact lcons stage_New.lok4 (lcons stage_New.lok9 (lnil))) (Nat.le_of_ble_eq_true (by kernel_rfl)) ?_⟩
    rw [stage_New.eq]
    exact h
  · exact h.elim
/-! ### valise/mix.Stretch: function 41 -/
def mix_Stretch.l3 : Nat → Int → Int → Int → World → (Int → World → Prop) → Prop
  | 0, _, _, _, _, _ => False
  | N + 1, y0, y3, y4, w, K0 =>
    bif (decide (y3 < y4)) then
      let v5_9 := (IntKind.wrap .i64 (Int.tdiv (IntKind.wrap .i64 (y3 + y4)) 2))
      mix_Squash.f (IntKind.wrap .i64 (v5_9 - 2047)) w fun r18_11 w =>
      bif (decide (r18_11 ≥ y0)) then
        mix_Stretch.l3 N y0 y3 v5_9 w K0
      else
        let v3_12 := (IntKind.wrap .i64 (v5_9 + 1))
        mix_Stretch.l3 N y0 v3_12 y4 w K0
    else
      K0 y3 w

def mix_Stretch.f (a0 : Int) (w : World) (K : Int → World → Prop) : Prop :=
  let v0_3 := (mx 1 (mn a0 4095))
  ∃ N_13 : Nat, mix_Stretch.l3 N_13 v0_3 0 4094 w
  (fun o3_14 w =>
    let v2_16 := (IntKind.wrap .i64 (o3_14 - 2047))
    K v2_16 w)
def mix_Stretch.H (F : type_of% @mix_Stretch.f) : Hf := fun args w K => match args with
  | [v0] => vI .i64 v0 fun a0 => F a0 w (fun r0 w => K (Value.int .i64 r0) w)
  | _ => False
def mix_Stretch.h : Hf := mix_Stretch.H @mix_Stretch.f
def mix_Stretch.C : Hd := hcons 40 mix_Squash.h (hnil)
theorem mix_Stretch.C_ok : CSound Try.prog mix_Stretch.C := hcons_ok mix_Squash.ok (hnil_ok)
def mix_Stretch.D : Nat → Plan := fun i => .done
noncomputable def mix_Stretch.c : Code := Try.f41.body.getD .skip
theorem mix_Stretch.hb : Try.f41.body = some mix_Stretch.c := by kernel_rfl
noncomputable def mix_Stretch.b0 : Code := (loopsOf mix_Stretch.c).getD 0 .skip
theorem mix_Stretch.b0_loops : loopsOf mix_Stretch.b0 = [] := by kernel_rfl
theorem mix_Stretch.c_loops : loopsOf mix_Stretch.c = [mix_Stretch.b0] := by kernel_rfl
def mix_Stretch.hn3 (N : Nat) (f : Fr) (w : World) (K : AExit → Fr → World → Prop) : Prop :=
  gN f 26 <| gI .i64 f 0 fun y0 => gI .i64 f 3 fun y3 => gI .i64 f 4 fun y4 => mix_Stretch.l3 N y0 y3 y4 w (fun o3 w => K (.exit 0) [none, none, none, some (Value.int .i64 o3), none, none, none, none, none, none, none, none, none, none, none, none, none, none, none, none, none, none, none, none, none, none] w)
def mix_Stretch.hx3 : AExit → Fr → World → (AExit → Fr → World → Prop) → Prop := fun e f w K => match e with
  | .normal => False
  | .exit i => (match Nat.beq i 0 with | true => gN f 26 <| gI .i64 f 3 fun o3 => K (.exit 0) [none, none, none, some (Value.int .i64 o3), none, none, none, none, none, none, none, none, none, none, none, none, none, none, none, none, none, none, none, none, none, none] w | false => False)
  | .ret => False
def mix_Stretch.L : LHd := fun l f w K => (match Nat.beq l 3 with | true => ∃ N, mix_Stretch.hn3 N f w K | false => False)
theorem mix_Stretch.le3 (N : Nat) (y0 : Int) (y3 : Int) (y4 : Int) (w : World) (K : AExit → Fr → World → Prop) : awp mix_Stretch.C mix_Stretch.L mix_Stretch.D tab mix_Stretch.b0 (lpost mix_Stretch.hn3 mix_Stretch.hx3 N K) [some (Value.int .i64 y0), none, none, some (Value.int .i64 y3), some (Value.int .i64 y4), none, none, none, none, none, none, none, none, none, none, none, none, none, none, none, none, none, none, none, none, none] w = mix_Stretch.l3 (N + 1) y0 y3 y4 w (fun o3 w => K (.exit 0) [none, none, none, some (Value.int .i64 o3), none, none, none, none, none, none, none, none, none, none, none, none, none, none, none, none, none, none, none, none, none, none] w) := by kernel_rfl
theorem mix_Stretch.lok3 : LoopOk Try.prog mix_Stretch.L mix_Stretch.b0 := by
  refine loop_ok tab_ok mix_Stretch.C_ok (D := mix_Stretch.D) (mix_Stretch.hn3) (mix_Stretch.hx3) (by kernel_rfl) (by rw [mix_Stretch.b0_loops]; exact lnil) ?_ ?_ ?_ ?_
  · intro f w K h
    unfold mix_Stretch.hn3 at h
    obtain ⟨hlen, h⟩ := gN_ok h
    obtain ⟨y0, h0, h⟩ := gI_ok h
    obtain ⟨y3, h3, h⟩ := gI_ok h
    obtain ⟨y4, h4, h⟩ := gI_ok h
    exact h
  · intro N f w K h
    unfold mix_Stretch.hn3 at h
    obtain ⟨hlen, h⟩ := gN_ok h
    obtain ⟨y0, h0, h⟩ := gI_ok h
    obtain ⟨y3, h3, h⟩ := gI_ok h
    obtain ⟨y4, h4, h⟩ := gI_ok h
    refine ⟨[some (Value.int .i64 y0), none, none, some (Value.int .i64 y3), some (Value.int .i64 y4), none, none, none, none, none, none, none, none, none, none, none, none, none, none, none, none, none, none, none, none, none], hlen, ⟨h0, h3, h4, trivial⟩, ?_⟩
    rw [mix_Stretch.le3]
    exact h
  · intro e f w K h
    cases e with
    | normal => exact h.elim
    | exit i =>
      unfold mix_Stretch.hx3 at h
      simp only at h
      split at h
      · rename_i hb
        obtain rfl := Nat.eq_of_beq_eq_true hb
        obtain ⟨hlen, h⟩ := gN_ok h
        obtain ⟨o3, h3, h⟩ := gI_ok h
        exact ⟨[none, none, none, some (Value.int .i64 o3), none, none, none, none, none, none, none, none, none, none, none, none, none, none, none, none, none, none, none, none, none, none], hlen, ⟨h3, trivial⟩, h⟩
      · exact (show False from h).elim
    | ret =>
      exact (show False from h).elim
  · intro f w K h
    have e : lid mix_Stretch.b0 = 3 := by kernel_rfl
    rw [e] at h
    exact h
theorem mix_Stretch.eq (a0 : Int) (w : World) (K : Value → World → Prop) : afn mix_Stretch.C mix_Stretch.L mix_Stretch.D tab Try.f41 [(Value.int .i64 a0)] w K = mix_Stretch.f a0 w (fun r0 w => K (Value.int .i64 r0) w) := by kernel_rfl
theorem mix_Stretch.ok : FSound Try.prog 41 mix_Stretch.h := by
  intro args w K h
  unfold mix_Stretch.h mix_Stretch.H at h
  split at h
  ·
    replace h := vI_ok h
    obtain ⟨a0, rfl, h⟩ := h
    refine ⟨by kernel_rfl, fn_ok tab_ok mix_Stretch.C_ok (L := mix_Stretch.L) (D := mix_Stretch.D) Try.func41 mix_Stretch.hb (by kernel_rfl) (by rw [mix_Stretch.c_loops]; exact lcons mix_Stretch.lok3 (lnil)) (Nat.le_of_ble_eq_true (by kernel_rfl)) ?_⟩
    rw [mix_Stretch.eq]
    exact h
  · exact h.elim
/-! ### valise/stage.round: function 42 -/
def stage_round.f (a0 : Int) (a1 : Int) (w : World) (K : Int → World → Prop) : Prop :=
  if a1 = 0 then False else
  if a1 = 0 then False else
  let v4_3 := (Int.tmod (IntKind.wrap .i64 ((Int.tmod a0 a1) + a1)) a1)
  K v4_3 w
def stage_round.H (F : type_of% @stage_round.f) : Hf := fun args w K => match args with
  | [v0, v1] => vI .i64 v0 fun a0 => vI .i64 v1 fun a1 => F a0 a1 w (fun r0 w => K (Value.int .i64 r0) w)
  | _ => False
def stage_round.h : Hf := stage_round.H @stage_round.f
def stage_round.C : Hd := hnil
theorem stage_round.C_ok : CSound Try.prog stage_round.C := hnil_ok
def stage_round.D : Nat → Plan := fun i => .done
noncomputable def stage_round.c : Code := Try.f42.body.getD .skip
theorem stage_round.hb : Try.f42.body = some stage_round.c := by kernel_rfl
theorem stage_round.c_loops : loopsOf stage_round.c = [] := by kernel_rfl
def stage_round.L : LHd := fun l f w K => False
theorem stage_round.eq (a0 : Int) (a1 : Int) (w : World) (K : Value → World → Prop) : afn stage_round.C stage_round.L stage_round.D tab Try.f42 [(Value.int .i64 a0), (Value.int .i64 a1)] w K = stage_round.f a0 a1 w (fun r0 w => K (Value.int .i64 r0) w) := by kernel_rfl
theorem stage_round.ok : FSound Try.prog 42 stage_round.h := by
  intro args w K h
  unfold stage_round.h stage_round.H at h
  split at h
  ·
    replace h := vI_ok h
    obtain ⟨a0, rfl, h⟩ := h
    replace h := vI_ok h
    obtain ⟨a1, rfl, h⟩ := h
    refine ⟨by kernel_rfl, fn_ok tab_ok stage_round.C_ok (L := stage_round.L) (D := stage_round.D) Try.func42 stage_round.hb (by kernel_rfl) (by rw [stage_round.c_loops]; exact lnil) (Nat.le_of_ble_eq_true (by kernel_rfl)) ?_⟩
    rw [stage_round.eq]
    exact h
  · exact h.elim
/-! ### (*valise/stage.Stage).Refine: function 17 -/
def stage_Stage_Refine.f (a0 : Option Addr) (a1 : Int) (a2 : Int) (w : World) (K : Int → World → Prop) : Prop :=
  bif a0.isNone then
    K 0 w
  else
    sm a0 fun p_4 =>
    ldL p_4 w fun x17_5 x17_5n x17_5c =>
    bif (((x17_5n : Nat) : Int) == 0) then
      K 0 w
    else
      mix_Stretch.f a1 w fun r22_9 w =>
      let v7_10 := (IntKind.wrap .i64 (r22_9 + 2048))
      let v8_12 := (IntKind.wrap .i64 (Int.tdiv v7_10 128))
      let v9_13 := (Int.tmod v7_10 128)
      sm a0 fun p_15 =>
      ldL p_15 w fun x35_16 x35_16n x35_16c =>
      stage_round.f a2 ((x35_16n : Nat) : Int) w fun r37_17 w =>
      sm a0 fun p_18 =>
      stC (p_18.add 1) (Value.bool true) w fun w =>
      sm a0 fun p_19 =>
      stC (p_19.add 2) (Value.int .i64 r37_17) w fun w =>
      sm a0 fun p_20 =>
      stC (p_20.add 3) (Value.int .i64 v8_12) w fun w =>
      sm a0 fun p_22 =>
      ldL p_22 w.drew fun x48_23 x48_23n x48_23c =>
      sm a0 fun p_24 =>
      ldI .i64 (p_24.add 2) w.drew fun x52_25 =>
      sm x48_23 fun p_26 =>
      if 0 ≤ (x52_25 : Int) ∧ (x52_25 : Int) < ((x48_23n : Nat) : Int) then
      let J_34 := fun  (w : World) =>
        ((if 0 ≤ (v8_12 : Int) ∧ (v8_12 : Int) < ((33 : Nat) : Int) then
        ldI .i64 ((p_26.add (Int.toNat x52_25 * 33)).add (Int.toNat v8_12)) w.drew fun x65_31 =>
        if 0 ≤ ((IntKind.wrap .i64 (v8_12 + 1)) : Int) ∧ ((IntKind.wrap .i64 (v8_12 + 1)) : Int) < ((33 : Nat) : Int) then
        ldI .i64 ((p_26.add (Int.toNat x52_25 * 33)).add (Int.toNat (IntKind.wrap .i64 (v8_12 + 1)))) w.drew fun x74_32 =>
        let v6_33 := (mx 1 (mn (shr .i64 (IntKind.wrap .i64 ((IntKind.wrap .i64 (x65_31 * (IntKind.wrap .i64 (128 - v9_13)))) + (IntKind.wrap .i64 (x74_32 * v9_13)))) 11) 4095))
        K v6_33 w.drew
        else False
        else False) : Prop)
      bif (decide (v9_13 ≥ 64)) then
        sm a0 fun p_29 =>
        stC (p_29.add 3) (Value.int .i64 (IntKind.wrap .i64 (v8_12 + 1))) w.drew fun w =>
        J_34 w
      else
        J_34 w.drew
      else False
def stage_Stage_Refine.H (F : type_of% @stage_Stage_Refine.f) : Hf := fun args w K => match args with
  | [v0, v1, v2] => vP v0 fun a0 => vI .i64 v1 fun a1 => vI .i64 v2 fun a2 => F a0 a1 a2 w (fun r0 w => K (Value.int .i64 r0) w)
  | _ => False
def stage_Stage_Refine.h : Hf := stage_Stage_Refine.H @stage_Stage_Refine.f
def stage_Stage_Refine.C : Hd := hcons 42 stage_round.h (hcons 41 mix_Stretch.h (hnil))
theorem stage_Stage_Refine.C_ok : CSound Try.prog stage_Stage_Refine.C := hcons_ok stage_round.ok (hcons_ok mix_Stretch.ok (hnil_ok))
def stage_Stage_Refine.D : Nat → Plan := fun i => (match Nat.beq i 9 with | true => .take 0 (.take 1 (.take 2 (.take 3 (.take 4 (.take 5 (.take 6 (.take 7 (.take 8 (.take 9 (.take 10 (.take 11 (.take 12 (.take 13 (.take 14 (.take 15 (.take 16 (.take 17 (.take 18 (.take 19 (.take 20 (.done))))))))))))))))))))) | false => (match Nat.beq i 6 with | true => .take 0 (.take 1 (.take 2 (.take 3 (.take 4 (.take 5 (.take 6 (.take 7 (.take 8 (.take 9 (.done)))))))))) | false => .done))
noncomputable def stage_Stage_Refine.c : Code := Try.f17.body.getD .skip
theorem stage_Stage_Refine.hb : Try.f17.body = some stage_Stage_Refine.c := by kernel_rfl
theorem stage_Stage_Refine.c_loops : loopsOf stage_Stage_Refine.c = [] := by kernel_rfl
def stage_Stage_Refine.L : LHd := fun l f w K => False
theorem stage_Stage_Refine.eq (a0 : Option Addr) (a1 : Int) (a2 : Int) (w : World) (K : Value → World → Prop) : afn stage_Stage_Refine.C stage_Stage_Refine.L stage_Stage_Refine.D tab Try.f17 [(Value.pointer a0), (Value.int .i64 a1), (Value.int .i64 a2)] w K = stage_Stage_Refine.f a0 a1 a2 w (fun r0 w => K (Value.int .i64 r0) w) := by kernel_rfl
theorem stage_Stage_Refine.ok : FSound Try.prog 17 stage_Stage_Refine.h := by
  intro args w K h
  unfold stage_Stage_Refine.h stage_Stage_Refine.H at h
  split at h
  ·
    replace h := vP_ok h
    obtain ⟨a0, rfl, h⟩ := h
    replace h := vI_ok h
    obtain ⟨a1, rfl, h⟩ := h
    replace h := vI_ok h
    obtain ⟨a2, rfl, h⟩ := h
    refine ⟨by kernel_rfl, fn_ok tab_ok stage_Stage_Refine.C_ok (L := stage_Stage_Refine.L) (D := stage_Stage_Refine.D) Try.func17 stage_Stage_Refine.hb (by kernel_rfl) (by rw [stage_Stage_Refine.c_loops]; exact lnil) (Nat.le_of_ble_eq_true (by kernel_rfl)) ?_⟩
    rw [stage_Stage_Refine.eq]
    exact h
  · exact h.elim
/-! ### (*valise/stage.Stage).At: function 19 -/
def stage_Stage_At.f (a0 : Option Addr) (a1 : Int) (a2 : Int) (w : World) (K : Int → World → Prop) : Prop :=
  bif a0.isNone then
    K 0 w
  else
    sm a0 fun p_4 =>
    ldL p_4 w fun x13_5 x13_5n x13_5c =>
    bif (((x13_5n : Nat) : Int) == 0) then
      K 0 w
    else
      sm a0 fun p_9 =>
      ldL p_9 w.drew fun x20_10 x20_10n x20_10c =>
      sm a0 fun p_11 =>
      ldL p_11 w.drew fun x25_12 x25_12n x25_12c =>
      stage_round.f a1 ((x25_12n : Nat) : Int) w.drew fun r27_13 w =>
      (World.cell? w p_11 = some (.slice x25_12 x25_12n x25_12c)) ∧
      ((World.cell? w p_9 = some (.slice x20_10 x20_10n x20_10c)) ∧
      (sm x20_10 fun p_14 =>
      if 0 ≤ (r27_13 : Int) ∧ (r27_13 : Int) < ((x20_10n : Nat) : Int) then
      stage_round.f a2 33 w fun r29_15 w =>
      (World.cell? w p_11 = some (.slice x25_12 x25_12n x25_12c)) ∧
      ((World.cell? w p_9 = some (.slice x20_10 x20_10n x20_10c)) ∧
      (if 0 ≤ (r29_15 : Int) ∧ (r29_15 : Int) < ((33 : Nat) : Int) then
      ldI .i64 ((p_14.add (Int.toNat r27_13 * 33)).add (Int.toNat r29_15)) w fun x32_16 =>
      K x32_16 w
      else False))
      else False))
def stage_Stage_At.H (F : type_of% @stage_Stage_At.f) : Hf := fun args w K => match args with
  | [v0, v1, v2] => vP v0 fun a0 => vI .i64 v1 fun a1 => vI .i64 v2 fun a2 => F a0 a1 a2 w (fun r0 w => K (Value.int .i64 r0) w)
  | _ => False
def stage_Stage_At.h : Hf := stage_Stage_At.H @stage_Stage_At.f
def stage_Stage_At.C : Hd := hcons 42 stage_round.h (hnil)
theorem stage_Stage_At.C_ok : CSound Try.prog stage_Stage_At.C := hcons_ok stage_round.ok (hnil_ok)
def stage_Stage_At.D : Nat → Plan := fun i => (match Nat.beq i 3 with | true => .take 0 (.take 1 (.take 2 (.take 3 (.take 4 (.take 5 (.take 6 (.take 7 (.take 8 (.take 9 (.take 11 (.eff 10 (.take 13 (.eff 12 (.take 14 (.take 15 (.take 16 (.done))))))))))))))))) | false => .done)
noncomputable def stage_Stage_At.c : Code := Try.f19.body.getD .skip
theorem stage_Stage_At.hb : Try.f19.body = some stage_Stage_At.c := by kernel_rfl
theorem stage_Stage_At.c_loops : loopsOf stage_Stage_At.c = [] := by kernel_rfl
def stage_Stage_At.L : LHd := fun l f w K => False
theorem stage_Stage_At.eq (a0 : Option Addr) (a1 : Int) (a2 : Int) (w : World) (K : Value → World → Prop) : afn stage_Stage_At.C stage_Stage_At.L stage_Stage_At.D tab Try.f19 [(Value.pointer a0), (Value.int .i64 a1), (Value.int .i64 a2)] w K = stage_Stage_At.f a0 a1 a2 w (fun r0 w => K (Value.int .i64 r0) w) := by kernel_rfl
theorem stage_Stage_At.ok : FSound Try.prog 19 stage_Stage_At.h := by
  intro args w K h
  unfold stage_Stage_At.h stage_Stage_At.H at h
  split at h
  ·
    replace h := vP_ok h
    obtain ⟨a0, rfl, h⟩ := h
    replace h := vI_ok h
    obtain ⟨a1, rfl, h⟩ := h
    replace h := vI_ok h
    obtain ⟨a2, rfl, h⟩ := h
    refine ⟨by kernel_rfl, fn_ok tab_ok stage_Stage_At.C_ok (L := stage_Stage_At.L) (D := stage_Stage_At.D) Try.func19 stage_Stage_At.hb (by kernel_rfl) (by rw [stage_Stage_At.c_loops]; exact lnil) (Nat.le_of_ble_eq_true (by kernel_rfl)) ?_⟩
    rw [stage_Stage_At.eq]
    exact h
  · exact h.elim
/-! ### valise/valiselaw07.awake: function 16 -/
def law07_awake.f  (w : World) (K : Bool → World → Prop) : Prop :=
  stage_New.f 1 w fun r2_3 w =>
  bif (!r2_3.isNone) then
    stage_Stage_Refine.f r2_3 2048 0 w fun r7_5 w =>
    bif (r7_5 == 2048) then
      stage_Stage_At.f r2_3 0 16 w fun r12_6 w =>
      let v0_7 := (r12_6 == 32768)
      K v0_7 w
    else
      K false w
  else
    K false w
def law07_awake.H (F : type_of% @law07_awake.f) : Hf := fun args w K => match args with
  | [] =>  F  w (fun r0 w => K (Value.bool r0) w)
  | _ => False
def law07_awake.h : Hf := law07_awake.H @law07_awake.f
def law07_awake.CG (F15 : type_of% @stage_New.f) (F17 : type_of% @stage_Stage_Refine.f) (F19 : type_of% @stage_Stage_At.f) : Hd := hcons 19 (stage_Stage_At.H F19) (hcons 17 (stage_Stage_Refine.H F17) (hcons 15 (stage_New.H F15) (hnil)))
def law07_awake.C : Hd := law07_awake.CG @stage_New.f @stage_Stage_Refine.f @stage_Stage_At.f
def law07_awake.G (F15 : type_of% @stage_New.f) (F17 : type_of% @stage_Stage_Refine.f) (F19 : type_of% @stage_Stage_At.f)  (w : World) (K : Bool → World → Prop) : Prop :=
  F15 1 w fun r2_3 w =>
  bif (!r2_3.isNone) then
    F17 r2_3 2048 0 w fun r7_5 w =>
    bif (r7_5 == 2048) then
      F19 r2_3 0 16 w fun r12_6 w =>
      let v0_7 := (r12_6 == 32768)
      K v0_7 w
    else
      K false w
  else
    K false w
theorem law07_awake.C_ok : CSound Try.prog law07_awake.C := hcons_ok stage_Stage_At.ok (hcons_ok stage_Stage_Refine.ok (hcons_ok stage_New.ok (hnil_ok)))
def law07_awake.D : Nat → Plan := fun i => .done
noncomputable def law07_awake.c : Code := Try.f16.body.getD .skip
theorem law07_awake.hb : Try.f16.body = some law07_awake.c := by kernel_rfl
theorem law07_awake.c_loops : loopsOf law07_awake.c = [] := by kernel_rfl
def law07_awake.L : LHd := fun l f w K => False
theorem law07_awake.eqG (F15 : type_of% @stage_New.f) (F17 : type_of% @stage_Stage_Refine.f) (F19 : type_of% @stage_Stage_At.f)  (w : World) (K : Value → World → Prop) : afn (law07_awake.CG F15 F17 F19) law07_awake.L law07_awake.D tab Try.f16 [] w K = law07_awake.G F15 F17 F19  w (fun r0 w => K (Value.bool r0) w) := by kernel_rfl
theorem law07_awake.eq  (w : World) (K : Value → World → Prop) : afn law07_awake.C law07_awake.L law07_awake.D tab Try.f16 [] w K = law07_awake.f  w (fun r0 w => K (Value.bool r0) w) := law07_awake.eqG @stage_New.f @stage_Stage_Refine.f @stage_Stage_At.f  w K
theorem law07_awake.ok : FSound Try.prog 16 law07_awake.h := by
  intro args w K h
  unfold law07_awake.h law07_awake.H at h
  split at h
  ·
    refine ⟨by kernel_rfl, fn_ok tab_ok law07_awake.C_ok (L := law07_awake.L) (D := law07_awake.D) Try.func16 law07_awake.hb (by kernel_rfl) (by rw [law07_awake.c_loops]; exact lnil) (Nat.le_of_ble_eq_true (by kernel_rfl)) ?_⟩
    rw [law07_awake.eq]
    exact h
  · exact h.elim
/-! ### valise/valiseref06.Squash: function 43 -/
def ref06_Squash.f (a0 : Int) (w : World) (K : Int → World → Prop) : Prop :=
  let v0_3 := (mx (-2047) (mn a0 2047))
  if (IntKind.wrap .i64 (512 + (mx v0_3 (IntKind.wrap .i64 (0 - v0_3))))) = 0 then False else
  let v2_5 := (IntKind.wrap .i64 (2048 + (IntKind.wrap .i64 (Int.tdiv (IntKind.wrap .i64 (2560 * v0_3)) (IntKind.wrap .i64 (512 + (mx v0_3 (IntKind.wrap .i64 (0 - v0_3)))))))))
  K v2_5 w
def ref06_Squash.H (F : type_of% @ref06_Squash.f) : Hf := fun args w K => match args with
  | [v0] => vI .i64 v0 fun a0 => F a0 w (fun r0 w => K (Value.int .i64 r0) w)
  | _ => False
def ref06_Squash.h : Hf := ref06_Squash.H @ref06_Squash.f
def ref06_Squash.C : Hd := hnil
theorem ref06_Squash.C_ok : CSound Try.prog ref06_Squash.C := hnil_ok
def ref06_Squash.D : Nat → Plan := fun i => .done
noncomputable def ref06_Squash.c : Code := Try.f43.body.getD .skip
theorem ref06_Squash.hb : Try.f43.body = some ref06_Squash.c := by kernel_rfl
theorem ref06_Squash.c_loops : loopsOf ref06_Squash.c = [] := by kernel_rfl
def ref06_Squash.L : LHd := fun l f w K => False
theorem ref06_Squash.eq (a0 : Int) (w : World) (K : Value → World → Prop) : afn ref06_Squash.C ref06_Squash.L ref06_Squash.D tab Try.f43 [(Value.int .i64 a0)] w K = ref06_Squash.f a0 w (fun r0 w => K (Value.int .i64 r0) w) := by kernel_rfl
theorem ref06_Squash.ok : FSound Try.prog 43 ref06_Squash.h := by
  intro args w K h
  unfold ref06_Squash.h ref06_Squash.H at h
  split at h
  ·
    replace h := vI_ok h
    obtain ⟨a0, rfl, h⟩ := h
    refine ⟨by kernel_rfl, fn_ok tab_ok ref06_Squash.C_ok (L := ref06_Squash.L) (D := ref06_Squash.D) Try.func43 ref06_Squash.hb (by kernel_rfl) (by rw [ref06_Squash.c_loops]; exact lnil) (Nat.le_of_ble_eq_true (by kernel_rfl)) ?_⟩
    rw [ref06_Squash.eq]
    exact h
  · exact h.elim
/-! ### valise/valiseref07.New: function 18 -/
def ref07_New.l7 : Nat → Int → Addr → Int → Option Addr → Nat → Nat → Int → World → (Int → Addr → Int → Option Addr → Nat → Nat → World → Prop) → Prop
  | 0, _, _, _, _, _, _, _, _, _ => False
  | N + 1, y0, y3, y4, y5, y5n, y5c, y6, w, K2 =>
    bif (decide (y6 < 33)) then
      ref06_Squash.f (IntKind.wrap .i64 (128 * (IntKind.wrap .i64 (y6 - 16)))) w fun r24_15 w =>
      newC 3 [(Value.int .i64 (IntKind.wrap .i64 (16 * r24_15)))] w fun a26_16 w =>
      appL 3 1 8 [(Value.int .i64 0)] y5 y5n y5c (some a26_16) 1 1 w fun a27_17 a27_17n a27_17c w =>
      let v6_18 := (IntKind.wrap .i64 (y6 + 1))
      ref07_New.l7 N y0 y3 y4 a27_17 a27_17n a27_17c v6_18 w K2
    else
      K2 y0 y3 y4 y5 y5n y5c w

def ref07_New.l3 : Nat → Int → Addr → Int → World → (Addr → World → Prop) → Prop
  | 0, _, _, _, _, _ => False
  | N + 1, y0, y3, y4, w, K0 =>
    bif (decide (y4 < (mx 1 (mn y0 1024)))) then
      ∃ N_19 : Nat, ref07_New.l7 N_19 y0 y3 y4 none 0 0 0 w
      (fun o0_20 o3_21 o4_22 o5_23 o5_23n o5_23c w =>
        ldL o3_21 w fun x32_24 x32_24n x32_24c =>
        newC 37 [(Value.slice o5_23 o5_23n o5_23c)] w fun a34_25 w =>
        appL 37 1 24 [(Value.slice none 0 0)] x32_24 x32_24n x32_24c (some a34_25) 1 1 w fun a35_26 a35_26n a35_26c w =>
        stC o3_21 (Value.slice a35_26 a35_26n a35_26c) w fun w =>
        let v4_27 := (IntKind.wrap .i64 (o4_22 + 1))
        ref07_New.l3 N o0_20 o3_21 v4_27 w K0)
    else
      K0 y3 w

def ref07_New.f (a0 : Int) (w : World) (K : Option Addr → World → Prop) : Prop :=
  newC 68 [(Value.slice none 0 0), (Value.int .i64 0), (Value.int .i64 0), (Value.bool false)] w fun a8_3 w =>
  ∃ N_28 : Nat, ref07_New.l3 N_28 a0 a8_3 0 w
  (fun o3_29 w =>
    K (some o3_29) w)
def ref07_New.H (F : type_of% @ref07_New.f) : Hf := fun args w K => match args with
  | [v0] => vI .i64 v0 fun a0 => F a0 w (fun r0 w => K (Value.pointer r0) w)
  | _ => False
def ref07_New.h : Hf := ref07_New.H @ref07_New.f
def ref07_New.C : Hd := hcons 43 ref06_Squash.h (hnil)
theorem ref07_New.C_ok : CSound Try.prog ref07_New.C := hcons_ok ref06_Squash.ok (hnil_ok)
def ref07_New.D : Nat → Plan := fun i => .done
noncomputable def ref07_New.c : Code := Try.f18.body.getD .skip
theorem ref07_New.hb : Try.f18.body = some ref07_New.c := by kernel_rfl
noncomputable def ref07_New.b0 : Code := (loopsOf ref07_New.c).getD 0 .skip
noncomputable def ref07_New.b0_0 : Code := (loopsOf ref07_New.b0).getD 0 .skip
theorem ref07_New.b0_0_loops : loopsOf ref07_New.b0_0 = [] := by kernel_rfl
theorem ref07_New.b0_loops : loopsOf ref07_New.b0 = [ref07_New.b0_0] := by kernel_rfl
theorem ref07_New.c_loops : loopsOf ref07_New.c = [ref07_New.b0] := by kernel_rfl
def ref07_New.hn7 (N : Nat) (f : Fr) (w : World) (K : AExit → Fr → World → Prop) : Prop :=
  gN f 39 <| gI .i64 f 0 fun y0 => gQ f 3 fun y3 => gI .i64 f 4 fun y4 => gL f 5 fun y5 y5n y5c => gI .i64 f 6 fun y6 => ref07_New.l7 N y0 y3 y4 y5 y5n y5c y6 w (fun o0 o3 o4 o5 o5n o5c w => K (.exit 2) [some (Value.int .i64 o0), none, none, some (Value.pointer (some o3)), some (Value.int .i64 o4), some (Value.slice o5 o5n o5c), none, none, none, none, none, none, none, none, none, none, none, none, none, none, none, none, none, none, none, none, none, none, none, none, none, none, none, none, none, none, none, none, none] w)
def ref07_New.hx7 : AExit → Fr → World → (AExit → Fr → World → Prop) → Prop := fun e f w K => match e with
  | .normal => False
  | .exit i => (match Nat.beq i 2 with | true => gN f 39 <| gI .i64 f 0 fun o0 => gQ f 3 fun o3 => gI .i64 f 4 fun o4 => gL f 5 fun o5 o5n o5c => K (.exit 2) [some (Value.int .i64 o0), none, none, some (Value.pointer (some o3)), some (Value.int .i64 o4), some (Value.slice o5 o5n o5c), none, none, none, none, none, none, none, none, none, none, none, none, none, none, none, none, none, none, none, none, none, none, none, none, none, none, none, none, none, none, none, none, none] w | false => False)
  | .ret => False
def ref07_New.hn3 (N : Nat) (f : Fr) (w : World) (K : AExit → Fr → World → Prop) : Prop :=
  gN f 39 <| gI .i64 f 0 fun y0 => gQ f 3 fun y3 => gI .i64 f 4 fun y4 => ref07_New.l3 N y0 y3 y4 w (fun o3 w => K (.exit 0) [none, none, none, some (Value.pointer (some o3)), none, none, none, none, none, none, none, none, none, none, none, none, none, none, none, none, none, none, none, none, none, none, none, none, none, none, none, none, none, none, none, none, none, none, none] w)
def ref07_New.hx3 : AExit → Fr → World → (AExit → Fr → World → Prop) → Prop := fun e f w K => match e with
  | .normal => False
  | .exit i => (match Nat.beq i 0 with | true => gN f 39 <| gQ f 3 fun o3 => K (.exit 0) [none, none, none, some (Value.pointer (some o3)), none, none, none, none, none, none, none, none, none, none, none, none, none, none, none, none, none, none, none, none, none, none, none, none, none, none, none, none, none, none, none, none, none, none, none] w | false => False)
  | .ret => False
def ref07_New.L : LHd := fun l f w K => (match Nat.beq l 3 with | true => ∃ N, ref07_New.hn3 N f w K | false => (match Nat.beq l 7 with | true => ∃ N, ref07_New.hn7 N f w K | false => False))
theorem ref07_New.le7 (N : Nat) (y0 : Int) (y3 : Addr) (y4 : Int) (y5 : Option Addr) (y5n : Nat) (y5c : Nat) (y6 : Int) (w : World) (K : AExit → Fr → World → Prop) : awp ref07_New.C ref07_New.L ref07_New.D tab ref07_New.b0_0 (lpost ref07_New.hn7 ref07_New.hx7 N K) [some (Value.int .i64 y0), none, none, some (Value.pointer (some y3)), some (Value.int .i64 y4), some (Value.slice y5 y5n y5c), some (Value.int .i64 y6), none, none, none, none, none, none, none, none, none, none, none, none, none, none, none, none, none, none, none, none, none, none, none, none, none, none, none, none, none, none, none, none] w = ref07_New.l7 (N + 1) y0 y3 y4 y5 y5n y5c y6 w (fun o0 o3 o4 o5 o5n o5c w => K (.exit 2) [some (Value.int .i64 o0), none, none, some (Value.pointer (some o3)), some (Value.int .i64 o4), some (Value.slice o5 o5n o5c), none, none, none, none, none, none, none, none, none, none, none, none, none, none, none, none, none, none, none, none, none, none, none, none, none, none, none, none, none, none, none, none, none] w) := by kernel_rfl
theorem ref07_New.lok7 : LoopOk Try.prog ref07_New.L ref07_New.b0_0 := by
  refine loop_ok tab_ok ref07_New.C_ok (D := ref07_New.D) (ref07_New.hn7) (ref07_New.hx7) (by kernel_rfl) (by rw [ref07_New.b0_0_loops]; exact lnil) ?_ ?_ ?_ ?_
  · intro f w K h
    unfold ref07_New.hn7 at h
    obtain ⟨hlen, h⟩ := gN_ok h
    obtain ⟨y0, h0, h⟩ := gI_ok h
    obtain ⟨y3, h3, h⟩ := gQ_ok h
    obtain ⟨y4, h4, h⟩ := gI_ok h
    obtain ⟨y5, y5n, y5c, h5, h⟩ := gL_ok h
    obtain ⟨y6, h6, h⟩ := gI_ok h
    exact h
  · intro N f w K h
    unfold ref07_New.hn7 at h
    obtain ⟨hlen, h⟩ := gN_ok h
    obtain ⟨y0, h0, h⟩ := gI_ok h
    obtain ⟨y3, h3, h⟩ := gQ_ok h
    obtain ⟨y4, h4, h⟩ := gI_ok h
    obtain ⟨y5, y5n, y5c, h5, h⟩ := gL_ok h
    obtain ⟨y6, h6, h⟩ := gI_ok h
    refine ⟨[some (Value.int .i64 y0), none, none, some (Value.pointer (some y3)), some (Value.int .i64 y4), some (Value.slice y5 y5n y5c), some (Value.int .i64 y6), none, none, none, none, none, none, none, none, none, none, none, none, none, none, none, none, none, none, none, none, none, none, none, none, none, none, none, none, none, none, none, none], hlen, ⟨h0, h3, h4, h5, h6, trivial⟩, ?_⟩
    rw [ref07_New.le7]
    exact h
  · intro e f w K h
    cases e with
    | normal => exact h.elim
    | exit i =>
      unfold ref07_New.hx7 at h
      simp only at h
      split at h
      · rename_i hb
        obtain rfl := Nat.eq_of_beq_eq_true hb
        obtain ⟨hlen, h⟩ := gN_ok h
        obtain ⟨o0, h0, h⟩ := gI_ok h
        obtain ⟨o3, h3, h⟩ := gQ_ok h
        obtain ⟨o4, h4, h⟩ := gI_ok h
        obtain ⟨o5, o5n, o5c, h5, h⟩ := gL_ok h
        exact ⟨[some (Value.int .i64 o0), none, none, some (Value.pointer (some o3)), some (Value.int .i64 o4), some (Value.slice o5 o5n o5c), none, none, none, none, none, none, none, none, none, none, none, none, none, none, none, none, none, none, none, none, none, none, none, none, none, none, none, none, none, none, none, none, none], hlen, ⟨h0, h3, h4, h5, trivial⟩, h⟩
      · exact (show False from h).elim
    | ret =>
      exact (show False from h).elim
  · intro f w K h
    have e : lid ref07_New.b0_0 = 7 := by kernel_rfl
    rw [e] at h
    exact h
theorem ref07_New.le3 (N : Nat) (y0 : Int) (y3 : Addr) (y4 : Int) (w : World) (K : AExit → Fr → World → Prop) : awp ref07_New.C ref07_New.L ref07_New.D tab ref07_New.b0 (lpost ref07_New.hn3 ref07_New.hx3 N K) [some (Value.int .i64 y0), none, none, some (Value.pointer (some y3)), some (Value.int .i64 y4), none, none, none, none, none, none, none, none, none, none, none, none, none, none, none, none, none, none, none, none, none, none, none, none, none, none, none, none, none, none, none, none, none, none] w = ref07_New.l3 (N + 1) y0 y3 y4 w (fun o3 w => K (.exit 0) [none, none, none, some (Value.pointer (some o3)), none, none, none, none, none, none, none, none, none, none, none, none, none, none, none, none, none, none, none, none, none, none, none, none, none, none, none, none, none, none, none, none, none, none, none] w) := by kernel_rfl
theorem ref07_New.lok3 : LoopOk Try.prog ref07_New.L ref07_New.b0 := by
  refine loop_ok tab_ok ref07_New.C_ok (D := ref07_New.D) (ref07_New.hn3) (ref07_New.hx3) (by kernel_rfl) (by rw [ref07_New.b0_loops]; exact lcons ref07_New.lok7 (lnil)) ?_ ?_ ?_ ?_
  · intro f w K h
    unfold ref07_New.hn3 at h
    obtain ⟨hlen, h⟩ := gN_ok h
    obtain ⟨y0, h0, h⟩ := gI_ok h
    obtain ⟨y3, h3, h⟩ := gQ_ok h
    obtain ⟨y4, h4, h⟩ := gI_ok h
    exact h
  · intro N f w K h
    unfold ref07_New.hn3 at h
    obtain ⟨hlen, h⟩ := gN_ok h
    obtain ⟨y0, h0, h⟩ := gI_ok h
    obtain ⟨y3, h3, h⟩ := gQ_ok h
    obtain ⟨y4, h4, h⟩ := gI_ok h
    refine ⟨[some (Value.int .i64 y0), none, none, some (Value.pointer (some y3)), some (Value.int .i64 y4), none, none, none, none, none, none, none, none, none, none, none, none, none, none, none, none, none, none, none, none, none, none, none, none, none, none, none, none, none, none, none, none, none, none], hlen, ⟨h0, h3, h4, trivial⟩, ?_⟩
    rw [ref07_New.le3]
    exact h
  · intro e f w K h
    cases e with
    | normal => exact h.elim
    | exit i =>
      unfold ref07_New.hx3 at h
      simp only at h
      split at h
      · rename_i hb
        obtain rfl := Nat.eq_of_beq_eq_true hb
        obtain ⟨hlen, h⟩ := gN_ok h
        obtain ⟨o3, h3, h⟩ := gQ_ok h
        exact ⟨[none, none, none, some (Value.pointer (some o3)), none, none, none, none, none, none, none, none, none, none, none, none, none, none, none, none, none, none, none, none, none, none, none, none, none, none, none, none, none, none, none, none, none, none, none], hlen, ⟨h3, trivial⟩, h⟩
      · exact (show False from h).elim
    | ret =>
      exact (show False from h).elim
  · intro f w K h
    have e : lid ref07_New.b0 = 3 := by kernel_rfl
    rw [e] at h
    exact h
theorem ref07_New.eq (a0 : Int) (w : World) (K : Value → World → Prop) : afn ref07_New.C ref07_New.L ref07_New.D tab Try.f18 [(Value.int .i64 a0)] w K = ref07_New.f a0 w (fun r0 w => K (Value.pointer r0) w) := by kernel_rfl
theorem ref07_New.ok : FSound Try.prog 18 ref07_New.h := by
  intro args w K h
  unfold ref07_New.h ref07_New.H at h
  split at h
  ·
    replace h := vI_ok h
    obtain ⟨a0, rfl, h⟩ := h
    refine ⟨by kernel_rfl, fn_ok tab_ok ref07_New.C_ok (L := ref07_New.L) (D := ref07_New.D) Try.func18 ref07_New.hb (by kernel_rfl) (by rw [ref07_New.c_loops]; exact lcons ref07_New.lok3 (lnil)) (Nat.le_of_ble_eq_true (by kernel_rfl)) ?_⟩
    rw [ref07_New.eq]
    exact h
  · exact h.elim
/-! ### valise/valiseref05.Round: function 44 -/
def ref05_Round.f (a0 : Int) (a1 : Int) (w : World) (K : Int → World → Prop) : Prop :=
  if a1 = 0 then False else
  if a1 = 0 then False else
  let v4_3 := (Int.tmod (IntKind.wrap .i64 ((Int.tmod a0 a1) + a1)) a1)
  K v4_3 w
def ref05_Round.H (F : type_of% @ref05_Round.f) : Hf := fun args w K => match args with
  | [v0, v1] => vI .i64 v0 fun a0 => vI .i64 v1 fun a1 => F a0 a1 w (fun r0 w => K (Value.int .i64 r0) w)
  | _ => False
def ref05_Round.h : Hf := ref05_Round.H @ref05_Round.f
def ref05_Round.C : Hd := hnil
theorem ref05_Round.C_ok : CSound Try.prog ref05_Round.C := hnil_ok
def ref05_Round.D : Nat → Plan := fun i => .done
noncomputable def ref05_Round.c : Code := Try.f44.body.getD .skip
theorem ref05_Round.hb : Try.f44.body = some ref05_Round.c := by kernel_rfl
theorem ref05_Round.c_loops : loopsOf ref05_Round.c = [] := by kernel_rfl
def ref05_Round.L : LHd := fun l f w K => False
theorem ref05_Round.eq (a0 : Int) (a1 : Int) (w : World) (K : Value → World → Prop) : afn ref05_Round.C ref05_Round.L ref05_Round.D tab Try.f44 [(Value.int .i64 a0), (Value.int .i64 a1)] w K = ref05_Round.f a0 a1 w (fun r0 w => K (Value.int .i64 r0) w) := by kernel_rfl
theorem ref05_Round.ok : FSound Try.prog 44 ref05_Round.h := by
  intro args w K h
  unfold ref05_Round.h ref05_Round.H at h
  split at h
  ·
    replace h := vI_ok h
    obtain ⟨a0, rfl, h⟩ := h
    replace h := vI_ok h
    obtain ⟨a1, rfl, h⟩ := h
    refine ⟨by kernel_rfl, fn_ok tab_ok ref05_Round.C_ok (L := ref05_Round.L) (D := ref05_Round.D) Try.func44 ref05_Round.hb (by kernel_rfl) (by rw [ref05_Round.c_loops]; exact lnil) (Nat.le_of_ble_eq_true (by kernel_rfl)) ?_⟩
    rw [ref05_Round.eq]
    exact h
  · exact h.elim
/-! ### (*valise/valiseref07.Stage).At: function 20 -/
def ref07_Stage_At.f (a0 : Option Addr) (a1 : Int) (a2 : Int) (w : World) (K : Int → World → Prop) : Prop :=
  sm a0 fun p_3 =>
  ldL p_3 w.drew fun x10_4 x10_4n x10_4c =>
  sm a0 fun p_5 =>
  ldL p_5 w.drew fun x15_6 x15_6n x15_6c =>
  ref05_Round.f a1 ((x15_6n : Nat) : Int) w.drew fun r17_7 w =>
  (World.cell? w p_5 = some (.slice x15_6 x15_6n x15_6c)) ∧
  ((World.cell? w p_3 = some (.slice x10_4 x10_4n x10_4c)) ∧
  (sm x10_4 fun p_8 =>
  if 0 ≤ (r17_7 : Int) ∧ (r17_7 : Int) < ((x10_4n : Nat) : Int) then
  ldL (p_8.add (Int.toNat r17_7)) w fun x19_9 x19_9n x19_9c =>
  ref05_Round.f a2 33 w fun r21_10 w =>
  (World.cell? w (p_8.add (Int.toNat r17_7)) = some (.slice x19_9 x19_9n x19_9c)) ∧
  ((World.cell? w p_5 = some (.slice x15_6 x15_6n x15_6c)) ∧
  ((World.cell? w p_3 = some (.slice x10_4 x10_4n x10_4c)) ∧
  (sm x19_9 fun p_11 =>
  if 0 ≤ (r21_10 : Int) ∧ (r21_10 : Int) < ((x19_9n : Nat) : Int) then
  ldI .i64 (p_11.add (Int.toNat r21_10)) w fun x23_12 =>
  K x23_12 w
  else False)))
  else False))
def ref07_Stage_At.H (F : type_of% @ref07_Stage_At.f) : Hf := fun args w K => match args with
  | [v0, v1, v2] => vP v0 fun a0 => vI .i64 v1 fun a1 => vI .i64 v2 fun a2 => F a0 a1 a2 w (fun r0 w => K (Value.int .i64 r0) w)
  | _ => False
def ref07_Stage_At.h : Hf := ref07_Stage_At.H @ref07_Stage_At.f
def ref07_Stage_At.C : Hd := hcons 44 ref05_Round.h (hnil)
theorem ref07_Stage_At.C_ok : CSound Try.prog ref07_Stage_At.C := hcons_ok ref05_Round.ok (hnil_ok)
def ref07_Stage_At.D : Nat → Plan := fun i => (match Nat.beq i 1 with | true => .take 0 (.take 1 (.take 2 (.take 3 (.take 4 (.take 5 (.take 6 (.take 7 (.take 8 (.take 9 (.take 13 (.eff 10 (.take 11 (.take 12 (.eff 14 (.take 15 (.take 16 (.take 17 (.done)))))))))))))))))) | false => .done)
noncomputable def ref07_Stage_At.c : Code := Try.f20.body.getD .skip
theorem ref07_Stage_At.hb : Try.f20.body = some ref07_Stage_At.c := by kernel_rfl
theorem ref07_Stage_At.c_loops : loopsOf ref07_Stage_At.c = [] := by kernel_rfl
def ref07_Stage_At.L : LHd := fun l f w K => False
theorem ref07_Stage_At.eq (a0 : Option Addr) (a1 : Int) (a2 : Int) (w : World) (K : Value → World → Prop) : afn ref07_Stage_At.C ref07_Stage_At.L ref07_Stage_At.D tab Try.f20 [(Value.pointer a0), (Value.int .i64 a1), (Value.int .i64 a2)] w K = ref07_Stage_At.f a0 a1 a2 w (fun r0 w => K (Value.int .i64 r0) w) := by kernel_rfl
theorem ref07_Stage_At.ok : FSound Try.prog 20 ref07_Stage_At.h := by
  intro args w K h
  unfold ref07_Stage_At.h ref07_Stage_At.H at h
  split at h
  ·
    replace h := vP_ok h
    obtain ⟨a0, rfl, h⟩ := h
    replace h := vI_ok h
    obtain ⟨a1, rfl, h⟩ := h
    replace h := vI_ok h
    obtain ⟨a2, rfl, h⟩ := h
    refine ⟨by kernel_rfl, fn_ok tab_ok ref07_Stage_At.C_ok (L := ref07_Stage_At.L) (D := ref07_Stage_At.D) Try.func20 ref07_Stage_At.hb (by kernel_rfl) (by rw [ref07_Stage_At.c_loops]; exact lnil) (Nat.le_of_ble_eq_true (by kernel_rfl)) ?_⟩
    rw [ref07_Stage_At.eq]
    exact h
  · exact h.elim
/-! ### valise/valiseref06.Stretch: function 45 -/
def ref06_Stretch.l3 : Nat → Int → Int → Int → World → (Int → World → Prop) → Prop
  | 0, _, _, _, _, _ => False
  | N + 1, y0, y3, y4, w, K0 =>
    bif (decide (y3 < y4)) then
      let v5_9 := (IntKind.wrap .i64 ((IntKind.wrap .i64 (Int.tdiv (IntKind.wrap .i64 ((IntKind.wrap .i64 (y3 + y4)) + 4094)) 2)) - 2047))
      ref06_Squash.f v5_9 w fun r19_11 w =>
      bif (decide (r19_11 < y0)) then
        let v3_12 := (IntKind.wrap .i64 (v5_9 + 1))
        ref06_Stretch.l3 N y0 v3_12 y4 w K0
      else
        ref06_Stretch.l3 N y0 y3 v5_9 w K0
    else
      K0 y3 w

def ref06_Stretch.f (a0 : Int) (w : World) (K : Int → World → Prop) : Prop :=
  let v0_3 := (mx 1 (mn a0 4095))
  ∃ N_13 : Nat, ref06_Stretch.l3 N_13 v0_3 (-2047) 2047 w
  (fun o3_14 w =>
    K o3_14 w)
def ref06_Stretch.H (F : type_of% @ref06_Stretch.f) : Hf := fun args w K => match args with
  | [v0] => vI .i64 v0 fun a0 => F a0 w (fun r0 w => K (Value.int .i64 r0) w)
  | _ => False
def ref06_Stretch.h : Hf := ref06_Stretch.H @ref06_Stretch.f
def ref06_Stretch.C : Hd := hcons 43 ref06_Squash.h (hnil)
theorem ref06_Stretch.C_ok : CSound Try.prog ref06_Stretch.C := hcons_ok ref06_Squash.ok (hnil_ok)
def ref06_Stretch.D : Nat → Plan := fun i => .done
noncomputable def ref06_Stretch.c : Code := Try.f45.body.getD .skip
theorem ref06_Stretch.hb : Try.f45.body = some ref06_Stretch.c := by kernel_rfl
noncomputable def ref06_Stretch.b0 : Code := (loopsOf ref06_Stretch.c).getD 0 .skip
theorem ref06_Stretch.b0_loops : loopsOf ref06_Stretch.b0 = [] := by kernel_rfl
theorem ref06_Stretch.c_loops : loopsOf ref06_Stretch.c = [ref06_Stretch.b0] := by kernel_rfl
def ref06_Stretch.hn3 (N : Nat) (f : Fr) (w : World) (K : AExit → Fr → World → Prop) : Prop :=
  gN f 26 <| gI .i64 f 0 fun y0 => gI .i64 f 3 fun y3 => gI .i64 f 4 fun y4 => ref06_Stretch.l3 N y0 y3 y4 w (fun o3 w => K (.exit 0) [none, none, none, some (Value.int .i64 o3), none, none, none, none, none, none, none, none, none, none, none, none, none, none, none, none, none, none, none, none, none, none] w)
def ref06_Stretch.hx3 : AExit → Fr → World → (AExit → Fr → World → Prop) → Prop := fun e f w K => match e with
  | .normal => False
  | .exit i => (match Nat.beq i 0 with | true => gN f 26 <| gI .i64 f 3 fun o3 => K (.exit 0) [none, none, none, some (Value.int .i64 o3), none, none, none, none, none, none, none, none, none, none, none, none, none, none, none, none, none, none, none, none, none, none] w | false => False)
  | .ret => False
def ref06_Stretch.L : LHd := fun l f w K => (match Nat.beq l 3 with | true => ∃ N, ref06_Stretch.hn3 N f w K | false => False)
theorem ref06_Stretch.le3 (N : Nat) (y0 : Int) (y3 : Int) (y4 : Int) (w : World) (K : AExit → Fr → World → Prop) : awp ref06_Stretch.C ref06_Stretch.L ref06_Stretch.D tab ref06_Stretch.b0 (lpost ref06_Stretch.hn3 ref06_Stretch.hx3 N K) [some (Value.int .i64 y0), none, none, some (Value.int .i64 y3), some (Value.int .i64 y4), none, none, none, none, none, none, none, none, none, none, none, none, none, none, none, none, none, none, none, none, none] w = ref06_Stretch.l3 (N + 1) y0 y3 y4 w (fun o3 w => K (.exit 0) [none, none, none, some (Value.int .i64 o3), none, none, none, none, none, none, none, none, none, none, none, none, none, none, none, none, none, none, none, none, none, none] w) := by kernel_rfl
theorem ref06_Stretch.lok3 : LoopOk Try.prog ref06_Stretch.L ref06_Stretch.b0 := by
  refine loop_ok tab_ok ref06_Stretch.C_ok (D := ref06_Stretch.D) (ref06_Stretch.hn3) (ref06_Stretch.hx3) (by kernel_rfl) (by rw [ref06_Stretch.b0_loops]; exact lnil) ?_ ?_ ?_ ?_
  · intro f w K h
    unfold ref06_Stretch.hn3 at h
    obtain ⟨hlen, h⟩ := gN_ok h
    obtain ⟨y0, h0, h⟩ := gI_ok h
    obtain ⟨y3, h3, h⟩ := gI_ok h
    obtain ⟨y4, h4, h⟩ := gI_ok h
    exact h
  · intro N f w K h
    unfold ref06_Stretch.hn3 at h
    obtain ⟨hlen, h⟩ := gN_ok h
    obtain ⟨y0, h0, h⟩ := gI_ok h
    obtain ⟨y3, h3, h⟩ := gI_ok h
    obtain ⟨y4, h4, h⟩ := gI_ok h
    refine ⟨[some (Value.int .i64 y0), none, none, some (Value.int .i64 y3), some (Value.int .i64 y4), none, none, none, none, none, none, none, none, none, none, none, none, none, none, none, none, none, none, none, none, none], hlen, ⟨h0, h3, h4, trivial⟩, ?_⟩
    rw [ref06_Stretch.le3]
    exact h
  · intro e f w K h
    cases e with
    | normal => exact h.elim
    | exit i =>
      unfold ref06_Stretch.hx3 at h
      simp only at h
      split at h
      · rename_i hb
        obtain rfl := Nat.eq_of_beq_eq_true hb
        obtain ⟨hlen, h⟩ := gN_ok h
        obtain ⟨o3, h3, h⟩ := gI_ok h
        exact ⟨[none, none, none, some (Value.int .i64 o3), none, none, none, none, none, none, none, none, none, none, none, none, none, none, none, none, none, none, none, none, none, none], hlen, ⟨h3, trivial⟩, h⟩
      · exact (show False from h).elim
    | ret =>
      exact (show False from h).elim
  · intro f w K h
    have e : lid ref06_Stretch.b0 = 3 := by kernel_rfl
    rw [e] at h
    exact h
theorem ref06_Stretch.eq (a0 : Int) (w : World) (K : Value → World → Prop) : afn ref06_Stretch.C ref06_Stretch.L ref06_Stretch.D tab Try.f45 [(Value.int .i64 a0)] w K = ref06_Stretch.f a0 w (fun r0 w => K (Value.int .i64 r0) w) := by kernel_rfl
theorem ref06_Stretch.ok : FSound Try.prog 45 ref06_Stretch.h := by
  intro args w K h
  unfold ref06_Stretch.h ref06_Stretch.H at h
  split at h
  ·
    replace h := vI_ok h
    obtain ⟨a0, rfl, h⟩ := h
    refine ⟨by kernel_rfl, fn_ok tab_ok ref06_Stretch.C_ok (L := ref06_Stretch.L) (D := ref06_Stretch.D) Try.func45 ref06_Stretch.hb (by kernel_rfl) (by rw [ref06_Stretch.c_loops]; exact lcons ref06_Stretch.lok3 (lnil)) (Nat.le_of_ble_eq_true (by kernel_rfl)) ?_⟩
    rw [ref06_Stretch.eq]
    exact h
  · exact h.elim
/-! ### (*valise/valiseref07.Stage).Refine: function 21 -/
def ref07_Stage_Refine.f (a0 : Option Addr) (a1 : Int) (a2 : Int) (w : World) (K : Int → World → Prop) : Prop :=
  ref06_Stretch.f a1 w fun r12_3 w =>
  let v7_4 := (IntKind.wrap .i64 (r12_3 + 2048))
  let v8_6 := (IntKind.wrap .i64 (Int.tdiv v7_4 128))
  let v9_7 := (Int.tmod v7_4 128)
  sm a0 fun p_9 =>
  ldL p_9 w fun x25_10 x25_10n x25_10c =>
  ref05_Round.f a2 ((x25_10n : Nat) : Int) w fun r27_11 w =>
  sm a0 fun p_12 =>
  stC (p_12.add 1) (Value.int .i64 r27_11) w fun w =>
  sm a0 fun p_13 =>
  stC (p_13.add 2) (Value.int .i64 v8_6) w fun w =>
  sm a0 fun p_14 =>
  stC (p_14.add 3) (Value.bool true) w fun w =>
  let J_31 := fun  (w : World) =>
    ((sm a0 fun p_19 =>
    ldL p_19 w.drew fun x45_20 x45_20n x45_20c =>
    sm a0 fun p_21 =>
    ldI .i64 (p_21.add 1) w.drew fun x49_22 =>
    sm x45_20 fun p_23 =>
    if 0 ≤ (x49_22 : Int) ∧ (x49_22 : Int) < ((x45_20n : Nat) : Int) then
    ldL (p_23.add (Int.toNat x49_22)) w.drew fun x51_24 x51_24n x51_24c =>
    sm x51_24 fun p_26 =>
    if 0 ≤ (v8_6 : Int) ∧ (v8_6 : Int) < ((x51_24n : Nat) : Int) then
    ldI .i64 (p_26.add (Int.toNat v8_6)) w.drew.drew fun x55_27 =>
    sm x51_24 fun p_28 =>
    if 0 ≤ ((IntKind.wrap .i64 (v8_6 + 1)) : Int) ∧ ((IntKind.wrap .i64 (v8_6 + 1)) : Int) < ((x51_24n : Nat) : Int) then
    ldI .i64 (p_28.add (Int.toNat (IntKind.wrap .i64 (v8_6 + 1)))) w.drew.drew fun x63_29 =>
    let v6_30 := (mx 1 (mn (shr .i64 (IntKind.wrap .i64 ((IntKind.wrap .i64 (x55_27 * (IntKind.wrap .i64 (128 - v9_7)))) + (IntKind.wrap .i64 (x63_29 * v9_7)))) 11) 4095))
    K v6_30 w.drew.drew
    else False
    else False
    else False) : Prop)
  bif (decide (v9_7 ≥ 64)) then
    sm a0 fun p_17 =>
    stC (p_17.add 2) (Value.int .i64 (IntKind.wrap .i64 (v8_6 + 1))) w fun w =>
    J_31 w
  else
    J_31 w
def ref07_Stage_Refine.H (F : type_of% @ref07_Stage_Refine.f) : Hf := fun args w K => match args with
  | [v0, v1, v2] => vP v0 fun a0 => vI .i64 v1 fun a1 => vI .i64 v2 fun a2 => F a0 a1 a2 w (fun r0 w => K (Value.int .i64 r0) w)
  | _ => False
def ref07_Stage_Refine.h : Hf := ref07_Stage_Refine.H @ref07_Stage_Refine.f
def ref07_Stage_Refine.C : Hd := hcons 44 ref05_Round.h (hcons 45 ref06_Stretch.h (hnil))
theorem ref07_Stage_Refine.C_ok : CSound Try.prog ref07_Stage_Refine.C := hcons_ok ref05_Round.ok (hcons_ok ref06_Stretch.ok (hnil_ok))
def ref07_Stage_Refine.D : Nat → Plan := fun i => (match Nat.beq i 7 with | true => .take 0 (.take 1 (.take 2 (.take 3 (.take 4 (.take 5 (.take 6 (.take 7 (.take 8 (.take 9 (.take 10 (.take 11 (.take 12 (.take 13 (.take 14 (.take 15 (.take 16 (.take 17 (.take 18 (.done))))))))))))))))))) | false => (match Nat.beq i 6 with | true => .take 0 (.take 1 (.take 2 (.take 3 (.take 4 (.take 5 (.take 6 (.take 7 (.take 8 (.take 9 (.take 10 (.done))))))))))) | false => .done))
noncomputable def ref07_Stage_Refine.c : Code := Try.f21.body.getD .skip
theorem ref07_Stage_Refine.hb : Try.f21.body = some ref07_Stage_Refine.c := by kernel_rfl
theorem ref07_Stage_Refine.c_loops : loopsOf ref07_Stage_Refine.c = [] := by kernel_rfl
def ref07_Stage_Refine.L : LHd := fun l f w K => False
theorem ref07_Stage_Refine.eq (a0 : Option Addr) (a1 : Int) (a2 : Int) (w : World) (K : Value → World → Prop) : afn ref07_Stage_Refine.C ref07_Stage_Refine.L ref07_Stage_Refine.D tab Try.f21 [(Value.pointer a0), (Value.int .i64 a1), (Value.int .i64 a2)] w K = ref07_Stage_Refine.f a0 a1 a2 w (fun r0 w => K (Value.int .i64 r0) w) := by kernel_rfl
theorem ref07_Stage_Refine.ok : FSound Try.prog 21 ref07_Stage_Refine.h := by
  intro args w K h
  unfold ref07_Stage_Refine.h ref07_Stage_Refine.H at h
  split at h
  ·
    replace h := vP_ok h
    obtain ⟨a0, rfl, h⟩ := h
    replace h := vI_ok h
    obtain ⟨a1, rfl, h⟩ := h
    replace h := vI_ok h
    obtain ⟨a2, rfl, h⟩ := h
    refine ⟨by kernel_rfl, fn_ok tab_ok ref07_Stage_Refine.C_ok (L := ref07_Stage_Refine.L) (D := ref07_Stage_Refine.D) Try.func21 ref07_Stage_Refine.hb (by kernel_rfl) (by rw [ref07_Stage_Refine.c_loops]; exact lnil) (Nat.le_of_ble_eq_true (by kernel_rfl)) ?_⟩
    rw [ref07_Stage_Refine.eq]
    exact h
  · exact h.elim
/-! ### (*valise/stage.Stage).Learn: function 22 -/
def stage_Stage_Learn.f (a0 : Option Addr) (a1 : Int) (a2 : Int) (w : World) (K : World → Prop) : Prop :=
  bif a0.isNone then
    K w
  else
    sm a0 fun p_3 =>
    ldB (p_3.add 1) w fun x14_4 =>
    bif (!x14_4) then
      K w
    else
      let J_19 := fun (j6_8 : Int) (w : World) =>
        ((sm a0 fun p_10 =>
        ldL p_10 w.drew fun x22_11 x22_11n x22_11c =>
        sm a0 fun p_12 =>
        ldI .i64 (p_12.add 2) w.drew fun x26_13 =>
        sm a0 fun p_14 =>
        ldI .i64 (p_14.add 3) w.drew fun x30_15 =>
        sm x22_11 fun p_16 =>
        if 0 ≤ (x26_13 : Int) ∧ (x26_13 : Int) < ((x22_11n : Nat) : Int) then
        if 0 ≤ (x30_15 : Int) ∧ (x30_15 : Int) < ((33 : Nat) : Int) then
        ldI .i64 ((p_16.add (Int.toNat x26_13 * 33)).add (Int.toNat x30_15)) w.drew.drew fun x35_17 =>
        ldI .i64 ((p_16.add (Int.toNat x26_13 * 33)).add (Int.toNat x30_15)) w.drew.drew fun x39_18 =>
        if (mx 1 (mn a2 15)) < 0 then False else
        stC ((p_16.add (Int.toNat x26_13 * 33)).add (Int.toNat x30_15)) (Value.int .i64 (IntKind.wrap .i64 (x35_17 + (shr .i64 (IntKind.wrap .i64 (j6_8 - x39_18)) (min (Int.toNat (mx 1 (mn a2 15))) (IntKind.bits .i64)))))) w.drew.drew fun w =>
        K w
        else False
        else False) : Prop)
      bif (a1 != 0) then
        J_19 65535 w
      else
        J_19 0 w
def stage_Stage_Learn.H (F : type_of% @stage_Stage_Learn.f) : Hf := fun args w K => match args with
  | [v0, v1, v2] => vP v0 fun a0 => vI .i64 v1 fun a1 => vI .i64 v2 fun a2 => F a0 a1 a2 w (fun w => K (Value.tuple #[]) w)
  | _ => False
def stage_Stage_Learn.h : Hf := stage_Stage_Learn.H @stage_Stage_Learn.f
def stage_Stage_Learn.C : Hd := hnil
theorem stage_Stage_Learn.C_ok : CSound Try.prog stage_Stage_Learn.C := hnil_ok
def stage_Stage_Learn.D : Nat → Plan := fun i => (match Nat.beq i 5 with | true => .take 0 (.take 1 (.take 2 (.take 3 (.take 4 (.take 5 (.take 6 (.take 7 (.take 8 (.take 9 (.take 10 (.take 11 (.take 12 (.take 13 (.eff 14 (.done))))))))))))))) | false => (match Nat.beq i 4 with | true => .take 0 (.take 1 (.take 2 (.take 3 (.take 4 (.take 5 (.take 6 (.take 7 (.take 8 (.take 9 (.take 10 (.take 11 (.take 12 (.take 13 (.take 14 (.done))))))))))))))) | false => .done))
noncomputable def stage_Stage_Learn.c : Code := Try.f22.body.getD .skip
theorem stage_Stage_Learn.hb : Try.f22.body = some stage_Stage_Learn.c := by kernel_rfl
theorem stage_Stage_Learn.c_loops : loopsOf stage_Stage_Learn.c = [] := by kernel_rfl
def stage_Stage_Learn.L : LHd := fun l f w K => False
theorem stage_Stage_Learn.eq (a0 : Option Addr) (a1 : Int) (a2 : Int) (w : World) (K : Value → World → Prop) : afn stage_Stage_Learn.C stage_Stage_Learn.L stage_Stage_Learn.D tab Try.f22 [(Value.pointer a0), (Value.int .i64 a1), (Value.int .i64 a2)] w K = stage_Stage_Learn.f a0 a1 a2 w (fun w => K (Value.tuple #[]) w) := by kernel_rfl
theorem stage_Stage_Learn.ok : FSound Try.prog 22 stage_Stage_Learn.h := by
  intro args w K h
  unfold stage_Stage_Learn.h stage_Stage_Learn.H at h
  split at h
  ·
    replace h := vP_ok h
    obtain ⟨a0, rfl, h⟩ := h
    replace h := vI_ok h
    obtain ⟨a1, rfl, h⟩ := h
    replace h := vI_ok h
    obtain ⟨a2, rfl, h⟩ := h
    refine ⟨by kernel_rfl, fn_ok tab_ok stage_Stage_Learn.C_ok (L := stage_Stage_Learn.L) (D := stage_Stage_Learn.D) Try.func22 stage_Stage_Learn.hb (by kernel_rfl) (by rw [stage_Stage_Learn.c_loops]; exact lnil) (Nat.le_of_ble_eq_true (by kernel_rfl)) ?_⟩
    rw [stage_Stage_Learn.eq]
    exact h
  · exact h.elim
/-! ### (*valise/valiseref07.Stage).Learn: function 23 -/
def ref07_Stage_Learn.f (a0 : Option Addr) (a1 : Int) (a2 : Int) (w : World) (K : World → Prop) : Prop :=
  sm a0 fun p_3 =>
  ldB (p_3.add 3) w fun x11_4 =>
  bif (!x11_4) then
    K w
  else
    let J_27 := fun (j6_8 : Int) (w : World) =>
      ((sm a0 fun p_10 =>
      ldL p_10 w.drew fun x18_11 x18_11n x18_11c =>
      sm a0 fun p_12 =>
      ldI .i64 (p_12.add 1) w.drew fun x22_13 =>
      sm x18_11 fun p_14 =>
      if 0 ≤ (x22_13 : Int) ∧ (x22_13 : Int) < ((x18_11n : Nat) : Int) then
      ldL (p_14.add (Int.toNat x22_13)) w.drew fun x24_15 x24_15n x24_15c =>
      sm a0 fun p_16 =>
      ldI .i64 (p_16.add 2) w.drew.drew fun x29_17 =>
      sm a0 fun p_18 =>
      ldI .i64 (p_18.add 2) w.drew.drew fun x34_19 =>
      sm x24_15 fun p_20 =>
      if 0 ≤ (x34_19 : Int) ∧ (x34_19 : Int) < ((x24_15n : Nat) : Int) then
      ldI .i64 (p_20.add (Int.toNat x34_19)) w.drew.drew fun x36_21 =>
      sm a0 fun p_22 =>
      ldI .i64 (p_22.add 2) w.drew.drew fun x42_23 =>
      sm x24_15 fun p_24 =>
      if 0 ≤ (x42_23 : Int) ∧ (x42_23 : Int) < ((x24_15n : Nat) : Int) then
      ldI .i64 (p_24.add (Int.toNat x42_23)) w.drew.drew fun x44_25 =>
      if (IntKind.wrap .u64 (mx 1 (mn a2 15))) < 0 then False else
      sm x24_15 fun p_26 =>
      if 0 ≤ (x29_17 : Int) ∧ (x29_17 : Int) < ((x24_15n : Nat) : Int) then
      stC (p_26.add (Int.toNat x29_17)) (Value.int .i64 (IntKind.wrap .i64 (x36_21 + (shr .i64 (IntKind.wrap .i64 (j6_8 - x44_25)) (min (Int.toNat (IntKind.wrap .u64 (mx 1 (mn a2 15)))) (IntKind.bits .i64)))))) w.drew.drew fun w =>
      K w
      else False
      else False
      else False
      else False) : Prop)
    bif (a1 != 0) then
      J_27 65535 w
    else
      J_27 0 w
def ref07_Stage_Learn.H (F : type_of% @ref07_Stage_Learn.f) : Hf := fun args w K => match args with
  | [v0, v1, v2] => vP v0 fun a0 => vI .i64 v1 fun a1 => vI .i64 v2 fun a2 => F a0 a1 a2 w (fun w => K (Value.tuple #[]) w)
  | _ => False
def ref07_Stage_Learn.h : Hf := ref07_Stage_Learn.H @ref07_Stage_Learn.f
def ref07_Stage_Learn.C : Hd := hnil
theorem ref07_Stage_Learn.C_ok : CSound Try.prog ref07_Stage_Learn.C := hnil_ok
def ref07_Stage_Learn.D : Nat → Plan := fun i => (match Nat.beq i 5 with | true => .take 0 (.take 1 (.take 2 (.take 3 (.take 4 (.take 5 (.take 6 (.take 7 (.take 8 (.take 9 (.take 10 (.take 11 (.take 12 (.take 13 (.take 14 (.take 15 (.take 16 (.take 17 (.take 18 (.take 19 (.take 20 (.take 21 (.take 22 (.take 23 (.take 24 (.take 25 (.take 26 (.take 27 (.eff 28 (.done))))))))))))))))))))))))))))) | false => (match Nat.beq i 4 with | true => .take 0 (.take 1 (.take 2 (.take 3 (.take 4 (.take 5 (.take 6 (.take 7 (.take 8 (.take 9 (.take 10 (.done))))))))))) | false => .done))
noncomputable def ref07_Stage_Learn.c : Code := Try.f23.body.getD .skip
theorem ref07_Stage_Learn.hb : Try.f23.body = some ref07_Stage_Learn.c := by kernel_rfl
theorem ref07_Stage_Learn.c_loops : loopsOf ref07_Stage_Learn.c = [] := by kernel_rfl
def ref07_Stage_Learn.L : LHd := fun l f w K => False
theorem ref07_Stage_Learn.eq (a0 : Option Addr) (a1 : Int) (a2 : Int) (w : World) (K : Value → World → Prop) : afn ref07_Stage_Learn.C ref07_Stage_Learn.L ref07_Stage_Learn.D tab Try.f23 [(Value.pointer a0), (Value.int .i64 a1), (Value.int .i64 a2)] w K = ref07_Stage_Learn.f a0 a1 a2 w (fun w => K (Value.tuple #[]) w) := by kernel_rfl
theorem ref07_Stage_Learn.ok : FSound Try.prog 23 ref07_Stage_Learn.h := by
  intro args w K h
  unfold ref07_Stage_Learn.h ref07_Stage_Learn.H at h
  split at h
  ·
    replace h := vP_ok h
    obtain ⟨a0, rfl, h⟩ := h
    replace h := vI_ok h
    obtain ⟨a1, rfl, h⟩ := h
    replace h := vI_ok h
    obtain ⟨a2, rfl, h⟩ := h
    refine ⟨by kernel_rfl, fn_ok tab_ok ref07_Stage_Learn.C_ok (L := ref07_Stage_Learn.L) (D := ref07_Stage_Learn.D) Try.func23 ref07_Stage_Learn.hb (by kernel_rfl) (by rw [ref07_Stage_Learn.c_loops]; exact lnil) (Nat.le_of_ble_eq_true (by kernel_rfl)) ?_⟩
    rw [ref07_Stage_Learn.eq]
    exact h
  · exact h.elim
/-! ### valise/guess.New: function 46 -/
def guess_New.f (a0 : Int) (w : World) (K : Option Addr → World → Prop) : Prop :=
  mkL 120 1 2 [(Value.int .u16 0)] (mx 1 (mn a0 65536)) (mx 1 (mn a0 65536)) w fun a6_3 a6_3n a6_3c w =>
  newC 112 [(Value.slice a6_3 a6_3n a6_3c)] w fun a9_4 w =>
  K (some a9_4) w
def guess_New.H (F : type_of% @guess_New.f) : Hf := fun args w K => match args with
  | [v0] => vI .i64 v0 fun a0 => F a0 w (fun r0 w => K (Value.pointer r0) w)
  | _ => False
def guess_New.h : Hf := guess_New.H @guess_New.f
def guess_New.C : Hd := hnil
theorem guess_New.C_ok : CSound Try.prog guess_New.C := hnil_ok
def guess_New.D : Nat → Plan := fun i => .done
noncomputable def guess_New.c : Code := Try.f46.body.getD .skip
theorem guess_New.hb : Try.f46.body = some guess_New.c := by kernel_rfl
theorem guess_New.c_loops : loopsOf guess_New.c = [] := by kernel_rfl
def guess_New.L : LHd := fun l f w K => False
theorem guess_New.eq (a0 : Int) (w : World) (K : Value → World → Prop) : afn guess_New.C guess_New.L guess_New.D tab Try.f46 [(Value.int .i64 a0)] w K = guess_New.f a0 w (fun r0 w => K (Value.pointer r0) w) := by kernel_rfl
theorem guess_New.ok : FSound Try.prog 46 guess_New.h := by
  intro args w K h
  unfold guess_New.h guess_New.H at h
  split at h
  ·
    replace h := vI_ok h
    obtain ⟨a0, rfl, h⟩ := h
    refine ⟨by kernel_rfl, fn_ok tab_ok guess_New.C_ok (L := guess_New.L) (D := guess_New.D) Try.func46 guess_New.hb (by kernel_rfl) (by rw [guess_New.c_loops]; exact lnil) (Nat.le_of_ble_eq_true (by kernel_rfl)) ?_⟩
    rw [guess_New.eq]
    exact h
  · exact h.elim
/-! ### valise/mix.New: function 47 -/
def mix_New.l6 : Nat → Addr → Int → Int → Int → Int → World → (Addr → Int → Int → World → Prop) → Prop
  | 0, _, _, _, _, _, _, _ => False
  | N + 1, y3, y4, y16, y17, y20, w, K2 =>
    bif (decide (y20 < 4)) then
      ldL (y3.add 7) w fun x26_17 x26_17n x26_17c =>
      sm x26_17 fun p_18 =>
      if 0 ≤ (y4 : Int) ∧ (y4 : Int) < ((x26_17n : Nat) : Int) then
      if 0 ≤ (y20 : Int) ∧ (y20 : Int) < ((4 : Nat) : Int) then
      stC ((p_18.add (Int.toNat y4 * 4)).add (Int.toNat y20)) (Value.int .i64 16384) w fun w =>
      mix_New.l6 N y3 y4 y16 y17 (IntKind.wrap .i64 (y20 + 1)) w K2
      else False
      else False
    else
      K2 y3 y16 y17 w

def mix_New.l3 : Nat → Addr → Int → Int → World → (Addr → World → Prop) → Prop
  | 0, _, _, _, _, _ => False
  | N + 1, y3, y16, y17, w, K0 =>
    bif (decide (y17 < y16)) then
      ∃ N_19 : Nat, mix_New.l6 N_19 y3 y17 y16 y17 0 w
      (fun o3_20 o16_21 o17_22 w =>
        mix_New.l3 N o3_20 o16_21 (IntKind.wrap .i64 (o17_22 + 1)) w K0)
    else
      K0 y3 w

def mix_New.f (a0 : Int) (w : World) (K : Option Addr → World → Prop) : Prop :=
  mkL 88 4 32 [(Value.int .i64 0), (Value.int .i64 0), (Value.int .i64 0), (Value.int .i64 0)] (mx 1 (mn a0 4096)) (mx 1 (mn a0 4096)) w fun a9_3 a9_3n a9_3c w =>
  newC 117 [(Value.bool false), (Value.int .i64 0), (Value.int .i64 0), (Value.int .i64 0), (Value.int .i64 0), (Value.int .i64 0), (Value.int .i64 0), (Value.slice a9_3 a9_3n a9_3c)] w fun a11_4 w =>
  ldL (a11_4.add 7) w fun x15_7 x15_7n x15_7c =>
  ∃ N_23 : Nat, mix_New.l3 N_23 a11_4 ((x15_7n : Nat) : Int) 0 w
  (fun o3_24 w =>
    K (some o3_24) w)
def mix_New.H (F : type_of% @mix_New.f) : Hf := fun args w K => match args with
  | [v0] => vI .i64 v0 fun a0 => F a0 w (fun r0 w => K (Value.pointer r0) w)
  | _ => False
def mix_New.h : Hf := mix_New.H @mix_New.f
def mix_New.C : Hd := hnil
theorem mix_New.C_ok : CSound Try.prog mix_New.C := hnil_ok
def mix_New.D : Nat → Plan := fun i => .done
noncomputable def mix_New.c : Code := Try.f47.body.getD .skip
theorem mix_New.hb : Try.f47.body = some mix_New.c := by kernel_rfl
noncomputable def mix_New.b0 : Code := (loopsOf mix_New.c).getD 0 .skip
noncomputable def mix_New.b0_0 : Code := (loopsOf mix_New.b0).getD 0 .skip
theorem mix_New.b0_0_loops : loopsOf mix_New.b0_0 = [] := by kernel_rfl
theorem mix_New.b0_loops : loopsOf mix_New.b0 = [mix_New.b0_0] := by kernel_rfl
theorem mix_New.c_loops : loopsOf mix_New.c = [mix_New.b0] := by kernel_rfl
def mix_New.hn6 (N : Nat) (f : Fr) (w : World) (K : AExit → Fr → World → Prop) : Prop :=
  gN f 34 <| gQ f 3 fun y3 => gI .i64 f 4 fun y4 => gI .i64 f 16 fun y16 => gI .i64 f 17 fun y17 => gI .i64 f 20 fun y20 => mix_New.l6 N y3 y4 y16 y17 y20 w (fun o3 o16 o17 w => K (.exit 2) [none, none, none, some (Value.pointer (some o3)), none, none, none, none, none, none, none, none, none, none, none, none, some (Value.int .i64 o16), some (Value.int .i64 o17), none, none, none, none, none, none, none, none, none, none, none, none, none, none, none, none] w)
def mix_New.hx6 : AExit → Fr → World → (AExit → Fr → World → Prop) → Prop := fun e f w K => match e with
  | .normal => False
  | .exit i => (match Nat.beq i 2 with | true => gN f 34 <| gQ f 3 fun o3 => gI .i64 f 16 fun o16 => gI .i64 f 17 fun o17 => K (.exit 2) [none, none, none, some (Value.pointer (some o3)), none, none, none, none, none, none, none, none, none, none, none, none, some (Value.int .i64 o16), some (Value.int .i64 o17), none, none, none, none, none, none, none, none, none, none, none, none, none, none, none, none] w | false => False)
  | .ret => False
def mix_New.hn3 (N : Nat) (f : Fr) (w : World) (K : AExit → Fr → World → Prop) : Prop :=
  gN f 34 <| gQ f 3 fun y3 => gI .i64 f 16 fun y16 => gI .i64 f 17 fun y17 => mix_New.l3 N y3 y16 y17 w (fun o3 w => K (.exit 0) [none, none, none, some (Value.pointer (some o3)), none, none, none, none, none, none, none, none, none, none, none, none, none, none, none, none, none, none, none, none, none, none, none, none, none, none, none, none, none, none] w)
def mix_New.hx3 : AExit → Fr → World → (AExit → Fr → World → Prop) → Prop := fun e f w K => match e with
  | .normal => False
  | .exit i => (match Nat.beq i 0 with | true => gN f 34 <| gQ f 3 fun o3 => K (.exit 0) [none, none, none, some (Value.pointer (some o3)), none, none, none, none, none, none, none, none, none, none, none, none, none, none, none, none, none, none, none, none, none, none, none, none, none, none, none, none, none, none] w | false => False)
  | .ret => False
def mix_New.L : LHd := fun l f w K => (match Nat.beq l 3 with | true => ∃ N, mix_New.hn3 N f w K | false => (match Nat.beq l 6 with | true => ∃ N, mix_New.hn6 N f w K | false => False))
theorem mix_New.le6 (N : Nat) (y3 : Addr) (y4 : Int) (y16 : Int) (y17 : Int) (y20 : Int) (w : World) (K : AExit → Fr → World → Prop) : awp mix_New.C mix_New.L mix_New.D tab mix_New.b0_0 (lpost mix_New.hn6 mix_New.hx6 N K) [none, none, none, some (Value.pointer (some y3)), some (Value.int .i64 y4), none, none, none, none, none, none, none, none, none, none, none, some (Value.int .i64 y16), some (Value.int .i64 y17), none, none, some (Value.int .i64 y20), none, none, none, none, none, none, none, none, none, none, none, none, none] w = mix_New.l6 (N + 1) y3 y4 y16 y17 y20 w (fun o3 o16 o17 w => K (.exit 2) [none, none, none, some (Value.pointer (some o3)), none, none, none, none, none, none, none, none, none, none, none, none, some (Value.int .i64 o16), some (Value.int .i64 o17), none, none, none, none, none, none, none, none, none, none, none, none, none, none, none, none] w) := by kernel_rfl
theorem mix_New.lok6 : LoopOk Try.prog mix_New.L mix_New.b0_0 := by
  refine loop_ok tab_ok mix_New.C_ok (D := mix_New.D) (mix_New.hn6) (mix_New.hx6) (by kernel_rfl) (by rw [mix_New.b0_0_loops]; exact lnil) ?_ ?_ ?_ ?_
  · intro f w K h
    unfold mix_New.hn6 at h
    obtain ⟨hlen, h⟩ := gN_ok h
    obtain ⟨y3, h3, h⟩ := gQ_ok h
    obtain ⟨y4, h4, h⟩ := gI_ok h
    obtain ⟨y16, h16, h⟩ := gI_ok h
    obtain ⟨y17, h17, h⟩ := gI_ok h
    obtain ⟨y20, h20, h⟩ := gI_ok h
    exact h
  · intro N f w K h
    unfold mix_New.hn6 at h
    obtain ⟨hlen, h⟩ := gN_ok h
    obtain ⟨y3, h3, h⟩ := gQ_ok h
    obtain ⟨y4, h4, h⟩ := gI_ok h
    obtain ⟨y16, h16, h⟩ := gI_ok h
    obtain ⟨y17, h17, h⟩ := gI_ok h
    obtain ⟨y20, h20, h⟩ := gI_ok h
    refine ⟨[none, none, none, some (Value.pointer (some y3)), some (Value.int .i64 y4), none, none, none, none, none, none, none, none, none, none, none, some (Value.int .i64 y16), some (Value.int .i64 y17), none, none, some (Value.int .i64 y20), none, none, none, none, none, none, none, none, none, none, none, none, none], hlen, ⟨h3, h4, h16, h17, h20, trivial⟩, ?_⟩
    rw [mix_New.le6]
    exact h
  · intro e f w K h
    cases e with
    | normal => exact h.elim
    | exit i =>
      unfold mix_New.hx6 at h
      simp only at h
      split at h
      · rename_i hb
        obtain rfl := Nat.eq_of_beq_eq_true hb
        obtain ⟨hlen, h⟩ := gN_ok h
        obtain ⟨o3, h3, h⟩ := gQ_ok h
        obtain ⟨o16, h16, h⟩ := gI_ok h
        obtain ⟨o17, h17, h⟩ := gI_ok h
        exact ⟨[none, none, none, some (Value.pointer (some o3)), none, none, none, none, none, none, none, none, none, none, none, none, some (Value.int .i64 o16), some (Value.int .i64 o17), none, none, none, none, none, none, none, none, none, none, none, none, none, none, none, none], hlen, ⟨h3, h16, h17, trivial⟩, h⟩
      · exact (show False from h).elim
    | ret =>
      exact (show False from h).elim
  · intro f w K h
    have e : lid mix_New.b0_0 = 6 := by kernel_rfl
    rw [e] at h
    exact h
theorem mix_New.le3 (N : Nat) (y3 : Addr) (y16 : Int) (y17 : Int) (w : World) (K : AExit → Fr → World → Prop) : awp mix_New.C mix_New.L mix_New.D tab mix_New.b0 (lpost mix_New.hn3 mix_New.hx3 N K) [none, none, none, some (Value.pointer (some y3)), none, none, none, none, none, none, none, none, none, none, none, none, some (Value.int .i64 y16), some (Value.int .i64 y17), none, none, none, none, none, none, none, none, none, none, none, none, none, none, none, none] w = mix_New.l3 (N + 1) y3 y16 y17 w (fun o3 w => K (.exit 0) [none, none, none, some (Value.pointer (some o3)), none, none, none, none, none, none, none, none, none, none, none, none, none, none, none, none, none, none, none, none, none, none, none, none, none, none, none, none, none, none] w) := by kernel_rfl
theorem mix_New.lok3 : LoopOk Try.prog mix_New.L mix_New.b0 := by
  refine loop_ok tab_ok mix_New.C_ok (D := mix_New.D) (mix_New.hn3) (mix_New.hx3) (by kernel_rfl) (by rw [mix_New.b0_loops]; exact lcons mix_New.lok6 (lnil)) ?_ ?_ ?_ ?_
  · intro f w K h
    unfold mix_New.hn3 at h
    obtain ⟨hlen, h⟩ := gN_ok h
    obtain ⟨y3, h3, h⟩ := gQ_ok h
    obtain ⟨y16, h16, h⟩ := gI_ok h
    obtain ⟨y17, h17, h⟩ := gI_ok h
    exact h
  · intro N f w K h
    unfold mix_New.hn3 at h
    obtain ⟨hlen, h⟩ := gN_ok h
    obtain ⟨y3, h3, h⟩ := gQ_ok h
    obtain ⟨y16, h16, h⟩ := gI_ok h
    obtain ⟨y17, h17, h⟩ := gI_ok h
    refine ⟨[none, none, none, some (Value.pointer (some y3)), none, none, none, none, none, none, none, none, none, none, none, none, some (Value.int .i64 y16), some (Value.int .i64 y17), none, none, none, none, none, none, none, none, none, none, none, none, none, none, none, none], hlen, ⟨h3, h16, h17, trivial⟩, ?_⟩
    rw [mix_New.le3]
    exact h
  · intro e f w K h
    cases e with
    | normal => exact h.elim
    | exit i =>
      unfold mix_New.hx3 at h
      simp only at h
      split at h
      · rename_i hb
        obtain rfl := Nat.eq_of_beq_eq_true hb
        obtain ⟨hlen, h⟩ := gN_ok h
        obtain ⟨o3, h3, h⟩ := gQ_ok h
        exact ⟨[none, none, none, some (Value.pointer (some o3)), none, none, none, none, none, none, none, none, none, none, none, none, none, none, none, none, none, none, none, none, none, none, none, none, none, none, none, none, none, none], hlen, ⟨h3, trivial⟩, h⟩
      · exact (show False from h).elim
    | ret =>
      exact (show False from h).elim
  · intro f w K h
    have e : lid mix_New.b0 = 3 := by kernel_rfl
    rw [e] at h
    exact h
theorem mix_New.eq (a0 : Int) (w : World) (K : Value → World → Prop) : afn mix_New.C mix_New.L mix_New.D tab Try.f47 [(Value.int .i64 a0)] w K = mix_New.f a0 w (fun r0 w => K (Value.pointer r0) w) := by kernel_rfl
theorem mix_New.ok : FSound Try.prog 47 mix_New.h := by
  intro args w K h
  unfold mix_New.h mix_New.H at h
  split at h
  ·
    replace h := vI_ok h
    obtain ⟨a0, rfl, h⟩ := h
    refine ⟨by kernel_rfl, fn_ok tab_ok mix_New.C_ok (L := mix_New.L) (D := mix_New.D) Try.func47 mix_New.hb (by kernel_rfl) (by rw [mix_New.c_loops]; exact lcons mix_New.lok3 (lnil)) (Nat.le_of_ble_eq_true (by kernel_rfl)) ?_⟩
    rw [mix_New.eq]
    exact h
  · exact h.elim
/-! ### valise/model.New: function 24 -/
def model_New.f (a0 : Int) (w : World) (K : Option Addr → World → Prop) : Prop :=
  newC 77 [(Value.pointer none), (Value.pointer none), (Value.pointer none), (Value.pointer none), (Value.pointer none), (Value.int .i64 (mx 0 (mn a0 2))), (Value.int .i64 1), (Value.int .i64 0), (Value.int .i64 0)] w fun a8_3 w =>
  guess_New.f 256 w fun r10_5 w =>
  stC a8_3 (Value.pointer r10_5) w fun w =>
  let J_18 := fun  (w : World) =>
    ((ldI .i64 (a8_3.add 5) w fun x35_14 =>
    bif (decide (x35_14 > 1)) then
      guess_New.f 65536 w fun r38_15 w =>
      stC (a8_3.add 2) (Value.pointer r38_15) w fun w =>
      K (some a8_3) w
    else
      K (some a8_3) w) : Prop)
  ldI .i64 (a8_3.add 5) w fun x17_8 =>
  bif (decide (x17_8 > 0)) then
    guess_New.f 65536 w fun r22_9 w =>
    mix_New.f 256 w fun r23_10 w =>
    stage_New.f 256 w fun r24_11 w =>
    stC (a8_3.add 1) (Value.pointer r22_9) w fun w =>
    stC (a8_3.add 3) (Value.pointer r23_10) w fun w =>
    stC (a8_3.add 4) (Value.pointer r24_11) w fun w =>
    J_18 w
  else
    J_18 w
def model_New.H (F : type_of% @model_New.f) : Hf := fun args w K => match args with
  | [v0] => vI .i64 v0 fun a0 => F a0 w (fun r0 w => K (Value.pointer r0) w)
  | _ => False
def model_New.h : Hf := model_New.H @model_New.f
def model_New.CG (F46 : type_of% @guess_New.f) (F47 : type_of% @mix_New.f) (F15 : type_of% @stage_New.f) : Hd := hcons 15 (stage_New.H F15) (hcons 47 (mix_New.H F47) (hcons 46 (guess_New.H F46) (hnil)))
def model_New.C : Hd := model_New.CG @guess_New.f @mix_New.f @stage_New.f
def model_New.G (F46 : type_of% @guess_New.f) (F47 : type_of% @mix_New.f) (F15 : type_of% @stage_New.f) (a0 : Int) (w : World) (K : Option Addr → World → Prop) : Prop :=
  newC 77 [(Value.pointer none), (Value.pointer none), (Value.pointer none), (Value.pointer none), (Value.pointer none), (Value.int .i64 (mx 0 (mn a0 2))), (Value.int .i64 1), (Value.int .i64 0), (Value.int .i64 0)] w fun a8_3 w =>
  F46 256 w fun r10_5 w =>
  stC a8_3 (Value.pointer r10_5) w fun w =>
  let J_18 := fun  (w : World) =>
    ((ldI .i64 (a8_3.add 5) w fun x35_14 =>
    bif (decide (x35_14 > 1)) then
      F46 65536 w fun r38_15 w =>
      stC (a8_3.add 2) (Value.pointer r38_15) w fun w =>
      K (some a8_3) w
    else
      K (some a8_3) w) : Prop)
  ldI .i64 (a8_3.add 5) w fun x17_8 =>
  bif (decide (x17_8 > 0)) then
    F46 65536 w fun r22_9 w =>
    F47 256 w fun r23_10 w =>
    F15 256 w fun r24_11 w =>
    stC (a8_3.add 1) (Value.pointer r22_9) w fun w =>
    stC (a8_3.add 3) (Value.pointer r23_10) w fun w =>
    stC (a8_3.add 4) (Value.pointer r24_11) w fun w =>
    J_18 w
  else
    J_18 w
theorem model_New.C_ok : CSound Try.prog model_New.C := hcons_ok stage_New.ok (hcons_ok mix_New.ok (hcons_ok guess_New.ok (hnil_ok)))
def model_New.D : Nat → Plan := fun i => .done
noncomputable def model_New.c : Code := Try.f24.body.getD .skip
theorem model_New.hb : Try.f24.body = some model_New.c := by kernel_rfl
theorem model_New.c_loops : loopsOf model_New.c = [] := by kernel_rfl
def model_New.L : LHd := fun l f w K => False
theorem model_New.eqG (F46 : type_of% @guess_New.f) (F47 : type_of% @mix_New.f) (F15 : type_of% @stage_New.f) (a0 : Int) (w : World) (K : Value → World → Prop) : afn (model_New.CG F46 F47 F15) model_New.L model_New.D tab Try.f24 [(Value.int .i64 a0)] w K = model_New.G F46 F47 F15 a0 w (fun r0 w => K (Value.pointer r0) w) := by kernel_rfl
theorem model_New.eq (a0 : Int) (w : World) (K : Value → World → Prop) : afn model_New.C model_New.L model_New.D tab Try.f24 [(Value.int .i64 a0)] w K = model_New.f a0 w (fun r0 w => K (Value.pointer r0) w) := model_New.eqG @guess_New.f @mix_New.f @stage_New.f a0 w K
theorem model_New.ok : FSound Try.prog 24 model_New.h := by
  intro args w K h
  unfold model_New.h model_New.H at h
  split at h
  ·
    replace h := vI_ok h
    obtain ⟨a0, rfl, h⟩ := h
    refine ⟨by kernel_rfl, fn_ok tab_ok model_New.C_ok (L := model_New.L) (D := model_New.D) Try.func24 model_New.hb (by kernel_rfl) (by rw [model_New.c_loops]; exact lnil) (Nat.le_of_ble_eq_true (by kernel_rfl)) ?_⟩
    rw [model_New.eq]
    exact h
  · exact h.elim
/-! ### valise/valiseref05.New: function 48 -/
def ref05_New.l3 : Nat → Int → Addr → Int → World → (Addr → World → Prop) → Prop
  | 0, _, _, _, _, _ => False
  | N + 1, y0, y3, y4, w, K0 =>
    bif (decide (y4 < (mx 1 (mn y0 65536)))) then
      ldL y3 w fun x18_9 x18_9n x18_9c =>
      newC 120 [(Value.int .u16 32768)] w fun a19_10 w =>
      appL 120 1 2 [(Value.int .u16 0)] x18_9 x18_9n x18_9c (some a19_10) 1 1 w fun a20_11 a20_11n a20_11c w =>
      stC y3 (Value.slice a20_11 a20_11n a20_11c) w fun w =>
      let v4_12 := (IntKind.wrap .i64 (y4 + 1))
      ref05_New.l3 N y0 y3 v4_12 w K0
    else
      K0 y3 w

def ref05_New.f (a0 : Int) (w : World) (K : Option Addr → World → Prop) : Prop :=
  newC 119 [(Value.slice none 0 0)] w fun a6_3 w =>
  ∃ N_13 : Nat, ref05_New.l3 N_13 a0 a6_3 0 w
  (fun o3_14 w =>
    K (some o3_14) w)
def ref05_New.H (F : type_of% @ref05_New.f) : Hf := fun args w K => match args with
  | [v0] => vI .i64 v0 fun a0 => F a0 w (fun r0 w => K (Value.pointer r0) w)
  | _ => False
def ref05_New.h : Hf := ref05_New.H @ref05_New.f
def ref05_New.C : Hd := hnil
theorem ref05_New.C_ok : CSound Try.prog ref05_New.C := hnil_ok
def ref05_New.D : Nat → Plan := fun i => .done
noncomputable def ref05_New.c : Code := Try.f48.body.getD .skip
theorem ref05_New.hb : Try.f48.body = some ref05_New.c := by kernel_rfl
noncomputable def ref05_New.b0 : Code := (loopsOf ref05_New.c).getD 0 .skip
theorem ref05_New.b0_loops : loopsOf ref05_New.b0 = [] := by kernel_rfl
theorem ref05_New.c_loops : loopsOf ref05_New.c = [ref05_New.b0] := by kernel_rfl
def ref05_New.hn3 (N : Nat) (f : Fr) (w : World) (K : AExit → Fr → World → Prop) : Prop :=
  gN f 24 <| gI .i64 f 0 fun y0 => gQ f 3 fun y3 => gI .i64 f 4 fun y4 => ref05_New.l3 N y0 y3 y4 w (fun o3 w => K (.exit 0) [none, none, none, some (Value.pointer (some o3)), none, none, none, none, none, none, none, none, none, none, none, none, none, none, none, none, none, none, none, none] w)
def ref05_New.hx3 : AExit → Fr → World → (AExit → Fr → World → Prop) → Prop := fun e f w K => match e with
  | .normal => False
  | .exit i => (match Nat.beq i 0 with | true => gN f 24 <| gQ f 3 fun o3 => K (.exit 0) [none, none, none, some (Value.pointer (some o3)), none, none, none, none, none, none, none, none, none, none, none, none, none, none, none, none, none, none, none, none] w | false => False)
  | .ret => False
def ref05_New.L : LHd := fun l f w K => (match Nat.beq l 3 with | true => ∃ N, ref05_New.hn3 N f w K | false => False)
theorem ref05_New.le3 (N : Nat) (y0 : Int) (y3 : Addr) (y4 : Int) (w : World) (K : AExit → Fr → World → Prop) : awp ref05_New.C ref05_New.L ref05_New.D tab ref05_New.b0 (lpost ref05_New.hn3 ref05_New.hx3 N K) [some (Value.int .i64 y0), none, none, some (Value.pointer (some y3)), some (Value.int .i64 y4), none, none, none, none, none, none, none, none, none, none, none, none, none, none, none, none, none, none, none] w = ref05_New.l3 (N + 1) y0 y3 y4 w (fun o3 w => K (.exit 0) [none, none, none, some (Value.pointer (some o3)), none, none, none, none, none, none, none, none, none, none, none, none, none, none, none, none, none, none, none, none] w) := by kernel_rfl
theorem ref05_New.lok3 : LoopOk Try.prog ref05_New.L ref05_New.b0 := by
  refine loop_ok tab_ok ref05_New.C_ok (D := ref05_New.D) (ref05_New.hn3) (ref05_New.hx3) (by kernel_rfl) (by rw [ref05_New.b0_loops]; exact lnil) ?_ ?_ ?_ ?_
  · intro f w K h
    unfold ref05_New.hn3 at h
    obtain ⟨hlen, h⟩ := gN_ok h
    obtain ⟨y0, h0, h⟩ := gI_ok h
    obtain ⟨y3, h3, h⟩ := gQ_ok h
    obtain ⟨y4, h4, h⟩ := gI_ok h
    exact h
  · intro N f w K h
    unfold ref05_New.hn3 at h
    obtain ⟨hlen, h⟩ := gN_ok h
    obtain ⟨y0, h0, h⟩ := gI_ok h
    obtain ⟨y3, h3, h⟩ := gQ_ok h
    obtain ⟨y4, h4, h⟩ := gI_ok h
    refine ⟨[some (Value.int .i64 y0), none, none, some (Value.pointer (some y3)), some (Value.int .i64 y4), none, none, none, none, none, none, none, none, none, none, none, none, none, none, none, none, none, none, none], hlen, ⟨h0, h3, h4, trivial⟩, ?_⟩
    rw [ref05_New.le3]
    exact h
  · intro e f w K h
    cases e with
    | normal => exact h.elim
    | exit i =>
      unfold ref05_New.hx3 at h
      simp only at h
      split at h
      · rename_i hb
        obtain rfl := Nat.eq_of_beq_eq_true hb
        obtain ⟨hlen, h⟩ := gN_ok h
        obtain ⟨o3, h3, h⟩ := gQ_ok h
        exact ⟨[none, none, none, some (Value.pointer (some o3)), none, none, none, none, none, none, none, none, none, none, none, none, none, none, none, none, none, none, none, none], hlen, ⟨h3, trivial⟩, h⟩
      · exact (show False from h).elim
    | ret =>
      exact (show False from h).elim
  · intro f w K h
    have e : lid ref05_New.b0 = 3 := by kernel_rfl
    rw [e] at h
    exact h
theorem ref05_New.eq (a0 : Int) (w : World) (K : Value → World → Prop) : afn ref05_New.C ref05_New.L ref05_New.D tab Try.f48 [(Value.int .i64 a0)] w K = ref05_New.f a0 w (fun r0 w => K (Value.pointer r0) w) := by kernel_rfl
theorem ref05_New.ok : FSound Try.prog 48 ref05_New.h := by
  intro args w K h
  unfold ref05_New.h ref05_New.H at h
  split at h
  ·
    replace h := vI_ok h
    obtain ⟨a0, rfl, h⟩ := h
    refine ⟨by kernel_rfl, fn_ok tab_ok ref05_New.C_ok (L := ref05_New.L) (D := ref05_New.D) Try.func48 ref05_New.hb (by kernel_rfl) (by rw [ref05_New.c_loops]; exact lcons ref05_New.lok3 (lnil)) (Nat.le_of_ble_eq_true (by kernel_rfl)) ?_⟩
    rw [ref05_New.eq]
    exact h
  · exact h.elim
/-! ### valise/valiseref06.New: function 49 -/
def ref06_New.l7 : Nat → Int → Addr → Int → Option Addr → Nat → Nat → Int → World → (Int → Addr → Int → Option Addr → Nat → Nat → World → Prop) → Prop
  | 0, _, _, _, _, _, _, _, _, _ => False
  | N + 1, y0, y3, y4, y5, y5n, y5c, y6, w, K2 =>
    bif (decide (y6 < 4)) then
      newC 3 [(Value.int .i64 16384)] w fun a21_15 w =>
      appL 3 1 8 [(Value.int .i64 0)] y5 y5n y5c (some a21_15) 1 1 w fun a22_16 a22_16n a22_16c w =>
      let v6_17 := (IntKind.wrap .i64 (y6 + 1))
      ref06_New.l7 N y0 y3 y4 a22_16 a22_16n a22_16c v6_17 w K2
    else
      K2 y0 y3 y4 y5 y5n y5c w

def ref06_New.l3 : Nat → Int → Addr → Int → World → (Addr → World → Prop) → Prop
  | 0, _, _, _, _, _ => False
  | N + 1, y0, y3, y4, w, K0 =>
    bif (decide (y4 < (mx 1 (mn y0 4096)))) then
      ∃ N_18 : Nat, ref06_New.l7 N_18 y0 y3 y4 none 0 0 0 w
      (fun o0_19 o3_20 o4_21 o5_22 o5_22n o5_22c w =>
        ldL o3_20 w fun x27_23 x27_23n x27_23c =>
        newC 37 [(Value.slice o5_22 o5_22n o5_22c)] w fun a29_24 w =>
        appL 37 1 24 [(Value.slice none 0 0)] x27_23 x27_23n x27_23c (some a29_24) 1 1 w fun a30_25 a30_25n a30_25c w =>
        stC o3_20 (Value.slice a30_25 a30_25n a30_25c) w fun w =>
        let v4_26 := (IntKind.wrap .i64 (o4_21 + 1))
        ref06_New.l3 N o0_19 o3_20 v4_26 w K0)
    else
      K0 y3 w

def ref06_New.f (a0 : Int) (w : World) (K : Option Addr → World → Prop) : Prop :=
  newC 122 [(Value.slice none 0 0), (Value.slice none 0 0), (Value.int .i64 0), (Value.int .i64 0), (Value.bool false)] w fun a8_3 w =>
  ∃ N_27 : Nat, ref06_New.l3 N_27 a0 a8_3 0 w
  (fun o3_28 w =>
    K (some o3_28) w)
def ref06_New.H (F : type_of% @ref06_New.f) : Hf := fun args w K => match args with
  | [v0] => vI .i64 v0 fun a0 => F a0 w (fun r0 w => K (Value.pointer r0) w)
  | _ => False
def ref06_New.h : Hf := ref06_New.H @ref06_New.f
def ref06_New.C : Hd := hnil
theorem ref06_New.C_ok : CSound Try.prog ref06_New.C := hnil_ok
def ref06_New.D : Nat → Plan := fun i => .done
noncomputable def ref06_New.c : Code := Try.f49.body.getD .skip
theorem ref06_New.hb : Try.f49.body = some ref06_New.c := by kernel_rfl
noncomputable def ref06_New.b0 : Code := (loopsOf ref06_New.c).getD 0 .skip
noncomputable def ref06_New.b0_0 : Code := (loopsOf ref06_New.b0).getD 0 .skip
theorem ref06_New.b0_0_loops : loopsOf ref06_New.b0_0 = [] := by kernel_rfl
theorem ref06_New.b0_loops : loopsOf ref06_New.b0 = [ref06_New.b0_0] := by kernel_rfl
theorem ref06_New.c_loops : loopsOf ref06_New.c = [ref06_New.b0] := by kernel_rfl
def ref06_New.hn7 (N : Nat) (f : Fr) (w : World) (K : AExit → Fr → World → Prop) : Prop :=
  gN f 34 <| gI .i64 f 0 fun y0 => gQ f 3 fun y3 => gI .i64 f 4 fun y4 => gL f 5 fun y5 y5n y5c => gI .i64 f 6 fun y6 => ref06_New.l7 N y0 y3 y4 y5 y5n y5c y6 w (fun o0 o3 o4 o5 o5n o5c w => K (.exit 2) [some (Value.int .i64 o0), none, none, some (Value.pointer (some o3)), some (Value.int .i64 o4), some (Value.slice o5 o5n o5c), none, none, none, none, none, none, none, none, none, none, none, none, none, none, none, none, none, none, none, none, none, none, none, none, none, none, none, none] w)
def ref06_New.hx7 : AExit → Fr → World → (AExit → Fr → World → Prop) → Prop := fun e f w K => match e with
  | .normal => False
  | .exit i => (match Nat.beq i 2 with | true => gN f 34 <| gI .i64 f 0 fun o0 => gQ f 3 fun o3 => gI .i64 f 4 fun o4 => gL f 5 fun o5 o5n o5c => K (.exit 2) [some (Value.int .i64 o0), none, none, some (Value.pointer (some o3)), some (Value.int .i64 o4), some (Value.slice o5 o5n o5c), none, none, none, none, none, none, none, none, none, none, none, none, none, none, none, none, none, none, none, none, none, none, none, none, none, none, none, none] w | false => False)
  | .ret => False
def ref06_New.hn3 (N : Nat) (f : Fr) (w : World) (K : AExit → Fr → World → Prop) : Prop :=
  gN f 34 <| gI .i64 f 0 fun y0 => gQ f 3 fun y3 => gI .i64 f 4 fun y4 => ref06_New.l3 N y0 y3 y4 w (fun o3 w => K (.exit 0) [none, none, none, some (Value.pointer (some o3)), none, none, none, none, none, none, none, none, none, none, none, none, none, none, none, none, none, none, none, none, none, none, none, none, none, none, none, none, none, none] w)
def ref06_New.hx3 : AExit → Fr → World → (AExit → Fr → World → Prop) → Prop := fun e f w K => match e with
  | .normal => False
  | .exit i => (match Nat.beq i 0 with | true => gN f 34 <| gQ f 3 fun o3 => K (.exit 0) [none, none, none, some (Value.pointer (some o3)), none, none, none, none, none, none, none, none, none, none, none, none, none, none, none, none, none, none, none, none, none, none, none, none, none, none, none, none, none, none] w | false => False)
  | .ret => False
def ref06_New.L : LHd := fun l f w K => (match Nat.beq l 3 with | true => ∃ N, ref06_New.hn3 N f w K | false => (match Nat.beq l 7 with | true => ∃ N, ref06_New.hn7 N f w K | false => False))
theorem ref06_New.le7 (N : Nat) (y0 : Int) (y3 : Addr) (y4 : Int) (y5 : Option Addr) (y5n : Nat) (y5c : Nat) (y6 : Int) (w : World) (K : AExit → Fr → World → Prop) : awp ref06_New.C ref06_New.L ref06_New.D tab ref06_New.b0_0 (lpost ref06_New.hn7 ref06_New.hx7 N K) [some (Value.int .i64 y0), none, none, some (Value.pointer (some y3)), some (Value.int .i64 y4), some (Value.slice y5 y5n y5c), some (Value.int .i64 y6), none, none, none, none, none, none, none, none, none, none, none, none, none, none, none, none, none, none, none, none, none, none, none, none, none, none, none] w = ref06_New.l7 (N + 1) y0 y3 y4 y5 y5n y5c y6 w (fun o0 o3 o4 o5 o5n o5c w => K (.exit 2) [some (Value.int .i64 o0), none, none, some (Value.pointer (some o3)), some (Value.int .i64 o4), some (Value.slice o5 o5n o5c), none, none, none, none, none, none, none, none, none, none, none, none, none, none, none, none, none, none, none, none, none, none, none, none, none, none, none, none] w) := by kernel_rfl
theorem ref06_New.lok7 : LoopOk Try.prog ref06_New.L ref06_New.b0_0 := by
  refine loop_ok tab_ok ref06_New.C_ok (D := ref06_New.D) (ref06_New.hn7) (ref06_New.hx7) (by kernel_rfl) (by rw [ref06_New.b0_0_loops]; exact lnil) ?_ ?_ ?_ ?_
  · intro f w K h
    unfold ref06_New.hn7 at h
    obtain ⟨hlen, h⟩ := gN_ok h
    obtain ⟨y0, h0, h⟩ := gI_ok h
    obtain ⟨y3, h3, h⟩ := gQ_ok h
    obtain ⟨y4, h4, h⟩ := gI_ok h
    obtain ⟨y5, y5n, y5c, h5, h⟩ := gL_ok h
    obtain ⟨y6, h6, h⟩ := gI_ok h
    exact h
  · intro N f w K h
    unfold ref06_New.hn7 at h
    obtain ⟨hlen, h⟩ := gN_ok h
    obtain ⟨y0, h0, h⟩ := gI_ok h
    obtain ⟨y3, h3, h⟩ := gQ_ok h
    obtain ⟨y4, h4, h⟩ := gI_ok h
    obtain ⟨y5, y5n, y5c, h5, h⟩ := gL_ok h
    obtain ⟨y6, h6, h⟩ := gI_ok h
    refine ⟨[some (Value.int .i64 y0), none, none, some (Value.pointer (some y3)), some (Value.int .i64 y4), some (Value.slice y5 y5n y5c), some (Value.int .i64 y6), none, none, none, none, none, none, none, none, none, none, none, none, none, none, none, none, none, none, none, none, none, none, none, none, none, none, none], hlen, ⟨h0, h3, h4, h5, h6, trivial⟩, ?_⟩
    rw [ref06_New.le7]
    exact h
  · intro e f w K h
    cases e with
    | normal => exact h.elim
    | exit i =>
      unfold ref06_New.hx7 at h
      simp only at h
      split at h
      · rename_i hb
        obtain rfl := Nat.eq_of_beq_eq_true hb
        obtain ⟨hlen, h⟩ := gN_ok h
        obtain ⟨o0, h0, h⟩ := gI_ok h
        obtain ⟨o3, h3, h⟩ := gQ_ok h
        obtain ⟨o4, h4, h⟩ := gI_ok h
        obtain ⟨o5, o5n, o5c, h5, h⟩ := gL_ok h
        exact ⟨[some (Value.int .i64 o0), none, none, some (Value.pointer (some o3)), some (Value.int .i64 o4), some (Value.slice o5 o5n o5c), none, none, none, none, none, none, none, none, none, none, none, none, none, none, none, none, none, none, none, none, none, none, none, none, none, none, none, none], hlen, ⟨h0, h3, h4, h5, trivial⟩, h⟩
      · exact (show False from h).elim
    | ret =>
      exact (show False from h).elim
  · intro f w K h
    have e : lid ref06_New.b0_0 = 7 := by kernel_rfl
    rw [e] at h
    exact h
theorem ref06_New.le3 (N : Nat) (y0 : Int) (y3 : Addr) (y4 : Int) (w : World) (K : AExit → Fr → World → Prop) : awp ref06_New.C ref06_New.L ref06_New.D tab ref06_New.b0 (lpost ref06_New.hn3 ref06_New.hx3 N K) [some (Value.int .i64 y0), none, none, some (Value.pointer (some y3)), some (Value.int .i64 y4), none, none, none, none, none, none, none, none, none, none, none, none, none, none, none, none, none, none, none, none, none, none, none, none, none, none, none, none, none] w = ref06_New.l3 (N + 1) y0 y3 y4 w (fun o3 w => K (.exit 0) [none, none, none, some (Value.pointer (some o3)), none, none, none, none, none, none, none, none, none, none, none, none, none, none, none, none, none, none, none, none, none, none, none, none, none, none, none, none, none, none] w) := by kernel_rfl
theorem ref06_New.lok3 : LoopOk Try.prog ref06_New.L ref06_New.b0 := by
  refine loop_ok tab_ok ref06_New.C_ok (D := ref06_New.D) (ref06_New.hn3) (ref06_New.hx3) (by kernel_rfl) (by rw [ref06_New.b0_loops]; exact lcons ref06_New.lok7 (lnil)) ?_ ?_ ?_ ?_
  · intro f w K h
    unfold ref06_New.hn3 at h
    obtain ⟨hlen, h⟩ := gN_ok h
    obtain ⟨y0, h0, h⟩ := gI_ok h
    obtain ⟨y3, h3, h⟩ := gQ_ok h
    obtain ⟨y4, h4, h⟩ := gI_ok h
    exact h
  · intro N f w K h
    unfold ref06_New.hn3 at h
    obtain ⟨hlen, h⟩ := gN_ok h
    obtain ⟨y0, h0, h⟩ := gI_ok h
    obtain ⟨y3, h3, h⟩ := gQ_ok h
    obtain ⟨y4, h4, h⟩ := gI_ok h
    refine ⟨[some (Value.int .i64 y0), none, none, some (Value.pointer (some y3)), some (Value.int .i64 y4), none, none, none, none, none, none, none, none, none, none, none, none, none, none, none, none, none, none, none, none, none, none, none, none, none, none, none, none, none], hlen, ⟨h0, h3, h4, trivial⟩, ?_⟩
    rw [ref06_New.le3]
    exact h
  · intro e f w K h
    cases e with
    | normal => exact h.elim
    | exit i =>
      unfold ref06_New.hx3 at h
      simp only at h
      split at h
      · rename_i hb
        obtain rfl := Nat.eq_of_beq_eq_true hb
        obtain ⟨hlen, h⟩ := gN_ok h
        obtain ⟨o3, h3, h⟩ := gQ_ok h
        exact ⟨[none, none, none, some (Value.pointer (some o3)), none, none, none, none, none, none, none, none, none, none, none, none, none, none, none, none, none, none, none, none, none, none, none, none, none, none, none, none, none, none], hlen, ⟨h3, trivial⟩, h⟩
      · exact (show False from h).elim
    | ret =>
      exact (show False from h).elim
  · intro f w K h
    have e : lid ref06_New.b0 = 3 := by kernel_rfl
    rw [e] at h
    exact h
theorem ref06_New.eq (a0 : Int) (w : World) (K : Value → World → Prop) : afn ref06_New.C ref06_New.L ref06_New.D tab Try.f49 [(Value.int .i64 a0)] w K = ref06_New.f a0 w (fun r0 w => K (Value.pointer r0) w) := by kernel_rfl
theorem ref06_New.ok : FSound Try.prog 49 ref06_New.h := by
  intro args w K h
  unfold ref06_New.h ref06_New.H at h
  split at h
  ·
    replace h := vI_ok h
    obtain ⟨a0, rfl, h⟩ := h
    refine ⟨by kernel_rfl, fn_ok tab_ok ref06_New.C_ok (L := ref06_New.L) (D := ref06_New.D) Try.func49 ref06_New.hb (by kernel_rfl) (by rw [ref06_New.c_loops]; exact lcons ref06_New.lok3 (lnil)) (Nat.le_of_ble_eq_true (by kernel_rfl)) ?_⟩
    rw [ref06_New.eq]
    exact h
  · exact h.elim
/-! ### valise/valiseref08.New: function 25 -/
def ref08_New.f (a0 : Int) (w : World) (K : Option Addr → World → Prop) : Prop :=
  ref05_New.f 256 w fun r6_3 w =>
  ref05_New.f 65536 w fun r7_4 w =>
  ref05_New.f 65536 w fun r8_5 w =>
  ref06_New.f 256 w fun r9_6 w =>
  ref07_New.f 256 w fun r10_7 w =>
  newC 85 [(Value.int .i64 (mx 0 (mn a0 2))), (Value.pointer r6_3), (Value.pointer r7_4), (Value.pointer r8_5), (Value.pointer r9_6), (Value.pointer r10_7), (Value.int .i64 1), (Value.int .i64 0), (Value.int .i64 0)] w fun a12_8 w =>
  K (some a12_8) w
def ref08_New.H (F : type_of% @ref08_New.f) : Hf := fun args w K => match args with
  | [v0] => vI .i64 v0 fun a0 => F a0 w (fun r0 w => K (Value.pointer r0) w)
  | _ => False
def ref08_New.h : Hf := ref08_New.H @ref08_New.f
def ref08_New.CG (F48 : type_of% @ref05_New.f) (F49 : type_of% @ref06_New.f) (F18 : type_of% @ref07_New.f) : Hd := hcons 18 (ref07_New.H F18) (hcons 49 (ref06_New.H F49) (hcons 48 (ref05_New.H F48) (hnil)))
def ref08_New.C : Hd := ref08_New.CG @ref05_New.f @ref06_New.f @ref07_New.f
def ref08_New.G (F48 : type_of% @ref05_New.f) (F49 : type_of% @ref06_New.f) (F18 : type_of% @ref07_New.f) (a0 : Int) (w : World) (K : Option Addr → World → Prop) : Prop :=
  F48 256 w fun r6_3 w =>
  F48 65536 w fun r7_4 w =>
  F48 65536 w fun r8_5 w =>
  F49 256 w fun r9_6 w =>
  F18 256 w fun r10_7 w =>
  newC 85 [(Value.int .i64 (mx 0 (mn a0 2))), (Value.pointer r6_3), (Value.pointer r7_4), (Value.pointer r8_5), (Value.pointer r9_6), (Value.pointer r10_7), (Value.int .i64 1), (Value.int .i64 0), (Value.int .i64 0)] w fun a12_8 w =>
  K (some a12_8) w
theorem ref08_New.C_ok : CSound Try.prog ref08_New.C := hcons_ok ref07_New.ok (hcons_ok ref06_New.ok (hcons_ok ref05_New.ok (hnil_ok)))
def ref08_New.D : Nat → Plan := fun i => .done
noncomputable def ref08_New.c : Code := Try.f25.body.getD .skip
theorem ref08_New.hb : Try.f25.body = some ref08_New.c := by kernel_rfl
theorem ref08_New.c_loops : loopsOf ref08_New.c = [] := by kernel_rfl
def ref08_New.L : LHd := fun l f w K => False
theorem ref08_New.eqG (F48 : type_of% @ref05_New.f) (F49 : type_of% @ref06_New.f) (F18 : type_of% @ref07_New.f) (a0 : Int) (w : World) (K : Value → World → Prop) : afn (ref08_New.CG F48 F49 F18) ref08_New.L ref08_New.D tab Try.f25 [(Value.int .i64 a0)] w K = ref08_New.G F48 F49 F18 a0 w (fun r0 w => K (Value.pointer r0) w) := by kernel_rfl
theorem ref08_New.eq (a0 : Int) (w : World) (K : Value → World → Prop) : afn ref08_New.C ref08_New.L ref08_New.D tab Try.f25 [(Value.int .i64 a0)] w K = ref08_New.f a0 w (fun r0 w => K (Value.pointer r0) w) := ref08_New.eqG @ref05_New.f @ref06_New.f @ref07_New.f a0 w K
theorem ref08_New.ok : FSound Try.prog 25 ref08_New.h := by
  intro args w K h
  unfold ref08_New.h ref08_New.H at h
  split at h
  ·
    replace h := vI_ok h
    obtain ⟨a0, rfl, h⟩ := h
    refine ⟨by kernel_rfl, fn_ok tab_ok ref08_New.C_ok (L := ref08_New.L) (D := ref08_New.D) Try.func25 ref08_New.hb (by kernel_rfl) (by rw [ref08_New.c_loops]; exact lnil) (Nat.le_of_ble_eq_true (by kernel_rfl)) ?_⟩
    rw [ref08_New.eq]
    exact h
  · exact h.elim
/-! ### (*valise/model.Model).contexts: function 50 -/
def model_Model_contexts.f (a0 : Option Addr) (w : World) (K : Int → Int → Int → World → Prop) : Prop :=
  sm a0 fun p_3 =>
  ldI .i64 (p_3.add 6) w.drew fun x8_4 =>
  sm a0 fun p_5 =>
  ldI .i64 (p_5.add 7) w.drew fun x12_6 =>
  sm a0 fun p_7 =>
  ldI .i64 (p_7.add 6) w.drew fun x17_8 =>
  sm a0 fun p_9 =>
  ldI .i64 (p_9.add 8) w.drew fun x22_10 =>
  sm a0 fun p_11 =>
  ldI .i64 (p_11.add 7) w.drew fun x27_12 =>
  sm a0 fun p_13 =>
  ldI .i64 (p_13.add 6) w.drew fun x33_14 =>
  let v3_15 := (IntKind.wrap .i64 ((shl .i64 x12_6 8) + x17_8))
  let v4_16 := (band .i64 (IntKind.wrap .i64 ((IntKind.wrap .i64 ((IntKind.wrap .i64 ((shl .i64 x22_10 8) + x27_12)) * 40503)) + (IntKind.wrap .i64 (x33_14 * 7919)))) 65535)
  K x8_4 v3_15 v4_16 w.drew
def model_Model_contexts.H (F : type_of% @model_Model_contexts.f) : Hf := fun args w K => match args with
  | [v0] => vP v0 fun a0 => F a0 w (fun r0 r1 r2 w => K (Value.tuple #[(Value.int .i64 r0), (Value.int .i64 r1), (Value.int .i64 r2)]) w)
  | _ => False
def model_Model_contexts.h : Hf := model_Model_contexts.H @model_Model_contexts.f
def model_Model_contexts.C : Hd := hnil
theorem model_Model_contexts.C_ok : CSound Try.prog model_Model_contexts.C := hnil_ok
def model_Model_contexts.D : Nat → Plan := fun i => (match Nat.beq i 1 with | true => .take 0 (.take 1 (.take 2 (.take 3 (.take 4 (.take 5 (.take 6 (.take 7 (.take 8 (.take 9 (.take 10 (.take 11 (.take 12 (.take 13 (.take 14 (.take 15 (.take 16 (.take 17 (.take 18 (.take 19 (.take 20 (.take 21 (.take 22 (.take 23 (.take 24 (.take 25 (.take 26 (.take 27 (.take 28 (.take 29 (.take 30 (.take 31 (.take 32 (.take 33 (.take 34 (.done))))))))))))))))))))))))))))))))))) | false => .done)
noncomputable def model_Model_contexts.c : Code := Try.f50.body.getD .skip
theorem model_Model_contexts.hb : Try.f50.body = some model_Model_contexts.c := by kernel_rfl
theorem model_Model_contexts.c_loops : loopsOf model_Model_contexts.c = [] := by kernel_rfl
def model_Model_contexts.L : LHd := fun l f w K => False
theorem model_Model_contexts.eq (a0 : Option Addr) (w : World) (K : Value → World → Prop) : afn model_Model_contexts.C model_Model_contexts.L model_Model_contexts.D tab Try.f50 [(Value.pointer a0)] w K = model_Model_contexts.f a0 w (fun r0 r1 r2 w => K (Value.tuple #[(Value.int .i64 r0), (Value.int .i64 r1), (Value.int .i64 r2)]) w) := by kernel_rfl
theorem model_Model_contexts.ok : FSound Try.prog 50 model_Model_contexts.h := by
  intro args w K h
  unfold model_Model_contexts.h model_Model_contexts.H at h
  split at h
  ·
    replace h := vP_ok h
    obtain ⟨a0, rfl, h⟩ := h
    refine ⟨by kernel_rfl, fn_ok tab_ok model_Model_contexts.C_ok (L := model_Model_contexts.L) (D := model_Model_contexts.D) Try.func50 model_Model_contexts.hb (by kernel_rfl) (by rw [model_Model_contexts.c_loops]; exact lnil) (Nat.le_of_ble_eq_true (by kernel_rfl)) ?_⟩
    rw [model_Model_contexts.eq]
    exact h
  · exact h.elim
/-! ### (*valise/guess.Table).Len: function 74 -/
def guess_Table_Len.f (a0 : Option Addr) (w : World) (K : Int → World → Prop) : Prop :=
  bif a0.isNone then
    K 0 w
  else
    sm a0 fun p_6 =>
    ldL p_6 w fun x9_7 x9_7n x9_7c =>
    let v2_8 := ((x9_7n : Nat) : Int)
    K v2_8 w
def guess_Table_Len.H (F : type_of% @guess_Table_Len.f) : Hf := fun args w K => match args with
  | [v0] => vP v0 fun a0 => F a0 w (fun r0 w => K (Value.int .i64 r0) w)
  | _ => False
def guess_Table_Len.h : Hf := guess_Table_Len.H @guess_Table_Len.f
def guess_Table_Len.C : Hd := hnil
theorem guess_Table_Len.C_ok : CSound Try.prog guess_Table_Len.C := hnil_ok
def guess_Table_Len.D : Nat → Plan := fun i => .done
noncomputable def guess_Table_Len.c : Code := Try.f74.body.getD .skip
theorem guess_Table_Len.hb : Try.f74.body = some guess_Table_Len.c := by kernel_rfl
theorem guess_Table_Len.c_loops : loopsOf guess_Table_Len.c = [] := by kernel_rfl
def guess_Table_Len.L : LHd := fun l f w K => False
theorem guess_Table_Len.eq (a0 : Option Addr) (w : World) (K : Value → World → Prop) : afn guess_Table_Len.C guess_Table_Len.L guess_Table_Len.D tab Try.f74 [(Value.pointer a0)] w K = guess_Table_Len.f a0 w (fun r0 w => K (Value.int .i64 r0) w) := by kernel_rfl
theorem guess_Table_Len.ok : FSound Try.prog 74 guess_Table_Len.h := by
  intro args w K h
  unfold guess_Table_Len.h guess_Table_Len.H at h
  split at h
  ·
    replace h := vP_ok h
    obtain ⟨a0, rfl, h⟩ := h
    refine ⟨by kernel_rfl, fn_ok tab_ok guess_Table_Len.C_ok (L := guess_Table_Len.L) (D := guess_Table_Len.D) Try.func74 guess_Table_Len.hb (by kernel_rfl) (by rw [guess_Table_Len.c_loops]; exact lnil) (Nat.le_of_ble_eq_true (by kernel_rfl)) ?_⟩
    rw [guess_Table_Len.eq]
    exact h
  · exact h.elim
/-! ### (*valise/guess.cells).place: function 76 -/
def guess_cells_place.f (a0 : Option Addr) (a1 : Int) (w : World) (K : Int → World → Prop) : Prop :=
  sm a0 fun p_3 =>
  ldL p_3 w fun x9_4 x9_4n x9_4c =>
  let v5_5 := ((x9_4n : Nat) : Int)
  if v5_5 = 0 then False else
  if v5_5 = 0 then False else
  let v4_7 := (Int.tmod (IntKind.wrap .i64 ((Int.tmod a1 v5_5) + v5_5)) v5_5)
  K v4_7 w
def guess_cells_place.H (F : type_of% @guess_cells_place.f) : Hf := fun args w K => match args with
  | [v0, v1] => vP v0 fun a0 => vI .i64 v1 fun a1 => F a0 a1 w (fun r0 w => K (Value.int .i64 r0) w)
  | _ => False
def guess_cells_place.h : Hf := guess_cells_place.H @guess_cells_place.f
def guess_cells_place.C : Hd := hnil
theorem guess_cells_place.C_ok : CSound Try.prog guess_cells_place.C := hnil_ok
def guess_cells_place.D : Nat → Plan := fun i => .done
noncomputable def guess_cells_place.c : Code := Try.f76.body.getD .skip
theorem guess_cells_place.hb : Try.f76.body = some guess_cells_place.c := by kernel_rfl
theorem guess_cells_place.c_loops : loopsOf guess_cells_place.c = [] := by kernel_rfl
def guess_cells_place.L : LHd := fun l f w K => False
theorem guess_cells_place.eq (a0 : Option Addr) (a1 : Int) (w : World) (K : Value → World → Prop) : afn guess_cells_place.C guess_cells_place.L guess_cells_place.D tab Try.f76 [(Value.pointer a0), (Value.int .i64 a1)] w K = guess_cells_place.f a0 a1 w (fun r0 w => K (Value.int .i64 r0) w) := by kernel_rfl
theorem guess_cells_place.ok : FSound Try.prog 76 guess_cells_place.h := by
  intro args w K h
  unfold guess_cells_place.h guess_cells_place.H at h
  split at h
  ·
    replace h := vP_ok h
    obtain ⟨a0, rfl, h⟩ := h
    replace h := vI_ok h
    obtain ⟨a1, rfl, h⟩ := h
    refine ⟨by kernel_rfl, fn_ok tab_ok guess_cells_place.C_ok (L := guess_cells_place.L) (D := guess_cells_place.D) Try.func76 guess_cells_place.hb (by kernel_rfl) (by rw [guess_cells_place.c_loops]; exact lnil) (Nat.le_of_ble_eq_true (by kernel_rfl)) ?_⟩
    rw [guess_cells_place.eq]
    exact h
  · exact h.elim
/-! ### valise/guess.Chance: function 75 -/
def guess_Chance.f (a0 : Int) (w : World) (K : Int → World → Prop) : Prop :=
  let v2_3 := (mx 1 (IntKind.wrap .i64 (shr .u16 a0 4)))
  K v2_3 w
def guess_Chance.H (F : type_of% @guess_Chance.f) : Hf := fun args w K => match args with
  | [v0] => vI .u16 v0 fun a0 => F a0 w (fun r0 w => K (Value.int .i64 r0) w)
  | _ => False
def guess_Chance.h : Hf := guess_Chance.H @guess_Chance.f
def guess_Chance.C : Hd := hnil
theorem guess_Chance.C_ok : CSound Try.prog guess_Chance.C := hnil_ok
def guess_Chance.D : Nat → Plan := fun i => .done
noncomputable def guess_Chance.c : Code := Try.f75.body.getD .skip
theorem guess_Chance.hb : Try.f75.body = some guess_Chance.c := by kernel_rfl
theorem guess_Chance.c_loops : loopsOf guess_Chance.c = [] := by kernel_rfl
def guess_Chance.L : LHd := fun l f w K => False
theorem guess_Chance.eq (a0 : Int) (w : World) (K : Value → World → Prop) : afn guess_Chance.C guess_Chance.L guess_Chance.D tab Try.f75 [(Value.int .u16 a0)] w K = guess_Chance.f a0 w (fun r0 w => K (Value.int .i64 r0) w) := by kernel_rfl
theorem guess_Chance.ok : FSound Try.prog 75 guess_Chance.h := by
  intro args w K h
  unfold guess_Chance.h guess_Chance.H at h
  split at h
  ·
    replace h := vI_ok h
    obtain ⟨a0, rfl, h⟩ := h
    refine ⟨by kernel_rfl, fn_ok tab_ok guess_Chance.C_ok (L := guess_Chance.L) (D := guess_Chance.D) Try.func75 guess_Chance.hb (by kernel_rfl) (by rw [guess_Chance.c_loops]; exact lnil) (Nat.le_of_ble_eq_true (by kernel_rfl)) ?_⟩
    rw [guess_Chance.eq]
    exact h
  · exact h.elim
/-! ### (*valise/guess.Table).At: function 51 -/
def guess_Table_At.f (a0 : Option Addr) (a1 : Int) (w : World) (K : Int → World → Prop) : Prop :=
  guess_Table_Len.f a0 w fun r6_4 w =>
  bif (r6_4 == 0) then
    K 0 w
  else
    sm a0 fun p_7 =>
    ldL p_7 w.drew fun x12_8 x12_8n x12_8c =>
    sm a0 fun p_9 =>
    guess_cells_place.f (some p_9) a1 w.drew fun r17_10 w =>
    (World.cell? w p_7 = some (.slice x12_8 x12_8n x12_8c)) ∧
    (sm x12_8 fun p_11 =>
    if 0 ≤ (r17_10 : Int) ∧ (r17_10 : Int) < ((x12_8n : Nat) : Int) then
    ldI .u16 (p_11.add (Int.toNat r17_10)) w fun x19_12 =>
    guess_Chance.f (bxor .u16 x19_12 32768) w fun r21_13 w =>
    (World.cell? w (p_11.add (Int.toNat r17_10)) = some (.int .u16 x19_12)) ∧
    ((World.cell? w p_7 = some (.slice x12_8 x12_8n x12_8c)) ∧
    (K r21_13 w))
    else False)
def guess_Table_At.H (F : type_of% @guess_Table_At.f) : Hf := fun args w K => match args with
  | [v0, v1] => vP v0 fun a0 => vI .i64 v1 fun a1 => F a0 a1 w (fun r0 w => K (Value.int .i64 r0) w)
  | _ => False
def guess_Table_At.h : Hf := guess_Table_At.H @guess_Table_At.f
def guess_Table_At.CG (F74 : type_of% @guess_Table_Len.f) (F76 : type_of% @guess_cells_place.f) (F75 : type_of% @guess_Chance.f) : Hd := hcons 75 (guess_Chance.H F75) (hcons 76 (guess_cells_place.H F76) (hcons 74 (guess_Table_Len.H F74) (hnil)))
def guess_Table_At.C : Hd := guess_Table_At.CG @guess_Table_Len.f @guess_cells_place.f @guess_Chance.f
def guess_Table_At.G (F74 : type_of% @guess_Table_Len.f) (F76 : type_of% @guess_cells_place.f) (F75 : type_of% @guess_Chance.f) (a0 : Option Addr) (a1 : Int) (w : World) (K : Int → World → Prop) : Prop :=
  F74 a0 w fun r6_4 w =>
  bif (r6_4 == 0) then
    K 0 w
  else
    sm a0 fun p_7 =>
    ldL p_7 w.drew fun x12_8 x12_8n x12_8c =>
    sm a0 fun p_9 =>
    F76 (some p_9) a1 w.drew fun r17_10 w =>
    (World.cell? w p_7 = some (.slice x12_8 x12_8n x12_8c)) ∧
    (sm x12_8 fun p_11 =>
    if 0 ≤ (r17_10 : Int) ∧ (r17_10 : Int) < ((x12_8n : Nat) : Int) then
    ldI .u16 (p_11.add (Int.toNat r17_10)) w fun x19_12 =>
    F75 (bxor .u16 x19_12 32768) w fun r21_13 w =>
    (World.cell? w (p_11.add (Int.toNat r17_10)) = some (.int .u16 x19_12)) ∧
    ((World.cell? w p_7 = some (.slice x12_8 x12_8n x12_8c)) ∧
    (K r21_13 w))
    else False)
theorem guess_Table_At.C_ok : CSound Try.prog guess_Table_At.C := hcons_ok guess_Chance.ok (hcons_ok guess_cells_place.ok (hcons_ok guess_Table_Len.ok (hnil_ok)))
def guess_Table_At.D : Nat → Plan := fun i => (match Nat.beq i 3 with | true => .take 0 (.take 1 (.take 2 (.take 3 (.take 4 (.take 5 (.take 6 (.take 7 (.take 8 (.eff 9 (.take 10 (.take 11 (.take 12 (.eff 13 (.take 14 (.done))))))))))))))) | false => .done)
noncomputable def guess_Table_At.c : Code := Try.f51.body.getD .skip
theorem guess_Table_At.hb : Try.f51.body = some guess_Table_At.c := by kernel_rfl
theorem guess_Table_At.c_loops : loopsOf guess_Table_At.c = [] := by kernel_rfl
def guess_Table_At.L : LHd := fun l f w K => False
theorem guess_Table_At.eqG (F74 : type_of% @guess_Table_Len.f) (F76 : type_of% @guess_cells_place.f) (F75 : type_of% @guess_Chance.f) (a0 : Option Addr) (a1 : Int) (w : World) (K : Value → World → Prop) : afn (guess_Table_At.CG F74 F76 F75) guess_Table_At.L guess_Table_At.D tab Try.f51 [(Value.pointer a0), (Value.int .i64 a1)] w K = guess_Table_At.G F74 F76 F75 a0 a1 w (fun r0 w => K (Value.int .i64 r0) w) := by kernel_rfl
theorem guess_Table_At.eq (a0 : Option Addr) (a1 : Int) (w : World) (K : Value → World → Prop) : afn guess_Table_At.C guess_Table_At.L guess_Table_At.D tab Try.f51 [(Value.pointer a0), (Value.int .i64 a1)] w K = guess_Table_At.f a0 a1 w (fun r0 w => K (Value.int .i64 r0) w) := guess_Table_At.eqG @guess_Table_Len.f @guess_cells_place.f @guess_Chance.f a0 a1 w K
theorem guess_Table_At.ok : FSound Try.prog 51 guess_Table_At.h := by
  intro args w K h
  unfold guess_Table_At.h guess_Table_At.H at h
  split at h
  ·
    replace h := vP_ok h
    obtain ⟨a0, rfl, h⟩ := h
    replace h := vI_ok h
    obtain ⟨a1, rfl, h⟩ := h
    refine ⟨by kernel_rfl, fn_ok tab_ok guess_Table_At.C_ok (L := guess_Table_At.L) (D := guess_Table_At.D) Try.func51 guess_Table_At.hb (by kernel_rfl) (by rw [guess_Table_At.c_loops]; exact lnil) (Nat.le_of_ble_eq_true (by kernel_rfl)) ?_⟩
    rw [guess_Table_At.eq]
    exact h
  · exact h.elim

end Go.Proofs.Ytdbnobeopgfhgaa.G
