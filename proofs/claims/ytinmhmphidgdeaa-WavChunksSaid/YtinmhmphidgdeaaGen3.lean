/- Go functions as predicate transformers, written by a program of this session (gen.py), with their soundness. -/
import Derived.Test.YtinmhmphidgdeaaGen2
set_option linter.unusedVariables false
set_option linter.unusedSimpArgs false
set_option maxRecDepth 100000
namespace Go.Proofs.Ytinmhmphidgdeaa.G
open Go Go.Proofs.Ytinmhmphidgdeaa.Vm
/-! ### (*valise/valiseref04.Encoder).Encode: function 27 -/
def ref04_Encoder_Encode.l1 : Nat → Option Addr → World → (World → Prop) → Prop
  | 0, _, _, _ => False
  | N + 1, y0, w, K0 =>
    sm y0 fun p_9 =>
    ldI .u32 (p_9.add 0) w fun x19_10 =>
    ldI .u32 (p_9.add 1) w fun x19_11 =>
    ref04_Range_out.f x19_10 x19_11 w fun r20_12 w =>
    bif r20_12 then
      sm y0 fun p_14 =>
      ldL (p_14.add 2) w.drew fun x25_15 x25_15n x25_15c =>
      sm y0 fun p_16 =>
      ldI .u32 (p_16.add 1) w.drew fun x30_17 =>
      newC 5 [(Value.int .u8 (IntKind.wrap .u8 (shr .u32 x30_17 24)))] w.drew fun a33_18 w =>
      (World.cell? w (p_16.add 1) = some (.int .u32 x30_17)) ∧
      ((World.cell? w (p_14.add 2) = some (.slice x25_15 x25_15n x25_15c)) ∧
      (appL 5 1 1 [(Value.int .u8 0)] x25_15 x25_15n x25_15c (some a33_18) 1 1 w fun a34_19 a34_19n a34_19c w =>
      (World.cell? w (p_16.add 1) = some (.int .u32 x30_17)) ∧
      (sm y0 fun p_20 =>
      stC (p_20.add 2) (Value.slice a34_19 a34_19n a34_19c) w fun w =>
      sm y0 fun p_21 =>
      ldI .u32 (p_21.add 0) w fun x41_22 =>
      ldI .u32 (p_21.add 1) w fun x41_23 =>
      ref04_Range_next.f x41_22 x41_23 w fun r42_24_0 r42_24_1 w =>
      sm y0 fun p_25 =>
      stCs p_25 [(Value.int .u32 r42_24_0), (Value.int .u32 r42_24_1)] 0 w fun w =>
      ref04_Encoder_Encode.l1 N y0 w K0)))
    else
      K0 w

def ref04_Encoder_Encode.f (a0 : Option Addr) (a1 : Int) (a2 : Int) (w : World) (K : World → Prop) : Prop :=
  sm a0 fun p_2 =>
  ldI .u32 (p_2.add 0) w fun x10_3 =>
  ldI .u32 (p_2.add 1) w fun x10_4 =>
  ref04_Range_cut.f x10_3 x10_4 a1 a2 w fun r13_5_0 r13_5_1 w =>
  sm a0 fun p_6 =>
  stCs p_6 [(Value.int .u32 r13_5_0), (Value.int .u32 r13_5_1)] 0 w fun w =>
  ∃ N_26 : Nat, ref04_Encoder_Encode.l1 N_26 a0 w
  (fun w =>
    K w)
def ref04_Encoder_Encode.H (F : type_of% @ref04_Encoder_Encode.f) : Hf := fun args w K => match args with
  | [v0, v1, v2] => vP v0 fun a0 => vI .i64 v1 fun a1 => vI .i64 v2 fun a2 => F a0 a1 a2 w (fun w => K (Value.tuple #[]) w)
  | _ => False
def ref04_Encoder_Encode.h : Hf := ref04_Encoder_Encode.H @ref04_Encoder_Encode.f
def ref04_Encoder_Encode.CG (F54 : type_of% @ref04_Range_cut.f) (F55 : type_of% @ref04_Range_out.f) (F56 : type_of% @ref04_Range_next.f) : Hd := hcons 56 (ref04_Range_next.H F56) (hcons 55 (ref04_Range_out.H F55) (hcons 54 (ref04_Range_cut.H F54) (hnil)))
def ref04_Encoder_Encode.C : Hd := ref04_Encoder_Encode.CG @ref04_Range_cut.f @ref04_Range_out.f @ref04_Range_next.f
def ref04_Encoder_Encode.G (F54 : type_of% @ref04_Range_cut.f) (F55 : type_of% @ref04_Range_out.f) (F56 : type_of% @ref04_Range_next.f) (a0 : Option Addr) (a1 : Int) (a2 : Int) (w : World) (K : World → Prop) : Prop :=
  sm a0 fun p_2 =>
  ldI .u32 (p_2.add 0) w fun x10_3 =>
  ldI .u32 (p_2.add 1) w fun x10_4 =>
  F54 x10_3 x10_4 a1 a2 w fun r13_5_0 r13_5_1 w =>
  sm a0 fun p_6 =>
  stCs p_6 [(Value.int .u32 r13_5_0), (Value.int .u32 r13_5_1)] 0 w fun w =>
  ∃ N_26 : Nat, ref04_Encoder_Encode.l1 N_26 a0 w
  (fun w =>
    K w)
theorem ref04_Encoder_Encode.C_ok : CSound Try.prog ref04_Encoder_Encode.C := hcons_ok ref04_Range_next.ok (hcons_ok ref04_Range_out.ok (hcons_ok ref04_Range_cut.ok (hnil_ok)))
def ref04_Encoder_Encode.D : Nat → Plan := fun i => (match Nat.beq i 2 with | true => .take 0 (.take 1 (.take 2 (.take 3 (.take 4 (.take 5 (.take 6 (.take 7 (.take 8 (.take 9 (.take 10 (.take 11 (.eff 12 (.eff 13 (.take 14 (.take 15 (.eff 16 (.done))))))))))))))))) | false => .done)
noncomputable def ref04_Encoder_Encode.c : Code := Try.f27.body.getD .skip
theorem ref04_Encoder_Encode.hb : Try.f27.body = some ref04_Encoder_Encode.c := by kernel_rfl
noncomputable def ref04_Encoder_Encode.b0 : Code := (loopsOf ref04_Encoder_Encode.c).getD 0 .skip
theorem ref04_Encoder_Encode.b0_loops : loopsOf ref04_Encoder_Encode.b0 = [] := by kernel_rfl
theorem ref04_Encoder_Encode.c_loops : loopsOf ref04_Encoder_Encode.c = [ref04_Encoder_Encode.b0] := by kernel_rfl
def ref04_Encoder_Encode.l1G (F54 : type_of% @ref04_Range_cut.f) (F55 : type_of% @ref04_Range_out.f) (F56 : type_of% @ref04_Range_next.f) (R : Option Addr → World → (World → Prop) → Prop) : Option Addr → World → (World → Prop) → Prop := fun y0 w K0 =>
    sm y0 fun p_9 =>
    ldI .u32 (p_9.add 0) w fun x19_10 =>
    ldI .u32 (p_9.add 1) w fun x19_11 =>
    F55 x19_10 x19_11 w fun r20_12 w =>
    bif r20_12 then
      sm y0 fun p_14 =>
      ldL (p_14.add 2) w.drew fun x25_15 x25_15n x25_15c =>
      sm y0 fun p_16 =>
      ldI .u32 (p_16.add 1) w.drew fun x30_17 =>
      newC 5 [(Value.int .u8 (IntKind.wrap .u8 (shr .u32 x30_17 24)))] w.drew fun a33_18 w =>
      (World.cell? w (p_16.add 1) = some (.int .u32 x30_17)) ∧
      ((World.cell? w (p_14.add 2) = some (.slice x25_15 x25_15n x25_15c)) ∧
      (appL 5 1 1 [(Value.int .u8 0)] x25_15 x25_15n x25_15c (some a33_18) 1 1 w fun a34_19 a34_19n a34_19c w =>
      (World.cell? w (p_16.add 1) = some (.int .u32 x30_17)) ∧
      (sm y0 fun p_20 =>
      stC (p_20.add 2) (Value.slice a34_19 a34_19n a34_19c) w fun w =>
      sm y0 fun p_21 =>
      ldI .u32 (p_21.add 0) w fun x41_22 =>
      ldI .u32 (p_21.add 1) w fun x41_23 =>
      F56 x41_22 x41_23 w fun r42_24_0 r42_24_1 w =>
      sm y0 fun p_25 =>
      stCs p_25 [(Value.int .u32 r42_24_0), (Value.int .u32 r42_24_1)] 0 w fun w =>
      R y0 w K0)))
    else
      K0 w

def ref04_Encoder_Encode.hn1 (N : Nat) (f : Fr) (w : World) (K : AExit → Fr → World → Prop) : Prop :=
  gN f 45 <| gP f 0 fun y0 => ref04_Encoder_Encode.l1 N y0 w (fun w => K (.exit 0) [none, none, none, none, none, none, none, none, none, none, none, none, none, none, none, none, none, none, none, none, none, none, none, none, none, none, none, none, none, none, none, none, none, none, none, none, none, none, none, none, none, none, none, none, none] w)
def ref04_Encoder_Encode.hx1 : AExit → Fr → World → (AExit → Fr → World → Prop) → Prop := fun e f w K => match e with
  | .normal => False
  | .exit i => (match Nat.beq i 0 with | true => gN f 45 <|  K (.exit 0) [none, none, none, none, none, none, none, none, none, none, none, none, none, none, none, none, none, none, none, none, none, none, none, none, none, none, none, none, none, none, none, none, none, none, none, none, none, none, none, none, none, none, none, none, none] w | false => False)
  | .ret => False
def ref04_Encoder_Encode.L : LHd := fun l f w K => (match Nat.beq l 1 with | true => ∃ N, ref04_Encoder_Encode.hn1 N f w K | false => False)
theorem ref04_Encoder_Encode.leG1 (F54 : type_of% @ref04_Range_cut.f) (F55 : type_of% @ref04_Range_out.f) (F56 : type_of% @ref04_Range_next.f) (N : Nat) (y0 : Option Addr) (w : World) (K : AExit → Fr → World → Prop) : awp (ref04_Encoder_Encode.CG F54 F55 F56) ref04_Encoder_Encode.L ref04_Encoder_Encode.D tab ref04_Encoder_Encode.b0 (lpost ref04_Encoder_Encode.hn1 ref04_Encoder_Encode.hx1 N K) [some (Value.pointer y0), none, none, none, none, none, none, none, none, none, none, none, none, none, none, none, none, none, none, none, none, none, none, none, none, none, none, none, none, none, none, none, none, none, none, none, none, none, none, none, none, none, none, none, none] w = ref04_Encoder_Encode.l1G F54 F55 F56 (ref04_Encoder_Encode.l1 N) y0 w (fun w => K (.exit 0) [none, none, none, none, none, none, none, none, none, none, none, none, none, none, none, none, none, none, none, none, none, none, none, none, none, none, none, none, none, none, none, none, none, none, none, none, none, none, none, none, none, none, none, none, none] w) := by kernel_rfl
theorem ref04_Encoder_Encode.les1 (N : Nat) : ref04_Encoder_Encode.l1 (N + 1) = ref04_Encoder_Encode.l1G @ref04_Range_cut.f @ref04_Range_out.f @ref04_Range_next.f (ref04_Encoder_Encode.l1 N) := by kernel_rfl
theorem ref04_Encoder_Encode.le1 (N : Nat) (y0 : Option Addr) (w : World) (K : AExit → Fr → World → Prop) : awp ref04_Encoder_Encode.C ref04_Encoder_Encode.L ref04_Encoder_Encode.D tab ref04_Encoder_Encode.b0 (lpost ref04_Encoder_Encode.hn1 ref04_Encoder_Encode.hx1 N K) [some (Value.pointer y0), none, none, none, none, none, none, none, none, none, none, none, none, none, none, none, none, none, none, none, none, none, none, none, none, none, none, none, none, none, none, none, none, none, none, none, none, none, none, none, none, none, none, none, none] w = ref04_Encoder_Encode.l1 (N + 1) y0 w (fun w => K (.exit 0) [none, none, none, none, none, none, none, none, none, none, none, none, none, none, none, none, none, none, none, none, none, none, none, none, none, none, none, none, none, none, none, none, none, none, none, none, none, none, none, none, none, none, none, none, none] w) := by
  rw [ref04_Encoder_Encode.les1]
  exact ref04_Encoder_Encode.leG1 @ref04_Range_cut.f @ref04_Range_out.f @ref04_Range_next.f N y0 w K
theorem ref04_Encoder_Encode.lok1 : LoopOk Try.prog ref04_Encoder_Encode.L ref04_Encoder_Encode.b0 := by
  refine loop_ok tab_ok ref04_Encoder_Encode.C_ok (D := ref04_Encoder_Encode.D) (ref04_Encoder_Encode.hn1) (ref04_Encoder_Encode.hx1) (by kernel_rfl) (by rw [ref04_Encoder_Encode.b0_loops]; exact lnil) ?_ ?_ ?_ ?_
  · intro f w K h
    unfold ref04_Encoder_Encode.hn1 at h
    obtain ⟨hlen, h⟩ := gN_ok h
    obtain ⟨y0, h0, h⟩ := gP_ok h
    exact h
  · intro N f w K h
    unfold ref04_Encoder_Encode.hn1 at h
    obtain ⟨hlen, h⟩ := gN_ok h
    obtain ⟨y0, h0, h⟩ := gP_ok h
    refine ⟨[some (Value.pointer y0), none, none, none, none, none, none, none, none, none, none, none, none, none, none, none, none, none, none, none, none, none, none, none, none, none, none, none, none, none, none, none, none, none, none, none, none, none, none, none, none, none, none, none, none], hlen, ⟨h0, trivial⟩, ?_⟩
    rw [ref04_Encoder_Encode.le1]
    exact h
  · intro e f w K h
    cases e with
    | normal => exact h.elim
    | exit i =>
      unfold ref04_Encoder_Encode.hx1 at h
      simp only at h
      split at h
      · rename_i hb
        obtain rfl := Nat.eq_of_beq_eq_true hb
        obtain ⟨hlen, h⟩ := gN_ok h
        exact ⟨[none, none, none, none, none, none, none, none, none, none, none, none, none, none, none, none, none, none, none, none, none, none, none, none, none, none, none, none, none, none, none, none, none, none, none, none, none, none, none, none, none, none, none, none, none], hlen, trivial, h⟩
      · exact (show False from h).elim
    | ret =>
      exact (show False from h).elim
  · intro f w K h
    have e : lid ref04_Encoder_Encode.b0 = 1 := by kernel_rfl
    rw [e] at h
    exact h
theorem ref04_Encoder_Encode.eqG (F54 : type_of% @ref04_Range_cut.f) (F55 : type_of% @ref04_Range_out.f) (F56 : type_of% @ref04_Range_next.f) (a0 : Option Addr) (a1 : Int) (a2 : Int) (w : World) (K : Value → World → Prop) : afn (ref04_Encoder_Encode.CG F54 F55 F56) ref04_Encoder_Encode.L ref04_Encoder_Encode.D tab Try.f27 [(Value.pointer a0), (Value.int .i64 a1), (Value.int .i64 a2)] w K = ref04_Encoder_Encode.G F54 F55 F56 a0 a1 a2 w (fun w => K (Value.tuple #[]) w) := by kernel_rfl
theorem ref04_Encoder_Encode.eq (a0 : Option Addr) (a1 : Int) (a2 : Int) (w : World) (K : Value → World → Prop) : afn ref04_Encoder_Encode.C ref04_Encoder_Encode.L ref04_Encoder_Encode.D tab Try.f27 [(Value.pointer a0), (Value.int .i64 a1), (Value.int .i64 a2)] w K = ref04_Encoder_Encode.f a0 a1 a2 w (fun w => K (Value.tuple #[]) w) := ref04_Encoder_Encode.eqG @ref04_Range_cut.f @ref04_Range_out.f @ref04_Range_next.f a0 a1 a2 w K
theorem ref04_Encoder_Encode.ok : FSound Try.prog 27 ref04_Encoder_Encode.h := by
  intro args w K h
  unfold ref04_Encoder_Encode.h ref04_Encoder_Encode.H at h
  split at h
  ·
    replace h := vP_ok h
    obtain ⟨a0, rfl, h⟩ := h
    replace h := vI_ok h
    obtain ⟨a1, rfl, h⟩ := h
    replace h := vI_ok h
    obtain ⟨a2, rfl, h⟩ := h
    refine ⟨by kernel_rfl, fn_ok tab_ok ref04_Encoder_Encode.C_ok (L := ref04_Encoder_Encode.L) (D := ref04_Encoder_Encode.D) Try.func27 ref04_Encoder_Encode.hb (by kernel_rfl) (by rw [ref04_Encoder_Encode.c_loops]; exact lcons ref04_Encoder_Encode.lok1 (lnil)) (Nat.le_of_ble_eq_true (by kernel_rfl)) ?_⟩
    rw [ref04_Encoder_Encode.eq]
    exact h
  · exact h.elim
/-! ### (*valise/valiseref04.Encoder).Flush: function 29 -/
def ref04_Encoder_Flush.f (a0 : Option Addr) (w : World) (K : Option Addr → Nat → Nat → World → Prop) : Prop :=
  sm a0 fun p_3 =>
  ldI .u32 p_3 w fun x9_4 =>
  sm a0 fun p_6 =>
  ldL (p_6.add 2) w fun x13_7 x13_7n x13_7c =>
  newC 5 [(Value.int .u8 (IntKind.wrap .u8 (shr .u32 x9_4 24))), (Value.int .u8 (IntKind.wrap .u8 (shr .u32 x9_4 16))), (Value.int .u8 (IntKind.wrap .u8 (shr .u32 x9_4 8))), (Value.int .u8 (IntKind.wrap .u8 x9_4))] w fun a25_8 w =>
  appL 5 1 1 [(Value.int .u8 0)] x13_7 x13_7n x13_7c (some a25_8) 4 4 w fun a26_9 a26_9n a26_9c w =>
  ref04_full.f  w fun r29_11_0 r29_11_1 w =>
  sm a0 fun p_12 =>
  stCs p_12 [(Value.int .u32 r29_11_0), (Value.int .u32 r29_11_1)] 0 w fun w =>
  sm a0 fun p_13 =>
  stC (p_13.add 2) (Value.slice none 0 0) w fun w =>
  K a26_9 a26_9n a26_9c w
def ref04_Encoder_Flush.H (F : type_of% @ref04_Encoder_Flush.f) : Hf := fun args w K => match args with
  | [v0] => vP v0 fun a0 => F a0 w (fun r0 r0n r0c w => K (Value.slice r0 r0n r0c) w)
  | _ => False
def ref04_Encoder_Flush.h : Hf := ref04_Encoder_Flush.H @ref04_Encoder_Flush.f
def ref04_Encoder_Flush.C : Hd := hcons 50 ref04_full.h (hnil)
theorem ref04_Encoder_Flush.C_ok : CSound Try.prog ref04_Encoder_Flush.C := hcons_ok ref04_full.ok (hnil_ok)
def ref04_Encoder_Flush.D : Nat → Plan := fun i => .done
noncomputable def ref04_Encoder_Flush.c : Code := Try.f29.body.getD .skip
theorem ref04_Encoder_Flush.hb : Try.f29.body = some ref04_Encoder_Flush.c := by kernel_rfl
theorem ref04_Encoder_Flush.c_loops : loopsOf ref04_Encoder_Flush.c = [] := by kernel_rfl
def ref04_Encoder_Flush.L : LHd := fun l f w K => False
theorem ref04_Encoder_Flush.eq (a0 : Option Addr) (w : World) (K : Value → World → Prop) : afn ref04_Encoder_Flush.C ref04_Encoder_Flush.L ref04_Encoder_Flush.D tab Try.f29 [(Value.pointer a0)] w K = ref04_Encoder_Flush.f a0 w (fun r0 r0n r0c w => K (Value.slice r0 r0n r0c) w) := by kernel_rfl
theorem ref04_Encoder_Flush.ok : FSound Try.prog 29 ref04_Encoder_Flush.h := by
  intro args w K h
  unfold ref04_Encoder_Flush.h ref04_Encoder_Flush.H at h
  split at h
  ·
    replace h := vP_ok h
    obtain ⟨a0, rfl, h⟩ := h
    refine ⟨by kernel_rfl, fn_ok tab_ok ref04_Encoder_Flush.C_ok (L := ref04_Encoder_Flush.L) (D := ref04_Encoder_Flush.D) Try.func29 ref04_Encoder_Flush.hb (by kernel_rfl) (by rw [ref04_Encoder_Flush.c_loops]; exact lnil) (Nat.le_of_ble_eq_true (by kernel_rfl)) ?_⟩
    rw [ref04_Encoder_Flush.eq]
    exact h
  · exact h.elim
/-! ### valise/valisehelp.Spoil: function 30 -/
def help_Spoil.l1 : Nat → Option Addr → Nat → Nat → Int → World → (World → Prop) → Prop
  | 0, _, _, _, _, _, _ => False
  | N + 1, y0, y0n, y0c, y2, w, K0 =>
    bif (decide (y2 < ((y0n : Nat) : Int))) then
      sm y0 fun p_5 =>
      if 0 ≤ (y2 : Int) ∧ (y2 : Int) < ((y0n : Nat) : Int) then
      ldI .u8 (p_5.add (Int.toNat y2)) w fun x14_6 =>
      sm y0 fun p_7 =>
      if 0 ≤ (y2 : Int) ∧ (y2 : Int) < ((y0n : Nat) : Int) then
      stC (p_7.add (Int.toNat y2)) (Value.int .u8 (bxor .u8 x14_6 85)) w fun w =>
      let v2_8 := (IntKind.wrap .i64 (y2 + 1))
      help_Spoil.l1 N y0 y0n y0c v2_8 w K0
      else False
      else False
    else
      K0 w

def help_Spoil.f (a0 : Option Addr) (a0n : Nat) (a0c : Nat) (w : World) (K : World → Prop) : Prop :=
  ∃ N_9 : Nat, help_Spoil.l1 N_9 a0 a0n a0c 0 w
  (fun w =>
    K w)
def help_Spoil.H (F : type_of% @help_Spoil.f) : Hf := fun args w K => match args with
  | [v0] => vL v0 fun a0 a0n a0c => F a0 a0n a0c w (fun w => K (Value.tuple #[]) w)
  | _ => False
def help_Spoil.h : Hf := help_Spoil.H @help_Spoil.f
def help_Spoil.C : Hd := hnil
theorem help_Spoil.C_ok : CSound Try.prog help_Spoil.C := hnil_ok
def help_Spoil.D : Nat → Plan := fun i => .done
noncomputable def help_Spoil.c : Code := Try.f30.body.getD .skip
theorem help_Spoil.hb : Try.f30.body = some help_Spoil.c := by kernel_rfl
noncomputable def help_Spoil.b0 : Code := (loopsOf help_Spoil.c).getD 0 .skip
theorem help_Spoil.b0_loops : loopsOf help_Spoil.b0 = [] := by kernel_rfl
theorem help_Spoil.c_loops : loopsOf help_Spoil.c = [help_Spoil.b0] := by kernel_rfl
def help_Spoil.hn1 (N : Nat) (f : Fr) (w : World) (K : AExit → Fr → World → Prop) : Prop :=
  gN f 17 <| gL f 0 fun y0 y0n y0c => gI .i64 f 2 fun y2 => help_Spoil.l1 N y0 y0n y0c y2 w (fun w => K (.exit 0) [none, none, none, none, none, none, none, none, none, none, none, none, none, none, none, none, none] w)
def help_Spoil.hx1 : AExit → Fr → World → (AExit → Fr → World → Prop) → Prop := fun e f w K => match e with
  | .normal => False
  | .exit i => (match Nat.beq i 0 with | true => gN f 17 <|  K (.exit 0) [none, none, none, none, none, none, none, none, none, none, none, none, none, none, none, none, none] w | false => False)
  | .ret => False
def help_Spoil.L : LHd := fun l f w K => (match Nat.beq l 1 with | true => ∃ N, help_Spoil.hn1 N f w K | false => False)
theorem help_Spoil.le1 (N : Nat) (y0 : Option Addr) (y0n : Nat) (y0c : Nat) (y2 : Int) (w : World) (K : AExit → Fr → World → Prop) : awp help_Spoil.C help_Spoil.L help_Spoil.D tab help_Spoil.b0 (lpost help_Spoil.hn1 help_Spoil.hx1 N K) [some (Value.slice y0 y0n y0c), none, some (Value.int .i64 y2), none, none, none, none, none, none, none, none, none, none, none, none, none, none] w = help_Spoil.l1 (N + 1) y0 y0n y0c y2 w (fun w => K (.exit 0) [none, none, none, none, none, none, none, none, none, none, none, none, none, none, none, none, none] w) := by kernel_rfl
theorem help_Spoil.lok1 : LoopOk Try.prog help_Spoil.L help_Spoil.b0 := by
  refine loop_ok tab_ok help_Spoil.C_ok (D := help_Spoil.D) (help_Spoil.hn1) (help_Spoil.hx1) (by kernel_rfl) (by rw [help_Spoil.b0_loops]; exact lnil) ?_ ?_ ?_ ?_
  · intro f w K h
    unfold help_Spoil.hn1 at h
    obtain ⟨hlen, h⟩ := gN_ok h
    obtain ⟨y0, y0n, y0c, h0, h⟩ := gL_ok h
    obtain ⟨y2, h2, h⟩ := gI_ok h
    exact h
  · intro N f w K h
    unfold help_Spoil.hn1 at h
    obtain ⟨hlen, h⟩ := gN_ok h
    obtain ⟨y0, y0n, y0c, h0, h⟩ := gL_ok h
    obtain ⟨y2, h2, h⟩ := gI_ok h
    refine ⟨[some (Value.slice y0 y0n y0c), none, some (Value.int .i64 y2), none, none, none, none, none, none, none, none, none, none, none, none, none, none], hlen, ⟨h0, h2, trivial⟩, ?_⟩
    rw [help_Spoil.le1]
    exact h
  · intro e f w K h
    cases e with
    | normal => exact h.elim
    | exit i =>
      unfold help_Spoil.hx1 at h
      simp only at h
      split at h
      · rename_i hb
        obtain rfl := Nat.eq_of_beq_eq_true hb
        obtain ⟨hlen, h⟩ := gN_ok h
        exact ⟨[none, none, none, none, none, none, none, none, none, none, none, none, none, none, none, none, none], hlen, trivial, h⟩
      · exact (show False from h).elim
    | ret =>
      exact (show False from h).elim
  · intro f w K h
    have e : lid help_Spoil.b0 = 1 := by kernel_rfl
    rw [e] at h
    exact h
theorem help_Spoil.eq (a0 : Option Addr) (a0n : Nat) (a0c : Nat) (w : World) (K : Value → World → Prop) : afn help_Spoil.C help_Spoil.L help_Spoil.D tab Try.f30 [(Value.slice a0 a0n a0c)] w K = help_Spoil.f a0 a0n a0c w (fun w => K (Value.tuple #[]) w) := by kernel_rfl
theorem help_Spoil.ok : FSound Try.prog 30 help_Spoil.h := by
  intro args w K h
  unfold help_Spoil.h help_Spoil.H at h
  split at h
  ·
    replace h := vL_ok h
    obtain ⟨a0, a0n, a0c, rfl, h⟩ := h
    refine ⟨by kernel_rfl, fn_ok tab_ok help_Spoil.C_ok (L := help_Spoil.L) (D := help_Spoil.D) Try.func30 help_Spoil.hb (by kernel_rfl) (by rw [help_Spoil.c_loops]; exact lcons help_Spoil.lok1 (lnil)) (Nat.le_of_ble_eq_true (by kernel_rfl)) ?_⟩
    rw [help_Spoil.eq]
    exact h
  · exact h.elim
/-! ### (*valise/coder.Decoder).more: function 57 -/
def coder_Decoder_more.f (a0 : Option Addr) (w : World) (K : World → Prop) : Prop :=
  sm a0 fun p_2 =>
  ldI .u32 (p_2.add 2) w fun x5_3 =>
  sm a0 fun p_4 =>
  stC (p_4.add 2) (Value.int .u32 (shl .u32 x5_3 8)) w fun w =>
  let J_23 := fun  (w : World) =>
    ((sm a0 fun p_20 =>
    ldI .i64 (p_20.add 4) w fun x40_21 =>
    sm a0 fun p_22 =>
    stC (p_22.add 4) (Value.int .i64 (IntKind.wrap .i64 (x40_21 + 1))) w fun w =>
    K w) : Prop)
  sm a0 fun p_7 =>
  ldI .i64 (p_7.add 4) w.drew fun x12_8 =>
  sm a0 fun p_9 =>
  ldL (p_9.add 3) w.drew fun x16_10 x16_10n x16_10c =>
  bif (decide (x12_8 < ((x16_10n : Nat) : Int))) then
    sm a0 fun p_11 =>
    ldI .u32 (p_11.add 2) w.drew.drew fun x22_12 =>
    sm a0 fun p_13 =>
    ldL (p_13.add 3) w.drew.drew fun x26_14 x26_14n x26_14c =>
    sm a0 fun p_15 =>
    ldI .i64 (p_15.add 4) w.drew.drew fun x30_16 =>
    sm x26_14 fun p_17 =>
    if 0 ≤ (x30_16 : Int) ∧ (x30_16 : Int) < ((x26_14n : Nat) : Int) then
    ldI .u8 (p_17.add (Int.toNat x30_16)) w.drew.drew fun x32_18 =>
    sm a0 fun p_19 =>
    stC (p_19.add 2) (Value.int .u32 (bor .u32 x22_12 (IntKind.wrap .u32 x32_18))) w.drew.drew fun w =>
    J_23 w
    else False
  else
    J_23 w.drew
def coder_Decoder_more.H (F : type_of% @coder_Decoder_more.f) : Hf := fun args w K => match args with
  | [v0] => vP v0 fun a0 => F a0 w (fun w => K (Value.tuple #[]) w)
  | _ => False
def coder_Decoder_more.h : Hf := coder_Decoder_more.H @coder_Decoder_more.f
def coder_Decoder_more.C : Hd := hnil
theorem coder_Decoder_more.C_ok : CSound Try.prog coder_Decoder_more.C := hnil_ok
def coder_Decoder_more.D : Nat → Plan := fun i => (match Nat.beq i 2 with | true => .take 0 (.take 1 (.take 2 (.take 3 (.take 4 (.take 5 (.take 6 (.take 7 (.take 8 (.take 9 (.take 10 (.take 11 (.take 12 (.take 13 (.take 14 (.take 15 (.take 16 (.take 17 (.eff 18 (.done))))))))))))))))))) | false => (match Nat.beq i 1 with | true => .take 0 (.take 1 (.take 2 (.take 3 (.take 4 (.take 5 (.take 6 (.take 7 (.take 8 (.take 9 (.done)))))))))) | false => .done))
noncomputable def coder_Decoder_more.c : Code := Try.f57.body.getD .skip
theorem coder_Decoder_more.hb : Try.f57.body = some coder_Decoder_more.c := by kernel_rfl
theorem coder_Decoder_more.c_loops : loopsOf coder_Decoder_more.c = [] := by kernel_rfl
def coder_Decoder_more.L : LHd := fun l f w K => False
theorem coder_Decoder_more.eq (a0 : Option Addr) (w : World) (K : Value → World → Prop) : afn coder_Decoder_more.C coder_Decoder_more.L coder_Decoder_more.D tab Try.f57 [(Value.pointer a0)] w K = coder_Decoder_more.f a0 w (fun w => K (Value.tuple #[]) w) := by kernel_rfl
theorem coder_Decoder_more.ok : FSound Try.prog 57 coder_Decoder_more.h := by
  intro args w K h
  unfold coder_Decoder_more.h coder_Decoder_more.H at h
  split at h
  ·
    replace h := vP_ok h
    obtain ⟨a0, rfl, h⟩ := h
    refine ⟨by kernel_rfl, fn_ok tab_ok coder_Decoder_more.C_ok (L := coder_Decoder_more.L) (D := coder_Decoder_more.D) Try.func57 coder_Decoder_more.hb (by kernel_rfl) (by rw [coder_Decoder_more.c_loops]; exact lnil) (Nat.le_of_ble_eq_true (by kernel_rfl)) ?_⟩
    rw [coder_Decoder_more.eq]
    exact h
  · exact h.elim
/-! ### (*valise/coder.Decoder).Decode: function 31 -/
def coder_Decoder_Decode.l8 : Nat → Option Addr → Int → Bool → World → (Int → World → Prop) → Prop
  | 0, _, _, _, _, _ => False
  | N + 1, y0, y5, y8, w, K0 =>
    bif y8 then
      coder_Decoder_more.f y0 w fun w =>
      sm y0 fun p_23 =>
      coder_span_shift.f (some p_23) w fun r40_24 r40_25 w =>
      coder_Decoder_Decode.l8 N y0 y5 r40_25 w K0
    else
      K0 y5 w

def coder_Decoder_Decode.f (a0 : Option Addr) (a1 : Int) (w : World) (K : Int → World → Prop) : Prop :=
  bif a0.isNone then
    K 0 w
  else
    sm a0 fun p_6 =>
    coder_span_mid.f (some p_6) a1 w fun r15_7 w =>
    let J_29 := fun (j5_12 : Int) (w : World) =>
      ((sm a0 fun p_14 =>
      coder_span_take.f (some p_14) j5_12 r15_7 w fun w =>
      sm a0 fun p_17 =>
      coder_span_shift.f (some p_17) w fun r32_18 r32_19 w =>
      ∃ N_26 : Nat, coder_Decoder_Decode.l8 N_26 a0 j5_12 r32_19 w
      (fun o5_27 w =>
        K o5_27 w)) : Prop)
    sm a0 fun p_10 =>
    ldI .u32 (p_10.add 2) w fun x19_11 =>
    bif (decide (x19_11 ≤ r15_7)) then
      J_29 1 w
    else
      J_29 0 w
def coder_Decoder_Decode.H (F : type_of% @coder_Decoder_Decode.f) : Hf := fun args w K => match args with
  | [v0, v1] => vP v0 fun a0 => vI .i64 v1 fun a1 => F a0 a1 w (fun r0 w => K (Value.int .i64 r0) w)
  | _ => False
def coder_Decoder_Decode.h : Hf := coder_Decoder_Decode.H @coder_Decoder_Decode.f
def coder_Decoder_Decode.CG (F52 : type_of% @coder_span_mid.f) (F51 : type_of% @coder_span_take.f) (F53 : type_of% @coder_span_shift.f) (F57 : type_of% @coder_Decoder_more.f) : Hd := hcons 57 (coder_Decoder_more.H F57) (hcons 53 (coder_span_shift.H F53) (hcons 51 (coder_span_take.H F51) (hcons 52 (coder_span_mid.H F52) (hnil))))
def coder_Decoder_Decode.C : Hd := coder_Decoder_Decode.CG @coder_span_mid.f @coder_span_take.f @coder_span_shift.f @coder_Decoder_more.f
def coder_Decoder_Decode.G (F52 : type_of% @coder_span_mid.f) (F51 : type_of% @coder_span_take.f) (F53 : type_of% @coder_span_shift.f) (F57 : type_of% @coder_Decoder_more.f) (a0 : Option Addr) (a1 : Int) (w : World) (K : Int → World → Prop) : Prop :=
  bif a0.isNone then
    K 0 w
  else
    sm a0 fun p_6 =>
    F52 (some p_6) a1 w fun r15_7 w =>
    let J_29 := fun (j5_12 : Int) (w : World) =>
      ((sm a0 fun p_14 =>
      F51 (some p_14) j5_12 r15_7 w fun w =>
      sm a0 fun p_17 =>
      F53 (some p_17) w fun r32_18 r32_19 w =>
      ∃ N_26 : Nat, coder_Decoder_Decode.l8 N_26 a0 j5_12 r32_19 w
      (fun o5_27 w =>
        K o5_27 w)) : Prop)
    sm a0 fun p_10 =>
    ldI .u32 (p_10.add 2) w fun x19_11 =>
    bif (decide (x19_11 ≤ r15_7)) then
      J_29 1 w
    else
      J_29 0 w
theorem coder_Decoder_Decode.C_ok : CSound Try.prog coder_Decoder_Decode.C := hcons_ok coder_Decoder_more.ok (hcons_ok coder_span_shift.ok (hcons_ok coder_span_take.ok (hcons_ok coder_span_mid.ok (hnil_ok))))
def coder_Decoder_Decode.D : Nat → Plan := fun i => .done
noncomputable def coder_Decoder_Decode.c : Code := Try.f31.body.getD .skip
theorem coder_Decoder_Decode.hb : Try.f31.body = some coder_Decoder_Decode.c := by kernel_rfl
noncomputable def coder_Decoder_Decode.b0 : Code := (loopsOf coder_Decoder_Decode.c).getD 0 .skip
theorem coder_Decoder_Decode.b0_loops : loopsOf coder_Decoder_Decode.b0 = [] := by kernel_rfl
theorem coder_Decoder_Decode.c_loops : loopsOf coder_Decoder_Decode.c = [coder_Decoder_Decode.b0] := by kernel_rfl
def coder_Decoder_Decode.l8G (F52 : type_of% @coder_span_mid.f) (F51 : type_of% @coder_span_take.f) (F53 : type_of% @coder_span_shift.f) (F57 : type_of% @coder_Decoder_more.f) (R : Option Addr → Int → Bool → World → (Int → World → Prop) → Prop) : Option Addr → Int → Bool → World → (Int → World → Prop) → Prop := fun y0 y5 y8 w K0 =>
    bif y8 then
      F57 y0 w fun w =>
      sm y0 fun p_23 =>
      F53 (some p_23) w fun r40_24 r40_25 w =>
      R y0 y5 r40_25 w K0
    else
      K0 y5 w

def coder_Decoder_Decode.hn8 (N : Nat) (f : Fr) (w : World) (K : AExit → Fr → World → Prop) : Prop :=
  gN f 46 <| gP f 0 fun y0 => gI .i64 f 5 fun y5 => gB f 8 fun y8 => coder_Decoder_Decode.l8 N y0 y5 y8 w (fun o5 w => K (.exit 0) [none, none, none, none, none, some (Value.int .i64 o5), none, none, none, none, none, none, none, none, none, none, none, none, none, none, none, none, none, none, none, none, none, none, none, none, none, none, none, none, none, none, none, none, none, none, none, none, none, none, none, none] w)
def coder_Decoder_Decode.hx8 : AExit → Fr → World → (AExit → Fr → World → Prop) → Prop := fun e f w K => match e with
  | .normal => False
  | .exit i => (match Nat.beq i 0 with | true => gN f 46 <| gI .i64 f 5 fun o5 => K (.exit 0) [none, none, none, none, none, some (Value.int .i64 o5), none, none, none, none, none, none, none, none, none, none, none, none, none, none, none, none, none, none, none, none, none, none, none, none, none, none, none, none, none, none, none, none, none, none, none, none, none, none, none, none] w | false => False)
  | .ret => False
def coder_Decoder_Decode.L : LHd := fun l f w K => (match Nat.beq l 8 with | true => ∃ N, coder_Decoder_Decode.hn8 N f w K | false => False)
theorem coder_Decoder_Decode.leG8 (F52 : type_of% @coder_span_mid.f) (F51 : type_of% @coder_span_take.f) (F53 : type_of% @coder_span_shift.f) (F57 : type_of% @coder_Decoder_more.f) (N : Nat) (y0 : Option Addr) (y5 : Int) (y8 : Bool) (w : World) (K : AExit → Fr → World → Prop) : awp (coder_Decoder_Decode.CG F52 F51 F53 F57) coder_Decoder_Decode.L coder_Decoder_Decode.D tab coder_Decoder_Decode.b0 (lpost coder_Decoder_Decode.hn8 coder_Decoder_Decode.hx8 N K) [some (Value.pointer y0), none, none, none, none, some (Value.int .i64 y5), none, none, some (Value.bool y8), none, none, none, none, none, none, none, none, none, none, none, none, none, none, none, none, none, none, none, none, none, none, none, none, none, none, none, none, none, none, none, none, none, none, none, none, none] w = coder_Decoder_Decode.l8G F52 F51 F53 F57 (coder_Decoder_Decode.l8 N) y0 y5 y8 w (fun o5 w => K (.exit 0) [none, none, none, none, none, some (Value.int .i64 o5), none, none, none, none, none, none, none, none, none, none, none, none, none, none, none, none, none, none, none, none, none, none, none, none, none, none, none, none, none, none, none, none, none, none, none, none, none, none, none, none] w) := by kernel_rfl
theorem coder_Decoder_Decode.les8 (N : Nat) : coder_Decoder_Decode.l8 (N + 1) = coder_Decoder_Decode.l8G @coder_span_mid.f @coder_span_take.f @coder_span_shift.f @coder_Decoder_more.f (coder_Decoder_Decode.l8 N) := by kernel_rfl
theorem coder_Decoder_Decode.le8 (N : Nat) (y0 : Option Addr) (y5 : Int) (y8 : Bool) (w : World) (K : AExit → Fr → World → Prop) : awp coder_Decoder_Decode.C coder_Decoder_Decode.L coder_Decoder_Decode.D tab coder_Decoder_Decode.b0 (lpost coder_Decoder_Decode.hn8 coder_Decoder_Decode.hx8 N K) [some (Value.pointer y0), none, none, none, none, some (Value.int .i64 y5), none, none, some (Value.bool y8), none, none, none, none, none, none, none, none, none, none, none, none, none, none, none, none, none, none, none, none, none, none, none, none, none, none, none, none, none, none, none, none, none, none, none, none, none] w = coder_Decoder_Decode.l8 (N + 1) y0 y5 y8 w (fun o5 w => K (.exit 0) [none, none, none, none, none, some (Value.int .i64 o5), none, none, none, none, none, none, none, none, none, none, none, none, none, none, none, none, none, none, none, none, none, none, none, none, none, none, none, none, none, none, none, none, none, none, none, none, none, none, none, none] w) := by
  rw [coder_Decoder_Decode.les8]
  exact coder_Decoder_Decode.leG8 @coder_span_mid.f @coder_span_take.f @coder_span_shift.f @coder_Decoder_more.f N y0 y5 y8 w K
theorem coder_Decoder_Decode.lok8 : LoopOk Try.prog coder_Decoder_Decode.L coder_Decoder_Decode.b0 := by
  refine loop_ok tab_ok coder_Decoder_Decode.C_ok (D := coder_Decoder_Decode.D) (coder_Decoder_Decode.hn8) (coder_Decoder_Decode.hx8) (by kernel_rfl) (by rw [coder_Decoder_Decode.b0_loops]; exact lnil) ?_ ?_ ?_ ?_
  · intro f w K h
    unfold coder_Decoder_Decode.hn8 at h
    obtain ⟨hlen, h⟩ := gN_ok h
    obtain ⟨y0, h0, h⟩ := gP_ok h
    obtain ⟨y5, h5, h⟩ := gI_ok h
    obtain ⟨y8, h8, h⟩ := gB_ok h
    exact h
  · intro N f w K h
    unfold coder_Decoder_Decode.hn8 at h
    obtain ⟨hlen, h⟩ := gN_ok h
    obtain ⟨y0, h0, h⟩ := gP_ok h
    obtain ⟨y5, h5, h⟩ := gI_ok h
    obtain ⟨y8, h8, h⟩ := gB_ok h
    refine ⟨[some (Value.pointer y0), none, none, none, none, some (Value.int .i64 y5), none, none, some (Value.bool y8), none, none, none, none, none, none, none, none, none, none, none, none, none, none, none, none, none, none, none, none, none, none, none, none, none, none, none, none, none, none, none, none, none, none, none, none, none], hlen, ⟨h0, h5, h8, trivial⟩, ?_⟩
    rw [coder_Decoder_Decode.le8]
    exact h
  · intro e f w K h
    cases e with
    | normal => exact h.elim
    | exit i =>
      unfold coder_Decoder_Decode.hx8 at h
      simp only at h
      split at h
      · rename_i hb
        obtain rfl := Nat.eq_of_beq_eq_true hb
        obtain ⟨hlen, h⟩ := gN_ok h
        obtain ⟨o5, h5, h⟩ := gI_ok h
        exact ⟨[none, none, none, none, none, some (Value.int .i64 o5), none, none, none, none, none, none, none, none, none, none, none, none, none, none, none, none, none, none, none, none, none, none, none, none, none, none, none, none, none, none, none, none, none, none, none, none, none, none, none, none], hlen, ⟨h5, trivial⟩, h⟩
      · exact (show False from h).elim
    | ret =>
      exact (show False from h).elim
  · intro f w K h
    have e : lid coder_Decoder_Decode.b0 = 8 := by kernel_rfl
    rw [e] at h
    exact h
theorem coder_Decoder_Decode.eqG (F52 : type_of% @coder_span_mid.f) (F51 : type_of% @coder_span_take.f) (F53 : type_of% @coder_span_shift.f) (F57 : type_of% @coder_Decoder_more.f) (a0 : Option Addr) (a1 : Int) (w : World) (K : Value → World → Prop) : afn (coder_Decoder_Decode.CG F52 F51 F53 F57) coder_Decoder_Decode.L coder_Decoder_Decode.D tab Try.f31 [(Value.pointer a0), (Value.int .i64 a1)] w K = coder_Decoder_Decode.G F52 F51 F53 F57 a0 a1 w (fun r0 w => K (Value.int .i64 r0) w) := by kernel_rfl
theorem coder_Decoder_Decode.eq (a0 : Option Addr) (a1 : Int) (w : World) (K : Value → World → Prop) : afn coder_Decoder_Decode.C coder_Decoder_Decode.L coder_Decoder_Decode.D tab Try.f31 [(Value.pointer a0), (Value.int .i64 a1)] w K = coder_Decoder_Decode.f a0 a1 w (fun r0 w => K (Value.int .i64 r0) w) := coder_Decoder_Decode.eqG @coder_span_mid.f @coder_span_take.f @coder_span_shift.f @coder_Decoder_more.f a0 a1 w K
theorem coder_Decoder_Decode.ok : FSound Try.prog 31 coder_Decoder_Decode.h := by
  intro args w K h
  unfold coder_Decoder_Decode.h coder_Decoder_Decode.H at h
  split at h
  ·
    replace h := vP_ok h
    obtain ⟨a0, rfl, h⟩ := h
    replace h := vI_ok h
    obtain ⟨a1, rfl, h⟩ := h
    refine ⟨by kernel_rfl, fn_ok tab_ok coder_Decoder_Decode.C_ok (L := coder_Decoder_Decode.L) (D := coder_Decoder_Decode.D) Try.func31 coder_Decoder_Decode.hb (by kernel_rfl) (by rw [coder_Decoder_Decode.c_loops]; exact lcons coder_Decoder_Decode.lok8 (lnil)) (Nat.le_of_ble_eq_true (by kernel_rfl)) ?_⟩
    rw [coder_Decoder_Decode.eq]
    exact h
  · exact h.elim
/-! ### (*valise/coder.Decoder).Past: function 32 -/
def coder_Decoder_Past.f (a0 : Option Addr) (w : World) (K : Int → World → Prop) : Prop :=
  bif a0.isNone then
    K 0 w
  else
    sm a0 fun p_6 =>
    ldI .i64 (p_6.add 4) w.drew fun x8_7 =>
    sm a0 fun p_8 =>
    ldL (p_8.add 3) w.drew fun x12_9 x12_9n x12_9c =>
    let v2_10 := (mx 0 (IntKind.wrap .i64 (x8_7 - ((x12_9n : Nat) : Int))))
    K v2_10 w.drew
def coder_Decoder_Past.H (F : type_of% @coder_Decoder_Past.f) : Hf := fun args w K => match args with
  | [v0] => vP v0 fun a0 => F a0 w (fun r0 w => K (Value.int .i64 r0) w)
  | _ => False
def coder_Decoder_Past.h : Hf := coder_Decoder_Past.H @coder_Decoder_Past.f
def coder_Decoder_Past.C : Hd := hnil
theorem coder_Decoder_Past.C_ok : CSound Try.prog coder_Decoder_Past.C := hnil_ok
def coder_Decoder_Past.D : Nat → Plan := fun i => (match Nat.beq i 3 with | true => .take 0 (.take 1 (.take 2 (.take 3 (.take 4 (.take 5 (.take 6 (.take 7 (.take 8 (.take 9 (.take 10 (.take 11 (.done)))))))))))) | false => .done)
noncomputable def coder_Decoder_Past.c : Code := Try.f32.body.getD .skip
theorem coder_Decoder_Past.hb : Try.f32.body = some coder_Decoder_Past.c := by kernel_rfl
theorem coder_Decoder_Past.c_loops : loopsOf coder_Decoder_Past.c = [] := by kernel_rfl
def coder_Decoder_Past.L : LHd := fun l f w K => False
theorem coder_Decoder_Past.eq (a0 : Option Addr) (w : World) (K : Value → World → Prop) : afn coder_Decoder_Past.C coder_Decoder_Past.L coder_Decoder_Past.D tab Try.f32 [(Value.pointer a0)] w K = coder_Decoder_Past.f a0 w (fun r0 w => K (Value.int .i64 r0) w) := by kernel_rfl
theorem coder_Decoder_Past.ok : FSound Try.prog 32 coder_Decoder_Past.h := by
  intro args w K h
  unfold coder_Decoder_Past.h coder_Decoder_Past.H at h
  split at h
  ·
    replace h := vP_ok h
    obtain ⟨a0, rfl, h⟩ := h
    refine ⟨by kernel_rfl, fn_ok tab_ok coder_Decoder_Past.C_ok (L := coder_Decoder_Past.L) (D := coder_Decoder_Past.D) Try.func32 coder_Decoder_Past.hb (by kernel_rfl) (by rw [coder_Decoder_Past.c_loops]; exact lnil) (Nat.le_of_ble_eq_true (by kernel_rfl)) ?_⟩
    rw [coder_Decoder_Past.eq]
    exact h
  · exact h.elim
/-! ### valise/coder.NewDecoder: function 33 -/
def coder_NewDecoder.l3 : Nat → Addr → Int → World → (Addr → World → Prop) → Prop
  | 0, _, _, _, _ => False
  | N + 1, y3, y9, w, K0 =>
    bif (decide (y9 < 4)) then
      coder_Decoder_more.f (some y3) w fun w =>
      coder_NewDecoder.l3 N y3 (IntKind.wrap .i64 (y9 + 1)) w K0
    else
      K0 y3 w

def coder_NewDecoder.f (a0 : Option Addr) (a0n : Nat) (a0c : Nat) (w : World) (K : Option Addr → World → Prop) : Prop :=
  coder_whole.f  w fun r4_3_0 r4_3_1 w =>
  appL 5 1 1 [(Value.int .u8 0)] none 0 0 a0 a0n a0c w fun a6_4 a6_4n a6_4c w =>
  newC 98 [(Value.int .u32 r4_3_0), (Value.int .u32 r4_3_1), (Value.int .u32 0), (Value.slice a6_4 a6_4n a6_4c), (Value.int .i64 0)] w fun a8_5 w =>
  ∃ N_11 : Nat, coder_NewDecoder.l3 N_11 a8_5 0 w
  (fun o3_12 w =>
    K (some o3_12) w)
def coder_NewDecoder.H (F : type_of% @coder_NewDecoder.f) : Hf := fun args w K => match args with
  | [v0] => vL v0 fun a0 a0n a0c => F a0 a0n a0c w (fun r0 w => K (Value.pointer r0) w)
  | _ => False
def coder_NewDecoder.h : Hf := coder_NewDecoder.H @coder_NewDecoder.f
def coder_NewDecoder.C : Hd := hcons 57 coder_Decoder_more.h (hcons 49 coder_whole.h (hnil))
theorem coder_NewDecoder.C_ok : CSound Try.prog coder_NewDecoder.C := hcons_ok coder_Decoder_more.ok (hcons_ok coder_whole.ok (hnil_ok))
def coder_NewDecoder.D : Nat → Plan := fun i => .done
noncomputable def coder_NewDecoder.c : Code := Try.f33.body.getD .skip
theorem coder_NewDecoder.hb : Try.f33.body = some coder_NewDecoder.c := by kernel_rfl
noncomputable def coder_NewDecoder.b0 : Code := (loopsOf coder_NewDecoder.c).getD 0 .skip
theorem coder_NewDecoder.b0_loops : loopsOf coder_NewDecoder.b0 = [] := by kernel_rfl
theorem coder_NewDecoder.c_loops : loopsOf coder_NewDecoder.c = [coder_NewDecoder.b0] := by kernel_rfl
def coder_NewDecoder.hn3 (N : Nat) (f : Fr) (w : World) (K : AExit → Fr → World → Prop) : Prop :=
  gN f 15 <| gQ f 3 fun y3 => gI .i64 f 9 fun y9 => coder_NewDecoder.l3 N y3 y9 w (fun o3 w => K (.exit 0) [none, none, none, some (Value.pointer (some o3)), none, none, none, none, none, none, none, none, none, none, none] w)
def coder_NewDecoder.hx3 : AExit → Fr → World → (AExit → Fr → World → Prop) → Prop := fun e f w K => match e with
  | .normal => False
  | .exit i => (match Nat.beq i 0 with | true => gN f 15 <| gQ f 3 fun o3 => K (.exit 0) [none, none, none, some (Value.pointer (some o3)), none, none, none, none, none, none, none, none, none, none, none] w | false => False)
  | .ret => False
def coder_NewDecoder.L : LHd := fun l f w K => (match Nat.beq l 3 with | true => ∃ N, coder_NewDecoder.hn3 N f w K | false => False)
theorem coder_NewDecoder.le3 (N : Nat) (y3 : Addr) (y9 : Int) (w : World) (K : AExit → Fr → World → Prop) : awp coder_NewDecoder.C coder_NewDecoder.L coder_NewDecoder.D tab coder_NewDecoder.b0 (lpost coder_NewDecoder.hn3 coder_NewDecoder.hx3 N K) [none, none, none, some (Value.pointer (some y3)), none, none, none, none, none, some (Value.int .i64 y9), none, none, none, none, none] w = coder_NewDecoder.l3 (N + 1) y3 y9 w (fun o3 w => K (.exit 0) [none, none, none, some (Value.pointer (some o3)), none, none, none, none, none, none, none, none, none, none, none] w) := by kernel_rfl
theorem coder_NewDecoder.lok3 : LoopOk Try.prog coder_NewDecoder.L coder_NewDecoder.b0 := by
  refine loop_ok tab_ok coder_NewDecoder.C_ok (D := coder_NewDecoder.D) (coder_NewDecoder.hn3) (coder_NewDecoder.hx3) (by kernel_rfl) (by rw [coder_NewDecoder.b0_loops]; exact lnil) ?_ ?_ ?_ ?_
  · intro f w K h
    unfold coder_NewDecoder.hn3 at h
    obtain ⟨hlen, h⟩ := gN_ok h
    obtain ⟨y3, h3, h⟩ := gQ_ok h
    obtain ⟨y9, h9, h⟩ := gI_ok h
    exact h
  · intro N f w K h
    unfold coder_NewDecoder.hn3 at h
    obtain ⟨hlen, h⟩ := gN_ok h
    obtain ⟨y3, h3, h⟩ := gQ_ok h
    obtain ⟨y9, h9, h⟩ := gI_ok h
    refine ⟨[none, none, none, some (Value.pointer (some y3)), none, none, none, none, none, some (Value.int .i64 y9), none, none, none, none, none], hlen, ⟨h3, h9, trivial⟩, ?_⟩
    rw [coder_NewDecoder.le3]
    exact h
  · intro e f w K h
    cases e with
    | normal => exact h.elim
    | exit i =>
      unfold coder_NewDecoder.hx3 at h
      simp only at h
      split at h
      · rename_i hb
        obtain rfl := Nat.eq_of_beq_eq_true hb
        obtain ⟨hlen, h⟩ := gN_ok h
        obtain ⟨o3, h3, h⟩ := gQ_ok h
        exact ⟨[none, none, none, some (Value.pointer (some o3)), none, none, none, none, none, none, none, none, none, none, none], hlen, ⟨h3, trivial⟩, h⟩
      · exact (show False from h).elim
    | ret =>
      exact (show False from h).elim
  · intro f w K h
    have e : lid coder_NewDecoder.b0 = 3 := by kernel_rfl
    rw [e] at h
    exact h
theorem coder_NewDecoder.eq (a0 : Option Addr) (a0n : Nat) (a0c : Nat) (w : World) (K : Value → World → Prop) : afn coder_NewDecoder.C coder_NewDecoder.L coder_NewDecoder.D tab Try.f33 [(Value.slice a0 a0n a0c)] w K = coder_NewDecoder.f a0 a0n a0c w (fun r0 w => K (Value.pointer r0) w) := by kernel_rfl
theorem coder_NewDecoder.ok : FSound Try.prog 33 coder_NewDecoder.h := by
  intro args w K h
  unfold coder_NewDecoder.h coder_NewDecoder.H at h
  split at h
  ·
    replace h := vL_ok h
    obtain ⟨a0, a0n, a0c, rfl, h⟩ := h
    refine ⟨by kernel_rfl, fn_ok tab_ok coder_NewDecoder.C_ok (L := coder_NewDecoder.L) (D := coder_NewDecoder.D) Try.func33 coder_NewDecoder.hb (by kernel_rfl) (by rw [coder_NewDecoder.c_loops]; exact lcons coder_NewDecoder.lok3 (lnil)) (Nat.le_of_ble_eq_true (by kernel_rfl)) ?_⟩
    rw [coder_NewDecoder.eq]
    exact h
  · exact h.elim
/-! ### (*valise/valiseref04.Decoder).take: function 58 -/
def ref04_Decoder_take.f (a0 : Option Addr) (w : World) (K : World → Prop) : Prop :=
  let J_22 := fun (j2_14 : Int) (w : World) =>
    ((sm a0 fun p_16 =>
    ldI .i64 (p_16.add 4) w fun x26_17 =>
    sm a0 fun p_18 =>
    stC (p_18.add 4) (Value.int .i64 (IntKind.wrap .i64 (x26_17 + 1))) w fun w =>
    sm a0 fun p_19 =>
    ldI .u32 (p_19.add 2) w fun x34_20 =>
    sm a0 fun p_21 =>
    stC (p_21.add 2) (Value.int .u32 (bor .u32 (shl .u32 x34_20 8) (IntKind.wrap .u32 j2_14))) w fun w =>
    K w) : Prop)
  sm a0 fun p_4 =>
  ldI .i64 (p_4.add 4) w.drew fun x6_5 =>
  sm a0 fun p_6 =>
  ldL (p_6.add 3) w.drew fun x10_7 x10_7n x10_7c =>
  bif (decide (x6_5 < ((x10_7n : Nat) : Int))) then
    sm a0 fun p_8 =>
    ldL (p_8.add 3) w.drew.drew fun x16_9 x16_9n x16_9c =>
    sm a0 fun p_10 =>
    ldI .i64 (p_10.add 4) w.drew.drew fun x20_11 =>
    sm x16_9 fun p_12 =>
    if 0 ≤ (x20_11 : Int) ∧ (x20_11 : Int) < ((x16_9n : Nat) : Int) then
    ldI .u8 (p_12.add (Int.toNat x20_11)) w.drew.drew fun x22_13 =>
    J_22 x22_13 w.drew.drew
    else False
  else
    J_22 0 w.drew
def ref04_Decoder_take.H (F : type_of% @ref04_Decoder_take.f) : Hf := fun args w K => match args with
  | [v0] => vP v0 fun a0 => F a0 w (fun w => K (Value.tuple #[]) w)
  | _ => False
def ref04_Decoder_take.h : Hf := ref04_Decoder_take.H @ref04_Decoder_take.f
def ref04_Decoder_take.C : Hd := hnil
theorem ref04_Decoder_take.C_ok : CSound Try.prog ref04_Decoder_take.C := hnil_ok
def ref04_Decoder_take.D : Nat → Plan := fun i => (match Nat.beq i 2 with | true => .take 0 (.take 1 (.take 2 (.take 3 (.take 4 (.take 5 (.take 6 (.take 7 (.take 8 (.take 9 (.take 10 (.done))))))))))) | false => (match Nat.beq i 1 with | true => .take 0 (.take 1 (.take 2 (.take 3 (.take 4 (.take 5 (.take 6 (.take 7 (.take 8 (.take 9 (.done)))))))))) | false => .done))
noncomputable def ref04_Decoder_take.c : Code := Try.f58.body.getD .skip
theorem ref04_Decoder_take.hb : Try.f58.body = some ref04_Decoder_take.c := by kernel_rfl
theorem ref04_Decoder_take.c_loops : loopsOf ref04_Decoder_take.c = [] := by kernel_rfl
def ref04_Decoder_take.L : LHd := fun l f w K => False
theorem ref04_Decoder_take.eq (a0 : Option Addr) (w : World) (K : Value → World → Prop) : afn ref04_Decoder_take.C ref04_Decoder_take.L ref04_Decoder_take.D tab Try.f58 [(Value.pointer a0)] w K = ref04_Decoder_take.f a0 w (fun w => K (Value.tuple #[]) w) := by kernel_rfl
theorem ref04_Decoder_take.ok : FSound Try.prog 58 ref04_Decoder_take.h := by
  intro args w K h
  unfold ref04_Decoder_take.h ref04_Decoder_take.H at h
  split at h
  ·
    replace h := vP_ok h
    obtain ⟨a0, rfl, h⟩ := h
    refine ⟨by kernel_rfl, fn_ok tab_ok ref04_Decoder_take.C_ok (L := ref04_Decoder_take.L) (D := ref04_Decoder_take.D) Try.func58 ref04_Decoder_take.hb (by kernel_rfl) (by rw [ref04_Decoder_take.c_loops]; exact lnil) (Nat.le_of_ble_eq_true (by kernel_rfl)) ?_⟩
    rw [ref04_Decoder_take.eq]
    exact h
  · exact h.elim
/-! ### valise/valiseref04.NewDecoder: function 34 -/
def ref04_NewDecoder.l3 : Nat → Addr → Int → World → (Addr → World → Prop) → Prop
  | 0, _, _, _, _ => False
  | N + 1, y3, y4, w, K0 =>
    bif (decide (y4 < 4)) then
      ref04_Decoder_take.f (some y3) w fun w =>
      let v4_11 := (IntKind.wrap .i64 (y4 + 1))
      ref04_NewDecoder.l3 N y3 v4_11 w K0
    else
      K0 y3 w

def ref04_NewDecoder.f (a0 : Option Addr) (a0n : Nat) (a0c : Nat) (w : World) (K : Option Addr → World → Prop) : Prop :=
  ref04_full.f  w fun r5_3_0 r5_3_1 w =>
  appL 5 1 1 [(Value.int .u8 0)] none 0 0 a0 a0n a0c w fun a7_4 a7_4n a7_4c w =>
  newC 100 [(Value.int .u32 r5_3_0), (Value.int .u32 r5_3_1), (Value.int .u32 0), (Value.slice a7_4 a7_4n a7_4c), (Value.int .i64 0)] w fun a9_5 w =>
  ∃ N_12 : Nat, ref04_NewDecoder.l3 N_12 a9_5 0 w
  (fun o3_13 w =>
    K (some o3_13) w)
def ref04_NewDecoder.H (F : type_of% @ref04_NewDecoder.f) : Hf := fun args w K => match args with
  | [v0] => vL v0 fun a0 a0n a0c => F a0 a0n a0c w (fun r0 w => K (Value.pointer r0) w)
  | _ => False
def ref04_NewDecoder.h : Hf := ref04_NewDecoder.H @ref04_NewDecoder.f
def ref04_NewDecoder.C : Hd := hcons 58 ref04_Decoder_take.h (hcons 50 ref04_full.h (hnil))
theorem ref04_NewDecoder.C_ok : CSound Try.prog ref04_NewDecoder.C := hcons_ok ref04_Decoder_take.ok (hcons_ok ref04_full.ok (hnil_ok))
def ref04_NewDecoder.D : Nat → Plan := fun i => .done
noncomputable def ref04_NewDecoder.c : Code := Try.f34.body.getD .skip
theorem ref04_NewDecoder.hb : Try.f34.body = some ref04_NewDecoder.c := by kernel_rfl
noncomputable def ref04_NewDecoder.b0 : Code := (loopsOf ref04_NewDecoder.c).getD 0 .skip
theorem ref04_NewDecoder.b0_loops : loopsOf ref04_NewDecoder.b0 = [] := by kernel_rfl
theorem ref04_NewDecoder.c_loops : loopsOf ref04_NewDecoder.c = [ref04_NewDecoder.b0] := by kernel_rfl
def ref04_NewDecoder.hn3 (N : Nat) (f : Fr) (w : World) (K : AExit → Fr → World → Prop) : Prop :=
  gN f 17 <| gQ f 3 fun y3 => gI .i64 f 4 fun y4 => ref04_NewDecoder.l3 N y3 y4 w (fun o3 w => K (.exit 0) [none, none, none, some (Value.pointer (some o3)), none, none, none, none, none, none, none, none, none, none, none, none, none] w)
def ref04_NewDecoder.hx3 : AExit → Fr → World → (AExit → Fr → World → Prop) → Prop := fun e f w K => match e with
  | .normal => False
  | .exit i => (match Nat.beq i 0 with | true => gN f 17 <| gQ f 3 fun o3 => K (.exit 0) [none, none, none, some (Value.pointer (some o3)), none, none, none, none, none, none, none, none, none, none, none, none, none] w | false => False)
  | .ret => False
def ref04_NewDecoder.L : LHd := fun l f w K => (match Nat.beq l 3 with | true => ∃ N, ref04_NewDecoder.hn3 N f w K | false => False)
theorem ref04_NewDecoder.le3 (N : Nat) (y3 : Addr) (y4 : Int) (w : World) (K : AExit → Fr → World → Prop) : awp ref04_NewDecoder.C ref04_NewDecoder.L ref04_NewDecoder.D tab ref04_NewDecoder.b0 (lpost ref04_NewDecoder.hn3 ref04_NewDecoder.hx3 N K) [none, none, none, some (Value.pointer (some y3)), some (Value.int .i64 y4), none, none, none, none, none, none, none, none, none, none, none, none] w = ref04_NewDecoder.l3 (N + 1) y3 y4 w (fun o3 w => K (.exit 0) [none, none, none, some (Value.pointer (some o3)), none, none, none, none, none, none, none, none, none, none, none, none, none] w) := by kernel_rfl
theorem ref04_NewDecoder.lok3 : LoopOk Try.prog ref04_NewDecoder.L ref04_NewDecoder.b0 := by
  refine loop_ok tab_ok ref04_NewDecoder.C_ok (D := ref04_NewDecoder.D) (ref04_NewDecoder.hn3) (ref04_NewDecoder.hx3) (by kernel_rfl) (by rw [ref04_NewDecoder.b0_loops]; exact lnil) ?_ ?_ ?_ ?_
  · intro f w K h
    unfold ref04_NewDecoder.hn3 at h
    obtain ⟨hlen, h⟩ := gN_ok h
    obtain ⟨y3, h3, h⟩ := gQ_ok h
    obtain ⟨y4, h4, h⟩ := gI_ok h
    exact h
  · intro N f w K h
    unfold ref04_NewDecoder.hn3 at h
    obtain ⟨hlen, h⟩ := gN_ok h
    obtain ⟨y3, h3, h⟩ := gQ_ok h
    obtain ⟨y4, h4, h⟩ := gI_ok h
    refine ⟨[none, none, none, some (Value.pointer (some y3)), some (Value.int .i64 y4), none, none, none, none, none, none, none, none, none, none, none, none], hlen, ⟨h3, h4, trivial⟩, ?_⟩
    rw [ref04_NewDecoder.le3]
    exact h
  · intro e f w K h
    cases e with
    | normal => exact h.elim
    | exit i =>
      unfold ref04_NewDecoder.hx3 at h
      simp only at h
      split at h
      · rename_i hb
        obtain rfl := Nat.eq_of_beq_eq_true hb
        obtain ⟨hlen, h⟩ := gN_ok h
        obtain ⟨o3, h3, h⟩ := gQ_ok h
        exact ⟨[none, none, none, some (Value.pointer (some o3)), none, none, none, none, none, none, none, none, none, none, none, none, none], hlen, ⟨h3, trivial⟩, h⟩
      · exact (show False from h).elim
    | ret =>
      exact (show False from h).elim
  · intro f w K h
    have e : lid ref04_NewDecoder.b0 = 3 := by kernel_rfl
    rw [e] at h
    exact h
theorem ref04_NewDecoder.eq (a0 : Option Addr) (a0n : Nat) (a0c : Nat) (w : World) (K : Value → World → Prop) : afn ref04_NewDecoder.C ref04_NewDecoder.L ref04_NewDecoder.D tab Try.f34 [(Value.slice a0 a0n a0c)] w K = ref04_NewDecoder.f a0 a0n a0c w (fun r0 w => K (Value.pointer r0) w) := by kernel_rfl
theorem ref04_NewDecoder.ok : FSound Try.prog 34 ref04_NewDecoder.h := by
  intro args w K h
  unfold ref04_NewDecoder.h ref04_NewDecoder.H at h
  split at h
  ·
    replace h := vL_ok h
    obtain ⟨a0, a0n, a0c, rfl, h⟩ := h
    refine ⟨by kernel_rfl, fn_ok tab_ok ref04_NewDecoder.C_ok (L := ref04_NewDecoder.L) (D := ref04_NewDecoder.D) Try.func34 ref04_NewDecoder.hb (by kernel_rfl) (by rw [ref04_NewDecoder.c_loops]; exact lcons ref04_NewDecoder.lok3 (lnil)) (Nat.le_of_ble_eq_true (by kernel_rfl)) ?_⟩
    rw [ref04_NewDecoder.eq]
    exact h
  · exact h.elim
/-! ### (*valise/valiseref04.Decoder).Decode: function 35 -/
def ref04_Decoder_Decode.l5 : Nat → Option Addr → Int → World → (Int → World → Prop) → Prop
  | 0, _, _, _, _ => False
  | N + 1, y0, y5, w, K0 =>
    sm y0 fun p_21 =>
    ldI .u32 (p_21.add 0) w fun x30_22 =>
    ldI .u32 (p_21.add 1) w fun x30_23 =>
    ref04_Range_out.f x30_22 x30_23 w fun r31_24 w =>
    bif r31_24 then
      sm y0 fun p_26 =>
      ldI .u32 (p_26.add 0) w fun x36_27 =>
      ldI .u32 (p_26.add 1) w fun x36_28 =>
      ref04_Range_next.f x36_27 x36_28 w fun r37_29_0 r37_29_1 w =>
      sm y0 fun p_30 =>
      stCs p_30 [(Value.int .u32 r37_29_0), (Value.int .u32 r37_29_1)] 0 w fun w =>
      ref04_Decoder_take.f y0 w fun w =>
      ref04_Decoder_Decode.l5 N y0 y5 w K0
    else
      K0 y5 w

def ref04_Decoder_Decode.f (a0 : Option Addr) (a1 : Int) (w : World) (K : Int → World → Prop) : Prop :=
  let J_34 := fun (j5_11 : Int) (w : World) =>
    ((sm a0 fun p_13 =>
    ldI .u32 (p_13.add 0) w fun x21_14 =>
    ldI .u32 (p_13.add 1) w fun x21_15 =>
    ref04_Range_cut.f x21_14 x21_15 j5_11 a1 w fun r24_16_0 r24_16_1 w =>
    sm a0 fun p_17 =>
    stCs p_17 [(Value.int .u32 r24_16_0), (Value.int .u32 r24_16_1)] 0 w fun w =>
    ∃ N_31 : Nat, ref04_Decoder_Decode.l5 N_31 a0 j5_11 w
    (fun o5_32 w =>
      K o5_32 w)) : Prop)
  sm a0 fun p_5 =>
  ldI .u32 (p_5.add 2) w.drew fun x9_6 =>
  sm a0 fun p_7 =>
  ldI .u32 (p_7.add 0) w.drew fun x13_8 =>
  ldI .u32 (p_7.add 1) w.drew fun x13_9 =>
  ref04_Range_Mid.f x13_8 x13_9 a1 w.drew fun r15_10 w =>
  (World.cell? w (p_5.add 2) = some (.int .u32 x9_6)) ∧
  (bif (decide (x9_6 ≤ r15_10)) then
    J_34 1 w
  else
    J_34 0 w)
def ref04_Decoder_Decode.H (F : type_of% @ref04_Decoder_Decode.f) : Hf := fun args w K => match args with
  | [v0, v1] => vP v0 fun a0 => vI .i64 v1 fun a1 => F a0 a1 w (fun r0 w => K (Value.int .i64 r0) w)
  | _ => False
def ref04_Decoder_Decode.h : Hf := ref04_Decoder_Decode.H @ref04_Decoder_Decode.f
def ref04_Decoder_Decode.CG (F59 : type_of% @ref04_Range_Mid.f) (F54 : type_of% @ref04_Range_cut.f) (F55 : type_of% @ref04_Range_out.f) (F56 : type_of% @ref04_Range_next.f) (F58 : type_of% @ref04_Decoder_take.f) : Hd := hcons 58 (ref04_Decoder_take.H F58) (hcons 56 (ref04_Range_next.H F56) (hcons 55 (ref04_Range_out.H F55) (hcons 54 (ref04_Range_cut.H F54) (hcons 59 (ref04_Range_Mid.H F59) (hnil)))))
def ref04_Decoder_Decode.C : Hd := ref04_Decoder_Decode.CG @ref04_Range_Mid.f @ref04_Range_cut.f @ref04_Range_out.f @ref04_Range_next.f @ref04_Decoder_take.f
def ref04_Decoder_Decode.G (F59 : type_of% @ref04_Range_Mid.f) (F54 : type_of% @ref04_Range_cut.f) (F55 : type_of% @ref04_Range_out.f) (F56 : type_of% @ref04_Range_next.f) (F58 : type_of% @ref04_Decoder_take.f) (a0 : Option Addr) (a1 : Int) (w : World) (K : Int → World → Prop) : Prop :=
  let J_34 := fun (j5_11 : Int) (w : World) =>
    ((sm a0 fun p_13 =>
    ldI .u32 (p_13.add 0) w fun x21_14 =>
    ldI .u32 (p_13.add 1) w fun x21_15 =>
    F54 x21_14 x21_15 j5_11 a1 w fun r24_16_0 r24_16_1 w =>
    sm a0 fun p_17 =>
    stCs p_17 [(Value.int .u32 r24_16_0), (Value.int .u32 r24_16_1)] 0 w fun w =>
    ∃ N_31 : Nat, ref04_Decoder_Decode.l5 N_31 a0 j5_11 w
    (fun o5_32 w =>
      K o5_32 w)) : Prop)
  sm a0 fun p_5 =>
  ldI .u32 (p_5.add 2) w.drew fun x9_6 =>
  sm a0 fun p_7 =>
  ldI .u32 (p_7.add 0) w.drew fun x13_8 =>
  ldI .u32 (p_7.add 1) w.drew fun x13_9 =>
  F59 x13_8 x13_9 a1 w.drew fun r15_10 w =>
  (World.cell? w (p_5.add 2) = some (.int .u32 x9_6)) ∧
  (bif (decide (x9_6 ≤ r15_10)) then
    J_34 1 w
  else
    J_34 0 w)
theorem ref04_Decoder_Decode.C_ok : CSound Try.prog ref04_Decoder_Decode.C := hcons_ok ref04_Decoder_take.ok (hcons_ok ref04_Range_next.ok (hcons_ok ref04_Range_out.ok (hcons_ok ref04_Range_cut.ok (hcons_ok ref04_Range_Mid.ok (hnil_ok)))))
def ref04_Decoder_Decode.D : Nat → Plan := fun i => (match Nat.beq i 2 with | true => .take 0 (.take 1 (.take 2 (.take 3 (.take 4 (.take 5 (.take 6 (.take 7 (.take 8 (.eff 9 (.take 10 (.done))))))))))) | false => .done)
noncomputable def ref04_Decoder_Decode.c : Code := Try.f35.body.getD .skip
theorem ref04_Decoder_Decode.hb : Try.f35.body = some ref04_Decoder_Decode.c := by kernel_rfl
noncomputable def ref04_Decoder_Decode.b0 : Code := (loopsOf ref04_Decoder_Decode.c).getD 0 .skip
theorem ref04_Decoder_Decode.b0_loops : loopsOf ref04_Decoder_Decode.b0 = [] := by kernel_rfl
theorem ref04_Decoder_Decode.c_loops : loopsOf ref04_Decoder_Decode.c = [ref04_Decoder_Decode.b0] := by kernel_rfl
def ref04_Decoder_Decode.l5G (F59 : type_of% @ref04_Range_Mid.f) (F54 : type_of% @ref04_Range_cut.f) (F55 : type_of% @ref04_Range_out.f) (F56 : type_of% @ref04_Range_next.f) (F58 : type_of% @ref04_Decoder_take.f) (R : Option Addr → Int → World → (Int → World → Prop) → Prop) : Option Addr → Int → World → (Int → World → Prop) → Prop := fun y0 y5 w K0 =>
    sm y0 fun p_21 =>
    ldI .u32 (p_21.add 0) w fun x30_22 =>
    ldI .u32 (p_21.add 1) w fun x30_23 =>
    F55 x30_22 x30_23 w fun r31_24 w =>
    bif r31_24 then
      sm y0 fun p_26 =>
      ldI .u32 (p_26.add 0) w fun x36_27 =>
      ldI .u32 (p_26.add 1) w fun x36_28 =>
      F56 x36_27 x36_28 w fun r37_29_0 r37_29_1 w =>
      sm y0 fun p_30 =>
      stCs p_30 [(Value.int .u32 r37_29_0), (Value.int .u32 r37_29_1)] 0 w fun w =>
      F58 y0 w fun w =>
      R y0 y5 w K0
    else
      K0 y5 w

def ref04_Decoder_Decode.hn5 (N : Nat) (f : Fr) (w : World) (K : AExit → Fr → World → Prop) : Prop :=
  gN f 43 <| gP f 0 fun y0 => gI .i64 f 5 fun y5 => ref04_Decoder_Decode.l5 N y0 y5 w (fun o5 w => K (.exit 0) [none, none, none, none, none, some (Value.int .i64 o5), none, none, none, none, none, none, none, none, none, none, none, none, none, none, none, none, none, none, none, none, none, none, none, none, none, none, none, none, none, none, none, none, none, none, none, none, none] w)
def ref04_Decoder_Decode.hx5 : AExit → Fr → World → (AExit → Fr → World → Prop) → Prop := fun e f w K => match e with
  | .normal => False
  | .exit i => (match Nat.beq i 0 with | true => gN f 43 <| gI .i64 f 5 fun o5 => K (.exit 0) [none, none, none, none, none, some (Value.int .i64 o5), none, none, none, none, none, none, none, none, none, none, none, none, none, none, none, none, none, none, none, none, none, none, none, none, none, none, none, none, none, none, none, none, none, none, none, none, none] w | false => False)
  | .ret => False
def ref04_Decoder_Decode.L : LHd := fun l f w K => (match Nat.beq l 5 with | true => ∃ N, ref04_Decoder_Decode.hn5 N f w K | false => False)
theorem ref04_Decoder_Decode.leG5 (F59 : type_of% @ref04_Range_Mid.f) (F54 : type_of% @ref04_Range_cut.f) (F55 : type_of% @ref04_Range_out.f) (F56 : type_of% @ref04_Range_next.f) (F58 : type_of% @ref04_Decoder_take.f) (N : Nat) (y0 : Option Addr) (y5 : Int) (w : World) (K : AExit → Fr → World → Prop) : awp (ref04_Decoder_Decode.CG F59 F54 F55 F56 F58) ref04_Decoder_Decode.L ref04_Decoder_Decode.D tab ref04_Decoder_Decode.b0 (lpost ref04_Decoder_Decode.hn5 ref04_Decoder_Decode.hx5 N K) [some (Value.pointer y0), none, none, none, none, some (Value.int .i64 y5), none, none, none, none, none, none, none, none, none, none, none, none, none, none, none, none, none, none, none, none, none, none, none, none, none, none, none, none, none, none, none, none, none, none, none, none, none] w = ref04_Decoder_Decode.l5G F59 F54 F55 F56 F58 (ref04_Decoder_Decode.l5 N) y0 y5 w (fun o5 w => K (.exit 0) [none, none, none, none, none, some (Value.int .i64 o5), none, none, none, none, none, none, none, none, none, none, none, none, none, none, none, none, none, none, none, none, none, none, none, none, none, none, none, none, none, none, none, none, none, none, none, none, none] w) := by kernel_rfl
theorem ref04_Decoder_Decode.les5 (N : Nat) : ref04_Decoder_Decode.l5 (N + 1) = ref04_Decoder_Decode.l5G @ref04_Range_Mid.f @ref04_Range_cut.f @ref04_Range_out.f @ref04_Range_next.f @ref04_Decoder_take.f (ref04_Decoder_Decode.l5 N) := by kernel_rfl
theorem ref04_Decoder_Decode.le5 (N : Nat) (y0 : Option Addr) (y5 : Int) (w : World) (K : AExit → Fr → World → Prop) : awp ref04_Decoder_Decode.C ref04_Decoder_Decode.L ref04_Decoder_Decode.D tab ref04_Decoder_Decode.b0 (lpost ref04_Decoder_Decode.hn5 ref04_Decoder_Decode.hx5 N K) [some (Value.pointer y0), none, none, none, none, some (Value.int .i64 y5), none, none, none, none, none, none, none, none, none, none, none, none, none, none, none, none, none, none, none, none, none, none, none, none, none, none, none, none, none, none, none, none, none, none, none, none, none] w = ref04_Decoder_Decode.l5 (N + 1) y0 y5 w (fun o5 w => K (.exit 0) [none, none, none, none, none, some (Value.int .i64 o5), none, none, none, none, none, none, none, none, none, none, none, none, none, none, none, none, none, none, none, none, none, none, none, none, none, none, none, none, none, none, none, none, none, none, none, none, none] w) := by
  rw [ref04_Decoder_Decode.les5]
  exact ref04_Decoder_Decode.leG5 @ref04_Range_Mid.f @ref04_Range_cut.f @ref04_Range_out.f @ref04_Range_next.f @ref04_Decoder_take.f N y0 y5 w K
theorem ref04_Decoder_Decode.lok5 : LoopOk Try.prog ref04_Decoder_Decode.L ref04_Decoder_Decode.b0 := by
  refine loop_ok tab_ok ref04_Decoder_Decode.C_ok (D := ref04_Decoder_Decode.D) (ref04_Decoder_Decode.hn5) (ref04_Decoder_Decode.hx5) (by kernel_rfl) (by rw [ref04_Decoder_Decode.b0_loops]; exact lnil) ?_ ?_ ?_ ?_
  · intro f w K h
    unfold ref04_Decoder_Decode.hn5 at h
    obtain ⟨hlen, h⟩ := gN_ok h
    obtain ⟨y0, h0, h⟩ := gP_ok h
    obtain ⟨y5, h5, h⟩ := gI_ok h
    exact h
  · intro N f w K h
    unfold ref04_Decoder_Decode.hn5 at h
    obtain ⟨hlen, h⟩ := gN_ok h
    obtain ⟨y0, h0, h⟩ := gP_ok h
    obtain ⟨y5, h5, h⟩ := gI_ok h
    refine ⟨[some (Value.pointer y0), none, none, none, none, some (Value.int .i64 y5), none, none, none, none, none, none, none, none, none, none, none, none, none, none, none, none, none, none, none, none, none, none, none, none, none, none, none, none, none, none, none, none, none, none, none, none, none], hlen, ⟨h0, h5, trivial⟩, ?_⟩
    rw [ref04_Decoder_Decode.le5]
    exact h
  · intro e f w K h
    cases e with
    | normal => exact h.elim
    | exit i =>
      unfold ref04_Decoder_Decode.hx5 at h
      simp only at h
      split at h
      · rename_i hb
        obtain rfl := Nat.eq_of_beq_eq_true hb
        obtain ⟨hlen, h⟩ := gN_ok h
        obtain ⟨o5, h5, h⟩ := gI_ok h
        exact ⟨[none, none, none, none, none, some (Value.int .i64 o5), none, none, none, none, none, none, none, none, none, none, none, none, none, none, none, none, none, none, none, none, none, none, none, none, none, none, none, none, none, none, none, none, none, none, none, none, none], hlen, ⟨h5, trivial⟩, h⟩
      · exact (show False from h).elim
    | ret =>
      exact (show False from h).elim
  · intro f w K h
    have e : lid ref04_Decoder_Decode.b0 = 5 := by kernel_rfl
    rw [e] at h
    exact h
theorem ref04_Decoder_Decode.eqG (F59 : type_of% @ref04_Range_Mid.f) (F54 : type_of% @ref04_Range_cut.f) (F55 : type_of% @ref04_Range_out.f) (F56 : type_of% @ref04_Range_next.f) (F58 : type_of% @ref04_Decoder_take.f) (a0 : Option Addr) (a1 : Int) (w : World) (K : Value → World → Prop) : afn (ref04_Decoder_Decode.CG F59 F54 F55 F56 F58) ref04_Decoder_Decode.L ref04_Decoder_Decode.D tab Try.f35 [(Value.pointer a0), (Value.int .i64 a1)] w K = ref04_Decoder_Decode.G F59 F54 F55 F56 F58 a0 a1 w (fun r0 w => K (Value.int .i64 r0) w) := by kernel_rfl
theorem ref04_Decoder_Decode.eq (a0 : Option Addr) (a1 : Int) (w : World) (K : Value → World → Prop) : afn ref04_Decoder_Decode.C ref04_Decoder_Decode.L ref04_Decoder_Decode.D tab Try.f35 [(Value.pointer a0), (Value.int .i64 a1)] w K = ref04_Decoder_Decode.f a0 a1 w (fun r0 w => K (Value.int .i64 r0) w) := ref04_Decoder_Decode.eqG @ref04_Range_Mid.f @ref04_Range_cut.f @ref04_Range_out.f @ref04_Range_next.f @ref04_Decoder_take.f a0 a1 w K
theorem ref04_Decoder_Decode.ok : FSound Try.prog 35 ref04_Decoder_Decode.h := by
  intro args w K h
  unfold ref04_Decoder_Decode.h ref04_Decoder_Decode.H at h
  split at h
  ·
    replace h := vP_ok h
    obtain ⟨a0, rfl, h⟩ := h
    replace h := vI_ok h
    obtain ⟨a1, rfl, h⟩ := h
    refine ⟨by kernel_rfl, fn_ok tab_ok ref04_Decoder_Decode.C_ok (L := ref04_Decoder_Decode.L) (D := ref04_Decoder_Decode.D) Try.func35 ref04_Decoder_Decode.hb (by kernel_rfl) (by rw [ref04_Decoder_Decode.c_loops]; exact lcons ref04_Decoder_Decode.lok5 (lnil)) (Nat.le_of_ble_eq_true (by kernel_rfl)) ?_⟩
    rw [ref04_Decoder_Decode.eq]
    exact h
  · exact h.elim
/-! ### (*valise/valiseref04.Decoder).Past: function 36 -/
def ref04_Decoder_Past.f (a0 : Option Addr) (w : World) (K : Int → World → Prop) : Prop :=
  sm a0 fun p_3 =>
  ldI .i64 (p_3.add 4) w.drew fun x6_4 =>
  sm a0 fun p_5 =>
  ldL (p_5.add 3) w.drew fun x10_6 x10_6n x10_6c =>
  let v2_7 := (mx 0 (IntKind.wrap .i64 (x6_4 - ((x10_6n : Nat) : Int))))
  K v2_7 w.drew
def ref04_Decoder_Past.H (F : type_of% @ref04_Decoder_Past.f) : Hf := fun args w K => match args with
  | [v0] => vP v0 fun a0 => F a0 w (fun r0 w => K (Value.int .i64 r0) w)
  | _ => False
def ref04_Decoder_Past.h : Hf := ref04_Decoder_Past.H @ref04_Decoder_Past.f
def ref04_Decoder_Past.C : Hd := hnil
theorem ref04_Decoder_Past.C_ok : CSound Try.prog ref04_Decoder_Past.C := hnil_ok
def ref04_Decoder_Past.D : Nat → Plan := fun i => (match Nat.beq i 1 with | true => .take 0 (.take 1 (.take 2 (.take 3 (.take 4 (.take 5 (.take 6 (.take 7 (.take 8 (.take 9 (.take 10 (.take 11 (.done)))))))))))) | false => .done)
noncomputable def ref04_Decoder_Past.c : Code := Try.f36.body.getD .skip
theorem ref04_Decoder_Past.hb : Try.f36.body = some ref04_Decoder_Past.c := by kernel_rfl
theorem ref04_Decoder_Past.c_loops : loopsOf ref04_Decoder_Past.c = [] := by kernel_rfl
def ref04_Decoder_Past.L : LHd := fun l f w K => False
theorem ref04_Decoder_Past.eq (a0 : Option Addr) (w : World) (K : Value → World → Prop) : afn ref04_Decoder_Past.C ref04_Decoder_Past.L ref04_Decoder_Past.D tab Try.f36 [(Value.pointer a0)] w K = ref04_Decoder_Past.f a0 w (fun r0 w => K (Value.int .i64 r0) w) := by kernel_rfl
theorem ref04_Decoder_Past.ok : FSound Try.prog 36 ref04_Decoder_Past.h := by
  intro args w K h
  unfold ref04_Decoder_Past.h ref04_Decoder_Past.H at h
  split at h
  ·
    replace h := vP_ok h
    obtain ⟨a0, rfl, h⟩ := h
    refine ⟨by kernel_rfl, fn_ok tab_ok ref04_Decoder_Past.C_ok (L := ref04_Decoder_Past.L) (D := ref04_Decoder_Past.D) Try.func36 ref04_Decoder_Past.hb (by kernel_rfl) (by rw [ref04_Decoder_Past.c_loops]; exact lnil) (Nat.le_of_ble_eq_true (by kernel_rfl)) ?_⟩
    rw [ref04_Decoder_Past.eq]
    exact h
  · exact h.elim

end Go.Proofs.Ytinmhmphidgdeaa.G
