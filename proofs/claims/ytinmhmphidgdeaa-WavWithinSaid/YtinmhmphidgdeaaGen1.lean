/- Go functions as predicate transformers, written by a program of this session (gen.py), with their soundness. -/
import Derived.Test.YtinmhmphidgdeaaGenT
set_option linter.unusedVariables false
set_option linter.unusedSimpArgs false
set_option maxRecDepth 100000
namespace Go.Proofs.Ytinmhmphidgdeaa.G
open Go Go.Proofs.Ytinmhmphidgdeaa.Vm
/-! ### valise/wav.frame: function 41 -/
def wav_frame.f (a0_0 : Int) (a0_1 : Int) (a0_2 : Int) (a0_3 : Int) (w : World) (K : Int → World → Prop) : Prop :=
  newC 26 [(Value.int .i64 a0_0), (Value.int .i64 a0_1), (Value.int .i64 a0_2), (Value.int .i64 a0_3)] w fun a1_2 w =>
  let J_16 := fun  (w : World) =>
    ((ldI .i64 a1_2 w fun x22_13 =>
    ldI .i64 (a1_2.add 1) w fun x24_14 =>
    let v2_15 := (IntKind.wrap .i64 (Int.tdiv (IntKind.wrap .i64 (x22_13 * x24_14)) 8))
    K v2_15 w) : Prop)
  ldI .i64 a1_2 w fun x4_5 =>
  bif (decide (x4_5 < 1)) then
    K 0 w
  else
    ldI .i64 a1_2 w fun x8_6 =>
    bif (decide (x8_6 > 8)) then
      K 0 w
    else
      ldI .i64 (a1_2.add 1) w fun x13_7 =>
      bif (x13_7 != 8) then
        ldI .i64 (a1_2.add 1) w fun x17_8 =>
        bif (x17_8 != 16) then
          K 0 w
        else
          J_16 w
      else
        J_16 w
def wav_frame.H (F : type_of% @wav_frame.f) : Hf := fun args w K => match args with
  | [v0] => vT v0 fun l => cI .i64 l fun a0_0 l => cI .i64 l fun a0_1 l => cI .i64 l fun a0_2 l => cI .i64 l fun a0_3 l => cE l <| F a0_0 a0_1 a0_2 a0_3 w (fun r0 w => K (Value.int .i64 r0) w)
  | _ => False
def wav_frame.h : Hf := wav_frame.H @wav_frame.f
def wav_frame.C : Hd := hnil
theorem wav_frame.C_ok : CSound Try.prog wav_frame.C := hnil_ok
def wav_frame.D : Nat → Plan := fun i => .done
noncomputable def wav_frame.c : Code := Try.f41.body.getD .skip
theorem wav_frame.hb : Try.f41.body = some wav_frame.c := by kernel_rfl
theorem wav_frame.c_loops : loopsOf wav_frame.c = [] := by kernel_rfl
def wav_frame.L : LHd := fun l f w K => False
theorem wav_frame.eq (a0_0 : Int) (a0_1 : Int) (a0_2 : Int) (a0_3 : Int) (w : World) (K : Value → World → Prop) : afn wav_frame.C wav_frame.L wav_frame.D tab Try.f41 [(Value.agg #[(Value.int .i64 a0_0), (Value.int .i64 a0_1), (Value.int .i64 a0_2), (Value.int .i64 a0_3)])] w K = wav_frame.f a0_0 a0_1 a0_2 a0_3 w (fun r0 w => K (Value.int .i64 r0) w) := by kernel_rfl
theorem wav_frame.ok : FSound Try.prog 41 wav_frame.h := by
  intro args w K h
  unfold wav_frame.h wav_frame.H at h
  split at h
  ·
    replace h := vT_ok h
    obtain ⟨l, rfl, h⟩ := h
    replace h := cI_ok h; obtain ⟨a0_0, l, rfl, h⟩ := h
    replace h := cI_ok h; obtain ⟨a0_1, l, rfl, h⟩ := h
    replace h := cI_ok h; obtain ⟨a0_2, l, rfl, h⟩ := h
    replace h := cI_ok h; obtain ⟨a0_3, l, rfl, h⟩ := h
    replace h := cE_ok h; obtain ⟨rfl, h⟩ := h
    refine ⟨by kernel_rfl, fn_ok tab_ok wav_frame.C_ok (L := wav_frame.L) (D := wav_frame.D) Try.func41 wav_frame.hb (by kernel_rfl) (by rw [wav_frame.c_loops]; exact lnil) (Nat.le_of_ble_eq_true (by kernel_rfl)) ?_⟩
    rw [wav_frame.eq]
    exact h
  · exact h.elim
/-! ### (*valise/num.buffer).put: function 65 -/
def num_buffer_put.l1 : Nat → Option Addr → Option Addr → Nat → Nat → Int → Int → World → (World → Prop) → Prop
  | 0, _, _, _, _, _, _, _, _ => False
  | N + 1, y0, y6, y6n, y6c, y7, y8, w, K0 =>
    bif (decide (y8 < y7)) then
      sm y6 fun p_6 =>
      if 0 ≤ (y8 : Int) ∧ (y8 : Int) < ((y6n : Nat) : Int) then
      ldL (p_6.add (Int.toNat y8)) w fun x11_7 x11_7n x11_7c =>
      sm y0 fun p_8 =>
      ldL p_8 w fun x16_9 x16_9n x16_9c =>
      appL 5 1 1 [(Value.int .u8 0)] x16_9 x16_9n x16_9c x11_7 x11_7n x11_7c w fun a18_10 a18_10n a18_10c w =>
      sm y0 fun p_11 =>
      stC p_11 (Value.slice a18_10 a18_10n a18_10c) w fun w =>
      num_buffer_put.l1 N y0 y6 y6n y6c y7 (IntKind.wrap .i64 (y8 + 1)) w K0
      else False
    else
      K0 w

def num_buffer_put.f (a0 : Option Addr) (a1 : Option Addr) (a1n : Nat) (a1c : Nat) (w : World) (K : World → Prop) : Prop :=
  ∃ N_12 : Nat, num_buffer_put.l1 N_12 a0 a1 a1n a1c ((a1n : Nat) : Int) 0 w
  (fun w =>
    K w)
def num_buffer_put.H (F : type_of% @num_buffer_put.f) : Hf := fun args w K => match args with
  | [v0, v1] => vP v0 fun a0 => vL v1 fun a1 a1n a1c => F a0 a1 a1n a1c w (fun w => K (Value.tuple #[]) w)
  | _ => False
def num_buffer_put.h : Hf := num_buffer_put.H @num_buffer_put.f
def num_buffer_put.C : Hd := hnil
theorem num_buffer_put.C_ok : CSound Try.prog num_buffer_put.C := hnil_ok
def num_buffer_put.D : Nat → Plan := fun i => .done
noncomputable def num_buffer_put.c : Code := Try.f65.body.getD .skip
theorem num_buffer_put.hb : Try.f65.body = some num_buffer_put.c := by kernel_rfl
noncomputable def num_buffer_put.b0 : Code := (loopsOf num_buffer_put.c).getD 0 .skip
theorem num_buffer_put.b0_loops : loopsOf num_buffer_put.b0 = [] := by kernel_rfl
theorem num_buffer_put.c_loops : loopsOf num_buffer_put.c = [num_buffer_put.b0] := by kernel_rfl
def num_buffer_put.hn1 (N : Nat) (f : Fr) (w : World) (K : AExit → Fr → World → Prop) : Prop :=
  gN f 22 <| gP f 0 fun y0 => gL f 6 fun y6 y6n y6c => gI .i64 f 7 fun y7 => gI .i64 f 8 fun y8 => num_buffer_put.l1 N y0 y6 y6n y6c y7 y8 w (fun w => K (.exit 0) [none, none, none, none, none, none, none, none, none, none, none, none, none, none, none, none, none, none, none, none, none, none] w)
def num_buffer_put.hx1 : AExit → Fr → World → (AExit → Fr → World → Prop) → Prop := fun e f w K => match e with
  | .normal => False
  | .exit i => (match Nat.beq i 0 with | true => gN f 22 <|  K (.exit 0) [none, none, none, none, none, none, none, none, none, none, none, none, none, none, none, none, none, none, none, none, none, none] w | false => False)
  | .ret => False
def num_buffer_put.L : LHd := fun l f w K => (match Nat.beq l 1 with | true => ∃ N, num_buffer_put.hn1 N f w K | false => False)
theorem num_buffer_put.le1 (N : Nat) (y0 : Option Addr) (y6 : Option Addr) (y6n : Nat) (y6c : Nat) (y7 : Int) (y8 : Int) (w : World) (K : AExit → Fr → World → Prop) : awp num_buffer_put.C num_buffer_put.L num_buffer_put.D tab num_buffer_put.b0 (lpost num_buffer_put.hn1 num_buffer_put.hx1 N K) [some (Value.pointer y0), none, none, none, none, none, some (Value.slice y6 y6n y6c), some (Value.int .i64 y7), some (Value.int .i64 y8), none, none, none, none, none, none, none, none, none, none, none, none, none] w = num_buffer_put.l1 (N + 1) y0 y6 y6n y6c y7 y8 w (fun w => K (.exit 0) [none, none, none, none, none, none, none, none, none, none, none, none, none, none, none, none, none, none, none, none, none, none] w) := by kernel_rfl
theorem num_buffer_put.lok1 : LoopOk Try.prog num_buffer_put.L num_buffer_put.b0 := by
  refine loop_ok tab_ok num_buffer_put.C_ok (D := num_buffer_put.D) (num_buffer_put.hn1) (num_buffer_put.hx1) (by kernel_rfl) (by rw [num_buffer_put.b0_loops]; exact lnil) ?_ ?_ ?_ ?_
  · intro f w K h
    unfold num_buffer_put.hn1 at h
    obtain ⟨hlen, h⟩ := gN_ok h
    obtain ⟨y0, h0, h⟩ := gP_ok h
    obtain ⟨y6, y6n, y6c, h6, h⟩ := gL_ok h
    obtain ⟨y7, h7, h⟩ := gI_ok h
    obtain ⟨y8, h8, h⟩ := gI_ok h
    exact h
  · intro N f w K h
    unfold num_buffer_put.hn1 at h
    obtain ⟨hlen, h⟩ := gN_ok h
    obtain ⟨y0, h0, h⟩ := gP_ok h
    obtain ⟨y6, y6n, y6c, h6, h⟩ := gL_ok h
    obtain ⟨y7, h7, h⟩ := gI_ok h
    obtain ⟨y8, h8, h⟩ := gI_ok h
    refine ⟨[some (Value.pointer y0), none, none, none, none, none, some (Value.slice y6 y6n y6c), some (Value.int .i64 y7), some (Value.int .i64 y8), none, none, none, none, none, none, none, none, none, none, none, none, none], hlen, ⟨h0, h6, h7, h8, trivial⟩, ?_⟩
    rw [num_buffer_put.le1]
    exact h
  · intro e f w K h
    cases e with
    | normal => exact h.elim
    | exit i =>
      unfold num_buffer_put.hx1 at h
      simp only at h
      split at h
      · rename_i hb
        obtain rfl := Nat.eq_of_beq_eq_true hb
        obtain ⟨hlen, h⟩ := gN_ok h
        exact ⟨[none, none, none, none, none, none, none, none, none, none, none, none, none, none, none, none, none, none, none, none, none, none], hlen, trivial, h⟩
      · exact (show False from h).elim
    | ret =>
      exact (show False from h).elim
  · intro f w K h
    have e : lid num_buffer_put.b0 = 1 := by kernel_rfl
    rw [e] at h
    exact h
theorem num_buffer_put.eq (a0 : Option Addr) (a1 : Option Addr) (a1n : Nat) (a1c : Nat) (w : World) (K : Value → World → Prop) : afn num_buffer_put.C num_buffer_put.L num_buffer_put.D tab Try.f65 [(Value.pointer a0), (Value.slice a1 a1n a1c)] w K = num_buffer_put.f a0 a1 a1n a1c w (fun w => K (Value.tuple #[]) w) := by kernel_rfl
theorem num_buffer_put.ok : FSound Try.prog 65 num_buffer_put.h := by
  intro args w K h
  unfold num_buffer_put.h num_buffer_put.H at h
  split at h
  ·
    replace h := vP_ok h
    obtain ⟨a0, rfl, h⟩ := h
    replace h := vL_ok h
    obtain ⟨a1, a1n, a1c, rfl, h⟩ := h
    refine ⟨by kernel_rfl, fn_ok tab_ok num_buffer_put.C_ok (L := num_buffer_put.L) (D := num_buffer_put.D) Try.func65 num_buffer_put.hb (by kernel_rfl) (by rw [num_buffer_put.c_loops]; exact lcons num_buffer_put.lok1 (lnil)) (Nat.le_of_ble_eq_true (by kernel_rfl)) ?_⟩
    rw [num_buffer_put.eq]
    exact h
  · exact h.elim
/-! ### (*valise/num.Writer).Raw: function 45 -/
def num_Writer_Raw.f (a0 : Option Addr) (a1 : Option Addr) (a1n : Nat) (a1c : Nat) (w : World) (K : World → Prop) : Prop :=
  bif (!a0.isNone) then
    sm a0 fun p_2 =>
    num_buffer_put.f (some p_2) a1 a1n a1c w fun w =>
    K w
  else
    K w
def num_Writer_Raw.H (F : type_of% @num_Writer_Raw.f) : Hf := fun args w K => match args with
  | [v0, v1] => vP v0 fun a0 => vL v1 fun a1 a1n a1c => F a0 a1 a1n a1c w (fun w => K (Value.tuple #[]) w)
  | _ => False
def num_Writer_Raw.h : Hf := num_Writer_Raw.H @num_Writer_Raw.f
def num_Writer_Raw.C : Hd := hcons 65 num_buffer_put.h (hnil)
theorem num_Writer_Raw.C_ok : CSound Try.prog num_Writer_Raw.C := hcons_ok num_buffer_put.ok (hnil_ok)
def num_Writer_Raw.D : Nat → Plan := fun i => .done
noncomputable def num_Writer_Raw.c : Code := Try.f45.body.getD .skip
theorem num_Writer_Raw.hb : Try.f45.body = some num_Writer_Raw.c := by kernel_rfl
theorem num_Writer_Raw.c_loops : loopsOf num_Writer_Raw.c = [] := by kernel_rfl
def num_Writer_Raw.L : LHd := fun l f w K => False
theorem num_Writer_Raw.eq (a0 : Option Addr) (a1 : Option Addr) (a1n : Nat) (a1c : Nat) (w : World) (K : Value → World → Prop) : afn num_Writer_Raw.C num_Writer_Raw.L num_Writer_Raw.D tab Try.f45 [(Value.pointer a0), (Value.slice a1 a1n a1c)] w K = num_Writer_Raw.f a0 a1 a1n a1c w (fun w => K (Value.tuple #[]) w) := by kernel_rfl
theorem num_Writer_Raw.ok : FSound Try.prog 45 num_Writer_Raw.h := by
  intro args w K h
  unfold num_Writer_Raw.h num_Writer_Raw.H at h
  split at h
  ·
    replace h := vP_ok h
    obtain ⟨a0, rfl, h⟩ := h
    replace h := vL_ok h
    obtain ⟨a1, a1n, a1c, rfl, h⟩ := h
    refine ⟨by kernel_rfl, fn_ok tab_ok num_Writer_Raw.C_ok (L := num_Writer_Raw.L) (D := num_Writer_Raw.D) Try.func45 num_Writer_Raw.hb (by kernel_rfl) (by rw [num_Writer_Raw.c_loops]; exact lnil) (Nat.le_of_ble_eq_true (by kernel_rfl)) ?_⟩
    rw [num_Writer_Raw.eq]
    exact h
  · exact h.elim
/-! ### (*valise/num.Writer).Little: function 46 -/
def num_Writer_Little.l1 : Nat → Option Addr → Int → Int → Int → World → (World → Prop) → Prop
  | 0, _, _, _, _, _, _ => False
  | N + 1, y0, y1, y9, y10, w, K0 =>
    bif (decide (y10 < y9)) then
      if (IntKind.wrap .i64 (8 * y10)) < 0 then False else
      newC 5 [(Value.int .u8 (IntKind.wrap .u8 (shr .u64 y1 (min (Int.toNat (IntKind.wrap .i64 (8 * y10))) (IntKind.bits .u64)))))] w fun a19_6 w =>
      newC 22 [(Value.slice (some a19_6) 1 1)] w fun a20_7 w =>
      num_Writer_Raw.f y0 (some a20_7) 1 1 w fun w =>
      num_Writer_Little.l1 N y0 y1 y9 (IntKind.wrap .i64 (y10 + 1)) w K0
    else
      K0 w

def num_Writer_Little.f (a0 : Option Addr) (a1 : Int) (a2 : Int) (w : World) (K : World → Prop) : Prop :=
  ∃ N_8 : Nat, num_Writer_Little.l1 N_8 a0 a1 (mx (mn a2 8) 0) 0 w
  (fun w =>
    K w)
def num_Writer_Little.H (F : type_of% @num_Writer_Little.f) : Hf := fun args w K => match args with
  | [v0, v1, v2] => vP v0 fun a0 => vI .u64 v1 fun a1 => vI .i64 v2 fun a2 => F a0 a1 a2 w (fun w => K (Value.tuple #[]) w)
  | _ => False
def num_Writer_Little.h : Hf := num_Writer_Little.H @num_Writer_Little.f
def num_Writer_Little.C : Hd := hcons 45 num_Writer_Raw.h (hnil)
theorem num_Writer_Little.C_ok : CSound Try.prog num_Writer_Little.C := hcons_ok num_Writer_Raw.ok (hnil_ok)
def num_Writer_Little.D : Nat → Plan := fun i => .done
noncomputable def num_Writer_Little.c : Code := Try.f46.body.getD .skip
theorem num_Writer_Little.hb : Try.f46.body = some num_Writer_Little.c := by kernel_rfl
noncomputable def num_Writer_Little.b0 : Code := (loopsOf num_Writer_Little.c).getD 0 .skip
theorem num_Writer_Little.b0_loops : loopsOf num_Writer_Little.b0 = [] := by kernel_rfl
theorem num_Writer_Little.c_loops : loopsOf num_Writer_Little.c = [num_Writer_Little.b0] := by kernel_rfl
def num_Writer_Little.hn1 (N : Nat) (f : Fr) (w : World) (K : AExit → Fr → World → Prop) : Prop :=
  gN f 23 <| gP f 0 fun y0 => gI .u64 f 1 fun y1 => gI .i64 f 9 fun y9 => gI .i64 f 10 fun y10 => num_Writer_Little.l1 N y0 y1 y9 y10 w (fun w => K (.exit 0) [none, none, none, none, none, none, none, none, none, none, none, none, none, none, none, none, none, none, none, none, none, none, none] w)
def num_Writer_Little.hx1 : AExit → Fr → World → (AExit → Fr → World → Prop) → Prop := fun e f w K => match e with
  | .normal => False
  | .exit i => (match Nat.beq i 0 with | true => gN f 23 <|  K (.exit 0) [none, none, none, none, none, none, none, none, none, none, none, none, none, none, none, none, none, none, none, none, none, none, none] w | false => False)
  | .ret => False
def num_Writer_Little.L : LHd := fun l f w K => (match Nat.beq l 1 with | true => ∃ N, num_Writer_Little.hn1 N f w K | false => False)
theorem num_Writer_Little.le1 (N : Nat) (y0 : Option Addr) (y1 : Int) (y9 : Int) (y10 : Int) (w : World) (K : AExit → Fr → World → Prop) : awp num_Writer_Little.C num_Writer_Little.L num_Writer_Little.D tab num_Writer_Little.b0 (lpost num_Writer_Little.hn1 num_Writer_Little.hx1 N K) [some (Value.pointer y0), some (Value.int .u64 y1), none, none, none, none, none, none, none, some (Value.int .i64 y9), some (Value.int .i64 y10), none, none, none, none, none, none, none, none, none, none, none, none] w = num_Writer_Little.l1 (N + 1) y0 y1 y9 y10 w (fun w => K (.exit 0) [none, none, none, none, none, none, none, none, none, none, none, none, none, none, none, none, none, none, none, none, none, none, none] w) := by kernel_rfl
theorem num_Writer_Little.lok1 : LoopOk Try.prog num_Writer_Little.L num_Writer_Little.b0 := by
  refine loop_ok tab_ok num_Writer_Little.C_ok (D := num_Writer_Little.D) (num_Writer_Little.hn1) (num_Writer_Little.hx1) (by kernel_rfl) (by rw [num_Writer_Little.b0_loops]; exact lnil) ?_ ?_ ?_ ?_
  · intro f w K h
    unfold num_Writer_Little.hn1 at h
    obtain ⟨hlen, h⟩ := gN_ok h
    obtain ⟨y0, h0, h⟩ := gP_ok h
    obtain ⟨y1, h1, h⟩ := gI_ok h
    obtain ⟨y9, h9, h⟩ := gI_ok h
    obtain ⟨y10, h10, h⟩ := gI_ok h
    exact h
  · intro N f w K h
    unfold num_Writer_Little.hn1 at h
    obtain ⟨hlen, h⟩ := gN_ok h
    obtain ⟨y0, h0, h⟩ := gP_ok h
    obtain ⟨y1, h1, h⟩ := gI_ok h
    obtain ⟨y9, h9, h⟩ := gI_ok h
    obtain ⟨y10, h10, h⟩ := gI_ok h
    refine ⟨[some (Value.pointer y0), some (Value.int .u64 y1), none, none, none, none, none, none, none, some (Value.int .i64 y9), some (Value.int .i64 y10), none, none, none, none, none, none, none, none, none, none, none, none], hlen, ⟨h0, h1, h9, h10, trivial⟩, ?_⟩
    rw [num_Writer_Little.le1]
    exact h
  · intro e f w K h
    cases e with
    | normal => exact h.elim
    | exit i =>
      unfold num_Writer_Little.hx1 at h
      simp only at h
      split at h
      · rename_i hb
        obtain rfl := Nat.eq_of_beq_eq_true hb
        obtain ⟨hlen, h⟩ := gN_ok h
        exact ⟨[none, none, none, none, none, none, none, none, none, none, none, none, none, none, none, none, none, none, none, none, none, none, none], hlen, trivial, h⟩
      · exact (show False from h).elim
    | ret =>
      exact (show False from h).elim
  · intro f w K h
    have e : lid num_Writer_Little.b0 = 1 := by kernel_rfl
    rw [e] at h
    exact h
theorem num_Writer_Little.eq (a0 : Option Addr) (a1 : Int) (a2 : Int) (w : World) (K : Value → World → Prop) : afn num_Writer_Little.C num_Writer_Little.L num_Writer_Little.D tab Try.f46 [(Value.pointer a0), (Value.int .u64 a1), (Value.int .i64 a2)] w K = num_Writer_Little.f a0 a1 a2 w (fun w => K (Value.tuple #[]) w) := by kernel_rfl
theorem num_Writer_Little.ok : FSound Try.prog 46 num_Writer_Little.h := by
  intro args w K h
  unfold num_Writer_Little.h num_Writer_Little.H at h
  split at h
  ·
    replace h := vP_ok h
    obtain ⟨a0, rfl, h⟩ := h
    replace h := vI_ok h
    obtain ⟨a1, rfl, h⟩ := h
    replace h := vI_ok h
    obtain ⟨a2, rfl, h⟩ := h
    refine ⟨by kernel_rfl, fn_ok tab_ok num_Writer_Little.C_ok (L := num_Writer_Little.L) (D := num_Writer_Little.D) Try.func46 num_Writer_Little.hb (by kernel_rfl) (by rw [num_Writer_Little.c_loops]; exact lcons num_Writer_Little.lok1 (lnil)) (Nat.le_of_ble_eq_true (by kernel_rfl)) ?_⟩
    rw [num_Writer_Little.eq]
    exact h
  · exact h.elim
/-! ### bytes.Clone: function 47 -/
def bytes_Clone.f (a0 : Option Addr) (a0n : Nat) (a0c : Nat) (w : World) (K : Option Addr → Nat → Nat → World → Prop) : Prop :=
  bif (Option.isNone a0) then
    K none 0 0 w
  else
    newC 5 [] w fun a5_6 w =>
    appL 5 1 1 [(Value.int .u8 0)] (some a5_6) 0 0 a0 a0n a0c w fun a7_7 a7_7n a7_7c w =>
    K a7_7 a7_7n a7_7c w
def bytes_Clone.H (F : type_of% @bytes_Clone.f) : Hf := fun args w K => match args with
  | [v0] => vL v0 fun a0 a0n a0c => F a0 a0n a0c w (fun r0 r0n r0c w => K (Value.slice r0 r0n r0c) w)
  | _ => False
def bytes_Clone.h : Hf := bytes_Clone.H @bytes_Clone.f
def bytes_Clone.C : Hd := hnil
theorem bytes_Clone.C_ok : CSound Try.prog bytes_Clone.C := hnil_ok
def bytes_Clone.D : Nat → Plan := fun i => .done
noncomputable def bytes_Clone.c : Code := Try.f47.body.getD .skip
theorem bytes_Clone.hb : Try.f47.body = some bytes_Clone.c := by kernel_rfl
theorem bytes_Clone.c_loops : loopsOf bytes_Clone.c = [] := by kernel_rfl
def bytes_Clone.L : LHd := fun l f w K => False
theorem bytes_Clone.eq (a0 : Option Addr) (a0n : Nat) (a0c : Nat) (w : World) (K : Value → World → Prop) : afn bytes_Clone.C bytes_Clone.L bytes_Clone.D tab Try.f47 [(Value.slice a0 a0n a0c)] w K = bytes_Clone.f a0 a0n a0c w (fun r0 r0n r0c w => K (Value.slice r0 r0n r0c) w) := by kernel_rfl
theorem bytes_Clone.ok : FSound Try.prog 47 bytes_Clone.h := by
  intro args w K h
  unfold bytes_Clone.h bytes_Clone.H at h
  split at h
  ·
    replace h := vL_ok h
    obtain ⟨a0, a0n, a0c, rfl, h⟩ := h
    refine ⟨by kernel_rfl, fn_ok tab_ok bytes_Clone.C_ok (L := bytes_Clone.L) (D := bytes_Clone.D) Try.func47 bytes_Clone.hb (by kernel_rfl) (by rw [bytes_Clone.c_loops]; exact lnil) (Nat.le_of_ble_eq_true (by kernel_rfl)) ?_⟩
    rw [bytes_Clone.eq]
    exact h
  · exact h.elim
/-! ### (*valise/num.Writer).Bytes: function 48 -/
def num_Writer_Bytes.f (a0 : Option Addr) (w : World) (K : Option Addr → Nat → Nat → World → Prop) : Prop :=
  bif a0.isNone then
    K none 0 0 w
  else
    sm a0 fun p_6 =>
    ldL p_6 w fun x9_7 x9_7n x9_7c =>
    appL 5 1 1 [(Value.int .u8 0)] none 0 0 x9_7 x9_7n x9_7c w fun a10_8 a10_8n a10_8c w =>
    K a10_8 a10_8n a10_8c w
def num_Writer_Bytes.H (F : type_of% @num_Writer_Bytes.f) : Hf := fun args w K => match args with
  | [v0] => vP v0 fun a0 => F a0 w (fun r0 r0n r0c w => K (Value.slice r0 r0n r0c) w)
  | _ => False
def num_Writer_Bytes.h : Hf := num_Writer_Bytes.H @num_Writer_Bytes.f
def num_Writer_Bytes.C : Hd := hnil
theorem num_Writer_Bytes.C_ok : CSound Try.prog num_Writer_Bytes.C := hnil_ok
def num_Writer_Bytes.D : Nat → Plan := fun i => .done
noncomputable def num_Writer_Bytes.c : Code := Try.f48.body.getD .skip
theorem num_Writer_Bytes.hb : Try.f48.body = some num_Writer_Bytes.c := by kernel_rfl
theorem num_Writer_Bytes.c_loops : loopsOf num_Writer_Bytes.c = [] := by kernel_rfl
def num_Writer_Bytes.L : LHd := fun l f w K => False
theorem num_Writer_Bytes.eq (a0 : Option Addr) (w : World) (K : Value → World → Prop) : afn num_Writer_Bytes.C num_Writer_Bytes.L num_Writer_Bytes.D tab Try.f48 [(Value.pointer a0)] w K = num_Writer_Bytes.f a0 w (fun r0 r0n r0c w => K (Value.slice r0 r0n r0c) w) := by kernel_rfl
theorem num_Writer_Bytes.ok : FSound Try.prog 48 num_Writer_Bytes.h := by
  intro args w K h
  unfold num_Writer_Bytes.h num_Writer_Bytes.H at h
  split at h
  ·
    replace h := vP_ok h
    obtain ⟨a0, rfl, h⟩ := h
    refine ⟨by kernel_rfl, fn_ok tab_ok num_Writer_Bytes.C_ok (L := num_Writer_Bytes.L) (D := num_Writer_Bytes.D) Try.func48 num_Writer_Bytes.hb (by kernel_rfl) (by rw [num_Writer_Bytes.c_loops]; exact lnil) (Nat.le_of_ble_eq_true (by kernel_rfl)) ?_⟩
    rw [num_Writer_Bytes.eq]
    exact h
  · exact h.elim
/-! ### valise/wav.Make: function 19 -/
def wav_Make.f (a0_0 : Int) (a0_1 : Int) (a0_2 : Int) (a0_3 : Int) (a1 : Option Addr) (a1n : Nat) (a1c : Nat) (w : World) (K : Option Addr → Nat → Nat → World → Prop) : Prop :=
  newC 26 [(Value.int .i64 a0_0), (Value.int .i64 a0_1), (Value.int .i64 a0_2), (Value.int .i64 a0_3)] w fun a2_2 w =>
  ldI .i64 (a2_2.add 0) w fun x7_4 =>
  ldI .i64 (a2_2.add 1) w fun x7_5 =>
  ldI .i64 (a2_2.add 2) w fun x7_6 =>
  ldI .i64 (a2_2.add 3) w fun x7_7 =>
  wav_frame.f x7_4 x7_5 x7_6 x7_7 w fun r8_8 w =>
  bif (r8_8 == 0) then
    K none 0 0 w
  else
    newC 78 [(Value.slice none 0 0)] w fun a6_13 w =>
    newC 5 [(Value.int .u8 82), (Value.int .u8 73), (Value.int .u8 70), (Value.int .u8 70)] w fun a11_15 w =>
    mkStr a11_15 w fun w =>
    newC 22 [(Value.slice (some a11_15) 4 4)] w fun a13_16 w =>
    num_Writer_Raw.f (some a6_13) (some a13_16) 1 1 w fun w =>
    num_Writer_Little.f (some a6_13) (IntKind.wrap .u64 (IntKind.wrap .i64 (36 + ((a1n : Nat) : Int)))) 4 w fun w =>
    newC 5 [(Value.int .u8 87), (Value.int .u8 65), (Value.int .u8 86), (Value.int .u8 69)] w fun a20_19 w =>
    mkStr a20_19 w fun w =>
    newC 5 [(Value.int .u8 102), (Value.int .u8 109), (Value.int .u8 116), (Value.int .u8 32)] w fun a22_20 w =>
    mkStr a22_20 w fun w =>
    newC 22 [(Value.slice (some a20_19) 4 4), (Value.slice (some a22_20) 4 4)] w fun a24_21 w =>
    num_Writer_Raw.f (some a6_13) (some a24_21) 2 2 w fun w =>
    num_Writer_Little.f (some a6_13) 16 4 w fun w =>
    num_Writer_Little.f (some a6_13) 1 2 w fun w =>
    ldI .i64 a2_2 w fun x29_25 =>
    num_Writer_Little.f (some a6_13) (IntKind.wrap .u64 x29_25) 2 w fun w =>
    num_Writer_Little.f (some a6_13) 8000 4 w fun w =>
    num_Writer_Little.f (some a6_13) (IntKind.wrap .u64 (IntKind.wrap .i64 (8000 * r8_8))) 4 w fun w =>
    num_Writer_Little.f (some a6_13) (IntKind.wrap .u64 r8_8) 2 w fun w =>
    ldI .i64 (a2_2.add 1) w fun x41_30 =>
    num_Writer_Little.f (some a6_13) (IntKind.wrap .u64 x41_30) 2 w fun w =>
    newC 5 [(Value.int .u8 100), (Value.int .u8 97), (Value.int .u8 116), (Value.int .u8 97)] w fun a44_32 w =>
    mkStr a44_32 w fun w =>
    newC 22 [(Value.slice (some a44_32) 4 4)] w fun a46_33 w =>
    num_Writer_Raw.f (some a6_13) (some a46_33) 1 1 w fun w =>
    num_Writer_Little.f (some a6_13) (IntKind.wrap .u64 ((a1n : Nat) : Int)) 4 w fun w =>
    bytes_Clone.f a1 a1n a1c w fun r53_36 r53_36n r53_36c w =>
    newC 22 [(Value.slice r53_36 r53_36n r53_36c)] w fun a54_37 w =>
    num_Writer_Raw.f (some a6_13) (some a54_37) 1 1 w fun w =>
    num_Writer_Bytes.f (some a6_13) w fun r56_39 r56_39n r56_39c w =>
    K r56_39 r56_39n r56_39c w
def wav_Make.H (F : type_of% @wav_Make.f) : Hf := fun args w K => match args with
  | [v0, v1] => vT v0 fun l => cI .i64 l fun a0_0 l => cI .i64 l fun a0_1 l => cI .i64 l fun a0_2 l => cI .i64 l fun a0_3 l => cE l <| vL v1 fun a1 a1n a1c => F a0_0 a0_1 a0_2 a0_3 a1 a1n a1c w (fun r0 r0n r0c w => K (Value.slice r0 r0n r0c) w)
  | _ => False
def wav_Make.h : Hf := wav_Make.H @wav_Make.f
def wav_Make.CG (F41 : type_of% @wav_frame.f) (F45 : type_of% @num_Writer_Raw.f) (F46 : type_of% @num_Writer_Little.f) (F47 : type_of% @bytes_Clone.f) (F48 : type_of% @num_Writer_Bytes.f) : Hd := hcons 48 (num_Writer_Bytes.H F48) (hcons 47 (bytes_Clone.H F47) (hcons 46 (num_Writer_Little.H F46) (hcons 45 (num_Writer_Raw.H F45) (hcons 41 (wav_frame.H F41) (hnil)))))
def wav_Make.C : Hd := wav_Make.CG @wav_frame.f @num_Writer_Raw.f @num_Writer_Little.f @bytes_Clone.f @num_Writer_Bytes.f
def wav_Make.G (F41 : type_of% @wav_frame.f) (F45 : type_of% @num_Writer_Raw.f) (F46 : type_of% @num_Writer_Little.f) (F47 : type_of% @bytes_Clone.f) (F48 : type_of% @num_Writer_Bytes.f) (a0_0 : Int) (a0_1 : Int) (a0_2 : Int) (a0_3 : Int) (a1 : Option Addr) (a1n : Nat) (a1c : Nat) (w : World) (K : Option Addr → Nat → Nat → World → Prop) : Prop :=
  newC 26 [(Value.int .i64 a0_0), (Value.int .i64 a0_1), (Value.int .i64 a0_2), (Value.int .i64 a0_3)] w fun a2_2 w =>
  ldI .i64 (a2_2.add 0) w fun x7_4 =>
  ldI .i64 (a2_2.add 1) w fun x7_5 =>
  ldI .i64 (a2_2.add 2) w fun x7_6 =>
  ldI .i64 (a2_2.add 3) w fun x7_7 =>
  F41 x7_4 x7_5 x7_6 x7_7 w fun r8_8 w =>
  bif (r8_8 == 0) then
    K none 0 0 w
  else
    newC 78 [(Value.slice none 0 0)] w fun a6_13 w =>
    newC 5 [(Value.int .u8 82), (Value.int .u8 73), (Value.int .u8 70), (Value.int .u8 70)] w fun a11_15 w =>
    mkStr a11_15 w fun w =>
    newC 22 [(Value.slice (some a11_15) 4 4)] w fun a13_16 w =>
    F45 (some a6_13) (some a13_16) 1 1 w fun w =>
    F46 (some a6_13) (IntKind.wrap .u64 (IntKind.wrap .i64 (36 + ((a1n : Nat) : Int)))) 4 w fun w =>
    newC 5 [(Value.int .u8 87), (Value.int .u8 65), (Value.int .u8 86), (Value.int .u8 69)] w fun a20_19 w =>
    mkStr a20_19 w fun w =>
    newC 5 [(Value.int .u8 102), (Value.int .u8 109), (Value.int .u8 116), (Value.int .u8 32)] w fun a22_20 w =>
    mkStr a22_20 w fun w =>
    newC 22 [(Value.slice (some a20_19) 4 4), (Value.slice (some a22_20) 4 4)] w fun a24_21 w =>
    F45 (some a6_13) (some a24_21) 2 2 w fun w =>
    F46 (some a6_13) 16 4 w fun w =>
    F46 (some a6_13) 1 2 w fun w =>
    ldI .i64 a2_2 w fun x29_25 =>
    F46 (some a6_13) (IntKind.wrap .u64 x29_25) 2 w fun w =>
    F46 (some a6_13) 8000 4 w fun w =>
    F46 (some a6_13) (IntKind.wrap .u64 (IntKind.wrap .i64 (8000 * r8_8))) 4 w fun w =>
    F46 (some a6_13) (IntKind.wrap .u64 r8_8) 2 w fun w =>
    ldI .i64 (a2_2.add 1) w fun x41_30 =>
    F46 (some a6_13) (IntKind.wrap .u64 x41_30) 2 w fun w =>
    newC 5 [(Value.int .u8 100), (Value.int .u8 97), (Value.int .u8 116), (Value.int .u8 97)] w fun a44_32 w =>
    mkStr a44_32 w fun w =>
    newC 22 [(Value.slice (some a44_32) 4 4)] w fun a46_33 w =>
    F45 (some a6_13) (some a46_33) 1 1 w fun w =>
    F46 (some a6_13) (IntKind.wrap .u64 ((a1n : Nat) : Int)) 4 w fun w =>
    F47 a1 a1n a1c w fun r53_36 r53_36n r53_36c w =>
    newC 22 [(Value.slice r53_36 r53_36n r53_36c)] w fun a54_37 w =>
    F45 (some a6_13) (some a54_37) 1 1 w fun w =>
    F48 (some a6_13) w fun r56_39 r56_39n r56_39c w =>
    K r56_39 r56_39n r56_39c w
theorem wav_Make.C_ok : CSound Try.prog wav_Make.C := hcons_ok num_Writer_Bytes.ok (hcons_ok bytes_Clone.ok (hcons_ok num_Writer_Little.ok (hcons_ok num_Writer_Raw.ok (hcons_ok wav_frame.ok (hnil_ok)))))
def wav_Make.D : Nat → Plan := fun i => .done
noncomputable def wav_Make.c : Code := Try.f19.body.getD .skip
theorem wav_Make.hb : Try.f19.body = some wav_Make.c := by kernel_rfl
theorem wav_Make.c_loops : loopsOf wav_Make.c = [] := by kernel_rfl
def wav_Make.L : LHd := fun l f w K => False
theorem wav_Make.eqG (F41 : type_of% @wav_frame.f) (F45 : type_of% @num_Writer_Raw.f) (F46 : type_of% @num_Writer_Little.f) (F47 : type_of% @bytes_Clone.f) (F48 : type_of% @num_Writer_Bytes.f) (a0_0 : Int) (a0_1 : Int) (a0_2 : Int) (a0_3 : Int) (a1 : Option Addr) (a1n : Nat) (a1c : Nat) (w : World) (K : Value → World → Prop) : afn (wav_Make.CG F41 F45 F46 F47 F48) wav_Make.L wav_Make.D tab Try.f19 [(Value.agg #[(Value.int .i64 a0_0), (Value.int .i64 a0_1), (Value.int .i64 a0_2), (Value.int .i64 a0_3)]), (Value.slice a1 a1n a1c)] w K = wav_Make.G F41 F45 F46 F47 F48 a0_0 a0_1 a0_2 a0_3 a1 a1n a1c w (fun r0 r0n r0c w => K (Value.slice r0 r0n r0c) w) := by kernel_rfl
theorem wav_Make.eq (a0_0 : Int) (a0_1 : Int) (a0_2 : Int) (a0_3 : Int) (a1 : Option Addr) (a1n : Nat) (a1c : Nat) (w : World) (K : Value → World → Prop) : afn wav_Make.C wav_Make.L wav_Make.D tab Try.f19 [(Value.agg #[(Value.int .i64 a0_0), (Value.int .i64 a0_1), (Value.int .i64 a0_2), (Value.int .i64 a0_3)]), (Value.slice a1 a1n a1c)] w K = wav_Make.f a0_0 a0_1 a0_2 a0_3 a1 a1n a1c w (fun r0 r0n r0c w => K (Value.slice r0 r0n r0c) w) := wav_Make.eqG @wav_frame.f @num_Writer_Raw.f @num_Writer_Little.f @bytes_Clone.f @num_Writer_Bytes.f a0_0 a0_1 a0_2 a0_3 a1 a1n a1c w K
theorem wav_Make.ok : FSound Try.prog 19 wav_Make.h := by
  intro args w K h
  unfold wav_Make.h wav_Make.H at h
  split at h
  ·
    replace h := vT_ok h
    obtain ⟨l, rfl, h⟩ := h
    replace h := cI_ok h; obtain ⟨a0_0, l, rfl, h⟩ := h
    replace h := cI_ok h; obtain ⟨a0_1, l, rfl, h⟩ := h
    replace h := cI_ok h; obtain ⟨a0_2, l, rfl, h⟩ := h
    replace h := cI_ok h; obtain ⟨a0_3, l, rfl, h⟩ := h
    replace h := cE_ok h; obtain ⟨rfl, h⟩ := h
    replace h := vL_ok h
    obtain ⟨a1, a1n, a1c, rfl, h⟩ := h
    refine ⟨by kernel_rfl, fn_ok tab_ok wav_Make.C_ok (L := wav_Make.L) (D := wav_Make.D) Try.func19 wav_Make.hb (by kernel_rfl) (by rw [wav_Make.c_loops]; exact lnil) (Nat.le_of_ble_eq_true (by kernel_rfl)) ?_⟩
    rw [wav_Make.eq]
    exact h
  · exact h.elim
/-! ### valise/num.New: function 37 -/
def num_New.f (a0 : Option Addr) (a0n : Nat) (a0c : Nat) (w : World) (K : Option Addr → World → Prop) : Prop :=
  appL 5 1 1 [(Value.int .u8 0)] none 0 0 a0 a0n a0c w fun a4_3 a4_3n a4_3c w =>
  newC 103 [(Value.slice a4_3 a4_3n a4_3c), (Value.int .i64 0), (Value.int .i64 0)] w fun a6_4 w =>
  K (some a6_4) w
def num_New.H (F : type_of% @num_New.f) : Hf := fun args w K => match args with
  | [v0] => vL v0 fun a0 a0n a0c => F a0 a0n a0c w (fun r0 w => K (Value.pointer r0) w)
  | _ => False
def num_New.h : Hf := num_New.H @num_New.f
def num_New.C : Hd := hnil
theorem num_New.C_ok : CSound Try.prog num_New.C := hnil_ok
def num_New.D : Nat → Plan := fun i => .done
noncomputable def num_New.c : Code := Try.f37.body.getD .skip
theorem num_New.hb : Try.f37.body = some num_New.c := by kernel_rfl
theorem num_New.c_loops : loopsOf num_New.c = [] := by kernel_rfl
def num_New.L : LHd := fun l f w K => False
theorem num_New.eq (a0 : Option Addr) (a0n : Nat) (a0c : Nat) (w : World) (K : Value → World → Prop) : afn num_New.C num_New.L num_New.D tab Try.f37 [(Value.slice a0 a0n a0c)] w K = num_New.f a0 a0n a0c w (fun r0 w => K (Value.pointer r0) w) := by kernel_rfl
theorem num_New.ok : FSound Try.prog 37 num_New.h := by
  intro args w K h
  unfold num_New.h num_New.H at h
  split at h
  ·
    replace h := vL_ok h
    obtain ⟨a0, a0n, a0c, rfl, h⟩ := h
    refine ⟨by kernel_rfl, fn_ok tab_ok num_New.C_ok (L := num_New.L) (D := num_New.D) Try.func37 num_New.hb (by kernel_rfl) (by rw [num_New.c_loops]; exact lnil) (Nat.le_of_ble_eq_true (by kernel_rfl)) ?_⟩
    rw [num_New.eq]
    exact h
  · exact h.elim
/-! ### (*valise/num.Reader).Raw: function 38 -/
def num_Reader_Raw.f (a0 : Option Addr) (a1 : Int) (w : World) (K : Option Addr → Nat → Nat → World → Prop) : Prop :=
  bif a0.isNone then
    K none 0 0 w
  else
    sm a0 fun p_4 =>
    ldI .i64 (p_4.add 2) w fun x11_5 =>
    bif (x11_5 != 0) then
      K none 0 0 w
    else
      bif (decide (a1 ≤ 0)) then
        K none 0 0 w
      else
        sm a0 fun p_11 =>
        ldL p_11 w.drew fun x22_12 x22_12n x22_12c =>
        sm a0 fun p_13 =>
        ldI .i64 (p_13.add 1) w.drew fun x27_14 =>
        bif (decide (a1 > (IntKind.wrap .i64 (((x22_12n : Nat) : Int) - x27_14)))) then
          sm a0 fun p_16 =>
          stC (p_16.add 2) (Value.int .i64 3) w.drew fun w =>
          K none 0 0 w
        else
          sm a0 fun p_19 =>
          ldI .i64 (p_19.add 1) w.drew fun x36_20 =>
          sm a0 fun p_21 =>
          stC (p_21.add 1) (Value.int .i64 (IntKind.wrap .i64 (x36_20 + a1))) w.drew fun w =>
          sm a0 fun p_23 =>
          ldL p_23 w.drew fun x44_24 x44_24n x44_24c =>
          sm a0 fun p_25 =>
          ldI .i64 (p_25.add 1) w.drew fun x48_26 =>
          sm a0 fun p_27 =>
          ldI .i64 (p_27.add 1) w.drew fun x54_28 =>
          bnd x44_24n x44_24c (some (Value.int .i64 (IntKind.wrap .i64 (x48_26 - a1)))) (some (Value.int .i64 x54_28)) fun l_29 h_30 =>
          appL 5 1 1 [(Value.int .u8 0)] none 0 0 (adrS x44_24 l_29 x44_24c 1) (h_30 - l_29) (x44_24c - l_29) w.drew fun a56_31 a56_31n a56_31c w =>
          (World.cell? w (p_27.add 1) = some (.int .i64 x54_28)) ∧
          ((World.cell? w (p_25.add 1) = some (.int .i64 x48_26)) ∧
          ((World.cell? w p_23 = some (.slice x44_24 x44_24n x44_24c)) ∧
          (K a56_31 a56_31n a56_31c w)))
def num_Reader_Raw.H (F : type_of% @num_Reader_Raw.f) : Hf := fun args w K => match args with
  | [v0, v1] => vP v0 fun a0 => vI .i64 v1 fun a1 => F a0 a1 w (fun r0 r0n r0c w => K (Value.slice r0 r0n r0c) w)
  | _ => False
def num_Reader_Raw.h : Hf := num_Reader_Raw.H @num_Reader_Raw.f
def num_Reader_Raw.C : Hd := hnil
theorem num_Reader_Raw.C_ok : CSound Try.prog num_Reader_Raw.C := hnil_ok
def num_Reader_Raw.D : Nat → Plan := fun i => (match Nat.beq i 7 with | true => .take 0 (.take 1 (.take 2 (.take 3 (.take 4 (.take 5 (.take 6 (.take 7 (.take 8 (.take 9 (.take 10 (.take 11 (.take 12 (.take 13 (.take 14 (.eff 15 (.take 16 (.done))))))))))))))))) | false => (match Nat.beq i 3 with | true => .take 0 (.take 1 (.take 2 (.take 3 (.take 4 (.take 5 (.take 6 (.take 7 (.take 8 (.take 9 (.take 10 (.take 11 (.done)))))))))))) | false => .done))
noncomputable def num_Reader_Raw.c : Code := Try.f38.body.getD .skip
theorem num_Reader_Raw.hb : Try.f38.body = some num_Reader_Raw.c := by kernel_rfl
theorem num_Reader_Raw.c_loops : loopsOf num_Reader_Raw.c = [] := by kernel_rfl
def num_Reader_Raw.L : LHd := fun l f w K => False
theorem num_Reader_Raw.eq (a0 : Option Addr) (a1 : Int) (w : World) (K : Value → World → Prop) : afn num_Reader_Raw.C num_Reader_Raw.L num_Reader_Raw.D tab Try.f38 [(Value.pointer a0), (Value.int .i64 a1)] w K = num_Reader_Raw.f a0 a1 w (fun r0 r0n r0c w => K (Value.slice r0 r0n r0c) w) := by kernel_rfl
theorem num_Reader_Raw.ok : FSound Try.prog 38 num_Reader_Raw.h := by
  intro args w K h
  unfold num_Reader_Raw.h num_Reader_Raw.H at h
  split at h
  ·
    replace h := vP_ok h
    obtain ⟨a0, rfl, h⟩ := h
    replace h := vI_ok h
    obtain ⟨a1, rfl, h⟩ := h
    refine ⟨by kernel_rfl, fn_ok tab_ok num_Reader_Raw.C_ok (L := num_Reader_Raw.L) (D := num_Reader_Raw.D) Try.func38 num_Reader_Raw.hb (by kernel_rfl) (by rw [num_Reader_Raw.c_loops]; exact lnil) (Nat.le_of_ble_eq_true (by kernel_rfl)) ?_⟩
    rw [num_Reader_Raw.eq]
    exact h
  · exact h.elim
/-! ### (*valise/num.Reader).Left: function 60 -/
def num_Reader_Left.f (a0 : Option Addr) (w : World) (K : Int → World → Prop) : Prop :=
  bif a0.isNone then
    K 0 w
  else
    sm a0 fun p_6 =>
    ldL p_6 w.drew fun x8_7 x8_7n x8_7c =>
    sm a0 fun p_8 =>
    ldI .i64 (p_8.add 1) w.drew fun x13_9 =>
    let v2_10 := (IntKind.wrap .i64 (((x8_7n : Nat) : Int) - x13_9))
    K v2_10 w.drew
def num_Reader_Left.H (F : type_of% @num_Reader_Left.f) : Hf := fun args w K => match args with
  | [v0] => vP v0 fun a0 => F a0 w (fun r0 w => K (Value.int .i64 r0) w)
  | _ => False
def num_Reader_Left.h : Hf := num_Reader_Left.H @num_Reader_Left.f
def num_Reader_Left.C : Hd := hnil
theorem num_Reader_Left.C_ok : CSound Try.prog num_Reader_Left.C := hnil_ok
def num_Reader_Left.D : Nat → Plan := fun i => (match Nat.beq i 3 with | true => .take 0 (.take 1 (.take 2 (.take 3 (.take 4 (.take 5 (.take 6 (.take 7 (.take 8 (.take 9 (.take 10 (.done))))))))))) | false => .done)
noncomputable def num_Reader_Left.c : Code := Try.f60.body.getD .skip
theorem num_Reader_Left.hb : Try.f60.body = some num_Reader_Left.c := by kernel_rfl
theorem num_Reader_Left.c_loops : loopsOf num_Reader_Left.c = [] := by kernel_rfl
def num_Reader_Left.L : LHd := fun l f w K => False
theorem num_Reader_Left.eq (a0 : Option Addr) (w : World) (K : Value → World → Prop) : afn num_Reader_Left.C num_Reader_Left.L num_Reader_Left.D tab Try.f60 [(Value.pointer a0)] w K = num_Reader_Left.f a0 w (fun r0 w => K (Value.int .i64 r0) w) := by kernel_rfl
theorem num_Reader_Left.ok : FSound Try.prog 60 num_Reader_Left.h := by
  intro args w K h
  unfold num_Reader_Left.h num_Reader_Left.H at h
  split at h
  ·
    replace h := vP_ok h
    obtain ⟨a0, rfl, h⟩ := h
    refine ⟨by kernel_rfl, fn_ok tab_ok num_Reader_Left.C_ok (L := num_Reader_Left.L) (D := num_Reader_Left.D) Try.func60 num_Reader_Left.hb (by kernel_rfl) (by rw [num_Reader_Left.c_loops]; exact lnil) (Nat.le_of_ble_eq_true (by kernel_rfl)) ?_⟩
    rw [num_Reader_Left.eq]
    exact h
  · exact h.elim
/-! ### (*valise/num.Reader).Little: function 40 -/
def num_Reader_Little.l3 : Nat → Int → Option Addr → Nat → Nat → Int → Int → World → (Int → World → Prop) → Prop
  | 0, _, _, _, _, _, _, _, _ => False
  | N + 1, y5, y11, y11n, y11c, y12, y13, w, K0 =>
    bif (decide (y13 < y12)) then
      sm y11 fun p_10 =>
      if 0 ≤ (y13 : Int) ∧ (y13 : Int) < ((y11n : Nat) : Int) then
      ldI .u8 (p_10.add (Int.toNat y13)) w fun x17_11 =>
      if (IntKind.wrap .i64 (8 * y13)) < 0 then False else
      let v5_12 := (bor .u64 y5 (shl .u64 (IntKind.wrap .u64 x17_11) (min (Int.toNat (IntKind.wrap .i64 (8 * y13))) (IntKind.bits .u64))))
      num_Reader_Little.l3 N v5_12 y11 y11n y11c y12 (IntKind.wrap .i64 (y13 + 1)) w K0
      else False
    else
      K0 y5 w

def num_Reader_Little.f (a0 : Option Addr) (a1 : Int) (w : World) (K : Int → World → Prop) : Prop :=
  num_Reader_Raw.f a0 (mn a1 8) w fun r11_5 r11_5n r11_5c w =>
  ∃ N_13 : Nat, num_Reader_Little.l3 N_13 0 r11_5 r11_5n r11_5c ((r11_5n : Nat) : Int) 0 w
  (fun o5_14 w =>
    K o5_14 w)
def num_Reader_Little.H (F : type_of% @num_Reader_Little.f) : Hf := fun args w K => match args with
  | [v0, v1] => vP v0 fun a0 => vI .i64 v1 fun a1 => F a0 a1 w (fun r0 w => K (Value.int .u64 r0) w)
  | _ => False
def num_Reader_Little.h : Hf := num_Reader_Little.H @num_Reader_Little.f
def num_Reader_Little.C : Hd := hcons 38 num_Reader_Raw.h (hnil)
theorem num_Reader_Little.C_ok : CSound Try.prog num_Reader_Little.C := hcons_ok num_Reader_Raw.ok (hnil_ok)
def num_Reader_Little.D : Nat → Plan := fun i => .done
noncomputable def num_Reader_Little.c : Code := Try.f40.body.getD .skip
theorem num_Reader_Little.hb : Try.f40.body = some num_Reader_Little.c := by kernel_rfl
noncomputable def num_Reader_Little.b0 : Code := (loopsOf num_Reader_Little.c).getD 0 .skip
theorem num_Reader_Little.b0_loops : loopsOf num_Reader_Little.b0 = [] := by kernel_rfl
theorem num_Reader_Little.c_loops : loopsOf num_Reader_Little.c = [num_Reader_Little.b0] := by kernel_rfl
def num_Reader_Little.hn3 (N : Nat) (f : Fr) (w : World) (K : AExit → Fr → World → Prop) : Prop :=
  gN f 27 <| gI .u64 f 5 fun y5 => gL f 11 fun y11 y11n y11c => gI .i64 f 12 fun y12 => gI .i64 f 13 fun y13 => num_Reader_Little.l3 N y5 y11 y11n y11c y12 y13 w (fun o5 w => K (.exit 0) [none, none, none, none, none, some (Value.int .u64 o5), none, none, none, none, none, none, none, none, none, none, none, none, none, none, none, none, none, none, none, none, none] w)
def num_Reader_Little.hx3 : AExit → Fr → World → (AExit → Fr → World → Prop) → Prop := fun e f w K => match e with
  | .normal => False
  | .exit i => (match Nat.beq i 0 with | true => gN f 27 <| gI .u64 f 5 fun o5 => K (.exit 0) [none, none, none, none, none, some (Value.int .u64 o5), none, none, none, none, none, none, none, none, none, none, none, none, none, none, none, none, none, none, none, none, none] w | false => False)
  | .ret => False
def num_Reader_Little.L : LHd := fun l f w K => (match Nat.beq l 3 with | true => ∃ N, num_Reader_Little.hn3 N f w K | false => False)
theorem num_Reader_Little.le3 (N : Nat) (y5 : Int) (y11 : Option Addr) (y11n : Nat) (y11c : Nat) (y12 : Int) (y13 : Int) (w : World) (K : AExit → Fr → World → Prop) : awp num_Reader_Little.C num_Reader_Little.L num_Reader_Little.D tab num_Reader_Little.b0 (lpost num_Reader_Little.hn3 num_Reader_Little.hx3 N K) [none, none, none, none, none, some (Value.int .u64 y5), none, none, none, none, none, some (Value.slice y11 y11n y11c), some (Value.int .i64 y12), some (Value.int .i64 y13), none, none, none, none, none, none, none, none, none, none, none, none, none] w = num_Reader_Little.l3 (N + 1) y5 y11 y11n y11c y12 y13 w (fun o5 w => K (.exit 0) [none, none, none, none, none, some (Value.int .u64 o5), none, none, none, none, none, none, none, none, none, none, none, none, none, none, none, none, none, none, none, none, none] w) := by kernel_rfl
theorem num_Reader_Little.lok3 : LoopOk Try.prog num_Reader_Little.L num_Reader_Little.b0 := by
  refine loop_ok tab_ok num_Reader_Little.C_ok (D := num_Reader_Little.D) (num_Reader_Little.hn3) (num_Reader_Little.hx3) (by kernel_rfl) (by rw [num_Reader_Little.b0_loops]; exact lnil) ?_ ?_ ?_ ?_
  · intro f w K h
    unfold num_Reader_Little.hn3 at h
    obtain ⟨hlen, h⟩ := gN_ok h
    obtain ⟨y5, h5, h⟩ := gI_ok h
    obtain ⟨y11, y11n, y11c, h11, h⟩ := gL_ok h
    obtain ⟨y12, h12, h⟩ := gI_ok h
    obtain ⟨y13, h13, h⟩ := gI_ok h
    exact h
  · intro N f w K h
    unfold num_Reader_Little.hn3 at h
    obtain ⟨hlen, h⟩ := gN_ok h
    obtain ⟨y5, h5, h⟩ := gI_ok h
    obtain ⟨y11, y11n, y11c, h11, h⟩ := gL_ok h
    obtain ⟨y12, h12, h⟩ := gI_ok h
    obtain ⟨y13, h13, h⟩ := gI_ok h
    refine ⟨[none, none, none, none, none, some (Value.int .u64 y5), none, none, none, none, none, some (Value.slice y11 y11n y11c), some (Value.int .i64 y12), some (Value.int .i64 y13), none, none, none, none, none, none, none, none, none, none, none, none, none], hlen, ⟨h5, h11, h12, h13, trivial⟩, ?_⟩
    rw [num_Reader_Little.le3]
    exact h
  · intro e f w K h
    cases e with
    | normal => exact h.elim
    | exit i =>
      unfold num_Reader_Little.hx3 at h
      simp only at h
      split at h
      · rename_i hb
        obtain rfl := Nat.eq_of_beq_eq_true hb
        obtain ⟨hlen, h⟩ := gN_ok h
        obtain ⟨o5, h5, h⟩ := gI_ok h
        exact ⟨[none, none, none, none, none, some (Value.int .u64 o5), none, none, none, none, none, none, none, none, none, none, none, none, none, none, none, none, none, none, none, none, none], hlen, ⟨h5, trivial⟩, h⟩
      · exact (show False from h).elim
    | ret =>
      exact (show False from h).elim
  · intro f w K h
    have e : lid num_Reader_Little.b0 = 3 := by kernel_rfl
    rw [e] at h
    exact h
theorem num_Reader_Little.eq (a0 : Option Addr) (a1 : Int) (w : World) (K : Value → World → Prop) : afn num_Reader_Little.C num_Reader_Little.L num_Reader_Little.D tab Try.f40 [(Value.pointer a0), (Value.int .i64 a1)] w K = num_Reader_Little.f a0 a1 w (fun r0 w => K (Value.int .u64 r0) w) := by kernel_rfl
theorem num_Reader_Little.ok : FSound Try.prog 40 num_Reader_Little.h := by
  intro args w K h
  unfold num_Reader_Little.h num_Reader_Little.H at h
  split at h
  ·
    replace h := vP_ok h
    obtain ⟨a0, rfl, h⟩ := h
    replace h := vI_ok h
    obtain ⟨a1, rfl, h⟩ := h
    refine ⟨by kernel_rfl, fn_ok tab_ok num_Reader_Little.C_ok (L := num_Reader_Little.L) (D := num_Reader_Little.D) Try.func40 num_Reader_Little.hb (by kernel_rfl) (by rw [num_Reader_Little.c_loops]; exact lcons num_Reader_Little.lok3 (lnil)) (Nat.le_of_ble_eq_true (by kernel_rfl)) ?_⟩
    rw [num_Reader_Little.eq]
    exact h
  · exact h.elim
/-! ### (*valise/wav.chunks).next: function 39 -/
def wav_chunks_next.f (a0 : Option Addr) (w : World) (K : ByteArray → Int → Int → Bool → World → Prop) : Prop :=
  sm a0 fun p_4 =>
  ldP p_4 w fun x12_5 =>
  num_Reader_Left.f x12_5 w fun r13_6 w =>
  bif (decide (r13_6 < 8)) then
    K (ByteArray.mk #[]) 0 0 false w
  else
    sm a0 fun p_9 =>
    ldP p_9 w fun x18_10 =>
    num_Reader_Raw.f x18_10 4 w fun r19_11 r19_11n r19_11c w =>
    strL r19_11 r19_11n r19_11c w fun s_12 =>
    sm a0 fun p_14 =>
    ldP p_14 w fun x24_15 =>
    num_Reader_Little.f x24_15 4 w fun r25_16 w =>
    let v7_17 := (IntKind.wrap .i64 r25_16)
    sm a0 fun p_19 =>
    ldI .i64 (p_19.add 1) w.drew fun x30_20 =>
    sm a0 fun p_21 =>
    ldP p_21 w.drew fun x34_22 =>
    num_Reader_Left.f x34_22 w.drew fun r35_23 w =>
    (World.cell? w (p_19.add 1) = some (.int .i64 x30_20)) ∧
    (let v8_24 := (IntKind.wrap .i64 (x30_20 - r35_23))
    let v4_26 := (IntKind.wrap .i64 (v8_24 + v7_17))
    K s_12 v8_24 v4_26 true w)
def wav_chunks_next.H (F : type_of% @wav_chunks_next.f) : Hf := fun args w K => match args with
  | [v0] => vP v0 fun a0 => F a0 w (fun r0 r1 r2 r3 w => K (Value.tuple #[(Value.string r0), (Value.int .i64 r1), (Value.int .i64 r2), (Value.bool r3)]) w)
  | _ => False
def wav_chunks_next.h : Hf := wav_chunks_next.H @wav_chunks_next.f
def wav_chunks_next.CG (F60 : type_of% @num_Reader_Left.f) (F38 : type_of% @num_Reader_Raw.f) (F40 : type_of% @num_Reader_Little.f) : Hd := hcons 40 (num_Reader_Little.H F40) (hcons 38 (num_Reader_Raw.H F38) (hcons 60 (num_Reader_Left.H F60) (hnil)))
def wav_chunks_next.C : Hd := wav_chunks_next.CG @num_Reader_Left.f @num_Reader_Raw.f @num_Reader_Little.f
def wav_chunks_next.G (F60 : type_of% @num_Reader_Left.f) (F38 : type_of% @num_Reader_Raw.f) (F40 : type_of% @num_Reader_Little.f) (a0 : Option Addr) (w : World) (K : ByteArray → Int → Int → Bool → World → Prop) : Prop :=
  sm a0 fun p_4 =>
  ldP p_4 w fun x12_5 =>
  F60 x12_5 w fun r13_6 w =>
  bif (decide (r13_6 < 8)) then
    K (ByteArray.mk #[]) 0 0 false w
  else
    sm a0 fun p_9 =>
    ldP p_9 w fun x18_10 =>
    F38 x18_10 4 w fun r19_11 r19_11n r19_11c w =>
    strL r19_11 r19_11n r19_11c w fun s_12 =>
    sm a0 fun p_14 =>
    ldP p_14 w fun x24_15 =>
    F40 x24_15 4 w fun r25_16 w =>
    let v7_17 := (IntKind.wrap .i64 r25_16)
    sm a0 fun p_19 =>
    ldI .i64 (p_19.add 1) w.drew fun x30_20 =>
    sm a0 fun p_21 =>
    ldP p_21 w.drew fun x34_22 =>
    F60 x34_22 w.drew fun r35_23 w =>
    (World.cell? w (p_19.add 1) = some (.int .i64 x30_20)) ∧
    (let v8_24 := (IntKind.wrap .i64 (x30_20 - r35_23))
    let v4_26 := (IntKind.wrap .i64 (v8_24 + v7_17))
    K s_12 v8_24 v4_26 true w)
theorem wav_chunks_next.C_ok : CSound Try.prog wav_chunks_next.C := hcons_ok num_Reader_Little.ok (hcons_ok num_Reader_Raw.ok (hcons_ok num_Reader_Left.ok (hnil_ok)))
def wav_chunks_next.D : Nat → Plan := fun i => (match Nat.beq i 5 with | true => .take 0 (.take 1 (.take 2 (.take 3 (.take 4 (.take 5 (.take 6 (.take 7 (.eff 8 (.take 9 (.take 10 (.done))))))))))) | false => .done)
noncomputable def wav_chunks_next.c : Code := Try.f39.body.getD .skip
theorem wav_chunks_next.hb : Try.f39.body = some wav_chunks_next.c := by kernel_rfl
theorem wav_chunks_next.c_loops : loopsOf wav_chunks_next.c = [] := by kernel_rfl
def wav_chunks_next.L : LHd := fun l f w K => False
theorem wav_chunks_next.eqG (F60 : type_of% @num_Reader_Left.f) (F38 : type_of% @num_Reader_Raw.f) (F40 : type_of% @num_Reader_Little.f) (a0 : Option Addr) (w : World) (K : Value → World → Prop) : afn (wav_chunks_next.CG F60 F38 F40) wav_chunks_next.L wav_chunks_next.D tab Try.f39 [(Value.pointer a0)] w K = wav_chunks_next.G F60 F38 F40 a0 w (fun r0 r1 r2 r3 w => K (Value.tuple #[(Value.string r0), (Value.int .i64 r1), (Value.int .i64 r2), (Value.bool r3)]) w) := by kernel_rfl
theorem wav_chunks_next.eq (a0 : Option Addr) (w : World) (K : Value → World → Prop) : afn wav_chunks_next.C wav_chunks_next.L wav_chunks_next.D tab Try.f39 [(Value.pointer a0)] w K = wav_chunks_next.f a0 w (fun r0 r1 r2 r3 w => K (Value.tuple #[(Value.string r0), (Value.int .i64 r1), (Value.int .i64 r2), (Value.bool r3)]) w) := wav_chunks_next.eqG @num_Reader_Left.f @num_Reader_Raw.f @num_Reader_Little.f a0 w K
theorem wav_chunks_next.ok : FSound Try.prog 39 wav_chunks_next.h := by
  intro args w K h
  unfold wav_chunks_next.h wav_chunks_next.H at h
  split at h
  ·
    replace h := vP_ok h
    obtain ⟨a0, rfl, h⟩ := h
    refine ⟨by kernel_rfl, fn_ok tab_ok wav_chunks_next.C_ok (L := wav_chunks_next.L) (D := wav_chunks_next.D) Try.func39 wav_chunks_next.hb (by kernel_rfl) (by rw [wav_chunks_next.c_loops]; exact lnil) (Nat.le_of_ble_eq_true (by kernel_rfl)) ?_⟩
    rw [wav_chunks_next.eq]
    exact h
  · exact h.elim
/-! ### (*valise/wav.chunks).skip: function 42 -/
def wav_chunks_skip.f (a0 : Option Addr) (a1 : Int) (a2 : Int) (w : World) (K : Bool → World → Prop) : Prop :=
  let v7_3 := (IntKind.wrap .i64 ((IntKind.wrap .i64 (a2 - a1)) + (Int.tmod (IntKind.wrap .i64 (a2 - a1)) 2)))
  sm a0 fun p_6 =>
  ldP p_6 w fun x20_7 =>
  num_Reader_Left.f x20_7 w fun r21_8 w =>
  bif (decide (v7_3 > r21_8)) then
    K false w
  else
    sm a0 fun p_11 =>
    ldP p_11 w fun x26_12 =>
    num_Reader_Raw.f x26_12 v7_3 w fun r28_13 r28_13n r28_13c w =>
    K true w
def wav_chunks_skip.H (F : type_of% @wav_chunks_skip.f) : Hf := fun args w K => match args with
  | [v0, v1, v2] => vP v0 fun a0 => vI .i64 v1 fun a1 => vI .i64 v2 fun a2 => F a0 a1 a2 w (fun r0 w => K (Value.bool r0) w)
  | _ => False
def wav_chunks_skip.h : Hf := wav_chunks_skip.H @wav_chunks_skip.f
def wav_chunks_skip.C : Hd := hcons 38 num_Reader_Raw.h (hcons 60 num_Reader_Left.h (hnil))
theorem wav_chunks_skip.C_ok : CSound Try.prog wav_chunks_skip.C := hcons_ok num_Reader_Raw.ok (hcons_ok num_Reader_Left.ok (hnil_ok))
def wav_chunks_skip.D : Nat → Plan := fun i => .done
noncomputable def wav_chunks_skip.c : Code := Try.f42.body.getD .skip
theorem wav_chunks_skip.hb : Try.f42.body = some wav_chunks_skip.c := by kernel_rfl
theorem wav_chunks_skip.c_loops : loopsOf wav_chunks_skip.c = [] := by kernel_rfl
def wav_chunks_skip.L : LHd := fun l f w K => False
theorem wav_chunks_skip.eq (a0 : Option Addr) (a1 : Int) (a2 : Int) (w : World) (K : Value → World → Prop) : afn wav_chunks_skip.C wav_chunks_skip.L wav_chunks_skip.D tab Try.f42 [(Value.pointer a0), (Value.int .i64 a1), (Value.int .i64 a2)] w K = wav_chunks_skip.f a0 a1 a2 w (fun r0 w => K (Value.bool r0) w) := by kernel_rfl
theorem wav_chunks_skip.ok : FSound Try.prog 42 wav_chunks_skip.h := by
  intro args w K h
  unfold wav_chunks_skip.h wav_chunks_skip.H at h
  split at h
  ·
    replace h := vP_ok h
    obtain ⟨a0, rfl, h⟩ := h
    replace h := vI_ok h
    obtain ⟨a1, rfl, h⟩ := h
    replace h := vI_ok h
    obtain ⟨a2, rfl, h⟩ := h
    refine ⟨by kernel_rfl, fn_ok tab_ok wav_chunks_skip.C_ok (L := wav_chunks_skip.L) (D := wav_chunks_skip.D) Try.func42 wav_chunks_skip.hb (by kernel_rfl) (by rw [wav_chunks_skip.c_loops]; exact lnil) (Nat.le_of_ble_eq_true (by kernel_rfl)) ?_⟩
    rw [wav_chunks_skip.eq]
    exact h
  · exact h.elim
/-! ### valise/wav.Parse: function 15 -/
def wav_Parse.l7 : Nat → Option Addr → Nat → Nat → Addr → Addr → Addr → Bool → Bool → World → (Addr → Bool → World → Prop) → Prop
  | 0, _, _, _, _, _, _, _, _, _, _ => False
  | N + 1, y0, y0n, y0c, y2, y4, y5, y6, y7, w, Kr =>
    wav_chunks_next.f (some y4) w fun r43_25 r43_26 r43_27 r43_28 w =>
    bif (!r43_28) then
      stCs y2 [(Value.int .i64 0), (Value.int .i64 0), (Value.int .i64 0), (Value.int .i64 0)] 0 w fun w =>
      Kr y2 false w
    else
      let J_74 := fun (j6_69 : Bool) (j7_70 : Bool) (w : World) =>
        ((wav_chunks_skip.f (some y4) r43_26 r43_27 w fun r134_72 w =>
        bif (!r134_72) then
          stCs y2 [(Value.int .i64 0), (Value.int .i64 0), (Value.int .i64 0), (Value.int .i64 0)] 0 w fun w =>
          Kr y2 false w
        else
          wav_Parse.l7 N y0 y0n y0c y2 y4 y5 j6_69 j7_70 w Kr) : Prop)
      let J_68 := fun (j51_35 : Bool) (w : World) =>
        ((bif j51_35 then
          bnd y0n y0c (some (Value.int .i64 r43_26)) (some (Value.int .i64 (IntKind.wrap .i64 (r43_26 + 16)))) fun l_37 h_38 =>
          num_New.f (adrS y0 l_37 y0c 1) (h_38 - l_37) (y0c - l_37) w fun r76_39 w =>
          num_Reader_Little.f r76_39 2 w fun r78_41 w =>
          let v7_42 := (r78_41 == 1)
          num_Reader_Little.f r76_39 2 w fun r81_44 w =>
          stC y5 (Value.int .i64 (IntKind.wrap .i64 r81_44)) w fun w =>
          num_Reader_Raw.f r76_39 10 w fun r85_46 r85_46n r85_46c w =>
          num_Reader_Little.f r76_39 2 w fun r87_47 w =>
          stC (y5.add 1) (Value.int .i64 (IntKind.wrap .i64 r87_47)) w fun w =>
          J_74 true v7_42 w
        else
          let J_67 := fun (j90_49 : Bool) (w : World) =>
            ((bif j90_49 then
              ldI .i64 (y5.add 0) w fun x96_51 =>
              ldI .i64 (y5.add 1) w fun x96_52 =>
              ldI .i64 (y5.add 2) w fun x96_53 =>
              ldI .i64 (y5.add 3) w fun x96_54 =>
              wav_frame.f x96_51 x96_52 x96_53 x96_54 w fun r97_55 w =>
              let J_60 := fun (j113_58 : Bool) (w : World) =>
                ((bif j113_58 then
                  stCs y2 [(Value.int .i64 0), (Value.int .i64 0), (Value.int .i64 0), (Value.int .i64 0)] 0 w fun w =>
                  Kr y2 false w
                else
                  if r97_55 = 0 then False else
                  stC (y5.add 2) (Value.int .i64 r43_26) w.drew fun w =>
                  stC (y5.add 3) (Value.int .i64 (IntKind.wrap .i64 (r43_26 + (IntKind.wrap .i64 ((IntKind.wrap .i64 (Int.tdiv (IntKind.wrap .i64 ((mn r43_27 ((y0n : Nat) : Int)) - r43_26)) r97_55)) * r97_55))))) w fun w =>
                  ldI .i64 (y5.add 0) w fun x130_63 =>
                  ldI .i64 (y5.add 1) w fun x130_64 =>
                  ldI .i64 (y5.add 2) w fun x130_65 =>
                  ldI .i64 (y5.add 3) w fun x130_66 =>
                  stCs y2 [(Value.int .i64 x130_63), (Value.int .i64 x130_64), (Value.int .i64 x130_65), (Value.int .i64 x130_66)] 0 w fun w =>
                  Kr y2 true w) : Prop)
              bif (!y7) then
                J_60 true w
              else
                bif (r97_55 == 0) then
                  J_60 true w
                else
                  J_60 (decide ((IntKind.wrap .i64 ((mn r43_27 ((y0n : Nat) : Int)) - r43_26)) < r97_55)) w
            else
              J_74 y6 y7 w) : Prop)
          bif (r43_25.toList == (ByteArray.mk #[100, 97, 116, 97]).toList) then
            J_67 y6 w
          else
            J_67 false w) : Prop)
      bif (r43_25.toList == (ByteArray.mk #[102, 109, 116, 32]).toList) then
        bif (!y6) then
          bif (decide ((IntKind.wrap .i64 (r43_27 - r43_26)) ≥ 16)) then
            let v51_34 := (decide ((IntKind.wrap .i64 (r43_26 + 16)) ≤ ((y0n : Nat) : Int)))
            J_68 v51_34 w
          else
            J_68 false w
        else
          J_68 false w
      else
        J_68 false w

def wav_Parse.f (a0 : Option Addr) (a0n : Nat) (a0c : Nat) (w : World) (K : Int → Int → Int → Int → Bool → World → Prop) : Prop :=
  newC 26 [(Value.int .i64 0), (Value.int .i64 0), (Value.int .i64 0), (Value.int .i64 0)] w fun a2_2 w =>
  let J_14 := fun (j28_11 : Bool) (w : World) =>
    ((bif j28_11 then
      stCs a2_2 [(Value.int .i64 0), (Value.int .i64 0), (Value.int .i64 0), (Value.int .i64 0)] 0 w fun w =>
      ldI .i64 (a2_2.add 0) w fun q_13_0 =>
      ldI .i64 (a2_2.add 1) w fun q_13_1 =>
      ldI .i64 (a2_2.add 2) w fun q_13_2 =>
      ldI .i64 (a2_2.add 3) w fun q_13_3 =>
      K q_13_0 q_13_1 q_13_2 q_13_3 false w
    else
      num_New.f a0 a0n a0c w fun r31_16 w =>
      newC 68 [(Value.pointer r31_16), (Value.int .i64 ((a0n : Nat) : Int))] w fun a35_17 w =>
      ldP a35_17 w fun x39_19 =>
      num_Reader_Raw.f x39_19 12 w fun r40_20 r40_20n r40_20c w =>
      newC 26 [(Value.int .i64 0), (Value.int .i64 0), (Value.int .i64 0), (Value.int .i64 0)] w fun a5_22 w =>
      ∃ N_75 : Nat, wav_Parse.l7 N_75 a0 a0n a0c a2_2 a35_17 a5_22 false false w
      (fun o2_76 o3_77 w =>
        ldI .i64 (o2_76.add 0) w fun q_78_0 =>
        ldI .i64 (o2_76.add 1) w fun q_78_1 =>
        ldI .i64 (o2_76.add 2) w fun q_78_2 =>
        ldI .i64 (o2_76.add 3) w fun q_78_3 =>
        K q_78_0 q_78_1 q_78_2 q_78_3 o3_77 w)) : Prop)
  bif (decide (((a0n : Nat) : Int) < 12)) then
    J_14 true w
  else
    bnd a0n a0c none (some (Value.int .i64 4)) fun l_5 h_6 =>
    strL (adrS a0 l_5 a0c 1) (h_6 - l_5) (a0c - l_5) w fun s_7 =>
    bif (!(s_7.toList == (ByteArray.mk #[82, 73, 70, 70]).toList)) then
      J_14 true w
    else
      bnd a0n a0c (some (Value.int .i64 8)) (some (Value.int .i64 12)) fun l_8 h_9 =>
      strL (adrS a0 l_8 a0c 1) (h_9 - l_8) (a0c - l_8) w fun s_10 =>
      J_14 (!(s_10.toList == (ByteArray.mk #[87, 65, 86, 69]).toList)) w
def wav_Parse.H (F : type_of% @wav_Parse.f) : Hf := fun args w K => match args with
  | [v0] => vL v0 fun a0 a0n a0c => F a0 a0n a0c w (fun r0_0 r0_1 r0_2 r0_3 r1 w => K (Value.tuple #[(Value.agg #[(Value.int .i64 r0_0), (Value.int .i64 r0_1), (Value.int .i64 r0_2), (Value.int .i64 r0_3)]), (Value.bool r1)]) w)
  | _ => False
def wav_Parse.h : Hf := wav_Parse.H @wav_Parse.f
def wav_Parse.CG (F37 : type_of% @num_New.f) (F38 : type_of% @num_Reader_Raw.f) (F39 : type_of% @wav_chunks_next.f) (F40 : type_of% @num_Reader_Little.f) (F41 : type_of% @wav_frame.f) (F42 : type_of% @wav_chunks_skip.f) : Hd := hcons 42 (wav_chunks_skip.H F42) (hcons 41 (wav_frame.H F41) (hcons 40 (num_Reader_Little.H F40) (hcons 39 (wav_chunks_next.H F39) (hcons 38 (num_Reader_Raw.H F38) (hcons 37 (num_New.H F37) (hnil))))))
def wav_Parse.C : Hd := wav_Parse.CG @num_New.f @num_Reader_Raw.f @wav_chunks_next.f @num_Reader_Little.f @wav_frame.f @wav_chunks_skip.f
def wav_Parse.G (F37 : type_of% @num_New.f) (F38 : type_of% @num_Reader_Raw.f) (F39 : type_of% @wav_chunks_next.f) (F40 : type_of% @num_Reader_Little.f) (F41 : type_of% @wav_frame.f) (F42 : type_of% @wav_chunks_skip.f) (a0 : Option Addr) (a0n : Nat) (a0c : Nat) (w : World) (K : Int → Int → Int → Int → Bool → World → Prop) : Prop :=
  newC 26 [(Value.int .i64 0), (Value.int .i64 0), (Value.int .i64 0), (Value.int .i64 0)] w fun a2_2 w =>
  let J_14 := fun (j28_11 : Bool) (w : World) =>
    ((bif j28_11 then
      stCs a2_2 [(Value.int .i64 0), (Value.int .i64 0), (Value.int .i64 0), (Value.int .i64 0)] 0 w fun w =>
      ldI .i64 (a2_2.add 0) w fun q_13_0 =>
      ldI .i64 (a2_2.add 1) w fun q_13_1 =>
      ldI .i64 (a2_2.add 2) w fun q_13_2 =>
      ldI .i64 (a2_2.add 3) w fun q_13_3 =>
      K q_13_0 q_13_1 q_13_2 q_13_3 false w
    else
      F37 a0 a0n a0c w fun r31_16 w =>
      newC 68 [(Value.pointer r31_16), (Value.int .i64 ((a0n : Nat) : Int))] w fun a35_17 w =>
      ldP a35_17 w fun x39_19 =>
      F38 x39_19 12 w fun r40_20 r40_20n r40_20c w =>
      newC 26 [(Value.int .i64 0), (Value.int .i64 0), (Value.int .i64 0), (Value.int .i64 0)] w fun a5_22 w =>
      ∃ N_75 : Nat, wav_Parse.l7 N_75 a0 a0n a0c a2_2 a35_17 a5_22 false false w
      (fun o2_76 o3_77 w =>
        ldI .i64 (o2_76.add 0) w fun q_78_0 =>
        ldI .i64 (o2_76.add 1) w fun q_78_1 =>
        ldI .i64 (o2_76.add 2) w fun q_78_2 =>
        ldI .i64 (o2_76.add 3) w fun q_78_3 =>
        K q_78_0 q_78_1 q_78_2 q_78_3 o3_77 w)) : Prop)
  bif (decide (((a0n : Nat) : Int) < 12)) then
    J_14 true w
  else
    bnd a0n a0c none (some (Value.int .i64 4)) fun l_5 h_6 =>
    strL (adrS a0 l_5 a0c 1) (h_6 - l_5) (a0c - l_5) w fun s_7 =>
    bif (!(s_7.toList == (ByteArray.mk #[82, 73, 70, 70]).toList)) then
      J_14 true w
    else
      bnd a0n a0c (some (Value.int .i64 8)) (some (Value.int .i64 12)) fun l_8 h_9 =>
      strL (adrS a0 l_8 a0c 1) (h_9 - l_8) (a0c - l_8) w fun s_10 =>
      J_14 (!(s_10.toList == (ByteArray.mk #[87, 65, 86, 69]).toList)) w
theorem wav_Parse.C_ok : CSound Try.prog wav_Parse.C := hcons_ok wav_chunks_skip.ok (hcons_ok wav_frame.ok (hcons_ok num_Reader_Little.ok (hcons_ok wav_chunks_next.ok (hcons_ok num_Reader_Raw.ok (hcons_ok num_New.ok (hnil_ok))))))
def wav_Parse.D : Nat → Plan := fun i => (match Nat.beq i 20 with | true => .take 0 (.take 1 (.take 2 (.take 3 (.take 4 (.take 5 (.take 6 (.take 7 (.take 8 (.take 9 (.take 10 (.take 11 (.take 12 (.take 13 (.eff 14 (.take 15 (.eff 16 (.done))))))))))))))))) | false => .done)
noncomputable def wav_Parse.c : Code := Try.f15.body.getD .skip
theorem wav_Parse.hb : Try.f15.body = some wav_Parse.c := by kernel_rfl
noncomputable def wav_Parse.b0 : Code := (loopsOf wav_Parse.c).getD 0 .skip
theorem wav_Parse.b0_loops : loopsOf wav_Parse.b0 = [] := by kernel_rfl
theorem wav_Parse.c_loops : loopsOf wav_Parse.c = [wav_Parse.b0] := by kernel_rfl
def wav_Parse.l7G (F37 : type_of% @num_New.f) (F38 : type_of% @num_Reader_Raw.f) (F39 : type_of% @wav_chunks_next.f) (F40 : type_of% @num_Reader_Little.f) (F41 : type_of% @wav_frame.f) (F42 : type_of% @wav_chunks_skip.f) (R : Option Addr → Nat → Nat → Addr → Addr → Addr → Bool → Bool → World → (Addr → Bool → World → Prop) → Prop) : Option Addr → Nat → Nat → Addr → Addr → Addr → Bool → Bool → World → (Addr → Bool → World → Prop) → Prop := fun y0 y0n y0c y2 y4 y5 y6 y7 w Kr =>
    F39 (some y4) w fun r43_25 r43_26 r43_27 r43_28 w =>
    bif (!r43_28) then
      stCs y2 [(Value.int .i64 0), (Value.int .i64 0), (Value.int .i64 0), (Value.int .i64 0)] 0 w fun w =>
      Kr y2 false w
    else
      let J_74 := fun (j6_69 : Bool) (j7_70 : Bool) (w : World) =>
        ((F42 (some y4) r43_26 r43_27 w fun r134_72 w =>
        bif (!r134_72) then
          stCs y2 [(Value.int .i64 0), (Value.int .i64 0), (Value.int .i64 0), (Value.int .i64 0)] 0 w fun w =>
          Kr y2 false w
        else
          R y0 y0n y0c y2 y4 y5 j6_69 j7_70 w Kr) : Prop)
      let J_68 := fun (j51_35 : Bool) (w : World) =>
        ((bif j51_35 then
          bnd y0n y0c (some (Value.int .i64 r43_26)) (some (Value.int .i64 (IntKind.wrap .i64 (r43_26 + 16)))) fun l_37 h_38 =>
          F37 (adrS y0 l_37 y0c 1) (h_38 - l_37) (y0c - l_37) w fun r76_39 w =>
          F40 r76_39 2 w fun r78_41 w =>
          let v7_42 := (r78_41 == 1)
          F40 r76_39 2 w fun r81_44 w =>
          stC y5 (Value.int .i64 (IntKind.wrap .i64 r81_44)) w fun w =>
          F38 r76_39 10 w fun r85_46 r85_46n r85_46c w =>
          F40 r76_39 2 w fun r87_47 w =>
          stC (y5.add 1) (Value.int .i64 (IntKind.wrap .i64 r87_47)) w fun w =>
          J_74 true v7_42 w
        else
          let J_67 := fun (j90_49 : Bool) (w : World) =>
            ((bif j90_49 then
              ldI .i64 (y5.add 0) w fun x96_51 =>
              ldI .i64 (y5.add 1) w fun x96_52 =>
              ldI .i64 (y5.add 2) w fun x96_53 =>
              ldI .i64 (y5.add 3) w fun x96_54 =>
              F41 x96_51 x96_52 x96_53 x96_54 w fun r97_55 w =>
              let J_60 := fun (j113_58 : Bool) (w : World) =>
                ((bif j113_58 then
                  stCs y2 [(Value.int .i64 0), (Value.int .i64 0), (Value.int .i64 0), (Value.int .i64 0)] 0 w fun w =>
                  Kr y2 false w
                else
                  if r97_55 = 0 then False else
                  stC (y5.add 2) (Value.int .i64 r43_26) w.drew fun w =>
                  stC (y5.add 3) (Value.int .i64 (IntKind.wrap .i64 (r43_26 + (IntKind.wrap .i64 ((IntKind.wrap .i64 (Int.tdiv (IntKind.wrap .i64 ((mn r43_27 ((y0n : Nat) : Int)) - r43_26)) r97_55)) * r97_55))))) w fun w =>
                  ldI .i64 (y5.add 0) w fun x130_63 =>
                  ldI .i64 (y5.add 1) w fun x130_64 =>
                  ldI .i64 (y5.add 2) w fun x130_65 =>
                  ldI .i64 (y5.add 3) w fun x130_66 =>
                  stCs y2 [(Value.int .i64 x130_63), (Value.int .i64 x130_64), (Value.int .i64 x130_65), (Value.int .i64 x130_66)] 0 w fun w =>
                  Kr y2 true w) : Prop)
              bif (!y7) then
                J_60 true w
              else
                bif (r97_55 == 0) then
                  J_60 true w
                else
                  J_60 (decide ((IntKind.wrap .i64 ((mn r43_27 ((y0n : Nat) : Int)) - r43_26)) < r97_55)) w
            else
              J_74 y6 y7 w) : Prop)
          bif (r43_25.toList == (ByteArray.mk #[100, 97, 116, 97]).toList) then
            J_67 y6 w
          else
            J_67 false w) : Prop)
      bif (r43_25.toList == (ByteArray.mk #[102, 109, 116, 32]).toList) then
        bif (!y6) then
          bif (decide ((IntKind.wrap .i64 (r43_27 - r43_26)) ≥ 16)) then
            let v51_34 := (decide ((IntKind.wrap .i64 (r43_26 + 16)) ≤ ((y0n : Nat) : Int)))
            J_68 v51_34 w
          else
            J_68 false w
        else
          J_68 false w
      else
        J_68 false w

def wav_Parse.hn7 (N : Nat) (f : Fr) (w : World) (K : AExit → Fr → World → Prop) : Prop :=
  gN f 137 <| gL f 0 fun y0 y0n y0c => gQ f 2 fun y2 => gQ f 4 fun y4 => gQ f 5 fun y5 => gB f 6 fun y6 => gB f 7 fun y7 => wav_Parse.l7 N y0 y0n y0c y2 y4 y5 y6 y7 w (fun o2 o3 w => K .ret [none, none, some (Value.pointer (some o2)), some (Value.bool o3), none, none, none, none, none, none, none, none, none, none, none, none, none, none, none, none, none, none, none, none, none, none, none, none, none, none, none, none, none, none, none, none, none, none, none, none, none, none, none, none, none, none, none, none, none, none, none, none, none, none, none, none, none, none, none, none, none, none, none, none, none, none, none, none, none, none, none, none, none, none, none, none, none, none, none, none, none, none, none, none, none, none, none, none, none, none, none, none, none, none, none, none, none, none, none, none, none, none, none, none, none, none, none, none, none, none, none, none, none, none, none, none, none, none, none, none, none, none, none, none, none, none, none, none, none, none, none, none, none, none, none, none, none] w)
def wav_Parse.hx7 : AExit → Fr → World → (AExit → Fr → World → Prop) → Prop := fun e f w K => match e with
  | .normal => False
  | .exit i => False
  | .ret => gN f 137 <| gQ f 2 fun o2 => gB f 3 fun o3 => K .ret [none, none, some (Value.pointer (some o2)), some (Value.bool o3), none, none, none, none, none, none, none, none, none, none, none, none, none, none, none, none, none, none, none, none, none, none, none, none, none, none, none, none, none, none, none, none, none, none, none, none, none, none, none, none, none, none, none, none, none, none, none, none, none, none, none, none, none, none, none, none, none, none, none, none, none, none, none, none, none, none, none, none, none, none, none, none, none, none, none, none, none, none, none, none, none, none, none, none, none, none, none, none, none, none, none, none, none, none, none, none, none, none, none, none, none, none, none, none, none, none, none, none, none, none, none, none, none, none, none, none, none, none, none, none, none, none, none, none, none, none, none, none, none, none, none, none, none] w
def wav_Parse.L : LHd := fun l f w K => (match Nat.beq l 7 with | true => ∃ N, wav_Parse.hn7 N f w K | false => False)
theorem wav_Parse.leG7 (F37 : type_of% @num_New.f) (F38 : type_of% @num_Reader_Raw.f) (F39 : type_of% @wav_chunks_next.f) (F40 : type_of% @num_Reader_Little.f) (F41 : type_of% @wav_frame.f) (F42 : type_of% @wav_chunks_skip.f) (N : Nat) (y0 : Option Addr) (y0n : Nat) (y0c : Nat) (y2 : Addr) (y4 : Addr) (y5 : Addr) (y6 : Bool) (y7 : Bool) (w : World) (K : AExit → Fr → World → Prop) : awp (wav_Parse.CG F37 F38 F39 F40 F41 F42) wav_Parse.L wav_Parse.D tab wav_Parse.b0 (lpost wav_Parse.hn7 wav_Parse.hx7 N K) [some (Value.slice y0 y0n y0c), none, some (Value.pointer (some y2)), none, some (Value.pointer (some y4)), some (Value.pointer (some y5)), some (Value.bool y6), some (Value.bool y7), none, none, none, none, none, none, none, none, none, none, none, none, none, none, none, none, none, none, none, none, none, none, none, none, none, none, none, none, none, none, none, none, none, none, none, none, none, none, none, none, none, none, none, none, none, none, none, none, none, none, none, none, none, none, none, none, none, none, none, none, none, none, none, none, none, none, none, none, none, none, none, none, none, none, none, none, none, none, none, none, none, none, none, none, none, none, none, none, none, none, none, none, none, none, none, none, none, none, none, none, none, none, none, none, none, none, none, none, none, none, none, none, none, none, none, none, none, none, none, none, none, none, none, none, none, none, none, none, none] w = wav_Parse.l7G F37 F38 F39 F40 F41 F42 (wav_Parse.l7 N) y0 y0n y0c y2 y4 y5 y6 y7 w (fun o2 o3 w => K .ret [none, none, some (Value.pointer (some o2)), some (Value.bool o3), none, none, none, none, none, none, none, none, none, none, none, none, none, none, none, none, none, none, none, none, none, none, none, none, none, none, none, none, none, none, none, none, none, none, none, none, none, none, none, none, none, none, none, none, none, none, none, none, none, none, none, none, none, none, none, none, none, none, none, none, none, none, none, none, none, none, none, none, none, none, none, none, none, none, none, none, none, none, none, none, none, none, none, none, none, none, none, none, none, none, none, none, none, none, none, none, none, none, none, none, none, none, none, none, none, none, none, none, none, none, none, none, none, none, none, none, none, none, none, none, none, none, none, none, none, none, none, none, none, none, none, none, none] w) := by kernel_rfl
theorem wav_Parse.les7 (N : Nat) : wav_Parse.l7 (N + 1) = wav_Parse.l7G @num_New.f @num_Reader_Raw.f @wav_chunks_next.f @num_Reader_Little.f @wav_frame.f @wav_chunks_skip.f (wav_Parse.l7 N) := by kernel_rfl
theorem wav_Parse.le7 (N : Nat) (y0 : Option Addr) (y0n : Nat) (y0c : Nat) (y2 : Addr) (y4 : Addr) (y5 : Addr) (y6 : Bool) (y7 : Bool) (w : World) (K : AExit → Fr → World → Prop) : awp wav_Parse.C wav_Parse.L wav_Parse.D tab wav_Parse.b0 (lpost wav_Parse.hn7 wav_Parse.hx7 N K) [some (Value.slice y0 y0n y0c), none, some (Value.pointer (some y2)), none, some (Value.pointer (some y4)), some (Value.pointer (some y5)), some (Value.bool y6), some (Value.bool y7), none, none, none, none, none, none, none, none, none, none, none, none, none, none, none, none, none, none, none, none, none, none, none, none, none, none, none, none, none, none, none, none, none, none, none, none, none, none, none, none, none, none, none, none, none, none, none, none, none, none, none, none, none, none, none, none, none, none, none, none, none, none, none, none, none, none, none, none, none, none, none, none, none, none, none, none, none, none, none, none, none, none, none, none, none, none, none, none, none, none, none, none, none, none, none, none, none, none, none, none, none, none, none, none, none, none, none, none, none, none, none, none, none, none, none, none, none, none, none, none, none, none, none, none, none, none, none, none, none] w = wav_Parse.l7 (N + 1) y0 y0n y0c y2 y4 y5 y6 y7 w (fun o2 o3 w => K .ret [none, none, some (Value.pointer (some o2)), some (Value.bool o3), none, none, none, none, none, none, none, none, none, none, none, none, none, none, none, none, none, none, none, none, none, none, none, none, none, none, none, none, none, none, none, none, none, none, none, none, none, none, none, none, none, none, none, none, none, none, none, none, none, none, none, none, none, none, none, none, none, none, none, none, none, none, none, none, none, none, none, none, none, none, none, none, none, none, none, none, none, none, none, none, none, none, none, none, none, none, none, none, none, none, none, none, none, none, none, none, none, none, none, none, none, none, none, none, none, none, none, none, none, none, none, none, none, none, none, none, none, none, none, none, none, none, none, none, none, none, none, none, none, none, none, none, none] w) := by
  rw [wav_Parse.les7]
  exact wav_Parse.leG7 @num_New.f @num_Reader_Raw.f @wav_chunks_next.f @num_Reader_Little.f @wav_frame.f @wav_chunks_skip.f N y0 y0n y0c y2 y4 y5 y6 y7 w K
theorem wav_Parse.lok7 : LoopOk Try.prog wav_Parse.L wav_Parse.b0 := by
  refine loop_ok tab_ok wav_Parse.C_ok (D := wav_Parse.D) (wav_Parse.hn7) (wav_Parse.hx7) (by kernel_rfl) (by rw [wav_Parse.b0_loops]; exact lnil) ?_ ?_ ?_ ?_
  · intro f w K h
    unfold wav_Parse.hn7 at h
    obtain ⟨hlen, h⟩ := gN_ok h
    obtain ⟨y0, y0n, y0c, h0, h⟩ := gL_ok h
    obtain ⟨y2, h2, h⟩ := gQ_ok h
    obtain ⟨y4, h4, h⟩ := gQ_ok h
    obtain ⟨y5, h5, h⟩ := gQ_ok h
    obtain ⟨y6, h6, h⟩ := gB_ok h
    obtain ⟨y7, h7, h⟩ := gB_ok h
    exact h
  · intro N f w K h
    unfold wav_Parse.hn7 at h
    obtain ⟨hlen, h⟩ := gN_ok h
    obtain ⟨y0, y0n, y0c, h0, h⟩ := gL_ok h
    obtain ⟨y2, h2, h⟩ := gQ_ok h
    obtain ⟨y4, h4, h⟩ := gQ_ok h
    obtain ⟨y5, h5, h⟩ := gQ_ok h
    obtain ⟨y6, h6, h⟩ := gB_ok h
    obtain ⟨y7, h7, h⟩ := gB_ok h
    refine ⟨[some (Value.slice y0 y0n y0c), none, some (Value.pointer (some y2)), none, some (Value.pointer (some y4)), some (Value.pointer (some y5)), some (Value.bool y6), some (Value.bool y7), none, none, none, none, none, none, none, none, none, none, none, none, none, none, none, none, none, none, none, none, none, none, none, none, none, none, none, none, none, none, none, none, none, none, none, none, none, none, none, none, none, none, none, none, none, none, none, none, none, none, none, none, none, none, none, none, none, none, none, none, none, none, none, none, none, none, none, none, none, none, none, none, none, none, none, none, none, none, none, none, none, none, none, none, none, none, none, none, none, none, none, none, none, none, none, none, none, none, none, none, none, none, none, none, none, none, none, none, none, none, none, none, none, none, none, none, none, none, none, none, none, none, none, none, none, none, none, none, none], hlen, ⟨h0, h2, h4, h5, h6, h7, trivial⟩, ?_⟩
    rw [wav_Parse.le7]
    exact h
  · intro e f w K h
    cases e with
    | normal => exact h.elim
    | exit i =>
      exact (show False from h).elim
    | ret =>
      unfold wav_Parse.hx7 at h
      simp only at h
      obtain ⟨hlen, h⟩ := gN_ok h
      obtain ⟨o2, h2, h⟩ := gQ_ok h
      obtain ⟨o3, h3, h⟩ := gB_ok h
      exact ⟨[none, none, some (Value.pointer (some o2)), some (Value.bool o3), none, none, none, none, none, none, none, none, none, none, none, none, none, none, none, none, none, none, none, none, none, none, none, none, none, none, none, none, none, none, none, none, none, none, none, none, none, none, none, none, none, none, none, none, none, none, none, none, none, none, none, none, none, none, none, none, none, none, none, none, none, none, none, none, none, none, none, none, none, none, none, none, none, none, none, none, none, none, none, none, none, none, none, none, none, none, none, none, none, none, none, none, none, none, none, none, none, none, none, none, none, none, none, none, none, none, none, none, none, none, none, none, none, none, none, none, none, none, none, none, none, none, none, none, none, none, none, none, none, none, none, none, none], hlen, ⟨h2, h3, trivial⟩, h⟩
  · intro f w K h
    have e : lid wav_Parse.b0 = 7 := by kernel_rfl
    rw [e] at h
    exact h
theorem wav_Parse.eqG (F37 : type_of% @num_New.f) (F38 : type_of% @num_Reader_Raw.f) (F39 : type_of% @wav_chunks_next.f) (F40 : type_of% @num_Reader_Little.f) (F41 : type_of% @wav_frame.f) (F42 : type_of% @wav_chunks_skip.f) (a0 : Option Addr) (a0n : Nat) (a0c : Nat) (w : World) (K : Value → World → Prop) : afn (wav_Parse.CG F37 F38 F39 F40 F41 F42) wav_Parse.L wav_Parse.D tab Try.f15 [(Value.slice a0 a0n a0c)] w K = wav_Parse.G F37 F38 F39 F40 F41 F42 a0 a0n a0c w (fun r0_0 r0_1 r0_2 r0_3 r1 w => K (Value.tuple #[(Value.agg #[(Value.int .i64 r0_0), (Value.int .i64 r0_1), (Value.int .i64 r0_2), (Value.int .i64 r0_3)]), (Value.bool r1)]) w) := by kernel_rfl
theorem wav_Parse.eq (a0 : Option Addr) (a0n : Nat) (a0c : Nat) (w : World) (K : Value → World → Prop) : afn wav_Parse.C wav_Parse.L wav_Parse.D tab Try.f15 [(Value.slice a0 a0n a0c)] w K = wav_Parse.f a0 a0n a0c w (fun r0_0 r0_1 r0_2 r0_3 r1 w => K (Value.tuple #[(Value.agg #[(Value.int .i64 r0_0), (Value.int .i64 r0_1), (Value.int .i64 r0_2), (Value.int .i64 r0_3)]), (Value.bool r1)]) w) := wav_Parse.eqG @num_New.f @num_Reader_Raw.f @wav_chunks_next.f @num_Reader_Little.f @wav_frame.f @wav_chunks_skip.f a0 a0n a0c w K
theorem wav_Parse.ok : FSound Try.prog 15 wav_Parse.h := by
  intro args w K h
  unfold wav_Parse.h wav_Parse.H at h
  split at h
  ·
    replace h := vL_ok h
    obtain ⟨a0, a0n, a0c, rfl, h⟩ := h
    refine ⟨by kernel_rfl, fn_ok tab_ok wav_Parse.C_ok (L := wav_Parse.L) (D := wav_Parse.D) Try.func15 wav_Parse.hb (by kernel_rfl) (by rw [wav_Parse.c_loops]; exact lcons wav_Parse.lok7 (lnil)) (Nat.le_of_ble_eq_true (by kernel_rfl)) ?_⟩
    rw [wav_Parse.eq]
    exact h
  · exact h.elim
/-! ### valise/valiselaw13.awake: function 13 -/
def law13_awake.f  (w : World) (K : Bool → World → Prop) : Prop :=
  newC 5 [(Value.int .u8 1), (Value.int .u8 2)] w fun a5_3 w =>
  wav_Make.f 1 8 0 0 (some a5_3) 2 2 w fun r6_4 r6_4n r6_4c w =>
  wav_Parse.f r6_4 r6_4n r6_4c w fun r9_6_0 r9_6_1 r9_6_2 r9_6_3 r9_7 w =>
  newC 26 [(Value.int .i64 0), (Value.int .i64 0), (Value.int .i64 0), (Value.int .i64 0)] w fun a2_8 w =>
  stCs a2_8 [(Value.int .i64 r9_6_0), (Value.int .i64 r9_6_1), (Value.int .i64 r9_6_2), (Value.int .i64 r9_6_3)] 0 w fun w =>
  bif r9_7 then
    ldI .i64 (a2_8.add 0) w fun x14_10 =>
    ldI .i64 (a2_8.add 1) w fun x14_11 =>
    ldI .i64 (a2_8.add 2) w fun x14_12 =>
    ldI .i64 (a2_8.add 3) w fun x14_13 =>
    eqI .i64 4 #[(Value.int .i64 x14_10), (Value.int .i64 x14_11), (Value.int .i64 x14_12), (Value.int .i64 x14_13)] #[(Value.int .i64 1), (Value.int .i64 8), (Value.int .i64 44), (Value.int .i64 46)] fun e_14 =>
    K e_14 w
  else
    K false w
def law13_awake.H (F : type_of% @law13_awake.f) : Hf := fun args w K => match args with
  | [] =>  F  w (fun r0 w => K (Value.bool r0) w)
  | _ => False
def law13_awake.h : Hf := law13_awake.H @law13_awake.f
def law13_awake.C : Hd := hcons 15 wav_Parse.h (hcons 19 wav_Make.h (hnil))
theorem law13_awake.C_ok : CSound Try.prog law13_awake.C := hcons_ok wav_Parse.ok (hcons_ok wav_Make.ok (hnil_ok))
def law13_awake.D : Nat → Plan := fun i => .done
noncomputable def law13_awake.c : Code := Try.f13.body.getD .skip
theorem law13_awake.hb : Try.f13.body = some law13_awake.c := by kernel_rfl
theorem law13_awake.c_loops : loopsOf law13_awake.c = [] := by kernel_rfl
def law13_awake.L : LHd := fun l f w K => False
theorem law13_awake.eq  (w : World) (K : Value → World → Prop) : afn law13_awake.C law13_awake.L law13_awake.D tab Try.f13 [] w K = law13_awake.f  w (fun r0 w => K (Value.bool r0) w) := by kernel_rfl
theorem law13_awake.ok : FSound Try.prog 13 law13_awake.h := by
  intro args w K h
  unfold law13_awake.h law13_awake.H at h
  split at h
  ·
    refine ⟨by kernel_rfl, fn_ok tab_ok law13_awake.C_ok (L := law13_awake.L) (D := law13_awake.D) Try.func13 law13_awake.hb (by kernel_rfl) (by rw [law13_awake.c_loops]; exact lnil) (Nat.le_of_ble_eq_true (by kernel_rfl)) ?_⟩
    rw [law13_awake.eq]
    exact h
  · exact h.elim
/-! ### valise/valisehelp.Own[byte]: function 14 -/
def help_Own_byte.l5 : Nat → Int → Option Addr → Nat → Nat → Option Addr → Nat → Nat → Int → World → (Option Addr → Nat → Nat → World → Prop) → Prop
  | 0, _, _, _, _, _, _, _, _, _, _ => False
  | N + 1, y1, y5, y5n, y5c, y6, y6n, y6c, y7, w, K0 =>
    bif (decide (y7 < ((y6n : Nat) : Int))) then
      sm y6 fun p_15 =>
      if 0 ≤ (y7 : Int) ∧ (y7 : Int) < ((y6n : Nat) : Int) then
      stC (p_15.add (Int.toNat y7)) (Value.int .u8 y1) w fun w =>
      let v7_16 := (IntKind.wrap .i64 (y7 + 1))
      help_Own_byte.l5 N y1 y5 y5n y5c y6 y6n y6c v7_16 w K0
      else False
    else
      K0 y5 y5n y5c w

def help_Own_byte.f (a0 : Option Addr) (a0n : Nat) (a0c : Nat) (a1 : Int) (w : World) (K : Option Addr → Nat → Nat → World → Prop) : Prop :=
  mkL 5 1 1 [(Value.int .u8 0)] 0 (IntKind.wrap .i64 (((a0n : Nat) : Int) + 3)) w fun a11_3 a11_3n a11_3c w =>
  appL 5 1 1 [(Value.int .u8 0)] a11_3 a11_3n a11_3c a0 a0n a0c w fun a14_5 a14_5n a14_5c w =>
  bnd a14_5n a14_5c none (some (Value.int .i64 (IntKind.wrap .i64 (((a0n : Nat) : Int) + 3)))) fun l_7 h_8 =>
  let v7_11 := ((a0n : Nat) : Int)
  ∃ N_17 : Nat, help_Own_byte.l5 N_17 a1 a14_5 a14_5n a14_5c (adrS a14_5 l_7 a14_5c 1) (h_8 - l_7) (a14_5c - l_7) v7_11 w
  (fun o5_18 o5_18n o5_18c w =>
    K o5_18 o5_18n o5_18c w)
def help_Own_byte.H (F : type_of% @help_Own_byte.f) : Hf := fun args w K => match args with
  | [v0, v1] => vL v0 fun a0 a0n a0c => vI .u8 v1 fun a1 => F a0 a0n a0c a1 w (fun r0 r0n r0c w => K (Value.slice r0 r0n r0c) w)
  | _ => False
def help_Own_byte.h : Hf := help_Own_byte.H @help_Own_byte.f
def help_Own_byte.C : Hd := hnil
theorem help_Own_byte.C_ok : CSound Try.prog help_Own_byte.C := hnil_ok
def help_Own_byte.D : Nat → Plan := fun i => .done
noncomputable def help_Own_byte.c : Code := Try.f14.body.getD .skip
theorem help_Own_byte.hb : Try.f14.body = some help_Own_byte.c := by kernel_rfl
noncomputable def help_Own_byte.b0 : Code := (loopsOf help_Own_byte.c).getD 0 .skip
theorem help_Own_byte.b0_loops : loopsOf help_Own_byte.b0 = [] := by kernel_rfl
theorem help_Own_byte.c_loops : loopsOf help_Own_byte.c = [help_Own_byte.b0] := by kernel_rfl
def help_Own_byte.hn5 (N : Nat) (f : Fr) (w : World) (K : AExit → Fr → World → Prop) : Prop :=
  gN f 33 <| gI .u8 f 1 fun y1 => gL f 5 fun y5 y5n y5c => gL f 6 fun y6 y6n y6c => gI .i64 f 7 fun y7 => help_Own_byte.l5 N y1 y5 y5n y5c y6 y6n y6c y7 w (fun o5 o5n o5c w => K (.exit 0) [none, none, none, none, none, some (Value.slice o5 o5n o5c), none, none, none, none, none, none, none, none, none, none, none, none, none, none, none, none, none, none, none, none, none, none, none, none, none, none, none] w)
def help_Own_byte.hx5 : AExit → Fr → World → (AExit → Fr → World → Prop) → Prop := fun e f w K => match e with
  | .normal => False
  | .exit i => (match Nat.beq i 0 with | true => gN f 33 <| gL f 5 fun o5 o5n o5c => K (.exit 0) [none, none, none, none, none, some (Value.slice o5 o5n o5c), none, none, none, none, none, none, none, none, none, none, none, none, none, none, none, none, none, none, none, none, none, none, none, none, none, none, none] w | false => False)
  | .ret => False
def help_Own_byte.L : LHd := fun l f w K => (match Nat.beq l 5 with | true => ∃ N, help_Own_byte.hn5 N f w K | false => False)
theorem help_Own_byte.le5 (N : Nat) (y1 : Int) (y5 : Option Addr) (y5n : Nat) (y5c : Nat) (y6 : Option Addr) (y6n : Nat) (y6c : Nat) (y7 : Int) (w : World) (K : AExit → Fr → World → Prop) : awp help_Own_byte.C help_Own_byte.L help_Own_byte.D tab help_Own_byte.b0 (lpost help_Own_byte.hn5 help_Own_byte.hx5 N K) [none, some (Value.int .u8 y1), none, none, none, some (Value.slice y5 y5n y5c), some (Value.slice y6 y6n y6c), some (Value.int .i64 y7), none, none, none, none, none, none, none, none, none, none, none, none, none, none, none, none, none, none, none, none, none, none, none, none, none] w = help_Own_byte.l5 (N + 1) y1 y5 y5n y5c y6 y6n y6c y7 w (fun o5 o5n o5c w => K (.exit 0) [none, none, none, none, none, some (Value.slice o5 o5n o5c), none, none, none, none, none, none, none, none, none, none, none, none, none, none, none, none, none, none, none, none, none, none, none, none, none, none, none] w) := by kernel_rfl
theorem help_Own_byte.lok5 : LoopOk Try.prog help_Own_byte.L help_Own_byte.b0 := by
  refine loop_ok tab_ok help_Own_byte.C_ok (D := help_Own_byte.D) (help_Own_byte.hn5) (help_Own_byte.hx5) (by kernel_rfl) (by rw [help_Own_byte.b0_loops]; exact lnil) ?_ ?_ ?_ ?_
  · intro f w K h
    unfold help_Own_byte.hn5 at h
    obtain ⟨hlen, h⟩ := gN_ok h
    obtain ⟨y1, h1, h⟩ := gI_ok h
    obtain ⟨y5, y5n, y5c, h5, h⟩ := gL_ok h
    obtain ⟨y6, y6n, y6c, h6, h⟩ := gL_ok h
    obtain ⟨y7, h7, h⟩ := gI_ok h
    exact h
  · intro N f w K h
    unfold help_Own_byte.hn5 at h
    obtain ⟨hlen, h⟩ := gN_ok h
    obtain ⟨y1, h1, h⟩ := gI_ok h
    obtain ⟨y5, y5n, y5c, h5, h⟩ := gL_ok h
    obtain ⟨y6, y6n, y6c, h6, h⟩ := gL_ok h
    obtain ⟨y7, h7, h⟩ := gI_ok h
    refine ⟨[none, some (Value.int .u8 y1), none, none, none, some (Value.slice y5 y5n y5c), some (Value.slice y6 y6n y6c), some (Value.int .i64 y7), none, none, none, none, none, none, none, none, none, none, none, none, none, none, none, none, none, none, none, none, none, none, none, none, none], hlen, ⟨h1, h5, h6, h7, trivial⟩, ?_⟩
    rw [help_Own_byte.le5]
    exact h
  · intro e f w K h
    cases e with
    | normal => exact h.elim
    | exit i =>
      unfold help_Own_byte.hx5 at h
      simp only at h
      split at h
      · rename_i hb
        obtain rfl := Nat.eq_of_beq_eq_true hb
        obtain ⟨hlen, h⟩ := gN_ok h
        obtain ⟨o5, o5n, o5c, h5, h⟩ := gL_ok h
        exact ⟨[none, none, none, none, none, some (Value.slice o5 o5n o5c), none, none, none, none, none, none, none, none, none, none, none, none, none, none, none, none, none, none, none, none, none, none, none, none, none, none, none], hlen, ⟨h5, trivial⟩, h⟩
      · exact (show False from h).elim
    | ret =>
      exact (show False from h).elim
  · intro f w K h
    have e : lid help_Own_byte.b0 = 5 := by kernel_rfl
    rw [e] at h
    exact h
theorem help_Own_byte.eq (a0 : Option Addr) (a0n : Nat) (a0c : Nat) (a1 : Int) (w : World) (K : Value → World → Prop) : afn help_Own_byte.C help_Own_byte.L help_Own_byte.D tab Try.f14 [(Value.slice a0 a0n a0c), (Value.int .u8 a1)] w K = help_Own_byte.f a0 a0n a0c a1 w (fun r0 r0n r0c w => K (Value.slice r0 r0n r0c) w) := by kernel_rfl
theorem help_Own_byte.ok : FSound Try.prog 14 help_Own_byte.h := by
  intro args w K h
  unfold help_Own_byte.h help_Own_byte.H at h
  split at h
  ·
    replace h := vL_ok h
    obtain ⟨a0, a0n, a0c, rfl, h⟩ := h
    replace h := vI_ok h
    obtain ⟨a1, rfl, h⟩ := h
    refine ⟨by kernel_rfl, fn_ok tab_ok help_Own_byte.C_ok (L := help_Own_byte.L) (D := help_Own_byte.D) Try.func14 help_Own_byte.hb (by kernel_rfl) (by rw [help_Own_byte.c_loops]; exact lcons help_Own_byte.lok5 (lnil)) (Nat.le_of_ble_eq_true (by kernel_rfl)) ?_⟩
    rw [help_Own_byte.eq]
    exact h
  · exact h.elim
/-! ### valise/valiseref02.New: function 61 -/
def ref02_New.f (a0 : Option Addr) (a0n : Nat) (a0c : Nat) (w : World) (K : Option Addr → World → Prop) : Prop :=
  appL 5 1 1 [(Value.int .u8 0)] none 0 0 a0 a0n a0c w fun a4_3 a4_3n a4_3c w =>
  newC 111 [(Value.slice a4_3 a4_3n a4_3c), (Value.int .i64 0), (Value.int .i64 0)] w fun a6_4 w =>
  K (some a6_4) w
def ref02_New.H (F : type_of% @ref02_New.f) : Hf := fun args w K => match args with
  | [v0] => vL v0 fun a0 a0n a0c => F a0 a0n a0c w (fun r0 w => K (Value.pointer r0) w)
  | _ => False
def ref02_New.h : Hf := ref02_New.H @ref02_New.f
def ref02_New.C : Hd := hnil
theorem ref02_New.C_ok : CSound Try.prog ref02_New.C := hnil_ok
def ref02_New.D : Nat → Plan := fun i => .done
noncomputable def ref02_New.c : Code := Try.f61.body.getD .skip
theorem ref02_New.hb : Try.f61.body = some ref02_New.c := by kernel_rfl
theorem ref02_New.c_loops : loopsOf ref02_New.c = [] := by kernel_rfl
def ref02_New.L : LHd := fun l f w K => False
theorem ref02_New.eq (a0 : Option Addr) (a0n : Nat) (a0c : Nat) (w : World) (K : Value → World → Prop) : afn ref02_New.C ref02_New.L ref02_New.D tab Try.f61 [(Value.slice a0 a0n a0c)] w K = ref02_New.f a0 a0n a0c w (fun r0 w => K (Value.pointer r0) w) := by kernel_rfl
theorem ref02_New.ok : FSound Try.prog 61 ref02_New.h := by
  intro args w K h
  unfold ref02_New.h ref02_New.H at h
  split at h
  ·
    replace h := vL_ok h
    obtain ⟨a0, a0n, a0c, rfl, h⟩ := h
    refine ⟨by kernel_rfl, fn_ok tab_ok ref02_New.C_ok (L := ref02_New.L) (D := ref02_New.D) Try.func61 ref02_New.hb (by kernel_rfl) (by rw [ref02_New.c_loops]; exact lnil) (Nat.le_of_ble_eq_true (by kernel_rfl)) ?_⟩
    rw [ref02_New.eq]
    exact h
  · exact h.elim
/-! ### (*valise/valiseref02.Reader).Raw: function 66 -/
def ref02_Reader_Raw.f (a0 : Option Addr) (a1 : Int) (w : World) (K : Option Addr → Nat → Nat → World → Prop) : Prop :=
  sm a0 fun p_5 =>
  ldI .i64 (p_5.add 2) w fun x10_6 =>
  bif (x10_6 != 0) then
    K none 0 0 w
  else
    sm a0 fun p_10 =>
    ldL p_10 w.drew fun x16_11 x16_11n x16_11c =>
    sm a0 fun p_12 =>
    ldI .i64 (p_12.add 1) w.drew fun x21_13 =>
    bif (decide ((mx a1 0) > (IntKind.wrap .i64 (((x16_11n : Nat) : Int) - x21_13)))) then
      sm a0 fun p_15 =>
      stC (p_15.add 2) (Value.int .i64 3) w.drew fun w =>
      K none 0 0 w
    else
      sm a0 fun p_18 =>
      ldI .i64 (p_18.add 1) w.drew fun x31_19 =>
      sm a0 fun p_20 =>
      stC (p_20.add 1) (Value.int .i64 (IntKind.wrap .i64 (x31_19 + (mx a1 0)))) w.drew fun w =>
      sm a0 fun p_22 =>
      ldL p_22 w.drew fun x39_23 x39_23n x39_23c =>
      sm a0 fun p_24 =>
      ldI .i64 (p_24.add 1) w.drew fun x43_25 =>
      sm a0 fun p_26 =>
      ldI .i64 (p_26.add 1) w.drew fun x49_27 =>
      bnd x39_23n x39_23c (some (Value.int .i64 (IntKind.wrap .i64 (x43_25 - (mx a1 0))))) (some (Value.int .i64 x49_27)) fun l_28 h_29 =>
      appL 5 1 1 [(Value.int .u8 0)] none 0 0 (adrS x39_23 l_28 x39_23c 1) (h_29 - l_28) (x39_23c - l_28) w.drew fun a51_30 a51_30n a51_30c w =>
      (World.cell? w (p_26.add 1) = some (.int .i64 x49_27)) ∧
      ((World.cell? w (p_24.add 1) = some (.int .i64 x43_25)) ∧
      ((World.cell? w p_22 = some (.slice x39_23 x39_23n x39_23c)) ∧
      (K a51_30 a51_30n a51_30c w)))
def ref02_Reader_Raw.H (F : type_of% @ref02_Reader_Raw.f) : Hf := fun args w K => match args with
  | [v0, v1] => vP v0 fun a0 => vI .i64 v1 fun a1 => F a0 a1 w (fun r0 r0n r0c w => K (Value.slice r0 r0n r0c) w)
  | _ => False
def ref02_Reader_Raw.h : Hf := ref02_Reader_Raw.H @ref02_Reader_Raw.f
def ref02_Reader_Raw.C : Hd := hnil
theorem ref02_Reader_Raw.C_ok : CSound Try.prog ref02_Reader_Raw.C := hnil_ok
def ref02_Reader_Raw.D : Nat → Plan := fun i => (match Nat.beq i 8 with | true => .take 0 (.take 1 (.take 2 (.take 3 (.take 4 (.take 5 (.take 6 (.take 7 (.take 8 (.take 9 (.take 10 (.take 11 (.take 12 (.take 13 (.take 14 (.eff 15 (.take 16 (.done))))))))))))))))) | false => (match Nat.beq i 4 with | true => .take 0 (.take 1 (.take 2 (.take 3 (.take 4 (.take 5 (.take 6 (.take 7 (.take 8 (.take 9 (.take 10 (.take 11 (.done)))))))))))) | false => .done))
noncomputable def ref02_Reader_Raw.c : Code := Try.f66.body.getD .skip
theorem ref02_Reader_Raw.hb : Try.f66.body = some ref02_Reader_Raw.c := by kernel_rfl
theorem ref02_Reader_Raw.c_loops : loopsOf ref02_Reader_Raw.c = [] := by kernel_rfl
def ref02_Reader_Raw.L : LHd := fun l f w K => False
theorem ref02_Reader_Raw.eq (a0 : Option Addr) (a1 : Int) (w : World) (K : Value → World → Prop) : afn ref02_Reader_Raw.C ref02_Reader_Raw.L ref02_Reader_Raw.D tab Try.f66 [(Value.pointer a0), (Value.int .i64 a1)] w K = ref02_Reader_Raw.f a0 a1 w (fun r0 r0n r0c w => K (Value.slice r0 r0n r0c) w) := by kernel_rfl
theorem ref02_Reader_Raw.ok : FSound Try.prog 66 ref02_Reader_Raw.h := by
  intro args w K h
  unfold ref02_Reader_Raw.h ref02_Reader_Raw.H at h
  split at h
  ·
    replace h := vP_ok h
    obtain ⟨a0, rfl, h⟩ := h
    replace h := vI_ok h
    obtain ⟨a1, rfl, h⟩ := h
    refine ⟨by kernel_rfl, fn_ok tab_ok ref02_Reader_Raw.C_ok (L := ref02_Reader_Raw.L) (D := ref02_Reader_Raw.D) Try.func66 ref02_Reader_Raw.hb (by kernel_rfl) (by rw [ref02_Reader_Raw.c_loops]; exact lnil) (Nat.le_of_ble_eq_true (by kernel_rfl)) ?_⟩
    rw [ref02_Reader_Raw.eq]
    exact h
  · exact h.elim
/-! ### (*valise/valiseref02.Reader).Little: function 62 -/
def ref02_Reader_Little.l4 : Nat → Option Addr → Nat → Nat → Int → Int → World → (Int → World → Prop) → Prop
  | 0, _, _, _, _, _, _, _ => False
  | N + 1, y5, y5n, y5c, y6, y7, w, K0 =>
    bif (decide (y7 ≥ 0)) then
      sm y5 fun p_11 =>
      if 0 ≤ (y7 : Int) ∧ (y7 : Int) < ((y5n : Nat) : Int) then
      ldI .u8 (p_11.add (Int.toNat y7)) w fun x24_12 =>
      let v6_13 := (bor .u64 (shl .u64 y6 8) (IntKind.wrap .u64 x24_12))
      let v7_14 := (IntKind.wrap .i64 (y7 - 1))
      ref02_Reader_Little.l4 N y5 y5n y5c v6_13 v7_14 w K0
      else False
    else
      K0 y6 w

def ref02_Reader_Little.f (a0 : Option Addr) (a1 : Int) (w : World) (K : Int → World → Prop) : Prop :=
  ref02_Reader_Raw.f a0 (mn a1 8) w fun r11_3 r11_3n r11_3c w =>
  let v7_7 := (IntKind.wrap .i64 (((r11_3n : Nat) : Int) - 1))
  ∃ N_15 : Nat, ref02_Reader_Little.l4 N_15 r11_3 r11_3n r11_3c 0 v7_7 w
  (fun o6_16 w =>
    K o6_16 w)
def ref02_Reader_Little.H (F : type_of% @ref02_Reader_Little.f) : Hf := fun args w K => match args with
  | [v0, v1] => vP v0 fun a0 => vI .i64 v1 fun a1 => F a0 a1 w (fun r0 w => K (Value.int .u64 r0) w)
  | _ => False
def ref02_Reader_Little.h : Hf := ref02_Reader_Little.H @ref02_Reader_Little.f
def ref02_Reader_Little.C : Hd := hcons 66 ref02_Reader_Raw.h (hnil)
theorem ref02_Reader_Little.C_ok : CSound Try.prog ref02_Reader_Little.C := hcons_ok ref02_Reader_Raw.ok (hnil_ok)
def ref02_Reader_Little.D : Nat → Plan := fun i => .done
noncomputable def ref02_Reader_Little.c : Code := Try.f62.body.getD .skip
theorem ref02_Reader_Little.hb : Try.f62.body = some ref02_Reader_Little.c := by kernel_rfl
noncomputable def ref02_Reader_Little.b0 : Code := (loopsOf ref02_Reader_Little.c).getD 0 .skip
theorem ref02_Reader_Little.b0_loops : loopsOf ref02_Reader_Little.b0 = [] := by kernel_rfl
theorem ref02_Reader_Little.c_loops : loopsOf ref02_Reader_Little.c = [ref02_Reader_Little.b0] := by kernel_rfl
def ref02_Reader_Little.hn4 (N : Nat) (f : Fr) (w : World) (K : AExit → Fr → World → Prop) : Prop :=
  gN f 28 <| gL f 5 fun y5 y5n y5c => gI .u64 f 6 fun y6 => gI .i64 f 7 fun y7 => ref02_Reader_Little.l4 N y5 y5n y5c y6 y7 w (fun o6 w => K (.exit 0) [none, none, none, none, none, none, some (Value.int .u64 o6), none, none, none, none, none, none, none, none, none, none, none, none, none, none, none, none, none, none, none, none, none] w)
def ref02_Reader_Little.hx4 : AExit → Fr → World → (AExit → Fr → World → Prop) → Prop := fun e f w K => match e with
  | .normal => False
  | .exit i => (match Nat.beq i 0 with | true => gN f 28 <| gI .u64 f 6 fun o6 => K (.exit 0) [none, none, none, none, none, none, some (Value.int .u64 o6), none, none, none, none, none, none, none, none, none, none, none, none, none, none, none, none, none, none, none, none, none] w | false => False)
  | .ret => False
def ref02_Reader_Little.L : LHd := fun l f w K => (match Nat.beq l 4 with | true => ∃ N, ref02_Reader_Little.hn4 N f w K | false => False)
theorem ref02_Reader_Little.le4 (N : Nat) (y5 : Option Addr) (y5n : Nat) (y5c : Nat) (y6 : Int) (y7 : Int) (w : World) (K : AExit → Fr → World → Prop) : awp ref02_Reader_Little.C ref02_Reader_Little.L ref02_Reader_Little.D tab ref02_Reader_Little.b0 (lpost ref02_Reader_Little.hn4 ref02_Reader_Little.hx4 N K) [none, none, none, none, none, some (Value.slice y5 y5n y5c), some (Value.int .u64 y6), some (Value.int .i64 y7), none, none, none, none, none, none, none, none, none, none, none, none, none, none, none, none, none, none, none, none] w = ref02_Reader_Little.l4 (N + 1) y5 y5n y5c y6 y7 w (fun o6 w => K (.exit 0) [none, none, none, none, none, none, some (Value.int .u64 o6), none, none, none, none, none, none, none, none, none, none, none, none, none, none, none, none, none, none, none, none, none] w) := by kernel_rfl
theorem ref02_Reader_Little.lok4 : LoopOk Try.prog ref02_Reader_Little.L ref02_Reader_Little.b0 := by
  refine loop_ok tab_ok ref02_Reader_Little.C_ok (D := ref02_Reader_Little.D) (ref02_Reader_Little.hn4) (ref02_Reader_Little.hx4) (by kernel_rfl) (by rw [ref02_Reader_Little.b0_loops]; exact lnil) ?_ ?_ ?_ ?_
  · intro f w K h
    unfold ref02_Reader_Little.hn4 at h
    obtain ⟨hlen, h⟩ := gN_ok h
    obtain ⟨y5, y5n, y5c, h5, h⟩ := gL_ok h
    obtain ⟨y6, h6, h⟩ := gI_ok h
    obtain ⟨y7, h7, h⟩ := gI_ok h
    exact h
  · intro N f w K h
    unfold ref02_Reader_Little.hn4 at h
    obtain ⟨hlen, h⟩ := gN_ok h
    obtain ⟨y5, y5n, y5c, h5, h⟩ := gL_ok h
    obtain ⟨y6, h6, h⟩ := gI_ok h
    obtain ⟨y7, h7, h⟩ := gI_ok h
    refine ⟨[none, none, none, none, none, some (Value.slice y5 y5n y5c), some (Value.int .u64 y6), some (Value.int .i64 y7), none, none, none, none, none, none, none, none, none, none, none, none, none, none, none, none, none, none, none, none], hlen, ⟨h5, h6, h7, trivial⟩, ?_⟩
    rw [ref02_Reader_Little.le4]
    exact h
  · intro e f w K h
    cases e with
    | normal => exact h.elim
    | exit i =>
      unfold ref02_Reader_Little.hx4 at h
      simp only at h
      split at h
      · rename_i hb
        obtain rfl := Nat.eq_of_beq_eq_true hb
        obtain ⟨hlen, h⟩ := gN_ok h
        obtain ⟨o6, h6, h⟩ := gI_ok h
        exact ⟨[none, none, none, none, none, none, some (Value.int .u64 o6), none, none, none, none, none, none, none, none, none, none, none, none, none, none, none, none, none, none, none, none, none], hlen, ⟨h6, trivial⟩, h⟩
      · exact (show False from h).elim
    | ret =>
      exact (show False from h).elim
  · intro f w K h
    have e : lid ref02_Reader_Little.b0 = 4 := by kernel_rfl
    rw [e] at h
    exact h
theorem ref02_Reader_Little.eq (a0 : Option Addr) (a1 : Int) (w : World) (K : Value → World → Prop) : afn ref02_Reader_Little.C ref02_Reader_Little.L ref02_Reader_Little.D tab Try.f62 [(Value.pointer a0), (Value.int .i64 a1)] w K = ref02_Reader_Little.f a0 a1 w (fun r0 w => K (Value.int .u64 r0) w) := by kernel_rfl
theorem ref02_Reader_Little.ok : FSound Try.prog 62 ref02_Reader_Little.h := by
  intro args w K h
  unfold ref02_Reader_Little.h ref02_Reader_Little.H at h
  split at h
  ·
    replace h := vP_ok h
    obtain ⟨a0, rfl, h⟩ := h
    replace h := vI_ok h
    obtain ⟨a1, rfl, h⟩ := h
    refine ⟨by kernel_rfl, fn_ok tab_ok ref02_Reader_Little.C_ok (L := ref02_Reader_Little.L) (D := ref02_Reader_Little.D) Try.func62 ref02_Reader_Little.hb (by kernel_rfl) (by rw [ref02_Reader_Little.c_loops]; exact lcons ref02_Reader_Little.lok4 (lnil)) (Nat.le_of_ble_eq_true (by kernel_rfl)) ?_⟩
    rw [ref02_Reader_Little.eq]
    exact h
  · exact h.elim
/-! ### valise/valiseref13.little: function 43 -/
def ref13_little.f (a0 : Option Addr) (a0n : Nat) (a0c : Nat) (a1 : Int) (a2 : Int) (w : World) (K : Int → World → Prop) : Prop :=
  bnd a0n a0c (some (Value.int .i64 a1)) (some (Value.int .i64 (IntKind.wrap .i64 (a1 + a2)))) fun l_3 h_4 =>
  ref02_New.f (adrS a0 l_3 a0c 1) (h_4 - l_3) (a0c - l_3) w fun r14_5 w =>
  ref02_Reader_Little.f r14_5 a2 w fun r17_7 w =>
  let v6_8 := (IntKind.wrap .i64 r17_7)
  K v6_8 w
def ref13_little.H (F : type_of% @ref13_little.f) : Hf := fun args w K => match args with
  | [v0, v1, v2] => vL v0 fun a0 a0n a0c => vI .i64 v1 fun a1 => vI .i64 v2 fun a2 => F a0 a0n a0c a1 a2 w (fun r0 w => K (Value.int .i64 r0) w)
  | _ => False
def ref13_little.h : Hf := ref13_little.H @ref13_little.f
def ref13_little.C : Hd := hcons 62 ref02_Reader_Little.h (hcons 61 ref02_New.h (hnil))
theorem ref13_little.C_ok : CSound Try.prog ref13_little.C := hcons_ok ref02_Reader_Little.ok (hcons_ok ref02_New.ok (hnil_ok))
def ref13_little.D : Nat → Plan := fun i => .done
noncomputable def ref13_little.c : Code := Try.f43.body.getD .skip
theorem ref13_little.hb : Try.f43.body = some ref13_little.c := by kernel_rfl
theorem ref13_little.c_loops : loopsOf ref13_little.c = [] := by kernel_rfl
def ref13_little.L : LHd := fun l f w K => False
theorem ref13_little.eq (a0 : Option Addr) (a0n : Nat) (a0c : Nat) (a1 : Int) (a2 : Int) (w : World) (K : Value → World → Prop) : afn ref13_little.C ref13_little.L ref13_little.D tab Try.f43 [(Value.slice a0 a0n a0c), (Value.int .i64 a1), (Value.int .i64 a2)] w K = ref13_little.f a0 a0n a0c a1 a2 w (fun r0 w => K (Value.int .i64 r0) w) := by kernel_rfl
theorem ref13_little.ok : FSound Try.prog 43 ref13_little.h := by
  intro args w K h
  unfold ref13_little.h ref13_little.H at h
  split at h
  ·
    replace h := vL_ok h
    obtain ⟨a0, a0n, a0c, rfl, h⟩ := h
    replace h := vI_ok h
    obtain ⟨a1, rfl, h⟩ := h
    replace h := vI_ok h
    obtain ⟨a2, rfl, h⟩ := h
    refine ⟨by kernel_rfl, fn_ok tab_ok ref13_little.C_ok (L := ref13_little.L) (D := ref13_little.D) Try.func43 ref13_little.hb (by kernel_rfl) (by rw [ref13_little.c_loops]; exact lnil) (Nat.le_of_ble_eq_true (by kernel_rfl)) ?_⟩
    rw [ref13_little.eq]
    exact h
  · exact h.elim

end Go.Proofs.Ytinmhmphidgdeaa.G
