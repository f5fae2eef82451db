/- Go functions as predicate transformers, written by a program of this session (gen.py), with their soundness. -/
import Derived.Test.YtmgcjihcbdgihaaGen1
set_option linter.unusedVariables false
set_option linter.unusedSimpArgs false
set_option maxRecDepth 100000
namespace Go.Proofs.Ytmgcjihcbdgihaa.G
open Go Go.Proofs.Ytmgcjihcbdgihaa.Vm
/-! ### valise/valisehelp.Kept[byte]: function 26 -/
def help_Kept_byte.l5 : Nat → Int → Option Addr → Nat → Nat → Int → World → (World → Prop) → (Bool → World → Prop) → Prop
  | 0, _, _, _, _, _, _, _, _ => False
  | N + 1, y2, y7, y7n, y7c, y8, w, K0, Kr =>
    bif (decide (y8 < ((y7n : Nat) : Int))) then
      sm y7 fun p_17 =>
      if 0 ≤ (y8 : Int) ∧ (y8 : Int) < ((y7n : Nat) : Int) then
      ldI .u8 (p_17.add (Int.toNat y8)) w fun x37_18 =>
      bif (x37_18 != y2) then
        Kr false w
      else
        let v8_20 := (IntKind.wrap .i64 (y8 + 1))
        help_Kept_byte.l5 N y2 y7 y7n y7c v8_20 w K0 Kr
      else False
    else
      K0 w

def help_Kept_byte.f (a0 : Option Addr) (a0n : Nat) (a0c : Nat) (a1 : Option Addr) (a1n : Nat) (a1c : Nat) (a2 : Int) (w : World) (K : Bool → World → Prop) : Prop :=
  help_Plain_byte.f a0 a0n a0c a1 a1n a1c w fun r11_4 w =>
  bif (!r11_4) then
    K false w
  else
    bif (decide (((a0c : Nat) : Int) < (IntKind.wrap .i64 (((a1n : Nat) : Int) + 3)))) then
      K false w
    else
      bnd a0n a0c none (some (Value.int .i64 (IntKind.wrap .i64 (((a1n : Nat) : Int) + 3)))) fun l_8 h_9 =>
      let v8_12 := ((a1n : Nat) : Int)
      ∃ N_21 : Nat, help_Kept_byte.l5 N_21 a2 (adrS a0 l_8 a0c 1) (h_9 - l_8) (a0c - l_8) v8_12 w
      (fun w =>
        K true w)
      (fun o6_22 w =>
        K o6_22 w)
def help_Kept_byte.H (F : type_of% @help_Kept_byte.f) : Hf := fun args w K => match args with
  | [v0, v1, v2] => vL v0 fun a0 a0n a0c => vL v1 fun a1 a1n a1c => vI .u8 v2 fun a2 => F a0 a0n a0c a1 a1n a1c a2 w (fun r0 w => K (Value.bool r0) w)
  | _ => False
def help_Kept_byte.h : Hf := help_Kept_byte.H @help_Kept_byte.f
def help_Kept_byte.C : Hd := hcons 49 help_Plain_byte.h (hnil)
theorem help_Kept_byte.C_ok : CSound Try.prog help_Kept_byte.C := hcons_ok help_Plain_byte.ok (hnil_ok)
def help_Kept_byte.D : Nat → Plan := fun i => .done
noncomputable def help_Kept_byte.c : Code := Try.f26.body.getD .skip
theorem help_Kept_byte.hb : Try.f26.body = some help_Kept_byte.c := by kernel_rfl
noncomputable def help_Kept_byte.b0 : Code := (loopsOf help_Kept_byte.c).getD 0 .skip
theorem help_Kept_byte.b0_loops : loopsOf help_Kept_byte.b0 = [] := by kernel_rfl
theorem help_Kept_byte.c_loops : loopsOf help_Kept_byte.c = [help_Kept_byte.b0] := by kernel_rfl
def help_Kept_byte.hn5 (N : Nat) (f : Fr) (w : World) (K : AExit → Fr → World → Prop) : Prop :=
  gN f 40 <| gI .u8 f 2 fun y2 => gL f 7 fun y7 y7n y7c => gI .i64 f 8 fun y8 => help_Kept_byte.l5 N y2 y7 y7n y7c y8 w (fun w => K (.exit 0) [none, none, none, none, none, none, none, none, none, none, none, none, none, none, none, none, none, none, none, none, none, none, none, none, none, none, none, none, none, none, none, none, none, none, none, none, none, none, none, none] w) (fun o6 w => K .ret [none, none, none, none, none, none, some (Value.bool o6), none, none, none, none, none, none, none, none, none, none, none, none, none, none, none, none, none, none, none, none, none, none, none, none, none, none, none, none, none, none, none, none, none] w)
def help_Kept_byte.hx5 : AExit → Fr → World → (AExit → Fr → World → Prop) → Prop := fun e f w K => match e with
  | .normal => False
  | .exit i => (match Nat.beq i 0 with | true => gN f 40 <|  K (.exit 0) [none, none, none, none, none, none, none, none, none, none, none, none, none, none, none, none, none, none, none, none, none, none, none, none, none, none, none, none, none, none, none, none, none, none, none, none, none, none, none, none] w | false => False)
  | .ret => gN f 40 <| gB f 6 fun o6 => K .ret [none, none, none, none, none, none, some (Value.bool o6), none, none, none, none, none, none, none, none, none, none, none, none, none, none, none, none, none, none, none, none, none, none, none, none, none, none, none, none, none, none, none, none, none] w
def help_Kept_byte.L : LHd := fun l f w K => (match Nat.beq l 5 with | true => ∃ N, help_Kept_byte.hn5 N f w K | false => False)
theorem help_Kept_byte.le5 (N : Nat) (y2 : Int) (y7 : Option Addr) (y7n : Nat) (y7c : Nat) (y8 : Int) (w : World) (K : AExit → Fr → World → Prop) : awp help_Kept_byte.C help_Kept_byte.L help_Kept_byte.D tab help_Kept_byte.b0 (lpost help_Kept_byte.hn5 help_Kept_byte.hx5 N K) [none, none, some (Value.int .u8 y2), none, none, none, none, some (Value.slice y7 y7n y7c), some (Value.int .i64 y8), none, none, none, none, none, none, none, none, none, none, none, none, none, none, none, none, none, none, none, none, none, none, none, none, none, none, none, none, none, none, none] w = help_Kept_byte.l5 (N + 1) y2 y7 y7n y7c y8 w (fun w => K (.exit 0) [none, none, none, none, none, none, none, none, none, none, none, none, none, none, none, none, none, none, none, none, none, none, none, none, none, none, none, none, none, none, none, none, none, none, none, none, none, none, none, none] w) (fun o6 w => K .ret [none, none, none, none, none, none, some (Value.bool o6), none, none, none, none, none, none, none, none, none, none, none, none, none, none, none, none, none, none, none, none, none, none, none, none, none, none, none, none, none, none, none, none, none] w) := by kernel_rfl
theorem help_Kept_byte.lok5 : LoopOk Try.prog help_Kept_byte.L help_Kept_byte.b0 := by
  refine loop_ok tab_ok help_Kept_byte.C_ok (D := help_Kept_byte.D) (help_Kept_byte.hn5) (help_Kept_byte.hx5) (by kernel_rfl) (by rw [help_Kept_byte.b0_loops]; exact lnil) ?_ ?_ ?_ ?_
  · intro f w K h
    unfold help_Kept_byte.hn5 at h
    obtain ⟨hlen, h⟩ := gN_ok h
    obtain ⟨y2, h2, h⟩ := gI_ok h
    obtain ⟨y7, y7n, y7c, h7, h⟩ := gL_ok h
    obtain ⟨y8, h8, h⟩ := gI_ok h
    exact h
  · intro N f w K h
    unfold help_Kept_byte.hn5 at h
    obtain ⟨hlen, h⟩ := gN_ok h
    obtain ⟨y2, h2, h⟩ := gI_ok h
    obtain ⟨y7, y7n, y7c, h7, h⟩ := gL_ok h
    obtain ⟨y8, h8, h⟩ := gI_ok h
    refine ⟨[none, none, some (Value.int .u8 y2), none, none, none, none, some (Value.slice y7 y7n y7c), some (Value.int .i64 y8), none, none, none, none, none, none, none, none, none, none, none, none, none, none, none, none, none, none, none, none, none, none, none, none, none, none, none, none, none, none, none], hlen, ⟨h2, h7, h8, trivial⟩, ?_⟩
    rw [help_Kept_byte.le5]
    exact h
  · intro e f w K h
    cases e with
    | normal => exact h.elim
    | exit i =>
      unfold help_Kept_byte.hx5 at h
      simp only at h
      split at h
      · rename_i hb
        obtain rfl := Nat.eq_of_beq_eq_true hb
        obtain ⟨hlen, h⟩ := gN_ok h
        exact ⟨[none, none, none, none, none, none, none, none, none, none, none, none, none, none, none, none, none, none, none, none, none, none, none, none, none, none, none, none, none, none, none, none, none, none, none, none, none, none, none, none], hlen, trivial, h⟩
      · exact (show False from h).elim
    | ret =>
      unfold help_Kept_byte.hx5 at h
      simp only at h
      obtain ⟨hlen, h⟩ := gN_ok h
      obtain ⟨o6, h6, h⟩ := gB_ok h
      exact ⟨[none, none, none, none, none, none, some (Value.bool o6), none, none, none, none, none, none, none, none, none, none, none, none, none, none, none, none, none, none, none, none, none, none, none, none, none, none, none, none, none, none, none, none, none], hlen, ⟨h6, trivial⟩, h⟩
  · intro f w K h
    have e : lid help_Kept_byte.b0 = 5 := by kernel_rfl
    rw [e] at h
    exact h
theorem help_Kept_byte.eq (a0 : Option Addr) (a0n : Nat) (a0c : Nat) (a1 : Option Addr) (a1n : Nat) (a1c : Nat) (a2 : Int) (w : World) (K : Value → World → Prop) : afn help_Kept_byte.C help_Kept_byte.L help_Kept_byte.D tab Try.f26 [(Value.slice a0 a0n a0c), (Value.slice a1 a1n a1c), (Value.int .u8 a2)] w K = help_Kept_byte.f a0 a0n a0c a1 a1n a1c a2 w (fun r0 w => K (Value.bool r0) w) := by kernel_rfl
theorem help_Kept_byte.ok : FSound Try.prog 26 help_Kept_byte.h := by
  intro args w K h
  unfold help_Kept_byte.h help_Kept_byte.H at h
  split at h
  ·
    replace h := vL_ok h
    obtain ⟨a0, a0n, a0c, rfl, h⟩ := h
    replace h := vL_ok h
    obtain ⟨a1, a1n, a1c, rfl, h⟩ := h
    replace h := vI_ok h
    obtain ⟨a2, rfl, h⟩ := h
    refine ⟨by kernel_rfl, fn_ok tab_ok help_Kept_byte.C_ok (L := help_Kept_byte.L) (D := help_Kept_byte.D) Try.func26 help_Kept_byte.hb (by kernel_rfl) (by rw [help_Kept_byte.c_loops]; exact lcons help_Kept_byte.lok5 (lnil)) (Nat.le_of_ble_eq_true (by kernel_rfl)) ?_⟩
    rw [help_Kept_byte.eq]
    exact h
  · exact h.elim
/-! ### valise/tracks.may: function 50 -/
def tracks_may.f (a0 : Int) (a1 : Int) (w : World) (K : Bool → World → Prop) : Prop :=
  bif (decide (a0 ≥ 1)) then
    bif (decide (a0 ≤ 8)) then
      bif (a1 == 8) then
        K true w
      else
        K (a1 == 16) w
    else
      K false w
  else
    K false w
def tracks_may.H (F : type_of% @tracks_may.f) : Hf := fun args w K => match args with
  | [v0, v1] => vI .i64 v0 fun a0 => vI .i64 v1 fun a1 => F a0 a1 w (fun r0 w => K (Value.bool r0) w)
  | _ => False
def tracks_may.h : Hf := tracks_may.H @tracks_may.f
def tracks_may.C : Hd := hnil
theorem tracks_may.C_ok : CSound Try.prog tracks_may.C := hnil_ok
def tracks_may.D : Nat → Plan := fun i => .done
noncomputable def tracks_may.c : Code := Try.f50.body.getD .skip
theorem tracks_may.hb : Try.f50.body = some tracks_may.c := by kernel_rfl
theorem tracks_may.c_loops : loopsOf tracks_may.c = [] := by kernel_rfl
def tracks_may.L : LHd := fun l f w K => False
theorem tracks_may.eq (a0 : Int) (a1 : Int) (w : World) (K : Value → World → Prop) : afn tracks_may.C tracks_may.L tracks_may.D tab Try.f50 [(Value.int .i64 a0), (Value.int .i64 a1)] w K = tracks_may.f a0 a1 w (fun r0 w => K (Value.bool r0) w) := by kernel_rfl
theorem tracks_may.ok : FSound Try.prog 50 tracks_may.h := by
  intro args w K h
  unfold tracks_may.h tracks_may.H at h
  split at h
  ·
    replace h := vI_ok h
    obtain ⟨a0, rfl, h⟩ := h
    replace h := vI_ok h
    obtain ⟨a1, rfl, h⟩ := h
    refine ⟨by kernel_rfl, fn_ok tab_ok tracks_may.C_ok (L := tracks_may.L) (D := tracks_may.D) Try.func50 tracks_may.hb (by kernel_rfl) (by rw [tracks_may.c_loops]; exact lnil) (Nat.le_of_ble_eq_true (by kernel_rfl)) ?_⟩
    rw [tracks_may.eq]
    exact h
  · exact h.elim
/-! ### valise/tracks.Split: function 28 -/
def tracks_Split.l8 : Nat → Option Addr → Nat → Nat → Int → Int → Option Addr → Nat → Nat → Int → World → (Option Addr → Nat → Nat → World → Prop) → Prop
  | 0, _, _, _, _, _, _, _, _, _, _, _ => False
  | N + 1, y0, y0n, y0c, y1, y8, y9, y9n, y9c, y10, w, K0 =>
    bif (decide (y10 < ((y0n : Nat) : Int))) then
      sm y0 fun p_19 =>
      if 0 ≤ (y10 : Int) ∧ (y10 : Int) < ((y0n : Nat) : Int) then
      ldI .u8 (p_19.add (Int.toNat y10)) w fun x38_20 =>
      let v11_21 := (IntKind.wrap .i32 ((IntKind.wrap .i32 x38_20) - 128))
      let J_37 := fun (j11_29 : Int) (w : World) =>
        ((if y8 = 0 then False else
        if y1 = 0 then False else
        let v12_31 := (Int.tmod (IntKind.wrap .i64 (Int.tdiv y10 y8)) y1)
        sm y9 fun p_32 =>
        if 0 ≤ (v12_31 : Int) ∧ (v12_31 : Int) < ((y9n : Nat) : Int) then
        ldL (p_32.add (Int.toNat v12_31)) w fun x68_33 x68_33n x68_33c =>
        newC 21 [(Value.int .i32 j11_29)] w fun a70_34 w =>
        appL 21 1 4 [(Value.int .i32 0)] x68_33 x68_33n x68_33c (some a70_34) 1 1 w fun a71_35 a71_35n a71_35c w =>
        sm y9 fun p_36 =>
        if 0 ≤ (v12_31 : Int) ∧ (v12_31 : Int) < ((y9n : Nat) : Int) then
        stC (p_36.add (Int.toNat v12_31)) (Value.slice a71_35 a71_35n a71_35c) w fun w =>
        let v10_38 := (IntKind.wrap .i64 (y10 + y8))
        tracks_Split.l8 N y0 y0n y0c y1 y8 y9 y9n y9c v10_38 w K0
        else False
        else False) : Prop)
      bif (y8 == 2) then
        sm y0 fun p_24 =>
        if 0 ≤ (y10 : Int) ∧ (y10 : Int) < ((y0n : Nat) : Int) then
        ldI .u8 (p_24.add (Int.toNat y10)) w.drew fun x46_25 =>
        sm y0 fun p_26 =>
        if 0 ≤ ((IntKind.wrap .i64 (y10 + 1)) : Int) ∧ ((IntKind.wrap .i64 (y10 + 1)) : Int) < ((y0n : Nat) : Int) then
        ldI .u8 (p_26.add (Int.toNat (IntKind.wrap .i64 (y10 + 1)))) w.drew fun x52_27 =>
        let v11_28 := (IntKind.wrap .i32 (IntKind.wrap .i16 (bor .u16 (IntKind.wrap .u16 x46_25) (shl .u16 (IntKind.wrap .u16 x52_27) 8))))
        J_37 v11_28 w.drew
        else False
        else False
      else
        J_37 v11_21 w
      else False
    else
      K0 y9 y9n y9c w

def tracks_Split.f (a0 : Option Addr) (a0n : Nat) (a0c : Nat) (a1 : Int) (a2 : Int) (w : World) (K : Option Addr → Nat → Nat → Int → World → Prop) : Prop :=
  tracks_may.f a1 a2 w fun r15_4 w =>
  bif (!r15_4) then
    K none 0 0 1 w
  else
    let v8_7 := (IntKind.wrap .i64 (Int.tdiv a2 8))
    if (IntKind.wrap .i64 (a1 * v8_7)) = 0 then False else
    bif ((Int.tmod ((a0n : Nat) : Int) (IntKind.wrap .i64 (a1 * v8_7))) != 0) then
      K none 0 0 4 w
    else
      mkL 38 1 24 [(Value.slice none 0 0)] a1 a1 w fun a27_12 a27_12n a27_12c w =>
      ∃ N_39 : Nat, tracks_Split.l8 N_39 a0 a0n a0c a1 v8_7 a27_12 a27_12n a27_12c 0 w
      (fun o9_40 o9_40n o9_40c w =>
        K o9_40 o9_40n o9_40c 0 w)
def tracks_Split.H (F : type_of% @tracks_Split.f) : Hf := fun args w K => match args with
  | [v0, v1, v2] => vL v0 fun a0 a0n a0c => vI .i64 v1 fun a1 => vI .i64 v2 fun a2 => F a0 a0n a0c a1 a2 w (fun r0 r0n r0c r1 w => K (Value.tuple #[(Value.slice r0 r0n r0c), (Value.int .i64 r1)]) w)
  | _ => False
def tracks_Split.h : Hf := tracks_Split.H @tracks_Split.f
def tracks_Split.C : Hd := hcons 50 tracks_may.h (hnil)
theorem tracks_Split.C_ok : CSound Try.prog tracks_Split.C := hcons_ok tracks_may.ok (hnil_ok)
def tracks_Split.D : Nat → Plan := fun i => (match Nat.beq i 12 with | true => .take 0 (.take 1 (.take 2 (.take 3 (.take 4 (.take 5 (.take 6 (.take 7 (.take 8 (.take 9 (.take 10 (.take 11 (.take 12 (.take 13 (.take 14 (.take 15 (.done)))))))))))))))) | false => .done)
noncomputable def tracks_Split.c : Code := Try.f28.body.getD .skip
theorem tracks_Split.hb : Try.f28.body = some tracks_Split.c := by kernel_rfl
noncomputable def tracks_Split.b0 : Code := (loopsOf tracks_Split.c).getD 0 .skip
theorem tracks_Split.b0_loops : loopsOf tracks_Split.b0 = [] := by kernel_rfl
theorem tracks_Split.c_loops : loopsOf tracks_Split.c = [tracks_Split.b0] := by kernel_rfl
def tracks_Split.hn8 (N : Nat) (f : Fr) (w : World) (K : AExit → Fr → World → Prop) : Prop :=
  gN f 74 <| gL f 0 fun y0 y0n y0c => gI .i64 f 1 fun y1 => gI .i64 f 8 fun y8 => gL f 9 fun y9 y9n y9c => gI .i64 f 10 fun y10 => tracks_Split.l8 N y0 y0n y0c y1 y8 y9 y9n y9c y10 w (fun o9 o9n o9c w => K (.exit 0) [none, none, none, none, none, none, none, none, none, some (Value.slice o9 o9n o9c), none, none, none, none, none, none, none, none, none, none, none, none, none, none, none, none, none, none, none, none, none, none, none, none, none, none, none, none, none, none, none, none, none, none, none, none, none, none, none, none, none, none, none, none, none, none, none, none, none, none, none, none, none, none, none, none, none, none, none, none, none, none, none, none] w)
def tracks_Split.hx8 : AExit → Fr → World → (AExit → Fr → World → Prop) → Prop := fun e f w K => match e with
  | .normal => False
  | .exit i => (match Nat.beq i 0 with | true => gN f 74 <| gL f 9 fun o9 o9n o9c => K (.exit 0) [none, none, none, none, none, none, none, none, none, some (Value.slice o9 o9n o9c), none, none, none, none, none, none, none, none, none, none, none, none, none, none, none, none, none, none, none, none, none, none, none, none, none, none, none, none, none, none, none, none, none, none, none, none, none, none, none, none, none, none, none, none, none, none, none, none, none, none, none, none, none, none, none, none, none, none, none, none, none, none, none, none] w | false => False)
  | .ret => False
def tracks_Split.L : LHd := fun l f w K => (match Nat.beq l 8 with | true => ∃ N, tracks_Split.hn8 N f w K | false => False)
theorem tracks_Split.le8 (N : Nat) (y0 : Option Addr) (y0n : Nat) (y0c : Nat) (y1 : Int) (y8 : Int) (y9 : Option Addr) (y9n : Nat) (y9c : Nat) (y10 : Int) (w : World) (K : AExit → Fr → World → Prop) : awp tracks_Split.C tracks_Split.L tracks_Split.D tab tracks_Split.b0 (lpost tracks_Split.hn8 tracks_Split.hx8 N K) [some (Value.slice y0 y0n y0c), some (Value.int .i64 y1), none, none, none, none, none, none, some (Value.int .i64 y8), some (Value.slice y9 y9n y9c), some (Value.int .i64 y10), none, none, none, none, none, none, none, none, none, none, none, none, none, none, none, none, none, none, none, none, none, none, none, none, none, none, none, none, none, none, none, none, none, none, none, none, none, none, none, none, none, none, none, none, none, none, none, none, none, none, none, none, none, none, none, none, none, none, none, none, none, none, none] w = tracks_Split.l8 (N + 1) y0 y0n y0c y1 y8 y9 y9n y9c y10 w (fun o9 o9n o9c w => K (.exit 0) [none, none, none, none, none, none, none, none, none, some (Value.slice o9 o9n o9c), none, none, none, none, none, none, none, none, none, none, none, none, none, none, none, none, none, none, none, none, none, none, none, none, none, none, none, none, none, none, none, none, none, none, none, none, none, none, none, none, none, none, none, none, none, none, none, none, none, none, none, none, none, none, none, none, none, none, none, none, none, none, none, none] w) := by kernel_rfl
theorem tracks_Split.lok8 : LoopOk Try.prog tracks_Split.L tracks_Split.b0 := by
  refine loop_ok tab_ok tracks_Split.C_ok (D := tracks_Split.D) (tracks_Split.hn8) (tracks_Split.hx8) (by kernel_rfl) (by rw [tracks_Split.b0_loops]; exact lnil) ?_ ?_ ?_ ?_
  · intro f w K h
    unfold tracks_Split.hn8 at h
    obtain ⟨hlen, h⟩ := gN_ok h
    obtain ⟨y0, y0n, y0c, h0, h⟩ := gL_ok h
    obtain ⟨y1, h1, h⟩ := gI_ok h
    obtain ⟨y8, h8, h⟩ := gI_ok h
    obtain ⟨y9, y9n, y9c, h9, h⟩ := gL_ok h
    obtain ⟨y10, h10, h⟩ := gI_ok h
    exact h
  · intro N f w K h
    unfold tracks_Split.hn8 at h
    obtain ⟨hlen, h⟩ := gN_ok h
    obtain ⟨y0, y0n, y0c, h0, h⟩ := gL_ok h
    obtain ⟨y1, h1, h⟩ := gI_ok h
    obtain ⟨y8, h8, h⟩ := gI_ok h
    obtain ⟨y9, y9n, y9c, h9, h⟩ := gL_ok h
    obtain ⟨y10, h10, h⟩ := gI_ok h
    refine ⟨[some (Value.slice y0 y0n y0c), some (Value.int .i64 y1), none, none, none, none, none, none, some (Value.int .i64 y8), some (Value.slice y9 y9n y9c), some (Value.int .i64 y10), none, none, none, none, none, none, none, none, none, none, none, none, none, none, none, none, none, none, none, none, none, none, none, none, none, none, none, none, none, none, none, none, none, none, none, none, none, none, none, none, none, none, none, none, none, none, none, none, none, none, none, none, none, none, none, none, none, none, none, none, none, none, none], hlen, ⟨h0, h1, h8, h9, h10, trivial⟩, ?_⟩
    rw [tracks_Split.le8]
    exact h
  · intro e f w K h
    cases e with
    | normal => exact h.elim
    | exit i =>
      unfold tracks_Split.hx8 at h
      simp only at h
      split at h
      · rename_i hb
        obtain rfl := Nat.eq_of_beq_eq_true hb
        obtain ⟨hlen, h⟩ := gN_ok h
        obtain ⟨o9, o9n, o9c, h9, h⟩ := gL_ok h
        exact ⟨[none, none, none, none, none, none, none, none, none, some (Value.slice o9 o9n o9c), none, none, none, none, none, none, none, none, none, none, none, none, none, none, none, none, none, none, none, none, none, none, none, none, none, none, none, none, none, none, none, none, none, none, none, none, none, none, none, none, none, none, none, none, none, none, none, none, none, none, none, none, none, none, none, none, none, none, none, none, none, none, none, none], hlen, ⟨h9, trivial⟩, h⟩
      · exact (show False from h).elim
    | ret =>
      exact (show False from h).elim
  · intro f w K h
    have e : lid tracks_Split.b0 = 8 := by kernel_rfl
    rw [e] at h
    exact h
theorem tracks_Split.eq (a0 : Option Addr) (a0n : Nat) (a0c : Nat) (a1 : Int) (a2 : Int) (w : World) (K : Value → World → Prop) : afn tracks_Split.C tracks_Split.L tracks_Split.D tab Try.f28 [(Value.slice a0 a0n a0c), (Value.int .i64 a1), (Value.int .i64 a2)] w K = tracks_Split.f a0 a0n a0c a1 a2 w (fun r0 r0n r0c r1 w => K (Value.tuple #[(Value.slice r0 r0n r0c), (Value.int .i64 r1)]) w) := by kernel_rfl
theorem tracks_Split.ok : FSound Try.prog 28 tracks_Split.h := by
  intro args w K h
  unfold tracks_Split.h tracks_Split.H at h
  split at h
  ·
    replace h := vL_ok h
    obtain ⟨a0, a0n, a0c, rfl, h⟩ := h
    replace h := vI_ok h
    obtain ⟨a1, rfl, h⟩ := h
    replace h := vI_ok h
    obtain ⟨a2, rfl, h⟩ := h
    refine ⟨by kernel_rfl, fn_ok tab_ok tracks_Split.C_ok (L := tracks_Split.L) (D := tracks_Split.D) Try.func28 tracks_Split.hb (by kernel_rfl) (by rw [tracks_Split.c_loops]; exact lcons tracks_Split.lok8 (lnil)) (Nat.le_of_ble_eq_true (by kernel_rfl)) ?_⟩
    rw [tracks_Split.eq]
    exact h
  · exact h.elim
/-! ### valise/valiselaw14.awake: function 27 -/
def law14_awake.f  (w : World) (K : Bool → World → Prop) : Prop :=
  newC 5 [(Value.int .u8 128), (Value.int .u8 129)] w fun a4_3 w =>
  tracks_Split.f (some a4_3) 2 2 1 8 w fun r5_4 r5_4n r5_4c r5_5 w =>
  bif (r5_5 == 0) then
    bif (((r5_4n : Nat) : Int) == 1) then
      sm r5_4 fun p_7 =>
      if 0 ≤ (0 : Int) ∧ (0 : Int) < ((r5_4n : Nat) : Int) then
      ldL p_7 w fun x18_8 x18_8n x18_8c =>
      bif (((x18_8n : Nat) : Int) == 2) then
        sm r5_4 fun p_9 =>
        if 0 ≤ (0 : Int) ∧ (0 : Int) < ((r5_4n : Nat) : Int) then
        ldL p_9 w fun x25_10 x25_10n x25_10c =>
        sm x25_10 fun p_11 =>
        if 0 ≤ (1 : Int) ∧ (1 : Int) < ((x25_10n : Nat) : Int) then
        ldI .i32 (p_11.add 1) w fun x27_12 =>
        let v0_13 := (x27_12 == 1)
        K v0_13 w
        else False
        else False
      else
        K false w
      else False
    else
      K false w
  else
    K false w
def law14_awake.H (F : type_of% @law14_awake.f) : Hf := fun args w K => match args with
  | [] =>  F  w (fun r0 w => K (Value.bool r0) w)
  | _ => False
def law14_awake.h : Hf := law14_awake.H @law14_awake.f
def law14_awake.C : Hd := hcons 28 tracks_Split.h (hnil)
theorem law14_awake.C_ok : CSound Try.prog law14_awake.C := hcons_ok tracks_Split.ok (hnil_ok)
def law14_awake.D : Nat → Plan := fun i => .done
noncomputable def law14_awake.c : Code := Try.f27.body.getD .skip
theorem law14_awake.hb : Try.f27.body = some law14_awake.c := by kernel_rfl
theorem law14_awake.c_loops : loopsOf law14_awake.c = [] := by kernel_rfl
def law14_awake.L : LHd := fun l f w K => False
theorem law14_awake.eq  (w : World) (K : Value → World → Prop) : afn law14_awake.C law14_awake.L law14_awake.D tab Try.f27 [] w K = law14_awake.f  w (fun r0 w => K (Value.bool r0) w) := by kernel_rfl
theorem law14_awake.ok : FSound Try.prog 27 law14_awake.h := by
  intro args w K h
  unfold law14_awake.h law14_awake.H at h
  split at h
  ·
    refine ⟨by kernel_rfl, fn_ok tab_ok law14_awake.C_ok (L := law14_awake.L) (D := law14_awake.D) Try.func27 law14_awake.hb (by kernel_rfl) (by rw [law14_awake.c_loops]; exact lnil) (Nat.le_of_ble_eq_true (by kernel_rfl)) ?_⟩
    rw [law14_awake.eq]
    exact h
  · exact h.elim
/-! ### valise/valiseref14.Split: function 29 -/
def ref14_Split.l8 : Nat → Option Addr → Nat → Nat → Int → Int → Int → Option Addr → Nat → Nat → Int → World → (Option Addr → Nat → Nat → World → Prop) → Prop
  | 0, _, _, _, _, _, _, _, _, _, _, _, _ => False
  | N + 1, y0, y0n, y0c, y1, y2, y8, y9, y9n, y9c, y10, w, K0 =>
    if y8 = 0 then False else
    bif (decide (y10 < (IntKind.wrap .i64 (Int.tdiv ((y0n : Nat) : Int) y8)))) then
      sm y0 fun p_20 =>
      if 0 ≤ ((IntKind.wrap .i64 (y10 * y8)) : Int) ∧ ((IntKind.wrap .i64 (y10 * y8)) : Int) < ((y0n : Nat) : Int) then
      ldI .u8 (p_20.add (Int.toNat (IntKind.wrap .i64 (y10 * y8)))) w fun x50_21 =>
      let v11_22 := (IntKind.wrap .i32 ((IntKind.wrap .i32 x50_21) - 128))
      let J_36 := fun (j11_30 : Int) (w : World) =>
        ((if y1 = 0 then False else
        if y1 = 0 then False else
        sm y9 fun p_31 =>
        if 0 ≤ ((Int.tmod y10 y1) : Int) ∧ ((Int.tmod y10 y1) : Int) < ((y9n : Nat) : Int) then
        ldL (p_31.add (Int.toNat (Int.tmod y10 y1))) w.drew fun x81_32 x81_32n x81_32c =>
        newC 21 [(Value.int .i32 j11_30)] w.drew fun a83_33 w =>
        (World.cell? w (p_31.add (Int.toNat (Int.tmod y10 y1))) = some (.slice x81_32 x81_32n x81_32c)) ∧
        (appL 21 1 4 [(Value.int .i32 0)] x81_32 x81_32n x81_32c (some a83_33) 1 1 w fun a84_34 a84_34n a84_34c w =>
        sm y9 fun p_35 =>
        if 0 ≤ ((Int.tmod y10 y1) : Int) ∧ ((Int.tmod y10 y1) : Int) < ((y9n : Nat) : Int) then
        stC (p_35.add (Int.toNat (Int.tmod y10 y1))) (Value.slice a84_34 a84_34n a84_34c) w fun w =>
        let v10_37 := (IntKind.wrap .i64 (y10 + 1))
        ref14_Split.l8 N y0 y0n y0c y1 y2 y8 y9 y9n y9c v10_37 w K0
        else False)
        else False) : Prop)
      bif (y2 == 16) then
        sm y0 fun p_25 =>
        if 0 ≤ ((IntKind.wrap .i64 (2 * y10)) : Int) ∧ ((IntKind.wrap .i64 (2 * y10)) : Int) < ((y0n : Nat) : Int) then
        ldI .u8 (p_25.add (Int.toNat (IntKind.wrap .i64 (2 * y10)))) w.drew fun x59_26 =>
        sm y0 fun p_27 =>
        if 0 ≤ ((IntKind.wrap .i64 ((IntKind.wrap .i64 (2 * y10)) + 1)) : Int) ∧ ((IntKind.wrap .i64 ((IntKind.wrap .i64 (2 * y10)) + 1)) : Int) < ((y0n : Nat) : Int) then
        ldI .u8 (p_27.add (Int.toNat (IntKind.wrap .i64 ((IntKind.wrap .i64 (2 * y10)) + 1)))) w.drew fun x66_28 =>
        let v11_29 := (IntKind.wrap .i32 (IntKind.wrap .i16 (bor .u16 (IntKind.wrap .u16 x59_26) (shl .u16 (IntKind.wrap .u16 x66_28) 8))))
        J_36 v11_29 w.drew
        else False
        else False
      else
        J_36 v11_22 w
      else False
    else
      K0 y9 y9n y9c w

def ref14_Split.f (a0 : Option Addr) (a0n : Nat) (a0c : Nat) (a1 : Int) (a2 : Int) (w : World) (K : Option Addr → Nat → Nat → Int → World → Prop) : Prop :=
  let J_41 := fun  (w : World) =>
    ((let v8_8 := (IntKind.wrap .i64 (Int.tdiv a2 8))
    if (IntKind.wrap .i64 (a1 * v8_8)) = 0 then False else
    bif ((Int.tmod ((a0n : Nat) : Int) (IntKind.wrap .i64 (a1 * v8_8))) != 0) then
      K none 0 0 4 w
    else
      mkL 38 1 24 [(Value.slice none 0 0)] a1 a1 w fun a36_13 a36_13n a36_13c w =>
      ∃ N_38 : Nat, ref14_Split.l8 N_38 a0 a0n a0c a1 a2 v8_8 a36_13 a36_13n a36_13c 0 w
      (fun o9_39 o9_39n o9_39c w =>
        K o9_39 o9_39n o9_39c 0 w)) : Prop)
  bif (decide (a1 < 1)) then
    K none 0 0 1 w
  else
    bif (decide (a1 > 8)) then
      K none 0 0 1 w
    else
      bif (a2 != 8) then
        bif (a2 != 16) then
          K none 0 0 1 w
        else
          J_41 w
      else
        J_41 w
def ref14_Split.H (F : type_of% @ref14_Split.f) : Hf := fun args w K => match args with
  | [v0, v1, v2] => vL v0 fun a0 a0n a0c => vI .i64 v1 fun a1 => vI .i64 v2 fun a2 => F a0 a0n a0c a1 a2 w (fun r0 r0n r0c r1 w => K (Value.tuple #[(Value.slice r0 r0n r0c), (Value.int .i64 r1)]) w)
  | _ => False
def ref14_Split.h : Hf := ref14_Split.H @ref14_Split.f
def ref14_Split.C : Hd := hnil
theorem ref14_Split.C_ok : CSound Try.prog ref14_Split.C := hnil_ok
def ref14_Split.D : Nat → Plan := fun i => (match Nat.beq i 13 with | true => .take 0 (.take 1 (.take 2 (.take 3 (.take 4 (.take 5 (.take 6 (.take 7 (.take 8 (.take 9 (.take 10 (.eff 11 (.eff 12 (.take 13 (.eff 14 (.done))))))))))))))) | false => (match Nat.beq i 12 with | true => .take 0 (.take 1 (.take 2 (.take 3 (.take 4 (.take 5 (.take 6 (.take 7 (.take 8 (.take 9 (.take 10 (.take 11 (.take 12 (.take 13 (.take 14 (.take 15 (.take 16 (.take 17 (.done)))))))))))))))))) | false => .done))
noncomputable def ref14_Split.c : Code := Try.f29.body.getD .skip
theorem ref14_Split.hb : Try.f29.body = some ref14_Split.c := by kernel_rfl
noncomputable def ref14_Split.b0 : Code := (loopsOf ref14_Split.c).getD 0 .skip
theorem ref14_Split.b0_loops : loopsOf ref14_Split.b0 = [] := by kernel_rfl
theorem ref14_Split.c_loops : loopsOf ref14_Split.c = [ref14_Split.b0] := by kernel_rfl
def ref14_Split.hn8 (N : Nat) (f : Fr) (w : World) (K : AExit → Fr → World → Prop) : Prop :=
  gN f 87 <| gL f 0 fun y0 y0n y0c => gI .i64 f 1 fun y1 => gI .i64 f 2 fun y2 => gI .i64 f 8 fun y8 => gL f 9 fun y9 y9n y9c => gI .i64 f 10 fun y10 => ref14_Split.l8 N y0 y0n y0c y1 y2 y8 y9 y9n y9c y10 w (fun o9 o9n o9c w => K (.exit 0) [none, none, none, none, none, none, none, none, none, some (Value.slice o9 o9n o9c), none, none, none, none, none, none, none, none, none, none, none, none, none, none, none, none, none, none, none, none, none, none, none, none, none, none, none, none, none, none, none, none, none, none, none, none, none, none, none, none, none, none, none, none, none, none, none, none, none, none, none, none, none, none, none, none, none, none, none, none, none, none, none, none, none, none, none, none, none, none, none, none, none, none, none, none, none] w)
def ref14_Split.hx8 : AExit → Fr → World → (AExit → Fr → World → Prop) → Prop := fun e f w K => match e with
  | .normal => False
  | .exit i => (match Nat.beq i 0 with | true => gN f 87 <| gL f 9 fun o9 o9n o9c => K (.exit 0) [none, none, none, none, none, none, none, none, none, some (Value.slice o9 o9n o9c), none, none, none, none, none, none, none, none, none, none, none, none, none, none, none, none, none, none, none, none, none, none, none, none, none, none, none, none, none, none, none, none, none, none, none, none, none, none, none, none, none, none, none, none, none, none, none, none, none, none, none, none, none, none, none, none, none, none, none, none, none, none, none, none, none, none, none, none, none, none, none, none, none, none, none, none, none] w | false => False)
  | .ret => False
def ref14_Split.L : LHd := fun l f w K => (match Nat.beq l 8 with | true => ∃ N, ref14_Split.hn8 N f w K | false => False)
theorem ref14_Split.le8 (N : Nat) (y0 : Option Addr) (y0n : Nat) (y0c : Nat) (y1 : Int) (y2 : Int) (y8 : Int) (y9 : Option Addr) (y9n : Nat) (y9c : Nat) (y10 : Int) (w : World) (K : AExit → Fr → World → Prop) : awp ref14_Split.C ref14_Split.L ref14_Split.D tab ref14_Split.b0 (lpost ref14_Split.hn8 ref14_Split.hx8 N K) [some (Value.slice y0 y0n y0c), some (Value.int .i64 y1), some (Value.int .i64 y2), none, none, none, none, none, some (Value.int .i64 y8), some (Value.slice y9 y9n y9c), some (Value.int .i64 y10), none, none, none, none, none, none, none, none, none, none, none, none, none, none, none, none, none, none, none, none, none, none, none, none, none, none, none, none, none, none, none, none, none, none, none, none, none, none, none, none, none, none, none, none, none, none, none, none, none, none, none, none, none, none, none, none, none, none, none, none, none, none, none, none, none, none, none, none, none, none, none, none, none, none, none, none] w = ref14_Split.l8 (N + 1) y0 y0n y0c y1 y2 y8 y9 y9n y9c y10 w (fun o9 o9n o9c w => K (.exit 0) [none, none, none, none, none, none, none, none, none, some (Value.slice o9 o9n o9c), none, none, none, none, none, none, none, none, none, none, none, none, none, none, none, none, none, none, none, none, none, none, none, none, none, none, none, none, none, none, none, none, none, none, none, none, none, none, none, none, none, none, none, none, none, none, none, none, none, none, none, none, none, none, none, none, none, none, none, none, none, none, none, none, none, none, none, none, none, none, none, none, none, none, none, none, none] w) := by kernel_rfl
theorem ref14_Split.lok8 : LoopOk Try.prog ref14_Split.L ref14_Split.b0 := by
  refine loop_ok tab_ok ref14_Split.C_ok (D := ref14_Split.D) (ref14_Split.hn8) (ref14_Split.hx8) (by kernel_rfl) (by rw [ref14_Split.b0_loops]; exact lnil) ?_ ?_ ?_ ?_
  · intro f w K h
    unfold ref14_Split.hn8 at h
    obtain ⟨hlen, h⟩ := gN_ok h
    obtain ⟨y0, y0n, y0c, h0, h⟩ := gL_ok h
    obtain ⟨y1, h1, h⟩ := gI_ok h
    obtain ⟨y2, h2, h⟩ := gI_ok h
    obtain ⟨y8, h8, h⟩ := gI_ok h
    obtain ⟨y9, y9n, y9c, h9, h⟩ := gL_ok h
    obtain ⟨y10, h10, h⟩ := gI_ok h
    exact h
  · intro N f w K h
    unfold ref14_Split.hn8 at h
    obtain ⟨hlen, h⟩ := gN_ok h
    obtain ⟨y0, y0n, y0c, h0, h⟩ := gL_ok h
    obtain ⟨y1, h1, h⟩ := gI_ok h
    obtain ⟨y2, h2, h⟩ := gI_ok h
    obtain ⟨y8, h8, h⟩ := gI_ok h
    obtain ⟨y9, y9n, y9c, h9, h⟩ := gL_ok h
    obtain ⟨y10, h10, h⟩ := gI_ok h
    refine ⟨[some (Value.slice y0 y0n y0c), some (Value.int .i64 y1), some (Value.int .i64 y2), none, none, none, none, none, some (Value.int .i64 y8), some (Value.slice y9 y9n y9c), some (Value.int .i64 y10), none, none, none, none, none, none, none, none, none, none, none, none, none, none, none, none, none, none, none, none, none, none, none, none, none, none, none, none, none, none, none, none, none, none, none, none, none, none, none, none, none, none, none, none, none, none, none, none, none, none, none, none, none, none, none, none, none, none, none, none, none, none, none, none, none, none, none, none, none, none, none, none, none, none, none, none], hlen, ⟨h0, h1, h2, h8, h9, h10, trivial⟩, ?_⟩
    rw [ref14_Split.le8]
    exact h
  · intro e f w K h
    cases e with
    | normal => exact h.elim
    | exit i =>
      unfold ref14_Split.hx8 at h
      simp only at h
      split at h
      · rename_i hb
        obtain rfl := Nat.eq_of_beq_eq_true hb
        obtain ⟨hlen, h⟩ := gN_ok h
        obtain ⟨o9, o9n, o9c, h9, h⟩ := gL_ok h
        exact ⟨[none, none, none, none, none, none, none, none, none, some (Value.slice o9 o9n o9c), none, none, none, none, none, none, none, none, none, none, none, none, none, none, none, none, none, none, none, none, none, none, none, none, none, none, none, none, none, none, none, none, none, none, none, none, none, none, none, none, none, none, none, none, none, none, none, none, none, none, none, none, none, none, none, none, none, none, none, none, none, none, none, none, none, none, none, none, none, none, none, none, none, none, none, none, none], hlen, ⟨h9, trivial⟩, h⟩
      · exact (show False from h).elim
    | ret =>
      exact (show False from h).elim
  · intro f w K h
    have e : lid ref14_Split.b0 = 8 := by kernel_rfl
    rw [e] at h
    exact h
theorem ref14_Split.eq (a0 : Option Addr) (a0n : Nat) (a0c : Nat) (a1 : Int) (a2 : Int) (w : World) (K : Value → World → Prop) : afn ref14_Split.C ref14_Split.L ref14_Split.D tab Try.f29 [(Value.slice a0 a0n a0c), (Value.int .i64 a1), (Value.int .i64 a2)] w K = ref14_Split.f a0 a0n a0c a1 a2 w (fun r0 r0n r0c r1 w => K (Value.tuple #[(Value.slice r0 r0n r0c), (Value.int .i64 r1)]) w) := by kernel_rfl
theorem ref14_Split.ok : FSound Try.prog 29 ref14_Split.h := by
  intro args w K h
  unfold ref14_Split.h ref14_Split.H at h
  split at h
  ·
    replace h := vL_ok h
    obtain ⟨a0, a0n, a0c, rfl, h⟩ := h
    replace h := vI_ok h
    obtain ⟨a1, rfl, h⟩ := h
    replace h := vI_ok h
    obtain ⟨a2, rfl, h⟩ := h
    refine ⟨by kernel_rfl, fn_ok tab_ok ref14_Split.C_ok (L := ref14_Split.L) (D := ref14_Split.D) Try.func29 ref14_Split.hb (by kernel_rfl) (by rw [ref14_Split.c_loops]; exact lcons ref14_Split.lok8 (lnil)) (Nat.le_of_ble_eq_true (by kernel_rfl)) ?_⟩
    rw [ref14_Split.eq]
    exact h
  · exact h.elim
/-! ### valise/valisehelp.Plain[int32]$1: function 53 -/
def help_Plain_int32_f1.f (a0 : Int) (a1 : Int) (w : World) (K : Bool → World → Prop) : Prop :=
  K (a0 == a1) w
def help_Plain_int32_f1.H (F : type_of% @help_Plain_int32_f1.f) : Hf := fun args w K => match args with
  | [v0, v1] => vI .i32 v0 fun a0 => vI .i32 v1 fun a1 => F a0 a1 w (fun r0 w => K (Value.bool r0) w)
  | _ => False
def help_Plain_int32_f1.h : Hf := help_Plain_int32_f1.H @help_Plain_int32_f1.f
def help_Plain_int32_f1.C : Hd := hnil
theorem help_Plain_int32_f1.C_ok : CSound Try.prog help_Plain_int32_f1.C := hnil_ok
def help_Plain_int32_f1.D : Nat → Plan := fun i => .done
noncomputable def help_Plain_int32_f1.c : Code := Try.f53.body.getD .skip
theorem help_Plain_int32_f1.hb : Try.f53.body = some help_Plain_int32_f1.c := by kernel_rfl
theorem help_Plain_int32_f1.c_loops : loopsOf help_Plain_int32_f1.c = [] := by kernel_rfl
def help_Plain_int32_f1.L : LHd := fun l f w K => False
theorem help_Plain_int32_f1.eq (a0 : Int) (a1 : Int) (w : World) (K : Value → World → Prop) : afn help_Plain_int32_f1.C help_Plain_int32_f1.L help_Plain_int32_f1.D tab Try.f53 [(Value.int .i32 a0), (Value.int .i32 a1)] w K = help_Plain_int32_f1.f a0 a1 w (fun r0 w => K (Value.bool r0) w) := by kernel_rfl
theorem help_Plain_int32_f1.ok : FSound Try.prog 53 help_Plain_int32_f1.h := by
  intro args w K h
  unfold help_Plain_int32_f1.h help_Plain_int32_f1.H at h
  split at h
  ·
    replace h := vI_ok h
    obtain ⟨a0, rfl, h⟩ := h
    replace h := vI_ok h
    obtain ⟨a1, rfl, h⟩ := h
    refine ⟨by kernel_rfl, fn_ok tab_ok help_Plain_int32_f1.C_ok (L := help_Plain_int32_f1.L) (D := help_Plain_int32_f1.D) Try.func53 help_Plain_int32_f1.hb (by kernel_rfl) (by rw [help_Plain_int32_f1.c_loops]; exact lnil) (Nat.le_of_ble_eq_true (by kernel_rfl)) ?_⟩
    rw [help_Plain_int32_f1.eq]
    exact h
  · exact h.elim
/-! ### valise/valisehelp.Same[int32]: function 52 -/
def help_Same_int32.l4 : Nat → Option Addr → Nat → Nat → Option Addr → Nat → Nat → Int → World → (World → Prop) → (Bool → World → Prop) → Prop
  | 0, _, _, _, _, _, _, _, _, _, _ => False
  | N + 1, y0, y0n, y0c, y1, y1n, y1c, y7, w, K0, Kr =>
    bif (decide (y7 < ((y0n : Nat) : Int))) then
      sm y0 fun p_11 =>
      if 0 ≤ (y7 : Int) ∧ (y7 : Int) < ((y0n : Nat) : Int) then
      ldI .i32 (p_11.add (Int.toNat y7)) w.drew fun x23_12 =>
      sm y1 fun p_13 =>
      if 0 ≤ (y7 : Int) ∧ (y7 : Int) < ((y1n : Nat) : Int) then
      ldI .i32 (p_13.add (Int.toNat y7)) w.drew fun x27_14 =>
      help_Plain_int32_f1.f x23_12 x27_14 w.drew fun r28_15 w =>
      bif (!r28_15) then
        Kr false w
      else
        let v7_17 := (IntKind.wrap .i64 (y7 + 1))
        help_Same_int32.l4 N y0 y0n y0c y1 y1n y1c v7_17 w K0 Kr
      else False
      else False
    else
      K0 w

def help_Same_int32.f (a0 : Option Addr) (a0n : Nat) (a0c : Nat) (a1 : Option Addr) (a1n : Nat) (a1c : Nat) (w : World) (K : Bool → World → Prop) : Prop :=
  bif (((a0n : Nat) : Int) != ((a1n : Nat) : Int)) then
    K false w
  else
    ∃ N_18 : Nat, help_Same_int32.l4 N_18 a0 a0n a0c a1 a1n a1c 0 w
    (fun w =>
      K true w)
    (fun o6_19 w =>
      K o6_19 w)
def help_Same_int32.H (F : type_of% @help_Same_int32.f) : Hf := fun args w K => match args with
  | [v0, v1, v2] => vL v0 fun a0 a0n a0c => vL v1 fun a1 a1n a1c => vF 53 v2 <| F a0 a0n a0c a1 a1n a1c w (fun r0 w => K (Value.bool r0) w)
  | _ => False
def help_Same_int32.h : Hf := help_Same_int32.H @help_Same_int32.f
def help_Same_int32.C : Hd := hcons 53 help_Plain_int32_f1.h (hnil)
theorem help_Same_int32.C_ok : CSound Try.prog help_Same_int32.C := hcons_ok help_Plain_int32_f1.ok (hnil_ok)
def help_Same_int32.D : Nat → Plan := fun i => (match Nat.beq i 6 with | true => .take 0 (.take 1 (.take 2 (.take 3 (.take 4 (.take 5 (.take 6 (.take 7 (.take 8 (.eff 9 (.take 10 (.done))))))))))) | false => .done)
noncomputable def help_Same_int32.c : Code := Try.f52.body.getD .skip
theorem help_Same_int32.hb : Try.f52.body = some help_Same_int32.c := by kernel_rfl
noncomputable def help_Same_int32.b0 : Code := (loopsOf help_Same_int32.c).getD 0 .skip
theorem help_Same_int32.b0_loops : loopsOf help_Same_int32.b0 = [] := by kernel_rfl
theorem help_Same_int32.c_loops : loopsOf help_Same_int32.c = [help_Same_int32.b0] := by kernel_rfl
def help_Same_int32.hn4 (N : Nat) (f : Fr) (w : World) (K : AExit → Fr → World → Prop) : Prop :=
  gN f 30 <| gL f 0 fun y0 y0n y0c => gL f 1 fun y1 y1n y1c => gF 53 f 2 <| gI .i64 f 7 fun y7 => help_Same_int32.l4 N y0 y0n y0c y1 y1n y1c y7 w (fun w => K (.exit 0) [none, none, none, none, none, none, none, none, none, none, none, none, none, none, none, none, none, none, none, none, none, none, none, none, none, none, none, none, none, none] w) (fun o6 w => K .ret [none, none, none, none, none, none, some (Value.bool o6), none, none, none, none, none, none, none, none, none, none, none, none, none, none, none, none, none, none, none, none, none, none, none] w)
def help_Same_int32.hx4 : AExit → Fr → World → (AExit → Fr → World → Prop) → Prop := fun e f w K => match e with
  | .normal => False
  | .exit i => (match Nat.beq i 0 with | true => gN f 30 <|  K (.exit 0) [none, none, none, none, none, none, none, none, none, none, none, none, none, none, none, none, none, none, none, none, none, none, none, none, none, none, none, none, none, none] w | false => False)
  | .ret => gN f 30 <| gB f 6 fun o6 => K .ret [none, none, none, none, none, none, some (Value.bool o6), none, none, none, none, none, none, none, none, none, none, none, none, none, none, none, none, none, none, none, none, none, none, none] w
def help_Same_int32.L : LHd := fun l f w K => (match Nat.beq l 4 with | true => ∃ N, help_Same_int32.hn4 N f w K | false => False)
theorem help_Same_int32.le4 (N : Nat) (y0 : Option Addr) (y0n : Nat) (y0c : Nat) (y1 : Option Addr) (y1n : Nat) (y1c : Nat) (y7 : Int) (w : World) (K : AExit → Fr → World → Prop) : awp help_Same_int32.C help_Same_int32.L help_Same_int32.D tab help_Same_int32.b0 (lpost help_Same_int32.hn4 help_Same_int32.hx4 N K) [some (Value.slice y0 y0n y0c), some (Value.slice y1 y1n y1c), some (Value.func (.func 53) #[] #[]), none, none, none, none, some (Value.int .i64 y7), none, none, none, none, none, none, none, none, none, none, none, none, none, none, none, none, none, none, none, none, none, none] w = help_Same_int32.l4 (N + 1) y0 y0n y0c y1 y1n y1c y7 w (fun w => K (.exit 0) [none, none, none, none, none, none, none, none, none, none, none, none, none, none, none, none, none, none, none, none, none, none, none, none, none, none, none, none, none, none] w) (fun o6 w => K .ret [none, none, none, none, none, none, some (Value.bool o6), none, none, none, none, none, none, none, none, none, none, none, none, none, none, none, none, none, none, none, none, none, none, none] w) := by kernel_rfl
theorem help_Same_int32.lok4 : LoopOk Try.prog help_Same_int32.L help_Same_int32.b0 := by
  refine loop_ok tab_ok help_Same_int32.C_ok (D := help_Same_int32.D) (help_Same_int32.hn4) (help_Same_int32.hx4) (by kernel_rfl) (by rw [help_Same_int32.b0_loops]; exact lnil) ?_ ?_ ?_ ?_
  · intro f w K h
    unfold help_Same_int32.hn4 at h
    obtain ⟨hlen, h⟩ := gN_ok h
    obtain ⟨y0, y0n, y0c, h0, h⟩ := gL_ok h
    obtain ⟨y1, y1n, y1c, h1, h⟩ := gL_ok h
    obtain ⟨h2, h⟩ := gF_ok h
    obtain ⟨y7, h7, h⟩ := gI_ok h
    exact h
  · intro N f w K h
    unfold help_Same_int32.hn4 at h
    obtain ⟨hlen, h⟩ := gN_ok h
    obtain ⟨y0, y0n, y0c, h0, h⟩ := gL_ok h
    obtain ⟨y1, y1n, y1c, h1, h⟩ := gL_ok h
    obtain ⟨h2, h⟩ := gF_ok h
    obtain ⟨y7, h7, h⟩ := gI_ok h
    refine ⟨[some (Value.slice y0 y0n y0c), some (Value.slice y1 y1n y1c), some (Value.func (.func 53) #[] #[]), none, none, none, none, some (Value.int .i64 y7), none, none, none, none, none, none, none, none, none, none, none, none, none, none, none, none, none, none, none, none, none, none], hlen, ⟨h0, h1, h2, h7, trivial⟩, ?_⟩
    rw [help_Same_int32.le4]
    exact h
  · intro e f w K h
    cases e with
    | normal => exact h.elim
    | exit i =>
      unfold help_Same_int32.hx4 at h
      simp only at h
      split at h
      · rename_i hb
        obtain rfl := Nat.eq_of_beq_eq_true hb
        obtain ⟨hlen, h⟩ := gN_ok h
        exact ⟨[none, none, none, none, none, none, none, none, none, none, none, none, none, none, none, none, none, none, none, none, none, none, none, none, none, none, none, none, none, none], hlen, trivial, h⟩
      · exact (show False from h).elim
    | ret =>
      unfold help_Same_int32.hx4 at h
      simp only at h
      obtain ⟨hlen, h⟩ := gN_ok h
      obtain ⟨o6, h6, h⟩ := gB_ok h
      exact ⟨[none, none, none, none, none, none, some (Value.bool o6), none, none, none, none, none, none, none, none, none, none, none, none, none, none, none, none, none, none, none, none, none, none, none], hlen, ⟨h6, trivial⟩, h⟩
  · intro f w K h
    have e : lid help_Same_int32.b0 = 4 := by kernel_rfl
    rw [e] at h
    exact h
theorem help_Same_int32.eq (a0 : Option Addr) (a0n : Nat) (a0c : Nat) (a1 : Option Addr) (a1n : Nat) (a1c : Nat) (w : World) (K : Value → World → Prop) : afn help_Same_int32.C help_Same_int32.L help_Same_int32.D tab Try.f52 [(Value.slice a0 a0n a0c), (Value.slice a1 a1n a1c), (Value.func (.func 53) #[] #[])] w K = help_Same_int32.f a0 a0n a0c a1 a1n a1c w (fun r0 w => K (Value.bool r0) w) := by kernel_rfl
theorem help_Same_int32.ok : FSound Try.prog 52 help_Same_int32.h := by
  intro args w K h
  unfold help_Same_int32.h help_Same_int32.H at h
  split at h
  ·
    replace h := vL_ok h
    obtain ⟨a0, a0n, a0c, rfl, h⟩ := h
    replace h := vL_ok h
    obtain ⟨a1, a1n, a1c, rfl, h⟩ := h
    replace h := vF_ok h
    obtain ⟨rfl, h⟩ := h
    refine ⟨by kernel_rfl, fn_ok tab_ok help_Same_int32.C_ok (L := help_Same_int32.L) (D := help_Same_int32.D) Try.func52 help_Same_int32.hb (by kernel_rfl) (by rw [help_Same_int32.c_loops]; exact lcons help_Same_int32.lok4 (lnil)) (Nat.le_of_ble_eq_true (by kernel_rfl)) ?_⟩
    rw [help_Same_int32.eq]
    exact h
  · exact h.elim
/-! ### valise/valisehelp.Plain[int32]: function 35 -/
def help_Plain_int32.f (a0 : Option Addr) (a0n : Nat) (a0c : Nat) (a1 : Option Addr) (a1n : Nat) (a1c : Nat) (w : World) (K : Bool → World → Prop) : Prop :=
  help_Same_int32.f a0 a0n a0c a1 a1n a1c w fun r7_3 w =>
  K r7_3 w
def help_Plain_int32.H (F : type_of% @help_Plain_int32.f) : Hf := fun args w K => match args with
  | [v0, v1] => vL v0 fun a0 a0n a0c => vL v1 fun a1 a1n a1c => F a0 a0n a0c a1 a1n a1c w (fun r0 w => K (Value.bool r0) w)
  | _ => False
def help_Plain_int32.h : Hf := help_Plain_int32.H @help_Plain_int32.f
def help_Plain_int32.C : Hd := hcons 52 help_Same_int32.h (hnil)
theorem help_Plain_int32.C_ok : CSound Try.prog help_Plain_int32.C := hcons_ok help_Same_int32.ok (hnil_ok)
def help_Plain_int32.D : Nat → Plan := fun i => .done
noncomputable def help_Plain_int32.c : Code := Try.f35.body.getD .skip
theorem help_Plain_int32.hb : Try.f35.body = some help_Plain_int32.c := by kernel_rfl
theorem help_Plain_int32.c_loops : loopsOf help_Plain_int32.c = [] := by kernel_rfl
def help_Plain_int32.L : LHd := fun l f w K => False
theorem help_Plain_int32.eq (a0 : Option Addr) (a0n : Nat) (a0c : Nat) (a1 : Option Addr) (a1n : Nat) (a1c : Nat) (w : World) (K : Value → World → Prop) : afn help_Plain_int32.C help_Plain_int32.L help_Plain_int32.D tab Try.f35 [(Value.slice a0 a0n a0c), (Value.slice a1 a1n a1c)] w K = help_Plain_int32.f a0 a0n a0c a1 a1n a1c w (fun r0 w => K (Value.bool r0) w) := by kernel_rfl
theorem help_Plain_int32.ok : FSound Try.prog 35 help_Plain_int32.h := by
  intro args w K h
  unfold help_Plain_int32.h help_Plain_int32.H at h
  split at h
  ·
    replace h := vL_ok h
    obtain ⟨a0, a0n, a0c, rfl, h⟩ := h
    replace h := vL_ok h
    obtain ⟨a1, a1n, a1c, rfl, h⟩ := h
    refine ⟨by kernel_rfl, fn_ok tab_ok help_Plain_int32.C_ok (L := help_Plain_int32.L) (D := help_Plain_int32.D) Try.func35 help_Plain_int32.hb (by kernel_rfl) (by rw [help_Plain_int32.c_loops]; exact lnil) (Nat.le_of_ble_eq_true (by kernel_rfl)) ?_⟩
    rw [help_Plain_int32.eq]
    exact h
  · exact h.elim
/-! ### valise/valisehelp.Same[[]int32]: function 51 -/
def help_Same_Sint32.l4 : Nat → Option Addr → Nat → Nat → Option Addr → Nat → Nat → Int → World → (World → Prop) → (Bool → World → Prop) → Prop
  | 0, _, _, _, _, _, _, _, _, _, _ => False
  | N + 1, y0, y0n, y0c, y1, y1n, y1c, y7, w, K0, Kr =>
    bif (decide (y7 < ((y0n : Nat) : Int))) then
      sm y0 fun p_11 =>
      if 0 ≤ (y7 : Int) ∧ (y7 : Int) < ((y0n : Nat) : Int) then
      ldL (p_11.add (Int.toNat y7)) w.drew fun x23_12 x23_12n x23_12c =>
      sm y1 fun p_13 =>
      if 0 ≤ (y7 : Int) ∧ (y7 : Int) < ((y1n : Nat) : Int) then
      ldL (p_13.add (Int.toNat y7)) w.drew fun x27_14 x27_14n x27_14c =>
      help_Plain_int32.f x23_12 x23_12n x23_12c x27_14 x27_14n x27_14c w.drew fun r28_15 w =>
      bif (!r28_15) then
        Kr false w
      else
        let v7_17 := (IntKind.wrap .i64 (y7 + 1))
        help_Same_Sint32.l4 N y0 y0n y0c y1 y1n y1c v7_17 w K0 Kr
      else False
      else False
    else
      K0 w

def help_Same_Sint32.f (a0 : Option Addr) (a0n : Nat) (a0c : Nat) (a1 : Option Addr) (a1n : Nat) (a1c : Nat) (w : World) (K : Bool → World → Prop) : Prop :=
  bif (((a0n : Nat) : Int) != ((a1n : Nat) : Int)) then
    K false w
  else
    ∃ N_18 : Nat, help_Same_Sint32.l4 N_18 a0 a0n a0c a1 a1n a1c 0 w
    (fun w =>
      K true w)
    (fun o6_19 w =>
      K o6_19 w)
def help_Same_Sint32.H (F : type_of% @help_Same_Sint32.f) : Hf := fun args w K => match args with
  | [v0, v1, v2] => vL v0 fun a0 a0n a0c => vL v1 fun a1 a1n a1c => vF 35 v2 <| F a0 a0n a0c a1 a1n a1c w (fun r0 w => K (Value.bool r0) w)
  | _ => False
def help_Same_Sint32.h : Hf := help_Same_Sint32.H @help_Same_Sint32.f
def help_Same_Sint32.C : Hd := hcons 35 help_Plain_int32.h (hnil)
theorem help_Same_Sint32.C_ok : CSound Try.prog help_Same_Sint32.C := hcons_ok help_Plain_int32.ok (hnil_ok)
def help_Same_Sint32.D : Nat → Plan := fun i => (match Nat.beq i 6 with | true => .take 0 (.take 1 (.take 2 (.take 3 (.take 4 (.take 5 (.take 6 (.take 7 (.take 8 (.eff 9 (.take 10 (.done))))))))))) | false => .done)
noncomputable def help_Same_Sint32.c : Code := Try.f51.body.getD .skip
theorem help_Same_Sint32.hb : Try.f51.body = some help_Same_Sint32.c := by kernel_rfl
noncomputable def help_Same_Sint32.b0 : Code := (loopsOf help_Same_Sint32.c).getD 0 .skip
theorem help_Same_Sint32.b0_loops : loopsOf help_Same_Sint32.b0 = [] := by kernel_rfl
theorem help_Same_Sint32.c_loops : loopsOf help_Same_Sint32.c = [help_Same_Sint32.b0] := by kernel_rfl
def help_Same_Sint32.hn4 (N : Nat) (f : Fr) (w : World) (K : AExit → Fr → World → Prop) : Prop :=
  gN f 30 <| gL f 0 fun y0 y0n y0c => gL f 1 fun y1 y1n y1c => gF 35 f 2 <| gI .i64 f 7 fun y7 => help_Same_Sint32.l4 N y0 y0n y0c y1 y1n y1c y7 w (fun w => K (.exit 0) [none, none, none, none, none, none, none, none, none, none, none, none, none, none, none, none, none, none, none, none, none, none, none, none, none, none, none, none, none, none] w) (fun o6 w => K .ret [none, none, none, none, none, none, some (Value.bool o6), none, none, none, none, none, none, none, none, none, none, none, none, none, none, none, none, none, none, none, none, none, none, none] w)
def help_Same_Sint32.hx4 : AExit → Fr → World → (AExit → Fr → World → Prop) → Prop := fun e f w K => match e with
  | .normal => False
  | .exit i => (match Nat.beq i 0 with | true => gN f 30 <|  K (.exit 0) [none, none, none, none, none, none, none, none, none, none, none, none, none, none, none, none, none, none, none, none, none, none, none, none, none, none, none, none, none, none] w | false => False)
  | .ret => gN f 30 <| gB f 6 fun o6 => K .ret [none, none, none, none, none, none, some (Value.bool o6), none, none, none, none, none, none, none, none, none, none, none, none, none, none, none, none, none, none, none, none, none, none, none] w
def help_Same_Sint32.L : LHd := fun l f w K => (match Nat.beq l 4 with | true => ∃ N, help_Same_Sint32.hn4 N f w K | false => False)
theorem help_Same_Sint32.le4 (N : Nat) (y0 : Option Addr) (y0n : Nat) (y0c : Nat) (y1 : Option Addr) (y1n : Nat) (y1c : Nat) (y7 : Int) (w : World) (K : AExit → Fr → World → Prop) : awp help_Same_Sint32.C help_Same_Sint32.L help_Same_Sint32.D tab help_Same_Sint32.b0 (lpost help_Same_Sint32.hn4 help_Same_Sint32.hx4 N K) [some (Value.slice y0 y0n y0c), some (Value.slice y1 y1n y1c), some (Value.func (.func 35) #[] #[]), none, none, none, none, some (Value.int .i64 y7), none, none, none, none, none, none, none, none, none, none, none, none, none, none, none, none, none, none, none, none, none, none] w = help_Same_Sint32.l4 (N + 1) y0 y0n y0c y1 y1n y1c y7 w (fun w => K (.exit 0) [none, none, none, none, none, none, none, none, none, none, none, none, none, none, none, none, none, none, none, none, none, none, none, none, none, none, none, none, none, none] w) (fun o6 w => K .ret [none, none, none, none, none, none, some (Value.bool o6), none, none, none, none, none, none, none, none, none, none, none, none, none, none, none, none, none, none, none, none, none, none, none] w) := by kernel_rfl
theorem help_Same_Sint32.lok4 : LoopOk Try.prog help_Same_Sint32.L help_Same_Sint32.b0 := by
  refine loop_ok tab_ok help_Same_Sint32.C_ok (D := help_Same_Sint32.D) (help_Same_Sint32.hn4) (help_Same_Sint32.hx4) (by kernel_rfl) (by rw [help_Same_Sint32.b0_loops]; exact lnil) ?_ ?_ ?_ ?_
  · intro f w K h
    unfold help_Same_Sint32.hn4 at h
    obtain ⟨hlen, h⟩ := gN_ok h
    obtain ⟨y0, y0n, y0c, h0, h⟩ := gL_ok h
    obtain ⟨y1, y1n, y1c, h1, h⟩ := gL_ok h
    obtain ⟨h2, h⟩ := gF_ok h
    obtain ⟨y7, h7, h⟩ := gI_ok h
    exact h
  · intro N f w K h
    unfold help_Same_Sint32.hn4 at h
    obtain ⟨hlen, h⟩ := gN_ok h
    obtain ⟨y0, y0n, y0c, h0, h⟩ := gL_ok h
    obtain ⟨y1, y1n, y1c, h1, h⟩ := gL_ok h
    obtain ⟨h2, h⟩ := gF_ok h
    obtain ⟨y7, h7, h⟩ := gI_ok h
    refine ⟨[some (Value.slice y0 y0n y0c), some (Value.slice y1 y1n y1c), some (Value.func (.func 35) #[] #[]), none, none, none, none, some (Value.int .i64 y7), none, none, none, none, none, none, none, none, none, none, none, none, none, none, none, none, none, none, none, none, none, none], hlen, ⟨h0, h1, h2, h7, trivial⟩, ?_⟩
    rw [help_Same_Sint32.le4]
    exact h
  · intro e f w K h
    cases e with
    | normal => exact h.elim
    | exit i =>
      unfold help_Same_Sint32.hx4 at h
      simp only at h
      split at h
      · rename_i hb
        obtain rfl := Nat.eq_of_beq_eq_true hb
        obtain ⟨hlen, h⟩ := gN_ok h
        exact ⟨[none, none, none, none, none, none, none, none, none, none, none, none, none, none, none, none, none, none, none, none, none, none, none, none, none, none, none, none, none, none], hlen, trivial, h⟩
      · exact (show False from h).elim
    | ret =>
      unfold help_Same_Sint32.hx4 at h
      simp only at h
      obtain ⟨hlen, h⟩ := gN_ok h
      obtain ⟨o6, h6, h⟩ := gB_ok h
      exact ⟨[none, none, none, none, none, none, some (Value.bool o6), none, none, none, none, none, none, none, none, none, none, none, none, none, none, none, none, none, none, none, none, none, none, none], hlen, ⟨h6, trivial⟩, h⟩
  · intro f w K h
    have e : lid help_Same_Sint32.b0 = 4 := by kernel_rfl
    rw [e] at h
    exact h
theorem help_Same_Sint32.eq (a0 : Option Addr) (a0n : Nat) (a0c : Nat) (a1 : Option Addr) (a1n : Nat) (a1c : Nat) (w : World) (K : Value → World → Prop) : afn help_Same_Sint32.C help_Same_Sint32.L help_Same_Sint32.D tab Try.f51 [(Value.slice a0 a0n a0c), (Value.slice a1 a1n a1c), (Value.func (.func 35) #[] #[])] w K = help_Same_Sint32.f a0 a0n a0c a1 a1n a1c w (fun r0 w => K (Value.bool r0) w) := by kernel_rfl
theorem help_Same_Sint32.ok : FSound Try.prog 51 help_Same_Sint32.h := by
  intro args w K h
  unfold help_Same_Sint32.h help_Same_Sint32.H at h
  split at h
  ·
    replace h := vL_ok h
    obtain ⟨a0, a0n, a0c, rfl, h⟩ := h
    replace h := vL_ok h
    obtain ⟨a1, a1n, a1c, rfl, h⟩ := h
    replace h := vF_ok h
    obtain ⟨rfl, h⟩ := h
    refine ⟨by kernel_rfl, fn_ok tab_ok help_Same_Sint32.C_ok (L := help_Same_Sint32.L) (D := help_Same_Sint32.D) Try.func51 help_Same_Sint32.hb (by kernel_rfl) (by rw [help_Same_Sint32.c_loops]; exact lcons help_Same_Sint32.lok4 (lnil)) (Nat.le_of_ble_eq_true (by kernel_rfl)) ?_⟩
    rw [help_Same_Sint32.eq]
    exact h
  · exact h.elim
/-! ### valise/valiselaw14.plain: function 30 -/
def law14_plain.f (a0 : Option Addr) (a0n : Nat) (a0c : Nat) (a1 : Option Addr) (a1n : Nat) (a1c : Nat) (w : World) (K : Bool → World → Prop) : Prop :=
  help_Same_Sint32.f a0 a0n a0c a1 a1n a1c w fun r7_3 w =>
  K r7_3 w
def law14_plain.H (F : type_of% @law14_plain.f) : Hf := fun args w K => match args with
  | [v0, v1] => vL v0 fun a0 a0n a0c => vL v1 fun a1 a1n a1c => F a0 a0n a0c a1 a1n a1c w (fun r0 w => K (Value.bool r0) w)
  | _ => False
def law14_plain.h : Hf := law14_plain.H @law14_plain.f
def law14_plain.C : Hd := hcons 51 help_Same_Sint32.h (hnil)
theorem law14_plain.C_ok : CSound Try.prog law14_plain.C := hcons_ok help_Same_Sint32.ok (hnil_ok)
def law14_plain.D : Nat → Plan := fun i => .done
noncomputable def law14_plain.c : Code := Try.f30.body.getD .skip
theorem law14_plain.hb : Try.f30.body = some law14_plain.c := by kernel_rfl
theorem law14_plain.c_loops : loopsOf law14_plain.c = [] := by kernel_rfl
def law14_plain.L : LHd := fun l f w K => False
theorem law14_plain.eq (a0 : Option Addr) (a0n : Nat) (a0c : Nat) (a1 : Option Addr) (a1n : Nat) (a1c : Nat) (w : World) (K : Value → World → Prop) : afn law14_plain.C law14_plain.L law14_plain.D tab Try.f30 [(Value.slice a0 a0n a0c), (Value.slice a1 a1n a1c)] w K = law14_plain.f a0 a0n a0c a1 a1n a1c w (fun r0 w => K (Value.bool r0) w) := by kernel_rfl
theorem law14_plain.ok : FSound Try.prog 30 law14_plain.h := by
  intro args w K h
  unfold law14_plain.h law14_plain.H at h
  split at h
  ·
    replace h := vL_ok h
    obtain ⟨a0, a0n, a0c, rfl, h⟩ := h
    replace h := vL_ok h
    obtain ⟨a1, a1n, a1c, rfl, h⟩ := h
    refine ⟨by kernel_rfl, fn_ok tab_ok law14_plain.C_ok (L := law14_plain.L) (D := law14_plain.D) Try.func30 law14_plain.hb (by kernel_rfl) (by rw [law14_plain.c_loops]; exact lnil) (Nat.le_of_ble_eq_true (by kernel_rfl)) ?_⟩
    rw [law14_plain.eq]
    exact h
  · exact h.elim
/-! ### valise/tracks.Mid: function 31 -/
def tracks_Mid.l5 : Nat → Option Addr → Nat → Nat → Option Addr → Nat → Nat → Option Addr → Nat → Nat → Option Addr → Nat → Nat → Int → Int → World → (Option Addr → Nat → Nat → Option Addr → Nat → Nat → World → Prop) → Prop
  | 0, _, _, _, _, _, _, _, _, _, _, _, _, _, _, _, _ => False
  | N + 1, y0, y0n, y0c, y1, y1n, y1c, y7, y7n, y7c, y8, y8n, y8c, y22, y23, w, K0 =>
    bif (decide (y23 < y22)) then
      sm y0 fun p_19 =>
      if 0 ≤ (y23 : Int) ∧ (y23 : Int) < ((y0n : Nat) : Int) then
      ldI .i32 (p_19.add (Int.toNat y23)) w.drew fun x31_20 =>
      sm y1 fun p_21 =>
      if 0 ≤ (y23 : Int) ∧ (y23 : Int) < ((y1n : Nat) : Int) then
      ldI .i32 (p_21.add (Int.toNat y23)) w.drew fun x35_22 =>
      sm y8 fun p_23 =>
      if 0 ≤ (y23 : Int) ∧ (y23 : Int) < ((y8n : Nat) : Int) then
      stC (p_23.add (Int.toNat y23)) (Value.int .i32 (IntKind.wrap .i32 (x31_20 - x35_22))) w.drew fun w =>
      sm y1 fun p_24 =>
      if 0 ≤ (y23 : Int) ∧ (y23 : Int) < ((y1n : Nat) : Int) then
      ldI .i32 (p_24.add (Int.toNat y23)) w.drew fun x43_25 =>
      sm y8 fun p_26 =>
      if 0 ≤ (y23 : Int) ∧ (y23 : Int) < ((y8n : Nat) : Int) then
      ldI .i32 (p_26.add (Int.toNat y23)) w.drew fun x47_27 =>
      sm y7 fun p_28 =>
      if 0 ≤ (y23 : Int) ∧ (y23 : Int) < ((y7n : Nat) : Int) then
      stC (p_28.add (Int.toNat y23)) (Value.int .i32 (IntKind.wrap .i32 (x43_25 + (shr .i32 x47_27 1)))) w.drew fun w =>
      tracks_Mid.l5 N y0 y0n y0c y1 y1n y1c y7 y7n y7c y8 y8n y8c y22 (IntKind.wrap .i64 (y23 + 1)) w K0
      else False
      else False
      else False
      else False
      else False
      else False
    else
      K0 y7 y7n y7c y8 y8n y8c w

def tracks_Mid.f (a0 : Option Addr) (a0n : Nat) (a0c : Nat) (a1 : Option Addr) (a1n : Nat) (a1c : Nat) (w : World) (K : Option Addr → Nat → Nat → Option Addr → Nat → Nat → Int → World → Prop) : Prop :=
  bif (((a0n : Nat) : Int) != ((a1n : Nat) : Int)) then
    K none 0 0 none 0 0 1 w
  else
    let J_33 := fun (j7_10 : Option Addr) (j7_10n : Nat) (j7_10c : Nat) (j8_11 : Option Addr) (j8_11n : Nat) (j8_11c : Nat) (w : World) =>
      ((∃ N_29 : Nat, tracks_Mid.l5 N_29 a0 a0n a0c a1 a1n a1c j7_10 j7_10n j7_10c j8_11 j8_11n j8_11c ((a0n : Nat) : Int) 0 w
      (fun o7_30 o7_30n o7_30c o8_31 o8_31n o8_31c w =>
        K o7_30 o7_30n o7_30c o8_31 o8_31n o8_31c 0 w)) : Prop)
    (mkL 21 1 4 [(Value.int .i32 0)] ((a0n : Nat) : Int) ((a0n : Nat) : Int) w.drew fun a17_6 a17_6n a17_6c w =>
    mkL 21 1 4 [(Value.int .i32 0)] ((a0n : Nat) : Int) ((a0n : Nat) : Int) w fun a20_7 a20_7n a20_7c w =>
    J_33 a17_6 a17_6n a17_6c a20_7 a20_7n a20_7c w) ∧
    (mkL 21 1 4 [(Value.int .i32 0)] ((a0n : Nat) : Int) ((a0n : Nat) : Int) w.drew fun a20_8 a20_8n a20_8c w =>
    mkL 21 1 4 [(Value.int .i32 0)] ((a0n : Nat) : Int) ((a0n : Nat) : Int) w fun a17_9 a17_9n a17_9c w =>
    J_33 a17_9 a17_9n a17_9c a20_8 a20_8n a20_8c w)
def tracks_Mid.H (F : type_of% @tracks_Mid.f) : Hf := fun args w K => match args with
  | [v0, v1] => vL v0 fun a0 a0n a0c => vL v1 fun a1 a1n a1c => F a0 a0n a0c a1 a1n a1c w (fun r0 r0n r0c r1 r1n r1c r2 w => K (Value.tuple #[(Value.slice r0 r0n r0c), (Value.slice r1 r1n r1c), (Value.int .i64 r2)]) w)
  | _ => False
def tracks_Mid.h : Hf := tracks_Mid.H @tracks_Mid.f
def tracks_Mid.C : Hd := hnil
theorem tracks_Mid.C_ok : CSound Try.prog tracks_Mid.C := hnil_ok
def tracks_Mid.D : Nat → Plan := fun i => (match Nat.beq i 8 with | true => .take 0 (.take 1 (.take 2 (.take 3 (.take 4 (.take 5 (.take 6 (.take 7 (.take 8 (.take 9 (.take 10 (.take 11 (.take 12 (.eff 13 (.done)))))))))))))) | false => (match Nat.beq i 7 with | true => .take 0 (.take 1 (.take 2 (.take 3 (.take 4 (.take 5 (.take 6 (.take 7 (.take 8 (.take 9 (.take 10 (.take 11 (.eff 12 (.done))))))))))))) | false => (match Nat.beq i 3 with | true => .take 0 (.take 1 (.take 3 (.take 4 (.eff2 2 (.take 6 (.eff 5 (.take 7 (.done)))) 5 (.eff 2 (.take 6 (.take 7 (.done)))))))) | false => .done)))
noncomputable def tracks_Mid.c : Code := Try.f31.body.getD .skip
theorem tracks_Mid.hb : Try.f31.body = some tracks_Mid.c := by kernel_rfl
noncomputable def tracks_Mid.b0 : Code := (loopsOf tracks_Mid.c).getD 0 .skip
theorem tracks_Mid.b0_loops : loopsOf tracks_Mid.b0 = [] := by kernel_rfl
theorem tracks_Mid.c_loops : loopsOf tracks_Mid.c = [tracks_Mid.b0] := by kernel_rfl
def tracks_Mid.hn5 (N : Nat) (f : Fr) (w : World) (K : AExit → Fr → World → Prop) : Prop :=
  gN f 54 <| gL f 0 fun y0 y0n y0c => gL f 1 fun y1 y1n y1c => gL f 7 fun y7 y7n y7c => gL f 8 fun y8 y8n y8c => gI .i64 f 22 fun y22 => gI .i64 f 23 fun y23 => tracks_Mid.l5 N y0 y0n y0c y1 y1n y1c y7 y7n y7c y8 y8n y8c y22 y23 w (fun o7 o7n o7c o8 o8n o8c w => K (.exit 0) [none, none, none, none, none, none, none, some (Value.slice o7 o7n o7c), some (Value.slice o8 o8n o8c), none, none, none, none, none, none, none, none, none, none, none, none, none, none, none, none, none, none, none, none, none, none, none, none, none, none, none, none, none, none, none, none, none, none, none, none, none, none, none, none, none, none, none, none, none] w)
def tracks_Mid.hx5 : AExit → Fr → World → (AExit → Fr → World → Prop) → Prop := fun e f w K => match e with
  | .normal => False
  | .exit i => (match Nat.beq i 0 with | true => gN f 54 <| gL f 7 fun o7 o7n o7c => gL f 8 fun o8 o8n o8c => K (.exit 0) [none, none, none, none, none, none, none, some (Value.slice o7 o7n o7c), some (Value.slice o8 o8n o8c), none, none, none, none, none, none, none, none, none, none, none, none, none, none, none, none, none, none, none, none, none, none, none, none, none, none, none, none, none, none, none, none, none, none, none, none, none, none, none, none, none, none, none, none, none] w | false => False)
  | .ret => False
def tracks_Mid.L : LHd := fun l f w K => (match Nat.beq l 5 with | true => ∃ N, tracks_Mid.hn5 N f w K | false => False)
theorem tracks_Mid.le5 (N : Nat) (y0 : Option Addr) (y0n : Nat) (y0c : Nat) (y1 : Option Addr) (y1n : Nat) (y1c : Nat) (y7 : Option Addr) (y7n : Nat) (y7c : Nat) (y8 : Option Addr) (y8n : Nat) (y8c : Nat) (y22 : Int) (y23 : Int) (w : World) (K : AExit → Fr → World → Prop) : awp tracks_Mid.C tracks_Mid.L tracks_Mid.D tab tracks_Mid.b0 (lpost tracks_Mid.hn5 tracks_Mid.hx5 N K) [some (Value.slice y0 y0n y0c), some (Value.slice y1 y1n y1c), none, none, none, none, none, some (Value.slice y7 y7n y7c), some (Value.slice y8 y8n y8c), none, none, none, none, none, none, none, none, none, none, none, none, none, some (Value.int .i64 y22), some (Value.int .i64 y23), none, none, none, none, none, none, none, none, none, none, none, none, none, none, none, none, none, none, none, none, none, none, none, none, none, none, none, none, none, none] w = tracks_Mid.l5 (N + 1) y0 y0n y0c y1 y1n y1c y7 y7n y7c y8 y8n y8c y22 y23 w (fun o7 o7n o7c o8 o8n o8c w => K (.exit 0) [none, none, none, none, none, none, none, some (Value.slice o7 o7n o7c), some (Value.slice o8 o8n o8c), none, none, none, none, none, none, none, none, none, none, none, none, none, none, none, none, none, none, none, none, none, none, none, none, none, none, none, none, none, none, none, none, none, none, none, none, none, none, none, none, none, none, none, none, none] w) := by kernel_rfl
theorem tracks_Mid.lok5 : LoopOk Try.prog tracks_Mid.L tracks_Mid.b0 := by
  refine loop_ok tab_ok tracks_Mid.C_ok (D := tracks_Mid.D) (tracks_Mid.hn5) (tracks_Mid.hx5) (by kernel_rfl) (by rw [tracks_Mid.b0_loops]; exact lnil) ?_ ?_ ?_ ?_
  · intro f w K h
    unfold tracks_Mid.hn5 at h
    obtain ⟨hlen, h⟩ := gN_ok h
    obtain ⟨y0, y0n, y0c, h0, h⟩ := gL_ok h
    obtain ⟨y1, y1n, y1c, h1, h⟩ := gL_ok h
    obtain ⟨y7, y7n, y7c, h7, h⟩ := gL_ok h
    obtain ⟨y8, y8n, y8c, h8, h⟩ := gL_ok h
    obtain ⟨y22, h22, h⟩ := gI_ok h
    obtain ⟨y23, h23, h⟩ := gI_ok h
    exact h
  · intro N f w K h
    unfold tracks_Mid.hn5 at h
    obtain ⟨hlen, h⟩ := gN_ok h
    obtain ⟨y0, y0n, y0c, h0, h⟩ := gL_ok h
    obtain ⟨y1, y1n, y1c, h1, h⟩ := gL_ok h
    obtain ⟨y7, y7n, y7c, h7, h⟩ := gL_ok h
    obtain ⟨y8, y8n, y8c, h8, h⟩ := gL_ok h
    obtain ⟨y22, h22, h⟩ := gI_ok h
    obtain ⟨y23, h23, h⟩ := gI_ok h
    refine ⟨[some (Value.slice y0 y0n y0c), some (Value.slice y1 y1n y1c), none, none, none, none, none, some (Value.slice y7 y7n y7c), some (Value.slice y8 y8n y8c), none, none, none, none, none, none, none, none, none, none, none, none, none, some (Value.int .i64 y22), some (Value.int .i64 y23), none, none, none, none, none, none, none, none, none, none, none, none, none, none, none, none, none, none, none, none, none, none, none, none, none, none, none, none, none, none], hlen, ⟨h0, h1, h7, h8, h22, h23, trivial⟩, ?_⟩
    rw [tracks_Mid.le5]
    exact h
  · intro e f w K h
    cases e with
    | normal => exact h.elim
    | exit i =>
      unfold tracks_Mid.hx5 at h
      simp only at h
      split at h
      · rename_i hb
        obtain rfl := Nat.eq_of_beq_eq_true hb
        obtain ⟨hlen, h⟩ := gN_ok h
        obtain ⟨o7, o7n, o7c, h7, h⟩ := gL_ok h
        obtain ⟨o8, o8n, o8c, h8, h⟩ := gL_ok h
        exact ⟨[none, none, none, none, none, none, none, some (Value.slice o7 o7n o7c), some (Value.slice o8 o8n o8c), none, none, none, none, none, none, none, none, none, none, none, none, none, none, none, none, none, none, none, none, none, none, none, none, none, none, none, none, none, none, none, none, none, none, none, none, none, none, none, none, none, none, none, none, none], hlen, ⟨h7, h8, trivial⟩, h⟩
      · exact (show False from h).elim
    | ret =>
      exact (show False from h).elim
  · intro f w K h
    have e : lid tracks_Mid.b0 = 5 := by kernel_rfl
    rw [e] at h
    exact h
theorem tracks_Mid.eq (a0 : Option Addr) (a0n : Nat) (a0c : Nat) (a1 : Option Addr) (a1n : Nat) (a1c : Nat) (w : World) (K : Value → World → Prop) : afn tracks_Mid.C tracks_Mid.L tracks_Mid.D tab Try.f31 [(Value.slice a0 a0n a0c), (Value.slice a1 a1n a1c)] w K = tracks_Mid.f a0 a0n a0c a1 a1n a1c w (fun r0 r0n r0c r1 r1n r1c r2 w => K (Value.tuple #[(Value.slice r0 r0n r0c), (Value.slice r1 r1n r1c), (Value.int .i64 r2)]) w) := by kernel_rfl
theorem tracks_Mid.ok : FSound Try.prog 31 tracks_Mid.h := by
  intro args w K h
  unfold tracks_Mid.h tracks_Mid.H at h
  split at h
  ·
    replace h := vL_ok h
    obtain ⟨a0, a0n, a0c, rfl, h⟩ := h
    replace h := vL_ok h
    obtain ⟨a1, a1n, a1c, rfl, h⟩ := h
    refine ⟨by kernel_rfl, fn_ok tab_ok tracks_Mid.C_ok (L := tracks_Mid.L) (D := tracks_Mid.D) Try.func31 tracks_Mid.hb (by kernel_rfl) (by rw [tracks_Mid.c_loops]; exact lcons tracks_Mid.lok5 (lnil)) (Nat.le_of_ble_eq_true (by kernel_rfl)) ?_⟩
    rw [tracks_Mid.eq]
    exact h
  · exact h.elim
/-! ### valise/valiseref14.Mid: function 32 -/
def ref14_Mid.l5 : Nat → Option Addr → Nat → Nat → Option Addr → Nat → Nat → Option Addr → Nat → Nat → Option Addr → Nat → Nat → Int → World → (Option Addr → Nat → Nat → Option Addr → Nat → Nat → World → Prop) → Prop
  | 0, _, _, _, _, _, _, _, _, _, _, _, _, _, _, _ => False
  | N + 1, y0, y0n, y0c, y1, y1n, y1c, y7, y7n, y7c, y8, y8n, y8c, y9, w, K0 =>
    bif (decide (y9 < ((y0n : Nat) : Int))) then
      sm y0 fun p_12 =>
      if 0 ≤ (y9 : Int) ∧ (y9 : Int) < ((y0n : Nat) : Int) then
      ldI .i32 (p_12.add (Int.toNat y9)) w.drew fun x25_13 =>
      sm y1 fun p_14 =>
      if 0 ≤ (y9 : Int) ∧ (y9 : Int) < ((y1n : Nat) : Int) then
      ldI .i32 (p_14.add (Int.toNat y9)) w.drew fun x29_15 =>
      let v10_16 := (IntKind.wrap .i32 (x25_13 - x29_15))
      sm y1 fun p_17 =>
      if 0 ≤ (y9 : Int) ∧ (y9 : Int) < ((y1n : Nat) : Int) then
      ldI .i32 (p_17.add (Int.toNat y9)) w.drew fun x35_18 =>
      newC 21 [(Value.int .i32 (IntKind.wrap .i32 (x35_18 + (shr .i32 v10_16 1))))] w.drew fun a39_19 w =>
      appL 21 1 4 [(Value.int .i32 0)] y7 y7n y7c (some a39_19) 1 1 w fun a40_20 a40_20n a40_20c w =>
      newC 21 [(Value.int .i32 v10_16)] w fun a43_21 w =>
      appL 21 1 4 [(Value.int .i32 0)] y8 y8n y8c (some a43_21) 1 1 w fun a44_22 a44_22n a44_22c w =>
      let v9_23 := (IntKind.wrap .i64 (y9 + 1))
      ref14_Mid.l5 N y0 y0n y0c y1 y1n y1c a40_20 a40_20n a40_20c a44_22 a44_22n a44_22c v9_23 w K0
      else False
      else False
      else False
    else
      K0 y7 y7n y7c y8 y8n y8c w

def ref14_Mid.f (a0 : Option Addr) (a0n : Nat) (a0c : Nat) (a1 : Option Addr) (a1n : Nat) (a1c : Nat) (w : World) (K : Option Addr → Nat → Nat → Option Addr → Nat → Nat → Int → World → Prop) : Prop :=
  bif (((a0n : Nat) : Int) != ((a1n : Nat) : Int)) then
    K none 0 0 none 0 0 1 w
  else
    ∃ N_24 : Nat, ref14_Mid.l5 N_24 a0 a0n a0c a1 a1n a1c none 0 0 none 0 0 0 w
    (fun o7_25 o7_25n o7_25c o8_26 o8_26n o8_26c w =>
      K o7_25 o7_25n o7_25c o8_26 o8_26n o8_26c 0 w)
def ref14_Mid.H (F : type_of% @ref14_Mid.f) : Hf := fun args w K => match args with
  | [v0, v1] => vL v0 fun a0 a0n a0c => vL v1 fun a1 a1n a1c => F a0 a0n a0c a1 a1n a1c w (fun r0 r0n r0c r1 r1n r1c r2 w => K (Value.tuple #[(Value.slice r0 r0n r0c), (Value.slice r1 r1n r1c), (Value.int .i64 r2)]) w)
  | _ => False
def ref14_Mid.h : Hf := ref14_Mid.H @ref14_Mid.f
def ref14_Mid.C : Hd := hnil
theorem ref14_Mid.C_ok : CSound Try.prog ref14_Mid.C := hnil_ok
def ref14_Mid.D : Nat → Plan := fun i => (match Nat.beq i 7 with | true => .take 0 (.take 1 (.take 2 (.take 3 (.take 4 (.take 5 (.take 6 (.take 7 (.take 8 (.take 9 (.done)))))))))) | false => .done)
noncomputable def ref14_Mid.c : Code := Try.f32.body.getD .skip
theorem ref14_Mid.hb : Try.f32.body = some ref14_Mid.c := by kernel_rfl
noncomputable def ref14_Mid.b0 : Code := (loopsOf ref14_Mid.c).getD 0 .skip
theorem ref14_Mid.b0_loops : loopsOf ref14_Mid.b0 = [] := by kernel_rfl
theorem ref14_Mid.c_loops : loopsOf ref14_Mid.c = [ref14_Mid.b0] := by kernel_rfl
def ref14_Mid.hn5 (N : Nat) (f : Fr) (w : World) (K : AExit → Fr → World → Prop) : Prop :=
  gN f 47 <| gL f 0 fun y0 y0n y0c => gL f 1 fun y1 y1n y1c => gL f 7 fun y7 y7n y7c => gL f 8 fun y8 y8n y8c => gI .i64 f 9 fun y9 => ref14_Mid.l5 N y0 y0n y0c y1 y1n y1c y7 y7n y7c y8 y8n y8c y9 w (fun o7 o7n o7c o8 o8n o8c w => K (.exit 0) [none, none, none, none, none, none, none, some (Value.slice o7 o7n o7c), some (Value.slice o8 o8n o8c), none, none, none, none, none, none, none, none, none, none, none, none, none, none, none, none, none, none, none, none, none, none, none, none, none, none, none, none, none, none, none, none, none, none, none, none, none, none] w)
def ref14_Mid.hx5 : AExit → Fr → World → (AExit → Fr → World → Prop) → Prop := fun e f w K => match e with
  | .normal => False
  | .exit i => (match Nat.beq i 0 with | true => gN f 47 <| gL f 7 fun o7 o7n o7c => gL f 8 fun o8 o8n o8c => K (.exit 0) [none, none, none, none, none, none, none, some (Value.slice o7 o7n o7c), some (Value.slice o8 o8n o8c), none, none, none, none, none, none, none, none, none, none, none, none, none, none, none, none, none, none, none, none, none, none, none, none, none, none, none, none, none, none, none, none, none, none, none, none, none, none] w | false => False)
  | .ret => False
def ref14_Mid.L : LHd := fun l f w K => (match Nat.beq l 5 with | true => ∃ N, ref14_Mid.hn5 N f w K | false => False)
theorem ref14_Mid.le5 (N : Nat) (y0 : Option Addr) (y0n : Nat) (y0c : Nat) (y1 : Option Addr) (y1n : Nat) (y1c : Nat) (y7 : Option Addr) (y7n : Nat) (y7c : Nat) (y8 : Option Addr) (y8n : Nat) (y8c : Nat) (y9 : Int) (w : World) (K : AExit → Fr → World → Prop) : awp ref14_Mid.C ref14_Mid.L ref14_Mid.D tab ref14_Mid.b0 (lpost ref14_Mid.hn5 ref14_Mid.hx5 N K) [some (Value.slice y0 y0n y0c), some (Value.slice y1 y1n y1c), none, none, none, none, none, some (Value.slice y7 y7n y7c), some (Value.slice y8 y8n y8c), some (Value.int .i64 y9), none, none, none, none, none, none, none, none, none, none, none, none, none, none, none, none, none, none, none, none, none, none, none, none, none, none, none, none, none, none, none, none, none, none, none, none, none] w = ref14_Mid.l5 (N + 1) y0 y0n y0c y1 y1n y1c y7 y7n y7c y8 y8n y8c y9 w (fun o7 o7n o7c o8 o8n o8c w => K (.exit 0) [none, none, none, none, none, none, none, some (Value.slice o7 o7n o7c), some (Value.slice o8 o8n o8c), none, none, none, none, none, none, none, none, none, none, none, none, none, none, none, none, none, none, none, none, none, none, none, none, none, none, none, none, none, none, none, none, none, none, none, none, none, none] w) := by kernel_rfl
theorem ref14_Mid.lok5 : LoopOk Try.prog ref14_Mid.L ref14_Mid.b0 := by
  refine loop_ok tab_ok ref14_Mid.C_ok (D := ref14_Mid.D) (ref14_Mid.hn5) (ref14_Mid.hx5) (by kernel_rfl) (by rw [ref14_Mid.b0_loops]; exact lnil) ?_ ?_ ?_ ?_
  · intro f w K h
    unfold ref14_Mid.hn5 at h
    obtain ⟨hlen, h⟩ := gN_ok h
    obtain ⟨y0, y0n, y0c, h0, h⟩ := gL_ok h
    obtain ⟨y1, y1n, y1c, h1, h⟩ := gL_ok h
    obtain ⟨y7, y7n, y7c, h7, h⟩ := gL_ok h
    obtain ⟨y8, y8n, y8c, h8, h⟩ := gL_ok h
    obtain ⟨y9, h9, h⟩ := gI_ok h
    exact h
  · intro N f w K h
    unfold ref14_Mid.hn5 at h
    obtain ⟨hlen, h⟩ := gN_ok h
    obtain ⟨y0, y0n, y0c, h0, h⟩ := gL_ok h
    obtain ⟨y1, y1n, y1c, h1, h⟩ := gL_ok h
    obtain ⟨y7, y7n, y7c, h7, h⟩ := gL_ok h
    obtain ⟨y8, y8n, y8c, h8, h⟩ := gL_ok h
    obtain ⟨y9, h9, h⟩ := gI_ok h
    refine ⟨[some (Value.slice y0 y0n y0c), some (Value.slice y1 y1n y1c), none, none, none, none, none, some (Value.slice y7 y7n y7c), some (Value.slice y8 y8n y8c), some (Value.int .i64 y9), none, none, none, none, none, none, none, none, none, none, none, none, none, none, none, none, none, none, none, none, none, none, none, none, none, none, none, none, none, none, none, none, none, none, none, none, none], hlen, ⟨h0, h1, h7, h8, h9, trivial⟩, ?_⟩
    rw [ref14_Mid.le5]
    exact h
  · intro e f w K h
    cases e with
    | normal => exact h.elim
    | exit i =>
      unfold ref14_Mid.hx5 at h
      simp only at h
      split at h
      · rename_i hb
        obtain rfl := Nat.eq_of_beq_eq_true hb
        obtain ⟨hlen, h⟩ := gN_ok h
        obtain ⟨o7, o7n, o7c, h7, h⟩ := gL_ok h
        obtain ⟨o8, o8n, o8c, h8, h⟩ := gL_ok h
        exact ⟨[none, none, none, none, none, none, none, some (Value.slice o7 o7n o7c), some (Value.slice o8 o8n o8c), none, none, none, none, none, none, none, none, none, none, none, none, none, none, none, none, none, none, none, none, none, none, none, none, none, none, none, none, none, none, none, none, none, none, none, none, none, none], hlen, ⟨h7, h8, trivial⟩, h⟩
      · exact (show False from h).elim
    | ret =>
      exact (show False from h).elim
  · intro f w K h
    have e : lid ref14_Mid.b0 = 5 := by kernel_rfl
    rw [e] at h
    exact h
theorem ref14_Mid.eq (a0 : Option Addr) (a0n : Nat) (a0c : Nat) (a1 : Option Addr) (a1n : Nat) (a1c : Nat) (w : World) (K : Value → World → Prop) : afn ref14_Mid.C ref14_Mid.L ref14_Mid.D tab Try.f32 [(Value.slice a0 a0n a0c), (Value.slice a1 a1n a1c)] w K = ref14_Mid.f a0 a0n a0c a1 a1n a1c w (fun r0 r0n r0c r1 r1n r1c r2 w => K (Value.tuple #[(Value.slice r0 r0n r0c), (Value.slice r1 r1n r1c), (Value.int .i64 r2)]) w) := by kernel_rfl
theorem ref14_Mid.ok : FSound Try.prog 32 ref14_Mid.h := by
  intro args w K h
  unfold ref14_Mid.h ref14_Mid.H at h
  split at h
  ·
    replace h := vL_ok h
    obtain ⟨a0, a0n, a0c, rfl, h⟩ := h
    replace h := vL_ok h
    obtain ⟨a1, a1n, a1c, rfl, h⟩ := h
    refine ⟨by kernel_rfl, fn_ok tab_ok ref14_Mid.C_ok (L := ref14_Mid.L) (D := ref14_Mid.D) Try.func32 ref14_Mid.hb (by kernel_rfl) (by rw [ref14_Mid.c_loops]; exact lcons ref14_Mid.lok5 (lnil)) (Nat.le_of_ble_eq_true (by kernel_rfl)) ?_⟩
    rw [ref14_Mid.eq]
    exact h
  · exact h.elim
/-! ### valise/tracks.Unmid: function 33 -/
def tracks_Unmid.l5 : Nat → Option Addr → Nat → Nat → Option Addr → Nat → Nat → Option Addr → Nat → Nat → Option Addr → Nat → Nat → Int → Int → World → (Option Addr → Nat → Nat → Option Addr → Nat → Nat → World → Prop) → Prop
  | 0, _, _, _, _, _, _, _, _, _, _, _, _, _, _, _, _ => False
  | N + 1, y0, y0n, y0c, y1, y1n, y1c, y7, y7n, y7c, y8, y8n, y8c, y22, y23, w, K0 =>
    bif (decide (y23 < y22)) then
      sm y0 fun p_19 =>
      if 0 ≤ (y23 : Int) ∧ (y23 : Int) < ((y0n : Nat) : Int) then
      ldI .i32 (p_19.add (Int.toNat y23)) w.drew fun x31_20 =>
      sm y1 fun p_21 =>
      if 0 ≤ (y23 : Int) ∧ (y23 : Int) < ((y1n : Nat) : Int) then
      ldI .i32 (p_21.add (Int.toNat y23)) w.drew fun x35_22 =>
      sm y8 fun p_23 =>
      if 0 ≤ (y23 : Int) ∧ (y23 : Int) < ((y8n : Nat) : Int) then
      stC (p_23.add (Int.toNat y23)) (Value.int .i32 (IntKind.wrap .i32 (x31_20 - (shr .i32 x35_22 1)))) w.drew fun w =>
      sm y8 fun p_24 =>
      if 0 ≤ (y23 : Int) ∧ (y23 : Int) < ((y8n : Nat) : Int) then
      ldI .i32 (p_24.add (Int.toNat y23)) w.drew fun x44_25 =>
      sm y1 fun p_26 =>
      if 0 ≤ (y23 : Int) ∧ (y23 : Int) < ((y1n : Nat) : Int) then
      ldI .i32 (p_26.add (Int.toNat y23)) w.drew fun x48_27 =>
      sm y7 fun p_28 =>
      if 0 ≤ (y23 : Int) ∧ (y23 : Int) < ((y7n : Nat) : Int) then
      stC (p_28.add (Int.toNat y23)) (Value.int .i32 (IntKind.wrap .i32 (x44_25 + x48_27))) w.drew fun w =>
      tracks_Unmid.l5 N y0 y0n y0c y1 y1n y1c y7 y7n y7c y8 y8n y8c y22 (IntKind.wrap .i64 (y23 + 1)) w K0
      else False
      else False
      else False
      else False
      else False
      else False
    else
      K0 y7 y7n y7c y8 y8n y8c w

def tracks_Unmid.f (a0 : Option Addr) (a0n : Nat) (a0c : Nat) (a1 : Option Addr) (a1n : Nat) (a1c : Nat) (w : World) (K : Option Addr → Nat → Nat → Option Addr → Nat → Nat → Int → World → Prop) : Prop :=
  bif (((a0n : Nat) : Int) != ((a1n : Nat) : Int)) then
    K none 0 0 none 0 0 1 w
  else
    let J_33 := fun (j7_10 : Option Addr) (j7_10n : Nat) (j7_10c : Nat) (j8_11 : Option Addr) (j8_11n : Nat) (j8_11c : Nat) (w : World) =>
      ((∃ N_29 : Nat, tracks_Unmid.l5 N_29 a0 a0n a0c a1 a1n a1c j7_10 j7_10n j7_10c j8_11 j8_11n j8_11c ((a0n : Nat) : Int) 0 w
      (fun o7_30 o7_30n o7_30c o8_31 o8_31n o8_31c w =>
        K o7_30 o7_30n o7_30c o8_31 o8_31n o8_31c 0 w)) : Prop)
    (mkL 21 1 4 [(Value.int .i32 0)] ((a0n : Nat) : Int) ((a0n : Nat) : Int) w.drew fun a17_6 a17_6n a17_6c w =>
    mkL 21 1 4 [(Value.int .i32 0)] ((a0n : Nat) : Int) ((a0n : Nat) : Int) w fun a20_7 a20_7n a20_7c w =>
    J_33 a17_6 a17_6n a17_6c a20_7 a20_7n a20_7c w) ∧
    (mkL 21 1 4 [(Value.int .i32 0)] ((a0n : Nat) : Int) ((a0n : Nat) : Int) w.drew fun a20_8 a20_8n a20_8c w =>
    mkL 21 1 4 [(Value.int .i32 0)] ((a0n : Nat) : Int) ((a0n : Nat) : Int) w fun a17_9 a17_9n a17_9c w =>
    J_33 a17_9 a17_9n a17_9c a20_8 a20_8n a20_8c w)
def tracks_Unmid.H (F : type_of% @tracks_Unmid.f) : Hf := fun args w K => match args with
  | [v0, v1] => vL v0 fun a0 a0n a0c => vL v1 fun a1 a1n a1c => F a0 a0n a0c a1 a1n a1c w (fun r0 r0n r0c r1 r1n r1c r2 w => K (Value.tuple #[(Value.slice r0 r0n r0c), (Value.slice r1 r1n r1c), (Value.int .i64 r2)]) w)
  | _ => False
def tracks_Unmid.h : Hf := tracks_Unmid.H @tracks_Unmid.f
def tracks_Unmid.C : Hd := hnil
theorem tracks_Unmid.C_ok : CSound Try.prog tracks_Unmid.C := hnil_ok
def tracks_Unmid.D : Nat → Plan := fun i => (match Nat.beq i 8 with | true => .take 0 (.take 1 (.take 2 (.take 3 (.take 4 (.take 5 (.take 6 (.take 7 (.take 8 (.take 9 (.take 10 (.take 11 (.eff 12 (.done))))))))))))) | false => (match Nat.beq i 7 with | true => .take 0 (.take 1 (.take 2 (.take 3 (.take 4 (.take 5 (.take 6 (.take 7 (.take 8 (.take 9 (.take 10 (.take 11 (.take 12 (.eff 13 (.done)))))))))))))) | false => (match Nat.beq i 3 with | true => .take 0 (.take 1 (.take 3 (.take 4 (.eff2 2 (.take 6 (.eff 5 (.take 7 (.done)))) 5 (.eff 2 (.take 6 (.take 7 (.done)))))))) | false => .done)))
noncomputable def tracks_Unmid.c : Code := Try.f33.body.getD .skip
theorem tracks_Unmid.hb : Try.f33.body = some tracks_Unmid.c := by kernel_rfl
noncomputable def tracks_Unmid.b0 : Code := (loopsOf tracks_Unmid.c).getD 0 .skip
theorem tracks_Unmid.b0_loops : loopsOf tracks_Unmid.b0 = [] := by kernel_rfl
theorem tracks_Unmid.c_loops : loopsOf tracks_Unmid.c = [tracks_Unmid.b0] := by kernel_rfl
def tracks_Unmid.hn5 (N : Nat) (f : Fr) (w : World) (K : AExit → Fr → World → Prop) : Prop :=
  gN f 54 <| gL f 0 fun y0 y0n y0c => gL f 1 fun y1 y1n y1c => gL f 7 fun y7 y7n y7c => gL f 8 fun y8 y8n y8c => gI .i64 f 22 fun y22 => gI .i64 f 23 fun y23 => tracks_Unmid.l5 N y0 y0n y0c y1 y1n y1c y7 y7n y7c y8 y8n y8c y22 y23 w (fun o7 o7n o7c o8 o8n o8c w => K (.exit 0) [none, none, none, none, none, none, none, some (Value.slice o7 o7n o7c), some (Value.slice o8 o8n o8c), none, none, none, none, none, none, none, none, none, none, none, none, none, none, none, none, none, none, none, none, none, none, none, none, none, none, none, none, none, none, none, none, none, none, none, none, none, none, none, none, none, none, none, none, none] w)
def tracks_Unmid.hx5 : AExit → Fr → World → (AExit → Fr → World → Prop) → Prop := fun e f w K => match e with
  | .normal => False
  | .exit i => (match Nat.beq i 0 with | true => gN f 54 <| gL f 7 fun o7 o7n o7c => gL f 8 fun o8 o8n o8c => K (.exit 0) [none, none, none, none, none, none, none, some (Value.slice o7 o7n o7c), some (Value.slice o8 o8n o8c), none, none, none, none, none, none, none, none, none, none, none, none, none, none, none, none, none, none, none, none, none, none, none, none, none, none, none, none, none, none, none, none, none, none, none, none, none, none, none, none, none, none, none, none, none] w | false => False)
  | .ret => False
def tracks_Unmid.L : LHd := fun l f w K => (match Nat.beq l 5 with | true => ∃ N, tracks_Unmid.hn5 N f w K | false => False)
theorem tracks_Unmid.le5 (N : Nat) (y0 : Option Addr) (y0n : Nat) (y0c : Nat) (y1 : Option Addr) (y1n : Nat) (y1c : Nat) (y7 : Option Addr) (y7n : Nat) (y7c : Nat) (y8 : Option Addr) (y8n : Nat) (y8c : Nat) (y22 : Int) (y23 : Int) (w : World) (K : AExit → Fr → World → Prop) : awp tracks_Unmid.C tracks_Unmid.L tracks_Unmid.D tab tracks_Unmid.b0 (lpost tracks_Unmid.hn5 tracks_Unmid.hx5 N K) [some (Value.slice y0 y0n y0c), some (Value.slice y1 y1n y1c), none, none, none, none, none, some (Value.slice y7 y7n y7c), some (Value.slice y8 y8n y8c), none, none, none, none, none, none, none, none, none, none, none, none, none, some (Value.int .i64 y22), some (Value.int .i64 y23), none, none, none, none, none, none, none, none, none, none, none, none, none, none, none, none, none, none, none, none, none, none, none, none, none, none, none, none, none, none] w = tracks_Unmid.l5 (N + 1) y0 y0n y0c y1 y1n y1c y7 y7n y7c y8 y8n y8c y22 y23 w (fun o7 o7n o7c o8 o8n o8c w => K (.exit 0) [none, none, none, none, none, none, none, some (Value.slice o7 o7n o7c), some (Value.slice o8 o8n o8c), none, none, none, none, none, none, none, none, none, none, none, none, none, none, none, none, none, none, none, none, none, none, none, none, none, none, none, none, none, none, none, none, none, none, none, none, none, none, none, none, none, none, none, none, none] w) := by kernel_rfl
theorem tracks_Unmid.lok5 : LoopOk Try.prog tracks_Unmid.L tracks_Unmid.b0 := by
  refine loop_ok tab_ok tracks_Unmid.C_ok (D := tracks_Unmid.D) (tracks_Unmid.hn5) (tracks_Unmid.hx5) (by kernel_rfl) (by rw [tracks_Unmid.b0_loops]; exact lnil) ?_ ?_ ?_ ?_
  · intro f w K h
    unfold tracks_Unmid.hn5 at h
    obtain ⟨hlen, h⟩ := gN_ok h
    obtain ⟨y0, y0n, y0c, h0, h⟩ := gL_ok h
    obtain ⟨y1, y1n, y1c, h1, h⟩ := gL_ok h
    obtain ⟨y7, y7n, y7c, h7, h⟩ := gL_ok h
    obtain ⟨y8, y8n, y8c, h8, h⟩ := gL_ok h
    obtain ⟨y22, h22, h⟩ := gI_ok h
    obtain ⟨y23, h23, h⟩ := gI_ok h
    exact h
  · intro N f w K h
    unfold tracks_Unmid.hn5 at h
    obtain ⟨hlen, h⟩ := gN_ok h
    obtain ⟨y0, y0n, y0c, h0, h⟩ := gL_ok h
    obtain ⟨y1, y1n, y1c, h1, h⟩ := gL_ok h
    obtain ⟨y7, y7n, y7c, h7, h⟩ := gL_ok h
    obtain ⟨y8, y8n, y8c, h8, h⟩ := gL_ok h
    obtain ⟨y22, h22, h⟩ := gI_ok h
    obtain ⟨y23, h23, h⟩ := gI_ok h
    refine ⟨[some (Value.slice y0 y0n y0c), some (Value.slice y1 y1n y1c), none, none, none, none, none, some (Value.slice y7 y7n y7c), some (Value.slice y8 y8n y8c), none, none, none, none, none, none, none, none, none, none, none, none, none, some (Value.int .i64 y22), some (Value.int .i64 y23), none, none, none, none, none, none, none, none, none, none, none, none, none, none, none, none, none, none, none, none, none, none, none, none, none, none, none, none, none, none], hlen, ⟨h0, h1, h7, h8, h22, h23, trivial⟩, ?_⟩
    rw [tracks_Unmid.le5]
    exact h
  · intro e f w K h
    cases e with
    | normal => exact h.elim
    | exit i =>
      unfold tracks_Unmid.hx5 at h
      simp only at h
      split at h
      · rename_i hb
        obtain rfl := Nat.eq_of_beq_eq_true hb
        obtain ⟨hlen, h⟩ := gN_ok h
        obtain ⟨o7, o7n, o7c, h7, h⟩ := gL_ok h
        obtain ⟨o8, o8n, o8c, h8, h⟩ := gL_ok h
        exact ⟨[none, none, none, none, none, none, none, some (Value.slice o7 o7n o7c), some (Value.slice o8 o8n o8c), none, none, none, none, none, none, none, none, none, none, none, none, none, none, none, none, none, none, none, none, none, none, none, none, none, none, none, none, none, none, none, none, none, none, none, none, none, none, none, none, none, none, none, none, none], hlen, ⟨h7, h8, trivial⟩, h⟩
      · exact (show False from h).elim
    | ret =>
      exact (show False from h).elim
  · intro f w K h
    have e : lid tracks_Unmid.b0 = 5 := by kernel_rfl
    rw [e] at h
    exact h
theorem tracks_Unmid.eq (a0 : Option Addr) (a0n : Nat) (a0c : Nat) (a1 : Option Addr) (a1n : Nat) (a1c : Nat) (w : World) (K : Value → World → Prop) : afn tracks_Unmid.C tracks_Unmid.L tracks_Unmid.D tab Try.f33 [(Value.slice a0 a0n a0c), (Value.slice a1 a1n a1c)] w K = tracks_Unmid.f a0 a0n a0c a1 a1n a1c w (fun r0 r0n r0c r1 r1n r1c r2 w => K (Value.tuple #[(Value.slice r0 r0n r0c), (Value.slice r1 r1n r1c), (Value.int .i64 r2)]) w) := by kernel_rfl
theorem tracks_Unmid.ok : FSound Try.prog 33 tracks_Unmid.h := by
  intro args w K h
  unfold tracks_Unmid.h tracks_Unmid.H at h
  split at h
  ·
    replace h := vL_ok h
    obtain ⟨a0, a0n, a0c, rfl, h⟩ := h
    replace h := vL_ok h
    obtain ⟨a1, a1n, a1c, rfl, h⟩ := h
    refine ⟨by kernel_rfl, fn_ok tab_ok tracks_Unmid.C_ok (L := tracks_Unmid.L) (D := tracks_Unmid.D) Try.func33 tracks_Unmid.hb (by kernel_rfl) (by rw [tracks_Unmid.c_loops]; exact lcons tracks_Unmid.lok5 (lnil)) (Nat.le_of_ble_eq_true (by kernel_rfl)) ?_⟩
    rw [tracks_Unmid.eq]
    exact h
  · exact h.elim
/-! ### valise/valiseref14.Unmid: function 34 -/
def ref14_Unmid.l5 : Nat → Option Addr → Nat → Nat → Option Addr → Nat → Nat → Option Addr → Nat → Nat → Option Addr → Nat → Nat → Int → World → (Option Addr → Nat → Nat → Option Addr → Nat → Nat → World → Prop) → Prop
  | 0, _, _, _, _, _, _, _, _, _, _, _, _, _, _, _ => False
  | N + 1, y0, y0n, y0c, y1, y1n, y1c, y7, y7n, y7c, y8, y8n, y8c, y9, w, K0 =>
    bif (decide (y9 < ((y0n : Nat) : Int))) then
      sm y0 fun p_12 =>
      if 0 ≤ (y9 : Int) ∧ (y9 : Int) < ((y0n : Nat) : Int) then
      ldI .i32 (p_12.add (Int.toNat y9)) w.drew fun x25_13 =>
      sm y1 fun p_14 =>
      if 0 ≤ (y9 : Int) ∧ (y9 : Int) < ((y1n : Nat) : Int) then
      ldI .i32 (p_14.add (Int.toNat y9)) w.drew fun x29_15 =>
      let v10_16 := (IntKind.wrap .i32 (x25_13 - (shr .i32 x29_15 1)))
      sm y1 fun p_17 =>
      if 0 ≤ (y9 : Int) ∧ (y9 : Int) < ((y1n : Nat) : Int) then
      ldI .i32 (p_17.add (Int.toNat y9)) w.drew fun x37_18 =>
      newC 21 [(Value.int .i32 (IntKind.wrap .i32 (v10_16 + x37_18)))] w.drew fun a39_19 w =>
      appL 21 1 4 [(Value.int .i32 0)] y7 y7n y7c (some a39_19) 1 1 w fun a40_20 a40_20n a40_20c w =>
      newC 21 [(Value.int .i32 v10_16)] w fun a43_21 w =>
      appL 21 1 4 [(Value.int .i32 0)] y8 y8n y8c (some a43_21) 1 1 w fun a44_22 a44_22n a44_22c w =>
      let v9_23 := (IntKind.wrap .i64 (y9 + 1))
      ref14_Unmid.l5 N y0 y0n y0c y1 y1n y1c a40_20 a40_20n a40_20c a44_22 a44_22n a44_22c v9_23 w K0
      else False
      else False
      else False
    else
      K0 y7 y7n y7c y8 y8n y8c w

def ref14_Unmid.f (a0 : Option Addr) (a0n : Nat) (a0c : Nat) (a1 : Option Addr) (a1n : Nat) (a1c : Nat) (w : World) (K : Option Addr → Nat → Nat → Option Addr → Nat → Nat → Int → World → Prop) : Prop :=
  bif (((a0n : Nat) : Int) != ((a1n : Nat) : Int)) then
    K none 0 0 none 0 0 1 w
  else
    ∃ N_24 : Nat, ref14_Unmid.l5 N_24 a0 a0n a0c a1 a1n a1c none 0 0 none 0 0 0 w
    (fun o7_25 o7_25n o7_25c o8_26 o8_26n o8_26c w =>
      K o7_25 o7_25n o7_25c o8_26 o8_26n o8_26c 0 w)
def ref14_Unmid.H (F : type_of% @ref14_Unmid.f) : Hf := fun args w K => match args with
  | [v0, v1] => vL v0 fun a0 a0n a0c => vL v1 fun a1 a1n a1c => F a0 a0n a0c a1 a1n a1c w (fun r0 r0n r0c r1 r1n r1c r2 w => K (Value.tuple #[(Value.slice r0 r0n r0c), (Value.slice r1 r1n r1c), (Value.int .i64 r2)]) w)
  | _ => False
def ref14_Unmid.h : Hf := ref14_Unmid.H @ref14_Unmid.f
def ref14_Unmid.C : Hd := hnil
theorem ref14_Unmid.C_ok : CSound Try.prog ref14_Unmid.C := hnil_ok
def ref14_Unmid.D : Nat → Plan := fun i => (match Nat.beq i 7 with | true => .take 0 (.take 1 (.take 2 (.take 3 (.take 4 (.take 5 (.take 6 (.take 7 (.take 8 (.take 9 (.take 10 (.done))))))))))) | false => .done)
noncomputable def ref14_Unmid.c : Code := Try.f34.body.getD .skip
theorem ref14_Unmid.hb : Try.f34.body = some ref14_Unmid.c := by kernel_rfl
noncomputable def ref14_Unmid.b0 : Code := (loopsOf ref14_Unmid.c).getD 0 .skip
theorem ref14_Unmid.b0_loops : loopsOf ref14_Unmid.b0 = [] := by kernel_rfl
theorem ref14_Unmid.c_loops : loopsOf ref14_Unmid.c = [ref14_Unmid.b0] := by kernel_rfl
def ref14_Unmid.hn5 (N : Nat) (f : Fr) (w : World) (K : AExit → Fr → World → Prop) : Prop :=
  gN f 47 <| gL f 0 fun y0 y0n y0c => gL f 1 fun y1 y1n y1c => gL f 7 fun y7 y7n y7c => gL f 8 fun y8 y8n y8c => gI .i64 f 9 fun y9 => ref14_Unmid.l5 N y0 y0n y0c y1 y1n y1c y7 y7n y7c y8 y8n y8c y9 w (fun o7 o7n o7c o8 o8n o8c w => K (.exit 0) [none, none, none, none, none, none, none, some (Value.slice o7 o7n o7c), some (Value.slice o8 o8n o8c), none, none, none, none, none, none, none, none, none, none, none, none, none, none, none, none, none, none, none, none, none, none, none, none, none, none, none, none, none, none, none, none, none, none, none, none, none, none] w)
def ref14_Unmid.hx5 : AExit → Fr → World → (AExit → Fr → World → Prop) → Prop := fun e f w K => match e with
  | .normal => False
  | .exit i => (match Nat.beq i 0 with | true => gN f 47 <| gL f 7 fun o7 o7n o7c => gL f 8 fun o8 o8n o8c => K (.exit 0) [none, none, none, none, none, none, none, some (Value.slice o7 o7n o7c), some (Value.slice o8 o8n o8c), none, none, none, none, none, none, none, none, none, none, none, none, none, none, none, none, none, none, none, none, none, none, none, none, none, none, none, none, none, none, none, none, none, none, none, none, none, none] w | false => False)
  | .ret => False
def ref14_Unmid.L : LHd := fun l f w K => (match Nat.beq l 5 with | true => ∃ N, ref14_Unmid.hn5 N f w K | false => False)
theorem ref14_Unmid.le5 (N : Nat) (y0 : Option Addr) (y0n : Nat) (y0c : Nat) (y1 : Option Addr) (y1n : Nat) (y1c : Nat) (y7 : Option Addr) (y7n : Nat) (y7c : Nat) (y8 : Option Addr) (y8n : Nat) (y8c : Nat) (y9 : Int) (w : World) (K : AExit → Fr → World → Prop) : awp ref14_Unmid.C ref14_Unmid.L ref14_Unmid.D tab ref14_Unmid.b0 (lpost ref14_Unmid.hn5 ref14_Unmid.hx5 N K) [some (Value.slice y0 y0n y0c), some (Value.slice y1 y1n y1c), none, none, none, none, none, some (Value.slice y7 y7n y7c), some (Value.slice y8 y8n y8c), some (Value.int .i64 y9), none, none, none, none, none, none, none, none, none, none, none, none, none, none, none, none, none, none, none, none, none, none, none, none, none, none, none, none, none, none, none, none, none, none, none, none, none] w = ref14_Unmid.l5 (N + 1) y0 y0n y0c y1 y1n y1c y7 y7n y7c y8 y8n y8c y9 w (fun o7 o7n o7c o8 o8n o8c w => K (.exit 0) [none, none, none, none, none, none, none, some (Value.slice o7 o7n o7c), some (Value.slice o8 o8n o8c), none, none, none, none, none, none, none, none, none, none, none, none, none, none, none, none, none, none, none, none, none, none, none, none, none, none, none, none, none, none, none, none, none, none, none, none, none, none] w) := by kernel_rfl
theorem ref14_Unmid.lok5 : LoopOk Try.prog ref14_Unmid.L ref14_Unmid.b0 := by
  refine loop_ok tab_ok ref14_Unmid.C_ok (D := ref14_Unmid.D) (ref14_Unmid.hn5) (ref14_Unmid.hx5) (by kernel_rfl) (by rw [ref14_Unmid.b0_loops]; exact lnil) ?_ ?_ ?_ ?_
  · intro f w K h
    unfold ref14_Unmid.hn5 at h
    obtain ⟨hlen, h⟩ := gN_ok h
    obtain ⟨y0, y0n, y0c, h0, h⟩ := gL_ok h
    obtain ⟨y1, y1n, y1c, h1, h⟩ := gL_ok h
    obtain ⟨y7, y7n, y7c, h7, h⟩ := gL_ok h
    obtain ⟨y8, y8n, y8c, h8, h⟩ := gL_ok h
    obtain ⟨y9, h9, h⟩ := gI_ok h
    exact h
  · intro N f w K h
    unfold ref14_Unmid.hn5 at h
    obtain ⟨hlen, h⟩ := gN_ok h
    obtain ⟨y0, y0n, y0c, h0, h⟩ := gL_ok h
    obtain ⟨y1, y1n, y1c, h1, h⟩ := gL_ok h
    obtain ⟨y7, y7n, y7c, h7, h⟩ := gL_ok h
    obtain ⟨y8, y8n, y8c, h8, h⟩ := gL_ok h
    obtain ⟨y9, h9, h⟩ := gI_ok h
    refine ⟨[some (Value.slice y0 y0n y0c), some (Value.slice y1 y1n y1c), none, none, none, none, none, some (Value.slice y7 y7n y7c), some (Value.slice y8 y8n y8c), some (Value.int .i64 y9), none, none, none, none, none, none, none, none, none, none, none, none, none, none, none, none, none, none, none, none, none, none, none, none, none, none, none, none, none, none, none, none, none, none, none, none, none], hlen, ⟨h0, h1, h7, h8, h9, trivial⟩, ?_⟩
    rw [ref14_Unmid.le5]
    exact h
  · intro e f w K h
    cases e with
    | normal => exact h.elim
    | exit i =>
      unfold ref14_Unmid.hx5 at h
      simp only at h
      split at h
      · rename_i hb
        obtain rfl := Nat.eq_of_beq_eq_true hb
        obtain ⟨hlen, h⟩ := gN_ok h
        obtain ⟨o7, o7n, o7c, h7, h⟩ := gL_ok h
        obtain ⟨o8, o8n, o8c, h8, h⟩ := gL_ok h
        exact ⟨[none, none, none, none, none, none, none, some (Value.slice o7 o7n o7c), some (Value.slice o8 o8n o8c), none, none, none, none, none, none, none, none, none, none, none, none, none, none, none, none, none, none, none, none, none, none, none, none, none, none, none, none, none, none, none, none, none, none, none, none, none, none], hlen, ⟨h7, h8, trivial⟩, h⟩
      · exact (show False from h).elim
    | ret =>
      exact (show False from h).elim
  · intro f w K h
    have e : lid ref14_Unmid.b0 = 5 := by kernel_rfl
    rw [e] at h
    exact h
theorem ref14_Unmid.eq (a0 : Option Addr) (a0n : Nat) (a0c : Nat) (a1 : Option Addr) (a1n : Nat) (a1c : Nat) (w : World) (K : Value → World → Prop) : afn ref14_Unmid.C ref14_Unmid.L ref14_Unmid.D tab Try.f34 [(Value.slice a0 a0n a0c), (Value.slice a1 a1n a1c)] w K = ref14_Unmid.f a0 a0n a0c a1 a1n a1c w (fun r0 r0n r0c r1 r1n r1c r2 w => K (Value.tuple #[(Value.slice r0 r0n r0c), (Value.slice r1 r1n r1c), (Value.int .i64 r2)]) w) := by kernel_rfl
theorem ref14_Unmid.ok : FSound Try.prog 34 ref14_Unmid.h := by
  intro args w K h
  unfold ref14_Unmid.h ref14_Unmid.H at h
  split at h
  ·
    replace h := vL_ok h
    obtain ⟨a0, a0n, a0c, rfl, h⟩ := h
    replace h := vL_ok h
    obtain ⟨a1, a1n, a1c, rfl, h⟩ := h
    refine ⟨by kernel_rfl, fn_ok tab_ok ref14_Unmid.C_ok (L := ref14_Unmid.L) (D := ref14_Unmid.D) Try.func34 ref14_Unmid.hb (by kernel_rfl) (by rw [ref14_Unmid.c_loops]; exact lcons ref14_Unmid.lok5 (lnil)) (Nat.le_of_ble_eq_true (by kernel_rfl)) ?_⟩
    rw [ref14_Unmid.eq]
    exact h
  · exact h.elim

end Go.Proofs.Ytmgcjihcbdgihaa.G
