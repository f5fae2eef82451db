/- Go functions as predicate transformers, written by a program of this session (gen.py), with their soundness. -/
import Derived.Test.YtmgcjihcbdgihaaGen3
set_option linter.unusedVariables false
set_option linter.unusedSimpArgs false
set_option maxRecDepth 100000
namespace Go.Proofs.Ytmgcjihcbdgihaa.G
open Go Go.Proofs.Ytmgcjihcbdgihaa.Vm
/-! ### valise/valisehelp.Own[int32]: function 41 -/
def help_Own_int32.l5 : Nat → Int → Option Addr → Nat → Nat → Option Addr → Nat → Nat → Int → World → (Option Addr → Nat → Nat → World → Prop) → Prop
  | 0, _, _, _, _, _, _, _, _, _, _ => False
  | N + 1, y1, y5, y5n, y5c, y6, y6n, y6c, y7, w, K0 =>
    bif (decide (y7 < ((y6n : Nat) : Int))) then
      sm y6 fun p_15 =>
      if 0 ≤ (y7 : Int) ∧ (y7 : Int) < ((y6n : Nat) : Int) then
      stC (p_15.add (Int.toNat y7)) (Value.int .i32 y1) w fun w =>
      let v7_16 := (IntKind.wrap .i64 (y7 + 1))
      help_Own_int32.l5 N y1 y5 y5n y5c y6 y6n y6c v7_16 w K0
      else False
    else
      K0 y5 y5n y5c w

def help_Own_int32.f (a0 : Option Addr) (a0n : Nat) (a0c : Nat) (a1 : Int) (w : World) (K : Option Addr → Nat → Nat → World → Prop) : Prop :=
  mkL 21 1 4 [(Value.int .i32 0)] 0 (IntKind.wrap .i64 (((a0n : Nat) : Int) + 3)) w fun a11_3 a11_3n a11_3c w =>
  appL 21 1 4 [(Value.int .i32 0)] a11_3 a11_3n a11_3c a0 a0n a0c w fun a14_5 a14_5n a14_5c w =>
  bnd a14_5n a14_5c none (some (Value.int .i64 (IntKind.wrap .i64 (((a0n : Nat) : Int) + 3)))) fun l_7 h_8 =>
  let v7_11 := ((a0n : Nat) : Int)
  ∃ N_17 : Nat, help_Own_int32.l5 N_17 a1 a14_5 a14_5n a14_5c (adrS a14_5 l_7 a14_5c 1) (h_8 - l_7) (a14_5c - l_7) v7_11 w
  (fun o5_18 o5_18n o5_18c w =>
    K o5_18 o5_18n o5_18c w)
def help_Own_int32.H (F : type_of% @help_Own_int32.f) : Hf := fun args w K => match args with
  | [v0, v1] => vL v0 fun a0 a0n a0c => vI .i32 v1 fun a1 => F a0 a0n a0c a1 w (fun r0 r0n r0c w => K (Value.slice r0 r0n r0c) w)
  | _ => False
def help_Own_int32.h : Hf := help_Own_int32.H @help_Own_int32.f
def help_Own_int32.C : Hd := hnil
theorem help_Own_int32.C_ok : CSound Try.prog help_Own_int32.C := hnil_ok
def help_Own_int32.D : Nat → Plan := fun i => .done
noncomputable def help_Own_int32.c : Code := Try.f41.body.getD .skip
theorem help_Own_int32.hb : Try.f41.body = some help_Own_int32.c := by kernel_rfl
noncomputable def help_Own_int32.b0 : Code := (loopsOf help_Own_int32.c).getD 0 .skip
theorem help_Own_int32.b0_loops : loopsOf help_Own_int32.b0 = [] := by kernel_rfl
theorem help_Own_int32.c_loops : loopsOf help_Own_int32.c = [help_Own_int32.b0] := by kernel_rfl
def help_Own_int32.hn5 (N : Nat) (f : Fr) (w : World) (K : AExit → Fr → World → Prop) : Prop :=
  gN f 33 <| gI .i32 f 1 fun y1 => gL f 5 fun y5 y5n y5c => gL f 6 fun y6 y6n y6c => gI .i64 f 7 fun y7 => help_Own_int32.l5 N y1 y5 y5n y5c y6 y6n y6c y7 w (fun o5 o5n o5c w => K (.exit 0) [none, none, none, none, none, some (Value.slice o5 o5n o5c), none, none, none, none, none, none, none, none, none, none, none, none, none, none, none, none, none, none, none, none, none, none, none, none, none, none, none] w)
def help_Own_int32.hx5 : AExit → Fr → World → (AExit → Fr → World → Prop) → Prop := fun e f w K => match e with
  | .normal => False
  | .exit i => (match Nat.beq i 0 with | true => gN f 33 <| gL f 5 fun o5 o5n o5c => K (.exit 0) [none, none, none, none, none, some (Value.slice o5 o5n o5c), none, none, none, none, none, none, none, none, none, none, none, none, none, none, none, none, none, none, none, none, none, none, none, none, none, none, none] w | false => False)
  | .ret => False
def help_Own_int32.L : LHd := fun l f w K => (match Nat.beq l 5 with | true => ∃ N, help_Own_int32.hn5 N f w K | false => False)
theorem help_Own_int32.le5 (N : Nat) (y1 : Int) (y5 : Option Addr) (y5n : Nat) (y5c : Nat) (y6 : Option Addr) (y6n : Nat) (y6c : Nat) (y7 : Int) (w : World) (K : AExit → Fr → World → Prop) : awp help_Own_int32.C help_Own_int32.L help_Own_int32.D tab help_Own_int32.b0 (lpost help_Own_int32.hn5 help_Own_int32.hx5 N K) [none, some (Value.int .i32 y1), none, none, none, some (Value.slice y5 y5n y5c), some (Value.slice y6 y6n y6c), some (Value.int .i64 y7), none, none, none, none, none, none, none, none, none, none, none, none, none, none, none, none, none, none, none, none, none, none, none, none, none] w = help_Own_int32.l5 (N + 1) y1 y5 y5n y5c y6 y6n y6c y7 w (fun o5 o5n o5c w => K (.exit 0) [none, none, none, none, none, some (Value.slice o5 o5n o5c), none, none, none, none, none, none, none, none, none, none, none, none, none, none, none, none, none, none, none, none, none, none, none, none, none, none, none] w) := by kernel_rfl
theorem help_Own_int32.lok5 : LoopOk Try.prog help_Own_int32.L help_Own_int32.b0 := by
  refine loop_ok tab_ok help_Own_int32.C_ok (D := help_Own_int32.D) (help_Own_int32.hn5) (help_Own_int32.hx5) (by kernel_rfl) (by rw [help_Own_int32.b0_loops]; exact lnil) ?_ ?_ ?_ ?_
  · intro f w K h
    unfold help_Own_int32.hn5 at h
    obtain ⟨hlen, h⟩ := gN_ok h
    obtain ⟨y1, h1, h⟩ := gI_ok h
    obtain ⟨y5, y5n, y5c, h5, h⟩ := gL_ok h
    obtain ⟨y6, y6n, y6c, h6, h⟩ := gL_ok h
    obtain ⟨y7, h7, h⟩ := gI_ok h
    exact h
  · intro N f w K h
    unfold help_Own_int32.hn5 at h
    obtain ⟨hlen, h⟩ := gN_ok h
    obtain ⟨y1, h1, h⟩ := gI_ok h
    obtain ⟨y5, y5n, y5c, h5, h⟩ := gL_ok h
    obtain ⟨y6, y6n, y6c, h6, h⟩ := gL_ok h
    obtain ⟨y7, h7, h⟩ := gI_ok h
    refine ⟨[none, some (Value.int .i32 y1), none, none, none, some (Value.slice y5 y5n y5c), some (Value.slice y6 y6n y6c), some (Value.int .i64 y7), none, none, none, none, none, none, none, none, none, none, none, none, none, none, none, none, none, none, none, none, none, none, none, none, none], hlen, ⟨h1, h5, h6, h7, trivial⟩, ?_⟩
    rw [help_Own_int32.le5]
    exact h
  · intro e f w K h
    cases e with
    | normal => exact h.elim
    | exit i =>
      unfold help_Own_int32.hx5 at h
      simp only at h
      split at h
      · rename_i hb
        obtain rfl := Nat.eq_of_beq_eq_true hb
        obtain ⟨hlen, h⟩ := gN_ok h
        obtain ⟨o5, o5n, o5c, h5, h⟩ := gL_ok h
        exact ⟨[none, none, none, none, none, some (Value.slice o5 o5n o5c), none, none, none, none, none, none, none, none, none, none, none, none, none, none, none, none, none, none, none, none, none, none, none, none, none, none, none], hlen, ⟨h5, trivial⟩, h⟩
      · exact (show False from h).elim
    | ret =>
      exact (show False from h).elim
  · intro f w K h
    have e : lid help_Own_int32.b0 = 5 := by kernel_rfl
    rw [e] at h
    exact h
theorem help_Own_int32.eq (a0 : Option Addr) (a0n : Nat) (a0c : Nat) (a1 : Int) (w : World) (K : Value → World → Prop) : afn help_Own_int32.C help_Own_int32.L help_Own_int32.D tab Try.f41 [(Value.slice a0 a0n a0c), (Value.int .i32 a1)] w K = help_Own_int32.f a0 a0n a0c a1 w (fun r0 r0n r0c w => K (Value.slice r0 r0n r0c) w) := by kernel_rfl
theorem help_Own_int32.ok : FSound Try.prog 41 help_Own_int32.h := by
  intro args w K h
  unfold help_Own_int32.h help_Own_int32.H at h
  split at h
  ·
    replace h := vL_ok h
    obtain ⟨a0, a0n, a0c, rfl, h⟩ := h
    replace h := vI_ok h
    obtain ⟨a1, rfl, h⟩ := h
    refine ⟨by kernel_rfl, fn_ok tab_ok help_Own_int32.C_ok (L := help_Own_int32.L) (D := help_Own_int32.D) Try.func41 help_Own_int32.hb (by kernel_rfl) (by rw [help_Own_int32.c_loops]; exact lcons help_Own_int32.lok5 (lnil)) (Nat.le_of_ble_eq_true (by kernel_rfl)) ?_⟩
    rw [help_Own_int32.eq]
    exact h
  · exact h.elim
/-! ### valise/valiseref11.at: function 60 -/
def ref11_at.f (a0 : Option Addr) (a0n : Nat) (a0c : Nat) (a1 : Int) (w : World) (K : Int → World → Prop) : Prop :=
  bif (decide (a1 < 0)) then
    K 0 w
  else
    sm a0 fun p_6 =>
    if 0 ≤ (a1 : Int) ∧ (a1 : Int) < ((a0n : Nat) : Int) then
    ldI .i32 (p_6.add (Int.toNat a1)) w fun x10_7 =>
    K x10_7 w
    else False
def ref11_at.H (F : type_of% @ref11_at.f) : Hf := fun args w K => match args with
  | [v0, v1] => vL v0 fun a0 a0n a0c => vI .i64 v1 fun a1 => F a0 a0n a0c a1 w (fun r0 w => K (Value.int .i32 r0) w)
  | _ => False
def ref11_at.h : Hf := ref11_at.H @ref11_at.f
def ref11_at.C : Hd := hnil
theorem ref11_at.C_ok : CSound Try.prog ref11_at.C := hnil_ok
def ref11_at.D : Nat → Plan := fun i => .done
noncomputable def ref11_at.c : Code := Try.f60.body.getD .skip
theorem ref11_at.hb : Try.f60.body = some ref11_at.c := by kernel_rfl
theorem ref11_at.c_loops : loopsOf ref11_at.c = [] := by kernel_rfl
def ref11_at.L : LHd := fun l f w K => False
theorem ref11_at.eq (a0 : Option Addr) (a0n : Nat) (a0c : Nat) (a1 : Int) (w : World) (K : Value → World → Prop) : afn ref11_at.C ref11_at.L ref11_at.D tab Try.f60 [(Value.slice a0 a0n a0c), (Value.int .i64 a1)] w K = ref11_at.f a0 a0n a0c a1 w (fun r0 w => K (Value.int .i32 r0) w) := by kernel_rfl
theorem ref11_at.ok : FSound Try.prog 60 ref11_at.h := by
  intro args w K h
  unfold ref11_at.h ref11_at.H at h
  split at h
  ·
    replace h := vL_ok h
    obtain ⟨a0, a0n, a0c, rfl, h⟩ := h
    replace h := vI_ok h
    obtain ⟨a1, rfl, h⟩ := h
    refine ⟨by kernel_rfl, fn_ok tab_ok ref11_at.C_ok (L := ref11_at.L) (D := ref11_at.D) Try.func60 ref11_at.hb (by kernel_rfl) (by rw [ref11_at.c_loops]; exact lnil) (Nat.le_of_ble_eq_true (by kernel_rfl)) ?_⟩
    rw [ref11_at.eq]
    exact h
  · exact h.elim
/-! ### valise/valiseref11.guess: function 56 -/
def ref11_guess.f (a0 : Option Addr) (a0n : Nat) (a0c : Nat) (a1 : Int) (a2 : Int) (w : World) (K : Int → World → Prop) : Prop :=
  ref11_at.f a0 a0n a0c (IntKind.wrap .i64 (a1 - 1)) w fun r13_3 w =>
  ref11_at.f a0 a0n a0c (IntKind.wrap .i64 (a1 - 2)) w fun r17_4 w =>
  ref11_at.f a0 a0n a0c (IntKind.wrap .i64 (a1 - 3)) w fun r21_5 w =>
  let v22_8 := (decide (a2 ≤ 0))
  bif v22_8 then
    K 0 w
  else
    bif (a2 == 1) then
      K r13_3 w
    else
      bif (a2 == 2) then
        let v6_14 := (IntKind.wrap .i32 ((IntKind.wrap .i32 (2 * r13_3)) - r17_4))
        K v6_14 w
      else
        let v6_16 := (IntKind.wrap .i32 ((IntKind.wrap .i32 ((IntKind.wrap .i32 (3 * r13_3)) - (IntKind.wrap .i32 (3 * r17_4)))) + r21_5))
        K v6_16 w
def ref11_guess.H (F : type_of% @ref11_guess.f) : Hf := fun args w K => match args with
  | [v0, v1, v2] => vL v0 fun a0 a0n a0c => vI .i64 v1 fun a1 => vI .i64 v2 fun a2 => F a0 a0n a0c a1 a2 w (fun r0 w => K (Value.int .i32 r0) w)
  | _ => False
def ref11_guess.h : Hf := ref11_guess.H @ref11_guess.f
def ref11_guess.CG (F60 : type_of% @ref11_at.f) : Hd := hcons 60 (ref11_at.H F60) (hnil)
def ref11_guess.C : Hd := ref11_guess.CG @ref11_at.f
def ref11_guess.G (F60 : type_of% @ref11_at.f) (a0 : Option Addr) (a0n : Nat) (a0c : Nat) (a1 : Int) (a2 : Int) (w : World) (K : Int → World → Prop) : Prop :=
  F60 a0 a0n a0c (IntKind.wrap .i64 (a1 - 1)) w fun r13_3 w =>
  F60 a0 a0n a0c (IntKind.wrap .i64 (a1 - 2)) w fun r17_4 w =>
  F60 a0 a0n a0c (IntKind.wrap .i64 (a1 - 3)) w fun r21_5 w =>
  let v22_8 := (decide (a2 ≤ 0))
  bif v22_8 then
    K 0 w
  else
    bif (a2 == 1) then
      K r13_3 w
    else
      bif (a2 == 2) then
        let v6_14 := (IntKind.wrap .i32 ((IntKind.wrap .i32 (2 * r13_3)) - r17_4))
        K v6_14 w
      else
        let v6_16 := (IntKind.wrap .i32 ((IntKind.wrap .i32 ((IntKind.wrap .i32 (3 * r13_3)) - (IntKind.wrap .i32 (3 * r17_4)))) + r21_5))
        K v6_16 w
theorem ref11_guess.C_ok : CSound Try.prog ref11_guess.C := hcons_ok ref11_at.ok (hnil_ok)
def ref11_guess.D : Nat → Plan := fun i => .done
noncomputable def ref11_guess.c : Code := Try.f56.body.getD .skip
theorem ref11_guess.hb : Try.f56.body = some ref11_guess.c := by kernel_rfl
theorem ref11_guess.c_loops : loopsOf ref11_guess.c = [] := by kernel_rfl
def ref11_guess.L : LHd := fun l f w K => False
theorem ref11_guess.eqG (F60 : type_of% @ref11_at.f) (a0 : Option Addr) (a0n : Nat) (a0c : Nat) (a1 : Int) (a2 : Int) (w : World) (K : Value → World → Prop) : afn (ref11_guess.CG F60) ref11_guess.L ref11_guess.D tab Try.f56 [(Value.slice a0 a0n a0c), (Value.int .i64 a1), (Value.int .i64 a2)] w K = ref11_guess.G F60 a0 a0n a0c a1 a2 w (fun r0 w => K (Value.int .i32 r0) w) := by kernel_rfl
theorem ref11_guess.eq (a0 : Option Addr) (a0n : Nat) (a0c : Nat) (a1 : Int) (a2 : Int) (w : World) (K : Value → World → Prop) : afn ref11_guess.C ref11_guess.L ref11_guess.D tab Try.f56 [(Value.slice a0 a0n a0c), (Value.int .i64 a1), (Value.int .i64 a2)] w K = ref11_guess.f a0 a0n a0c a1 a2 w (fun r0 w => K (Value.int .i32 r0) w) := ref11_guess.eqG @ref11_at.f a0 a0n a0c a1 a2 w K
theorem ref11_guess.ok : FSound Try.prog 56 ref11_guess.h := by
  intro args w K h
  unfold ref11_guess.h ref11_guess.H at h
  split at h
  ·
    replace h := vL_ok h
    obtain ⟨a0, a0n, a0c, rfl, h⟩ := h
    replace h := vI_ok h
    obtain ⟨a1, rfl, h⟩ := h
    replace h := vI_ok h
    obtain ⟨a2, rfl, h⟩ := h
    refine ⟨by kernel_rfl, fn_ok tab_ok ref11_guess.C_ok (L := ref11_guess.L) (D := ref11_guess.D) Try.func56 ref11_guess.hb (by kernel_rfl) (by rw [ref11_guess.c_loops]; exact lnil) (Nat.le_of_ble_eq_true (by kernel_rfl)) ?_⟩
    rw [ref11_guess.eq]
    exact h
  · exact h.elim
/-! ### valise/valiseref11.Residual: function 42 -/
def ref11_Residual.l3 : Nat → Option Addr → Nat → Nat → Int → Option Addr → Nat → Nat → Int → World → (Option Addr → Nat → Nat → World → Prop) → Prop
  | 0, _, _, _, _, _, _, _, _, _, _ => False
  | N + 1, y0, y0n, y0c, y1, y5, y5n, y5c, y6, w, K0 =>
    bif (decide (y6 < ((y0n : Nat) : Int))) then
      sm y0 fun p_8 =>
      if 0 ≤ (y6 : Int) ∧ (y6 : Int) < ((y0n : Nat) : Int) then
      ldI .i32 (p_8.add (Int.toNat y6)) w.drew fun x17_9 =>
      ref11_guess.f y0 y0n y0c y6 y1 w.drew fun r21_10 w =>
      (World.cell? w (p_8.add (Int.toNat y6)) = some (.int .i32 x17_9)) ∧
      (newC 21 [(Value.int .i32 (IntKind.wrap .i32 (x17_9 - r21_10)))] w fun a23_11 w =>
      (World.cell? w (p_8.add (Int.toNat y6)) = some (.int .i32 x17_9)) ∧
      (appL 21 1 4 [(Value.int .i32 0)] y5 y5n y5c (some a23_11) 1 1 w fun a24_12 a24_12n a24_12c w =>
      (World.cell? w (p_8.add (Int.toNat y6)) = some (.int .i32 x17_9)) ∧
      (let v6_13 := (IntKind.wrap .i64 (y6 + 1))
      ref11_Residual.l3 N y0 y0n y0c y1 a24_12 a24_12n a24_12c v6_13 w K0)))
      else False
    else
      K0 y5 y5n y5c w

def ref11_Residual.f (a0 : Option Addr) (a0n : Nat) (a0c : Nat) (a1 : Int) (w : World) (K : Option Addr → Nat → Nat → World → Prop) : Prop :=
  ∃ N_14 : Nat, ref11_Residual.l3 N_14 a0 a0n a0c a1 none 0 0 0 w
  (fun o5_15 o5_15n o5_15c w =>
    K o5_15 o5_15n o5_15c w)
def ref11_Residual.H (F : type_of% @ref11_Residual.f) : Hf := fun args w K => match args with
  | [v0, v1] => vL v0 fun a0 a0n a0c => vI .i64 v1 fun a1 => F a0 a0n a0c a1 w (fun r0 r0n r0c w => K (Value.slice r0 r0n r0c) w)
  | _ => False
def ref11_Residual.h : Hf := ref11_Residual.H @ref11_Residual.f
def ref11_Residual.C : Hd := hcons 56 ref11_guess.h (hnil)
theorem ref11_Residual.C_ok : CSound Try.prog ref11_Residual.C := hcons_ok ref11_guess.ok (hnil_ok)
def ref11_Residual.D : Nat → Plan := fun i => (match Nat.beq i 5 with | true => .take 0 (.take 1 (.take 2 (.take 3 (.take 4 (.take 5 (.take 6 (.take 7 (.eff 8 (.take 9 (.eff 10 (.eff 11 (.take 12 (.done))))))))))))) | false => .done)
noncomputable def ref11_Residual.c : Code := Try.f42.body.getD .skip
theorem ref11_Residual.hb : Try.f42.body = some ref11_Residual.c := by kernel_rfl
noncomputable def ref11_Residual.b0 : Code := (loopsOf ref11_Residual.c).getD 0 .skip
theorem ref11_Residual.b0_loops : loopsOf ref11_Residual.b0 = [] := by kernel_rfl
theorem ref11_Residual.c_loops : loopsOf ref11_Residual.c = [ref11_Residual.b0] := by kernel_rfl
def ref11_Residual.hn3 (N : Nat) (f : Fr) (w : World) (K : AExit → Fr → World → Prop) : Prop :=
  gN f 26 <| gL f 0 fun y0 y0n y0c => gI .i64 f 1 fun y1 => gL f 5 fun y5 y5n y5c => gI .i64 f 6 fun y6 => ref11_Residual.l3 N y0 y0n y0c y1 y5 y5n y5c y6 w (fun o5 o5n o5c w => K (.exit 0) [none, none, none, none, none, some (Value.slice o5 o5n o5c), none, none, none, none, none, none, none, none, none, none, none, none, none, none, none, none, none, none, none, none] w)
def ref11_Residual.hx3 : AExit → Fr → World → (AExit → Fr → World → Prop) → Prop := fun e f w K => match e with
  | .normal => False
  | .exit i => (match Nat.beq i 0 with | true => gN f 26 <| gL f 5 fun o5 o5n o5c => K (.exit 0) [none, none, none, none, none, some (Value.slice o5 o5n o5c), none, none, none, none, none, none, none, none, none, none, none, none, none, none, none, none, none, none, none, none] w | false => False)
  | .ret => False
def ref11_Residual.L : LHd := fun l f w K => (match Nat.beq l 3 with | true => ∃ N, ref11_Residual.hn3 N f w K | false => False)
theorem ref11_Residual.le3 (N : Nat) (y0 : Option Addr) (y0n : Nat) (y0c : Nat) (y1 : Int) (y5 : Option Addr) (y5n : Nat) (y5c : Nat) (y6 : Int) (w : World) (K : AExit → Fr → World → Prop) : awp ref11_Residual.C ref11_Residual.L ref11_Residual.D tab ref11_Residual.b0 (lpost ref11_Residual.hn3 ref11_Residual.hx3 N K) [some (Value.slice y0 y0n y0c), some (Value.int .i64 y1), none, none, none, some (Value.slice y5 y5n y5c), some (Value.int .i64 y6), none, none, none, none, none, none, none, none, none, none, none, none, none, none, none, none, none, none, none] w = ref11_Residual.l3 (N + 1) y0 y0n y0c y1 y5 y5n y5c y6 w (fun o5 o5n o5c w => K (.exit 0) [none, none, none, none, none, some (Value.slice o5 o5n o5c), none, none, none, none, none, none, none, none, none, none, none, none, none, none, none, none, none, none, none, none] w) := by kernel_rfl
theorem ref11_Residual.lok3 : LoopOk Try.prog ref11_Residual.L ref11_Residual.b0 := by
  refine loop_ok tab_ok ref11_Residual.C_ok (D := ref11_Residual.D) (ref11_Residual.hn3) (ref11_Residual.hx3) (by kernel_rfl) (by rw [ref11_Residual.b0_loops]; exact lnil) ?_ ?_ ?_ ?_
  · intro f w K h
    unfold ref11_Residual.hn3 at h
    obtain ⟨hlen, h⟩ := gN_ok h
    obtain ⟨y0, y0n, y0c, h0, h⟩ := gL_ok h
    obtain ⟨y1, h1, h⟩ := gI_ok h
    obtain ⟨y5, y5n, y5c, h5, h⟩ := gL_ok h
    obtain ⟨y6, h6, h⟩ := gI_ok h
    exact h
  · intro N f w K h
    unfold ref11_Residual.hn3 at h
    obtain ⟨hlen, h⟩ := gN_ok h
    obtain ⟨y0, y0n, y0c, h0, h⟩ := gL_ok h
    obtain ⟨y1, h1, h⟩ := gI_ok h
    obtain ⟨y5, y5n, y5c, h5, h⟩ := gL_ok h
    obtain ⟨y6, h6, h⟩ := gI_ok h
    refine ⟨[some (Value.slice y0 y0n y0c), some (Value.int .i64 y1), none, none, none, some (Value.slice y5 y5n y5c), some (Value.int .i64 y6), none, none, none, none, none, none, none, none, none, none, none, none, none, none, none, none, none, none, none], hlen, ⟨h0, h1, h5, h6, trivial⟩, ?_⟩
    rw [ref11_Residual.le3]
    exact h
  · intro e f w K h
    cases e with
    | normal => exact h.elim
    | exit i =>
      unfold ref11_Residual.hx3 at h
      simp only at h
      split at h
      · rename_i hb
        obtain rfl := Nat.eq_of_beq_eq_true hb
        obtain ⟨hlen, h⟩ := gN_ok h
        obtain ⟨o5, o5n, o5c, h5, h⟩ := gL_ok h
        exact ⟨[none, none, none, none, none, some (Value.slice o5 o5n o5c), none, none, none, none, none, none, none, none, none, none, none, none, none, none, none, none, none, none, none, none], hlen, ⟨h5, trivial⟩, h⟩
      · exact (show False from h).elim
    | ret =>
      exact (show False from h).elim
  · intro f w K h
    have e : lid ref11_Residual.b0 = 3 := by kernel_rfl
    rw [e] at h
    exact h
theorem ref11_Residual.eq (a0 : Option Addr) (a0n : Nat) (a0c : Nat) (a1 : Int) (w : World) (K : Value → World → Prop) : afn ref11_Residual.C ref11_Residual.L ref11_Residual.D tab Try.f42 [(Value.slice a0 a0n a0c), (Value.int .i64 a1)] w K = ref11_Residual.f a0 a0n a0c a1 w (fun r0 r0n r0c w => K (Value.slice r0 r0n r0c) w) := by kernel_rfl
theorem ref11_Residual.ok : FSound Try.prog 42 ref11_Residual.h := by
  intro args w K h
  unfold ref11_Residual.h ref11_Residual.H at h
  split at h
  ·
    replace h := vL_ok h
    obtain ⟨a0, a0n, a0c, rfl, h⟩ := h
    replace h := vI_ok h
    obtain ⟨a1, rfl, h⟩ := h
    refine ⟨by kernel_rfl, fn_ok tab_ok ref11_Residual.C_ok (L := ref11_Residual.L) (D := ref11_Residual.D) Try.func42 ref11_Residual.hb (by kernel_rfl) (by rw [ref11_Residual.c_loops]; exact lcons ref11_Residual.lok3 (lnil)) (Nat.le_of_ble_eq_true (by kernel_rfl)) ?_⟩
    rw [ref11_Residual.eq]
    exact h
  · exact h.elim
/-! ### valise/valiseref11.Restore: function 43 -/
def ref11_Restore.l3 : Nat → Option Addr → Nat → Nat → Int → Option Addr → Nat → Nat → Int → World → (Option Addr → Nat → Nat → World → Prop) → Prop
  | 0, _, _, _, _, _, _, _, _, _, _ => False
  | N + 1, y0, y0n, y0c, y1, y5, y5n, y5c, y6, w, K0 =>
    bif (decide (y6 < ((y0n : Nat) : Int))) then
      sm y0 fun p_8 =>
      if 0 ≤ (y6 : Int) ∧ (y6 : Int) < ((y0n : Nat) : Int) then
      ldI .i32 (p_8.add (Int.toNat y6)) w.drew fun x17_9 =>
      ref11_guess.f y5 y5n y5c y6 y1 w.drew fun r21_10 w =>
      (World.cell? w (p_8.add (Int.toNat y6)) = some (.int .i32 x17_9)) ∧
      (newC 21 [(Value.int .i32 (IntKind.wrap .i32 (x17_9 + r21_10)))] w fun a23_11 w =>
      (World.cell? w (p_8.add (Int.toNat y6)) = some (.int .i32 x17_9)) ∧
      (appL 21 1 4 [(Value.int .i32 0)] y5 y5n y5c (some a23_11) 1 1 w fun a24_12 a24_12n a24_12c w =>
      (World.cell? w (p_8.add (Int.toNat y6)) = some (.int .i32 x17_9)) ∧
      (let v6_13 := (IntKind.wrap .i64 (y6 + 1))
      ref11_Restore.l3 N y0 y0n y0c y1 a24_12 a24_12n a24_12c v6_13 w K0)))
      else False
    else
      K0 y5 y5n y5c w

def ref11_Restore.f (a0 : Option Addr) (a0n : Nat) (a0c : Nat) (a1 : Int) (w : World) (K : Option Addr → Nat → Nat → World → Prop) : Prop :=
  ∃ N_14 : Nat, ref11_Restore.l3 N_14 a0 a0n a0c a1 none 0 0 0 w
  (fun o5_15 o5_15n o5_15c w =>
    K o5_15 o5_15n o5_15c w)
def ref11_Restore.H (F : type_of% @ref11_Restore.f) : Hf := fun args w K => match args with
  | [v0, v1] => vL v0 fun a0 a0n a0c => vI .i64 v1 fun a1 => F a0 a0n a0c a1 w (fun r0 r0n r0c w => K (Value.slice r0 r0n r0c) w)
  | _ => False
def ref11_Restore.h : Hf := ref11_Restore.H @ref11_Restore.f
def ref11_Restore.C : Hd := hcons 56 ref11_guess.h (hnil)
theorem ref11_Restore.C_ok : CSound Try.prog ref11_Restore.C := hcons_ok ref11_guess.ok (hnil_ok)
def ref11_Restore.D : Nat → Plan := fun i => (match Nat.beq i 5 with | true => .take 0 (.take 1 (.take 2 (.take 3 (.take 4 (.take 5 (.take 6 (.take 7 (.eff 8 (.take 9 (.eff 10 (.eff 11 (.take 12 (.done))))))))))))) | false => .done)
noncomputable def ref11_Restore.c : Code := Try.f43.body.getD .skip
theorem ref11_Restore.hb : Try.f43.body = some ref11_Restore.c := by kernel_rfl
noncomputable def ref11_Restore.b0 : Code := (loopsOf ref11_Restore.c).getD 0 .skip
theorem ref11_Restore.b0_loops : loopsOf ref11_Restore.b0 = [] := by kernel_rfl
theorem ref11_Restore.c_loops : loopsOf ref11_Restore.c = [ref11_Restore.b0] := by kernel_rfl
def ref11_Restore.hn3 (N : Nat) (f : Fr) (w : World) (K : AExit → Fr → World → Prop) : Prop :=
  gN f 26 <| gL f 0 fun y0 y0n y0c => gI .i64 f 1 fun y1 => gL f 5 fun y5 y5n y5c => gI .i64 f 6 fun y6 => ref11_Restore.l3 N y0 y0n y0c y1 y5 y5n y5c y6 w (fun o5 o5n o5c w => K (.exit 0) [none, none, none, none, none, some (Value.slice o5 o5n o5c), none, none, none, none, none, none, none, none, none, none, none, none, none, none, none, none, none, none, none, none] w)
def ref11_Restore.hx3 : AExit → Fr → World → (AExit → Fr → World → Prop) → Prop := fun e f w K => match e with
  | .normal => False
  | .exit i => (match Nat.beq i 0 with | true => gN f 26 <| gL f 5 fun o5 o5n o5c => K (.exit 0) [none, none, none, none, none, some (Value.slice o5 o5n o5c), none, none, none, none, none, none, none, none, none, none, none, none, none, none, none, none, none, none, none, none] w | false => False)
  | .ret => False
def ref11_Restore.L : LHd := fun l f w K => (match Nat.beq l 3 with | true => ∃ N, ref11_Restore.hn3 N f w K | false => False)
theorem ref11_Restore.le3 (N : Nat) (y0 : Option Addr) (y0n : Nat) (y0c : Nat) (y1 : Int) (y5 : Option Addr) (y5n : Nat) (y5c : Nat) (y6 : Int) (w : World) (K : AExit → Fr → World → Prop) : awp ref11_Restore.C ref11_Restore.L ref11_Restore.D tab ref11_Restore.b0 (lpost ref11_Restore.hn3 ref11_Restore.hx3 N K) [some (Value.slice y0 y0n y0c), some (Value.int .i64 y1), none, none, none, some (Value.slice y5 y5n y5c), some (Value.int .i64 y6), none, none, none, none, none, none, none, none, none, none, none, none, none, none, none, none, none, none, none] w = ref11_Restore.l3 (N + 1) y0 y0n y0c y1 y5 y5n y5c y6 w (fun o5 o5n o5c w => K (.exit 0) [none, none, none, none, none, some (Value.slice o5 o5n o5c), none, none, none, none, none, none, none, none, none, none, none, none, none, none, none, none, none, none, none, none] w) := by kernel_rfl
theorem ref11_Restore.lok3 : LoopOk Try.prog ref11_Restore.L ref11_Restore.b0 := by
  refine loop_ok tab_ok ref11_Restore.C_ok (D := ref11_Restore.D) (ref11_Restore.hn3) (ref11_Restore.hx3) (by kernel_rfl) (by rw [ref11_Restore.b0_loops]; exact lnil) ?_ ?_ ?_ ?_
  · intro f w K h
    unfold ref11_Restore.hn3 at h
    obtain ⟨hlen, h⟩ := gN_ok h
    obtain ⟨y0, y0n, y0c, h0, h⟩ := gL_ok h
    obtain ⟨y1, h1, h⟩ := gI_ok h
    obtain ⟨y5, y5n, y5c, h5, h⟩ := gL_ok h
    obtain ⟨y6, h6, h⟩ := gI_ok h
    exact h
  · intro N f w K h
    unfold ref11_Restore.hn3 at h
    obtain ⟨hlen, h⟩ := gN_ok h
    obtain ⟨y0, y0n, y0c, h0, h⟩ := gL_ok h
    obtain ⟨y1, h1, h⟩ := gI_ok h
    obtain ⟨y5, y5n, y5c, h5, h⟩ := gL_ok h
    obtain ⟨y6, h6, h⟩ := gI_ok h
    refine ⟨[some (Value.slice y0 y0n y0c), some (Value.int .i64 y1), none, none, none, some (Value.slice y5 y5n y5c), some (Value.int .i64 y6), none, none, none, none, none, none, none, none, none, none, none, none, none, none, none, none, none, none, none], hlen, ⟨h0, h1, h5, h6, trivial⟩, ?_⟩
    rw [ref11_Restore.le3]
    exact h
  · intro e f w K h
    cases e with
    | normal => exact h.elim
    | exit i =>
      unfold ref11_Restore.hx3 at h
      simp only at h
      split at h
      · rename_i hb
        obtain rfl := Nat.eq_of_beq_eq_true hb
        obtain ⟨hlen, h⟩ := gN_ok h
        obtain ⟨o5, o5n, o5c, h5, h⟩ := gL_ok h
        exact ⟨[none, none, none, none, none, some (Value.slice o5 o5n o5c), none, none, none, none, none, none, none, none, none, none, none, none, none, none, none, none, none, none, none, none], hlen, ⟨h5, trivial⟩, h⟩
      · exact (show False from h).elim
    | ret =>
      exact (show False from h).elim
  · intro f w K h
    have e : lid ref11_Restore.b0 = 3 := by kernel_rfl
    rw [e] at h
    exact h
theorem ref11_Restore.eq (a0 : Option Addr) (a0n : Nat) (a0c : Nat) (a1 : Int) (w : World) (K : Value → World → Prop) : afn ref11_Restore.C ref11_Restore.L ref11_Restore.D tab Try.f43 [(Value.slice a0 a0n a0c), (Value.int .i64 a1)] w K = ref11_Restore.f a0 a0n a0c a1 w (fun r0 r0n r0c w => K (Value.slice r0 r0n r0c) w) := by kernel_rfl
theorem ref11_Restore.ok : FSound Try.prog 43 ref11_Restore.h := by
  intro args w K h
  unfold ref11_Restore.h ref11_Restore.H at h
  split at h
  ·
    replace h := vL_ok h
    obtain ⟨a0, a0n, a0c, rfl, h⟩ := h
    replace h := vI_ok h
    obtain ⟨a1, rfl, h⟩ := h
    refine ⟨by kernel_rfl, fn_ok tab_ok ref11_Restore.C_ok (L := ref11_Restore.L) (D := ref11_Restore.D) Try.func43 ref11_Restore.hb (by kernel_rfl) (by rw [ref11_Restore.c_loops]; exact lcons ref11_Restore.lok3 (lnil)) (Nat.le_of_ble_eq_true (by kernel_rfl)) ?_⟩
    rw [ref11_Restore.eq]
    exact h
  · exact h.elim
/-! ### valise/fixed.Weight: function 44 -/
def fixed_Weight.l3 : Nat → Int → Option Addr → Nat → Nat → Int → Int → World → (Int → World → Prop) → Prop
  | 0, _, _, _, _, _, _, _, _ => False
  | N + 1, y3, y7, y7n, y7c, y8, y9, w, K0 =>
    bif (decide (y9 < y8)) then
      sm y7 fun p_9 =>
      if 0 ≤ (y9 : Int) ∧ (y9 : Int) < ((y7n : Nat) : Int) then
      ldI .i32 (p_9.add (Int.toNat y9)) w fun x12_10 =>
      let v6_12 := (IntKind.wrap .i64 x12_10)
      let v3_13 := (IntKind.wrap .u64 (y3 + (IntKind.wrap .u64 (mx v6_12 (IntKind.wrap .i64 (0 - v6_12))))))
      fixed_Weight.l3 N v3_13 y7 y7n y7c y8 (IntKind.wrap .i64 (y9 + 1)) w K0
      else False
    else
      K0 y3 w

def fixed_Weight.f (a0 : Option Addr) (a0n : Nat) (a0c : Nat) (w : World) (K : Int → World → Prop) : Prop :=
  ∃ N_14 : Nat, fixed_Weight.l3 N_14 0 a0 a0n a0c ((a0n : Nat) : Int) 0 w
  (fun o3_15 w =>
    K o3_15 w)
def fixed_Weight.H (F : type_of% @fixed_Weight.f) : Hf := fun args w K => match args with
  | [v0] => vL v0 fun a0 a0n a0c => F a0 a0n a0c w (fun r0 w => K (Value.int .u64 r0) w)
  | _ => False
def fixed_Weight.h : Hf := fixed_Weight.H @fixed_Weight.f
def fixed_Weight.C : Hd := hnil
theorem fixed_Weight.C_ok : CSound Try.prog fixed_Weight.C := hnil_ok
def fixed_Weight.D : Nat → Plan := fun i => .done
noncomputable def fixed_Weight.c : Code := Try.f44.body.getD .skip
theorem fixed_Weight.hb : Try.f44.body = some fixed_Weight.c := by kernel_rfl
noncomputable def fixed_Weight.b0 : Code := (loopsOf fixed_Weight.c).getD 0 .skip
theorem fixed_Weight.b0_loops : loopsOf fixed_Weight.b0 = [] := by kernel_rfl
theorem fixed_Weight.c_loops : loopsOf fixed_Weight.c = [fixed_Weight.b0] := by kernel_rfl
def fixed_Weight.hn3 (N : Nat) (f : Fr) (w : World) (K : AExit → Fr → World → Prop) : Prop :=
  gN f 24 <| gI .u64 f 3 fun y3 => gL f 7 fun y7 y7n y7c => gI .i64 f 8 fun y8 => gI .i64 f 9 fun y9 => fixed_Weight.l3 N y3 y7 y7n y7c y8 y9 w (fun o3 w => K (.exit 0) [none, none, none, some (Value.int .u64 o3), none, none, none, none, none, none, none, none, none, none, none, none, none, none, none, none, none, none, none, none] w)
def fixed_Weight.hx3 : AExit → Fr → World → (AExit → Fr → World → Prop) → Prop := fun e f w K => match e with
  | .normal => False
  | .exit i => (match Nat.beq i 0 with | true => gN f 24 <| gI .u64 f 3 fun o3 => K (.exit 0) [none, none, none, some (Value.int .u64 o3), none, none, none, none, none, none, none, none, none, none, none, none, none, none, none, none, none, none, none, none] w | false => False)
  | .ret => False
def fixed_Weight.L : LHd := fun l f w K => (match Nat.beq l 3 with | true => ∃ N, fixed_Weight.hn3 N f w K | false => False)
theorem fixed_Weight.le3 (N : Nat) (y3 : Int) (y7 : Option Addr) (y7n : Nat) (y7c : Nat) (y8 : Int) (y9 : Int) (w : World) (K : AExit → Fr → World → Prop) : awp fixed_Weight.C fixed_Weight.L fixed_Weight.D tab fixed_Weight.b0 (lpost fixed_Weight.hn3 fixed_Weight.hx3 N K) [none, none, none, some (Value.int .u64 y3), none, none, none, some (Value.slice y7 y7n y7c), some (Value.int .i64 y8), some (Value.int .i64 y9), none, none, none, none, none, none, none, none, none, none, none, none, none, none] w = fixed_Weight.l3 (N + 1) y3 y7 y7n y7c y8 y9 w (fun o3 w => K (.exit 0) [none, none, none, some (Value.int .u64 o3), none, none, none, none, none, none, none, none, none, none, none, none, none, none, none, none, none, none, none, none] w) := by kernel_rfl
theorem fixed_Weight.lok3 : LoopOk Try.prog fixed_Weight.L fixed_Weight.b0 := by
  refine loop_ok tab_ok fixed_Weight.C_ok (D := fixed_Weight.D) (fixed_Weight.hn3) (fixed_Weight.hx3) (by kernel_rfl) (by rw [fixed_Weight.b0_loops]; exact lnil) ?_ ?_ ?_ ?_
  · intro f w K h
    unfold fixed_Weight.hn3 at h
    obtain ⟨hlen, h⟩ := gN_ok h
    obtain ⟨y3, h3, h⟩ := gI_ok h
    obtain ⟨y7, y7n, y7c, h7, h⟩ := gL_ok h
    obtain ⟨y8, h8, h⟩ := gI_ok h
    obtain ⟨y9, h9, h⟩ := gI_ok h
    exact h
  · intro N f w K h
    unfold fixed_Weight.hn3 at h
    obtain ⟨hlen, h⟩ := gN_ok h
    obtain ⟨y3, h3, h⟩ := gI_ok h
    obtain ⟨y7, y7n, y7c, h7, h⟩ := gL_ok h
    obtain ⟨y8, h8, h⟩ := gI_ok h
    obtain ⟨y9, h9, h⟩ := gI_ok h
    refine ⟨[none, none, none, some (Value.int .u64 y3), none, none, none, some (Value.slice y7 y7n y7c), some (Value.int .i64 y8), some (Value.int .i64 y9), none, none, none, none, none, none, none, none, none, none, none, none, none, none], hlen, ⟨h3, h7, h8, h9, trivial⟩, ?_⟩
    rw [fixed_Weight.le3]
    exact h
  · intro e f w K h
    cases e with
    | normal => exact h.elim
    | exit i =>
      unfold fixed_Weight.hx3 at h
      simp only at h
      split at h
      · rename_i hb
        obtain rfl := Nat.eq_of_beq_eq_true hb
        obtain ⟨hlen, h⟩ := gN_ok h
        obtain ⟨o3, h3, h⟩ := gI_ok h
        exact ⟨[none, none, none, some (Value.int .u64 o3), none, none, none, none, none, none, none, none, none, none, none, none, none, none, none, none, none, none, none, none], hlen, ⟨h3, trivial⟩, h⟩
      · exact (show False from h).elim
    | ret =>
      exact (show False from h).elim
  · intro f w K h
    have e : lid fixed_Weight.b0 = 3 := by kernel_rfl
    rw [e] at h
    exact h
theorem fixed_Weight.eq (a0 : Option Addr) (a0n : Nat) (a0c : Nat) (w : World) (K : Value → World → Prop) : afn fixed_Weight.C fixed_Weight.L fixed_Weight.D tab Try.f44 [(Value.slice a0 a0n a0c)] w K = fixed_Weight.f a0 a0n a0c w (fun r0 w => K (Value.int .u64 r0) w) := by kernel_rfl
theorem fixed_Weight.ok : FSound Try.prog 44 fixed_Weight.h := by
  intro args w K h
  unfold fixed_Weight.h fixed_Weight.H at h
  split at h
  ·
    replace h := vL_ok h
    obtain ⟨a0, a0n, a0c, rfl, h⟩ := h
    refine ⟨by kernel_rfl, fn_ok tab_ok fixed_Weight.C_ok (L := fixed_Weight.L) (D := fixed_Weight.D) Try.func44 fixed_Weight.hb (by kernel_rfl) (by rw [fixed_Weight.c_loops]; exact lcons fixed_Weight.lok3 (lnil)) (Nat.le_of_ble_eq_true (by kernel_rfl)) ?_⟩
    rw [fixed_Weight.eq]
    exact h
  · exact h.elim
/-! ### valise/valiseref11.Weight: function 45 -/
def ref11_Weight.l3 : Nat → Option Addr → Nat → Nat → Int → Int → World → (Int → World → Prop) → Prop
  | 0, _, _, _, _, _, _, _ => False
  | N + 1, y0, y0n, y0c, y3, y4, w, K0 =>
    bif (decide (y4 < ((y0n : Nat) : Int))) then
      sm y0 fun p_9 =>
      if 0 ≤ (y4 : Int) ∧ (y4 : Int) < ((y0n : Nat) : Int) then
      ldI .i32 (p_9.add (Int.toNat y4)) w fun x15_10 =>
      let v5_11 := (IntKind.wrap .i64 x15_10)
      let v3_12 := (IntKind.wrap .u64 (y3 + (IntKind.wrap .u64 (mx v5_11 (IntKind.wrap .i64 (0 - v5_11))))))
      let v4_13 := (IntKind.wrap .i64 (y4 + 1))
      ref11_Weight.l3 N y0 y0n y0c v3_12 v4_13 w K0
      else False
    else
      K0 y3 w

def ref11_Weight.f (a0 : Option Addr) (a0n : Nat) (a0c : Nat) (w : World) (K : Int → World → Prop) : Prop :=
  ∃ N_14 : Nat, ref11_Weight.l3 N_14 a0 a0n a0c 0 0 w
  (fun o3_15 w =>
    K o3_15 w)
def ref11_Weight.H (F : type_of% @ref11_Weight.f) : Hf := fun args w K => match args with
  | [v0] => vL v0 fun a0 a0n a0c => F a0 a0n a0c w (fun r0 w => K (Value.int .u64 r0) w)
  | _ => False
def ref11_Weight.h : Hf := ref11_Weight.H @ref11_Weight.f
def ref11_Weight.C : Hd := hnil
theorem ref11_Weight.C_ok : CSound Try.prog ref11_Weight.C := hnil_ok
def ref11_Weight.D : Nat → Plan := fun i => .done
noncomputable def ref11_Weight.c : Code := Try.f45.body.getD .skip
theorem ref11_Weight.hb : Try.f45.body = some ref11_Weight.c := by kernel_rfl
noncomputable def ref11_Weight.b0 : Code := (loopsOf ref11_Weight.c).getD 0 .skip
theorem ref11_Weight.b0_loops : loopsOf ref11_Weight.b0 = [] := by kernel_rfl
theorem ref11_Weight.c_loops : loopsOf ref11_Weight.c = [ref11_Weight.b0] := by kernel_rfl
def ref11_Weight.hn3 (N : Nat) (f : Fr) (w : World) (K : AExit → Fr → World → Prop) : Prop :=
  gN f 25 <| gL f 0 fun y0 y0n y0c => gI .u64 f 3 fun y3 => gI .i64 f 4 fun y4 => ref11_Weight.l3 N y0 y0n y0c y3 y4 w (fun o3 w => K (.exit 0) [none, none, none, some (Value.int .u64 o3), none, none, none, none, none, none, none, none, none, none, none, none, none, none, none, none, none, none, none, none, none] w)
def ref11_Weight.hx3 : AExit → Fr → World → (AExit → Fr → World → Prop) → Prop := fun e f w K => match e with
  | .normal => False
  | .exit i => (match Nat.beq i 0 with | true => gN f 25 <| gI .u64 f 3 fun o3 => K (.exit 0) [none, none, none, some (Value.int .u64 o3), none, none, none, none, none, none, none, none, none, none, none, none, none, none, none, none, none, none, none, none, none] w | false => False)
  | .ret => False
def ref11_Weight.L : LHd := fun l f w K => (match Nat.beq l 3 with | true => ∃ N, ref11_Weight.hn3 N f w K | false => False)
theorem ref11_Weight.le3 (N : Nat) (y0 : Option Addr) (y0n : Nat) (y0c : Nat) (y3 : Int) (y4 : Int) (w : World) (K : AExit → Fr → World → Prop) : awp ref11_Weight.C ref11_Weight.L ref11_Weight.D tab ref11_Weight.b0 (lpost ref11_Weight.hn3 ref11_Weight.hx3 N K) [some (Value.slice y0 y0n y0c), none, none, some (Value.int .u64 y3), some (Value.int .i64 y4), none, none, none, none, none, none, none, none, none, none, none, none, none, none, none, none, none, none, none, none] w = ref11_Weight.l3 (N + 1) y0 y0n y0c y3 y4 w (fun o3 w => K (.exit 0) [none, none, none, some (Value.int .u64 o3), none, none, none, none, none, none, none, none, none, none, none, none, none, none, none, none, none, none, none, none, none] w) := by kernel_rfl
theorem ref11_Weight.lok3 : LoopOk Try.prog ref11_Weight.L ref11_Weight.b0 := by
  refine loop_ok tab_ok ref11_Weight.C_ok (D := ref11_Weight.D) (ref11_Weight.hn3) (ref11_Weight.hx3) (by kernel_rfl) (by rw [ref11_Weight.b0_loops]; exact lnil) ?_ ?_ ?_ ?_
  · intro f w K h
    unfold ref11_Weight.hn3 at h
    obtain ⟨hlen, h⟩ := gN_ok h
    obtain ⟨y0, y0n, y0c, h0, h⟩ := gL_ok h
    obtain ⟨y3, h3, h⟩ := gI_ok h
    obtain ⟨y4, h4, h⟩ := gI_ok h
    exact h
  · intro N f w K h
    unfold ref11_Weight.hn3 at h
    obtain ⟨hlen, h⟩ := gN_ok h
    obtain ⟨y0, y0n, y0c, h0, h⟩ := gL_ok h
    obtain ⟨y3, h3, h⟩ := gI_ok h
    obtain ⟨y4, h4, h⟩ := gI_ok h
    refine ⟨[some (Value.slice y0 y0n y0c), none, none, some (Value.int .u64 y3), some (Value.int .i64 y4), none, none, none, none, none, none, none, none, none, none, none, none, none, none, none, none, none, none, none, none], hlen, ⟨h0, h3, h4, trivial⟩, ?_⟩
    rw [ref11_Weight.le3]
    exact h
  · intro e f w K h
    cases e with
    | normal => exact h.elim
    | exit i =>
      unfold ref11_Weight.hx3 at h
      simp only at h
      split at h
      · rename_i hb
        obtain rfl := Nat.eq_of_beq_eq_true hb
        obtain ⟨hlen, h⟩ := gN_ok h
        obtain ⟨o3, h3, h⟩ := gI_ok h
        exact ⟨[none, none, none, some (Value.int .u64 o3), none, none, none, none, none, none, none, none, none, none, none, none, none, none, none, none, none, none, none, none, none], hlen, ⟨h3, trivial⟩, h⟩
      · exact (show False from h).elim
    | ret =>
      exact (show False from h).elim
  · intro f w K h
    have e : lid ref11_Weight.b0 = 3 := by kernel_rfl
    rw [e] at h
    exact h
theorem ref11_Weight.eq (a0 : Option Addr) (a0n : Nat) (a0c : Nat) (w : World) (K : Value → World → Prop) : afn ref11_Weight.C ref11_Weight.L ref11_Weight.D tab Try.f45 [(Value.slice a0 a0n a0c)] w K = ref11_Weight.f a0 a0n a0c w (fun r0 w => K (Value.int .u64 r0) w) := by kernel_rfl
theorem ref11_Weight.ok : FSound Try.prog 45 ref11_Weight.h := by
  intro args w K h
  unfold ref11_Weight.h ref11_Weight.H at h
  split at h
  ·
    replace h := vL_ok h
    obtain ⟨a0, a0n, a0c, rfl, h⟩ := h
    refine ⟨by kernel_rfl, fn_ok tab_ok ref11_Weight.C_ok (L := ref11_Weight.L) (D := ref11_Weight.D) Try.func45 ref11_Weight.hb (by kernel_rfl) (by rw [ref11_Weight.c_loops]; exact lcons ref11_Weight.lok3 (lnil)) (Nat.le_of_ble_eq_true (by kernel_rfl)) ?_⟩
    rw [ref11_Weight.eq]
    exact h
  · exact h.elim
/-! ### valise/fixed.Best: function 46 -/
def fixed_Best.l3 : Nat → Option Addr → Nat → Nat → Int → Int → Int → World → (Int → World → Prop) → Prop
  | 0, _, _, _, _, _, _, _, _ => False
  | N + 1, y0, y0n, y0c, y3, y4, y5, w, K0 =>
    bif (decide (y5 ≤ 3)) then
      fixed_Residual.f y0 y0n y0c y5 w fun r15_10 r15_10n r15_10c w =>
      fixed_Weight.f r15_10 r15_10n r15_10c w fun r16_11 w =>
      bif (decide (r16_11 < y4)) then
        let v5_13 := (IntKind.wrap .i64 (y5 + 1))
        fixed_Best.l3 N y0 y0n y0c y5 r16_11 v5_13 w K0
      else
        let v5_14 := (IntKind.wrap .i64 (y5 + 1))
        fixed_Best.l3 N y0 y0n y0c y3 y4 v5_14 w K0
    else
      K0 y3 w

def fixed_Best.f (a0 : Option Addr) (a0n : Nat) (a0c : Nat) (w : World) (K : Int → World → Prop) : Prop :=
  fixed_Weight.f a0 a0n a0c w fun r8_3 w =>
  ∃ N_15 : Nat, fixed_Best.l3 N_15 a0 a0n a0c 0 r8_3 1 w
  (fun o3_16 w =>
    K o3_16 w)
def fixed_Best.H (F : type_of% @fixed_Best.f) : Hf := fun args w K => match args with
  | [v0] => vL v0 fun a0 a0n a0c => F a0 a0n a0c w (fun r0 w => K (Value.int .i64 r0) w)
  | _ => False
def fixed_Best.h : Hf := fixed_Best.H @fixed_Best.f
def fixed_Best.CG (F44 : type_of% @fixed_Weight.f) (F38 : type_of% @fixed_Residual.f) : Hd := hcons 38 (fixed_Residual.H F38) (hcons 44 (fixed_Weight.H F44) (hnil))
def fixed_Best.C : Hd := fixed_Best.CG @fixed_Weight.f @fixed_Residual.f
def fixed_Best.G (F44 : type_of% @fixed_Weight.f) (F38 : type_of% @fixed_Residual.f) (a0 : Option Addr) (a0n : Nat) (a0c : Nat) (w : World) (K : Int → World → Prop) : Prop :=
  F44 a0 a0n a0c w fun r8_3 w =>
  ∃ N_15 : Nat, fixed_Best.l3 N_15 a0 a0n a0c 0 r8_3 1 w
  (fun o3_16 w =>
    K o3_16 w)
theorem fixed_Best.C_ok : CSound Try.prog fixed_Best.C := hcons_ok fixed_Residual.ok (hcons_ok fixed_Weight.ok (hnil_ok))
def fixed_Best.D : Nat → Plan := fun i => .done
noncomputable def fixed_Best.c : Code := Try.f46.body.getD .skip
theorem fixed_Best.hb : Try.f46.body = some fixed_Best.c := by kernel_rfl
noncomputable def fixed_Best.b0 : Code := (loopsOf fixed_Best.c).getD 0 .skip
theorem fixed_Best.b0_loops : loopsOf fixed_Best.b0 = [] := by kernel_rfl
theorem fixed_Best.c_loops : loopsOf fixed_Best.c = [fixed_Best.b0] := by kernel_rfl
def fixed_Best.l3G (F44 : type_of% @fixed_Weight.f) (F38 : type_of% @fixed_Residual.f) (R : Option Addr → Nat → Nat → Int → Int → Int → World → (Int → World → Prop) → Prop) : Option Addr → Nat → Nat → Int → Int → Int → World → (Int → World → Prop) → Prop := fun y0 y0n y0c y3 y4 y5 w K0 =>
    bif (decide (y5 ≤ 3)) then
      F38 y0 y0n y0c y5 w fun r15_10 r15_10n r15_10c w =>
      F44 r15_10 r15_10n r15_10c w fun r16_11 w =>
      bif (decide (r16_11 < y4)) then
        let v5_13 := (IntKind.wrap .i64 (y5 + 1))
        R y0 y0n y0c y5 r16_11 v5_13 w K0
      else
        let v5_14 := (IntKind.wrap .i64 (y5 + 1))
        R y0 y0n y0c y3 y4 v5_14 w K0
    else
      K0 y3 w

def fixed_Best.hn3 (N : Nat) (f : Fr) (w : World) (K : AExit → Fr → World → Prop) : Prop :=
  gN f 23 <| gL f 0 fun y0 y0n y0c => gI .i64 f 3 fun y3 => gI .u64 f 4 fun y4 => gI .i64 f 5 fun y5 => fixed_Best.l3 N y0 y0n y0c y3 y4 y5 w (fun o3 w => K (.exit 0) [none, none, none, some (Value.int .i64 o3), none, none, none, none, none, none, none, none, none, none, none, none, none, none, none, none, none, none, none] w)
def fixed_Best.hx3 : AExit → Fr → World → (AExit → Fr → World → Prop) → Prop := fun e f w K => match e with
  | .normal => False
  | .exit i => (match Nat.beq i 0 with | true => gN f 23 <| gI .i64 f 3 fun o3 => K (.exit 0) [none, none, none, some (Value.int .i64 o3), none, none, none, none, none, none, none, none, none, none, none, none, none, none, none, none, none, none, none] w | false => False)
  | .ret => False
def fixed_Best.L : LHd := fun l f w K => (match Nat.beq l 3 with | true => ∃ N, fixed_Best.hn3 N f w K | false => False)
theorem fixed_Best.leG3 (F44 : type_of% @fixed_Weight.f) (F38 : type_of% @fixed_Residual.f) (N : Nat) (y0 : Option Addr) (y0n : Nat) (y0c : Nat) (y3 : Int) (y4 : Int) (y5 : Int) (w : World) (K : AExit → Fr → World → Prop) : awp (fixed_Best.CG F44 F38) fixed_Best.L fixed_Best.D tab fixed_Best.b0 (lpost fixed_Best.hn3 fixed_Best.hx3 N K) [some (Value.slice y0 y0n y0c), none, none, some (Value.int .i64 y3), some (Value.int .u64 y4), some (Value.int .i64 y5), none, none, none, none, none, none, none, none, none, none, none, none, none, none, none, none, none] w = fixed_Best.l3G F44 F38 (fixed_Best.l3 N) y0 y0n y0c y3 y4 y5 w (fun o3 w => K (.exit 0) [none, none, none, some (Value.int .i64 o3), none, none, none, none, none, none, none, none, none, none, none, none, none, none, none, none, none, none, none] w) := by kernel_rfl
theorem fixed_Best.les3 (N : Nat) : fixed_Best.l3 (N + 1) = fixed_Best.l3G @fixed_Weight.f @fixed_Residual.f (fixed_Best.l3 N) := by kernel_rfl
theorem fixed_Best.le3 (N : Nat) (y0 : Option Addr) (y0n : Nat) (y0c : Nat) (y3 : Int) (y4 : Int) (y5 : Int) (w : World) (K : AExit → Fr → World → Prop) : awp fixed_Best.C fixed_Best.L fixed_Best.D tab fixed_Best.b0 (lpost fixed_Best.hn3 fixed_Best.hx3 N K) [some (Value.slice y0 y0n y0c), none, none, some (Value.int .i64 y3), some (Value.int .u64 y4), some (Value.int .i64 y5), none, none, none, none, none, none, none, none, none, none, none, none, none, none, none, none, none] w = fixed_Best.l3 (N + 1) y0 y0n y0c y3 y4 y5 w (fun o3 w => K (.exit 0) [none, none, none, some (Value.int .i64 o3), none, none, none, none, none, none, none, none, none, none, none, none, none, none, none, none, none, none, none] w) := by
  rw [fixed_Best.les3]
  exact fixed_Best.leG3 @fixed_Weight.f @fixed_Residual.f N y0 y0n y0c y3 y4 y5 w K
theorem fixed_Best.lok3 : LoopOk Try.prog fixed_Best.L fixed_Best.b0 := by
  refine loop_ok tab_ok fixed_Best.C_ok (D := fixed_Best.D) (fixed_Best.hn3) (fixed_Best.hx3) (by kernel_rfl) (by rw [fixed_Best.b0_loops]; exact lnil) ?_ ?_ ?_ ?_
  · intro f w K h
    unfold fixed_Best.hn3 at h
    obtain ⟨hlen, h⟩ := gN_ok h
    obtain ⟨y0, y0n, y0c, h0, h⟩ := gL_ok h
    obtain ⟨y3, h3, h⟩ := gI_ok h
    obtain ⟨y4, h4, h⟩ := gI_ok h
    obtain ⟨y5, h5, h⟩ := gI_ok h
    exact h
  · intro N f w K h
    unfold fixed_Best.hn3 at h
    obtain ⟨hlen, h⟩ := gN_ok h
    obtain ⟨y0, y0n, y0c, h0, h⟩ := gL_ok h
    obtain ⟨y3, h3, h⟩ := gI_ok h
    obtain ⟨y4, h4, h⟩ := gI_ok h
    obtain ⟨y5, h5, h⟩ := gI_ok h
    refine ⟨[some (Value.slice y0 y0n y0c), none, none, some (Value.int .i64 y3), some (Value.int .u64 y4), some (Value.int .i64 y5), none, none, none, none, none, none, none, none, none, none, none, none, none, none, none, none, none], hlen, ⟨h0, h3, h4, h5, trivial⟩, ?_⟩
    rw [fixed_Best.le3]
    exact h
  · intro e f w K h
    cases e with
    | normal => exact h.elim
    | exit i =>
      unfold fixed_Best.hx3 at h
      simp only at h
      split at h
      · rename_i hb
        obtain rfl := Nat.eq_of_beq_eq_true hb
        obtain ⟨hlen, h⟩ := gN_ok h
        obtain ⟨o3, h3, h⟩ := gI_ok h
        exact ⟨[none, none, none, some (Value.int .i64 o3), none, none, none, none, none, none, none, none, none, none, none, none, none, none, none, none, none, none, none], hlen, ⟨h3, trivial⟩, h⟩
      · exact (show False from h).elim
    | ret =>
      exact (show False from h).elim
  · intro f w K h
    have e : lid fixed_Best.b0 = 3 := by kernel_rfl
    rw [e] at h
    exact h
theorem fixed_Best.eqG (F44 : type_of% @fixed_Weight.f) (F38 : type_of% @fixed_Residual.f) (a0 : Option Addr) (a0n : Nat) (a0c : Nat) (w : World) (K : Value → World → Prop) : afn (fixed_Best.CG F44 F38) fixed_Best.L fixed_Best.D tab Try.f46 [(Value.slice a0 a0n a0c)] w K = fixed_Best.G F44 F38 a0 a0n a0c w (fun r0 w => K (Value.int .i64 r0) w) := by kernel_rfl
theorem fixed_Best.eq (a0 : Option Addr) (a0n : Nat) (a0c : Nat) (w : World) (K : Value → World → Prop) : afn fixed_Best.C fixed_Best.L fixed_Best.D tab Try.f46 [(Value.slice a0 a0n a0c)] w K = fixed_Best.f a0 a0n a0c w (fun r0 w => K (Value.int .i64 r0) w) := fixed_Best.eqG @fixed_Weight.f @fixed_Residual.f a0 a0n a0c w K
theorem fixed_Best.ok : FSound Try.prog 46 fixed_Best.h := by
  intro args w K h
  unfold fixed_Best.h fixed_Best.H at h
  split at h
  ·
    replace h := vL_ok h
    obtain ⟨a0, a0n, a0c, rfl, h⟩ := h
    refine ⟨by kernel_rfl, fn_ok tab_ok fixed_Best.C_ok (L := fixed_Best.L) (D := fixed_Best.D) Try.func46 fixed_Best.hb (by kernel_rfl) (by rw [fixed_Best.c_loops]; exact lcons fixed_Best.lok3 (lnil)) (Nat.le_of_ble_eq_true (by kernel_rfl)) ?_⟩
    rw [fixed_Best.eq]
    exact h
  · exact h.elim
/-! ### valise/valiseref11.Best: function 47 -/
def ref11_Best.l3 : Nat → Option Addr → Nat → Nat → Int → Int → World → (Int → World → Prop) → Prop
  | 0, _, _, _, _, _, _, _ => False
  | N + 1, y0, y0n, y0c, y3, y4, w, K0 =>
    bif (decide (y4 ≤ 3)) then
      ref11_Residual.f y0 y0n y0c y4 w fun r11_9 r11_9n r11_9c w =>
      ref11_Weight.f r11_9 r11_9n r11_9c w fun r12_10 w =>
      ref11_Residual.f y0 y0n y0c y3 w fun r15_11 r15_11n r15_11c w =>
      ref11_Weight.f r15_11 r15_11n r15_11c w fun r16_12 w =>
      bif (decide (r12_10 < r16_12)) then
        let v4_13 := (IntKind.wrap .i64 (y4 + 1))
        ref11_Best.l3 N y0 y0n y0c y4 v4_13 w K0
      else
        let v4_14 := (IntKind.wrap .i64 (y4 + 1))
        ref11_Best.l3 N y0 y0n y0c y3 v4_14 w K0
    else
      K0 y3 w

def ref11_Best.f (a0 : Option Addr) (a0n : Nat) (a0c : Nat) (w : World) (K : Int → World → Prop) : Prop :=
  ∃ N_15 : Nat, ref11_Best.l3 N_15 a0 a0n a0c 0 1 w
  (fun o3_16 w =>
    K o3_16 w)
def ref11_Best.H (F : type_of% @ref11_Best.f) : Hf := fun args w K => match args with
  | [v0] => vL v0 fun a0 a0n a0c => F a0 a0n a0c w (fun r0 w => K (Value.int .i64 r0) w)
  | _ => False
def ref11_Best.h : Hf := ref11_Best.H @ref11_Best.f
def ref11_Best.CG (F42 : type_of% @ref11_Residual.f) (F45 : type_of% @ref11_Weight.f) : Hd := hcons 45 (ref11_Weight.H F45) (hcons 42 (ref11_Residual.H F42) (hnil))
def ref11_Best.C : Hd := ref11_Best.CG @ref11_Residual.f @ref11_Weight.f
def ref11_Best.G (F42 : type_of% @ref11_Residual.f) (F45 : type_of% @ref11_Weight.f) (a0 : Option Addr) (a0n : Nat) (a0c : Nat) (w : World) (K : Int → World → Prop) : Prop :=
  ∃ N_15 : Nat, ref11_Best.l3 N_15 a0 a0n a0c 0 1 w
  (fun o3_16 w =>
    K o3_16 w)
theorem ref11_Best.C_ok : CSound Try.prog ref11_Best.C := hcons_ok ref11_Weight.ok (hcons_ok ref11_Residual.ok (hnil_ok))
def ref11_Best.D : Nat → Plan := fun i => .done
noncomputable def ref11_Best.c : Code := Try.f47.body.getD .skip
theorem ref11_Best.hb : Try.f47.body = some ref11_Best.c := by kernel_rfl
noncomputable def ref11_Best.b0 : Code := (loopsOf ref11_Best.c).getD 0 .skip
theorem ref11_Best.b0_loops : loopsOf ref11_Best.b0 = [] := by kernel_rfl
theorem ref11_Best.c_loops : loopsOf ref11_Best.c = [ref11_Best.b0] := by kernel_rfl
def ref11_Best.l3G (F42 : type_of% @ref11_Residual.f) (F45 : type_of% @ref11_Weight.f) (R : Option Addr → Nat → Nat → Int → Int → World → (Int → World → Prop) → Prop) : Option Addr → Nat → Nat → Int → Int → World → (Int → World → Prop) → Prop := fun y0 y0n y0c y3 y4 w K0 =>
    bif (decide (y4 ≤ 3)) then
      F42 y0 y0n y0c y4 w fun r11_9 r11_9n r11_9c w =>
      F45 r11_9 r11_9n r11_9c w fun r12_10 w =>
      F42 y0 y0n y0c y3 w fun r15_11 r15_11n r15_11c w =>
      F45 r15_11 r15_11n r15_11c w fun r16_12 w =>
      bif (decide (r12_10 < r16_12)) then
        let v4_13 := (IntKind.wrap .i64 (y4 + 1))
        R y0 y0n y0c y4 v4_13 w K0
      else
        let v4_14 := (IntKind.wrap .i64 (y4 + 1))
        R y0 y0n y0c y3 v4_14 w K0
    else
      K0 y3 w

def ref11_Best.hn3 (N : Nat) (f : Fr) (w : World) (K : AExit → Fr → World → Prop) : Prop :=
  gN f 20 <| gL f 0 fun y0 y0n y0c => gI .i64 f 3 fun y3 => gI .i64 f 4 fun y4 => ref11_Best.l3 N y0 y0n y0c y3 y4 w (fun o3 w => K (.exit 0) [none, none, none, some (Value.int .i64 o3), none, none, none, none, none, none, none, none, none, none, none, none, none, none, none, none] w)
def ref11_Best.hx3 : AExit → Fr → World → (AExit → Fr → World → Prop) → Prop := fun e f w K => match e with
  | .normal => False
  | .exit i => (match Nat.beq i 0 with | true => gN f 20 <| gI .i64 f 3 fun o3 => K (.exit 0) [none, none, none, some (Value.int .i64 o3), none, none, none, none, none, none, none, none, none, none, none, none, none, none, none, none] w | false => False)
  | .ret => False
def ref11_Best.L : LHd := fun l f w K => (match Nat.beq l 3 with | true => ∃ N, ref11_Best.hn3 N f w K | false => False)
theorem ref11_Best.leG3 (F42 : type_of% @ref11_Residual.f) (F45 : type_of% @ref11_Weight.f) (N : Nat) (y0 : Option Addr) (y0n : Nat) (y0c : Nat) (y3 : Int) (y4 : Int) (w : World) (K : AExit → Fr → World → Prop) : awp (ref11_Best.CG F42 F45) ref11_Best.L ref11_Best.D tab ref11_Best.b0 (lpost ref11_Best.hn3 ref11_Best.hx3 N K) [some (Value.slice y0 y0n y0c), none, none, some (Value.int .i64 y3), some (Value.int .i64 y4), none, none, none, none, none, none, none, none, none, none, none, none, none, none, none] w = ref11_Best.l3G F42 F45 (ref11_Best.l3 N) y0 y0n y0c y3 y4 w (fun o3 w => K (.exit 0) [none, none, none, some (Value.int .i64 o3), none, none, none, none, none, none, none, none, none, none, none, none, none, none, none, none] w) := by kernel_rfl
theorem ref11_Best.les3 (N : Nat) : ref11_Best.l3 (N + 1) = ref11_Best.l3G @ref11_Residual.f @ref11_Weight.f (ref11_Best.l3 N) := by kernel_rfl
theorem ref11_Best.le3 (N : Nat) (y0 : Option Addr) (y0n : Nat) (y0c : Nat) (y3 : Int) (y4 : Int) (w : World) (K : AExit → Fr → World → Prop) : awp ref11_Best.C ref11_Best.L ref11_Best.D tab ref11_Best.b0 (lpost ref11_Best.hn3 ref11_Best.hx3 N K) [some (Value.slice y0 y0n y0c), none, none, some (Value.int .i64 y3), some (Value.int .i64 y4), none, none, none, none, none, none, none, none, none, none, none, none, none, none, none] w = ref11_Best.l3 (N + 1) y0 y0n y0c y3 y4 w (fun o3 w => K (.exit 0) [none, none, none, some (Value.int .i64 o3), none, none, none, none, none, none, none, none, none, none, none, none, none, none, none, none] w) := by
  rw [ref11_Best.les3]
  exact ref11_Best.leG3 @ref11_Residual.f @ref11_Weight.f N y0 y0n y0c y3 y4 w K
theorem ref11_Best.lok3 : LoopOk Try.prog ref11_Best.L ref11_Best.b0 := by
  refine loop_ok tab_ok ref11_Best.C_ok (D := ref11_Best.D) (ref11_Best.hn3) (ref11_Best.hx3) (by kernel_rfl) (by rw [ref11_Best.b0_loops]; exact lnil) ?_ ?_ ?_ ?_
  · intro f w K h
    unfold ref11_Best.hn3 at h
    obtain ⟨hlen, h⟩ := gN_ok h
    obtain ⟨y0, y0n, y0c, h0, h⟩ := gL_ok h
    obtain ⟨y3, h3, h⟩ := gI_ok h
    obtain ⟨y4, h4, h⟩ := gI_ok h
    exact h
  · intro N f w K h
    unfold ref11_Best.hn3 at h
    obtain ⟨hlen, h⟩ := gN_ok h
    obtain ⟨y0, y0n, y0c, h0, h⟩ := gL_ok h
    obtain ⟨y3, h3, h⟩ := gI_ok h
    obtain ⟨y4, h4, h⟩ := gI_ok h
    refine ⟨[some (Value.slice y0 y0n y0c), none, none, some (Value.int .i64 y3), some (Value.int .i64 y4), none, none, none, none, none, none, none, none, none, none, none, none, none, none, none], hlen, ⟨h0, h3, h4, trivial⟩, ?_⟩
    rw [ref11_Best.le3]
    exact h
  · intro e f w K h
    cases e with
    | normal => exact h.elim
    | exit i =>
      unfold ref11_Best.hx3 at h
      simp only at h
      split at h
      · rename_i hb
        obtain rfl := Nat.eq_of_beq_eq_true hb
        obtain ⟨hlen, h⟩ := gN_ok h
        obtain ⟨o3, h3, h⟩ := gI_ok h
        exact ⟨[none, none, none, some (Value.int .i64 o3), none, none, none, none, none, none, none, none, none, none, none, none, none, none, none, none], hlen, ⟨h3, trivial⟩, h⟩
      · exact (show False from h).elim
    | ret =>
      exact (show False from h).elim
  · intro f w K h
    have e : lid ref11_Best.b0 = 3 := by kernel_rfl
    rw [e] at h
    exact h
theorem ref11_Best.eqG (F42 : type_of% @ref11_Residual.f) (F45 : type_of% @ref11_Weight.f) (a0 : Option Addr) (a0n : Nat) (a0c : Nat) (w : World) (K : Value → World → Prop) : afn (ref11_Best.CG F42 F45) ref11_Best.L ref11_Best.D tab Try.f47 [(Value.slice a0 a0n a0c)] w K = ref11_Best.G F42 F45 a0 a0n a0c w (fun r0 w => K (Value.int .i64 r0) w) := by kernel_rfl
theorem ref11_Best.eq (a0 : Option Addr) (a0n : Nat) (a0c : Nat) (w : World) (K : Value → World → Prop) : afn ref11_Best.C ref11_Best.L ref11_Best.D tab Try.f47 [(Value.slice a0 a0n a0c)] w K = ref11_Best.f a0 a0n a0c w (fun r0 w => K (Value.int .i64 r0) w) := ref11_Best.eqG @ref11_Residual.f @ref11_Weight.f a0 a0n a0c w K
theorem ref11_Best.ok : FSound Try.prog 47 ref11_Best.h := by
  intro args w K h
  unfold ref11_Best.h ref11_Best.H at h
  split at h
  ·
    replace h := vL_ok h
    obtain ⟨a0, a0n, a0c, rfl, h⟩ := h
    refine ⟨by kernel_rfl, fn_ok tab_ok ref11_Best.C_ok (L := ref11_Best.L) (D := ref11_Best.D) Try.func47 ref11_Best.hb (by kernel_rfl) (by rw [ref11_Best.c_loops]; exact lcons ref11_Best.lok3 (lnil)) (Nat.le_of_ble_eq_true (by kernel_rfl)) ?_⟩
    rw [ref11_Best.eq]
    exact h
  · exact h.elim
/-! ### valise/valisehelp.Kept[int32]: function 48 -/
def help_Kept_int32.l5 : Nat → Int → Option Addr → Nat → Nat → Int → World → (World → Prop) → (Bool → World → Prop) → Prop
  | 0, _, _, _, _, _, _, _, _ => False
  | N + 1, y2, y7, y7n, y7c, y8, w, K0, Kr =>
    bif (decide (y8 < ((y7n : Nat) : Int))) then
      sm y7 fun p_17 =>
      if 0 ≤ (y8 : Int) ∧ (y8 : Int) < ((y7n : Nat) : Int) then
      ldI .i32 (p_17.add (Int.toNat y8)) w fun x37_18 =>
      bif (x37_18 != y2) then
        Kr false w
      else
        let v8_20 := (IntKind.wrap .i64 (y8 + 1))
        help_Kept_int32.l5 N y2 y7 y7n y7c v8_20 w K0 Kr
      else False
    else
      K0 w

def help_Kept_int32.f (a0 : Option Addr) (a0n : Nat) (a0c : Nat) (a1 : Option Addr) (a1n : Nat) (a1c : Nat) (a2 : Int) (w : World) (K : Bool → World → Prop) : Prop :=
  help_Plain_int32.f a0 a0n a0c a1 a1n a1c w fun r11_4 w =>
  bif (!r11_4) then
    K false w
  else
    bif (decide (((a0c : Nat) : Int) < (IntKind.wrap .i64 (((a1n : Nat) : Int) + 3)))) then
      K false w
    else
      bnd a0n a0c none (some (Value.int .i64 (IntKind.wrap .i64 (((a1n : Nat) : Int) + 3)))) fun l_8 h_9 =>
      let v8_12 := ((a1n : Nat) : Int)
      ∃ N_21 : Nat, help_Kept_int32.l5 N_21 a2 (adrS a0 l_8 a0c 1) (h_9 - l_8) (a0c - l_8) v8_12 w
      (fun w =>
        K true w)
      (fun o6_22 w =>
        K o6_22 w)
def help_Kept_int32.H (F : type_of% @help_Kept_int32.f) : Hf := fun args w K => match args with
  | [v0, v1, v2] => vL v0 fun a0 a0n a0c => vL v1 fun a1 a1n a1c => vI .i32 v2 fun a2 => F a0 a0n a0c a1 a1n a1c a2 w (fun r0 w => K (Value.bool r0) w)
  | _ => False
def help_Kept_int32.h : Hf := help_Kept_int32.H @help_Kept_int32.f
def help_Kept_int32.C : Hd := hcons 35 help_Plain_int32.h (hnil)
theorem help_Kept_int32.C_ok : CSound Try.prog help_Kept_int32.C := hcons_ok help_Plain_int32.ok (hnil_ok)
def help_Kept_int32.D : Nat → Plan := fun i => .done
noncomputable def help_Kept_int32.c : Code := Try.f48.body.getD .skip
theorem help_Kept_int32.hb : Try.f48.body = some help_Kept_int32.c := by kernel_rfl
noncomputable def help_Kept_int32.b0 : Code := (loopsOf help_Kept_int32.c).getD 0 .skip
theorem help_Kept_int32.b0_loops : loopsOf help_Kept_int32.b0 = [] := by kernel_rfl
theorem help_Kept_int32.c_loops : loopsOf help_Kept_int32.c = [help_Kept_int32.b0] := by kernel_rfl
def help_Kept_int32.hn5 (N : Nat) (f : Fr) (w : World) (K : AExit → Fr → World → Prop) : Prop :=
  gN f 40 <| gI .i32 f 2 fun y2 => gL f 7 fun y7 y7n y7c => gI .i64 f 8 fun y8 => help_Kept_int32.l5 N y2 y7 y7n y7c y8 w (fun w => K (.exit 0) [none, none, none, none, none, none, none, none, none, none, none, none, none, none, none, none, none, none, none, none, none, none, none, none, none, none, none, none, none, none, none, none, none, none, none, none, none, none, none, none] w) (fun o6 w => K .ret [none, none, none, none, none, none, some (Value.bool o6), none, none, none, none, none, none, none, none, none, none, none, none, none, none, none, none, none, none, none, none, none, none, none, none, none, none, none, none, none, none, none, none, none] w)
def help_Kept_int32.hx5 : AExit → Fr → World → (AExit → Fr → World → Prop) → Prop := fun e f w K => match e with
  | .normal => False
  | .exit i => (match Nat.beq i 0 with | true => gN f 40 <|  K (.exit 0) [none, none, none, none, none, none, none, none, none, none, none, none, none, none, none, none, none, none, none, none, none, none, none, none, none, none, none, none, none, none, none, none, none, none, none, none, none, none, none, none] w | false => False)
  | .ret => gN f 40 <| gB f 6 fun o6 => K .ret [none, none, none, none, none, none, some (Value.bool o6), none, none, none, none, none, none, none, none, none, none, none, none, none, none, none, none, none, none, none, none, none, none, none, none, none, none, none, none, none, none, none, none, none] w
def help_Kept_int32.L : LHd := fun l f w K => (match Nat.beq l 5 with | true => ∃ N, help_Kept_int32.hn5 N f w K | false => False)
theorem help_Kept_int32.le5 (N : Nat) (y2 : Int) (y7 : Option Addr) (y7n : Nat) (y7c : Nat) (y8 : Int) (w : World) (K : AExit → Fr → World → Prop) : awp help_Kept_int32.C help_Kept_int32.L help_Kept_int32.D tab help_Kept_int32.b0 (lpost help_Kept_int32.hn5 help_Kept_int32.hx5 N K) [none, none, some (Value.int .i32 y2), none, none, none, none, some (Value.slice y7 y7n y7c), some (Value.int .i64 y8), none, none, none, none, none, none, none, none, none, none, none, none, none, none, none, none, none, none, none, none, none, none, none, none, none, none, none, none, none, none, none] w = help_Kept_int32.l5 (N + 1) y2 y7 y7n y7c y8 w (fun w => K (.exit 0) [none, none, none, none, none, none, none, none, none, none, none, none, none, none, none, none, none, none, none, none, none, none, none, none, none, none, none, none, none, none, none, none, none, none, none, none, none, none, none, none] w) (fun o6 w => K .ret [none, none, none, none, none, none, some (Value.bool o6), none, none, none, none, none, none, none, none, none, none, none, none, none, none, none, none, none, none, none, none, none, none, none, none, none, none, none, none, none, none, none, none, none] w) := by kernel_rfl
theorem help_Kept_int32.lok5 : LoopOk Try.prog help_Kept_int32.L help_Kept_int32.b0 := by
  refine loop_ok tab_ok help_Kept_int32.C_ok (D := help_Kept_int32.D) (help_Kept_int32.hn5) (help_Kept_int32.hx5) (by kernel_rfl) (by rw [help_Kept_int32.b0_loops]; exact lnil) ?_ ?_ ?_ ?_
  · intro f w K h
    unfold help_Kept_int32.hn5 at h
    obtain ⟨hlen, h⟩ := gN_ok h
    obtain ⟨y2, h2, h⟩ := gI_ok h
    obtain ⟨y7, y7n, y7c, h7, h⟩ := gL_ok h
    obtain ⟨y8, h8, h⟩ := gI_ok h
    exact h
  · intro N f w K h
    unfold help_Kept_int32.hn5 at h
    obtain ⟨hlen, h⟩ := gN_ok h
    obtain ⟨y2, h2, h⟩ := gI_ok h
    obtain ⟨y7, y7n, y7c, h7, h⟩ := gL_ok h
    obtain ⟨y8, h8, h⟩ := gI_ok h
    refine ⟨[none, none, some (Value.int .i32 y2), none, none, none, none, some (Value.slice y7 y7n y7c), some (Value.int .i64 y8), none, none, none, none, none, none, none, none, none, none, none, none, none, none, none, none, none, none, none, none, none, none, none, none, none, none, none, none, none, none, none], hlen, ⟨h2, h7, h8, trivial⟩, ?_⟩
    rw [help_Kept_int32.le5]
    exact h
  · intro e f w K h
    cases e with
    | normal => exact h.elim
    | exit i =>
      unfold help_Kept_int32.hx5 at h
      simp only at h
      split at h
      · rename_i hb
        obtain rfl := Nat.eq_of_beq_eq_true hb
        obtain ⟨hlen, h⟩ := gN_ok h
        exact ⟨[none, none, none, none, none, none, none, none, none, none, none, none, none, none, none, none, none, none, none, none, none, none, none, none, none, none, none, none, none, none, none, none, none, none, none, none, none, none, none, none], hlen, trivial, h⟩
      · exact (show False from h).elim
    | ret =>
      unfold help_Kept_int32.hx5 at h
      simp only at h
      obtain ⟨hlen, h⟩ := gN_ok h
      obtain ⟨o6, h6, h⟩ := gB_ok h
      exact ⟨[none, none, none, none, none, none, some (Value.bool o6), none, none, none, none, none, none, none, none, none, none, none, none, none, none, none, none, none, none, none, none, none, none, none, none, none, none, none, none, none, none, none, none, none], hlen, ⟨h6, trivial⟩, h⟩
  · intro f w K h
    have e : lid help_Kept_int32.b0 = 5 := by kernel_rfl
    rw [e] at h
    exact h
theorem help_Kept_int32.eq (a0 : Option Addr) (a0n : Nat) (a0c : Nat) (a1 : Option Addr) (a1n : Nat) (a1c : Nat) (a2 : Int) (w : World) (K : Value → World → Prop) : afn help_Kept_int32.C help_Kept_int32.L help_Kept_int32.D tab Try.f48 [(Value.slice a0 a0n a0c), (Value.slice a1 a1n a1c), (Value.int .i32 a2)] w K = help_Kept_int32.f a0 a0n a0c a1 a1n a1c a2 w (fun r0 w => K (Value.bool r0) w) := by kernel_rfl
theorem help_Kept_int32.ok : FSound Try.prog 48 help_Kept_int32.h := by
  intro args w K h
  unfold help_Kept_int32.h help_Kept_int32.H at h
  split at h
  ·
    replace h := vL_ok h
    obtain ⟨a0, a0n, a0c, rfl, h⟩ := h
    replace h := vL_ok h
    obtain ⟨a1, a1n, a1c, rfl, h⟩ := h
    replace h := vI_ok h
    obtain ⟨a2, rfl, h⟩ := h
    refine ⟨by kernel_rfl, fn_ok tab_ok help_Kept_int32.C_ok (L := help_Kept_int32.L) (D := help_Kept_int32.D) Try.func48 help_Kept_int32.hb (by kernel_rfl) (by rw [help_Kept_int32.c_loops]; exact lcons help_Kept_int32.lok5 (lnil)) (Nat.le_of_ble_eq_true (by kernel_rfl)) ?_⟩
    rw [help_Kept_int32.eq]
    exact h
  · exact h.elim

end Go.Proofs.Ytmgcjihcbdgihaa.G
