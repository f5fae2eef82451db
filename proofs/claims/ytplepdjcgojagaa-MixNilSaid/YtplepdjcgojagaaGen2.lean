/- Go functions as predicate transformers, written by a program of this session (gen.py), with their soundness. -/
import Derived.Test.YtplepdjcgojagaaGen1
set_option linter.unusedVariables false
set_option linter.unusedSimpArgs false
set_option maxRecDepth 100000
namespace Go.Proofs.Ytplepdjcgojagaa.G
open Go Go.Proofs.Ytplepdjcgojagaa.Vm
/-! ### valise/valisehelp.Same[int]: function 43 -/
def help_Same_int.l4 : Nat → Option Addr → Nat → Nat → Option Addr → Nat → Nat → Int → World → (World → Prop) → (Bool → World → Prop) → Prop
  | 0, _, _, _, _, _, _, _, _, _, _ => False
  | N + 1, y0, y0n, y0c, y1, y1n, y1c, y7, w, K0, Kr =>
    bif (decide (y7 < ((y0n : Nat) : Int))) then
      sm y0 fun p_11 =>
      if 0 ≤ (y7 : Int) ∧ (y7 : Int) < ((y0n : Nat) : Int) then
      ldI .i64 (p_11.add (Int.toNat y7)) w.drew fun x23_12 =>
      sm y1 fun p_13 =>
      if 0 ≤ (y7 : Int) ∧ (y7 : Int) < ((y1n : Nat) : Int) then
      ldI .i64 (p_13.add (Int.toNat y7)) w.drew fun x27_14 =>
      help_Plain_int_f1.f x23_12 x27_14 w.drew fun r28_15 w =>
      bif (!r28_15) then
        Kr false w
      else
        let v7_17 := (IntKind.wrap .i64 (y7 + 1))
        help_Same_int.l4 N y0 y0n y0c y1 y1n y1c v7_17 w K0 Kr
      else False
      else False
    else
      K0 w

def help_Same_int.f (a0 : Option Addr) (a0n : Nat) (a0c : Nat) (a1 : Option Addr) (a1n : Nat) (a1c : Nat) (w : World) (K : Bool → World → Prop) : Prop :=
  bif (((a0n : Nat) : Int) != ((a1n : Nat) : Int)) then
    K false w
  else
    ∃ N_18 : Nat, help_Same_int.l4 N_18 a0 a0n a0c a1 a1n a1c 0 w
    (fun w =>
      K true w)
    (fun o6_19 w =>
      K o6_19 w)
def help_Same_int.H (F : type_of% @help_Same_int.f) : Hf := fun args w K => match args with
  | [v0, v1, v2] => vL v0 fun a0 a0n a0c => vL v1 fun a1 a1n a1c => vF 44 v2 <| F a0 a0n a0c a1 a1n a1c w (fun r0 w => K (Value.bool r0) w)
  | _ => False
def help_Same_int.h : Hf := help_Same_int.H @help_Same_int.f
def help_Same_int.C : Hd := hcons 44 help_Plain_int_f1.h (hnil)
theorem help_Same_int.C_ok : CSound Try.prog help_Same_int.C := hcons_ok help_Plain_int_f1.ok (hnil_ok)
def help_Same_int.D : Nat → Plan := fun i => (match Nat.beq i 6 with | true => .take 0 (.take 1 (.take 2 (.take 3 (.take 4 (.take 5 (.take 6 (.take 7 (.take 8 (.eff 9 (.take 10 (.done))))))))))) | false => .done)
noncomputable def help_Same_int.c : Code := Try.f43.body.getD .skip
theorem help_Same_int.hb : Try.f43.body = some help_Same_int.c := by kernel_rfl
noncomputable def help_Same_int.b0 : Code := (loopsOf help_Same_int.c).getD 0 .skip
theorem help_Same_int.b0_loops : loopsOf help_Same_int.b0 = [] := by kernel_rfl
theorem help_Same_int.c_loops : loopsOf help_Same_int.c = [help_Same_int.b0] := by kernel_rfl
def help_Same_int.hn4 (N : Nat) (f : Fr) (w : World) (K : AExit → Fr → World → Prop) : Prop :=
  gN f 30 <| gL f 0 fun y0 y0n y0c => gL f 1 fun y1 y1n y1c => gF 44 f 2 <| gI .i64 f 7 fun y7 => help_Same_int.l4 N y0 y0n y0c y1 y1n y1c y7 w (fun w => K (.exit 0) [none, none, none, none, none, none, none, none, none, none, none, none, none, none, none, none, none, none, none, none, none, none, none, none, none, none, none, none, none, none] w) (fun o6 w => K .ret [none, none, none, none, none, none, some (Value.bool o6), none, none, none, none, none, none, none, none, none, none, none, none, none, none, none, none, none, none, none, none, none, none, none] w)
def help_Same_int.hx4 : AExit → Fr → World → (AExit → Fr → World → Prop) → Prop := fun e f w K => match e with
  | .normal => False
  | .exit i => (match Nat.beq i 0 with | true => gN f 30 <|  K (.exit 0) [none, none, none, none, none, none, none, none, none, none, none, none, none, none, none, none, none, none, none, none, none, none, none, none, none, none, none, none, none, none] w | false => False)
  | .ret => gN f 30 <| gB f 6 fun o6 => K .ret [none, none, none, none, none, none, some (Value.bool o6), none, none, none, none, none, none, none, none, none, none, none, none, none, none, none, none, none, none, none, none, none, none, none] w
def help_Same_int.L : LHd := fun l f w K => (match Nat.beq l 4 with | true => ∃ N, help_Same_int.hn4 N f w K | false => False)
theorem help_Same_int.le4 (N : Nat) (y0 : Option Addr) (y0n : Nat) (y0c : Nat) (y1 : Option Addr) (y1n : Nat) (y1c : Nat) (y7 : Int) (w : World) (K : AExit → Fr → World → Prop) : awp help_Same_int.C help_Same_int.L help_Same_int.D tab help_Same_int.b0 (lpost help_Same_int.hn4 help_Same_int.hx4 N K) [some (Value.slice y0 y0n y0c), some (Value.slice y1 y1n y1c), some (Value.func (.func 44) #[] #[]), none, none, none, none, some (Value.int .i64 y7), none, none, none, none, none, none, none, none, none, none, none, none, none, none, none, none, none, none, none, none, none, none] w = help_Same_int.l4 (N + 1) y0 y0n y0c y1 y1n y1c y7 w (fun w => K (.exit 0) [none, none, none, none, none, none, none, none, none, none, none, none, none, none, none, none, none, none, none, none, none, none, none, none, none, none, none, none, none, none] w) (fun o6 w => K .ret [none, none, none, none, none, none, some (Value.bool o6), none, none, none, none, none, none, none, none, none, none, none, none, none, none, none, none, none, none, none, none, none, none, none] w) := by kernel_rfl
theorem help_Same_int.lok4 : LoopOk Try.prog help_Same_int.L help_Same_int.b0 := by
  refine loop_ok tab_ok help_Same_int.C_ok (D := help_Same_int.D) (help_Same_int.hn4) (help_Same_int.hx4) (by kernel_rfl) (by rw [help_Same_int.b0_loops]; exact lnil) ?_ ?_ ?_ ?_
  · intro f w K h
    unfold help_Same_int.hn4 at h
    obtain ⟨hlen, h⟩ := gN_ok h
    obtain ⟨y0, y0n, y0c, h0, h⟩ := gL_ok h
    obtain ⟨y1, y1n, y1c, h1, h⟩ := gL_ok h
    obtain ⟨h2, h⟩ := gF_ok h
    obtain ⟨y7, h7, h⟩ := gI_ok h
    exact h
  · intro N f w K h
    unfold help_Same_int.hn4 at h
    obtain ⟨hlen, h⟩ := gN_ok h
    obtain ⟨y0, y0n, y0c, h0, h⟩ := gL_ok h
    obtain ⟨y1, y1n, y1c, h1, h⟩ := gL_ok h
    obtain ⟨h2, h⟩ := gF_ok h
    obtain ⟨y7, h7, h⟩ := gI_ok h
    refine ⟨[some (Value.slice y0 y0n y0c), some (Value.slice y1 y1n y1c), some (Value.func (.func 44) #[] #[]), none, none, none, none, some (Value.int .i64 y7), none, none, none, none, none, none, none, none, none, none, none, none, none, none, none, none, none, none, none, none, none, none], hlen, ⟨h0, h1, h2, h7, trivial⟩, ?_⟩
    rw [help_Same_int.le4]
    exact h
  · intro e f w K h
    cases e with
    | normal => exact h.elim
    | exit i =>
      unfold help_Same_int.hx4 at h
      simp only at h
      split at h
      · rename_i hb
        obtain rfl := Nat.eq_of_beq_eq_true hb
        obtain ⟨hlen, h⟩ := gN_ok h
        exact ⟨[none, none, none, none, none, none, none, none, none, none, none, none, none, none, none, none, none, none, none, none, none, none, none, none, none, none, none, none, none, none], hlen, trivial, h⟩
      · exact (show False from h).elim
    | ret =>
      unfold help_Same_int.hx4 at h
      simp only at h
      obtain ⟨hlen, h⟩ := gN_ok h
      obtain ⟨o6, h6, h⟩ := gB_ok h
      exact ⟨[none, none, none, none, none, none, some (Value.bool o6), none, none, none, none, none, none, none, none, none, none, none, none, none, none, none, none, none, none, none, none, none, none, none], hlen, ⟨h6, trivial⟩, h⟩
  · intro f w K h
    have e : lid help_Same_int.b0 = 4 := by kernel_rfl
    rw [e] at h
    exact h
theorem help_Same_int.eq (a0 : Option Addr) (a0n : Nat) (a0c : Nat) (a1 : Option Addr) (a1n : Nat) (a1c : Nat) (w : World) (K : Value → World → Prop) : afn help_Same_int.C help_Same_int.L help_Same_int.D tab Try.f43 [(Value.slice a0 a0n a0c), (Value.slice a1 a1n a1c), (Value.func (.func 44) #[] #[])] w K = help_Same_int.f a0 a0n a0c a1 a1n a1c w (fun r0 w => K (Value.bool r0) w) := by kernel_rfl
theorem help_Same_int.ok : FSound Try.prog 43 help_Same_int.h := by
  intro args w K h
  unfold help_Same_int.h help_Same_int.H at h
  split at h
  ·
    replace h := vL_ok h
    obtain ⟨a0, a0n, a0c, rfl, h⟩ := h
    replace h := vL_ok h
    obtain ⟨a1, a1n, a1c, rfl, h⟩ := h
    replace h := vF_ok h
    obtain ⟨rfl, h⟩ := h
    refine ⟨by kernel_rfl, fn_ok tab_ok help_Same_int.C_ok (L := help_Same_int.L) (D := help_Same_int.D) Try.func43 help_Same_int.hb (by kernel_rfl) (by rw [help_Same_int.c_loops]; exact lcons help_Same_int.lok4 (lnil)) (Nat.le_of_ble_eq_true (by kernel_rfl)) ?_⟩
    rw [help_Same_int.eq]
    exact h
  · exact h.elim
/-! ### valise/valisehelp.Plain[int]: function 39 -/
def help_Plain_int.f (a0 : Option Addr) (a0n : Nat) (a0c : Nat) (a1 : Option Addr) (a1n : Nat) (a1c : Nat) (w : World) (K : Bool → World → Prop) : Prop :=
  help_Same_int.f a0 a0n a0c a1 a1n a1c w fun r7_3 w =>
  K r7_3 w
def help_Plain_int.H (F : type_of% @help_Plain_int.f) : Hf := fun args w K => match args with
  | [v0, v1] => vL v0 fun a0 a0n a0c => vL v1 fun a1 a1n a1c => F a0 a0n a0c a1 a1n a1c w (fun r0 w => K (Value.bool r0) w)
  | _ => False
def help_Plain_int.h : Hf := help_Plain_int.H @help_Plain_int.f
def help_Plain_int.C : Hd := hcons 43 help_Same_int.h (hnil)
theorem help_Plain_int.C_ok : CSound Try.prog help_Plain_int.C := hcons_ok help_Same_int.ok (hnil_ok)
def help_Plain_int.D : Nat → Plan := fun i => .done
noncomputable def help_Plain_int.c : Code := Try.f39.body.getD .skip
theorem help_Plain_int.hb : Try.f39.body = some help_Plain_int.c := by kernel_rfl
theorem help_Plain_int.c_loops : loopsOf help_Plain_int.c = [] := by kernel_rfl
def help_Plain_int.L : LHd := fun l f w K => False
theorem help_Plain_int.eq (a0 : Option Addr) (a0n : Nat) (a0c : Nat) (a1 : Option Addr) (a1n : Nat) (a1c : Nat) (w : World) (K : Value → World → Prop) : afn help_Plain_int.C help_Plain_int.L help_Plain_int.D tab Try.f39 [(Value.slice a0 a0n a0c), (Value.slice a1 a1n a1c)] w K = help_Plain_int.f a0 a0n a0c a1 a1n a1c w (fun r0 w => K (Value.bool r0) w) := by kernel_rfl
theorem help_Plain_int.ok : FSound Try.prog 39 help_Plain_int.h := by
  intro args w K h
  unfold help_Plain_int.h help_Plain_int.H at h
  split at h
  ·
    replace h := vL_ok h
    obtain ⟨a0, a0n, a0c, rfl, h⟩ := h
    replace h := vL_ok h
    obtain ⟨a1, a1n, a1c, rfl, h⟩ := h
    refine ⟨by kernel_rfl, fn_ok tab_ok help_Plain_int.C_ok (L := help_Plain_int.L) (D := help_Plain_int.D) Try.func39 help_Plain_int.hb (by kernel_rfl) (by rw [help_Plain_int.c_loops]; exact lnil) (Nat.le_of_ble_eq_true (by kernel_rfl)) ?_⟩
    rw [help_Plain_int.eq]
    exact h
  · exact h.elim
/-! ### valise/valisehelp.Kept[int]: function 36 -/
def help_Kept_int.l5 : Nat → Int → Option Addr → Nat → Nat → Int → World → (World → Prop) → (Bool → World → Prop) → Prop
  | 0, _, _, _, _, _, _, _, _ => False
  | N + 1, y2, y7, y7n, y7c, y8, w, K0, Kr =>
    bif (decide (y8 < ((y7n : Nat) : Int))) then
      sm y7 fun p_17 =>
      if 0 ≤ (y8 : Int) ∧ (y8 : Int) < ((y7n : Nat) : Int) then
      ldI .i64 (p_17.add (Int.toNat y8)) w fun x37_18 =>
      bif (x37_18 != y2) then
        Kr false w
      else
        let v8_20 := (IntKind.wrap .i64 (y8 + 1))
        help_Kept_int.l5 N y2 y7 y7n y7c v8_20 w K0 Kr
      else False
    else
      K0 w

def help_Kept_int.f (a0 : Option Addr) (a0n : Nat) (a0c : Nat) (a1 : Option Addr) (a1n : Nat) (a1c : Nat) (a2 : Int) (w : World) (K : Bool → World → Prop) : Prop :=
  help_Plain_int.f a0 a0n a0c a1 a1n a1c w fun r11_4 w =>
  bif (!r11_4) then
    K false w
  else
    bif (decide (((a0c : Nat) : Int) < (IntKind.wrap .i64 (((a1n : Nat) : Int) + 3)))) then
      K false w
    else
      bnd a0n a0c none (some (Value.int .i64 (IntKind.wrap .i64 (((a1n : Nat) : Int) + 3)))) fun l_8 h_9 =>
      let v8_12 := ((a1n : Nat) : Int)
      ∃ N_21 : Nat, help_Kept_int.l5 N_21 a2 (adrS a0 l_8 a0c 1) (h_9 - l_8) (a0c - l_8) v8_12 w
      (fun w =>
        K true w)
      (fun o6_22 w =>
        K o6_22 w)
def help_Kept_int.H (F : type_of% @help_Kept_int.f) : Hf := fun args w K => match args with
  | [v0, v1, v2] => vL v0 fun a0 a0n a0c => vL v1 fun a1 a1n a1c => vI .i64 v2 fun a2 => F a0 a0n a0c a1 a1n a1c a2 w (fun r0 w => K (Value.bool r0) w)
  | _ => False
def help_Kept_int.h : Hf := help_Kept_int.H @help_Kept_int.f
def help_Kept_int.C : Hd := hcons 39 help_Plain_int.h (hnil)
theorem help_Kept_int.C_ok : CSound Try.prog help_Kept_int.C := hcons_ok help_Plain_int.ok (hnil_ok)
def help_Kept_int.D : Nat → Plan := fun i => .done
noncomputable def help_Kept_int.c : Code := Try.f36.body.getD .skip
theorem help_Kept_int.hb : Try.f36.body = some help_Kept_int.c := by kernel_rfl
noncomputable def help_Kept_int.b0 : Code := (loopsOf help_Kept_int.c).getD 0 .skip
theorem help_Kept_int.b0_loops : loopsOf help_Kept_int.b0 = [] := by kernel_rfl
theorem help_Kept_int.c_loops : loopsOf help_Kept_int.c = [help_Kept_int.b0] := by kernel_rfl
def help_Kept_int.hn5 (N : Nat) (f : Fr) (w : World) (K : AExit → Fr → World → Prop) : Prop :=
  gN f 40 <| gI .i64 f 2 fun y2 => gL f 7 fun y7 y7n y7c => gI .i64 f 8 fun y8 => help_Kept_int.l5 N y2 y7 y7n y7c y8 w (fun w => K (.exit 0) [none, none, none, none, none, none, none, none, none, none, none, none, none, none, none, none, none, none, none, none, none, none, none, none, none, none, none, none, none, none, none, none, none, none, none, none, none, none, none, none] w) (fun o6 w => K .ret [none, none, none, none, none, none, some (Value.bool o6), none, none, none, none, none, none, none, none, none, none, none, none, none, none, none, none, none, none, none, none, none, none, none, none, none, none, none, none, none, none, none, none, none] w)
def help_Kept_int.hx5 : AExit → Fr → World → (AExit → Fr → World → Prop) → Prop := fun e f w K => match e with
  | .normal => False
  | .exit i => (match Nat.beq i 0 with | true => gN f 40 <|  K (.exit 0) [none, none, none, none, none, none, none, none, none, none, none, none, none, none, none, none, none, none, none, none, none, none, none, none, none, none, none, none, none, none, none, none, none, none, none, none, none, none, none, none] w | false => False)
  | .ret => gN f 40 <| gB f 6 fun o6 => K .ret [none, none, none, none, none, none, some (Value.bool o6), none, none, none, none, none, none, none, none, none, none, none, none, none, none, none, none, none, none, none, none, none, none, none, none, none, none, none, none, none, none, none, none, none] w
def help_Kept_int.L : LHd := fun l f w K => (match Nat.beq l 5 with | true => ∃ N, help_Kept_int.hn5 N f w K | false => False)
theorem help_Kept_int.le5 (N : Nat) (y2 : Int) (y7 : Option Addr) (y7n : Nat) (y7c : Nat) (y8 : Int) (w : World) (K : AExit → Fr → World → Prop) : awp help_Kept_int.C help_Kept_int.L help_Kept_int.D tab help_Kept_int.b0 (lpost help_Kept_int.hn5 help_Kept_int.hx5 N K) [none, none, some (Value.int .i64 y2), none, none, none, none, some (Value.slice y7 y7n y7c), some (Value.int .i64 y8), none, none, none, none, none, none, none, none, none, none, none, none, none, none, none, none, none, none, none, none, none, none, none, none, none, none, none, none, none, none, none] w = help_Kept_int.l5 (N + 1) y2 y7 y7n y7c y8 w (fun w => K (.exit 0) [none, none, none, none, none, none, none, none, none, none, none, none, none, none, none, none, none, none, none, none, none, none, none, none, none, none, none, none, none, none, none, none, none, none, none, none, none, none, none, none] w) (fun o6 w => K .ret [none, none, none, none, none, none, some (Value.bool o6), none, none, none, none, none, none, none, none, none, none, none, none, none, none, none, none, none, none, none, none, none, none, none, none, none, none, none, none, none, none, none, none, none] w) := by kernel_rfl
theorem help_Kept_int.lok5 : LoopOk Try.prog help_Kept_int.L help_Kept_int.b0 := by
  refine loop_ok tab_ok help_Kept_int.C_ok (D := help_Kept_int.D) (help_Kept_int.hn5) (help_Kept_int.hx5) (by kernel_rfl) (by rw [help_Kept_int.b0_loops]; exact lnil) ?_ ?_ ?_ ?_
  · intro f w K h
    unfold help_Kept_int.hn5 at h
    obtain ⟨hlen, h⟩ := gN_ok h
    obtain ⟨y2, h2, h⟩ := gI_ok h
    obtain ⟨y7, y7n, y7c, h7, h⟩ := gL_ok h
    obtain ⟨y8, h8, h⟩ := gI_ok h
    exact h
  · intro N f w K h
    unfold help_Kept_int.hn5 at h
    obtain ⟨hlen, h⟩ := gN_ok h
    obtain ⟨y2, h2, h⟩ := gI_ok h
    obtain ⟨y7, y7n, y7c, h7, h⟩ := gL_ok h
    obtain ⟨y8, h8, h⟩ := gI_ok h
    refine ⟨[none, none, some (Value.int .i64 y2), none, none, none, none, some (Value.slice y7 y7n y7c), some (Value.int .i64 y8), none, none, none, none, none, none, none, none, none, none, none, none, none, none, none, none, none, none, none, none, none, none, none, none, none, none, none, none, none, none, none], hlen, ⟨h2, h7, h8, trivial⟩, ?_⟩
    rw [help_Kept_int.le5]
    exact h
  · intro e f w K h
    cases e with
    | normal => exact h.elim
    | exit i =>
      unfold help_Kept_int.hx5 at h
      simp only at h
      split at h
      · rename_i hb
        obtain rfl := Nat.eq_of_beq_eq_true hb
        obtain ⟨hlen, h⟩ := gN_ok h
        exact ⟨[none, none, none, none, none, none, none, none, none, none, none, none, none, none, none, none, none, none, none, none, none, none, none, none, none, none, none, none, none, none, none, none, none, none, none, none, none, none, none, none], hlen, trivial, h⟩
      · exact (show False from h).elim
    | ret =>
      unfold help_Kept_int.hx5 at h
      simp only at h
      obtain ⟨hlen, h⟩ := gN_ok h
      obtain ⟨o6, h6, h⟩ := gB_ok h
      exact ⟨[none, none, none, none, none, none, some (Value.bool o6), none, none, none, none, none, none, none, none, none, none, none, none, none, none, none, none, none, none, none, none, none, none, none, none, none, none, none, none, none, none, none, none, none], hlen, ⟨h6, trivial⟩, h⟩
  · intro f w K h
    have e : lid help_Kept_int.b0 = 5 := by kernel_rfl
    rw [e] at h
    exact h
theorem help_Kept_int.eq (a0 : Option Addr) (a0n : Nat) (a0c : Nat) (a1 : Option Addr) (a1n : Nat) (a1c : Nat) (a2 : Int) (w : World) (K : Value → World → Prop) : afn help_Kept_int.C help_Kept_int.L help_Kept_int.D tab Try.f36 [(Value.slice a0 a0n a0c), (Value.slice a1 a1n a1c), (Value.int .i64 a2)] w K = help_Kept_int.f a0 a0n a0c a1 a1n a1c a2 w (fun r0 w => K (Value.bool r0) w) := by kernel_rfl
theorem help_Kept_int.ok : FSound Try.prog 36 help_Kept_int.h := by
  intro args w K h
  unfold help_Kept_int.h help_Kept_int.H at h
  split at h
  ·
    replace h := vL_ok h
    obtain ⟨a0, a0n, a0c, rfl, h⟩ := h
    replace h := vL_ok h
    obtain ⟨a1, a1n, a1c, rfl, h⟩ := h
    replace h := vI_ok h
    obtain ⟨a2, rfl, h⟩ := h
    refine ⟨by kernel_rfl, fn_ok tab_ok help_Kept_int.C_ok (L := help_Kept_int.L) (D := help_Kept_int.D) Try.func36 help_Kept_int.hb (by kernel_rfl) (by rw [help_Kept_int.c_loops]; exact lcons help_Kept_int.lok5 (lnil)) (Nat.le_of_ble_eq_true (by kernel_rfl)) ?_⟩
    rw [help_Kept_int.eq]
    exact h
  · exact h.elim
/-! ### (*valise/valiseref06.Mixer).Learn: function 37 -/
def ref06_Mixer_Learn.l6 : Nat → Option Addr → Int → Option Addr → Nat → Nat → Int → World → (World → Prop) → Prop
  | 0, _, _, _, _, _, _, _, _ => False
  | N + 1, y0, y4, y5, y5n, y5c, y6, w, K0 =>
    bif (decide (y6 < 4)) then
      sm y5 fun p_26 =>
      if 0 ≤ (y6 : Int) ∧ (y6 : Int) < ((y5n : Nat) : Int) then
      ldI .i64 (p_26.add (Int.toNat y6)) w.drew fun x45_27 =>
      sm y0 fun p_28 =>
      ldL (p_28.add 1) w.drew fun x49_29 x49_29n x49_29c =>
      sm x49_29 fun p_30 =>
      if 0 ≤ (y6 : Int) ∧ (y6 : Int) < ((x49_29n : Nat) : Int) then
      ldI .i64 (p_30.add (Int.toNat y6)) w.drew fun x52_31 =>
      sm y5 fun p_32 =>
      if 0 ≤ (y6 : Int) ∧ (y6 : Int) < ((y5n : Nat) : Int) then
      stC (p_32.add (Int.toNat y6)) (Value.int .i64 (mx (-16777216) (mn (IntKind.wrap .i64 (x45_27 + (shr .i64 (IntKind.wrap .i64 ((IntKind.wrap .i64 (x52_31 * y4)) + 32768)) 16))) 16777216))) w.drew fun w =>
      let v6_33 := (IntKind.wrap .i64 (y6 + 1))
      ref06_Mixer_Learn.l6 N y0 y4 y5 y5n y5c v6_33 w K0
      else False
      else False
      else False
    else
      K0 w

def ref06_Mixer_Learn.f (a0 : Option Addr) (a1 : Int) (w : World) (K : World → Prop) : Prop :=
  sm a0 fun p_3 =>
  ldB (p_3.add 4) w fun x10_4 =>
  bif (!x10_4) then
    K w
  else
    sm a0 fun p_6 =>
    ldI .i64 (p_6.add 3) w fun x15_7 =>
    let v4_8 := (IntKind.wrap .i64 ((IntKind.wrap .i64 (0 - x15_7)) * 7))
    let J_35 := fun (j4_14 : Int) (w : World) =>
      ((sm a0 fun p_16 =>
      ldL p_16 w.drew fun x29_17 x29_17n x29_17c =>
      sm a0 fun p_18 =>
      ldI .i64 (p_18.add 2) w.drew fun x33_19 =>
      sm x29_17 fun p_20 =>
      if 0 ≤ (x33_19 : Int) ∧ (x33_19 : Int) < ((x29_17n : Nat) : Int) then
      ldL (p_20.add (Int.toNat x33_19)) w.drew fun x35_21 x35_21n x35_21c =>
      ∃ N_34 : Nat, ref06_Mixer_Learn.l6 N_34 a0 j4_14 x35_21 x35_21n x35_21c 0 w.drew
      (fun w =>
        K w)
      else False) : Prop)
    bif (a1 != 0) then
      sm a0 fun p_11 =>
      ldI .i64 (p_11.add 3) w fun x23_12 =>
      let v4_13 := (IntKind.wrap .i64 ((IntKind.wrap .i64 (4095 - x23_12)) * 7))
      J_35 v4_13 w
    else
      J_35 v4_8 w
def ref06_Mixer_Learn.H (F : type_of% @ref06_Mixer_Learn.f) : Hf := fun args w K => match args with
  | [v0, v1] => vP v0 fun a0 => vI .i64 v1 fun a1 => F a0 a1 w (fun w => K (Value.tuple #[]) w)
  | _ => False
def ref06_Mixer_Learn.h : Hf := ref06_Mixer_Learn.H @ref06_Mixer_Learn.f
def ref06_Mixer_Learn.C : Hd := hnil
theorem ref06_Mixer_Learn.C_ok : CSound Try.prog ref06_Mixer_Learn.C := hnil_ok
def ref06_Mixer_Learn.D : Nat → Plan := fun i => (match Nat.beq i 8 with | true => .take 0 (.take 1 (.take 2 (.take 3 (.take 4 (.take 5 (.take 6 (.take 7 (.take 8 (.take 9 (.take 10 (.take 11 (.take 12 (.take 13 (.take 14 (.take 15 (.take 16 (.take 17 (.take 18 (.take 19 (.take 20 (.eff 21 (.done)))))))))))))))))))))) | false => (match Nat.beq i 4 with | true => .take 0 (.take 1 (.take 2 (.take 3 (.take 4 (.take 5 (.take 6 (.take 7 (.take 8 (.take 9 (.take 10 (.done))))))))))) | false => .done))
noncomputable def ref06_Mixer_Learn.c : Code := Try.f37.body.getD .skip
theorem ref06_Mixer_Learn.hb : Try.f37.body = some ref06_Mixer_Learn.c := by kernel_rfl
noncomputable def ref06_Mixer_Learn.b0 : Code := (loopsOf ref06_Mixer_Learn.c).getD 0 .skip
theorem ref06_Mixer_Learn.b0_loops : loopsOf ref06_Mixer_Learn.b0 = [] := by kernel_rfl
theorem ref06_Mixer_Learn.c_loops : loopsOf ref06_Mixer_Learn.c = [ref06_Mixer_Learn.b0] := by kernel_rfl
def ref06_Mixer_Learn.hn6 (N : Nat) (f : Fr) (w : World) (K : AExit → Fr → World → Prop) : Prop :=
  gN f 61 <| gP f 0 fun y0 => gI .i64 f 4 fun y4 => gL f 5 fun y5 y5n y5c => gI .i64 f 6 fun y6 => ref06_Mixer_Learn.l6 N y0 y4 y5 y5n y5c y6 w (fun w => K (.exit 0) [none, none, none, none, none, none, none, none, none, none, none, none, none, none, none, none, none, none, none, none, none, none, none, none, none, none, none, none, none, none, none, none, none, none, none, none, none, none, none, none, none, none, none, none, none, none, none, none, none, none, none, none, none, none, none, none, none, none, none, none, none] w)
def ref06_Mixer_Learn.hx6 : AExit → Fr → World → (AExit → Fr → World → Prop) → Prop := fun e f w K => match e with
  | .normal => False
  | .exit i => (match Nat.beq i 0 with | true => gN f 61 <|  K (.exit 0) [none, none, none, none, none, none, none, none, none, none, none, none, none, none, none, none, none, none, none, none, none, none, none, none, none, none, none, none, none, none, none, none, none, none, none, none, none, none, none, none, none, none, none, none, none, none, none, none, none, none, none, none, none, none, none, none, none, none, none, none, none] w | false => False)
  | .ret => False
def ref06_Mixer_Learn.L : LHd := fun l f w K => (match Nat.beq l 6 with | true => ∃ N, ref06_Mixer_Learn.hn6 N f w K | false => False)
theorem ref06_Mixer_Learn.le6 (N : Nat) (y0 : Option Addr) (y4 : Int) (y5 : Option Addr) (y5n : Nat) (y5c : Nat) (y6 : Int) (w : World) (K : AExit → Fr → World → Prop) : awp ref06_Mixer_Learn.C ref06_Mixer_Learn.L ref06_Mixer_Learn.D tab ref06_Mixer_Learn.b0 (lpost ref06_Mixer_Learn.hn6 ref06_Mixer_Learn.hx6 N K) [some (Value.pointer y0), none, none, none, some (Value.int .i64 y4), some (Value.slice y5 y5n y5c), some (Value.int .i64 y6), none, none, none, none, none, none, none, none, none, none, none, none, none, none, none, none, none, none, none, none, none, none, none, none, none, none, none, none, none, none, none, none, none, none, none, none, none, none, none, none, none, none, none, none, none, none, none, none, none, none, none, none, none, none] w = ref06_Mixer_Learn.l6 (N + 1) y0 y4 y5 y5n y5c y6 w (fun w => K (.exit 0) [none, none, none, none, none, none, none, none, none, none, none, none, none, none, none, none, none, none, none, none, none, none, none, none, none, none, none, none, none, none, none, none, none, none, none, none, none, none, none, none, none, none, none, none, none, none, none, none, none, none, none, none, none, none, none, none, none, none, none, none, none] w) := by kernel_rfl
theorem ref06_Mixer_Learn.lok6 : LoopOk Try.prog ref06_Mixer_Learn.L ref06_Mixer_Learn.b0 := by
  refine loop_ok tab_ok ref06_Mixer_Learn.C_ok (D := ref06_Mixer_Learn.D) (ref06_Mixer_Learn.hn6) (ref06_Mixer_Learn.hx6) (by kernel_rfl) (by rw [ref06_Mixer_Learn.b0_loops]; exact lnil) ?_ ?_ ?_ ?_
  · intro f w K h
    unfold ref06_Mixer_Learn.hn6 at h
    obtain ⟨hlen, h⟩ := gN_ok h
    obtain ⟨y0, h0, h⟩ := gP_ok h
    obtain ⟨y4, h4, h⟩ := gI_ok h
    obtain ⟨y5, y5n, y5c, h5, h⟩ := gL_ok h
    obtain ⟨y6, h6, h⟩ := gI_ok h
    exact h
  · intro N f w K h
    unfold ref06_Mixer_Learn.hn6 at h
    obtain ⟨hlen, h⟩ := gN_ok h
    obtain ⟨y0, h0, h⟩ := gP_ok h
    obtain ⟨y4, h4, h⟩ := gI_ok h
    obtain ⟨y5, y5n, y5c, h5, h⟩ := gL_ok h
    obtain ⟨y6, h6, h⟩ := gI_ok h
    refine ⟨[some (Value.pointer y0), none, none, none, some (Value.int .i64 y4), some (Value.slice y5 y5n y5c), some (Value.int .i64 y6), none, none, none, none, none, none, none, none, none, none, none, none, none, none, none, none, none, none, none, none, none, none, none, none, none, none, none, none, none, none, none, none, none, none, none, none, none, none, none, none, none, none, none, none, none, none, none, none, none, none, none, none, none, none], hlen, ⟨h0, h4, h5, h6, trivial⟩, ?_⟩
    rw [ref06_Mixer_Learn.le6]
    exact h
  · intro e f w K h
    cases e with
    | normal => exact h.elim
    | exit i =>
      unfold ref06_Mixer_Learn.hx6 at h
      simp only at h
      split at h
      · rename_i hb
        obtain rfl := Nat.eq_of_beq_eq_true hb
        obtain ⟨hlen, h⟩ := gN_ok h
        exact ⟨[none, none, none, none, none, none, none, none, none, none, none, none, none, none, none, none, none, none, none, none, none, none, none, none, none, none, none, none, none, none, none, none, none, none, none, none, none, none, none, none, none, none, none, none, none, none, none, none, none, none, none, none, none, none, none, none, none, none, none, none, none], hlen, trivial, h⟩
      · exact (show False from h).elim
    | ret =>
      exact (show False from h).elim
  · intro f w K h
    have e : lid ref06_Mixer_Learn.b0 = 6 := by kernel_rfl
    rw [e] at h
    exact h
theorem ref06_Mixer_Learn.eq (a0 : Option Addr) (a1 : Int) (w : World) (K : Value → World → Prop) : afn ref06_Mixer_Learn.C ref06_Mixer_Learn.L ref06_Mixer_Learn.D tab Try.f37 [(Value.pointer a0), (Value.int .i64 a1)] w K = ref06_Mixer_Learn.f a0 a1 w (fun w => K (Value.tuple #[]) w) := by kernel_rfl
theorem ref06_Mixer_Learn.ok : FSound Try.prog 37 ref06_Mixer_Learn.h := by
  intro args w K h
  unfold ref06_Mixer_Learn.h ref06_Mixer_Learn.H at h
  split at h
  ·
    replace h := vP_ok h
    obtain ⟨a0, rfl, h⟩ := h
    replace h := vI_ok h
    obtain ⟨a1, rfl, h⟩ := h
    refine ⟨by kernel_rfl, fn_ok tab_ok ref06_Mixer_Learn.C_ok (L := ref06_Mixer_Learn.L) (D := ref06_Mixer_Learn.D) Try.func37 ref06_Mixer_Learn.hb (by kernel_rfl) (by rw [ref06_Mixer_Learn.c_loops]; exact lcons ref06_Mixer_Learn.lok6 (lnil)) (Nat.le_of_ble_eq_true (by kernel_rfl)) ?_⟩
    rw [ref06_Mixer_Learn.eq]
    exact h
  · exact h.elim
/-! ### (*valise/mix.Mixer).Weights: function 38 -/
def mix_Mixer_Weights.f (a0 : Option Addr) (a1 : Int) (w : World) (K : Option Addr → Nat → Nat → World → Prop) : Prop :=
  bif a0.isNone then
    K none 0 0 w
  else
    sm a0 fun p_4 =>
    ldL (p_4.add 7) w fun x12_5 x12_5n x12_5c =>
    bif (((x12_5n : Nat) : Int) == 0) then
      K none 0 0 w
    else
      sm a0 fun p_9 =>
      ldL (p_9.add 7) w.drew fun x19_10 x19_10n x19_10c =>
      (mix_Mixer_place.f a0 a1 w.drew fun r22_11 w =>
      (World.cell? w (p_9.add 7) = some (.slice x19_10 x19_10n x19_10c)) ∧
      (sm x19_10 fun p_12 =>
      if 0 ≤ (r22_11 : Int) ∧ (r22_11 : Int) < ((x19_10n : Nat) : Int) then
      ldI .i64 ((p_12.add (Int.toNat r22_11 * 4)).add 0) w fun x24_13 =>
      ldI .i64 ((p_12.add (Int.toNat r22_11 * 4)).add 1) w fun x24_14 =>
      ldI .i64 ((p_12.add (Int.toNat r22_11 * 4)).add 2) w fun x24_15 =>
      ldI .i64 ((p_12.add (Int.toNat r22_11 * 4)).add 3) w fun x24_16 =>
      newC 74 [(Value.int .i64 0), (Value.int .i64 0), (Value.int .i64 0), (Value.int .i64 0)] w fun a5_17 w =>
      (rdCs w (p_12.add (Int.toNat r22_11 * 4)) 4 0 = some [(Value.int .i64 x24_13), (Value.int .i64 x24_14), (Value.int .i64 x24_15), (Value.int .i64 x24_16)]) ∧
      ((World.cell? w (p_9.add 7) = some (.slice x19_10 x19_10n x19_10c)) ∧
      (stCs a5_17 [(Value.int .i64 x24_13), (Value.int .i64 x24_14), (Value.int .i64 x24_15), (Value.int .i64 x24_16)] 0 w fun w =>
      K (some a5_17) 4 4 w))
      else False)) ∧
      (newC 74 [(Value.int .i64 0), (Value.int .i64 0), (Value.int .i64 0), (Value.int .i64 0)] w.drew fun a5_18 w =>
      (World.cell? w (p_9.add 7) = some (.slice x19_10 x19_10n x19_10c)) ∧
      (mix_Mixer_place.f a0 a1 w fun r22_19 w =>
      (World.cell? w (p_9.add 7) = some (.slice x19_10 x19_10n x19_10c)) ∧
      (sm x19_10 fun p_20 =>
      if 0 ≤ (r22_19 : Int) ∧ (r22_19 : Int) < ((x19_10n : Nat) : Int) then
      ldI .i64 ((p_20.add (Int.toNat r22_19 * 4)).add 0) w fun x24_21 =>
      ldI .i64 ((p_20.add (Int.toNat r22_19 * 4)).add 1) w fun x24_22 =>
      ldI .i64 ((p_20.add (Int.toNat r22_19 * 4)).add 2) w fun x24_23 =>
      ldI .i64 ((p_20.add (Int.toNat r22_19 * 4)).add 3) w fun x24_24 =>
      stCs a5_18 [(Value.int .i64 x24_21), (Value.int .i64 x24_22), (Value.int .i64 x24_23), (Value.int .i64 x24_24)] 0 w fun w =>
      K (some a5_18) 4 4 w
      else False)))
def mix_Mixer_Weights.H (F : type_of% @mix_Mixer_Weights.f) : Hf := fun args w K => match args with
  | [v0, v1] => vP v0 fun a0 => vI .i64 v1 fun a1 => F a0 a1 w (fun r0 r0n r0c w => K (Value.slice r0 r0n r0c) w)
  | _ => False
def mix_Mixer_Weights.h : Hf := mix_Mixer_Weights.H @mix_Mixer_Weights.f
def mix_Mixer_Weights.C : Hd := hcons 42 mix_Mixer_place.h (hnil)
theorem mix_Mixer_Weights.C_ok : CSound Try.prog mix_Mixer_Weights.C := hcons_ok mix_Mixer_place.ok (hnil_ok)
def mix_Mixer_Weights.D : Nat → Plan := fun i => (match Nat.beq i 3 with | true => .take 0 (.take 1 (.take 2 (.take 3 (.take 4 (.take 5 (.eff2 6 (.take 7 (.take 8 (.eff 9 (.eff 10 (.done))))) 9 (.eff 6 (.take 7 (.take 8 (.eff 10 (.done))))))))))) | false => .done)
noncomputable def mix_Mixer_Weights.c : Code := Try.f38.body.getD .skip
theorem mix_Mixer_Weights.hb : Try.f38.body = some mix_Mixer_Weights.c := by kernel_rfl
theorem mix_Mixer_Weights.c_loops : loopsOf mix_Mixer_Weights.c = [] := by kernel_rfl
def mix_Mixer_Weights.L : LHd := fun l f w K => False
theorem mix_Mixer_Weights.eq (a0 : Option Addr) (a1 : Int) (w : World) (K : Value → World → Prop) : afn mix_Mixer_Weights.C mix_Mixer_Weights.L mix_Mixer_Weights.D tab Try.f38 [(Value.pointer a0), (Value.int .i64 a1)] w K = mix_Mixer_Weights.f a0 a1 w (fun r0 r0n r0c w => K (Value.slice r0 r0n r0c) w) := by kernel_rfl
theorem mix_Mixer_Weights.ok : FSound Try.prog 38 mix_Mixer_Weights.h := by
  intro args w K h
  unfold mix_Mixer_Weights.h mix_Mixer_Weights.H at h
  split at h
  ·
    replace h := vP_ok h
    obtain ⟨a0, rfl, h⟩ := h
    replace h := vI_ok h
    obtain ⟨a1, rfl, h⟩ := h
    refine ⟨by kernel_rfl, fn_ok tab_ok mix_Mixer_Weights.C_ok (L := mix_Mixer_Weights.L) (D := mix_Mixer_Weights.D) Try.func38 mix_Mixer_Weights.hb (by kernel_rfl) (by rw [mix_Mixer_Weights.c_loops]; exact lnil) (Nat.le_of_ble_eq_true (by kernel_rfl)) ?_⟩
    rw [mix_Mixer_Weights.eq]
    exact h
  · exact h.elim

end Go.Proofs.Ytplepdjcgojagaa.G
