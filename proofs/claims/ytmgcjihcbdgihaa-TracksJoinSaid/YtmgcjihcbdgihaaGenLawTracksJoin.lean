/- Go functions as predicate transformers, written by a program of this session (gen.py), with their soundness. -/
import Derived.Test.YtmgcjihcbdgihaaGen4
set_option linter.unusedVariables false
set_option linter.unusedSimpArgs false
set_option maxRecDepth 100000
namespace Go.Proofs.Ytmgcjihcbdgihaa.G
open Go Go.Proofs.Ytmgcjihcbdgihaa.Vm
/-! ### valise/valiselaw14.TracksJoin: function 9 -/
def law14_TracksJoin.l4 : Nat → Int → Option Addr → Nat → Nat → Int → World → (Int → Option Addr → Nat → Nat → World → Prop) → (Bool → World → Prop) → Prop
  | 0, _, _, _, _, _, _, _, _ => False
  | N + 1, y0, y1, y1n, y1c, y5, w, K0, Kr =>
    bif (decide (y5 < ((y1n : Nat) : Int))) then
      sm y1 fun p_12 =>
      if 0 ≤ (y5 : Int) ∧ (y5 : Int) < ((y1n : Nat) : Int) then
      ldL (p_12.add (Int.toNat y5)) w fun x23_13 x23_13n x23_13c =>
      bif (decide (((x23_13n : Nat) : Int) > 1000)) then
        law14_awake.f  w fun r26_15 w =>
        Kr r26_15 w
      else
        let v5_16 := (IntKind.wrap .i64 (y5 + 1))
        law14_TracksJoin.l4 N y0 y1 y1n y1c v5_16 w K0 Kr
      else False
    else
      K0 y0 y1 y1n y1c w

def law14_TracksJoin.f (a0 : Int) (a1 : Option Addr) (a1n : Nat) (a1c : Nat) (w : World) (K : Bool → World → Prop) : Prop :=
  bif (decide (((a1n : Nat) : Int) > 20)) then
    law14_awake.f  w fun r13_5 w =>
    K r13_5 w
  else
    ∃ N_17 : Nat, law14_TracksJoin.l4 N_17 a0 a1 a1n a1c 0 w
    (fun o0_18 o1_19 o1_19n o1_19c w =>
      tracks_Join.f o0_18 o1_19 o1_19n o1_19c w fun r30_22 r30_22n r30_22c r30_23 w =>
      ref14_Join.f o0_18 o1_19 o1_19n o1_19c w fun r36_25 r36_25n r36_25c r36_26 w =>
      law14_awake.f  w fun r39_28 w =>
      bif r39_28 then
        help_Bytes.f r30_22 r30_22n r30_22c r36_25 r36_25n r36_25c w fun r43_29 w =>
        bif r43_29 then
          let v4_30 := (r30_23 == r36_26)
          K v4_30 w
        else
          K false w
      else
        K false w)
    (fun o4_20 w =>
      K o4_20 w)
def law14_TracksJoin.H (F : type_of% @law14_TracksJoin.f) : Hf := fun args w K => match args with
  | [v0, v1] => vI .i64 v0 fun a0 => vL v1 fun a1 a1n a1c => F a0 a1 a1n a1c w (fun r0 w => K (Value.bool r0) w)
  | _ => False
def law14_TracksJoin.h : Hf := law14_TracksJoin.H @law14_TracksJoin.f
def law14_TracksJoin.CG (F27 : type_of% @law14_awake.f) (F36 : type_of% @tracks_Join.f) (F37 : type_of% @ref14_Join.f) (F18 : type_of% @help_Bytes.f) : Hd := hcons 18 (help_Bytes.H F18) (hcons 37 (ref14_Join.H F37) (hcons 36 (tracks_Join.H F36) (hcons 27 (law14_awake.H F27) (hnil))))
def law14_TracksJoin.C : Hd := law14_TracksJoin.CG @law14_awake.f @tracks_Join.f @ref14_Join.f @help_Bytes.f
def law14_TracksJoin.G (F27 : type_of% @law14_awake.f) (F36 : type_of% @tracks_Join.f) (F37 : type_of% @ref14_Join.f) (F18 : type_of% @help_Bytes.f) (a0 : Int) (a1 : Option Addr) (a1n : Nat) (a1c : Nat) (w : World) (K : Bool → World → Prop) : Prop :=
  bif (decide (((a1n : Nat) : Int) > 20)) then
    F27  w fun r13_5 w =>
    K r13_5 w
  else
    ∃ N_17 : Nat, law14_TracksJoin.l4 N_17 a0 a1 a1n a1c 0 w
    (fun o0_18 o1_19 o1_19n o1_19c w =>
      F36 o0_18 o1_19 o1_19n o1_19c w fun r30_22 r30_22n r30_22c r30_23 w =>
      F37 o0_18 o1_19 o1_19n o1_19c w fun r36_25 r36_25n r36_25c r36_26 w =>
      F27  w fun r39_28 w =>
      bif r39_28 then
        F18 r30_22 r30_22n r30_22c r36_25 r36_25n r36_25c w fun r43_29 w =>
        bif r43_29 then
          let v4_30 := (r30_23 == r36_26)
          K v4_30 w
        else
          K false w
      else
        K false w)
    (fun o4_20 w =>
      K o4_20 w)
theorem law14_TracksJoin.C_ok : CSound Try.prog law14_TracksJoin.C := hcons_ok help_Bytes.ok (hcons_ok ref14_Join.ok (hcons_ok tracks_Join.ok (hcons_ok law14_awake.ok (hnil_ok))))
def law14_TracksJoin.D : Nat → Plan := fun i => .done
noncomputable def law14_TracksJoin.c : Code := Try.f9.body.getD .skip
theorem law14_TracksJoin.hb : Try.f9.body = some law14_TracksJoin.c := by kernel_rfl
noncomputable def law14_TracksJoin.b0 : Code := (loopsOf law14_TracksJoin.c).getD 0 .skip
theorem law14_TracksJoin.b0_loops : loopsOf law14_TracksJoin.b0 = [] := by kernel_rfl
theorem law14_TracksJoin.c_loops : loopsOf law14_TracksJoin.c = [law14_TracksJoin.b0] := by kernel_rfl
def law14_TracksJoin.l4G (F27 : type_of% @law14_awake.f) (F36 : type_of% @tracks_Join.f) (F37 : type_of% @ref14_Join.f) (F18 : type_of% @help_Bytes.f) (R : Int → Option Addr → Nat → Nat → Int → World → (Int → Option Addr → Nat → Nat → World → Prop) → (Bool → World → Prop) → Prop) : Int → Option Addr → Nat → Nat → Int → World → (Int → Option Addr → Nat → Nat → World → Prop) → (Bool → World → Prop) → Prop := fun y0 y1 y1n y1c y5 w K0 Kr =>
    bif (decide (y5 < ((y1n : Nat) : Int))) then
      sm y1 fun p_12 =>
      if 0 ≤ (y5 : Int) ∧ (y5 : Int) < ((y1n : Nat) : Int) then
      ldL (p_12.add (Int.toNat y5)) w fun x23_13 x23_13n x23_13c =>
      bif (decide (((x23_13n : Nat) : Int) > 1000)) then
        F27  w fun r26_15 w =>
        Kr r26_15 w
      else
        let v5_16 := (IntKind.wrap .i64 (y5 + 1))
        R y0 y1 y1n y1c v5_16 w K0 Kr
      else False
    else
      K0 y0 y1 y1n y1c w

def law14_TracksJoin.hn4 (N : Nat) (f : Fr) (w : World) (K : AExit → Fr → World → Prop) : Prop :=
  gN f 50 <| gI .i64 f 0 fun y0 => gL f 1 fun y1 y1n y1c => gI .i64 f 5 fun y5 => law14_TracksJoin.l4 N y0 y1 y1n y1c y5 w (fun o0 o1 o1n o1c w => K (.exit 0) [some (Value.int .i64 o0), some (Value.slice o1 o1n o1c), none, none, none, none, none, none, none, none, none, none, none, none, none, none, none, none, none, none, none, none, none, none, none, none, none, none, none, none, none, none, none, none, none, none, none, none, none, none, none, none, none, none, none, none, none, none, none, none] w) (fun o4 w => K .ret [none, none, none, none, some (Value.bool o4), none, none, none, none, none, none, none, none, none, none, none, none, none, none, none, none, none, none, none, none, none, none, none, none, none, none, none, none, none, none, none, none, none, none, none, none, none, none, none, none, none, none, none, none, none] w)
def law14_TracksJoin.hx4 : AExit → Fr → World → (AExit → Fr → World → Prop) → Prop := fun e f w K => match e with
  | .normal => False
  | .exit i => (match Nat.beq i 0 with | true => gN f 50 <| gI .i64 f 0 fun o0 => gL f 1 fun o1 o1n o1c => K (.exit 0) [some (Value.int .i64 o0), some (Value.slice o1 o1n o1c), none, none, none, none, none, none, none, none, none, none, none, none, none, none, none, none, none, none, none, none, none, none, none, none, none, none, none, none, none, none, none, none, none, none, none, none, none, none, none, none, none, none, none, none, none, none, none, none] w | false => False)
  | .ret => gN f 50 <| gB f 4 fun o4 => K .ret [none, none, none, none, some (Value.bool o4), none, none, none, none, none, none, none, none, none, none, none, none, none, none, none, none, none, none, none, none, none, none, none, none, none, none, none, none, none, none, none, none, none, none, none, none, none, none, none, none, none, none, none, none, none] w
def law14_TracksJoin.L : LHd := fun l f w K => (match Nat.beq l 4 with | true => ∃ N, law14_TracksJoin.hn4 N f w K | false => False)
theorem law14_TracksJoin.leG4 (F27 : type_of% @law14_awake.f) (F36 : type_of% @tracks_Join.f) (F37 : type_of% @ref14_Join.f) (F18 : type_of% @help_Bytes.f) (N : Nat) (y0 : Int) (y1 : Option Addr) (y1n : Nat) (y1c : Nat) (y5 : Int) (w : World) (K : AExit → Fr → World → Prop) : awp (law14_TracksJoin.CG F27 F36 F37 F18) law14_TracksJoin.L law14_TracksJoin.D tab law14_TracksJoin.b0 (lpost law14_TracksJoin.hn4 law14_TracksJoin.hx4 N K) [some (Value.int .i64 y0), some (Value.slice y1 y1n y1c), none, none, none, some (Value.int .i64 y5), none, none, none, none, none, none, none, none, none, none, none, none, none, none, none, none, none, none, none, none, none, none, none, none, none, none, none, none, none, none, none, none, none, none, none, none, none, none, none, none, none, none, none, none] w = law14_TracksJoin.l4G F27 F36 F37 F18 (law14_TracksJoin.l4 N) y0 y1 y1n y1c y5 w (fun o0 o1 o1n o1c w => K (.exit 0) [some (Value.int .i64 o0), some (Value.slice o1 o1n o1c), none, none, none, none, none, none, none, none, none, none, none, none, none, none, none, none, none, none, none, none, none, none, none, none, none, none, none, none, none, none, none, none, none, none, none, none, none, none, none, none, none, none, none, none, none, none, none, none] w) (fun o4 w => K .ret [none, none, none, none, some (Value.bool o4), none, none, none, none, none, none, none, none, none, none, none, none, none, none, none, none, none, none, none, none, none, none, none, none, none, none, none, none, none, none, none, none, none, none, none, none, none, none, none, none, none, none, none, none, none] w) := by kernel_rfl
theorem law14_TracksJoin.les4 (N : Nat) : law14_TracksJoin.l4 (N + 1) = law14_TracksJoin.l4G @law14_awake.f @tracks_Join.f @ref14_Join.f @help_Bytes.f (law14_TracksJoin.l4 N) := by kernel_rfl
theorem law14_TracksJoin.le4 (N : Nat) (y0 : Int) (y1 : Option Addr) (y1n : Nat) (y1c : Nat) (y5 : Int) (w : World) (K : AExit → Fr → World → Prop) : awp law14_TracksJoin.C law14_TracksJoin.L law14_TracksJoin.D tab law14_TracksJoin.b0 (lpost law14_TracksJoin.hn4 law14_TracksJoin.hx4 N K) [some (Value.int .i64 y0), some (Value.slice y1 y1n y1c), none, none, none, some (Value.int .i64 y5), none, none, none, none, none, none, none, none, none, none, none, none, none, none, none, none, none, none, none, none, none, none, none, none, none, none, none, none, none, none, none, none, none, none, none, none, none, none, none, none, none, none, none, none] w = law14_TracksJoin.l4 (N + 1) y0 y1 y1n y1c y5 w (fun o0 o1 o1n o1c w => K (.exit 0) [some (Value.int .i64 o0), some (Value.slice o1 o1n o1c), none, none, none, none, none, none, none, none, none, none, none, none, none, none, none, none, none, none, none, none, none, none, none, none, none, none, none, none, none, none, none, none, none, none, none, none, none, none, none, none, none, none, none, none, none, none, none, none] w) (fun o4 w => K .ret [none, none, none, none, some (Value.bool o4), none, none, none, none, none, none, none, none, none, none, none, none, none, none, none, none, none, none, none, none, none, none, none, none, none, none, none, none, none, none, none, none, none, none, none, none, none, none, none, none, none, none, none, none, none] w) := by
  rw [law14_TracksJoin.les4]
  exact law14_TracksJoin.leG4 @law14_awake.f @tracks_Join.f @ref14_Join.f @help_Bytes.f N y0 y1 y1n y1c y5 w K
theorem law14_TracksJoin.lok4 : LoopOk Try.prog law14_TracksJoin.L law14_TracksJoin.b0 := by
  refine loop_ok tab_ok law14_TracksJoin.C_ok (D := law14_TracksJoin.D) (law14_TracksJoin.hn4) (law14_TracksJoin.hx4) (by kernel_rfl) (by rw [law14_TracksJoin.b0_loops]; exact lnil) ?_ ?_ ?_ ?_
  · intro f w K h
    unfold law14_TracksJoin.hn4 at h
    obtain ⟨hlen, h⟩ := gN_ok h
    obtain ⟨y0, h0, h⟩ := gI_ok h
    obtain ⟨y1, y1n, y1c, h1, h⟩ := gL_ok h
    obtain ⟨y5, h5, h⟩ := gI_ok h
    exact h
  · intro N f w K h
    unfold law14_TracksJoin.hn4 at h
    obtain ⟨hlen, h⟩ := gN_ok h
    obtain ⟨y0, h0, h⟩ := gI_ok h
    obtain ⟨y1, y1n, y1c, h1, h⟩ := gL_ok h
    obtain ⟨y5, h5, h⟩ := gI_ok h
    refine ⟨[some (Value.int .i64 y0), some (Value.slice y1 y1n y1c), none, none, none, some (Value.int .i64 y5), none, none, none, none, none, none, none, none, none, none, none, none, none, none, none, none, none, none, none, none, none, none, none, none, none, none, none, none, none, none, none, none, none, none, none, none, none, none, none, none, none, none, none, none], hlen, ⟨h0, h1, h5, trivial⟩, ?_⟩
    rw [law14_TracksJoin.le4]
    exact h
  · intro e f w K h
    cases e with
    | normal => exact h.elim
    | exit i =>
      unfold law14_TracksJoin.hx4 at h
      simp only at h
      split at h
      · rename_i hb
        obtain rfl := Nat.eq_of_beq_eq_true hb
        obtain ⟨hlen, h⟩ := gN_ok h
        obtain ⟨o0, h0, h⟩ := gI_ok h
        obtain ⟨o1, o1n, o1c, h1, h⟩ := gL_ok h
        exact ⟨[some (Value.int .i64 o0), some (Value.slice o1 o1n o1c), none, none, none, none, none, none, none, none, none, none, none, none, none, none, none, none, none, none, none, none, none, none, none, none, none, none, none, none, none, none, none, none, none, none, none, none, none, none, none, none, none, none, none, none, none, none, none, none], hlen, ⟨h0, h1, trivial⟩, h⟩
      · exact (show False from h).elim
    | ret =>
      unfold law14_TracksJoin.hx4 at h
      simp only at h
      obtain ⟨hlen, h⟩ := gN_ok h
      obtain ⟨o4, h4, h⟩ := gB_ok h
      exact ⟨[none, none, none, none, some (Value.bool o4), none, none, none, none, none, none, none, none, none, none, none, none, none, none, none, none, none, none, none, none, none, none, none, none, none, none, none, none, none, none, none, none, none, none, none, none, none, none, none, none, none, none, none, none, none], hlen, ⟨h4, trivial⟩, h⟩
  · intro f w K h
    have e : lid law14_TracksJoin.b0 = 4 := by kernel_rfl
    rw [e] at h
    exact h
theorem law14_TracksJoin.eqG (F27 : type_of% @law14_awake.f) (F36 : type_of% @tracks_Join.f) (F37 : type_of% @ref14_Join.f) (F18 : type_of% @help_Bytes.f) (a0 : Int) (a1 : Option Addr) (a1n : Nat) (a1c : Nat) (w : World) (K : Value → World → Prop) : afn (law14_TracksJoin.CG F27 F36 F37 F18) law14_TracksJoin.L law14_TracksJoin.D tab Try.f9 [(Value.int .i64 a0), (Value.slice a1 a1n a1c)] w K = law14_TracksJoin.G F27 F36 F37 F18 a0 a1 a1n a1c w (fun r0 w => K (Value.bool r0) w) := by kernel_rfl
theorem law14_TracksJoin.eq (a0 : Int) (a1 : Option Addr) (a1n : Nat) (a1c : Nat) (w : World) (K : Value → World → Prop) : afn law14_TracksJoin.C law14_TracksJoin.L law14_TracksJoin.D tab Try.f9 [(Value.int .i64 a0), (Value.slice a1 a1n a1c)] w K = law14_TracksJoin.f a0 a1 a1n a1c w (fun r0 w => K (Value.bool r0) w) := law14_TracksJoin.eqG @law14_awake.f @tracks_Join.f @ref14_Join.f @help_Bytes.f a0 a1 a1n a1c w K
theorem law14_TracksJoin.ok : FSound Try.prog 9 law14_TracksJoin.h := by
  intro args w K h
  unfold law14_TracksJoin.h law14_TracksJoin.H at h
  split at h
  ·
    replace h := vI_ok h
    obtain ⟨a0, rfl, h⟩ := h
    replace h := vL_ok h
    obtain ⟨a1, a1n, a1c, rfl, h⟩ := h
    refine ⟨by kernel_rfl, fn_ok tab_ok law14_TracksJoin.C_ok (L := law14_TracksJoin.L) (D := law14_TracksJoin.D) Try.func9 law14_TracksJoin.hb (by kernel_rfl) (by rw [law14_TracksJoin.c_loops]; exact lcons law14_TracksJoin.lok4 (lnil)) (Nat.le_of_ble_eq_true (by kernel_rfl)) ?_⟩
    rw [law14_TracksJoin.eq]
    exact h
  · exact h.elim
end Go.Proofs.Ytmgcjihcbdgihaa.G
