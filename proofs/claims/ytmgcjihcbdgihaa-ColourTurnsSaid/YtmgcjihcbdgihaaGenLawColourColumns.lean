/- Go functions as predicate transformers, written by a program of this session (gen.py), with their soundness. -/
import Derived.Test.YtmgcjihcbdgihaaGen4
set_option linter.unusedVariables false
set_option linter.unusedSimpArgs false
set_option maxRecDepth 100000
namespace Go.Proofs.Ytmgcjihcbdgihaa.G
open Go Go.Proofs.Ytmgcjihcbdgihaa.Vm
/-! ### valise/valiselaw18.ColourColumns: function 4 -/
def law18_ColourColumns.l9 : Nat → Option Addr → Nat → Nat → Int → Option Addr → Nat → Nat → Int → Int → World → (Option Addr → Nat → Nat → Int → Option Addr → Nat → Nat → Int → World → Prop) → (Bool → World → Prop) → Prop
  | 0, _, _, _, _, _, _, _, _, _, _, _, _ => False
  | N + 1, y0, y0n, y0c, y1, y5, y5n, y5c, y6, y7, w, K0, Kr =>
    bif (decide (y7 < (IntKind.wrap .i64 (y6 * y1)))) then
      if y1 = 0 then False else
      if y1 = 0 then False else
      sm y5 fun p_23 =>
      if 0 ≤ ((IntKind.wrap .i64 ((IntKind.wrap .i64 ((Int.tmod y7 y1) * y6)) + (IntKind.wrap .i64 (Int.tdiv y7 y1)))) : Int) ∧ ((IntKind.wrap .i64 ((IntKind.wrap .i64 ((Int.tmod y7 y1) * y6)) + (IntKind.wrap .i64 (Int.tdiv y7 y1)))) : Int) < ((y5n : Nat) : Int) then
      ldI .u8 (p_23.add (Int.toNat (IntKind.wrap .i64 ((IntKind.wrap .i64 ((Int.tmod y7 y1) * y6)) + (IntKind.wrap .i64 (Int.tdiv y7 y1)))))) w.drew fun x51_24 =>
      sm y0 fun p_25 =>
      if 0 ≤ (y7 : Int) ∧ (y7 : Int) < ((y0n : Nat) : Int) then
      ldI .u8 (p_25.add (Int.toNat y7)) w.drew fun x55_26 =>
      bif (x51_24 != x55_26) then
        Kr false w.drew
      else
        let v7_28 := (IntKind.wrap .i64 (y7 + 1))
        law18_ColourColumns.l9 N y0 y0n y0c y1 y5 y5n y5c y6 v7_28 w.drew K0 Kr
      else False
      else False
    else
      K0 y0 y0n y0c y1 y5 y5n y5c y6 w

def law18_ColourColumns.f (a0 : Option Addr) (a0n : Nat) (a0c : Nat) (a1 : Int) (w : World) (K : Bool → World → Prop) : Prop :=
  let v1_3 := (IntKind.wrap .i64 (1 + (IntKind.wrap .i64 (Int.tmod (IntKind.wrap .u64 a1) 16))))
  bif (decide (((a0n : Nat) : Int) > 1000)) then
    law18_awake.f  w fun r16_7 w =>
    K r16_7 w
  else
    colour_Apart.f a0 a0n a0c v1_3 w fun r19_9 r19_9n r19_9c w =>
    if v1_3 = 0 then False else
    let v6_11 := (IntKind.wrap .i64 (Int.tdiv ((a0n : Nat) : Int) v1_3))
    law18_awake.f  w fun r24_14 w =>
    bif (!r24_14) then
      K false w
    else
      bif (((r19_9n : Nat) : Int) != ((a0n : Nat) : Int)) then
        K false w
      else
        ∃ N_29 : Nat, law18_ColourColumns.l9 N_29 a0 a0n a0c v1_3 r19_9 r19_9n r19_9c v6_11 0 w
        (fun o0_30 o0_30n o0_30c o1_31 o5_32 o5_32n o5_32c o6_33 w =>
          bnd o5_32n o5_32c (some (Value.int .i64 (IntKind.wrap .i64 (o6_33 * o1_31)))) none fun l_36 h_37 =>
          bnd o0_30n o0_30c (some (Value.int .i64 (IntKind.wrap .i64 (o6_33 * o1_31)))) none fun l_38 h_39 =>
          help_Bytes.f (adrS o5_32 l_36 o5_32c 1) (h_37 - l_36) (o5_32c - l_36) (adrS o0_30 l_38 o0_30c 1) (h_39 - l_38) (o0_30c - l_38) w.drew fun r67_40 w =>
          K r67_40 w)
        (fun o4_34 w =>
          K o4_34 w)
def law18_ColourColumns.H (F : type_of% @law18_ColourColumns.f) : Hf := fun args w K => match args with
  | [v0, v1] => vL v0 fun a0 a0n a0c => vI .i64 v1 fun a1 => F a0 a0n a0c a1 w (fun r0 w => K (Value.bool r0) w)
  | _ => False
def law18_ColourColumns.h : Hf := law18_ColourColumns.H @law18_ColourColumns.f
def law18_ColourColumns.CG (F15 : type_of% @law18_awake.f) (F17 : type_of% @colour_Apart.f) (F18 : type_of% @help_Bytes.f) : Hd := hcons 18 (help_Bytes.H F18) (hcons 17 (colour_Apart.H F17) (hcons 15 (law18_awake.H F15) (hnil)))
def law18_ColourColumns.C : Hd := law18_ColourColumns.CG @law18_awake.f @colour_Apart.f @help_Bytes.f
def law18_ColourColumns.G (F15 : type_of% @law18_awake.f) (F17 : type_of% @colour_Apart.f) (F18 : type_of% @help_Bytes.f) (a0 : Option Addr) (a0n : Nat) (a0c : Nat) (a1 : Int) (w : World) (K : Bool → World → Prop) : Prop :=
  let v1_3 := (IntKind.wrap .i64 (1 + (IntKind.wrap .i64 (Int.tmod (IntKind.wrap .u64 a1) 16))))
  bif (decide (((a0n : Nat) : Int) > 1000)) then
    F15  w fun r16_7 w =>
    K r16_7 w
  else
    F17 a0 a0n a0c v1_3 w fun r19_9 r19_9n r19_9c w =>
    if v1_3 = 0 then False else
    let v6_11 := (IntKind.wrap .i64 (Int.tdiv ((a0n : Nat) : Int) v1_3))
    F15  w fun r24_14 w =>
    bif (!r24_14) then
      K false w
    else
      bif (((r19_9n : Nat) : Int) != ((a0n : Nat) : Int)) then
        K false w
      else
        ∃ N_29 : Nat, law18_ColourColumns.l9 N_29 a0 a0n a0c v1_3 r19_9 r19_9n r19_9c v6_11 0 w
        (fun o0_30 o0_30n o0_30c o1_31 o5_32 o5_32n o5_32c o6_33 w =>
          bnd o5_32n o5_32c (some (Value.int .i64 (IntKind.wrap .i64 (o6_33 * o1_31)))) none fun l_36 h_37 =>
          bnd o0_30n o0_30c (some (Value.int .i64 (IntKind.wrap .i64 (o6_33 * o1_31)))) none fun l_38 h_39 =>
          F18 (adrS o5_32 l_36 o5_32c 1) (h_37 - l_36) (o5_32c - l_36) (adrS o0_30 l_38 o0_30c 1) (h_39 - l_38) (o0_30c - l_38) w.drew fun r67_40 w =>
          K r67_40 w)
        (fun o4_34 w =>
          K o4_34 w)
theorem law18_ColourColumns.C_ok : CSound Try.prog law18_ColourColumns.C := hcons_ok help_Bytes.ok (hcons_ok colour_Apart.ok (hcons_ok law18_awake.ok (hnil_ok)))
def law18_ColourColumns.D : Nat → Plan := fun i => (match Nat.beq i 13 with | true => .take 0 (.take 1 (.take 2 (.take 3 (.take 4 (.take 5 (.take 6 (.take 7 (.take 8 (.take 9 (.eff 10 (.take 11 (.done)))))))))))) | false => (match Nat.beq i 11 with | true => .take 0 (.take 1 (.take 2 (.take 3 (.take 4 (.take 5 (.take 6 (.take 7 (.take 8 (.take 9 (.take 10 (.take 11 (.take 12 (.take 13 (.take 14 (.take 15 (.take 16 (.done))))))))))))))))) | false => .done))
noncomputable def law18_ColourColumns.c : Code := Try.f4.body.getD .skip
theorem law18_ColourColumns.hb : Try.f4.body = some law18_ColourColumns.c := by kernel_rfl
noncomputable def law18_ColourColumns.b0 : Code := (loopsOf law18_ColourColumns.c).getD 0 .skip
theorem law18_ColourColumns.b0_loops : loopsOf law18_ColourColumns.b0 = [] := by kernel_rfl
theorem law18_ColourColumns.c_loops : loopsOf law18_ColourColumns.c = [law18_ColourColumns.b0] := by kernel_rfl
def law18_ColourColumns.l9G (F15 : type_of% @law18_awake.f) (F17 : type_of% @colour_Apart.f) (F18 : type_of% @help_Bytes.f) (R : Option Addr → Nat → Nat → Int → Option Addr → Nat → Nat → Int → Int → World → (Option Addr → Nat → Nat → Int → Option Addr → Nat → Nat → Int → World → Prop) → (Bool → World → Prop) → Prop) : Option Addr → Nat → Nat → Int → Option Addr → Nat → Nat → Int → Int → World → (Option Addr → Nat → Nat → Int → Option Addr → Nat → Nat → Int → World → Prop) → (Bool → World → Prop) → Prop := fun y0 y0n y0c y1 y5 y5n y5c y6 y7 w K0 Kr =>
    bif (decide (y7 < (IntKind.wrap .i64 (y6 * y1)))) then
      if y1 = 0 then False else
      if y1 = 0 then False else
      sm y5 fun p_23 =>
      if 0 ≤ ((IntKind.wrap .i64 ((IntKind.wrap .i64 ((Int.tmod y7 y1) * y6)) + (IntKind.wrap .i64 (Int.tdiv y7 y1)))) : Int) ∧ ((IntKind.wrap .i64 ((IntKind.wrap .i64 ((Int.tmod y7 y1) * y6)) + (IntKind.wrap .i64 (Int.tdiv y7 y1)))) : Int) < ((y5n : Nat) : Int) then
      ldI .u8 (p_23.add (Int.toNat (IntKind.wrap .i64 ((IntKind.wrap .i64 ((Int.tmod y7 y1) * y6)) + (IntKind.wrap .i64 (Int.tdiv y7 y1)))))) w.drew fun x51_24 =>
      sm y0 fun p_25 =>
      if 0 ≤ (y7 : Int) ∧ (y7 : Int) < ((y0n : Nat) : Int) then
      ldI .u8 (p_25.add (Int.toNat y7)) w.drew fun x55_26 =>
      bif (x51_24 != x55_26) then
        Kr false w.drew
      else
        let v7_28 := (IntKind.wrap .i64 (y7 + 1))
        R y0 y0n y0c y1 y5 y5n y5c y6 v7_28 w.drew K0 Kr
      else False
      else False
    else
      K0 y0 y0n y0c y1 y5 y5n y5c y6 w

def law18_ColourColumns.hn9 (N : Nat) (f : Fr) (w : World) (K : AExit → Fr → World → Prop) : Prop :=
  gN f 68 <| gL f 0 fun y0 y0n y0c => gI .i64 f 1 fun y1 => gL f 5 fun y5 y5n y5c => gI .i64 f 6 fun y6 => gI .i64 f 7 fun y7 => law18_ColourColumns.l9 N y0 y0n y0c y1 y5 y5n y5c y6 y7 w (fun o0 o0n o0c o1 o5 o5n o5c o6 w => K (.exit 0) [some (Value.slice o0 o0n o0c), some (Value.int .i64 o1), none, none, none, some (Value.slice o5 o5n o5c), some (Value.int .i64 o6), none, none, none, none, none, none, none, none, none, none, none, none, none, none, none, none, none, none, none, none, none, none, none, none, none, none, none, none, none, none, none, none, none, none, none, none, none, none, none, none, none, none, none, none, none, none, none, none, none, none, none, none, none, none, none, none, none, none, none, none, none] w) (fun o4 w => K .ret [none, none, none, none, some (Value.bool o4), none, none, none, none, none, none, none, none, none, none, none, none, none, none, none, none, none, none, none, none, none, none, none, none, none, none, none, none, none, none, none, none, none, none, none, none, none, none, none, none, none, none, none, none, none, none, none, none, none, none, none, none, none, none, none, none, none, none, none, none, none, none, none] w)
def law18_ColourColumns.hx9 : AExit → Fr → World → (AExit → Fr → World → Prop) → Prop := fun e f w K => match e with
  | .normal => False
  | .exit i => (match Nat.beq i 0 with | true => gN f 68 <| gL f 0 fun o0 o0n o0c => gI .i64 f 1 fun o1 => gL f 5 fun o5 o5n o5c => gI .i64 f 6 fun o6 => K (.exit 0) [some (Value.slice o0 o0n o0c), some (Value.int .i64 o1), none, none, none, some (Value.slice o5 o5n o5c), some (Value.int .i64 o6), none, none, none, none, none, none, none, none, none, none, none, none, none, none, none, none, none, none, none, none, none, none, none, none, none, none, none, none, none, none, none, none, none, none, none, none, none, none, none, none, none, none, none, none, none, none, none, none, none, none, none, none, none, none, none, none, none, none, none, none, none] w | false => False)
  | .ret => gN f 68 <| gB f 4 fun o4 => K .ret [none, none, none, none, some (Value.bool o4), none, none, none, none, none, none, none, none, none, none, none, none, none, none, none, none, none, none, none, none, none, none, none, none, none, none, none, none, none, none, none, none, none, none, none, none, none, none, none, none, none, none, none, none, none, none, none, none, none, none, none, none, none, none, none, none, none, none, none, none, none, none, none] w
def law18_ColourColumns.L : LHd := fun l f w K => (match Nat.beq l 9 with | true => ∃ N, law18_ColourColumns.hn9 N f w K | false => False)
theorem law18_ColourColumns.leG9 (F15 : type_of% @law18_awake.f) (F17 : type_of% @colour_Apart.f) (F18 : type_of% @help_Bytes.f) (N : Nat) (y0 : Option Addr) (y0n : Nat) (y0c : Nat) (y1 : Int) (y5 : Option Addr) (y5n : Nat) (y5c : Nat) (y6 : Int) (y7 : Int) (w : World) (K : AExit → Fr → World → Prop) : awp (law18_ColourColumns.CG F15 F17 F18) law18_ColourColumns.L law18_ColourColumns.D tab law18_ColourColumns.b0 (lpost law18_ColourColumns.hn9 law18_ColourColumns.hx9 N K) [some (Value.slice y0 y0n y0c), some (Value.int .i64 y1), none, none, none, some (Value.slice y5 y5n y5c), some (Value.int .i64 y6), some (Value.int .i64 y7), none, none, none, none, none, none, none, none, none, none, none, none, none, none, none, none, none, none, none, none, none, none, none, none, none, none, none, none, none, none, none, none, none, none, none, none, none, none, none, none, none, none, none, none, none, none, none, none, none, none, none, none, none, none, none, none, none, none, none, none] w = law18_ColourColumns.l9G F15 F17 F18 (law18_ColourColumns.l9 N) y0 y0n y0c y1 y5 y5n y5c y6 y7 w (fun o0 o0n o0c o1 o5 o5n o5c o6 w => K (.exit 0) [some (Value.slice o0 o0n o0c), some (Value.int .i64 o1), none, none, none, some (Value.slice o5 o5n o5c), some (Value.int .i64 o6), none, none, none, none, none, none, none, none, none, none, none, none, none, none, none, none, none, none, none, none, none, none, none, none, none, none, none, none, none, none, none, none, none, none, none, none, none, none, none, none, none, none, none, none, none, none, none, none, none, none, none, none, none, none, none, none, none, none, none, none, none] w) (fun o4 w => K .ret [none, none, none, none, some (Value.bool o4), none, none, none, none, none, none, none, none, none, none, none, none, none, none, none, none, none, none, none, none, none, none, none, none, none, none, none, none, none, none, none, none, none, none, none, none, none, none, none, none, none, none, none, none, none, none, none, none, none, none, none, none, none, none, none, none, none, none, none, none, none, none, none] w) := by kernel_rfl
theorem law18_ColourColumns.les9 (N : Nat) : law18_ColourColumns.l9 (N + 1) = law18_ColourColumns.l9G @law18_awake.f @colour_Apart.f @help_Bytes.f (law18_ColourColumns.l9 N) := by kernel_rfl
theorem law18_ColourColumns.le9 (N : Nat) (y0 : Option Addr) (y0n : Nat) (y0c : Nat) (y1 : Int) (y5 : Option Addr) (y5n : Nat) (y5c : Nat) (y6 : Int) (y7 : Int) (w : World) (K : AExit → Fr → World → Prop) : awp law18_ColourColumns.C law18_ColourColumns.L law18_ColourColumns.D tab law18_ColourColumns.b0 (lpost law18_ColourColumns.hn9 law18_ColourColumns.hx9 N K) [some (Value.slice y0 y0n y0c), some (Value.int .i64 y1), none, none, none, some (Value.slice y5 y5n y5c), some (Value.int .i64 y6), some (Value.int .i64 y7), none, none, none, none, none, none, none, none, none, none, none, none, none, none, none, none, none, none, none, none, none, none, none, none, none, none, none, none, none, none, none, none, none, none, none, none, none, none, none, none, none, none, none, none, none, none, none, none, none, none, none, none, none, none, none, none, none, none, none, none] w = law18_ColourColumns.l9 (N + 1) y0 y0n y0c y1 y5 y5n y5c y6 y7 w (fun o0 o0n o0c o1 o5 o5n o5c o6 w => K (.exit 0) [some (Value.slice o0 o0n o0c), some (Value.int .i64 o1), none, none, none, some (Value.slice o5 o5n o5c), some (Value.int .i64 o6), none, none, none, none, none, none, none, none, none, none, none, none, none, none, none, none, none, none, none, none, none, none, none, none, none, none, none, none, none, none, none, none, none, none, none, none, none, none, none, none, none, none, none, none, none, none, none, none, none, none, none, none, none, none, none, none, none, none, none, none, none] w) (fun o4 w => K .ret [none, none, none, none, some (Value.bool o4), none, none, none, none, none, none, none, none, none, none, none, none, none, none, none, none, none, none, none, none, none, none, none, none, none, none, none, none, none, none, none, none, none, none, none, none, none, none, none, none, none, none, none, none, none, none, none, none, none, none, none, none, none, none, none, none, none, none, none, none, none, none, none] w) := by
  rw [law18_ColourColumns.les9]
  exact law18_ColourColumns.leG9 @law18_awake.f @colour_Apart.f @help_Bytes.f N y0 y0n y0c y1 y5 y5n y5c y6 y7 w K
theorem law18_ColourColumns.lok9 : LoopOk Try.prog law18_ColourColumns.L law18_ColourColumns.b0 := by
  refine loop_ok tab_ok law18_ColourColumns.C_ok (D := law18_ColourColumns.D) (law18_ColourColumns.hn9) (law18_ColourColumns.hx9) (by kernel_rfl) (by rw [law18_ColourColumns.b0_loops]; exact lnil) ?_ ?_ ?_ ?_
  · intro f w K h
    unfold law18_ColourColumns.hn9 at h
    obtain ⟨hlen, h⟩ := gN_ok h
    obtain ⟨y0, y0n, y0c, h0, h⟩ := gL_ok h
    obtain ⟨y1, h1, h⟩ := gI_ok h
    obtain ⟨y5, y5n, y5c, h5, h⟩ := gL_ok h
    obtain ⟨y6, h6, h⟩ := gI_ok h
    obtain ⟨y7, h7, h⟩ := gI_ok h
    exact h
  · intro N f w K h
    unfold law18_ColourColumns.hn9 at h
    obtain ⟨hlen, h⟩ := gN_ok h
    obtain ⟨y0, y0n, y0c, h0, h⟩ := gL_ok h
    obtain ⟨y1, h1, h⟩ := gI_ok h
    obtain ⟨y5, y5n, y5c, h5, h⟩ := gL_ok h
    obtain ⟨y6, h6, h⟩ := gI_ok h
    obtain ⟨y7, h7, h⟩ := gI_ok h
    refine ⟨[some (Value.slice y0 y0n y0c), some (Value.int .i64 y1), none, none, none, some (Value.slice y5 y5n y5c), some (Value.int .i64 y6), some (Value.int .i64 y7), none, none, none, none, none, none, none, none, none, none, none, none, none, none, none, none, none, none, none, none, none, none, none, none, none, none, none, none, none, none, none, none, none, none, none, none, none, none, none, none, none, none, none, none, none, none, none, none, none, none, none, none, none, none, none, none, none, none, none, none], hlen, ⟨h0, h1, h5, h6, h7, trivial⟩, ?_⟩
    rw [law18_ColourColumns.le9]
    exact h
  · intro e f w K h
    cases e with
    | normal => exact h.elim
    | exit i =>
      unfold law18_ColourColumns.hx9 at h
      simp only at h
      split at h
      · rename_i hb
        obtain rfl := Nat.eq_of_beq_eq_true hb
        obtain ⟨hlen, h⟩ := gN_ok h
        obtain ⟨o0, o0n, o0c, h0, h⟩ := gL_ok h
        obtain ⟨o1, h1, h⟩ := gI_ok h
        obtain ⟨o5, o5n, o5c, h5, h⟩ := gL_ok h
        obtain ⟨o6, h6, h⟩ := gI_ok h
        exact ⟨[some (Value.slice o0 o0n o0c), some (Value.int .i64 o1), none, none, none, some (Value.slice o5 o5n o5c), some (Value.int .i64 o6), none, none, none, none, none, none, none, none, none, none, none, none, none, none, none, none, none, none, none, none, none, none, none, none, none, none, none, none, none, none, none, none, none, none, none, none, none, none, none, none, none, none, none, none, none, none, none, none, none, none, none, none, none, none, none, none, none, none, none, none, none], hlen, ⟨h0, h1, h5, h6, trivial⟩, h⟩
      · exact (show False from h).elim
    | ret =>
      unfold law18_ColourColumns.hx9 at h
      simp only at h
      obtain ⟨hlen, h⟩ := gN_ok h
      obtain ⟨o4, h4, h⟩ := gB_ok h
      exact ⟨[none, none, none, none, some (Value.bool o4), none, none, none, none, none, none, none, none, none, none, none, none, none, none, none, none, none, none, none, none, none, none, none, none, none, none, none, none, none, none, none, none, none, none, none, none, none, none, none, none, none, none, none, none, none, none, none, none, none, none, none, none, none, none, none, none, none, none, none, none, none, none, none], hlen, ⟨h4, trivial⟩, h⟩
  · intro f w K h
    have e : lid law18_ColourColumns.b0 = 9 := by kernel_rfl
    rw [e] at h
    exact h
theorem law18_ColourColumns.eqG (F15 : type_of% @law18_awake.f) (F17 : type_of% @colour_Apart.f) (F18 : type_of% @help_Bytes.f) (a0 : Option Addr) (a0n : Nat) (a0c : Nat) (a1 : Int) (w : World) (K : Value → World → Prop) : afn (law18_ColourColumns.CG F15 F17 F18) law18_ColourColumns.L law18_ColourColumns.D tab Try.f4 [(Value.slice a0 a0n a0c), (Value.int .i64 a1)] w K = law18_ColourColumns.G F15 F17 F18 a0 a0n a0c a1 w (fun r0 w => K (Value.bool r0) w) := by kernel_rfl
theorem law18_ColourColumns.eq (a0 : Option Addr) (a0n : Nat) (a0c : Nat) (a1 : Int) (w : World) (K : Value → World → Prop) : afn law18_ColourColumns.C law18_ColourColumns.L law18_ColourColumns.D tab Try.f4 [(Value.slice a0 a0n a0c), (Value.int .i64 a1)] w K = law18_ColourColumns.f a0 a0n a0c a1 w (fun r0 w => K (Value.bool r0) w) := law18_ColourColumns.eqG @law18_awake.f @colour_Apart.f @help_Bytes.f a0 a0n a0c a1 w K
theorem law18_ColourColumns.ok : FSound Try.prog 4 law18_ColourColumns.h := by
  intro args w K h
  unfold law18_ColourColumns.h law18_ColourColumns.H at h
  split at h
  ·
    replace h := vL_ok h
    obtain ⟨a0, a0n, a0c, rfl, h⟩ := h
    replace h := vI_ok h
    obtain ⟨a1, rfl, h⟩ := h
    refine ⟨by kernel_rfl, fn_ok tab_ok law18_ColourColumns.C_ok (L := law18_ColourColumns.L) (D := law18_ColourColumns.D) Try.func4 law18_ColourColumns.hb (by kernel_rfl) (by rw [law18_ColourColumns.c_loops]; exact lcons law18_ColourColumns.lok9 (lnil)) (Nat.le_of_ble_eq_true (by kernel_rfl)) ?_⟩
    rw [law18_ColourColumns.eq]
    exact h
  · exact h.elim
end Go.Proofs.Ytmgcjihcbdgihaa.G
