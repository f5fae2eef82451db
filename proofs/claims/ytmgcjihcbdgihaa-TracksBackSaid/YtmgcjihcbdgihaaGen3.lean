/- Go functions as predicate transformers, written by a program of this session (gen.py), with their soundness. -/
import Derived.Test.YtmgcjihcbdgihaaGen2
set_option linter.unusedVariables false
set_option linter.unusedSimpArgs false
set_option maxRecDepth 100000
namespace Go.Proofs.Ytmgcjihcbdgihaa.G
open Go Go.Proofs.Ytmgcjihcbdgihaa.Vm
/-! ### valise/tracks.Join: function 36 -/
def tracks_Join.l10 : Nat → Int → Option Addr → Nat → Nat → Int → Option Addr → Nat → Nat → Int → Int → Option Addr → Nat → Nat → Int → Int → World → (Int → Option Addr → Nat → Nat → Int → Option Addr → Nat → Nat → Int → Int → World → Prop) → (Option Addr → Nat → Nat → Int → World → Prop) → Prop
  | 0, _, _, _, _, _, _, _, _, _, _, _, _, _, _, _, _, _, _ => False
  | N + 1, y0, y1, y1n, y1c, y6, y23, y23n, y23c, y24, y25, y36, y36n, y36c, y37, y38, w, K2, Kr =>
    bif (decide (y38 < y37)) then
      sm y36 fun p_26 =>
      if 0 ≤ (y38 : Int) ∧ (y38 : Int) < ((y36n : Nat) : Int) then
      ldI .i32 (p_26.add (Int.toNat y38)) w fun x41_27 =>
      bif (decide (x41_27 < (IntKind.wrap .i32 (0 - y6)))) then
        Kr none 0 0 4 w
      else
        bif (decide (x41_27 ≥ y6)) then
          Kr none 0 0 4 w
        else
          tracks_Join.l10 N y0 y1 y1n y1c y6 y23 y23n y23c y24 y25 y36 y36n y36c y37 (IntKind.wrap .i64 (y38 + 1)) w K2 Kr
      else False
    else
      K2 y0 y1 y1n y1c y6 y23 y23n y23c y24 y25 w

def tracks_Join.l5 : Nat → Int → Option Addr → Nat → Nat → Int → Option Addr → Nat → Nat → Int → Int → World → (Int → Option Addr → Nat → Nat → World → Prop) → (Option Addr → Nat → Nat → Int → World → Prop) → Prop
  | 0, _, _, _, _, _, _, _, _, _, _, _, _, _ => False
  | N + 1, y0, y1, y1n, y1c, y6, y23, y23n, y23c, y24, y25, w, K0, Kr =>
    bif (decide (y25 < y24)) then
      sm y23 fun p_14 =>
      if 0 ≤ (y25 : Int) ∧ (y25 : Int) < ((y23n : Nat) : Int) then
      ldL (p_14.add (Int.toNat y25)) w fun x28_15 x28_15n x28_15c =>
      sm y1 fun p_18 =>
      if 0 ≤ (0 : Int) ∧ (0 : Int) < ((y1n : Nat) : Int) then
      ldL p_18 w fun x33_19 x33_19n x33_19c =>
      bif (((x28_15n : Nat) : Int) != ((x33_19n : Nat) : Int)) then
        Kr none 0 0 4 w
      else
        ∃ N_31 : Nat, tracks_Join.l10 N_31 y0 y1 y1n y1c y6 y23 y23n y23c y24 y25 x28_15 x28_15n x28_15c ((x28_15n : Nat) : Int) 0 w
        (fun o0_32 o1_33 o1_33n o1_33c o6_34 o23_35 o23_35n o23_35c o24_36 o25_37 w =>
          tracks_Join.l5 N o0_32 o1_33 o1_33n o1_33c o6_34 o23_35 o23_35n o23_35c o24_36 (IntKind.wrap .i64 (o25_37 + 1)) w K0 Kr)
        (fun o4_38 o4_38n o4_38c o5_39 w =>
          Kr o4_38 o4_38n o4_38c o5_39 w)
      else False
      else False
    else
      K0 y0 y1 y1n y1c w

def tracks_Join.l21 : Nat → Int → Option Addr → Nat → Nat → Option Addr → Nat → Nat → Int → Int → Int → Option Addr → Nat → Nat → Int → Int → World → (Int → Option Addr → Nat → Nat → Option Addr → Nat → Nat → Int → Int → World → Prop) → Prop
  | 0, _, _, _, _, _, _, _, _, _, _, _, _, _, _, _, _, _ => False
  | N + 1, y0, y1, y1n, y1c, y11, y11n, y11c, y12, y56, y57, y60, y60n, y60c, y61, y62, w, K6 =>
    bif (decide (y62 < y61)) then
      sm y60 fun p_59 =>
      if 0 ≤ (y62 : Int) ∧ (y62 : Int) < ((y60n : Nat) : Int) then
      ldL (p_59.add (Int.toNat y62)) w fun x65_60 x65_60n x65_60c =>
      bif (y0 == 8) then
        sm x65_60 fun p_62 =>
        if 0 ≤ (y12 : Int) ∧ (y12 : Int) < ((x65_60n : Nat) : Int) then
        ldI .i32 (p_62.add (Int.toNat y12)) w fun x72_63 =>
        newC 5 [(Value.int .u8 (IntKind.wrap .u8 (IntKind.wrap .i32 (x72_63 + 128))))] w fun a75_64 w =>
        appL 5 1 1 [(Value.int .u8 0)] y11 y11n y11c (some a75_64) 1 1 w fun a76_65 a76_65n a76_65c w =>
        tracks_Join.l21 N y0 y1 y1n y1c a76_65 a76_65n a76_65c y12 y56 y57 y60 y60n y60c y61 (IntKind.wrap .i64 (y62 + 1)) w K6
        else False
      else
        sm x65_60 fun p_66 =>
        if 0 ≤ (y12 : Int) ∧ (y12 : Int) < ((x65_60n : Nat) : Int) then
        ldI .i32 (p_66.add (Int.toNat y12)) w.drew fun x81_67 =>
        sm x65_60 fun p_68 =>
        if 0 ≤ (y12 : Int) ∧ (y12 : Int) < ((x65_60n : Nat) : Int) then
        ldI .i32 (p_68.add (Int.toNat y12)) w.drew fun x86_69 =>
        newC 5 [(Value.int .u8 (IntKind.wrap .u8 x81_67)), (Value.int .u8 (IntKind.wrap .u8 (shr .i32 x86_69 8)))] w.drew fun a89_70 w =>
        (World.cell? w (p_68.add (Int.toNat y12)) = some (.int .i32 x86_69)) ∧
        ((World.cell? w (p_66.add (Int.toNat y12)) = some (.int .i32 x81_67)) ∧
        (appL 5 1 1 [(Value.int .u8 0)] y11 y11n y11c (some a89_70) 2 2 w fun a90_71 a90_71n a90_71c w =>
        (World.cell? w (p_68.add (Int.toNat y12)) = some (.int .i32 x86_69)) ∧
        ((World.cell? w (p_66.add (Int.toNat y12)) = some (.int .i32 x81_67)) ∧
        (tracks_Join.l21 N y0 y1 y1n y1c a90_71 a90_71n a90_71c y12 y56 y57 y60 y60n y60c y61 (IntKind.wrap .i64 (y62 + 1)) w K6))))
        else False
        else False
      else False
    else
      K6 y0 y1 y1n y1c y11 y11n y11c y56 y57 w

def tracks_Join.l18 : Nat → Int → Option Addr → Nat → Nat → Option Addr → Nat → Nat → Int → Int → World → (Option Addr → Nat → Nat → World → Prop) → Prop
  | 0, _, _, _, _, _, _, _, _, _, _, _ => False
  | N + 1, y0, y1, y1n, y1c, y11, y11n, y11c, y56, y57, w, K4 =>
    bif (decide (y57 < y56)) then
      ∃ N_72 : Nat, tracks_Join.l21 N_72 y0 y1 y1n y1c y11 y11n y11c y57 y56 y57 y1 y1n y1c ((y1n : Nat) : Int) 0 w
      (fun o0_73 o1_74 o1_74n o1_74c o11_75 o11_75n o11_75c o56_76 o57_77 w =>
        tracks_Join.l18 N o0_73 o1_74 o1_74n o1_74c o11_75 o11_75n o11_75c o56_76 (IntKind.wrap .i64 (o57_77 + 1)) w K4)
    else
      K4 y11 y11n y11c w

def tracks_Join.f (a0 : Int) (a1 : Option Addr) (a1n : Nat) (a1c : Nat) (w : World) (K : Option Addr → Nat → Nat → Int → World → Prop) : Prop :=
  tracks_may.f ((a1n : Nat) : Int) a0 w fun r18_4 w =>
  bif (!r18_4) then
    K none 0 0 1 w
  else
    if (IntKind.wrap .i64 (a0 - 1)) < 0 then False else
    let v6_7 := (shl .i32 1 (min (Int.toNat (IntKind.wrap .i64 (a0 - 1))) (IntKind.bits .i32)))
    ∃ N_40 : Nat, tracks_Join.l5 N_40 a0 a1 a1n a1c v6_7 a1 a1n a1c ((a1n : Nat) : Int) 0 w
    (fun o0_41 o1_42 o1_42n o1_42c w =>
      sm o1_42 fun p_48 =>
      if 0 ≤ (0 : Int) ∧ (0 : Int) < ((o1_42n : Nat) : Int) then
      ldL p_48 w fun x55_49 x55_49n x55_49c =>
      ∃ N_78 : Nat, tracks_Join.l18 N_78 o0_41 o1_42 o1_42n o1_42c none 0 0 ((x55_49n : Nat) : Int) 0 w
      (fun o11_79 o11_79n o11_79c w =>
        K o11_79 o11_79n o11_79c 0 w)
      else False)
    (fun o4_43 o4_43n o4_43c o5_44 w =>
      K o4_43 o4_43n o4_43c o5_44 w)
def tracks_Join.H (F : type_of% @tracks_Join.f) : Hf := fun args w K => match args with
  | [v0, v1] => vI .i64 v0 fun a0 => vL v1 fun a1 a1n a1c => F a0 a1 a1n a1c w (fun r0 r0n r0c r1 w => K (Value.tuple #[(Value.slice r0 r0n r0c), (Value.int .i64 r1)]) w)
  | _ => False
def tracks_Join.h : Hf := tracks_Join.H @tracks_Join.f
def tracks_Join.C : Hd := hcons 50 tracks_may.h (hnil)
theorem tracks_Join.C_ok : CSound Try.prog tracks_Join.C := hcons_ok tracks_may.ok (hnil_ok)
def tracks_Join.D : Nat → Plan := fun i => (match Nat.beq i 25 with | true => .take 0 (.take 1 (.take 2 (.take 3 (.take 4 (.take 5 (.take 6 (.take 7 (.take 8 (.take 9 (.take 10 (.take 11 (.eff 12 (.eff 13 (.take 14 (.done))))))))))))))) | false => .done)
noncomputable def tracks_Join.c : Code := Try.f36.body.getD .skip
theorem tracks_Join.hb : Try.f36.body = some tracks_Join.c := by kernel_rfl
noncomputable def tracks_Join.b0 : Code := (loopsOf tracks_Join.c).getD 0 .skip
noncomputable def tracks_Join.b0_0 : Code := (loopsOf tracks_Join.b0).getD 0 .skip
theorem tracks_Join.b0_0_loops : loopsOf tracks_Join.b0_0 = [] := by kernel_rfl
theorem tracks_Join.b0_loops : loopsOf tracks_Join.b0 = [tracks_Join.b0_0] := by kernel_rfl
noncomputable def tracks_Join.b1 : Code := (loopsOf tracks_Join.c).getD 1 .skip
noncomputable def tracks_Join.b1_0 : Code := (loopsOf tracks_Join.b1).getD 0 .skip
theorem tracks_Join.b1_0_loops : loopsOf tracks_Join.b1_0 = [] := by kernel_rfl
theorem tracks_Join.b1_loops : loopsOf tracks_Join.b1 = [tracks_Join.b1_0] := by kernel_rfl
theorem tracks_Join.c_loops : loopsOf tracks_Join.c = [tracks_Join.b0, tracks_Join.b1] := by kernel_rfl
def tracks_Join.hn10 (N : Nat) (f : Fr) (w : World) (K : AExit → Fr → World → Prop) : Prop :=
  gN f 94 <| gI .i64 f 0 fun y0 => gL f 1 fun y1 y1n y1c => gI .i32 f 6 fun y6 => gL f 23 fun y23 y23n y23c => gI .i64 f 24 fun y24 => gI .i64 f 25 fun y25 => gL f 36 fun y36 y36n y36c => gI .i64 f 37 fun y37 => gI .i64 f 38 fun y38 => tracks_Join.l10 N y0 y1 y1n y1c y6 y23 y23n y23c y24 y25 y36 y36n y36c y37 y38 w (fun o0 o1 o1n o1c o6 o23 o23n o23c o24 o25 w => K (.exit 2) [some (Value.int .i64 o0), some (Value.slice o1 o1n o1c), none, none, none, none, some (Value.int .i32 o6), none, none, none, none, none, none, none, none, none, none, none, none, none, none, none, none, some (Value.slice o23 o23n o23c), some (Value.int .i64 o24), some (Value.int .i64 o25), none, none, none, none, none, none, none, none, none, none, none, none, none, none, none, none, none, none, none, none, none, none, none, none, none, none, none, none, none, none, none, none, none, none, none, none, none, none, none, none, none, none, none, none, none, none, none, none, none, none, none, none, none, none, none, none, none, none, none, none, none, none, none, none, none, none, none, none] w) (fun o4 o4n o4c o5 w => K .ret [none, none, none, none, some (Value.slice o4 o4n o4c), some (Value.int .i64 o5), none, none, none, none, none, none, none, none, none, none, none, none, none, none, none, none, none, none, none, none, none, none, none, none, none, none, none, none, none, none, none, none, none, none, none, none, none, none, none, none, none, none, none, none, none, none, none, none, none, none, none, none, none, none, none, none, none, none, none, none, none, none, none, none, none, none, none, none, none, none, none, none, none, none, none, none, none, none, none, none, none, none, none, none, none, none, none, none] w)
def tracks_Join.hx10 : AExit → Fr → World → (AExit → Fr → World → Prop) → Prop := fun e f w K => match e with
  | .normal => False
  | .exit i => (match Nat.beq i 2 with | true => gN f 94 <| gI .i64 f 0 fun o0 => gL f 1 fun o1 o1n o1c => gI .i32 f 6 fun o6 => gL f 23 fun o23 o23n o23c => gI .i64 f 24 fun o24 => gI .i64 f 25 fun o25 => K (.exit 2) [some (Value.int .i64 o0), some (Value.slice o1 o1n o1c), none, none, none, none, some (Value.int .i32 o6), none, none, none, none, none, none, none, none, none, none, none, none, none, none, none, none, some (Value.slice o23 o23n o23c), some (Value.int .i64 o24), some (Value.int .i64 o25), none, none, none, none, none, none, none, none, none, none, none, none, none, none, none, none, none, none, none, none, none, none, none, none, none, none, none, none, none, none, none, none, none, none, none, none, none, none, none, none, none, none, none, none, none, none, none, none, none, none, none, none, none, none, none, none, none, none, none, none, none, none, none, none, none, none, none, none] w | false => False)
  | .ret => gN f 94 <| gL f 4 fun o4 o4n o4c => gI .i64 f 5 fun o5 => K .ret [none, none, none, none, some (Value.slice o4 o4n o4c), some (Value.int .i64 o5), none, none, none, none, none, none, none, none, none, none, none, none, none, none, none, none, none, none, none, none, none, none, none, none, none, none, none, none, none, none, none, none, none, none, none, none, none, none, none, none, none, none, none, none, none, none, none, none, none, none, none, none, none, none, none, none, none, none, none, none, none, none, none, none, none, none, none, none, none, none, none, none, none, none, none, none, none, none, none, none, none, none, none, none, none, none, none, none] w
def tracks_Join.hn5 (N : Nat) (f : Fr) (w : World) (K : AExit → Fr → World → Prop) : Prop :=
  gN f 94 <| gI .i64 f 0 fun y0 => gL f 1 fun y1 y1n y1c => gI .i32 f 6 fun y6 => gL f 23 fun y23 y23n y23c => gI .i64 f 24 fun y24 => gI .i64 f 25 fun y25 => tracks_Join.l5 N y0 y1 y1n y1c y6 y23 y23n y23c y24 y25 w (fun o0 o1 o1n o1c w => K (.exit 0) [some (Value.int .i64 o0), some (Value.slice o1 o1n o1c), none, none, none, none, none, none, none, none, none, none, none, none, none, none, none, none, none, none, none, none, none, none, none, none, none, none, none, none, none, none, none, none, none, none, none, none, none, none, none, none, none, none, none, none, none, none, none, none, none, none, none, none, none, none, none, none, none, none, none, none, none, none, none, none, none, none, none, none, none, none, none, none, none, none, none, none, none, none, none, none, none, none, none, none, none, none, none, none, none, none, none, none] w) (fun o4 o4n o4c o5 w => K .ret [none, none, none, none, some (Value.slice o4 o4n o4c), some (Value.int .i64 o5), none, none, none, none, none, none, none, none, none, none, none, none, none, none, none, none, none, none, none, none, none, none, none, none, none, none, none, none, none, none, none, none, none, none, none, none, none, none, none, none, none, none, none, none, none, none, none, none, none, none, none, none, none, none, none, none, none, none, none, none, none, none, none, none, none, none, none, none, none, none, none, none, none, none, none, none, none, none, none, none, none, none, none, none, none, none, none, none] w)
def tracks_Join.hx5 : AExit → Fr → World → (AExit → Fr → World → Prop) → Prop := fun e f w K => match e with
  | .normal => False
  | .exit i => (match Nat.beq i 0 with | true => gN f 94 <| gI .i64 f 0 fun o0 => gL f 1 fun o1 o1n o1c => K (.exit 0) [some (Value.int .i64 o0), some (Value.slice o1 o1n o1c), none, none, none, none, none, none, none, none, none, none, none, none, none, none, none, none, none, none, none, none, none, none, none, none, none, none, none, none, none, none, none, none, none, none, none, none, none, none, none, none, none, none, none, none, none, none, none, none, none, none, none, none, none, none, none, none, none, none, none, none, none, none, none, none, none, none, none, none, none, none, none, none, none, none, none, none, none, none, none, none, none, none, none, none, none, none, none, none, none, none, none, none] w | false => False)
  | .ret => gN f 94 <| gL f 4 fun o4 o4n o4c => gI .i64 f 5 fun o5 => K .ret [none, none, none, none, some (Value.slice o4 o4n o4c), some (Value.int .i64 o5), none, none, none, none, none, none, none, none, none, none, none, none, none, none, none, none, none, none, none, none, none, none, none, none, none, none, none, none, none, none, none, none, none, none, none, none, none, none, none, none, none, none, none, none, none, none, none, none, none, none, none, none, none, none, none, none, none, none, none, none, none, none, none, none, none, none, none, none, none, none, none, none, none, none, none, none, none, none, none, none, none, none, none, none, none, none, none, none] w
def tracks_Join.hn21 (N : Nat) (f : Fr) (w : World) (K : AExit → Fr → World → Prop) : Prop :=
  gN f 94 <| gI .i64 f 0 fun y0 => gL f 1 fun y1 y1n y1c => gL f 11 fun y11 y11n y11c => gI .i64 f 12 fun y12 => gI .i64 f 56 fun y56 => gI .i64 f 57 fun y57 => gL f 60 fun y60 y60n y60c => gI .i64 f 61 fun y61 => gI .i64 f 62 fun y62 => tracks_Join.l21 N y0 y1 y1n y1c y11 y11n y11c y12 y56 y57 y60 y60n y60c y61 y62 w (fun o0 o1 o1n o1c o11 o11n o11c o56 o57 w => K (.exit 6) [some (Value.int .i64 o0), some (Value.slice o1 o1n o1c), none, none, none, none, none, none, none, none, none, some (Value.slice o11 o11n o11c), none, none, none, none, none, none, none, none, none, none, none, none, none, none, none, none, none, none, none, none, none, none, none, none, none, none, none, none, none, none, none, none, none, none, none, none, none, none, none, none, none, none, none, none, some (Value.int .i64 o56), some (Value.int .i64 o57), none, none, none, none, none, none, none, none, none, none, none, none, none, none, none, none, none, none, none, none, none, none, none, none, none, none, none, none, none, none, none, none, none, none, none, none] w)
def tracks_Join.hx21 : AExit → Fr → World → (AExit → Fr → World → Prop) → Prop := fun e f w K => match e with
  | .normal => False
  | .exit i => (match Nat.beq i 6 with | true => gN f 94 <| gI .i64 f 0 fun o0 => gL f 1 fun o1 o1n o1c => gL f 11 fun o11 o11n o11c => gI .i64 f 56 fun o56 => gI .i64 f 57 fun o57 => K (.exit 6) [some (Value.int .i64 o0), some (Value.slice o1 o1n o1c), none, none, none, none, none, none, none, none, none, some (Value.slice o11 o11n o11c), none, none, none, none, none, none, none, none, none, none, none, none, none, none, none, none, none, none, none, none, none, none, none, none, none, none, none, none, none, none, none, none, none, none, none, none, none, none, none, none, none, none, none, none, some (Value.int .i64 o56), some (Value.int .i64 o57), none, none, none, none, none, none, none, none, none, none, none, none, none, none, none, none, none, none, none, none, none, none, none, none, none, none, none, none, none, none, none, none, none, none, none, none] w | false => False)
  | .ret => False
def tracks_Join.hn18 (N : Nat) (f : Fr) (w : World) (K : AExit → Fr → World → Prop) : Prop :=
  gN f 94 <| gI .i64 f 0 fun y0 => gL f 1 fun y1 y1n y1c => gL f 11 fun y11 y11n y11c => gI .i64 f 56 fun y56 => gI .i64 f 57 fun y57 => tracks_Join.l18 N y0 y1 y1n y1c y11 y11n y11c y56 y57 w (fun o11 o11n o11c w => K (.exit 4) [none, none, none, none, none, none, none, none, none, none, none, some (Value.slice o11 o11n o11c), none, none, none, none, none, none, none, none, none, none, none, none, none, none, none, none, none, none, none, none, none, none, none, none, none, none, none, none, none, none, none, none, none, none, none, none, none, none, none, none, none, none, none, none, none, none, none, none, none, none, none, none, none, none, none, none, none, none, none, none, none, none, none, none, none, none, none, none, none, none, none, none, none, none, none, none, none, none, none, none, none, none] w)
def tracks_Join.hx18 : AExit → Fr → World → (AExit → Fr → World → Prop) → Prop := fun e f w K => match e with
  | .normal => False
  | .exit i => (match Nat.beq i 4 with | true => gN f 94 <| gL f 11 fun o11 o11n o11c => K (.exit 4) [none, none, none, none, none, none, none, none, none, none, none, some (Value.slice o11 o11n o11c), none, none, none, none, none, none, none, none, none, none, none, none, none, none, none, none, none, none, none, none, none, none, none, none, none, none, none, none, none, none, none, none, none, none, none, none, none, none, none, none, none, none, none, none, none, none, none, none, none, none, none, none, none, none, none, none, none, none, none, none, none, none, none, none, none, none, none, none, none, none, none, none, none, none, none, none, none, none, none, none, none, none] w | false => False)
  | .ret => False
def tracks_Join.L : LHd := fun l f w K => (match Nat.beq l 18 with | true => ∃ N, tracks_Join.hn18 N f w K | false => (match Nat.beq l 21 with | true => ∃ N, tracks_Join.hn21 N f w K | false => (match Nat.beq l 5 with | true => ∃ N, tracks_Join.hn5 N f w K | false => (match Nat.beq l 10 with | true => ∃ N, tracks_Join.hn10 N f w K | false => False))))
theorem tracks_Join.le10 (N : Nat) (y0 : Int) (y1 : Option Addr) (y1n : Nat) (y1c : Nat) (y6 : Int) (y23 : Option Addr) (y23n : Nat) (y23c : Nat) (y24 : Int) (y25 : Int) (y36 : Option Addr) (y36n : Nat) (y36c : Nat) (y37 : Int) (y38 : Int) (w : World) (K : AExit → Fr → World → Prop) : awp tracks_Join.C tracks_Join.L tracks_Join.D tab tracks_Join.b0_0 (lpost tracks_Join.hn10 tracks_Join.hx10 N K) [some (Value.int .i64 y0), some (Value.slice y1 y1n y1c), none, none, none, none, some (Value.int .i32 y6), none, none, none, none, none, none, none, none, none, none, none, none, none, none, none, none, some (Value.slice y23 y23n y23c), some (Value.int .i64 y24), some (Value.int .i64 y25), none, none, none, none, none, none, none, none, none, none, some (Value.slice y36 y36n y36c), some (Value.int .i64 y37), some (Value.int .i64 y38), none, none, none, none, none, none, none, none, none, none, none, none, none, none, none, none, none, none, none, none, none, none, none, none, none, none, none, none, none, none, none, none, none, none, none, none, none, none, none, none, none, none, none, none, none, none, none, none, none, none, none, none, none, none, none] w = tracks_Join.l10 (N + 1) y0 y1 y1n y1c y6 y23 y23n y23c y24 y25 y36 y36n y36c y37 y38 w (fun o0 o1 o1n o1c o6 o23 o23n o23c o24 o25 w => K (.exit 2) [some (Value.int .i64 o0), some (Value.slice o1 o1n o1c), none, none, none, none, some (Value.int .i32 o6), none, none, none, none, none, none, none, none, none, none, none, none, none, none, none, none, some (Value.slice o23 o23n o23c), some (Value.int .i64 o24), some (Value.int .i64 o25), none, none, none, none, none, none, none, none, none, none, none, none, none, none, none, none, none, none, none, none, none, none, none, none, none, none, none, none, none, none, none, none, none, none, none, none, none, none, none, none, none, none, none, none, none, none, none, none, none, none, none, none, none, none, none, none, none, none, none, none, none, none, none, none, none, none, none, none] w) (fun o4 o4n o4c o5 w => K .ret [none, none, none, none, some (Value.slice o4 o4n o4c), some (Value.int .i64 o5), none, none, none, none, none, none, none, none, none, none, none, none, none, none, none, none, none, none, none, none, none, none, none, none, none, none, none, none, none, none, none, none, none, none, none, none, none, none, none, none, none, none, none, none, none, none, none, none, none, none, none, none, none, none, none, none, none, none, none, none, none, none, none, none, none, none, none, none, none, none, none, none, none, none, none, none, none, none, none, none, none, none, none, none, none, none, none, none] w) := by kernel_rfl
theorem tracks_Join.lok10 : LoopOk Try.prog tracks_Join.L tracks_Join.b0_0 := by
  refine loop_ok tab_ok tracks_Join.C_ok (D := tracks_Join.D) (tracks_Join.hn10) (tracks_Join.hx10) (by kernel_rfl) (by rw [tracks_Join.b0_0_loops]; exact lnil) ?_ ?_ ?_ ?_
  · intro f w K h
    unfold tracks_Join.hn10 at h
    obtain ⟨hlen, h⟩ := gN_ok h
    obtain ⟨y0, h0, h⟩ := gI_ok h
    obtain ⟨y1, y1n, y1c, h1, h⟩ := gL_ok h
    obtain ⟨y6, h6, h⟩ := gI_ok h
    obtain ⟨y23, y23n, y23c, h23, h⟩ := gL_ok h
    obtain ⟨y24, h24, h⟩ := gI_ok h
    obtain ⟨y25, h25, h⟩ := gI_ok h
    obtain ⟨y36, y36n, y36c, h36, h⟩ := gL_ok h
    obtain ⟨y37, h37, h⟩ := gI_ok h
    obtain ⟨y38, h38, h⟩ := gI_ok h
    exact h
  · intro N f w K h
    unfold tracks_Join.hn10 at h
    obtain ⟨hlen, h⟩ := gN_ok h
    obtain ⟨y0, h0, h⟩ := gI_ok h
    obtain ⟨y1, y1n, y1c, h1, h⟩ := gL_ok h
    obtain ⟨y6, h6, h⟩ := gI_ok h
    obtain ⟨y23, y23n, y23c, h23, h⟩ := gL_ok h
    obtain ⟨y24, h24, h⟩ := gI_ok h
    obtain ⟨y25, h25, h⟩ := gI_ok h
    obtain ⟨y36, y36n, y36c, h36, h⟩ := gL_ok h
    obtain ⟨y37, h37, h⟩ := gI_ok h
    obtain ⟨y38, h38, h⟩ := gI_ok h
    refine ⟨[some (Value.int .i64 y0), some (Value.slice y1 y1n y1c), none, none, none, none, some (Value.int .i32 y6), none, none, none, none, none, none, none, none, none, none, none, none, none, none, none, none, some (Value.slice y23 y23n y23c), some (Value.int .i64 y24), some (Value.int .i64 y25), none, none, none, none, none, none, none, none, none, none, some (Value.slice y36 y36n y36c), some (Value.int .i64 y37), some (Value.int .i64 y38), none, none, none, none, none, none, none, none, none, none, none, none, none, none, none, none, none, none, none, none, none, none, none, none, none, none, none, none, none, none, none, none, none, none, none, none, none, none, none, none, none, none, none, none, none, none, none, none, none, none, none, none, none, none, none], hlen, ⟨h0, h1, h6, h23, h24, h25, h36, h37, h38, trivial⟩, ?_⟩
    rw [tracks_Join.le10]
    exact h
  · intro e f w K h
    cases e with
    | normal => exact h.elim
    | exit i =>
      unfold tracks_Join.hx10 at h
      simp only at h
      split at h
      · rename_i hb
        obtain rfl := Nat.eq_of_beq_eq_true hb
        obtain ⟨hlen, h⟩ := gN_ok h
        obtain ⟨o0, h0, h⟩ := gI_ok h
        obtain ⟨o1, o1n, o1c, h1, h⟩ := gL_ok h
        obtain ⟨o6, h6, h⟩ := gI_ok h
        obtain ⟨o23, o23n, o23c, h23, h⟩ := gL_ok h
        obtain ⟨o24, h24, h⟩ := gI_ok h
        obtain ⟨o25, h25, h⟩ := gI_ok h
        exact ⟨[some (Value.int .i64 o0), some (Value.slice o1 o1n o1c), none, none, none, none, some (Value.int .i32 o6), none, none, none, none, none, none, none, none, none, none, none, none, none, none, none, none, some (Value.slice o23 o23n o23c), some (Value.int .i64 o24), some (Value.int .i64 o25), none, none, none, none, none, none, none, none, none, none, none, none, none, none, none, none, none, none, none, none, none, none, none, none, none, none, none, none, none, none, none, none, none, none, none, none, none, none, none, none, none, none, none, none, none, none, none, none, none, none, none, none, none, none, none, none, none, none, none, none, none, none, none, none, none, none, none, none], hlen, ⟨h0, h1, h6, h23, h24, h25, trivial⟩, h⟩
      · exact (show False from h).elim
    | ret =>
      unfold tracks_Join.hx10 at h
      simp only at h
      obtain ⟨hlen, h⟩ := gN_ok h
      obtain ⟨o4, o4n, o4c, h4, h⟩ := gL_ok h
      obtain ⟨o5, h5, h⟩ := gI_ok h
      exact ⟨[none, none, none, none, some (Value.slice o4 o4n o4c), some (Value.int .i64 o5), none, none, none, none, none, none, none, none, none, none, none, none, none, none, none, none, none, none, none, none, none, none, none, none, none, none, none, none, none, none, none, none, none, none, none, none, none, none, none, none, none, none, none, none, none, none, none, none, none, none, none, none, none, none, none, none, none, none, none, none, none, none, none, none, none, none, none, none, none, none, none, none, none, none, none, none, none, none, none, none, none, none, none, none, none, none, none, none], hlen, ⟨h4, h5, trivial⟩, h⟩
  · intro f w K h
    have e : lid tracks_Join.b0_0 = 10 := by kernel_rfl
    rw [e] at h
    exact h
theorem tracks_Join.le5 (N : Nat) (y0 : Int) (y1 : Option Addr) (y1n : Nat) (y1c : Nat) (y6 : Int) (y23 : Option Addr) (y23n : Nat) (y23c : Nat) (y24 : Int) (y25 : Int) (w : World) (K : AExit → Fr → World → Prop) : awp tracks_Join.C tracks_Join.L tracks_Join.D tab tracks_Join.b0 (lpost tracks_Join.hn5 tracks_Join.hx5 N K) [some (Value.int .i64 y0), some (Value.slice y1 y1n y1c), none, none, none, none, some (Value.int .i32 y6), none, none, none, none, none, none, none, none, none, none, none, none, none, none, none, none, some (Value.slice y23 y23n y23c), some (Value.int .i64 y24), some (Value.int .i64 y25), none, none, none, none, none, none, none, none, none, none, none, none, none, none, none, none, none, none, none, none, none, none, none, none, none, none, none, none, none, none, none, none, none, none, none, none, none, none, none, none, none, none, none, none, none, none, none, none, none, none, none, none, none, none, none, none, none, none, none, none, none, none, none, none, none, none, none, none] w = tracks_Join.l5 (N + 1) y0 y1 y1n y1c y6 y23 y23n y23c y24 y25 w (fun o0 o1 o1n o1c w => K (.exit 0) [some (Value.int .i64 o0), some (Value.slice o1 o1n o1c), none, none, none, none, none, none, none, none, none, none, none, none, none, none, none, none, none, none, none, none, none, none, none, none, none, none, none, none, none, none, none, none, none, none, none, none, none, none, none, none, none, none, none, none, none, none, none, none, none, none, none, none, none, none, none, none, none, none, none, none, none, none, none, none, none, none, none, none, none, none, none, none, none, none, none, none, none, none, none, none, none, none, none, none, none, none, none, none, none, none, none, none] w) (fun o4 o4n o4c o5 w => K .ret [none, none, none, none, some (Value.slice o4 o4n o4c), some (Value.int .i64 o5), none, none, none, none, none, none, none, none, none, none, none, none, none, none, none, none, none, none, none, none, none, none, none, none, none, none, none, none, none, none, none, none, none, none, none, none, none, none, none, none, none, none, none, none, none, none, none, none, none, none, none, none, none, none, none, none, none, none, none, none, none, none, none, none, none, none, none, none, none, none, none, none, none, none, none, none, none, none, none, none, none, none, none, none, none, none, none, none] w) := by kernel_rfl
theorem tracks_Join.lok5 : LoopOk Try.prog tracks_Join.L tracks_Join.b0 := by
  refine loop_ok tab_ok tracks_Join.C_ok (D := tracks_Join.D) (tracks_Join.hn5) (tracks_Join.hx5) (by kernel_rfl) (by rw [tracks_Join.b0_loops]; exact lcons tracks_Join.lok10 (lnil)) ?_ ?_ ?_ ?_
  · intro f w K h
    unfold tracks_Join.hn5 at h
    obtain ⟨hlen, h⟩ := gN_ok h
    obtain ⟨y0, h0, h⟩ := gI_ok h
    obtain ⟨y1, y1n, y1c, h1, h⟩ := gL_ok h
    obtain ⟨y6, h6, h⟩ := gI_ok h
    obtain ⟨y23, y23n, y23c, h23, h⟩ := gL_ok h
    obtain ⟨y24, h24, h⟩ := gI_ok h
    obtain ⟨y25, h25, h⟩ := gI_ok h
    exact h
  · intro N f w K h
    unfold tracks_Join.hn5 at h
    obtain ⟨hlen, h⟩ := gN_ok h
    obtain ⟨y0, h0, h⟩ := gI_ok h
    obtain ⟨y1, y1n, y1c, h1, h⟩ := gL_ok h
    obtain ⟨y6, h6, h⟩ := gI_ok h
    obtain ⟨y23, y23n, y23c, h23, h⟩ := gL_ok h
    obtain ⟨y24, h24, h⟩ := gI_ok h
    obtain ⟨y25, h25, h⟩ := gI_ok h
    refine ⟨[some (Value.int .i64 y0), some (Value.slice y1 y1n y1c), none, none, none, none, some (Value.int .i32 y6), none, none, none, none, none, none, none, none, none, none, none, none, none, none, none, none, some (Value.slice y23 y23n y23c), some (Value.int .i64 y24), some (Value.int .i64 y25), none, none, none, none, none, none, none, none, none, none, none, none, none, none, none, none, none, none, none, none, none, none, none, none, none, none, none, none, none, none, none, none, none, none, none, none, none, none, none, none, none, none, none, none, none, none, none, none, none, none, none, none, none, none, none, none, none, none, none, none, none, none, none, none, none, none, none, none], hlen, ⟨h0, h1, h6, h23, h24, h25, trivial⟩, ?_⟩
    rw [tracks_Join.le5]
    exact h
  · intro e f w K h
    cases e with
    | normal => exact h.elim
    | exit i =>
      unfold tracks_Join.hx5 at h
      simp only at h
      split at h
      · rename_i hb
        obtain rfl := Nat.eq_of_beq_eq_true hb
        obtain ⟨hlen, h⟩ := gN_ok h
        obtain ⟨o0, h0, h⟩ := gI_ok h
        obtain ⟨o1, o1n, o1c, h1, h⟩ := gL_ok h
        exact ⟨[some (Value.int .i64 o0), some (Value.slice o1 o1n o1c), none, none, none, none, none, none, none, none, none, none, none, none, none, none, none, none, none, none, none, none, none, none, none, none, none, none, none, none, none, none, none, none, none, none, none, none, none, none, none, none, none, none, none, none, none, none, none, none, none, none, none, none, none, none, none, none, none, none, none, none, none, none, none, none, none, none, none, none, none, none, none, none, none, none, none, none, none, none, none, none, none, none, none, none, none, none, none, none, none, none, none, none], hlen, ⟨h0, h1, trivial⟩, h⟩
      · exact (show False from h).elim
    | ret =>
      unfold tracks_Join.hx5 at h
      simp only at h
      obtain ⟨hlen, h⟩ := gN_ok h
      obtain ⟨o4, o4n, o4c, h4, h⟩ := gL_ok h
      obtain ⟨o5, h5, h⟩ := gI_ok h
      exact ⟨[none, none, none, none, some (Value.slice o4 o4n o4c), some (Value.int .i64 o5), none, none, none, none, none, none, none, none, none, none, none, none, none, none, none, none, none, none, none, none, none, none, none, none, none, none, none, none, none, none, none, none, none, none, none, none, none, none, none, none, none, none, none, none, none, none, none, none, none, none, none, none, none, none, none, none, none, none, none, none, none, none, none, none, none, none, none, none, none, none, none, none, none, none, none, none, none, none, none, none, none, none, none, none, none, none, none, none], hlen, ⟨h4, h5, trivial⟩, h⟩
  · intro f w K h
    have e : lid tracks_Join.b0 = 5 := by kernel_rfl
    rw [e] at h
    exact h
theorem tracks_Join.le21 (N : Nat) (y0 : Int) (y1 : Option Addr) (y1n : Nat) (y1c : Nat) (y11 : Option Addr) (y11n : Nat) (y11c : Nat) (y12 : Int) (y56 : Int) (y57 : Int) (y60 : Option Addr) (y60n : Nat) (y60c : Nat) (y61 : Int) (y62 : Int) (w : World) (K : AExit → Fr → World → Prop) : awp tracks_Join.C tracks_Join.L tracks_Join.D tab tracks_Join.b1_0 (lpost tracks_Join.hn21 tracks_Join.hx21 N K) [some (Value.int .i64 y0), some (Value.slice y1 y1n y1c), none, none, none, none, none, none, none, none, none, some (Value.slice y11 y11n y11c), some (Value.int .i64 y12), none, none, none, none, none, none, none, none, none, none, none, none, none, none, none, none, none, none, none, none, none, none, none, none, none, none, none, none, none, none, none, none, none, none, none, none, none, none, none, none, none, none, none, some (Value.int .i64 y56), some (Value.int .i64 y57), none, none, some (Value.slice y60 y60n y60c), some (Value.int .i64 y61), some (Value.int .i64 y62), none, none, none, none, none, none, none, none, none, none, none, none, none, none, none, none, none, none, none, none, none, none, none, none, none, none, none, none, none, none, none] w = tracks_Join.l21 (N + 1) y0 y1 y1n y1c y11 y11n y11c y12 y56 y57 y60 y60n y60c y61 y62 w (fun o0 o1 o1n o1c o11 o11n o11c o56 o57 w => K (.exit 6) [some (Value.int .i64 o0), some (Value.slice o1 o1n o1c), none, none, none, none, none, none, none, none, none, some (Value.slice o11 o11n o11c), none, none, none, none, none, none, none, none, none, none, none, none, none, none, none, none, none, none, none, none, none, none, none, none, none, none, none, none, none, none, none, none, none, none, none, none, none, none, none, none, none, none, none, none, some (Value.int .i64 o56), some (Value.int .i64 o57), none, none, none, none, none, none, none, none, none, none, none, none, none, none, none, none, none, none, none, none, none, none, none, none, none, none, none, none, none, none, none, none, none, none, none, none] w) := by kernel_rfl
theorem tracks_Join.lok21 : LoopOk Try.prog tracks_Join.L tracks_Join.b1_0 := by
  refine loop_ok tab_ok tracks_Join.C_ok (D := tracks_Join.D) (tracks_Join.hn21) (tracks_Join.hx21) (by kernel_rfl) (by rw [tracks_Join.b1_0_loops]; exact lnil) ?_ ?_ ?_ ?_
  · intro f w K h
    unfold tracks_Join.hn21 at h
    obtain ⟨hlen, h⟩ := gN_ok h
    obtain ⟨y0, h0, h⟩ := gI_ok h
    obtain ⟨y1, y1n, y1c, h1, h⟩ := gL_ok h
    obtain ⟨y11, y11n, y11c, h11, h⟩ := gL_ok h
    obtain ⟨y12, h12, h⟩ := gI_ok h
    obtain ⟨y56, h56, h⟩ := gI_ok h
    obtain ⟨y57, h57, h⟩ := gI_ok h
    obtain ⟨y60, y60n, y60c, h60, h⟩ := gL_ok h
    obtain ⟨y61, h61, h⟩ := gI_ok h
    obtain ⟨y62, h62, h⟩ := gI_ok h
    exact h
  · intro N f w K h
    unfold tracks_Join.hn21 at h
    obtain ⟨hlen, h⟩ := gN_ok h
    obtain ⟨y0, h0, h⟩ := gI_ok h
    obtain ⟨y1, y1n, y1c, h1, h⟩ := gL_ok h
    obtain ⟨y11, y11n, y11c, h11, h⟩ := gL_ok h
    obtain ⟨y12, h12, h⟩ := gI_ok h
    obtain ⟨y56, h56, h⟩ := gI_ok h
    obtain ⟨y57, h57, h⟩ := gI_ok h
    obtain ⟨y60, y60n, y60c, h60, h⟩ := gL_ok h
    obtain ⟨y61, h61, h⟩ := gI_ok h
    obtain ⟨y62, h62, h⟩ := gI_ok h
    refine ⟨[some (Value.int .i64 y0), some (Value.slice y1 y1n y1c), none, none, none, none, none, none, none, none, none, some (Value.slice y11 y11n y11c), some (Value.int .i64 y12), none, none, none, none, none, none, none, none, none, none, none, none, none, none, none, none, none, none, none, none, none, none, none, none, none, none, none, none, none, none, none, none, none, none, none, none, none, none, none, none, none, none, none, some (Value.int .i64 y56), some (Value.int .i64 y57), none, none, some (Value.slice y60 y60n y60c), some (Value.int .i64 y61), some (Value.int .i64 y62), none, none, none, none, none, none, none, none, none, none, none, none, none, none, none, none, none, none, none, none, none, none, none, none, none, none, none, none, none, none, none], hlen, ⟨h0, h1, h11, h12, h56, h57, h60, h61, h62, trivial⟩, ?_⟩
    rw [tracks_Join.le21]
    exact h
  · intro e f w K h
    cases e with
    | normal => exact h.elim
    | exit i =>
      unfold tracks_Join.hx21 at h
      simp only at h
      split at h
      · rename_i hb
        obtain rfl := Nat.eq_of_beq_eq_true hb
        obtain ⟨hlen, h⟩ := gN_ok h
        obtain ⟨o0, h0, h⟩ := gI_ok h
        obtain ⟨o1, o1n, o1c, h1, h⟩ := gL_ok h
        obtain ⟨o11, o11n, o11c, h11, h⟩ := gL_ok h
        obtain ⟨o56, h56, h⟩ := gI_ok h
        obtain ⟨o57, h57, h⟩ := gI_ok h
        exact ⟨[some (Value.int .i64 o0), some (Value.slice o1 o1n o1c), none, none, none, none, none, none, none, none, none, some (Value.slice o11 o11n o11c), none, none, none, none, none, none, none, none, none, none, none, none, none, none, none, none, none, none, none, none, none, none, none, none, none, none, none, none, none, none, none, none, none, none, none, none, none, none, none, none, none, none, none, none, some (Value.int .i64 o56), some (Value.int .i64 o57), none, none, none, none, none, none, none, none, none, none, none, none, none, none, none, none, none, none, none, none, none, none, none, none, none, none, none, none, none, none, none, none, none, none, none, none], hlen, ⟨h0, h1, h11, h56, h57, trivial⟩, h⟩
      · exact (show False from h).elim
    | ret =>
      exact (show False from h).elim
  · intro f w K h
    have e : lid tracks_Join.b1_0 = 21 := by kernel_rfl
    rw [e] at h
    exact h
theorem tracks_Join.le18 (N : Nat) (y0 : Int) (y1 : Option Addr) (y1n : Nat) (y1c : Nat) (y11 : Option Addr) (y11n : Nat) (y11c : Nat) (y56 : Int) (y57 : Int) (w : World) (K : AExit → Fr → World → Prop) : awp tracks_Join.C tracks_Join.L tracks_Join.D tab tracks_Join.b1 (lpost tracks_Join.hn18 tracks_Join.hx18 N K) [some (Value.int .i64 y0), some (Value.slice y1 y1n y1c), none, none, none, none, none, none, none, none, none, some (Value.slice y11 y11n y11c), none, none, none, none, none, none, none, none, none, none, none, none, none, none, none, none, none, none, none, none, none, none, none, none, none, none, none, none, none, none, none, none, none, none, none, none, none, none, none, none, none, none, none, none, some (Value.int .i64 y56), some (Value.int .i64 y57), none, none, none, none, none, none, none, none, none, none, none, none, none, none, none, none, none, none, none, none, none, none, none, none, none, none, none, none, none, none, none, none, none, none, none, none] w = tracks_Join.l18 (N + 1) y0 y1 y1n y1c y11 y11n y11c y56 y57 w (fun o11 o11n o11c w => K (.exit 4) [none, none, none, none, none, none, none, none, none, none, none, some (Value.slice o11 o11n o11c), none, none, none, none, none, none, none, none, none, none, none, none, none, none, none, none, none, none, none, none, none, none, none, none, none, none, none, none, none, none, none, none, none, none, none, none, none, none, none, none, none, none, none, none, none, none, none, none, none, none, none, none, none, none, none, none, none, none, none, none, none, none, none, none, none, none, none, none, none, none, none, none, none, none, none, none, none, none, none, none, none, none] w) := by kernel_rfl
theorem tracks_Join.lok18 : LoopOk Try.prog tracks_Join.L tracks_Join.b1 := by
  refine loop_ok tab_ok tracks_Join.C_ok (D := tracks_Join.D) (tracks_Join.hn18) (tracks_Join.hx18) (by kernel_rfl) (by rw [tracks_Join.b1_loops]; exact lcons tracks_Join.lok21 (lnil)) ?_ ?_ ?_ ?_
  · intro f w K h
    unfold tracks_Join.hn18 at h
    obtain ⟨hlen, h⟩ := gN_ok h
    obtain ⟨y0, h0, h⟩ := gI_ok h
    obtain ⟨y1, y1n, y1c, h1, h⟩ := gL_ok h
    obtain ⟨y11, y11n, y11c, h11, h⟩ := gL_ok h
    obtain ⟨y56, h56, h⟩ := gI_ok h
    obtain ⟨y57, h57, h⟩ := gI_ok h
    exact h
  · intro N f w K h
    unfold tracks_Join.hn18 at h
    obtain ⟨hlen, h⟩ := gN_ok h
    obtain ⟨y0, h0, h⟩ := gI_ok h
    obtain ⟨y1, y1n, y1c, h1, h⟩ := gL_ok h
    obtain ⟨y11, y11n, y11c, h11, h⟩ := gL_ok h
    obtain ⟨y56, h56, h⟩ := gI_ok h
    obtain ⟨y57, h57, h⟩ := gI_ok h
    refine ⟨[some (Value.int .i64 y0), some (Value.slice y1 y1n y1c), none, none, none, none, none, none, none, none, none, some (Value.slice y11 y11n y11c), none, none, none, none, none, none, none, none, none, none, none, none, none, none, none, none, none, none, none, none, none, none, none, none, none, none, none, none, none, none, none, none, none, none, none, none, none, none, none, none, none, none, none, none, some (Value.int .i64 y56), some (Value.int .i64 y57), none, none, none, none, none, none, none, none, none, none, none, none, none, none, none, none, none, none, none, none, none, none, none, none, none, none, none, none, none, none, none, none, none, none, none, none], hlen, ⟨h0, h1, h11, h56, h57, trivial⟩, ?_⟩
    rw [tracks_Join.le18]
    exact h
  · intro e f w K h
    cases e with
    | normal => exact h.elim
    | exit i =>
      unfold tracks_Join.hx18 at h
      simp only at h
      split at h
      · rename_i hb
        obtain rfl := Nat.eq_of_beq_eq_true hb
        obtain ⟨hlen, h⟩ := gN_ok h
        obtain ⟨o11, o11n, o11c, h11, h⟩ := gL_ok h
        exact ⟨[none, none, none, none, none, none, none, none, none, none, none, some (Value.slice o11 o11n o11c), none, none, none, none, none, none, none, none, none, none, none, none, none, none, none, none, none, none, none, none, none, none, none, none, none, none, none, none, none, none, none, none, none, none, none, none, none, none, none, none, none, none, none, none, none, none, none, none, none, none, none, none, none, none, none, none, none, none, none, none, none, none, none, none, none, none, none, none, none, none, none, none, none, none, none, none, none, none, none, none, none, none], hlen, ⟨h11, trivial⟩, h⟩
      · exact (show False from h).elim
    | ret =>
      exact (show False from h).elim
  · intro f w K h
    have e : lid tracks_Join.b1 = 18 := by kernel_rfl
    rw [e] at h
    exact h
theorem tracks_Join.eq (a0 : Int) (a1 : Option Addr) (a1n : Nat) (a1c : Nat) (w : World) (K : Value → World → Prop) : afn tracks_Join.C tracks_Join.L tracks_Join.D tab Try.f36 [(Value.int .i64 a0), (Value.slice a1 a1n a1c)] w K = tracks_Join.f a0 a1 a1n a1c w (fun r0 r0n r0c r1 w => K (Value.tuple #[(Value.slice r0 r0n r0c), (Value.int .i64 r1)]) w) := by kernel_rfl
theorem tracks_Join.ok : FSound Try.prog 36 tracks_Join.h := by
  intro args w K h
  unfold tracks_Join.h tracks_Join.H at h
  split at h
  ·
    replace h := vI_ok h
    obtain ⟨a0, rfl, h⟩ := h
    replace h := vL_ok h
    obtain ⟨a1, a1n, a1c, rfl, h⟩ := h
    refine ⟨by kernel_rfl, fn_ok tab_ok tracks_Join.C_ok (L := tracks_Join.L) (D := tracks_Join.D) Try.func36 tracks_Join.hb (by kernel_rfl) (by rw [tracks_Join.c_loops]; exact lcons tracks_Join.lok5 (lcons tracks_Join.lok18 (lnil))) (Nat.le_of_ble_eq_true (by kernel_rfl)) ?_⟩
    rw [tracks_Join.eq]
    exact h
  · exact h.elim
/-! ### valise/valiseref14.Join: function 37 -/
def ref14_Join.l12 : Nat → Int → Option Addr → Nat → Nat → Int → Int → Int → World → (Int → Option Addr → Nat → Nat → Int → Int → World → Prop) → (Option Addr → Nat → Nat → Int → World → Prop) → Prop
  | 0, _, _, _, _, _, _, _, _, _, _ => False
  | N + 1, y0, y1, y1n, y1c, y6, y7, y8, w, K2, Kr =>
    sm y1 fun p_26 =>
    if 0 ≤ (y7 : Int) ∧ (y7 : Int) < ((y1n : Nat) : Int) then
    ldL (p_26.add (Int.toNat y7)) w fun x51_27 x51_27n x51_27c =>
    bif (decide (y8 < ((x51_27n : Nat) : Int))) then
      sm y1 fun p_30 =>
      if 0 ≤ (y7 : Int) ∧ (y7 : Int) < ((y1n : Nat) : Int) then
      ldL (p_30.add (Int.toNat y7)) w fun x59_31 x59_31n x59_31c =>
      sm x59_31 fun p_32 =>
      if 0 ≤ (y8 : Int) ∧ (y8 : Int) < ((x59_31n : Nat) : Int) then
      ldI .i32 (p_32.add (Int.toNat y8)) w fun x62_33 =>
      bif (decide (x62_33 > y6)) then
        Kr none 0 0 4 w
      else
        sm y1 fun p_34 =>
        if 0 ≤ (y7 : Int) ∧ (y7 : Int) < ((y1n : Nat) : Int) then
        ldL (p_34.add (Int.toNat y7)) w fun x69_35 x69_35n x69_35c =>
        sm x69_35 fun p_36 =>
        if 0 ≤ (y8 : Int) ∧ (y8 : Int) < ((x69_35n : Nat) : Int) then
        ldI .i32 (p_36.add (Int.toNat y8)) w fun x72_37 =>
        bif (decide (x72_37 < (IntKind.wrap .i32 ((IntKind.wrap .i32 (0 - y6)) - 1)))) then
          Kr none 0 0 4 w
        else
          let v8_40 := (IntKind.wrap .i64 (y8 + 1))
          ref14_Join.l12 N y0 y1 y1n y1c y6 y7 v8_40 w K2 Kr
        else False
        else False
      else False
      else False
    else
      K2 y0 y1 y1n y1c y6 y7 w
    else False

def ref14_Join.l7 : Nat → Int → Option Addr → Nat → Nat → Int → Int → World → (Int → Option Addr → Nat → Nat → World → Prop) → (Option Addr → Nat → Nat → Int → World → Prop) → Prop
  | 0, _, _, _, _, _, _, _, _, _ => False
  | N + 1, y0, y1, y1n, y1c, y6, y7, w, K0, Kr =>
    bif (decide (y7 < ((y1n : Nat) : Int))) then
      sm y1 fun p_18 =>
      if 0 ≤ (y7 : Int) ∧ (y7 : Int) < ((y1n : Nat) : Int) then
      ldL (p_18.add (Int.toNat y7)) w.drew fun x40_19 x40_19n x40_19c =>
      sm y1 fun p_20 =>
      if 0 ≤ (0 : Int) ∧ (0 : Int) < ((y1n : Nat) : Int) then
      ldL p_20 w.drew fun x44_21 x44_21n x44_21c =>
      bif (((x40_19n : Nat) : Int) != ((x44_21n : Nat) : Int)) then
        Kr none 0 0 4 w.drew
      else
        ∃ N_41 : Nat, ref14_Join.l12 N_41 y0 y1 y1n y1c y6 y7 0 w.drew
        (fun o0_42 o1_43 o1_43n o1_43c o6_44 o7_45 w =>
          let v7_48 := (IntKind.wrap .i64 (o7_45 + 1))
          ref14_Join.l7 N o0_42 o1_43 o1_43n o1_43c o6_44 v7_48 w K0 Kr)
        (fun o4_46 o4_46n o4_46c o5_47 w =>
          Kr o4_46 o4_46n o4_46c o5_47 w)
      else False
      else False
    else
      K0 y0 y1 y1n y1c w

def ref14_Join.l21 : Nat → Int → Option Addr → Nat → Nat → Option Addr → Nat → Nat → Int → Int → World → (Int → Option Addr → Nat → Nat → Option Addr → Nat → Nat → Int → World → Prop) → Prop
  | 0, _, _, _, _, _, _, _, _, _, _, _ => False
  | N + 1, y0, y1, y1n, y1c, y9, y9n, y9c, y10, y11, w, K6 =>
    bif (decide (y11 < ((y1n : Nat) : Int))) then
      sm y1 fun p_67 =>
      if 0 ≤ (y11 : Int) ∧ (y11 : Int) < ((y1n : Nat) : Int) then
      ldL (p_67.add (Int.toNat y11)) w fun x95_68 x95_68n x95_68c =>
      sm x95_68 fun p_69 =>
      if 0 ≤ (y10 : Int) ∧ (y10 : Int) < ((x95_68n : Nat) : Int) then
      ldI .i32 (p_69.add (Int.toNat y10)) w fun x98_70 =>
      bif (y0 == 8) then
        newC 5 [(Value.int .u8 (IntKind.wrap .u8 (IntKind.wrap .i32 (x98_70 + 128))))] w fun a105_72 w =>
        appL 5 1 1 [(Value.int .u8 0)] y9 y9n y9c (some a105_72) 1 1 w fun a106_73 a106_73n a106_73c w =>
        let v11_76 := (IntKind.wrap .i64 (y11 + 1))
        ref14_Join.l21 N y0 y1 y1n y1c a106_73 a106_73n a106_73c y10 v11_76 w K6
      else
        newC 5 [(Value.int .u8 (IntKind.wrap .u8 x98_70)), (Value.int .u8 (IntKind.wrap .u8 (shr .i32 x98_70 8)))] w fun a113_74 w =>
        appL 5 1 1 [(Value.int .u8 0)] y9 y9n y9c (some a113_74) 2 2 w fun a114_75 a114_75n a114_75c w =>
        let v11_77 := (IntKind.wrap .i64 (y11 + 1))
        ref14_Join.l21 N y0 y1 y1n y1c a114_75 a114_75n a114_75c y10 v11_77 w K6
      else False
      else False
    else
      K6 y0 y1 y1n y1c y9 y9n y9c y10 w

def ref14_Join.l18 : Nat → Int → Option Addr → Nat → Nat → Option Addr → Nat → Nat → Int → World → (Option Addr → Nat → Nat → World → Prop) → Prop
  | 0, _, _, _, _, _, _, _, _, _, _ => False
  | N + 1, y0, y1, y1n, y1c, y9, y9n, y9c, y10, w, K4 =>
    sm y1 fun p_59 =>
    if 0 ≤ (0 : Int) ∧ (0 : Int) < ((y1n : Nat) : Int) then
    ldL p_59 w fun x81_60 x81_60n x81_60c =>
    bif (decide (y10 < ((x81_60n : Nat) : Int))) then
      ∃ N_78 : Nat, ref14_Join.l21 N_78 y0 y1 y1n y1c y9 y9n y9c y10 0 w
      (fun o0_79 o1_80 o1_80n o1_80c o9_81 o9_81n o9_81c o10_82 w =>
        let v10_83 := (IntKind.wrap .i64 (o10_82 + 1))
        ref14_Join.l18 N o0_79 o1_80 o1_80n o1_80c o9_81 o9_81n o9_81c v10_83 w K4)
    else
      K4 y9 y9n y9c w
    else False

def ref14_Join.f (a0 : Int) (a1 : Option Addr) (a1n : Nat) (a1c : Nat) (w : World) (K : Option Addr → Nat → Nat → Int → World → Prop) : Prop :=
  let J_88 := fun  (w : World) =>
    ((let J_87 := fun (j6_10 : Int) (w : World) =>
      ((∃ N_49 : Nat, ref14_Join.l7 N_49 a0 a1 a1n a1c j6_10 0 w
      (fun o0_50 o1_51 o1_51n o1_51c w =>
        ∃ N_84 : Nat, ref14_Join.l18 N_84 o0_50 o1_51 o1_51n o1_51c none 0 0 0 w
        (fun o9_85 o9_85n o9_85c w =>
          K o9_85 o9_85n o9_85c 0 w))
      (fun o4_52 o4_52n o4_52c o5_53 w =>
        K o4_52 o4_52n o4_52c o5_53 w)) : Prop)
    bif (a0 == 16) then
      J_87 32767 w
    else
      J_87 127 w) : Prop)
  bif (decide (((a1n : Nat) : Int) < 1)) then
    K none 0 0 1 w
  else
    bif (decide (((a1n : Nat) : Int) > 8)) then
      K none 0 0 1 w
    else
      bif (a0 != 8) then
        bif (a0 != 16) then
          K none 0 0 1 w
        else
          J_88 w
      else
        J_88 w
def ref14_Join.H (F : type_of% @ref14_Join.f) : Hf := fun args w K => match args with
  | [v0, v1] => vI .i64 v0 fun a0 => vL v1 fun a1 a1n a1c => F a0 a1 a1n a1c w (fun r0 r0n r0c r1 w => K (Value.tuple #[(Value.slice r0 r0n r0c), (Value.int .i64 r1)]) w)
  | _ => False
def ref14_Join.h : Hf := ref14_Join.H @ref14_Join.f
def ref14_Join.C : Hd := hnil
theorem ref14_Join.C_ok : CSound Try.prog ref14_Join.C := hnil_ok
def ref14_Join.D : Nat → Plan := fun i => (match Nat.beq i 9 with | true => .take 0 (.take 1 (.take 2 (.take 3 (.take 4 (.take 5 (.take 6 (.take 7 (.take 8 (.take 9 (.done)))))))))) | false => .done)
noncomputable def ref14_Join.c : Code := Try.f37.body.getD .skip
theorem ref14_Join.hb : Try.f37.body = some ref14_Join.c := by kernel_rfl
noncomputable def ref14_Join.b0 : Code := (loopsOf ref14_Join.c).getD 0 .skip
noncomputable def ref14_Join.b0_0 : Code := (loopsOf ref14_Join.b0).getD 0 .skip
theorem ref14_Join.b0_0_loops : loopsOf ref14_Join.b0_0 = [] := by kernel_rfl
theorem ref14_Join.b0_loops : loopsOf ref14_Join.b0 = [ref14_Join.b0_0] := by kernel_rfl
noncomputable def ref14_Join.b1 : Code := (loopsOf ref14_Join.c).getD 1 .skip
noncomputable def ref14_Join.b1_0 : Code := (loopsOf ref14_Join.b1).getD 0 .skip
theorem ref14_Join.b1_0_loops : loopsOf ref14_Join.b1_0 = [] := by kernel_rfl
theorem ref14_Join.b1_loops : loopsOf ref14_Join.b1 = [ref14_Join.b1_0] := by kernel_rfl
theorem ref14_Join.c_loops : loopsOf ref14_Join.c = [ref14_Join.b0, ref14_Join.b1] := by kernel_rfl
def ref14_Join.hn12 (N : Nat) (f : Fr) (w : World) (K : AExit → Fr → World → Prop) : Prop :=
  gN f 116 <| gI .i64 f 0 fun y0 => gL f 1 fun y1 y1n y1c => gI .i32 f 6 fun y6 => gI .i64 f 7 fun y7 => gI .i64 f 8 fun y8 => ref14_Join.l12 N y0 y1 y1n y1c y6 y7 y8 w (fun o0 o1 o1n o1c o6 o7 w => K (.exit 2) [some (Value.int .i64 o0), some (Value.slice o1 o1n o1c), none, none, none, none, some (Value.int .i32 o6), some (Value.int .i64 o7), none, none, none, none, none, none, none, none, none, none, none, none, none, none, none, none, none, none, none, none, none, none, none, none, none, none, none, none, none, none, none, none, none, none, none, none, none, none, none, none, none, none, none, none, none, none, none, none, none, none, none, none, none, none, none, none, none, none, none, none, none, none, none, none, none, none, none, none, none, none, none, none, none, none, none, none, none, none, none, none, none, none, none, none, none, none, none, none, none, none, none, none, none, none, none, none, none, none, none, none, none, none, none, none, none, none, none, none] w) (fun o4 o4n o4c o5 w => K .ret [none, none, none, none, some (Value.slice o4 o4n o4c), some (Value.int .i64 o5), none, none, none, none, none, none, none, none, none, none, none, none, none, none, none, none, none, none, none, none, none, none, none, none, none, none, none, none, none, none, none, none, none, none, none, none, none, none, none, none, none, none, none, none, none, none, none, none, none, none, none, none, none, none, none, none, none, none, none, none, none, none, none, none, none, none, none, none, none, none, none, none, none, none, none, none, none, none, none, none, none, none, none, none, none, none, none, none, none, none, none, none, none, none, none, none, none, none, none, none, none, none, none, none, none, none, none, none, none, none] w)
def ref14_Join.hx12 : AExit → Fr → World → (AExit → Fr → World → Prop) → Prop := fun e f w K => match e with
  | .normal => False
  | .exit i => (match Nat.beq i 2 with | true => gN f 116 <| gI .i64 f 0 fun o0 => gL f 1 fun o1 o1n o1c => gI .i32 f 6 fun o6 => gI .i64 f 7 fun o7 => K (.exit 2) [some (Value.int .i64 o0), some (Value.slice o1 o1n o1c), none, none, none, none, some (Value.int .i32 o6), some (Value.int .i64 o7), none, none, none, none, none, none, none, none, none, none, none, none, none, none, none, none, none, none, none, none, none, none, none, none, none, none, none, none, none, none, none, none, none, none, none, none, none, none, none, none, none, none, none, none, none, none, none, none, none, none, none, none, none, none, none, none, none, none, none, none, none, none, none, none, none, none, none, none, none, none, none, none, none, none, none, none, none, none, none, none, none, none, none, none, none, none, none, none, none, none, none, none, none, none, none, none, none, none, none, none, none, none, none, none, none, none, none, none] w | false => False)
  | .ret => gN f 116 <| gL f 4 fun o4 o4n o4c => gI .i64 f 5 fun o5 => K .ret [none, none, none, none, some (Value.slice o4 o4n o4c), some (Value.int .i64 o5), none, none, none, none, none, none, none, none, none, none, none, none, none, none, none, none, none, none, none, none, none, none, none, none, none, none, none, none, none, none, none, none, none, none, none, none, none, none, none, none, none, none, none, none, none, none, none, none, none, none, none, none, none, none, none, none, none, none, none, none, none, none, none, none, none, none, none, none, none, none, none, none, none, none, none, none, none, none, none, none, none, none, none, none, none, none, none, none, none, none, none, none, none, none, none, none, none, none, none, none, none, none, none, none, none, none, none, none, none, none] w
def ref14_Join.hn7 (N : Nat) (f : Fr) (w : World) (K : AExit → Fr → World → Prop) : Prop :=
  gN f 116 <| gI .i64 f 0 fun y0 => gL f 1 fun y1 y1n y1c => gI .i32 f 6 fun y6 => gI .i64 f 7 fun y7 => ref14_Join.l7 N y0 y1 y1n y1c y6 y7 w (fun o0 o1 o1n o1c w => K (.exit 0) [some (Value.int .i64 o0), some (Value.slice o1 o1n o1c), none, none, none, none, none, none, none, none, none, none, none, none, none, none, none, none, none, none, none, none, none, none, none, none, none, none, none, none, none, none, none, none, none, none, none, none, none, none, none, none, none, none, none, none, none, none, none, none, none, none, none, none, none, none, none, none, none, none, none, none, none, none, none, none, none, none, none, none, none, none, none, none, none, none, none, none, none, none, none, none, none, none, none, none, none, none, none, none, none, none, none, none, none, none, none, none, none, none, none, none, none, none, none, none, none, none, none, none, none, none, none, none, none, none] w) (fun o4 o4n o4c o5 w => K .ret [none, none, none, none, some (Value.slice o4 o4n o4c), some (Value.int .i64 o5), none, none, none, none, none, none, none, none, none, none, none, none, none, none, none, none, none, none, none, none, none, none, none, none, none, none, none, none, none, none, none, none, none, none, none, none, none, none, none, none, none, none, none, none, none, none, none, none, none, none, none, none, none, none, none, none, none, none, none, none, none, none, none, none, none, none, none, none, none, none, none, none, none, none, none, none, none, none, none, none, none, none, none, none, none, none, none, none, none, none, none, none, none, none, none, none, none, none, none, none, none, none, none, none, none, none, none, none, none, none] w)
def ref14_Join.hx7 : AExit → Fr → World → (AExit → Fr → World → Prop) → Prop := fun e f w K => match e with
  | .normal => False
  | .exit i => (match Nat.beq i 0 with | true => gN f 116 <| gI .i64 f 0 fun o0 => gL f 1 fun o1 o1n o1c => K (.exit 0) [some (Value.int .i64 o0), some (Value.slice o1 o1n o1c), none, none, none, none, none, none, none, none, none, none, none, none, none, none, none, none, none, none, none, none, none, none, none, none, none, none, none, none, none, none, none, none, none, none, none, none, none, none, none, none, none, none, none, none, none, none, none, none, none, none, none, none, none, none, none, none, none, none, none, none, none, none, none, none, none, none, none, none, none, none, none, none, none, none, none, none, none, none, none, none, none, none, none, none, none, none, none, none, none, none, none, none, none, none, none, none, none, none, none, none, none, none, none, none, none, none, none, none, none, none, none, none, none, none] w | false => False)
  | .ret => gN f 116 <| gL f 4 fun o4 o4n o4c => gI .i64 f 5 fun o5 => K .ret [none, none, none, none, some (Value.slice o4 o4n o4c), some (Value.int .i64 o5), none, none, none, none, none, none, none, none, none, none, none, none, none, none, none, none, none, none, none, none, none, none, none, none, none, none, none, none, none, none, none, none, none, none, none, none, none, none, none, none, none, none, none, none, none, none, none, none, none, none, none, none, none, none, none, none, none, none, none, none, none, none, none, none, none, none, none, none, none, none, none, none, none, none, none, none, none, none, none, none, none, none, none, none, none, none, none, none, none, none, none, none, none, none, none, none, none, none, none, none, none, none, none, none, none, none, none, none, none, none] w
def ref14_Join.hn21 (N : Nat) (f : Fr) (w : World) (K : AExit → Fr → World → Prop) : Prop :=
  gN f 116 <| gI .i64 f 0 fun y0 => gL f 1 fun y1 y1n y1c => gL f 9 fun y9 y9n y9c => gI .i64 f 10 fun y10 => gI .i64 f 11 fun y11 => ref14_Join.l21 N y0 y1 y1n y1c y9 y9n y9c y10 y11 w (fun o0 o1 o1n o1c o9 o9n o9c o10 w => K (.exit 6) [some (Value.int .i64 o0), some (Value.slice o1 o1n o1c), none, none, none, none, none, none, none, some (Value.slice o9 o9n o9c), some (Value.int .i64 o10), none, none, none, none, none, none, none, none, none, none, none, none, none, none, none, none, none, none, none, none, none, none, none, none, none, none, none, none, none, none, none, none, none, none, none, none, none, none, none, none, none, none, none, none, none, none, none, none, none, none, none, none, none, none, none, none, none, none, none, none, none, none, none, none, none, none, none, none, none, none, none, none, none, none, none, none, none, none, none, none, none, none, none, none, none, none, none, none, none, none, none, none, none, none, none, none, none, none, none, none, none, none, none, none, none] w)
def ref14_Join.hx21 : AExit → Fr → World → (AExit → Fr → World → Prop) → Prop := fun e f w K => match e with
  | .normal => False
  | .exit i => (match Nat.beq i 6 with | true => gN f 116 <| gI .i64 f 0 fun o0 => gL f 1 fun o1 o1n o1c => gL f 9 fun o9 o9n o9c => gI .i64 f 10 fun o10 => K (.exit 6) [some (Value.int .i64 o0), some (Value.slice o1 o1n o1c), none, none, none, none, none, none, none, some (Value.slice o9 o9n o9c), some (Value.int .i64 o10), none, none, none, none, none, none, none, none, none, none, none, none, none, none, none, none, none, none, none, none, none, none, none, none, none, none, none, none, none, none, none, none, none, none, none, none, none, none, none, none, none, none, none, none, none, none, none, none, none, none, none, none, none, none, none, none, none, none, none, none, none, none, none, none, none, none, none, none, none, none, none, none, none, none, none, none, none, none, none, none, none, none, none, none, none, none, none, none, none, none, none, none, none, none, none, none, none, none, none, none, none, none, none, none, none] w | false => False)
  | .ret => False
def ref14_Join.hn18 (N : Nat) (f : Fr) (w : World) (K : AExit → Fr → World → Prop) : Prop :=
  gN f 116 <| gI .i64 f 0 fun y0 => gL f 1 fun y1 y1n y1c => gL f 9 fun y9 y9n y9c => gI .i64 f 10 fun y10 => ref14_Join.l18 N y0 y1 y1n y1c y9 y9n y9c y10 w (fun o9 o9n o9c w => K (.exit 4) [none, none, none, none, none, none, none, none, none, some (Value.slice o9 o9n o9c), none, none, none, none, none, none, none, none, none, none, none, none, none, none, none, none, none, none, none, none, none, none, none, none, none, none, none, none, none, none, none, none, none, none, none, none, none, none, none, none, none, none, none, none, none, none, none, none, none, none, none, none, none, none, none, none, none, none, none, none, none, none, none, none, none, none, none, none, none, none, none, none, none, none, none, none, none, none, none, none, none, none, none, none, none, none, none, none, none, none, none, none, none, none, none, none, none, none, none, none, none, none, none, none, none, none] w)
def ref14_Join.hx18 : AExit → Fr → World → (AExit → Fr → World → Prop) → Prop := fun e f w K => match e with
  | .normal => False
  | .exit i => (match Nat.beq i 4 with | true => gN f 116 <| gL f 9 fun o9 o9n o9c => K (.exit 4) [none, none, none, none, none, none, none, none, none, some (Value.slice o9 o9n o9c), none, none, none, none, none, none, none, none, none, none, none, none, none, none, none, none, none, none, none, none, none, none, none, none, none, none, none, none, none, none, none, none, none, none, none, none, none, none, none, none, none, none, none, none, none, none, none, none, none, none, none, none, none, none, none, none, none, none, none, none, none, none, none, none, none, none, none, none, none, none, none, none, none, none, none, none, none, none, none, none, none, none, none, none, none, none, none, none, none, none, none, none, none, none, none, none, none, none, none, none, none, none, none, none, none, none] w | false => False)
  | .ret => False
def ref14_Join.L : LHd := fun l f w K => (match Nat.beq l 18 with | true => ∃ N, ref14_Join.hn18 N f w K | false => (match Nat.beq l 21 with | true => ∃ N, ref14_Join.hn21 N f w K | false => (match Nat.beq l 7 with | true => ∃ N, ref14_Join.hn7 N f w K | false => (match Nat.beq l 12 with | true => ∃ N, ref14_Join.hn12 N f w K | false => False))))
theorem ref14_Join.le12 (N : Nat) (y0 : Int) (y1 : Option Addr) (y1n : Nat) (y1c : Nat) (y6 : Int) (y7 : Int) (y8 : Int) (w : World) (K : AExit → Fr → World → Prop) : awp ref14_Join.C ref14_Join.L ref14_Join.D tab ref14_Join.b0_0 (lpost ref14_Join.hn12 ref14_Join.hx12 N K) [some (Value.int .i64 y0), some (Value.slice y1 y1n y1c), none, none, none, none, some (Value.int .i32 y6), some (Value.int .i64 y7), some (Value.int .i64 y8), none, none, none, none, none, none, none, none, none, none, none, none, none, none, none, none, none, none, none, none, none, none, none, none, none, none, none, none, none, none, none, none, none, none, none, none, none, none, none, none, none, none, none, none, none, none, none, none, none, none, none, none, none, none, none, none, none, none, none, none, none, none, none, none, none, none, none, none, none, none, none, none, none, none, none, none, none, none, none, none, none, none, none, none, none, none, none, none, none, none, none, none, none, none, none, none, none, none, none, none, none, none, none, none, none, none, none] w = ref14_Join.l12 (N + 1) y0 y1 y1n y1c y6 y7 y8 w (fun o0 o1 o1n o1c o6 o7 w => K (.exit 2) [some (Value.int .i64 o0), some (Value.slice o1 o1n o1c), none, none, none, none, some (Value.int .i32 o6), some (Value.int .i64 o7), none, none, none, none, none, none, none, none, none, none, none, none, none, none, none, none, none, none, none, none, none, none, none, none, none, none, none, none, none, none, none, none, none, none, none, none, none, none, none, none, none, none, none, none, none, none, none, none, none, none, none, none, none, none, none, none, none, none, none, none, none, none, none, none, none, none, none, none, none, none, none, none, none, none, none, none, none, none, none, none, none, none, none, none, none, none, none, none, none, none, none, none, none, none, none, none, none, none, none, none, none, none, none, none, none, none, none, none] w) (fun o4 o4n o4c o5 w => K .ret [none, none, none, none, some (Value.slice o4 o4n o4c), some (Value.int .i64 o5), none, none, none, none, none, none, none, none, none, none, none, none, none, none, none, none, none, none, none, none, none, none, none, none, none, none, none, none, none, none, none, none, none, none, none, none, none, none, none, none, none, none, none, none, none, none, none, none, none, none, none, none, none, none, none, none, none, none, none, none, none, none, none, none, none, none, none, none, none, none, none, none, none, none, none, none, none, none, none, none, none, none, none, none, none, none, none, none, none, none, none, none, none, none, none, none, none, none, none, none, none, none, none, none, none, none, none, none, none, none] w) := by kernel_rfl
theorem ref14_Join.lok12 : LoopOk Try.prog ref14_Join.L ref14_Join.b0_0 := by
  refine loop_ok tab_ok ref14_Join.C_ok (D := ref14_Join.D) (ref14_Join.hn12) (ref14_Join.hx12) (by kernel_rfl) (by rw [ref14_Join.b0_0_loops]; exact lnil) ?_ ?_ ?_ ?_
  · intro f w K h
    unfold ref14_Join.hn12 at h
    obtain ⟨hlen, h⟩ := gN_ok h
    obtain ⟨y0, h0, h⟩ := gI_ok h
    obtain ⟨y1, y1n, y1c, h1, h⟩ := gL_ok h
    obtain ⟨y6, h6, h⟩ := gI_ok h
    obtain ⟨y7, h7, h⟩ := gI_ok h
    obtain ⟨y8, h8, h⟩ := gI_ok h
    exact h
  · intro N f w K h
    unfold ref14_Join.hn12 at h
    obtain ⟨hlen, h⟩ := gN_ok h
    obtain ⟨y0, h0, h⟩ := gI_ok h
    obtain ⟨y1, y1n, y1c, h1, h⟩ := gL_ok h
    obtain ⟨y6, h6, h⟩ := gI_ok h
    obtain ⟨y7, h7, h⟩ := gI_ok h
    obtain ⟨y8, h8, h⟩ := gI_ok h
    refine ⟨[some (Value.int .i64 y0), some (Value.slice y1 y1n y1c), none, none, none, none, some (Value.int .i32 y6), some (Value.int .i64 y7), some (Value.int .i64 y8), none, none, none, none, none, none, none, none, none, none, none, none, none, none, none, none, none, none, none, none, none, none, none, none, none, none, none, none, none, none, none, none, none, none, none, none, none, none, none, none, none, none, none, none, none, none, none, none, none, none, none, none, none, none, none, none, none, none, none, none, none, none, none, none, none, none, none, none, none, none, none, none, none, none, none, none, none, none, none, none, none, none, none, none, none, none, none, none, none, none, none, none, none, none, none, none, none, none, none, none, none, none, none, none, none, none, none], hlen, ⟨h0, h1, h6, h7, h8, trivial⟩, ?_⟩
    rw [ref14_Join.le12]
    exact h
  · intro e f w K h
    cases e with
    | normal => exact h.elim
    | exit i =>
      unfold ref14_Join.hx12 at h
      simp only at h
      split at h
      · rename_i hb
        obtain rfl := Nat.eq_of_beq_eq_true hb
        obtain ⟨hlen, h⟩ := gN_ok h
        obtain ⟨o0, h0, h⟩ := gI_ok h
        obtain ⟨o1, o1n, o1c, h1, h⟩ := gL_ok h
        obtain ⟨o6, h6, h⟩ := gI_ok h
        obtain ⟨o7, h7, h⟩ := gI_ok h
        exact ⟨[some (Value.int .i64 o0), some (Value.slice o1 o1n o1c), none, none, none, none, some (Value.int .i32 o6), some (Value.int .i64 o7), none, none, none, none, none, none, none, none, none, none, none, none, none, none, none, none, none, none, none, none, none, none, none, none, none, none, none, none, none, none, none, none, none, none, none, none, none, none, none, none, none, none, none, none, none, none, none, none, none, none, none, none, none, none, none, none, none, none, none, none, none, none, none, none, none, none, none, none, none, none, none, none, none, none, none, none, none, none, none, none, none, none, none, none, none, none, none, none, none, none, none, none, none, none, none, none, none, none, none, none, none, none, none, none, none, none, none, none], hlen, ⟨h0, h1, h6, h7, trivial⟩, h⟩
      · exact (show False from h).elim
    | ret =>
      unfold ref14_Join.hx12 at h
      simp only at h
      obtain ⟨hlen, h⟩ := gN_ok h
      obtain ⟨o4, o4n, o4c, h4, h⟩ := gL_ok h
      obtain ⟨o5, h5, h⟩ := gI_ok h
      exact ⟨[none, none, none, none, some (Value.slice o4 o4n o4c), some (Value.int .i64 o5), none, none, none, none, none, none, none, none, none, none, none, none, none, none, none, none, none, none, none, none, none, none, none, none, none, none, none, none, none, none, none, none, none, none, none, none, none, none, none, none, none, none, none, none, none, none, none, none, none, none, none, none, none, none, none, none, none, none, none, none, none, none, none, none, none, none, none, none, none, none, none, none, none, none, none, none, none, none, none, none, none, none, none, none, none, none, none, none, none, none, none, none, none, none, none, none, none, none, none, none, none, none, none, none, none, none, none, none, none, none], hlen, ⟨h4, h5, trivial⟩, h⟩
  · intro f w K h
    have e : lid ref14_Join.b0_0 = 12 := by kernel_rfl
    rw [e] at h
    exact h
theorem ref14_Join.le7 (N : Nat) (y0 : Int) (y1 : Option Addr) (y1n : Nat) (y1c : Nat) (y6 : Int) (y7 : Int) (w : World) (K : AExit → Fr → World → Prop) : awp ref14_Join.C ref14_Join.L ref14_Join.D tab ref14_Join.b0 (lpost ref14_Join.hn7 ref14_Join.hx7 N K) [some (Value.int .i64 y0), some (Value.slice y1 y1n y1c), none, none, none, none, some (Value.int .i32 y6), some (Value.int .i64 y7), none, none, none, none, none, none, none, none, none, none, none, none, none, none, none, none, none, none, none, none, none, none, none, none, none, none, none, none, none, none, none, none, none, none, none, none, none, none, none, none, none, none, none, none, none, none, none, none, none, none, none, none, none, none, none, none, none, none, none, none, none, none, none, none, none, none, none, none, none, none, none, none, none, none, none, none, none, none, none, none, none, none, none, none, none, none, none, none, none, none, none, none, none, none, none, none, none, none, none, none, none, none, none, none, none, none, none, none] w = ref14_Join.l7 (N + 1) y0 y1 y1n y1c y6 y7 w (fun o0 o1 o1n o1c w => K (.exit 0) [some (Value.int .i64 o0), some (Value.slice o1 o1n o1c), none, none, none, none, none, none, none, none, none, none, none, none, none, none, none, none, none, none, none, none, none, none, none, none, none, none, none, none, none, none, none, none, none, none, none, none, none, none, none, none, none, none, none, none, none, none, none, none, none, none, none, none, none, none, none, none, none, none, none, none, none, none, none, none, none, none, none, none, none, none, none, none, none, none, none, none, none, none, none, none, none, none, none, none, none, none, none, none, none, none, none, none, none, none, none, none, none, none, none, none, none, none, none, none, none, none, none, none, none, none, none, none, none, none] w) (fun o4 o4n o4c o5 w => K .ret [none, none, none, none, some (Value.slice o4 o4n o4c), some (Value.int .i64 o5), none, none, none, none, none, none, none, none, none, none, none, none, none, none, none, none, none, none, none, none, none, none, none, none, none, none, none, none, none, none, none, none, none, none, none, none, none, none, none, none, none, none, none, none, none, none, none, none, none, none, none, none, none, none, none, none, none, none, none, none, none, none, none, none, none, none, none, none, none, none, none, none, none, none, none, none, none, none, none, none, none, none, none, none, none, none, none, none, none, none, none, none, none, none, none, none, none, none, none, none, none, none, none, none, none, none, none, none, none, none] w) := by kernel_rfl
theorem ref14_Join.lok7 : LoopOk Try.prog ref14_Join.L ref14_Join.b0 := by
  refine loop_ok tab_ok ref14_Join.C_ok (D := ref14_Join.D) (ref14_Join.hn7) (ref14_Join.hx7) (by kernel_rfl) (by rw [ref14_Join.b0_loops]; exact lcons ref14_Join.lok12 (lnil)) ?_ ?_ ?_ ?_
  · intro f w K h
    unfold ref14_Join.hn7 at h
    obtain ⟨hlen, h⟩ := gN_ok h
    obtain ⟨y0, h0, h⟩ := gI_ok h
    obtain ⟨y1, y1n, y1c, h1, h⟩ := gL_ok h
    obtain ⟨y6, h6, h⟩ := gI_ok h
    obtain ⟨y7, h7, h⟩ := gI_ok h
    exact h
  · intro N f w K h
    unfold ref14_Join.hn7 at h
    obtain ⟨hlen, h⟩ := gN_ok h
    obtain ⟨y0, h0, h⟩ := gI_ok h
    obtain ⟨y1, y1n, y1c, h1, h⟩ := gL_ok h
    obtain ⟨y6, h6, h⟩ := gI_ok h
    obtain ⟨y7, h7, h⟩ := gI_ok h
    refine ⟨[some (Value.int .i64 y0), some (Value.slice y1 y1n y1c), none, none, none, none, some (Value.int .i32 y6), some (Value.int .i64 y7), none, none, none, none, none, none, none, none, none, none, none, none, none, none, none, none, none, none, none, none, none, none, none, none, none, none, none, none, none, none, none, none, none, none, none, none, none, none, none, none, none, none, none, none, none, none, none, none, none, none, none, none, none, none, none, none, none, none, none, none, none, none, none, none, none, none, none, none, none, none, none, none, none, none, none, none, none, none, none, none, none, none, none, none, none, none, none, none, none, none, none, none, none, none, none, none, none, none, none, none, none, none, none, none, none, none, none, none], hlen, ⟨h0, h1, h6, h7, trivial⟩, ?_⟩
    rw [ref14_Join.le7]
    exact h
  · intro e f w K h
    cases e with
    | normal => exact h.elim
    | exit i =>
      unfold ref14_Join.hx7 at h
      simp only at h
      split at h
      · rename_i hb
        obtain rfl := Nat.eq_of_beq_eq_true hb
        obtain ⟨hlen, h⟩ := gN_ok h
        obtain ⟨o0, h0, h⟩ := gI_ok h
        obtain ⟨o1, o1n, o1c, h1, h⟩ := gL_ok h
        exact ⟨[some (Value.int .i64 o0), some (Value.slice o1 o1n o1c), none, none, none, none, none, none, none, none, none, none, none, none, none, none, none, none, none, none, none, none, none, none, none, none, none, none, none, none, none, none, none, none, none, none, none, none, none, none, none, none, none, none, none, none, none, none, none, none, none, none, none, none, none, none, none, none, none, none, none, none, none, none, none, none, none, none, none, none, none, none, none, none, none, none, none, none, none, none, none, none, none, none, none, none, none, none, none, none, none, none, none, none, none, none, none, none, none, none, none, none, none, none, none, none, none, none, none, none, none, none, none, none, none, none], hlen, ⟨h0, h1, trivial⟩, h⟩
      · exact (show False from h).elim
    | ret =>
      unfold ref14_Join.hx7 at h
      simp only at h
      obtain ⟨hlen, h⟩ := gN_ok h
      obtain ⟨o4, o4n, o4c, h4, h⟩ := gL_ok h
      obtain ⟨o5, h5, h⟩ := gI_ok h
      exact ⟨[none, none, none, none, some (Value.slice o4 o4n o4c), some (Value.int .i64 o5), none, none, none, none, none, none, none, none, none, none, none, none, none, none, none, none, none, none, none, none, none, none, none, none, none, none, none, none, none, none, none, none, none, none, none, none, none, none, none, none, none, none, none, none, none, none, none, none, none, none, none, none, none, none, none, none, none, none, none, none, none, none, none, none, none, none, none, none, none, none, none, none, none, none, none, none, none, none, none, none, none, none, none, none, none, none, none, none, none, none, none, none, none, none, none, none, none, none, none, none, none, none, none, none, none, none, none, none, none, none], hlen, ⟨h4, h5, trivial⟩, h⟩
  · intro f w K h
    have e : lid ref14_Join.b0 = 7 := by kernel_rfl
    rw [e] at h
    exact h
theorem ref14_Join.le21 (N : Nat) (y0 : Int) (y1 : Option Addr) (y1n : Nat) (y1c : Nat) (y9 : Option Addr) (y9n : Nat) (y9c : Nat) (y10 : Int) (y11 : Int) (w : World) (K : AExit → Fr → World → Prop) : awp ref14_Join.C ref14_Join.L ref14_Join.D tab ref14_Join.b1_0 (lpost ref14_Join.hn21 ref14_Join.hx21 N K) [some (Value.int .i64 y0), some (Value.slice y1 y1n y1c), none, none, none, none, none, none, none, some (Value.slice y9 y9n y9c), some (Value.int .i64 y10), some (Value.int .i64 y11), none, none, none, none, none, none, none, none, none, none, none, none, none, none, none, none, none, none, none, none, none, none, none, none, none, none, none, none, none, none, none, none, none, none, none, none, none, none, none, none, none, none, none, none, none, none, none, none, none, none, none, none, none, none, none, none, none, none, none, none, none, none, none, none, none, none, none, none, none, none, none, none, none, none, none, none, none, none, none, none, none, none, none, none, none, none, none, none, none, none, none, none, none, none, none, none, none, none, none, none, none, none, none, none] w = ref14_Join.l21 (N + 1) y0 y1 y1n y1c y9 y9n y9c y10 y11 w (fun o0 o1 o1n o1c o9 o9n o9c o10 w => K (.exit 6) [some (Value.int .i64 o0), some (Value.slice o1 o1n o1c), none, none, none, none, none, none, none, some (Value.slice o9 o9n o9c), some (Value.int .i64 o10), none, none, none, none, none, none, none, none, none, none, none, none, none, none, none, none, none, none, none, none, none, none, none, none, none, none, none, none, none, none, none, none, none, none, none, none, none, none, none, none, none, none, none, none, none, none, none, none, none, none, none, none, none, none, none, none, none, none, none, none, none, none, none, none, none, none, none, none, none, none, none, none, none, none, none, none, none, none, none, none, none, none, none, none, none, none, none, none, none, none, none, none, none, none, none, none, none, none, none, none, none, none, none, none, none] w) := by kernel_rfl
theorem ref14_Join.lok21 : LoopOk Try.prog ref14_Join.L ref14_Join.b1_0 := by
  refine loop_ok tab_ok ref14_Join.C_ok (D := ref14_Join.D) (ref14_Join.hn21) (ref14_Join.hx21) (by kernel_rfl) (by rw [ref14_Join.b1_0_loops]; exact lnil) ?_ ?_ ?_ ?_
  · intro f w K h
    unfold ref14_Join.hn21 at h
    obtain ⟨hlen, h⟩ := gN_ok h
    obtain ⟨y0, h0, h⟩ := gI_ok h
    obtain ⟨y1, y1n, y1c, h1, h⟩ := gL_ok h
    obtain ⟨y9, y9n, y9c, h9, h⟩ := gL_ok h
    obtain ⟨y10, h10, h⟩ := gI_ok h
    obtain ⟨y11, h11, h⟩ := gI_ok h
    exact h
  · intro N f w K h
    unfold ref14_Join.hn21 at h
    obtain ⟨hlen, h⟩ := gN_ok h
    obtain ⟨y0, h0, h⟩ := gI_ok h
    obtain ⟨y1, y1n, y1c, h1, h⟩ := gL_ok h
    obtain ⟨y9, y9n, y9c, h9, h⟩ := gL_ok h
    obtain ⟨y10, h10, h⟩ := gI_ok h
    obtain ⟨y11, h11, h⟩ := gI_ok h
    refine ⟨[some (Value.int .i64 y0), some (Value.slice y1 y1n y1c), none, none, none, none, none, none, none, some (Value.slice y9 y9n y9c), some (Value.int .i64 y10), some (Value.int .i64 y11), none, none, none, none, none, none, none, none, none, none, none, none, none, none, none, none, none, none, none, none, none, none, none, none, none, none, none, none, none, none, none, none, none, none, none, none, none, none, none, none, none, none, none, none, none, none, none, none, none, none, none, none, none, none, none, none, none, none, none, none, none, none, none, none, none, none, none, none, none, none, none, none, none, none, none, none, none, none, none, none, none, none, none, none, none, none, none, none, none, none, none, none, none, none, none, none, none, none, none, none, none, none, none, none], hlen, ⟨h0, h1, h9, h10, h11, trivial⟩, ?_⟩
    rw [ref14_Join.le21]
    exact h
  · intro e f w K h
    cases e with
    | normal => exact h.elim
    | exit i =>
      unfold ref14_Join.hx21 at h
      simp only at h
      split at h
      · rename_i hb
        obtain rfl := Nat.eq_of_beq_eq_true hb
        obtain ⟨hlen, h⟩ := gN_ok h
        obtain ⟨o0, h0, h⟩ := gI_ok h
        obtain ⟨o1, o1n, o1c, h1, h⟩ := gL_ok h
        obtain ⟨o9, o9n, o9c, h9, h⟩ := gL_ok h
        obtain ⟨o10, h10, h⟩ := gI_ok h
        exact ⟨[some (Value.int .i64 o0), some (Value.slice o1 o1n o1c), none, none, none, none, none, none, none, some (Value.slice o9 o9n o9c), some (Value.int .i64 o10), none, none, none, none, none, none, none, none, none, none, none, none, none, none, none, none, none, none, none, none, none, none, none, none, none, none, none, none, none, none, none, none, none, none, none, none, none, none, none, none, none, none, none, none, none, none, none, none, none, none, none, none, none, none, none, none, none, none, none, none, none, none, none, none, none, none, none, none, none, none, none, none, none, none, none, none, none, none, none, none, none, none, none, none, none, none, none, none, none, none, none, none, none, none, none, none, none, none, none, none, none, none, none, none, none], hlen, ⟨h0, h1, h9, h10, trivial⟩, h⟩
      · exact (show False from h).elim
    | ret =>
      exact (show False from h).elim
  · intro f w K h
    have e : lid ref14_Join.b1_0 = 21 := by kernel_rfl
    rw [e] at h
    exact h
theorem ref14_Join.le18 (N : Nat) (y0 : Int) (y1 : Option Addr) (y1n : Nat) (y1c : Nat) (y9 : Option Addr) (y9n : Nat) (y9c : Nat) (y10 : Int) (w : World) (K : AExit → Fr → World → Prop) : awp ref14_Join.C ref14_Join.L ref14_Join.D tab ref14_Join.b1 (lpost ref14_Join.hn18 ref14_Join.hx18 N K) [some (Value.int .i64 y0), some (Value.slice y1 y1n y1c), none, none, none, none, none, none, none, some (Value.slice y9 y9n y9c), some (Value.int .i64 y10), none, none, none, none, none, none, none, none, none, none, none, none, none, none, none, none, none, none, none, none, none, none, none, none, none, none, none, none, none, none, none, none, none, none, none, none, none, none, none, none, none, none, none, none, none, none, none, none, none, none, none, none, none, none, none, none, none, none, none, none, none, none, none, none, none, none, none, none, none, none, none, none, none, none, none, none, none, none, none, none, none, none, none, none, none, none, none, none, none, none, none, none, none, none, none, none, none, none, none, none, none, none, none, none, none] w = ref14_Join.l18 (N + 1) y0 y1 y1n y1c y9 y9n y9c y10 w (fun o9 o9n o9c w => K (.exit 4) [none, none, none, none, none, none, none, none, none, some (Value.slice o9 o9n o9c), none, none, none, none, none, none, none, none, none, none, none, none, none, none, none, none, none, none, none, none, none, none, none, none, none, none, none, none, none, none, none, none, none, none, none, none, none, none, none, none, none, none, none, none, none, none, none, none, none, none, none, none, none, none, none, none, none, none, none, none, none, none, none, none, none, none, none, none, none, none, none, none, none, none, none, none, none, none, none, none, none, none, none, none, none, none, none, none, none, none, none, none, none, none, none, none, none, none, none, none, none, none, none, none, none, none] w) := by kernel_rfl
theorem ref14_Join.lok18 : LoopOk Try.prog ref14_Join.L ref14_Join.b1 := by
  refine loop_ok tab_ok ref14_Join.C_ok (D := ref14_Join.D) (ref14_Join.hn18) (ref14_Join.hx18) (by kernel_rfl) (by rw [ref14_Join.b1_loops]; exact lcons ref14_Join.lok21 (lnil)) ?_ ?_ ?_ ?_
  · intro f w K h
    unfold ref14_Join.hn18 at h
    obtain ⟨hlen, h⟩ := gN_ok h
    obtain ⟨y0, h0, h⟩ := gI_ok h
    obtain ⟨y1, y1n, y1c, h1, h⟩ := gL_ok h
    obtain ⟨y9, y9n, y9c, h9, h⟩ := gL_ok h
    obtain ⟨y10, h10, h⟩ := gI_ok h
    exact h
  · intro N f w K h
    unfold ref14_Join.hn18 at h
    obtain ⟨hlen, h⟩ := gN_ok h
    obtain ⟨y0, h0, h⟩ := gI_ok h
    obtain ⟨y1, y1n, y1c, h1, h⟩ := gL_ok h
    obtain ⟨y9, y9n, y9c, h9, h⟩ := gL_ok h
    obtain ⟨y10, h10, h⟩ := gI_ok h
    refine ⟨[some (Value.int .i64 y0), some (Value.slice y1 y1n y1c), none, none, none, none, none, none, none, some (Value.slice y9 y9n y9c), some (Value.int .i64 y10), none, none, none, none, none, none, none, none, none, none, none, none, none, none, none, none, none, none, none, none, none, none, none, none, none, none, none, none, none, none, none, none, none, none, none, none, none, none, none, none, none, none, none, none, none, none, none, none, none, none, none, none, none, none, none, none, none, none, none, none, none, none, none, none, none, none, none, none, none, none, none, none, none, none, none, none, none, none, none, none, none, none, none, none, none, none, none, none, none, none, none, none, none, none, none, none, none, none, none, none, none, none, none, none, none], hlen, ⟨h0, h1, h9, h10, trivial⟩, ?_⟩
    rw [ref14_Join.le18]
    exact h
  · intro e f w K h
    cases e with
    | normal => exact h.elim
    | exit i =>
      unfold ref14_Join.hx18 at h
      simp only at h
      split at h
      · rename_i hb
        obtain rfl := Nat.eq_of_beq_eq_true hb
        obtain ⟨hlen, h⟩ := gN_ok h
        obtain ⟨o9, o9n, o9c, h9, h⟩ := gL_ok h
        exact ⟨[none, none, none, none, none, none, none, none, none, some (Value.slice o9 o9n o9c), none, none, none, none, none, none, none, none, none, none, none, none, none, none, none, none, none, none, none, none, none, none, none, none, none, none, none, none, none, none, none, none, none, none, none, none, none, none, none, none, none, none, none, none, none, none, none, none, none, none, none, none, none, none, none, none, none, none, none, none, none, none, none, none, none, none, none, none, none, none, none, none, none, none, none, none, none, none, none, none, none, none, none, none, none, none, none, none, none, none, none, none, none, none, none, none, none, none, none, none, none, none, none, none, none, none], hlen, ⟨h9, trivial⟩, h⟩
      · exact (show False from h).elim
    | ret =>
      exact (show False from h).elim
  · intro f w K h
    have e : lid ref14_Join.b1 = 18 := by kernel_rfl
    rw [e] at h
    exact h
theorem ref14_Join.eq (a0 : Int) (a1 : Option Addr) (a1n : Nat) (a1c : Nat) (w : World) (K : Value → World → Prop) : afn ref14_Join.C ref14_Join.L ref14_Join.D tab Try.f37 [(Value.int .i64 a0), (Value.slice a1 a1n a1c)] w K = ref14_Join.f a0 a1 a1n a1c w (fun r0 r0n r0c r1 w => K (Value.tuple #[(Value.slice r0 r0n r0c), (Value.int .i64 r1)]) w) := by kernel_rfl
theorem ref14_Join.ok : FSound Try.prog 37 ref14_Join.h := by
  intro args w K h
  unfold ref14_Join.h ref14_Join.H at h
  split at h
  ·
    replace h := vI_ok h
    obtain ⟨a0, rfl, h⟩ := h
    replace h := vL_ok h
    obtain ⟨a1, a1n, a1c, rfl, h⟩ := h
    refine ⟨by kernel_rfl, fn_ok tab_ok ref14_Join.C_ok (L := ref14_Join.L) (D := ref14_Join.D) Try.func37 ref14_Join.hb (by kernel_rfl) (by rw [ref14_Join.c_loops]; exact lcons ref14_Join.lok7 (lcons ref14_Join.lok18 (lnil))) (Nat.le_of_ble_eq_true (by kernel_rfl)) ?_⟩
    rw [ref14_Join.eq]
    exact h
  · exact h.elim
/-! ### valise/fixed.right: function 55 -/
def fixed_right.f (a0 : Int) (w : World) (K : Int → World → Prop) : Prop :=
  let v2_3 := (mx 0 (mn a0 3))
  K v2_3 w
def fixed_right.H (F : type_of% @fixed_right.f) : Hf := fun args w K => match args with
  | [v0] => vI .i64 v0 fun a0 => F a0 w (fun r0 w => K (Value.int .i64 r0) w)
  | _ => False
def fixed_right.h : Hf := fixed_right.H @fixed_right.f
def fixed_right.C : Hd := hnil
theorem fixed_right.C_ok : CSound Try.prog fixed_right.C := hnil_ok
def fixed_right.D : Nat → Plan := fun i => .done
noncomputable def fixed_right.c : Code := Try.f55.body.getD .skip
theorem fixed_right.hb : Try.f55.body = some fixed_right.c := by kernel_rfl
theorem fixed_right.c_loops : loopsOf fixed_right.c = [] := by kernel_rfl
def fixed_right.L : LHd := fun l f w K => False
theorem fixed_right.eq (a0 : Int) (w : World) (K : Value → World → Prop) : afn fixed_right.C fixed_right.L fixed_right.D tab Try.f55 [(Value.int .i64 a0)] w K = fixed_right.f a0 w (fun r0 w => K (Value.int .i64 r0) w) := by kernel_rfl
theorem fixed_right.ok : FSound Try.prog 55 fixed_right.h := by
  intro args w K h
  unfold fixed_right.h fixed_right.H at h
  split at h
  ·
    replace h := vI_ok h
    obtain ⟨a0, rfl, h⟩ := h
    refine ⟨by kernel_rfl, fn_ok tab_ok fixed_right.C_ok (L := fixed_right.L) (D := fixed_right.D) Try.func55 fixed_right.hb (by kernel_rfl) (by rw [fixed_right.c_loops]; exact lnil) (Nat.le_of_ble_eq_true (by kernel_rfl)) ?_⟩
    rw [fixed_right.eq]
    exact h
  · exact h.elim
/-! ### valise/fixed.guess$1: function 59 -/
def fixed_guessf1.f (a0 : Int) (a1 : Addr) (a2 : Addr) (w : World) (K : Int → World → Prop) : Prop :=
  ldI .i64 a1 w fun x5_4 =>
  bif (decide (x5_4 < a0)) then
    K 0 w
  else
    ldL a2 w fun x8_7 x8_7n x8_7c =>
    ldI .i64 a1 w fun x9_8 =>
    sm x8_7 fun p_9 =>
    if 0 ≤ ((IntKind.wrap .i64 (x9_8 - a0)) : Int) ∧ ((IntKind.wrap .i64 (x9_8 - a0)) : Int) < ((x8_7n : Nat) : Int) then
    ldI .i32 (p_9.add (Int.toNat (IntKind.wrap .i64 (x9_8 - a0)))) w fun x13_10 =>
    K x13_10 w
    else False
def fixed_guessf1.H (F : type_of% @fixed_guessf1.f) : Hf := fun args w K => match args with
  | [v0, v1, v2] => vI .i64 v0 fun a0 => vQ v1 fun a1 => vQ v2 fun a2 => F a0 a1 a2 w (fun r0 w => K (Value.int .i32 r0) w)
  | _ => False
def fixed_guessf1.h : Hf := fixed_guessf1.H @fixed_guessf1.f
def fixed_guessf1.C : Hd := hnil
theorem fixed_guessf1.C_ok : CSound Try.prog fixed_guessf1.C := hnil_ok
def fixed_guessf1.D : Nat → Plan := fun i => .done
noncomputable def fixed_guessf1.c : Code := Try.f59.body.getD .skip
theorem fixed_guessf1.hb : Try.f59.body = some fixed_guessf1.c := by kernel_rfl
theorem fixed_guessf1.c_loops : loopsOf fixed_guessf1.c = [] := by kernel_rfl
def fixed_guessf1.L : LHd := fun l f w K => False
theorem fixed_guessf1.eq (a0 : Int) (a1 : Addr) (a2 : Addr) (w : World) (K : Value → World → Prop) : afn fixed_guessf1.C fixed_guessf1.L fixed_guessf1.D tab Try.f59 [(Value.int .i64 a0), (Value.pointer (some a1)), (Value.pointer (some a2))] w K = fixed_guessf1.f a0 a1 a2 w (fun r0 w => K (Value.int .i32 r0) w) := by kernel_rfl
theorem fixed_guessf1.ok : FSound Try.prog 59 fixed_guessf1.h := by
  intro args w K h
  unfold fixed_guessf1.h fixed_guessf1.H at h
  split at h
  ·
    replace h := vI_ok h
    obtain ⟨a0, rfl, h⟩ := h
    replace h := vQ_ok h
    obtain ⟨a1, rfl, h⟩ := h
    replace h := vQ_ok h
    obtain ⟨a2, rfl, h⟩ := h
    refine ⟨by kernel_rfl, fn_ok tab_ok fixed_guessf1.C_ok (L := fixed_guessf1.L) (D := fixed_guessf1.D) Try.func59 fixed_guessf1.hb (by kernel_rfl) (by rw [fixed_guessf1.c_loops]; exact lnil) (Nat.le_of_ble_eq_true (by kernel_rfl)) ?_⟩
    rw [fixed_guessf1.eq]
    exact h
  · exact h.elim
/-! ### valise/fixed.guess: function 54 -/
def fixed_guess.f (a0 : Option Addr) (a0n : Nat) (a0c : Nat) (a1 : Int) (a2 : Int) (w : World) (K : Int → World → Prop) : Prop :=
  newC 38 [(Value.slice a0 a0n a0c)] w fun a3_2 w =>
  newC 3 [(Value.int .i64 a1)] w fun a4_3 w =>
  bif (a2 == 1) then
    fixed_guessf1.f 1 a4_3 a3_2 w fun r13_9 w =>
    K r13_9 w
  else
    bif (a2 == 2) then
      fixed_guessf1.f 1 a4_3 a3_2 w fun r17_12 w =>
      fixed_guessf1.f 2 a4_3 a3_2 w fun r20_13 w =>
      let v6_14 := (IntKind.wrap .i32 ((IntKind.wrap .i32 (2 * r17_12)) - r20_13))
      K v6_14 w
    else
      bif (a2 == 3) then
        fixed_guessf1.f 1 a4_3 a3_2 w fun r25_17 w =>
        fixed_guessf1.f 2 a4_3 a3_2 w fun r28_18 w =>
        fixed_guessf1.f 3 a4_3 a3_2 w fun r32_19 w =>
        let v6_20 := (IntKind.wrap .i32 ((IntKind.wrap .i32 ((IntKind.wrap .i32 (3 * r25_17)) - (IntKind.wrap .i32 (3 * r28_18)))) + r32_19))
        K v6_20 w
      else
        K 0 w
def fixed_guess.H (F : type_of% @fixed_guess.f) : Hf := fun args w K => match args with
  | [v0, v1, v2] => vL v0 fun a0 a0n a0c => vI .i64 v1 fun a1 => vI .i64 v2 fun a2 => F a0 a0n a0c a1 a2 w (fun r0 w => K (Value.int .i32 r0) w)
  | _ => False
def fixed_guess.h : Hf := fixed_guess.H @fixed_guess.f
def fixed_guess.CG (F59 : type_of% @fixed_guessf1.f) : Hd := hcons 59 (fixed_guessf1.H F59) (hnil)
def fixed_guess.C : Hd := fixed_guess.CG @fixed_guessf1.f
def fixed_guess.G (F59 : type_of% @fixed_guessf1.f) (a0 : Option Addr) (a0n : Nat) (a0c : Nat) (a1 : Int) (a2 : Int) (w : World) (K : Int → World → Prop) : Prop :=
  newC 38 [(Value.slice a0 a0n a0c)] w fun a3_2 w =>
  newC 3 [(Value.int .i64 a1)] w fun a4_3 w =>
  bif (a2 == 1) then
    F59 1 a4_3 a3_2 w fun r13_9 w =>
    K r13_9 w
  else
    bif (a2 == 2) then
      F59 1 a4_3 a3_2 w fun r17_12 w =>
      F59 2 a4_3 a3_2 w fun r20_13 w =>
      let v6_14 := (IntKind.wrap .i32 ((IntKind.wrap .i32 (2 * r17_12)) - r20_13))
      K v6_14 w
    else
      bif (a2 == 3) then
        F59 1 a4_3 a3_2 w fun r25_17 w =>
        F59 2 a4_3 a3_2 w fun r28_18 w =>
        F59 3 a4_3 a3_2 w fun r32_19 w =>
        let v6_20 := (IntKind.wrap .i32 ((IntKind.wrap .i32 ((IntKind.wrap .i32 (3 * r25_17)) - (IntKind.wrap .i32 (3 * r28_18)))) + r32_19))
        K v6_20 w
      else
        K 0 w
theorem fixed_guess.C_ok : CSound Try.prog fixed_guess.C := hcons_ok fixed_guessf1.ok (hnil_ok)
def fixed_guess.D : Nat → Plan := fun i => .done
noncomputable def fixed_guess.c : Code := Try.f54.body.getD .skip
theorem fixed_guess.hb : Try.f54.body = some fixed_guess.c := by kernel_rfl
theorem fixed_guess.c_loops : loopsOf fixed_guess.c = [] := by kernel_rfl
def fixed_guess.L : LHd := fun l f w K => False
theorem fixed_guess.eqG (F59 : type_of% @fixed_guessf1.f) (a0 : Option Addr) (a0n : Nat) (a0c : Nat) (a1 : Int) (a2 : Int) (w : World) (K : Value → World → Prop) : afn (fixed_guess.CG F59) fixed_guess.L fixed_guess.D tab Try.f54 [(Value.slice a0 a0n a0c), (Value.int .i64 a1), (Value.int .i64 a2)] w K = fixed_guess.G F59 a0 a0n a0c a1 a2 w (fun r0 w => K (Value.int .i32 r0) w) := by kernel_rfl
theorem fixed_guess.eq (a0 : Option Addr) (a0n : Nat) (a0c : Nat) (a1 : Int) (a2 : Int) (w : World) (K : Value → World → Prop) : afn fixed_guess.C fixed_guess.L fixed_guess.D tab Try.f54 [(Value.slice a0 a0n a0c), (Value.int .i64 a1), (Value.int .i64 a2)] w K = fixed_guess.f a0 a0n a0c a1 a2 w (fun r0 w => K (Value.int .i32 r0) w) := fixed_guess.eqG @fixed_guessf1.f a0 a0n a0c a1 a2 w K
theorem fixed_guess.ok : FSound Try.prog 54 fixed_guess.h := by
  intro args w K h
  unfold fixed_guess.h fixed_guess.H at h
  split at h
  ·
    replace h := vL_ok h
    obtain ⟨a0, a0n, a0c, rfl, h⟩ := h
    replace h := vI_ok h
    obtain ⟨a1, rfl, h⟩ := h
    replace h := vI_ok h
    obtain ⟨a2, rfl, h⟩ := h
    refine ⟨by kernel_rfl, fn_ok tab_ok fixed_guess.C_ok (L := fixed_guess.L) (D := fixed_guess.D) Try.func54 fixed_guess.hb (by kernel_rfl) (by rw [fixed_guess.c_loops]; exact lnil) (Nat.le_of_ble_eq_true (by kernel_rfl)) ?_⟩
    rw [fixed_guess.eq]
    exact h
  · exact h.elim
/-! ### valise/fixed.Residual: function 38 -/
def fixed_Residual.l3 : Nat → Option Addr → Nat → Nat → Int → Option Addr → Nat → Nat → Option Addr → Nat → Nat → Int → Int → World → (Option Addr → Nat → Nat → World → Prop) → Prop
  | 0, _, _, _, _, _, _, _, _, _, _, _, _, _, _ => False
  | N + 1, y0, y0n, y0c, y1, y5, y5n, y5c, y11, y11n, y11c, y12, y13, w, K0 =>
    bif (decide (y13 < y12)) then
      sm y11 fun p_10 =>
      if 0 ≤ (y13 : Int) ∧ (y13 : Int) < ((y11n : Nat) : Int) then
      ldI .i32 (p_10.add (Int.toNat y13)) w fun x17_11 =>
      fixed_right.f y1 w fun r24_12 w =>
      fixed_guess.f y0 y0n y0c y13 r24_12 w fun r25_13 w =>
      sm y5 fun p_14 =>
      if 0 ≤ (y13 : Int) ∧ (y13 : Int) < ((y5n : Nat) : Int) then
      stC (p_14.add (Int.toNat y13)) (Value.int .i32 (IntKind.wrap .i32 (x17_11 - r25_13))) w fun w =>
      fixed_Residual.l3 N y0 y0n y0c y1 y5 y5n y5c y11 y11n y11c y12 (IntKind.wrap .i64 (y13 + 1)) w K0
      else False
      else False
    else
      K0 y5 y5n y5c w

def fixed_Residual.f (a0 : Option Addr) (a0n : Nat) (a0c : Nat) (a1 : Int) (w : World) (K : Option Addr → Nat → Nat → World → Prop) : Prop :=
  mkL 21 1 4 [(Value.int .i32 0)] ((a0n : Nat) : Int) ((a0n : Nat) : Int) w fun a10_3 a10_3n a10_3c w =>
  ∃ N_15 : Nat, fixed_Residual.l3 N_15 a0 a0n a0c a1 a10_3 a10_3n a10_3c a0 a0n a0c ((a0n : Nat) : Int) 0 w
  (fun o5_16 o5_16n o5_16c w =>
    K o5_16 o5_16n o5_16c w)
def fixed_Residual.H (F : type_of% @fixed_Residual.f) : Hf := fun args w K => match args with
  | [v0, v1] => vL v0 fun a0 a0n a0c => vI .i64 v1 fun a1 => F a0 a0n a0c a1 w (fun r0 r0n r0c w => K (Value.slice r0 r0n r0c) w)
  | _ => False
def fixed_Residual.h : Hf := fixed_Residual.H @fixed_Residual.f
def fixed_Residual.C : Hd := hcons 54 fixed_guess.h (hcons 55 fixed_right.h (hnil))
theorem fixed_Residual.C_ok : CSound Try.prog fixed_Residual.C := hcons_ok fixed_guess.ok (hcons_ok fixed_right.ok (hnil_ok))
def fixed_Residual.D : Nat → Plan := fun i => .done
noncomputable def fixed_Residual.c : Code := Try.f38.body.getD .skip
theorem fixed_Residual.hb : Try.f38.body = some fixed_Residual.c := by kernel_rfl
noncomputable def fixed_Residual.b0 : Code := (loopsOf fixed_Residual.c).getD 0 .skip
theorem fixed_Residual.b0_loops : loopsOf fixed_Residual.b0 = [] := by kernel_rfl
theorem fixed_Residual.c_loops : loopsOf fixed_Residual.c = [fixed_Residual.b0] := by kernel_rfl
def fixed_Residual.hn3 (N : Nat) (f : Fr) (w : World) (K : AExit → Fr → World → Prop) : Prop :=
  gN f 30 <| gL f 0 fun y0 y0n y0c => gI .i64 f 1 fun y1 => gL f 5 fun y5 y5n y5c => gL f 11 fun y11 y11n y11c => gI .i64 f 12 fun y12 => gI .i64 f 13 fun y13 => fixed_Residual.l3 N y0 y0n y0c y1 y5 y5n y5c y11 y11n y11c y12 y13 w (fun o5 o5n o5c w => K (.exit 0) [none, none, none, none, none, some (Value.slice o5 o5n o5c), none, none, none, none, none, none, none, none, none, none, none, none, none, none, none, none, none, none, none, none, none, none, none, none] w)
def fixed_Residual.hx3 : AExit → Fr → World → (AExit → Fr → World → Prop) → Prop := fun e f w K => match e with
  | .normal => False
  | .exit i => (match Nat.beq i 0 with | true => gN f 30 <| gL f 5 fun o5 o5n o5c => K (.exit 0) [none, none, none, none, none, some (Value.slice o5 o5n o5c), none, none, none, none, none, none, none, none, none, none, none, none, none, none, none, none, none, none, none, none, none, none, none, none] w | false => False)
  | .ret => False
def fixed_Residual.L : LHd := fun l f w K => (match Nat.beq l 3 with | true => ∃ N, fixed_Residual.hn3 N f w K | false => False)
theorem fixed_Residual.le3 (N : Nat) (y0 : Option Addr) (y0n : Nat) (y0c : Nat) (y1 : Int) (y5 : Option Addr) (y5n : Nat) (y5c : Nat) (y11 : Option Addr) (y11n : Nat) (y11c : Nat) (y12 : Int) (y13 : Int) (w : World) (K : AExit → Fr → World → Prop) : awp fixed_Residual.C fixed_Residual.L fixed_Residual.D tab fixed_Residual.b0 (lpost fixed_Residual.hn3 fixed_Residual.hx3 N K) [some (Value.slice y0 y0n y0c), some (Value.int .i64 y1), none, none, none, some (Value.slice y5 y5n y5c), none, none, none, none, none, some (Value.slice y11 y11n y11c), some (Value.int .i64 y12), some (Value.int .i64 y13), none, none, none, none, none, none, none, none, none, none, none, none, none, none, none, none] w = fixed_Residual.l3 (N + 1) y0 y0n y0c y1 y5 y5n y5c y11 y11n y11c y12 y13 w (fun o5 o5n o5c w => K (.exit 0) [none, none, none, none, none, some (Value.slice o5 o5n o5c), none, none, none, none, none, none, none, none, none, none, none, none, none, none, none, none, none, none, none, none, none, none, none, none] w) := by kernel_rfl
theorem fixed_Residual.lok3 : LoopOk Try.prog fixed_Residual.L fixed_Residual.b0 := by
  refine loop_ok tab_ok fixed_Residual.C_ok (D := fixed_Residual.D) (fixed_Residual.hn3) (fixed_Residual.hx3) (by kernel_rfl) (by rw [fixed_Residual.b0_loops]; exact lnil) ?_ ?_ ?_ ?_
  · intro f w K h
    unfold fixed_Residual.hn3 at h
    obtain ⟨hlen, h⟩ := gN_ok h
    obtain ⟨y0, y0n, y0c, h0, h⟩ := gL_ok h
    obtain ⟨y1, h1, h⟩ := gI_ok h
    obtain ⟨y5, y5n, y5c, h5, h⟩ := gL_ok h
    obtain ⟨y11, y11n, y11c, h11, h⟩ := gL_ok h
    obtain ⟨y12, h12, h⟩ := gI_ok h
    obtain ⟨y13, h13, h⟩ := gI_ok h
    exact h
  · intro N f w K h
    unfold fixed_Residual.hn3 at h
    obtain ⟨hlen, h⟩ := gN_ok h
    obtain ⟨y0, y0n, y0c, h0, h⟩ := gL_ok h
    obtain ⟨y1, h1, h⟩ := gI_ok h
    obtain ⟨y5, y5n, y5c, h5, h⟩ := gL_ok h
    obtain ⟨y11, y11n, y11c, h11, h⟩ := gL_ok h
    obtain ⟨y12, h12, h⟩ := gI_ok h
    obtain ⟨y13, h13, h⟩ := gI_ok h
    refine ⟨[some (Value.slice y0 y0n y0c), some (Value.int .i64 y1), none, none, none, some (Value.slice y5 y5n y5c), none, none, none, none, none, some (Value.slice y11 y11n y11c), some (Value.int .i64 y12), some (Value.int .i64 y13), none, none, none, none, none, none, none, none, none, none, none, none, none, none, none, none], hlen, ⟨h0, h1, h5, h11, h12, h13, trivial⟩, ?_⟩
    rw [fixed_Residual.le3]
    exact h
  · intro e f w K h
    cases e with
    | normal => exact h.elim
    | exit i =>
      unfold fixed_Residual.hx3 at h
      simp only at h
      split at h
      · rename_i hb
        obtain rfl := Nat.eq_of_beq_eq_true hb
        obtain ⟨hlen, h⟩ := gN_ok h
        obtain ⟨o5, o5n, o5c, h5, h⟩ := gL_ok h
        exact ⟨[none, none, none, none, none, some (Value.slice o5 o5n o5c), none, none, none, none, none, none, none, none, none, none, none, none, none, none, none, none, none, none, none, none, none, none, none, none], hlen, ⟨h5, trivial⟩, h⟩
      · exact (show False from h).elim
    | ret =>
      exact (show False from h).elim
  · intro f w K h
    have e : lid fixed_Residual.b0 = 3 := by kernel_rfl
    rw [e] at h
    exact h
theorem fixed_Residual.eq (a0 : Option Addr) (a0n : Nat) (a0c : Nat) (a1 : Int) (w : World) (K : Value → World → Prop) : afn fixed_Residual.C fixed_Residual.L fixed_Residual.D tab Try.f38 [(Value.slice a0 a0n a0c), (Value.int .i64 a1)] w K = fixed_Residual.f a0 a0n a0c a1 w (fun r0 r0n r0c w => K (Value.slice r0 r0n r0c) w) := by kernel_rfl
theorem fixed_Residual.ok : FSound Try.prog 38 fixed_Residual.h := by
  intro args w K h
  unfold fixed_Residual.h fixed_Residual.H at h
  split at h
  ·
    replace h := vL_ok h
    obtain ⟨a0, a0n, a0c, rfl, h⟩ := h
    replace h := vI_ok h
    obtain ⟨a1, rfl, h⟩ := h
    refine ⟨by kernel_rfl, fn_ok tab_ok fixed_Residual.C_ok (L := fixed_Residual.L) (D := fixed_Residual.D) Try.func38 fixed_Residual.hb (by kernel_rfl) (by rw [fixed_Residual.c_loops]; exact lcons fixed_Residual.lok3 (lnil)) (Nat.le_of_ble_eq_true (by kernel_rfl)) ?_⟩
    rw [fixed_Residual.eq]
    exact h
  · exact h.elim
/-! ### valise/valiselaw11.awake: function 39 -/
def law11_awake.f  (w : World) (K : Bool → World → Prop) : Prop :=
  newC 21 [(Value.int .i32 5), (Value.int .i32 7), (Value.int .i32 9)] w fun a2_3 w =>
  fixed_Residual.f (some a2_3) 3 3 2 w fun r3_4 r3_4n r3_4c w =>
  bif (((r3_4n : Nat) : Int) == 3) then
    sm r3_4 fun p_6 =>
    if 0 ≤ (0 : Int) ∧ (0 : Int) < ((r3_4n : Nat) : Int) then
    ldI .i32 p_6 w fun x10_7 =>
    bif (x10_7 == 5) then
      sm r3_4 fun p_8 =>
      if 0 ≤ (1 : Int) ∧ (1 : Int) < ((r3_4n : Nat) : Int) then
      ldI .i32 (p_8.add 1) w fun x16_9 =>
      bif (x16_9 == (-3)) then
        sm r3_4 fun p_10 =>
        if 0 ≤ (2 : Int) ∧ (2 : Int) < ((r3_4n : Nat) : Int) then
        ldI .i32 (p_10.add 2) w fun x22_11 =>
        let v0_12 := (x22_11 == 0)
        K v0_12 w
        else False
      else
        K false w
      else False
    else
      K false w
    else False
  else
    K false w
def law11_awake.H (F : type_of% @law11_awake.f) : Hf := fun args w K => match args with
  | [] =>  F  w (fun r0 w => K (Value.bool r0) w)
  | _ => False
def law11_awake.h : Hf := law11_awake.H @law11_awake.f
def law11_awake.C : Hd := hcons 38 fixed_Residual.h (hnil)
theorem law11_awake.C_ok : CSound Try.prog law11_awake.C := hcons_ok fixed_Residual.ok (hnil_ok)
def law11_awake.D : Nat → Plan := fun i => .done
noncomputable def law11_awake.c : Code := Try.f39.body.getD .skip
theorem law11_awake.hb : Try.f39.body = some law11_awake.c := by kernel_rfl
theorem law11_awake.c_loops : loopsOf law11_awake.c = [] := by kernel_rfl
def law11_awake.L : LHd := fun l f w K => False
theorem law11_awake.eq  (w : World) (K : Value → World → Prop) : afn law11_awake.C law11_awake.L law11_awake.D tab Try.f39 [] w K = law11_awake.f  w (fun r0 w => K (Value.bool r0) w) := by kernel_rfl
theorem law11_awake.ok : FSound Try.prog 39 law11_awake.h := by
  intro args w K h
  unfold law11_awake.h law11_awake.H at h
  split at h
  ·
    refine ⟨by kernel_rfl, fn_ok tab_ok law11_awake.C_ok (L := law11_awake.L) (D := law11_awake.D) Try.func39 law11_awake.hb (by kernel_rfl) (by rw [law11_awake.c_loops]; exact lnil) (Nat.le_of_ble_eq_true (by kernel_rfl)) ?_⟩
    rw [law11_awake.eq]
    exact h
  · exact h.elim
/-! ### valise/fixed.Restore: function 40 -/
def fixed_Restore.l3 : Nat → Int → Option Addr → Nat → Nat → Option Addr → Nat → Nat → Int → Int → World → (Option Addr → Nat → Nat → World → Prop) → Prop
  | 0, _, _, _, _, _, _, _, _, _, _, _ => False
  | N + 1, y1, y5, y5n, y5c, y11, y11n, y11c, y12, y13, w, K0 =>
    bif (decide (y13 < y12)) then
      sm y11 fun p_10 =>
      if 0 ≤ (y13 : Int) ∧ (y13 : Int) < ((y11n : Nat) : Int) then
      ldI .i32 (p_10.add (Int.toNat y13)) w fun x17_11 =>
      fixed_right.f y1 w fun r24_12 w =>
      fixed_guess.f y5 y5n y5c y13 r24_12 w fun r25_13 w =>
      sm y5 fun p_14 =>
      if 0 ≤ (y13 : Int) ∧ (y13 : Int) < ((y5n : Nat) : Int) then
      stC (p_14.add (Int.toNat y13)) (Value.int .i32 (IntKind.wrap .i32 (x17_11 + r25_13))) w fun w =>
      fixed_Restore.l3 N y1 y5 y5n y5c y11 y11n y11c y12 (IntKind.wrap .i64 (y13 + 1)) w K0
      else False
      else False
    else
      K0 y5 y5n y5c w

def fixed_Restore.f (a0 : Option Addr) (a0n : Nat) (a0c : Nat) (a1 : Int) (w : World) (K : Option Addr → Nat → Nat → World → Prop) : Prop :=
  mkL 21 1 4 [(Value.int .i32 0)] ((a0n : Nat) : Int) ((a0n : Nat) : Int) w fun a10_3 a10_3n a10_3c w =>
  ∃ N_15 : Nat, fixed_Restore.l3 N_15 a1 a10_3 a10_3n a10_3c a0 a0n a0c ((a0n : Nat) : Int) 0 w
  (fun o5_16 o5_16n o5_16c w =>
    K o5_16 o5_16n o5_16c w)
def fixed_Restore.H (F : type_of% @fixed_Restore.f) : Hf := fun args w K => match args with
  | [v0, v1] => vL v0 fun a0 a0n a0c => vI .i64 v1 fun a1 => F a0 a0n a0c a1 w (fun r0 r0n r0c w => K (Value.slice r0 r0n r0c) w)
  | _ => False
def fixed_Restore.h : Hf := fixed_Restore.H @fixed_Restore.f
def fixed_Restore.C : Hd := hcons 54 fixed_guess.h (hcons 55 fixed_right.h (hnil))
theorem fixed_Restore.C_ok : CSound Try.prog fixed_Restore.C := hcons_ok fixed_guess.ok (hcons_ok fixed_right.ok (hnil_ok))
def fixed_Restore.D : Nat → Plan := fun i => .done
noncomputable def fixed_Restore.c : Code := Try.f40.body.getD .skip
theorem fixed_Restore.hb : Try.f40.body = some fixed_Restore.c := by kernel_rfl
noncomputable def fixed_Restore.b0 : Code := (loopsOf fixed_Restore.c).getD 0 .skip
theorem fixed_Restore.b0_loops : loopsOf fixed_Restore.b0 = [] := by kernel_rfl
theorem fixed_Restore.c_loops : loopsOf fixed_Restore.c = [fixed_Restore.b0] := by kernel_rfl
def fixed_Restore.hn3 (N : Nat) (f : Fr) (w : World) (K : AExit → Fr → World → Prop) : Prop :=
  gN f 30 <| gI .i64 f 1 fun y1 => gL f 5 fun y5 y5n y5c => gL f 11 fun y11 y11n y11c => gI .i64 f 12 fun y12 => gI .i64 f 13 fun y13 => fixed_Restore.l3 N y1 y5 y5n y5c y11 y11n y11c y12 y13 w (fun o5 o5n o5c w => K (.exit 0) [none, none, none, none, none, some (Value.slice o5 o5n o5c), none, none, none, none, none, none, none, none, none, none, none, none, none, none, none, none, none, none, none, none, none, none, none, none] w)
def fixed_Restore.hx3 : AExit → Fr → World → (AExit → Fr → World → Prop) → Prop := fun e f w K => match e with
  | .normal => False
  | .exit i => (match Nat.beq i 0 with | true => gN f 30 <| gL f 5 fun o5 o5n o5c => K (.exit 0) [none, none, none, none, none, some (Value.slice o5 o5n o5c), none, none, none, none, none, none, none, none, none, none, none, none, none, none, none, none, none, none, none, none, none, none, none, none] w | false => False)
  | .ret => False
def fixed_Restore.L : LHd := fun l f w K => (match Nat.beq l 3 with | true => ∃ N, fixed_Restore.hn3 N f w K | false => False)
theorem fixed_Restore.le3 (N : Nat) (y1 : Int) (y5 : Option Addr) (y5n : Nat) (y5c : Nat) (y11 : Option Addr) (y11n : Nat) (y11c : Nat) (y12 : Int) (y13 : Int) (w : World) (K : AExit → Fr → World → Prop) : awp fixed_Restore.C fixed_Restore.L fixed_Restore.D tab fixed_Restore.b0 (lpost fixed_Restore.hn3 fixed_Restore.hx3 N K) [none, some (Value.int .i64 y1), none, none, none, some (Value.slice y5 y5n y5c), none, none, none, none, none, some (Value.slice y11 y11n y11c), some (Value.int .i64 y12), some (Value.int .i64 y13), none, none, none, none, none, none, none, none, none, none, none, none, none, none, none, none] w = fixed_Restore.l3 (N + 1) y1 y5 y5n y5c y11 y11n y11c y12 y13 w (fun o5 o5n o5c w => K (.exit 0) [none, none, none, none, none, some (Value.slice o5 o5n o5c), none, none, none, none, none, none, none, none, none, none, none, none, none, none, none, none, none, none, none, none, none, none, none, none] w) := by kernel_rfl
theorem fixed_Restore.lok3 : LoopOk Try.prog fixed_Restore.L fixed_Restore.b0 := by
  refine loop_ok tab_ok fixed_Restore.C_ok (D := fixed_Restore.D) (fixed_Restore.hn3) (fixed_Restore.hx3) (by kernel_rfl) (by rw [fixed_Restore.b0_loops]; exact lnil) ?_ ?_ ?_ ?_
  · intro f w K h
    unfold fixed_Restore.hn3 at h
    obtain ⟨hlen, h⟩ := gN_ok h
    obtain ⟨y1, h1, h⟩ := gI_ok h
    obtain ⟨y5, y5n, y5c, h5, h⟩ := gL_ok h
    obtain ⟨y11, y11n, y11c, h11, h⟩ := gL_ok h
    obtain ⟨y12, h12, h⟩ := gI_ok h
    obtain ⟨y13, h13, h⟩ := gI_ok h
    exact h
  · intro N f w K h
    unfold fixed_Restore.hn3 at h
    obtain ⟨hlen, h⟩ := gN_ok h
    obtain ⟨y1, h1, h⟩ := gI_ok h
    obtain ⟨y5, y5n, y5c, h5, h⟩ := gL_ok h
    obtain ⟨y11, y11n, y11c, h11, h⟩ := gL_ok h
    obtain ⟨y12, h12, h⟩ := gI_ok h
    obtain ⟨y13, h13, h⟩ := gI_ok h
    refine ⟨[none, some (Value.int .i64 y1), none, none, none, some (Value.slice y5 y5n y5c), none, none, none, none, none, some (Value.slice y11 y11n y11c), some (Value.int .i64 y12), some (Value.int .i64 y13), none, none, none, none, none, none, none, none, none, none, none, none, none, none, none, none], hlen, ⟨h1, h5, h11, h12, h13, trivial⟩, ?_⟩
    rw [fixed_Restore.le3]
    exact h
  · intro e f w K h
    cases e with
    | normal => exact h.elim
    | exit i =>
      unfold fixed_Restore.hx3 at h
      simp only at h
      split at h
      · rename_i hb
        obtain rfl := Nat.eq_of_beq_eq_true hb
        obtain ⟨hlen, h⟩ := gN_ok h
        obtain ⟨o5, o5n, o5c, h5, h⟩ := gL_ok h
        exact ⟨[none, none, none, none, none, some (Value.slice o5 o5n o5c), none, none, none, none, none, none, none, none, none, none, none, none, none, none, none, none, none, none, none, none, none, none, none, none], hlen, ⟨h5, trivial⟩, h⟩
      · exact (show False from h).elim
    | ret =>
      exact (show False from h).elim
  · intro f w K h
    have e : lid fixed_Restore.b0 = 3 := by kernel_rfl
    rw [e] at h
    exact h
theorem fixed_Restore.eq (a0 : Option Addr) (a0n : Nat) (a0c : Nat) (a1 : Int) (w : World) (K : Value → World → Prop) : afn fixed_Restore.C fixed_Restore.L fixed_Restore.D tab Try.f40 [(Value.slice a0 a0n a0c), (Value.int .i64 a1)] w K = fixed_Restore.f a0 a0n a0c a1 w (fun r0 r0n r0c w => K (Value.slice r0 r0n r0c) w) := by kernel_rfl
theorem fixed_Restore.ok : FSound Try.prog 40 fixed_Restore.h := by
  intro args w K h
  unfold fixed_Restore.h fixed_Restore.H at h
  split at h
  ·
    replace h := vL_ok h
    obtain ⟨a0, a0n, a0c, rfl, h⟩ := h
    replace h := vI_ok h
    obtain ⟨a1, rfl, h⟩ := h
    refine ⟨by kernel_rfl, fn_ok tab_ok fixed_Restore.C_ok (L := fixed_Restore.L) (D := fixed_Restore.D) Try.func40 fixed_Restore.hb (by kernel_rfl) (by rw [fixed_Restore.c_loops]; exact lcons fixed_Restore.lok3 (lnil)) (Nat.le_of_ble_eq_true (by kernel_rfl)) ?_⟩
    rw [fixed_Restore.eq]
    exact h
  · exact h.elim

end Go.Proofs.Ytmgcjihcbdgihaa.G
