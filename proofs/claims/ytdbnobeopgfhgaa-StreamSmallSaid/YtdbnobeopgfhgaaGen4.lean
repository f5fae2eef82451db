/- Go functions as predicate transformers, written by a program of this session (gen.py), with their soundness. -/
import Derived.Test.YtdbnobeopgfhgaaGen3
set_option linter.unusedVariables false
set_option linter.unusedSimpArgs false
set_option maxRecDepth 100000
namespace Go.Proofs.Ytdbnobeopgfhgaa.G
open Go Go.Proofs.Ytdbnobeopgfhgaa.Vm
/-! ### (*valise/coder.Decoder).more: function 89 -/
def coder_Decoder_more.f (a0 : Option Addr) (w : World) (K : World → Prop) : Prop :=
  sm a0 fun p_2 =>
  ldI .u32 (p_2.add 2) w fun x5_3 =>
  sm a0 fun p_4 =>
  stC (p_4.add 2) (Value.int .u32 (shl .u32 x5_3 8)) w fun w =>
  let J_23 := fun  (w : World) =>
    ((sm a0 fun p_20 =>
    ldI .i64 (p_20.add 4) w fun x40_21 =>
    sm a0 fun p_22 =>
    stC (p_22.add 4) (Value.int .i64 (IntKind.wrap .i64 (x40_21 + 1))) w fun w =>
    K w) : Prop)
  sm a0 fun p_7 =>
  ldI .i64 (p_7.add 4) w.drew fun x12_8 =>
  sm a0 fun p_9 =>
  ldL (p_9.add 3) w.drew fun x16_10 x16_10n x16_10c =>
  bif (decide (x12_8 < ((x16_10n : Nat) : Int))) then
    sm a0 fun p_11 =>
    ldI .u32 (p_11.add 2) w.drew.drew fun x22_12 =>
    sm a0 fun p_13 =>
    ldL (p_13.add 3) w.drew.drew fun x26_14 x26_14n x26_14c =>
    sm a0 fun p_15 =>
    ldI .i64 (p_15.add 4) w.drew.drew fun x30_16 =>
    sm x26_14 fun p_17 =>
    if 0 ≤ (x30_16 : Int) ∧ (x30_16 : Int) < ((x26_14n : Nat) : Int) then
    ldI .u8 (p_17.add (Int.toNat x30_16)) w.drew.drew fun x32_18 =>
    sm a0 fun p_19 =>
    stC (p_19.add 2) (Value.int .u32 (bor .u32 x22_12 (IntKind.wrap .u32 x32_18))) w.drew.drew fun w =>
    J_23 w
    else False
  else
    J_23 w.drew
def coder_Decoder_more.H (F : type_of% @coder_Decoder_more.f) : Hf := fun args w K => match args with
  | [v0] => vP v0 fun a0 => F a0 w (fun w => K (Value.tuple #[]) w)
  | _ => False
def coder_Decoder_more.h : Hf := coder_Decoder_more.H @coder_Decoder_more.f
def coder_Decoder_more.C : Hd := hnil
theorem coder_Decoder_more.C_ok : CSound Try.prog coder_Decoder_more.C := hnil_ok
def coder_Decoder_more.D : Nat → Plan := fun i => (match Nat.beq i 2 with | true => .take 0 (.take 1 (.take 2 (.take 3 (.take 4 (.take 5 (.take 6 (.take 7 (.take 8 (.take 9 (.take 10 (.take 11 (.take 12 (.take 13 (.take 14 (.take 15 (.take 16 (.take 17 (.eff 18 (.done))))))))))))))))))) | false => (match Nat.beq i 1 with | true => .take 0 (.take 1 (.take 2 (.take 3 (.take 4 (.take 5 (.take 6 (.take 7 (.take 8 (.take 9 (.done)))))))))) | false => .done))
noncomputable def coder_Decoder_more.c : Code := Try.f89.body.getD .skip
theorem coder_Decoder_more.hb : Try.f89.body = some coder_Decoder_more.c := by kernel_rfl
theorem coder_Decoder_more.c_loops : loopsOf coder_Decoder_more.c = [] := by kernel_rfl
def coder_Decoder_more.L : LHd := fun l f w K => False
theorem coder_Decoder_more.eq (a0 : Option Addr) (w : World) (K : Value → World → Prop) : afn coder_Decoder_more.C coder_Decoder_more.L coder_Decoder_more.D tab Try.f89 [(Value.pointer a0)] w K = coder_Decoder_more.f a0 w (fun w => K (Value.tuple #[]) w) := by kernel_rfl
theorem coder_Decoder_more.ok : FSound Try.prog 89 coder_Decoder_more.h := by
  intro args w K h
  unfold coder_Decoder_more.h coder_Decoder_more.H at h
  split at h
  ·
    replace h := vP_ok h
    obtain ⟨a0, rfl, h⟩ := h
    refine ⟨by kernel_rfl, fn_ok tab_ok coder_Decoder_more.C_ok (L := coder_Decoder_more.L) (D := coder_Decoder_more.D) Try.func89 coder_Decoder_more.hb (by kernel_rfl) (by rw [coder_Decoder_more.c_loops]; exact lnil) (Nat.le_of_ble_eq_true (by kernel_rfl)) ?_⟩
    rw [coder_Decoder_more.eq]
    exact h
  · exact h.elim
/-! ### valise/coder.NewDecoder: function 69 -/
def coder_NewDecoder.l3 : Nat → Addr → Int → World → (Addr → World → Prop) → Prop
  | 0, _, _, _, _ => False
  | N + 1, y3, y9, w, K0 =>
    bif (decide (y9 < 4)) then
      coder_Decoder_more.f (some y3) w fun w =>
      coder_NewDecoder.l3 N y3 (IntKind.wrap .i64 (y9 + 1)) w K0
    else
      K0 y3 w

def coder_NewDecoder.f (a0 : Option Addr) (a0n : Nat) (a0c : Nat) (w : World) (K : Option Addr → World → Prop) : Prop :=
  coder_whole.f  w fun r4_3_0 r4_3_1 w =>
  appL 5 1 1 [(Value.int .u8 0)] none 0 0 a0 a0n a0c w fun a6_4 a6_4n a6_4c w =>
  newC 141 [(Value.int .u32 r4_3_0), (Value.int .u32 r4_3_1), (Value.int .u32 0), (Value.slice a6_4 a6_4n a6_4c), (Value.int .i64 0)] w fun a8_5 w =>
  ∃ N_11 : Nat, coder_NewDecoder.l3 N_11 a8_5 0 w
  (fun o3_12 w =>
    K (some o3_12) w)
def coder_NewDecoder.H (F : type_of% @coder_NewDecoder.f) : Hf := fun args w K => match args with
  | [v0] => vL v0 fun a0 a0n a0c => F a0 a0n a0c w (fun r0 w => K (Value.pointer r0) w)
  | _ => False
def coder_NewDecoder.h : Hf := coder_NewDecoder.H @coder_NewDecoder.f
def coder_NewDecoder.C : Hd := hcons 89 coder_Decoder_more.h (hcons 81 coder_whole.h (hnil))
theorem coder_NewDecoder.C_ok : CSound Try.prog coder_NewDecoder.C := hcons_ok coder_Decoder_more.ok (hcons_ok coder_whole.ok (hnil_ok))
def coder_NewDecoder.D : Nat → Plan := fun i => .done
noncomputable def coder_NewDecoder.c : Code := Try.f69.body.getD .skip
theorem coder_NewDecoder.hb : Try.f69.body = some coder_NewDecoder.c := by kernel_rfl
noncomputable def coder_NewDecoder.b0 : Code := (loopsOf coder_NewDecoder.c).getD 0 .skip
theorem coder_NewDecoder.b0_loops : loopsOf coder_NewDecoder.b0 = [] := by kernel_rfl
theorem coder_NewDecoder.c_loops : loopsOf coder_NewDecoder.c = [coder_NewDecoder.b0] := by kernel_rfl
def coder_NewDecoder.hn3 (N : Nat) (f : Fr) (w : World) (K : AExit → Fr → World → Prop) : Prop :=
  gN f 15 <| gQ f 3 fun y3 => gI .i64 f 9 fun y9 => coder_NewDecoder.l3 N y3 y9 w (fun o3 w => K (.exit 0) [none, none, none, some (Value.pointer (some o3)), none, none, none, none, none, none, none, none, none, none, none] w)
def coder_NewDecoder.hx3 : AExit → Fr → World → (AExit → Fr → World → Prop) → Prop := fun e f w K => match e with
  | .normal => False
  | .exit i => (match Nat.beq i 0 with | true => gN f 15 <| gQ f 3 fun o3 => K (.exit 0) [none, none, none, some (Value.pointer (some o3)), none, none, none, none, none, none, none, none, none, none, none] w | false => False)
  | .ret => False
def coder_NewDecoder.L : LHd := fun l f w K => (match Nat.beq l 3 with | true => ∃ N, coder_NewDecoder.hn3 N f w K | false => False)
theorem coder_NewDecoder.le3 (N : Nat) (y3 : Addr) (y9 : Int) (w : World) (K : AExit → Fr → World → Prop) : awp coder_NewDecoder.C coder_NewDecoder.L coder_NewDecoder.D tab coder_NewDecoder.b0 (lpost coder_NewDecoder.hn3 coder_NewDecoder.hx3 N K) [none, none, none, some (Value.pointer (some y3)), none, none, none, none, none, some (Value.int .i64 y9), none, none, none, none, none] w = coder_NewDecoder.l3 (N + 1) y3 y9 w (fun o3 w => K (.exit 0) [none, none, none, some (Value.pointer (some o3)), none, none, none, none, none, none, none, none, none, none, none] w) := by kernel_rfl
theorem coder_NewDecoder.lok3 : LoopOk Try.prog coder_NewDecoder.L coder_NewDecoder.b0 := by
  refine loop_ok tab_ok coder_NewDecoder.C_ok (D := coder_NewDecoder.D) (coder_NewDecoder.hn3) (coder_NewDecoder.hx3) (by kernel_rfl) (by rw [coder_NewDecoder.b0_loops]; exact lnil) ?_ ?_ ?_ ?_
  · intro f w K h
    unfold coder_NewDecoder.hn3 at h
    obtain ⟨hlen, h⟩ := gN_ok h
    obtain ⟨y3, h3, h⟩ := gQ_ok h
    obtain ⟨y9, h9, h⟩ := gI_ok h
    exact h
  · intro N f w K h
    unfold coder_NewDecoder.hn3 at h
    obtain ⟨hlen, h⟩ := gN_ok h
    obtain ⟨y3, h3, h⟩ := gQ_ok h
    obtain ⟨y9, h9, h⟩ := gI_ok h
    refine ⟨[none, none, none, some (Value.pointer (some y3)), none, none, none, none, none, some (Value.int .i64 y9), none, none, none, none, none], hlen, ⟨h3, h9, trivial⟩, ?_⟩
    rw [coder_NewDecoder.le3]
    exact h
  · intro e f w K h
    cases e with
    | normal => exact h.elim
    | exit i =>
      unfold coder_NewDecoder.hx3 at h
      simp only at h
      split at h
      · rename_i hb
        obtain rfl := Nat.eq_of_beq_eq_true hb
        obtain ⟨hlen, h⟩ := gN_ok h
        obtain ⟨o3, h3, h⟩ := gQ_ok h
        exact ⟨[none, none, none, some (Value.pointer (some o3)), none, none, none, none, none, none, none, none, none, none, none], hlen, ⟨h3, trivial⟩, h⟩
      · exact (show False from h).elim
    | ret =>
      exact (show False from h).elim
  · intro f w K h
    have e : lid coder_NewDecoder.b0 = 3 := by kernel_rfl
    rw [e] at h
    exact h
theorem coder_NewDecoder.eq (a0 : Option Addr) (a0n : Nat) (a0c : Nat) (w : World) (K : Value → World → Prop) : afn coder_NewDecoder.C coder_NewDecoder.L coder_NewDecoder.D tab Try.f69 [(Value.slice a0 a0n a0c)] w K = coder_NewDecoder.f a0 a0n a0c w (fun r0 w => K (Value.pointer r0) w) := by kernel_rfl
theorem coder_NewDecoder.ok : FSound Try.prog 69 coder_NewDecoder.h := by
  intro args w K h
  unfold coder_NewDecoder.h coder_NewDecoder.H at h
  split at h
  ·
    replace h := vL_ok h
    obtain ⟨a0, a0n, a0c, rfl, h⟩ := h
    refine ⟨by kernel_rfl, fn_ok tab_ok coder_NewDecoder.C_ok (L := coder_NewDecoder.L) (D := coder_NewDecoder.D) Try.func69 coder_NewDecoder.hb (by kernel_rfl) (by rw [coder_NewDecoder.c_loops]; exact lcons coder_NewDecoder.lok3 (lnil)) (Nat.le_of_ble_eq_true (by kernel_rfl)) ?_⟩
    rw [coder_NewDecoder.eq]
    exact h
  · exact h.elim
/-! ### (*valise/coder.Decoder).Decode: function 90 -/
def coder_Decoder_Decode.l8 : Nat → Option Addr → Int → Bool → World → (Int → World → Prop) → Prop
  | 0, _, _, _, _, _ => False
  | N + 1, y0, y5, y8, w, K0 =>
    bif y8 then
      coder_Decoder_more.f y0 w fun w =>
      sm y0 fun p_23 =>
      coder_span_shift.f (some p_23) w fun r40_24 r40_25 w =>
      coder_Decoder_Decode.l8 N y0 y5 r40_25 w K0
    else
      K0 y5 w

def coder_Decoder_Decode.f (a0 : Option Addr) (a1 : Int) (w : World) (K : Int → World → Prop) : Prop :=
  bif a0.isNone then
    K 0 w
  else
    sm a0 fun p_6 =>
    coder_span_mid.f (some p_6) a1 w fun r15_7 w =>
    let J_29 := fun (j5_12 : Int) (w : World) =>
      ((sm a0 fun p_14 =>
      coder_span_take.f (some p_14) j5_12 r15_7 w fun w =>
      sm a0 fun p_17 =>
      coder_span_shift.f (some p_17) w fun r32_18 r32_19 w =>
      ∃ N_26 : Nat, coder_Decoder_Decode.l8 N_26 a0 j5_12 r32_19 w
      (fun o5_27 w =>
        K o5_27 w)) : Prop)
    sm a0 fun p_10 =>
    ldI .u32 (p_10.add 2) w fun x19_11 =>
    bif (decide (x19_11 ≤ r15_7)) then
      J_29 1 w
    else
      J_29 0 w
def coder_Decoder_Decode.H (F : type_of% @coder_Decoder_Decode.f) : Hf := fun args w K => match args with
  | [v0, v1] => vP v0 fun a0 => vI .i64 v1 fun a1 => F a0 a1 w (fun r0 w => K (Value.int .i64 r0) w)
  | _ => False
def coder_Decoder_Decode.h : Hf := coder_Decoder_Decode.H @coder_Decoder_Decode.f
def coder_Decoder_Decode.CG (F94 : type_of% @coder_span_mid.f) (F93 : type_of% @coder_span_take.f) (F95 : type_of% @coder_span_shift.f) (F89 : type_of% @coder_Decoder_more.f) : Hd := hcons 89 (coder_Decoder_more.H F89) (hcons 95 (coder_span_shift.H F95) (hcons 93 (coder_span_take.H F93) (hcons 94 (coder_span_mid.H F94) (hnil))))
def coder_Decoder_Decode.C : Hd := coder_Decoder_Decode.CG @coder_span_mid.f @coder_span_take.f @coder_span_shift.f @coder_Decoder_more.f
def coder_Decoder_Decode.G (F94 : type_of% @coder_span_mid.f) (F93 : type_of% @coder_span_take.f) (F95 : type_of% @coder_span_shift.f) (F89 : type_of% @coder_Decoder_more.f) (a0 : Option Addr) (a1 : Int) (w : World) (K : Int → World → Prop) : Prop :=
  bif a0.isNone then
    K 0 w
  else
    sm a0 fun p_6 =>
    F94 (some p_6) a1 w fun r15_7 w =>
    let J_29 := fun (j5_12 : Int) (w : World) =>
      ((sm a0 fun p_14 =>
      F93 (some p_14) j5_12 r15_7 w fun w =>
      sm a0 fun p_17 =>
      F95 (some p_17) w fun r32_18 r32_19 w =>
      ∃ N_26 : Nat, coder_Decoder_Decode.l8 N_26 a0 j5_12 r32_19 w
      (fun o5_27 w =>
        K o5_27 w)) : Prop)
    sm a0 fun p_10 =>
    ldI .u32 (p_10.add 2) w fun x19_11 =>
    bif (decide (x19_11 ≤ r15_7)) then
      J_29 1 w
    else
      J_29 0 w
theorem coder_Decoder_Decode.C_ok : CSound Try.prog coder_Decoder_Decode.C := hcons_ok coder_Decoder_more.ok (hcons_ok coder_span_shift.ok (hcons_ok coder_span_take.ok (hcons_ok coder_span_mid.ok (hnil_ok))))
def coder_Decoder_Decode.D : Nat → Plan := fun i => .done
noncomputable def coder_Decoder_Decode.c : Code := Try.f90.body.getD .skip
theorem coder_Decoder_Decode.hb : Try.f90.body = some coder_Decoder_Decode.c := by kernel_rfl
noncomputable def coder_Decoder_Decode.b0 : Code := (loopsOf coder_Decoder_Decode.c).getD 0 .skip
theorem coder_Decoder_Decode.b0_loops : loopsOf coder_Decoder_Decode.b0 = [] := by kernel_rfl
theorem coder_Decoder_Decode.c_loops : loopsOf coder_Decoder_Decode.c = [coder_Decoder_Decode.b0] := by kernel_rfl
def coder_Decoder_Decode.l8G (F94 : type_of% @coder_span_mid.f) (F93 : type_of% @coder_span_take.f) (F95 : type_of% @coder_span_shift.f) (F89 : type_of% @coder_Decoder_more.f) (R : Option Addr → Int → Bool → World → (Int → World → Prop) → Prop) : Option Addr → Int → Bool → World → (Int → World → Prop) → Prop := fun y0 y5 y8 w K0 =>
    bif y8 then
      F89 y0 w fun w =>
      sm y0 fun p_23 =>
      F95 (some p_23) w fun r40_24 r40_25 w =>
      R y0 y5 r40_25 w K0
    else
      K0 y5 w

def coder_Decoder_Decode.hn8 (N : Nat) (f : Fr) (w : World) (K : AExit → Fr → World → Prop) : Prop :=
  gN f 46 <| gP f 0 fun y0 => gI .i64 f 5 fun y5 => gB f 8 fun y8 => coder_Decoder_Decode.l8 N y0 y5 y8 w (fun o5 w => K (.exit 0) [none, none, none, none, none, some (Value.int .i64 o5), none, none, none, none, none, none, none, none, none, none, none, none, none, none, none, none, none, none, none, none, none, none, none, none, none, none, none, none, none, none, none, none, none, none, none, none, none, none, none, none] w)
def coder_Decoder_Decode.hx8 : AExit → Fr → World → (AExit → Fr → World → Prop) → Prop := fun e f w K => match e with
  | .normal => False
  | .exit i => (match Nat.beq i 0 with | true => gN f 46 <| gI .i64 f 5 fun o5 => K (.exit 0) [none, none, none, none, none, some (Value.int .i64 o5), none, none, none, none, none, none, none, none, none, none, none, none, none, none, none, none, none, none, none, none, none, none, none, none, none, none, none, none, none, none, none, none, none, none, none, none, none, none, none, none] w | false => False)
  | .ret => False
def coder_Decoder_Decode.L : LHd := fun l f w K => (match Nat.beq l 8 with | true => ∃ N, coder_Decoder_Decode.hn8 N f w K | false => False)
theorem coder_Decoder_Decode.leG8 (F94 : type_of% @coder_span_mid.f) (F93 : type_of% @coder_span_take.f) (F95 : type_of% @coder_span_shift.f) (F89 : type_of% @coder_Decoder_more.f) (N : Nat) (y0 : Option Addr) (y5 : Int) (y8 : Bool) (w : World) (K : AExit → Fr → World → Prop) : awp (coder_Decoder_Decode.CG F94 F93 F95 F89) coder_Decoder_Decode.L coder_Decoder_Decode.D tab coder_Decoder_Decode.b0 (lpost coder_Decoder_Decode.hn8 coder_Decoder_Decode.hx8 N K) [some (Value.pointer y0), none, none, none, none, some (Value.int .i64 y5), none, none, some (Value.bool y8), none, none, none, none, none, none, none, none, none, none, none, none, none, none, none, none, none, none, none, none, none, none, none, none, none, none, none, none, none, none, none, none, none, none, none, none, none] w = coder_Decoder_Decode.l8G F94 F93 F95 F89 (coder_Decoder_Decode.l8 N) y0 y5 y8 w (fun o5 w => K (.exit 0) [none, none, none, none, none, some (Value.int .i64 o5), none, none, none, none, none, none, none, none, none, none, none, none, none, none, none, none, none, none, none, none, none, none, none, none, none, none, none, none, none, none, none, none, none, none, none, none, none, none, none, none] w) := by kernel_rfl
theorem coder_Decoder_Decode.les8 (N : Nat) : coder_Decoder_Decode.l8 (N + 1) = coder_Decoder_Decode.l8G @coder_span_mid.f @coder_span_take.f @coder_span_shift.f @coder_Decoder_more.f (coder_Decoder_Decode.l8 N) := by kernel_rfl
theorem coder_Decoder_Decode.le8 (N : Nat) (y0 : Option Addr) (y5 : Int) (y8 : Bool) (w : World) (K : AExit → Fr → World → Prop) : awp coder_Decoder_Decode.C coder_Decoder_Decode.L coder_Decoder_Decode.D tab coder_Decoder_Decode.b0 (lpost coder_Decoder_Decode.hn8 coder_Decoder_Decode.hx8 N K) [some (Value.pointer y0), none, none, none, none, some (Value.int .i64 y5), none, none, some (Value.bool y8), none, none, none, none, none, none, none, none, none, none, none, none, none, none, none, none, none, none, none, none, none, none, none, none, none, none, none, none, none, none, none, none, none, none, none, none, none] w = coder_Decoder_Decode.l8 (N + 1) y0 y5 y8 w (fun o5 w => K (.exit 0) [none, none, none, none, none, some (Value.int .i64 o5), none, none, none, none, none, none, none, none, none, none, none, none, none, none, none, none, none, none, none, none, none, none, none, none, none, none, none, none, none, none, none, none, none, none, none, none, none, none, none, none] w) := by
  rw [coder_Decoder_Decode.les8]
  exact coder_Decoder_Decode.leG8 @coder_span_mid.f @coder_span_take.f @coder_span_shift.f @coder_Decoder_more.f N y0 y5 y8 w K
theorem coder_Decoder_Decode.lok8 : LoopOk Try.prog coder_Decoder_Decode.L coder_Decoder_Decode.b0 := by
  refine loop_ok tab_ok coder_Decoder_Decode.C_ok (D := coder_Decoder_Decode.D) (coder_Decoder_Decode.hn8) (coder_Decoder_Decode.hx8) (by kernel_rfl) (by rw [coder_Decoder_Decode.b0_loops]; exact lnil) ?_ ?_ ?_ ?_
  · intro f w K h
    unfold coder_Decoder_Decode.hn8 at h
    obtain ⟨hlen, h⟩ := gN_ok h
    obtain ⟨y0, h0, h⟩ := gP_ok h
    obtain ⟨y5, h5, h⟩ := gI_ok h
    obtain ⟨y8, h8, h⟩ := gB_ok h
    exact h
  · intro N f w K h
    unfold coder_Decoder_Decode.hn8 at h
    obtain ⟨hlen, h⟩ := gN_ok h
    obtain ⟨y0, h0, h⟩ := gP_ok h
    obtain ⟨y5, h5, h⟩ := gI_ok h
    obtain ⟨y8, h8, h⟩ := gB_ok h
    refine ⟨[some (Value.pointer y0), none, none, none, none, some (Value.int .i64 y5), none, none, some (Value.bool y8), none, none, none, none, none, none, none, none, none, none, none, none, none, none, none, none, none, none, none, none, none, none, none, none, none, none, none, none, none, none, none, none, none, none, none, none, none], hlen, ⟨h0, h5, h8, trivial⟩, ?_⟩
    rw [coder_Decoder_Decode.le8]
    exact h
  · intro e f w K h
    cases e with
    | normal => exact h.elim
    | exit i =>
      unfold coder_Decoder_Decode.hx8 at h
      simp only at h
      split at h
      · rename_i hb
        obtain rfl := Nat.eq_of_beq_eq_true hb
        obtain ⟨hlen, h⟩ := gN_ok h
        obtain ⟨o5, h5, h⟩ := gI_ok h
        exact ⟨[none, none, none, none, none, some (Value.int .i64 o5), none, none, none, none, none, none, none, none, none, none, none, none, none, none, none, none, none, none, none, none, none, none, none, none, none, none, none, none, none, none, none, none, none, none, none, none, none, none, none, none], hlen, ⟨h5, trivial⟩, h⟩
      · exact (show False from h).elim
    | ret =>
      exact (show False from h).elim
  · intro f w K h
    have e : lid coder_Decoder_Decode.b0 = 8 := by kernel_rfl
    rw [e] at h
    exact h
theorem coder_Decoder_Decode.eqG (F94 : type_of% @coder_span_mid.f) (F93 : type_of% @coder_span_take.f) (F95 : type_of% @coder_span_shift.f) (F89 : type_of% @coder_Decoder_more.f) (a0 : Option Addr) (a1 : Int) (w : World) (K : Value → World → Prop) : afn (coder_Decoder_Decode.CG F94 F93 F95 F89) coder_Decoder_Decode.L coder_Decoder_Decode.D tab Try.f90 [(Value.pointer a0), (Value.int .i64 a1)] w K = coder_Decoder_Decode.G F94 F93 F95 F89 a0 a1 w (fun r0 w => K (Value.int .i64 r0) w) := by kernel_rfl
theorem coder_Decoder_Decode.eq (a0 : Option Addr) (a1 : Int) (w : World) (K : Value → World → Prop) : afn coder_Decoder_Decode.C coder_Decoder_Decode.L coder_Decoder_Decode.D tab Try.f90 [(Value.pointer a0), (Value.int .i64 a1)] w K = coder_Decoder_Decode.f a0 a1 w (fun r0 w => K (Value.int .i64 r0) w) := coder_Decoder_Decode.eqG @coder_span_mid.f @coder_span_take.f @coder_span_shift.f @coder_Decoder_more.f a0 a1 w K
theorem coder_Decoder_Decode.ok : FSound Try.prog 90 coder_Decoder_Decode.h := by
  intro args w K h
  unfold coder_Decoder_Decode.h coder_Decoder_Decode.H at h
  split at h
  ·
    replace h := vP_ok h
    obtain ⟨a0, rfl, h⟩ := h
    replace h := vI_ok h
    obtain ⟨a1, rfl, h⟩ := h
    refine ⟨by kernel_rfl, fn_ok tab_ok coder_Decoder_Decode.C_ok (L := coder_Decoder_Decode.L) (D := coder_Decoder_Decode.D) Try.func90 coder_Decoder_Decode.hb (by kernel_rfl) (by rw [coder_Decoder_Decode.c_loops]; exact lcons coder_Decoder_Decode.lok8 (lnil)) (Nat.le_of_ble_eq_true (by kernel_rfl)) ?_⟩
    rw [coder_Decoder_Decode.eq]
    exact h
  · exact h.elim
/-! ### (*valise/stream.unpacker).next: function 70 -/
def stream_unpacker_next.l3 : Nat → Option Addr → Int → Int → World → (Int → World → Prop) → Prop
  | 0, _, _, _, _, _ => False
  | N + 1, y0, y3, y5, w, K0 =>
    bif (decide (y5 < 8)) then
      sm y0 fun p_9 =>
      ldP p_9 w.drew fun x10_10 =>
      sm y0 fun p_11 =>
      ldP (p_11.add 1) w.drew fun x14_12 =>
      model_Model_Chance.f x14_12 w.drew fun r15_13 w =>
      (World.cell? w p_9 = some (.pointer x10_10)) ∧
      (coder_Decoder_Decode.f x10_10 r15_13 w fun r16_14 w =>
      sm y0 fun p_16 =>
      ldP (p_16.add 1) w fun x20_17 =>
      model_Model_Learn.f x20_17 r16_14 w fun w =>
      let v3_18 := (bor .u8 (shl .u8 y3 1) (IntKind.wrap .u8 r16_14))
      stream_unpacker_next.l3 N y0 v3_18 (IntKind.wrap .i64 (y5 + 1)) w K0)
    else
      K0 y3 w

def stream_unpacker_next.f (a0 : Option Addr) (w : World) (K : Int → World → Prop) : Prop :=
  ∃ N_19 : Nat, stream_unpacker_next.l3 N_19 a0 0 0 w
  (fun o3_20 w =>
    K o3_20 w)
def stream_unpacker_next.H (F : type_of% @stream_unpacker_next.f) : Hf := fun args w K => match args with
  | [v0] => vP v0 fun a0 => F a0 w (fun r0 w => K (Value.int .u8 r0) w)
  | _ => False
def stream_unpacker_next.h : Hf := stream_unpacker_next.H @stream_unpacker_next.f
def stream_unpacker_next.CG (F27 : type_of% @model_Model_Chance.f) (F90 : type_of% @coder_Decoder_Decode.f) (F29 : type_of% @model_Model_Learn.f) : Hd := hcons 29 (model_Model_Learn.H F29) (hcons 90 (coder_Decoder_Decode.H F90) (hcons 27 (model_Model_Chance.H F27) (hnil)))
def stream_unpacker_next.C : Hd := stream_unpacker_next.CG @model_Model_Chance.f @coder_Decoder_Decode.f @model_Model_Learn.f
def stream_unpacker_next.G (F27 : type_of% @model_Model_Chance.f) (F90 : type_of% @coder_Decoder_Decode.f) (F29 : type_of% @model_Model_Learn.f) (a0 : Option Addr) (w : World) (K : Int → World → Prop) : Prop :=
  ∃ N_19 : Nat, stream_unpacker_next.l3 N_19 a0 0 0 w
  (fun o3_20 w =>
    K o3_20 w)
theorem stream_unpacker_next.C_ok : CSound Try.prog stream_unpacker_next.C := hcons_ok model_Model_Learn.ok (hcons_ok coder_Decoder_Decode.ok (hcons_ok model_Model_Chance.ok (hnil_ok)))
def stream_unpacker_next.D : Nat → Plan := fun i => (match Nat.beq i 4 with | true => .take 0 (.take 1 (.take 2 (.take 3 (.take 4 (.take 5 (.take 6 (.take 7 (.eff 8 (.eff 9 (.take 10 (.done))))))))))) | false => .done)
noncomputable def stream_unpacker_next.c : Code := Try.f70.body.getD .skip
theorem stream_unpacker_next.hb : Try.f70.body = some stream_unpacker_next.c := by kernel_rfl
noncomputable def stream_unpacker_next.b0 : Code := (loopsOf stream_unpacker_next.c).getD 0 .skip
theorem stream_unpacker_next.b0_loops : loopsOf stream_unpacker_next.b0 = [] := by kernel_rfl
theorem stream_unpacker_next.c_loops : loopsOf stream_unpacker_next.c = [stream_unpacker_next.b0] := by kernel_rfl
def stream_unpacker_next.l3G (F27 : type_of% @model_Model_Chance.f) (F90 : type_of% @coder_Decoder_Decode.f) (F29 : type_of% @model_Model_Learn.f) (R : Option Addr → Int → Int → World → (Int → World → Prop) → Prop) : Option Addr → Int → Int → World → (Int → World → Prop) → Prop := fun y0 y3 y5 w K0 =>
    bif (decide (y5 < 8)) then
      sm y0 fun p_9 =>
      ldP p_9 w.drew fun x10_10 =>
      sm y0 fun p_11 =>
      ldP (p_11.add 1) w.drew fun x14_12 =>
      F27 x14_12 w.drew fun r15_13 w =>
      (World.cell? w p_9 = some (.pointer x10_10)) ∧
      (F90 x10_10 r15_13 w fun r16_14 w =>
      sm y0 fun p_16 =>
      ldP (p_16.add 1) w fun x20_17 =>
      F29 x20_17 r16_14 w fun w =>
      let v3_18 := (bor .u8 (shl .u8 y3 1) (IntKind.wrap .u8 r16_14))
      R y0 v3_18 (IntKind.wrap .i64 (y5 + 1)) w K0)
    else
      K0 y3 w

def stream_unpacker_next.hn3 (N : Nat) (f : Fr) (w : World) (K : AExit → Fr → World → Prop) : Prop :=
  gN f 30 <| gP f 0 fun y0 => gI .u8 f 3 fun y3 => gI .i64 f 5 fun y5 => stream_unpacker_next.l3 N y0 y3 y5 w (fun o3 w => K (.exit 0) [none, none, none, some (Value.int .u8 o3), none, none, none, none, none, none, none, none, none, none, none, none, none, none, none, none, none, none, none, none, none, none, none, none, none, none] w)
def stream_unpacker_next.hx3 : AExit → Fr → World → (AExit → Fr → World → Prop) → Prop := fun e f w K => match e with
  | .normal => False
  | .exit i => (match Nat.beq i 0 with | true => gN f 30 <| gI .u8 f 3 fun o3 => K (.exit 0) [none, none, none, some (Value.int .u8 o3), none, none, none, none, none, none, none, none, none, none, none, none, none, none, none, none, none, none, none, none, none, none, none, none, none, none] w | false => False)
  | .ret => False
def stream_unpacker_next.L : LHd := fun l f w K => (match Nat.beq l 3 with | true => ∃ N, stream_unpacker_next.hn3 N f w K | false => False)
theorem stream_unpacker_next.leG3 (F27 : type_of% @model_Model_Chance.f) (F90 : type_of% @coder_Decoder_Decode.f) (F29 : type_of% @model_Model_Learn.f) (N : Nat) (y0 : Option Addr) (y3 : Int) (y5 : Int) (w : World) (K : AExit → Fr → World → Prop) : awp (stream_unpacker_next.CG F27 F90 F29) stream_unpacker_next.L stream_unpacker_next.D tab stream_unpacker_next.b0 (lpost stream_unpacker_next.hn3 stream_unpacker_next.hx3 N K) [some (Value.pointer y0), none, none, some (Value.int .u8 y3), none, some (Value.int .i64 y5), none, none, none, none, none, none, none, none, none, none, none, none, none, none, none, none, none, none, none, none, none, none, none, none] w = stream_unpacker_next.l3G F27 F90 F29 (stream_unpacker_next.l3 N) y0 y3 y5 w (fun o3 w => K (.exit 0) [none, none, none, some (Value.int .u8 o3), none, none, none, none, none, none, none, none, none, none, none, none, none, none, none, none, none, none, none, none, none, none, none, none, none, none] w) := by kernel_rfl
theorem stream_unpacker_next.les3 (N : Nat) : stream_unpacker_next.l3 (N + 1) = stream_unpacker_next.l3G @model_Model_Chance.f @coder_Decoder_Decode.f @model_Model_Learn.f (stream_unpacker_next.l3 N) := by kernel_rfl
theorem stream_unpacker_next.le3 (N : Nat) (y0 : Option Addr) (y3 : Int) (y5 : Int) (w : World) (K : AExit → Fr → World → Prop) : awp stream_unpacker_next.C stream_unpacker_next.L stream_unpacker_next.D tab stream_unpacker_next.b0 (lpost stream_unpacker_next.hn3 stream_unpacker_next.hx3 N K) [some (Value.pointer y0), none, none, some (Value.int .u8 y3), none, some (Value.int .i64 y5), none, none, none, none, none, none, none, none, none, none, none, none, none, none, none, none, none, none, none, none, none, none, none, none] w = stream_unpacker_next.l3 (N + 1) y0 y3 y5 w (fun o3 w => K (.exit 0) [none, none, none, some (Value.int .u8 o3), none, none, none, none, none, none, none, none, none, none, none, none, none, none, none, none, none, none, none, none, none, none, none, none, none, none] w) := by
  rw [stream_unpacker_next.les3]
  exact stream_unpacker_next.leG3 @model_Model_Chance.f @coder_Decoder_Decode.f @model_Model_Learn.f N y0 y3 y5 w K
theorem stream_unpacker_next.lok3 : LoopOk Try.prog stream_unpacker_next.L stream_unpacker_next.b0 := by
  refine loop_ok tab_ok stream_unpacker_next.C_ok (D := stream_unpacker_next.D) (stream_unpacker_next.hn3) (stream_unpacker_next.hx3) (by kernel_rfl) (by rw [stream_unpacker_next.b0_loops]; exact lnil) ?_ ?_ ?_ ?_
  · intro f w K h
    unfold stream_unpacker_next.hn3 at h
    obtain ⟨hlen, h⟩ := gN_ok h
    obtain ⟨y0, h0, h⟩ := gP_ok h
    obtain ⟨y3, h3, h⟩ := gI_ok h
    obtain ⟨y5, h5, h⟩ := gI_ok h
    exact h
  · intro N f w K h
    unfold stream_unpacker_next.hn3 at h
    obtain ⟨hlen, h⟩ := gN_ok h
    obtain ⟨y0, h0, h⟩ := gP_ok h
    obtain ⟨y3, h3, h⟩ := gI_ok h
    obtain ⟨y5, h5, h⟩ := gI_ok h
    refine ⟨[some (Value.pointer y0), none, none, some (Value.int .u8 y3), none, some (Value.int .i64 y5), none, none, none, none, none, none, none, none, none, none, none, none, none, none, none, none, none, none, none, none, none, none, none, none], hlen, ⟨h0, h3, h5, trivial⟩, ?_⟩
    rw [stream_unpacker_next.le3]
    exact h
  · intro e f w K h
    cases e with
    | normal => exact h.elim
    | exit i =>
      unfold stream_unpacker_next.hx3 at h
      simp only at h
      split at h
      · rename_i hb
        obtain rfl := Nat.eq_of_beq_eq_true hb
        obtain ⟨hlen, h⟩ := gN_ok h
        obtain ⟨o3, h3, h⟩ := gI_ok h
        exact ⟨[none, none, none, some (Value.int .u8 o3), none, none, none, none, none, none, none, none, none, none, none, none, none, none, none, none, none, none, none, none, none, none, none, none, none, none], hlen, ⟨h3, trivial⟩, h⟩
      · exact (show False from h).elim
    | ret =>
      exact (show False from h).elim
  · intro f w K h
    have e : lid stream_unpacker_next.b0 = 3 := by kernel_rfl
    rw [e] at h
    exact h
theorem stream_unpacker_next.eqG (F27 : type_of% @model_Model_Chance.f) (F90 : type_of% @coder_Decoder_Decode.f) (F29 : type_of% @model_Model_Learn.f) (a0 : Option Addr) (w : World) (K : Value → World → Prop) : afn (stream_unpacker_next.CG F27 F90 F29) stream_unpacker_next.L stream_unpacker_next.D tab Try.f70 [(Value.pointer a0)] w K = stream_unpacker_next.G F27 F90 F29 a0 w (fun r0 w => K (Value.int .u8 r0) w) := by kernel_rfl
theorem stream_unpacker_next.eq (a0 : Option Addr) (w : World) (K : Value → World → Prop) : afn stream_unpacker_next.C stream_unpacker_next.L stream_unpacker_next.D tab Try.f70 [(Value.pointer a0)] w K = stream_unpacker_next.f a0 w (fun r0 w => K (Value.int .u8 r0) w) := stream_unpacker_next.eqG @model_Model_Chance.f @coder_Decoder_Decode.f @model_Model_Learn.f a0 w K
theorem stream_unpacker_next.ok : FSound Try.prog 70 stream_unpacker_next.h := by
  intro args w K h
  unfold stream_unpacker_next.h stream_unpacker_next.H at h
  split at h
  ·
    replace h := vP_ok h
    obtain ⟨a0, rfl, h⟩ := h
    refine ⟨by kernel_rfl, fn_ok tab_ok stream_unpacker_next.C_ok (L := stream_unpacker_next.L) (D := stream_unpacker_next.D) Try.func70 stream_unpacker_next.hb (by kernel_rfl) (by rw [stream_unpacker_next.c_loops]; exact lcons stream_unpacker_next.lok3 (lnil)) (Nat.le_of_ble_eq_true (by kernel_rfl)) ?_⟩
    rw [stream_unpacker_next.eq]
    exact h
  · exact h.elim
/-! ### bytes.Equal: function 71 -/
def bytes_Equal.f (a0 : Option Addr) (a0n : Nat) (a0c : Nat) (a1 : Option Addr) (a1n : Nat) (a1c : Nat) (w : World) (K : Bool → World → Prop) : Prop :=
  strL a0 a0n a0c w fun s_3 =>
  strL a1 a1n a1c w fun s_4 =>
  let v4_5 := (s_3.toList == s_4.toList)
  K v4_5 w
def bytes_Equal.H (F : type_of% @bytes_Equal.f) : Hf := fun args w K => match args with
  | [v0, v1] => vL v0 fun a0 a0n a0c => vL v1 fun a1 a1n a1c => F a0 a0n a0c a1 a1n a1c w (fun r0 w => K (Value.bool r0) w)
  | _ => False
def bytes_Equal.h : Hf := bytes_Equal.H @bytes_Equal.f
def bytes_Equal.C : Hd := hnil
theorem bytes_Equal.C_ok : CSound Try.prog bytes_Equal.C := hnil_ok
def bytes_Equal.D : Nat → Plan := fun i => .done
noncomputable def bytes_Equal.c : Code := Try.f71.body.getD .skip
theorem bytes_Equal.hb : Try.f71.body = some bytes_Equal.c := by kernel_rfl
theorem bytes_Equal.c_loops : loopsOf bytes_Equal.c = [] := by kernel_rfl
def bytes_Equal.L : LHd := fun l f w K => False
theorem bytes_Equal.eq (a0 : Option Addr) (a0n : Nat) (a0c : Nat) (a1 : Option Addr) (a1n : Nat) (a1c : Nat) (w : World) (K : Value → World → Prop) : afn bytes_Equal.C bytes_Equal.L bytes_Equal.D tab Try.f71 [(Value.slice a0 a0n a0c), (Value.slice a1 a1n a1c)] w K = bytes_Equal.f a0 a0n a0c a1 a1n a1c w (fun r0 w => K (Value.bool r0) w) := by kernel_rfl
theorem bytes_Equal.ok : FSound Try.prog 71 bytes_Equal.h := by
  intro args w K h
  unfold bytes_Equal.h bytes_Equal.H at h
  split at h
  ·
    replace h := vL_ok h
    obtain ⟨a0, a0n, a0c, rfl, h⟩ := h
    replace h := vL_ok h
    obtain ⟨a1, a1n, a1c, rfl, h⟩ := h
    refine ⟨by kernel_rfl, fn_ok tab_ok bytes_Equal.C_ok (L := bytes_Equal.L) (D := bytes_Equal.D) Try.func71 bytes_Equal.hb (by kernel_rfl) (by rw [bytes_Equal.c_loops]; exact lnil) (Nat.le_of_ble_eq_true (by kernel_rfl)) ?_⟩
    rw [bytes_Equal.eq]
    exact h
  · exact h.elim
/-! ### valise/stream.Unpack: function 37 -/
def stream_Unpack.l8 : Nat → Option Addr → Nat → Nat → Int → Addr → Option Addr → Nat → Nat → Int → Int → World → (Option Addr → Nat → Nat → Int → Option Addr → Nat → Nat → World → Prop) → Prop
  | 0, _, _, _, _, _, _, _, _, _, _, _, _ => False
  | N + 1, y0, y0n, y0c, y2, y8, y9, y9n, y9c, y29, y30, w, K1 =>
    bif (decide (y30 < y29)) then
      stream_unpacker_next.f (some y8) w fun r34_22 w =>
      newC 5 [(Value.int .u8 r34_22)] w fun a35_23 w =>
      appL 5 1 1 [(Value.int .u8 0)] y9 y9n y9c (some a35_23) 1 1 w fun a36_24 a36_24n a36_24c w =>
      stream_Unpack.l8 N y0 y0n y0c y2 y8 a36_24 a36_24n a36_24c y29 (IntKind.wrap .i64 (y30 + 1)) w K1
    else
      K1 y0 y0n y0c y2 y9 y9n y9c w

def stream_Unpack.f (a0 : Option Addr) (a0n : Nat) (a0c : Nat) (a1 : Int) (a2 : Int) (w : World) (K : Option Addr → Nat → Nat → Int → World → Prop) : Prop :=
  let J_11 := fun (j12_6 : Bool) (w : World) =>
    ((bif j12_6 then
      K none 0 0 1 w
    else
      let v20_9 := (decide (a1 > 1048576))
      bif v20_9 then
        K none 0 0 5 w
      else
        coder_NewDecoder.f a0 a0n a0c w fun r24_13 w =>
        model_New.f a2 w fun r26_14 w =>
        newC 104 [(Value.pointer r24_13), (Value.pointer r26_14)] w fun a28_15 w =>
        ∃ N_25 : Nat, stream_Unpack.l8 N_25 a0 a0n a0c a2 a28_15 none 0 0 a1 0 w
        (fun o0_26 o0_26n o0_26c o2_27 o9_28 o9_28n o9_28c w =>
          stream_Pack.f o9_28 o9_28n o9_28c o2_27 w fun r41_31 r41_31n r41_31c r41_32 w =>
          bif (r41_32 != 0) then
            K none 0 0 4 w
          else
            bytes_Equal.f o0_26 o0_26n o0_26c r41_31 r41_31n r41_31c w fun r49_34 w =>
            bif (!r49_34) then
              K none 0 0 4 w
            else
              K o9_28 o9_28n o9_28c 0 w)) : Prop)
  stream_right.f a2 w fun r14_4 w =>
  bif (!r14_4) then
    J_11 true w
  else
    let v12_5 := (decide (a1 < 0))
    J_11 v12_5 w
def stream_Unpack.H (F : type_of% @stream_Unpack.f) : Hf := fun args w K => match args with
  | [v0, v1, v2] => vL v0 fun a0 a0n a0c => vI .i64 v1 fun a1 => vI .i64 v2 fun a2 => F a0 a0n a0c a1 a2 w (fun r0 r0n r0c r1 w => K (Value.tuple #[(Value.slice r0 r0n r0c), (Value.int .i64 r1)]) w)
  | _ => False
def stream_Unpack.h : Hf := stream_Unpack.H @stream_Unpack.f
def stream_Unpack.CG (F61 : type_of% @stream_right.f) (F69 : type_of% @coder_NewDecoder.f) (F24 : type_of% @model_New.f) (F70 : type_of% @stream_unpacker_next.f) (F33 : type_of% @stream_Pack.f) (F71 : type_of% @bytes_Equal.f) : Hd := hcons 71 (bytes_Equal.H F71) (hcons 33 (stream_Pack.H F33) (hcons 70 (stream_unpacker_next.H F70) (hcons 24 (model_New.H F24) (hcons 69 (coder_NewDecoder.H F69) (hcons 61 (stream_right.H F61) (hnil))))))
def stream_Unpack.C : Hd := stream_Unpack.CG @stream_right.f @coder_NewDecoder.f @model_New.f @stream_unpacker_next.f @stream_Pack.f @bytes_Equal.f
def stream_Unpack.G (F61 : type_of% @stream_right.f) (F69 : type_of% @coder_NewDecoder.f) (F24 : type_of% @model_New.f) (F70 : type_of% @stream_unpacker_next.f) (F33 : type_of% @stream_Pack.f) (F71 : type_of% @bytes_Equal.f) (a0 : Option Addr) (a0n : Nat) (a0c : Nat) (a1 : Int) (a2 : Int) (w : World) (K : Option Addr → Nat → Nat → Int → World → Prop) : Prop :=
  let J_11 := fun (j12_6 : Bool) (w : World) =>
    ((bif j12_6 then
      K none 0 0 1 w
    else
      let v20_9 := (decide (a1 > 1048576))
      bif v20_9 then
        K none 0 0 5 w
      else
        F69 a0 a0n a0c w fun r24_13 w =>
        F24 a2 w fun r26_14 w =>
        newC 104 [(Value.pointer r24_13), (Value.pointer r26_14)] w fun a28_15 w =>
        ∃ N_25 : Nat, stream_Unpack.l8 N_25 a0 a0n a0c a2 a28_15 none 0 0 a1 0 w
        (fun o0_26 o0_26n o0_26c o2_27 o9_28 o9_28n o9_28c w =>
          F33 o9_28 o9_28n o9_28c o2_27 w fun r41_31 r41_31n r41_31c r41_32 w =>
          bif (r41_32 != 0) then
            K none 0 0 4 w
          else
            F71 o0_26 o0_26n o0_26c r41_31 r41_31n r41_31c w fun r49_34 w =>
            bif (!r49_34) then
              K none 0 0 4 w
            else
              K o9_28 o9_28n o9_28c 0 w)) : Prop)
  F61 a2 w fun r14_4 w =>
  bif (!r14_4) then
    J_11 true w
  else
    let v12_5 := (decide (a1 < 0))
    J_11 v12_5 w
theorem stream_Unpack.C_ok : CSound Try.prog stream_Unpack.C := hcons_ok bytes_Equal.ok (hcons_ok stream_Pack.ok (hcons_ok stream_unpacker_next.ok (hcons_ok model_New.ok (hcons_ok coder_NewDecoder.ok (hcons_ok stream_right.ok (hnil_ok))))))
def stream_Unpack.D : Nat → Plan := fun i => .done
noncomputable def stream_Unpack.c : Code := Try.f37.body.getD .skip
theorem stream_Unpack.hb : Try.f37.body = some stream_Unpack.c := by kernel_rfl
noncomputable def stream_Unpack.b0 : Code := (loopsOf stream_Unpack.c).getD 0 .skip
theorem stream_Unpack.b0_loops : loopsOf stream_Unpack.b0 = [] := by kernel_rfl
theorem stream_Unpack.c_loops : loopsOf stream_Unpack.c = [stream_Unpack.b0] := by kernel_rfl
def stream_Unpack.l8G (F61 : type_of% @stream_right.f) (F69 : type_of% @coder_NewDecoder.f) (F24 : type_of% @model_New.f) (F70 : type_of% @stream_unpacker_next.f) (F33 : type_of% @stream_Pack.f) (F71 : type_of% @bytes_Equal.f) (R : Option Addr → Nat → Nat → Int → Addr → Option Addr → Nat → Nat → Int → Int → World → (Option Addr → Nat → Nat → Int → Option Addr → Nat → Nat → World → Prop) → Prop) : Option Addr → Nat → Nat → Int → Addr → Option Addr → Nat → Nat → Int → Int → World → (Option Addr → Nat → Nat → Int → Option Addr → Nat → Nat → World → Prop) → Prop := fun y0 y0n y0c y2 y8 y9 y9n y9c y29 y30 w K1 =>
    bif (decide (y30 < y29)) then
      F70 (some y8) w fun r34_22 w =>
      newC 5 [(Value.int .u8 r34_22)] w fun a35_23 w =>
      appL 5 1 1 [(Value.int .u8 0)] y9 y9n y9c (some a35_23) 1 1 w fun a36_24 a36_24n a36_24c w =>
      R y0 y0n y0c y2 y8 a36_24 a36_24n a36_24c y29 (IntKind.wrap .i64 (y30 + 1)) w K1
    else
      K1 y0 y0n y0c y2 y9 y9n y9c w

def stream_Unpack.hn8 (N : Nat) (f : Fr) (w : World) (K : AExit → Fr → World → Prop) : Prop :=
  gN f 53 <| gL f 0 fun y0 y0n y0c => gI .i64 f 2 fun y2 => gQ f 8 fun y8 => gL f 9 fun y9 y9n y9c => gI .i64 f 29 fun y29 => gI .i64 f 30 fun y30 => stream_Unpack.l8 N y0 y0n y0c y2 y8 y9 y9n y9c y29 y30 w (fun o0 o0n o0c o2 o9 o9n o9c w => K (.exit 1) [some (Value.slice o0 o0n o0c), none, some (Value.int .i64 o2), none, none, none, none, none, none, some (Value.slice o9 o9n o9c), none, none, none, none, none, none, none, none, none, none, none, none, none, none, none, none, none, none, none, none, none, none, none, none, none, none, none, none, none, none, none, none, none, none, none, none, none, none, none, none, none, none, none] w)
def stream_Unpack.hx8 : AExit → Fr → World → (AExit → Fr → World → Prop) → Prop := fun e f w K => match e with
  | .normal => False
  | .exit i => (match Nat.beq i 1 with | true => gN f 53 <| gL f 0 fun o0 o0n o0c => gI .i64 f 2 fun o2 => gL f 9 fun o9 o9n o9c => K (.exit 1) [some (Value.slice o0 o0n o0c), none, some (Value.int .i64 o2), none, none, none, none, none, none, some (Value.slice o9 o9n o9c), none, none, none, none, none, none, none, none, none, none, none, none, none, none, none, none, none, none, none, none, none, none, none, none, none, none, none, none, none, none, none, none, none, none, none, none, none, none, none, none, none, none, none] w | false => False)
  | .ret => False
def stream_Unpack.L : LHd := fun l f w K => (match Nat.beq l 8 with | true => ∃ N, stream_Unpack.hn8 N f w K | false => False)
theorem stream_Unpack.leG8 (F61 : type_of% @stream_right.f) (F69 : type_of% @coder_NewDecoder.f) (F24 : type_of% @model_New.f) (F70 : type_of% @stream_unpacker_next.f) (F33 : type_of% @stream_Pack.f) (F71 : type_of% @bytes_Equal.f) (N : Nat) (y0 : Option Addr) (y0n : Nat) (y0c : Nat) (y2 : Int) (y8 : Addr) (y9 : Option Addr) (y9n : Nat) (y9c : Nat) (y29 : Int) (y30 : Int) (w : World) (K : AExit → Fr → World → Prop) : awp (stream_Unpack.CG F61 F69 F24 F70 F33 F71) stream_Unpack.L stream_Unpack.D tab stream_Unpack.b0 (lpost stream_Unpack.hn8 stream_Unpack.hx8 N K) [some (Value.slice y0 y0n y0c), none, some (Value.int .i64 y2), none, none, none, none, none, some (Value.pointer (some y8)), some (Value.slice y9 y9n y9c), none, none, none, none, none, none, none, none, none, none, none, none, none, none, none, none, none, none, none, some (Value.int .i64 y29), some (Value.int .i64 y30), none, none, none, none, none, none, none, none, none, none, none, none, none, none, none, none, none, none, none, none, none, none] w = stream_Unpack.l8G F61 F69 F24 F70 F33 F71 (stream_Unpack.l8 N) y0 y0n y0c y2 y8 y9 y9n y9c y29 y30 w (fun o0 o0n o0c o2 o9 o9n o9c w => K (.exit 1) [some (Value.slice o0 o0n o0c), none, some (Value.int .i64 o2), none, none, none, none, none, none, some (Value.slice o9 o9n o9c), none, none, none, none, none, none, none, none, none, none, none, none, none, none, none, none, none, none, none, none, none, none, none, none, none, none, none, none, none, none, none, none, none, none, none, none, none, none, none, none, none, none, none] w) := by kernel_rfl
theorem stream_Unpack.les8 (N : Nat) : stream_Unpack.l8 (N + 1) = stream_Unpack.l8G @stream_right.f @coder_NewDecoder.f @model_New.f @stream_unpacker_next.f @stream_Pack.f @bytes_Equal.f (stream_Unpack.l8 N) := by kernel_rfl
theorem stream_Unpack.le8 (N : Nat) (y0 : Option Addr) (y0n : Nat) (y0c : Nat) (y2 : Int) (y8 : Addr) (y9 : Option Addr) (y9n : Nat) (y9c : Nat) (y29 : Int) (y30 : Int) (w : World) (K : AExit → Fr → World → Prop) : awp stream_Unpack.C stream_Unpack.L stream_Unpack.D tab stream_Unpack.b0 (lpost stream_Unpack.hn8 stream_Unpack.hx8 N K) [some (Value.slice y0 y0n y0c), none, some (Value.int .i64 y2), none, none, none, none, none, some (Value.pointer (some y8)), some (Value.slice y9 y9n y9c), none, none, none, none, none, none, none, none, none, none, none, none, none, none, none, none, none, none, none, some (Value.int .i64 y29), some (Value.int .i64 y30), none, none, none, none, none, none, none, none, none, none, none, none, none, none, none, none, none, none, none, none, none, none] w = stream_Unpack.l8 (N + 1) y0 y0n y0c y2 y8 y9 y9n y9c y29 y30 w (fun o0 o0n o0c o2 o9 o9n o9c w => K (.exit 1) [some (Value.slice o0 o0n o0c), none, some (Value.int .i64 o2), none, none, none, none, none, none, some (Value.slice o9 o9n o9c), none, none, none, none, none, none, none, none, none, none, none, none, none, none, none, none, none, none, none, none, none, none, none, none, none, none, none, none, none, none, none, none, none, none, none, none, none, none, none, none, none, none, none] w) := by
  rw [stream_Unpack.les8]
  exact stream_Unpack.leG8 @stream_right.f @coder_NewDecoder.f @model_New.f @stream_unpacker_next.f @stream_Pack.f @bytes_Equal.f N y0 y0n y0c y2 y8 y9 y9n y9c y29 y30 w K
theorem stream_Unpack.lok8 : LoopOk Try.prog stream_Unpack.L stream_Unpack.b0 := by
  refine loop_ok tab_ok stream_Unpack.C_ok (D := stream_Unpack.D) (stream_Unpack.hn8) (stream_Unpack.hx8) (by kernel_rfl) (by rw [stream_Unpack.b0_loops]; exact lnil) ?_ ?_ ?_ ?_
  · intro f w K h
    unfold stream_Unpack.hn8 at h
    obtain ⟨hlen, h⟩ := gN_ok h
    obtain ⟨y0, y0n, y0c, h0, h⟩ := gL_ok h
    obtain ⟨y2, h2, h⟩ := gI_ok h
    obtain ⟨y8, h8, h⟩ := gQ_ok h
    obtain ⟨y9, y9n, y9c, h9, h⟩ := gL_ok h
    obtain ⟨y29, h29, h⟩ := gI_ok h
    obtain ⟨y30, h30, h⟩ := gI_ok h
    exact h
  · intro N f w K h
    unfold stream_Unpack.hn8 at h
    obtain ⟨hlen, h⟩ := gN_ok h
    obtain ⟨y0, y0n, y0c, h0, h⟩ := gL_ok h
    obtain ⟨y2, h2, h⟩ := gI_ok h
    obtain ⟨y8, h8, h⟩ := gQ_ok h
    obtain ⟨y9, y9n, y9c, h9, h⟩ := gL_ok h
    obtain ⟨y29, h29, h⟩ := gI_ok h
    obtain ⟨y30, h30, h⟩ := gI_ok h
    refine ⟨[some (Value.slice y0 y0n y0c), none, some (Value.int .i64 y2), none, none, none, none, none, some (Value.pointer (some y8)), some (Value.slice y9 y9n y9c), none, none, none, none, none, none, none, none, none, none, none, none, none, none, none, none, none, none, none, some (Value.int .i64 y29), some (Value.int .i64 y30), none, none, none, none, none, none, none, none, none, none, none, none, none, none, none, none, none, none, none, none, none, none], hlen, ⟨h0, h2, h8, h9, h29, h30, trivial⟩, ?_⟩
    rw [stream_Unpack.le8]
    exact h
  · intro e f w K h
    cases e with
    | normal => exact h.elim
    | exit i =>
      unfold stream_Unpack.hx8 at h
      simp only at h
      split at h
      · rename_i hb
        obtain rfl := Nat.eq_of_beq_eq_true hb
        obtain ⟨hlen, h⟩ := gN_ok h
        obtain ⟨o0, o0n, o0c, h0, h⟩ := gL_ok h
        obtain ⟨o2, h2, h⟩ := gI_ok h
        obtain ⟨o9, o9n, o9c, h9, h⟩ := gL_ok h
        exact ⟨[some (Value.slice o0 o0n o0c), none, some (Value.int .i64 o2), none, none, none, none, none, none, some (Value.slice o9 o9n o9c), none, none, none, none, none, none, none, none, none, none, none, none, none, none, none, none, none, none, none, none, none, none, none, none, none, none, none, none, none, none, none, none, none, none, none, none, none, none, none, none, none, none, none], hlen, ⟨h0, h2, h9, trivial⟩, h⟩
      · exact (show False from h).elim
    | ret =>
      exact (show False from h).elim
  · intro f w K h
    have e : lid stream_Unpack.b0 = 8 := by kernel_rfl
    rw [e] at h
    exact h
theorem stream_Unpack.eqG (F61 : type_of% @stream_right.f) (F69 : type_of% @coder_NewDecoder.f) (F24 : type_of% @model_New.f) (F70 : type_of% @stream_unpacker_next.f) (F33 : type_of% @stream_Pack.f) (F71 : type_of% @bytes_Equal.f) (a0 : Option Addr) (a0n : Nat) (a0c : Nat) (a1 : Int) (a2 : Int) (w : World) (K : Value → World → Prop) : afn (stream_Unpack.CG F61 F69 F24 F70 F33 F71) stream_Unpack.L stream_Unpack.D tab Try.f37 [(Value.slice a0 a0n a0c), (Value.int .i64 a1), (Value.int .i64 a2)] w K = stream_Unpack.G F61 F69 F24 F70 F33 F71 a0 a0n a0c a1 a2 w (fun r0 r0n r0c r1 w => K (Value.tuple #[(Value.slice r0 r0n r0c), (Value.int .i64 r1)]) w) := by kernel_rfl
theorem stream_Unpack.eq (a0 : Option Addr) (a0n : Nat) (a0c : Nat) (a1 : Int) (a2 : Int) (w : World) (K : Value → World → Prop) : afn stream_Unpack.C stream_Unpack.L stream_Unpack.D tab Try.f37 [(Value.slice a0 a0n a0c), (Value.int .i64 a1), (Value.int .i64 a2)] w K = stream_Unpack.f a0 a0n a0c a1 a2 w (fun r0 r0n r0c r1 w => K (Value.tuple #[(Value.slice r0 r0n r0c), (Value.int .i64 r1)]) w) := stream_Unpack.eqG @stream_right.f @coder_NewDecoder.f @model_New.f @stream_unpacker_next.f @stream_Pack.f @bytes_Equal.f a0 a0n a0c a1 a2 w K
theorem stream_Unpack.ok : FSound Try.prog 37 stream_Unpack.h := by
  intro args w K h
  unfold stream_Unpack.h stream_Unpack.H at h
  split at h
  ·
    replace h := vL_ok h
    obtain ⟨a0, a0n, a0c, rfl, h⟩ := h
    replace h := vI_ok h
    obtain ⟨a1, rfl, h⟩ := h
    replace h := vI_ok h
    obtain ⟨a2, rfl, h⟩ := h
    refine ⟨by kernel_rfl, fn_ok tab_ok stream_Unpack.C_ok (L := stream_Unpack.L) (D := stream_Unpack.D) Try.func37 stream_Unpack.hb (by kernel_rfl) (by rw [stream_Unpack.c_loops]; exact lcons stream_Unpack.lok8 (lnil)) (Nat.le_of_ble_eq_true (by kernel_rfl)) ?_⟩
    rw [stream_Unpack.eq]
    exact h
  · exact h.elim
/-! ### (*valise/valiseref04.Decoder).take: function 91 -/
def ref04_Decoder_take.f (a0 : Option Addr) (w : World) (K : World → Prop) : Prop :=
  let J_22 := fun (j2_14 : Int) (w : World) =>
    ((sm a0 fun p_16 =>
    ldI .i64 (p_16.add 4) w fun x26_17 =>
    sm a0 fun p_18 =>
    stC (p_18.add 4) (Value.int .i64 (IntKind.wrap .i64 (x26_17 + 1))) w fun w =>
    sm a0 fun p_19 =>
    ldI .u32 (p_19.add 2) w fun x34_20 =>
    sm a0 fun p_21 =>
    stC (p_21.add 2) (Value.int .u32 (bor .u32 (shl .u32 x34_20 8) (IntKind.wrap .u32 j2_14))) w fun w =>
    K w) : Prop)
  sm a0 fun p_4 =>
  ldI .i64 (p_4.add 4) w.drew fun x6_5 =>
  sm a0 fun p_6 =>
  ldL (p_6.add 3) w.drew fun x10_7 x10_7n x10_7c =>
  bif (decide (x6_5 < ((x10_7n : Nat) : Int))) then
    sm a0 fun p_8 =>
    ldL (p_8.add 3) w.drew.drew fun x16_9 x16_9n x16_9c =>
    sm a0 fun p_10 =>
    ldI .i64 (p_10.add 4) w.drew.drew fun x20_11 =>
    sm x16_9 fun p_12 =>
    if 0 ≤ (x20_11 : Int) ∧ (x20_11 : Int) < ((x16_9n : Nat) : Int) then
    ldI .u8 (p_12.add (Int.toNat x20_11)) w.drew.drew fun x22_13 =>
    J_22 x22_13 w.drew.drew
    else False
  else
    J_22 0 w.drew
def ref04_Decoder_take.H (F : type_of% @ref04_Decoder_take.f) : Hf := fun args w K => match args with
  | [v0] => vP v0 fun a0 => F a0 w (fun w => K (Value.tuple #[]) w)
  | _ => False
def ref04_Decoder_take.h : Hf := ref04_Decoder_take.H @ref04_Decoder_take.f
def ref04_Decoder_take.C : Hd := hnil
theorem ref04_Decoder_take.C_ok : CSound Try.prog ref04_Decoder_take.C := hnil_ok
def ref04_Decoder_take.D : Nat → Plan := fun i => (match Nat.beq i 2 with | true => .take 0 (.take 1 (.take 2 (.take 3 (.take 4 (.take 5 (.take 6 (.take 7 (.take 8 (.take 9 (.take 10 (.done))))))))))) | false => (match Nat.beq i 1 with | true => .take 0 (.take 1 (.take 2 (.take 3 (.take 4 (.take 5 (.take 6 (.take 7 (.take 8 (.take 9 (.done)))))))))) | false => .done))
noncomputable def ref04_Decoder_take.c : Code := Try.f91.body.getD .skip
theorem ref04_Decoder_take.hb : Try.f91.body = some ref04_Decoder_take.c := by kernel_rfl
theorem ref04_Decoder_take.c_loops : loopsOf ref04_Decoder_take.c = [] := by kernel_rfl
def ref04_Decoder_take.L : LHd := fun l f w K => False
theorem ref04_Decoder_take.eq (a0 : Option Addr) (w : World) (K : Value → World → Prop) : afn ref04_Decoder_take.C ref04_Decoder_take.L ref04_Decoder_take.D tab Try.f91 [(Value.pointer a0)] w K = ref04_Decoder_take.f a0 w (fun w => K (Value.tuple #[]) w) := by kernel_rfl
theorem ref04_Decoder_take.ok : FSound Try.prog 91 ref04_Decoder_take.h := by
  intro args w K h
  unfold ref04_Decoder_take.h ref04_Decoder_take.H at h
  split at h
  ·
    replace h := vP_ok h
    obtain ⟨a0, rfl, h⟩ := h
    refine ⟨by kernel_rfl, fn_ok tab_ok ref04_Decoder_take.C_ok (L := ref04_Decoder_take.L) (D := ref04_Decoder_take.D) Try.func91 ref04_Decoder_take.hb (by kernel_rfl) (by rw [ref04_Decoder_take.c_loops]; exact lnil) (Nat.le_of_ble_eq_true (by kernel_rfl)) ?_⟩
    rw [ref04_Decoder_take.eq]
    exact h
  · exact h.elim
/-! ### valise/valiseref04.NewDecoder: function 72 -/
def ref04_NewDecoder.l3 : Nat → Addr → Int → World → (Addr → World → Prop) → Prop
  | 0, _, _, _, _ => False
  | N + 1, y3, y4, w, K0 =>
    bif (decide (y4 < 4)) then
      ref04_Decoder_take.f (some y3) w fun w =>
      let v4_11 := (IntKind.wrap .i64 (y4 + 1))
      ref04_NewDecoder.l3 N y3 v4_11 w K0
    else
      K0 y3 w

def ref04_NewDecoder.f (a0 : Option Addr) (a0n : Nat) (a0c : Nat) (w : World) (K : Option Addr → World → Prop) : Prop :=
  ref04_full.f  w fun r5_3_0 r5_3_1 w =>
  appL 5 1 1 [(Value.int .u8 0)] none 0 0 a0 a0n a0c w fun a7_4 a7_4n a7_4c w =>
  newC 143 [(Value.int .u32 r5_3_0), (Value.int .u32 r5_3_1), (Value.int .u32 0), (Value.slice a7_4 a7_4n a7_4c), (Value.int .i64 0)] w fun a9_5 w =>
  ∃ N_12 : Nat, ref04_NewDecoder.l3 N_12 a9_5 0 w
  (fun o3_13 w =>
    K (some o3_13) w)
def ref04_NewDecoder.H (F : type_of% @ref04_NewDecoder.f) : Hf := fun args w K => match args with
  | [v0] => vL v0 fun a0 a0n a0c => F a0 a0n a0c w (fun r0 w => K (Value.pointer r0) w)
  | _ => False
def ref04_NewDecoder.h : Hf := ref04_NewDecoder.H @ref04_NewDecoder.f
def ref04_NewDecoder.C : Hd := hcons 91 ref04_Decoder_take.h (hcons 83 ref04_full.h (hnil))
theorem ref04_NewDecoder.C_ok : CSound Try.prog ref04_NewDecoder.C := hcons_ok ref04_Decoder_take.ok (hcons_ok ref04_full.ok (hnil_ok))
def ref04_NewDecoder.D : Nat → Plan := fun i => .done
noncomputable def ref04_NewDecoder.c : Code := Try.f72.body.getD .skip
theorem ref04_NewDecoder.hb : Try.f72.body = some ref04_NewDecoder.c := by kernel_rfl
noncomputable def ref04_NewDecoder.b0 : Code := (loopsOf ref04_NewDecoder.c).getD 0 .skip
theorem ref04_NewDecoder.b0_loops : loopsOf ref04_NewDecoder.b0 = [] := by kernel_rfl
theorem ref04_NewDecoder.c_loops : loopsOf ref04_NewDecoder.c = [ref04_NewDecoder.b0] := by kernel_rfl
def ref04_NewDecoder.hn3 (N : Nat) (f : Fr) (w : World) (K : AExit → Fr → World → Prop) : Prop :=
  gN f 17 <| gQ f 3 fun y3 => gI .i64 f 4 fun y4 => ref04_NewDecoder.l3 N y3 y4 w (fun o3 w => K (.exit 0) [none, none, none, some (Value.pointer (some o3)), none, none, none, none, none, none, none, none, none, none, none, none, none] w)
def ref04_NewDecoder.hx3 : AExit → Fr → World → (AExit → Fr → World → Prop) → Prop := fun e f w K => match e with
  | .normal => False
  | .exit i => (match Nat.beq i 0 with | true => gN f 17 <| gQ f 3 fun o3 => K (.exit 0) [none, none, none, some (Value.pointer (some o3)), none, none, none, none, none, none, none, none, none, none, none, none, none] w | false => False)
  | .ret => False
def ref04_NewDecoder.L : LHd := fun l f w K => (match Nat.beq l 3 with | true => ∃ N, ref04_NewDecoder.hn3 N f w K | false => False)
theorem ref04_NewDecoder.le3 (N : Nat) (y3 : Addr) (y4 : Int) (w : World) (K : AExit → Fr → World → Prop) : awp ref04_NewDecoder.C ref04_NewDecoder.L ref04_NewDecoder.D tab ref04_NewDecoder.b0 (lpost ref04_NewDecoder.hn3 ref04_NewDecoder.hx3 N K) [none, none, none, some (Value.pointer (some y3)), some (Value.int .i64 y4), none, none, none, none, none, none, none, none, none, none, none, none] w = ref04_NewDecoder.l3 (N + 1) y3 y4 w (fun o3 w => K (.exit 0) [none, none, none, some (Value.pointer (some o3)), none, none, none, none, none, none, none, none, none, none, none, none, none] w) := by kernel_rfl
theorem ref04_NewDecoder.lok3 : LoopOk Try.prog ref04_NewDecoder.L ref04_NewDecoder.b0 := by
  refine loop_ok tab_ok ref04_NewDecoder.C_ok (D := ref04_NewDecoder.D) (ref04_NewDecoder.hn3) (ref04_NewDecoder.hx3) (by kernel_rfl) (by rw [ref04_NewDecoder.b0_loops]; exact lnil) ?_ ?_ ?_ ?_
  · intro f w K h
    unfold ref04_NewDecoder.hn3 at h
    obtain ⟨hlen, h⟩ := gN_ok h
    obtain ⟨y3, h3, h⟩ := gQ_ok h
    obtain ⟨y4, h4, h⟩ := gI_ok h
    exact h
  · intro N f w K h
    unfold ref04_NewDecoder.hn3 at h
    obtain ⟨hlen, h⟩ := gN_ok h
    obtain ⟨y3, h3, h⟩ := gQ_ok h
    obtain ⟨y4, h4, h⟩ := gI_ok h
    refine ⟨[none, none, none, some (Value.pointer (some y3)), some (Value.int .i64 y4), none, none, none, none, none, none, none, none, none, none, none, none], hlen, ⟨h3, h4, trivial⟩, ?_⟩
    rw [ref04_NewDecoder.le3]
    exact h
  · intro e f w K h
    cases e with
    | normal => exact h.elim
    | exit i =>
      unfold ref04_NewDecoder.hx3 at h
      simp only at h
      split at h
      · rename_i hb
        obtain rfl := Nat.eq_of_beq_eq_true hb
        obtain ⟨hlen, h⟩ := gN_ok h
        obtain ⟨o3, h3, h⟩ := gQ_ok h
        exact ⟨[none, none, none, some (Value.pointer (some o3)), none, none, none, none, none, none, none, none, none, none, none, none, none], hlen, ⟨h3, trivial⟩, h⟩
      · exact (show False from h).elim
    | ret =>
      exact (show False from h).elim
  · intro f w K h
    have e : lid ref04_NewDecoder.b0 = 3 := by kernel_rfl
    rw [e] at h
    exact h
theorem ref04_NewDecoder.eq (a0 : Option Addr) (a0n : Nat) (a0c : Nat) (w : World) (K : Value → World → Prop) : afn ref04_NewDecoder.C ref04_NewDecoder.L ref04_NewDecoder.D tab Try.f72 [(Value.slice a0 a0n a0c)] w K = ref04_NewDecoder.f a0 a0n a0c w (fun r0 w => K (Value.pointer r0) w) := by kernel_rfl
theorem ref04_NewDecoder.ok : FSound Try.prog 72 ref04_NewDecoder.h := by
  intro args w K h
  unfold ref04_NewDecoder.h ref04_NewDecoder.H at h
  split at h
  ·
    replace h := vL_ok h
    obtain ⟨a0, a0n, a0c, rfl, h⟩ := h
    refine ⟨by kernel_rfl, fn_ok tab_ok ref04_NewDecoder.C_ok (L := ref04_NewDecoder.L) (D := ref04_NewDecoder.D) Try.func72 ref04_NewDecoder.hb (by kernel_rfl) (by rw [ref04_NewDecoder.c_loops]; exact lcons ref04_NewDecoder.lok3 (lnil)) (Nat.le_of_ble_eq_true (by kernel_rfl)) ?_⟩
    rw [ref04_NewDecoder.eq]
    exact h
  · exact h.elim
/-! ### (*valise/valiseref04.Decoder).Decode: function 73 -/
def ref04_Decoder_Decode.l5 : Nat → Option Addr → Int → World → (Int → World → Prop) → Prop
  | 0, _, _, _, _ => False
  | N + 1, y0, y5, w, K0 =>
    sm y0 fun p_21 =>
    ldI .u32 (p_21.add 0) w fun x30_22 =>
    ldI .u32 (p_21.add 1) w fun x30_23 =>
    ref04_Range_out.f x30_22 x30_23 w fun r31_24 w =>
    bif r31_24 then
      sm y0 fun p_26 =>
      ldI .u32 (p_26.add 0) w fun x36_27 =>
      ldI .u32 (p_26.add 1) w fun x36_28 =>
      ref04_Range_next.f x36_27 x36_28 w fun r37_29_0 r37_29_1 w =>
      sm y0 fun p_30 =>
      stCs p_30 [(Value.int .u32 r37_29_0), (Value.int .u32 r37_29_1)] 0 w fun w =>
      ref04_Decoder_take.f y0 w fun w =>
      ref04_Decoder_Decode.l5 N y0 y5 w K0
    else
      K0 y5 w

def ref04_Decoder_Decode.f (a0 : Option Addr) (a1 : Int) (w : World) (K : Int → World → Prop) : Prop :=
  let J_34 := fun (j5_11 : Int) (w : World) =>
    ((sm a0 fun p_13 =>
    ldI .u32 (p_13.add 0) w fun x21_14 =>
    ldI .u32 (p_13.add 1) w fun x21_15 =>
    ref04_Range_cut.f x21_14 x21_15 j5_11 a1 w fun r24_16_0 r24_16_1 w =>
    sm a0 fun p_17 =>
    stCs p_17 [(Value.int .u32 r24_16_0), (Value.int .u32 r24_16_1)] 0 w fun w =>
    ∃ N_31 : Nat, ref04_Decoder_Decode.l5 N_31 a0 j5_11 w
    (fun o5_32 w =>
      K o5_32 w)) : Prop)
  sm a0 fun p_5 =>
  ldI .u32 (p_5.add 2) w.drew fun x9_6 =>
  sm a0 fun p_7 =>
  ldI .u32 (p_7.add 0) w.drew fun x13_8 =>
  ldI .u32 (p_7.add 1) w.drew fun x13_9 =>
  ref04_Range_Mid.f x13_8 x13_9 a1 w.drew fun r15_10 w =>
  (World.cell? w (p_5.add 2) = some (.int .u32 x9_6)) ∧
  (bif (decide (x9_6 ≤ r15_10)) then
    J_34 1 w
  else
    J_34 0 w)
def ref04_Decoder_Decode.H (F : type_of% @ref04_Decoder_Decode.f) : Hf := fun args w K => match args with
  | [v0, v1] => vP v0 fun a0 => vI .i64 v1 fun a1 => F a0 a1 w (fun r0 w => K (Value.int .i64 r0) w)
  | _ => False
def ref04_Decoder_Decode.h : Hf := ref04_Decoder_Decode.H @ref04_Decoder_Decode.f
def ref04_Decoder_Decode.CG (F92 : type_of% @ref04_Range_Mid.f) (F84 : type_of% @ref04_Range_cut.f) (F85 : type_of% @ref04_Range_out.f) (F86 : type_of% @ref04_Range_next.f) (F91 : type_of% @ref04_Decoder_take.f) : Hd := hcons 91 (ref04_Decoder_take.H F91) (hcons 86 (ref04_Range_next.H F86) (hcons 85 (ref04_Range_out.H F85) (hcons 84 (ref04_Range_cut.H F84) (hcons 92 (ref04_Range_Mid.H F92) (hnil)))))
def ref04_Decoder_Decode.C : Hd := ref04_Decoder_Decode.CG @ref04_Range_Mid.f @ref04_Range_cut.f @ref04_Range_out.f @ref04_Range_next.f @ref04_Decoder_take.f
def ref04_Decoder_Decode.G (F92 : type_of% @ref04_Range_Mid.f) (F84 : type_of% @ref04_Range_cut.f) (F85 : type_of% @ref04_Range_out.f) (F86 : type_of% @ref04_Range_next.f) (F91 : type_of% @ref04_Decoder_take.f) (a0 : Option Addr) (a1 : Int) (w : World) (K : Int → World → Prop) : Prop :=
  let J_34 := fun (j5_11 : Int) (w : World) =>
    ((sm a0 fun p_13 =>
    ldI .u32 (p_13.add 0) w fun x21_14 =>
    ldI .u32 (p_13.add 1) w fun x21_15 =>
    F84 x21_14 x21_15 j5_11 a1 w fun r24_16_0 r24_16_1 w =>
    sm a0 fun p_17 =>
    stCs p_17 [(Value.int .u32 r24_16_0), (Value.int .u32 r24_16_1)] 0 w fun w =>
    ∃ N_31 : Nat, ref04_Decoder_Decode.l5 N_31 a0 j5_11 w
    (fun o5_32 w =>
      K o5_32 w)) : Prop)
  sm a0 fun p_5 =>
  ldI .u32 (p_5.add 2) w.drew fun x9_6 =>
  sm a0 fun p_7 =>
  ldI .u32 (p_7.add 0) w.drew fun x13_8 =>
  ldI .u32 (p_7.add 1) w.drew fun x13_9 =>
  F92 x13_8 x13_9 a1 w.drew fun r15_10 w =>
  (World.cell? w (p_5.add 2) = some (.int .u32 x9_6)) ∧
  (bif (decide (x9_6 ≤ r15_10)) then
    J_34 1 w
  else
    J_34 0 w)
theorem ref04_Decoder_Decode.C_ok : CSound Try.prog ref04_Decoder_Decode.C := hcons_ok ref04_Decoder_take.ok (hcons_ok ref04_Range_next.ok (hcons_ok ref04_Range_out.ok (hcons_ok ref04_Range_cut.ok (hcons_ok ref04_Range_Mid.ok (hnil_ok)))))
def ref04_Decoder_Decode.D : Nat → Plan := fun i => (match Nat.beq i 2 with | true => .take 0 (.take 1 (.take 2 (.take 3 (.take 4 (.take 5 (.take 6 (.take 7 (.take 8 (.eff 9 (.take 10 (.done))))))))))) | false => .done)
noncomputable def ref04_Decoder_Decode.c : Code := Try.f73.body.getD .skip
theorem ref04_Decoder_Decode.hb : Try.f73.body = some ref04_Decoder_Decode.c := by kernel_rfl
noncomputable def ref04_Decoder_Decode.b0 : Code := (loopsOf ref04_Decoder_Decode.c).getD 0 .skip
theorem ref04_Decoder_Decode.b0_loops : loopsOf ref04_Decoder_Decode.b0 = [] := by kernel_rfl
theorem ref04_Decoder_Decode.c_loops : loopsOf ref04_Decoder_Decode.c = [ref04_Decoder_Decode.b0] := by kernel_rfl
def ref04_Decoder_Decode.l5G (F92 : type_of% @ref04_Range_Mid.f) (F84 : type_of% @ref04_Range_cut.f) (F85 : type_of% @ref04_Range_out.f) (F86 : type_of% @ref04_Range_next.f) (F91 : type_of% @ref04_Decoder_take.f) (R : Option Addr → Int → World → (Int → World → Prop) → Prop) : Option Addr → Int → World → (Int → World → Prop) → Prop := fun y0 y5 w K0 =>
    sm y0 fun p_21 =>
    ldI .u32 (p_21.add 0) w fun x30_22 =>
    ldI .u32 (p_21.add 1) w fun x30_23 =>
    F85 x30_22 x30_23 w fun r31_24 w =>
    bif r31_24 then
      sm y0 fun p_26 =>
      ldI .u32 (p_26.add 0) w fun x36_27 =>
      ldI .u32 (p_26.add 1) w fun x36_28 =>
      F86 x36_27 x36_28 w fun r37_29_0 r37_29_1 w =>
      sm y0 fun p_30 =>
      stCs p_30 [(Value.int .u32 r37_29_0), (Value.int .u32 r37_29_1)] 0 w fun w =>
      F91 y0 w fun w =>
      R y0 y5 w K0
    else
      K0 y5 w

def ref04_Decoder_Decode.hn5 (N : Nat) (f : Fr) (w : World) (K : AExit → Fr → World → Prop) : Prop :=
  gN f 43 <| gP f 0 fun y0 => gI .i64 f 5 fun y5 => ref04_Decoder_Decode.l5 N y0 y5 w (fun o5 w => K (.exit 0) [none, none, none, none, none, some (Value.int .i64 o5), none, none, none, none, none, none, none, none, none, none, none, none, none, none, none, none, none, none, none, none, none, none, none, none, none, none, none, none, none, none, none, none, none, none, none, none, none] w)
def ref04_Decoder_Decode.hx5 : AExit → Fr → World → (AExit → Fr → World → Prop) → Prop := fun e f w K => match e with
  | .normal => False
  | .exit i => (match Nat.beq i 0 with | true => gN f 43 <| gI .i64 f 5 fun o5 => K (.exit 0) [none, none, none, none, none, some (Value.int .i64 o5), none, none, none, none, none, none, none, none, none, none, none, none, none, none, none, none, none, none, none, none, none, none, none, none, none, none, none, none, none, none, none, none, none, none, none, none, none] w | false => False)
  | .ret => False
def ref04_Decoder_Decode.L : LHd := fun l f w K => (match Nat.beq l 5 with | true => ∃ N, ref04_Decoder_Decode.hn5 N f w K | false => False)
theorem ref04_Decoder_Decode.leG5 (F92 : type_of% @ref04_Range_Mid.f) (F84 : type_of% @ref04_Range_cut.f) (F85 : type_of% @ref04_Range_out.f) (F86 : type_of% @ref04_Range_next.f) (F91 : type_of% @ref04_Decoder_take.f) (N : Nat) (y0 : Option Addr) (y5 : Int) (w : World) (K : AExit → Fr → World → Prop) : awp (ref04_Decoder_Decode.CG F92 F84 F85 F86 F91) ref04_Decoder_Decode.L ref04_Decoder_Decode.D tab ref04_Decoder_Decode.b0 (lpost ref04_Decoder_Decode.hn5 ref04_Decoder_Decode.hx5 N K) [some (Value.pointer y0), none, none, none, none, some (Value.int .i64 y5), none, none, none, none, none, none, none, none, none, none, none, none, none, none, none, none, none, none, none, none, none, none, none, none, none, none, none, none, none, none, none, none, none, none, none, none, none] w = ref04_Decoder_Decode.l5G F92 F84 F85 F86 F91 (ref04_Decoder_Decode.l5 N) y0 y5 w (fun o5 w => K (.exit 0) [none, none, none, none, none, some (Value.int .i64 o5), none, none, none, none, none, none, none, none, none, none, none, none, none, none, none, none, none, none, none, none, none, none, none, none, none, none, none, none, none, none, none, none, none, none, none, none, none] w) := by kernel_rfl
theorem ref04_Decoder_Decode.les5 (N : Nat) : ref04_Decoder_Decode.l5 (N + 1) = ref04_Decoder_Decode.l5G @ref04_Range_Mid.f @ref04_Range_cut.f @ref04_Range_out.f @ref04_Range_next.f @ref04_Decoder_take.f (ref04_Decoder_Decode.l5 N) := by kernel_rfl
theorem ref04_Decoder_Decode.le5 (N : Nat) (y0 : Option Addr) (y5 : Int) (w : World) (K : AExit → Fr → World → Prop) : awp ref04_Decoder_Decode.C ref04_Decoder_Decode.L ref04_Decoder_Decode.D tab ref04_Decoder_Decode.b0 (lpost ref04_Decoder_Decode.hn5 ref04_Decoder_Decode.hx5 N K) [some (Value.pointer y0), none, none, none, none, some (Value.int .i64 y5), none, none, none, none, none, none, none, none, none, none, none, none, none, none, none, none, none, none, none, none, none, none, none, none, none, none, none, none, none, none, none, none, none, none, none, none, none] w = ref04_Decoder_Decode.l5 (N + 1) y0 y5 w (fun o5 w => K (.exit 0) [none, none, none, none, none, some (Value.int .i64 o5), none, none, none, none, none, none, none, none, none, none, none, none, none, none, none, none, none, none, none, none, none, none, none, none, none, none, none, none, none, none, none, none, none, none, none, none, none] w) := by
  rw [ref04_Decoder_Decode.les5]
  exact ref04_Decoder_Decode.leG5 @ref04_Range_Mid.f @ref04_Range_cut.f @ref04_Range_out.f @ref04_Range_next.f @ref04_Decoder_take.f N y0 y5 w K
theorem ref04_Decoder_Decode.lok5 : LoopOk Try.prog ref04_Decoder_Decode.L ref04_Decoder_Decode.b0 := by
  refine loop_ok tab_ok ref04_Decoder_Decode.C_ok (D := ref04_Decoder_Decode.D) (ref04_Decoder_Decode.hn5) (ref04_Decoder_Decode.hx5) (by kernel_rfl) (by rw [ref04_Decoder_Decode.b0_loops]; exact lnil) ?_ ?_ ?_ ?_
  · intro f w K h
    unfold ref04_Decoder_Decode.hn5 at h
    obtain ⟨hlen, h⟩ := gN_ok h
    obtain ⟨y0, h0, h⟩ := gP_ok h
    obtain ⟨y5, h5, h⟩ := gI_ok h
    exact h
  · intro N f w K h
    unfold ref04_Decoder_Decode.hn5 at h
    obtain ⟨hlen, h⟩ := gN_ok h
    obtain ⟨y0, h0, h⟩ := gP_ok h
    obtain ⟨y5, h5, h⟩ := gI_ok h
    refine ⟨[some (Value.pointer y0), none, none, none, none, some (Value.int .i64 y5), none, none, none, none, none, none, none, none, none, none, none, none, none, none, none, none, none, none, none, none, none, none, none, none, none, none, none, none, none, none, none, none, none, none, none, none, none], hlen, ⟨h0, h5, trivial⟩, ?_⟩
    rw [ref04_Decoder_Decode.le5]
    exact h
  · intro e f w K h
    cases e with
    | normal => exact h.elim
    | exit i =>
      unfold ref04_Decoder_Decode.hx5 at h
      simp only at h
      split at h
      · rename_i hb
        obtain rfl := Nat.eq_of_beq_eq_true hb
        obtain ⟨hlen, h⟩ := gN_ok h
        obtain ⟨o5, h5, h⟩ := gI_ok h
        exact ⟨[none, none, none, none, none, some (Value.int .i64 o5), none, none, none, none, none, none, none, none, none, none, none, none, none, none, none, none, none, none, none, none, none, none, none, none, none, none, none, none, none, none, none, none, none, none, none, none, none], hlen, ⟨h5, trivial⟩, h⟩
      · exact (show False from h).elim
    | ret =>
      exact (show False from h).elim
  · intro f w K h
    have e : lid ref04_Decoder_Decode.b0 = 5 := by kernel_rfl
    rw [e] at h
    exact h
theorem ref04_Decoder_Decode.eqG (F92 : type_of% @ref04_Range_Mid.f) (F84 : type_of% @ref04_Range_cut.f) (F85 : type_of% @ref04_Range_out.f) (F86 : type_of% @ref04_Range_next.f) (F91 : type_of% @ref04_Decoder_take.f) (a0 : Option Addr) (a1 : Int) (w : World) (K : Value → World → Prop) : afn (ref04_Decoder_Decode.CG F92 F84 F85 F86 F91) ref04_Decoder_Decode.L ref04_Decoder_Decode.D tab Try.f73 [(Value.pointer a0), (Value.int .i64 a1)] w K = ref04_Decoder_Decode.G F92 F84 F85 F86 F91 a0 a1 w (fun r0 w => K (Value.int .i64 r0) w) := by kernel_rfl
theorem ref04_Decoder_Decode.eq (a0 : Option Addr) (a1 : Int) (w : World) (K : Value → World → Prop) : afn ref04_Decoder_Decode.C ref04_Decoder_Decode.L ref04_Decoder_Decode.D tab Try.f73 [(Value.pointer a0), (Value.int .i64 a1)] w K = ref04_Decoder_Decode.f a0 a1 w (fun r0 w => K (Value.int .i64 r0) w) := ref04_Decoder_Decode.eqG @ref04_Range_Mid.f @ref04_Range_cut.f @ref04_Range_out.f @ref04_Range_next.f @ref04_Decoder_take.f a0 a1 w K
theorem ref04_Decoder_Decode.ok : FSound Try.prog 73 ref04_Decoder_Decode.h := by
  intro args w K h
  unfold ref04_Decoder_Decode.h ref04_Decoder_Decode.H at h
  split at h
  ·
    replace h := vP_ok h
    obtain ⟨a0, rfl, h⟩ := h
    replace h := vI_ok h
    obtain ⟨a1, rfl, h⟩ := h
    refine ⟨by kernel_rfl, fn_ok tab_ok ref04_Decoder_Decode.C_ok (L := ref04_Decoder_Decode.L) (D := ref04_Decoder_Decode.D) Try.func73 ref04_Decoder_Decode.hb (by kernel_rfl) (by rw [ref04_Decoder_Decode.c_loops]; exact lcons ref04_Decoder_Decode.lok5 (lnil)) (Nat.le_of_ble_eq_true (by kernel_rfl)) ?_⟩
    rw [ref04_Decoder_Decode.eq]
    exact h
  · exact h.elim
/-! ### valise/valiseref09.Unpack: function 38 -/
def ref09_Unpack.l12 : Nat → Option Addr → Nat → Nat → Int → Int → Option Addr → Option Addr → Option Addr → Nat → Nat → Int → Int → Int → World → (Option Addr → Nat → Nat → Int → Int → Option Addr → Option Addr → Option Addr → Nat → Nat → Int → Int → World → Prop) → Prop
  | 0, _, _, _, _, _, _, _, _, _, _, _, _, _, _, _ => False
  | N + 1, y0, y0n, y0c, y1, y2, y8, y9, y10, y10n, y10c, y11, y12, y13, w, K2 =>
    bif (decide (y13 < 8)) then
      ref08_Model_Chance.f y9 w fun r44_26 w =>
      ref04_Decoder_Decode.f y8 r44_26 w fun r45_27 w =>
      ref08_Model_Learn.f y9 r45_27 w fun w =>
      let v12_29 := (bor .u8 (shl .u8 y12 1) (IntKind.wrap .u8 r45_27))
      let v13_30 := (IntKind.wrap .i64 (y13 + 1))
      ref09_Unpack.l12 N y0 y0n y0c y1 y2 y8 y9 y10 y10n y10c y11 v12_29 v13_30 w K2
    else
      K2 y0 y0n y0c y1 y2 y8 y9 y10 y10n y10c y11 y12 w

def ref09_Unpack.l8 : Nat → Option Addr → Nat → Nat → Int → Int → Option Addr → Option Addr → Option Addr → Nat → Nat → Int → World → (Option Addr → Nat → Nat → Int → Option Addr → Nat → Nat → World → Prop) → Prop
  | 0, _, _, _, _, _, _, _, _, _, _, _, _, _ => False
  | N + 1, y0, y0n, y0c, y1, y2, y8, y9, y10, y10n, y10c, y11, w, K0 =>
    bif (decide (y11 < y1)) then
      ∃ N_31 : Nat, ref09_Unpack.l12 N_31 y0 y0n y0c y1 y2 y8 y9 y10 y10n y10c y11 0 0 w
      (fun o0_32 o0_32n o0_32c o1_33 o2_34 o8_35 o9_36 o10_37 o10_37n o10_37c o11_38 o12_39 w =>
        newC 5 [(Value.int .u8 o12_39)] w fun a56_40 w =>
        appL 5 1 1 [(Value.int .u8 0)] o10_37 o10_37n o10_37c (some a56_40) 1 1 w fun a57_41 a57_41n a57_41c w =>
        let v11_42 := (IntKind.wrap .i64 (o11_38 + 1))
        ref09_Unpack.l8 N o0_32 o0_32n o0_32c o1_33 o2_34 o8_35 o9_36 a57_41 a57_41n a57_41c v11_42 w K0)
    else
      K0 y0 y0n y0c y2 y10 y10n y10c w

def ref09_Unpack.f (a0 : Option Addr) (a0n : Nat) (a0c : Nat) (a1 : Int) (a2 : Int) (w : World) (K : Option Addr → Nat → Nat → Int → World → Prop) : Prop :=
  bif (decide (a2 < 0)) then
    K none 0 0 1 w
  else
    bif (decide (a2 > 2)) then
      K none 0 0 1 w
    else
      bif (decide (a1 < 0)) then
        K none 0 0 1 w
      else
        bif (decide (a1 > 1048576)) then
          K none 0 0 5 w
        else
          ref04_NewDecoder.f a0 a0n a0c w fun r30_11 w =>
          ref08_New.f a2 w fun r32_12 w =>
          ∃ N_43 : Nat, ref09_Unpack.l8 N_43 a0 a0n a0c a1 a2 r30_11 r32_12 none 0 0 0 w
          (fun o0_44 o0_44n o0_44c o2_45 o10_46 o10_46n o10_46c w =>
            ref09_Pack.f o10_46 o10_46n o10_46c o2_45 w fun r61_48 r61_48n r61_48c r61_49 w =>
            help_Bytes.f o0_44 o0_44n o0_44c r61_48 r61_48n r61_48c w fun r66_52 w =>
            bif (!r66_52) then
              K none 0 0 4 w
            else
              K o10_46 o10_46n o10_46c 0 w)
def ref09_Unpack.H (F : type_of% @ref09_Unpack.f) : Hf := fun args w K => match args with
  | [v0, v1, v2] => vL v0 fun a0 a0n a0c => vI .i64 v1 fun a1 => vI .i64 v2 fun a2 => F a0 a0n a0c a1 a2 w (fun r0 r0n r0c r1 w => K (Value.tuple #[(Value.slice r0 r0n r0c), (Value.int .i64 r1)]) w)
  | _ => False
def ref09_Unpack.h : Hf := ref09_Unpack.H @ref09_Unpack.f
def ref09_Unpack.CG (F72 : type_of% @ref04_NewDecoder.f) (F25 : type_of% @ref08_New.f) (F28 : type_of% @ref08_Model_Chance.f) (F73 : type_of% @ref04_Decoder_Decode.f) (F30 : type_of% @ref08_Model_Learn.f) (F34 : type_of% @ref09_Pack.f) (F35 : type_of% @help_Bytes.f) : Hd := hcons 35 (help_Bytes.H F35) (hcons 34 (ref09_Pack.H F34) (hcons 30 (ref08_Model_Learn.H F30) (hcons 73 (ref04_Decoder_Decode.H F73) (hcons 28 (ref08_Model_Chance.H F28) (hcons 25 (ref08_New.H F25) (hcons 72 (ref04_NewDecoder.H F72) (hnil)))))))
def ref09_Unpack.C : Hd := ref09_Unpack.CG @ref04_NewDecoder.f @ref08_New.f @ref08_Model_Chance.f @ref04_Decoder_Decode.f @ref08_Model_Learn.f @ref09_Pack.f @help_Bytes.f
def ref09_Unpack.G (F72 : type_of% @ref04_NewDecoder.f) (F25 : type_of% @ref08_New.f) (F28 : type_of% @ref08_Model_Chance.f) (F73 : type_of% @ref04_Decoder_Decode.f) (F30 : type_of% @ref08_Model_Learn.f) (F34 : type_of% @ref09_Pack.f) (F35 : type_of% @help_Bytes.f) (a0 : Option Addr) (a0n : Nat) (a0c : Nat) (a1 : Int) (a2 : Int) (w : World) (K : Option Addr → Nat → Nat → Int → World → Prop) : Prop :=
  bif (decide (a2 < 0)) then
    K none 0 0 1 w
  else
    bif (decide (a2 > 2)) then
      K none 0 0 1 w
    else
      bif (decide (a1 < 0)) then
        K none 0 0 1 w
      else
        bif (decide (a1 > 1048576)) then
          K none 0 0 5 w
        else
          F72 a0 a0n a0c w fun r30_11 w =>
          F25 a2 w fun r32_12 w =>
          ∃ N_43 : Nat, ref09_Unpack.l8 N_43 a0 a0n a0c a1 a2 r30_11 r32_12 none 0 0 0 w
          (fun o0_44 o0_44n o0_44c o2_45 o10_46 o10_46n o10_46c w =>
            F34 o10_46 o10_46n o10_46c o2_45 w fun r61_48 r61_48n r61_48c r61_49 w =>
            F35 o0_44 o0_44n o0_44c r61_48 r61_48n r61_48c w fun r66_52 w =>
            bif (!r66_52) then
              K none 0 0 4 w
            else
              K o10_46 o10_46n o10_46c 0 w)
theorem ref09_Unpack.C_ok : CSound Try.prog ref09_Unpack.C := hcons_ok help_Bytes.ok (hcons_ok ref09_Pack.ok (hcons_ok ref08_Model_Learn.ok (hcons_ok ref04_Decoder_Decode.ok (hcons_ok ref08_Model_Chance.ok (hcons_ok ref08_New.ok (hcons_ok ref04_NewDecoder.ok (hnil_ok)))))))
def ref09_Unpack.D : Nat → Plan := fun i => .done
noncomputable def ref09_Unpack.c : Code := Try.f38.body.getD .skip
theorem ref09_Unpack.hb : Try.f38.body = some ref09_Unpack.c := by kernel_rfl
noncomputable def ref09_Unpack.b0 : Code := (loopsOf ref09_Unpack.c).getD 0 .skip
noncomputable def ref09_Unpack.b0_0 : Code := (loopsOf ref09_Unpack.b0).getD 0 .skip
theorem ref09_Unpack.b0_0_loops : loopsOf ref09_Unpack.b0_0 = [] := by kernel_rfl
theorem ref09_Unpack.b0_loops : loopsOf ref09_Unpack.b0 = [ref09_Unpack.b0_0] := by kernel_rfl
theorem ref09_Unpack.c_loops : loopsOf ref09_Unpack.c = [ref09_Unpack.b0] := by kernel_rfl
def ref09_Unpack.l12G (F72 : type_of% @ref04_NewDecoder.f) (F25 : type_of% @ref08_New.f) (F28 : type_of% @ref08_Model_Chance.f) (F73 : type_of% @ref04_Decoder_Decode.f) (F30 : type_of% @ref08_Model_Learn.f) (F34 : type_of% @ref09_Pack.f) (F35 : type_of% @help_Bytes.f) (R : Option Addr → Nat → Nat → Int → Int → Option Addr → Option Addr → Option Addr → Nat → Nat → Int → Int → Int → World → (Option Addr → Nat → Nat → Int → Int → Option Addr → Option Addr → Option Addr → Nat → Nat → Int → Int → World → Prop) → Prop) : Option Addr → Nat → Nat → Int → Int → Option Addr → Option Addr → Option Addr → Nat → Nat → Int → Int → Int → World → (Option Addr → Nat → Nat → Int → Int → Option Addr → Option Addr → Option Addr → Nat → Nat → Int → Int → World → Prop) → Prop := fun y0 y0n y0c y1 y2 y8 y9 y10 y10n y10c y11 y12 y13 w K2 =>
    bif (decide (y13 < 8)) then
      F28 y9 w fun r44_26 w =>
      F73 y8 r44_26 w fun r45_27 w =>
      F30 y9 r45_27 w fun w =>
      let v12_29 := (bor .u8 (shl .u8 y12 1) (IntKind.wrap .u8 r45_27))
      let v13_30 := (IntKind.wrap .i64 (y13 + 1))
      R y0 y0n y0c y1 y2 y8 y9 y10 y10n y10c y11 v12_29 v13_30 w K2
    else
      K2 y0 y0n y0c y1 y2 y8 y9 y10 y10n y10c y11 y12 w

def ref09_Unpack.l8G (F72 : type_of% @ref04_NewDecoder.f) (F25 : type_of% @ref08_New.f) (F28 : type_of% @ref08_Model_Chance.f) (F73 : type_of% @ref04_Decoder_Decode.f) (F30 : type_of% @ref08_Model_Learn.f) (F34 : type_of% @ref09_Pack.f) (F35 : type_of% @help_Bytes.f) (R : Option Addr → Nat → Nat → Int → Int → Option Addr → Option Addr → Option Addr → Nat → Nat → Int → World → (Option Addr → Nat → Nat → Int → Option Addr → Nat → Nat → World → Prop) → Prop) : Option Addr → Nat → Nat → Int → Int → Option Addr → Option Addr → Option Addr → Nat → Nat → Int → World → (Option Addr → Nat → Nat → Int → Option Addr → Nat → Nat → World → Prop) → Prop := fun y0 y0n y0c y1 y2 y8 y9 y10 y10n y10c y11 w K0 =>
    bif (decide (y11 < y1)) then
      ∃ N_31 : Nat, ref09_Unpack.l12 N_31 y0 y0n y0c y1 y2 y8 y9 y10 y10n y10c y11 0 0 w
      (fun o0_32 o0_32n o0_32c o1_33 o2_34 o8_35 o9_36 o10_37 o10_37n o10_37c o11_38 o12_39 w =>
        newC 5 [(Value.int .u8 o12_39)] w fun a56_40 w =>
        appL 5 1 1 [(Value.int .u8 0)] o10_37 o10_37n o10_37c (some a56_40) 1 1 w fun a57_41 a57_41n a57_41c w =>
        let v11_42 := (IntKind.wrap .i64 (o11_38 + 1))
        R o0_32 o0_32n o0_32c o1_33 o2_34 o8_35 o9_36 a57_41 a57_41n a57_41c v11_42 w K0)
    else
      K0 y0 y0n y0c y2 y10 y10n y10c w

def ref09_Unpack.hn12 (N : Nat) (f : Fr) (w : World) (K : AExit → Fr → World → Prop) : Prop :=
  gN f 69 <| gL f 0 fun y0 y0n y0c => gI .i64 f 1 fun y1 => gI .i64 f 2 fun y2 => gP f 8 fun y8 => gP f 9 fun y9 => gL f 10 fun y10 y10n y10c => gI .i64 f 11 fun y11 => gI .u8 f 12 fun y12 => gI .i64 f 13 fun y13 => ref09_Unpack.l12 N y0 y0n y0c y1 y2 y8 y9 y10 y10n y10c y11 y12 y13 w (fun o0 o0n o0c o1 o2 o8 o9 o10 o10n o10c o11 o12 w => K (.exit 2) [some (Value.slice o0 o0n o0c), some (Value.int .i64 o1), some (Value.int .i64 o2), none, none, none, none, none, some (Value.pointer o8), some (Value.pointer o9), some (Value.slice o10 o10n o10c), some (Value.int .i64 o11), some (Value.int .u8 o12), none, none, none, none, none, none, none, none, none, none, none, none, none, none, none, none, none, none, none, none, none, none, none, none, none, none, none, none, none, none, none, none, none, none, none, none, none, none, none, none, none, none, none, none, none, none, none, none, none, none, none, none, none, none, none, none] w)
def ref09_Unpack.hx12 : AExit → Fr → World → (AExit → Fr → World → Prop) → Prop := fun e f w K => match e with
  | .normal => False
  | .exit i => (match Nat.beq i 2 with | true => gN f 69 <| gL f 0 fun o0 o0n o0c => gI .i64 f 1 fun o1 => gI .i64 f 2 fun o2 => gP f 8 fun o8 => gP f 9 fun o9 => gL f 10 fun o10 o10n o10c => gI .i64 f 11 fun o11 => gI .u8 f 12 fun o12 => K (.exit 2) [some (Value.slice o0 o0n o0c), some (Value.int .i64 o1), some (Value.int .i64 o2), none, none, none, none, none, some (Value.pointer o8), some (Value.pointer o9), some (Value.slice o10 o10n o10c), some (Value.int .i64 o11), some (Value.int .u8 o12), none, none, none, none, none, none, none, none, none, none, none, none, none, none, none, none, none, none, none, none, none, none, none, none, none, none, none, none, none, none, none, none, none, none, none, none, none, none, none, none, none, none, none, none, none, none, none, none, none, none, none, none, none, none, none, none] w | false => False)
  | .ret => False
def ref09_Unpack.hn8 (N : Nat) (f : Fr) (w : World) (K : AExit → Fr → World → Prop) : Prop :=
  gN f 69 <| gL f 0 fun y0 y0n y0c => gI .i64 f 1 fun y1 => gI .i64 f 2 fun y2 => gP f 8 fun y8 => gP f 9 fun y9 => gL f 10 fun y10 y10n y10c => gI .i64 f 11 fun y11 => ref09_Unpack.l8 N y0 y0n y0c y1 y2 y8 y9 y10 y10n y10c y11 w (fun o0 o0n o0c o2 o10 o10n o10c w => K (.exit 0) [some (Value.slice o0 o0n o0c), none, some (Value.int .i64 o2), none, none, none, none, none, none, none, some (Value.slice o10 o10n o10c), none, none, none, none, none, none, none, none, none, none, none, none, none, none, none, none, none, none, none, none, none, none, none, none, none, none, none, none, none, none, none, none, none, none, none, none, none, none, none, none, none, none, none, none, none, none, none, none, none, none, none, none, none, none, none, none, none, none] w)
def ref09_Unpack.hx8 : AExit → Fr → World → (AExit → Fr → World → Prop) → Prop := fun e f w K => match e with
  | .normal => False
  | .exit i => (match Nat.beq i 0 with | true => gN f 69 <| gL f 0 fun o0 o0n o0c => gI .i64 f 2 fun o2 => gL f 10 fun o10 o10n o10c => K (.exit 0) [some (Value.slice o0 o0n o0c), none, some (Value.int .i64 o2), none, none, none, none, none, none, none, some (Value.slice o10 o10n o10c), none, none, none, none, none, none, none, none, none, none, none, none, none, none, none, none, none, none, none, none, none, none, none, none, none, none, none, none, none, none, none, none, none, none, none, none, none, none, none, none, none, none, none, none, none, none, none, none, none, none, none, none, none, none, none, none, none, none] w | false => False)
  | .ret => False
def ref09_Unpack.L : LHd := fun l f w K => (match Nat.beq l 8 with | true => ∃ N, ref09_Unpack.hn8 N f w K | false => (match Nat.beq l 12 with | true => ∃ N, ref09_Unpack.hn12 N f w K | false => False))
theorem ref09_Unpack.leG12 (F72 : type_of% @ref04_NewDecoder.f) (F25 : type_of% @ref08_New.f) (F28 : type_of% @ref08_Model_Chance.f) (F73 : type_of% @ref04_Decoder_Decode.f) (F30 : type_of% @ref08_Model_Learn.f) (F34 : type_of% @ref09_Pack.f) (F35 : type_of% @help_Bytes.f) (N : Nat) (y0 : Option Addr) (y0n : Nat) (y0c : Nat) (y1 : Int) (y2 : Int) (y8 : Option Addr) (y9 : Option Addr) (y10 : Option Addr) (y10n : Nat) (y10c : Nat) (y11 : Int) (y12 : Int) (y13 : Int) (w : World) (K : AExit → Fr → World → Prop) : awp (ref09_Unpack.CG F72 F25 F28 F73 F30 F34 F35) ref09_Unpack.L ref09_Unpack.D tab ref09_Unpack.b0_0 (lpost ref09_Unpack.hn12 ref09_Unpack.hx12 N K) [some (Value.slice y0 y0n y0c), some (Value.int .i64 y1), some (Value.int .i64 y2), none, none, none, none, none, some (Value.pointer y8), some (Value.pointer y9), some (Value.slice y10 y10n y10c), some (Value.int .i64 y11), some (Value.int .u8 y12), some (Value.int .i64 y13), none, none, none, none, none, none, none, none, none, none, none, none, none, none, none, none, none, none, none, none, none, none, none, none, none, none, none, none, none, none, none, none, none, none, none, none, none, none, none, none, none, none, none, none, none, none, none, none, none, none, none, none, none, none, none] w = ref09_Unpack.l12G F72 F25 F28 F73 F30 F34 F35 (ref09_Unpack.l12 N) y0 y0n y0c y1 y2 y8 y9 y10 y10n y10c y11 y12 y13 w (fun o0 o0n o0c o1 o2 o8 o9 o10 o10n o10c o11 o12 w => K (.exit 2) [some (Value.slice o0 o0n o0c), some (Value.int .i64 o1), some (Value.int .i64 o2), none, none, none, none, none, some (Value.pointer o8), some (Value.pointer o9), some (Value.slice o10 o10n o10c), some (Value.int .i64 o11), some (Value.int .u8 o12), none, none, none, none, none, none, none, none, none, none, none, none, none, none, none, none, none, none, none, none, none, none, none, none, none, none, none, none, none, none, none, none, none, none, none, none, none, none, none, none, none, none, none, none, none, none, none, none, none, none, none, none, none, none, none, none] w) := by kernel_rfl
theorem ref09_Unpack.les12 (N : Nat) : ref09_Unpack.l12 (N + 1) = ref09_Unpack.l12G @ref04_NewDecoder.f @ref08_New.f @ref08_Model_Chance.f @ref04_Decoder_Decode.f @ref08_Model_Learn.f @ref09_Pack.f @help_Bytes.f (ref09_Unpack.l12 N) := by kernel_rfl
theorem ref09_Unpack.le12 (N : Nat) (y0 : Option Addr) (y0n : Nat) (y0c : Nat) (y1 : Int) (y2 : Int) (y8 : Option Addr) (y9 : Option Addr) (y10 : Option Addr) (y10n : Nat) (y10c : Nat) (y11 : Int) (y12 : Int) (y13 : Int) (w : World) (K : AExit → Fr → World → Prop) : awp ref09_Unpack.C ref09_Unpack.L ref09_Unpack.D tab ref09_Unpack.b0_0 (lpost ref09_Unpack.hn12 ref09_Unpack.hx12 N K) [some (Value.slice y0 y0n y0c), some (Value.int .i64 y1), some (Value.int .i64 y2), none, none, none, none, none, some (Value.pointer y8), some (Value.pointer y9), some (Value.slice y10 y10n y10c), some (Value.int .i64 y11), some (Value.int .u8 y12), some (Value.int .i64 y13), none, none, none, none, none, none, none, none, none, none, none, none, none, none, none, none, none, none, none, none, none, none, none, none, none, none, none, none, none, none, none, none, none, none, none, none, none, none, none, none, none, none, none, none, none, none, none, none, none, none, none, none, none, none, none] w = ref09_Unpack.l12 (N + 1) y0 y0n y0c y1 y2 y8 y9 y10 y10n y10c y11 y12 y13 w (fun o0 o0n o0c o1 o2 o8 o9 o10 o10n o10c o11 o12 w => K (.exit 2) [some (Value.slice o0 o0n o0c), some (Value.int .i64 o1), some (Value.int .i64 o2), none, none, none, none, none, some (Value.pointer o8), some (Value.pointer o9), some (Value.slice o10 o10n o10c), some (Value.int .i64 o11), some (Value.int .u8 o12), none, none, none, none, none, none, none, none, none, none, none, none, none, none, none, none, none, none, none, none, none, none, none, none, none, none, none, none, none, none, none, none, none, none, none, none, none, none, none, none, none, none, none, none, none, none, none, none, none, none, none, none, none, none, none, none] w) := by
  rw [ref09_Unpack.les12]
  exact ref09_Unpack.leG12 @ref04_NewDecoder.f @ref08_New.f @ref08_Model_Chance.f @ref04_Decoder_Decode.f @ref08_Model_Learn.f @ref09_Pack.f @help_Bytes.f N y0 y0n y0c y1 y2 y8 y9 y10 y10n y10c y11 y12 y13 w K
theorem ref09_Unpack.lok12 : LoopOk Try.prog ref09_Unpack.L ref09_Unpack.b0_0 := by
  refine loop_ok tab_ok ref09_Unpack.C_ok (D := ref09_Unpack.D) (ref09_Unpack.hn12) (ref09_Unpack.hx12) (by kernel_rfl) (by rw [ref09_Unpack.b0_0_loops]; exact lnil) ?_ ?_ ?_ ?_
  · intro f w K h
    unfold ref09_Unpack.hn12 at h
    obtain ⟨hlen, h⟩ := gN_ok h
    obtain ⟨y0, y0n, y0c, h0, h⟩ := gL_ok h
    obtain ⟨y1, h1, h⟩ := gI_ok h
    obtain ⟨y2, h2, h⟩ := gI_ok h
    obtain ⟨y8, h8, h⟩ := gP_ok h
    obtain ⟨y9, h9, h⟩ := gP_ok h
    obtain ⟨y10, y10n, y10c, h10, h⟩ := gL_ok h
    obtain ⟨y11, h11, h⟩ := gI_ok h
    obtain ⟨y12, h12, h⟩ := gI_ok h
    obtain ⟨y13, h13, h⟩ := gI_ok h
    exact h
  · intro N f w K h
    unfold ref09_Unpack.hn12 at h
    obtain ⟨hlen, h⟩ := gN_ok h
    obtain ⟨y0, y0n, y0c, h0, h⟩ := gL_ok h
    obtain ⟨y1, h1, h⟩ := gI_ok h
    obtain ⟨y2, h2, h⟩ := gI_ok h
    obtain ⟨y8, h8, h⟩ := gP_ok h
    obtain ⟨y9, h9, h⟩ := gP_ok h
    obtain ⟨y10, y10n, y10c, h10, h⟩ := gL_ok h
    obtain ⟨y11, h11, h⟩ := gI_ok h
    obtain ⟨y12, h12, h⟩ := gI_ok h
    obtain ⟨y13, h13, h⟩ := gI_ok h
    refine ⟨[some (Value.slice y0 y0n y0c), some (Value.int .i64 y1), some (Value.int .i64 y2), none, none, none, none, none, some (Value.pointer y8), some (Value.pointer y9), some (Value.slice y10 y10n y10c), some (Value.int .i64 y11), some (Value.int .u8 y12), some (Value.int .i64 y13), none, none, none, none, none, none, none, none, none, none, none, none, none, none, none, none, none, none, none, none, none, none, none, none, none, none, none, none, none, none, none, none, none, none, none, none, none, none, none, none, none, none, none, none, none, none, none, none, none, none, none, none, none, none, none], hlen, ⟨h0, h1, h2, h8, h9, h10, h11, h12, h13, trivial⟩, ?_⟩
    rw [ref09_Unpack.le12]
    exact h
  · intro e f w K h
    cases e with
    | normal => exact h.elim
    | exit i =>
      unfold ref09_Unpack.hx12 at h
      simp only at h
      split at h
      · rename_i hb
        obtain rfl := Nat.eq_of_beq_eq_true hb
        obtain ⟨hlen, h⟩ := gN_ok h
        obtain ⟨o0, o0n, o0c, h0, h⟩ := gL_ok h
        obtain ⟨o1, h1, h⟩ := gI_ok h
        obtain ⟨o2, h2, h⟩ := gI_ok h
        obtain ⟨o8, h8, h⟩ := gP_ok h
        obtain ⟨o9, h9, h⟩ := gP_ok h
        obtain ⟨o10, o10n, o10c, h10, h⟩ := gL_ok h
        obtain ⟨o11, h11, h⟩ := gI_ok h
        obtain ⟨o12, h12, h⟩ := gI_ok h
        exact ⟨[some (Value.slice o0 o0n o0c), some (Value.int .i64 o1), some (Value.int .i64 o2), none, none, none, none, none, some (Value.pointer o8), some (Value.pointer o9), some (Value.slice o10 o10n o10c), some (Value.int .i64 o11), some (Value.int .u8 o12), none, none, none, none, none, none, none, none, none, none, none, none, none, none, none, none, none, none, none, none, none, none, none, none, none, none, none, none, none, none, none, none, none, none, none, none, none, none, none, none, none, none, none, none, none, none, none, none, none, none, none, none, none, none, none, none], hlen, ⟨h0, h1, h2, h8, h9, h10, h11, h12, trivial⟩, h⟩
      · exact (show False from h).elim
    | ret =>
      exact (show False from h).elim
  · intro f w K h
    have e : lid ref09_Unpack.b0_0 = 12 := by kernel_rfl
    rw [e] at h
    exact h
theorem ref09_Unpack.leG8 (F72 : type_of% @ref04_NewDecoder.f) (F25 : type_of% @ref08_New.f) (F28 : type_of% @ref08_Model_Chance.f) (F73 : type_of% @ref04_Decoder_Decode.f) (F30 : type_of% @ref08_Model_Learn.f) (F34 : type_of% @ref09_Pack.f) (F35 : type_of% @help_Bytes.f) (N : Nat) (y0 : Option Addr) (y0n : Nat) (y0c : Nat) (y1 : Int) (y2 : Int) (y8 : Option Addr) (y9 : Option Addr) (y10 : Option Addr) (y10n : Nat) (y10c : Nat) (y11 : Int) (w : World) (K : AExit → Fr → World → Prop) : awp (ref09_Unpack.CG F72 F25 F28 F73 F30 F34 F35) ref09_Unpack.L ref09_Unpack.D tab ref09_Unpack.b0 (lpost ref09_Unpack.hn8 ref09_Unpack.hx8 N K) [some (Value.slice y0 y0n y0c), some (Value.int .i64 y1), some (Value.int .i64 y2), none, none, none, none, none, some (Value.pointer y8), some (Value.pointer y9), some (Value.slice y10 y10n y10c), some (Value.int .i64 y11), none, none, none, none, none, none, none, none, none, none, none, none, none, none, none, none, none, none, none, none, none, none, none, none, none, none, none, none, none, none, none, none, none, none, none, none, none, none, none, none, none, none, none, none, none, none, none, none, none, none, none, none, none, none, none, none, none] w = ref09_Unpack.l8G F72 F25 F28 F73 F30 F34 F35 (ref09_Unpack.l8 N) y0 y0n y0c y1 y2 y8 y9 y10 y10n y10c y11 w (fun o0 o0n o0c o2 o10 o10n o10c w => K (.exit 0) [some (Value.slice o0 o0n o0c), none, some (Value.int .i64 o2), none, none, none, none, none, none, none, some (Value.slice o10 o10n o10c), none, none, none, none, none, none, none, none, none, none, none, none, none, none, none, none, none, none, none, none, none, none, none, none, none, none, none, none, none, none, none, none, none, none, none, none, none, none, none, none, none, none, none, none, none, none, none, none, none, none, none, none, none, none, none, none, none, none] w) := by kernel_rfl
theorem ref09_Unpack.les8 (N : Nat) : ref09_Unpack.l8 (N + 1) = ref09_Unpack.l8G @ref04_NewDecoder.f @ref08_New.f @ref08_Model_Chance.f @ref04_Decoder_Decode.f @ref08_Model_Learn.f @ref09_Pack.f @help_Bytes.f (ref09_Unpack.l8 N) := by kernel_rfl
theorem ref09_Unpack.le8 (N : Nat) (y0 : Option Addr) (y0n : Nat) (y0c : Nat) (y1 : Int) (y2 : Int) (y8 : Option Addr) (y9 : Option Addr) (y10 : Option Addr) (y10n : Nat) (y10c : Nat) (y11 : Int) (w : World) (K : AExit → Fr → World → Prop) : awp ref09_Unpack.C ref09_Unpack.L ref09_Unpack.D tab ref09_Unpack.b0 (lpost ref09_Unpack.hn8 ref09_Unpack.hx8 N K) [some (Value.slice y0 y0n y0c), some (Value.int .i64 y1), some (Value.int .i64 y2), none, none, none, none, none, some (Value.pointer y8), some (Value.pointer y9), some (Value.slice y10 y10n y10c), some (Value.int .i64 y11), none, none, none, none, none, none, none, none, none, none, none, none, none, none, none, none, none, none, none, none, none, none, none, none, none, none, none, none, none, none, none, none, none, none, none, none, none, none, none, none, none, none, none, none, none, none, none, none, none, none, none, none, none, none, none, none, none] w = ref09_Unpack.l8 (N + 1) y0 y0n y0c y1 y2 y8 y9 y10 y10n y10c y11 w (fun o0 o0n o0c o2 o10 o10n o10c w => K (.exit 0) [some (Value.slice o0 o0n o0c), none, some (Value.int .i64 o2), none, none, none, none, none, none, none, some (Value.slice o10 o10n o10c), none, none, none, none, none, none, none, none, none, none, none, none, none, none, none, none, none, none, none, none, none, none, none, none, none, none, none, none, none, none, none, none, none, none, none, none, none, none, none, none, none, none, none, none, none, none, none, none, none, none, none, none, none, none, none, none, none, none] w) := by
  rw [ref09_Unpack.les8]
  exact ref09_Unpack.leG8 @ref04_NewDecoder.f @ref08_New.f @ref08_Model_Chance.f @ref04_Decoder_Decode.f @ref08_Model_Learn.f @ref09_Pack.f @help_Bytes.f N y0 y0n y0c y1 y2 y8 y9 y10 y10n y10c y11 w K
theorem ref09_Unpack.lok8 : LoopOk Try.prog ref09_Unpack.L ref09_Unpack.b0 := by
  refine loop_ok tab_ok ref09_Unpack.C_ok (D := ref09_Unpack.D) (ref09_Unpack.hn8) (ref09_Unpack.hx8) (by kernel_rfl) (by rw [ref09_Unpack.b0_loops]; exact lcons ref09_Unpack.lok12 (lnil)) ?_ ?_ ?_ ?_
  · intro f w K h
    unfold ref09_Unpack.hn8 at h
    obtain ⟨hlen, h⟩ := gN_ok h
    obtain ⟨y0, y0n, y0c, h0, h⟩ := gL_ok h
    obtain ⟨y1, h1, h⟩ := gI_ok h
    obtain ⟨y2, h2, h⟩ := gI_ok h
    obtain ⟨y8, h8, h⟩ := gP_ok h
    obtain ⟨y9, h9, h⟩ := gP_ok h
    obtain ⟨y10, y10n, y10c, h10, h⟩ := gL_ok h
    obtain ⟨y11, h11, h⟩ := gI_ok h
    exact h
  · intro N f w K h
    unfold ref09_Unpack.hn8 at h
    obtain ⟨hlen, h⟩ := gN_ok h
    obtain ⟨y0, y0n, y0c, h0, h⟩ := gL_ok h
    obtain ⟨y1, h1, h⟩ := gI_ok h
    obtain ⟨y2, h2, h⟩ := gI_ok h
    obtain ⟨y8, h8, h⟩ := gP_ok h
    obtain ⟨y9, h9, h⟩ := gP_ok h
    obtain ⟨y10, y10n, y10c, h10, h⟩ := gL_ok h
    obtain ⟨y11, h11, h⟩ := gI_ok h
    refine ⟨[some (Value.slice y0 y0n y0c), some (Value.int .i64 y1), some (Value.int .i64 y2), none, none, none, none, none, some (Value.pointer y8), some (Value.pointer y9), some (Value.slice y10 y10n y10c), some (Value.int .i64 y11), none, none, none, none, none, none, none, none, none, none, none, none, none, none, none, none, none, none, none, none, none, none, none, none, none, none, none, none, none, none, none, none, none, none, none, none, none, none, none, none, none, none, none, none, none, none, none, none, none, none, none, none, none, none, none, none, none], hlen, ⟨h0, h1, h2, h8, h9, h10, h11, trivial⟩, ?_⟩
    rw [ref09_Unpack.le8]
    exact h
  · intro e f w K h
    cases e with
    | normal => exact h.elim
    | exit i =>
      unfold ref09_Unpack.hx8 at h
      simp only at h
      split at h
      · rename_i hb
        obtain rfl := Nat.eq_of_beq_eq_true hb
        obtain ⟨hlen, h⟩ := gN_ok h
        obtain ⟨o0, o0n, o0c, h0, h⟩ := gL_ok h
        obtain ⟨o2, h2, h⟩ := gI_ok h
        obtain ⟨o10, o10n, o10c, h10, h⟩ := gL_ok h
        exact ⟨[some (Value.slice o0 o0n o0c), none, some (Value.int .i64 o2), none, none, none, none, none, none, none, some (Value.slice o10 o10n o10c), none, none, none, none, none, none, none, none, none, none, none, none, none, none, none, none, none, none, none, none, none, none, none, none, none, none, none, none, none, none, none, none, none, none, none, none, none, none, none, none, none, none, none, none, none, none, none, none, none, none, none, none, none, none, none, none, none, none], hlen, ⟨h0, h2, h10, trivial⟩, h⟩
      · exact (show False from h).elim
    | ret =>
      exact (show False from h).elim
  · intro f w K h
    have e : lid ref09_Unpack.b0 = 8 := by kernel_rfl
    rw [e] at h
    exact h
theorem ref09_Unpack.eqG (F72 : type_of% @ref04_NewDecoder.f) (F25 : type_of% @ref08_New.f) (F28 : type_of% @ref08_Model_Chance.f) (F73 : type_of% @ref04_Decoder_Decode.f) (F30 : type_of% @ref08_Model_Learn.f) (F34 : type_of% @ref09_Pack.f) (F35 : type_of% @help_Bytes.f) (a0 : Option Addr) (a0n : Nat) (a0c : Nat) (a1 : Int) (a2 : Int) (w : World) (K : Value → World → Prop) : afn (ref09_Unpack.CG F72 F25 F28 F73 F30 F34 F35) ref09_Unpack.L ref09_Unpack.D tab Try.f38 [(Value.slice a0 a0n a0c), (Value.int .i64 a1), (Value.int .i64 a2)] w K = ref09_Unpack.G F72 F25 F28 F73 F30 F34 F35 a0 a0n a0c a1 a2 w (fun r0 r0n r0c r1 w => K (Value.tuple #[(Value.slice r0 r0n r0c), (Value.int .i64 r1)]) w) := by kernel_rfl
theorem ref09_Unpack.eq (a0 : Option Addr) (a0n : Nat) (a0c : Nat) (a1 : Int) (a2 : Int) (w : World) (K : Value → World → Prop) : afn ref09_Unpack.C ref09_Unpack.L ref09_Unpack.D tab Try.f38 [(Value.slice a0 a0n a0c), (Value.int .i64 a1), (Value.int .i64 a2)] w K = ref09_Unpack.f a0 a0n a0c a1 a2 w (fun r0 r0n r0c r1 w => K (Value.tuple #[(Value.slice r0 r0n r0c), (Value.int .i64 r1)]) w) := ref09_Unpack.eqG @ref04_NewDecoder.f @ref08_New.f @ref08_Model_Chance.f @ref04_Decoder_Decode.f @ref08_Model_Learn.f @ref09_Pack.f @help_Bytes.f a0 a0n a0c a1 a2 w K
theorem ref09_Unpack.ok : FSound Try.prog 38 ref09_Unpack.h := by
  intro args w K h
  unfold ref09_Unpack.h ref09_Unpack.H at h
  split at h
  ·
    replace h := vL_ok h
    obtain ⟨a0, a0n, a0c, rfl, h⟩ := h
    replace h := vI_ok h
    obtain ⟨a1, rfl, h⟩ := h
    replace h := vI_ok h
    obtain ⟨a2, rfl, h⟩ := h
    refine ⟨by kernel_rfl, fn_ok tab_ok ref09_Unpack.C_ok (L := ref09_Unpack.L) (D := ref09_Unpack.D) Try.func38 ref09_Unpack.hb (by kernel_rfl) (by rw [ref09_Unpack.c_loops]; exact lcons ref09_Unpack.lok8 (lnil)) (Nat.le_of_ble_eq_true (by kernel_rfl)) ?_⟩
    rw [ref09_Unpack.eq]
    exact h
  · exact h.elim
/-! ### valise/valiselaw09.packs: function 39 -/
def law09_packs.f (a0 : Option Addr) (a0n : Nat) (a0c : Nat) (a1 : Option Addr) (a1n : Nat) (a1c : Nat) (a2 : Int) (w : World) (K : Bool → World → Prop) : Prop :=
  ref09_Pack.f a0 a0n a0c a2 w fun r12_3 r12_3n r12_3c r12_4 w =>
  help_Bytes.f a1 a1n a1c r12_3 r12_3n r12_3c w fun r17_6 w =>
  K r17_6 w
def law09_packs.H (F : type_of% @law09_packs.f) : Hf := fun args w K => match args with
  | [v0, v1, v2] => vL v0 fun a0 a0n a0c => vL v1 fun a1 a1n a1c => vI .i64 v2 fun a2 => F a0 a0n a0c a1 a1n a1c a2 w (fun r0 w => K (Value.bool r0) w)
  | _ => False
def law09_packs.h : Hf := law09_packs.H @law09_packs.f
def law09_packs.C : Hd := hcons 35 help_Bytes.h (hcons 34 ref09_Pack.h (hnil))
theorem law09_packs.C_ok : CSound Try.prog law09_packs.C := hcons_ok help_Bytes.ok (hcons_ok ref09_Pack.ok (hnil_ok))
def law09_packs.D : Nat → Plan := fun i => .done
noncomputable def law09_packs.c : Code := Try.f39.body.getD .skip
theorem law09_packs.hb : Try.f39.body = some law09_packs.c := by kernel_rfl
theorem law09_packs.c_loops : loopsOf law09_packs.c = [] := by kernel_rfl
def law09_packs.L : LHd := fun l f w K => False
theorem law09_packs.eq (a0 : Option Addr) (a0n : Nat) (a0c : Nat) (a1 : Option Addr) (a1n : Nat) (a1c : Nat) (a2 : Int) (w : World) (K : Value → World → Prop) : afn law09_packs.C law09_packs.L law09_packs.D tab Try.f39 [(Value.slice a0 a0n a0c), (Value.slice a1 a1n a1c), (Value.int .i64 a2)] w K = law09_packs.f a0 a0n a0c a1 a1n a1c a2 w (fun r0 w => K (Value.bool r0) w) := by kernel_rfl
theorem law09_packs.ok : FSound Try.prog 39 law09_packs.h := by
  intro args w K h
  unfold law09_packs.h law09_packs.H at h
  split at h
  ·
    replace h := vL_ok h
    obtain ⟨a0, a0n, a0c, rfl, h⟩ := h
    replace h := vL_ok h
    obtain ⟨a1, a1n, a1c, rfl, h⟩ := h
    replace h := vI_ok h
    obtain ⟨a2, rfl, h⟩ := h
    refine ⟨by kernel_rfl, fn_ok tab_ok law09_packs.C_ok (L := law09_packs.L) (D := law09_packs.D) Try.func39 law09_packs.hb (by kernel_rfl) (by rw [law09_packs.c_loops]; exact lnil) (Nat.le_of_ble_eq_true (by kernel_rfl)) ?_⟩
    rw [law09_packs.eq]
    exact h
  · exact h.elim

end Go.Proofs.Ytdbnobeopgfhgaa.G
