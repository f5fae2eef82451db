/- Go functions as predicate transformers, written by a program of this session (gen.py), with their soundness. -/
import Derived.Test.YtdbnobeopgfhgaaGen2
set_option linter.unusedVariables false
set_option linter.unusedSimpArgs false
set_option maxRecDepth 100000
namespace Go.Proofs.Ytdbnobeopgfhgaa.G
open Go Go.Proofs.Ytdbnobeopgfhgaa.Vm
/-! ### (*valise/coder.Encoder).Encode: function 82 -/
def coder_Encoder_Encode.l3 : Nat → Option Addr → Int → Bool → World → (World → Prop) → Prop
  | 0, _, _, _, _, _ => False
  | N + 1, y0, y6, y7, w, K0 =>
    bif y7 then
      sm y0 fun p_14 =>
      ldL (p_14.add 2) w fun x39_15 x39_15n x39_15c =>
      newC 5 [(Value.int .u8 y6)] w fun a41_16 w =>
      appL 5 1 1 [(Value.int .u8 0)] x39_15 x39_15n x39_15c (some a41_16) 1 1 w fun a42_17 a42_17n a42_17c w =>
      sm y0 fun p_18 =>
      stC (p_18.add 2) (Value.slice a42_17 a42_17n a42_17c) w fun w =>
      sm y0 fun p_19 =>
      coder_span_shift.f (some p_19) w fun r32_20 r32_21 w =>
      coder_Encoder_Encode.l3 N y0 r32_20 r32_21 w K0
    else
      K0 w

def coder_Encoder_Encode.f (a0 : Option Addr) (a1 : Int) (a2 : Int) (w : World) (K : World → Prop) : Prop :=
  bif a0.isNone then
    K w
  else
    sm a0 fun p_4 =>
    sm a0 fun p_5 =>
    coder_span_mid.f (some p_5) a2 w.drew fun r18_6 w =>
    coder_span_take.f (some p_4) a1 r18_6 w fun w =>
    sm a0 fun p_8 =>
    coder_span_shift.f (some p_8) w fun r24_9 r24_10 w =>
    ∃ N_22 : Nat, coder_Encoder_Encode.l3 N_22 a0 r24_9 r24_10 w
    (fun w =>
      K w)
def coder_Encoder_Encode.H (F : type_of% @coder_Encoder_Encode.f) : Hf := fun args w K => match args with
  | [v0, v1, v2] => vP v0 fun a0 => vI .i64 v1 fun a1 => vI .i64 v2 fun a2 => F a0 a1 a2 w (fun w => K (Value.tuple #[]) w)
  | _ => False
def coder_Encoder_Encode.h : Hf := coder_Encoder_Encode.H @coder_Encoder_Encode.f
def coder_Encoder_Encode.CG (F94 : type_of% @coder_span_mid.f) (F93 : type_of% @coder_span_take.f) (F95 : type_of% @coder_span_shift.f) : Hd := hcons 95 (coder_span_shift.H F95) (hcons 93 (coder_span_take.H F93) (hcons 94 (coder_span_mid.H F94) (hnil)))
def coder_Encoder_Encode.C : Hd := coder_Encoder_Encode.CG @coder_span_mid.f @coder_span_take.f @coder_span_shift.f
def coder_Encoder_Encode.G (F94 : type_of% @coder_span_mid.f) (F93 : type_of% @coder_span_take.f) (F95 : type_of% @coder_span_shift.f) (a0 : Option Addr) (a1 : Int) (a2 : Int) (w : World) (K : World → Prop) : Prop :=
  bif a0.isNone then
    K w
  else
    sm a0 fun p_4 =>
    sm a0 fun p_5 =>
    F94 (some p_5) a2 w.drew fun r18_6 w =>
    F93 (some p_4) a1 r18_6 w fun w =>
    sm a0 fun p_8 =>
    F95 (some p_8) w fun r24_9 r24_10 w =>
    ∃ N_22 : Nat, coder_Encoder_Encode.l3 N_22 a0 r24_9 r24_10 w
    (fun w =>
      K w)
theorem coder_Encoder_Encode.C_ok : CSound Try.prog coder_Encoder_Encode.C := hcons_ok coder_span_shift.ok (hcons_ok coder_span_take.ok (hcons_ok coder_span_mid.ok (hnil_ok)))
def coder_Encoder_Encode.D : Nat → Plan := fun i => (match Nat.beq i 1 with | true => .take 0 (.take 1 (.take 2 (.take 3 (.take 4 (.take 5 (.take 6 (.take 7 (.eff 8 (.eff 9 (.done)))))))))) | false => .done)
noncomputable def coder_Encoder_Encode.c : Code := Try.f82.body.getD .skip
theorem coder_Encoder_Encode.hb : Try.f82.body = some coder_Encoder_Encode.c := by kernel_rfl
noncomputable def coder_Encoder_Encode.b0 : Code := (loopsOf coder_Encoder_Encode.c).getD 0 .skip
theorem coder_Encoder_Encode.b0_loops : loopsOf coder_Encoder_Encode.b0 = [] := by kernel_rfl
theorem coder_Encoder_Encode.c_loops : loopsOf coder_Encoder_Encode.c = [coder_Encoder_Encode.b0] := by kernel_rfl
def coder_Encoder_Encode.l3G (F94 : type_of% @coder_span_mid.f) (F93 : type_of% @coder_span_take.f) (F95 : type_of% @coder_span_shift.f) (R : Option Addr → Int → Bool → World → (World → Prop) → Prop) : Option Addr → Int → Bool → World → (World → Prop) → Prop := fun y0 y6 y7 w K0 =>
    bif y7 then
      sm y0 fun p_14 =>
      ldL (p_14.add 2) w fun x39_15 x39_15n x39_15c =>
      newC 5 [(Value.int .u8 y6)] w fun a41_16 w =>
      appL 5 1 1 [(Value.int .u8 0)] x39_15 x39_15n x39_15c (some a41_16) 1 1 w fun a42_17 a42_17n a42_17c w =>
      sm y0 fun p_18 =>
      stC (p_18.add 2) (Value.slice a42_17 a42_17n a42_17c) w fun w =>
      sm y0 fun p_19 =>
      F95 (some p_19) w fun r32_20 r32_21 w =>
      R y0 r32_20 r32_21 w K0
    else
      K0 w

def coder_Encoder_Encode.hn3 (N : Nat) (f : Fr) (w : World) (K : AExit → Fr → World → Prop) : Prop :=
  gN f 45 <| gP f 0 fun y0 => gI .u8 f 6 fun y6 => gB f 7 fun y7 => coder_Encoder_Encode.l3 N y0 y6 y7 w (fun w => K (.exit 0) [none, none, none, none, none, none, none, none, none, none, none, none, none, none, none, none, none, none, none, none, none, none, none, none, none, none, none, none, none, none, none, none, none, none, none, none, none, none, none, none, none, none, none, none, none] w)
def coder_Encoder_Encode.hx3 : AExit → Fr → World → (AExit → Fr → World → Prop) → Prop := fun e f w K => match e with
  | .normal => False
  | .exit i => (match Nat.beq i 0 with | true => gN f 45 <|  K (.exit 0) [none, none, none, none, none, none, none, none, none, none, none, none, none, none, none, none, none, none, none, none, none, none, none, none, none, none, none, none, none, none, none, none, none, none, none, none, none, none, none, none, none, none, none, none, none] w | false => False)
  | .ret => False
def coder_Encoder_Encode.L : LHd := fun l f w K => (match Nat.beq l 3 with | true => ∃ N, coder_Encoder_Encode.hn3 N f w K | false => False)
theorem coder_Encoder_Encode.leG3 (F94 : type_of% @coder_span_mid.f) (F93 : type_of% @coder_span_take.f) (F95 : type_of% @coder_span_shift.f) (N : Nat) (y0 : Option Addr) (y6 : Int) (y7 : Bool) (w : World) (K : AExit → Fr → World → Prop) : awp (coder_Encoder_Encode.CG F94 F93 F95) coder_Encoder_Encode.L coder_Encoder_Encode.D tab coder_Encoder_Encode.b0 (lpost coder_Encoder_Encode.hn3 coder_Encoder_Encode.hx3 N K) [some (Value.pointer y0), none, none, none, none, none, some (Value.int .u8 y6), some (Value.bool y7), none, none, none, none, none, none, none, none, none, none, none, none, none, none, none, none, none, none, none, none, none, none, none, none, none, none, none, none, none, none, none, none, none, none, none, none, none] w = coder_Encoder_Encode.l3G F94 F93 F95 (coder_Encoder_Encode.l3 N) y0 y6 y7 w (fun w => K (.exit 0) [none, none, none, none, none, none, none, none, none, none, none, none, none, none, none, none, none, none, none, none, none, none, none, none, none, none, none, none, none, none, none, none, none, none, none, none, none, none, none, none, none, none, none, none, none] w) := by kernel_rfl
theorem coder_Encoder_Encode.les3 (N : Nat) : coder_Encoder_Encode.l3 (N + 1) = coder_Encoder_Encode.l3G @coder_span_mid.f @coder_span_take.f @coder_span_shift.f (coder_Encoder_Encode.l3 N) := by kernel_rfl
theorem coder_Encoder_Encode.le3 (N : Nat) (y0 : Option Addr) (y6 : Int) (y7 : Bool) (w : World) (K : AExit → Fr → World → Prop) : awp coder_Encoder_Encode.C coder_Encoder_Encode.L coder_Encoder_Encode.D tab coder_Encoder_Encode.b0 (lpost coder_Encoder_Encode.hn3 coder_Encoder_Encode.hx3 N K) [some (Value.pointer y0), none, none, none, none, none, some (Value.int .u8 y6), some (Value.bool y7), none, none, none, none, none, none, none, none, none, none, none, none, none, none, none, none, none, none, none, none, none, none, none, none, none, none, none, none, none, none, none, none, none, none, none, none, none] w = coder_Encoder_Encode.l3 (N + 1) y0 y6 y7 w (fun w => K (.exit 0) [none, none, none, none, none, none, none, none, none, none, none, none, none, none, none, none, none, none, none, none, none, none, none, none, none, none, none, none, none, none, none, none, none, none, none, none, none, none, none, none, none, none, none, none, none] w) := by
  rw [coder_Encoder_Encode.les3]
  exact coder_Encoder_Encode.leG3 @coder_span_mid.f @coder_span_take.f @coder_span_shift.f N y0 y6 y7 w K
theorem coder_Encoder_Encode.lok3 : LoopOk Try.prog coder_Encoder_Encode.L coder_Encoder_Encode.b0 := by
  refine loop_ok tab_ok coder_Encoder_Encode.C_ok (D := coder_Encoder_Encode.D) (coder_Encoder_Encode.hn3) (coder_Encoder_Encode.hx3) (by kernel_rfl) (by rw [coder_Encoder_Encode.b0_loops]; exact lnil) ?_ ?_ ?_ ?_
  · intro f w K h
    unfold coder_Encoder_Encode.hn3 at h
    obtain ⟨hlen, h⟩ := gN_ok h
    obtain ⟨y0, h0, h⟩ := gP_ok h
    obtain ⟨y6, h6, h⟩ := gI_ok h
    obtain ⟨y7, h7, h⟩ := gB_ok h
    exact h
  · intro N f w K h
    unfold coder_Encoder_Encode.hn3 at h
    obtain ⟨hlen, h⟩ := gN_ok h
    obtain ⟨y0, h0, h⟩ := gP_ok h
    obtain ⟨y6, h6, h⟩ := gI_ok h
    obtain ⟨y7, h7, h⟩ := gB_ok h
    refine ⟨[some (Value.pointer y0), none, none, none, none, none, some (Value.int .u8 y6), some (Value.bool y7), none, none, none, none, none, none, none, none, none, none, none, none, none, none, none, none, none, none, none, none, none, none, none, none, none, none, none, none, none, none, none, none, none, none, none, none, none], hlen, ⟨h0, h6, h7, trivial⟩, ?_⟩
    rw [coder_Encoder_Encode.le3]
    exact h
  · intro e f w K h
    cases e with
    | normal => exact h.elim
    | exit i =>
      unfold coder_Encoder_Encode.hx3 at h
      simp only at h
      split at h
      · rename_i hb
        obtain rfl := Nat.eq_of_beq_eq_true hb
        obtain ⟨hlen, h⟩ := gN_ok h
        exact ⟨[none, none, none, none, none, none, none, none, none, none, none, none, none, none, none, none, none, none, none, none, none, none, none, none, none, none, none, none, none, none, none, none, none, none, none, none, none, none, none, none, none, none, none, none, none], hlen, trivial, h⟩
      · exact (show False from h).elim
    | ret =>
      exact (show False from h).elim
  · intro f w K h
    have e : lid coder_Encoder_Encode.b0 = 3 := by kernel_rfl
    rw [e] at h
    exact h
theorem coder_Encoder_Encode.eqG (F94 : type_of% @coder_span_mid.f) (F93 : type_of% @coder_span_take.f) (F95 : type_of% @coder_span_shift.f) (a0 : Option Addr) (a1 : Int) (a2 : Int) (w : World) (K : Value → World → Prop) : afn (coder_Encoder_Encode.CG F94 F93 F95) coder_Encoder_Encode.L coder_Encoder_Encode.D tab Try.f82 [(Value.pointer a0), (Value.int .i64 a1), (Value.int .i64 a2)] w K = coder_Encoder_Encode.G F94 F93 F95 a0 a1 a2 w (fun w => K (Value.tuple #[]) w) := by kernel_rfl
theorem coder_Encoder_Encode.eq (a0 : Option Addr) (a1 : Int) (a2 : Int) (w : World) (K : Value → World → Prop) : afn coder_Encoder_Encode.C coder_Encoder_Encode.L coder_Encoder_Encode.D tab Try.f82 [(Value.pointer a0), (Value.int .i64 a1), (Value.int .i64 a2)] w K = coder_Encoder_Encode.f a0 a1 a2 w (fun w => K (Value.tuple #[]) w) := coder_Encoder_Encode.eqG @coder_span_mid.f @coder_span_take.f @coder_span_shift.f a0 a1 a2 w K
theorem coder_Encoder_Encode.ok : FSound Try.prog 82 coder_Encoder_Encode.h := by
  intro args w K h
  unfold coder_Encoder_Encode.h coder_Encoder_Encode.H at h
  split at h
  ·
    replace h := vP_ok h
    obtain ⟨a0, rfl, h⟩ := h
    replace h := vI_ok h
    obtain ⟨a1, rfl, h⟩ := h
    replace h := vI_ok h
    obtain ⟨a2, rfl, h⟩ := h
    refine ⟨by kernel_rfl, fn_ok tab_ok coder_Encoder_Encode.C_ok (L := coder_Encoder_Encode.L) (D := coder_Encoder_Encode.D) Try.func82 coder_Encoder_Encode.hb (by kernel_rfl) (by rw [coder_Encoder_Encode.c_loops]; exact lcons coder_Encoder_Encode.lok3 (lnil)) (Nat.le_of_ble_eq_true (by kernel_rfl)) ?_⟩
    rw [coder_Encoder_Encode.eq]
    exact h
  · exact h.elim
/-! ### (*valise/stream.packer).put: function 63 -/
def stream_packer_put.l1 : Nat → Option Addr → Int → Int → World → (World → Prop) → Prop
  | 0, _, _, _, _, _ => False
  | N + 1, y0, y1, y4, w, K0 =>
    bif (decide (y4 ≥ 0)) then
      if y4 < 0 then False else
      let v5_6 := (IntKind.wrap .i64 (band .u8 (shr .u8 y1 (min (Int.toNat y4) (IntKind.bits .u8))) 1))
      sm y0 fun p_8 =>
      ldP p_8 w.drew fun x18_9 =>
      sm y0 fun p_10 =>
      ldP (p_10.add 1) w.drew fun x23_11 =>
      model_Model_Chance.f x23_11 w.drew fun r24_12 w =>
      (World.cell? w p_8 = some (.pointer x18_9)) ∧
      (coder_Encoder_Encode.f x18_9 v5_6 r24_12 w fun w =>
      sm y0 fun p_13 =>
      ldP (p_13.add 1) w fun x29_14 =>
      model_Model_Learn.f x29_14 v5_6 w fun w =>
      let v4_15 := (IntKind.wrap .i64 (y4 - 1))
      stream_packer_put.l1 N y0 y1 v4_15 w K0)
    else
      K0 w

def stream_packer_put.f (a0 : Option Addr) (a1 : Int) (w : World) (K : World → Prop) : Prop :=
  ∃ N_16 : Nat, stream_packer_put.l1 N_16 a0 a1 7 w
  (fun w =>
    K w)
def stream_packer_put.H (F : type_of% @stream_packer_put.f) : Hf := fun args w K => match args with
  | [v0, v1] => vP v0 fun a0 => vI .u8 v1 fun a1 => F a0 a1 w (fun w => K (Value.tuple #[]) w)
  | _ => False
def stream_packer_put.h : Hf := stream_packer_put.H @stream_packer_put.f
def stream_packer_put.CG (F27 : type_of% @model_Model_Chance.f) (F82 : type_of% @coder_Encoder_Encode.f) (F29 : type_of% @model_Model_Learn.f) : Hd := hcons 29 (model_Model_Learn.H F29) (hcons 82 (coder_Encoder_Encode.H F82) (hcons 27 (model_Model_Chance.H F27) (hnil)))
def stream_packer_put.C : Hd := stream_packer_put.CG @model_Model_Chance.f @coder_Encoder_Encode.f @model_Model_Learn.f
def stream_packer_put.G (F27 : type_of% @model_Model_Chance.f) (F82 : type_of% @coder_Encoder_Encode.f) (F29 : type_of% @model_Model_Learn.f) (a0 : Option Addr) (a1 : Int) (w : World) (K : World → Prop) : Prop :=
  ∃ N_16 : Nat, stream_packer_put.l1 N_16 a0 a1 7 w
  (fun w =>
    K w)
theorem stream_packer_put.C_ok : CSound Try.prog stream_packer_put.C := hcons_ok model_Model_Learn.ok (hcons_ok coder_Encoder_Encode.ok (hcons_ok model_Model_Chance.ok (hnil_ok)))
def stream_packer_put.D : Nat → Plan := fun i => (match Nat.beq i 4 with | true => .take 0 (.take 1 (.take 2 (.take 3 (.take 4 (.take 5 (.take 6 (.take 7 (.take 8 (.eff 9 (.eff 10 (.done))))))))))) | false => .done)
noncomputable def stream_packer_put.c : Code := Try.f63.body.getD .skip
theorem stream_packer_put.hb : Try.f63.body = some stream_packer_put.c := by kernel_rfl
noncomputable def stream_packer_put.b0 : Code := (loopsOf stream_packer_put.c).getD 0 .skip
theorem stream_packer_put.b0_loops : loopsOf stream_packer_put.b0 = [] := by kernel_rfl
theorem stream_packer_put.c_loops : loopsOf stream_packer_put.c = [stream_packer_put.b0] := by kernel_rfl
def stream_packer_put.l1G (F27 : type_of% @model_Model_Chance.f) (F82 : type_of% @coder_Encoder_Encode.f) (F29 : type_of% @model_Model_Learn.f) (R : Option Addr → Int → Int → World → (World → Prop) → Prop) : Option Addr → Int → Int → World → (World → Prop) → Prop := fun y0 y1 y4 w K0 =>
    bif (decide (y4 ≥ 0)) then
      if y4 < 0 then False else
      let v5_6 := (IntKind.wrap .i64 (band .u8 (shr .u8 y1 (min (Int.toNat y4) (IntKind.bits .u8))) 1))
      sm y0 fun p_8 =>
      ldP p_8 w.drew fun x18_9 =>
      sm y0 fun p_10 =>
      ldP (p_10.add 1) w.drew fun x23_11 =>
      F27 x23_11 w.drew fun r24_12 w =>
      (World.cell? w p_8 = some (.pointer x18_9)) ∧
      (F82 x18_9 v5_6 r24_12 w fun w =>
      sm y0 fun p_13 =>
      ldP (p_13.add 1) w fun x29_14 =>
      F29 x29_14 v5_6 w fun w =>
      let v4_15 := (IntKind.wrap .i64 (y4 - 1))
      R y0 y1 v4_15 w K0)
    else
      K0 w

def stream_packer_put.hn1 (N : Nat) (f : Fr) (w : World) (K : AExit → Fr → World → Prop) : Prop :=
  gN f 32 <| gP f 0 fun y0 => gI .u8 f 1 fun y1 => gI .i64 f 4 fun y4 => stream_packer_put.l1 N y0 y1 y4 w (fun w => K (.exit 0) [none, none, none, none, none, none, none, none, none, none, none, none, none, none, none, none, none, none, none, none, none, none, none, none, none, none, none, none, none, none, none, none] w)
def stream_packer_put.hx1 : AExit → Fr → World → (AExit → Fr → World → Prop) → Prop := fun e f w K => match e with
  | .normal => False
  | .exit i => (match Nat.beq i 0 with | true => gN f 32 <|  K (.exit 0) [none, none, none, none, none, none, none, none, none, none, none, none, none, none, none, none, none, none, none, none, none, none, none, none, none, none, none, none, none, none, none, none] w | false => False)
  | .ret => False
def stream_packer_put.L : LHd := fun l f w K => (match Nat.beq l 1 with | true => ∃ N, stream_packer_put.hn1 N f w K | false => False)
theorem stream_packer_put.leG1 (F27 : type_of% @model_Model_Chance.f) (F82 : type_of% @coder_Encoder_Encode.f) (F29 : type_of% @model_Model_Learn.f) (N : Nat) (y0 : Option Addr) (y1 : Int) (y4 : Int) (w : World) (K : AExit → Fr → World → Prop) : awp (stream_packer_put.CG F27 F82 F29) stream_packer_put.L stream_packer_put.D tab stream_packer_put.b0 (lpost stream_packer_put.hn1 stream_packer_put.hx1 N K) [some (Value.pointer y0), some (Value.int .u8 y1), none, none, some (Value.int .i64 y4), none, none, none, none, none, none, none, none, none, none, none, none, none, none, none, none, none, none, none, none, none, none, none, none, none, none, none] w = stream_packer_put.l1G F27 F82 F29 (stream_packer_put.l1 N) y0 y1 y4 w (fun w => K (.exit 0) [none, none, none, none, none, none, none, none, none, none, none, none, none, none, none, none, none, none, none, none, none, none, none, none, none, none, none, none, none, none, none, none] w) := by kernel_rfl
theorem stream_packer_put.les1 (N : Nat) : stream_packer_put.l1 (N + 1) = stream_packer_put.l1G @model_Model_Chance.f @coder_Encoder_Encode.f @model_Model_Learn.f (stream_packer_put.l1 N) := by kernel_rfl
theorem stream_packer_put.le1 (N : Nat) (y0 : Option Addr) (y1 : Int) (y4 : Int) (w : World) (K : AExit → Fr → World → Prop) : awp stream_packer_put.C stream_packer_put.L stream_packer_put.D tab stream_packer_put.b0 (lpost stream_packer_put.hn1 stream_packer_put.hx1 N K) [some (Value.pointer y0), some (Value.int .u8 y1), none, none, some (Value.int .i64 y4), none, none, none, none, none, none, none, none, none, none, none, none, none, none, none, none, none, none, none, none, none, none, none, none, none, none, none] w = stream_packer_put.l1 (N + 1) y0 y1 y4 w (fun w => K (.exit 0) [none, none, none, none, none, none, none, none, none, none, none, none, none, none, none, none, none, none, none, none, none, none, none, none, none, none, none, none, none, none, none, none] w) := by
  rw [stream_packer_put.les1]
  exact stream_packer_put.leG1 @model_Model_Chance.f @coder_Encoder_Encode.f @model_Model_Learn.f N y0 y1 y4 w K
theorem stream_packer_put.lok1 : LoopOk Try.prog stream_packer_put.L stream_packer_put.b0 := by
  refine loop_ok tab_ok stream_packer_put.C_ok (D := stream_packer_put.D) (stream_packer_put.hn1) (stream_packer_put.hx1) (by kernel_rfl) (by rw [stream_packer_put.b0_loops]; exact lnil) ?_ ?_ ?_ ?_
  · intro f w K h
    unfold stream_packer_put.hn1 at h
    obtain ⟨hlen, h⟩ := gN_ok h
    obtain ⟨y0, h0, h⟩ := gP_ok h
    obtain ⟨y1, h1, h⟩ := gI_ok h
    obtain ⟨y4, h4, h⟩ := gI_ok h
    exact h
  · intro N f w K h
    unfold stream_packer_put.hn1 at h
    obtain ⟨hlen, h⟩ := gN_ok h
    obtain ⟨y0, h0, h⟩ := gP_ok h
    obtain ⟨y1, h1, h⟩ := gI_ok h
    obtain ⟨y4, h4, h⟩ := gI_ok h
    refine ⟨[some (Value.pointer y0), some (Value.int .u8 y1), none, none, some (Value.int .i64 y4), none, none, none, none, none, none, none, none, none, none, none, none, none, none, none, none, none, none, none, none, none, none, none, none, none, none, none], hlen, ⟨h0, h1, h4, trivial⟩, ?_⟩
    rw [stream_packer_put.le1]
    exact h
  · intro e f w K h
    cases e with
    | normal => exact h.elim
    | exit i =>
      unfold stream_packer_put.hx1 at h
      simp only at h
      split at h
      · rename_i hb
        obtain rfl := Nat.eq_of_beq_eq_true hb
        obtain ⟨hlen, h⟩ := gN_ok h
        exact ⟨[none, none, none, none, none, none, none, none, none, none, none, none, none, none, none, none, none, none, none, none, none, none, none, none, none, none, none, none, none, none, none, none], hlen, trivial, h⟩
      · exact (show False from h).elim
    | ret =>
      exact (show False from h).elim
  · intro f w K h
    have e : lid stream_packer_put.b0 = 1 := by kernel_rfl
    rw [e] at h
    exact h
theorem stream_packer_put.eqG (F27 : type_of% @model_Model_Chance.f) (F82 : type_of% @coder_Encoder_Encode.f) (F29 : type_of% @model_Model_Learn.f) (a0 : Option Addr) (a1 : Int) (w : World) (K : Value → World → Prop) : afn (stream_packer_put.CG F27 F82 F29) stream_packer_put.L stream_packer_put.D tab Try.f63 [(Value.pointer a0), (Value.int .u8 a1)] w K = stream_packer_put.G F27 F82 F29 a0 a1 w (fun w => K (Value.tuple #[]) w) := by kernel_rfl
theorem stream_packer_put.eq (a0 : Option Addr) (a1 : Int) (w : World) (K : Value → World → Prop) : afn stream_packer_put.C stream_packer_put.L stream_packer_put.D tab Try.f63 [(Value.pointer a0), (Value.int .u8 a1)] w K = stream_packer_put.f a0 a1 w (fun w => K (Value.tuple #[]) w) := stream_packer_put.eqG @model_Model_Chance.f @coder_Encoder_Encode.f @model_Model_Learn.f a0 a1 w K
theorem stream_packer_put.ok : FSound Try.prog 63 stream_packer_put.h := by
  intro args w K h
  unfold stream_packer_put.h stream_packer_put.H at h
  split at h
  ·
    replace h := vP_ok h
    obtain ⟨a0, rfl, h⟩ := h
    replace h := vI_ok h
    obtain ⟨a1, rfl, h⟩ := h
    refine ⟨by kernel_rfl, fn_ok tab_ok stream_packer_put.C_ok (L := stream_packer_put.L) (D := stream_packer_put.D) Try.func63 stream_packer_put.hb (by kernel_rfl) (by rw [stream_packer_put.c_loops]; exact lcons stream_packer_put.lok1 (lnil)) (Nat.le_of_ble_eq_true (by kernel_rfl)) ?_⟩
    rw [stream_packer_put.eq]
    exact h
  · exact h.elim
/-! ### (*valise/coder.Encoder).Flush: function 64 -/
def coder_Encoder_Flush.f (a0 : Option Addr) (w : World) (K : Option Addr → Nat → Nat → World → Prop) : Prop :=
  bif a0.isNone then
    K none 0 0 w
  else
    sm a0 fun p_6 =>
    ldL (p_6.add 2) w.drew fun x9_7 x9_7n x9_7c =>
    sm a0 fun p_8 =>
    ldI .u32 p_8 w.drew fun x14_9 =>
    sm a0 fun p_10 =>
    ldI .u32 p_10 w.drew fun x21_11 =>
    sm a0 fun p_12 =>
    ldI .u32 p_12 w.drew fun x28_13 =>
    sm a0 fun p_14 =>
    ldI .u32 p_14 w.drew fun x35_15 =>
    newC 5 [(Value.int .u8 (IntKind.wrap .u8 (shr .u32 x14_9 24))), (Value.int .u8 (IntKind.wrap .u8 (shr .u32 x21_11 16))), (Value.int .u8 (IntKind.wrap .u8 (shr .u32 x28_13 8))), (Value.int .u8 (IntKind.wrap .u8 x35_15))] w.drew fun a37_16 w =>
    (World.cell? w p_14 = some (.int .u32 x35_15)) ∧
    ((World.cell? w p_12 = some (.int .u32 x28_13)) ∧
    ((World.cell? w p_10 = some (.int .u32 x21_11)) ∧
    ((World.cell? w p_8 = some (.int .u32 x14_9)) ∧
    ((World.cell? w (p_6.add 2) = some (.slice x9_7 x9_7n x9_7c)) ∧
    (appL 5 1 1 [(Value.int .u8 0)] x9_7 x9_7n x9_7c (some a37_16) 4 4 w fun a38_17 a38_17n a38_17c w =>
    (World.cell? w p_14 = some (.int .u32 x35_15)) ∧
    ((World.cell? w p_12 = some (.int .u32 x28_13)) ∧
    ((World.cell? w p_10 = some (.int .u32 x21_11)) ∧
    ((World.cell? w p_8 = some (.int .u32 x14_9)) ∧
    (coder_NewEncoder.f  w fun r40_19 w =>
    sm r40_19 fun p_20 =>
    ldI .u32 (p_20.add 0) w fun x42_21 =>
    ldI .u32 (p_20.add 1) w fun x42_22 =>
    ldL (p_20.add 2) w fun x42_23 x42_23n x42_23c =>
    sm a0 fun p_24 =>
    stCs p_24 [(Value.int .u32 x42_21), (Value.int .u32 x42_22), (Value.slice x42_23 x42_23n x42_23c)] 0 w fun w =>
    K a38_17 a38_17n a38_17c w)))))))))
def coder_Encoder_Flush.H (F : type_of% @coder_Encoder_Flush.f) : Hf := fun args w K => match args with
  | [v0] => vP v0 fun a0 => F a0 w (fun r0 r0n r0c w => K (Value.slice r0 r0n r0c) w)
  | _ => False
def coder_Encoder_Flush.h : Hf := coder_Encoder_Flush.H @coder_Encoder_Flush.f
def coder_Encoder_Flush.C : Hd := hcons 62 coder_NewEncoder.h (hnil)
theorem coder_Encoder_Flush.C_ok : CSound Try.prog coder_Encoder_Flush.C := hcons_ok coder_NewEncoder.ok (hnil_ok)
def coder_Encoder_Flush.D : Nat → Plan := fun i => (match Nat.beq i 3 with | true => .take 0 (.take 1 (.take 2 (.take 3 (.take 4 (.take 5 (.take 6 (.take 7 (.take 8 (.take 9 (.take 10 (.take 11 (.take 12 (.take 13 (.take 14 (.take 15 (.take 16 (.take 17 (.take 18 (.take 19 (.take 20 (.take 21 (.take 22 (.take 23 (.take 24 (.take 25 (.take 26 (.take 27 (.take 28 (.take 29 (.take 30 (.eff 31 (.eff 32 (.take 33 (.done)))))))))))))))))))))))))))))))))) | false => .done)
noncomputable def coder_Encoder_Flush.c : Code := Try.f64.body.getD .skip
theorem coder_Encoder_Flush.hb : Try.f64.body = some coder_Encoder_Flush.c := by kernel_rfl
theorem coder_Encoder_Flush.c_loops : loopsOf coder_Encoder_Flush.c = [] := by kernel_rfl
def coder_Encoder_Flush.L : LHd := fun l f w K => False
theorem coder_Encoder_Flush.eq (a0 : Option Addr) (w : World) (K : Value → World → Prop) : afn coder_Encoder_Flush.C coder_Encoder_Flush.L coder_Encoder_Flush.D tab Try.f64 [(Value.pointer a0)] w K = coder_Encoder_Flush.f a0 w (fun r0 r0n r0c w => K (Value.slice r0 r0n r0c) w) := by kernel_rfl
theorem coder_Encoder_Flush.ok : FSound Try.prog 64 coder_Encoder_Flush.h := by
  intro args w K h
  unfold coder_Encoder_Flush.h coder_Encoder_Flush.H at h
  split at h
  ·
    replace h := vP_ok h
    obtain ⟨a0, rfl, h⟩ := h
    refine ⟨by kernel_rfl, fn_ok tab_ok coder_Encoder_Flush.C_ok (L := coder_Encoder_Flush.L) (D := coder_Encoder_Flush.D) Try.func64 coder_Encoder_Flush.hb (by kernel_rfl) (by rw [coder_Encoder_Flush.c_loops]; exact lnil) (Nat.le_of_ble_eq_true (by kernel_rfl)) ?_⟩
    rw [coder_Encoder_Flush.eq]
    exact h
  · exact h.elim
/-! ### valise/stream.Pack: function 33 -/
def stream_Pack.l7 : Nat → Addr → Option Addr → Nat → Nat → Int → Int → World → (Addr → World → Prop) → Prop
  | 0, _, _, _, _, _, _, _, _ => False
  | N + 1, y6, y22, y22n, y22c, y23, y24, w, K1 =>
    bif (decide (y24 < y23)) then
      sm y22 fun p_19 =>
      if 0 ≤ (y24 : Int) ∧ (y24 : Int) < ((y22n : Nat) : Int) then
      ldI .u8 (p_19.add (Int.toNat y24)) w fun x27_20 =>
      stream_packer_put.f (some y6) x27_20 w fun w =>
      stream_Pack.l7 N y6 y22 y22n y22c y23 (IntKind.wrap .i64 (y24 + 1)) w K1
      else False
    else
      K1 y6 w

def stream_Pack.f (a0 : Option Addr) (a0n : Nat) (a0c : Nat) (a1 : Int) (w : World) (K : Option Addr → Nat → Nat → Int → World → Prop) : Prop :=
  stream_right.f a1 w fun r11_4 w =>
  bif (!r11_4) then
    K none 0 0 1 w
  else
    let v13_7 := (decide (((a0n : Nat) : Int) > 1048576))
    bif v13_7 then
      K none 0 0 5 w
    else
      coder_NewEncoder.f  w fun r17_10 w =>
      model_New.f a1 w fun r19_11 w =>
      newC 95 [(Value.pointer r17_10), (Value.pointer r19_11)] w fun a21_12 w =>
      ∃ N_21 : Nat, stream_Pack.l7 N_21 a21_12 a0 a0n a0c ((a0n : Nat) : Int) 0 w
      (fun o6_22 w =>
        ldP o6_22 w fun x35_24 =>
        coder_Encoder_Flush.f x35_24 w fun r36_25 r36_25n r36_25c w =>
        K r36_25 r36_25n r36_25c 0 w)
def stream_Pack.H (F : type_of% @stream_Pack.f) : Hf := fun args w K => match args with
  | [v0, v1] => vL v0 fun a0 a0n a0c => vI .i64 v1 fun a1 => F a0 a0n a0c a1 w (fun r0 r0n r0c r1 w => K (Value.tuple #[(Value.slice r0 r0n r0c), (Value.int .i64 r1)]) w)
  | _ => False
def stream_Pack.h : Hf := stream_Pack.H @stream_Pack.f
def stream_Pack.CG (F61 : type_of% @stream_right.f) (F62 : type_of% @coder_NewEncoder.f) (F24 : type_of% @model_New.f) (F63 : type_of% @stream_packer_put.f) (F64 : type_of% @coder_Encoder_Flush.f) : Hd := hcons 64 (coder_Encoder_Flush.H F64) (hcons 63 (stream_packer_put.H F63) (hcons 24 (model_New.H F24) (hcons 62 (coder_NewEncoder.H F62) (hcons 61 (stream_right.H F61) (hnil)))))
def stream_Pack.C : Hd := stream_Pack.CG @stream_right.f @coder_NewEncoder.f @model_New.f @stream_packer_put.f @coder_Encoder_Flush.f
def stream_Pack.G (F61 : type_of% @stream_right.f) (F62 : type_of% @coder_NewEncoder.f) (F24 : type_of% @model_New.f) (F63 : type_of% @stream_packer_put.f) (F64 : type_of% @coder_Encoder_Flush.f) (a0 : Option Addr) (a0n : Nat) (a0c : Nat) (a1 : Int) (w : World) (K : Option Addr → Nat → Nat → Int → World → Prop) : Prop :=
  F61 a1 w fun r11_4 w =>
  bif (!r11_4) then
    K none 0 0 1 w
  else
    let v13_7 := (decide (((a0n : Nat) : Int) > 1048576))
    bif v13_7 then
      K none 0 0 5 w
    else
      F62  w fun r17_10 w =>
      F24 a1 w fun r19_11 w =>
      newC 95 [(Value.pointer r17_10), (Value.pointer r19_11)] w fun a21_12 w =>
      ∃ N_21 : Nat, stream_Pack.l7 N_21 a21_12 a0 a0n a0c ((a0n : Nat) : Int) 0 w
      (fun o6_22 w =>
        ldP o6_22 w fun x35_24 =>
        F64 x35_24 w fun r36_25 r36_25n r36_25c w =>
        K r36_25 r36_25n r36_25c 0 w)
theorem stream_Pack.C_ok : CSound Try.prog stream_Pack.C := hcons_ok coder_Encoder_Flush.ok (hcons_ok stream_packer_put.ok (hcons_ok model_New.ok (hcons_ok coder_NewEncoder.ok (hcons_ok stream_right.ok (hnil_ok)))))
def stream_Pack.D : Nat → Plan := fun i => .done
noncomputable def stream_Pack.c : Code := Try.f33.body.getD .skip
theorem stream_Pack.hb : Try.f33.body = some stream_Pack.c := by kernel_rfl
noncomputable def stream_Pack.b0 : Code := (loopsOf stream_Pack.c).getD 0 .skip
theorem stream_Pack.b0_loops : loopsOf stream_Pack.b0 = [] := by kernel_rfl
theorem stream_Pack.c_loops : loopsOf stream_Pack.c = [stream_Pack.b0] := by kernel_rfl
def stream_Pack.l7G (F61 : type_of% @stream_right.f) (F62 : type_of% @coder_NewEncoder.f) (F24 : type_of% @model_New.f) (F63 : type_of% @stream_packer_put.f) (F64 : type_of% @coder_Encoder_Flush.f) (R : Addr → Option Addr → Nat → Nat → Int → Int → World → (Addr → World → Prop) → Prop) : Addr → Option Addr → Nat → Nat → Int → Int → World → (Addr → World → Prop) → Prop := fun y6 y22 y22n y22c y23 y24 w K1 =>
    bif (decide (y24 < y23)) then
      sm y22 fun p_19 =>
      if 0 ≤ (y24 : Int) ∧ (y24 : Int) < ((y22n : Nat) : Int) then
      ldI .u8 (p_19.add (Int.toNat y24)) w fun x27_20 =>
      F63 (some y6) x27_20 w fun w =>
      R y6 y22 y22n y22c y23 (IntKind.wrap .i64 (y24 + 1)) w K1
      else False
    else
      K1 y6 w

def stream_Pack.hn7 (N : Nat) (f : Fr) (w : World) (K : AExit → Fr → World → Prop) : Prop :=
  gN f 37 <| gQ f 6 fun y6 => gL f 22 fun y22 y22n y22c => gI .i64 f 23 fun y23 => gI .i64 f 24 fun y24 => stream_Pack.l7 N y6 y22 y22n y22c y23 y24 w (fun o6 w => K (.exit 1) [none, none, none, none, none, none, some (Value.pointer (some o6)), none, none, none, none, none, none, none, none, none, none, none, none, none, none, none, none, none, none, none, none, none, none, none, none, none, none, none, none, none, none] w)
def stream_Pack.hx7 : AExit → Fr → World → (AExit → Fr → World → Prop) → Prop := fun e f w K => match e with
  | .normal => False
  | .exit i => (match Nat.beq i 1 with | true => gN f 37 <| gQ f 6 fun o6 => K (.exit 1) [none, none, none, none, none, none, some (Value.pointer (some o6)), none, none, none, none, none, none, none, none, none, none, none, none, none, none, none, none, none, none, none, none, none, none, none, none, none, none, none, none, none, none] w | false => False)
  | .ret => False
def stream_Pack.L : LHd := fun l f w K => (match Nat.beq l 7 with | true => ∃ N, stream_Pack.hn7 N f w K | false => False)
theorem stream_Pack.leG7 (F61 : type_of% @stream_right.f) (F62 : type_of% @coder_NewEncoder.f) (F24 : type_of% @model_New.f) (F63 : type_of% @stream_packer_put.f) (F64 : type_of% @coder_Encoder_Flush.f) (N : Nat) (y6 : Addr) (y22 : Option Addr) (y22n : Nat) (y22c : Nat) (y23 : Int) (y24 : Int) (w : World) (K : AExit → Fr → World → Prop) : awp (stream_Pack.CG F61 F62 F24 F63 F64) stream_Pack.L stream_Pack.D tab stream_Pack.b0 (lpost stream_Pack.hn7 stream_Pack.hx7 N K) [none, none, none, none, none, none, some (Value.pointer (some y6)), none, none, none, none, none, none, none, none, none, none, none, none, none, none, none, some (Value.slice y22 y22n y22c), some (Value.int .i64 y23), some (Value.int .i64 y24), none, none, none, none, none, none, none, none, none, none, none, none] w = stream_Pack.l7G F61 F62 F24 F63 F64 (stream_Pack.l7 N) y6 y22 y22n y22c y23 y24 w (fun o6 w => K (.exit 1) [none, none, none, none, none, none, some (Value.pointer (some o6)), none, none, none, none, none, none, none, none, none, none, none, none, none, none, none, none, none, none, none, none, none, none, none, none, none, none, none, none, none, none] w) := by kernel_rfl
theorem stream_Pack.les7 (N : Nat) : stream_Pack.l7 (N + 1) = stream_Pack.l7G @stream_right.f @coder_NewEncoder.f @model_New.f @stream_packer_put.f @coder_Encoder_Flush.f (stream_Pack.l7 N) := by kernel_rfl
theorem stream_Pack.le7 (N : Nat) (y6 : Addr) (y22 : Option Addr) (y22n : Nat) (y22c : Nat) (y23 : Int) (y24 : Int) (w : World) (K : AExit → Fr → World → Prop) : awp stream_Pack.C stream_Pack.L stream_Pack.D tab stream_Pack.b0 (lpost stream_Pack.hn7 stream_Pack.hx7 N K) [none, none, none, none, none, none, some (Value.pointer (some y6)), none, none, none, none, none, none, none, none, none, none, none, none, none, none, none, some (Value.slice y22 y22n y22c), some (Value.int .i64 y23), some (Value.int .i64 y24), none, none, none, none, none, none, none, none, none, none, none, none] w = stream_Pack.l7 (N + 1) y6 y22 y22n y22c y23 y24 w (fun o6 w => K (.exit 1) [none, none, none, none, none, none, some (Value.pointer (some o6)), none, none, none, none, none, none, none, none, none, none, none, none, none, none, none, none, none, none, none, none, none, none, none, none, none, none, none, none, none, none] w) := by
  rw [stream_Pack.les7]
  exact stream_Pack.leG7 @stream_right.f @coder_NewEncoder.f @model_New.f @stream_packer_put.f @coder_Encoder_Flush.f N y6 y22 y22n y22c y23 y24 w K
theorem stream_Pack.lok7 : LoopOk Try.prog stream_Pack.L stream_Pack.b0 := by
  refine loop_ok tab_ok stream_Pack.C_ok (D := stream_Pack.D) (stream_Pack.hn7) (stream_Pack.hx7) (by kernel_rfl) (by rw [stream_Pack.b0_loops]; exact lnil) ?_ ?_ ?_ ?_
  · intro f w K h
    unfold stream_Pack.hn7 at h
    obtain ⟨hlen, h⟩ := gN_ok h
    obtain ⟨y6, h6, h⟩ := gQ_ok h
    obtain ⟨y22, y22n, y22c, h22, h⟩ := gL_ok h
    obtain ⟨y23, h23, h⟩ := gI_ok h
    obtain ⟨y24, h24, h⟩ := gI_ok h
    exact h
  · intro N f w K h
    unfold stream_Pack.hn7 at h
    obtain ⟨hlen, h⟩ := gN_ok h
    obtain ⟨y6, h6, h⟩ := gQ_ok h
    obtain ⟨y22, y22n, y22c, h22, h⟩ := gL_ok h
    obtain ⟨y23, h23, h⟩ := gI_ok h
    obtain ⟨y24, h24, h⟩ := gI_ok h
    refine ⟨[none, none, none, none, none, none, some (Value.pointer (some y6)), none, none, none, none, none, none, none, none, none, none, none, none, none, none, none, some (Value.slice y22 y22n y22c), some (Value.int .i64 y23), some (Value.int .i64 y24), none, none, none, none, none, none, none, none, none, none, none, none], hlen, ⟨h6, h22, h23, h24, trivial⟩, ?_⟩
    rw [stream_Pack.le7]
    exact h
  · intro e f w K h
    cases e with
    | normal => exact h.elim
    | exit i =>
      unfold stream_Pack.hx7 at h
      simp only at h
      split at h
      · rename_i hb
        obtain rfl := Nat.eq_of_beq_eq_true hb
        obtain ⟨hlen, h⟩ := gN_ok h
        obtain ⟨o6, h6, h⟩ := gQ_ok h
        exact ⟨[none, none, none, none, none, none, some (Value.pointer (some o6)), none, none, none, none, none, none, none, none, none, none, none, none, none, none, none, none, none, none, none, none, none, none, none, none, none, none, none, none, none, none], hlen, ⟨h6, trivial⟩, h⟩
      · exact (show False from h).elim
    | ret =>
      exact (show False from h).elim
  · intro f w K h
    have e : lid stream_Pack.b0 = 7 := by kernel_rfl
    rw [e] at h
    exact h
theorem stream_Pack.eqG (F61 : type_of% @stream_right.f) (F62 : type_of% @coder_NewEncoder.f) (F24 : type_of% @model_New.f) (F63 : type_of% @stream_packer_put.f) (F64 : type_of% @coder_Encoder_Flush.f) (a0 : Option Addr) (a0n : Nat) (a0c : Nat) (a1 : Int) (w : World) (K : Value → World → Prop) : afn (stream_Pack.CG F61 F62 F24 F63 F64) stream_Pack.L stream_Pack.D tab Try.f33 [(Value.slice a0 a0n a0c), (Value.int .i64 a1)] w K = stream_Pack.G F61 F62 F24 F63 F64 a0 a0n a0c a1 w (fun r0 r0n r0c r1 w => K (Value.tuple #[(Value.slice r0 r0n r0c), (Value.int .i64 r1)]) w) := by kernel_rfl
theorem stream_Pack.eq (a0 : Option Addr) (a0n : Nat) (a0c : Nat) (a1 : Int) (w : World) (K : Value → World → Prop) : afn stream_Pack.C stream_Pack.L stream_Pack.D tab Try.f33 [(Value.slice a0 a0n a0c), (Value.int .i64 a1)] w K = stream_Pack.f a0 a0n a0c a1 w (fun r0 r0n r0c r1 w => K (Value.tuple #[(Value.slice r0 r0n r0c), (Value.int .i64 r1)]) w) := stream_Pack.eqG @stream_right.f @coder_NewEncoder.f @model_New.f @stream_packer_put.f @coder_Encoder_Flush.f a0 a0n a0c a1 w K
theorem stream_Pack.ok : FSound Try.prog 33 stream_Pack.h := by
  intro args w K h
  unfold stream_Pack.h stream_Pack.H at h
  split at h
  ·
    replace h := vL_ok h
    obtain ⟨a0, a0n, a0c, rfl, h⟩ := h
    replace h := vI_ok h
    obtain ⟨a1, rfl, h⟩ := h
    refine ⟨by kernel_rfl, fn_ok tab_ok stream_Pack.C_ok (L := stream_Pack.L) (D := stream_Pack.D) Try.func33 stream_Pack.hb (by kernel_rfl) (by rw [stream_Pack.c_loops]; exact lcons stream_Pack.lok7 (lnil)) (Nat.le_of_ble_eq_true (by kernel_rfl)) ?_⟩
    rw [stream_Pack.eq]
    exact h
  · exact h.elim
/-! ### valise/valiselaw09.awake: function 31 -/
def law09_awake.f  (w : World) (K : Bool → World → Prop) : Prop :=
  newC 5 [(Value.int .u8 97)] w fun a4_3 w =>
  mkStr a4_3 w fun w =>
  stream_Pack.f (some a4_3) 1 1 0 w fun r6_4 r6_4n r6_4c r6_5 w =>
  bif (r6_5 == 0) then
    let v0_7 := (decide (((r6_4n : Nat) : Int) ≥ 4))
    K v0_7 w
  else
    K false w
def law09_awake.H (F : type_of% @law09_awake.f) : Hf := fun args w K => match args with
  | [] =>  F  w (fun r0 w => K (Value.bool r0) w)
  | _ => False
def law09_awake.h : Hf := law09_awake.H @law09_awake.f
def law09_awake.C : Hd := hcons 33 stream_Pack.h (hnil)
theorem law09_awake.C_ok : CSound Try.prog law09_awake.C := hcons_ok stream_Pack.ok (hnil_ok)
def law09_awake.D : Nat → Plan := fun i => .done
noncomputable def law09_awake.c : Code := Try.f31.body.getD .skip
theorem law09_awake.hb : Try.f31.body = some law09_awake.c := by kernel_rfl
theorem law09_awake.c_loops : loopsOf law09_awake.c = [] := by kernel_rfl
def law09_awake.L : LHd := fun l f w K => False
theorem law09_awake.eq  (w : World) (K : Value → World → Prop) : afn law09_awake.C law09_awake.L law09_awake.D tab Try.f31 [] w K = law09_awake.f  w (fun r0 w => K (Value.bool r0) w) := by kernel_rfl
theorem law09_awake.ok : FSound Try.prog 31 law09_awake.h := by
  intro args w K h
  unfold law09_awake.h law09_awake.H at h
  split at h
  ·
    refine ⟨by kernel_rfl, fn_ok tab_ok law09_awake.C_ok (L := law09_awake.L) (D := law09_awake.D) Try.func31 law09_awake.hb (by kernel_rfl) (by rw [law09_awake.c_loops]; exact lnil) (Nat.le_of_ble_eq_true (by kernel_rfl)) ?_⟩
    rw [law09_awake.eq]
    exact h
  · exact h.elim
/-! ### valise/valisehelp.Own[byte]: function 32 -/
def help_Own_byte.l5 : Nat → Int → Option Addr → Nat → Nat → Option Addr → Nat → Nat → Int → World → (Option Addr → Nat → Nat → World → Prop) → Prop
  | 0, _, _, _, _, _, _, _, _, _, _ => False
  | N + 1, y1, y5, y5n, y5c, y6, y6n, y6c, y7, w, K0 =>
    bif (decide (y7 < ((y6n : Nat) : Int))) then
      sm y6 fun p_15 =>
      if 0 ≤ (y7 : Int) ∧ (y7 : Int) < ((y6n : Nat) : Int) then
      stC (p_15.add (Int.toNat y7)) (Value.int .u8 y1) w fun w =>
      let v7_16 := (IntKind.wrap .i64 (y7 + 1))
      help_Own_byte.l5 N y1 y5 y5n y5c y6 y6n y6c v7_16 w K0
      else False
    else
      K0 y5 y5n y5c w

def help_Own_byte.f (a0 : Option Addr) (a0n : Nat) (a0c : Nat) (a1 : Int) (w : World) (K : Option Addr → Nat → Nat → World → Prop) : Prop :=
  mkL 5 1 1 [(Value.int .u8 0)] 0 (IntKind.wrap .i64 (((a0n : Nat) : Int) + 3)) w fun a11_3 a11_3n a11_3c w =>
  appL 5 1 1 [(Value.int .u8 0)] a11_3 a11_3n a11_3c a0 a0n a0c w fun a14_5 a14_5n a14_5c w =>
  bnd a14_5n a14_5c none (some (Value.int .i64 (IntKind.wrap .i64 (((a0n : Nat) : Int) + 3)))) fun l_7 h_8 =>
  let v7_11 := ((a0n : Nat) : Int)
  ∃ N_17 : Nat, help_Own_byte.l5 N_17 a1 a14_5 a14_5n a14_5c (adrS a14_5 l_7 a14_5c 1) (h_8 - l_7) (a14_5c - l_7) v7_11 w
  (fun o5_18 o5_18n o5_18c w =>
    K o5_18 o5_18n o5_18c w)
def help_Own_byte.H (F : type_of% @help_Own_byte.f) : Hf := fun args w K => match args with
  | [v0, v1] => vL v0 fun a0 a0n a0c => vI .u8 v1 fun a1 => F a0 a0n a0c a1 w (fun r0 r0n r0c w => K (Value.slice r0 r0n r0c) w)
  | _ => False
def help_Own_byte.h : Hf := help_Own_byte.H @help_Own_byte.f
def help_Own_byte.C : Hd := hnil
theorem help_Own_byte.C_ok : CSound Try.prog help_Own_byte.C := hnil_ok
def help_Own_byte.D : Nat → Plan := fun i => .done
noncomputable def help_Own_byte.c : Code := Try.f32.body.getD .skip
theorem help_Own_byte.hb : Try.f32.body = some help_Own_byte.c := by kernel_rfl
noncomputable def help_Own_byte.b0 : Code := (loopsOf help_Own_byte.c).getD 0 .skip
theorem help_Own_byte.b0_loops : loopsOf help_Own_byte.b0 = [] := by kernel_rfl
theorem help_Own_byte.c_loops : loopsOf help_Own_byte.c = [help_Own_byte.b0] := by kernel_rfl
def help_Own_byte.hn5 (N : Nat) (f : Fr) (w : World) (K : AExit → Fr → World → Prop) : Prop :=
  gN f 33 <| gI .u8 f 1 fun y1 => gL f 5 fun y5 y5n y5c => gL f 6 fun y6 y6n y6c => gI .i64 f 7 fun y7 => help_Own_byte.l5 N y1 y5 y5n y5c y6 y6n y6c y7 w (fun o5 o5n o5c w => K (.exit 0) [none, none, none, none, none, some (Value.slice o5 o5n o5c), none, none, none, none, none, none, none, none, none, none, none, none, none, none, none, none, none, none, none, none, none, none, none, none, none, none, none] w)
def help_Own_byte.hx5 : AExit → Fr → World → (AExit → Fr → World → Prop) → Prop := fun e f w K => match e with
  | .normal => False
  | .exit i => (match Nat.beq i 0 with | true => gN f 33 <| gL f 5 fun o5 o5n o5c => K (.exit 0) [none, none, none, none, none, some (Value.slice o5 o5n o5c), none, none, none, none, none, none, none, none, none, none, none, none, none, none, none, none, none, none, none, none, none, none, none, none, none, none, none] w | false => False)
  | .ret => False
def help_Own_byte.L : LHd := fun l f w K => (match Nat.beq l 5 with | true => ∃ N, help_Own_byte.hn5 N f w K | false => False)
theorem help_Own_byte.le5 (N : Nat) (y1 : Int) (y5 : Option Addr) (y5n : Nat) (y5c : Nat) (y6 : Option Addr) (y6n : Nat) (y6c : Nat) (y7 : Int) (w : World) (K : AExit → Fr → World → Prop) : awp help_Own_byte.C help_Own_byte.L help_Own_byte.D tab help_Own_byte.b0 (lpost help_Own_byte.hn5 help_Own_byte.hx5 N K) [none, some (Value.int .u8 y1), none, none, none, some (Value.slice y5 y5n y5c), some (Value.slice y6 y6n y6c), some (Value.int .i64 y7), none, none, none, none, none, none, none, none, none, none, none, none, none, none, none, none, none, none, none, none, none, none, none, none, none] w = help_Own_byte.l5 (N + 1) y1 y5 y5n y5c y6 y6n y6c y7 w (fun o5 o5n o5c w => K (.exit 0) [none, none, none, none, none, some (Value.slice o5 o5n o5c), none, none, none, none, none, none, none, none, none, none, none, none, none, none, none, none, none, none, none, none, none, none, none, none, none, none, none] w) := by kernel_rfl
theorem help_Own_byte.lok5 : LoopOk Try.prog help_Own_byte.L help_Own_byte.b0 := by
  refine loop_ok tab_ok help_Own_byte.C_ok (D := help_Own_byte.D) (help_Own_byte.hn5) (help_Own_byte.hx5) (by kernel_rfl) (by rw [help_Own_byte.b0_loops]; exact lnil) ?_ ?_ ?_ ?_
  · intro f w K h
    unfold help_Own_byte.hn5 at h
    obtain ⟨hlen, h⟩ := gN_ok h
    obtain ⟨y1, h1, h⟩ := gI_ok h
    obtain ⟨y5, y5n, y5c, h5, h⟩ := gL_ok h
    obtain ⟨y6, y6n, y6c, h6, h⟩ := gL_ok h
    obtain ⟨y7, h7, h⟩ := gI_ok h
    exact h
  · intro N f w K h
    unfold help_Own_byte.hn5 at h
    obtain ⟨hlen, h⟩ := gN_ok h
    obtain ⟨y1, h1, h⟩ := gI_ok h
    obtain ⟨y5, y5n, y5c, h5, h⟩ := gL_ok h
    obtain ⟨y6, y6n, y6c, h6, h⟩ := gL_ok h
    obtain ⟨y7, h7, h⟩ := gI_ok h
    refine ⟨[none, some (Value.int .u8 y1), none, none, none, some (Value.slice y5 y5n y5c), some (Value.slice y6 y6n y6c), some (Value.int .i64 y7), none, none, none, none, none, none, none, none, none, none, none, none, none, none, none, none, none, none, none, none, none, none, none, none, none], hlen, ⟨h1, h5, h6, h7, trivial⟩, ?_⟩
    rw [help_Own_byte.le5]
    exact h
  · intro e f w K h
    cases e with
    | normal => exact h.elim
    | exit i =>
      unfold help_Own_byte.hx5 at h
      simp only at h
      split at h
      · rename_i hb
        obtain rfl := Nat.eq_of_beq_eq_true hb
        obtain ⟨hlen, h⟩ := gN_ok h
        obtain ⟨o5, o5n, o5c, h5, h⟩ := gL_ok h
        exact ⟨[none, none, none, none, none, some (Value.slice o5 o5n o5c), none, none, none, none, none, none, none, none, none, none, none, none, none, none, none, none, none, none, none, none, none, none, none, none, none, none, none], hlen, ⟨h5, trivial⟩, h⟩
      · exact (show False from h).elim
    | ret =>
      exact (show False from h).elim
  · intro f w K h
    have e : lid help_Own_byte.b0 = 5 := by kernel_rfl
    rw [e] at h
    exact h
theorem help_Own_byte.eq (a0 : Option Addr) (a0n : Nat) (a0c : Nat) (a1 : Int) (w : World) (K : Value → World → Prop) : afn help_Own_byte.C help_Own_byte.L help_Own_byte.D tab Try.f32 [(Value.slice a0 a0n a0c), (Value.int .u8 a1)] w K = help_Own_byte.f a0 a0n a0c a1 w (fun r0 r0n r0c w => K (Value.slice r0 r0n r0c) w) := by kernel_rfl
theorem help_Own_byte.ok : FSound Try.prog 32 help_Own_byte.h := by
  intro args w K h
  unfold help_Own_byte.h help_Own_byte.H at h
  split at h
  ·
    replace h := vL_ok h
    obtain ⟨a0, a0n, a0c, rfl, h⟩ := h
    replace h := vI_ok h
    obtain ⟨a1, rfl, h⟩ := h
    refine ⟨by kernel_rfl, fn_ok tab_ok help_Own_byte.C_ok (L := help_Own_byte.L) (D := help_Own_byte.D) Try.func32 help_Own_byte.hb (by kernel_rfl) (by rw [help_Own_byte.c_loops]; exact lcons help_Own_byte.lok5 (lnil)) (Nat.le_of_ble_eq_true (by kernel_rfl)) ?_⟩
    rw [help_Own_byte.eq]
    exact h
  · exact h.elim
/-! ### valise/valiseref04.full: function 83 -/
def ref04_full.f  (w : World) (K : Int → Int → World → Prop) : Prop :=
  newC 133 [(Value.int .u32 0), (Value.int .u32 0)] w fun a0_2 w =>
  stCs a0_2 [(Value.int .u32 0), (Value.int .u32 4294967295)] 0 w fun w =>
  ldI .u32 (a0_2.add 0) w fun q_4_0 =>
  ldI .u32 (a0_2.add 1) w fun q_4_1 =>
  K q_4_0 q_4_1 w
def ref04_full.H (F : type_of% @ref04_full.f) : Hf := fun args w K => match args with
  | [] =>  F  w (fun r0_0 r0_1 w => K (Value.agg #[(Value.int .u32 r0_0), (Value.int .u32 r0_1)]) w)
  | _ => False
def ref04_full.h : Hf := ref04_full.H @ref04_full.f
def ref04_full.C : Hd := hnil
theorem ref04_full.C_ok : CSound Try.prog ref04_full.C := hnil_ok
def ref04_full.D : Nat → Plan := fun i => .done
noncomputable def ref04_full.c : Code := Try.f83.body.getD .skip
theorem ref04_full.hb : Try.f83.body = some ref04_full.c := by kernel_rfl
theorem ref04_full.c_loops : loopsOf ref04_full.c = [] := by kernel_rfl
def ref04_full.L : LHd := fun l f w K => False
theorem ref04_full.eq  (w : World) (K : Value → World → Prop) : afn ref04_full.C ref04_full.L ref04_full.D tab Try.f83 [] w K = ref04_full.f  w (fun r0_0 r0_1 w => K (Value.agg #[(Value.int .u32 r0_0), (Value.int .u32 r0_1)]) w) := by kernel_rfl
theorem ref04_full.ok : FSound Try.prog 83 ref04_full.h := by
  intro args w K h
  unfold ref04_full.h ref04_full.H at h
  split at h
  ·
    refine ⟨by kernel_rfl, fn_ok tab_ok ref04_full.C_ok (L := ref04_full.L) (D := ref04_full.D) Try.func83 ref04_full.hb (by kernel_rfl) (by rw [ref04_full.c_loops]; exact lnil) (Nat.le_of_ble_eq_true (by kernel_rfl)) ?_⟩
    rw [ref04_full.eq]
    exact h
  · exact h.elim
/-! ### valise/valiseref04.NewEncoder: function 65 -/
def ref04_NewEncoder.f  (w : World) (K : Option Addr → World → Prop) : Prop :=
  ref04_full.f  w fun r1_3_0 r1_3_1 w =>
  newC 136 [(Value.int .u32 r1_3_0), (Value.int .u32 r1_3_1), (Value.slice none 0 0)] w fun a3_4 w =>
  K (some a3_4) w
def ref04_NewEncoder.H (F : type_of% @ref04_NewEncoder.f) : Hf := fun args w K => match args with
  | [] =>  F  w (fun r0 w => K (Value.pointer r0) w)
  | _ => False
def ref04_NewEncoder.h : Hf := ref04_NewEncoder.H @ref04_NewEncoder.f
def ref04_NewEncoder.C : Hd := hcons 83 ref04_full.h (hnil)
theorem ref04_NewEncoder.C_ok : CSound Try.prog ref04_NewEncoder.C := hcons_ok ref04_full.ok (hnil_ok)
def ref04_NewEncoder.D : Nat → Plan := fun i => .done
noncomputable def ref04_NewEncoder.c : Code := Try.f65.body.getD .skip
theorem ref04_NewEncoder.hb : Try.f65.body = some ref04_NewEncoder.c := by kernel_rfl
theorem ref04_NewEncoder.c_loops : loopsOf ref04_NewEncoder.c = [] := by kernel_rfl
def ref04_NewEncoder.L : LHd := fun l f w K => False
theorem ref04_NewEncoder.eq  (w : World) (K : Value → World → Prop) : afn ref04_NewEncoder.C ref04_NewEncoder.L ref04_NewEncoder.D tab Try.f65 [] w K = ref04_NewEncoder.f  w (fun r0 w => K (Value.pointer r0) w) := by kernel_rfl
theorem ref04_NewEncoder.ok : FSound Try.prog 65 ref04_NewEncoder.h := by
  intro args w K h
  unfold ref04_NewEncoder.h ref04_NewEncoder.H at h
  split at h
  ·
    refine ⟨by kernel_rfl, fn_ok tab_ok ref04_NewEncoder.C_ok (L := ref04_NewEncoder.L) (D := ref04_NewEncoder.D) Try.func65 ref04_NewEncoder.hb (by kernel_rfl) (by rw [ref04_NewEncoder.c_loops]; exact lnil) (Nat.le_of_ble_eq_true (by kernel_rfl)) ?_⟩
    rw [ref04_NewEncoder.eq]
    exact h
  · exact h.elim
/-! ### (valise/valiseref04.Range).Mid: function 92 -/
def ref04_Range_Mid.f (a0_0 : Int) (a0_1 : Int) (a1 : Int) (w : World) (K : Int → World → Prop) : Prop :=
  newC 133 [(Value.int .u32 a0_0), (Value.int .u32 a0_1)] w fun a2_2 w =>
  let v5_4 := (IntKind.wrap .u64 (mx 1 (mn a1 4095)))
  ldI .u32 (a2_2.add 1) w fun x12_6 =>
  ldI .u32 a2_2 w fun x14_7 =>
  let v6_8 := (IntKind.wrap .u64 (IntKind.wrap .u32 (x12_6 - x14_7)))
  ldI .u32 a2_2 w fun x18_10 =>
  let v4_11 := (IntKind.wrap .u32 (x18_10 + (IntKind.wrap .u32 (IntKind.wrap .u64 ((IntKind.wrap .u64 ((IntKind.wrap .u64 (Int.tdiv v6_8 4096)) * v5_4)) + (IntKind.wrap .u64 (Int.tdiv (IntKind.wrap .u64 ((Int.tmod v6_8 4096) * v5_4)) 4096)))))))
  K v4_11 w
def ref04_Range_Mid.H (F : type_of% @ref04_Range_Mid.f) : Hf := fun args w K => match args with
  | [v0, v1] => vT v0 fun l => cI .u32 l fun a0_0 l => cI .u32 l fun a0_1 l => cE l <| vI .i64 v1 fun a1 => F a0_0 a0_1 a1 w (fun r0 w => K (Value.int .u32 r0) w)
  | _ => False
def ref04_Range_Mid.h : Hf := ref04_Range_Mid.H @ref04_Range_Mid.f
def ref04_Range_Mid.C : Hd := hnil
theorem ref04_Range_Mid.C_ok : CSound Try.prog ref04_Range_Mid.C := hnil_ok
def ref04_Range_Mid.D : Nat → Plan := fun i => .done
noncomputable def ref04_Range_Mid.c : Code := Try.f92.body.getD .skip
theorem ref04_Range_Mid.hb : Try.f92.body = some ref04_Range_Mid.c := by kernel_rfl
theorem ref04_Range_Mid.c_loops : loopsOf ref04_Range_Mid.c = [] := by kernel_rfl
def ref04_Range_Mid.L : LHd := fun l f w K => False
theorem ref04_Range_Mid.eq (a0_0 : Int) (a0_1 : Int) (a1 : Int) (w : World) (K : Value → World → Prop) : afn ref04_Range_Mid.C ref04_Range_Mid.L ref04_Range_Mid.D tab Try.f92 [(Value.agg #[(Value.int .u32 a0_0), (Value.int .u32 a0_1)]), (Value.int .i64 a1)] w K = ref04_Range_Mid.f a0_0 a0_1 a1 w (fun r0 w => K (Value.int .u32 r0) w) := by kernel_rfl
theorem ref04_Range_Mid.ok : FSound Try.prog 92 ref04_Range_Mid.h := by
  intro args w K h
  unfold ref04_Range_Mid.h ref04_Range_Mid.H at h
  split at h
  ·
    replace h := vT_ok h
    obtain ⟨l, rfl, h⟩ := h
    replace h := cI_ok h; obtain ⟨a0_0, l, rfl, h⟩ := h
    replace h := cI_ok h; obtain ⟨a0_1, l, rfl, h⟩ := h
    replace h := cE_ok h; obtain ⟨rfl, h⟩ := h
    replace h := vI_ok h
    obtain ⟨a1, rfl, h⟩ := h
    refine ⟨by kernel_rfl, fn_ok tab_ok ref04_Range_Mid.C_ok (L := ref04_Range_Mid.L) (D := ref04_Range_Mid.D) Try.func92 ref04_Range_Mid.hb (by kernel_rfl) (by rw [ref04_Range_Mid.c_loops]; exact lnil) (Nat.le_of_ble_eq_true (by kernel_rfl)) ?_⟩
    rw [ref04_Range_Mid.eq]
    exact h
  · exact h.elim
/-! ### (valise/valiseref04.Range).cut: function 84 -/
def ref04_Range_cut.f (a0_0 : Int) (a0_1 : Int) (a1 : Int) (a2 : Int) (w : World) (K : Int → Int → World → Prop) : Prop :=
  newC 133 [(Value.int .u32 a0_0), (Value.int .u32 a0_1)] w fun a3_2 w =>
  newC 133 [(Value.int .u32 0), (Value.int .u32 0)] w fun a6_3 w =>
  ldI .u32 (a3_2.add 0) w fun x8_5 =>
  ldI .u32 (a3_2.add 1) w fun x8_6 =>
  ref04_Range_Mid.f x8_5 x8_6 a2 w fun r10_7 w =>
  bif (a1 != 0) then
    ldI .u32 a3_2 w fun x14_11 =>
    stCs a6_3 [(Value.int .u32 x14_11), (Value.int .u32 r10_7)] 0 w fun w =>
    ldI .u32 (a6_3.add 0) w fun q_12_0 =>
    ldI .u32 (a6_3.add 1) w fun q_12_1 =>
    K q_12_0 q_12_1 w
  else
    ldI .u32 (a3_2.add 1) w fun x20_14 =>
    stCs a6_3 [(Value.int .u32 (IntKind.wrap .u32 (r10_7 + 1))), (Value.int .u32 x20_14)] 0 w fun w =>
    ldI .u32 (a6_3.add 0) w fun q_15_0 =>
    ldI .u32 (a6_3.add 1) w fun q_15_1 =>
    K q_15_0 q_15_1 w
def ref04_Range_cut.H (F : type_of% @ref04_Range_cut.f) : Hf := fun args w K => match args with
  | [v0, v1, v2] => vT v0 fun l => cI .u32 l fun a0_0 l => cI .u32 l fun a0_1 l => cE l <| vI .i64 v1 fun a1 => vI .i64 v2 fun a2 => F a0_0 a0_1 a1 a2 w (fun r0_0 r0_1 w => K (Value.agg #[(Value.int .u32 r0_0), (Value.int .u32 r0_1)]) w)
  | _ => False
def ref04_Range_cut.h : Hf := ref04_Range_cut.H @ref04_Range_cut.f
def ref04_Range_cut.C : Hd := hcons 92 ref04_Range_Mid.h (hnil)
theorem ref04_Range_cut.C_ok : CSound Try.prog ref04_Range_cut.C := hcons_ok ref04_Range_Mid.ok (hnil_ok)
def ref04_Range_cut.D : Nat → Plan := fun i => .done
noncomputable def ref04_Range_cut.c : Code := Try.f84.body.getD .skip
theorem ref04_Range_cut.hb : Try.f84.body = some ref04_Range_cut.c := by kernel_rfl
theorem ref04_Range_cut.c_loops : loopsOf ref04_Range_cut.c = [] := by kernel_rfl
def ref04_Range_cut.L : LHd := fun l f w K => False
theorem ref04_Range_cut.eq (a0_0 : Int) (a0_1 : Int) (a1 : Int) (a2 : Int) (w : World) (K : Value → World → Prop) : afn ref04_Range_cut.C ref04_Range_cut.L ref04_Range_cut.D tab Try.f84 [(Value.agg #[(Value.int .u32 a0_0), (Value.int .u32 a0_1)]), (Value.int .i64 a1), (Value.int .i64 a2)] w K = ref04_Range_cut.f a0_0 a0_1 a1 a2 w (fun r0_0 r0_1 w => K (Value.agg #[(Value.int .u32 r0_0), (Value.int .u32 r0_1)]) w) := by kernel_rfl
theorem ref04_Range_cut.ok : FSound Try.prog 84 ref04_Range_cut.h := by
  intro args w K h
  unfold ref04_Range_cut.h ref04_Range_cut.H at h
  split at h
  ·
    replace h := vT_ok h
    obtain ⟨l, rfl, h⟩ := h
    replace h := cI_ok h; obtain ⟨a0_0, l, rfl, h⟩ := h
    replace h := cI_ok h; obtain ⟨a0_1, l, rfl, h⟩ := h
    replace h := cE_ok h; obtain ⟨rfl, h⟩ := h
    replace h := vI_ok h
    obtain ⟨a1, rfl, h⟩ := h
    replace h := vI_ok h
    obtain ⟨a2, rfl, h⟩ := h
    refine ⟨by kernel_rfl, fn_ok tab_ok ref04_Range_cut.C_ok (L := ref04_Range_cut.L) (D := ref04_Range_cut.D) Try.func84 ref04_Range_cut.hb (by kernel_rfl) (by rw [ref04_Range_cut.c_loops]; exact lnil) (Nat.le_of_ble_eq_true (by kernel_rfl)) ?_⟩
    rw [ref04_Range_cut.eq]
    exact h
  · exact h.elim
/-! ### (valise/valiseref04.Range).out: function 85 -/
def ref04_Range_out.f (a0_0 : Int) (a0_1 : Int) (w : World) (K : Bool → World → Prop) : Prop :=
  newC 133 [(Value.int .u32 a0_0), (Value.int .u32 a0_1)] w fun a1_2 w =>
  ldI .u32 a1_2 w fun x4_4 =>
  ldI .u32 (a1_2.add 1) w fun x7_5 =>
  let v2_6 := ((shr .u32 x4_4 24) == (shr .u32 x7_5 24))
  K v2_6 w
def ref04_Range_out.H (F : type_of% @ref04_Range_out.f) : Hf := fun args w K => match args with
  | [v0] => vT v0 fun l => cI .u32 l fun a0_0 l => cI .u32 l fun a0_1 l => cE l <| F a0_0 a0_1 w (fun r0 w => K (Value.bool r0) w)
  | _ => False
def ref04_Range_out.h : Hf := ref04_Range_out.H @ref04_Range_out.f
def ref04_Range_out.C : Hd := hnil
theorem ref04_Range_out.C_ok : CSound Try.prog ref04_Range_out.C := hnil_ok
def ref04_Range_out.D : Nat → Plan := fun i => .done
noncomputable def ref04_Range_out.c : Code := Try.f85.body.getD .skip
theorem ref04_Range_out.hb : Try.f85.body = some ref04_Range_out.c := by kernel_rfl
theorem ref04_Range_out.c_loops : loopsOf ref04_Range_out.c = [] := by kernel_rfl
def ref04_Range_out.L : LHd := fun l f w K => False
theorem ref04_Range_out.eq (a0_0 : Int) (a0_1 : Int) (w : World) (K : Value → World → Prop) : afn ref04_Range_out.C ref04_Range_out.L ref04_Range_out.D tab Try.f85 [(Value.agg #[(Value.int .u32 a0_0), (Value.int .u32 a0_1)])] w K = ref04_Range_out.f a0_0 a0_1 w (fun r0 w => K (Value.bool r0) w) := by kernel_rfl
theorem ref04_Range_out.ok : FSound Try.prog 85 ref04_Range_out.h := by
  intro args w K h
  unfold ref04_Range_out.h ref04_Range_out.H at h
  split at h
  ·
    replace h := vT_ok h
    obtain ⟨l, rfl, h⟩ := h
    replace h := cI_ok h; obtain ⟨a0_0, l, rfl, h⟩ := h
    replace h := cI_ok h; obtain ⟨a0_1, l, rfl, h⟩ := h
    replace h := cE_ok h; obtain ⟨rfl, h⟩ := h
    refine ⟨by kernel_rfl, fn_ok tab_ok ref04_Range_out.C_ok (L := ref04_Range_out.L) (D := ref04_Range_out.D) Try.func85 ref04_Range_out.hb (by kernel_rfl) (by rw [ref04_Range_out.c_loops]; exact lnil) (Nat.le_of_ble_eq_true (by kernel_rfl)) ?_⟩
    rw [ref04_Range_out.eq]
    exact h
  · exact h.elim
/-! ### (valise/valiseref04.Range).next: function 86 -/
def ref04_Range_next.f (a0_0 : Int) (a0_1 : Int) (w : World) (K : Int → Int → World → Prop) : Prop :=
  newC 133 [(Value.int .u32 a0_0), (Value.int .u32 a0_1)] w fun a1_2 w =>
  newC 133 [(Value.int .u32 0), (Value.int .u32 0)] w fun a2_3 w =>
  ldI .u32 a1_2 w fun x4_5 =>
  ldI .u32 (a1_2.add 1) w fun x7_6 =>
  stCs a2_3 [(Value.int .u32 (shl .u32 x4_5 8)), (Value.int .u32 (bor .u32 (shl .u32 x7_6 8) 255))] 0 w fun w =>
  ldI .u32 (a2_3.add 0) w fun q_7_0 =>
  ldI .u32 (a2_3.add 1) w fun q_7_1 =>
  K q_7_0 q_7_1 w
def ref04_Range_next.H (F : type_of% @ref04_Range_next.f) : Hf := fun args w K => match args with
  | [v0] => vT v0 fun l => cI .u32 l fun a0_0 l => cI .u32 l fun a0_1 l => cE l <| F a0_0 a0_1 w (fun r0_0 r0_1 w => K (Value.agg #[(Value.int .u32 r0_0), (Value.int .u32 r0_1)]) w)
  | _ => False
def ref04_Range_next.h : Hf := ref04_Range_next.H @ref04_Range_next.f
def ref04_Range_next.C : Hd := hnil
theorem ref04_Range_next.C_ok : CSound Try.prog ref04_Range_next.C := hnil_ok
def ref04_Range_next.D : Nat → Plan := fun i => .done
noncomputable def ref04_Range_next.c : Code := Try.f86.body.getD .skip
theorem ref04_Range_next.hb : Try.f86.body = some ref04_Range_next.c := by kernel_rfl
theorem ref04_Range_next.c_loops : loopsOf ref04_Range_next.c = [] := by kernel_rfl
def ref04_Range_next.L : LHd := fun l f w K => False
theorem ref04_Range_next.eq (a0_0 : Int) (a0_1 : Int) (w : World) (K : Value → World → Prop) : afn ref04_Range_next.C ref04_Range_next.L ref04_Range_next.D tab Try.f86 [(Value.agg #[(Value.int .u32 a0_0), (Value.int .u32 a0_1)])] w K = ref04_Range_next.f a0_0 a0_1 w (fun r0_0 r0_1 w => K (Value.agg #[(Value.int .u32 r0_0), (Value.int .u32 r0_1)]) w) := by kernel_rfl
theorem ref04_Range_next.ok : FSound Try.prog 86 ref04_Range_next.h := by
  intro args w K h
  unfold ref04_Range_next.h ref04_Range_next.H at h
  split at h
  ·
    replace h := vT_ok h
    obtain ⟨l, rfl, h⟩ := h
    replace h := cI_ok h; obtain ⟨a0_0, l, rfl, h⟩ := h
    replace h := cI_ok h; obtain ⟨a0_1, l, rfl, h⟩ := h
    replace h := cE_ok h; obtain ⟨rfl, h⟩ := h
    refine ⟨by kernel_rfl, fn_ok tab_ok ref04_Range_next.C_ok (L := ref04_Range_next.L) (D := ref04_Range_next.D) Try.func86 ref04_Range_next.hb (by kernel_rfl) (by rw [ref04_Range_next.c_loops]; exact lnil) (Nat.le_of_ble_eq_true (by kernel_rfl)) ?_⟩
    rw [ref04_Range_next.eq]
    exact h
  · exact h.elim
/-! ### (*valise/valiseref04.Encoder).Encode: function 66 -/
def ref04_Encoder_Encode.l1 : Nat → Option Addr → World → (World → Prop) → Prop
  | 0, _, _, _ => False
  | N + 1, y0, w, K0 =>
    sm y0 fun p_9 =>
    ldI .u32 (p_9.add 0) w fun x19_10 =>
    ldI .u32 (p_9.add 1) w fun x19_11 =>
    ref04_Range_out.f x19_10 x19_11 w fun r20_12 w =>
    bif r20_12 then
      sm y0 fun p_14 =>
      ldL (p_14.add 2) w.drew fun x25_15 x25_15n x25_15c =>
      sm y0 fun p_16 =>
      ldI .u32 (p_16.add 1) w.drew fun x30_17 =>
      newC 5 [(Value.int .u8 (IntKind.wrap .u8 (shr .u32 x30_17 24)))] w.drew fun a33_18 w =>
      (World.cell? w (p_16.add 1) = some (.int .u32 x30_17)) ∧
      ((World.cell? w (p_14.add 2) = some (.slice x25_15 x25_15n x25_15c)) ∧
      (appL 5 1 1 [(Value.int .u8 0)] x25_15 x25_15n x25_15c (some a33_18) 1 1 w fun a34_19 a34_19n a34_19c w =>
      (World.cell? w (p_16.add 1) = some (.int .u32 x30_17)) ∧
      (sm y0 fun p_20 =>
      stC (p_20.add 2) (Value.slice a34_19 a34_19n a34_19c) w fun w =>
      sm y0 fun p_21 =>
      ldI .u32 (p_21.add 0) w fun x41_22 =>
      ldI .u32 (p_21.add 1) w fun x41_23 =>
      ref04_Range_next.f x41_22 x41_23 w fun r42_24_0 r42_24_1 w =>
      sm y0 fun p_25 =>
      stCs p_25 [(Value.int .u32 r42_24_0), (Value.int .u32 r42_24_1)] 0 w fun w =>
      ref04_Encoder_Encode.l1 N y0 w K0)))
    else
      K0 w

def ref04_Encoder_Encode.f (a0 : Option Addr) (a1 : Int) (a2 : Int) (w : World) (K : World → Prop) : Prop :=
  sm a0 fun p_2 =>
  ldI .u32 (p_2.add 0) w fun x10_3 =>
  ldI .u32 (p_2.add 1) w fun x10_4 =>
  ref04_Range_cut.f x10_3 x10_4 a1 a2 w fun r13_5_0 r13_5_1 w =>
  sm a0 fun p_6 =>
  stCs p_6 [(Value.int .u32 r13_5_0), (Value.int .u32 r13_5_1)] 0 w fun w =>
  ∃ N_26 : Nat, ref04_Encoder_Encode.l1 N_26 a0 w
  (fun w =>
    K w)
def ref04_Encoder_Encode.H (F : type_of% @ref04_Encoder_Encode.f) : Hf := fun args w K => match args with
  | [v0, v1, v2] => vP v0 fun a0 => vI .i64 v1 fun a1 => vI .i64 v2 fun a2 => F a0 a1 a2 w (fun w => K (Value.tuple #[]) w)
  | _ => False
def ref04_Encoder_Encode.h : Hf := ref04_Encoder_Encode.H @ref04_Encoder_Encode.f
def ref04_Encoder_Encode.CG (F84 : type_of% @ref04_Range_cut.f) (F85 : type_of% @ref04_Range_out.f) (F86 : type_of% @ref04_Range_next.f) : Hd := hcons 86 (ref04_Range_next.H F86) (hcons 85 (ref04_Range_out.H F85) (hcons 84 (ref04_Range_cut.H F84) (hnil)))
def ref04_Encoder_Encode.C : Hd := ref04_Encoder_Encode.CG @ref04_Range_cut.f @ref04_Range_out.f @ref04_Range_next.f
def ref04_Encoder_Encode.G (F84 : type_of% @ref04_Range_cut.f) (F85 : type_of% @ref04_Range_out.f) (F86 : type_of% @ref04_Range_next.f) (a0 : Option Addr) (a1 : Int) (a2 : Int) (w : World) (K : World → Prop) : Prop :=
  sm a0 fun p_2 =>
  ldI .u32 (p_2.add 0) w fun x10_3 =>
  ldI .u32 (p_2.add 1) w fun x10_4 =>
  F84 x10_3 x10_4 a1 a2 w fun r13_5_0 r13_5_1 w =>
  sm a0 fun p_6 =>
  stCs p_6 [(Value.int .u32 r13_5_0), (Value.int .u32 r13_5_1)] 0 w fun w =>
  ∃ N_26 : Nat, ref04_Encoder_Encode.l1 N_26 a0 w
  (fun w =>
    K w)
theorem ref04_Encoder_Encode.C_ok : CSound Try.prog ref04_Encoder_Encode.C := hcons_ok ref04_Range_next.ok (hcons_ok ref04_Range_out.ok (hcons_ok ref04_Range_cut.ok (hnil_ok)))
def ref04_Encoder_Encode.D : Nat → Plan := fun i => (match Nat.beq i 2 with | true => .take 0 (.take 1 (.take 2 (.take 3 (.take 4 (.take 5 (.take 6 (.take 7 (.take 8 (.take 9 (.take 10 (.take 11 (.eff 12 (.eff 13 (.take 14 (.take 15 (.eff 16 (.done))))))))))))))))) | false => .done)
noncomputable def ref04_Encoder_Encode.c : Code := Try.f66.body.getD .skip
theorem ref04_Encoder_Encode.hb : Try.f66.body = some ref04_Encoder_Encode.c := by kernel_rfl
noncomputable def ref04_Encoder_Encode.b0 : Code := (loopsOf ref04_Encoder_Encode.c).getD 0 .skip
theorem ref04_Encoder_Encode.b0_loops : loopsOf ref04_Encoder_Encode.b0 = [] := by kernel_rfl
theorem ref04_Encoder_Encode.c_loops : loopsOf ref04_Encoder_Encode.c = [ref04_Encoder_Encode.b0] := by kernel_rfl
def ref04_Encoder_Encode.l1G (F84 : type_of% @ref04_Range_cut.f) (F85 : type_of% @ref04_Range_out.f) (F86 : type_of% @ref04_Range_next.f) (R : Option Addr → World → (World → Prop) → Prop) : Option Addr → World → (World → Prop) → Prop := fun y0 w K0 =>
    sm y0 fun p_9 =>
    ldI .u32 (p_9.add 0) w fun x19_10 =>
    ldI .u32 (p_9.add 1) w fun x19_11 =>
    F85 x19_10 x19_11 w fun r20_12 w =>
    bif r20_12 then
      sm y0 fun p_14 =>
      ldL (p_14.add 2) w.drew fun x25_15 x25_15n x25_15c =>
      sm y0 fun p_16 =>
      ldI .u32 (p_16.add 1) w.drew fun x30_17 =>
      newC 5 [(Value.int .u8 (IntKind.wrap .u8 (shr .u32 x30_17 24)))] w.drew fun a33_18 w =>
      (World.cell? w (p_16.add 1) = some (.int .u32 x30_17)) ∧
      ((World.cell? w (p_14.add 2) = some (.slice x25_15 x25_15n x25_15c)) ∧
      (appL 5 1 1 [(Value.int .u8 0)] x25_15 x25_15n x25_15c (some a33_18) 1 1 w fun a34_19 a34_19n a34_19c w =>
      (World.cell? w (p_16.add 1) = some (.int .u32 x30_17)) ∧
      (sm y0 fun p_20 =>
      stC (p_20.add 2) (Value.slice a34_19 a34_19n a34_19c) w fun w =>
      sm y0 fun p_21 =>
      ldI .u32 (p_21.add 0) w fun x41_22 =>
      ldI .u32 (p_21.add 1) w fun x41_23 =>
      F86 x41_22 x41_23 w fun r42_24_0 r42_24_1 w =>
      sm y0 fun p_25 =>
      stCs p_25 [(Value.int .u32 r42_24_0), (Value.int .u32 r42_24_1)] 0 w fun w =>
      R y0 w K0)))
    else
      K0 w

def ref04_Encoder_Encode.hn1 (N : Nat) (f : Fr) (w : World) (K : AExit → Fr → World → Prop) : Prop :=
  gN f 45 <| gP f 0 fun y0 => ref04_Encoder_Encode.l1 N y0 w (fun w => K (.exit 0) [none, none, none, none, none, none, none, none, none, none, none, none, none, none, none, none, none, none, none, none, none, none, none, none, none, none, none, none, none, none, none, none, none, none, none, none, none, none, none, none, none, none, none, none, none] w)
def ref04_Encoder_Encode.hx1 : AExit → Fr → World → (AExit → Fr → World → Prop) → Prop := fun e f w K => match e with
  | .normal => False
  | .exit i => (match Nat.beq i 0 with | true => gN f 45 <|  K (.exit 0) [none, none, none, none, none, none, none, none, none, none, none, none, none, none, none, none, none, none, none, none, none, none, none, none, none, none, none, none, none, none, none, none, none, none, none, none, none, none, none, none, none, none, none, none, none] w | false => False)
  | .ret => False
def ref04_Encoder_Encode.L : LHd := fun l f w K => (match Nat.beq l 1 with | true => ∃ N, ref04_Encoder_Encode.hn1 N f w K | false => False)
theorem ref04_Encoder_Encode.leG1 (F84 : type_of% @ref04_Range_cut.f) (F85 : type_of% @ref04_Range_out.f) (F86 : type_of% @ref04_Range_next.f) (N : Nat) (y0 : Option Addr) (w : World) (K : AExit → Fr → World → Prop) : awp (ref04_Encoder_Encode.CG F84 F85 F86) ref04_Encoder_Encode.L ref04_Encoder_Encode.D tab ref04_Encoder_Encode.b0 (lpost ref04_Encoder_Encode.hn1 ref04_Encoder_Encode.hx1 N K) [some (Value.pointer y0), none, none, none, none, none, none, none, none, none, none, none, none, none, none, none, none, none, none, none, none, none, none, none, none, none, none, none, none, none, none, none, none, none, none, none, none, none, none, none, none, none, none, none, none] w = ref04_Encoder_Encode.l1G F84 F85 F86 (ref04_Encoder_Encode.l1 N) y0 w (fun w => K (.exit 0) [none, none, none, none, none, none, none, none, none, none, none, none, none, none, none, none, none, none, none, none, none, none, none, none, none, none, none, none, none, none, none, none, none, none, none, none, none, none, none, none, none, none, none, none, none] w) := by kernel_rfl
theorem ref04_Encoder_Encode.les1 (N : Nat) : ref04_Encoder_Encode.l1 (N + 1) = ref04_Encoder_Encode.l1G @ref04_Range_cut.f @ref04_Range_out.f @ref04_Range_next.f (ref04_Encoder_Encode.l1 N) := by kernel_rfl
theorem ref04_Encoder_Encode.le1 (N : Nat) (y0 : Option Addr) (w : World) (K : AExit → Fr → World → Prop) : awp ref04_Encoder_Encode.C ref04_Encoder_Encode.L ref04_Encoder_Encode.D tab ref04_Encoder_Encode.b0 (lpost ref04_Encoder_Encode.hn1 ref04_Encoder_Encode.hx1 N K) [some (Value.pointer y0), none, none, none, none, none, none, none, none, none, none, none, none, none, none, none, none, none, none, none, none, none, none, none, none, none, none, none, none, none, none, none, none, none, none, none, none, none, none, none, none, none, none, none, none] w = ref04_Encoder_Encode.l1 (N + 1) y0 w (fun w => K (.exit 0) [none, none, none, none, none, none, none, none, none, none, none, none, none, none, none, none, none, none, none, none, none, none, none, none, none, none, none, none, none, none, none, none, none, none, none, none, none, none, none, none, none, none, none, none, none] w) := by
  rw [ref04_Encoder_Encode.les1]
  exact ref04_Encoder_Encode.leG1 @ref04_Range_cut.f @ref04_Range_out.f @ref04_Range_next.f N y0 w K
theorem ref04_Encoder_Encode.lok1 : LoopOk Try.prog ref04_Encoder_Encode.L ref04_Encoder_Encode.b0 := by
  refine loop_ok tab_ok ref04_Encoder_Encode.C_ok (D := ref04_Encoder_Encode.D) (ref04_Encoder_Encode.hn1) (ref04_Encoder_Encode.hx1) (by kernel_rfl) (by rw [ref04_Encoder_Encode.b0_loops]; exact lnil) ?_ ?_ ?_ ?_
  · intro f w K h
    unfold ref04_Encoder_Encode.hn1 at h
    obtain ⟨hlen, h⟩ := gN_ok h
    obtain ⟨y0, h0, h⟩ := gP_ok h
    exact h
  · intro N f w K h
    unfold ref04_Encoder_Encode.hn1 at h
    obtain ⟨hlen, h⟩ := gN_ok h
    obtain ⟨y0, h0, h⟩ := gP_ok h
    refine ⟨[some (Value.pointer y0), none, none, none, none, none, none, none, none, none, none, none, none, none, none, none, none, none, none, none, none, none, none, none, none, none, none, none, none, none, none, none, none, none, none, none, none, none, none, none, none, none, none, none, none], hlen, ⟨h0, trivial⟩, ?_⟩
    rw [ref04_Encoder_Encode.le1]
    exact h
  · intro e f w K h
    cases e with
    | normal => exact h.elim
    | exit i =>
      unfold ref04_Encoder_Encode.hx1 at h
      simp only at h
      split at h
      · rename_i hb
        obtain rfl := Nat.eq_of_beq_eq_true hb
        obtain ⟨hlen, h⟩ := gN_ok h
        exact ⟨[none, none, none, none, none, none, none, none, none, none, none, none, none, none, none, none, none, none, none, none, none, none, none, none, none, none, none, none, none, none, none, none, none, none, none, none, none, none, none, none, none, none, none, none, none], hlen, trivial, h⟩
      · exact (show False from h).elim
    | ret =>
      exact (show False from h).elim
  · intro f w K h
    have e : lid ref04_Encoder_Encode.b0 = 1 := by kernel_rfl
    rw [e] at h
    exact h
theorem ref04_Encoder_Encode.eqG (F84 : type_of% @ref04_Range_cut.f) (F85 : type_of% @ref04_Range_out.f) (F86 : type_of% @ref04_Range_next.f) (a0 : Option Addr) (a1 : Int) (a2 : Int) (w : World) (K : Value → World → Prop) : afn (ref04_Encoder_Encode.CG F84 F85 F86) ref04_Encoder_Encode.L ref04_Encoder_Encode.D tab Try.f66 [(Value.pointer a0), (Value.int .i64 a1), (Value.int .i64 a2)] w K = ref04_Encoder_Encode.G F84 F85 F86 a0 a1 a2 w (fun w => K (Value.tuple #[]) w) := by kernel_rfl
theorem ref04_Encoder_Encode.eq (a0 : Option Addr) (a1 : Int) (a2 : Int) (w : World) (K : Value → World → Prop) : afn ref04_Encoder_Encode.C ref04_Encoder_Encode.L ref04_Encoder_Encode.D tab Try.f66 [(Value.pointer a0), (Value.int .i64 a1), (Value.int .i64 a2)] w K = ref04_Encoder_Encode.f a0 a1 a2 w (fun w => K (Value.tuple #[]) w) := ref04_Encoder_Encode.eqG @ref04_Range_cut.f @ref04_Range_out.f @ref04_Range_next.f a0 a1 a2 w K
theorem ref04_Encoder_Encode.ok : FSound Try.prog 66 ref04_Encoder_Encode.h := by
  intro args w K h
  unfold ref04_Encoder_Encode.h ref04_Encoder_Encode.H at h
  split at h
  ·
    replace h := vP_ok h
    obtain ⟨a0, rfl, h⟩ := h
    replace h := vI_ok h
    obtain ⟨a1, rfl, h⟩ := h
    replace h := vI_ok h
    obtain ⟨a2, rfl, h⟩ := h
    refine ⟨by kernel_rfl, fn_ok tab_ok ref04_Encoder_Encode.C_ok (L := ref04_Encoder_Encode.L) (D := ref04_Encoder_Encode.D) Try.func66 ref04_Encoder_Encode.hb (by kernel_rfl) (by rw [ref04_Encoder_Encode.c_loops]; exact lcons ref04_Encoder_Encode.lok1 (lnil)) (Nat.le_of_ble_eq_true (by kernel_rfl)) ?_⟩
    rw [ref04_Encoder_Encode.eq]
    exact h
  · exact h.elim
/-! ### (*valise/valiseref04.Encoder).Flush: function 67 -/
def ref04_Encoder_Flush.f (a0 : Option Addr) (w : World) (K : Option Addr → Nat → Nat → World → Prop) : Prop :=
  sm a0 fun p_3 =>
  ldI .u32 p_3 w fun x9_4 =>
  sm a0 fun p_6 =>
  ldL (p_6.add 2) w fun x13_7 x13_7n x13_7c =>
  newC 5 [(Value.int .u8 (IntKind.wrap .u8 (shr .u32 x9_4 24))), (Value.int .u8 (IntKind.wrap .u8 (shr .u32 x9_4 16))), (Value.int .u8 (IntKind.wrap .u8 (shr .u32 x9_4 8))), (Value.int .u8 (IntKind.wrap .u8 x9_4))] w fun a25_8 w =>
  appL 5 1 1 [(Value.int .u8 0)] x13_7 x13_7n x13_7c (some a25_8) 4 4 w fun a26_9 a26_9n a26_9c w =>
  ref04_full.f  w fun r29_11_0 r29_11_1 w =>
  sm a0 fun p_12 =>
  stCs p_12 [(Value.int .u32 r29_11_0), (Value.int .u32 r29_11_1)] 0 w fun w =>
  sm a0 fun p_13 =>
  stC (p_13.add 2) (Value.slice none 0 0) w fun w =>
  K a26_9 a26_9n a26_9c w
def ref04_Encoder_Flush.H (F : type_of% @ref04_Encoder_Flush.f) : Hf := fun args w K => match args with
  | [v0] => vP v0 fun a0 => F a0 w (fun r0 r0n r0c w => K (Value.slice r0 r0n r0c) w)
  | _ => False
def ref04_Encoder_Flush.h : Hf := ref04_Encoder_Flush.H @ref04_Encoder_Flush.f
def ref04_Encoder_Flush.C : Hd := hcons 83 ref04_full.h (hnil)
theorem ref04_Encoder_Flush.C_ok : CSound Try.prog ref04_Encoder_Flush.C := hcons_ok ref04_full.ok (hnil_ok)
def ref04_Encoder_Flush.D : Nat → Plan := fun i => .done
noncomputable def ref04_Encoder_Flush.c : Code := Try.f67.body.getD .skip
theorem ref04_Encoder_Flush.hb : Try.f67.body = some ref04_Encoder_Flush.c := by kernel_rfl
theorem ref04_Encoder_Flush.c_loops : loopsOf ref04_Encoder_Flush.c = [] := by kernel_rfl
def ref04_Encoder_Flush.L : LHd := fun l f w K => False
theorem ref04_Encoder_Flush.eq (a0 : Option Addr) (w : World) (K : Value → World → Prop) : afn ref04_Encoder_Flush.C ref04_Encoder_Flush.L ref04_Encoder_Flush.D tab Try.f67 [(Value.pointer a0)] w K = ref04_Encoder_Flush.f a0 w (fun r0 r0n r0c w => K (Value.slice r0 r0n r0c) w) := by kernel_rfl
theorem ref04_Encoder_Flush.ok : FSound Try.prog 67 ref04_Encoder_Flush.h := by
  intro args w K h
  unfold ref04_Encoder_Flush.h ref04_Encoder_Flush.H at h
  split at h
  ·
    replace h := vP_ok h
    obtain ⟨a0, rfl, h⟩ := h
    refine ⟨by kernel_rfl, fn_ok tab_ok ref04_Encoder_Flush.C_ok (L := ref04_Encoder_Flush.L) (D := ref04_Encoder_Flush.D) Try.func67 ref04_Encoder_Flush.hb (by kernel_rfl) (by rw [ref04_Encoder_Flush.c_loops]; exact lnil) (Nat.le_of_ble_eq_true (by kernel_rfl)) ?_⟩
    rw [ref04_Encoder_Flush.eq]
    exact h
  · exact h.elim
/-! ### valise/valiseref09.Pack: function 34 -/
def ref09_Pack.l10 : Nat → Option Addr → Nat → Nat → Option Addr → Option Addr → Int → Int → World → (Option Addr → Nat → Nat → Option Addr → Option Addr → Int → World → Prop) → Prop
  | 0, _, _, _, _, _, _, _, _, _ => False
  | N + 1, y0, y0n, y0c, y6, y7, y8, y9, w, K2 =>
    bif (decide (y9 ≥ 0)) then
      sm y0 fun p_22 =>
      if 0 ≤ (y8 : Int) ∧ (y8 : Int) < ((y0n : Nat) : Int) then
      ldI .u8 (p_22.add (Int.toNat y8)) w fun x36_23 =>
      if (IntKind.wrap .u64 y9) < 0 then False else
      let v10_24 := (IntKind.wrap .i64 (band .u8 (shr .u8 x36_23 (min (Int.toNat (IntKind.wrap .u64 y9)) (IntKind.bits .u8))) 1))
      ref08_Model_Chance.f y7 w fun r45_26 w =>
      ref04_Encoder_Encode.f y6 v10_24 r45_26 w fun w =>
      ref08_Model_Learn.f y7 v10_24 w fun w =>
      let v9_27 := (IntKind.wrap .i64 (y9 - 1))
      ref09_Pack.l10 N y0 y0n y0c y6 y7 y8 v9_27 w K2
      else False
    else
      K2 y0 y0n y0c y6 y7 y8 w

def ref09_Pack.l7 : Nat → Option Addr → Nat → Nat → Option Addr → Option Addr → Int → World → (Option Addr → World → Prop) → Prop
  | 0, _, _, _, _, _, _, _, _ => False
  | N + 1, y0, y0n, y0c, y6, y7, y8, w, K0 =>
    bif (decide (y8 < ((y0n : Nat) : Int))) then
      ∃ N_28 : Nat, ref09_Pack.l10 N_28 y0 y0n y0c y6 y7 y8 7 w
      (fun o0_29 o0_29n o0_29c o6_30 o7_31 o8_32 w =>
        let v8_33 := (IntKind.wrap .i64 (o8_32 + 1))
        ref09_Pack.l7 N o0_29 o0_29n o0_29c o6_30 o7_31 v8_33 w K0)
    else
      K0 y6 w

def ref09_Pack.f (a0 : Option Addr) (a0n : Nat) (a0c : Nat) (a1 : Int) (w : World) (K : Option Addr → Nat → Nat → Int → World → Prop) : Prop :=
  bif (decide (a1 < 0)) then
    K none 0 0 1 w
  else
    bif (decide (a1 > 2)) then
      K none 0 0 1 w
    else
      bif (decide (((a0n : Nat) : Int) > 1048576)) then
        K none 0 0 5 w
      else
        ref04_NewEncoder.f  w fun r20_10 w =>
        ref08_New.f a1 w fun r22_11 w =>
        ∃ N_34 : Nat, ref09_Pack.l7 N_34 a0 a0n a0c r20_10 r22_11 0 w
        (fun o6_35 w =>
          ref04_Encoder_Flush.f o6_35 w fun r51_37 r51_37n r51_37c w =>
          K r51_37 r51_37n r51_37c 0 w)
def ref09_Pack.H (F : type_of% @ref09_Pack.f) : Hf := fun args w K => match args with
  | [v0, v1] => vL v0 fun a0 a0n a0c => vI .i64 v1 fun a1 => F a0 a0n a0c a1 w (fun r0 r0n r0c r1 w => K (Value.tuple #[(Value.slice r0 r0n r0c), (Value.int .i64 r1)]) w)
  | _ => False
def ref09_Pack.h : Hf := ref09_Pack.H @ref09_Pack.f
def ref09_Pack.CG (F65 : type_of% @ref04_NewEncoder.f) (F25 : type_of% @ref08_New.f) (F28 : type_of% @ref08_Model_Chance.f) (F66 : type_of% @ref04_Encoder_Encode.f) (F30 : type_of% @ref08_Model_Learn.f) (F67 : type_of% @ref04_Encoder_Flush.f) : Hd := hcons 67 (ref04_Encoder_Flush.H F67) (hcons 30 (ref08_Model_Learn.H F30) (hcons 66 (ref04_Encoder_Encode.H F66) (hcons 28 (ref08_Model_Chance.H F28) (hcons 25 (ref08_New.H F25) (hcons 65 (ref04_NewEncoder.H F65) (hnil))))))
def ref09_Pack.C : Hd := ref09_Pack.CG @ref04_NewEncoder.f @ref08_New.f @ref08_Model_Chance.f @ref04_Encoder_Encode.f @ref08_Model_Learn.f @ref04_Encoder_Flush.f
def ref09_Pack.G (F65 : type_of% @ref04_NewEncoder.f) (F25 : type_of% @ref08_New.f) (F28 : type_of% @ref08_Model_Chance.f) (F66 : type_of% @ref04_Encoder_Encode.f) (F30 : type_of% @ref08_Model_Learn.f) (F67 : type_of% @ref04_Encoder_Flush.f) (a0 : Option Addr) (a0n : Nat) (a0c : Nat) (a1 : Int) (w : World) (K : Option Addr → Nat → Nat → Int → World → Prop) : Prop :=
  bif (decide (a1 < 0)) then
    K none 0 0 1 w
  else
    bif (decide (a1 > 2)) then
      K none 0 0 1 w
    else
      bif (decide (((a0n : Nat) : Int) > 1048576)) then
        K none 0 0 5 w
      else
        F65  w fun r20_10 w =>
        F25 a1 w fun r22_11 w =>
        ∃ N_34 : Nat, ref09_Pack.l7 N_34 a0 a0n a0c r20_10 r22_11 0 w
        (fun o6_35 w =>
          F67 o6_35 w fun r51_37 r51_37n r51_37c w =>
          K r51_37 r51_37n r51_37c 0 w)
theorem ref09_Pack.C_ok : CSound Try.prog ref09_Pack.C := hcons_ok ref04_Encoder_Flush.ok (hcons_ok ref08_Model_Learn.ok (hcons_ok ref04_Encoder_Encode.ok (hcons_ok ref08_Model_Chance.ok (hcons_ok ref08_New.ok (hcons_ok ref04_NewEncoder.ok (hnil_ok))))))
def ref09_Pack.D : Nat → Plan := fun i => .done
noncomputable def ref09_Pack.c : Code := Try.f34.body.getD .skip
theorem ref09_Pack.hb : Try.f34.body = some ref09_Pack.c := by kernel_rfl
noncomputable def ref09_Pack.b0 : Code := (loopsOf ref09_Pack.c).getD 0 .skip
noncomputable def ref09_Pack.b0_0 : Code := (loopsOf ref09_Pack.b0).getD 0 .skip
theorem ref09_Pack.b0_0_loops : loopsOf ref09_Pack.b0_0 = [] := by kernel_rfl
theorem ref09_Pack.b0_loops : loopsOf ref09_Pack.b0 = [ref09_Pack.b0_0] := by kernel_rfl
theorem ref09_Pack.c_loops : loopsOf ref09_Pack.c = [ref09_Pack.b0] := by kernel_rfl
def ref09_Pack.l10G (F65 : type_of% @ref04_NewEncoder.f) (F25 : type_of% @ref08_New.f) (F28 : type_of% @ref08_Model_Chance.f) (F66 : type_of% @ref04_Encoder_Encode.f) (F30 : type_of% @ref08_Model_Learn.f) (F67 : type_of% @ref04_Encoder_Flush.f) (R : Option Addr → Nat → Nat → Option Addr → Option Addr → Int → Int → World → (Option Addr → Nat → Nat → Option Addr → Option Addr → Int → World → Prop) → Prop) : Option Addr → Nat → Nat → Option Addr → Option Addr → Int → Int → World → (Option Addr → Nat → Nat → Option Addr → Option Addr → Int → World → Prop) → Prop := fun y0 y0n y0c y6 y7 y8 y9 w K2 =>
    bif (decide (y9 ≥ 0)) then
      sm y0 fun p_22 =>
      if 0 ≤ (y8 : Int) ∧ (y8 : Int) < ((y0n : Nat) : Int) then
      ldI .u8 (p_22.add (Int.toNat y8)) w fun x36_23 =>
      if (IntKind.wrap .u64 y9) < 0 then False else
      let v10_24 := (IntKind.wrap .i64 (band .u8 (shr .u8 x36_23 (min (Int.toNat (IntKind.wrap .u64 y9)) (IntKind.bits .u8))) 1))
      F28 y7 w fun r45_26 w =>
      F66 y6 v10_24 r45_26 w fun w =>
      F30 y7 v10_24 w fun w =>
      let v9_27 := (IntKind.wrap .i64 (y9 - 1))
      R y0 y0n y0c y6 y7 y8 v9_27 w K2
      else False
    else
      K2 y0 y0n y0c y6 y7 y8 w

def ref09_Pack.l7G (F65 : type_of% @ref04_NewEncoder.f) (F25 : type_of% @ref08_New.f) (F28 : type_of% @ref08_Model_Chance.f) (F66 : type_of% @ref04_Encoder_Encode.f) (F30 : type_of% @ref08_Model_Learn.f) (F67 : type_of% @ref04_Encoder_Flush.f) (R : Option Addr → Nat → Nat → Option Addr → Option Addr → Int → World → (Option Addr → World → Prop) → Prop) : Option Addr → Nat → Nat → Option Addr → Option Addr → Int → World → (Option Addr → World → Prop) → Prop := fun y0 y0n y0c y6 y7 y8 w K0 =>
    bif (decide (y8 < ((y0n : Nat) : Int))) then
      ∃ N_28 : Nat, ref09_Pack.l10 N_28 y0 y0n y0c y6 y7 y8 7 w
      (fun o0_29 o0_29n o0_29c o6_30 o7_31 o8_32 w =>
        let v8_33 := (IntKind.wrap .i64 (o8_32 + 1))
        R o0_29 o0_29n o0_29c o6_30 o7_31 v8_33 w K0)
    else
      K0 y6 w

def ref09_Pack.hn10 (N : Nat) (f : Fr) (w : World) (K : AExit → Fr → World → Prop) : Prop :=
  gN f 52 <| gL f 0 fun y0 y0n y0c => gP f 6 fun y6 => gP f 7 fun y7 => gI .i64 f 8 fun y8 => gI .i64 f 9 fun y9 => ref09_Pack.l10 N y0 y0n y0c y6 y7 y8 y9 w (fun o0 o0n o0c o6 o7 o8 w => K (.exit 2) [some (Value.slice o0 o0n o0c), none, none, none, none, none, some (Value.pointer o6), some (Value.pointer o7), some (Value.int .i64 o8), none, none, none, none, none, none, none, none, none, none, none, none, none, none, none, none, none, none, none, none, none, none, none, none, none, none, none, none, none, none, none, none, none, none, none, none, none, none, none, none, none, none, none] w)
def ref09_Pack.hx10 : AExit → Fr → World → (AExit → Fr → World → Prop) → Prop := fun e f w K => match e with
  | .normal => False
  | .exit i => (match Nat.beq i 2 with | true => gN f 52 <| gL f 0 fun o0 o0n o0c => gP f 6 fun o6 => gP f 7 fun o7 => gI .i64 f 8 fun o8 => K (.exit 2) [some (Value.slice o0 o0n o0c), none, none, none, none, none, some (Value.pointer o6), some (Value.pointer o7), some (Value.int .i64 o8), none, none, none, none, none, none, none, none, none, none, none, none, none, none, none, none, none, none, none, none, none, none, none, none, none, none, none, none, none, none, none, none, none, none, none, none, none, none, none, none, none, none, none] w | false => False)
  | .ret => False
def ref09_Pack.hn7 (N : Nat) (f : Fr) (w : World) (K : AExit → Fr → World → Prop) : Prop :=
  gN f 52 <| gL f 0 fun y0 y0n y0c => gP f 6 fun y6 => gP f 7 fun y7 => gI .i64 f 8 fun y8 => ref09_Pack.l7 N y0 y0n y0c y6 y7 y8 w (fun o6 w => K (.exit 0) [none, none, none, none, none, none, some (Value.pointer o6), none, none, none, none, none, none, none, none, none, none, none, none, none, none, none, none, none, none, none, none, none, none, none, none, none, none, none, none, none, none, none, none, none, none, none, none, none, none, none, none, none, none, none, none, none] w)
def ref09_Pack.hx7 : AExit → Fr → World → (AExit → Fr → World → Prop) → Prop := fun e f w K => match e with
  | .normal => False
  | .exit i => (match Nat.beq i 0 with | true => gN f 52 <| gP f 6 fun o6 => K (.exit 0) [none, none, none, none, none, none, some (Value.pointer o6), none, none, none, none, none, none, none, none, none, none, none, none, none, none, none, none, none, none, none, none, none, none, none, none, none, none, none, none, none, none, none, none, none, none, none, none, none, none, none, none, none, none, none, none, none] w | false => False)
  | .ret => False
def ref09_Pack.L : LHd := fun l f w K => (match Nat.beq l 7 with | true => ∃ N, ref09_Pack.hn7 N f w K | false => (match Nat.beq l 10 with | true => ∃ N, ref09_Pack.hn10 N f w K | false => False))
theorem ref09_Pack.leG10 (F65 : type_of% @ref04_NewEncoder.f) (F25 : type_of% @ref08_New.f) (F28 : type_of% @ref08_Model_Chance.f) (F66 : type_of% @ref04_Encoder_Encode.f) (F30 : type_of% @ref08_Model_Learn.f) (F67 : type_of% @ref04_Encoder_Flush.f) (N : Nat) (y0 : Option Addr) (y0n : Nat) (y0c : Nat) (y6 : Option Addr) (y7 : Option Addr) (y8 : Int) (y9 : Int) (w : World) (K : AExit → Fr → World → Prop) : awp (ref09_Pack.CG F65 F25 F28 F66 F30 F67) ref09_Pack.L ref09_Pack.D tab ref09_Pack.b0_0 (lpost ref09_Pack.hn10 ref09_Pack.hx10 N K) [some (Value.slice y0 y0n y0c), none, none, none, none, none, some (Value.pointer y6), some (Value.pointer y7), some (Value.int .i64 y8), some (Value.int .i64 y9), none, none, none, none, none, none, none, none, none, none, none, none, none, none, none, none, none, none, none, none, none, none, none, none, none, none, none, none, none, none, none, none, none, none, none, none, none, none, none, none, none, none] w = ref09_Pack.l10G F65 F25 F28 F66 F30 F67 (ref09_Pack.l10 N) y0 y0n y0c y6 y7 y8 y9 w (fun o0 o0n o0c o6 o7 o8 w => K (.exit 2) [some (Value.slice o0 o0n o0c), none, none, none, none, none, some (Value.pointer o6), some (Value.pointer o7), some (Value.int .i64 o8), none, none, none, none, none, none, none, none, none, none, none, none, none, none, none, none, none, none, none, none, none, none, none, none, none, none, none, none, none, none, none, none, none, none, none, none, none, none, none, none, none, none, none] w) := by kernel_rfl
theorem ref09_Pack.les10 (N : Nat) : ref09_Pack.l10 (N + 1) = ref09_Pack.l10G @ref04_NewEncoder.f @ref08_New.f @ref08_Model_Chance.f @ref04_Encoder_Encode.f @ref08_Model_Learn.f @ref04_Encoder_Flush.f (ref09_Pack.l10 N) := by kernel_rfl
theorem ref09_Pack.le10 (N : Nat) (y0 : Option Addr) (y0n : Nat) (y0c : Nat) (y6 : Option Addr) (y7 : Option Addr) (y8 : Int) (y9 : Int) (w : World) (K : AExit → Fr → World → Prop) : awp ref09_Pack.C ref09_Pack.L ref09_Pack.D tab ref09_Pack.b0_0 (lpost ref09_Pack.hn10 ref09_Pack.hx10 N K) [some (Value.slice y0 y0n y0c), none, none, none, none, none, some (Value.pointer y6), some (Value.pointer y7), some (Value.int .i64 y8), some (Value.int .i64 y9), none, none, none, none, none, none, none, none, none, none, none, none, none, none, none, none, none, none, none, none, none, none, none, none, none, none, none, none, none, none, none, none, none, none, none, none, none, none, none, none, none, none] w = ref09_Pack.l10 (N + 1) y0 y0n y0c y6 y7 y8 y9 w (fun o0 o0n o0c o6 o7 o8 w => K (.exit 2) [some (Value.slice o0 o0n o0c), none, none, none, none, none, some (Value.pointer o6), some (Value.pointer o7), some (Value.int .i64 o8), none, none, none, none, none, none, none, none, none, none, none, none, none, none, none, none, none, none, none, none, none, none, none, none, none, none, none, none, none, none, none, none, none, none, none, none, none, none, none, none, none, none, none] w) := by
  rw [ref09_Pack.les10]
  exact ref09_Pack.leG10 @ref04_NewEncoder.f @ref08_New.f @ref08_Model_Chance.f @ref04_Encoder_Encode.f @ref08_Model_Learn.f @ref04_Encoder_Flush.f N y0 y0n y0c y6 y7 y8 y9 w K
theorem ref09_Pack.lok10 : LoopOk Try.prog ref09_Pack.L ref09_Pack.b0_0 := by
  refine loop_ok tab_ok ref09_Pack.C_ok (D := ref09_Pack.D) (ref09_Pack.hn10) (ref09_Pack.hx10) (by kernel_rfl) (by rw [ref09_Pack.b0_0_loops]; exact lnil) ?_ ?_ ?_ ?_
  · intro f w K h
    unfold ref09_Pack.hn10 at h
    obtain ⟨hlen, h⟩ := gN_ok h
    obtain ⟨y0, y0n, y0c, h0, h⟩ := gL_ok h
    obtain ⟨y6, h6, h⟩ := gP_ok h
    obtain ⟨y7, h7, h⟩ := gP_ok h
    obtain ⟨y8, h8, h⟩ := gI_ok h
    obtain ⟨y9, h9, h⟩ := gI_ok h
    exact h
  · intro N f w K h
    unfold ref09_Pack.hn10 at h
    obtain ⟨hlen, h⟩ := gN_ok h
    obtain ⟨y0, y0n, y0c, h0, h⟩ := gL_ok h
    obtain ⟨y6, h6, h⟩ := gP_ok h
    obtain ⟨y7, h7, h⟩ := gP_ok h
    obtain ⟨y8, h8, h⟩ := gI_ok h
    obtain ⟨y9, h9, h⟩ := gI_ok h
    refine ⟨[some (Value.slice y0 y0n y0c), none, none, none, none, none, some (Value.pointer y6), some (Value.pointer y7), some (Value.int .i64 y8), some (Value.int .i64 y9), none, none, none, none, none, none, none, none, none, none, none, none, none, none, none, none, none, none, none, none, none, none, none, none, none, none, none, none, none, none, none, none, none, none, none, none, none, none, none, none, none, none], hlen, ⟨h0, h6, h7, h8, h9, trivial⟩, ?_⟩
    rw [ref09_Pack.le10]
    exact h
  · intro e f w K h
    cases e with
    | normal => exact h.elim
    | exit i =>
      unfold ref09_Pack.hx10 at h
      simp only at h
      split at h
      · rename_i hb
        obtain rfl := Nat.eq_of_beq_eq_true hb
        obtain ⟨hlen, h⟩ := gN_ok h
        obtain ⟨o0, o0n, o0c, h0, h⟩ := gL_ok h
        obtain ⟨o6, h6, h⟩ := gP_ok h
        obtain ⟨o7, h7, h⟩ := gP_ok h
        obtain ⟨o8, h8, h⟩ := gI_ok h
        exact ⟨[some (Value.slice o0 o0n o0c), none, none, none, none, none, some (Value.pointer o6), some (Value.pointer o7), some (Value.int .i64 o8), none, none, none, none, none, none, none, none, none, none, none, none, none, none, none, none, none, none, none, none, none, none, none, none, none, none, none, none, none, none, none, none, none, none, none, none, none, none, none, none, none, none, none], hlen, ⟨h0, h6, h7, h8, trivial⟩, h⟩
      · exact (show False from h).elim
    | ret =>
      exact (show False from h).elim
  · intro f w K h
    have e : lid ref09_Pack.b0_0 = 10 := by kernel_rfl
    rw [e] at h
    exact h
theorem ref09_Pack.leG7 (F65 : type_of% @ref04_NewEncoder.f) (F25 : type_of% @ref08_New.f) (F28 : type_of% @ref08_Model_Chance.f) (F66 : type_of% @ref04_Encoder_Encode.f) (F30 : type_of% @ref08_Model_Learn.f) (F67 : type_of% @ref04_Encoder_Flush.f) (N : Nat) (y0 : Option Addr) (y0n : Nat) (y0c : Nat) (y6 : Option Addr) (y7 : Option Addr) (y8 : Int) (w : World) (K : AExit → Fr → World → Prop) : awp (ref09_Pack.CG F65 F25 F28 F66 F30 F67) ref09_Pack.L ref09_Pack.D tab ref09_Pack.b0 (lpost ref09_Pack.hn7 ref09_Pack.hx7 N K) [some (Value.slice y0 y0n y0c), none, none, none, none, none, some (Value.pointer y6), some (Value.pointer y7), some (Value.int .i64 y8), none, none, none, none, none, none, none, none, none, none, none, none, none, none, none, none, none, none, none, none, none, none, none, none, none, none, none, none, none, none, none, none, none, none, none, none, none, none, none, none, none, none, none] w = ref09_Pack.l7G F65 F25 F28 F66 F30 F67 (ref09_Pack.l7 N) y0 y0n y0c y6 y7 y8 w (fun o6 w => K (.exit 0) [none, none, none, none, none, none, some (Value.pointer o6), none, none, none, none, none, none, none, none, none, none, none, none, none, none, none, none, none, none, none, none, none, none, none, none, none, none, none, none, none, none, none, none, none, none, none, none, none, none, none, none, none, none, none, none, none] w) := by kernel_rfl
theorem ref09_Pack.les7 (N : Nat) : ref09_Pack.l7 (N + 1) = ref09_Pack.l7G @ref04_NewEncoder.f @ref08_New.f @ref08_Model_Chance.f @ref04_Encoder_Encode.f @ref08_Model_Learn.f @ref04_Encoder_Flush.f (ref09_Pack.l7 N) := by kernel_rfl
theorem ref09_Pack.le7 (N : Nat) (y0 : Option Addr) (y0n : Nat) (y0c : Nat) (y6 : Option Addr) (y7 : Option Addr) (y8 : Int) (w : World) (K : AExit → Fr → World → Prop) : awp ref09_Pack.C ref09_Pack.L ref09_Pack.D tab ref09_Pack.b0 (lpost ref09_Pack.hn7 ref09_Pack.hx7 N K) [some (Value.slice y0 y0n y0c), none, none, none, none, none, some (Value.pointer y6), some (Value.pointer y7), some (Value.int .i64 y8), none, none, none, none, none, none, none, none, none, none, none, none, none, none, none, none, none, none, none, none, none, none, none, none, none, none, none, none, none, none, none, none, none, none, none, none, none, none, none, none, none, none, none] w = ref09_Pack.l7 (N + 1) y0 y0n y0c y6 y7 y8 w (fun o6 w => K (.exit 0) [none, none, none, none, none, none, some (Value.pointer o6), none, none, none, none, none, none, none, none, none, none, none, none, none, none, none, none, none, none, none, none, none, none, none, none, none, none, none, none, none, none, none, none, none, none, none, none, none, none, none, none, none, none, none, none, none] w) := by
  rw [ref09_Pack.les7]
  exact ref09_Pack.leG7 @ref04_NewEncoder.f @ref08_New.f @ref08_Model_Chance.f @ref04_Encoder_Encode.f @ref08_Model_Learn.f @ref04_Encoder_Flush.f N y0 y0n y0c y6 y7 y8 w K
theorem ref09_Pack.lok7 : LoopOk Try.prog ref09_Pack.L ref09_Pack.b0 := by
  refine loop_ok tab_ok ref09_Pack.C_ok (D := ref09_Pack.D) (ref09_Pack.hn7) (ref09_Pack.hx7) (by kernel_rfl) (by rw [ref09_Pack.b0_loops]; exact lcons ref09_Pack.lok10 (lnil)) ?_ ?_ ?_ ?_
  · intro f w K h
    unfold ref09_Pack.hn7 at h
    obtain ⟨hlen, h⟩ := gN_ok h
    obtain ⟨y0, y0n, y0c, h0, h⟩ := gL_ok h
    obtain ⟨y6, h6, h⟩ := gP_ok h
    obtain ⟨y7, h7, h⟩ := gP_ok h
    obtain ⟨y8, h8, h⟩ := gI_ok h
    exact h
  · intro N f w K h
    unfold ref09_Pack.hn7 at h
    obtain ⟨hlen, h⟩ := gN_ok h
    obtain ⟨y0, y0n, y0c, h0, h⟩ := gL_ok h
    obtain ⟨y6, h6, h⟩ := gP_ok h
    obtain ⟨y7, h7, h⟩ := gP_ok h
    obtain ⟨y8, h8, h⟩ := gI_ok h
    refine ⟨[some (Value.slice y0 y0n y0c), none, none, none, none, none, some (Value.pointer y6), some (Value.pointer y7), some (Value.int .i64 y8), none, none, none, none, none, none, none, none, none, none, none, none, none, none, none, none, none, none, none, none, none, none, none, none, none, none, none, none, none, none, none, none, none, none, none, none, none, none, none, none, none, none, none], hlen, ⟨h0, h6, h7, h8, trivial⟩, ?_⟩
    rw [ref09_Pack.le7]
    exact h
  · intro e f w K h
    cases e with
    | normal => exact h.elim
    | exit i =>
      unfold ref09_Pack.hx7 at h
      simp only at h
      split at h
      · rename_i hb
        obtain rfl := Nat.eq_of_beq_eq_true hb
        obtain ⟨hlen, h⟩ := gN_ok h
        obtain ⟨o6, h6, h⟩ := gP_ok h
        exact ⟨[none, none, none, none, none, none, some (Value.pointer o6), none, none, none, none, none, none, none, none, none, none, none, none, none, none, none, none, none, none, none, none, none, none, none, none, none, none, none, none, none, none, none, none, none, none, none, none, none, none, none, none, none, none, none, none, none], hlen, ⟨h6, trivial⟩, h⟩
      · exact (show False from h).elim
    | ret =>
      exact (show False from h).elim
  · intro f w K h
    have e : lid ref09_Pack.b0 = 7 := by kernel_rfl
    rw [e] at h
    exact h
theorem ref09_Pack.eqG (F65 : type_of% @ref04_NewEncoder.f) (F25 : type_of% @ref08_New.f) (F28 : type_of% @ref08_Model_Chance.f) (F66 : type_of% @ref04_Encoder_Encode.f) (F30 : type_of% @ref08_Model_Learn.f) (F67 : type_of% @ref04_Encoder_Flush.f) (a0 : Option Addr) (a0n : Nat) (a0c : Nat) (a1 : Int) (w : World) (K : Value → World → Prop) : afn (ref09_Pack.CG F65 F25 F28 F66 F30 F67) ref09_Pack.L ref09_Pack.D tab Try.f34 [(Value.slice a0 a0n a0c), (Value.int .i64 a1)] w K = ref09_Pack.G F65 F25 F28 F66 F30 F67 a0 a0n a0c a1 w (fun r0 r0n r0c r1 w => K (Value.tuple #[(Value.slice r0 r0n r0c), (Value.int .i64 r1)]) w) := by kernel_rfl
theorem ref09_Pack.eq (a0 : Option Addr) (a0n : Nat) (a0c : Nat) (a1 : Int) (w : World) (K : Value → World → Prop) : afn ref09_Pack.C ref09_Pack.L ref09_Pack.D tab Try.f34 [(Value.slice a0 a0n a0c), (Value.int .i64 a1)] w K = ref09_Pack.f a0 a0n a0c a1 w (fun r0 r0n r0c r1 w => K (Value.tuple #[(Value.slice r0 r0n r0c), (Value.int .i64 r1)]) w) := ref09_Pack.eqG @ref04_NewEncoder.f @ref08_New.f @ref08_Model_Chance.f @ref04_Encoder_Encode.f @ref08_Model_Learn.f @ref04_Encoder_Flush.f a0 a0n a0c a1 w K
theorem ref09_Pack.ok : FSound Try.prog 34 ref09_Pack.h := by
  intro args w K h
  unfold ref09_Pack.h ref09_Pack.H at h
  split at h
  ·
    replace h := vL_ok h
    obtain ⟨a0, a0n, a0c, rfl, h⟩ := h
    replace h := vI_ok h
    obtain ⟨a1, rfl, h⟩ := h
    refine ⟨by kernel_rfl, fn_ok tab_ok ref09_Pack.C_ok (L := ref09_Pack.L) (D := ref09_Pack.D) Try.func34 ref09_Pack.hb (by kernel_rfl) (by rw [ref09_Pack.c_loops]; exact lcons ref09_Pack.lok7 (lnil)) (Nat.le_of_ble_eq_true (by kernel_rfl)) ?_⟩
    rw [ref09_Pack.eq]
    exact h
  · exact h.elim
/-! ### valise/valisehelp.Bytes: function 35 -/
def help_Bytes.f (a0 : Option Addr) (a0n : Nat) (a0c : Nat) (a1 : Option Addr) (a1n : Nat) (a1c : Nat) (w : World) (K : Bool → World → Prop) : Prop :=
  strL a0 a0n a0c w fun s_3 =>
  strL a1 a1n a1c w fun s_4 =>
  let v4_5 := (s_3.toList == s_4.toList)
  K v4_5 w
def help_Bytes.H (F : type_of% @help_Bytes.f) : Hf := fun args w K => match args with
  | [v0, v1] => vL v0 fun a0 a0n a0c => vL v1 fun a1 a1n a1c => F a0 a0n a0c a1 a1n a1c w (fun r0 w => K (Value.bool r0) w)
  | _ => False
def help_Bytes.h : Hf := help_Bytes.H @help_Bytes.f
def help_Bytes.C : Hd := hnil
theorem help_Bytes.C_ok : CSound Try.prog help_Bytes.C := hnil_ok
def help_Bytes.D : Nat → Plan := fun i => .done
noncomputable def help_Bytes.c : Code := Try.f35.body.getD .skip
theorem help_Bytes.hb : Try.f35.body = some help_Bytes.c := by kernel_rfl
theorem help_Bytes.c_loops : loopsOf help_Bytes.c = [] := by kernel_rfl
def help_Bytes.L : LHd := fun l f w K => False
theorem help_Bytes.eq (a0 : Option Addr) (a0n : Nat) (a0c : Nat) (a1 : Option Addr) (a1n : Nat) (a1c : Nat) (w : World) (K : Value → World → Prop) : afn help_Bytes.C help_Bytes.L help_Bytes.D tab Try.f35 [(Value.slice a0 a0n a0c), (Value.slice a1 a1n a1c)] w K = help_Bytes.f a0 a0n a0c a1 a1n a1c w (fun r0 w => K (Value.bool r0) w) := by kernel_rfl
theorem help_Bytes.ok : FSound Try.prog 35 help_Bytes.h := by
  intro args w K h
  unfold help_Bytes.h help_Bytes.H at h
  split at h
  ·
    replace h := vL_ok h
    obtain ⟨a0, a0n, a0c, rfl, h⟩ := h
    replace h := vL_ok h
    obtain ⟨a1, a1n, a1c, rfl, h⟩ := h
    refine ⟨by kernel_rfl, fn_ok tab_ok help_Bytes.C_ok (L := help_Bytes.L) (D := help_Bytes.D) Try.func35 help_Bytes.hb (by kernel_rfl) (by rw [help_Bytes.c_loops]; exact lnil) (Nat.le_of_ble_eq_true (by kernel_rfl)) ?_⟩
    rw [help_Bytes.eq]
    exact h
  · exact h.elim
/-! ### valise/valisehelp.Plain[byte]$1: function 88 -/
def help_Plain_byte_f1.f (a0 : Int) (a1 : Int) (w : World) (K : Bool → World → Prop) : Prop :=
  K (a0 == a1) w
def help_Plain_byte_f1.H (F : type_of% @help_Plain_byte_f1.f) : Hf := fun args w K => match args with
  | [v0, v1] => vI .u8 v0 fun a0 => vI .u8 v1 fun a1 => F a0 a1 w (fun r0 w => K (Value.bool r0) w)
  | _ => False
def help_Plain_byte_f1.h : Hf := help_Plain_byte_f1.H @help_Plain_byte_f1.f
def help_Plain_byte_f1.C : Hd := hnil
theorem help_Plain_byte_f1.C_ok : CSound Try.prog help_Plain_byte_f1.C := hnil_ok
def help_Plain_byte_f1.D : Nat → Plan := fun i => .done
noncomputable def help_Plain_byte_f1.c : Code := Try.f88.body.getD .skip
theorem help_Plain_byte_f1.hb : Try.f88.body = some help_Plain_byte_f1.c := by kernel_rfl
theorem help_Plain_byte_f1.c_loops : loopsOf help_Plain_byte_f1.c = [] := by kernel_rfl
def help_Plain_byte_f1.L : LHd := fun l f w K => False
theorem help_Plain_byte_f1.eq (a0 : Int) (a1 : Int) (w : World) (K : Value → World → Prop) : afn help_Plain_byte_f1.C help_Plain_byte_f1.L help_Plain_byte_f1.D tab Try.f88 [(Value.int .u8 a0), (Value.int .u8 a1)] w K = help_Plain_byte_f1.f a0 a1 w (fun r0 w => K (Value.bool r0) w) := by kernel_rfl
theorem help_Plain_byte_f1.ok : FSound Try.prog 88 help_Plain_byte_f1.h := by
  intro args w K h
  unfold help_Plain_byte_f1.h help_Plain_byte_f1.H at h
  split at h
  ·
    replace h := vI_ok h
    obtain ⟨a0, rfl, h⟩ := h
    replace h := vI_ok h
    obtain ⟨a1, rfl, h⟩ := h
    refine ⟨by kernel_rfl, fn_ok tab_ok help_Plain_byte_f1.C_ok (L := help_Plain_byte_f1.L) (D := help_Plain_byte_f1.D) Try.func88 help_Plain_byte_f1.hb (by kernel_rfl) (by rw [help_Plain_byte_f1.c_loops]; exact lnil) (Nat.le_of_ble_eq_true (by kernel_rfl)) ?_⟩
    rw [help_Plain_byte_f1.eq]
    exact h
  · exact h.elim
/-! ### valise/valisehelp.Same[byte]: function 87 -/
def help_Same_byte.l4 : Nat → Option Addr → Nat → Nat → Option Addr → Nat → Nat → Int → World → (World → Prop) → (Bool → World → Prop) → Prop
  | 0, _, _, _, _, _, _, _, _, _, _ => False
  | N + 1, y0, y0n, y0c, y1, y1n, y1c, y7, w, K0, Kr =>
    bif (decide (y7 < ((y0n : Nat) : Int))) then
      sm y0 fun p_11 =>
      if 0 ≤ (y7 : Int) ∧ (y7 : Int) < ((y0n : Nat) : Int) then
      ldI .u8 (p_11.add (Int.toNat y7)) w.drew fun x23_12 =>
      sm y1 fun p_13 =>
      if 0 ≤ (y7 : Int) ∧ (y7 : Int) < ((y1n : Nat) : Int) then
      ldI .u8 (p_13.add (Int.toNat y7)) w.drew fun x27_14 =>
      help_Plain_byte_f1.f x23_12 x27_14 w.drew fun r28_15 w =>
      bif (!r28_15) then
        Kr false w
      else
        let v7_17 := (IntKind.wrap .i64 (y7 + 1))
        help_Same_byte.l4 N y0 y0n y0c y1 y1n y1c v7_17 w K0 Kr
      else False
      else False
    else
      K0 w

def help_Same_byte.f (a0 : Option Addr) (a0n : Nat) (a0c : Nat) (a1 : Option Addr) (a1n : Nat) (a1c : Nat) (w : World) (K : Bool → World → Prop) : Prop :=
  bif (((a0n : Nat) : Int) != ((a1n : Nat) : Int)) then
    K false w
  else
    ∃ N_18 : Nat, help_Same_byte.l4 N_18 a0 a0n a0c a1 a1n a1c 0 w
    (fun w =>
      K true w)
    (fun o6_19 w =>
      K o6_19 w)
def help_Same_byte.H (F : type_of% @help_Same_byte.f) : Hf := fun args w K => match args with
  | [v0, v1, v2] => vL v0 fun a0 a0n a0c => vL v1 fun a1 a1n a1c => vF 88 v2 <| F a0 a0n a0c a1 a1n a1c w (fun r0 w => K (Value.bool r0) w)
  | _ => False
def help_Same_byte.h : Hf := help_Same_byte.H @help_Same_byte.f
def help_Same_byte.C : Hd := hcons 88 help_Plain_byte_f1.h (hnil)
theorem help_Same_byte.C_ok : CSound Try.prog help_Same_byte.C := hcons_ok help_Plain_byte_f1.ok (hnil_ok)
def help_Same_byte.D : Nat → Plan := fun i => (match Nat.beq i 6 with | true => .take 0 (.take 1 (.take 2 (.take 3 (.take 4 (.take 5 (.take 6 (.take 7 (.take 8 (.eff 9 (.take 10 (.done))))))))))) | false => .done)
noncomputable def help_Same_byte.c : Code := Try.f87.body.getD .skip
theorem help_Same_byte.hb : Try.f87.body = some help_Same_byte.c := by kernel_rfl
noncomputable def help_Same_byte.b0 : Code := (loopsOf help_Same_byte.c).getD 0 .skip
theorem help_Same_byte.b0_loops : loopsOf help_Same_byte.b0 = [] := by kernel_rfl
theorem help_Same_byte.c_loops : loopsOf help_Same_byte.c = [help_Same_byte.b0] := by kernel_rfl
def help_Same_byte.hn4 (N : Nat) (f : Fr) (w : World) (K : AExit → Fr → World → Prop) : Prop :=
  gN f 30 <| gL f 0 fun y0 y0n y0c => gL f 1 fun y1 y1n y1c => gF 88 f 2 <| gI .i64 f 7 fun y7 => help_Same_byte.l4 N y0 y0n y0c y1 y1n y1c y7 w (fun w => K (.exit 0) [none, none, none, none, none, none, none, none, none, none, none, none, none, none, none, none, none, none, none, none, none, none, none, none, none, none, none, none, none, none] w) (fun o6 w => K .ret [none, none, none, none, none, none, some (Value.bool o6), none, none, none, none, none, none, none, none, none, none, none, none, none, none, none, none, none, none, none, none, none, none, none] w)
def help_Same_byte.hx4 : AExit → Fr → World → (AExit → Fr → World → Prop) → Prop := fun e f w K => match e with
  | .normal => False
  | .exit i => (match Nat.beq i 0 with | true => gN f 30 <|  K (.exit 0) [none, none, none, none, none, none, none, none, none, none, none, none, none, none, none, none, none, none, none, none, none, none, none, none, none, none, none, none, none, none] w | false => False)
  | .ret => gN f 30 <| gB f 6 fun o6 => K .ret [none, none, none, none, none, none, some (Value.bool o6), none, none, none, none, none, none, none, none, none, none, none, none, none, none, none, none, none, none, none, none, none, none, none] w
def help_Same_byte.L : LHd := fun l f w K => (match Nat.beq l 4 with | true => ∃ N, help_Same_byte.hn4 N f w K | false => False)
theorem help_Same_byte.le4 (N : Nat) (y0 : Option Addr) (y0n : Nat) (y0c : Nat) (y1 : Option Addr) (y1n : Nat) (y1c : Nat) (y7 : Int) (w : World) (K : AExit → Fr → World → Prop) : awp help_Same_byte.C help_Same_byte.L help_Same_byte.D tab help_Same_byte.b0 (lpost help_Same_byte.hn4 help_Same_byte.hx4 N K) [some (Value.slice y0 y0n y0c), some (Value.slice y1 y1n y1c), some (Value.func (.func 88) #[] #[]), none, none, none, none, some (Value.int .i64 y7), none, none, none, none, none, none, none, none, none, none, none, none, none, none, none, none, none, none, none, none, none, none] w = help_Same_byte.l4 (N + 1) y0 y0n y0c y1 y1n y1c y7 w (fun w => K (.exit 0) [none, none, none, none, none, none, none, none, none, none, none, none, none, none, none, none, none, none, none, none, none, none, none, none, none, none, none, none, none, none] w) (fun o6 w => K .ret [none, none, none, none, none, none, some (Value.bool o6), none, none, none, none, none, none, none, none, none, none, none, none, none, none, none, none, none, none, none, none, none, none, none] w) := by kernel_rfl
theorem help_Same_byte.lok4 : LoopOk Try.prog help_Same_byte.L help_Same_byte.b0 := by
  refine loop_ok tab_ok help_Same_byte.C_ok (D := help_Same_byte.D) (help_Same_byte.hn4) (help_Same_byte.hx4) (by kernel_rfl) (by rw [help_Same_byte.b0_loops]; exact lnil) ?_ ?_ ?_ ?_
  · intro f w K h
    unfold help_Same_byte.hn4 at h
    obtain ⟨hlen, h⟩ := gN_ok h
    obtain ⟨y0, y0n, y0c, h0, h⟩ := gL_ok h
    obtain ⟨y1, y1n, y1c, h1, h⟩ := gL_ok h
    obtain ⟨h2, h⟩ := gF_ok h
    obtain ⟨y7, h7, h⟩ := gI_ok h
    exact h
  · intro N f w K h
    unfold help_Same_byte.hn4 at h
    obtain ⟨hlen, h⟩ := gN_ok h
    obtain ⟨y0, y0n, y0c, h0, h⟩ := gL_ok h
    obtain ⟨y1, y1n, y1c, h1, h⟩ := gL_ok h
    obtain ⟨h2, h⟩ := gF_ok h
    obtain ⟨y7, h7, h⟩ := gI_ok h
    refine ⟨[some (Value.slice y0 y0n y0c), some (Value.slice y1 y1n y1c), some (Value.func (.func 88) #[] #[]), none, none, none, none, some (Value.int .i64 y7), none, none, none, none, none, none, none, none, none, none, none, none, none, none, none, none, none, none, none, none, none, none], hlen, ⟨h0, h1, h2, h7, trivial⟩, ?_⟩
    rw [help_Same_byte.le4]
    exact h
  · intro e f w K h
    cases e with
    | normal => exact h.elim
    | exit i =>
      unfold help_Same_byte.hx4 at h
      simp only at h
      split at h
      · rename_i hb
        obtain rfl := Nat.eq_of_beq_eq_true hb
        obtain ⟨hlen, h⟩ := gN_ok h
        exact ⟨[none, none, none, none, none, none, none, none, none, none, none, none, none, none, none, none, none, none, none, none, none, none, none, none, none, none, none, none, none, none], hlen, trivial, h⟩
      · exact (show False from h).elim
    | ret =>
      unfold help_Same_byte.hx4 at h
      simp only at h
      obtain ⟨hlen, h⟩ := gN_ok h
      obtain ⟨o6, h6, h⟩ := gB_ok h
      exact ⟨[none, none, none, none, none, none, some (Value.bool o6), none, none, none, none, none, none, none, none, none, none, none, none, none, none, none, none, none, none, none, none, none, none, none], hlen, ⟨h6, trivial⟩, h⟩
  · intro f w K h
    have e : lid help_Same_byte.b0 = 4 := by kernel_rfl
    rw [e] at h
    exact h
theorem help_Same_byte.eq (a0 : Option Addr) (a0n : Nat) (a0c : Nat) (a1 : Option Addr) (a1n : Nat) (a1c : Nat) (w : World) (K : Value → World → Prop) : afn help_Same_byte.C help_Same_byte.L help_Same_byte.D tab Try.f87 [(Value.slice a0 a0n a0c), (Value.slice a1 a1n a1c), (Value.func (.func 88) #[] #[])] w K = help_Same_byte.f a0 a0n a0c a1 a1n a1c w (fun r0 w => K (Value.bool r0) w) := by kernel_rfl
theorem help_Same_byte.ok : FSound Try.prog 87 help_Same_byte.h := by
  intro args w K h
  unfold help_Same_byte.h help_Same_byte.H at h
  split at h
  ·
    replace h := vL_ok h
    obtain ⟨a0, a0n, a0c, rfl, h⟩ := h
    replace h := vL_ok h
    obtain ⟨a1, a1n, a1c, rfl, h⟩ := h
    replace h := vF_ok h
    obtain ⟨rfl, h⟩ := h
    refine ⟨by kernel_rfl, fn_ok tab_ok help_Same_byte.C_ok (L := help_Same_byte.L) (D := help_Same_byte.D) Try.func87 help_Same_byte.hb (by kernel_rfl) (by rw [help_Same_byte.c_loops]; exact lcons help_Same_byte.lok4 (lnil)) (Nat.le_of_ble_eq_true (by kernel_rfl)) ?_⟩
    rw [help_Same_byte.eq]
    exact h
  · exact h.elim
/-! ### valise/valisehelp.Plain[byte]: function 68 -/
def help_Plain_byte.f (a0 : Option Addr) (a0n : Nat) (a0c : Nat) (a1 : Option Addr) (a1n : Nat) (a1c : Nat) (w : World) (K : Bool → World → Prop) : Prop :=
  help_Same_byte.f a0 a0n a0c a1 a1n a1c w fun r7_3 w =>
  K r7_3 w
def help_Plain_byte.H (F : type_of% @help_Plain_byte.f) : Hf := fun args w K => match args with
  | [v0, v1] => vL v0 fun a0 a0n a0c => vL v1 fun a1 a1n a1c => F a0 a0n a0c a1 a1n a1c w (fun r0 w => K (Value.bool r0) w)
  | _ => False
def help_Plain_byte.h : Hf := help_Plain_byte.H @help_Plain_byte.f
def help_Plain_byte.C : Hd := hcons 87 help_Same_byte.h (hnil)
theorem help_Plain_byte.C_ok : CSound Try.prog help_Plain_byte.C := hcons_ok help_Same_byte.ok (hnil_ok)
def help_Plain_byte.D : Nat → Plan := fun i => .done
noncomputable def help_Plain_byte.c : Code := Try.f68.body.getD .skip
theorem help_Plain_byte.hb : Try.f68.body = some help_Plain_byte.c := by kernel_rfl
theorem help_Plain_byte.c_loops : loopsOf help_Plain_byte.c = [] := by kernel_rfl
def help_Plain_byte.L : LHd := fun l f w K => False
theorem help_Plain_byte.eq (a0 : Option Addr) (a0n : Nat) (a0c : Nat) (a1 : Option Addr) (a1n : Nat) (a1c : Nat) (w : World) (K : Value → World → Prop) : afn help_Plain_byte.C help_Plain_byte.L help_Plain_byte.D tab Try.f68 [(Value.slice a0 a0n a0c), (Value.slice a1 a1n a1c)] w K = help_Plain_byte.f a0 a0n a0c a1 a1n a1c w (fun r0 w => K (Value.bool r0) w) := by kernel_rfl
theorem help_Plain_byte.ok : FSound Try.prog 68 help_Plain_byte.h := by
  intro args w K h
  unfold help_Plain_byte.h help_Plain_byte.H at h
  split at h
  ·
    replace h := vL_ok h
    obtain ⟨a0, a0n, a0c, rfl, h⟩ := h
    replace h := vL_ok h
    obtain ⟨a1, a1n, a1c, rfl, h⟩ := h
    refine ⟨by kernel_rfl, fn_ok tab_ok help_Plain_byte.C_ok (L := help_Plain_byte.L) (D := help_Plain_byte.D) Try.func68 help_Plain_byte.hb (by kernel_rfl) (by rw [help_Plain_byte.c_loops]; exact lnil) (Nat.le_of_ble_eq_true (by kernel_rfl)) ?_⟩
    rw [help_Plain_byte.eq]
    exact h
  · exact h.elim
/-! ### valise/valisehelp.Kept[byte]: function 36 -/
def help_Kept_byte.l5 : Nat → Int → Option Addr → Nat → Nat → Int → World → (World → Prop) → (Bool → World → Prop) → Prop
  | 0, _, _, _, _, _, _, _, _ => False
  | N + 1, y2, y7, y7n, y7c, y8, w, K0, Kr =>
    bif (decide (y8 < ((y7n : Nat) : Int))) then
      sm y7 fun p_17 =>
      if 0 ≤ (y8 : Int) ∧ (y8 : Int) < ((y7n : Nat) : Int) then
      ldI .u8 (p_17.add (Int.toNat y8)) w fun x37_18 =>
      bif (x37_18 != y2) then
        Kr false w
      else
        let v8_20 := (IntKind.wrap .i64 (y8 + 1))
        help_Kept_byte.l5 N y2 y7 y7n y7c v8_20 w K0 Kr
      else False
    else
      K0 w

def help_Kept_byte.f (a0 : Option Addr) (a0n : Nat) (a0c : Nat) (a1 : Option Addr) (a1n : Nat) (a1c : Nat) (a2 : Int) (w : World) (K : Bool → World → Prop) : Prop :=
  help_Plain_byte.f a0 a0n a0c a1 a1n a1c w fun r11_4 w =>
  bif (!r11_4) then
    K false w
  else
    bif (decide (((a0c : Nat) : Int) < (IntKind.wrap .i64 (((a1n : Nat) : Int) + 3)))) then
      K false w
    else
      bnd a0n a0c none (some (Value.int .i64 (IntKind.wrap .i64 (((a1n : Nat) : Int) + 3)))) fun l_8 h_9 =>
      let v8_12 := ((a1n : Nat) : Int)
      ∃ N_21 : Nat, help_Kept_byte.l5 N_21 a2 (adrS a0 l_8 a0c 1) (h_9 - l_8) (a0c - l_8) v8_12 w
      (fun w =>
        K true w)
      (fun o6_22 w =>
        K o6_22 w)
def help_Kept_byte.H (F : type_of% @help_Kept_byte.f) : Hf := fun args w K => match args with
  | [v0, v1, v2] => vL v0 fun a0 a0n a0c => vL v1 fun a1 a1n a1c => vI .u8 v2 fun a2 => F a0 a0n a0c a1 a1n a1c a2 w (fun r0 w => K (Value.bool r0) w)
  | _ => False
def help_Kept_byte.h : Hf := help_Kept_byte.H @help_Kept_byte.f
def help_Kept_byte.C : Hd := hcons 68 help_Plain_byte.h (hnil)
theorem help_Kept_byte.C_ok : CSound Try.prog help_Kept_byte.C := hcons_ok help_Plain_byte.ok (hnil_ok)
def help_Kept_byte.D : Nat → Plan := fun i => .done
noncomputable def help_Kept_byte.c : Code := Try.f36.body.getD .skip
theorem help_Kept_byte.hb : Try.f36.body = some help_Kept_byte.c := by kernel_rfl
noncomputable def help_Kept_byte.b0 : Code := (loopsOf help_Kept_byte.c).getD 0 .skip
theorem help_Kept_byte.b0_loops : loopsOf help_Kept_byte.b0 = [] := by kernel_rfl
theorem help_Kept_byte.c_loops : loopsOf help_Kept_byte.c = [help_Kept_byte.b0] := by kernel_rfl
def help_Kept_byte.hn5 (N : Nat) (f : Fr) (w : World) (K : AExit → Fr → World → Prop) : Prop :=
  gN f 40 <| gI .u8 f 2 fun y2 => gL f 7 fun y7 y7n y7c => gI .i64 f 8 fun y8 => help_Kept_byte.l5 N y2 y7 y7n y7c y8 w (fun w => K (.exit 0) [none, none, none, none, none, none, none, none, none, none, none, none, none, none, none, none, none, none, none, none, none, none, none, none, none, none, none, none, none, none, none, none, none, none, none, none, none, none, none, none] w) (fun o6 w => K .ret [none, none, none, none, none, none, some (Value.bool o6), none, none, none, none, none, none, none, none, none, none, none, none, none, none, none, none, none, none, none, none, none, none, none, none, none, none, none, none, none, none, none, none, none] w)
def help_Kept_byte.hx5 : AExit → Fr → World → (AExit → Fr → World → Prop) → Prop := fun e f w K => match e with
  | .normal => False
  | .exit i => (match Nat.beq i 0 with | true => gN f 40 <|  K (.exit 0) [none, none, none, none, none, none, none, none, none, none, none, none, none, none, none, none, none, none, none, none, none, none, none, none, none, none, none, none, none, none, none, none, none, none, none, none, none, none, none, none] w | false => False)
  | .ret => gN f 40 <| gB f 6 fun o6 => K .ret [none, none, none, none, none, none, some (Value.bool o6), none, none, none, none, none, none, none, none, none, none, none, none, none, none, none, none, none, none, none, none, none, none, none, none, none, none, none, none, none, none, none, none, none] w
def help_Kept_byte.L : LHd := fun l f w K => (match Nat.beq l 5 with | true => ∃ N, help_Kept_byte.hn5 N f w K | false => False)
theorem help_Kept_byte.le5 (N : Nat) (y2 : Int) (y7 : Option Addr) (y7n : Nat) (y7c : Nat) (y8 : Int) (w : World) (K : AExit → Fr → World → Prop) : awp help_Kept_byte.C help_Kept_byte.L help_Kept_byte.D tab help_Kept_byte.b0 (lpost help_Kept_byte.hn5 help_Kept_byte.hx5 N K) [none, none, some (Value.int .u8 y2), none, none, none, none, some (Value.slice y7 y7n y7c), some (Value.int .i64 y8), none, none, none, none, none, none, none, none, none, none, none, none, none, none, none, none, none, none, none, none, none, none, none, none, none, none, none, none, none, none, none] w = help_Kept_byte.l5 (N + 1) y2 y7 y7n y7c y8 w (fun w => K (.exit 0) [none, none, none, none, none, none, none, none, none, none, none, none, none, none, none, none, none, none, none, none, none, none, none, none, none, none, none, none, none, none, none, none, none, none, none, none, none, none, none, none] w) (fun o6 w => K .ret [none, none, none, none, none, none, some (Value.bool o6), none, none, none, none, none, none, none, none, none, none, none, none, none, none, none, none, none, none, none, none, none, none, none, none, none, none, none, none, none, none, none, none, none] w) := by kernel_rfl
theorem help_Kept_byte.lok5 : LoopOk Try.prog help_Kept_byte.L help_Kept_byte.b0 := by
  refine loop_ok tab_ok help_Kept_byte.C_ok (D := help_Kept_byte.D) (help_Kept_byte.hn5) (help_Kept_byte.hx5) (by kernel_rfl) (by rw [help_Kept_byte.b0_loops]; exact lnil) ?_ ?_ ?_ ?_
  · intro f w K h
    unfold help_Kept_byte.hn5 at h
    obtain ⟨hlen, h⟩ := gN_ok h
    obtain ⟨y2, h2, h⟩ := gI_ok h
    obtain ⟨y7, y7n, y7c, h7, h⟩ := gL_ok h
    obtain ⟨y8, h8, h⟩ := gI_ok h
    exact h
  · intro N f w K h
    unfold help_Kept_byte.hn5 at h
    obtain ⟨hlen, h⟩ := gN_ok h
    obtain ⟨y2, h2, h⟩ := gI_ok h
    obtain ⟨y7, y7n, y7c, h7, h⟩ := gL_ok h
    obtain ⟨y8, h8, h⟩ := gI_ok h
    refine ⟨[none, none, some (Value.int .u8 y2), none, none, none, none, some (Value.slice y7 y7n y7c), some (Value.int .i64 y8), none, none, none, none, none, none, none, none, none, none, none, none, none, none, none, none, none, none, none, none, none, none, none, none, none, none, none, none, none, none, none], hlen, ⟨h2, h7, h8, trivial⟩, ?_⟩
    rw [help_Kept_byte.le5]
    exact h
  · intro e f w K h
    cases e with
    | normal => exact h.elim
    | exit i =>
      unfold help_Kept_byte.hx5 at h
      simp only at h
      split at h
      · rename_i hb
        obtain rfl := Nat.eq_of_beq_eq_true hb
        obtain ⟨hlen, h⟩ := gN_ok h
        exact ⟨[none, none, none, none, none, none, none, none, none, none, none, none, none, none, none, none, none, none, none, none, none, none, none, none, none, none, none, none, none, none, none, none, none, none, none, none, none, none, none, none], hlen, trivial, h⟩
      · exact (show False from h).elim
    | ret =>
      unfold help_Kept_byte.hx5 at h
      simp only at h
      obtain ⟨hlen, h⟩ := gN_ok h
      obtain ⟨o6, h6, h⟩ := gB_ok h
      exact ⟨[none, none, none, none, none, none, some (Value.bool o6), none, none, none, none, none, none, none, none, none, none, none, none, none, none, none, none, none, none, none, none, none, none, none, none, none, none, none, none, none, none, none, none, none], hlen, ⟨h6, trivial⟩, h⟩
  · intro f w K h
    have e : lid help_Kept_byte.b0 = 5 := by kernel_rfl
    rw [e] at h
    exact h
theorem help_Kept_byte.eq (a0 : Option Addr) (a0n : Nat) (a0c : Nat) (a1 : Option Addr) (a1n : Nat) (a1c : Nat) (a2 : Int) (w : World) (K : Value → World → Prop) : afn help_Kept_byte.C help_Kept_byte.L help_Kept_byte.D tab Try.f36 [(Value.slice a0 a0n a0c), (Value.slice a1 a1n a1c), (Value.int .u8 a2)] w K = help_Kept_byte.f a0 a0n a0c a1 a1n a1c a2 w (fun r0 w => K (Value.bool r0) w) := by kernel_rfl
theorem help_Kept_byte.ok : FSound Try.prog 36 help_Kept_byte.h := by
  intro args w K h
  unfold help_Kept_byte.h help_Kept_byte.H at h
  split at h
  ·
    replace h := vL_ok h
    obtain ⟨a0, a0n, a0c, rfl, h⟩ := h
    replace h := vL_ok h
    obtain ⟨a1, a1n, a1c, rfl, h⟩ := h
    replace h := vI_ok h
    obtain ⟨a2, rfl, h⟩ := h
    refine ⟨by kernel_rfl, fn_ok tab_ok help_Kept_byte.C_ok (L := help_Kept_byte.L) (D := help_Kept_byte.D) Try.func36 help_Kept_byte.hb (by kernel_rfl) (by rw [help_Kept_byte.c_loops]; exact lcons help_Kept_byte.lok5 (lnil)) (Nat.le_of_ble_eq_true (by kernel_rfl)) ?_⟩
    rw [help_Kept_byte.eq]
    exact h
  · exact h.elim

end Go.Proofs.Ytdbnobeopgfhgaa.G
