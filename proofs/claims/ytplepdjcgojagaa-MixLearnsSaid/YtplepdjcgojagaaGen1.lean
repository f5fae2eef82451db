/- Go functions as predicate transformers, written by a program of this session (gen.py), with their soundness. -/
import Derived.Test.YtplepdjcgojagaaGenT
set_option linter.unusedVariables false
set_option linter.unusedSimpArgs false
set_option maxRecDepth 100000
namespace Go.Proofs.Ytplepdjcgojagaa.G
open Go Go.Proofs.Ytplepdjcgojagaa.Vm
/-! ### valise/guess.Next: function 14 -/
def guess_Next.f (a0 : Int) (a1 : Int) (a2 : Int) (w : World) (K : Int → World → Prop) : Prop :=
  let v2_3 := (mx 1 (mn a2 15))
  bif (a1 != 0) then
    if v2_3 < 0 then False else
    let v6_7 := (IntKind.wrap .u16 (a0 + (shr .u16 (IntKind.wrap .u16 (65535 - a0)) (min (Int.toNat v2_3) (IntKind.bits .u16)))))
    K v6_7 w
  else
    if v2_3 < 0 then False else
    let v6_9 := (IntKind.wrap .u16 (a0 - (shr .u16 a0 (min (Int.toNat v2_3) (IntKind.bits .u16)))))
    K v6_9 w
def guess_Next.H (F : type_of% @guess_Next.f) : Hf := fun args w K => match args with
  | [v0, v1, v2] => vI .u16 v0 fun a0 => vI .i64 v1 fun a1 => vI .i64 v2 fun a2 => F a0 a1 a2 w (fun r0 w => K (Value.int .u16 r0) w)
  | _ => False
def guess_Next.h : Hf := guess_Next.H @guess_Next.f
def guess_Next.C : Hd := hnil
theorem guess_Next.C_ok : CSound Try.prog guess_Next.C := hnil_ok
def guess_Next.D : Nat → Plan := fun i => .done
noncomputable def guess_Next.c : Code := Try.f14.body.getD .skip
theorem guess_Next.hb : Try.f14.body = some guess_Next.c := by kernel_rfl
theorem guess_Next.c_loops : loopsOf guess_Next.c = [] := by kernel_rfl
def guess_Next.L : LHd := fun l f w K => False
theorem guess_Next.eq (a0 : Int) (a1 : Int) (a2 : Int) (w : World) (K : Value → World → Prop) : afn guess_Next.C guess_Next.L guess_Next.D tab Try.f14 [(Value.int .u16 a0), (Value.int .i64 a1), (Value.int .i64 a2)] w K = guess_Next.f a0 a1 a2 w (fun r0 w => K (Value.int .u16 r0) w) := by kernel_rfl
theorem guess_Next.ok : FSound Try.prog 14 guess_Next.h := by
  intro args w K h
  unfold guess_Next.h guess_Next.H at h
  split at h
  ·
    replace h := vI_ok h
    obtain ⟨a0, rfl, h⟩ := h
    replace h := vI_ok h
    obtain ⟨a1, rfl, h⟩ := h
    replace h := vI_ok h
    obtain ⟨a2, rfl, h⟩ := h
    refine ⟨by kernel_rfl, fn_ok tab_ok guess_Next.C_ok (L := guess_Next.L) (D := guess_Next.D) Try.func14 guess_Next.hb (by kernel_rfl) (by rw [guess_Next.c_loops]; exact lnil) (Nat.le_of_ble_eq_true (by kernel_rfl)) ?_⟩
    rw [guess_Next.eq]
    exact h
  · exact h.elim
/-! ### valise/guess.Chance: function 16 -/
def guess_Chance.f (a0 : Int) (w : World) (K : Int → World → Prop) : Prop :=
  let v2_3 := (mx 1 (IntKind.wrap .i64 (shr .u16 a0 4)))
  K v2_3 w
def guess_Chance.H (F : type_of% @guess_Chance.f) : Hf := fun args w K => match args with
  | [v0] => vI .u16 v0 fun a0 => F a0 w (fun r0 w => K (Value.int .i64 r0) w)
  | _ => False
def guess_Chance.h : Hf := guess_Chance.H @guess_Chance.f
def guess_Chance.C : Hd := hnil
theorem guess_Chance.C_ok : CSound Try.prog guess_Chance.C := hnil_ok
def guess_Chance.D : Nat → Plan := fun i => .done
noncomputable def guess_Chance.c : Code := Try.f16.body.getD .skip
theorem guess_Chance.hb : Try.f16.body = some guess_Chance.c := by kernel_rfl
theorem guess_Chance.c_loops : loopsOf guess_Chance.c = [] := by kernel_rfl
def guess_Chance.L : LHd := fun l f w K => False
theorem guess_Chance.eq (a0 : Int) (w : World) (K : Value → World → Prop) : afn guess_Chance.C guess_Chance.L guess_Chance.D tab Try.f16 [(Value.int .u16 a0)] w K = guess_Chance.f a0 w (fun r0 w => K (Value.int .i64 r0) w) := by kernel_rfl
theorem guess_Chance.ok : FSound Try.prog 16 guess_Chance.h := by
  intro args w K h
  unfold guess_Chance.h guess_Chance.H at h
  split at h
  ·
    replace h := vI_ok h
    obtain ⟨a0, rfl, h⟩ := h
    refine ⟨by kernel_rfl, fn_ok tab_ok guess_Chance.C_ok (L := guess_Chance.L) (D := guess_Chance.D) Try.func16 guess_Chance.hb (by kernel_rfl) (by rw [guess_Chance.c_loops]; exact lnil) (Nat.le_of_ble_eq_true (by kernel_rfl)) ?_⟩
    rw [guess_Chance.eq]
    exact h
  · exact h.elim
/-! ### valise/valiselaw05.awake: function 13 -/
def law05_awake.f  (w : World) (K : Bool → World → Prop) : Prop :=
  guess_Next.f 32768 1 4 w fun r1_3 w =>
  bif (r1_3 == 34815) then
    guess_Chance.f 32768 w fun r4_4 w =>
    let v0_5 := (r4_4 == 2048)
    K v0_5 w
  else
    K false w
def law05_awake.H (F : type_of% @law05_awake.f) : Hf := fun args w K => match args with
  | [] =>  F  w (fun r0 w => K (Value.bool r0) w)
  | _ => False
def law05_awake.h : Hf := law05_awake.H @law05_awake.f
def law05_awake.C : Hd := hcons 16 guess_Chance.h (hcons 14 guess_Next.h (hnil))
theorem law05_awake.C_ok : CSound Try.prog law05_awake.C := hcons_ok guess_Chance.ok (hcons_ok guess_Next.ok (hnil_ok))
def law05_awake.D : Nat → Plan := fun i => .done
noncomputable def law05_awake.c : Code := Try.f13.body.getD .skip
theorem law05_awake.hb : Try.f13.body = some law05_awake.c := by kernel_rfl
theorem law05_awake.c_loops : loopsOf law05_awake.c = [] := by kernel_rfl
def law05_awake.L : LHd := fun l f w K => False
theorem law05_awake.eq  (w : World) (K : Value → World → Prop) : afn law05_awake.C law05_awake.L law05_awake.D tab Try.f13 [] w K = law05_awake.f  w (fun r0 w => K (Value.bool r0) w) := by kernel_rfl
theorem law05_awake.ok : FSound Try.prog 13 law05_awake.h := by
  intro args w K h
  unfold law05_awake.h law05_awake.H at h
  split at h
  ·
    refine ⟨by kernel_rfl, fn_ok tab_ok law05_awake.C_ok (L := law05_awake.L) (D := law05_awake.D) Try.func13 law05_awake.hb (by kernel_rfl) (by rw [law05_awake.c_loops]; exact lnil) (Nat.le_of_ble_eq_true (by kernel_rfl)) ?_⟩
    rw [law05_awake.eq]
    exact h
  · exact h.elim
/-! ### valise/valiseref05.Next: function 15 -/
def ref05_Next.f (a0 : Int) (a1 : Int) (a2 : Int) (w : World) (K : Int → World → Prop) : Prop :=
  let v7_3 := (IntKind.wrap .u64 (mx 1 (mn a2 15)))
  bif (a1 != 0) then
    if v7_3 < 0 then False else
    let v6_7 := (IntKind.wrap .u16 (a0 + (shr .u16 (IntKind.wrap .u16 (65535 - a0)) (min (Int.toNat v7_3) (IntKind.bits .u16)))))
    K v6_7 w
  else
    if v7_3 < 0 then False else
    let v6_9 := (IntKind.wrap .u16 (a0 - (shr .u16 a0 (min (Int.toNat v7_3) (IntKind.bits .u16)))))
    K v6_9 w
def ref05_Next.H (F : type_of% @ref05_Next.f) : Hf := fun args w K => match args with
  | [v0, v1, v2] => vI .u16 v0 fun a0 => vI .i64 v1 fun a1 => vI .i64 v2 fun a2 => F a0 a1 a2 w (fun r0 w => K (Value.int .u16 r0) w)
  | _ => False
def ref05_Next.h : Hf := ref05_Next.H @ref05_Next.f
def ref05_Next.C : Hd := hnil
theorem ref05_Next.C_ok : CSound Try.prog ref05_Next.C := hnil_ok
def ref05_Next.D : Nat → Plan := fun i => .done
noncomputable def ref05_Next.c : Code := Try.f15.body.getD .skip
theorem ref05_Next.hb : Try.f15.body = some ref05_Next.c := by kernel_rfl
theorem ref05_Next.c_loops : loopsOf ref05_Next.c = [] := by kernel_rfl
def ref05_Next.L : LHd := fun l f w K => False
theorem ref05_Next.eq (a0 : Int) (a1 : Int) (a2 : Int) (w : World) (K : Value → World → Prop) : afn ref05_Next.C ref05_Next.L ref05_Next.D tab Try.f15 [(Value.int .u16 a0), (Value.int .i64 a1), (Value.int .i64 a2)] w K = ref05_Next.f a0 a1 a2 w (fun r0 w => K (Value.int .u16 r0) w) := by kernel_rfl
theorem ref05_Next.ok : FSound Try.prog 15 ref05_Next.h := by
  intro args w K h
  unfold ref05_Next.h ref05_Next.H at h
  split at h
  ·
    replace h := vI_ok h
    obtain ⟨a0, rfl, h⟩ := h
    replace h := vI_ok h
    obtain ⟨a1, rfl, h⟩ := h
    replace h := vI_ok h
    obtain ⟨a2, rfl, h⟩ := h
    refine ⟨by kernel_rfl, fn_ok tab_ok ref05_Next.C_ok (L := ref05_Next.L) (D := ref05_Next.D) Try.func15 ref05_Next.hb (by kernel_rfl) (by rw [ref05_Next.c_loops]; exact lnil) (Nat.le_of_ble_eq_true (by kernel_rfl)) ?_⟩
    rw [ref05_Next.eq]
    exact h
  · exact h.elim
/-! ### valise/valiseref05.Chance: function 17 -/
def ref05_Chance.f (a0 : Int) (w : World) (K : Int → World → Prop) : Prop :=
  let v2_3 := (mx 1 (IntKind.wrap .i64 (shr .u16 a0 4)))
  K v2_3 w
def ref05_Chance.H (F : type_of% @ref05_Chance.f) : Hf := fun args w K => match args with
  | [v0] => vI .u16 v0 fun a0 => F a0 w (fun r0 w => K (Value.int .i64 r0) w)
  | _ => False
def ref05_Chance.h : Hf := ref05_Chance.H @ref05_Chance.f
def ref05_Chance.C : Hd := hnil
theorem ref05_Chance.C_ok : CSound Try.prog ref05_Chance.C := hnil_ok
def ref05_Chance.D : Nat → Plan := fun i => .done
noncomputable def ref05_Chance.c : Code := Try.f17.body.getD .skip
theorem ref05_Chance.hb : Try.f17.body = some ref05_Chance.c := by kernel_rfl
theorem ref05_Chance.c_loops : loopsOf ref05_Chance.c = [] := by kernel_rfl
def ref05_Chance.L : LHd := fun l f w K => False
theorem ref05_Chance.eq (a0 : Int) (w : World) (K : Value → World → Prop) : afn ref05_Chance.C ref05_Chance.L ref05_Chance.D tab Try.f17 [(Value.int .u16 a0)] w K = ref05_Chance.f a0 w (fun r0 w => K (Value.int .i64 r0) w) := by kernel_rfl
theorem ref05_Chance.ok : FSound Try.prog 17 ref05_Chance.h := by
  intro args w K h
  unfold ref05_Chance.h ref05_Chance.H at h
  split at h
  ·
    replace h := vI_ok h
    obtain ⟨a0, rfl, h⟩ := h
    refine ⟨by kernel_rfl, fn_ok tab_ok ref05_Chance.C_ok (L := ref05_Chance.L) (D := ref05_Chance.D) Try.func17 ref05_Chance.hb (by kernel_rfl) (by rw [ref05_Chance.c_loops]; exact lnil) (Nat.le_of_ble_eq_true (by kernel_rfl)) ?_⟩
    rw [ref05_Chance.eq]
    exact h
  · exact h.elim
/-! ### valise/guess.New: function 18 -/
def guess_New.f (a0 : Int) (w : World) (K : Option Addr → World → Prop) : Prop :=
  mkL 22 1 2 [(Value.int .u16 0)] (mx 1 (mn a0 65536)) (mx 1 (mn a0 65536)) w fun a6_3 a6_3n a6_3c w =>
  newC 70 [(Value.slice a6_3 a6_3n a6_3c)] w fun a9_4 w =>
  K (some a9_4) w
def guess_New.H (F : type_of% @guess_New.f) : Hf := fun args w K => match args with
  | [v0] => vI .i64 v0 fun a0 => F a0 w (fun r0 w => K (Value.pointer r0) w)
  | _ => False
def guess_New.h : Hf := guess_New.H @guess_New.f
def guess_New.C : Hd := hnil
theorem guess_New.C_ok : CSound Try.prog guess_New.C := hnil_ok
def guess_New.D : Nat → Plan := fun i => .done
noncomputable def guess_New.c : Code := Try.f18.body.getD .skip
theorem guess_New.hb : Try.f18.body = some guess_New.c := by kernel_rfl
theorem guess_New.c_loops : loopsOf guess_New.c = [] := by kernel_rfl
def guess_New.L : LHd := fun l f w K => False
theorem guess_New.eq (a0 : Int) (w : World) (K : Value → World → Prop) : afn guess_New.C guess_New.L guess_New.D tab Try.f18 [(Value.int .i64 a0)] w K = guess_New.f a0 w (fun r0 w => K (Value.pointer r0) w) := by kernel_rfl
theorem guess_New.ok : FSound Try.prog 18 guess_New.h := by
  intro args w K h
  unfold guess_New.h guess_New.H at h
  split at h
  ·
    replace h := vI_ok h
    obtain ⟨a0, rfl, h⟩ := h
    refine ⟨by kernel_rfl, fn_ok tab_ok guess_New.C_ok (L := guess_New.L) (D := guess_New.D) Try.func18 guess_New.hb (by kernel_rfl) (by rw [guess_New.c_loops]; exact lnil) (Nat.le_of_ble_eq_true (by kernel_rfl)) ?_⟩
    rw [guess_New.eq]
    exact h
  · exact h.elim
/-! ### valise/valiseref05.New: function 19 -/
def ref05_New.l3 : Nat → Int → Addr → Int → World → (Addr → World → Prop) → Prop
  | 0, _, _, _, _, _ => False
  | N + 1, y0, y3, y4, w, K0 =>
    bif (decide (y4 < (mx 1 (mn y0 65536)))) then
      ldL y3 w fun x18_9 x18_9n x18_9c =>
      newC 22 [(Value.int .u16 32768)] w fun a19_10 w =>
      appL 22 1 2 [(Value.int .u16 0)] x18_9 x18_9n x18_9c (some a19_10) 1 1 w fun a20_11 a20_11n a20_11c w =>
      stC y3 (Value.slice a20_11 a20_11n a20_11c) w fun w =>
      let v4_12 := (IntKind.wrap .i64 (y4 + 1))
      ref05_New.l3 N y0 y3 v4_12 w K0
    else
      K0 y3 w

def ref05_New.f (a0 : Int) (w : World) (K : Option Addr → World → Prop) : Prop :=
  newC 38 [(Value.slice none 0 0)] w fun a6_3 w =>
  ∃ N_13 : Nat, ref05_New.l3 N_13 a0 a6_3 0 w
  (fun o3_14 w =>
    K (some o3_14) w)
def ref05_New.H (F : type_of% @ref05_New.f) : Hf := fun args w K => match args with
  | [v0] => vI .i64 v0 fun a0 => F a0 w (fun r0 w => K (Value.pointer r0) w)
  | _ => False
def ref05_New.h : Hf := ref05_New.H @ref05_New.f
def ref05_New.C : Hd := hnil
theorem ref05_New.C_ok : CSound Try.prog ref05_New.C := hnil_ok
def ref05_New.D : Nat → Plan := fun i => .done
noncomputable def ref05_New.c : Code := Try.f19.body.getD .skip
theorem ref05_New.hb : Try.f19.body = some ref05_New.c := by kernel_rfl
noncomputable def ref05_New.b0 : Code := (loopsOf ref05_New.c).getD 0 .skip
theorem ref05_New.b0_loops : loopsOf ref05_New.b0 = [] := by kernel_rfl
theorem ref05_New.c_loops : loopsOf ref05_New.c = [ref05_New.b0] := by kernel_rfl
def ref05_New.hn3 (N : Nat) (f : Fr) (w : World) (K : AExit → Fr → World → Prop) : Prop :=
  gN f 24 <| gI .i64 f 0 fun y0 => gQ f 3 fun y3 => gI .i64 f 4 fun y4 => ref05_New.l3 N y0 y3 y4 w (fun o3 w => K (.exit 0) [none, none, none, some (Value.pointer (some o3)), none, none, none, none, none, none, none, none, none, none, none, none, none, none, none, none, none, none, none, none] w)
def ref05_New.hx3 : AExit → Fr → World → (AExit → Fr → World → Prop) → Prop := fun e f w K => match e with
  | .normal => False
  | .exit i => (match Nat.beq i 0 with | true => gN f 24 <| gQ f 3 fun o3 => K (.exit 0) [none, none, none, some (Value.pointer (some o3)), none, none, none, none, none, none, none, none, none, none, none, none, none, none, none, none, none, none, none, none] w | false => False)
  | .ret => False
def ref05_New.L : LHd := fun l f w K => (match Nat.beq l 3 with | true => ∃ N, ref05_New.hn3 N f w K | false => False)
theorem ref05_New.le3 (N : Nat) (y0 : Int) (y3 : Addr) (y4 : Int) (w : World) (K : AExit → Fr → World → Prop) : awp ref05_New.C ref05_New.L ref05_New.D tab ref05_New.b0 (lpost ref05_New.hn3 ref05_New.hx3 N K) [some (Value.int .i64 y0), none, none, some (Value.pointer (some y3)), some (Value.int .i64 y4), none, none, none, none, none, none, none, none, none, none, none, none, none, none, none, none, none, none, none] w = ref05_New.l3 (N + 1) y0 y3 y4 w (fun o3 w => K (.exit 0) [none, none, none, some (Value.pointer (some o3)), none, none, none, none, none, none, none, none, none, none, none, none, none, none, none, none, none, none, none, none] w) := by kernel_rfl
theorem ref05_New.lok3 : LoopOk Try.prog ref05_New.L ref05_New.b0 := by
  refine loop_ok tab_ok ref05_New.C_ok (D := ref05_New.D) (ref05_New.hn3) (ref05_New.hx3) (by kernel_rfl) (by rw [ref05_New.b0_loops]; exact lnil) ?_ ?_ ?_ ?_
  · intro f w K h
    unfold ref05_New.hn3 at h
    obtain ⟨hlen, h⟩ := gN_ok h
    obtain ⟨y0, h0, h⟩ := gI_ok h
    obtain ⟨y3, h3, h⟩ := gQ_ok h
    obtain ⟨y4, h4, h⟩ := gI_ok h
    exact h
  · intro N f w K h
    unfold ref05_New.hn3 at h
    obtain ⟨hlen, h⟩ := gN_ok h
    obtain ⟨y0, h0, h⟩ := gI_ok h
    obtain ⟨y3, h3, h⟩ := gQ_ok h
    obtain ⟨y4, h4, h⟩ := gI_ok h
    refine ⟨[some (Value.int .i64 y0), none, none, some (Value.pointer (some y3)), some (Value.int .i64 y4), none, none, none, none, none, none, none, none, none, none, none, none, none, none, none, none, none, none, none], hlen, ⟨h0, h3, h4, trivial⟩, ?_⟩
    rw [ref05_New.le3]
    exact h
  · intro e f w K h
    cases e with
    | normal => exact h.elim
    | exit i =>
      unfold ref05_New.hx3 at h
      simp only at h
      split at h
      · rename_i hb
        obtain rfl := Nat.eq_of_beq_eq_true hb
        obtain ⟨hlen, h⟩ := gN_ok h
        obtain ⟨o3, h3, h⟩ := gQ_ok h
        exact ⟨[none, none, none, some (Value.pointer (some o3)), none, none, none, none, none, none, none, none, none, none, none, none, none, none, none, none, none, none, none, none], hlen, ⟨h3, trivial⟩, h⟩
      · exact (show False from h).elim
    | ret =>
      exact (show False from h).elim
  · intro f w K h
    have e : lid ref05_New.b0 = 3 := by kernel_rfl
    rw [e] at h
    exact h
theorem ref05_New.eq (a0 : Int) (w : World) (K : Value → World → Prop) : afn ref05_New.C ref05_New.L ref05_New.D tab Try.f19 [(Value.int .i64 a0)] w K = ref05_New.f a0 w (fun r0 w => K (Value.pointer r0) w) := by kernel_rfl
theorem ref05_New.ok : FSound Try.prog 19 ref05_New.h := by
  intro args w K h
  unfold ref05_New.h ref05_New.H at h
  split at h
  ·
    replace h := vI_ok h
    obtain ⟨a0, rfl, h⟩ := h
    refine ⟨by kernel_rfl, fn_ok tab_ok ref05_New.C_ok (L := ref05_New.L) (D := ref05_New.D) Try.func19 ref05_New.hb (by kernel_rfl) (by rw [ref05_New.c_loops]; exact lcons ref05_New.lok3 (lnil)) (Nat.le_of_ble_eq_true (by kernel_rfl)) ?_⟩
    rw [ref05_New.eq]
    exact h
  · exact h.elim
/-! ### (*valise/guess.Table).Len: function 20 -/
def guess_Table_Len.f (a0 : Option Addr) (w : World) (K : Int → World → Prop) : Prop :=
  bif a0.isNone then
    K 0 w
  else
    sm a0 fun p_6 =>
    ldL p_6 w fun x9_7 x9_7n x9_7c =>
    let v2_8 := ((x9_7n : Nat) : Int)
    K v2_8 w
def guess_Table_Len.H (F : type_of% @guess_Table_Len.f) : Hf := fun args w K => match args with
  | [v0] => vP v0 fun a0 => F a0 w (fun r0 w => K (Value.int .i64 r0) w)
  | _ => False
def guess_Table_Len.h : Hf := guess_Table_Len.H @guess_Table_Len.f
def guess_Table_Len.C : Hd := hnil
theorem guess_Table_Len.C_ok : CSound Try.prog guess_Table_Len.C := hnil_ok
def guess_Table_Len.D : Nat → Plan := fun i => .done
noncomputable def guess_Table_Len.c : Code := Try.f20.body.getD .skip
theorem guess_Table_Len.hb : Try.f20.body = some guess_Table_Len.c := by kernel_rfl
theorem guess_Table_Len.c_loops : loopsOf guess_Table_Len.c = [] := by kernel_rfl
def guess_Table_Len.L : LHd := fun l f w K => False
theorem guess_Table_Len.eq (a0 : Option Addr) (w : World) (K : Value → World → Prop) : afn guess_Table_Len.C guess_Table_Len.L guess_Table_Len.D tab Try.f20 [(Value.pointer a0)] w K = guess_Table_Len.f a0 w (fun r0 w => K (Value.int .i64 r0) w) := by kernel_rfl
theorem guess_Table_Len.ok : FSound Try.prog 20 guess_Table_Len.h := by
  intro args w K h
  unfold guess_Table_Len.h guess_Table_Len.H at h
  split at h
  ·
    replace h := vP_ok h
    obtain ⟨a0, rfl, h⟩ := h
    refine ⟨by kernel_rfl, fn_ok tab_ok guess_Table_Len.C_ok (L := guess_Table_Len.L) (D := guess_Table_Len.D) Try.func20 guess_Table_Len.hb (by kernel_rfl) (by rw [guess_Table_Len.c_loops]; exact lnil) (Nat.le_of_ble_eq_true (by kernel_rfl)) ?_⟩
    rw [guess_Table_Len.eq]
    exact h
  · exact h.elim
/-! ### (*valise/guess.cells).place: function 40 -/
def guess_cells_place.f (a0 : Option Addr) (a1 : Int) (w : World) (K : Int → World → Prop) : Prop :=
  sm a0 fun p_3 =>
  ldL p_3 w fun x9_4 x9_4n x9_4c =>
  let v5_5 := ((x9_4n : Nat) : Int)
  if v5_5 = 0 then False else
  if v5_5 = 0 then False else
  let v4_7 := (Int.tmod (IntKind.wrap .i64 ((Int.tmod a1 v5_5) + v5_5)) v5_5)
  K v4_7 w
def guess_cells_place.H (F : type_of% @guess_cells_place.f) : Hf := fun args w K => match args with
  | [v0, v1] => vP v0 fun a0 => vI .i64 v1 fun a1 => F a0 a1 w (fun r0 w => K (Value.int .i64 r0) w)
  | _ => False
def guess_cells_place.h : Hf := guess_cells_place.H @guess_cells_place.f
def guess_cells_place.C : Hd := hnil
theorem guess_cells_place.C_ok : CSound Try.prog guess_cells_place.C := hnil_ok
def guess_cells_place.D : Nat → Plan := fun i => .done
noncomputable def guess_cells_place.c : Code := Try.f40.body.getD .skip
theorem guess_cells_place.hb : Try.f40.body = some guess_cells_place.c := by kernel_rfl
theorem guess_cells_place.c_loops : loopsOf guess_cells_place.c = [] := by kernel_rfl
def guess_cells_place.L : LHd := fun l f w K => False
theorem guess_cells_place.eq (a0 : Option Addr) (a1 : Int) (w : World) (K : Value → World → Prop) : afn guess_cells_place.C guess_cells_place.L guess_cells_place.D tab Try.f40 [(Value.pointer a0), (Value.int .i64 a1)] w K = guess_cells_place.f a0 a1 w (fun r0 w => K (Value.int .i64 r0) w) := by kernel_rfl
theorem guess_cells_place.ok : FSound Try.prog 40 guess_cells_place.h := by
  intro args w K h
  unfold guess_cells_place.h guess_cells_place.H at h
  split at h
  ·
    replace h := vP_ok h
    obtain ⟨a0, rfl, h⟩ := h
    replace h := vI_ok h
    obtain ⟨a1, rfl, h⟩ := h
    refine ⟨by kernel_rfl, fn_ok tab_ok guess_cells_place.C_ok (L := guess_cells_place.L) (D := guess_cells_place.D) Try.func40 guess_cells_place.hb (by kernel_rfl) (by rw [guess_cells_place.c_loops]; exact lnil) (Nat.le_of_ble_eq_true (by kernel_rfl)) ?_⟩
    rw [guess_cells_place.eq]
    exact h
  · exact h.elim
/-! ### (*valise/guess.Table).Learn: function 21 -/
def guess_Table_Learn.f (a0 : Option Addr) (a1 : Int) (a2 : Int) (a3 : Int) (w : World) (K : World → Prop) : Prop :=
  guess_Table_Len.f a0 w fun r10_2 w =>
  bif (decide (r10_2 > 0)) then
    sm a0 fun p_4 =>
    ldL p_4 w.drew fun x16_5 x16_5n x16_5c =>
    sm a0 fun p_6 =>
    guess_cells_place.f (some p_6) a1 w.drew fun r21_7 w =>
    (World.cell? w p_4 = some (.slice x16_5 x16_5n x16_5c)) ∧
    (sm x16_5 fun p_8 =>
    if 0 ≤ (r21_7 : Int) ∧ (r21_7 : Int) < ((x16_5n : Nat) : Int) then
    ldI .u16 (p_8.add (Int.toNat r21_7)) w fun x26_9 =>
    guess_Next.f (bxor .u16 x26_9 32768) a2 a3 w fun r30_10 w =>
    stC (p_8.add (Int.toNat r21_7)) (Value.int .u16 (bxor .u16 r30_10 32768)) w fun w =>
    K w
    else False)
  else
    K w
def guess_Table_Learn.H (F : type_of% @guess_Table_Learn.f) : Hf := fun args w K => match args with
  | [v0, v1, v2, v3] => vP v0 fun a0 => vI .i64 v1 fun a1 => vI .i64 v2 fun a2 => vI .i64 v3 fun a3 => F a0 a1 a2 a3 w (fun w => K (Value.tuple #[]) w)
  | _ => False
def guess_Table_Learn.h : Hf := guess_Table_Learn.H @guess_Table_Learn.f
def guess_Table_Learn.CG (F20 : type_of% @guess_Table_Len.f) (F40 : type_of% @guess_cells_place.f) (F14 : type_of% @guess_Next.f) : Hd := hcons 14 (guess_Next.H F14) (hcons 40 (guess_cells_place.H F40) (hcons 20 (guess_Table_Len.H F20) (hnil)))
def guess_Table_Learn.C : Hd := guess_Table_Learn.CG @guess_Table_Len.f @guess_cells_place.f @guess_Next.f
def guess_Table_Learn.G (F20 : type_of% @guess_Table_Len.f) (F40 : type_of% @guess_cells_place.f) (F14 : type_of% @guess_Next.f) (a0 : Option Addr) (a1 : Int) (a2 : Int) (a3 : Int) (w : World) (K : World → Prop) : Prop :=
  F20 a0 w fun r10_2 w =>
  bif (decide (r10_2 > 0)) then
    sm a0 fun p_4 =>
    ldL p_4 w.drew fun x16_5 x16_5n x16_5c =>
    sm a0 fun p_6 =>
    F40 (some p_6) a1 w.drew fun r21_7 w =>
    (World.cell? w p_4 = some (.slice x16_5 x16_5n x16_5c)) ∧
    (sm x16_5 fun p_8 =>
    if 0 ≤ (r21_7 : Int) ∧ (r21_7 : Int) < ((x16_5n : Nat) : Int) then
    ldI .u16 (p_8.add (Int.toNat r21_7)) w fun x26_9 =>
    F14 (bxor .u16 x26_9 32768) a2 a3 w fun r30_10 w =>
    stC (p_8.add (Int.toNat r21_7)) (Value.int .u16 (bxor .u16 r30_10 32768)) w fun w =>
    K w
    else False)
  else
    K w
theorem guess_Table_Learn.C_ok : CSound Try.prog guess_Table_Learn.C := hcons_ok guess_Next.ok (hcons_ok guess_cells_place.ok (hcons_ok guess_Table_Len.ok (hnil_ok)))
def guess_Table_Learn.D : Nat → Plan := fun i => (match Nat.beq i 1 with | true => .take 0 (.take 1 (.take 2 (.take 3 (.take 4 (.take 5 (.take 6 (.take 7 (.take 8 (.eff 9 (.take 10 (.take 11 (.done)))))))))))) | false => .done)
noncomputable def guess_Table_Learn.c : Code := Try.f21.body.getD .skip
theorem guess_Table_Learn.hb : Try.f21.body = some guess_Table_Learn.c := by kernel_rfl
theorem guess_Table_Learn.c_loops : loopsOf guess_Table_Learn.c = [] := by kernel_rfl
def guess_Table_Learn.L : LHd := fun l f w K => False
theorem guess_Table_Learn.eqG (F20 : type_of% @guess_Table_Len.f) (F40 : type_of% @guess_cells_place.f) (F14 : type_of% @guess_Next.f) (a0 : Option Addr) (a1 : Int) (a2 : Int) (a3 : Int) (w : World) (K : Value → World → Prop) : afn (guess_Table_Learn.CG F20 F40 F14) guess_Table_Learn.L guess_Table_Learn.D tab Try.f21 [(Value.pointer a0), (Value.int .i64 a1), (Value.int .i64 a2), (Value.int .i64 a3)] w K = guess_Table_Learn.G F20 F40 F14 a0 a1 a2 a3 w (fun w => K (Value.tuple #[]) w) := by kernel_rfl
theorem guess_Table_Learn.eq (a0 : Option Addr) (a1 : Int) (a2 : Int) (a3 : Int) (w : World) (K : Value → World → Prop) : afn guess_Table_Learn.C guess_Table_Learn.L guess_Table_Learn.D tab Try.f21 [(Value.pointer a0), (Value.int .i64 a1), (Value.int .i64 a2), (Value.int .i64 a3)] w K = guess_Table_Learn.f a0 a1 a2 a3 w (fun w => K (Value.tuple #[]) w) := guess_Table_Learn.eqG @guess_Table_Len.f @guess_cells_place.f @guess_Next.f a0 a1 a2 a3 w K
theorem guess_Table_Learn.ok : FSound Try.prog 21 guess_Table_Learn.h := by
  intro args w K h
  unfold guess_Table_Learn.h guess_Table_Learn.H at h
  split at h
  ·
    replace h := vP_ok h
    obtain ⟨a0, rfl, h⟩ := h
    replace h := vI_ok h
    obtain ⟨a1, rfl, h⟩ := h
    replace h := vI_ok h
    obtain ⟨a2, rfl, h⟩ := h
    replace h := vI_ok h
    obtain ⟨a3, rfl, h⟩ := h
    refine ⟨by kernel_rfl, fn_ok tab_ok guess_Table_Learn.C_ok (L := guess_Table_Learn.L) (D := guess_Table_Learn.D) Try.func21 guess_Table_Learn.hb (by kernel_rfl) (by rw [guess_Table_Learn.c_loops]; exact lnil) (Nat.le_of_ble_eq_true (by kernel_rfl)) ?_⟩
    rw [guess_Table_Learn.eq]
    exact h
  · exact h.elim
/-! ### valise/valiseref05.Round: function 41 -/
def ref05_Round.f (a0 : Int) (a1 : Int) (w : World) (K : Int → World → Prop) : Prop :=
  if a1 = 0 then False else
  if a1 = 0 then False else
  let v4_3 := (Int.tmod (IntKind.wrap .i64 ((Int.tmod a0 a1) + a1)) a1)
  K v4_3 w
def ref05_Round.H (F : type_of% @ref05_Round.f) : Hf := fun args w K => match args with
  | [v0, v1] => vI .i64 v0 fun a0 => vI .i64 v1 fun a1 => F a0 a1 w (fun r0 w => K (Value.int .i64 r0) w)
  | _ => False
def ref05_Round.h : Hf := ref05_Round.H @ref05_Round.f
def ref05_Round.C : Hd := hnil
theorem ref05_Round.C_ok : CSound Try.prog ref05_Round.C := hnil_ok
def ref05_Round.D : Nat → Plan := fun i => .done
noncomputable def ref05_Round.c : Code := Try.f41.body.getD .skip
theorem ref05_Round.hb : Try.f41.body = some ref05_Round.c := by kernel_rfl
theorem ref05_Round.c_loops : loopsOf ref05_Round.c = [] := by kernel_rfl
def ref05_Round.L : LHd := fun l f w K => False
theorem ref05_Round.eq (a0 : Int) (a1 : Int) (w : World) (K : Value → World → Prop) : afn ref05_Round.C ref05_Round.L ref05_Round.D tab Try.f41 [(Value.int .i64 a0), (Value.int .i64 a1)] w K = ref05_Round.f a0 a1 w (fun r0 w => K (Value.int .i64 r0) w) := by kernel_rfl
theorem ref05_Round.ok : FSound Try.prog 41 ref05_Round.h := by
  intro args w K h
  unfold ref05_Round.h ref05_Round.H at h
  split at h
  ·
    replace h := vI_ok h
    obtain ⟨a0, rfl, h⟩ := h
    replace h := vI_ok h
    obtain ⟨a1, rfl, h⟩ := h
    refine ⟨by kernel_rfl, fn_ok tab_ok ref05_Round.C_ok (L := ref05_Round.L) (D := ref05_Round.D) Try.func41 ref05_Round.hb (by kernel_rfl) (by rw [ref05_Round.c_loops]; exact lnil) (Nat.le_of_ble_eq_true (by kernel_rfl)) ?_⟩
    rw [ref05_Round.eq]
    exact h
  · exact h.elim
/-! ### (*valise/valiseref05.Table).Learn: function 22 -/
def ref05_Table_Learn.f (a0 : Option Addr) (a1 : Int) (a2 : Int) (a3 : Int) (w : World) (K : World → Prop) : Prop :=
  sm a0 fun p_2 =>
  ldL p_2 w fun x13_3 x13_3n x13_3c =>
  ref05_Round.f a1 ((x13_3n : Nat) : Int) w fun r15_4 w =>
  sm a0 fun p_5 =>
  ldL p_5 w.drew fun x19_6 x19_6n x19_6c =>
  sm a0 fun p_7 =>
  ldL p_7 w.drew fun x24_8 x24_8n x24_8c =>
  sm x24_8 fun p_9 =>
  if 0 ≤ (r15_4 : Int) ∧ (r15_4 : Int) < ((x24_8n : Nat) : Int) then
  ldI .u16 (p_9.add (Int.toNat r15_4)) w.drew fun x27_10 =>
  ref05_Next.f x27_10 a2 a3 w.drew fun r30_11 w =>
  (World.cell? w p_7 = some (.slice x24_8 x24_8n x24_8c)) ∧
  ((World.cell? w p_5 = some (.slice x19_6 x19_6n x19_6c)) ∧
  (sm x19_6 fun p_12 =>
  if 0 ≤ (r15_4 : Int) ∧ (r15_4 : Int) < ((x19_6n : Nat) : Int) then
  stC (p_12.add (Int.toNat r15_4)) (Value.int .u16 r30_11) w fun w =>
  K w
  else False))
  else False
def ref05_Table_Learn.H (F : type_of% @ref05_Table_Learn.f) : Hf := fun args w K => match args with
  | [v0, v1, v2, v3] => vP v0 fun a0 => vI .i64 v1 fun a1 => vI .i64 v2 fun a2 => vI .i64 v3 fun a3 => F a0 a1 a2 a3 w (fun w => K (Value.tuple #[]) w)
  | _ => False
def ref05_Table_Learn.h : Hf := ref05_Table_Learn.H @ref05_Table_Learn.f
def ref05_Table_Learn.C : Hd := hcons 15 ref05_Next.h (hcons 41 ref05_Round.h (hnil))
theorem ref05_Table_Learn.C_ok : CSound Try.prog ref05_Table_Learn.C := hcons_ok ref05_Next.ok (hcons_ok ref05_Round.ok (hnil_ok))
def ref05_Table_Learn.D : Nat → Plan := fun i => (match Nat.beq i 1 with | true => .take 0 (.take 1 (.take 2 (.take 3 (.take 4 (.take 5 (.take 6 (.take 7 (.take 8 (.take 9 (.take 10 (.take 11 (.take 12 (.take 13 (.eff 14 (.take 15 (.eff 16 (.done))))))))))))))))) | false => .done)
noncomputable def ref05_Table_Learn.c : Code := Try.f22.body.getD .skip
theorem ref05_Table_Learn.hb : Try.f22.body = some ref05_Table_Learn.c := by kernel_rfl
theorem ref05_Table_Learn.c_loops : loopsOf ref05_Table_Learn.c = [] := by kernel_rfl
def ref05_Table_Learn.L : LHd := fun l f w K => False
theorem ref05_Table_Learn.eq (a0 : Option Addr) (a1 : Int) (a2 : Int) (a3 : Int) (w : World) (K : Value → World → Prop) : afn ref05_Table_Learn.C ref05_Table_Learn.L ref05_Table_Learn.D tab Try.f22 [(Value.pointer a0), (Value.int .i64 a1), (Value.int .i64 a2), (Value.int .i64 a3)] w K = ref05_Table_Learn.f a0 a1 a2 a3 w (fun w => K (Value.tuple #[]) w) := by kernel_rfl
theorem ref05_Table_Learn.ok : FSound Try.prog 22 ref05_Table_Learn.h := by
  intro args w K h
  unfold ref05_Table_Learn.h ref05_Table_Learn.H at h
  split at h
  ·
    replace h := vP_ok h
    obtain ⟨a0, rfl, h⟩ := h
    replace h := vI_ok h
    obtain ⟨a1, rfl, h⟩ := h
    replace h := vI_ok h
    obtain ⟨a2, rfl, h⟩ := h
    replace h := vI_ok h
    obtain ⟨a3, rfl, h⟩ := h
    refine ⟨by kernel_rfl, fn_ok tab_ok ref05_Table_Learn.C_ok (L := ref05_Table_Learn.L) (D := ref05_Table_Learn.D) Try.func22 ref05_Table_Learn.hb (by kernel_rfl) (by rw [ref05_Table_Learn.c_loops]; exact lnil) (Nat.le_of_ble_eq_true (by kernel_rfl)) ?_⟩
    rw [ref05_Table_Learn.eq]
    exact h
  · exact h.elim
/-! ### (*valise/guess.Table).At: function 23 -/
def guess_Table_At.f (a0 : Option Addr) (a1 : Int) (w : World) (K : Int → World → Prop) : Prop :=
  guess_Table_Len.f a0 w fun r6_4 w =>
  bif (r6_4 == 0) then
    K 0 w
  else
    sm a0 fun p_7 =>
    ldL p_7 w.drew fun x12_8 x12_8n x12_8c =>
    sm a0 fun p_9 =>
    guess_cells_place.f (some p_9) a1 w.drew fun r17_10 w =>
    (World.cell? w p_7 = some (.slice x12_8 x12_8n x12_8c)) ∧
    (sm x12_8 fun p_11 =>
    if 0 ≤ (r17_10 : Int) ∧ (r17_10 : Int) < ((x12_8n : Nat) : Int) then
    ldI .u16 (p_11.add (Int.toNat r17_10)) w fun x19_12 =>
    guess_Chance.f (bxor .u16 x19_12 32768) w fun r21_13 w =>
    (World.cell? w (p_11.add (Int.toNat r17_10)) = some (.int .u16 x19_12)) ∧
    ((World.cell? w p_7 = some (.slice x12_8 x12_8n x12_8c)) ∧
    (K r21_13 w))
    else False)
def guess_Table_At.H (F : type_of% @guess_Table_At.f) : Hf := fun args w K => match args with
  | [v0, v1] => vP v0 fun a0 => vI .i64 v1 fun a1 => F a0 a1 w (fun r0 w => K (Value.int .i64 r0) w)
  | _ => False
def guess_Table_At.h : Hf := guess_Table_At.H @guess_Table_At.f
def guess_Table_At.CG (F20 : type_of% @guess_Table_Len.f) (F40 : type_of% @guess_cells_place.f) (F16 : type_of% @guess_Chance.f) : Hd := hcons 16 (guess_Chance.H F16) (hcons 40 (guess_cells_place.H F40) (hcons 20 (guess_Table_Len.H F20) (hnil)))
def guess_Table_At.C : Hd := guess_Table_At.CG @guess_Table_Len.f @guess_cells_place.f @guess_Chance.f
def guess_Table_At.G (F20 : type_of% @guess_Table_Len.f) (F40 : type_of% @guess_cells_place.f) (F16 : type_of% @guess_Chance.f) (a0 : Option Addr) (a1 : Int) (w : World) (K : Int → World → Prop) : Prop :=
  F20 a0 w fun r6_4 w =>
  bif (r6_4 == 0) then
    K 0 w
  else
    sm a0 fun p_7 =>
    ldL p_7 w.drew fun x12_8 x12_8n x12_8c =>
    sm a0 fun p_9 =>
    F40 (some p_9) a1 w.drew fun r17_10 w =>
    (World.cell? w p_7 = some (.slice x12_8 x12_8n x12_8c)) ∧
    (sm x12_8 fun p_11 =>
    if 0 ≤ (r17_10 : Int) ∧ (r17_10 : Int) < ((x12_8n : Nat) : Int) then
    ldI .u16 (p_11.add (Int.toNat r17_10)) w fun x19_12 =>
    F16 (bxor .u16 x19_12 32768) w fun r21_13 w =>
    (World.cell? w (p_11.add (Int.toNat r17_10)) = some (.int .u16 x19_12)) ∧
    ((World.cell? w p_7 = some (.slice x12_8 x12_8n x12_8c)) ∧
    (K r21_13 w))
    else False)
theorem guess_Table_At.C_ok : CSound Try.prog guess_Table_At.C := hcons_ok guess_Chance.ok (hcons_ok guess_cells_place.ok (hcons_ok guess_Table_Len.ok (hnil_ok)))
def guess_Table_At.D : Nat → Plan := fun i => (match Nat.beq i 3 with | true => .take 0 (.take 1 (.take 2 (.take 3 (.take 4 (.take 5 (.take 6 (.take 7 (.take 8 (.eff 9 (.take 10 (.take 11 (.take 12 (.eff 13 (.take 14 (.done))))))))))))))) | false => .done)
noncomputable def guess_Table_At.c : Code := Try.f23.body.getD .skip
theorem guess_Table_At.hb : Try.f23.body = some guess_Table_At.c := by kernel_rfl
theorem guess_Table_At.c_loops : loopsOf guess_Table_At.c = [] := by kernel_rfl
def guess_Table_At.L : LHd := fun l f w K => False
theorem guess_Table_At.eqG (F20 : type_of% @guess_Table_Len.f) (F40 : type_of% @guess_cells_place.f) (F16 : type_of% @guess_Chance.f) (a0 : Option Addr) (a1 : Int) (w : World) (K : Value → World → Prop) : afn (guess_Table_At.CG F20 F40 F16) guess_Table_At.L guess_Table_At.D tab Try.f23 [(Value.pointer a0), (Value.int .i64 a1)] w K = guess_Table_At.G F20 F40 F16 a0 a1 w (fun r0 w => K (Value.int .i64 r0) w) := by kernel_rfl
theorem guess_Table_At.eq (a0 : Option Addr) (a1 : Int) (w : World) (K : Value → World → Prop) : afn guess_Table_At.C guess_Table_At.L guess_Table_At.D tab Try.f23 [(Value.pointer a0), (Value.int .i64 a1)] w K = guess_Table_At.f a0 a1 w (fun r0 w => K (Value.int .i64 r0) w) := guess_Table_At.eqG @guess_Table_Len.f @guess_cells_place.f @guess_Chance.f a0 a1 w K
theorem guess_Table_At.ok : FSound Try.prog 23 guess_Table_At.h := by
  intro args w K h
  unfold guess_Table_At.h guess_Table_At.H at h
  split at h
  ·
    replace h := vP_ok h
    obtain ⟨a0, rfl, h⟩ := h
    replace h := vI_ok h
    obtain ⟨a1, rfl, h⟩ := h
    refine ⟨by kernel_rfl, fn_ok tab_ok guess_Table_At.C_ok (L := guess_Table_At.L) (D := guess_Table_At.D) Try.func23 guess_Table_At.hb (by kernel_rfl) (by rw [guess_Table_At.c_loops]; exact lnil) (Nat.le_of_ble_eq_true (by kernel_rfl)) ?_⟩
    rw [guess_Table_At.eq]
    exact h
  · exact h.elim
/-! ### (*valise/valiseref05.Table).At: function 24 -/
def ref05_Table_At.f (a0 : Option Addr) (a1 : Int) (w : World) (K : Int → World → Prop) : Prop :=
  sm a0 fun p_3 =>
  ldL p_3 w.drew fun x8_4 x8_4n x8_4c =>
  sm a0 fun p_5 =>
  ldL p_5 w.drew fun x13_6 x13_6n x13_6c =>
  ref05_Round.f a1 ((x13_6n : Nat) : Int) w.drew fun r15_7 w =>
  (World.cell? w p_5 = some (.slice x13_6 x13_6n x13_6c)) ∧
  ((World.cell? w p_3 = some (.slice x8_4 x8_4n x8_4c)) ∧
  (sm x8_4 fun p_8 =>
  if 0 ≤ (r15_7 : Int) ∧ (r15_7 : Int) < ((x8_4n : Nat) : Int) then
  ldI .u16 (p_8.add (Int.toNat r15_7)) w fun x17_9 =>
  ref05_Chance.f x17_9 w fun r18_10 w =>
  (World.cell? w p_5 = some (.slice x13_6 x13_6n x13_6c)) ∧
  ((World.cell? w p_3 = some (.slice x8_4 x8_4n x8_4c)) ∧
  (K r18_10 w))
  else False))
def ref05_Table_At.H (F : type_of% @ref05_Table_At.f) : Hf := fun args w K => match args with
  | [v0, v1] => vP v0 fun a0 => vI .i64 v1 fun a1 => F a0 a1 w (fun r0 w => K (Value.int .i64 r0) w)
  | _ => False
def ref05_Table_At.h : Hf := ref05_Table_At.H @ref05_Table_At.f
def ref05_Table_At.C : Hd := hcons 17 ref05_Chance.h (hcons 41 ref05_Round.h (hnil))
theorem ref05_Table_At.C_ok : CSound Try.prog ref05_Table_At.C := hcons_ok ref05_Chance.ok (hcons_ok ref05_Round.ok (hnil_ok))
def ref05_Table_At.D : Nat → Plan := fun i => (match Nat.beq i 1 with | true => .take 0 (.take 1 (.take 2 (.take 3 (.take 4 (.take 5 (.take 6 (.take 7 (.take 8 (.take 9 (.eff 10 (.take 11 (.take 12 (.eff 13 (.take 14 (.done))))))))))))))) | false => .done)
noncomputable def ref05_Table_At.c : Code := Try.f24.body.getD .skip
theorem ref05_Table_At.hb : Try.f24.body = some ref05_Table_At.c := by kernel_rfl
theorem ref05_Table_At.c_loops : loopsOf ref05_Table_At.c = [] := by kernel_rfl
def ref05_Table_At.L : LHd := fun l f w K => False
theorem ref05_Table_At.eq (a0 : Option Addr) (a1 : Int) (w : World) (K : Value → World → Prop) : afn ref05_Table_At.C ref05_Table_At.L ref05_Table_At.D tab Try.f24 [(Value.pointer a0), (Value.int .i64 a1)] w K = ref05_Table_At.f a0 a1 w (fun r0 w => K (Value.int .i64 r0) w) := by kernel_rfl
theorem ref05_Table_At.ok : FSound Try.prog 24 ref05_Table_At.h := by
  intro args w K h
  unfold ref05_Table_At.h ref05_Table_At.H at h
  split at h
  ·
    replace h := vP_ok h
    obtain ⟨a0, rfl, h⟩ := h
    replace h := vI_ok h
    obtain ⟨a1, rfl, h⟩ := h
    refine ⟨by kernel_rfl, fn_ok tab_ok ref05_Table_At.C_ok (L := ref05_Table_At.L) (D := ref05_Table_At.D) Try.func24 ref05_Table_At.hb (by kernel_rfl) (by rw [ref05_Table_At.c_loops]; exact lnil) (Nat.le_of_ble_eq_true (by kernel_rfl)) ?_⟩
    rw [ref05_Table_At.eq]
    exact h
  · exact h.elim
/-! ### valise/mix.Squash: function 26 -/
def mix_Squash.f (a0 : Int) (w : World) (K : Int → World → Prop) : Prop :=
  let v0_3 := (mx (-2047) (mn a0 2047))
  if (IntKind.wrap .i64 (512 + (mx v0_3 (IntKind.wrap .i64 (0 - v0_3))))) = 0 then False else
  let v2_5 := (IntKind.wrap .i64 (2048 + (IntKind.wrap .i64 (Int.tdiv (IntKind.wrap .i64 (2560 * v0_3)) (IntKind.wrap .i64 (512 + (mx v0_3 (IntKind.wrap .i64 (0 - v0_3)))))))))
  K v2_5 w
def mix_Squash.H (F : type_of% @mix_Squash.f) : Hf := fun args w K => match args with
  | [v0] => vI .i64 v0 fun a0 => F a0 w (fun r0 w => K (Value.int .i64 r0) w)
  | _ => False
def mix_Squash.h : Hf := mix_Squash.H @mix_Squash.f
def mix_Squash.C : Hd := hnil
theorem mix_Squash.C_ok : CSound Try.prog mix_Squash.C := hnil_ok
def mix_Squash.D : Nat → Plan := fun i => .done
noncomputable def mix_Squash.c : Code := Try.f26.body.getD .skip
theorem mix_Squash.hb : Try.f26.body = some mix_Squash.c := by kernel_rfl
theorem mix_Squash.c_loops : loopsOf mix_Squash.c = [] := by kernel_rfl
def mix_Squash.L : LHd := fun l f w K => False
theorem mix_Squash.eq (a0 : Int) (w : World) (K : Value → World → Prop) : afn mix_Squash.C mix_Squash.L mix_Squash.D tab Try.f26 [(Value.int .i64 a0)] w K = mix_Squash.f a0 w (fun r0 w => K (Value.int .i64 r0) w) := by kernel_rfl
theorem mix_Squash.ok : FSound Try.prog 26 mix_Squash.h := by
  intro args w K h
  unfold mix_Squash.h mix_Squash.H at h
  split at h
  ·
    replace h := vI_ok h
    obtain ⟨a0, rfl, h⟩ := h
    refine ⟨by kernel_rfl, fn_ok tab_ok mix_Squash.C_ok (L := mix_Squash.L) (D := mix_Squash.D) Try.func26 mix_Squash.hb (by kernel_rfl) (by rw [mix_Squash.c_loops]; exact lnil) (Nat.le_of_ble_eq_true (by kernel_rfl)) ?_⟩
    rw [mix_Squash.eq]
    exact h
  · exact h.elim
/-! ### valise/mix.Stretch: function 28 -/
def mix_Stretch.l3 : Nat → Int → Int → Int → World → (Int → World → Prop) → Prop
  | 0, _, _, _, _, _ => False
  | N + 1, y0, y3, y4, w, K0 =>
    bif (decide (y3 < y4)) then
      let v5_9 := (IntKind.wrap .i64 (Int.tdiv (IntKind.wrap .i64 (y3 + y4)) 2))
      mix_Squash.f (IntKind.wrap .i64 (v5_9 - 2047)) w fun r18_11 w =>
      bif (decide (r18_11 ≥ y0)) then
        mix_Stretch.l3 N y0 y3 v5_9 w K0
      else
        let v3_12 := (IntKind.wrap .i64 (v5_9 + 1))
        mix_Stretch.l3 N y0 v3_12 y4 w K0
    else
      K0 y3 w

def mix_Stretch.f (a0 : Int) (w : World) (K : Int → World → Prop) : Prop :=
  let v0_3 := (mx 1 (mn a0 4095))
  ∃ N_13 : Nat, mix_Stretch.l3 N_13 v0_3 0 4094 w
  (fun o3_14 w =>
    let v2_16 := (IntKind.wrap .i64 (o3_14 - 2047))
    K v2_16 w)
def mix_Stretch.H (F : type_of% @mix_Stretch.f) : Hf := fun args w K => match args with
  | [v0] => vI .i64 v0 fun a0 => F a0 w (fun r0 w => K (Value.int .i64 r0) w)
  | _ => False
def mix_Stretch.h : Hf := mix_Stretch.H @mix_Stretch.f
def mix_Stretch.C : Hd := hcons 26 mix_Squash.h (hnil)
theorem mix_Stretch.C_ok : CSound Try.prog mix_Stretch.C := hcons_ok mix_Squash.ok (hnil_ok)
def mix_Stretch.D : Nat → Plan := fun i => .done
noncomputable def mix_Stretch.c : Code := Try.f28.body.getD .skip
theorem mix_Stretch.hb : Try.f28.body = some mix_Stretch.c := by kernel_rfl
noncomputable def mix_Stretch.b0 : Code := (loopsOf mix_Stretch.c).getD 0 .skip
theorem mix_Stretch.b0_loops : loopsOf mix_Stretch.b0 = [] := by kernel_rfl
theorem mix_Stretch.c_loops : loopsOf mix_Stretch.c = [mix_Stretch.b0] := by kernel_rfl
def mix_Stretch.hn3 (N : Nat) (f : Fr) (w : World) (K : AExit → Fr → World → Prop) : Prop :=
  gN f 26 <| gI .i64 f 0 fun y0 => gI .i64 f 3 fun y3 => gI .i64 f 4 fun y4 => mix_Stretch.l3 N y0 y3 y4 w (fun o3 w => K (.exit 0) [none, none, none, some (Value.int .i64 o3), none, none, none, none, none, none, none, none, none, none, none, none, none, none, none, none, none, none, none, none, none, none] w)
def mix_Stretch.hx3 : AExit → Fr → World → (AExit → Fr → World → Prop) → Prop := fun e f w K => match e with
  | .normal => False
  | .exit i => (match Nat.beq i 0 with | true => gN f 26 <| gI .i64 f 3 fun o3 => K (.exit 0) [none, none, none, some (Value.int .i64 o3), none, none, none, none, none, none, none, none, none, none, none, none, none, none, none, none, none, none, none, none, none, none] w | false => False)
  | .ret => False
def mix_Stretch.L : LHd := fun l f w K => (match Nat.beq l 3 with | true => ∃ N, mix_Stretch.hn3 N f w K | false => False)
theorem mix_Stretch.le3 (N : Nat) (y0 : Int) (y3 : Int) (y4 : Int) (w : World) (K : AExit → Fr → World → Prop) : awp mix_Stretch.C mix_Stretch.L mix_Stretch.D tab mix_Stretch.b0 (lpost mix_Stretch.hn3 mix_Stretch.hx3 N K) [some (Value.int .i64 y0), none, none, some (Value.int .i64 y3), some (Value.int .i64 y4), none, none, none, none, none, none, none, none, none, none, none, none, none, none, none, none, none, none, none, none, none] w = mix_Stretch.l3 (N + 1) y0 y3 y4 w (fun o3 w => K (.exit 0) [none, none, none, some (Value.int .i64 o3), none, none, none, none, none, none, none, none, none, none, none, none, none, none, none, none, none, none, none, none, none, none] w) := by kernel_rfl
theorem mix_Stretch.lok3 : LoopOk Try.prog mix_Stretch.L mix_Stretch.b0 := by
  refine loop_ok tab_ok mix_Stretch.C_ok (D := mix_Stretch.D) (mix_Stretch.hn3) (mix_Stretch.hx3) (by kernel_rfl) (by rw [mix_Stretch.b0_loops]; exact lnil) ?_ ?_ ?_ ?_
  · intro f w K h
    unfold mix_Stretch.hn3 at h
    obtain ⟨hlen, h⟩ := gN_ok h
    obtain ⟨y0, h0, h⟩ := gI_ok h
    obtain ⟨y3, h3, h⟩ := gI_ok h
    obtain ⟨y4, h4, h⟩ := gI_ok h
    exact h
  · intro N f w K h
    unfold mix_Stretch.hn3 at h
    obtain ⟨hlen, h⟩ := gN_ok h
    obtain ⟨y0, h0, h⟩ := gI_ok h
    obtain ⟨y3, h3, h⟩ := gI_ok h
    obtain ⟨y4, h4, h⟩ := gI_ok h
    refine ⟨[some (Value.int .i64 y0), none, none, some (Value.int .i64 y3), some (Value.int .i64 y4), none, none, none, none, none, none, none, none, none, none, none, none, none, none, none, none, none, none, none, none, none], hlen, ⟨h0, h3, h4, trivial⟩, ?_⟩
    rw [mix_Stretch.le3]
    exact h
  · intro e f w K h
    cases e with
    | normal => exact h.elim
    | exit i =>
      unfold mix_Stretch.hx3 at h
      simp only at h
      split at h
      · rename_i hb
        obtain rfl := Nat.eq_of_beq_eq_true hb
        obtain ⟨hlen, h⟩ := gN_ok h
        obtain ⟨o3, h3, h⟩ := gI_ok h
        exact ⟨[none, none, none, some (Value.int .i64 o3), none, none, none, none, none, none, none, none, none, none, none, none, none, none, none, none, none, none, none, none, none, none], hlen, ⟨h3, trivial⟩, h⟩
      · exact (show False from h).elim
    | ret =>
      exact (show False from h).elim
  · intro f w K h
    have e : lid mix_Stretch.b0 = 3 := by kernel_rfl
    rw [e] at h
    exact h
theorem mix_Stretch.eq (a0 : Int) (w : World) (K : Value → World → Prop) : afn mix_Stretch.C mix_Stretch.L mix_Stretch.D tab Try.f28 [(Value.int .i64 a0)] w K = mix_Stretch.f a0 w (fun r0 w => K (Value.int .i64 r0) w) := by kernel_rfl
theorem mix_Stretch.ok : FSound Try.prog 28 mix_Stretch.h := by
  intro args w K h
  unfold mix_Stretch.h mix_Stretch.H at h
  split at h
  ·
    replace h := vI_ok h
    obtain ⟨a0, rfl, h⟩ := h
    refine ⟨by kernel_rfl, fn_ok tab_ok mix_Stretch.C_ok (L := mix_Stretch.L) (D := mix_Stretch.D) Try.func28 mix_Stretch.hb (by kernel_rfl) (by rw [mix_Stretch.c_loops]; exact lcons mix_Stretch.lok3 (lnil)) (Nat.le_of_ble_eq_true (by kernel_rfl)) ?_⟩
    rw [mix_Stretch.eq]
    exact h
  · exact h.elim
/-! ### valise/valiselaw06.awake: function 25 -/
def law06_awake.f  (w : World) (K : Bool → World → Prop) : Prop :=
  mix_Squash.f 512 w fun r1_3 w =>
  bif (r1_3 == 3328) then
    mix_Stretch.f 2048 w fun r4_4 w =>
    K (r4_4 == 0) w
  else
    K false w
def law06_awake.H (F : type_of% @law06_awake.f) : Hf := fun args w K => match args with
  | [] =>  F  w (fun r0 w => K (Value.bool r0) w)
  | _ => False
def law06_awake.h : Hf := law06_awake.H @law06_awake.f
def law06_awake.C : Hd := hcons 28 mix_Stretch.h (hcons 26 mix_Squash.h (hnil))
theorem law06_awake.C_ok : CSound Try.prog law06_awake.C := hcons_ok mix_Stretch.ok (hcons_ok mix_Squash.ok (hnil_ok))
def law06_awake.D : Nat → Plan := fun i => .done
noncomputable def law06_awake.c : Code := Try.f25.body.getD .skip
theorem law06_awake.hb : Try.f25.body = some law06_awake.c := by kernel_rfl
theorem law06_awake.c_loops : loopsOf law06_awake.c = [] := by kernel_rfl
def law06_awake.L : LHd := fun l f w K => False
theorem law06_awake.eq  (w : World) (K : Value → World → Prop) : afn law06_awake.C law06_awake.L law06_awake.D tab Try.f25 [] w K = law06_awake.f  w (fun r0 w => K (Value.bool r0) w) := by kernel_rfl
theorem law06_awake.ok : FSound Try.prog 25 law06_awake.h := by
  intro args w K h
  unfold law06_awake.h law06_awake.H at h
  split at h
  ·
    refine ⟨by kernel_rfl, fn_ok tab_ok law06_awake.C_ok (L := law06_awake.L) (D := law06_awake.D) Try.func25 law06_awake.hb (by kernel_rfl) (by rw [law06_awake.c_loops]; exact lnil) (Nat.le_of_ble_eq_true (by kernel_rfl)) ?_⟩
    rw [law06_awake.eq]
    exact h
  · exact h.elim
/-! ### valise/valiseref06.Squash: function 27 -/
def ref06_Squash.f (a0 : Int) (w : World) (K : Int → World → Prop) : Prop :=
  let v0_3 := (mx (-2047) (mn a0 2047))
  if (IntKind.wrap .i64 (512 + (mx v0_3 (IntKind.wrap .i64 (0 - v0_3))))) = 0 then False else
  let v2_5 := (IntKind.wrap .i64 (2048 + (IntKind.wrap .i64 (Int.tdiv (IntKind.wrap .i64 (2560 * v0_3)) (IntKind.wrap .i64 (512 + (mx v0_3 (IntKind.wrap .i64 (0 - v0_3)))))))))
  K v2_5 w
def ref06_Squash.H (F : type_of% @ref06_Squash.f) : Hf := fun args w K => match args with
  | [v0] => vI .i64 v0 fun a0 => F a0 w (fun r0 w => K (Value.int .i64 r0) w)
  | _ => False
def ref06_Squash.h : Hf := ref06_Squash.H @ref06_Squash.f
def ref06_Squash.C : Hd := hnil
theorem ref06_Squash.C_ok : CSound Try.prog ref06_Squash.C := hnil_ok
def ref06_Squash.D : Nat → Plan := fun i => .done
noncomputable def ref06_Squash.c : Code := Try.f27.body.getD .skip
theorem ref06_Squash.hb : Try.f27.body = some ref06_Squash.c := by kernel_rfl
theorem ref06_Squash.c_loops : loopsOf ref06_Squash.c = [] := by kernel_rfl
def ref06_Squash.L : LHd := fun l f w K => False
theorem ref06_Squash.eq (a0 : Int) (w : World) (K : Value → World → Prop) : afn ref06_Squash.C ref06_Squash.L ref06_Squash.D tab Try.f27 [(Value.int .i64 a0)] w K = ref06_Squash.f a0 w (fun r0 w => K (Value.int .i64 r0) w) := by kernel_rfl
theorem ref06_Squash.ok : FSound Try.prog 27 ref06_Squash.h := by
  intro args w K h
  unfold ref06_Squash.h ref06_Squash.H at h
  split at h
  ·
    replace h := vI_ok h
    obtain ⟨a0, rfl, h⟩ := h
    refine ⟨by kernel_rfl, fn_ok tab_ok ref06_Squash.C_ok (L := ref06_Squash.L) (D := ref06_Squash.D) Try.func27 ref06_Squash.hb (by kernel_rfl) (by rw [ref06_Squash.c_loops]; exact lnil) (Nat.le_of_ble_eq_true (by kernel_rfl)) ?_⟩
    rw [ref06_Squash.eq]
    exact h
  · exact h.elim
/-! ### valise/valiseref06.Stretch: function 29 -/
def ref06_Stretch.l3 : Nat → Int → Int → Int → World → (Int → World → Prop) → Prop
  | 0, _, _, _, _, _ => False
  | N + 1, y0, y3, y4, w, K0 =>
    bif (decide (y3 < y4)) then
      let v5_9 := (IntKind.wrap .i64 ((IntKind.wrap .i64 (Int.tdiv (IntKind.wrap .i64 ((IntKind.wrap .i64 (y3 + y4)) + 4094)) 2)) - 2047))
      ref06_Squash.f v5_9 w fun r19_11 w =>
      bif (decide (r19_11 < y0)) then
        let v3_12 := (IntKind.wrap .i64 (v5_9 + 1))
        ref06_Stretch.l3 N y0 v3_12 y4 w K0
      else
        ref06_Stretch.l3 N y0 y3 v5_9 w K0
    else
      K0 y3 w

def ref06_Stretch.f (a0 : Int) (w : World) (K : Int → World → Prop) : Prop :=
  let v0_3 := (mx 1 (mn a0 4095))
  ∃ N_13 : Nat, ref06_Stretch.l3 N_13 v0_3 (-2047) 2047 w
  (fun o3_14 w =>
    K o3_14 w)
def ref06_Stretch.H (F : type_of% @ref06_Stretch.f) : Hf := fun args w K => match args with
  | [v0] => vI .i64 v0 fun a0 => F a0 w (fun r0 w => K (Value.int .i64 r0) w)
  | _ => False
def ref06_Stretch.h : Hf := ref06_Stretch.H @ref06_Stretch.f
def ref06_Stretch.C : Hd := hcons 27 ref06_Squash.h (hnil)
theorem ref06_Stretch.C_ok : CSound Try.prog ref06_Stretch.C := hcons_ok ref06_Squash.ok (hnil_ok)
def ref06_Stretch.D : Nat → Plan := fun i => .done
noncomputable def ref06_Stretch.c : Code := Try.f29.body.getD .skip
theorem ref06_Stretch.hb : Try.f29.body = some ref06_Stretch.c := by kernel_rfl
noncomputable def ref06_Stretch.b0 : Code := (loopsOf ref06_Stretch.c).getD 0 .skip
theorem ref06_Stretch.b0_loops : loopsOf ref06_Stretch.b0 = [] := by kernel_rfl
theorem ref06_Stretch.c_loops : loopsOf ref06_Stretch.c = [ref06_Stretch.b0] := by kernel_rfl
def ref06_Stretch.hn3 (N : Nat) (f : Fr) (w : World) (K : AExit → Fr → World → Prop) : Prop :=
  gN f 26 <| gI .i64 f 0 fun y0 => gI .i64 f 3 fun y3 => gI .i64 f 4 fun y4 => ref06_Stretch.l3 N y0 y3 y4 w (fun o3 w => K (.exit 0) [none, none, none, some (Value.int .i64 o3), none, none, none, none, none, none, none, none, none, none, none, none, none, none, none, none, none, none, none, none, none, none] w)
def ref06_Stretch.hx3 : AExit → Fr → World → (AExit → Fr → World → Prop) → Prop := fun e f w K => match e with
  | .normal => False
  | .exit i => (match Nat.beq i 0 with | true => gN f 26 <| gI .i64 f 3 fun o3 => K (.exit 0) [none, none, none, some (Value.int .i64 o3), none, none, none, none, none, none, none, none, none, none, none, none, none, none, none, none, none, none, none, none, none, none] w | false => False)
  | .ret => False
def ref06_Stretch.L : LHd := fun l f w K => (match Nat.beq l 3 with | true => ∃ N, ref06_Stretch.hn3 N f w K | false => False)
theorem ref06_Stretch.le3 (N : Nat) (y0 : Int) (y3 : Int) (y4 : Int) (w : World) (K : AExit → Fr → World → Prop) : awp ref06_Stretch.C ref06_Stretch.L ref06_Stretch.D tab ref06_Stretch.b0 (lpost ref06_Stretch.hn3 ref06_Stretch.hx3 N K) [some (Value.int .i64 y0), none, none, some (Value.int .i64 y3), some (Value.int .i64 y4), none, none, none, none, none, none, none, none, none, none, none, none, none, none, none, none, none, none, none, none, none] w = ref06_Stretch.l3 (N + 1) y0 y3 y4 w (fun o3 w => K (.exit 0) [none, none, none, some (Value.int .i64 o3), none, none, none, none, none, none, none, none, none, none, none, none, none, none, none, none, none, none, none, none, none, none] w) := by kernel_rfl
theorem ref06_Stretch.lok3 : LoopOk Try.prog ref06_Stretch.L ref06_Stretch.b0 := by
  refine loop_ok tab_ok ref06_Stretch.C_ok (D := ref06_Stretch.D) (ref06_Stretch.hn3) (ref06_Stretch.hx3) (by kernel_rfl) (by rw [ref06_Stretch.b0_loops]; exact lnil) ?_ ?_ ?_ ?_
  · intro f w K h
    unfold ref06_Stretch.hn3 at h
    obtain ⟨hlen, h⟩ := gN_ok h
    obtain ⟨y0, h0, h⟩ := gI_ok h
    obtain ⟨y3, h3, h⟩ := gI_ok h
    obtain ⟨y4, h4, h⟩ := gI_ok h
    exact h
  · intro N f w K h
    unfold ref06_Stretch.hn3 at h
    obtain ⟨hlen, h⟩ := gN_ok h
    obtain ⟨y0, h0, h⟩ := gI_ok h
    obtain ⟨y3, h3, h⟩ := gI_ok h
    obtain ⟨y4, h4, h⟩ := gI_ok h
    refine ⟨[some (Value.int .i64 y0), none, none, some (Value.int .i64 y3), some (Value.int .i64 y4), none, none, none, none, none, none, none, none, none, none, none, none, none, none, none, none, none, none, none, none, none], hlen, ⟨h0, h3, h4, trivial⟩, ?_⟩
    rw [ref06_Stretch.le3]
    exact h
  · intro e f w K h
    cases e with
    | normal => exact h.elim
    | exit i =>
      unfold ref06_Stretch.hx3 at h
      simp only at h
      split at h
      · rename_i hb
        obtain rfl := Nat.eq_of_beq_eq_true hb
        obtain ⟨hlen, h⟩ := gN_ok h
        obtain ⟨o3, h3, h⟩ := gI_ok h
        exact ⟨[none, none, none, some (Value.int .i64 o3), none, none, none, none, none, none, none, none, none, none, none, none, none, none, none, none, none, none, none, none, none, none], hlen, ⟨h3, trivial⟩, h⟩
      · exact (show False from h).elim
    | ret =>
      exact (show False from h).elim
  · intro f w K h
    have e : lid ref06_Stretch.b0 = 3 := by kernel_rfl
    rw [e] at h
    exact h
theorem ref06_Stretch.eq (a0 : Int) (w : World) (K : Value → World → Prop) : afn ref06_Stretch.C ref06_Stretch.L ref06_Stretch.D tab Try.f29 [(Value.int .i64 a0)] w K = ref06_Stretch.f a0 w (fun r0 w => K (Value.int .i64 r0) w) := by kernel_rfl
theorem ref06_Stretch.ok : FSound Try.prog 29 ref06_Stretch.h := by
  intro args w K h
  unfold ref06_Stretch.h ref06_Stretch.H at h
  split at h
  ·
    replace h := vI_ok h
    obtain ⟨a0, rfl, h⟩ := h
    refine ⟨by kernel_rfl, fn_ok tab_ok ref06_Stretch.C_ok (L := ref06_Stretch.L) (D := ref06_Stretch.D) Try.func29 ref06_Stretch.hb (by kernel_rfl) (by rw [ref06_Stretch.c_loops]; exact lcons ref06_Stretch.lok3 (lnil)) (Nat.le_of_ble_eq_true (by kernel_rfl)) ?_⟩
    rw [ref06_Stretch.eq]
    exact h
  · exact h.elim
/-! ### valise/mix.New: function 30 -/
def mix_New.l6 : Nat → Addr → Int → Int → Int → Int → World → (Addr → Int → Int → World → Prop) → Prop
  | 0, _, _, _, _, _, _, _ => False
  | N + 1, y3, y4, y16, y17, y20, w, K2 =>
    bif (decide (y20 < 4)) then
      ldL (y3.add 7) w fun x26_17 x26_17n x26_17c =>
      sm x26_17 fun p_18 =>
      if 0 ≤ (y4 : Int) ∧ (y4 : Int) < ((x26_17n : Nat) : Int) then
      if 0 ≤ (y20 : Int) ∧ (y20 : Int) < ((4 : Nat) : Int) then
      stC ((p_18.add (Int.toNat y4 * 4)).add (Int.toNat y20)) (Value.int .i64 16384) w fun w =>
      mix_New.l6 N y3 y4 y16 y17 (IntKind.wrap .i64 (y20 + 1)) w K2
      else False
      else False
    else
      K2 y3 y16 y17 w

def mix_New.l3 : Nat → Addr → Int → Int → World → (Addr → World → Prop) → Prop
  | 0, _, _, _, _, _ => False
  | N + 1, y3, y16, y17, w, K0 =>
    bif (decide (y17 < y16)) then
      ∃ N_19 : Nat, mix_New.l6 N_19 y3 y17 y16 y17 0 w
      (fun o3_20 o16_21 o17_22 w =>
        mix_New.l3 N o3_20 o16_21 (IntKind.wrap .i64 (o17_22 + 1)) w K0)
    else
      K0 y3 w

def mix_New.f (a0 : Int) (w : World) (K : Option Addr → World → Prop) : Prop :=
  mkL 74 4 32 [(Value.int .i64 0), (Value.int .i64 0), (Value.int .i64 0), (Value.int .i64 0)] (mx 1 (mn a0 4096)) (mx 1 (mn a0 4096)) w fun a9_3 a9_3n a9_3c w =>
  newC 78 [(Value.bool false), (Value.int .i64 0), (Value.int .i64 0), (Value.int .i64 0), (Value.int .i64 0), (Value.int .i64 0), (Value.int .i64 0), (Value.slice a9_3 a9_3n a9_3c)] w fun a11_4 w =>
  ldL (a11_4.add 7) w fun x15_7 x15_7n x15_7c =>
  ∃ N_23 : Nat, mix_New.l3 N_23 a11_4 ((x15_7n : Nat) : Int) 0 w
  (fun o3_24 w =>
    K (some o3_24) w)
def mix_New.H (F : type_of% @mix_New.f) : Hf := fun args w K => match args with
  | [v0] => vI .i64 v0 fun a0 => F a0 w (fun r0 w => K (Value.pointer r0) w)
  | _ => False
def mix_New.h : Hf := mix_New.H @mix_New.f
def mix_New.C : Hd := hnil
theorem mix_New.C_ok : CSound Try.prog mix_New.C := hnil_ok
def mix_New.D : Nat → Plan := fun i => .done
noncomputable def mix_New.c : Code := Try.f30.body.getD .skip
theorem mix_New.hb : Try.f30.body = some mix_New.c := by kernel_rfl
noncomputable def mix_New.b0 : Code := (loopsOf mix_New.c).getD 0 .skip
noncomputable def mix_New.b0_0 : Code := (loopsOf mix_New.b0).getD 0 .skip
theorem mix_New.b0_0_loops : loopsOf mix_New.b0_0 = [] := by kernel_rfl
theorem mix_New.b0_loops : loopsOf mix_New.b0 = [mix_New.b0_0] := by kernel_rfl
theorem mix_New.c_loops : loopsOf mix_New.c = [mix_New.b0] := by kernel_rfl
def mix_New.hn6 (N : Nat) (f : Fr) (w : World) (K : AExit → Fr → World → Prop) : Prop :=
  gN f 34 <| gQ f 3 fun y3 => gI .i64 f 4 fun y4 => gI .i64 f 16 fun y16 => gI .i64 f 17 fun y17 => gI .i64 f 20 fun y20 => mix_New.l6 N y3 y4 y16 y17 y20 w (fun o3 o16 o17 w => K (.exit 2) [none, none, none, some (Value.pointer (some o3)), none, none, none, none, none, none, none, none, none, none, none, none, some (Value.int .i64 o16), some (Value.int .i64 o17), none, none, none, none, none, none, none, none, none, none, none, none, none, none, none, none] w)
def mix_New.hx6 : AExit → Fr → World → (AExit → Fr → World → Prop) → Prop := fun e f w K => match e with
  | .normal => False
  | .exit i => (match Nat.beq i 2 with | true => gN f 34 <| gQ f 3 fun o3 => gI .i64 f 16 fun o16 => gI .i64 f 17 fun o17 => K (.exit 2) [none, none, none, some (Value.pointer (some o3)), none, none, none, none, none, none, none, none, none, none, none, none, some (Value.int .i64 o16), some (Value.int .i64 o17), none, none, none, none, none, none, none, none, none, none, none, none, none, none, none, none] w | false => False)
  | .ret => False
def mix_New.hn3 (N : Nat) (f : Fr) (w : World) (K : AExit → Fr → World → Prop) : Prop :=
  gN f 34 <| gQ f 3 fun y3 => gI .i64 f 16 fun y16 => gI .i64 f 17 fun y17 => mix_New.l3 N y3 y16 y17 w (fun o3 w => K (.exit 0) [none, none, none, some (Value.pointer (some o3)), none, none, none, none, none, none, none, none, none, none, none, none, none, none, none, none, none, none, none, none, none, none, none, none, none, none, none, none, none, none] w)
def mix_New.hx3 : AExit → Fr → World → (AExit → Fr → World → Prop) → Prop := fun e f w K => match e with
  | .normal => False
  | .exit i => (match Nat.beq i 0 with | true => gN f 34 <| gQ f 3 fun o3 => K (.exit 0) [none, none, none, some (Value.pointer (some o3)), none, none, none, none, none, none, none, none, none, none, none, none, none, none, none, none, none, none, none, none, none, none, none, none, none, none, none, none, none, none] w | false => False)
  | .ret => False
def mix_New.L : LHd := fun l f w K => (match Nat.beq l 3 with | true => ∃ N, mix_New.hn3 N f w K | false => (match Nat.beq l 6 with | true => ∃ N, mix_New.hn6 N f w K | false => False))
theorem mix_New.le6 (N : Nat) (y3 : Addr) (y4 : Int) (y16 : Int) (y17 : Int) (y20 : Int) (w : World) (K : AExit → Fr → World → Prop) : awp mix_New.C mix_New.L mix_New.D tab mix_New.b0_0 (lpost mix_New.hn6 mix_New.hx6 N K) [none, none, none, some (Value.pointer (some y3)), some (Value.int .i64 y4), none, none, none, none, none, none, none, none, none, none, none, some (Value.int .i64 y16), some (Value.int .i64 y17), none, none, some (Value.int .i64 y20), none, none, none, none, none, none, none, none, none, none, none, none, none] w = mix_New.l6 (N + 1) y3 y4 y16 y17 y20 w (fun o3 o16 o17 w => K (.exit 2) [none, none, none, some (Value.pointer (some o3)), none, none, none, none, none, none, none, none, none, none, none, none, some (Value.int .i64 o16), some (Value.int .i64 o17), none, none, none, none, none, none, none, none, none, none, none, none, none, none, none, none] w) := by kernel_rfl
theorem mix_New.lok6 : LoopOk Try.prog mix_New.L mix_New.b0_0 := by
  refine loop_ok tab_ok mix_New.C_ok (D := mix_New.D) (mix_New.hn6) (mix_New.hx6) (by kernel_rfl) (by rw [mix_New.b0_0_loops]; exact lnil) ?_ ?_ ?_ ?_
  · intro f w K h
    unfold mix_New.hn6 at h
    obtain ⟨hlen, h⟩ := gN_ok h
    obtain ⟨y3, h3, h⟩ := gQ_ok h
    obtain ⟨y4, h4, h⟩ := gI_ok h
    obtain ⟨y16, h16, h⟩ := gI_ok h
    obtain ⟨y17, h17, h⟩ := gI_ok h
    obtain ⟨y20, h20, h⟩ := gI_ok h
    exact h
  · intro N f w K h
    unfold mix_New.hn6 at h
    obtain ⟨hlen, h⟩ := gN_ok h
    obtain ⟨y3, h3, h⟩ := gQ_ok h
    obtain ⟨y4, h4, h⟩ := gI_ok h
    obtain ⟨y16, h16, h⟩ := gI_ok h
    obtain ⟨y17, h17, h⟩ := gI_ok h
    obtain ⟨y20, h20, h⟩ := gI_ok h
    refine ⟨[none, none, none, some (Value.pointer (some y3)), some (Value.int .i64 y4), none, none, none, none, none, none, none, none, none, none, none, some (Value.int .i64 y16), some (Value.int .i64 y17), none, none, some (Value.int .i64 y20), none, none, none, none, none, none, none, none, none, none, none, none, none], hlen, ⟨h3, h4, h16, h17, h20, trivial⟩, ?_⟩
    rw [mix_New.le6]
    exact h
  · intro e f w K h
    cases e with
    | normal => exact h.elim
    | exit i =>
      unfold mix_New.hx6 at h
      simp only at h
      split at h
      · rename_i hb
        obtain rfl := Nat.eq_of_beq_eq_true hb
        obtain ⟨hlen, h⟩ := gN_ok h
        obtain ⟨o3, h3, h⟩ := gQ_ok h
        obtain ⟨o16, h16, h⟩ := gI_ok h
        obtain ⟨o17, h17, h⟩ := gI_ok h
        exact ⟨[none, none, none, some (Value.pointer (some o3)), none, none, none, none, none, none, none, none, none, none, none, none, some (Value.int .i64 o16), some (Value.int .i64 o17), none, none, none, none, none, none, none, none, none, none, none, none, none, none, none, none], hlen, ⟨h3, h16, h17, trivial⟩, h⟩
      · exact (show False from h).elim
    | ret =>
      exact (show False from h).elim
  · intro f w K h
    have e : lid mix_New.b0_0 = 6 := by kernel_rfl
    rw [e] at h
    exact h
theorem mix_New.le3 (N : Nat) (y3 : Addr) (y16 : Int) (y17 : Int) (w : World) (K : AExit → Fr → World → Prop) : awp mix_New.C mix_New.L mix_New.D tab mix_New.b0 (lpost mix_New.hn3 mix_New.hx3 N K) [none, none, none, some (Value.pointer (some y3)), none, none, none, none, none, none, none, none, none, none, none, none, some (Value.int .i64 y16), some (Value.int .i64 y17), none, none, none, none, none, none, none, none, none, none, none, none, none, none, none, none] w = mix_New.l3 (N + 1) y3 y16 y17 w (fun o3 w => K (.exit 0) [none, none, none, some (Value.pointer (some o3)), none, none, none, none, none, none, none, none, none, none, none, none, none, none, none, none, none, none, none, none, none, none, none, none, none, none, none, none, none, none] w) := by kernel_rfl
theorem mix_New.lok3 : LoopOk Try.prog mix_New.L mix_New.b0 := by
  refine loop_ok tab_ok mix_New.C_ok (D := mix_New.D) (mix_New.hn3) (mix_New.hx3) (by kernel_rfl) (by rw [mix_New.b0_loops]; exact lcons mix_New.lok6 (lnil)) ?_ ?_ ?_ ?_
  · intro f w K h
    unfold mix_New.hn3 at h
    obtain ⟨hlen, h⟩ := gN_ok h
    obtain ⟨y3, h3, h⟩ := gQ_ok h
    obtain ⟨y16, h16, h⟩ := gI_ok h
    obtain ⟨y17, h17, h⟩ := gI_ok h
    exact h
  · intro N f w K h
    unfold mix_New.hn3 at h
    obtain ⟨hlen, h⟩ := gN_ok h
    obtain ⟨y3, h3, h⟩ := gQ_ok h
    obtain ⟨y16, h16, h⟩ := gI_ok h
    obtain ⟨y17, h17, h⟩ := gI_ok h
    refine ⟨[none, none, none, some (Value.pointer (some y3)), none, none, none, none, none, none, none, none, none, none, none, none, some (Value.int .i64 y16), some (Value.int .i64 y17), none, none, none, none, none, none, none, none, none, none, none, none, none, none, none, none], hlen, ⟨h3, h16, h17, trivial⟩, ?_⟩
    rw [mix_New.le3]
    exact h
  · intro e f w K h
    cases e with
    | normal => exact h.elim
    | exit i =>
      unfold mix_New.hx3 at h
      simp only at h
      split at h
      · rename_i hb
        obtain rfl := Nat.eq_of_beq_eq_true hb
        obtain ⟨hlen, h⟩ := gN_ok h
        obtain ⟨o3, h3, h⟩ := gQ_ok h
        exact ⟨[none, none, none, some (Value.pointer (some o3)), none, none, none, none, none, none, none, none, none, none, none, none, none, none, none, none, none, none, none, none, none, none, none, none, none, none, none, none, none, none], hlen, ⟨h3, trivial⟩, h⟩
      · exact (show False from h).elim
    | ret =>
      exact (show False from h).elim
  · intro f w K h
    have e : lid mix_New.b0 = 3 := by kernel_rfl
    rw [e] at h
    exact h
theorem mix_New.eq (a0 : Int) (w : World) (K : Value → World → Prop) : afn mix_New.C mix_New.L mix_New.D tab Try.f30 [(Value.int .i64 a0)] w K = mix_New.f a0 w (fun r0 w => K (Value.pointer r0) w) := by kernel_rfl
theorem mix_New.ok : FSound Try.prog 30 mix_New.h := by
  intro args w K h
  unfold mix_New.h mix_New.H at h
  split at h
  ·
    replace h := vI_ok h
    obtain ⟨a0, rfl, h⟩ := h
    refine ⟨by kernel_rfl, fn_ok tab_ok mix_New.C_ok (L := mix_New.L) (D := mix_New.D) Try.func30 mix_New.hb (by kernel_rfl) (by rw [mix_New.c_loops]; exact lcons mix_New.lok3 (lnil)) (Nat.le_of_ble_eq_true (by kernel_rfl)) ?_⟩
    rw [mix_New.eq]
    exact h
  · exact h.elim
/-! ### (*valise/mix.Mixer).place: function 42 -/
def mix_Mixer_place.f (a0 : Option Addr) (a1 : Int) (w : World) (K : Int → World → Prop) : Prop :=
  sm a0 fun p_3 =>
  ldL (p_3.add 7) w fun x9_4 x9_4n x9_4c =>
  let v5_5 := ((x9_4n : Nat) : Int)
  if v5_5 = 0 then False else
  if v5_5 = 0 then False else
  let v4_7 := (Int.tmod (IntKind.wrap .i64 ((Int.tmod a1 v5_5) + v5_5)) v5_5)
  K v4_7 w
def mix_Mixer_place.H (F : type_of% @mix_Mixer_place.f) : Hf := fun args w K => match args with
  | [v0, v1] => vP v0 fun a0 => vI .i64 v1 fun a1 => F a0 a1 w (fun r0 w => K (Value.int .i64 r0) w)
  | _ => False
def mix_Mixer_place.h : Hf := mix_Mixer_place.H @mix_Mixer_place.f
def mix_Mixer_place.C : Hd := hnil
theorem mix_Mixer_place.C_ok : CSound Try.prog mix_Mixer_place.C := hnil_ok
def mix_Mixer_place.D : Nat → Plan := fun i => .done
noncomputable def mix_Mixer_place.c : Code := Try.f42.body.getD .skip
theorem mix_Mixer_place.hb : Try.f42.body = some mix_Mixer_place.c := by kernel_rfl
theorem mix_Mixer_place.c_loops : loopsOf mix_Mixer_place.c = [] := by kernel_rfl
def mix_Mixer_place.L : LHd := fun l f w K => False
theorem mix_Mixer_place.eq (a0 : Option Addr) (a1 : Int) (w : World) (K : Value → World → Prop) : afn mix_Mixer_place.C mix_Mixer_place.L mix_Mixer_place.D tab Try.f42 [(Value.pointer a0), (Value.int .i64 a1)] w K = mix_Mixer_place.f a0 a1 w (fun r0 w => K (Value.int .i64 r0) w) := by kernel_rfl
theorem mix_Mixer_place.ok : FSound Try.prog 42 mix_Mixer_place.h := by
  intro args w K h
  unfold mix_Mixer_place.h mix_Mixer_place.H at h
  split at h
  ·
    replace h := vP_ok h
    obtain ⟨a0, rfl, h⟩ := h
    replace h := vI_ok h
    obtain ⟨a1, rfl, h⟩ := h
    refine ⟨by kernel_rfl, fn_ok tab_ok mix_Mixer_place.C_ok (L := mix_Mixer_place.L) (D := mix_Mixer_place.D) Try.func42 mix_Mixer_place.hb (by kernel_rfl) (by rw [mix_Mixer_place.c_loops]; exact lnil) (Nat.le_of_ble_eq_true (by kernel_rfl)) ?_⟩
    rw [mix_Mixer_place.eq]
    exact h
  · exact h.elim
/-! ### (*valise/mix.Mixer).Mix: function 31 -/
def mix_Mixer_Mix.l6 : Nat → Option Addr → Option Addr → Nat → Nat → Int → Int → Int → World → (Option Addr → Int → World → Prop) → Prop
  | 0, _, _, _, _, _, _, _, _, _ => False
  | N + 1, y0, y2, y2n, y2c, y7, y28, y29, w, K0 =>
    bif (decide (y29 < y28)) then
      sm y2 fun p_19 =>
      if 0 ≤ (y29 : Int) ∧ (y29 : Int) < ((y2n : Nat) : Int) then
      ldI .i64 (p_19.add (Int.toNat y29)) w.drew fun x37_20 =>
      sm y0 fun p_21 =>
      if 0 ≤ (y29 : Int) ∧ (y29 : Int) < ((4 : Nat) : Int) then
      stC ((p_21.add 2).add (Int.toNat y29)) (Value.int .i64 (mx (-2047) (mn x37_20 2047))) w.drew fun w =>
      sm y0 fun p_22 =>
      if 0 ≤ (y29 : Int) ∧ (y29 : Int) < ((4 : Nat) : Int) then
      ldI .i64 ((p_22.add 2).add (Int.toNat y29)) w.drew fun x51_23 =>
      sm y0 fun p_24 =>
      ldL (p_24.add 7) w.drew fun x55_25 x55_25n x55_25c =>
      sm y0 fun p_26 =>
      ldI .i64 (p_26.add 1) w.drew fun x60_27 =>
      sm x55_25 fun p_28 =>
      if 0 ≤ (x60_27 : Int) ∧ (x60_27 : Int) < ((x55_25n : Nat) : Int) then
      if 0 ≤ (y29 : Int) ∧ (y29 : Int) < ((4 : Nat) : Int) then
      ldI .i64 ((p_28.add (Int.toNat x60_27 * 4)).add (Int.toNat y29)) w.drew fun x64_29 =>
      let v7_30 := (IntKind.wrap .i64 (y7 + (IntKind.wrap .i64 (x51_23 * x64_29))))
      mix_Mixer_Mix.l6 N y0 y2 y2n y2c v7_30 y28 (IntKind.wrap .i64 (y29 + 1)) w.drew K0
      else False
      else False
      else False
      else False
      else False
    else
      K0 y0 y7 w

def mix_Mixer_Mix.f (a0 : Option Addr) (a1 : Int) (a2 : Option Addr) (a2n : Nat) (a2c : Nat) (w : World) (K : Int → World → Prop) : Prop :=
  bif a0.isNone then
    K 0 w
  else
    sm a0 fun p_4 =>
    ldL (p_4.add 7) w fun x15_5 x15_5n x15_5c =>
    bif (((x15_5n : Nat) : Int) == 0) then
      K 0 w
    else
      mix_Mixer_place.f a0 a1 w fun r22_9 w =>
      sm a0 fun p_10 =>
      stCs p_10 [(Value.bool true), (Value.int .i64 r22_9), (Value.int .i64 0), (Value.int .i64 0), (Value.int .i64 0), (Value.int .i64 0), (Value.int .i64 0)] 0 w fun w =>
      ∃ N_31 : Nat, mix_Mixer_Mix.l6 N_31 a0 a2 a2n a2c 0 (mn ((a2n : Nat) : Int) 4) 0 w
      (fun o0_32 o7_33 w =>
        mix_Squash.f (mx (-2047) (mn (shr .i64 o7_33 16) 2047)) w fun r73_35 w =>
        sm o0_32 fun p_36 =>
        stC (p_36.add 6) (Value.int .i64 r73_35) w fun w =>
        sm o0_32 fun p_38 =>
        ldI .i64 (p_38.add 6) w fun x81_39 =>
        K x81_39 w)
def mix_Mixer_Mix.H (F : type_of% @mix_Mixer_Mix.f) : Hf := fun args w K => match args with
  | [v0, v1, v2] => vP v0 fun a0 => vI .i64 v1 fun a1 => vL v2 fun a2 a2n a2c => F a0 a1 a2 a2n a2c w (fun r0 w => K (Value.int .i64 r0) w)
  | _ => False
def mix_Mixer_Mix.h : Hf := mix_Mixer_Mix.H @mix_Mixer_Mix.f
def mix_Mixer_Mix.C : Hd := hcons 26 mix_Squash.h (hcons 42 mix_Mixer_place.h (hnil))
theorem mix_Mixer_Mix.C_ok : CSound Try.prog mix_Mixer_Mix.C := hcons_ok mix_Squash.ok (hcons_ok mix_Mixer_place.ok (hnil_ok))
def mix_Mixer_Mix.D : Nat → Plan := fun i => (match Nat.beq i 9 with | true => .take 0 (.take 1 (.take 2 (.take 3 (.take 4 (.take 5 (.take 6 (.take 7 (.take 8 (.take 9 (.take 10 (.take 11 (.take 12 (.take 13 (.take 14 (.take 15 (.take 16 (.take 17 (.take 18 (.take 19 (.take 20 (.take 21 (.take 22 (.take 23 (.done)))))))))))))))))))))))) | false => (match Nat.beq i 8 with | true => .take 0 (.take 1 (.take 2 (.take 3 (.take 4 (.take 5 (.take 6 (.take 7 (.take 8 (.take 9 (.take 10 (.take 11 (.eff 12 (.done))))))))))))) | false => .done))
noncomputable def mix_Mixer_Mix.c : Code := Try.f31.body.getD .skip
theorem mix_Mixer_Mix.hb : Try.f31.body = some mix_Mixer_Mix.c := by kernel_rfl
noncomputable def mix_Mixer_Mix.b0 : Code := (loopsOf mix_Mixer_Mix.c).getD 0 .skip
theorem mix_Mixer_Mix.b0_loops : loopsOf mix_Mixer_Mix.b0 = [] := by kernel_rfl
theorem mix_Mixer_Mix.c_loops : loopsOf mix_Mixer_Mix.c = [mix_Mixer_Mix.b0] := by kernel_rfl
def mix_Mixer_Mix.hn6 (N : Nat) (f : Fr) (w : World) (K : AExit → Fr → World → Prop) : Prop :=
  gN f 82 <| gP f 0 fun y0 => gL f 2 fun y2 y2n y2c => gI .i64 f 7 fun y7 => gI .i64 f 28 fun y28 => gI .i64 f 29 fun y29 => mix_Mixer_Mix.l6 N y0 y2 y2n y2c y7 y28 y29 w (fun o0 o7 w => K (.exit 0) [some (Value.pointer o0), none, none, none, none, none, none, some (Value.int .i64 o7), none, none, none, none, none, none, none, none, none, none, none, none, none, none, none, none, none, none, none, none, none, none, none, none, none, none, none, none, none, none, none, none, none, none, none, none, none, none, none, none, none, none, none, none, none, none, none, none, none, none, none, none, none, none, none, none, none, none, none, none, none, none, none, none, none, none, none, none, none, none, none, none, none, none] w)
def mix_Mixer_Mix.hx6 : AExit → Fr → World → (AExit → Fr → World → Prop) → Prop := fun e f w K => match e with
  | .normal => False
  | .exit i => (match Nat.beq i 0 with | true => gN f 82 <| gP f 0 fun o0 => gI .i64 f 7 fun o7 => K (.exit 0) [some (Value.pointer o0), none, none, none, none, none, none, some (Value.int .i64 o7), none, none, none, none, none, none, none, none, none, none, none, none, none, none, none, none, none, none, none, none, none, none, none, none, none, none, none, none, none, none, none, none, none, none, none, none, none, none, none, none, none, none, none, none, none, none, none, none, none, none, none, none, none, none, none, none, none, none, none, none, none, none, none, none, none, none, none, none, none, none, none, none, none, none] w | false => False)
  | .ret => False
def mix_Mixer_Mix.L : LHd := fun l f w K => (match Nat.beq l 6 with | true => ∃ N, mix_Mixer_Mix.hn6 N f w K | false => False)
theorem mix_Mixer_Mix.le6 (N : Nat) (y0 : Option Addr) (y2 : Option Addr) (y2n : Nat) (y2c : Nat) (y7 : Int) (y28 : Int) (y29 : Int) (w : World) (K : AExit → Fr → World → Prop) : awp mix_Mixer_Mix.C mix_Mixer_Mix.L mix_Mixer_Mix.D tab mix_Mixer_Mix.b0 (lpost mix_Mixer_Mix.hn6 mix_Mixer_Mix.hx6 N K) [some (Value.pointer y0), none, some (Value.slice y2 y2n y2c), none, none, none, none, some (Value.int .i64 y7), none, none, none, none, none, none, none, none, none, none, none, none, none, none, none, none, none, none, none, none, some (Value.int .i64 y28), some (Value.int .i64 y29), none, none, none, none, none, none, none, none, none, none, none, none, none, none, none, none, none, none, none, none, none, none, none, none, none, none, none, none, none, none, none, none, none, none, none, none, none, none, none, none, none, none, none, none, none, none, none, none, none, none, none, none] w = mix_Mixer_Mix.l6 (N + 1) y0 y2 y2n y2c y7 y28 y29 w (fun o0 o7 w => K (.exit 0) [some (Value.pointer o0), none, none, none, none, none, none, some (Value.int .i64 o7), none, none, none, none, none, none, none, none, none, none, none, none, none, none, none, none, none, none, none, none, none, none, none, none, none, none, none, none, none, none, none, none, none, none, none, none, none, none, none, none, none, none, none, none, none, none, none, none, none, none, none, none, none, none, none, none, none, none, none, none, none, none, none, none, none, none, none, none, none, none, none, none, none, none] w) := by kernel_rfl
theorem mix_Mixer_Mix.lok6 : LoopOk Try.prog mix_Mixer_Mix.L mix_Mixer_Mix.b0 := by
  refine loop_ok tab_ok mix_Mixer_Mix.C_ok (D := mix_Mixer_Mix.D) (mix_Mixer_Mix.hn6) (mix_Mixer_Mix.hx6) (by kernel_rfl) (by rw [mix_Mixer_Mix.b0_loops]; exact lnil) ?_ ?_ ?_ ?_
  · intro f w K h
    unfold mix_Mixer_Mix.hn6 at h
    obtain ⟨hlen, h⟩ := gN_ok h
    obtain ⟨y0, h0, h⟩ := gP_ok h
    obtain ⟨y2, y2n, y2c, h2, h⟩ := gL_ok h
    obtain ⟨y7, h7, h⟩ := gI_ok h
    obtain ⟨y28, h28, h⟩ := gI_ok h
    obtain ⟨y29, h29, h⟩ := gI_ok h
    exact h
  · intro N f w K h
    unfold mix_Mixer_Mix.hn6 at h
    obtain ⟨hlen, h⟩ := gN_ok h
    obtain ⟨y0, h0, h⟩ := gP_ok h
    obtain ⟨y2, y2n, y2c, h2, h⟩ := gL_ok h
    obtain ⟨y7, h7, h⟩ := gI_ok h
    obtain ⟨y28, h28, h⟩ := gI_ok h
    obtain ⟨y29, h29, h⟩ := gI_ok h
    refine ⟨[some (Value.pointer y0), none, some (Value.slice y2 y2n y2c), none, none, none, none, some (Value.int .i64 y7), none, none, none, none, none, none, none, none, none, none, none, none, none, none, none, none, none, none, none, none, some (Value.int .i64 y28), some (Value.int .i64 y29), none, none, none, none, none, none, none, none, none, none, none, none, none, none, none, none, none, none, none, none, none, none, none, none, none, none, none, none, none, none, none, none, none, none, none, none, none, none, none, none, none, none, none, none, none, none, none, none, none, none, none, none], hlen, ⟨h0, h2, h7, h28, h29, trivial⟩, ?_⟩
    rw [mix_Mixer_Mix.le6]
    exact h
  · intro e f w K h
    cases e with
    | normal => exact h.elim
    | exit i =>
      unfold mix_Mixer_Mix.hx6 at h
      simp only at h
      split at h
      · rename_i hb
        obtain rfl := Nat.eq_of_beq_eq_true hb
        obtain ⟨hlen, h⟩ := gN_ok h
        obtain ⟨o0, h0, h⟩ := gP_ok h
        obtain ⟨o7, h7, h⟩ := gI_ok h
        exact ⟨[some (Value.pointer o0), none, none, none, none, none, none, some (Value.int .i64 o7), none, none, none, none, none, none, none, none, none, none, none, none, none, none, none, none, none, none, none, none, none, none, none, none, none, none, none, none, none, none, none, none, none, none, none, none, none, none, none, none, none, none, none, none, none, none, none, none, none, none, none, none, none, none, none, none, none, none, none, none, none, none, none, none, none, none, none, none, none, none, none, none, none, none], hlen, ⟨h0, h7, trivial⟩, h⟩
      · exact (show False from h).elim
    | ret =>
      exact (show False from h).elim
  · intro f w K h
    have e : lid mix_Mixer_Mix.b0 = 6 := by kernel_rfl
    rw [e] at h
    exact h
theorem mix_Mixer_Mix.eq (a0 : Option Addr) (a1 : Int) (a2 : Option Addr) (a2n : Nat) (a2c : Nat) (w : World) (K : Value → World → Prop) : afn mix_Mixer_Mix.C mix_Mixer_Mix.L mix_Mixer_Mix.D tab Try.f31 [(Value.pointer a0), (Value.int .i64 a1), (Value.slice a2 a2n a2c)] w K = mix_Mixer_Mix.f a0 a1 a2 a2n a2c w (fun r0 w => K (Value.int .i64 r0) w) := by kernel_rfl
theorem mix_Mixer_Mix.ok : FSound Try.prog 31 mix_Mixer_Mix.h := by
  intro args w K h
  unfold mix_Mixer_Mix.h mix_Mixer_Mix.H at h
  split at h
  ·
    replace h := vP_ok h
    obtain ⟨a0, rfl, h⟩ := h
    replace h := vI_ok h
    obtain ⟨a1, rfl, h⟩ := h
    replace h := vL_ok h
    obtain ⟨a2, a2n, a2c, rfl, h⟩ := h
    refine ⟨by kernel_rfl, fn_ok tab_ok mix_Mixer_Mix.C_ok (L := mix_Mixer_Mix.L) (D := mix_Mixer_Mix.D) Try.func31 mix_Mixer_Mix.hb (by kernel_rfl) (by rw [mix_Mixer_Mix.c_loops]; exact lcons mix_Mixer_Mix.lok6 (lnil)) (Nat.le_of_ble_eq_true (by kernel_rfl)) ?_⟩
    rw [mix_Mixer_Mix.eq]
    exact h
  · exact h.elim
/-! ### (*valise/mix.Mixer).Learn: function 32 -/
def mix_Mixer_Learn.l6 : Nat → Option Addr → Int → Int → World → (World → Prop) → Prop
  | 0, _, _, _, _, _ => False
  | N + 1, y0, y5, y28, w, K0 =>
    bif (decide (y28 < 4)) then
      sm y0 fun p_19 =>
      ldL (p_19.add 7) w.drew fun x34_20 x34_20n x34_20c =>
      sm y0 fun p_21 =>
      ldI .i64 (p_21.add 1) w.drew fun x39_22 =>
      sm x34_20 fun p_23 =>
      if 0 ≤ (x39_22 : Int) ∧ (x39_22 : Int) < ((x34_20n : Nat) : Int) then
      if 0 ≤ (y28 : Int) ∧ (y28 : Int) < ((4 : Nat) : Int) then
      ldI .i64 ((p_23.add (Int.toNat x39_22 * 4)).add (Int.toNat y28)) w.drew.drew fun x46_24 =>
      sm y0 fun p_25 =>
      if 0 ≤ (y28 : Int) ∧ (y28 : Int) < ((4 : Nat) : Int) then
      ldI .i64 ((p_25.add 2).add (Int.toNat y28)) w.drew.drew fun x53_26 =>
      stC ((p_23.add (Int.toNat x39_22 * 4)).add (Int.toNat y28)) (Value.int .i64 (mx (-16777216) (mn (IntKind.wrap .i64 (x46_24 + (shr .i64 (IntKind.wrap .i64 ((IntKind.wrap .i64 (x53_26 * y5)) + 32768)) 16))) 16777216))) w.drew.drew fun w =>
      mix_Mixer_Learn.l6 N y0 y5 (IntKind.wrap .i64 (y28 + 1)) w K0
      else False
      else False
      else False
    else
      K0 w

def mix_Mixer_Learn.f (a0 : Option Addr) (a1 : Int) (w : World) (K : World → Prop) : Prop :=
  bif a0.isNone then
    K w
  else
    sm a0 fun p_3 =>
    ldB p_3 w fun x15_4 =>
    bif (!x15_4) then
      K w
    else
      let J_28 := fun (j4_8 : Int) (w : World) =>
        ((sm a0 fun p_10 =>
        ldI .i64 (p_10.add 6) w fun x25_11 =>
        let v5_12 := (IntKind.wrap .i64 (7 * (IntKind.wrap .i64 (j4_8 - x25_11))))
        ∃ N_27 : Nat, mix_Mixer_Learn.l6 N_27 a0 v5_12 0 w
        (fun w =>
          K w)) : Prop)
      bif (a1 != 0) then
        J_28 4095 w
      else
        J_28 0 w
def mix_Mixer_Learn.H (F : type_of% @mix_Mixer_Learn.f) : Hf := fun args w K => match args with
  | [v0, v1] => vP v0 fun a0 => vI .i64 v1 fun a1 => F a0 a1 w (fun w => K (Value.tuple #[]) w)
  | _ => False
def mix_Mixer_Learn.h : Hf := mix_Mixer_Learn.H @mix_Mixer_Learn.f
def mix_Mixer_Learn.C : Hd := hnil
theorem mix_Mixer_Learn.C_ok : CSound Try.prog mix_Mixer_Learn.C := hnil_ok
def mix_Mixer_Learn.D : Nat → Plan := fun i => (match Nat.beq i 9 with | true => .take 0 (.take 1 (.take 2 (.take 3 (.take 4 (.take 5 (.take 6 (.take 7 (.take 8 (.take 9 (.take 10 (.take 11 (.take 12 (.take 13 (.take 14 (.take 15 (.take 16 (.take 17 (.take 18 (.eff 19 (.done)))))))))))))))))))) | false => (match Nat.beq i 8 with | true => .take 0 (.take 1 (.take 2 (.take 3 (.take 4 (.take 5 (.take 6 (.take 7 (.take 8 (.take 9 (.take 10 (.take 11 (.take 12 (.done))))))))))))) | false => .done))
noncomputable def mix_Mixer_Learn.c : Code := Try.f32.body.getD .skip
theorem mix_Mixer_Learn.hb : Try.f32.body = some mix_Mixer_Learn.c := by kernel_rfl
noncomputable def mix_Mixer_Learn.b0 : Code := (loopsOf mix_Mixer_Learn.c).getD 0 .skip
theorem mix_Mixer_Learn.b0_loops : loopsOf mix_Mixer_Learn.b0 = [] := by kernel_rfl
theorem mix_Mixer_Learn.c_loops : loopsOf mix_Mixer_Learn.c = [mix_Mixer_Learn.b0] := by kernel_rfl
def mix_Mixer_Learn.hn6 (N : Nat) (f : Fr) (w : World) (K : AExit → Fr → World → Prop) : Prop :=
  gN f 63 <| gP f 0 fun y0 => gI .i64 f 5 fun y5 => gI .i64 f 28 fun y28 => mix_Mixer_Learn.l6 N y0 y5 y28 w (fun w => K (.exit 0) [none, none, none, none, none, none, none, none, none, none, none, none, none, none, none, none, none, none, none, none, none, none, none, none, none, none, none, none, none, none, none, none, none, none, none, none, none, none, none, none, none, none, none, none, none, none, none, none, none, none, none, none, none, none, none, none, none, none, none, none, none, none, none] w)
def mix_Mixer_Learn.hx6 : AExit → Fr → World → (AExit → Fr → World → Prop) → Prop := fun e f w K => match e with
  | .normal => False
  | .exit i => (match Nat.beq i 0 with | true => gN f 63 <|  K (.exit 0) [none, none, none, none, none, none, none, none, none, none, none, none, none, none, none, none, none, none, none, none, none, none, none, none, none, none, none, none, none, none, none, none, none, none, none, none, none, none, none, none, none, none, none, none, none, none, none, none, none, none, none, none, none, none, none, none, none, none, none, none, none, none, none] w | false => False)
  | .ret => False
def mix_Mixer_Learn.L : LHd := fun l f w K => (match Nat.beq l 6 with | true => ∃ N, mix_Mixer_Learn.hn6 N f w K | false => False)
theorem mix_Mixer_Learn.le6 (N : Nat) (y0 : Option Addr) (y5 : Int) (y28 : Int) (w : World) (K : AExit → Fr → World → Prop) : awp mix_Mixer_Learn.C mix_Mixer_Learn.L mix_Mixer_Learn.D tab mix_Mixer_Learn.b0 (lpost mix_Mixer_Learn.hn6 mix_Mixer_Learn.hx6 N K) [some (Value.pointer y0), none, none, none, none, some (Value.int .i64 y5), none, none, none, none, none, none, none, none, none, none, none, none, none, none, none, none, none, none, none, none, none, none, some (Value.int .i64 y28), none, none, none, none, none, none, none, none, none, none, none, none, none, none, none, none, none, none, none, none, none, none, none, none, none, none, none, none, none, none, none, none, none, none] w = mix_Mixer_Learn.l6 (N + 1) y0 y5 y28 w (fun w => K (.exit 0) [none, none, none, none, none, none, none, none, none, none, none, none, none, none, none, none, none, none, none, none, none, none, none, none, none, none, none, none, none, none, none, none, none, none, none, none, none, none, none, none, none, none, none, none, none, none, none, none, none, none, none, none, none, none, none, none, none, none, none, none, none, none, none] w) := by kernel_rfl
theorem mix_Mixer_Learn.lok6 : LoopOk Try.prog mix_Mixer_Learn.L mix_Mixer_Learn.b0 := by
  refine loop_ok tab_ok mix_Mixer_Learn.C_ok (D := mix_Mixer_Learn.D) (mix_Mixer_Learn.hn6) (mix_Mixer_Learn.hx6) (by kernel_rfl) (by rw [mix_Mixer_Learn.b0_loops]; exact lnil) ?_ ?_ ?_ ?_
  · intro f w K h
    unfold mix_Mixer_Learn.hn6 at h
    obtain ⟨hlen, h⟩ := gN_ok h
    obtain ⟨y0, h0, h⟩ := gP_ok h
    obtain ⟨y5, h5, h⟩ := gI_ok h
    obtain ⟨y28, h28, h⟩ := gI_ok h
    exact h
  · intro N f w K h
    unfold mix_Mixer_Learn.hn6 at h
    obtain ⟨hlen, h⟩ := gN_ok h
    obtain ⟨y0, h0, h⟩ := gP_ok h
    obtain ⟨y5, h5, h⟩ := gI_ok h
    obtain ⟨y28, h28, h⟩ := gI_ok h
    refine ⟨[some (Value.pointer y0), none, none, none, none, some (Value.int .i64 y5), none, none, none, none, none, none, none, none, none, none, none, none, none, none, none, none, none, none, none, none, none, none, some (Value.int .i64 y28), none, none, none, none, none, none, none, none, none, none, none, none, none, none, none, none, none, none, none, none, none, none, none, none, none, none, none, none, none, none, none, none, none, none], hlen, ⟨h0, h5, h28, trivial⟩, ?_⟩
    rw [mix_Mixer_Learn.le6]
    exact h
  · intro e f w K h
    cases e with
    | normal => exact h.elim
    | exit i =>
      unfold mix_Mixer_Learn.hx6 at h
      simp only at h
      split at h
      · rename_i hb
        obtain rfl := Nat.eq_of_beq_eq_true hb
        obtain ⟨hlen, h⟩ := gN_ok h
        exact ⟨[none, none, none, none, none, none, none, none, none, none, none, none, none, none, none, none, none, none, none, none, none, none, none, none, none, none, none, none, none, none, none, none, none, none, none, none, none, none, none, none, none, none, none, none, none, none, none, none, none, none, none, none, none, none, none, none, none, none, none, none, none, none, none], hlen, trivial, h⟩
      · exact (show False from h).elim
    | ret =>
      exact (show False from h).elim
  · intro f w K h
    have e : lid mix_Mixer_Learn.b0 = 6 := by kernel_rfl
    rw [e] at h
    exact h
theorem mix_Mixer_Learn.eq (a0 : Option Addr) (a1 : Int) (w : World) (K : Value → World → Prop) : afn mix_Mixer_Learn.C mix_Mixer_Learn.L mix_Mixer_Learn.D tab Try.f32 [(Value.pointer a0), (Value.int .i64 a1)] w K = mix_Mixer_Learn.f a0 a1 w (fun w => K (Value.tuple #[]) w) := by kernel_rfl
theorem mix_Mixer_Learn.ok : FSound Try.prog 32 mix_Mixer_Learn.h := by
  intro args w K h
  unfold mix_Mixer_Learn.h mix_Mixer_Learn.H at h
  split at h
  ·
    replace h := vP_ok h
    obtain ⟨a0, rfl, h⟩ := h
    replace h := vI_ok h
    obtain ⟨a1, rfl, h⟩ := h
    refine ⟨by kernel_rfl, fn_ok tab_ok mix_Mixer_Learn.C_ok (L := mix_Mixer_Learn.L) (D := mix_Mixer_Learn.D) Try.func32 mix_Mixer_Learn.hb (by kernel_rfl) (by rw [mix_Mixer_Learn.c_loops]; exact lcons mix_Mixer_Learn.lok6 (lnil)) (Nat.le_of_ble_eq_true (by kernel_rfl)) ?_⟩
    rw [mix_Mixer_Learn.eq]
    exact h
  · exact h.elim
/-! ### valise/valiseref06.New: function 33 -/
def ref06_New.l7 : Nat → Int → Addr → Int → Option Addr → Nat → Nat → Int → World → (Int → Addr → Int → Option Addr → Nat → Nat → World → Prop) → Prop
  | 0, _, _, _, _, _, _, _, _, _ => False
  | N + 1, y0, y3, y4, y5, y5n, y5c, y6, w, K2 =>
    bif (decide (y6 < 4)) then
      newC 3 [(Value.int .i64 16384)] w fun a21_15 w =>
      appL 3 1 8 [(Value.int .i64 0)] y5 y5n y5c (some a21_15) 1 1 w fun a22_16 a22_16n a22_16c w =>
      let v6_17 := (IntKind.wrap .i64 (y6 + 1))
      ref06_New.l7 N y0 y3 y4 a22_16 a22_16n a22_16c v6_17 w K2
    else
      K2 y0 y3 y4 y5 y5n y5c w

def ref06_New.l3 : Nat → Int → Addr → Int → World → (Addr → World → Prop) → Prop
  | 0, _, _, _, _, _ => False
  | N + 1, y0, y3, y4, w, K0 =>
    bif (decide (y4 < (mx 1 (mn y0 4096)))) then
      ∃ N_18 : Nat, ref06_New.l7 N_18 y0 y3 y4 none 0 0 0 w
      (fun o0_19 o3_20 o4_21 o5_22 o5_22n o5_22c w =>
        ldL o3_20 w fun x27_23 x27_23n x27_23c =>
        newC 30 [(Value.slice o5_22 o5_22n o5_22c)] w fun a29_24 w =>
        appL 30 1 24 [(Value.slice none 0 0)] x27_23 x27_23n x27_23c (some a29_24) 1 1 w fun a30_25 a30_25n a30_25c w =>
        stC o3_20 (Value.slice a30_25 a30_25n a30_25c) w fun w =>
        let v4_26 := (IntKind.wrap .i64 (o4_21 + 1))
        ref06_New.l3 N o0_19 o3_20 v4_26 w K0)
    else
      K0 y3 w

def ref06_New.f (a0 : Int) (w : World) (K : Option Addr → World → Prop) : Prop :=
  newC 64 [(Value.slice none 0 0), (Value.slice none 0 0), (Value.int .i64 0), (Value.int .i64 0), (Value.bool false)] w fun a8_3 w =>
  ∃ N_27 : Nat, ref06_New.l3 N_27 a0 a8_3 0 w
  (fun o3_28 w =>
    K (some o3_28) w)
def ref06_New.H (F : type_of% @ref06_New.f) : Hf := fun args w K => match args with
  | [v0] => vI .i64 v0 fun a0 => F a0 w (fun r0 w => K (Value.pointer r0) w)
  | _ => False
def ref06_New.h : Hf := ref06_New.H @ref06_New.f
def ref06_New.C : Hd := hnil
theorem ref06_New.C_ok : CSound Try.prog ref06_New.C := hnil_ok
def ref06_New.D : Nat → Plan := fun i => .done
noncomputable def ref06_New.c : Code := Try.f33.body.getD .skip
theorem ref06_New.hb : Try.f33.body = some ref06_New.c := by kernel_rfl
noncomputable def ref06_New.b0 : Code := (loopsOf ref06_New.c).getD 0 .skip
noncomputable def ref06_New.b0_0 : Code := (loopsOf ref06_New.b0).getD 0 .skip
theorem ref06_New.b0_0_loops : loopsOf ref06_New.b0_0 = [] := by kernel_rfl
theorem ref06_New.b0_loops : loopsOf ref06_New.b0 = [ref06_New.b0_0] := by kernel_rfl
theorem ref06_New.c_loops : loopsOf ref06_New.c = [ref06_New.b0] := by kernel_rfl
def ref06_New.hn7 (N : Nat) (f : Fr) (w : World) (K : AExit → Fr → World → Prop) : Prop :=
  gN f 34 <| gI .i64 f 0 fun y0 => gQ f 3 fun y3 => gI .i64 f 4 fun y4 => gL f 5 fun y5 y5n y5c => gI .i64 f 6 fun y6 => ref06_New.l7 N y0 y3 y4 y5 y5n y5c y6 w (fun o0 o3 o4 o5 o5n o5c w => K (.exit 2) [some (Value.int .i64 o0), none, none, some (Value.pointer (some o3)), some (Value.int .i64 o4), some (Value.slice o5 o5n o5c), none, none, none, none, none, none, none, none, none, none, none, none, none, none, none, none, none, none, none, none, none, none, none, none, none, none, none, none] w)
def ref06_New.hx7 : AExit → Fr → World → (AExit → Fr → World → Prop) → Prop := fun e f w K => match e with
  | .normal => False
  | .exit i => (match Nat.beq i 2 with | true => gN f 34 <| gI .i64 f 0 fun o0 => gQ f 3 fun o3 => gI .i64 f 4 fun o4 => gL f 5 fun o5 o5n o5c => K (.exit 2) [some (Value.int .i64 o0), none, none, some (Value.pointer (some o3)), some (Value.int .i64 o4), some (Value.slice o5 o5n o5c), none, none, none, none, none, none, none, none, none, none, none, none, none, none, none, none, none, none, none, none, none, none, none, none, none, none, none, none] w | false => False)
  | .ret => False
def ref06_New.hn3 (N : Nat) (f : Fr) (w : World) (K : AExit → Fr → World → Prop) : Prop :=
  gN f 34 <| gI .i64 f 0 fun y0 => gQ f 3 fun y3 => gI .i64 f 4 fun y4 => ref06_New.l3 N y0 y3 y4 w (fun o3 w => K (.exit 0) [none, none, none, some (Value.pointer (some o3)), none, none, none, none, none, none, none, none, none, none, none, none, none, none, none, none, none, none, none, none, none, none, none, none, none, none, none, none, none, none] w)
def ref06_New.hx3 : AExit → Fr → World → (AExit → Fr → World → Prop) → Prop := fun e f w K => match e with
  | .normal => False
  | .exit i => (match Nat.beq i 0 with | true => gN f 34 <| gQ f 3 fun o3 => K (.exit 0) [none, none, none, some (Value.pointer (some o3)), none, none, none, none, none, none, none, none, none, none, none, none, none, none, none, none, none, none, none, none, none, none, none, none, none, none, none, none, none, none] w | false => False)
  | .ret => False
def ref06_New.L : LHd := fun l f w K => (match Nat.beq l 3 with | true => ∃ N, ref06_New.hn3 N f w K | false => (match Nat.beq l 7 with | true => ∃ N, ref06_New.hn7 N f w K | false => False))
theorem ref06_New.le7 (N : Nat) (y0 : Int) (y3 : Addr) (y4 : Int) (y5 : Option Addr) (y5n : Nat) (y5c : Nat) (y6 : Int) (w : World) (K : AExit → Fr → World → Prop) : awp ref06_New.C ref06_New.L ref06_New.D tab ref06_New.b0_0 (lpost ref06_New.hn7 ref06_New.hx7 N K) [some (Value.int .i64 y0), none, none, some (Value.pointer (some y3)), some (Value.int .i64 y4), some (Value.slice y5 y5n y5c), some (Value.int .i64 y6), none, none, none, none, none, none, none, none, none, none, none, none, none, none, none, none, none, none, none, none, none, none, none, none, none, none, none] w = ref06_New.l7 (N + 1) y0 y3 y4 y5 y5n y5c y6 w (fun o0 o3 o4 o5 o5n o5c w => K (.exit 2) [some (Value.int .i64 o0), none, none, some (Value.pointer (some o3)), some (Value.int .i64 o4), some (Value.slice o5 o5n o5c), none, none, none, none, none, none, none, none, none, none, none, none, none, none, none, none, none, none, none, none, none, none, none, none, none, none, none, none] w) := by kernel_rfl
theorem ref06_New.lok7 : LoopOk Try.prog ref06_New.L ref06_New.b0_0 := by
  refine loop_ok tab_ok ref06_New.C_ok (D := ref06_New.D) (ref06_New.hn7) (ref06_New.hx7) (by kernel_rfl) (by rw [ref06_New.b0_0_loops]; exact lnil) ?_ ?_ ?_ ?_
  · intro f w K h
    unfold ref06_New.hn7 at h
    obtain ⟨hlen, h⟩ := gN_ok h
    obtain ⟨y0, h0, h⟩ := gI_ok h
    obtain ⟨y3, h3, h⟩ := gQ_ok h
    obtain ⟨y4, h4, h⟩ := gI_ok h
    obtain ⟨y5, y5n, y5c, h5, h⟩ := gL_ok h
    obtain ⟨y6, h6, h⟩ := gI_ok h
    exact h
  · intro N f w K h
    unfold ref06_New.hn7 at h
    obtain ⟨hlen, h⟩ := gN_ok h
    obtain ⟨y0, h0, h⟩ := gI_ok h
    obtain ⟨y3, h3, h⟩ := gQ_ok h
    obtain ⟨y4, h4, h⟩ := gI_ok h
    obtain ⟨y5, y5n, y5c, h5, h⟩ := gL_ok h
    obtain ⟨y6, h6, h⟩ := gI_ok h
    refine ⟨[some (Value.int .i64 y0), none, none, some (Value.pointer (some y3)), some (Value.int .i64 y4), some (Value.slice y5 y5n y5c), some (Value.int .i64 y6), none, none, none, none, none, none, none, none, none, none, none, none, none, none, none, none, none, none, none, none, none, none, none, none, none, none, none], hlen, ⟨h0, h3, h4, h5, h6, trivial⟩, ?_⟩
    rw [ref06_New.le7]
    exact h
  · intro e f w K h
    cases e with
    | normal => exact h.elim
    | exit i =>
      unfold ref06_New.hx7 at h
      simp only at h
      split at h
      · rename_i hb
        obtain rfl := Nat.eq_of_beq_eq_true hb
        obtain ⟨hlen, h⟩ := gN_ok h
        obtain ⟨o0, h0, h⟩ := gI_ok h
        obtain ⟨o3, h3, h⟩ := gQ_ok h
        obtain ⟨o4, h4, h⟩ := gI_ok h
        obtain ⟨o5, o5n, o5c, h5, h⟩ := gL_ok h
        exact ⟨[some (Value.int .i64 o0), none, none, some (Value.pointer (some o3)), some (Value.int .i64 o4), some (Value.slice o5 o5n o5c), none, none, none, none, none, none, none, none, none, none, none, none, none, none, none, none, none, none, none, none, none, none, none, none, none, none, none, none], hlen, ⟨h0, h3, h4, h5, trivial⟩, h⟩
      · exact (show False from h).elim
    | ret =>
      exact (show False from h).elim
  · intro f w K h
    have e : lid ref06_New.b0_0 = 7 := by kernel_rfl
    rw [e] at h
    exact h
theorem ref06_New.le3 (N : Nat) (y0 : Int) (y3 : Addr) (y4 : Int) (w : World) (K : AExit → Fr → World → Prop) : awp ref06_New.C ref06_New.L ref06_New.D tab ref06_New.b0 (lpost ref06_New.hn3 ref06_New.hx3 N K) [some (Value.int .i64 y0), none, none, some (Value.pointer (some y3)), some (Value.int .i64 y4), none, none, none, none, none, none, none, none, none, none, none, none, none, none, none, none, none, none, none, none, none, none, none, none, none, none, none, none, none] w = ref06_New.l3 (N + 1) y0 y3 y4 w (fun o3 w => K (.exit 0) [none, none, none, some (Value.pointer (some o3)), none, none, none, none, none, none, none, none, none, none, none, none, none, none, none, none, none, none, none, none, none, none, none, none, none, none, none, none, none, none] w) := by kernel_rfl
theorem ref06_New.lok3 : LoopOk Try.prog ref06_New.L ref06_New.b0 := by
  refine loop_ok tab_ok ref06_New.C_ok (D := ref06_New.D) (ref06_New.hn3) (ref06_New.hx3) (by kernel_rfl) (by rw [ref06_New.b0_loops]; exact lcons ref06_New.lok7 (lnil)) ?_ ?_ ?_ ?_
  · intro f w K h
    unfold ref06_New.hn3 at h
    obtain ⟨hlen, h⟩ := gN_ok h
    obtain ⟨y0, h0, h⟩ := gI_ok h
    obtain ⟨y3, h3, h⟩ := gQ_ok h
    obtain ⟨y4, h4, h⟩ := gI_ok h
    exact h
  · intro N f w K h
    unfold ref06_New.hn3 at h
    obtain ⟨hlen, h⟩ := gN_ok h
    obtain ⟨y0, h0, h⟩ := gI_ok h
    obtain ⟨y3, h3, h⟩ := gQ_ok h
    obtain ⟨y4, h4, h⟩ := gI_ok h
    refine ⟨[some (Value.int .i64 y0), none, none, some (Value.pointer (some y3)), some (Value.int .i64 y4), none, none, none, none, none, none, none, none, none, none, none, none, none, none, none, none, none, none, none, none, none, none, none, none, none, none, none, none, none], hlen, ⟨h0, h3, h4, trivial⟩, ?_⟩
    rw [ref06_New.le3]
    exact h
  · intro e f w K h
    cases e with
    | normal => exact h.elim
    | exit i =>
      unfold ref06_New.hx3 at h
      simp only at h
      split at h
      · rename_i hb
        obtain rfl := Nat.eq_of_beq_eq_true hb
        obtain ⟨hlen, h⟩ := gN_ok h
        obtain ⟨o3, h3, h⟩ := gQ_ok h
        exact ⟨[none, none, none, some (Value.pointer (some o3)), none, none, none, none, none, none, none, none, none, none, none, none, none, none, none, none, none, none, none, none, none, none, none, none, none, none, none, none, none, none], hlen, ⟨h3, trivial⟩, h⟩
      · exact (show False from h).elim
    | ret =>
      exact (show False from h).elim
  · intro f w K h
    have e : lid ref06_New.b0 = 3 := by kernel_rfl
    rw [e] at h
    exact h
theorem ref06_New.eq (a0 : Int) (w : World) (K : Value → World → Prop) : afn ref06_New.C ref06_New.L ref06_New.D tab Try.f33 [(Value.int .i64 a0)] w K = ref06_New.f a0 w (fun r0 w => K (Value.pointer r0) w) := by kernel_rfl
theorem ref06_New.ok : FSound Try.prog 33 ref06_New.h := by
  intro args w K h
  unfold ref06_New.h ref06_New.H at h
  split at h
  ·
    replace h := vI_ok h
    obtain ⟨a0, rfl, h⟩ := h
    refine ⟨by kernel_rfl, fn_ok tab_ok ref06_New.C_ok (L := ref06_New.L) (D := ref06_New.D) Try.func33 ref06_New.hb (by kernel_rfl) (by rw [ref06_New.c_loops]; exact lcons ref06_New.lok3 (lnil)) (Nat.le_of_ble_eq_true (by kernel_rfl)) ?_⟩
    rw [ref06_New.eq]
    exact h
  · exact h.elim
/-! ### valise/valisehelp.Own[int]: function 34 -/
def help_Own_int.l5 : Nat → Int → Option Addr → Nat → Nat → Option Addr → Nat → Nat → Int → World → (Option Addr → Nat → Nat → World → Prop) → Prop
  | 0, _, _, _, _, _, _, _, _, _, _ => False
  | N + 1, y1, y5, y5n, y5c, y6, y6n, y6c, y7, w, K0 =>
    bif (decide (y7 < ((y6n : Nat) : Int))) then
      sm y6 fun p_15 =>
      if 0 ≤ (y7 : Int) ∧ (y7 : Int) < ((y6n : Nat) : Int) then
      stC (p_15.add (Int.toNat y7)) (Value.int .i64 y1) w fun w =>
      let v7_16 := (IntKind.wrap .i64 (y7 + 1))
      help_Own_int.l5 N y1 y5 y5n y5c y6 y6n y6c v7_16 w K0
      else False
    else
      K0 y5 y5n y5c w

def help_Own_int.f (a0 : Option Addr) (a0n : Nat) (a0c : Nat) (a1 : Int) (w : World) (K : Option Addr → Nat → Nat → World → Prop) : Prop :=
  mkL 3 1 8 [(Value.int .i64 0)] 0 (IntKind.wrap .i64 (((a0n : Nat) : Int) + 3)) w fun a11_3 a11_3n a11_3c w =>
  appL 3 1 8 [(Value.int .i64 0)] a11_3 a11_3n a11_3c a0 a0n a0c w fun a14_5 a14_5n a14_5c w =>
  bnd a14_5n a14_5c none (some (Value.int .i64 (IntKind.wrap .i64 (((a0n : Nat) : Int) + 3)))) fun l_7 h_8 =>
  let v7_11 := ((a0n : Nat) : Int)
  ∃ N_17 : Nat, help_Own_int.l5 N_17 a1 a14_5 a14_5n a14_5c (adrS a14_5 l_7 a14_5c 1) (h_8 - l_7) (a14_5c - l_7) v7_11 w
  (fun o5_18 o5_18n o5_18c w =>
    K o5_18 o5_18n o5_18c w)
def help_Own_int.H (F : type_of% @help_Own_int.f) : Hf := fun args w K => match args with
  | [v0, v1] => vL v0 fun a0 a0n a0c => vI .i64 v1 fun a1 => F a0 a0n a0c a1 w (fun r0 r0n r0c w => K (Value.slice r0 r0n r0c) w)
  | _ => False
def help_Own_int.h : Hf := help_Own_int.H @help_Own_int.f
def help_Own_int.C : Hd := hnil
theorem help_Own_int.C_ok : CSound Try.prog help_Own_int.C := hnil_ok
def help_Own_int.D : Nat → Plan := fun i => .done
noncomputable def help_Own_int.c : Code := Try.f34.body.getD .skip
theorem help_Own_int.hb : Try.f34.body = some help_Own_int.c := by kernel_rfl
noncomputable def help_Own_int.b0 : Code := (loopsOf help_Own_int.c).getD 0 .skip
theorem help_Own_int.b0_loops : loopsOf help_Own_int.b0 = [] := by kernel_rfl
theorem help_Own_int.c_loops : loopsOf help_Own_int.c = [help_Own_int.b0] := by kernel_rfl
def help_Own_int.hn5 (N : Nat) (f : Fr) (w : World) (K : AExit → Fr → World → Prop) : Prop :=
  gN f 33 <| gI .i64 f 1 fun y1 => gL f 5 fun y5 y5n y5c => gL f 6 fun y6 y6n y6c => gI .i64 f 7 fun y7 => help_Own_int.l5 N y1 y5 y5n y5c y6 y6n y6c y7 w (fun o5 o5n o5c w => K (.exit 0) [none, none, none, none, none, some (Value.slice o5 o5n o5c), none, none, none, none, none, none, none, none, none, none, none, none, none, none, none, none, none, none, none, none, none, none, none, none, none, none, none] w)
def help_Own_int.hx5 : AExit → Fr → World → (AExit → Fr → World → Prop) → Prop := fun e f w K => match e with
  | .normal => False
  | .exit i => (match Nat.beq i 0 with | true => gN f 33 <| gL f 5 fun o5 o5n o5c => K (.exit 0) [none, none, none, none, none, some (Value.slice o5 o5n o5c), none, none, none, none, none, none, none, none, none, none, none, none, none, none, none, none, none, none, none, none, none, none, none, none, none, none, none] w | false => False)
  | .ret => False
def help_Own_int.L : LHd := fun l f w K => (match Nat.beq l 5 with | true => ∃ N, help_Own_int.hn5 N f w K | false => False)
theorem help_Own_int.le5 (N : Nat) (y1 : Int) (y5 : Option Addr) (y5n : Nat) (y5c : Nat) (y6 : Option Addr) (y6n : Nat) (y6c : Nat) (y7 : Int) (w : World) (K : AExit → Fr → World → Prop) : awp help_Own_int.C help_Own_int.L help_Own_int.D tab help_Own_int.b0 (lpost help_Own_int.hn5 help_Own_int.hx5 N K) [none, some (Value.int .i64 y1), none, none, none, some (Value.slice y5 y5n y5c), some (Value.slice y6 y6n y6c), some (Value.int .i64 y7), none, none, none, none, none, none, none, none, none, none, none, none, none, none, none, none, none, none, none, none, none, none, none, none, none] w = help_Own_int.l5 (N + 1) y1 y5 y5n y5c y6 y6n y6c y7 w (fun o5 o5n o5c w => K (.exit 0) [none, none, none, none, none, some (Value.slice o5 o5n o5c), none, none, none, none, none, none, none, none, none, none, none, none, none, none, none, none, none, none, none, none, none, none, none, none, none, none, none] w) := by kernel_rfl
theorem help_Own_int.lok5 : LoopOk Try.prog help_Own_int.L help_Own_int.b0 := by
  refine loop_ok tab_ok help_Own_int.C_ok (D := help_Own_int.D) (help_Own_int.hn5) (help_Own_int.hx5) (by kernel_rfl) (by rw [help_Own_int.b0_loops]; exact lnil) ?_ ?_ ?_ ?_
  · intro f w K h
    unfold help_Own_int.hn5 at h
    obtain ⟨hlen, h⟩ := gN_ok h
    obtain ⟨y1, h1, h⟩ := gI_ok h
    obtain ⟨y5, y5n, y5c, h5, h⟩ := gL_ok h
    obtain ⟨y6, y6n, y6c, h6, h⟩ := gL_ok h
    obtain ⟨y7, h7, h⟩ := gI_ok h
    exact h
  · intro N f w K h
    unfold help_Own_int.hn5 at h
    obtain ⟨hlen, h⟩ := gN_ok h
    obtain ⟨y1, h1, h⟩ := gI_ok h
    obtain ⟨y5, y5n, y5c, h5, h⟩ := gL_ok h
    obtain ⟨y6, y6n, y6c, h6, h⟩ := gL_ok h
    obtain ⟨y7, h7, h⟩ := gI_ok h
    refine ⟨[none, some (Value.int .i64 y1), none, none, none, some (Value.slice y5 y5n y5c), some (Value.slice y6 y6n y6c), some (Value.int .i64 y7), none, none, none, none, none, none, none, none, none, none, none, none, none, none, none, none, none, none, none, none, none, none, none, none, none], hlen, ⟨h1, h5, h6, h7, trivial⟩, ?_⟩
    rw [help_Own_int.le5]
    exact h
  · intro e f w K h
    cases e with
    | normal => exact h.elim
    | exit i =>
      unfold help_Own_int.hx5 at h
      simp only at h
      split at h
      · rename_i hb
        obtain rfl := Nat.eq_of_beq_eq_true hb
        obtain ⟨hlen, h⟩ := gN_ok h
        obtain ⟨o5, o5n, o5c, h5, h⟩ := gL_ok h
        exact ⟨[none, none, none, none, none, some (Value.slice o5 o5n o5c), none, none, none, none, none, none, none, none, none, none, none, none, none, none, none, none, none, none, none, none, none, none, none, none, none, none, none], hlen, ⟨h5, trivial⟩, h⟩
      · exact (show False from h).elim
    | ret =>
      exact (show False from h).elim
  · intro f w K h
    have e : lid help_Own_int.b0 = 5 := by kernel_rfl
    rw [e] at h
    exact h
theorem help_Own_int.eq (a0 : Option Addr) (a0n : Nat) (a0c : Nat) (a1 : Int) (w : World) (K : Value → World → Prop) : afn help_Own_int.C help_Own_int.L help_Own_int.D tab Try.f34 [(Value.slice a0 a0n a0c), (Value.int .i64 a1)] w K = help_Own_int.f a0 a0n a0c a1 w (fun r0 r0n r0c w => K (Value.slice r0 r0n r0c) w) := by kernel_rfl
theorem help_Own_int.ok : FSound Try.prog 34 help_Own_int.h := by
  intro args w K h
  unfold help_Own_int.h help_Own_int.H at h
  split at h
  ·
    replace h := vL_ok h
    obtain ⟨a0, a0n, a0c, rfl, h⟩ := h
    replace h := vI_ok h
    obtain ⟨a1, rfl, h⟩ := h
    refine ⟨by kernel_rfl, fn_ok tab_ok help_Own_int.C_ok (L := help_Own_int.L) (D := help_Own_int.D) Try.func34 help_Own_int.hb (by kernel_rfl) (by rw [help_Own_int.c_loops]; exact lcons help_Own_int.lok5 (lnil)) (Nat.le_of_ble_eq_true (by kernel_rfl)) ?_⟩
    rw [help_Own_int.eq]
    exact h
  · exact h.elim
/-! ### (*valise/valiseref06.Mixer).Mix: function 35 -/
def ref06_Mixer_Mix.l4 : Nat → Option Addr → Option Addr → Nat → Nat → Int → Int → World → (Option Addr → Int → World → Prop) → Prop
  | 0, _, _, _, _, _, _, _, _ => False
  | N + 1, y0, y2, y2n, y2c, y7, y8, w, K0 =>
    bif (decide (y8 < 4)) then
      let J_37 := fun (j9_21 : Int) (w : World) =>
        ((sm y0 fun p_23 =>
        ldL (p_23.add 1) w fun x44_24 x44_24n x44_24c =>
        newC 3 [(Value.int .i64 j9_21)] w fun a46_25 w =>
        appL 3 1 8 [(Value.int .i64 0)] x44_24 x44_24n x44_24c (some a46_25) 1 1 w fun a47_26 a47_26n a47_26c w =>
        sm y0 fun p_27 =>
        stC (p_27.add 1) (Value.slice a47_26 a47_26n a47_26c) w fun w =>
        sm y0 fun p_28 =>
        ldL p_28 w.drew fun x55_29 x55_29n x55_29c =>
        sm y0 fun p_30 =>
        ldI .i64 (p_30.add 2) w.drew fun x59_31 =>
        sm x55_29 fun p_32 =>
        if 0 ≤ (x59_31 : Int) ∧ (x59_31 : Int) < ((x55_29n : Nat) : Int) then
        ldL (p_32.add (Int.toNat x59_31)) w.drew fun x61_33 x61_33n x61_33c =>
        sm x61_33 fun p_34 =>
        if 0 ≤ (y8 : Int) ∧ (y8 : Int) < ((x61_33n : Nat) : Int) then
        ldI .i64 (p_34.add (Int.toNat y8)) w.drew fun x64_35 =>
        let v7_36 := (IntKind.wrap .i64 (y7 + (IntKind.wrap .i64 (j9_21 * x64_35))))
        let v8_38 := (IntKind.wrap .i64 (y8 + 1))
        ref06_Mixer_Mix.l4 N y0 y2 y2n y2c v7_36 v8_38 w.drew K0
        else False
        else False) : Prop)
      bif (decide (y8 < ((y2n : Nat) : Int))) then
        sm y2 fun p_18 =>
        if 0 ≤ (y8 : Int) ∧ (y8 : Int) < ((y2n : Nat) : Int) then
        ldI .i64 (p_18.add (Int.toNat y8)) w fun x37_19 =>
        let v9_20 := (mx (-2047) (mn x37_19 2047))
        J_37 v9_20 w
        else False
      else
        J_37 0 w
    else
      K0 y0 y7 w

def ref06_Mixer_Mix.f (a0 : Option Addr) (a1 : Int) (a2 : Option Addr) (a2n : Nat) (a2c : Nat) (w : World) (K : Int → World → Prop) : Prop :=
  sm a0 fun p_3 =>
  ldL p_3 w fun x17_4 x17_4n x17_4c =>
  ref05_Round.f a1 ((x17_4n : Nat) : Int) w fun r19_5 w =>
  sm a0 fun p_6 =>
  stC (p_6.add 2) (Value.int .i64 r19_5) w fun w =>
  sm a0 fun p_7 =>
  stC (p_7.add 1) (Value.slice none 0 0) w fun w =>
  sm a0 fun p_8 =>
  stC (p_8.add 4) (Value.bool true) w fun w =>
  ∃ N_39 : Nat, ref06_Mixer_Mix.l4 N_39 a0 a2 a2n a2c 0 0 w
  (fun o0_40 o7_41 w =>
    ref06_Squash.f (shr .i64 o7_41 16) w fun r70_43 w =>
    sm o0_40 fun p_44 =>
    stC (p_44.add 3) (Value.int .i64 r70_43) w fun w =>
    sm o0_40 fun p_46 =>
    ldI .i64 (p_46.add 3) w fun x76_47 =>
    K x76_47 w)
def ref06_Mixer_Mix.H (F : type_of% @ref06_Mixer_Mix.f) : Hf := fun args w K => match args with
  | [v0, v1, v2] => vP v0 fun a0 => vI .i64 v1 fun a1 => vL v2 fun a2 a2n a2c => F a0 a1 a2 a2n a2c w (fun r0 w => K (Value.int .i64 r0) w)
  | _ => False
def ref06_Mixer_Mix.h : Hf := ref06_Mixer_Mix.H @ref06_Mixer_Mix.f
def ref06_Mixer_Mix.C : Hd := hcons 27 ref06_Squash.h (hcons 41 ref05_Round.h (hnil))
theorem ref06_Mixer_Mix.C_ok : CSound Try.prog ref06_Mixer_Mix.C := hcons_ok ref06_Squash.ok (hcons_ok ref05_Round.ok (hnil_ok))
def ref06_Mixer_Mix.D : Nat → Plan := fun i => (match Nat.beq i 10 with | true => .take 0 (.take 1 (.take 2 (.take 3 (.take 4 (.take 5 (.take 6 (.take 7 (.take 8 (.take 9 (.take 10 (.take 11 (.take 12 (.take 13 (.take 14 (.take 15 (.take 16 (.take 17 (.done)))))))))))))))))) | false => .done)
noncomputable def ref06_Mixer_Mix.c : Code := Try.f35.body.getD .skip
theorem ref06_Mixer_Mix.hb : Try.f35.body = some ref06_Mixer_Mix.c := by kernel_rfl
noncomputable def ref06_Mixer_Mix.b0 : Code := (loopsOf ref06_Mixer_Mix.c).getD 0 .skip
theorem ref06_Mixer_Mix.b0_loops : loopsOf ref06_Mixer_Mix.b0 = [] := by kernel_rfl
theorem ref06_Mixer_Mix.c_loops : loopsOf ref06_Mixer_Mix.c = [ref06_Mixer_Mix.b0] := by kernel_rfl
def ref06_Mixer_Mix.hn4 (N : Nat) (f : Fr) (w : World) (K : AExit → Fr → World → Prop) : Prop :=
  gN f 77 <| gP f 0 fun y0 => gL f 2 fun y2 y2n y2c => gI .i64 f 7 fun y7 => gI .i64 f 8 fun y8 => ref06_Mixer_Mix.l4 N y0 y2 y2n y2c y7 y8 w (fun o0 o7 w => K (.exit 0) [some (Value.pointer o0), none, none, none, none, none, none, some (Value.int .i64 o7), none, none, none, none, none, none, none, none, none, none, none, none, none, none, none, none, none, none, none, none, none, none, none, none, none, none, none, none, none, none, none, none, none, none, none, none, none, none, none, none, none, none, none, none, none, none, none, none, none, none, none, none, none, none, none, none, none, none, none, none, none, none, none, none, none, none, none, none, none] w)
def ref06_Mixer_Mix.hx4 : AExit → Fr → World → (AExit → Fr → World → Prop) → Prop := fun e f w K => match e with
  | .normal => False
  | .exit i => (match Nat.beq i 0 with | true => gN f 77 <| gP f 0 fun o0 => gI .i64 f 7 fun o7 => K (.exit 0) [some (Value.pointer o0), none, none, none, none, none, none, some (Value.int .i64 o7), none, none, none, none, none, none, none, none, none, none, none, none, none, none, none, none, none, none, none, none, none, none, none, none, none, none, none, none, none, none, none, none, none, none, none, none, none, none, none, none, none, none, none, none, none, none, none, none, none, none, none, none, none, none, none, none, none, none, none, none, none, none, none, none, none, none, none, none, none] w | false => False)
  | .ret => False
def ref06_Mixer_Mix.L : LHd := fun l f w K => (match Nat.beq l 4 with | true => ∃ N, ref06_Mixer_Mix.hn4 N f w K | false => False)
theorem ref06_Mixer_Mix.le4 (N : Nat) (y0 : Option Addr) (y2 : Option Addr) (y2n : Nat) (y2c : Nat) (y7 : Int) (y8 : Int) (w : World) (K : AExit → Fr → World → Prop) : awp ref06_Mixer_Mix.C ref06_Mixer_Mix.L ref06_Mixer_Mix.D tab ref06_Mixer_Mix.b0 (lpost ref06_Mixer_Mix.hn4 ref06_Mixer_Mix.hx4 N K) [some (Value.pointer y0), none, some (Value.slice y2 y2n y2c), none, none, none, none, some (Value.int .i64 y7), some (Value.int .i64 y8), none, none, none, none, none, none, none, none, none, none, none, none, none, none, none, none, none, none, none, none, none, none, none, none, none, none, none, none, none, none, none, none, none, none, none, none, none, none, none, none, none, none, none, none, none, none, none, none, none, none, none, none, none, none, none, none, none, none, none, none, none, none, none, none, none, none, none, none] w = ref06_Mixer_Mix.l4 (N + 1) y0 y2 y2n y2c y7 y8 w (fun o0 o7 w => K (.exit 0) [some (Value.pointer o0), none, none, none, none, none, none, some (Value.int .i64 o7), none, none, none, none, none, none, none, none, none, none, none, none, none, none, none, none, none, none, none, none, none, none, none, none, none, none, none, none, none, none, none, none, none, none, none, none, none, none, none, none, none, none, none, none, none, none, none, none, none, none, none, none, none, none, none, none, none, none, none, none, none, none, none, none, none, none, none, none, none] w) := by kernel_rfl
theorem ref06_Mixer_Mix.lok4 : LoopOk Try.prog ref06_Mixer_Mix.L ref06_Mixer_Mix.b0 := by
  refine loop_ok tab_ok ref06_Mixer_Mix.C_ok (D := ref06_Mixer_Mix.D) (ref06_Mixer_Mix.hn4) (ref06_Mixer_Mix.hx4) (by kernel_rfl) (by rw [ref06_Mixer_Mix.b0_loops]; exact lnil) ?_ ?_ ?_ ?_
  · intro f w K h
    unfold ref06_Mixer_Mix.hn4 at h
    obtain ⟨hlen, h⟩ := gN_ok h
    obtain ⟨y0, h0, h⟩ := gP_ok h
    obtain ⟨y2, y2n, y2c, h2, h⟩ := gL_ok h
    obtain ⟨y7, h7, h⟩ := gI_ok h
    obtain ⟨y8, h8, h⟩ := gI_ok h
    exact h
  · intro N f w K h
    unfold ref06_Mixer_Mix.hn4 at h
    obtain ⟨hlen, h⟩ := gN_ok h
    obtain ⟨y0, h0, h⟩ := gP_ok h
    obtain ⟨y2, y2n, y2c, h2, h⟩ := gL_ok h
    obtain ⟨y7, h7, h⟩ := gI_ok h
    obtain ⟨y8, h8, h⟩ := gI_ok h
    refine ⟨[some (Value.pointer y0), none, some (Value.slice y2 y2n y2c), none, none, none, none, some (Value.int .i64 y7), some (Value.int .i64 y8), none, none, none, none, none, none, none, none, none, none, none, none, none, none, none, none, none, none, none, none, none, none, none, none, none, none, none, none, none, none, none, none, none, none, none, none, none, none, none, none, none, none, none, none, none, none, none, none, none, none, none, none, none, none, none, none, none, none, none, none, none, none, none, none, none, none, none, none], hlen, ⟨h0, h2, h7, h8, trivial⟩, ?_⟩
    rw [ref06_Mixer_Mix.le4]
    exact h
  · intro e f w K h
    cases e with
    | normal => exact h.elim
    | exit i =>
      unfold ref06_Mixer_Mix.hx4 at h
      simp only at h
      split at h
      · rename_i hb
        obtain rfl := Nat.eq_of_beq_eq_true hb
        obtain ⟨hlen, h⟩ := gN_ok h
        obtain ⟨o0, h0, h⟩ := gP_ok h
        obtain ⟨o7, h7, h⟩ := gI_ok h
        exact ⟨[some (Value.pointer o0), none, none, none, none, none, none, some (Value.int .i64 o7), none, none, none, none, none, none, none, none, none, none, none, none, none, none, none, none, none, none, none, none, none, none, none, none, none, none, none, none, none, none, none, none, none, none, none, none, none, none, none, none, none, none, none, none, none, none, none, none, none, none, none, none, none, none, none, none, none, none, none, none, none, none, none, none, none, none, none, none, none], hlen, ⟨h0, h7, trivial⟩, h⟩
      · exact (show False from h).elim
    | ret =>
      exact (show False from h).elim
  · intro f w K h
    have e : lid ref06_Mixer_Mix.b0 = 4 := by kernel_rfl
    rw [e] at h
    exact h
theorem ref06_Mixer_Mix.eq (a0 : Option Addr) (a1 : Int) (a2 : Option Addr) (a2n : Nat) (a2c : Nat) (w : World) (K : Value → World → Prop) : afn ref06_Mixer_Mix.C ref06_Mixer_Mix.L ref06_Mixer_Mix.D tab Try.f35 [(Value.pointer a0), (Value.int .i64 a1), (Value.slice a2 a2n a2c)] w K = ref06_Mixer_Mix.f a0 a1 a2 a2n a2c w (fun r0 w => K (Value.int .i64 r0) w) := by kernel_rfl
theorem ref06_Mixer_Mix.ok : FSound Try.prog 35 ref06_Mixer_Mix.h := by
  intro args w K h
  unfold ref06_Mixer_Mix.h ref06_Mixer_Mix.H at h
  split at h
  ·
    replace h := vP_ok h
    obtain ⟨a0, rfl, h⟩ := h
    replace h := vI_ok h
    obtain ⟨a1, rfl, h⟩ := h
    replace h := vL_ok h
    obtain ⟨a2, a2n, a2c, rfl, h⟩ := h
    refine ⟨by kernel_rfl, fn_ok tab_ok ref06_Mixer_Mix.C_ok (L := ref06_Mixer_Mix.L) (D := ref06_Mixer_Mix.D) Try.func35 ref06_Mixer_Mix.hb (by kernel_rfl) (by rw [ref06_Mixer_Mix.c_loops]; exact lcons ref06_Mixer_Mix.lok4 (lnil)) (Nat.le_of_ble_eq_true (by kernel_rfl)) ?_⟩
    rw [ref06_Mixer_Mix.eq]
    exact h
  · exact h.elim
/-! ### valise/valisehelp.Plain[int]$1: function 44 -/
def help_Plain_int_f1.f (a0 : Int) (a1 : Int) (w : World) (K : Bool → World → Prop) : Prop :=
  K (a0 == a1) w
def help_Plain_int_f1.H (F : type_of% @help_Plain_int_f1.f) : Hf := fun args w K => match args with
  | [v0, v1] => vI .i64 v0 fun a0 => vI .i64 v1 fun a1 => F a0 a1 w (fun r0 w => K (Value.bool r0) w)
  | _ => False
def help_Plain_int_f1.h : Hf := help_Plain_int_f1.H @help_Plain_int_f1.f
def help_Plain_int_f1.C : Hd := hnil
theorem help_Plain_int_f1.C_ok : CSound Try.prog help_Plain_int_f1.C := hnil_ok
def help_Plain_int_f1.D : Nat → Plan := fun i => .done
noncomputable def help_Plain_int_f1.c : Code := Try.f44.body.getD .skip
theorem help_Plain_int_f1.hb : Try.f44.body = some help_Plain_int_f1.c := by kernel_rfl
theorem help_Plain_int_f1.c_loops : loopsOf help_Plain_int_f1.c = [] := by kernel_rfl
def help_Plain_int_f1.L : LHd := fun l f w K => False
theorem help_Plain_int_f1.eq (a0 : Int) (a1 : Int) (w : World) (K : Value → World → Prop) : afn help_Plain_int_f1.C help_Plain_int_f1.L help_Plain_int_f1.D tab Try.f44 [(Value.int .i64 a0), (Value.int .i64 a1)] w K = help_Plain_int_f1.f a0 a1 w (fun r0 w => K (Value.bool r0) w) := by kernel_rfl
theorem help_Plain_int_f1.ok : FSound Try.prog 44 help_Plain_int_f1.h := by
  intro args w K h
  unfold help_Plain_int_f1.h help_Plain_int_f1.H at h
  split at h
  ·
    replace h := vI_ok h
    obtain ⟨a0, rfl, h⟩ := h
    replace h := vI_ok h
    obtain ⟨a1, rfl, h⟩ := h
    refine ⟨by kernel_rfl, fn_ok tab_ok help_Plain_int_f1.C_ok (L := help_Plain_int_f1.L) (D := help_Plain_int_f1.D) Try.func44 help_Plain_int_f1.hb (by kernel_rfl) (by rw [help_Plain_int_f1.c_loops]; exact lnil) (Nat.le_of_ble_eq_true (by kernel_rfl)) ?_⟩
    rw [help_Plain_int_f1.eq]
    exact h
  · exact h.elim

end Go.Proofs.Ytplepdjcgojagaa.G
