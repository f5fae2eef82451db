/- Go functions as predicate transformers, written by a program of this session (gen.py), with their soundness. -/
import Derived.Test.YtmgcjihcbdgihaaGen4
set_option linter.unusedVariables false
set_option linter.unusedSimpArgs false
set_option maxRecDepth 100000
namespace Go.Proofs.Ytmgcjihcbdgihaa.G
open Go Go.Proofs.Ytmgcjihcbdgihaa.Vm
/-! ### valise/valiselaw18.ColourBack: function 6 -/
def law18_ColourBack.f (a0 : Option Addr) (a0n : Nat) (a0c : Nat) (a1 : Int) (w : World) (K : Bool → World → Prop) : Prop :=
  bif (decide (((a0n : Nat) : Int) > 3000)) then
    law18_awake.f  w fun r8_5 w =>
    K r8_5 w
  else
    law18_awake.f  w fun r9_7 w =>
    bif r9_7 then
      colour_Turn.f a0 a0n a0c w fun r12_8 r12_8n r12_8c w =>
      colour_Back.f r12_8 r12_8n r12_8c w fun r13_9 r13_9n r13_9c w =>
      help_Bytes.f r13_9 r13_9n r13_9c a0 a0n a0c w fun r15_10 w =>
      bif r15_10 then
        colour_Back.f a0 a0n a0c w fun r19_11 r19_11n r19_11c w =>
        colour_Turn.f r19_11 r19_11n r19_11c w fun r20_12 r20_12n r20_12c w =>
        help_Bytes.f r20_12 r20_12n r20_12c a0 a0n a0c w fun r22_13 w =>
        bif r22_13 then
          colour_Apart.f a0 a0n a0c a1 w fun r27_14 r27_14n r27_14c w =>
          colour_Together.f r27_14 r27_14n r27_14c a1 w fun r29_15 r29_15n r29_15c w =>
          help_Bytes.f r29_15 r29_15n r29_15c a0 a0n a0c w fun r31_16 w =>
          bif r31_16 then
            colour_Together.f a0 a0n a0c a1 w fun r36_17 r36_17n r36_17c w =>
            colour_Apart.f r36_17 r36_17n r36_17c a1 w fun r38_18 r38_18n r38_18c w =>
            help_Bytes.f r38_18 r38_18n r38_18c a0 a0n a0c w fun r40_19 w =>
            K r40_19 w
          else
            K false w
        else
          K false w
      else
        K false w
    else
      K false w
def law18_ColourBack.H (F : type_of% @law18_ColourBack.f) : Hf := fun args w K => match args with
  | [v0, v1] => vL v0 fun a0 a0n a0c => vI .i64 v1 fun a1 => F a0 a0n a0c a1 w (fun r0 w => K (Value.bool r0) w)
  | _ => False
def law18_ColourBack.h : Hf := law18_ColourBack.H @law18_ColourBack.f
def law18_ColourBack.CG (F15 : type_of% @law18_awake.f) (F16 : type_of% @colour_Turn.f) (F21 : type_of% @colour_Back.f) (F18 : type_of% @help_Bytes.f) (F17 : type_of% @colour_Apart.f) (F24 : type_of% @colour_Together.f) : Hd := hcons 24 (colour_Together.H F24) (hcons 17 (colour_Apart.H F17) (hcons 18 (help_Bytes.H F18) (hcons 21 (colour_Back.H F21) (hcons 16 (colour_Turn.H F16) (hcons 15 (law18_awake.H F15) (hnil))))))
def law18_ColourBack.C : Hd := law18_ColourBack.CG @law18_awake.f @colour_Turn.f @colour_Back.f @help_Bytes.f @colour_Apart.f @colour_Together.f
def law18_ColourBack.G (F15 : type_of% @law18_awake.f) (F16 : type_of% @colour_Turn.f) (F21 : type_of% @colour_Back.f) (F18 : type_of% @help_Bytes.f) (F17 : type_of% @colour_Apart.f) (F24 : type_of% @colour_Together.f) (a0 : Option Addr) (a0n : Nat) (a0c : Nat) (a1 : Int) (w : World) (K : Bool → World → Prop) : Prop :=
  bif (decide (((a0n : Nat) : Int) > 3000)) then
    F15  w fun r8_5 w =>
    K r8_5 w
  else
    F15  w fun r9_7 w =>
    bif r9_7 then
      F16 a0 a0n a0c w fun r12_8 r12_8n r12_8c w =>
      F21 r12_8 r12_8n r12_8c w fun r13_9 r13_9n r13_9c w =>
      F18 r13_9 r13_9n r13_9c a0 a0n a0c w fun r15_10 w =>
      bif r15_10 then
        F21 a0 a0n a0c w fun r19_11 r19_11n r19_11c w =>
        F16 r19_11 r19_11n r19_11c w fun r20_12 r20_12n r20_12c w =>
        F18 r20_12 r20_12n r20_12c a0 a0n a0c w fun r22_13 w =>
        bif r22_13 then
          F17 a0 a0n a0c a1 w fun r27_14 r27_14n r27_14c w =>
          F24 r27_14 r27_14n r27_14c a1 w fun r29_15 r29_15n r29_15c w =>
          F18 r29_15 r29_15n r29_15c a0 a0n a0c w fun r31_16 w =>
          bif r31_16 then
            F24 a0 a0n a0c a1 w fun r36_17 r36_17n r36_17c w =>
            F17 r36_17 r36_17n r36_17c a1 w fun r38_18 r38_18n r38_18c w =>
            F18 r38_18 r38_18n r38_18c a0 a0n a0c w fun r40_19 w =>
            K r40_19 w
          else
            K false w
        else
          K false w
      else
        K false w
    else
      K false w
theorem law18_ColourBack.C_ok : CSound Try.prog law18_ColourBack.C := hcons_ok colour_Together.ok (hcons_ok colour_Apart.ok (hcons_ok help_Bytes.ok (hcons_ok colour_Back.ok (hcons_ok colour_Turn.ok (hcons_ok law18_awake.ok (hnil_ok))))))
def law18_ColourBack.D : Nat → Plan := fun i => .done
noncomputable def law18_ColourBack.c : Code := Try.f6.body.getD .skip
theorem law18_ColourBack.hb : Try.f6.body = some law18_ColourBack.c := by kernel_rfl
theorem law18_ColourBack.c_loops : loopsOf law18_ColourBack.c = [] := by kernel_rfl
def law18_ColourBack.L : LHd := fun l f w K => False
theorem law18_ColourBack.eqG (F15 : type_of% @law18_awake.f) (F16 : type_of% @colour_Turn.f) (F21 : type_of% @colour_Back.f) (F18 : type_of% @help_Bytes.f) (F17 : type_of% @colour_Apart.f) (F24 : type_of% @colour_Together.f) (a0 : Option Addr) (a0n : Nat) (a0c : Nat) (a1 : Int) (w : World) (K : Value → World → Prop) : afn (law18_ColourBack.CG F15 F16 F21 F18 F17 F24) law18_ColourBack.L law18_ColourBack.D tab Try.f6 [(Value.slice a0 a0n a0c), (Value.int .i64 a1)] w K = law18_ColourBack.G F15 F16 F21 F18 F17 F24 a0 a0n a0c a1 w (fun r0 w => K (Value.bool r0) w) := by kernel_rfl
theorem law18_ColourBack.eq (a0 : Option Addr) (a0n : Nat) (a0c : Nat) (a1 : Int) (w : World) (K : Value → World → Prop) : afn law18_ColourBack.C law18_ColourBack.L law18_ColourBack.D tab Try.f6 [(Value.slice a0 a0n a0c), (Value.int .i64 a1)] w K = law18_ColourBack.f a0 a0n a0c a1 w (fun r0 w => K (Value.bool r0) w) := law18_ColourBack.eqG @law18_awake.f @colour_Turn.f @colour_Back.f @help_Bytes.f @colour_Apart.f @colour_Together.f a0 a0n a0c a1 w K
theorem law18_ColourBack.ok : FSound Try.prog 6 law18_ColourBack.h := by
  intro args w K h
  unfold law18_ColourBack.h law18_ColourBack.H at h
  split at h
  ·
    replace h := vL_ok h
    obtain ⟨a0, a0n, a0c, rfl, h⟩ := h
    replace h := vI_ok h
    obtain ⟨a1, rfl, h⟩ := h
    refine ⟨by kernel_rfl, fn_ok tab_ok law18_ColourBack.C_ok (L := law18_ColourBack.L) (D := law18_ColourBack.D) Try.func6 law18_ColourBack.hb (by kernel_rfl) (by rw [law18_ColourBack.c_loops]; exact lnil) (Nat.le_of_ble_eq_true (by kernel_rfl)) ?_⟩
    rw [law18_ColourBack.eq]
    exact h
  · exact h.elim
end Go.Proofs.Ytmgcjihcbdgihaa.G
