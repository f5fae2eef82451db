/- Go functions as predicate transformers, written by a program of this session (gen.py), with their soundness. -/
import Derived.Test.YtmgcjihcbdgihaaGen4
set_option linter.unusedVariables false
set_option linter.unusedSimpArgs false
set_option maxRecDepth 100000
namespace Go.Proofs.Ytmgcjihcbdgihaa.G
open Go Go.Proofs.Ytmgcjihcbdgihaa.Vm
/-! ### valise/valiselaw18.ColourTurns: function 5 -/
def law18_ColourTurns.f (a0 : Option Addr) (a0n : Nat) (a0c : Nat) (a1 : Int) (w : World) (K : Bool → World → Prop) : Prop :=
  bif (decide (((a0n : Nat) : Int) > 3000)) then
    law18_awake.f  w fun r9_5 w =>
    K r9_5 w
  else
    help_Own_byte.f a0 a0n a0c 71 w fun r11_7 r11_7n r11_7c w =>
    law18_awake.f  w fun r12_9 w =>
    bif r12_9 then
      colour_Turn.f r11_7 r11_7n r11_7c w fun r15_10 r15_10n r15_10c w =>
      ref18_Turn.f a0 a0n a0c w fun r17_11 r17_11n r17_11c w =>
      help_Bytes.f r15_10 r15_10n r15_10c r17_11 r17_11n r17_11c w fun r18_12 w =>
      bif r18_12 then
        colour_Back.f r11_7 r11_7n r11_7c w fun r22_13 r22_13n r22_13c w =>
        ref18_Back.f a0 a0n a0c w fun r24_14 r24_14n r24_14c w =>
        help_Bytes.f r22_13 r22_13n r22_13c r24_14 r24_14n r24_14c w fun r25_15 w =>
        bif r25_15 then
          colour_Apart.f r11_7 r11_7n r11_7c a1 w fun r30_16 r30_16n r30_16c w =>
          ref18_Apart.f a0 a0n a0c a1 w fun r33_17 r33_17n r33_17c w =>
          help_Bytes.f r30_16 r30_16n r30_16c r33_17 r33_17n r33_17c w fun r34_18 w =>
          bif r34_18 then
            colour_Together.f r11_7 r11_7n r11_7c a1 w fun r39_19 r39_19n r39_19c w =>
            ref18_Together.f a0 a0n a0c a1 w fun r42_20 r42_20n r42_20c w =>
            help_Bytes.f r39_19 r39_19n r39_19c r42_20 r42_20n r42_20c w fun r43_21 w =>
            bif r43_21 then
              help_Kept_byte.f r11_7 r11_7n r11_7c a0 a0n a0c 71 w fun r48_22 w =>
              K r48_22 w
            else
              K false w
          else
            K false w
        else
          K false w
      else
        K false w
    else
      K false w
def law18_ColourTurns.H (F : type_of% @law18_ColourTurns.f) : Hf := fun args w K => match args with
  | [v0, v1] => vL v0 fun a0 a0n a0c => vI .i64 v1 fun a1 => F a0 a0n a0c a1 w (fun r0 w => K (Value.bool r0) w)
  | _ => False
def law18_ColourTurns.h : Hf := law18_ColourTurns.H @law18_ColourTurns.f
def law18_ColourTurns.CG (F15 : type_of% @law18_awake.f) (F19 : type_of% @help_Own_byte.f) (F16 : type_of% @colour_Turn.f) (F20 : type_of% @ref18_Turn.f) (F18 : type_of% @help_Bytes.f) (F21 : type_of% @colour_Back.f) (F22 : type_of% @ref18_Back.f) (F17 : type_of% @colour_Apart.f) (F23 : type_of% @ref18_Apart.f) (F24 : type_of% @colour_Together.f) (F25 : type_of% @ref18_Together.f) (F26 : type_of% @help_Kept_byte.f) : Hd := hcons 26 (help_Kept_byte.H F26) (hcons 25 (ref18_Together.H F25) (hcons 24 (colour_Together.H F24) (hcons 23 (ref18_Apart.H F23) (hcons 17 (colour_Apart.H F17) (hcons 22 (ref18_Back.H F22) (hcons 21 (colour_Back.H F21) (hcons 18 (help_Bytes.H F18) (hcons 20 (ref18_Turn.H F20) (hcons 16 (colour_Turn.H F16) (hcons 19 (help_Own_byte.H F19) (hcons 15 (law18_awake.H F15) (hnil))))))))))))
def law18_ColourTurns.C : Hd := law18_ColourTurns.CG @law18_awake.f @help_Own_byte.f @colour_Turn.f @ref18_Turn.f @help_Bytes.f @colour_Back.f @ref18_Back.f @colour_Apart.f @ref18_Apart.f @colour_Together.f @ref18_Together.f @help_Kept_byte.f
def law18_ColourTurns.G (F15 : type_of% @law18_awake.f) (F19 : type_of% @help_Own_byte.f) (F16 : type_of% @colour_Turn.f) (F20 : type_of% @ref18_Turn.f) (F18 : type_of% @help_Bytes.f) (F21 : type_of% @colour_Back.f) (F22 : type_of% @ref18_Back.f) (F17 : type_of% @colour_Apart.f) (F23 : type_of% @ref18_Apart.f) (F24 : type_of% @colour_Together.f) (F25 : type_of% @ref18_Together.f) (F26 : type_of% @help_Kept_byte.f) (a0 : Option Addr) (a0n : Nat) (a0c : Nat) (a1 : Int) (w : World) (K : Bool → World → Prop) : Prop :=
  bif (decide (((a0n : Nat) : Int) > 3000)) then
    F15  w fun r9_5 w =>
    K r9_5 w
  else
    F19 a0 a0n a0c 71 w fun r11_7 r11_7n r11_7c w =>
    F15  w fun r12_9 w =>
    bif r12_9 then
      F16 r11_7 r11_7n r11_7c w fun r15_10 r15_10n r15_10c w =>
      F20 a0 a0n a0c w fun r17_11 r17_11n r17_11c w =>
      F18 r15_10 r15_10n r15_10c r17_11 r17_11n r17_11c w fun r18_12 w =>
      bif r18_12 then
        F21 r11_7 r11_7n r11_7c w fun r22_13 r22_13n r22_13c w =>
        F22 a0 a0n a0c w fun r24_14 r24_14n r24_14c w =>
        F18 r22_13 r22_13n r22_13c r24_14 r24_14n r24_14c w fun r25_15 w =>
        bif r25_15 then
          F17 r11_7 r11_7n r11_7c a1 w fun r30_16 r30_16n r30_16c w =>
          F23 a0 a0n a0c a1 w fun r33_17 r33_17n r33_17c w =>
          F18 r30_16 r30_16n r30_16c r33_17 r33_17n r33_17c w fun r34_18 w =>
          bif r34_18 then
            F24 r11_7 r11_7n r11_7c a1 w fun r39_19 r39_19n r39_19c w =>
            F25 a0 a0n a0c a1 w fun r42_20 r42_20n r42_20c w =>
            F18 r39_19 r39_19n r39_19c r42_20 r42_20n r42_20c w fun r43_21 w =>
            bif r43_21 then
              F26 r11_7 r11_7n r11_7c a0 a0n a0c 71 w fun r48_22 w =>
              K r48_22 w
            else
              K false w
          else
            K false w
        else
          K false w
      else
        K false w
    else
      K false w
theorem law18_ColourTurns.C_ok : CSound Try.prog law18_ColourTurns.C := hcons_ok help_Kept_byte.ok (hcons_ok ref18_Together.ok (hcons_ok colour_Together.ok (hcons_ok ref18_Apart.ok (hcons_ok colour_Apart.ok (hcons_ok ref18_Back.ok (hcons_ok colour_Back.ok (hcons_ok help_Bytes.ok (hcons_ok ref18_Turn.ok (hcons_ok colour_Turn.ok (hcons_ok help_Own_byte.ok (hcons_ok law18_awake.ok (hnil_ok))))))))))))
def law18_ColourTurns.D : Nat → Plan := fun i => .done
noncomputable def law18_ColourTurns.c : Code := Try.f5.body.getD .skip
theorem law18_ColourTurns.hb : Try.f5.body = some law18_ColourTurns.c := by kernel_rfl
theorem law18_ColourTurns.c_loops : loopsOf law18_ColourTurns.c = [] := by kernel_rfl
def law18_ColourTurns.L : LHd := fun l f w K => False
theorem law18_ColourTurns.eqG (F15 : type_of% @law18_awake.f) (F19 : type_of% @help_Own_byte.f) (F16 : type_of% @colour_Turn.f) (F20 : type_of% @ref18_Turn.f) (F18 : type_of% @help_Bytes.f) (F21 : type_of% @colour_Back.f) (F22 : type_of% @ref18_Back.f) (F17 : type_of% @colour_Apart.f) (F23 : type_of% @ref18_Apart.f) (F24 : type_of% @colour_Together.f) (F25 : type_of% @ref18_Together.f) (F26 : type_of% @help_Kept_byte.f) (a0 : Option Addr) (a0n : Nat) (a0c : Nat) (a1 : Int) (w : World) (K : Value → World → Prop) : afn (law18_ColourTurns.CG F15 F19 F16 F20 F18 F21 F22 F17 F23 F24 F25 F26) law18_ColourTurns.L law18_ColourTurns.D tab Try.f5 [(Value.slice a0 a0n a0c), (Value.int .i64 a1)] w K = law18_ColourTurns.G F15 F19 F16 F20 F18 F21 F22 F17 F23 F24 F25 F26 a0 a0n a0c a1 w (fun r0 w => K (Value.bool r0) w) := by kernel_rfl
theorem law18_ColourTurns.eq (a0 : Option Addr) (a0n : Nat) (a0c : Nat) (a1 : Int) (w : World) (K : Value → World → Prop) : afn law18_ColourTurns.C law18_ColourTurns.L law18_ColourTurns.D tab Try.f5 [(Value.slice a0 a0n a0c), (Value.int .i64 a1)] w K = law18_ColourTurns.f a0 a0n a0c a1 w (fun r0 w => K (Value.bool r0) w) := law18_ColourTurns.eqG @law18_awake.f @help_Own_byte.f @colour_Turn.f @ref18_Turn.f @help_Bytes.f @colour_Back.f @ref18_Back.f @colour_Apart.f @ref18_Apart.f @colour_Together.f @ref18_Together.f @help_Kept_byte.f a0 a0n a0c a1 w K
theorem law18_ColourTurns.ok : FSound Try.prog 5 law18_ColourTurns.h := by
  intro args w K h
  unfold law18_ColourTurns.h law18_ColourTurns.H at h
  split at h
  ·
    replace h := vL_ok h
    obtain ⟨a0, a0n, a0c, rfl, h⟩ := h
    replace h := vI_ok h
    obtain ⟨a1, rfl, h⟩ := h
    refine ⟨by kernel_rfl, fn_ok tab_ok law18_ColourTurns.C_ok (L := law18_ColourTurns.L) (D := law18_ColourTurns.D) Try.func5 law18_ColourTurns.hb (by kernel_rfl) (by rw [law18_ColourTurns.c_loops]; exact lnil) (Nat.le_of_ble_eq_true (by kernel_rfl)) ?_⟩
    rw [law18_ColourTurns.eq]
    exact h
  · exact h.elim
end Go.Proofs.Ytmgcjihcbdgihaa.G
