/- Go functions as predicate transformers, written by a program of this session (gen.py), with their soundness. -/
import Derived.Test.YtmgcjihcbdgihaaGen4
set_option linter.unusedVariables false
set_option linter.unusedSimpArgs false
set_option maxRecDepth 100000
namespace Go.Proofs.Ytmgcjihcbdgihaa.G
open Go Go.Proofs.Ytmgcjihcbdgihaa.Vm
/-! ### valise/valiselaw14.TracksMid: function 8 -/
def law14_TracksMid.f (a0 : Option Addr) (a0n : Nat) (a0c : Nat) (a1 : Option Addr) (a1n : Nat) (a1c : Nat) (w : World) (K : Bool → World → Prop) : Prop :=
  bif (decide (((a0n : Nat) : Int) > 3000)) then
    law14_awake.f  w fun r25_5 w =>
    K r25_5 w
  else
    bif (decide (((a1n : Nat) : Int) > 3000)) then
      law14_awake.f  w fun r25_7 w =>
      K r25_7 w
    else
      tracks_Mid.f a0 a0n a0c a1 a1n a1c w fun r29_9 r29_9n r29_9c r29_10 r29_10n r29_10c r29_11 w =>
      ref14_Mid.f a0 a0n a0c a1 a1n a1c w fun r36_13 r36_13n r36_13c r36_14 r36_14n r36_14c r36_15 w =>
      tracks_Unmid.f a0 a0n a0c a1 a1n a1c w fun r43_17 r43_17n r43_17c r43_18 r43_18n r43_18c r43_19 w =>
      ref14_Unmid.f a0 a0n a0c a1 a1n a1c w fun r50_21 r50_21n r50_21c r50_22 r50_22n r50_22c r50_23 w =>
      law14_awake.f  w fun r54_25 w =>
      bif r54_25 then
        help_Plain_int32.f r29_9 r29_9n r29_9c r36_13 r36_13n r36_13c w fun r58_26 w =>
        bif r58_26 then
          help_Plain_int32.f r29_10 r29_10n r29_10c r36_14 r36_14n r36_14c w fun r63_27 w =>
          bif r63_27 then
            bif (r29_11 == r36_15) then
              help_Plain_int32.f r43_17 r43_17n r43_17c r50_21 r50_21n r50_21c w fun r73_28 w =>
              bif r73_28 then
                help_Plain_int32.f r43_18 r43_18n r43_18c r50_22 r50_22n r50_22c w fun r78_29 w =>
                bif r78_29 then
                  let v4_30 := (r43_19 == r50_23)
                  K v4_30 w
                else
                  K false w
              else
                K false w
            else
              K false w
          else
            K false w
        else
          K false w
      else
        K false w
def law14_TracksMid.H (F : type_of% @law14_TracksMid.f) : Hf := fun args w K => match args with
  | [v0, v1] => vL v0 fun a0 a0n a0c => vL v1 fun a1 a1n a1c => F a0 a0n a0c a1 a1n a1c w (fun r0 w => K (Value.bool r0) w)
  | _ => False
def law14_TracksMid.h : Hf := law14_TracksMid.H @law14_TracksMid.f
def law14_TracksMid.CG (F27 : type_of% @law14_awake.f) (F31 : type_of% @tracks_Mid.f) (F32 : type_of% @ref14_Mid.f) (F33 : type_of% @tracks_Unmid.f) (F34 : type_of% @ref14_Unmid.f) (F35 : type_of% @help_Plain_int32.f) : Hd := hcons 35 (help_Plain_int32.H F35) (hcons 34 (ref14_Unmid.H F34) (hcons 33 (tracks_Unmid.H F33) (hcons 32 (ref14_Mid.H F32) (hcons 31 (tracks_Mid.H F31) (hcons 27 (law14_awake.H F27) (hnil))))))
def law14_TracksMid.C : Hd := law14_TracksMid.CG @law14_awake.f @tracks_Mid.f @ref14_Mid.f @tracks_Unmid.f @ref14_Unmid.f @help_Plain_int32.f
def law14_TracksMid.G (F27 : type_of% @law14_awake.f) (F31 : type_of% @tracks_Mid.f) (F32 : type_of% @ref14_Mid.f) (F33 : type_of% @tracks_Unmid.f) (F34 : type_of% @ref14_Unmid.f) (F35 : type_of% @help_Plain_int32.f) (a0 : Option Addr) (a0n : Nat) (a0c : Nat) (a1 : Option Addr) (a1n : Nat) (a1c : Nat) (w : World) (K : Bool → World → Prop) : Prop :=
  bif (decide (((a0n : Nat) : Int) > 3000)) then
    F27  w fun r25_5 w =>
    K r25_5 w
  else
    bif (decide (((a1n : Nat) : Int) > 3000)) then
      F27  w fun r25_7 w =>
      K r25_7 w
    else
      F31 a0 a0n a0c a1 a1n a1c w fun r29_9 r29_9n r29_9c r29_10 r29_10n r29_10c r29_11 w =>
      F32 a0 a0n a0c a1 a1n a1c w fun r36_13 r36_13n r36_13c r36_14 r36_14n r36_14c r36_15 w =>
      F33 a0 a0n a0c a1 a1n a1c w fun r43_17 r43_17n r43_17c r43_18 r43_18n r43_18c r43_19 w =>
      F34 a0 a0n a0c a1 a1n a1c w fun r50_21 r50_21n r50_21c r50_22 r50_22n r50_22c r50_23 w =>
      F27  w fun r54_25 w =>
      bif r54_25 then
        F35 r29_9 r29_9n r29_9c r36_13 r36_13n r36_13c w fun r58_26 w =>
        bif r58_26 then
          F35 r29_10 r29_10n r29_10c r36_14 r36_14n r36_14c w fun r63_27 w =>
          bif r63_27 then
            bif (r29_11 == r36_15) then
              F35 r43_17 r43_17n r43_17c r50_21 r50_21n r50_21c w fun r73_28 w =>
              bif r73_28 then
                F35 r43_18 r43_18n r43_18c r50_22 r50_22n r50_22c w fun r78_29 w =>
                bif r78_29 then
                  let v4_30 := (r43_19 == r50_23)
                  K v4_30 w
                else
                  K false w
              else
                K false w
            else
              K false w
          else
            K false w
        else
          K false w
      else
        K false w
theorem law14_TracksMid.C_ok : CSound Try.prog law14_TracksMid.C := hcons_ok help_Plain_int32.ok (hcons_ok ref14_Unmid.ok (hcons_ok tracks_Unmid.ok (hcons_ok ref14_Mid.ok (hcons_ok tracks_Mid.ok (hcons_ok law14_awake.ok (hnil_ok))))))
def law14_TracksMid.D : Nat → Plan := fun i => .done
noncomputable def law14_TracksMid.c : Code := Try.f8.body.getD .skip
theorem law14_TracksMid.hb : Try.f8.body = some law14_TracksMid.c := by kernel_rfl
theorem law14_TracksMid.c_loops : loopsOf law14_TracksMid.c = [] := by kernel_rfl
def law14_TracksMid.L : LHd := fun l f w K => False
theorem law14_TracksMid.eqG (F27 : type_of% @law14_awake.f) (F31 : type_of% @tracks_Mid.f) (F32 : type_of% @ref14_Mid.f) (F33 : type_of% @tracks_Unmid.f) (F34 : type_of% @ref14_Unmid.f) (F35 : type_of% @help_Plain_int32.f) (a0 : Option Addr) (a0n : Nat) (a0c : Nat) (a1 : Option Addr) (a1n : Nat) (a1c : Nat) (w : World) (K : Value → World → Prop) : afn (law14_TracksMid.CG F27 F31 F32 F33 F34 F35) law14_TracksMid.L law14_TracksMid.D tab Try.f8 [(Value.slice a0 a0n a0c), (Value.slice a1 a1n a1c)] w K = law14_TracksMid.G F27 F31 F32 F33 F34 F35 a0 a0n a0c a1 a1n a1c w (fun r0 w => K (Value.bool r0) w) := by kernel_rfl
theorem law14_TracksMid.eq (a0 : Option Addr) (a0n : Nat) (a0c : Nat) (a1 : Option Addr) (a1n : Nat) (a1c : Nat) (w : World) (K : Value → World → Prop) : afn law14_TracksMid.C law14_TracksMid.L law14_TracksMid.D tab Try.f8 [(Value.slice a0 a0n a0c), (Value.slice a1 a1n a1c)] w K = law14_TracksMid.f a0 a0n a0c a1 a1n a1c w (fun r0 w => K (Value.bool r0) w) := law14_TracksMid.eqG @law14_awake.f @tracks_Mid.f @ref14_Mid.f @tracks_Unmid.f @ref14_Unmid.f @help_Plain_int32.f a0 a0n a0c a1 a1n a1c w K
theorem law14_TracksMid.ok : FSound Try.prog 8 law14_TracksMid.h := by
  intro args w K h
  unfold law14_TracksMid.h law14_TracksMid.H at h
  split at h
  ·
    replace h := vL_ok h
    obtain ⟨a0, a0n, a0c, rfl, h⟩ := h
    replace h := vL_ok h
    obtain ⟨a1, a1n, a1c, rfl, h⟩ := h
    refine ⟨by kernel_rfl, fn_ok tab_ok law14_TracksMid.C_ok (L := law14_TracksMid.L) (D := law14_TracksMid.D) Try.func8 law14_TracksMid.hb (by kernel_rfl) (by rw [law14_TracksMid.c_loops]; exact lnil) (Nat.le_of_ble_eq_true (by kernel_rfl)) ?_⟩
    rw [law14_TracksMid.eq]
    exact h
  · exact h.elim
end Go.Proofs.Ytmgcjihcbdgihaa.G
