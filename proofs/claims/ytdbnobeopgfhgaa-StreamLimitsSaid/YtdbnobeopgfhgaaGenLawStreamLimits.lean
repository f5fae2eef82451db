/- Go functions as predicate transformers, written by a program of this session (gen.py), with their soundness. -/
import Derived.Test.YtdbnobeopgfhgaaGen4
set_option linter.unusedVariables false
set_option linter.unusedSimpArgs false
set_option maxRecDepth 100000
namespace Go.Proofs.Ytdbnobeopgfhgaa.G
open Go Go.Proofs.Ytdbnobeopgfhgaa.Vm
/-! ### valise/valiselaw09.StreamLimits: function 14 -/
def law09_StreamLimits.f (a0 : Int) (a1 : Int) (w : World) (K : Bool → World → Prop) : Prop :=
  let J_37 := fun (j1_4 : Int) (w : World) =>
    ((stream_Pack.f none 0 0 a0 w fun r18_6 r18_6n r18_6c r18_7 w =>
    newC 5 [(Value.int .u8 0), (Value.int .u8 0), (Value.int .u8 0), (Value.int .u8 0)] w fun a22_9 w =>
    stream_Unpack.f (some a22_9) 4 4 j1_4 a0 w fun r25_10 r25_10n r25_10c r25_11 w =>
    let J_36 := fun (j9_14 : Bool) (w : World) =>
      ((let J_35 := fun  (w : World) =>
        ((let J_31 := fun (j50_24 : Bool) (w : World) =>
          ((bif j50_24 then
            let v4_26 := (r25_11 == 1)
            K v4_26 w
          else
            let v58_28 := (decide (j1_4 > 1048576))
            bif v58_28 then
              let v4_30 := (r25_11 == 5)
              K v4_30 w
            else
              bif (r25_11 == 0) then
                bif (j1_4 == 0) then
                  K true w
                else
                  bif (r25_11 != 1) then
                    let v4_33 := (r25_11 != 5)
                    K v4_33 w
                  else
                    K false w
              else
                bif (r25_11 != 1) then
                  let v4_34 := (r25_11 != 5)
                  K v4_34 w
                else
                  K false w) : Prop)
        bif j9_14 then
          J_31 true w
        else
          let v50_23 := (decide (j1_4 < 0))
          J_31 v50_23 w) : Prop)
      law09_awake.f  w fun r34_17 w =>
      bif (!r34_17) then
        K false w
      else
        bif (!((r18_7 == 1) == j9_14)) then
          K false w
        else
          bif (!j9_14) then
            bif (r18_7 != 0) then
              K false w
            else
              J_35 w
          else
            J_35 w) : Prop)
    bif (decide (a0 < 0)) then
      J_36 true w
    else
      let v9_13 := (decide (a0 > 2))
      J_36 v9_13 w) : Prop)
  bif (decide (a1 > 300)) then
    bif (decide (a1 ≤ 1048576)) then
      J_37 300 w
    else
      J_37 a1 w
  else
    J_37 a1 w
def law09_StreamLimits.H (F : type_of% @law09_StreamLimits.f) : Hf := fun args w K => match args with
  | [v0, v1] => vI .i64 v0 fun a0 => vI .i64 v1 fun a1 => F a0 a1 w (fun r0 w => K (Value.bool r0) w)
  | _ => False
def law09_StreamLimits.h : Hf := law09_StreamLimits.H @law09_StreamLimits.f
def law09_StreamLimits.CG (F33 : type_of% @stream_Pack.f) (F37 : type_of% @stream_Unpack.f) (F31 : type_of% @law09_awake.f) : Hd := hcons 31 (law09_awake.H F31) (hcons 37 (stream_Unpack.H F37) (hcons 33 (stream_Pack.H F33) (hnil)))
def law09_StreamLimits.C : Hd := law09_StreamLimits.CG @stream_Pack.f @stream_Unpack.f @law09_awake.f
def law09_StreamLimits.G (F33 : type_of% @stream_Pack.f) (F37 : type_of% @stream_Unpack.f) (F31 : type_of% @law09_awake.f) (a0 : Int) (a1 : Int) (w : World) (K : Bool → World → Prop) : Prop :=
  let J_37 := fun (j1_4 : Int) (w : World) =>
    ((F33 none 0 0 a0 w fun r18_6 r18_6n r18_6c r18_7 w =>
    newC 5 [(Value.int .u8 0), (Value.int .u8 0), (Value.int .u8 0), (Value.int .u8 0)] w fun a22_9 w =>
    F37 (some a22_9) 4 4 j1_4 a0 w fun r25_10 r25_10n r25_10c r25_11 w =>
    let J_36 := fun (j9_14 : Bool) (w : World) =>
      ((let J_35 := fun  (w : World) =>
        ((let J_31 := fun (j50_24 : Bool) (w : World) =>
          ((bif j50_24 then
            let v4_26 := (r25_11 == 1)
            K v4_26 w
          else
            let v58_28 := (decide (j1_4 > 1048576))
            bif v58_28 then
              let v4_30 := (r25_11 == 5)
              K v4_30 w
            else
              bif (r25_11 == 0) then
                bif (j1_4 == 0) then
                  K true w
                else
                  bif (r25_11 != 1) then
                    let v4_33 := (r25_11 != 5)
                    K v4_33 w
                  else
                    K false w
              else
                bif (r25_11 != 1) then
                  let v4_34 := (r25_11 != 5)
                  K v4_34 w
                else
                  K false w) : Prop)
        bif j9_14 then
          J_31 true w
        else
          let v50_23 := (decide (j1_4 < 0))
          J_31 v50_23 w) : Prop)
      F31  w fun r34_17 w =>
      bif (!r34_17) then
        K false w
      else
        bif (!((r18_7 == 1) == j9_14)) then
          K false w
        else
          bif (!j9_14) then
            bif (r18_7 != 0) then
              K false w
            else
              J_35 w
          else
            J_35 w) : Prop)
    bif (decide (a0 < 0)) then
      J_36 true w
    else
      let v9_13 := (decide (a0 > 2))
      J_36 v9_13 w) : Prop)
  bif (decide (a1 > 300)) then
    bif (decide (a1 ≤ 1048576)) then
      J_37 300 w
    else
      J_37 a1 w
  else
    J_37 a1 w
theorem law09_StreamLimits.C_ok : CSound Try.prog law09_StreamLimits.C := hcons_ok law09_awake.ok (hcons_ok stream_Unpack.ok (hcons_ok stream_Pack.ok (hnil_ok)))
def law09_StreamLimits.D : Nat → Plan := fun i => .done
noncomputable def law09_StreamLimits.c : Code := Try.f14.body.getD .skip
theorem law09_StreamLimits.hb : Try.f14.body = some law09_StreamLimits.c := by kernel_rfl
theorem law09_StreamLimits.c_loops : loopsOf law09_StreamLimits.c = [] := by kernel_rfl
def law09_StreamLimits.L : LHd := fun l f w K => False
theorem law09_StreamLimits.eqG (F33 : type_of% @stream_Pack.f) (F37 : type_of% @stream_Unpack.f) (F31 : type_of% @law09_awake.f) (a0 : Int) (a1 : Int) (w : World) (K : Value → World → Prop) : afn (law09_StreamLimits.CG F33 F37 F31) law09_StreamLimits.L law09_StreamLimits.D tab Try.f14 [(Value.int .i64 a0), (Value.int .i64 a1)] w K = law09_StreamLimits.G F33 F37 F31 a0 a1 w (fun r0 w => K (Value.bool r0) w) := by kernel_rfl
theorem law09_StreamLimits.eq (a0 : Int) (a1 : Int) (w : World) (K : Value → World → Prop) : afn law09_StreamLimits.C law09_StreamLimits.L law09_StreamLimits.D tab Try.f14 [(Value.int .i64 a0), (Value.int .i64 a1)] w K = law09_StreamLimits.f a0 a1 w (fun r0 w => K (Value.bool r0) w) := law09_StreamLimits.eqG @stream_Pack.f @stream_Unpack.f @law09_awake.f a0 a1 w K
theorem law09_StreamLimits.ok : FSound Try.prog 14 law09_StreamLimits.h := by
  intro args w K h
  unfold law09_StreamLimits.h law09_StreamLimits.H at h
  split at h
  ·
    replace h := vI_ok h
    obtain ⟨a0, rfl, h⟩ := h
    replace h := vI_ok h
    obtain ⟨a1, rfl, h⟩ := h
    refine ⟨by kernel_rfl, fn_ok tab_ok law09_StreamLimits.C_ok (L := law09_StreamLimits.L) (D := law09_StreamLimits.D) Try.func14 law09_StreamLimits.hb (by kernel_rfl) (by rw [law09_StreamLimits.c_loops]; exact lnil) (Nat.le_of_ble_eq_true (by kernel_rfl)) ?_⟩
    rw [law09_StreamLimits.eq]
    exact h
  · exact h.elim
end Go.Proofs.Ytdbnobeopgfhgaa.G
