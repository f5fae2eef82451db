/- Go functions as predicate transformers, written by a program of this session (gen.py), with their soundness. -/
import Derived.Test.YtdbnobeopgfhgaaGen4
set_option linter.unusedVariables false
set_option linter.unusedSimpArgs false
set_option maxRecDepth 100000
namespace Go.Proofs.Ytdbnobeopgfhgaa.G
open Go Go.Proofs.Ytdbnobeopgfhgaa.Vm
/-! ### valise/valiselaw09.StreamBack: function 13 -/
def law09_StreamBack.f (a0 : Option Addr) (a0n : Nat) (a0c : Nat) (a1 : Int) (a2 : Int) (w : World) (K : Bool → World → Prop) : Prop :=
  let v1_3 := (IntKind.wrap .i64 (Int.tmod (IntKind.wrap .u64 a1) 3))
  bif (decide (((a0n : Nat) : Int) > 1500)) then
    law09_awake.f  w fun r21_7 w =>
    K r21_7 w
  else
    stream_Pack.f a0 a0n a0c v1_3 w fun r25_9 r25_9n r25_9c r25_10 w =>
    stream_Unpack.f r25_9 r25_9n r25_9c ((a0n : Nat) : Int) v1_3 w fun r33_12 r33_12n r33_12c r33_13 w =>
    law09_awake.f  w fun r36_16 w =>
    bif (!r36_16) then
      K false w
    else
      bif (r25_10 != 0) then
        K false w
      else
        bif (r33_13 != 0) then
          K false w
        else
          help_Bytes.f a0 a0n a0c r33_12 r33_12n r33_12c w fun r49_17 w =>
          bif (!r49_17) then
            K false w
          else
            let v11_23 := (IntKind.wrap .i64 (Int.tmod (IntKind.wrap .u64 a2) 1500))
            stream_Unpack.f r25_9 r25_9n r25_9c v11_23 v1_3 w fun r60_25 r60_25n r60_25c r60_26 w =>
            bif (v11_23 == ((a0n : Nat) : Int)) then
              K true w
            else
              bif (r60_26 == 4) then
                bif (((r60_25n : Nat) : Int) == 0) then
                  K true w
                else
                  bif (r60_26 == 0) then
                    bif (((r60_25n : Nat) : Int) == v11_23) then
                      law09_packs.f r60_25 r60_25n r60_25c r25_9 r25_9n r25_9c v1_3 w fun r89_28 w =>
                      K r89_28 w
                    else
                      K false w
                  else
                    K false w
              else
                bif (r60_26 == 0) then
                  bif (((r60_25n : Nat) : Int) == v11_23) then
                    law09_packs.f r60_25 r60_25n r60_25c r25_9 r25_9n r25_9c v1_3 w fun r89_29 w =>
                    K r89_29 w
                  else
                    K false w
                else
                  K false w
def law09_StreamBack.H (F : type_of% @law09_StreamBack.f) : Hf := fun args w K => match args with
  | [v0, v1, v2] => vL v0 fun a0 a0n a0c => vI .i64 v1 fun a1 => vI .i64 v2 fun a2 => F a0 a0n a0c a1 a2 w (fun r0 w => K (Value.bool r0) w)
  | _ => False
def law09_StreamBack.h : Hf := law09_StreamBack.H @law09_StreamBack.f
def law09_StreamBack.CG (F31 : type_of% @law09_awake.f) (F33 : type_of% @stream_Pack.f) (F37 : type_of% @stream_Unpack.f) (F35 : type_of% @help_Bytes.f) (F39 : type_of% @law09_packs.f) : Hd := hcons 39 (law09_packs.H F39) (hcons 35 (help_Bytes.H F35) (hcons 37 (stream_Unpack.H F37) (hcons 33 (stream_Pack.H F33) (hcons 31 (law09_awake.H F31) (hnil)))))
def law09_StreamBack.C : Hd := law09_StreamBack.CG @law09_awake.f @stream_Pack.f @stream_Unpack.f @help_Bytes.f @law09_packs.f
def law09_StreamBack.G (F31 : type_of% @law09_awake.f) (F33 : type_of% @stream_Pack.f) (F37 : type_of% @stream_Unpack.f) (F35 : type_of% @help_Bytes.f) (F39 : type_of% @law09_packs.f) (a0 : Option Addr) (a0n : Nat) (a0c : Nat) (a1 : Int) (a2 : Int) (w : World) (K : Bool → World → Prop) : Prop :=
  let v1_3 := (IntKind.wrap .i64 (Int.tmod (IntKind.wrap .u64 a1) 3))
  bif (decide (((a0n : Nat) : Int) > 1500)) then
    F31  w fun r21_7 w =>
    K r21_7 w
  else
    F33 a0 a0n a0c v1_3 w fun r25_9 r25_9n r25_9c r25_10 w =>
    F37 r25_9 r25_9n r25_9c ((a0n : Nat) : Int) v1_3 w fun r33_12 r33_12n r33_12c r33_13 w =>
    F31  w fun r36_16 w =>
    bif (!r36_16) then
      K false w
    else
      bif (r25_10 != 0) then
        K false w
      else
        bif (r33_13 != 0) then
          K false w
        else
          F35 a0 a0n a0c r33_12 r33_12n r33_12c w fun r49_17 w =>
          bif (!r49_17) then
            K false w
          else
            let v11_23 := (IntKind.wrap .i64 (Int.tmod (IntKind.wrap .u64 a2) 1500))
            F37 r25_9 r25_9n r25_9c v11_23 v1_3 w fun r60_25 r60_25n r60_25c r60_26 w =>
            bif (v11_23 == ((a0n : Nat) : Int)) then
              K true w
            else
              bif (r60_26 == 4) then
                bif (((r60_25n : Nat) : Int) == 0) then
                  K true w
                else
                  bif (r60_26 == 0) then
                    bif (((r60_25n : Nat) : Int) == v11_23) then
                      F39 r60_25 r60_25n r60_25c r25_9 r25_9n r25_9c v1_3 w fun r89_28 w =>
                      K r89_28 w
                    else
                      K false w
                  else
                    K false w
              else
                bif (r60_26 == 0) then
                  bif (((r60_25n : Nat) : Int) == v11_23) then
                    F39 r60_25 r60_25n r60_25c r25_9 r25_9n r25_9c v1_3 w fun r89_29 w =>
                    K r89_29 w
                  else
                    K false w
                else
                  K false w
theorem law09_StreamBack.C_ok : CSound Try.prog law09_StreamBack.C := hcons_ok law09_packs.ok (hcons_ok help_Bytes.ok (hcons_ok stream_Unpack.ok (hcons_ok stream_Pack.ok (hcons_ok law09_awake.ok (hnil_ok)))))
def law09_StreamBack.D : Nat → Plan := fun i => .done
noncomputable def law09_StreamBack.c : Code := Try.f13.body.getD .skip
theorem law09_StreamBack.hb : Try.f13.body = some law09_StreamBack.c := by kernel_rfl
theorem law09_StreamBack.c_loops : loopsOf law09_StreamBack.c = [] := by kernel_rfl
def law09_StreamBack.L : LHd := fun l f w K => False
theorem law09_StreamBack.eqG (F31 : type_of% @law09_awake.f) (F33 : type_of% @stream_Pack.f) (F37 : type_of% @stream_Unpack.f) (F35 : type_of% @help_Bytes.f) (F39 : type_of% @law09_packs.f) (a0 : Option Addr) (a0n : Nat) (a0c : Nat) (a1 : Int) (a2 : Int) (w : World) (K : Value → World → Prop) : afn (law09_StreamBack.CG F31 F33 F37 F35 F39) law09_StreamBack.L law09_StreamBack.D tab Try.f13 [(Value.slice a0 a0n a0c), (Value.int .i64 a1), (Value.int .i64 a2)] w K = law09_StreamBack.G F31 F33 F37 F35 F39 a0 a0n a0c a1 a2 w (fun r0 w => K (Value.bool r0) w) := by kernel_rfl
theorem law09_StreamBack.eq (a0 : Option Addr) (a0n : Nat) (a0c : Nat) (a1 : Int) (a2 : Int) (w : World) (K : Value → World → Prop) : afn law09_StreamBack.C law09_StreamBack.L law09_StreamBack.D tab Try.f13 [(Value.slice a0 a0n a0c), (Value.int .i64 a1), (Value.int .i64 a2)] w K = law09_StreamBack.f a0 a0n a0c a1 a2 w (fun r0 w => K (Value.bool r0) w) := law09_StreamBack.eqG @law09_awake.f @stream_Pack.f @stream_Unpack.f @help_Bytes.f @law09_packs.f a0 a0n a0c a1 a2 w K
theorem law09_StreamBack.ok : FSound Try.prog 13 law09_StreamBack.h := by
  intro args w K h
  unfold law09_StreamBack.h law09_StreamBack.H at h
  split at h
  ·
    replace h := vL_ok h
    obtain ⟨a0, a0n, a0c, rfl, h⟩ := h
    replace h := vI_ok h
    obtain ⟨a1, rfl, h⟩ := h
    replace h := vI_ok h
    obtain ⟨a2, rfl, h⟩ := h
    refine ⟨by kernel_rfl, fn_ok tab_ok law09_StreamBack.C_ok (L := law09_StreamBack.L) (D := law09_StreamBack.D) Try.func13 law09_StreamBack.hb (by kernel_rfl) (by rw [law09_StreamBack.c_loops]; exact lnil) (Nat.le_of_ble_eq_true (by kernel_rfl)) ?_⟩
    rw [law09_StreamBack.eq]
    exact h
  · exact h.elim
end Go.Proofs.Ytdbnobeopgfhgaa.G
