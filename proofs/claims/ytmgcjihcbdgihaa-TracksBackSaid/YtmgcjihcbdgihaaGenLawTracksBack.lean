/- Go functions as predicate transformers, written by a program of this session (gen.py), with their soundness. -/
import Derived.Test.YtmgcjihcbdgihaaGen4
set_option linter.unusedVariables false
set_option linter.unusedSimpArgs false
set_option maxRecDepth 100000
namespace Go.Proofs.Ytmgcjihcbdgihaa.G
open Go Go.Proofs.Ytmgcjihcbdgihaa.Vm
/-! ### valise/valiselaw14.TracksBack: function 10 -/
def law14_TracksBack.f (a0 : Option Addr) (a0n : Nat) (a0c : Nat) (a1 : Int) (a2 : Int) (a3 : Option Addr) (a3n : Nat) (a3c : Nat) (a4 : Option Addr) (a4n : Nat) (a4c : Nat) (w : World) (K : Bool → World → Prop) : Prop :=
  bif (decide (((a0n : Nat) : Int) > 5000)) then
    law14_awake.f  w fun r35_5 w =>
    K r35_5 w
  else
    bif (decide (((a3n : Nat) : Int) > 3000)) then
      law14_awake.f  w fun r35_7 w =>
      K r35_7 w
    else
      bif (decide (((a4n : Nat) : Int) > 3000)) then
        law14_awake.f  w fun r35_9 w =>
        K r35_9 w
      else
        let v1_11 := (IntKind.wrap .i64 (1 + (IntKind.wrap .i64 (Int.tmod (IntKind.wrap .u64 a1) 8))))
        let v2_12 := (IntKind.wrap .i64 (8 + (IntKind.wrap .i64 (8 * (IntKind.wrap .i64 (Int.tmod (IntKind.wrap .u64 a2) 2))))))
        if (IntKind.wrap .i64 (Int.tdiv (IntKind.wrap .i64 (v1_11 * v2_12)) 8)) = 0 then False else
        bnd a0n a0c none (some (Value.int .i64 (IntKind.wrap .i64 ((IntKind.wrap .i64 (Int.tdiv ((a0n : Nat) : Int) (IntKind.wrap .i64 (Int.tdiv (IntKind.wrap .i64 (v1_11 * v2_12)) 8)))) * (IntKind.wrap .i64 (Int.tdiv (IntKind.wrap .i64 (v1_11 * v2_12)) 8)))))) fun l_14 h_15 =>
        tracks_Split.f (adrS a0 l_14 a0c 1) (h_15 - l_14) (a0c - l_14) v1_11 v2_12 w fun r65_17 r65_17n r65_17c r65_18 w =>
        tracks_Join.f v2_12 r65_17 r65_17n r65_17c w fun r71_20 r71_20n r71_20c r71_21 w =>
        law14_awake.f  w fun r74_24 w =>
        bif (!r74_24) then
          K false w
        else
          bif (r65_18 != 0) then
            K false w
          else
            bif (r71_21 != 0) then
              K false w
            else
              bif (((r65_17n : Nat) : Int) != v1_11) then
                K false w
              else
                help_Bytes.f (adrS a0 l_14 a0c 1) (h_15 - l_14) (a0c - l_14) r71_20 r71_20n r71_20c w fun r93_25 w =>
                bif (!r93_25) then
                  K false w
                else
                  let v15_32 := (mn ((a3n : Nat) : Int) ((a4n : Nat) : Int))
                  bnd a3n a3c none (some (Value.int .i64 v15_32)) fun l_34 h_35 =>
                  bnd a4n a4c none (some (Value.int .i64 v15_32)) fun l_36 h_37 =>
                  tracks_Mid.f (adrS a3 l_34 a3c 1) (h_35 - l_34) (a3c - l_34) (adrS a4 l_36 a4c 1) (h_37 - l_36) (a4c - l_36) w.drew fun r108_38 r108_38n r108_38c r108_39 r108_39n r108_39c r108_40 w =>
                  tracks_Unmid.f r108_38 r108_38n r108_38c r108_39 r108_39n r108_39c w fun r115_42 r115_42n r115_42c r115_43 r115_43n r115_43c r115_44 w =>
                  bif (r108_40 == 0) then
                    bif (r115_44 == 0) then
                      bnd a3n a3c none (some (Value.int .i64 v15_32)) fun l_46 h_47 =>
                      help_Plain_int32.f r115_42 r115_42n r115_42c (adrS a3 l_46 a3c 1) (h_47 - l_46) (a3c - l_46) w fun r130_48 w =>
                      bif r130_48 then
                        bnd a4n a4c none (some (Value.int .i64 v15_32)) fun l_49 h_50 =>
                        help_Plain_int32.f r115_43 r115_43n r115_43c (adrS a4 l_49 a4c 1) (h_50 - l_49) (a4c - l_49) w fun r137_51 w =>
                        K r137_51 w
                      else
                        K false w
                    else
                      K false w
                  else
                    K false w
def law14_TracksBack.H (F : type_of% @law14_TracksBack.f) : Hf := fun args w K => match args with
  | [v0, v1, v2, v3, v4] => vL v0 fun a0 a0n a0c => vI .i64 v1 fun a1 => vI .i64 v2 fun a2 => vL v3 fun a3 a3n a3c => vL v4 fun a4 a4n a4c => F a0 a0n a0c a1 a2 a3 a3n a3c a4 a4n a4c w (fun r0 w => K (Value.bool r0) w)
  | _ => False
def law14_TracksBack.h : Hf := law14_TracksBack.H @law14_TracksBack.f
def law14_TracksBack.CG (F27 : type_of% @law14_awake.f) (F28 : type_of% @tracks_Split.f) (F36 : type_of% @tracks_Join.f) (F18 : type_of% @help_Bytes.f) (F31 : type_of% @tracks_Mid.f) (F33 : type_of% @tracks_Unmid.f) (F35 : type_of% @help_Plain_int32.f) : Hd := hcons 35 (help_Plain_int32.H F35) (hcons 33 (tracks_Unmid.H F33) (hcons 31 (tracks_Mid.H F31) (hcons 18 (help_Bytes.H F18) (hcons 36 (tracks_Join.H F36) (hcons 28 (tracks_Split.H F28) (hcons 27 (law14_awake.H F27) (hnil)))))))
def law14_TracksBack.C : Hd := law14_TracksBack.CG @law14_awake.f @tracks_Split.f @tracks_Join.f @help_Bytes.f @tracks_Mid.f @tracks_Unmid.f @help_Plain_int32.f
def law14_TracksBack.G (F27 : type_of% @law14_awake.f) (F28 : type_of% @tracks_Split.f) (F36 : type_of% @tracks_Join.f) (F18 : type_of% @help_Bytes.f) (F31 : type_of% @tracks_Mid.f) (F33 : type_of% @tracks_Unmid.f) (F35 : type_of% @help_Plain_int32.f) (a0 : Option Addr) (a0n : Nat) (a0c : Nat) (a1 : Int) (a2 : Int) (a3 : Option Addr) (a3n : Nat) (a3c : Nat) (a4 : Option Addr) (a4n : Nat) (a4c : Nat) (w : World) (K : Bool → World → Prop) : Prop :=
  bif (decide (((a0n : Nat) : Int) > 5000)) then
    F27  w fun r35_5 w =>
    K r35_5 w
  else
    bif (decide (((a3n : Nat) : Int) > 3000)) then
      F27  w fun r35_7 w =>
      K r35_7 w
    else
      bif (decide (((a4n : Nat) : Int) > 3000)) then
        F27  w fun r35_9 w =>
        K r35_9 w
      else
        let v1_11 := (IntKind.wrap .i64 (1 + (IntKind.wrap .i64 (Int.tmod (IntKind.wrap .u64 a1) 8))))
        let v2_12 := (IntKind.wrap .i64 (8 + (IntKind.wrap .i64 (8 * (IntKind.wrap .i64 (Int.tmod (IntKind.wrap .u64 a2) 2))))))
        if (IntKind.wrap .i64 (Int.tdiv (IntKind.wrap .i64 (v1_11 * v2_12)) 8)) = 0 then False else
        bnd a0n a0c none (some (Value.int .i64 (IntKind.wrap .i64 ((IntKind.wrap .i64 (Int.tdiv ((a0n : Nat) : Int) (IntKind.wrap .i64 (Int.tdiv (IntKind.wrap .i64 (v1_11 * v2_12)) 8)))) * (IntKind.wrap .i64 (Int.tdiv (IntKind.wrap .i64 (v1_11 * v2_12)) 8)))))) fun l_14 h_15 =>
        F28 (adrS a0 l_14 a0c 1) (h_15 - l_14) (a0c - l_14) v1_11 v2_12 w fun r65_17 r65_17n r65_17c r65_18 w =>
        F36 v2_12 r65_17 r65_17n r65_17c w fun r71_20 r71_20n r71_20c r71_21 w =>
        F27  w fun r74_24 w =>
        bif (!r74_24) then
          K false w
        else
          bif (r65_18 != 0) then
            K false w
          else
            bif (r71_21 != 0) then
              K false w
            else
              bif (((r65_17n : Nat) : Int) != v1_11) then
                K false w
              else
                F18 (adrS a0 l_14 a0c 1) (h_15 - l_14) (a0c - l_14) r71_20 r71_20n r71_20c w fun r93_25 w =>
                bif (!r93_25) then
                  K false w
                else
                  let v15_32 := (mn ((a3n : Nat) : Int) ((a4n : Nat) : Int))
                  bnd a3n a3c none (some (Value.int .i64 v15_32)) fun l_34 h_35 =>
                  bnd a4n a4c none (some (Value.int .i64 v15_32)) fun l_36 h_37 =>
                  F31 (adrS a3 l_34 a3c 1) (h_35 - l_34) (a3c - l_34) (adrS a4 l_36 a4c 1) (h_37 - l_36) (a4c - l_36) w.drew fun r108_38 r108_38n r108_38c r108_39 r108_39n r108_39c r108_40 w =>
                  F33 r108_38 r108_38n r108_38c r108_39 r108_39n r108_39c w fun r115_42 r115_42n r115_42c r115_43 r115_43n r115_43c r115_44 w =>
                  bif (r108_40 == 0) then
                    bif (r115_44 == 0) then
                      bnd a3n a3c none (some (Value.int .i64 v15_32)) fun l_46 h_47 =>
                      F35 r115_42 r115_42n r115_42c (adrS a3 l_46 a3c 1) (h_47 - l_46) (a3c - l_46) w fun r130_48 w =>
                      bif r130_48 then
                        bnd a4n a4c none (some (Value.int .i64 v15_32)) fun l_49 h_50 =>
                        F35 r115_43 r115_43n r115_43c (adrS a4 l_49 a4c 1) (h_50 - l_49) (a4c - l_49) w fun r137_51 w =>
                        K r137_51 w
                      else
                        K false w
                    else
                      K false w
                  else
                    K false w
theorem law14_TracksBack.C_ok : CSound Try.prog law14_TracksBack.C := hcons_ok help_Plain_int32.ok (hcons_ok tracks_Unmid.ok (hcons_ok tracks_Mid.ok (hcons_ok help_Bytes.ok (hcons_ok tracks_Join.ok (hcons_ok tracks_Split.ok (hcons_ok law14_awake.ok (hnil_ok)))))))
def law14_TracksBack.D : Nat → Plan := fun i => (match Nat.beq i 10 with | true => .take 0 (.take 1 (.take 2 (.take 3 (.take 4 (.take 5 (.eff 6 (.take 7 (.take 8 (.take 9 (.take 10 (.take 11 (.take 12 (.take 13 (.done)))))))))))))) | false => .done)
noncomputable def law14_TracksBack.c : Code := Try.f10.body.getD .skip
theorem law14_TracksBack.hb : Try.f10.body = some law14_TracksBack.c := by kernel_rfl
theorem law14_TracksBack.c_loops : loopsOf law14_TracksBack.c = [] := by kernel_rfl
def law14_TracksBack.L : LHd := fun l f w K => False
theorem law14_TracksBack.eqG (F27 : type_of% @law14_awake.f) (F28 : type_of% @tracks_Split.f) (F36 : type_of% @tracks_Join.f) (F18 : type_of% @help_Bytes.f) (F31 : type_of% @tracks_Mid.f) (F33 : type_of% @tracks_Unmid.f) (F35 : type_of% @help_Plain_int32.f) (a0 : Option Addr) (a0n : Nat) (a0c : Nat) (a1 : Int) (a2 : Int) (a3 : Option Addr) (a3n : Nat) (a3c : Nat) (a4 : Option Addr) (a4n : Nat) (a4c : Nat) (w : World) (K : Value → World → Prop) : afn (law14_TracksBack.CG F27 F28 F36 F18 F31 F33 F35) law14_TracksBack.L law14_TracksBack.D tab Try.f10 [(Value.slice a0 a0n a0c), (Value.int .i64 a1), (Value.int .i64 a2), (Value.slice a3 a3n a3c), (Value.slice a4 a4n a4c)] w K = law14_TracksBack.G F27 F28 F36 F18 F31 F33 F35 a0 a0n a0c a1 a2 a3 a3n a3c a4 a4n a4c w (fun r0 w => K (Value.bool r0) w) := by kernel_rfl
theorem law14_TracksBack.eq (a0 : Option Addr) (a0n : Nat) (a0c : Nat) (a1 : Int) (a2 : Int) (a3 : Option Addr) (a3n : Nat) (a3c : Nat) (a4 : Option Addr) (a4n : Nat) (a4c : Nat) (w : World) (K : Value → World → Prop) : afn law14_TracksBack.C law14_TracksBack.L law14_TracksBack.D tab Try.f10 [(Value.slice a0 a0n a0c), (Value.int .i64 a1), (Value.int .i64 a2), (Value.slice a3 a3n a3c), (Value.slice a4 a4n a4c)] w K = law14_TracksBack.f a0 a0n a0c a1 a2 a3 a3n a3c a4 a4n a4c w (fun r0 w => K (Value.bool r0) w) := law14_TracksBack.eqG @law14_awake.f @tracks_Split.f @tracks_Join.f @help_Bytes.f @tracks_Mid.f @tracks_Unmid.f @help_Plain_int32.f a0 a0n a0c a1 a2 a3 a3n a3c a4 a4n a4c w K
theorem law14_TracksBack.ok : FSound Try.prog 10 law14_TracksBack.h := by
  intro args w K h
  unfold law14_TracksBack.h law14_TracksBack.H at h
  split at h
  ·
    replace h := vL_ok h
    obtain ⟨a0, a0n, a0c, rfl, h⟩ := h
    replace h := vI_ok h
    obtain ⟨a1, rfl, h⟩ := h
    replace h := vI_ok h
    obtain ⟨a2, rfl, h⟩ := h
    replace h := vL_ok h
    obtain ⟨a3, a3n, a3c, rfl, h⟩ := h
    replace h := vL_ok h
    obtain ⟨a4, a4n, a4c, rfl, h⟩ := h
    refine ⟨by kernel_rfl, fn_ok tab_ok law14_TracksBack.C_ok (L := law14_TracksBack.L) (D := law14_TracksBack.D) Try.func10 law14_TracksBack.hb (by kernel_rfl) (by rw [law14_TracksBack.c_loops]; exact lnil) (Nat.le_of_ble_eq_true (by kernel_rfl)) ?_⟩
    rw [law14_TracksBack.eq]
    exact h
  · exact h.elim
end Go.Proofs.Ytmgcjihcbdgihaa.G
