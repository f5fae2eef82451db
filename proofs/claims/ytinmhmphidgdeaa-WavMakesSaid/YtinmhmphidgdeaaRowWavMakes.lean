/- The law WavMakes answers true whatever it is handed, and what it is handed reads behind the call as it did. Conditions: none beyond those of the given row. -/
import Derived.Test.YtinmhmphidgdeaaRows
import Derived.Test.YtinmhmphidgdeaaGenLawWavMakes
import Derived.Test.YtinmhmphidgdeaaKl
import Derived.WalkKit
import Derived.ProofKit
import Derived.OpenShut
import Derived.ShutString
import Derived.ChangeOld
import Derived.Below
import Derived.SizedLaws
import Derived.Test.YtinmhmphidgdeaaVmM
import Derived.Test.YtinmhmphidgdeaaVmV
namespace Go.Proofs.Ytinmhmphidgdeaa.wavMakes
open Go.ChangeShapes Go.WideShapes Go.ChangeAt Go.RowKit
open Go.ChangeMaps (open_string shut_string)
open Go.Proofs.Ytinmhmphidgdeaa.Vm Go.Proofs.Ytinmhmphidgdeaa.G
set_option linter.unusedVariables false
theorem own : ownKnob Try.prog.godebug = none := by kernel_rfl
theorem laidOut : laidOutB Try.prog = true := by kernel_rfl
set_option maxRecDepth 100000 in
theorem lifted (os : Os) (started : os.Started) (H : Type) (enc : TypeId × Value → H) :
    ReturnsInHanded {} Try.checked os 4 .any (Rows.wavMakesSpec.pre6 enc Try.prog Try.f4 Rows.wavMakesRow.domain false) (Rows.wavMakesSpec.post enc Try.prog Try.f4 false true false false) := by
  refine returnsInHanded_of_change_sized (C := Try.checked) own started (by kernel_rfl) Try.func4
    (ChangeSpec.witness6 (enc := enc) (C := Try.checked) false ⟨#[], #[.agg #[.int .i64 0, .int .i64 0, .int .i64 0, .int .i64 0], .slice none 0 0], []⟩ 8 (by kernel_rfl) (by kernel_rfl) (by kernel_rfl) (by kernel_rfl)) ?_
  intro W base args ds gs before hval0 hW hcnd hsz0 _
  have hsz : (DataW.weightsEach Try.prog (Try.f4.params.toList ++ Rows.wavMakesSpec.plain.varTypes Try.prog) (ds ++ gs)).all (· ≤ reachBytes) = true := hsz0
  have hval : ∀ (j : Nat) t v, Try.f4.params[j]? = some t → args[j]? = some v → Value.okWide Try.prog W .any base t v := hval0
  have hW' := hW
  obtain ⟨p, q, hA0, hV, rfl, hfz, hnd⟩ := hW
  have hA : DataW.TrodAll enc Try.prog W 0 (fun _ => true) true Try.f4.params.toList args.toList ds p := hA0
  rw [Try.params4] at hA hval hsz
  obtain ⟨v0, vs0, d0, ds0, p0, q0, hargs, rfl, rfl, h0, r0⟩ := trodAll_cons hA
  obtain ⟨v1, vs1, d1, ds1, p1, q1, rfl, rfl, rfl, h1, r1⟩ := trodAll_cons r0
  obtain ⟨rfl, rfl, rfl⟩ := trodAll_nil r1
  obtain rfl : args = #[v0, v1] := by cases args; simp_all
  obtain ⟨rfl, rfl⟩ := trodVars_none hV
  obtain ⟨c0, rfl, z0⟩ := okWide_struct Try.underlying26 (hval 0 26 v0 rfl rfl)
  have k0 := h0
  have lt0 : ∀ x ∈ p0, x.block < W.heap.size := by obtain ⟨m, hm⟩ := k0; exact DataW.trod_lt m _ _ _ hm
  have w0 : Fits W (.st (.pair 1 (.int .i64) (.pair 1 (.int .i64) (.pair 1 (.int .i64) (.pair 1 (.int .i64) .unit))))) c0.toList := fits_arg (P := Try.prog) (j := 0) (t := 26) (by kernel_rfl) h0 hsz rfl rfl
  obtain ⟨a0_0, a0_1, a0_2, a0_3, e0, g0_0, g0_1, g0_2, g0_3⟩ := w0.st4 (z0.trans (by kernel_rfl))
  subst e0
  obtain ⟨a1, len1, cap1, rfl⟩ := okWide_slice Try.underlying22 (hval 1 22 v1 rfl rfl)
  have k1 := h1
  have lt1 : ∀ x ∈ p1, x.block < W.heap.size := by obtain ⟨m, hm⟩ := k1; exact DataW.trod_lt m _ _ _ hm
  have w1 : Fits W (.slc (.int .u8) 1 1) [.slice a1 len1 cap1] := fits_arg (P := Try.prog) (j := 1) (t := 22) (by kernel_rfl) h1 hsz rfl rfl
  clear hA0 hval0 hsz0 hsz
  have hh : law13_WavMakes.h [.agg #[.int .i64 a0_0, .int .i64 a0_1, .int .i64 a0_2, .int .i64 a0_3], .slice a1 len1 cap1] W (fun v w' => v = .bool true ∧ Below W.heap.size W w') := by
    show law13_WavMakes.f a0_0 a0_1 a0_2 a0_3 a1 len1 cap1 W (fun r w' => Value.bool r = .bool true ∧ Below W.heap.size W w')
    exact law13_WavMakes_said g0_0 g0_1 g0_2 g0_3 w1 (fun w' b => ⟨rfl, b⟩)
  refine (law13_WavMakes.ok _ _ _ hh).2.mono fun e W' he => ?_
  obtain ⟨v, rfl, rfl, bel⟩ := he
  exact ⟨_, rfl, _, _, _, [], _, [], hW', trodAll_mk1 (shut_bool Try.underlying4 _), (trodAll_cons_mk (Below.trod laidOut (by kernel_rfl) (of_decide_eq_true (by kernel_rfl)) k0 bel lt0) (trodAll_cons_mk (Below.trod laidOut (by kernel_rfl) (of_decide_eq_true (by kernel_rfl)) k1 bel lt1) trodAll_mk0)), rfl, bel.frame _, fun h => by cases h⟩
theorem over : Rows.wavMakesRow.holds Try.pinned (OpenSpec.ofChange Rows.wavMakesSpec) :=
  OpenClaim.holds_of_wide 4 Try.f4 rfl rfl rfl rfl rfl rfl rfl ⟨rfl, rfl, rfl, rfl, rfl⟩ rfl rfl rfl rfl rfl (by kernel_rfl) Try.func4 (by kernel_rfl)
    (of_decide_eq_true (by kernel_rfl)) (by unfold Func.isWrapper; first | (rw [if_pos (by decide +kernel)]; kernel_rfl) | (rw [if_neg (by decide +kernel)]; exact ⟨rfl, rfl⟩))
    (fun os started H enc _ => lifted os started H enc)
theorem proved : Rows.WavMakesSaid := over
end Go.Proofs.Ytinmhmphidgdeaa.wavMakes
namespace Go.Proofs.Ytinmhmphidgdeaa
/-- The row, under a short name, for the claim. -/
theorem wavMakes_holds : Rows.WavMakesSaid := wavMakes.proved
end Go.Proofs.Ytinmhmphidgdeaa
