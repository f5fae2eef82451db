/- The law ChachaXors answers true whatever it is handed, and what it is handed reads behind the call as it did. Conditions: none beyond those of the given row. -/
import Derived.Test.YtodicpmedallgaaRows
import Derived.Test.YtodicpmedallgaaGenLawChachaXors
import Derived.Test.YtodicpmedallgaaKq
import Derived.WalkKit
import Derived.ProofKit
import Derived.OpenShut
import Derived.ShutString
import Derived.ChangeOld
import Derived.Below
import Derived.SizedLaws
import Derived.Test.YtodicpmedallgaaVmM
import Derived.Test.YtodicpmedallgaaVmV
namespace Go.Proofs.Ytodicpmedallgaa.chachaXors
open Go.ChangeShapes Go.WideShapes Go.ChangeAt Go.RowKit
open Go.ChangeMaps (open_string shut_string)
open Go.Proofs.Ytodicpmedallgaa.Vm Go.Proofs.Ytodicpmedallgaa.G
set_option linter.unusedVariables false
theorem own : ownKnob Try.prog.godebug = none := by kernel_rfl
theorem laidOut : laidOutB Try.prog = true := by kernel_rfl
set_option maxRecDepth 100000 in
theorem lifted (os : Os) (started : os.Started) (H : Type) (enc : TypeId × Value → H) :
    ReturnsInHanded {} Try.checked os 9 .any (Rows.chachaXorsSpec.pre6 enc Try.prog Try.f9 Rows.chachaXorsRow.domain false) (Rows.chachaXorsSpec.post enc Try.prog Try.f9 false true false false) := by
  refine returnsInHanded_of_change_sized (C := Try.checked) own started (by kernel_rfl) Try.func9
    (ChangeSpec.witness6 (enc := enc) (C := Try.checked) false ⟨#[], #[.agg #[.int .u8 0, .int .u8 0, .int .u8 0, .int .u8 0, .int .u8 0, .int .u8 0, .int .u8 0, .int .u8 0, .int .u8 0, .int .u8 0, .int .u8 0, .int .u8 0, .int .u8 0, .int .u8 0, .int .u8 0, .int .u8 0, .int .u8 0, .int .u8 0, .int .u8 0, .int .u8 0, .int .u8 0, .int .u8 0, .int .u8 0, .int .u8 0, .int .u8 0, .int .u8 0, .int .u8 0, .int .u8 0, .int .u8 0, .int .u8 0, .int .u8 0, .int .u8 0], .agg #[.int .u8 0, .int .u8 0, .int .u8 0, .int .u8 0, .int .u8 0, .int .u8 0, .int .u8 0, .int .u8 0, .int .u8 0, .int .u8 0, .int .u8 0, .int .u8 0], .int .u32 0, .slice none 0 0], []⟩ 8 (by kernel_rfl) (by kernel_rfl) (by kernel_rfl) (by kernel_rfl)) ?_
  intro W base args ds gs before hval0 hW hcnd hsz0 _
  have hsz : (DataW.weightsEach Try.prog (Try.f9.params.toList ++ Rows.chachaXorsSpec.plain.varTypes Try.prog) (ds ++ gs)).all (· ≤ reachBytes) = true := hsz0
  have hval : ∀ (j : Nat) t v, Try.f9.params[j]? = some t → args[j]? = some v → Value.okWide Try.prog W .any base t v := hval0
  have hW' := hW
  obtain ⟨p, q, hA0, hV, rfl, hfz, hnd⟩ := hW
  have hA : DataW.TrodAll enc Try.prog W 0 (fun _ => true) true Try.f9.params.toList args.toList ds p := hA0
  rw [Try.params9] at hA hval hsz
  obtain ⟨v0, vs0, d0, ds0, p0, q0, hargs, rfl, rfl, h0, r0⟩ := trodAll_cons hA
  obtain ⟨v1, vs1, d1, ds1, p1, q1, rfl, rfl, rfl, h1, r1⟩ := trodAll_cons r0
  obtain ⟨v2, vs2, d2, ds2, p2, q2, rfl, rfl, rfl, h2, r2⟩ := trodAll_cons r1
  obtain ⟨v3, vs3, d3, ds3, p3, q3, rfl, rfl, rfl, h3, r3⟩ := trodAll_cons r2
  obtain ⟨rfl, rfl, rfl⟩ := trodAll_nil r3
  obtain rfl : args = #[v0, v1, v2, v3] := by cases args; simp_all
  obtain ⟨rfl, rfl⟩ := trodVars_none hV
  obtain ⟨c0, rfl⟩ := okWide_agg_arr Try.underlying40 (hval 0 40 v0 rfl rfl)
  have k0 := h0
  have lt0 : ∀ x ∈ p0, x.block < W.heap.size := by obtain ⟨m, hm⟩ := k0; exact DataW.trod_lt m _ _ _ hm
  have w0 : Fits W (.arr 32 1 (.int .u8)) c0.toList := fits_arg (P := Try.prog) (j := 0) (t := 40) (by kernel_rfl) h0 hsz rfl rfl
  obtain ⟨x0, l0, e0, g0⟩ := w0.arrI
  subst e0
  obtain ⟨c1, rfl⟩ := okWide_agg_arr Try.underlying41 (hval 1 41 v1 rfl rfl)
  have k1 := h1
  have lt1 : ∀ x ∈ p1, x.block < W.heap.size := by obtain ⟨m, hm⟩ := k1; exact DataW.trod_lt m _ _ _ hm
  have w1 : Fits W (.arr 12 1 (.int .u8)) c1.toList := fits_arg (P := Try.prog) (j := 1) (t := 41) (by kernel_rfl) h1 hsz rfl rfl
  obtain ⟨x1, l1, e1, g1⟩ := w1.arrI
  rw [arrL12 l1] at e1
  subst e1
  obtain ⟨a2, rfl, rfl, rfl, w2⟩ := open_int Try.underlying23 (hval 2 23 v2 rfl rfl) h2
  obtain ⟨a3, len3, cap3, rfl⟩ := okWide_slice Try.underlying22 (hval 3 22 v3 rfl rfl)
  have k3 := h3
  have lt3 : ∀ x ∈ p3, x.block < W.heap.size := by obtain ⟨m, hm⟩ := k3; exact DataW.trod_lt m _ _ _ hm
  have w3 : Fits W (.slc (.int .u8) 1 1) [.slice a3 len3 cap3] := fits_arg (P := Try.prog) (j := 3) (t := 22) (by kernel_rfl) h3 hsz rfl rfl
  clear hA0 hval0 hsz0 hsz
  have hh : law26_ChachaXors.h [.agg (x0.map (Value.int .u8)).toArray, .agg #[.int .u8 (x1.getD 0 0), .int .u8 (x1.getD 1 0), .int .u8 (x1.getD 2 0), .int .u8 (x1.getD 3 0), .int .u8 (x1.getD 4 0), .int .u8 (x1.getD 5 0), .int .u8 (x1.getD 6 0), .int .u8 (x1.getD 7 0), .int .u8 (x1.getD 8 0), .int .u8 (x1.getD 9 0), .int .u8 (x1.getD 10 0), .int .u8 (x1.getD 11 0)], .int .u32 a2, .slice a3 len3 cap3] W (fun v w' => v = .bool true ∧ Below W.heap.size W w') := by
    show law26_ChachaXors.f (x0.map (Value.int .u8)).toArray (x1.getD 0 0) (x1.getD 1 0) (x1.getD 2 0) (x1.getD 3 0) (x1.getD 4 0) (x1.getD 5 0) (x1.getD 6 0) (x1.getD 7 0) (x1.getD 8 0) (x1.getD 9 0) (x1.getD 10 0) (x1.getD 11 0) a2 a3 len3 cap3 W (fun r w' => Value.bool r = .bool true ∧ Below W.heap.size W w')
    exact law26_ChachaXors_said l0 g0 l1 g1 w2 w3 (fun w' b => ⟨rfl, b⟩)
  refine (law26_ChachaXors.ok _ _ _ hh).2.mono fun e W' he => ?_
  obtain ⟨v, rfl, rfl, bel⟩ := he
  exact ⟨_, rfl, _, _, _, [], _, [], hW', trodAll_mk1 (shut_bool Try.underlying4 _), (trodAll_cons_mk (Below.trod laidOut (by kernel_rfl) (of_decide_eq_true (by kernel_rfl)) k0 bel lt0) (trodAll_cons_mk (Below.trod laidOut (by kernel_rfl) (of_decide_eq_true (by kernel_rfl)) k1 bel lt1) (trodAll_cons_mk (shut_int Try.underlying23 w2) (trodAll_cons_mk (Below.trod laidOut (by kernel_rfl) (of_decide_eq_true (by kernel_rfl)) k3 bel lt3) trodAll_mk0)))), rfl, bel.frame _, fun h => by cases h⟩
theorem over : Rows.chachaXorsRow.holds Try.pinned (OpenSpec.ofChange Rows.chachaXorsSpec) :=
  OpenClaim.holds_of_wide 9 Try.f9 rfl rfl rfl rfl rfl rfl rfl ⟨rfl, rfl, rfl, rfl, rfl⟩ rfl rfl rfl rfl rfl (by kernel_rfl) Try.func9 (by kernel_rfl)
    (of_decide_eq_true (by kernel_rfl)) (by unfold Func.isWrapper; first | (rw [if_pos (by decide +kernel)]; kernel_rfl) | (rw [if_neg (by decide +kernel)]; exact ⟨rfl, rfl⟩))
    (fun os started H enc _ => lifted os started H enc)
theorem proved : Rows.ChachaXorsSaid := over
end Go.Proofs.Ytodicpmedallgaa.chachaXors
namespace Go.Proofs.Ytodicpmedallgaa
/-- The row, under a short name, for the claim. -/
theorem chachaXors_holds : Rows.ChachaXorsSaid := chachaXors.proved
end Go.Proofs.Ytodicpmedallgaa
