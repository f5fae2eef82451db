/- The checksum of parts: carried on from one to the next. Conditions: those of the given row (arguments of bulk at most 1048576). -/
import Derived.Test.YtodicpmedallgaaKb
import Derived.Test.YtodicpmedallgaaVmU
import Derived.Test.YtodicpmedallgaaGenLawCrcParts
import Derived.Test.YtodicpmedallgaaGenLawCrcAll
set_option linter.unusedVariables false
set_option linter.unusedSimpArgs false
namespace Go.Proofs.Ytodicpmedallgaa.G
open Go Go.Proofs.Ytodicpmedallgaa.Vm Go.RowKit
theorem law03_CrcParts_said {a : Option Addr} {n1 c1 : Nat} {b : Option Addr} {n2 c2 : Nat} {N1 N2 : Nat} {W : World} {K : Bool → World → Prop} (f1 : Fits W (.slc (.int .u8) 1 1) [.slice a n1 c1]) (f2 : Fits W (.slc (.int .u8) 1 1) [.slice b n2 c2])
    (g1 : FitsN W (.slc (.int .u8) 1 1) [.slice a n1 c1] N1) (g2 : FitsN W (.slc (.int .u8) 1 1) [.slice b n2 c2] N2) (hB : N1 + N2 ≤ 1048576)
    (hk : ∀ w', Below W.heap.size W w' → K true w') : law03_CrcParts.f a n1 c1 b n2 c2 W K := by
  obtain ⟨hn1, hs1, xs, hl1, hx, wf1⟩ := f1.ints
  obtain ⟨hn2, hs2, ys, hl2, hy, wf2⟩ := f2.ints
  obtain ⟨la, rfl, b1⟩ := (By.of wf1).nats
  obtain ⟨lb, rfl, b2⟩ := (By.of wf2).nats
  have e1 := g1.ints
  have e2 := g2.ints
  have hl1' := hl1
  have hl2' := hl2
  rw [ints_length] at hl1' hl2'
  have hab : ∀ x ∈ la ++ lb, x < 256 := fun x hx => (List.mem_append.1 hx).elim (b1 x) (b2 x)
  unfold law03_CrcParts.f
  refine law03_awake_ok fun w1 hc1 => bif_t rfl ?_
  refine help_CopyBytes_ok (hx.chg hc1 fun _ _ _ h => h) hl1 (by omega) fun y cm w2 ho2 hc2 => ?_
  have k2 := hc1.trans hc2
  refine appL_own ho2 (hy.chg k2 fun _ _ _ h => h) hl2 (by omega) (by omega) fun a3 c3 w3 ho3 hc3 => ?_
  have h13 : Chg no w1 w3 := hc2.then hc3 fun k hk h => by omega
  have k3 := hc1.trans h13
  rw [← ints_app] at ho3
  refine crc_Sum_ok ho3.sl (by rw [List.length_append]; omega) hab (by omega) fun w4 hc4 => ?_
  have k4 := k3.trans hc4
  refine crc_Sum_ok (hx.chg k4 fun _ _ _ h => h) hl1' b1 (by omega) fun w5 hc5 => ?_
  have k5 := k4.trans hc5
  have hlt := crc_lt (a := 0) (by omega) b1
  refine crc_Add_ok (hy.chg k5 fun _ _ _ h => h) hl2' b2 (by omega) hlt fun w6 hc6 => ?_
  have k6 := k5.trans hc6
  refine bif_t (by rw [crc_app]; simp) ?_
  refine crc_Sum_ok (hx.chg k6 fun _ _ _ h => h) hl1' b1 (by omega) fun w7 hc7 => ?_
  have k7 := k6.trans hc7
  refine crc_Add_ok (l := []) (SlI.nil _ _ _) rfl (fun x hx => by cases hx) (by omega) hlt fun w8 hc8 => ?_
  have k8 := k7.trans hc8
  refine crc_Sum_ok (hx.chg k8 fun _ _ _ h => h) hl1' b1 (by omega) fun w9 hc9 => ?_
  show K (((crc (crc 0 la) [] : Nat) : Int) == ((crc 0 la : Nat) : Int)) w9
  rw [crc_nil, beq_self_eq_true]
  exact hk _ (below_no (Below.refl _ _) (k8.trans hc9) (Nat.le_refl _))
end Go.Proofs.Ytodicpmedallgaa.G
