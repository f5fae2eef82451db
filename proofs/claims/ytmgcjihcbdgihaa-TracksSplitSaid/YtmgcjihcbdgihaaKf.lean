/- Splitting tracks: as the reference. Conditions: those of the given row. -/
import Derived.Test.YtmgcjihcbdgihaaKe
import Derived.Test.YtmgcjihcbdgihaaGenLawTracksSplit
set_option linter.unusedVariables false
set_option linter.unusedSimpArgs false
namespace Go.Proofs.Ytmgcjihcbdgihaa.G
open Go Go.Proofs.Ytmgcjihcbdgihaa.Vm Go.RowKit
theorem law14_TracksSplit_said {a : Option Addr} {n c : Nat} {u v : Int} {W : World} {K : Bool → World → Prop} (f : Fits W (.slc (.int .u8) 1 1) [.slice a n c]) (_ : (Lit.int .i64 u).wf = true) (_ : (Lit.int .i64 v).wf = true)
    (hk : ∀ w', Below W.heap.size W w' → K true w') : law14_TracksSplit.f a n c u v W K := by
  obtain ⟨hnc, _, xs, hxl, hx, hwf⟩ := f.ints
  have hb := By.of hwf
  unfold law14_TracksSplit.f
  refine cond_of (fun _ => law14_awake_ok fun w hc => hk w (below_no (Below.refl _ _) hc (Nat.le_refl _))) (fun h => ?_)
  have hn : n ≤ 5000 := by
    have : ¬ (n : Int) > 5000 := by simpa using h
    omega
  refine help_Own_byte_ok hx hxl (by omega) fun w1 hb1 hc1 => ?_
  have hy := BlI.pre_byte hb1
  have fin : ∀ w4, Chg no w1 w4 → help_Kept_byte.f (some ⟨W.heap.size, 0, none⟩) n (n + 3) a n c 71 w4 (fun r w => K r w) := fun w4 j4 =>
    help_Kept_byte_ok (hb1.chg j4 fun h => h) (hx.chg (hc1.trans j4) fun _ _ _ h => h) hxl (by omega) fun w5 hc5 => hk _ (below_no (Below.refl _ _) ((hc1.trans j4).trans hc5) (Nat.le_refl _))
  refine tracks_Split_ok hy hxl hb hn (fun hm => ?_) (fun ch D e1 e2 e3 e4 e5 e6 => ?_) (fun ch D T bo hs w2 e1 e2 e3 e4 e5 e6 e7 hR hc2 => ?_)
  · refine ref14_Split_ok (hx.chg hc1 fun _ _ _ h => h) hxl hb hn (fun _ => ?_) (fun ch D e1 e2 e3 e4 e5 e6 => absurd ⟨by omega, by omega, by omega⟩ hm) (fun ch D T bo hs w2 e1 e2 e3 e4 e5 e6 e7 hR hc2 => absurd ⟨by omega, by omega, by omega⟩ hm)
    exact law14_awake_ok fun w2 hc2 => bif_t rfl (help_Same_Sint32_nil (bif_t rfl (bif_t rfl (fin w2 hc2))))
  · refine ref14_Split_ok (hx.chg hc1 fun _ _ _ h => h) hxl hb hn (fun hm => absurd ⟨by omega, by omega, by omega⟩ hm) (fun ch' D' e1' e2' e3' e4' e5' e6' => ?_) (fun ch' D' T' bo' hs' w2 e1' e2' e3' e4' e5' e6' e7' hR hc2 => ?_)
    · exact law14_awake_ok fun w2 hc2 => bif_t rfl (help_Same_Sint32_nil (bif_t rfl (bif_t rfl (fin w2 hc2))))
    · have : ch' = ch := by omega
      have : D' = D := by omega
      subst ch' D'
      exact absurd e6' e6
  · refine ref14_Split_ok (hx.chg (hc1.trans hc2) fun _ _ _ h => h) hxl hb hn (fun hm => absurd ⟨by omega, by omega, by omega⟩ hm) (fun ch' D' e1' e2' e3' e4' e5' e6' => ?_) (fun ch' D' T' bo' hs' w3 e1' e2' e3' e4' e5' e6' e7' hR' hc3 => ?_)
    · have : ch' = ch := by omega
      have : D' = D := by omega
      subst ch' D'
      exact absurd e6 e6'
    · have : ch' = ch := by omega
      have : D' = D := by omega
      subst ch' D'
      have hTT : T' = T := by rcases e3 with rfl | rfl <;> omega
      subst hTT
      refine law14_awake_ok fun w4 hc4 => bif_t rfl ?_
      have hTn : T' ≤ 5000 := by rcases e3 with rfl | rfl <;> omega
      refine help_Same_Sint32_ok (hR.chg (hc3.trans hc4) fun _ _ h => h) (hR'.chg hc4 fun _ _ h => h) (spl_length _ _ _) (by omega) (fun l hl => by have := spl_row hl; omega) fun w5 hc5 => bif_t rfl (bif_t rfl (fin w5 (((hc2.trans hc3).trans hc4).trans hc5)))
end Go.Proofs.Ytmgcjihcbdgihaa.G
