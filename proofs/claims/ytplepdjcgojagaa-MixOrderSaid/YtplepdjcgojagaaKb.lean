/- The laws of layers 5 and 6 on numbers alone. -/
import Derived.Test.YtplepdjcgojagaaKa
import Derived.Test.YtplepdjcgojagaaVmJ
import Derived.Test.YtplepdjcgojagaaGenLawGuessTrend
import Derived.Test.YtplepdjcgojagaaGenLawMixSquashes
import Derived.Test.YtplepdjcgojagaaGenLawMixOrder
set_option linter.unusedVariables false
set_option linter.unusedSimpArgs false
namespace Go.Proofs.Ytplepdjcgojagaa.G
open Go Go.Proofs.Ytplepdjcgojagaa.Vm Go.RowKit
theorem div_mono_lem (a b d : Int) (hd : 2 ≤ d) (h0 : 0 ≤ a) (hab : a ≤ b) : b / d - a / d ≤ b - a := by
  have h1 : b / d ≤ a / d + (b - a) := by
    have e : a / d + (b - a) = (a + (b - a) * d) / d := by rw [Int.add_mul_ediv_right _ _ (by omega)]
    rw [e]
    apply Int.ediv_le_ediv (by omega)
    have : (b - a) * 1 ≤ (b - a) * d := Int.mul_le_mul_of_nonneg_left (by omega) (by omega)
    omega
  omega
theorem law05_GuessTrend_said {p q b c : Int} {W : World} {K : Bool → World → Prop} (hp : (Lit.int .u16 p).wf = true) (hq : (Lit.int .u16 q).wf = true)
    (hb : (Lit.int .i64 b).wf = true) (hc : (Lit.int .i64 c).wf = true) (hk : ∀ w', Below W.heap.size W w' → K true w') : law05_GuessTrend.f p q b c W K := by
  obtain ⟨p0, p1⟩ := wf_u16 hp
  obtain ⟨q0, q1⟩ := wf_u16 hq
  have k := hk W (Below.refl _ _)
  have hm0 : 0 ≤ mn p q := by unfold mn; split <;> omega
  have hm1 : mn p q ≤ 65535 := by unfold mn; split <;> omega
  have hM0 : 0 ≤ mx p q := by unfold mx; split <;> omega
  have hM1 : mx p q ≤ 65535 := by unfold mx; split <;> omega
  have hmM : mn p q ≤ mx p q := by unfold mn mx; split <;> split <;> omega
  unfold law05_GuessTrend.f
  refine guess_Next_ok hm0 hm1 ?_
  refine guess_Next_ok hM0 hM1 ?_
  have bm := nextV_bd (mn p q) b c hm0 hm1
  refine guess_Chance_ok bm.1 bm.2 ?_
  have bc := chanceV_bd _ bm.1 bm.2
  generalize chanceV (nextV (mn p q) b c) = ch at *
  refine law05_awake_ok ?_
  refine bif_t rfl ?_
  generalize mn p q = m at *
  generalize mx p q = M at *
  have hd := dv_ge c
  have c1 : (decide (ch ≥ 1)) = true := dec_t bc.1
  have c2 : (decide (ch ≤ 4095)) = true := dec_t bc.2
  by_cases hb0 : b = 0
  · subst hb0
    unfold nextV at *
    simp only [if_true] at *
    have k1 := div_mono_lem m M (dv c) hd hm0 hmM
    have k2 := Int.ediv_nonneg (a := m) (b := dv c) hm0 (by omega)
    refine bif_t (dec_t (by omega)) ?_
    by_cases g : m - m / dv c ≥ m
    · have g1 : ¬ m - m / dv c > m := by omega
      have g2 : m - m / dv c ≤ m := by omega
      simp [g, g1, g2, c1, c2, bc, k]
    · have g2 : m - m / dv c ≤ m := by omega
      simp [g, g2, c1, c2, bc, k]
  · have hb1 : (b != 0) = true := by simp [hb0]
    unfold nextV at *
    simp only [hb0, if_false] at *
    have k1 := div_mono_lem (65535 - M) (65535 - m) (dv c) hd (by omega) (by omega)
    have k2 := Int.ediv_nonneg (a := 65535 - m) (b := dv c) (by omega) (by omega)
    refine bif_t (dec_t (by omega)) (bif_t (dec_t (by omega)) ?_)
    have hb1 : (b != 0) = true := hb1
    by_cases g : m + (65535 - m) / dv c > m
    · simp [g, hb1, c1, c2, bc, k]
    · simp [g, hb1, c1, c2, bc, k]
theorem law06_awake_ok {w : World} {K : Bool → World → Prop} (hk : K true w) : law06_awake.f w K := by
  unfold law06_awake.f
  refine mix_Squash_ok ?_
  have e : sq (cl 512) = 3328 := by decide +kernel
  rw [e]
  refine bif_t rfl ?_
  refine mix_Stretch_ok fun s hs => ?_
  have e2 : clp 2048 = 2048 := by decide +kernel
  rw [e2] at hs
  have : s = 0 := hs.uniq ⟨by omega, by omega, by decide +kernel, .inr (by decide +kernel)⟩
  subst this
  exact hk
theorem law06_MixSquashes_said {d p : Int} {W : World} {K : Bool → World → Prop} (hd : (Lit.int .i64 d).wf = true) (hp : (Lit.int .i64 p).wf = true)
    (hk : ∀ w', Below W.heap.size W w' → K true w') : law06_MixSquashes.f d p W K := by
  have k := hk W (Below.refl _ _)
  unfold law06_MixSquashes.f
  refine law06_awake_ok (bif_t rfl ?_)
  refine mix_Squash_ok (ref06_Squash_ok (bif_t (by simp) ?_))
  refine mix_Stretch_ok fun s hs => ref06_Stretch_ok fun t ht => ?_
  have := hs.uniq ht
  subst this
  simpa using k
theorem law06_MixOrder_said {a b p : Int} {W : World} {K : Bool → World → Prop} (ha : (Lit.int .i64 a).wf = true) (hb : (Lit.int .i64 b).wf = true) (hp : (Lit.int .i64 p).wf = true)
    (hk : ∀ w', Below W.heap.size W w' → K true w') : law06_MixOrder.f a b p W K := by
  have k := hk W (Below.refl _ _)
  unfold law06_MixOrder.f
  have hr : 1 ≤ IntKind.wrap .i64 (1 + IntKind.wrap .i64 (Int.tmod (IntKind.wrap .u64 p) 4095)) ∧ IntKind.wrap .i64 (1 + IntKind.wrap .i64 (Int.tmod (IntKind.wrap .u64 p) 4095)) ≤ 4095 := by
    have h0 : 0 ≤ IntKind.wrap .u64 p := by simp [IntKind.wrap, IntKind.bits, IntKind.signed]; omega
    generalize IntKind.wrap .u64 p = u at *
    rw [Int.tmod_eq_emod_of_nonneg h0, w64 (a := u % 4095) (by omega) (by omega), w64 (by omega) (by omega)]
    omega
  generalize IntKind.wrap .i64 (1 + IntKind.wrap .i64 (Int.tmod (IntKind.wrap .u64 p) 4095)) = r at *
  have hmM : mn a b ≤ mx a b := by unfold mn mx; split <;> split <;> omega
  refine mix_Squash_ok (mix_Squash_ok (mix_Stretch_ok fun s hs => law06_awake_ok ?_))
  rw [clp_id r hr.1 hr.2] at hs
  have b1 := cl_bd (mn a b)
  have b2 := cl_bd (mx a b)
  have s1 := sq_bd _ b1.1 b1.2
  have s2 := sq_bd _ b2.1 b2.2
  have s3 := sq_mono _ _ (cl_mono _ _ hmM)
  obtain ⟨h0, h1, h2, h3⟩ := hs
  refine bif_t rfl (bif_t (dec_t s3) (bif_t (dec_t s1.1) (bif_t (dec_t s2.2) (bif_t (dec_t h0) (bif_t (dec_t h1) (mix_Squash_ok ?_))))))
  rw [cl_id s h0 h1]
  refine bif_t (dec_t h2) (cond_of (fun h => k) (fun h => ?_))
  have hne : s ≠ -2047 := by simpa using h
  rw [w64 (by omega) (by omega)]
  refine mix_Squash_ok ?_
  rw [cl_id (s - 1) (by omega) (by omega)]
  have := h3.resolve_left hne
  simpa [this] using k
end Go.Proofs.Ytplepdjcgojagaa.G
