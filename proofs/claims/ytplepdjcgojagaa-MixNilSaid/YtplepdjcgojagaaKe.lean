/- The laws of the mixer. -/
import Derived.Test.YtplepdjcgojagaaMo
import Derived.Test.YtplepdjcgojagaaXh
import Derived.Test.YtplepdjcgojagaaGenLawMixNil
import Derived.Test.YtplepdjcgojagaaGenLawMixLearns
import Derived.Test.YtplepdjcgojagaaGenLawMixPlays
set_option linter.unusedVariables false
set_option linter.unusedSimpArgs false
namespace Go.Proofs.Ytplepdjcgojagaa.G
open Go Go.Proofs.Ytplepdjcgojagaa.Vm Go.RowKit
theorem old_lt {k : IntKind} {w : World} {x : Option Addr} {xs : List Int} (hx : SlI k w x xs) : ∀ p, x = some p → xs ≠ [] → p.block < w.heap.size := fun p hp hne => by
  obtain ⟨q, hq, hcq⟩ := hx 0 (List.length_pos_iff.2 hne)
  rw [hp] at hq; cases hq
  have := block_lt hcq
  rw [add_block] at this
  exact this
theorem law06_awake_ok {w : World} {K : Bool → World → Prop} (hk : K true w) : law06_awake.f w K := by
  unfold law06_awake.f
  refine mix_Squash_ok ?_
  have e : sq (cl 512) = 3328 := by decide +kernel
  rw [e]
  refine bif_t rfl ?_
  refine mix_Stretch_ok fun s hs => ?_
  have e2 : clp 2048 = 2048 := by decide +kernel
  rw [e2] at hs
  have : s = 0 := hs.uniq ⟨by omega, by omega, by decide +kernel, .inr (by decide +kernel)⟩
  subst this
  exact hk
theorem law06_MixNil_said {a b : Int} {x : Option Addr} {n c : Nat} {W : World} {K : Bool → World → Prop} (_ : (Lit.int .i64 a).wf = true) (_ : (Lit.int .i64 b).wf = true) (f : Fits W (.slc (.int .i64) 1 8) [.slice x n c])
    (hk : ∀ w', Below W.heap.size W w' → K true w') : law06_MixNil.f a b x n c W K := by
  have e1 : ∀ {w : World} {K : World → Prop}, K w → mix_Mixer_Learn.f none b w K := fun h => by unfold mix_Mixer_Learn.f; exact h
  have e2 : ∀ {w : World} {K : Int → World → Prop}, K 0 w → mix_Mixer_Mix.f none a x n c w K := fun h => by unfold mix_Mixer_Mix.f; exact h
  have e3 : ∀ {w : World} {K : Option Addr → Nat → Nat → World → Prop}, K none 0 0 w → mix_Mixer_Weights.f none a w K := fun h => by unfold mix_Mixer_Weights.f; exact h
  unfold law06_MixNil.f
  refine e1 (mix_New_ok fun bt w1 hM hc1 => law06_awake_ok (bif_f rfl (bif_f rfl (cond_of (fun _ => law06_awake_ok (hk _ (below_no (Below.refl _ _) hc1 (Nat.le_refl _)))) (fun _ => ?_)))))
  have B1 := below_no (Below.refl _ _) hc1 (Nat.le_refl W.heap.size)
  refine mix_Learn_ok hM fun w2 hM2 hc2 => ?_
  have el : (mNew (mx 1 (mn 2 4096)).toNat).learn b = mNew (mx 1 (mn 2 4096)).toNat := rfl
  rw [el] at hM2
  have B2 := below_chg B1 hc2 hc1.size fun b hb => hb.1
  refine mix_Weights_ok hM2 fun bw w3 hbw hb3 hc3 => ⟨5, ?_⟩
  have e2' : (mx 1 (mn 2 4096)).toNat = 2 := by decide
  rw [e2'] at hb3
  have erow : (mNew 2).W.getD (mPlace (mNew 2).W.length a) [] = mF := by
    have hp := (mPlace_lt (n := (mNew 2).W.length) (by simp [mNew]) a).1
    have := rowD hp
    have hm := List.mem_of_getElem? this
    exact (List.mem_replicate.1 hm).2
  rw [erow] at hb3
  have B3 := below_no B2 hc3 (by have := hc1.size; have := hc2.size; omega)
  have fin := hk w3 B3
  have loop : ∀ (N i : Nat), i ≤ 4 → 4 - i < N → law06_MixNil.l9 N a x n c none (some ⟨bw, 0, none⟩) 4 4 i w3 (fun o0_29 o2_30 o2_30n o2_30c o7_31 o9_32 o9_32n o9_32c w =>
          bif (((o9_32n : Nat) : Int) == 4) then
            mix_Mixer_Mix.f o7_31 o0_29 o2_30 o2_30n o2_30c w fun r51_35 w =>
            bif (r51_35 == 0) then
              mix_Mixer_Weights.f o7_31 o0_29 w fun r57_36 r57_36n r57_36c w =>
              let v6_37 := (((r57_36n : Nat) : Int) == 0)
              K v6_37 w
            else
              K false w
          else
            K false w) (fun o w => K o w) := by
    intro N
    induction N with
    | zero => intro i h1 h2; omega
    | succ N ih =>
      intro i h1 h2
      rw [law06_MixNil.l9]
      by_cases hlt : i < 4
      · refine bif_t (dec_t (by omega)) (rdV (v := 16384) (BlI.sl hb3) i rfl rfl (by
          match i, hlt with
          | 0, _ => rfl
          | 1, _ => rfl
          | 2, _ => rfl
          | 3, _ => rfl) fun _ _ => bif_f rfl ?_)
        dsimp only
        rw [inc (by omega)]
        exact ih (i + 1) (by omega) (by omega)
      · have : i = 4 := by omega
        subst this
        exact bif_f (dec_f (by omega)) (bif_t rfl (e2 (bif_t rfl (e3 fin))))
  exact loop 5 0 (by omega) (by omega)
/-! ### What is told moves towards the bit -/
theorem shr16 (t : Int) : shr .i64 t 16 = t / 65536 := by
  unfold shr
  rw [Int.fdiv_eq_ediv_of_nonneg _ (by decide)]; rfl
/-- A row in its bounds. -/
def RB (r : List Int) : Prop := ∀ k, -16777216 ≤ r.getD k 0 ∧ r.getD k 0 ≤ 16777216
/-- Inputs in their bounds. -/
def IB (x : List Int) : Prop := ∀ k, -2047 ≤ x.getD k 0 ∧ x.getD k 0 ≤ 2047
theorem mIns_ib (xs : List Int) : IB (mIns xs) := fun k => by
  by_cases hk : k < 4
  · rw [mIns_getD hk]; unfold mIn
    split
    · exact cl_bd _
    · omega
  · rw [List.getD_eq_getElem?_getD, List.getElem?_eq_none (by rw [mIns_len]; omega)]; simp
theorem mul_bd {x r : Int} (hx : -2047 ≤ x ∧ x ≤ 2047) {B : Int} (hB : 0 ≤ B) (hr : -B ≤ r ∧ r ≤ B) : -(2047 * B) ≤ x * r ∧ x * r ≤ 2047 * B := by
  have h1 : (x * r).natAbs ≤ (2047 * B).natAbs := by
    rw [Int.natAbs_mul, Int.natAbs_mul]
    exact Nat.mul_le_mul (by omega) (by omega)
  have h2 : 0 ≤ 2047 * B := Int.mul_nonneg (by omega) hB
  omega
def tSum (ins row : List Int) : Nat → Int
  | 0 => 0
  | k + 1 => tSum ins row k + ins.getD k 0 * row.getD k 0
theorem mSum_t {ins row : List Int} (hi : IB ins) (hr : RB row) : ∀ k, k ≤ 4 → mSum ins row k = tSum ins row k ∧ -(34343485440 * (k : Int)) ≤ tSum ins row k ∧ tSum ins row k ≤ 34343485440 * (k : Int)
  | 0, _ => ⟨rfl, by simp [tSum], by simp [tSum]⟩
  | k + 1, h => by
    obtain ⟨e, h1, h2⟩ := mSum_t hi hr k (by omega)
    have hb := mul_bd (hi k) (B := 16777216) (by omega) (hr k)
    rw [mSum, tSum, e]
    generalize ins.getD k 0 * row.getD k 0 = t at hb ⊢
    rw [w64 (a := t) (by omega) (by omega)]
    refine ⟨w64 (by omega) (by omega), by omega, by omega⟩
theorem mW_step {ins row : List Int} {e : Int} {k : Nat} (hi : IB ins) (hr : RB row) (he : -28665 ≤ e ∧ e ≤ 28665) :
    (-16777216 ≤ mW ins row e k ∧ mW ins row e k ≤ 16777216) ∧ (0 ≤ e → ins.getD k 0 * row.getD k 0 ≤ ins.getD k 0 * mW ins row e k) ∧ (e ≤ 0 → ins.getD k 0 * mW ins row e k ≤ ins.getD k 0 * row.getD k 0) := by
  unfold mW
  have hx := hi k
  have hrk := hr k
  generalize ins.getD k 0 = x at hx ⊢
  generalize row.getD k 0 = r at hrk ⊢
  have hb := mul_bd hx (B := 28665) (by omega) he
  have s1 : 0 ≤ x → 0 ≤ e → 0 ≤ x * e := fun h1 h2 => Int.mul_nonneg h1 h2
  have s2 : x ≤ 0 → 0 ≤ e → x * e ≤ 0 := fun h1 h2 => Int.mul_nonpos_of_nonpos_of_nonneg h1 h2
  have s3 : 0 ≤ x → e ≤ 0 → x * e ≤ 0 := fun h1 h2 => Int.mul_nonpos_of_nonneg_of_nonpos h1 h2
  have s4 : x ≤ 0 → e ≤ 0 → 0 ≤ x * e := fun h1 h2 => Int.mul_nonneg_of_nonpos_of_nonpos h1 h2
  generalize x * e = t at hb s1 s2 s3 s4
  rw [w64 (a := t) (by omega) (by omega), w64 (a := t + 32768) (by omega) (by omega), shr16, w64 (by omega) (by omega)]
  obtain ⟨d, hd⟩ : ∃ d, d = (t + 32768) / 65536 := ⟨_, rfl⟩
  rw [← hd]
  have hd0 : 0 ≤ t → 0 ≤ d := fun h => by omega
  have hd1 : t ≤ 0 → d ≤ 0 := fun h => by omega
  obtain ⟨q, hq⟩ : ∃ q, q = mx (-16777216) (mn (r + d) 16777216) := ⟨_, rfl⟩
  have hq1 : -16777216 ≤ q ∧ q ≤ 16777216 := by rw [hq]; unfold mx mn; (repeat' split) <;> omega
  have hq2 : 0 ≤ d → r ≤ q := fun h => by rw [hq]; unfold mx mn; (repeat' split) <;> omega
  have hq3 : d ≤ 0 → q ≤ r := fun h => by rw [hq]; unfold mx mn; (repeat' split) <;> omega
  rw [← hq]
  refine ⟨hq1, fun he0 => ?_, fun he0 => ?_⟩
  · rcases Int.le_total 0 x with h | h
    · exact Int.mul_le_mul_of_nonneg_left (hq2 (hd0 (s1 h he0))) h
    · exact Int.mul_le_mul_of_nonpos_left h (hq3 (hd1 (s2 h he0)))
  · rcases Int.le_total 0 x with h | h
    · exact Int.mul_le_mul_of_nonneg_left (hq3 (hd1 (s3 h he0))) h
    · exact Int.mul_le_mul_of_nonpos_left h (hq2 (hd0 (s4 h he0)))
theorem mRow_getD {ins row : List Int} {e : Int} {j : Nat} (h : j < 4) : (mRow ins row e 4).getD j 0 = mW ins row e j := by rw [List.getD_eq_getElem?_getD, mRow_get h, if_pos h]; rfl
theorem mRow_rb {ins row : List Int} {e : Int} (hi : IB ins) (hr : RB row) (he : -28665 ≤ e ∧ e ≤ 28665) : RB (mRow ins row e 4) := fun k => by
  by_cases hk : k < 4
  · rw [mRow_getD hk]; exact (mW_step hi hr he).1
  · rw [List.getD_eq_getElem?_getD, List.getElem?_eq_none (by rw [mRow_len]; omega)]; simp
theorem tSum_up {ins row : List Int} {e : Int} (hi : IB ins) (hr : RB row) (he : 0 ≤ e ∧ e ≤ 28665) : ∀ k, k ≤ 4 → tSum ins row k ≤ tSum ins (mRow ins row e 4) k
  | 0, _ => Int.le_refl _
  | k + 1, h => by
    rw [tSum, tSum, mRow_getD (by omega)]
    have := tSum_up hi hr he k (by omega)
    have := (mW_step (k := k) hi hr ⟨by omega, he.2⟩).2.1 he.1
    omega
theorem tSum_down {ins row : List Int} {e : Int} (hi : IB ins) (hr : RB row) (he : -28665 ≤ e ∧ e ≤ 0) : ∀ k, k ≤ 4 → tSum ins (mRow ins row e 4) k ≤ tSum ins row k
  | 0, _ => Int.le_refl _
  | k + 1, h => by
    rw [tSum, tSum, mRow_getD (by omega)]
    have := tSum_down hi hr he k (by omega)
    have := (mW_step (k := k) hi hr ⟨he.1, by omega⟩).2.2 he.2
    omega
theorem mTold_bd (ins row : List Int) : 1 ≤ mTold ins row ∧ mTold ins row ≤ 4095 := by
  have := cl_bd (shr .i64 (mSum ins row 4) 16)
  exact sq_bd _ this.1 this.2
theorem mTold_mono {ins r r' : List Int} (h : mSum ins r 4 ≤ mSum ins r' 4) : mTold ins r ≤ mTold ins r' := by
  unfold mTold
  rw [shr16, shr16]
  exact sq_mono _ _ (cl_mono _ _ (Int.ediv_le_ediv (by omega) h))
theorem mE_bd {b t : Int} (ht : 1 ≤ t ∧ t ≤ 4095) : -28665 ≤ mE b t ∧ mE b t ≤ 28665 ∧ (b ≠ 0 → 0 ≤ mE b t) ∧ (b = 0 → mE b t ≤ 0) := by
  unfold mE
  split
  · rw [w64 (a := 4095 - t) (by omega) (by omega), w64 (by omega) (by omega)]; omega
  · rw [w64 (a := 0 - t) (by omega) (by omega), w64 (by omega) (by omega)]; omega
theorem law06_MixLearns_said {x : Option Addr} {n c : Nat} {b : Bool} {t : Int} {W : World} {K : Bool → World → Prop} (f : Fits W (.slc (.int .i64) 1 8) [.slice x n c]) (_ : (Lit.int .i64 t).wf = true)
    (hk : ∀ w', Below W.heap.size W w' → K true w') : law06_MixLearns.f x n c b t W K := by
  obtain ⟨_, _, xs, hxl, hx, _⟩ := f.ints
  unfold law06_MixLearns.f
  refine mix_New_ok fun bt w1 hM hc1 => law06_awake_ok (bif_f rfl (bif_f rfl (cond_of (fun _ => law06_awake_ok (hk _ (below_no (Below.refl _ _) hc1 (Nat.le_refl _)))) (fun _ => ?_))))
  have B1 := below_no (Below.refl _ _) hc1 (Nat.le_refl W.heap.size)
  have e1 : (mx 1 (mn 1 4096)).toNat = 1 := by decide
  rw [e1] at hM
  have hS : ∀ p, x = some p → xs ≠ [] → ¬ (W.heap.size ≤ p.block ∧ p.block < w1.heap.size) := fun p hp hne h => by
    have := old_lt hx p hp hne; omega
  obtain ⟨m, hm, hm60⟩ : ∃ m : Nat, IntKind.wrap .i64 (Int.tmod (IntKind.wrap .u64 t) 60) = m ∧ m < 60 := by
    have h0 : 0 ≤ IntKind.wrap .u64 t := by rw [wu64_eq]; omega
    have g0 := Int.tmod_nonneg 60 h0
    have g1 := Int.tmod_lt_of_pos (IntKind.wrap .u64 t) (show (0 : Int) < 60 by omega)
    generalize Int.tmod (IntKind.wrap .u64 t) 60 = q at g0 g1 ⊢
    exact ⟨q.toNat, by rw [w64 (by omega) (by omega)]; omega, by omega⟩
  have main : ∀ one : Int, (b = true ∧ one = 1 ∨ b = false ∧ one = 0) → mix_Mixer_Mix.f (some ⟨bt, 0, none⟩) 0 x n c w1 fun r28_18 w =>
          ∃ N_36 : Nat, law06_MixLearns.l9 N_36 x n c b t (some ⟨bt, 0, none⟩) one r28_18 0 w (fun w => K true w) (fun o6_37 w => K o6_37 w) := by
    intro one hone
    refine mix_Mix_ok hM (hx.below B1) hS hxl fun w2 hM2 hc2 => ⟨61, ?_⟩
    have B2 := below_chg B1 hc2 hc1.size fun b hb => hb.1
    have e2 : (mNew 1).mix 0 xs = (⟨[mF], true, 0, mIns xs, mTold (mIns xs) mF⟩ : Mst) := rfl
    rw [e2] at hM2 ⊢
    have loop : ∀ (N i : Nat) (r : List Int) (w : World), i ≤ m → m - i < N → RB r → MS w (fun b => W.heap.size ≤ b ∧ b < w1.heap.size) bt ⟨[r], true, 0, mIns xs, mTold (mIns xs) r⟩ → Below W.heap.size W w →
        law06_MixLearns.l9 N x n c b t (some ⟨bt, 0, none⟩) one (mTold (mIns xs) r) i w (fun w => K true w) (fun o6_37 w => K o6_37 w) := by
      intro N
      induction N with
      | zero => intro i r w h1 h2; omega
      | succ N ih =>
        intro i r w h1 h2 hr hM hB
        rw [law06_MixLearns.l9, hm]
        have hsz := hB.size
        refine cond_of (fun hh => ?_) (fun _ => hk w hB)
        have hlt : i < m := by have := of_decide_eq_true hh; omega
        refine mix_Learn_ok hM fun w3 hM3 hc3 => ?_
        have B3 := below_chg hB hc3 hsz fun b hb => hb.1
        have e3 : (⟨[r], true, 0, mIns xs, mTold (mIns xs) r⟩ : Mst).learn one = ⟨[mRow (mIns xs) r (mE one (mTold (mIns xs) r)) 4], true, 0, mIns xs, mTold (mIns xs) r⟩ := rfl
        rw [e3] at hM3
        refine mix_Mix_ok hM3 (hx.below B3) hS hxl fun w4 hM4 hc4 => ?_
        have B4 := below_chg B3 hc4 B3.size fun b hb => hb.1
        generalize hr' : mRow (mIns xs) r (mE one (mTold (mIns xs) r)) 4 = r' at hM4
        have e4 : (⟨[r'], true, 0, mIns xs, mTold (mIns xs) r⟩ : Mst).mix 0 xs = ⟨[r'], true, 0, mIns xs, mTold (mIns xs) r'⟩ := rfl
        rw [e4]
        rw [e4] at hM4
        have he := mE_bd (b := one) (mTold_bd (mIns xs) r)
        have hib := mIns_ib xs
        have hrb : RB r' := by rw [← hr']; exact mRow_rb hib hr ⟨he.1, he.2.1⟩
        have t1 := mSum_t hib hr 4 (Nat.le_refl _)
        have t2 := mSum_t hib hrb 4 (Nat.le_refl _)
        have next := ih (i + 1) r' w4 (by omega) (by omega) hrb hM4 B4
        rcases hone with ⟨rfl, rfl⟩ | ⟨rfl, rfl⟩
        · have hup := tSum_up hib hr ⟨he.2.2.1 (by omega), he.2.1⟩ 4 (Nat.le_refl _)
          rw [hr'] at hup
          have hmono : mTold (mIns xs) r ≤ mTold (mIns xs) r' := mTold_mono (by omega)
          refine bif_t rfl (bif_f (dec_f (by dsimp only; omega)) (bif_f rfl ?_))
          dsimp only
          rw [inc (by omega)]
          exact next
        · have hdn := tSum_down hib hr ⟨he.1, he.2.2.2 rfl⟩ 4 (Nat.le_refl _)
          rw [hr'] at hdn
          have hmono : mTold (mIns xs) r' ≤ mTold (mIns xs) r := mTold_mono (by omega)
          refine bif_f rfl (bif_t rfl (bif_f (dec_f (by dsimp only; omega)) ?_))
          dsimp only
          rw [inc (by omega)]
          exact next
    refine loop 61 0 mF w2 (by omega) (by omega) (fun k => ?_) hM2 B2
    match k with
    | 0 => simp [mF]
    | 1 => simp [mF]
    | 2 => simp [mF]
    | 3 => simp [mF]
    | k + 4 => simp [mF]
  dsimp only
  cases b with
  | true => exact bif_t rfl (main 1 (.inl ⟨rfl, rfl⟩))
  | false => exact bif_f rfl (main 0 (.inr ⟨rfl, rfl⟩))
end Go.Proofs.Ytplepdjcgojagaa.G
