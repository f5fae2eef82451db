/- The laws of the adaptive filter. -/
import Derived.Test.YtodicpmedallgaaKh
import Derived.Test.YtodicpmedallgaaVmS
import Derived.Test.YtodicpmedallgaaGenLawLmsPlays
import Derived.Test.YtodicpmedallgaaGenLawLmsNil
import Derived.Test.YtodicpmedallgaaGenLawLmsLeaves
import Derived.Test.YtodicpmedallgaaGenLawLmsBack
set_option linter.unusedVariables false
set_option linter.unusedSimpArgs false
namespace Go.Proofs.Ytodicpmedallgaa.G
open Go Go.Proofs.Ytodicpmedallgaa.Vm Go.RowKit
theorem lms_Guess_nil {w : World} {K : Int → World → Prop} (hk : K 0 w) : lms_Filter_Guess.f none w K := by
  unfold lms_Filter_Guess.f; exact hk
theorem lms_Learn_nil {v : Int} {w : World} {K : World → Prop} (hk : K w) : lms_Filter_Learn.f none v w K := by
  unfold lms_Filter_Learn.f; exact hk
theorem law12_LmsNil_said {v : Int} {W : World} {K : Bool → World → Prop} (_ : (Lit.int .i32 v).wf = true) (hk : ∀ w', Below W.heap.size W w' → K true w') : law12_LmsNil.f v W K := by
  unfold law12_LmsNil.f
  refine lms_Learn_nil (lms_New_ok fun w1 hf1 hc1 hs1 => law12_awake_ok fun w2 hc2 => bif_t rfl ?_)
  refine lms_Guess_nil (bif_t rfl (bif_t rfl ?_))
  refine lms_Guess_ok (hf1.chg hc2 fun h => h) Fok.zero ?_
  exact hk _ (below_no (Below.refl _ _) (hc1.trans hc2) (Nat.le_refl _))
theorem law12_LmsLeaves_said {a : Option Addr} {n c : Nat} {W : World} {K : Bool → World → Prop} (f : Fits W (.slc (.int .i32) 1 4) [.slice a n c])
    (hk : ∀ w', Below W.heap.size W w' → K true w') : law12_LmsLeaves.f a n c W K := by
  obtain ⟨hnc, _, xs, hxl, hx, hwf⟩ := f.ints
  have hb := I32.of hwf
  unfold law12_LmsLeaves.f
  refine cond_of (fun _ => law12_awake_ok fun w hc => hk w (below_no (Below.refl _ _) hc (Nat.le_refl _))) (fun h => ?_)
  have hn : n ≤ 3000 := by have := of_decide_eq_false h; omega
  refine help_Own_int32_ok hx hxl (by omega) fun w1 hb1 hc1 => ?_
  have in1 := BlI.pre_int32 hb1
  refine law12_awake_ok fun w2 hc2 => bif_t rfl ?_
  refine lms_Residual_ok (in1.chg hc2 fun _ _ _ h => h) hxl hb (by omega) fun a3 c3 w3 h3 hc3 => ?_
  have k3 := (hc1.trans hc2).trans hc3
  refine ref12_Residual_ok (hx.chg k3 fun _ _ _ h => h) hxl hb (by omega) fun a4 c4 w4 h4 hc4 => ?_
  refine help_Plain_int32_ok (h3.sl.chg hc4 fun _ _ _ h => h) h4.sl h3.length h3.length (by omega) fun w5 hc5 => bif_t rfl ?_
  have j5 := ((hc2.trans hc3).trans hc4).trans hc5
  refine lms_Restore_ok (in1.chg j5 fun _ _ _ h => h) hxl hb (by omega) fun a6 c6 w6 h6 hc6 => ?_
  have k6 := (hc1.trans j5).trans hc6
  refine ref12_Restore_ok (hx.chg k6 fun _ _ _ h => h) hxl hb (by omega) fun a7 c7 w7 h7 hc7 => ?_
  refine help_Plain_int32_ok (h6.sl.chg hc7 fun _ _ _ h => h) h7.sl h6.length h6.length (by omega) fun w8 hc8 => bif_t rfl ?_
  have j8 := ((j5.trans hc6).trans hc7).trans hc8
  refine help_Kept_int32_ok (hb1.chg j8 fun h => h) (hx.chg (hc1.trans j8) fun _ _ _ h => h) hxl (by omega) fun w9 hc9 => ?_
  exact hk _ (below_no (Below.refl _ _) ((hc1.trans j8).trans hc9) (Nat.le_refl _))
theorem law12_LmsBack_said {a : Option Addr} {n c : Nat} {cut : Int} {W : World} {K : Bool → World → Prop} (f : Fits W (.slc (.int .i32) 1 4) [.slice a n c]) (_ : (Lit.int .i64 cut).wf = true)
    (hk : ∀ w', Below W.heap.size W w' → K true w') : law12_LmsBack.f a n c cut W K := by
  obtain ⟨hnc, _, xs, hxl, hx, hwf⟩ := f.ints
  have hb := I32.of hwf
  unfold law12_LmsBack.f
  refine cond_of (fun _ => law12_awake_ok fun w hc => hk w (below_no (Below.refl _ _) hc (Nat.le_refl _))) (fun h => ?_)
  have hn : n ≤ 3000 := by have := of_decide_eq_false h; omega
  refine lms_Residual_ok hx hxl hb (by omega) fun a1 c1 w1 h1 hc1 => ?_
  have e1 : IntKind.wrap .u64 (IntKind.wrap .i64 ((n : Int) + 1)) = ((n + 1 : Nat) : Int) := by rw [w64 (by omega) (by omega), wu64 (by omega) (by omega)]; omega
  rw [e1, if_neg (by omega)]
  obtain ⟨k, hk0, hkn⟩ : ∃ k : Nat, IntKind.wrap .i64 (Int.tmod (IntKind.wrap .u64 cut) ((n + 1 : Nat) : Int)) = k ∧ k ≤ n := by
    have h0 : 0 ≤ IntKind.wrap .u64 cut := by rw [wu64_eq]; omega
    have g0 := Int.tmod_nonneg ((n + 1 : Nat) : Int) h0
    have g1 := Int.tmod_lt_of_pos (IntKind.wrap .u64 cut) (show (0 : Int) < ((n + 1 : Nat) : Int) by omega)
    generalize Int.tmod (IntKind.wrap .u64 cut) ((n + 1 : Nat) : Int) = q at g0 g1 ⊢
    exact ⟨q.toNat, by rw [w64 (by omega) (by omega)]; omega, by omega⟩
  dsimp only
  rw [hk0]
  have hcd : Chg no w1 w1.drew := Chg.drew no w1
  refine law12_awake_ok fun w2 hc2' => bif_t rfl ?_
  have hc2 := hcd.trans hc2'
  refine lms_Restore_ok (h1.sl.chg hc2 fun _ _ _ h => h) h1.length (lRes_i32 _ _) (by omega) fun a3 c3 w3 h3 hc3 => ?_
  rw [lRst_Res _ _ hb] at h3
  have k3 := (hc1.trans hc2).trans hc3
  refine help_Plain_int32_ok h3.sl (hx.chg k3 fun _ _ _ h => h) hxl hxl (by omega) fun w4 hc4 => bif_t rfl ?_
  have k4 := k3.trans hc4
  refine lms_Restore_ok (hx.chg k4 fun _ _ _ h => h) hxl hb (by omega) fun a5 c5 w5 h5 hc5 => ?_
  refine lms_Residual_ok h5.sl h5.length (lRst_i32 _ _) (by omega) fun a6 c6 w6 h6 hc6 => ?_
  rw [lRes_Rst _ _ hb] at h6
  have k6 := (k4.trans hc5).trans hc6
  refine help_Plain_int32_ok h6.sl (hx.chg k6 fun _ _ _ h => h) hxl hxl (by omega) fun w7 hc7 => bif_t rfl ?_
  have k7 := k6.trans hc7
  have j7 := ((((hc2.trans hc3).trans hc4).trans hc5).trans hc6).trans hc7
  have hcap := h1.cap
  refine bif_t (by simp) (bnd_hi (by omega) (by omega) (bnd_hi (by omega) (by omega) ?_))
  rw [Int.toNat_natCast, Nat.sub_zero]
  have p1 := (hx.chg k7 fun _ _ _ h => h).part (l := 0) (h := k) (c := c) (Nat.zero_le _) (by omega) (by omega)
  rw [List.drop_zero] at p1
  refine lms_Residual_ok p1 (by rw [List.length_take]; omega) (fun x hx => hb x (List.mem_of_mem_take hx)) (by omega) fun a8 c8 w8 h8 hc8 => ?_
  rw [lRes_take] at h8
  have p2 := (h1.sl.chg (j7.trans hc8) fun _ _ _ h => h).part (l := 0) (h := k) (c := c1) (Nat.zero_le _) (by rw [h1.length]; omega) (by omega)
  rw [List.drop_zero] at p2
  exact help_Plain_int32_ok h8.sl p2 h8.length h8.length (by omega) fun w9 hc9 => hk _ (below_no (Below.refl _ _) ((k7.trans hc8).trans hc9) (Nat.le_refl _))
set_option maxRecDepth 20000 in
theorem law12_LmsPlays_l5 {W : World} {x : Option Addr} {n c b1 b2 : Nat} {xs : List Int} {K0 : Option Addr → Addr → World → Prop} {Kr : Bool → World → Prop} (hx : SlI .i32 W x xs) (hxl : xs.length = n) (hb : I32 xs) (hne : b1 ≠ b2) (hl1 : W.heap.size ≤ b1) (hl2 : W.heap.size ≤ b2)
    (hk : ∀ (t : Nat) (s : Fst) (w : World), t ≤ 1000 → Fok t s → FS w b1 s → RS w b2 s → Below W.heap.size W w → K0 (some ⟨b1, 0, none⟩) ⟨b2, 0, none⟩ w) (N : Nat) :
    ∀ (i : Nat) (s : Fst) (w : World), i ≤ n → i ≤ 1000 → n - i < N → Fok i s → FS w b1 s → RS w b2 s → Below W.heap.size W w →
      law12_LmsPlays.l5 N x n c (some ⟨b1, 0, none⟩) ⟨b2, 0, none⟩ (i : Int) w K0 Kr := by
  induction N with
  | zero => intro i s w h1 h2 h3; omega
  | succ N ih =>
    intro i s w hi hi2 hN hok hf hr hB
    rw [law12_LmsPlays.l5]
    refine cond_of (fun h1 => cond_of (fun h2 => ?_) (fun _ => hk i s w hi2 hok hf hr hB)) (fun _ => hk i s w hi2 hok hf hr hB)
    have hlt : i < n := by have := of_decide_eq_true h1; omega
    have hlt2 : i < 1000 := by have := of_decide_eq_true h2; omega
    have hv := getD_some (xs := xs) (i := i) (by omega)
    have hvb := hb.get (i := i) (by omega)
    have hsz := hB.size
    refine lms_Guess_ok hf hok (ref12_Guess_ok hr hok (by omega) fun w1 hc1 => bif_f (by simp) ?_)
    have hf1 := hf.chg hc1 fun h => h
    have hr1 := hr.chg hc1 fun h => h
    refine lms_Guess_ok hf1 hok (ref12_Guess_ok hr1 hok (by omega) fun w2 hc2 => bif_f (by simp) ?_)
    have hf2 := hf1.chg hc2 fun h => h
    have hr2 := hr1.chg hc2 fun h => h
    have hB2 := below_no (below_no hB hc1 (by omega)) hc2 (by have := hc1.size; omega)
    have hsz2 := hB2.size
    refine rdV (hx.below hB2) i rfl hxl hv fun _ _ => lms_Learn_ok hf2 hok (by omega) fun w3 hf3 hc3 => ?_
    have hB3 := below_chg hB2 hc3 hsz2 (fun k hk => by omega)
    have hsz3 := hB3.size
    refine rdV (hx.below hB3) i rfl hxl hv fun _ _ => ref12_Learn_ok (hr2.chg hc3 fun h => hne h.symm) hok (by omega) fun w4 hr4 hc4 => ?_
    dsimp only
    rw [inc (by omega)]
    exact ih (i + 1) _ w4 (by omega) (by omega) (by omega) (hok.step hvb) (hf3.chg hc4 hne) hr4 (below_chg hB3 hc4 hsz3 (fun k hk => by omega))
theorem law12_LmsPlays_said {a : Option Addr} {n c : Nat} {W : World} {K : Bool → World → Prop} (f : Fits W (.slc (.int .i32) 1 4) [.slice a n c])
    (hk : ∀ w', Below W.heap.size W w' → K true w') : law12_LmsPlays.f a n c W K := by
  obtain ⟨hnc, hc4, xs, hxl, hx, hwf⟩ := f.ints
  have hb := I32.of hwf
  unfold law12_LmsPlays.f
  refine lms_New_ok fun w1 hf1 hc1 hs1 => ref_new fun w2 hr2 hc2 hs2 => law12_awake_ok fun w3 hc3 => bif_f rfl (bif_f rfl ⟨n + 1, ?_⟩)
  have hB := below_no (Below.refl W.heap.size W) ((hc1.trans hc2).trans hc3) (Nat.le_refl _)
  refine law12_LmsPlays_l5 hx hxl hb (by omega) (Nat.le_refl _) (by omega) (fun t s w ht hok hf hr hB => ?_) (n + 1) 0 f0 w3 (by omega) (by omega) (by omega) Fok.zero ((hf1.chg hc2 fun h => h).chg hc3 fun h => h) (hr2.chg hc3 fun h => h) hB
  refine lms_Guess_ok hf hok (ref12_Guess_ok hr hok (by omega) fun w5 hc5 => ?_)
  dsimp only
  rw [beq_self_eq_true]
  exact hk _ (below_no hB hc5 (by exact hB.size))
end Go.Proofs.Ytodicpmedallgaa.G
