/- The laws of the colours: columns, turns and the way back. -/
import Derived.Test.YtmgcjihcbdgihaaKc
import Derived.Test.YtmgcjihcbdgihaaGenLawColourColumns
import Derived.Test.YtmgcjihcbdgihaaGenLawColourTurns
import Derived.Test.YtmgcjihcbdgihaaGenLawColourBack
set_option linter.unusedVariables false
set_option linter.unusedSimpArgs false
namespace Go.Proofs.Ytmgcjihcbdgihaa.G
open Go Go.Proofs.Ytmgcjihcbdgihaa.Vm Go.RowKit
theorem law18_ColourColumns_l9 {W : World} {x y : Option Addr} {n xc yc m R : Nat} {xs : List Int} {K0 : Option Addr → Nat → Nat → Int → Option Addr → Nat → Nat → Int → World → Prop} {Kr : Bool → World → Prop} (hx : SlI .u8 W x xs) (hxl : xs.length = n) (hn : n ≤ 1000)
    (hy : SlI .u8 W y (permL m R xs)) (hm : R * m ≤ n) (hm0 : 0 < m) (hk : ∀ w, Chg no W w → K0 x n xc m y n yc R w) (N : Nat) :
    ∀ (i : Nat) (w : World), i ≤ R * m → R * m - i < N → Chg no W w → law18_ColourColumns.l9 N x n xc m y n yc R i w K0 Kr := by
  induction N with
  | zero => intro i w h1 h2; omega
  | succ N ih =>
    intro i w hi hN hc
    rw [law18_ColourColumns.l9]
    have e0 : IntKind.wrap .i64 ((R : Int) * m) = ((R * m : Nat) : Int) := by
      have : ((R : Int) * m) = ((R * m : Nat) : Int) := by simp
      rw [this, w64 (by omega) (by omega)]
    rw [e0]
    refine cond_of (fun h => ?_) (fun _ => hk w hc)
    have hlt : i < R * m := by have := of_decide_eq_true h; omega
    have h1 : i / m < R := Nat.div_lt_of_lt_mul (by rw [Nat.mul_comm]; exact hlt)
    have h2 : i % m < m := Nat.mod_lt _ hm0
    have h3 := idx_lt h1 h2
    have hcd := hc.trans (Chg.drew no w)
    have ed : Int.tdiv (i : Int) m = ((i / m : Nat) : Int) := by rw [Int.tdiv_eq_ediv_of_nonneg (by omega)]; rfl
    have em : Int.tmod (i : Int) m = ((i % m : Nat) : Int) := by rw [Int.tmod_eq_emod_of_nonneg (by omega)]; rfl
    have hg : (permL m R xs)[i % m * R + i / m]? = some (xs.getD i 0) := by
      rw [permL_get m R _ xs (by rw [Nat.mul_comm m R]; exact h3)]
      have hR : 0 < R := Nat.lt_of_le_of_lt (Nat.zero_le _) h1
      rw [show (i % m * R + i / m) % R = i / m by rw [Nat.mul_comm, Nat.mul_add_mod, Nat.mod_eq_of_lt h1],
        show (i % m * R + i / m) / R = i % m by rw [Nat.mul_comm, Nat.mul_add_div hR, Nat.div_eq_of_lt h1]; omega]
      rw [show i / m * m + i % m = i by rw [Nat.mul_comm]; exact Nat.div_add_mod i m]
    rw [ed, em]
    generalize i / m = q at *
    generalize i % m = r at *
    have er : IntKind.wrap .i64 (IntKind.wrap .i64 ((r : Int) * R) + IntKind.wrap .i64 (q : Int)) = ((r * R + q : Nat) : Int) := by
      have : ((r : Int) * R) = ((r * R : Nat) : Int) := by simp
      have hRn : R ≤ n := Nat.le_trans (Nat.le_mul_of_pos_right R hm0) hm
      rw [this, w64 (a := ((r * R : Nat) : Int)) (by omega) (by omega), w64 (a := (q : Int)) (by omega) (by omega), w64 (by omega) (by omega)]; omega
    rw [er]
    refine ifn_of (by omega) (ifn_of (by omega) ?_)
    refine rdV (w := w.drew) (hy.chg hcd fun _ _ _ h => h) (r * R + q) rfl (by rw [permL_length _ _ _ (by rw [Nat.mul_comm]; omega)]; exact hxl) hg fun _ _ => ?_
    refine rdV (w := w.drew) (hx.chg hcd fun _ _ _ h => h) i rfl hxl (v := xs.getD i 0) (by rw [List.getD_eq_getElem?_getD, List.getElem?_eq_getElem (by omega)]; rfl) fun _ _ => bif_f (by simp) ?_
    rw [inc (by omega)]
    exact ih (i + 1) w.drew (by omega) (by omega) hcd
theorem law18_ColourColumns_said {a : Option Addr} {n c : Nat} {v : Int} {W : World} {K : Bool → World → Prop} (f : Fits W (.slc (.int .u8) 1 1) [.slice a n c]) (_ : (Lit.int .i64 v).wf = true)
    (hk : ∀ w', Below W.heap.size W w' → K true w') : law18_ColourColumns.f a n c v W K := by
  obtain ⟨hnc, _, xs, hxl, hx, hwf⟩ := f.ints
  have hb := By.of hwf
  unfold law18_ColourColumns.f
  have hr : 1 ≤ IntKind.wrap .i64 (1 + IntKind.wrap .i64 (Int.tmod (IntKind.wrap .u64 v) 16)) ∧ IntKind.wrap .i64 (1 + IntKind.wrap .i64 (Int.tmod (IntKind.wrap .u64 v) 16)) ≤ 16 := by
    have h0 : 0 ≤ IntKind.wrap .u64 v := by simp [IntKind.wrap, IntKind.bits, IntKind.signed]; omega
    generalize IntKind.wrap .u64 v = u at *
    rw [Int.tmod_eq_emod_of_nonneg h0, w64 (a := u % 16) (by omega) (by omega), w64 (by omega) (by omega)]
    omega
  obtain ⟨M, hM⟩ : ∃ M : Nat, IntKind.wrap .i64 (1 + IntKind.wrap .i64 (Int.tmod (IntKind.wrap .u64 v) 16)) = M := ⟨Int.toNat (IntKind.wrap .i64 (1 + IntKind.wrap .i64 (Int.tmod (IntKind.wrap .u64 v) 16))), by omega⟩
  rw [hM] at hr ⊢
  refine cond_of (fun _ => law18_awake_ok fun w hc => hk w (below_no (Below.refl _ _) hc (Nat.le_refl _))) (fun h => ?_)
  have hn : n ≤ 1000 := by
    have : ¬ (n : Int) > 1000 := by simpa using h
    omega
  refine colour_Apart_ok hx hxl (by omega) fun a1 c1 w1 ho1 hc1 => ?_
  have hmm : mx 1 (mn (M : Int) 16) = M := by unfold mx mn; (repeat' split) <;> omega
  rw [hmm, Int.toNat_natCast] at ho1
  have hle : n / M ≤ n := Nat.div_le_self _ _
  have hmR : n / M * M ≤ n := Nat.div_mul_le_self _ _
  have hdiv0 : Int.tdiv (n : Int) M = ((n / M : Nat) : Int) := by rw [Int.tdiv_eq_ediv_of_nonneg (by omega)]; rfl
  generalize n / M = q at *
  have hdiv : IntKind.wrap .i64 (Int.tdiv (n : Int) M) = (q : Int) := by rw [hdiv0, w64 (by omega) (by omega)]
  refine ifn_of (by omega) ?_
  rw [hdiv]
  refine law18_awake_ok fun w2 hc2 => bif_f rfl (bif_f (by simp) ⟨q * M + 1, ?_⟩)
  have hc02 := hc1.trans hc2
  refine law18_ColourColumns_l9 (hx.chg hc02 fun _ _ _ h => h) hxl hn (ho1.sl.chg hc2 fun _ _ _ h => h) hmR (by omega) (fun w3 hc3 => ?_) (q * M + 1) 0 w2 (by omega) (by omega) (Chg.refl _ _)
  have e : IntKind.wrap .i64 ((q : Int) * M) = ((q * M : Nat) : Int) := by
    have : (q : Int) * M = ((q * M : Nat) : Int) := (Int.natCast_mul _ _).symm
    rw [this, w64 (by omega) (by omega)]
  rw [e]
  refine bnd_lo (by omega) (by omega) (bnd_lo (by omega) (by omega) ?_)
  rw [Int.toNat_natCast]
  have hc23 := hc2.trans hc3
  have hc03 := hc1.trans hc23
  have hcap := ho1.cap
  have hpl : (permL M q xs).length = n := by rw [permL_length _ _ _ (by rw [Nat.mul_comm]; omega)]; exact hxl
  have p1 := (ho1.sl.chg hc23 fun _ _ _ h => h).part (l := q * M) (h := n) (c := c1) (by omega) (by omega) hcap
  have p2 := (hx.chg hc03 fun _ _ _ h => h).part (l := q * M) (h := n) (c := c) (by omega) (by omega) hnc
  rw [List.take_of_length_le (by omega)] at p1 p2
  have hd : (permL M q xs).drop (q * M) = xs.drop (q * M) := by
    unfold permL
    rw [Nat.mul_comm q M, List.drop_append_of_le_length (by rw [headL_length]; omega), List.drop_of_length_le (by rw [headL_length]; omega), List.nil_append]
  rw [hd] at p1
  exact help_Bytes_eq (w := w3.drew) p1 p2 (by rw [List.length_drop]; omega) (by rw [List.length_drop]; omega) (hk _ (below_no (Below.refl _ _) (hc03.trans (Chg.drew no w3)) (Nat.le_refl _)))
theorem law18_ColourBack_said {a : Option Addr} {n c : Nat} {v : Int} {W : World} {K : Bool → World → Prop} (f : Fits W (.slc (.int .u8) 1 1) [.slice a n c]) (_ : (Lit.int .i64 v).wf = true)
    (hk : ∀ w', Below W.heap.size W w' → K true w') : law18_ColourBack.f a n c v W K := by
  obtain ⟨hnc, _, xs, hxl, hx, hwf⟩ := f.ints
  have hb := By.of hwf
  unfold law18_ColourBack.f
  refine cond_of (fun _ => law18_awake_ok fun w hc => hk w (below_no (Below.refl _ _) hc (Nat.le_refl _))) (fun h => ?_)
  have hn : n ≤ 3000 := by
    have : ¬ (n : Int) > 3000 := by simpa using h
    omega
  have m1 := mx_bd 1 (mn v 16)
  have m2 := mn_bd v 16
  generalize hM : (mx 1 (mn v 16)).toNat = M
  have hM0 : 1 ≤ M := by omega
  have hmR : n / M * M ≤ n := Nat.div_mul_le_self _ _
  have hmR2 : M * (n / M) ≤ n := by rw [Nat.mul_comm]; exact hmR
  refine law18_awake_ok fun w1 hc1 => bif_t rfl ?_
  refine colour_Turn_ok (hx.chg hc1 fun _ _ _ h => h) hxl hb (by omega) fun a2 c2 w2 ho2 hc2 => ?_
  refine colour_Back_ok ho2.sl ho2.length (turnL_by hb) (by omega) fun a3 c3 w3 ho3 hc3 => ?_
  rw [back_turn hb] at ho3
  have k3 := (hc1.trans hc2).trans hc3
  refine help_Bytes_eq ho3.sl (hx.chg k3 fun _ _ _ h => h) hxl hxl (bif_t rfl ?_)
  refine colour_Back_ok (hx.chg k3 fun _ _ _ h => h) hxl hb (by omega) fun a4 c4 w4 ho4 hc4 => ?_
  refine colour_Turn_ok ho4.sl ho4.length (backL_by hb) (by omega) fun a5 c5 w5 ho5 hc5 => ?_
  rw [turn_back hb] at ho5
  have k5 := (k3.trans hc4).trans hc5
  refine help_Bytes_eq ho5.sl (hx.chg k5 fun _ _ _ h => h) hxl hxl (bif_t rfl ?_)
  refine colour_Apart_ok (hx.chg k5 fun _ _ _ h => h) hxl (by omega) fun a6 c6 w6 ho6 hc6 => ?_
  refine colour_Together_ok ho6.sl ho6.length (by omega) fun a7 c7 w7 ho7 hc7 => ?_
  rw [hM] at ho7
  rw [perm_perm _ _ _ (by omega)] at ho7
  have k7 := (k5.trans hc6).trans hc7
  refine help_Bytes_eq ho7.sl (hx.chg k7 fun _ _ _ h => h) hxl hxl (bif_t rfl ?_)
  refine colour_Together_ok (hx.chg k7 fun _ _ _ h => h) hxl (by omega) fun a8 c8 w8 ho8 hc8 => ?_
  refine colour_Apart_ok ho8.sl ho8.length (by omega) fun a9 c9 w9 ho9 hc9 => ?_
  rw [hM] at ho9
  rw [perm_perm _ _ _ (by omega)] at ho9
  have k9 := (k7.trans hc8).trans hc9
  exact help_Bytes_eq ho9.sl (hx.chg k9 fun _ _ _ h => h) hxl hxl (hk _ (below_no (Below.refl _ _) k9 (Nat.le_refl _)))
theorem law18_ColourTurns_said {a : Option Addr} {n c : Nat} {v : Int} {W : World} {K : Bool → World → Prop} (f : Fits W (.slc (.int .u8) 1 1) [.slice a n c]) (_ : (Lit.int .i64 v).wf = true)
    (hk : ∀ w', Below W.heap.size W w' → K true w') : law18_ColourTurns.f a n c v W K := by
  obtain ⟨hnc, _, xs, hxl, hx, hwf⟩ := f.ints
  have hb := By.of hwf
  unfold law18_ColourTurns.f
  refine cond_of (fun _ => law18_awake_ok fun w hc => hk w (below_no (Below.refl _ _) hc (Nat.le_refl _))) (fun h => ?_)
  have hn : n ≤ 3000 := by
    have : ¬ (n : Int) > 3000 := by simpa using h
    omega
  refine help_Own_byte_ok hx hxl (by omega) fun w1 hb1 hc1 => ?_
  refine law18_awake_ok fun w2 hc2 => bif_t rfl ?_
  have hy := BlI.pre_byte hb1
  have k2 := hc1.trans hc2
  refine colour_Turn_ok (hy.chg hc2 fun _ _ _ h => h) hxl hb (by omega) fun a3 c3 w3 ho3 hc3 => ?_
  refine ref18_Turn_ok (hx.chg (k2.trans hc3) fun _ _ _ h => h) hxl hb (by omega) fun a4 c4 w4 ho4 hc4 => ?_
  refine help_Bytes_eq (ho3.sl.chg hc4 fun _ _ _ h => h) ho4.sl ho3.length ho4.length (bif_t rfl ?_)
  have j4 := (hc2.trans hc3).trans hc4
  refine colour_Back_ok (hy.chg j4 fun _ _ _ h => h) hxl hb (by omega) fun a5 c5 w5 ho5 hc5 => ?_
  refine ref18_Back_ok (hx.chg ((hc1.trans j4).trans hc5) fun _ _ _ h => h) hxl hb (by omega) fun a6 c6 w6 ho6 hc6 => ?_
  refine help_Bytes_eq (ho5.sl.chg hc6 fun _ _ _ h => h) ho6.sl ho5.length ho6.length (bif_t rfl ?_)
  have j6 := (j4.trans hc5).trans hc6
  refine colour_Apart_ok (hy.chg j6 fun _ _ _ h => h) hxl (by omega) fun a7 c7 w7 ho7 hc7 => ?_
  refine ref18_Apart_ok (hx.chg ((hc1.trans j6).trans hc7) fun _ _ _ h => h) hxl (by omega) hnc fun a8 c8 w8 ho8 hc8 => ?_
  refine help_Bytes_eq (ho7.sl.chg hc8 fun _ _ _ h => h) ho8.sl ho7.length ho8.length (bif_t rfl ?_)
  have j8 := (j6.trans hc7).trans hc8
  refine colour_Together_ok (hy.chg j8 fun _ _ _ h => h) hxl (by omega) fun a9 c9 w9 ho9 hc9 => ?_
  refine ref18_Together_ok (hx.chg ((hc1.trans j8).trans hc9) fun _ _ _ h => h) hxl (by omega) hnc fun a10 c10 w10 ho10 hc10 => ?_
  refine help_Bytes_eq (ho9.sl.chg hc10 fun _ _ _ h => h) ho10.sl ho9.length ho10.length (bif_t rfl ?_)
  have j10 := (j8.trans hc9).trans hc10
  exact help_Kept_byte_ok (hb1.chg j10 fun h => h) (hx.chg (hc1.trans j10) fun _ _ _ h => h) hxl (by omega) fun w11 hc11 => hk _ (below_no (Below.refl _ _) ((hc1.trans j10).trans hc11) (Nat.le_refl _))
end Go.Proofs.Ytmgcjihcbdgihaa.G
