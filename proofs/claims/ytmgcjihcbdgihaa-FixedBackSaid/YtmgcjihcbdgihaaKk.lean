/- The fixed guessers restored, weighed, and the best of them; the laws. -/
import Derived.Test.YtmgcjihcbdgihaaKi
import Derived.Test.YtmgcjihcbdgihaaGenLawFixedFlat
import Derived.Test.YtmgcjihcbdgihaaGenLawFixedBack
import Derived.Test.YtmgcjihcbdgihaaGenLawFixedLeaves
set_option linter.unusedVariables false
set_option linter.unusedSimpArgs false
namespace Go.Proofs.Ytmgcjihcbdgihaa.G
open Go Go.Proofs.Ytmgcjihcbdgihaa.Vm Go.RowKit
theorem set_mid {a : List Int} {m i : Nat} {v : Int} (ha : a.length = i) : (a ++ List.replicate (m + 1) 0).set i v = (a ++ [v]) ++ List.replicate m 0 := by
  subst ha
  rw [List.set_append_right _ _ (Nat.le_refl _), Nat.sub_self, List.replicate_succ]; simp
theorem fixed_Restore_l3 {S : Nat → Prop} {w0 : World} {x y : Option Addr} {n c cy : Nat} {a1 : Int} {xs : List Int} {K0 : Option Addr → Nat → Nat → World → Prop} (hx : SlI .i32 w0 x xs) (hxS : ∀ p, x = some p → xs ≠ [] → ¬ S p.block) (hxl : xs.length = n) (hn : n < 4611686018427387904)
    (hk : ∀ w, Own .i32 21 S w y n cy (rstL (ordr a1) xs n) → Chg S w0 w → K0 y n cy w) (N : Nat) :
    ∀ (i : Nat) (w : World), i ≤ n → n - i < N → Own .i32 21 S w y n cy (rstL (ordr a1) xs i ++ List.replicate (n - i) 0) → Chg S w0 w → fixed_Restore.l3 N a1 y n cy x n c n i w K0 := by
  induction N with
  | zero => intro i w h1 h2; omega
  | succ N ih =>
    intro i w hi hN ho hc
    rw [fixed_Restore.l3]
    have hrl := rstL_length (ordr a1) xs i
    by_cases hlt : i < n
    · have hx1 := hx.chg hc hxS
      refine bif_t (dec_t (by omega)) (rdV hx1 i rfl hxl (getD_some (by omega)) fun _ _ => fixed_right_ok ?_)
      refine fixed_guess_ok ho.sl ho.length hi hn (ordr_le _) fun w1 hc1 => ?_
      have ho1 := ho.chg hc1 fun _ _ h => h
      rw [gv_congr (ys := rstL (ordr a1) xs i) fun j hj => getD_app_left (by rw [hrl]; exact hj)]
      refine wrS ho1 i rfl (by rw [ho.length]; exact hlt) fun _ w2 ho2 hc2 => ?_
      rw [show n - i = (n - (i + 1)) + 1 by omega, set_mid hrl] at ho2
      rw [inc (by omega)]
      exact ih (i + 1) w2 (by omega) (by omega) ho2 ((hc.trans (hc1.mono fun _ h => h.elim)).trans hc2)
    · have : i = n := by omega
      subst this
      rw [Nat.sub_self, List.replicate_zero, List.append_nil] at ho
      exact bif_f (dec_f (by omega)) (hk w ho hc)
theorem fixed_Restore_ok {x : Option Addr} {n c : Nat} {a1 : Int} {xs : List Int} {w : World} {K : Option Addr → Nat → Nat → World → Prop} (hx : SlI .i32 w x xs) (hxl : xs.length = n) (hn : n * 4 ≤ 140737488355328)
    (hk : ∀ a' c' w', Own .i32 21 (fun b => b = w.heap.size) w' a' n c' (rstL (ordr a1) xs n) → Chg no w w' → K a' n c' w') : fixed_Restore.f x n c a1 w K := by
  unfold fixed_Restore.f
  generalize hcn : (n : Int) = n'
  refine mkL_b (by omega) (by omega) (by omega) (by omega) fun w1 hb1 hc1 hs1 => ⟨n + 1, ?_⟩
  subst hcn
  rw [Int.toNat_natCast] at hb1 ⊢
  have ho := BlI.own (fun b => b = w.heap.size) hb1 rfl
  rw [List.length_replicate] at ho
  have old : ∀ p, x = some p → xs ≠ [] → ¬ p.block = w.heap.size := fun p hp hne => by
    have := old_lt hx (Nat.le_refl _) p hp hne; omega
  exact fixed_Restore_l3 (S := fun b => b = w.heap.size) (w0 := w1) (c := c) (a1 := a1) (hx.chg hc1 fun _ _ _ h => h) old hxl (by omega) (fun w2 ho2 hc2 => hk _ _ w2 ho2 (hc1.then hc2 fun k hk h => by omega)) (n + 1) 0 w1 (by omega) (by omega) (by simpa [rstL] using ho) (Chg.refl _ _)
/-! ### The reference -/
theorem ref11_at_ok {x : Option Addr} {n c i j : Nat} {xs : List Int} {w : World} {K : Int → World → Prop} {e : Int} (hx : SlI .i32 w x xs) (hxl : xs.length = n) (hi : i ≤ n) (hj : 1 ≤ j) (he : e = (i : Int) - j) (hk : K (bef xs i j) w) : ref11_at.f x n c e w K := by
  unfold ref11_at.f
  unfold bef at hk
  subst he
  refine cond_of (fun h => ?_) (fun h => ?_)
  · have := of_decide_eq_true h
    rw [if_pos (by omega)] at hk; exact hk
  · have := of_decide_eq_false h
    rw [if_neg (by omega)] at hk
    exact rdV hx (i - j) (by omega) hxl (getD_some (by omega)) fun _ _ => hk
theorem ordr_1 {a : Int} (h : a = 1) : ordr a = 1 := by subst h; decide
theorem ref11_guess_ok {x : Option Addr} {n c i : Nat} {a : Int} {xs : List Int} {w : World} {K : Int → World → Prop} (hx : SlI .i32 w x xs) (hxl : xs.length = n) (hi : i ≤ n) (hn : n < 4611686018427387904)
    (hk : K (gv (ordr a) xs i) w) : ref11_guess.f x n c i a w K := by
  unfold ref11_guess.f
  refine ref11_at_ok (i := i) (j := 1) hx hxl hi (by omega) (by rw [w64 (by omega) (by omega)]; omega) ?_
  refine ref11_at_ok (i := i) (j := 2) hx hxl hi (by omega) (by rw [w64 (by omega) (by omega)]; omega) ?_
  refine ref11_at_ok (i := i) (j := 3) hx hxl hi (by omega) (by rw [w64 (by omega) (by omega)]; omega) ?_
  dsimp only
  refine cond_of (fun h => ?_) (fun h => cond_of (fun h1 => ?_) (fun h1 => cond_of (fun h2 => ?_) (fun h2 => ?_)))
  · have : ordr a = 0 := by have := of_decide_eq_true h; unfold ordr mx mn; (repeat' split) <;> omega
    rw [this] at hk; exact hk
  · have : a = 1 := by simpa using h1
    rw [ordr_1 this] at hk; exact hk
  · have e : a = 2 := by simpa using h2
    rw [e] at hk; exact hk
  · have g1 : a ≠ 1 := by simpa using h1
    have g2 : a ≠ 2 := by simpa using h2
    have : ordr a = 3 := by have := of_decide_eq_false h; unfold ordr mx mn; (repeat' split) <;> omega
    rw [this] at hk; exact hk
theorem ref11_Residual_l3 {w0 : World} {x : Option Addr} {n c lo : Nat} {a1 : Int} {xs : List Int} {K0 : Option Addr → Nat → Nat → World → Prop} (hx : SlI .i32 w0 x xs) (hxS : ∀ p, x = some p → xs ≠ [] → ¬ lo ≤ p.block) (hxl : xs.length = n) (hn : n * 4 ≤ 140737488355328)
    (hk : ∀ y cy w, Own .i32 21 (fun b => lo ≤ b) w y n cy (resL (ordr a1) xs) → Chg (fun b => lo ≤ b) w0 w → K0 y n cy w) (N : Nat) :
    ∀ (i : Nat) (y : Option Addr) (cy : Nat) (w : World), i ≤ n → n - i < N → lo ≤ w.heap.size → Own .i32 21 (fun b => lo ≤ b) w y i cy ((resL (ordr a1) xs).take i) → Chg (fun b => lo ≤ b) w0 w → ref11_Residual.l3 N x n c a1 y i cy i w K0 := by
  induction N with
  | zero => intro i y cy w h1 h2; omega
  | succ N ih =>
    intro i y cy w hi hN hlo ho hc
    rw [ref11_Residual.l3]
    by_cases hlt : i < n
    · have hcd := hc.trans (Chg.drew _ w)
      have hx1 : SlI .i32 w.drew x xs := hx.chg hcd hxS
      have hv := getD_some (xs := xs) (i := i) (by omega)
      obtain ⟨p, rfl⟩ := hx1.some (by omega)
      have hp : ∀ w' (hw : Chg (fun j => lo ≤ j) w0 w'), w'.cell? (p.add i) = some (.int .i32 (xs.getD i 0)) := fun w' hw => by
        obtain ⟨q, hq, hcell⟩ := (hx.chg hw hxS) i (by omega)
        cases hq
        rw [hcell]
        congr 2
        obtain ⟨_, e⟩ := List.getElem?_eq_some_iff.1 hv
        exact e
      refine bif_t (dec_t (by omega)) (rdV (w := w.drew) hx1 i rfl hxl hv fun q hq => ?_)
      cases hq
      refine ref11_guess_ok hx1 hxl hi (by omega) ?_
      rw [Int.toNat_natCast]
      refine ⟨hp _ hcd, newC_sl (k := .i32) (xs := [IntKind.wrap .i32 (xs.getD i 0 - gv (ordr a1) xs i)]) rfl fun p2 w2 hs2 hc2 hz2 hpb => ?_⟩
      have k2 := hcd.trans (hc2.mono fun _ h => h.elim)
      refine ⟨hp _ k2, ?_⟩
      have hod : Own .i32 21 (fun j => lo ≤ j) w.drew y i cy ((resL (ordr a1) xs).take i) := ho.chg (Chg.drew no w) fun _ _ h => h
      have ho2 := hod.chg hc2 fun _ _ h => h
      have hzd : w.drew.heap.size = w.heap.size := rfl
      refine apS ho2 hs2 rfl (by omega) (by omega) (by omega) fun a' c' w3 ho3 hc3 => ?_
      have k3 := k2.trans hc3
      refine ⟨hp _ k3, ?_⟩
      dsimp only
      rw [inc (by omega)]
      have hz3 := hc3.size
      rw [← take_snoc (resL_get (by omega))] at ho3
      exact ih (i + 1) a' c' w3 (by omega) (by omega) (by omega) ho3 k3
    · have : i = n := by omega
      subst this
      rw [List.take_of_length_le (by rw [resL_length]; omega)] at ho
      exact bif_f (dec_f (by omega)) (hk y cy w ho hc)
theorem ref11_Residual_ok {x : Option Addr} {n c : Nat} {a1 : Int} {xs : List Int} {w : World} {K : Option Addr → Nat → Nat → World → Prop} (hx : SlI .i32 w x xs) (hxl : xs.length = n) (hn : n * 4 ≤ 140737488355328)
    (hk : ∀ a' c' w', Own .i32 21 (fun b => w.heap.size ≤ b) w' a' n c' (resL (ordr a1) xs) → Chg no w w' → K a' n c' w') : ref11_Residual.f x n c a1 w K := by
  unfold ref11_Residual.f
  exact ⟨n + 1, ref11_Residual_l3 (lo := w.heap.size) (w0 := w) (c := c) hx (old_lt hx (Nat.le_refl _)) hxl hn (fun y cy w' ho hc => hk y cy w' ho ((Chg.refl no w).then hc fun k hk h => by omega)) (n + 1) 0 none 0 w (by omega) (by omega) (Nat.le_refl _) (by rw [List.take_zero]; exact Own.nil _ _ _ _) (Chg.refl _ _)⟩
theorem ref11_Restore_l3 {w0 : World} {x : Option Addr} {n c lo : Nat} {a1 : Int} {xs : List Int} {K0 : Option Addr → Nat → Nat → World → Prop} (hx : SlI .i32 w0 x xs) (hxS : ∀ p, x = some p → xs ≠ [] → ¬ lo ≤ p.block) (hxl : xs.length = n) (hn : n * 4 ≤ 140737488355328)
    (hk : ∀ y cy w, Own .i32 21 (fun b => lo ≤ b) w y n cy (rstL (ordr a1) xs n) → Chg (fun b => lo ≤ b) w0 w → K0 y n cy w) (N : Nat) :
    ∀ (i : Nat) (y : Option Addr) (cy : Nat) (w : World), i ≤ n → n - i < N → lo ≤ w.heap.size → Own .i32 21 (fun b => lo ≤ b) w y i cy (rstL (ordr a1) xs i) → Chg (fun b => lo ≤ b) w0 w → ref11_Restore.l3 N x n c a1 y i cy i w K0 := by
  induction N with
  | zero => intro i y cy w h1 h2; omega
  | succ N ih =>
    intro i y cy w hi hN hlo ho hc
    rw [ref11_Restore.l3]
    by_cases hlt : i < n
    · have hcd := hc.trans (Chg.drew _ w)
      have hx1 : SlI .i32 w.drew x xs := hx.chg hcd hxS
      have hv := getD_some (xs := xs) (i := i) (by omega)
      obtain ⟨p, rfl⟩ := hx1.some (by omega)
      have hp : ∀ w' (hw : Chg (fun j => lo ≤ j) w0 w'), w'.cell? (p.add i) = some (.int .i32 (xs.getD i 0)) := fun w' hw => by
        obtain ⟨q, hq, hcell⟩ := (hx.chg hw hxS) i (by omega)
        cases hq
        rw [hcell]
        congr 2
        obtain ⟨_, e⟩ := List.getElem?_eq_some_iff.1 hv
        exact e
      refine bif_t (dec_t (by omega)) (rdV (w := w.drew) hx1 i rfl hxl hv fun q hq => ?_)
      cases hq
      have hod : Own .i32 21 (fun j => lo ≤ j) w.drew y i cy (rstL (ordr a1) xs i) := ho.chg (Chg.drew no w) fun _ _ h => h
      refine ref11_guess_ok hod.sl (rstL_length _ _ _) (Nat.le_refl _) (by omega) ?_
      rw [Int.toNat_natCast]
      refine ⟨hp _ hcd, newC_sl (k := .i32) (xs := [IntKind.wrap .i32 (xs.getD i 0 + gv (ordr a1) (rstL (ordr a1) xs i) i)]) rfl fun p2 w2 hs2 hc2 hz2 hpb => ?_⟩
      have k2 := hcd.trans (hc2.mono fun _ h => h.elim)
      refine ⟨hp _ k2, ?_⟩
      have ho2 := hod.chg hc2 fun _ _ h => h
      have hzd : w.drew.heap.size = w.heap.size := rfl
      refine apS ho2 hs2 rfl (by omega) (by omega) (by omega) fun a' c' w3 ho3 hc3 => ?_
      have k3 := k2.trans hc3
      refine ⟨hp _ k3, ?_⟩
      dsimp only
      rw [inc (by omega)]
      have hz3 := hc3.size
      exact ih (i + 1) a' c' w3 (by omega) (by omega) (by omega) ho3 k3
    · have : i = n := by omega
      subst this
      exact bif_f (dec_f (by omega)) (hk y cy w ho hc)
theorem ref11_Restore_ok {x : Option Addr} {n c : Nat} {a1 : Int} {xs : List Int} {w : World} {K : Option Addr → Nat → Nat → World → Prop} (hx : SlI .i32 w x xs) (hxl : xs.length = n) (hn : n * 4 ≤ 140737488355328)
    (hk : ∀ a' c' w', Own .i32 21 (fun b => w.heap.size ≤ b) w' a' n c' (rstL (ordr a1) xs n) → Chg no w w' → K a' n c' w') : ref11_Restore.f x n c a1 w K := by
  unfold ref11_Restore.f
  exact ⟨n + 1, ref11_Restore_l3 (lo := w.heap.size) (w0 := w) (c := c) hx (old_lt hx (Nat.le_refl _)) hxl hn (fun y cy w' ho hc => hk y cy w' ho ((Chg.refl no w).then hc fun k hk h => by omega)) (n + 1) 0 none 0 w (by omega) (by omega) (Nat.le_refl _) (Own.nil _ _ _ _) (Chg.refl _ _)⟩
/-! ### What it weighs -/
def wtL (xs : List Int) : Nat → Int
  | 0 => 0
  | k + 1 => IntKind.wrap .u64 (wtL xs k + IntKind.wrap .u64 (mx (IntKind.wrap .i64 (xs.getD k 0)) (IntKind.wrap .i64 (0 - IntKind.wrap .i64 (xs.getD k 0)))))
theorem fixed_Weight_ok {x : Option Addr} {n c : Nat} {xs : List Int} {w : World} {K : Int → World → Prop} (hx : SlI .i32 w x xs) (hxl : xs.length = n) (hn : n < 4611686018427387904) (hk : K (wtL xs n) w) : fixed_Weight.f x n c w K := by
  have loop : ∀ (N i : Nat), i ≤ n → n - i < N → fixed_Weight.l3 N (wtL xs i) x n c n i w (fun o3 w => K o3 w) := by
    intro N
    induction N with
    | zero => intro i h1 h2; omega
    | succ N ih =>
      intro i h1 h2
      rw [fixed_Weight.l3]
      by_cases hlt : i < n
      · refine bif_t (dec_t (by omega)) (rdV hx i rfl hxl (getD_some (by omega)) fun _ _ => ?_)
        dsimp only
        rw [inc (by omega)]
        exact ih (i + 1) (by omega) (by omega)
      · have : i = n := by omega
        subst this
        exact bif_f (dec_f (by omega)) hk
  unfold fixed_Weight.f
  exact ⟨n + 1, loop (n + 1) 0 (by omega) (by omega)⟩
theorem ref11_Weight_ok {x : Option Addr} {n c : Nat} {xs : List Int} {w : World} {K : Int → World → Prop} (hx : SlI .i32 w x xs) (hxl : xs.length = n) (hn : n < 4611686018427387904) (hk : K (wtL xs n) w) : ref11_Weight.f x n c w K := by
  have loop : ∀ (N i : Nat), i ≤ n → n - i < N → ref11_Weight.l3 N x n c (wtL xs i) i w (fun o3 w => K o3 w) := by
    intro N
    induction N with
    | zero => intro i h1 h2; omega
    | succ N ih =>
      intro i h1 h2
      rw [ref11_Weight.l3]
      by_cases hlt : i < n
      · refine bif_t (dec_t (by omega)) (rdV hx i rfl hxl (getD_some (by omega)) fun _ _ => ?_)
        dsimp only
        rw [inc (by omega)]
        exact ih (i + 1) (by omega) (by omega)
      · have : i = n := by omega
        subst this
        exact bif_f (dec_f (by omega)) hk
  unfold ref11_Weight.f
  exact ⟨n + 1, loop (n + 1) 0 (by omega) (by omega)⟩
/-- What is left of order `k` weighs. -/
def rw' (xs : List Int) (k : Nat) : Int := wtL (resL k xs) xs.length
def bestL (xs : List Int) : Nat → Nat
  | 0 => 0
  | k + 1 => if rw' xs (k + 1) < rw' xs (bestL xs k) then k + 1 else bestL xs k
theorem bestL_le (xs : List Int) : ∀ k, bestL xs k ≤ k
  | 0 => Nat.le_refl _
  | k + 1 => by rw [bestL]; split; exact Nat.le_refl _; have := bestL_le xs k; omega
theorem ordr_nat {k : Nat} (h : k ≤ 3) : ordr (k : Int) = k := by unfold ordr mx mn; (repeat' split) <;> omega
theorem fixed_Best_ok {x : Option Addr} {n c : Nat} {xs : List Int} {w : World} {K : Int → World → Prop} (hx : SlI .i32 w x xs) (hb : I32 xs) (hxl : xs.length = n) (hn : n * 4 ≤ 140737488355328) (hk : ∀ w', Chg no w w' → K (bestL xs 3 : Nat) w') : fixed_Best.f x n c w K := by
  have loop : ∀ (N k : Nat) (w' : World), k ≤ 3 → 3 - k < N → Chg no w w' → fixed_Best.l3 N x n c (bestL xs k : Nat) (rw' xs (bestL xs k)) ((k + 1 : Nat) : Int) w' (fun o3 w => K o3 w) := by
    intro N
    induction N with
    | zero => intro k w' h1 h2; omega
    | succ N ih =>
      intro k w' h1 h2 hc
      rw [fixed_Best.l3]
      by_cases hlt : k < 3
      · refine bif_t (dec_t (by omega)) (fixed_Residual_ok (hx.chg hc fun _ _ _ h => h) hxl hn fun a' c' w1 ho hc1 => ?_)
        rw [ordr_nat (by omega)] at ho
        refine fixed_Weight_ok ho.sl ho.length (by omega) ?_
        dsimp only
        rw [inc (by omega)]
        have e : wtL (resL (k + 1) xs) n = rw' xs (k + 1) := by unfold rw'; rw [hxl]
        rw [e]
        refine cond_of (fun h => ?_) (fun h => ?_)
        · have := ih (k + 1) w1 (by omega) (by omega) (hc.trans hc1)
          rw [bestL, if_pos (of_decide_eq_true h)] at this
          exact this
        · have := ih (k + 1) w1 (by omega) (by omega) (hc.trans hc1)
          rw [bestL, if_neg (of_decide_eq_false h)] at this
          exact this
      · have : k = 3 := by omega
        subst this
        exact bif_f (dec_f (by omega)) (hk w' hc)
  unfold fixed_Best.f
  refine fixed_Weight_ok hx hxl (by omega) ⟨5, ?_⟩
  have := loop 5 0 w (by omega) (by omega) (Chg.refl _ _)
  have e : rw' xs (bestL xs 0) = wtL xs n := by unfold rw'; rw [show bestL xs 0 = 0 from rfl, res_zero hb, hxl]
  rw [e] at this
  exact this
theorem ref11_Best_ok {x : Option Addr} {n c : Nat} {xs : List Int} {w : World} {K : Int → World → Prop} (hx : SlI .i32 w x xs) (hxl : xs.length = n) (hn : n * 4 ≤ 140737488355328) (hk : ∀ w', Chg no w w' → K (bestL xs 3 : Nat) w') : ref11_Best.f x n c w K := by
  have loop : ∀ (N k : Nat) (w' : World), k ≤ 3 → 3 - k < N → Chg no w w' → ref11_Best.l3 N x n c (bestL xs k : Nat) ((k + 1 : Nat) : Int) w' (fun o3 w => K o3 w) := by
    intro N
    induction N with
    | zero => intro k w' h1 h2; omega
    | succ N ih =>
      intro k w' h1 h2 hc
      rw [ref11_Best.l3]
      have hbl := bestL_le xs k
      by_cases hlt : k < 3
      · refine bif_t (dec_t (by omega)) (ref11_Residual_ok (hx.chg hc fun _ _ _ h => h) hxl hn fun a' c' w1 ho hc1 => ?_)
        rw [ordr_nat (by omega)] at ho
        refine ref11_Weight_ok ho.sl ho.length (by omega) ?_
        have k1 := hc.trans hc1
        refine ref11_Residual_ok (hx.chg k1 fun _ _ _ h => h) hxl hn fun a2 c2 w2 ho2 hc2 => ?_
        rw [ordr_nat (by omega)] at ho2
        refine ref11_Weight_ok ho2.sl ho2.length (by omega) ?_
        dsimp only
        rw [inc (by omega)]
        have e : wtL (resL (k + 1) xs) n = rw' xs (k + 1) := by unfold rw'; rw [hxl]
        have e2 : wtL (resL (bestL xs k) xs) n = rw' xs (bestL xs k) := by unfold rw'; rw [hxl]
        rw [e, e2]
        refine cond_of (fun h => ?_) (fun h => ?_)
        · have := ih (k + 1) w2 (by omega) (by omega) (k1.trans hc2)
          rw [bestL, if_pos (of_decide_eq_true h)] at this
          exact this
        · have := ih (k + 1) w2 (by omega) (by omega) (k1.trans hc2)
          rw [bestL, if_neg (of_decide_eq_false h)] at this
          exact this
      · have : k = 3 := by omega
        subst this
        exact bif_f (dec_f (by omega)) (hk w' hc)
  unfold ref11_Best.f
  exact ⟨5, loop 5 0 w (by omega) (by omega) (Chg.refl _ _)⟩
/-! ### The laws -/
theorem law11_FixedBack_said {a : Option Addr} {n c : Nat} {o : Int} {W : World} {K : Bool → World → Prop} (f : Fits W (.slc (.int .i32) 1 4) [.slice a n c]) (_ : (Lit.int .i64 o).wf = true)
    (hk : ∀ w', Below W.heap.size W w' → K true w') : law11_FixedBack.f a n c o W K := by
  obtain ⟨hnc, _, xs, hxl, hx, hwf⟩ := f.ints
  have hb := I32.of hwf
  unfold law11_FixedBack.f
  refine cond_of (fun _ => law11_awake_ok fun w hc => hk w (below_no (Below.refl _ _) hc (Nat.le_refl _))) (fun h => ?_)
  have hn : n ≤ 3000 := by have := of_decide_eq_false h; omega
  refine law11_awake_ok fun w1 hc1 => bif_t rfl ?_
  refine fixed_Residual_ok (hx.chg hc1 fun _ _ _ h => h) hxl (by omega) fun a2 c2 w2 h2 hc2 => ?_
  refine fixed_Restore_ok h2.sl h2.length (by omega) fun a3 c3 w3 h3 hc3 => ?_
  have e3 : rstL (ordr o) (resL (ordr o) xs) n = xs := by rw [← hxl]; exact rst_res hb
  rw [e3] at h3
  have k3 := (hc1.trans hc2).trans hc3
  refine help_Plain_int32_ok h3.sl (hx.chg k3 fun _ _ _ h => h) hxl hxl (by omega) fun w4 hc4 => bif_t rfl ?_
  have k4 := k3.trans hc4
  refine fixed_Restore_ok (hx.chg k4 fun _ _ _ h => h) hxl (by omega) fun a5 c5 w5 h5 hc5 => ?_
  refine fixed_Residual_ok h5.sl h5.length (by omega) fun a6 c6 w6 h6 hc6 => ?_
  have e6 : resL (ordr o) (rstL (ordr o) xs n) = xs := by rw [← hxl]; exact res_rst hb
  rw [e6] at h6
  have k6 := (k4.trans hc5).trans hc6
  exact help_Plain_int32_ok h6.sl (hx.chg k6 fun _ _ _ h => h) hxl hxl (by omega) fun w7 hc7 => hk _ (below_no (Below.refl _ _) (k6.trans hc7) (Nat.le_refl _))
theorem law11_FixedLeaves_said {a : Option Addr} {n c : Nat} {o : Int} {W : World} {K : Bool → World → Prop} (f : Fits W (.slc (.int .i32) 1 4) [.slice a n c]) (_ : (Lit.int .i64 o).wf = true)
    (hk : ∀ w', Below W.heap.size W w' → K true w') : law11_FixedLeaves.f a n c o W K := by
  obtain ⟨hnc, _, xs, hxl, hx, hwf⟩ := f.ints
  have hb := I32.of hwf
  unfold law11_FixedLeaves.f
  refine cond_of (fun _ => law11_awake_ok fun w hc => hk w (below_no (Below.refl _ _) hc (Nat.le_refl _))) (fun h => ?_)
  have hn : n ≤ 3000 := by have := of_decide_eq_false h; omega
  refine help_Own_int32_ok hx hxl (by omega) fun w1 hb1 hc1 => ?_
  have in1 := BlI.pre_int32 hb1
  refine fixed_Residual_ok in1 hxl (by omega) fun a2 c2 w2 h2 hc2 => law11_awake_ok fun w3 hc3 => bif_t rfl ?_
  have k3 := (hc1.trans hc2).trans hc3
  refine ref11_Residual_ok (hx.chg k3 fun _ _ _ h => h) hxl (by omega) fun a4 c4 w4 h4 hc4 => ?_
  refine help_Plain_int32_ok (h2.sl.chg (hc3.trans hc4) fun _ _ _ h => h) h4.sl h2.length h2.length (by omega) fun w5 hc5 => bif_t rfl ?_
  have j5 := ((hc2.trans hc3).trans hc4).trans hc5
  refine fixed_Restore_ok (in1.chg j5 fun _ _ _ h => h) hxl (by omega) fun a6 c6 w6 h6 hc6 => ?_
  have k6 := (hc1.trans j5).trans hc6
  refine ref11_Restore_ok (hx.chg k6 fun _ _ _ h => h) hxl (by omega) fun a7 c7 w7 h7 hc7 => ?_
  refine help_Plain_int32_ok (h6.sl.chg hc7 fun _ _ _ h => h) h7.sl h6.length h6.length (by omega) fun w8 hc8 => bif_t rfl ?_
  have j8 := ((j5.trans hc6).trans hc7).trans hc8
  have in8 := in1.chg j8 fun _ _ _ h => h
  have x8 := hx.chg (hc1.trans j8) fun _ _ _ h => h
  refine fixed_Weight_ok in8 hxl (by omega) (ref11_Weight_ok x8 hxl (by omega) (bif_t (by simp) ?_))
  refine fixed_Best_ok in8 hb hxl (by omega) fun w9 hc9 => ref11_Best_ok (x8.chg hc9 fun _ _ _ h => h) hxl (by omega) fun w10 hc10 => bif_t (by simp) ?_
  have j10 := (j8.trans hc9).trans hc10
  exact help_Kept_int32_ok (hb1.chg j10 fun h => h) (hx.chg (hc1.trans j10) fun _ _ _ h => h) hxl (by omega) fun w11 hc11 => hk _ (below_no (Below.refl _ _) ((hc1.trans j10).trans hc11) (Nat.le_refl _))
theorem range_snoc {f : Nat → Int} {i : Nat} : (List.range i).map f ++ [f i] = (List.range (i + 1)).map f := by rw [List.range_succ, List.map_append]; rfl
theorem law11_FixedFlat_l5 {w0 : World} {a b c : Int} {n : Nat} {K0 : Int → Option Addr → Nat → Nat → Option Addr → Nat → Nat → Option Addr → Nat → Nat → World → Prop} (hn : n < 300)
    (hk : ∀ x y z xc yc zc w, Own .i32 21 (fun b => w0.heap.size ≤ b) w x n xc ((List.range n).map fun _ => a) → Own .i32 21 (fun b => w0.heap.size ≤ b) w y n yc ((List.range n).map (fl2 a b)) → Own .i32 21 (fun b => w0.heap.size ≤ b) w z n zc ((List.range n).map fun i => (fl3 a b c i).1) →
      Chg no w0 w → K0 n x n xc y n yc z n zc w) (N : Nat) :
    ∀ (i : Nat) (x y z : Option Addr) (xc yc zc : Nat) (X Y Z : Nat → Prop) (w : World), i ≤ n → n - i < N → (∀ k, X k → w0.heap.size ≤ k ∧ k < w.heap.size ∧ ¬ Y k ∧ ¬ Z k) → (∀ k, Y k → w0.heap.size ≤ k ∧ k < w.heap.size ∧ ¬ X k ∧ ¬ Z k) → (∀ k, Z k → w0.heap.size ≤ k ∧ k < w.heap.size ∧ ¬ X k ∧ ¬ Y k) →
      Own .i32 21 X w x i xc ((List.range i).map fun _ => a) → Own .i32 21 Y w y i yc ((List.range i).map (fl2 a b)) → Own .i32 21 Z w z i zc ((List.range i).map fun i => (fl3 a b c i).1) →
      Chg no w0 w → law11_FixedFlat.l5 N a b c n x i xc y i yc z i zc (fl3 a b c i).1 (fl3 a b c i).2 i w K0 := by
  induction N with
  | zero => intro i x y z xc yc zc X Y Z w h1 h2; omega
  | succ N ih =>
    intro i x y z xc yc zc X Y Z w hi hN hX hY hZ ox oy oz hc
    rw [law11_FixedFlat.l5]
    have hsz := hc.size
    by_cases hlt : i < n
    · refine bif_t (dec_t (by omega)) (newC_sl (k := .i32) (xs := [a]) rfl fun p1 w1 hs1 hc1 hz1 _ => ?_)
      refine appL_own (ox.chg hc1 fun _ _ h => h) hs1 rfl (by omega) (by omega) fun x' xc' w2 ox2 hc2 => ?_
      have hz2 := hc2.size
      refine newC_sl (k := .i32) (xs := [fl2 a b i]) rfl fun p3 w3 hs3 hc3 hz3 _ => ?_
      have oy3 := ((oy.chg hc1 fun _ _ h => h).chg hc2 fun k hk h => (hX k h).2.2.1 hk).chg hc3 fun _ _ h => h
      refine appL_own oy3 hs3 rfl (by omega) (by omega) fun y' yc' w4 oy4 hc4 => ?_
      have hz4 := hc4.size
      refine newC_sl (k := .i32) (xs := [(fl3 a b c i).1]) rfl fun p5 w5 hs5 hc5 hz5 _ => ?_
      have oz5 := ((((oz.chg hc1 fun _ _ h => h).chg hc2 fun k hk h => (hX k h).2.2.2 hk).chg hc3 fun _ _ h => h).chg hc4 fun k hk h => (hY k h).2.2.2 hk).chg hc5 fun _ _ h => h
      refine appL_own oz5 hs5 rfl (by omega) (by omega) fun z' zc' w6 oz6 hc6 => ?_
      have hz6 := hc6.size
      dsimp only
      rw [inc (by omega)]
      have ox6 := (((ox2.chg hc3 fun _ _ h => h).chg hc4 fun k hk h => by
          rcases hk with hk | hk
          · exact (hX k hk).2.2.1 h
          · have := (hY k h).2.1; omega).chg hc5 fun _ _ h => h).chg hc6 fun k hk h => by
          rcases hk with hk | hk
          · exact (hX k hk).2.2.2 h
          · have := (hZ k h).2.1; omega
      have oy6 := (oy4.chg hc5 fun _ _ h => h).chg hc6 fun k hk h => by
          rcases hk with hk | hk
          · exact (hY k hk).2.2.2 h
          · have := (hZ k h).2.1; omega
      rw [range_snoc (f := fun _ => a)] at ox6
      rw [range_snoc] at oy6
      rw [range_snoc (f := fun i => (fl3 a b c i).1)] at oz6
      refine ih (i + 1) x' y' z' xc' yc' zc' _ _ _ w6 (by omega) (by omega) ?_ ?_ ?_ ox6 oy6 (oz6.mono fun k hk hlt => (And.intro hk hlt : (Z k ∨ k = w5.heap.size) ∧ k < w6.heap.size)) ?_
      · rintro k (hk | hk)
        · obtain ⟨h1, h2, h3, h4⟩ := hX k hk
          exact ⟨h1, by omega, (fun h => h.elim h3 fun h => by omega), (fun h => h.1.elim h4 fun h => by omega)⟩
        · refine ⟨by omega, by omega, (fun h => h.elim (fun h => ?_) fun h => by omega), (fun h => h.1.elim (fun h => ?_) fun h => by omega)⟩
          · have := (hY k h).2.1; omega
          · have := (hZ k h).2.1; omega
      · rintro k (hk | hk)
        · obtain ⟨h1, h2, h3, h4⟩ := hY k hk
          exact ⟨h1, by omega, (fun h => h.elim h3 fun h => by omega), (fun h => h.1.elim h4 fun h => by omega)⟩
        · refine ⟨by omega, by omega, (fun h => h.elim (fun h => ?_) fun h => by omega), (fun h => h.1.elim (fun h => ?_) fun h => by omega)⟩
          · have := (hX k h).2.1; omega
          · have := (hZ k h).2.1; omega
      · rintro k ⟨hk | hk, hlt⟩
        · obtain ⟨h1, h2, h3, h4⟩ := hZ k hk
          exact ⟨h1, by omega, (fun h => h.elim h3 fun h => by omega), (fun h => h.elim h4 fun h => by omega)⟩
        · refine ⟨by omega, by omega, (fun h => h.elim (fun h => ?_) fun h => by omega), (fun h => h.elim (fun h => ?_) fun h => by omega)⟩
          · have := (hX k h).2.1; omega
          · have := (hY k h).2.1; omega
      · exact ((((((hc.trans hc1).then hc2 fun k hk h => by have := (hX k h).1; omega).trans hc3).then hc4 fun k hk h => by have := (hY k h).1; omega).trans hc5).then hc6 fun k hk h => by have := (hZ k h).1; omega)
    · have : i = n := by omega
      subst this
      refine bif_f (dec_f (by omega)) (hk x y z xc yc zc w ?_ ?_ ?_ hc)
      · exact ox.mono fun k hk _ => (hX k hk).1
      · exact oy.mono fun k hk _ => (hY k hk).1
      · exact oz.mono fun k hk _ => (hZ k hk).1
theorem law11_FixedFlat_said {a b c n : Int} {W : World} {K : Bool → World → Prop} (_ : (Lit.int .i32 a).wf = true) (_ : (Lit.int .i32 b).wf = true) (_ : (Lit.int .i32 c).wf = true) (_ : (Lit.int .i64 n).wf = true)
    (hk : ∀ w', Below W.heap.size W w' → K true w') : law11_FixedFlat.f a b c n W K := by
  unfold law11_FixedFlat.f
  obtain ⟨m, hm, hm3⟩ : ∃ m : Nat, IntKind.wrap .i64 (Int.tmod (IntKind.wrap .u64 n) 300) = m ∧ m < 300 := by
    have h0 : 0 ≤ IntKind.wrap .u64 n := by rw [wu64_eq]; omega
    have g0 := Int.tmod_nonneg 300 h0
    have g1 := Int.tmod_lt_of_pos (IntKind.wrap .u64 n) (show (0 : Int) < 300 by omega)
    generalize Int.tmod (IntKind.wrap .u64 n) 300 = q at g0 g1 ⊢
    exact ⟨q.toNat, by rw [w64 (by omega) (by omega)]; omega, by omega⟩
  dsimp only
  rw [hm]
  refine ⟨m + 1, law11_FixedFlat_l5 (w0 := W) hm3 (fun x y z xc yc zc w ox oy oz hc => ?_) (m + 1) 0 none none none 0 0 0 no no no W (by omega) (by omega) (fun k h => h.elim) (fun k h => h.elim) (fun k h => h.elim) (Own.nil _ _ _ _) (Own.nil _ _ _ _) (Own.nil _ _ _ _) (Chg.refl _ _)⟩
  refine fixed_Residual_ok ox.sl ox.length (by omega) fun a1 c1 w1 h1 hc1 => ?_
  refine fixed_Residual_ok (oy.sl.chg hc1 fun _ _ _ h => h) oy.length (by omega) fun a2 c2 w2 h2 hc2 => ?_
  refine fixed_Residual_ok (oz.sl.chg (hc1.trans hc2) fun _ _ _ h => h) oz.length (by omega) fun a3 c3 w3 h3 hc3 => law11_awake_ok fun w4 hc4 => ?_
  rw [show ordr 1 = 1 by decide] at h1
  rw [show ordr 2 = 2 by decide] at h2
  rw [show ordr 3 = 3 by decide] at h3
  have s1 := (h1.sl.chg hc2 fun _ _ _ h => h).chg (hc3.trans hc4) fun _ _ _ h => h
  have s2 := h2.sl.chg (hc3.trans hc4) fun _ _ _ h => h
  have s3 := h3.sl.chg hc4 fun _ _ _ h => h
  have l1 := h1.length; have l2 := h2.length; have l3 := h3.length
  have fin := hk w4 (below_no (Below.refl _ _) ((((hc.trans hc1).trans hc2).trans hc3).trans hc4) (Nat.le_refl _))
  refine bif_f rfl (bif_f (by simp) (bif_f (by simp) (bif_f (by simp) ⟨m + 1, ?_⟩)))
  have loop : ∀ (N i : Nat), 1 ≤ i → m - i < N → law11_FixedFlat.l13 N m a1 m c1 a2 m c2 a3 m c3 i w4 (fun w => K true w) (fun o w => K o w) := by
    intro N
    induction N with
    | zero => intro i _ h; omega
    | succ N ih =>
      intro i hi hN
      rw [law11_FixedFlat.l13]
      refine cond_of (fun h => ?_) (fun _ => fin)
      have hlt : i < m := by have := of_decide_eq_true h; omega
      dsimp only
      rw [inc (by omega)]
      have next := ih (i + 1) (by omega) (by omega)
      refine rdV s1 i rfl l1 (getD_some (by omega)) fun _ _ => bif_f (by rw [flat_one hi hlt]; rfl) ?_
      refine cond_of (fun h2 => ?_) (fun h2 => cond_of (fun h3 => ?_) (fun _ => next))
      · have h2' : 2 ≤ i := by have := of_decide_eq_true h2; omega
        refine rdV s2 i rfl l2 (getD_some (by omega)) fun _ _ => bif_f (by rw [flat_two h2' hlt hm3]; rfl) ?_
        refine cond_of (fun h3 => ?_) (fun _ => next)
        have h3' : 3 ≤ i := by have := of_decide_eq_true h3; omega
        exact rdV s3 i rfl l3 (getD_some (by omega)) fun _ _ => bif_f (by rw [flat_three h3' hlt]; rfl) next
      · have := of_decide_eq_false h2; have := of_decide_eq_true h3; omega
  by_cases hm1 : 1 < m
  · exact loop (m + 1) 1 (by omega) (by omega)
  · exact loop (m + 1) 1 (by omega) (by omega)
end Go.Proofs.Ytmgcjihcbdgihaa.G
