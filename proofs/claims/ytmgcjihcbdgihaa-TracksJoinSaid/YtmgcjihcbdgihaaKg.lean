/- What the fixed guessers and their reference come to. -/
import Derived.Test.YtmgcjihcbdgihaaKe
set_option linter.unusedVariables false
set_option linter.unusedSimpArgs false
namespace Go.Proofs.Ytmgcjihcbdgihaa.G
open Go Go.Proofs.Ytmgcjihcbdgihaa.Vm Go.RowKit
/-- The one `j` before place `i`. -/
def bef (xs : List Int) (i j : Nat) : Int := if i < j then 0 else xs.getD (i - j) 0
/-- What is guessed at place `i`. -/
def gv (o : Nat) (xs : List Int) (i : Nat) : Int :=
  if o = 0 then 0 else if o = 1 then bef xs i 1 else if o = 2 then IntKind.wrap .i32 (IntKind.wrap .i32 (2 * bef xs i 1) - bef xs i 2)
  else IntKind.wrap .i32 (IntKind.wrap .i32 (IntKind.wrap .i32 (3 * bef xs i 1) - IntKind.wrap .i32 (3 * bef xs i 2)) + bef xs i 3)
/-- What order is meant. -/
def ordr (a : Int) : Nat := (mx 0 (mn a 3)).toNat
theorem ordr_le (a : Int) : ordr a ≤ 3 := by unfold ordr mx mn; (repeat' split) <;> omega
theorem fixed_right_ok {a : Int} {w : World} {K : Int → World → Prop} (hk : K (ordr a : Nat) w) : fixed_right.f a w K := by
  unfold fixed_right.f
  have : mx 0 (mn a 3) = ((ordr a : Nat) : Int) := by unfold ordr mx mn; (repeat' split) <;> omega
  rw [this]; exact hk
theorem fixed_guessf1_ok {x : Option Addr} {n c i j b1 b2 : Nat} {xs : List Int} {w : World} {K : Int → World → Prop} (hx : SlI .i32 w x xs) (hxl : xs.length = n) (hi : i ≤ n) (hn : n < 4611686018427387904) (hj : 1 ≤ j) (hj3 : j ≤ 3)
    (h1 : Bl 3 w b1 [.int .i64 (i : Int)]) (h2 : Bl 38 w b2 [.slice x n c]) (hk : K (bef xs i j) w) : fixed_guessf1.f j ⟨b1, 0, none⟩ ⟨b2, 0, none⟩ w K := by
  unfold fixed_guessf1.f
  refine ldI_b h1 rfl (cond_of (fun h => ?_) (fun h => ?_))
  · have : i < j := by have := of_decide_eq_true h; omega
    unfold bef at hk; rw [if_pos this] at hk; exact hk
  · have : ¬ i < j := by have := of_decide_eq_false h; omega
    unfold bef at hk; rw [if_neg this] at hk
    have e : IntKind.wrap .i64 ((i : Int) - (j : Int)) = ((i - j : Nat) : Int) := by rw [w64 (by omega) (by omega)]; omega
    refine ldL_b h2 rfl (ldI_b h1 rfl ?_)
    rw [e]
    exact rdV hx (i - j) rfl hxl (getD_some (by omega)) fun _ _ => hk
theorem fixed_guess_ok {x : Option Addr} {n c i o : Nat} {xs : List Int} {w : World} {K : Int → World → Prop} (hx : SlI .i32 w x xs) (hxl : xs.length = n) (hi : i ≤ n) (hn : n < 4611686018427387904) (ho : o ≤ 3)
    (hk : ∀ w', Chg no w w' → K (gv o xs i) w') : fixed_guess.f x n c i o w K := by
  unfold fixed_guess.f
  refine newC_b fun w1 hb1 hc1 hs1 => newC_b fun w2 hb2 hc2 hs2 => ?_
  have hc := hc1.trans hc2
  have k := hk w2 hc
  have hx2 := hx.chg hc fun _ _ _ h => h
  have hb12 := hb1.chg hc2 fun h => h
  unfold gv at k
  have step : ∀ (j : Nat) (K : Int → World → Prop), 1 ≤ j → j ≤ 3 → K (bef xs i j) w2 → fixed_guessf1.f j ⟨w1.heap.size, 0, none⟩ ⟨w.heap.size, 0, none⟩ w2 K := fun j K h1 h3 hk => fixed_guessf1_ok hx2 hxl hi hn h1 h3 hb2 hb12 hk
  refine cond_of (fun h => ?_) (fun h => cond_of (fun h2 => ?_) (fun h2 => cond_of (fun h3 => ?_) (fun h3 => ?_)))
  · have : o = 1 := by have : (o : Int) = 1 := by simpa using h
                       omega
    subst this
    exact step 1 _ (by omega) (by omega) k
  · have : o = 2 := by have : (o : Int) = 2 := by simpa using h2
                       omega
    subst this
    exact step 1 _ (by omega) (by omega) (step 2 _ (by omega) (by omega) k)
  · have : o = 3 := by have : (o : Int) = 3 := by simpa using h3
                       omega
    subst this
    exact step 1 _ (by omega) (by omega) (step 2 _ (by omega) (by omega) (step 3 _ (by omega) (by omega) k))
  · have : o = 0 := by
      have h1 : (o : Int) ≠ 1 := by simpa using h
      have h2 : (o : Int) ≠ 2 := by simpa using h2
      have h3 : (o : Int) ≠ 3 := by simpa using h3
      omega
    subst this
    exact k
/-- What is left. -/
def resL (o : Nat) (xs : List Int) : List Int := (List.range xs.length).map fun i => IntKind.wrap .i32 (xs.getD i 0 - gv o xs i)
theorem resL_length (o : Nat) (xs : List Int) : (resL o xs).length = xs.length := by simp [resL]
theorem resL_get {o i : Nat} {xs : List Int} (h : i < xs.length) : (resL o xs)[i]? = some (IntKind.wrap .i32 (xs.getD i 0 - gv o xs i)) := by
  unfold resL; rw [List.getElem?_map, List.getElem?_range h]; rfl
theorem take_snoc {l : List Int} {i : Nat} {v : Int} (h : l[i]? = some v) : l.take (i + 1) = l.take i ++ [v] := by
  obtain ⟨hi, rfl⟩ := List.getElem?_eq_some_iff.1 h
  rw [List.take_succ_eq_append_getElem hi]
theorem fixed_Residual_l3 {S : Nat → Prop} {w0 : World} {x y : Option Addr} {n c cy : Nat} {a1 : Int} {xs : List Int} {K0 : Option Addr → Nat → Nat → World → Prop} (hx : SlI .i32 w0 x xs) (hxS : ∀ p, x = some p → xs ≠ [] → ¬ S p.block) (hxl : xs.length = n) (hn : n < 4611686018427387904)
    (hk : ∀ w, Own .i32 21 S w y n cy (resL (ordr a1) xs) → Chg S w0 w → K0 y n cy w) (N : Nat) :
    ∀ (i : Nat) (w : World), i ≤ n → n - i < N → Own .i32 21 S w y n cy ((resL (ordr a1) xs).take i ++ List.replicate (n - i) 0) → Chg S w0 w → fixed_Residual.l3 N x n c a1 y n cy x n c n i w K0 := by
  induction N with
  | zero => intro i w h1 h2; omega
  | succ N ih =>
    intro i w hi hN ho hc
    rw [fixed_Residual.l3]
    by_cases hlt : i < n
    · have hx1 := hx.chg hc hxS
      refine bif_t (dec_t (by omega)) (rdV hx1 i rfl hxl (getD_some (by omega)) fun _ _ => fixed_right_ok ?_)
      refine fixed_guess_ok hx1 hxl hi hn (ordr_le _) fun w1 hc1 => ?_
      have hg := resL_get (o := ordr a1) (xs := xs) (i := i) (by omega)
      have ho1 := ho.chg hc1 fun _ _ h => h
      refine wrS ho1 i rfl (by rw [ho.length]; exact hlt) fun _ w2 ho2 hc2 => ?_
      have e : ((resL (ordr a1) xs).take i ++ List.replicate (n - i) 0).set i (IntKind.wrap .i32 (xs.getD i 0 - gv (ordr a1) xs i)) = (resL (ordr a1) xs).take (i + 1) ++ List.replicate (n - (i + 1)) 0 := by
        have hl : ((resL (ordr a1) xs).take i).length = i := by rw [List.length_take, resL_length]; omega
        rw [List.set_append_right _ _ (by omega), hl, Nat.sub_self, take_snoc hg, show n - i = (n - (i + 1)) + 1 by omega, List.replicate_succ]
        simp
      rw [e] at ho2
      rw [inc (by omega)]
      exact ih (i + 1) w2 (by omega) (by omega) ho2 ((hc.trans (hc1.mono fun _ h => h.elim)).trans hc2)
    · have : i = n := by omega
      subst this
      rw [List.take_of_length_le (by rw [resL_length]; omega), Nat.sub_self, List.replicate_zero, List.append_nil] at ho
      exact bif_f (dec_f (by omega)) (hk w ho hc)
theorem fixed_Residual_ok {x : Option Addr} {n c : Nat} {a1 : Int} {xs : List Int} {w : World} {K : Option Addr → Nat → Nat → World → Prop} (hx : SlI .i32 w x xs) (hxl : xs.length = n) (hn : n * 4 ≤ 140737488355328)
    (hk : ∀ a' c' w', Own .i32 21 (fun b => b = w.heap.size) w' a' n c' (resL (ordr a1) xs) → Chg no w w' → K a' n c' w') : fixed_Residual.f x n c a1 w K := by
  unfold fixed_Residual.f
  generalize hcn : (n : Int) = n'
  refine mkL_b (by omega) (by omega) (by omega) (by omega) fun w1 hb1 hc1 hs1 => ⟨n + 1, ?_⟩
  subst hcn
  rw [Int.toNat_natCast] at hb1 ⊢
  have ho := BlI.own (fun b => b = w.heap.size) hb1 rfl
  rw [List.length_replicate] at ho
  have old : ∀ p, x = some p → xs ≠ [] → ¬ p.block = w.heap.size := fun p hp hne => by
    have := old_lt hx (Nat.le_refl _) p hp hne; omega
  exact fixed_Residual_l3 (S := fun b => b = w.heap.size) (w0 := w1) (c := c) (a1 := a1) (hx.chg hc1 fun _ _ _ h => h) old hxl (by omega) (fun w2 ho2 hc2 => hk _ _ w2 ho2 (hc1.then hc2 fun k hk h => by omega)) (n + 1) 0 w1 (by omega) (by omega) (by simpa using ho) (Chg.refl _ _)
theorem law11_awake_ok {w : World} {K : Bool → World → Prop} (hk : ∀ w', Chg no w w' → K true w') : law11_awake.f w K := by
  unfold law11_awake.f
  refine newC_sl (k := .i32) (xs := [5, 7, 9]) rfl fun p w1 hs hc1 _ _ => ?_
  refine fixed_Residual_ok hs rfl (by omega) fun a' c' w2 ho hc2 => ?_
  have e : resL (ordr 2) [5, 7, 9] = [5, -3, 0] := by decide +kernel
  rw [e] at ho
  have hs2 := ho.sl
  refine bif_t rfl (rdV hs2 0 rfl rfl (v := 5) rfl fun _ _ => bif_t rfl (rdV hs2 1 rfl rfl (v := -3) rfl fun _ _ => bif_t rfl (rdV hs2 2 rfl rfl (v := 0) rfl fun _ _ => hk w2 (hc1.trans hc2))))
end Go.Proofs.Ytmgcjihcbdgihaa.G
