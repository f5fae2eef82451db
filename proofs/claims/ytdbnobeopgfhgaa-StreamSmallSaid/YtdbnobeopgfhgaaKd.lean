/- The model, on one byte again and again: each place of a byte plays by itself. -/
import Derived.Test.YtdbnobeopgfhgaaMk
set_option linter.unusedVariables false
set_option linter.unusedSimpArgs false
namespace Go.Proofs.Ytdbnobeopgfhgaa.G
open Go Go.Proofs.Ytdbnobeopgfhgaa.Vm Go.RowKit
theorem at_rep2 (n : Nat) (h : 0 < n) (i : Int) : at' (List.replicate n 32768) i = 32768 := by
  unfold at'
  rw [List.length_replicate]
  have := place_bd i n (by omega)
  rw [List.getD_eq_getElem?_getD, List.getElem?_replicate, if_pos (by omega)]; rfl
/-- What a place has: a guess, weights, a row of steps. -/
structure Pv where
  a : Int
  W : List Int
  T : List Int
def xsV (lv : Nat) (a b c : Int) : List Int := [strV (chanceV a), strV (chanceV b), if lv = 2 then strV (chanceV c) else 0, 256]
def toldV (lv : Nat) (v : Pv) (b c : Int) : Int := mTold (mIns (xsV lv v.a b c)) v.W
def chV (lv : Nat) (v : Pv) (b c : Int) : Int := if lv = 0 then chanceV v.a else IntKind.wrap .i64 (Int.tdiv (IntKind.wrap .i64 (toldV lv v b c + IntKind.wrap .i64 (3 * sTold v.T (toldV lv v b c)))) 4)
def stepV (t : Int) : Nat := if 64 ≤ sR t then sK t + 1 else sK t
def stV (lv : Nat) (v : Pv) (b c bit : Int) : Pv :=
  ⟨nextV v.a bit 4, if lv = 0 then v.W else mRow (mIns (xsV lv v.a b c)) v.W (mE bit (toldV lv v b c)) 4, if lv = 0 then v.T else v.T.set (stepV (toldV lv v b c)) (sUp (v.T.getD (stepV (toldV lv v b c)) 0) bit 6)⟩
def view (s : Mod) (p : Nat) : Pv := ⟨at' s.A p, s.M.W.getD p [], s.S.T.getD p []⟩
structure Mk (s : Mod) : Prop where
  ok : Dok s
  lm : s.M.W.length = 256
  ls : s.S.T.length = 256
theorem mPlace_self {p : Nat} (h : p < 256) : mPlace 256 (p : Int) = p := by
  unfold mPlace; omega
theorem chance_view {s : Mod} (h : Mk s) : s.chance = chV s.level (view s s.part) (at' s.B s.c2) (at' s.C s.c3) := by
  have hp := h.ok.p2
  unfold Mod.chance chV
  split
  · rfl
  · have e : s.p = toldV s.level (view s s.part) (at' s.B s.c2) (at' s.C s.c3) := by
      unfold Mod.p Mod.M' Mst.mix toldV view
      rw [h.lm, mPlace_self (by omega)]; rfl
    have e2 : s.q = sTold (view s s.part).T s.p := by
      unfold Mod.q Sst.told view
      rw [h.ls, mPlace_self (by omega)]
    rw [e2, e]
theorem at_upd {gs : List Int} {i j : Nat} {bit rate : Int} (hi : i < gs.length) (hj : j < gs.length) : at' (upd gs i bit rate) j = if i = j then nextV (at' gs i) bit rate else at' gs j := by
  have e : ∀ (n : Nat) (k : Nat), k < n → ((k : Int) % (n : Int)).toNat = k := fun n k h => by
    rw [Int.emod_eq_of_lt (by omega) (by omega)]; omega
  unfold at'
  rw [upd_len, e _ _ hj]
  unfold upd
  rw [e _ _ hi]
  by_cases h : i = j
  · subst h
    rw [if_pos rfl, List.getD_eq_getElem?_getD, List.getElem?_set_self hi]
    unfold at'; rw [e _ _ hi]; rfl
  · rw [if_neg h, List.getD_eq_getElem?_getD, List.getElem?_set_ne h, ← List.getD_eq_getElem?_getD]
theorem getD_set_row {L : List (List Int)} {i j : Nat} {r : List Int} (hi : i < L.length) : (L.set i r).getD j [] = if i = j then r else L.getD j [] := by
  by_cases h : i = j
  · subst h
    rw [if_pos rfl, List.getD_eq_getElem?_getD, List.getElem?_set_self hi]; rfl
  · rw [if_neg h, List.getD_eq_getElem?_getD, List.getElem?_set_ne h, ← List.getD_eq_getElem?_getD]
theorem asked_eqs (s : Mod) : s.asked.A = s.A ∧ s.asked.B = s.B ∧ s.asked.C = s.C ∧ s.asked.part = s.part ∧ s.asked.last = s.last ∧ s.asked.older = s.older ∧ s.asked.level = s.level := by
  unfold Mod.asked; split <;> exact ⟨rfl, rfl, rfl, rfl, rfl, rfl, rfl⟩
theorem moved_eqs (s : Mod) (b : Int) : (s.moved b).A = s.A ∧ (s.moved b).B = s.B ∧ (s.moved b).C = s.C ∧ (s.moved b).M = s.M ∧ (s.moved b).S = s.S ∧ (s.moved b).level = s.level := by
  unfold Mod.moved; dsimp only; split <;> exact ⟨rfl, rfl, rfl, rfl, rfl, rfl⟩
theorem moved_at (s : Mod) (b : Int) : ((s.moved b).part, (s.moved b).last, (s.moved b).older) = if 256 ≤ 2 * s.part + b.toNat then (1, 2 * s.part + b.toNat - 256, s.last) else (2 * s.part + b.toNat, s.last, s.older) := by
  unfold Mod.moved; dsimp only; split <;> rfl
theorem learn_at (s : Mod) (b : Int) : ((s.learn b).part, (s.learn b).last, (s.learn b).older) = if 256 ≤ 2 * s.part + b.toNat then (1, 2 * s.part + b.toNat - 256, s.last) else (2 * s.part + b.toNat, s.last, s.older) := by
  obtain ⟨h1, h2, h3, h4, h5, h6, h7⟩ := asked_eqs s
  have e1 : (s.asked.taught b).part = s.part := h4
  have e2 : (s.asked.taught b).last = s.last := h5
  have e3 : (s.asked.taught b).older = s.older := h6
  unfold Mod.learn
  rw [moved_at, e1, e2, e3]
theorem learn_level (s : Mod) (b : Int) : (s.learn b).level = s.level := by
  unfold Mod.learn
  rw [(moved_eqs _ _).2.2.2.2.2]
  exact (asked_eqs s).2.2.2.2.2.2
theorem learn_A (s : Mod) (b : Int) : (s.learn b).A = upd s.A s.part b 4 := by
  obtain ⟨h1, h2, h3, h4, h5, h6, h7⟩ := asked_eqs s
  unfold Mod.learn
  rw [(moved_eqs _ _).1]
  show upd s.asked.A s.asked.part b 4 = _
  rw [h1, h4]
theorem learn_B (s : Mod) (b : Int) : (s.learn b).B = if s.level = 0 then s.B else upd s.B s.c2 b 4 := by
  obtain ⟨h1, h2, h3, h4, h5, h6, h7⟩ := asked_eqs s
  unfold Mod.learn
  rw [(moved_eqs _ _).2.1]
  show (if s.asked.level = 0 then s.asked.B else upd s.asked.B s.asked.c2 b 4) = _
  unfold Mod.c2
  rw [h2, h4, h5, h7]
theorem learn_C (s : Mod) (b : Int) : (s.learn b).C = if s.level = 2 then upd s.C s.c3 b 3 else s.C := by
  obtain ⟨h1, h2, h3, h4, h5, h6, h7⟩ := asked_eqs s
  unfold Mod.learn
  rw [(moved_eqs _ _).2.2.1]
  show (if s.asked.level = 2 then upd s.asked.C s.asked.c3 b 3 else s.asked.C) = _
  unfold Mod.c3
  rw [h3, h4, h5, h6, h7]
theorem learn_W {s : Mod} (h : Mk s) (b : Int) : (s.learn b).M.W = if s.level = 0 then s.M.W else s.M.W.set s.part (stV s.level (view s s.part) (at' s.B s.c2) (at' s.C s.c3) b).W := by
  have hp := h.ok.p2
  obtain ⟨h1, h2, h3, h4, h5, h6, h7⟩ := asked_eqs s
  unfold Mod.learn
  rw [(moved_eqs _ _).2.2.2.1]
  show (if s.asked.level = 0 then s.asked.M else s.asked.M.learn b).W = _
  rw [h7]
  by_cases h0 : s.level = 0
  · rw [if_pos h0, if_pos h0]; unfold Mod.asked; rw [if_pos h0]
  · rw [if_neg h0, if_neg h0]
    have e : s.asked.M = s.M' := by unfold Mod.asked; rw [if_neg h0]
    rw [e]
    unfold Mod.M' Mst.mix Mst.learn stV toldV view
    simp only [if_true, h.lm, mPlace_self (show s.part < 256 by omega), if_neg h0]
    rfl
theorem learn_T {s : Mod} (h : Mk s) (b : Int) : (s.learn b).S.T = if s.level = 0 then s.S.T else s.S.T.set s.part (stV s.level (view s s.part) (at' s.B s.c2) (at' s.C s.c3) b).T := by
  have hp := h.ok.p2
  obtain ⟨h1, h2, h3, h4, h5, h6, h7⟩ := asked_eqs s
  unfold Mod.learn
  rw [(moved_eqs _ _).2.2.2.2.1]
  show (if s.asked.level = 0 then s.asked.S else s.asked.S.learn b 6).T = _
  rw [h7]
  by_cases h0 : s.level = 0
  · rw [if_pos h0, if_pos h0]; unfold Mod.asked; rw [if_pos h0]
  · rw [if_neg h0, if_neg h0]
    have e : s.asked.S = s.S.refine s.p s.part := by unfold Mod.asked; rw [if_neg h0]
    have ep : s.p = toldV s.level (view s s.part) (at' s.B s.c2) (at' s.C s.c3) := by
      unfold Mod.p Mod.M' Mst.mix toldV view
      rw [h.lm, mPlace_self (by omega)]; rfl
    rw [e, ep]
    generalize hz : toldV s.level (view s s.part) (at' s.B s.c2) (at' s.C s.c3) = z
    unfold Sst.refine Sst.learn stV stepV
    simp only [if_true, h.ls, mPlace_self (show s.part < 256 by omega), if_neg h0, hz]
    rfl
theorem Mk.learn {s : Mod} (h : Mk s) {b : Int} (hb : b = 0 ∨ b = 1) : Mk (s.learn b) :=
  ⟨h.ok.learn hb, by rw [learn_W h]; split; exact h.lm; rw [List.length_set]; exact h.lm, by rw [learn_T h]; split; exact h.ls; rw [List.length_set]; exact h.ls⟩
theorem view_learn {s : Mod} (h : Mk s) (b : Int) {q : Nat} (hq : q < 256) : view (s.learn b) q = if s.part = q then stV s.level (view s s.part) (at' s.B s.c2) (at' s.C s.c3) b else view s q := by
  have hp := h.ok.p2
  unfold view
  rw [learn_A, learn_W h, learn_T h, at_upd (by rw [h.ok.la]; omega) (by rw [h.ok.la]; omega)]
  by_cases e : s.part = q
  · subst e
    rw [if_pos rfl, if_pos rfl]
    unfold stV view
    by_cases h0 : s.level = 0
    · simp only [if_pos h0]
    · simp only [if_neg h0]
      rw [getD_set_row (by rw [h.lm]; omega), getD_set_row (by rw [h.ls]; omega), if_pos rfl, if_pos rfl]
  · rw [if_neg e, if_neg e]
    by_cases h0 : s.level = 0
    · simp only [if_pos h0]
    · simp only [if_neg h0]
      rw [getD_set_row (by rw [h.lm]; omega), getD_set_row (by rw [h.ls]; omega), if_neg e, if_neg e]
end Go.Proofs.Ytdbnobeopgfhgaa.G
