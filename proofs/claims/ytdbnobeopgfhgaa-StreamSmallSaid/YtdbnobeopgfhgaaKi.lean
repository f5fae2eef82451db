/- The states of a place, far on: what is likely stays likely. -/
import Derived.Test.YtdbnobeopgfhgaaKq
set_option linter.unusedVariables false
set_option linter.unusedSimpArgs false
namespace Go.Proofs.Ytdbnobeopgfhgaa.G
open Go Go.Proofs.Ytdbnobeopgfhgaa.Vm Go.RowKit
theorem mul_bd {x w : Int} {X Wm : Nat} (hx : x.natAbs ≤ X) (hw : w.natAbs ≤ Wm) : -((X * Wm : Nat) : Int) ≤ x * w ∧ x * w ≤ ((X * Wm : Nat) : Int) := by
  have h : (x * w).natAbs ≤ X * Wm := by rw [Int.natAbs_mul]; exact Nat.mul_le_mul hx hw
  omega
def lin (x y u w0 w1 w2 w3 : Int) : Int := x * w0 + y * w1 + u * w2 + 256 * w3
theorem told_val {x y u w0 w1 w2 w3 : Int} (hx : x.natAbs ≤ 2047) (hy : y.natAbs ≤ 2047) (hu : u.natAbs ≤ 2047) (h0 : w0.natAbs ≤ 16777216) (h1 : w1.natAbs ≤ 16777216) (h2 : w2.natAbs ≤ 16777216) (h3 : w3.natAbs ≤ 16777216) :
    toldF x y u [w0, w1, w2, w3] = sq (cl (lin x y u w0 w1 w2 w3 / 65536)) := by
  have a0 := mul_bd hx h0
  have a1 := mul_bd hy h1
  have a2 := mul_bd hu h2
  unfold toldF lin
  show sqF (clT (shF 65536 (wF (wF (wF (wF (0 + wF (x * w0)) + wF (y * w1)) + wF (u * w2)) + wF (256 * w3))))) = _
  generalize x * w0 = p at *
  generalize y * w1 = q at *
  generalize u * w2 = r at *
  simp only [← wF_eq]
  rw [w64 (a := p) (by omega) (by omega), w64 (a := q) (by omega) (by omega), w64 (a := r) (by omega) (by omega), w64 (a := 256 * w3) (by omega) (by omega), w64 (a := 0 + p) (by omega) (by omega), w64 (a := 0 + p + q) (by omega) (by omega), w64 (a := 0 + p + q + r) (by omega) (by omega), w64 (a := 0 + p + q + r + 256 * w3) (by omega) (by omega), ← sqF_eq]
  have e : ∀ d, clT d = cl d := fun d => by unfold clT cl; rw [mxF_eq, mnF_eq]
  rw [e, ← shF_div _ 65536 (by omega), show (0 : Int) + p + q + r + 256 * w3 = p + q + r + 256 * w3 by omega]; rfl
theorem told_mono {x y u w0 w1 w2 w3 v0 v1 v2 v3 : Int} (h : lin x y u w0 w1 w2 w3 ≤ lin x y u v0 v1 v2 v3) : sq (cl (lin x y u w0 w1 w2 w3 / 65536)) ≤ sq (cl (lin x y u v0 v1 v2 v3 / 65536)) :=
  sq_mono _ _ (cl_mono _ _ (Int.ediv_le_ediv (by omega) h))
theorem sT_val {T : List Int} {t : Int} (h0 : 0 ≤ T.getD (kF t) 0 ∧ T.getD (kF t) 0 ≤ 65535) (h1 : 0 ≤ T.getD (kF t + 1) 0 ∧ T.getD (kF t + 1) 0 ≤ 65535) :
    rF t < 128 ∧ sT T t = mx 1 (mn ((T.getD (kF t) 0 * (128 - (rF t : Int)) + T.getD (kF t + 1) 0 * (rF t : Int)) / 2048) 4095) := by
  have hr : rF t < 128 := Nat.mod_lt _ (by omega)
  refine ⟨hr, ?_⟩
  unfold sT
  rw [mxF_eq, mnF_eq]
  generalize T.getD (kF t) 0 = p at *
  generalize T.getD (kF t + 1) 0 = q at *
  generalize rF t = r at *
  have a0 := mul_bd (x := p) (w := 128 - (r : Int)) (X := 65535) (Wm := 128) (by omega) (by omega)
  have a1 := mul_bd (x := q) (w := (r : Int)) (X := 65535) (Wm := 128) (by omega) (by omega)
  simp only [← wF_eq, Int.ofNat_eq_natCast]
  rw [w64 (a := 128 - (r : Int)) (by omega) (by omega)]
  generalize p * (128 - (r : Int)) = m at *
  generalize q * (r : Int) = k at *
  rw [w64 (a := m) (by omega) (by omega), w64 (a := k) (by omega) (by omega), w64 (a := m + k) (by omega) (by omega), ← shF_div _ 2048 (by omega)]; rfl
theorem sT_mono {T U : List Int} {t : Int} (hT : ∀ k, 0 ≤ T.getD k 0 ∧ T.getD k 0 ≤ 65535) (hU : ∀ k, 0 ≤ U.getD k 0 ∧ U.getD k 0 ≤ 65535) (h : ∀ k, T.getD k 0 ≤ U.getD k 0) : sT T t ≤ sT U t := by
  have a := sT_val (hT (kF t)) (hT (kF t + 1))
  have b := sT_val (hU (kF t)) (hU (kF t + 1))
  rw [a.2, b.2]
  have m1 : T.getD (kF t) 0 * (128 - (rF t : Int)) ≤ U.getD (kF t) 0 * (128 - (rF t : Int)) := Int.mul_le_mul_of_nonneg_right (h _) (by omega)
  have m2 : T.getD (kF t + 1) 0 * (rF t : Int) ≤ U.getD (kF t + 1) 0 * (rF t : Int) := Int.mul_le_mul_of_nonneg_right (h _) (by omega)
  have m3 := Int.ediv_le_ediv (a := T.getD (kF t) 0 * (128 - (rF t : Int)) + T.getD (kF t + 1) 0 * (rF t : Int)) (b := U.getD (kF t) 0 * (128 - (rF t : Int)) + U.getD (kF t + 1) 0 * (rF t : Int)) (c := 2048) (by omega) (by omega)
  unfold mx mn
  (repeat' split) <;> omega
theorem wg_val {x w e : Int} (hx : x.natAbs ≤ 2047) (hw : w.natAbs ≤ 16777216) (he : e.natAbs ≤ 28665) : wgF x w e = mx (-16777216) (mn (w + (x * e + 32768) / 65536) 16777216) := by
  have a := mul_bd hx he
  unfold wgF
  rw [mxF_eq, mnF_eq]
  simp only [← wF_eq]
  generalize x * e = p at *
  rw [w64 (a := p) (by omega) (by omega), w64 (a := p + 32768) (by omega) (by omega), ← shF_div _ 65536 (by omega), w64 (by omega) (by omega)]; rfl
theorem up_val {v bit : Int} (h0 : 0 ≤ v) (h1 : v ≤ 65535) : upF v bit = v + ((if bit = 0 then 0 else 65535) - v) / 64 := by
  unfold upF
  have e : (bif bit == 0 then (0 : Int) else 65535) = if bit = 0 then 0 else 65535 := by
    by_cases h : bit = 0
    · subst h; rfl
    · rw [if_neg h, show (bit == 0) = false by simpa using h]; rfl
  rw [e]
  simp only [← wF_eq]
  have : (0 : Int) ≤ (if bit = 0 then 0 else 65535) ∧ (if bit = 0 then (0 : Int) else 65535) ≤ 65535 := by split <;> omega
  generalize (if bit = 0 then (0 : Int) else 65535) = z at *
  rw [w64 (a := z - v) (by omega) (by omega), ← shF_div _ 64 (by omega), w64 (by omega) (by omega)]; rfl
theorem e_val {bit t : Int} (h1 : 1 ≤ t) (h2 : t ≤ 4095) : eF bit t = 7 * ((if bit = 0 then 0 else 4095) - t) := by
  unfold eF
  have e : (bif bit == 0 then (0 : Int) else 4095) = if bit = 0 then 0 else 4095 := by
    by_cases h : bit = 0
    · subst h; rfl
    · rw [if_neg h, show (bit == 0) = false by simpa using h]; rfl
  rw [e]
  simp only [← wF_eq]
  have : (0 : Int) ≤ (if bit = 0 then 0 else 4095) ∧ (if bit = 0 then (0 : Int) else 4095) ≤ 4095 := by split <;> omega
  generalize (if bit = 0 then (0 : Int) else 4095) = z at *
  rw [w64 (a := z - t) (by omega) (by omega), w64 (by omega) (by omega)]
theorem told_bd' (x y u : Int) (W : List Int) : 1 ≤ toldF x y u W ∧ toldF x y u W ≤ 4095 := by
  unfold toldF
  rw [← sqF_eq]
  generalize shF 65536 (wF (wF (wF (wF (0 + wF (x * W.getD 0 0)) + wF (y * W.getD 1 0)) + wF (u * W.getD 2 0)) + wF (256 * W.getD 3 0))) = d
  have := cl_bd d
  have e : clT d = cl d := by unfold clT cl; rw [mxF_eq, mnF_eq]
  rw [e]
  exact sq_bd _ this.1 this.2
theorem x0_bd (a : Int) : (x0F a).natAbs ≤ 2047 := by
  have := strV_bd (cvF a)
  unfold x0F; rw [← strF_eq]; omega
theorem x2_bd (lv : Nat) (a : Int) : (x2F lv a).natAbs ≤ 2047 := by
  unfold x2F
  cases Nat.beq lv 2
  · show (0 : Int).natAbs ≤ 2047
    decide
  · exact x0_bd a
theorem getD_set' {T : List Int} {i j : Nat} {v : Int} : (T.set i v).getD j 0 = if i = j ∧ i < T.length then v else T.getD j 0 := by
  rw [List.getD_eq_getElem?_getD, List.getElem?_set]
  by_cases h : i = j
  · subst h
    by_cases h2 : i < T.length
    · rw [if_pos rfl, if_pos h2, if_pos ⟨rfl, h2⟩]; rfl
    · rw [if_pos rfl, if_neg h2, if_neg (fun g => h2 g.2), List.getD_eq_getElem?_getD, List.getElem?_eq_none (by omega)]
  · rw [if_neg h, if_neg (fun g => h g.1), List.getD_eq_getElem?_getD]
theorem mxmn_bd (d : Int) : (mx (-16777216) (mn d 16777216)).natAbs ≤ 16777216 := by
  unfold mx mn; (repeat' split) <;> omega
theorem wg_bd {x w e : Int} (hx : x.natAbs ≤ 2047) (hw : w.natAbs ≤ 16777216) (he : e.natAbs ≤ 28665) : (wgF x w e).natAbs ≤ 16777216 := by
  rw [wg_val hx hw he]; exact mxmn_bd _
theorem wg_up {x w e : Int} (hx : x.natAbs ≤ 2047) (hw : w.natAbs ≤ 16777216) (he : e.natAbs ≤ 28665) (h : 0 ≤ x * e) : w ≤ wgF x w e := by
  rw [wg_val hx hw he]
  have : 0 ≤ (x * e + 32768) / 65536 := Int.ediv_nonneg (by omega) (by omega)
  unfold mx mn; (repeat' split) <;> omega
theorem wg_dn {x w e : Int} (hx : x.natAbs ≤ 2047) (hw : w.natAbs ≤ 16777216) (he : e.natAbs ≤ 28665) (h : x * e ≤ 0) : wgF x w e ≤ w := by
  rw [wg_val hx hw he]
  have : (x * e + 32768) / 65536 ≤ 0 := by omega
  unfold mx mn; (repeat' split) <;> omega
theorem ch_val {lv : Nat} {v : Pv} {b c : Int} (h : lv ≠ 0) : chF lv v b c = (toldF (x0F v.a) (x0F b) (x2F lv c) v.W + 3 * sT v.T (toldF (x0F v.a) (x0F b) (x2F lv c) v.W)) / 4 := by
  unfold chF
  rw [beq_f h, cond_false]
  have ht := told_bd' (x0F v.a) (x0F b) (x2F lv c) v.W
  generalize toldF (x0F v.a) (x0F b) (x2F lv c) v.W = t at *
  have hb := sTold_bd v.T t
  rw [sT_eq] at hb
  generalize sT v.T t = q at *
  rw [← wF_eq (3 * q), w64 (a := 3 * q) (by omega) (by omega), ← wF_eq, w64 (by omega) (by omega)]
  exact (shF_div _ 4 (by omega)).symm
/-- Far on, for ones: weights and steps only grow. -/
structure Far1 (lv : Nat) (a b c t0 : Int) (T0 : List Int) (s : Pv × Int × Int) : Prop where
  ea : s.1.a = a
  eb : s.2.1 = b
  ec : lv = 2 → s.2.2 = c
  ew : ∃ w0 w1 w2 w3, s.1.W = [w0, w1, w2, w3] ∧ w0.natAbs ≤ 16777216 ∧ w1.natAbs ≤ 16777216 ∧ w2.natAbs ≤ 16777216 ∧ w3.natAbs ≤ 16777216 ∧ t0 ≤ sq (cl (lin (x0F a) (x0F b) (x2F lv c) w0 w1 w2 w3 / 65536))
  et : ∀ k, T0.getD k 0 ≤ s.1.T.getD k 0 ∧ s.1.T.getD k 0 ≤ 65535
structure Far0 (lv : Nat) (a b c t0 : Int) (T0 : List Int) (s : Pv × Int × Int) : Prop where
  ea : s.1.a = a
  eb : s.2.1 = b
  ec : lv = 2 → s.2.2 = c
  ew : ∃ w0 w1 w2 w3, s.1.W = [w0, w1, w2, w3] ∧ w0.natAbs ≤ 16777216 ∧ w1.natAbs ≤ 16777216 ∧ w2.natAbs ≤ 16777216 ∧ w3.natAbs ≤ 16777216 ∧ sq (cl (lin (x0F a) (x0F b) (x2F lv c) w0 w1 w2 w3 / 65536)) ≤ t0
  et : ∀ k, s.1.T.getD k 0 ≤ T0.getD k 0 ∧ 0 ≤ s.1.T.getD k 0
theorem x2_ec {lv : Nat} {c d : Int} (h : lv = 2 → d = c) : x2F lv d = x2F lv c := by
  by_cases e : lv = 2
  · rw [h e]
  · unfold x2F; rw [beq_f e]; rfl
theorem Far1.told {lv : Nat} {a b c t0 : Int} {T0 : List Int} {s : Pv × Int × Int} (h : Far1 lv a b c t0 T0 s) : t0 ≤ toldF (x0F s.1.a) (x0F s.2.1) (x2F lv s.2.2) s.1.W := by
  obtain ⟨w0, w1, w2, w3, e, h0, h1, h2, h3, ht⟩ := h.ew
  rw [h.ea, h.eb, x2_ec h.ec, e, told_val (x0_bd _) (x0_bd _) (x2_bd _ _) h0 h1 h2 h3]; exact ht
theorem Far0.told {lv : Nat} {a b c t0 : Int} {T0 : List Int} {s : Pv × Int × Int} (h : Far0 lv a b c t0 T0 s) : toldF (x0F s.1.a) (x0F s.2.1) (x2F lv s.2.2) s.1.W ≤ t0 := by
  obtain ⟨w0, w1, w2, w3, e, h0, h1, h2, h3, ht⟩ := h.ew
  rw [h.ea, h.eb, x2_ec h.ec, e, told_val (x0_bd _) (x0_bd _) (x2_bd _ _) h0 h1 h2 h3]; exact ht
theorem b256 : (256 : Int).natAbs ≤ 2047 := by decide
theorem row_list (x y u w0 w1 w2 w3 e : Int) : rowF x y u [w0, w1, w2, w3] e = [wgF x w0 e, wgF y w1 e, wgF u w2 e, wgF 256 w3 e] := rfl
theorem Far1.step {lv : Nat} {a b c t0 : Int} {T0 : List Int} {s : Pv × Int × Int} (h0 : lv ≠ 0) (fa : nxF a 1 16 = a) (fb : nxF b 1 16 = b) (fc : lv = 2 → nxF c 1 8 = c) (px : 0 ≤ x0F a) (py : 0 ≤ x0F b) (pu : 0 ≤ x2F lv c) (hT : ∀ k, 0 ≤ T0.getD k 0)
    (h : Far1 lv a b c t0 T0 s) : Far1 lv a b c t0 T0 (stF lv s.1 s.2.1 s.2.2 1, nxF s.2.1 1 16, nxF s.2.2 1 8) := by
  obtain ⟨w0, w1, w2, w3, e, h0', h1, h2, h3, ht⟩ := h.ew
  have hb := told_bd' (x0F s.1.a) (x0F s.2.1) (x2F lv s.2.2) s.1.W
  have est : stF lv s.1 s.2.1 s.2.2 1 = ⟨nxF s.1.a 1 16, rowF (x0F s.1.a) (x0F s.2.1) (x2F lv s.2.2) s.1.W (eF 1 (toldF (x0F s.1.a) (x0F s.2.1) (x2F lv s.2.2) s.1.W)), s.1.T.set (spF (toldF (x0F s.1.a) (x0F s.2.1) (x2F lv s.2.2) s.1.W)) (upF (s.1.T.getD (spF (toldF (x0F s.1.a) (x0F s.2.1) (x2F lv s.2.2) s.1.W)) 0) 1)⟩ := by
    unfold stF; rw [beq_f h0]; rfl
  rw [est, h.ea, h.eb, x2_ec h.ec, e] at *
  generalize toldF (x0F a) (x0F b) (x2F lv c) [w0, w1, w2, w3] = t at *
  have hx := x0_bd a
  have hy := x0_bd b
  have hu := x2_bd lv c
  have he : eF 1 t = 7 * (4095 - t) := e_val hb.1 hb.2
  have he0 : 0 ≤ eF 1 t ∧ (eF 1 t).natAbs ≤ 28665 := by omega
  generalize eF 1 t = ee at *
  refine ⟨fa, fb, fun e2 => by show nxF s.2.2 1 8 = c; rw [h.ec e2]; exact fc e2, ?_, fun k => ?_⟩
  · have m0 := wg_up hx h0' he0.2 (Int.mul_nonneg px he0.1)
    have m1 := wg_up hy h1 he0.2 (Int.mul_nonneg py he0.1)
    have m2 := wg_up hu h2 he0.2 (Int.mul_nonneg pu he0.1)
    have m3 := wg_up (x := 256) b256 h3 he0.2 (by omega)
    have n0 := Int.mul_le_mul_of_nonneg_left m0 px
    have n1 := Int.mul_le_mul_of_nonneg_left m1 py
    have n2 := Int.mul_le_mul_of_nonneg_left m2 pu
    have lm : lin (x0F a) (x0F b) (x2F lv c) w0 w1 w2 w3 ≤ lin (x0F a) (x0F b) (x2F lv c) (wgF (x0F a) w0 ee) (wgF (x0F b) w1 ee) (wgF (x2F lv c) w2 ee) (wgF 256 w3 ee) := by unfold lin; omega
    refine ⟨wgF (x0F a) w0 ee, wgF (x0F b) w1 ee, wgF (x2F lv c) w2 ee, wgF 256 w3 ee, row_list (x0F a) (x0F b) (x2F lv c) w0 w1 w2 w3 ee, wg_bd hx h0' he0.2, wg_bd hy h1 he0.2, wg_bd hu h2 he0.2, wg_bd b256 h3 he0.2, Int.le_trans ht (told_mono lm)⟩
  · show T0.getD k 0 ≤ (s.1.T.set _ _).getD k 0 ∧ (s.1.T.set _ _).getD k 0 ≤ 65535
    rw [getD_set']
    have hk := h.et k
    split
    · rename_i g
      obtain ⟨rfl, _⟩ := g
      have := hT (spF t)
      rw [up_val (by omega) (by omega), if_neg (by decide)]
      omega
    · exact hk
theorem Far0.step {lv : Nat} {a b c t0 : Int} {T0 : List Int} {s : Pv × Int × Int} (h0 : lv ≠ 0) (fa : nxF a 0 16 = a) (fb : nxF b 0 16 = b) (fc : lv = 2 → nxF c 0 8 = c) (px : x0F a ≤ 0) (py : x0F b ≤ 0) (pu : x2F lv c ≤ 0) (hT : ∀ k, T0.getD k 0 ≤ 65535)
    (h : Far0 lv a b c t0 T0 s) : Far0 lv a b c t0 T0 (stF lv s.1 s.2.1 s.2.2 0, nxF s.2.1 0 16, nxF s.2.2 0 8) := by
  obtain ⟨w0, w1, w2, w3, e, h0', h1, h2, h3, ht⟩ := h.ew
  have hb := told_bd' (x0F s.1.a) (x0F s.2.1) (x2F lv s.2.2) s.1.W
  have est : stF lv s.1 s.2.1 s.2.2 0 = ⟨nxF s.1.a 0 16, rowF (x0F s.1.a) (x0F s.2.1) (x2F lv s.2.2) s.1.W (eF 0 (toldF (x0F s.1.a) (x0F s.2.1) (x2F lv s.2.2) s.1.W)), s.1.T.set (spF (toldF (x0F s.1.a) (x0F s.2.1) (x2F lv s.2.2) s.1.W)) (upF (s.1.T.getD (spF (toldF (x0F s.1.a) (x0F s.2.1) (x2F lv s.2.2) s.1.W)) 0) 0)⟩ := by
    unfold stF; rw [beq_f h0]; rfl
  rw [est, h.ea, h.eb, x2_ec h.ec, e] at *
  generalize toldF (x0F a) (x0F b) (x2F lv c) [w0, w1, w2, w3] = t at *
  have hx := x0_bd a
  have hy := x0_bd b
  have hu := x2_bd lv c
  have he : eF 0 t = 7 * (0 - t) := e_val hb.1 hb.2
  have he0 : eF 0 t ≤ 0 ∧ (eF 0 t).natAbs ≤ 28665 := by omega
  generalize eF 0 t = ee at *
  refine ⟨fa, fb, fun e2 => by show nxF s.2.2 0 8 = c; rw [h.ec e2]; exact fc e2, ?_, fun k => ?_⟩
  · have m0 := wg_up hx h0' he0.2 (Int.mul_nonneg_of_nonpos_of_nonpos px he0.1)
    have m1 := wg_up hy h1 he0.2 (Int.mul_nonneg_of_nonpos_of_nonpos py he0.1)
    have m2 := wg_up hu h2 he0.2 (Int.mul_nonneg_of_nonpos_of_nonpos pu he0.1)
    have m3 := wg_dn (x := 256) b256 h3 he0.2 (by omega)
    have n0 := Int.mul_le_mul_of_nonpos_left px m0
    have n1 := Int.mul_le_mul_of_nonpos_left py m1
    have n2 := Int.mul_le_mul_of_nonpos_left pu m2
    have lm : lin (x0F a) (x0F b) (x2F lv c) (wgF (x0F a) w0 ee) (wgF (x0F b) w1 ee) (wgF (x2F lv c) w2 ee) (wgF 256 w3 ee) ≤ lin (x0F a) (x0F b) (x2F lv c) w0 w1 w2 w3 := by unfold lin; omega
    refine ⟨wgF (x0F a) w0 ee, wgF (x0F b) w1 ee, wgF (x2F lv c) w2 ee, wgF 256 w3 ee, row_list (x0F a) (x0F b) (x2F lv c) w0 w1 w2 w3 ee, wg_bd hx h0' he0.2, wg_bd hy h1 he0.2, wg_bd hu h2 he0.2, wg_bd b256 h3 he0.2, Int.le_trans (told_mono lm) ht⟩
  · show (s.1.T.set _ _).getD k 0 ≤ T0.getD k 0 ∧ 0 ≤ (s.1.T.set _ _).getD k 0
    rw [getD_set']
    have hk := h.et k
    split
    · rename_i g
      obtain ⟨rfl, _⟩ := g
      have := hT (spF t)
      rw [up_val (by omega) (by omega), if_pos rfl]
      omega
    · exact hk
theorem Far1.q {lv : Nat} {a b c t0 : Int} {T0 : List Int} {s : Pv × Int × Int} (h0 : lv ≠ 0) (hT : ∀ k, 0 ≤ T0.getD k 0 ∧ T0.getD k 0 ≤ 65535) (hm : ∀ t, t0 ≤ t → t ≤ 4095 → 16240 ≤ t + 3 * sT T0 t) (h : Far1 lv a b c t0 T0 s) : 4060 ≤ chF lv s.1 s.2.1 s.2.2 := by
  rw [ch_val h0]
  have hb := told_bd' (x0F s.1.a) (x0F s.2.1) (x2F lv s.2.2) s.1.W
  have ht := h.told
  generalize toldF (x0F s.1.a) (x0F s.2.1) (x2F lv s.2.2) s.1.W = t at *
  have h1 := hm t ht hb.2
  have h2 := sT_mono (t := t) hT (fun k => ⟨Int.le_trans (hT k).1 (h.et k).1, (h.et k).2⟩) fun k => (h.et k).1
  omega
theorem Far0.q {lv : Nat} {a b c t0 : Int} {T0 : List Int} {s : Pv × Int × Int} (h0 : lv ≠ 0) (hT : ∀ k, 0 ≤ T0.getD k 0 ∧ T0.getD k 0 ≤ 65535) (hm : ∀ t, 1 ≤ t → t ≤ t0 → t + 3 * sT T0 t ≤ 147) (h : Far0 lv a b c t0 T0 s) : chF lv s.1 s.2.1 s.2.2 ≤ 36 := by
  rw [ch_val h0]
  have hb := told_bd' (x0F s.1.a) (x0F s.2.1) (x2F lv s.2.2) s.1.W
  have ht := h.told
  generalize toldF (x0F s.1.a) (x0F s.2.1) (x2F lv s.2.2) s.1.W = t at *
  have h1 := hm t hb.1 ht
  have h2 := sT_mono (t := t) (fun k => ⟨(h.et k).2, Int.le_trans (h.et k).1 (hT k).2⟩) hT fun k => (h.et k).1
  omega
end Go.Proofs.Ytdbnobeopgfhgaa.G
