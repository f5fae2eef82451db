/- The states of a place, computed fast. -/
import Derived.Test.YtdbnobeopgfhgaaKe
set_option linter.unusedVariables false
set_option linter.unusedSimpArgs false
namespace Go.Proofs.Ytdbnobeopgfhgaa.G
open Go Go.Proofs.Ytdbnobeopgfhgaa.Vm Go.RowKit
def wF : Int → Int
  | .ofNat k => bif Nat.ble k 9223372036854775807 then .ofNat k else IntKind.wrap .i64 (.ofNat k)
  | .negSucc k => bif Nat.ble k 9223372036854775807 then .negSucc k else IntKind.wrap .i64 (.negSucc k)
theorem ble_f {a b : Nat} (h : ¬ a ≤ b) : Nat.ble a b = false := Bool.eq_false_iff.2 fun e => h (Nat.le_of_ble_eq_true e)
theorem beq_f {a b : Nat} (h : a ≠ b) : Nat.beq a b = false := Bool.eq_false_iff.2 fun e => h (Nat.eq_of_beq_eq_true e)
theorem wF_aux (M k : Nat) (hM : M = 9223372036854775807) (f : Nat → Int) (hf : k ≤ M → -9223372036854775808 ≤ f k ∧ f k ≤ 9223372036854775807) : IntKind.wrap .i64 (f k) = bif Nat.ble k M then f k else IntKind.wrap .i64 (f k) := by
  by_cases g : k ≤ M
  · rw [Nat.ble_eq_true_of_le g]
    exact w64 (hf g).1 (hf g).2
  · rw [ble_f g]; rfl
theorem wF_eq (n : Int) : IntKind.wrap .i64 n = wF n := by
  cases n with
  | ofNat k => exact wF_aux _ k rfl (fun k => ((k : Nat) : Int)) fun h => by omega
  | negSucc k => exact wF_aux _ k rfl Int.negSucc fun h => by omega
def shF (d : Nat) : Int → Int
  | .ofNat k => .ofNat (k / d)
  | .negSucc k => .negSucc (k / d)
theorem shF_eq (k : IntKind) (a : Int) (n d : Nat) (h : 2 ^ n = d) : shr k a n = shF d a := by
  have hd : 0 < d := by rw [← h]; exact Nat.pow_pos (by omega)
  unfold shr
  rw [show ((2 : Int) ^ n) = ((d : Nat) : Int) by rw [← h]; simp]
  obtain ⟨e, rfl⟩ : ∃ e, d = e + 1 := ⟨d - 1, by omega⟩
  cases a with
  | ofNat m =>
    show Int.fdiv ((m : Nat) : Int) ((e + 1 : Nat) : Int) = ((m / (e + 1) : Nat) : Int)
    rw [Int.fdiv_eq_ediv_of_nonneg _ (by omega)]; rfl
  | negSucc m => rfl
/-- Less, of whole numbers. -/
def ltI : Int → Int → Bool
  | .ofNat a, .ofNat b => Nat.blt a b
  | .ofNat _, .negSucc _ => false
  | .negSucc _, .ofNat _ => true
  | .negSucc a, .negSucc b => Nat.blt b a
theorem blt_eq (a b : Nat) : Nat.blt a b = decide (a < b) := by
  unfold Nat.blt
  by_cases h : a < b
  · rw [decide_eq_true h]; exact Nat.ble_eq_true_of_le h
  · rw [decide_eq_false h]
    cases hh : Nat.ble (a + 1) b
    · rfl
    · exact absurd (Nat.le_of_ble_eq_true hh) (by omega)
theorem ltI_eq (a b : Int) : decide (a < b) = ltI a b := by
  cases a with
  | ofNat a => cases b with
    | ofNat b =>
      show decide (((a : Nat) : Int) < ((b : Nat) : Int)) = Nat.blt a b
      rw [blt_eq]; exact decide_eq_decide.2 (by omega)
    | negSucc b =>
      show decide (((a : Nat) : Int) < Int.negSucc b) = false
      exact decide_eq_false (by omega)
  | negSucc a => cases b with
    | ofNat b =>
      show decide (Int.negSucc a < ((b : Nat) : Int)) = true
      exact decide_eq_true (by omega)
    | negSucc b =>
      show decide (Int.negSucc a < Int.negSucc b) = Nat.blt b a
      rw [blt_eq]; exact decide_eq_decide.2 (by omega)
def mxF (a b : Int) : Int := bif ltI a b then b else a
def mnF (a b : Int) : Int := bif ltI b a then b else a
theorem mxF_eq (a b : Int) : mx a b = mxF a b := by
  unfold mx mxF
  rw [← ltI_eq]
  by_cases h : a < b
  · rw [if_pos h, decide_eq_true h]; rfl
  · rw [if_neg h, decide_eq_false h]; rfl
theorem mnF_eq (a b : Int) : mn a b = mnF a b := by
  unfold mn mnF
  rw [← ltI_eq]
  by_cases h : b < a
  · rw [if_pos h, decide_eq_true h]; rfl
  · rw [if_neg h, decide_eq_false h]; rfl
def sqF : Int → Int
  | .ofNat k => .ofNat (2048 + 2560 * k / (512 + k))
  | .negSucc k => 2048 - .ofNat (2560 * (k + 1) / (512 + (k + 1)))
theorem sqF_eq (d : Int) : sq d = sqF d := by
  cases d with
  | ofNat k =>
    show sq ((k : Nat) : Int) = ((2048 + 2560 * k / (512 + k) : Nat) : Int)
    rw [sq_pos _ (by omega), show (2560 : Int) * ((k : Nat) : Int) = ((2560 * k : Nat) : Int) by omega, show (512 : Int) + ((k : Nat) : Int) = ((512 + k : Nat) : Int) by omega, ← Int.natCast_ediv]
    generalize 2560 * k / (512 + k) = q
    omega
  | negSucc k =>
    show _ = 2048 - ((2560 * (k + 1) / (512 + (k + 1)) : Nat) : Int)
    rw [sq_neg _ (by omega), show -(Int.negSucc k) = ((k + 1 : Nat) : Int) by omega, show (2560 : Int) * ((k + 1 : Nat) : Int) = ((2560 * (k + 1) : Nat) : Int) by omega, show (512 : Int) + ((k + 1 : Nat) : Int) = ((512 + (k + 1) : Nat) : Int) by omega, ← Int.natCast_ediv]
def strN (k : Nat) : Int := bif Nat.ble 2048 k then .ofNat ((512 * (k - 2048) + 2559 - (k - 2048)) / (2560 - (k - 2048))) else Int.negOfNat ((512 * (2049 - k) - 1) / (511 + k))
def strC (k : Nat) : Bool := !ltI (strN k) (-2047) && !ltI 2047 (strN k) && !ltI (sqF (strN k)) (.ofNat k) && ((strN k == -2047) || ltI (sqF (strN k - 1)) (.ofNat k))
theorem strC_all : (List.range 4095).all (fun k => strC (k + 1)) = true := by decide +kernel
def clF (p : Int) : Nat := match p with
  | .ofNat k => bif Nat.ble 1 k then (bif Nat.ble k 4095 then k else 4095) else 1
  | .negSucc _ => 1
theorem clF_eq (p : Int) : clp p = ((clF p : Nat) : Int) := by
  unfold clp
  cases p with
  | ofNat k =>
    show mx 1 (mn ((k : Nat) : Int) 4095) = (((bif Nat.ble 1 k then (bif Nat.ble k 4095 then k else 4095) else 1) : Nat) : Int)
    by_cases h : 1 ≤ k
    · rw [Nat.ble_eq_true_of_le h, cond_true]
      by_cases h2 : k ≤ 4095
      · rw [Nat.ble_eq_true_of_le h2, cond_true]
        unfold mx mn; (repeat' split) <;> omega
      · rw [ble_f h2, cond_false]
        unfold mx mn; (repeat' split) <;> omega
    · rw [ble_f h, cond_false]
      unfold mx mn; (repeat' split) <;> omega
  | negSucc k =>
    show mx 1 (mn (Int.negSucc k) 4095) = 1
    unfold mx mn; (repeat' split) <;> omega
theorem strN_is {k : Nat} (h1 : 1 ≤ k) (h2 : k ≤ 4095) : IsStr (k : Int) (strN k) := by
  have h := List.all_eq_true.1 strC_all (k - 1) (List.mem_range.2 (by omega))
  rw [show k - 1 + 1 = k by omega] at h
  unfold strC at h
  simp only [Bool.and_eq_true, Bool.or_eq_true, Bool.not_eq_true', ← ltI_eq, decide_eq_false_iff_not, decide_eq_true_eq, beq_iff_eq, ← sqF_eq] at h
  obtain ⟨⟨⟨a, b⟩, c⟩, d⟩ := h
  simp only [Int.ofNat_eq_natCast] at c d
  exact ⟨by omega, by omega, by omega, d⟩
def strF (p : Int) : Int := strN (clF p)
theorem strF_eq (p : Int) : strV p = strF p := by
  have h := strV_is p
  rw [clF_eq] at h
  have hb := clp_bd p
  rw [clF_eq] at hb
  exact h.uniq (strN_is (by omega) (by omega))
def cvF (a : Int) : Int := mxF 1 (shF 16 a)
theorem cvF_eq (a : Int) : chanceV a = cvF a := by
  unfold chanceV cvF
  rw [mxF_eq]
  congr 1
  cases a with
  | ofNat k => rfl
  | negSucc k => rfl
/-- The inputs. -/
def x0F (a : Int) : Int := strF (cvF a)
def x2F (lv : Nat) (c : Int) : Int := bif Nat.beq lv 2 then strF (cvF c) else 0
theorem xs_eq (lv : Nat) (a b c : Int) : mIns (xsV lv a b c) = [x0F a, x0F b, x2F lv c, 256] := by
  have e2 : (if lv = 2 then strV (chanceV c) else 0) = x2F lv c := by
    unfold x2F
    by_cases h : lv = 2
    · subst h; rw [if_pos rfl, show Nat.beq 2 2 = true from rfl, cond_true, strF_eq, cvF_eq]
    · rw [if_neg h, beq_f h]; rfl
  have b2 : -2047 ≤ x2F lv c ∧ x2F lv c ≤ 2047 := by
    rw [← e2]; split
    · exact strV_bd _
    · omega
  have ba := strV_bd (chanceV a)
  have bb := strV_bd (chanceV b)
  unfold mIns xsV
  rw [e2]
  show [mIn _ 0, mIn _ 1, mIn _ 2, mIn _ 3] = _
  have e0 : x0F a = strV (chanceV a) := by unfold x0F; rw [strF_eq, cvF_eq]
  have e1 : x0F b = strV (chanceV b) := by unfold x0F; rw [strF_eq, cvF_eq]
  rw [e0, e1]
  show [cl (strV (chanceV a)), cl (strV (chanceV b)), cl (x2F lv c), cl 256] = _
  rw [cl_id _ ba.1 ba.2, cl_id _ bb.1 bb.2, cl_id _ b2.1 b2.2]; rfl
def clT (d : Int) : Int := mxF (-2047) (mnF d 2047)
def toldF (x y u : Int) (W : List Int) : Int := sqF (clT (shF 65536 (wF (wF (wF (wF (0 + wF (x * W.getD 0 0)) + wF (y * W.getD 1 0)) + wF (u * W.getD 2 0)) + wF (256 * W.getD 3 0)))))
theorem told_eq (lv : Nat) (v : Pv) (b c : Int) : toldV lv v b c = toldF (x0F v.a) (x0F b) (x2F lv c) v.W := by
  unfold toldV
  rw [xs_eq]
  unfold mTold mSum mSum mSum mSum mSum toldF clT
  rw [sqF_eq, shF_eq .i64 _ 16 65536 rfl]
  unfold cl
  rw [mxF_eq, mnF_eq]
  simp only [wF_eq]
  rfl
def wgF (x w e : Int) : Int := mxF (-16777216) (mnF (wF (w + shF 65536 (wF (wF (x * e) + 32768)))) 16777216)
def eF (bit t : Int) : Int := wF (7 * wF ((bif bit == 0 then 0 else 4095) - t))
theorem eF_eq (bit t : Int) : mE bit t = eF bit t := by
  unfold mE eF
  rw [wF_eq, wF_eq]
  by_cases h : bit = 0
  · subst h; rfl
  · rw [if_pos h, show (bit == 0) = false by simpa using h]; rfl
def rowF (x y u : Int) (W : List Int) (e : Int) : List Int := [wgF x (W.getD 0 0) e, wgF y (W.getD 1 0) e, wgF u (W.getD 2 0) e, wgF 256 (W.getD 3 0) e]
theorem row_eq (x y u : Int) (W : List Int) (e : Int) : mRow [x, y, u, 256] W e 4 = rowF x y u W e := by
  show [mW _ W e 0, mW _ W e 1, mW _ W e 2, mW _ W e 3] = _
  unfold mW rowF wgF
  simp only [mxF_eq, mnF_eq, wF_eq, shF_eq .i64 _ 16 65536 rfl]
  rfl
def kF (t : Int) : Nat := (strF t + 2048).toNat / 128
def rF (t : Int) : Nat := (strF t + 2048).toNat % 128
theorem k_eq (t : Int) : sK t = kF t ∧ sR t = rF t := by
  have := strV_bd t
  unfold sK sR kF rF
  rw [← strF_eq]; omega
def sT (T : List Int) (t : Int) : Int := mxF 1 (mnF (shF 2048 (wF (wF (T.getD (kF t) 0 * wF (128 - .ofNat (rF t))) + wF (T.getD (kF t + 1) 0 * .ofNat (rF t))))) 4095)
theorem sT_eq (T : List Int) (t : Int) : sTold T t = sT T t := by
  unfold sTold sT
  rw [(k_eq t).1, (k_eq t).2, mxF_eq, mnF_eq, shF_eq .i64 _ 11 2048 rfl]
  simp only [wF_eq]
  rfl
def spF (t : Int) : Nat := bif Nat.ble 64 (rF t) then kF t + 1 else kF t
theorem sp_eq (t : Int) : stepV t = spF t := by
  unfold stepV spF
  rw [(k_eq t).1, (k_eq t).2]
  by_cases h : 64 ≤ rF t
  · rw [if_pos h, Nat.ble_eq_true_of_le h]; rfl
  · rw [if_neg h]
    cases hh : Nat.ble 64 (rF t)
    · rfl
    · exact absurd (Nat.le_of_ble_eq_true hh) h
def upF (v bit : Int) : Int := wF (v + shF 64 (wF ((bif bit == 0 then 0 else 65535) - v)))
theorem up_eq (v bit : Int) : sUp v bit 6 = upF v bit := by
  unfold sUp upF
  rw [show (min (Int.toNat (mx 1 (mn 6 15))) (IntKind.bits .i64)) = 6 from rfl, shF_eq .i64 _ 6 64 rfl]
  simp only [wF_eq]
  by_cases h : bit = 0
  · subst h; rfl
  · rw [if_pos h, show (bit == 0) = false by simpa using h]; rfl
def nxF (a bit : Int) (d : Nat) : Int := bif bit == 0 then a - shF d a else a + shF d (65535 - a)
theorem shF_div (a : Int) (d : Nat) (h : 0 < d) : a / (d : Int) = shF d a := by
  obtain ⟨e, rfl⟩ : ∃ e, d = e + 1 := ⟨d - 1, by omega⟩
  cases a <;> rfl
theorem nx_eq (a bit rate : Int) (d : Nat) (h : dv rate = (d : Int)) (h0 : 0 < d) : nextV a bit rate = nxF a bit d := by
  unfold nextV nxF
  rw [h, shF_div _ _ h0, shF_div _ _ h0]
  by_cases hb : bit = 0
  · subst hb; rfl
  · rw [if_neg hb, show (bit == 0) = false by simpa using hb]; rfl
theorem dv4 : dv 4 = ((16 : Nat) : Int) := by decide +kernel
theorem dv3 : dv 3 = ((8 : Nat) : Int) := by decide +kernel
def chF (lv : Nat) (v : Pv) (b c : Int) : Int := bif Nat.beq lv 0 then cvF v.a else shF 4 (wF (toldF (x0F v.a) (x0F b) (x2F lv c) v.W + wF (3 * sT v.T (toldF (x0F v.a) (x0F b) (x2F lv c) v.W))))
theorem ch_eq (lv : Nat) (v : Pv) (b c : Int) : chV lv v b c = chF lv v b c := by
  unfold chV chF
  by_cases h : lv = 0
  · subst h; rw [if_pos rfl]; exact cvF_eq _
  · rw [if_neg h, beq_f h, cond_false, told_eq, sT_eq]
    have hb := sTold_bd v.T (toldF (x0F v.a) (x0F b) (x2F lv c) v.W)
    rw [sT_eq] at hb
    have ht : 1 ≤ toldF (x0F v.a) (x0F b) (x2F lv c) v.W ∧ toldF (x0F v.a) (x0F b) (x2F lv c) v.W ≤ 4095 := by
      unfold toldF
      rw [← sqF_eq]
      have := cl_bd (shF 65536 (wF (wF (wF (wF (0 + wF (x0F v.a * v.W.getD 0 0)) + wF (x0F b * v.W.getD 1 0)) + wF (x2F lv c * v.W.getD 2 0)) + wF (256 * v.W.getD 3 0))))
      unfold cl at this
      rw [mxF_eq, mnF_eq] at this
      exact sq_bd _ this.1 this.2
    generalize toldF (x0F v.a) (x0F b) (x2F lv c) v.W = t at *
    generalize sT v.T t = q at *
    rw [wF_eq, wF_eq, wF_eq, ← wF_eq (3 * q), w64 (a := 3 * q) (by omega) (by omega), ← wF_eq (t + 3 * q), w64 (a := t + 3 * q) (by omega) (by omega), Int.tdiv_eq_ediv_of_nonneg (by omega), ← wF_eq, w64 (by omega) (by omega)]
    exact shF_div _ 4 (by omega)
def stF (lv : Nat) (v : Pv) (b c bit : Int) : Pv :=
  bif Nat.beq lv 0 then ⟨nxF v.a bit 16, v.W, v.T⟩ else
  ⟨nxF v.a bit 16, rowF (x0F v.a) (x0F b) (x2F lv c) v.W (eF bit (toldF (x0F v.a) (x0F b) (x2F lv c) v.W)), v.T.set (spF (toldF (x0F v.a) (x0F b) (x2F lv c) v.W)) (upF (v.T.getD (spF (toldF (x0F v.a) (x0F b) (x2F lv c) v.W)) 0) bit)⟩
theorem st_eq (lv : Nat) (v : Pv) (b c bit : Int) : stV lv v b c bit = stF lv v b c bit := by
  unfold stV stF
  by_cases h : lv = 0
  · subst h
    rw [if_pos rfl, if_pos rfl, nx_eq _ _ _ 16 dv4 (by omega)]; rfl
  · rw [if_neg h, if_neg h, beq_f h, cond_false, nx_eq _ _ _ 16 dv4 (by omega), xs_eq, told_eq, eF_eq, row_eq, sp_eq, up_eq]
end Go.Proofs.Ytdbnobeopgfhgaa.G
