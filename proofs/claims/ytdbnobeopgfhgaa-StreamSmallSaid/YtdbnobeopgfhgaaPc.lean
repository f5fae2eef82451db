/- The range coder, as plain numbers: what it puts out, and that it is taken back. No statement of the seat is in this text. -/
import Derived.Test.YtdbnobeopgfhgaaVmQ
set_option linter.unusedVariables false
set_option linter.unusedSimpArgs false
namespace Go.Proofs.Ytdbnobeopgfhgaa.Vm
open Go Go.RowKit
/-- The chance that is taken. -/
def chc (a : Int) : Nat := (mx 1 (mn a 4095)).toNat
theorem chc_bd (a : Int) : 1 ≤ chc a ∧ chc a ≤ 4095 := by unfold chc mx mn; (repeat' split) <;> omega
theorem chc_int (a : Int) : mx 1 (mn a 4095) = ((chc a : Nat) : Int) := by unfold chc mx mn; (repeat' split) <;> omega
def midN (lo hi c : Nat) : Nat := lo + ((hi - lo) / 4096 * c + (hi - lo) % 4096 * c / 4096)
theorem midN_le {lo hi c : Nat} (h : lo ≤ hi) (hc : c ≤ 4095) : lo ≤ midN lo hi c ∧ midN lo hi c ≤ hi ∧ (lo < hi → midN lo hi c < hi) := by
  unfold midN
  have h1 : (hi - lo) / 4096 * c ≤ (hi - lo) / 4096 * 4095 := Nat.mul_le_mul_left _ hc
  have h2 : (hi - lo) % 4096 * c ≤ (hi - lo) % 4096 * 4095 := Nat.mul_le_mul_left _ hc
  generalize (hi - lo) / 4096 * c = a at h1 ⊢
  generalize (hi - lo) % 4096 * c = b at h2 ⊢
  omega
/-- Behind a bit. -/
def cutN (b : Bool) (lo hi c : Nat) : Nat × Nat := if b then (lo, midN lo hi c) else (midN lo hi c + 1, hi)
theorem cutN_le {b : Bool} {lo hi c : Nat} (h : lo < hi) (hc : c ≤ 4095) : lo ≤ (cutN b lo hi c).1 ∧ (cutN b lo hi c).1 ≤ (cutN b lo hi c).2 ∧ (cutN b lo hi c).2 ≤ hi := by
  have := midN_le (Nat.le_of_lt h) hc
  unfold cutN
  cases b <;> simp <;> omega
/-- Bytes that are put out, and the range behind them. -/
def shf : Nat → Nat → Nat → List Nat × Nat × Nat
  | 0, lo, hi => ([], lo, hi)
  | f + 1, lo, hi => if lo / 16777216 = hi / 16777216 then (lo / 16777216 :: (shf f (lo * 256 % 4294967296) (hi * 256 % 4294967296 + 255)).1, (shf f (lo * 256 % 4294967296) (hi * 256 % 4294967296 + 255)).2) else ([], lo, hi)
theorem shf_t {f lo hi : Nat} (h : lo / 16777216 = hi / 16777216) : shf (f + 1) lo hi = (lo / 16777216 :: (shf f (lo * 256 % 4294967296) (hi * 256 % 4294967296 + 255)).1, (shf f (lo * 256 % 4294967296) (hi * 256 % 4294967296 + 255)).2) := by
  rw [shf, if_pos h]
theorem shf_f {f lo hi : Nat} (h : ¬ lo / 16777216 = hi / 16777216) : shf f lo hi = ([], lo, hi) := by
  cases f with
  | zero => rfl
  | succ f => rw [shf, if_neg h]
/-- The range's width behind `4 - f` bytes. -/
def wid : Nat → Nat
  | 0 => 4294967295
  | 1 => 16777215
  | 2 => 65535
  | 3 => 255
  | _ => 0
theorem shf_ok : ∀ (f : Nat) {lo hi : Nat}, f ≤ 4 → lo ≤ hi → hi < 4294967296 → wid f ≤ hi - lo →
    (shf f lo hi).2.1 < (shf f lo hi).2.2 ∧ (shf f lo hi).2.2 < 4294967296 ∧ (shf f lo hi).2.1 / 16777216 ≠ (shf f lo hi).2.2 / 16777216 ∧ (∀ x ∈ (shf f lo hi).1, x < 256) ∧ (shf f lo hi).1.length ≤ f
  | 0, lo, hi, _, h1, h2, h3 => by
    simp only [shf, wid] at h3 ⊢
    refine ⟨by omega, h2, by omega, (fun x hx => by cases hx), Nat.le_refl _⟩
  | f + 1, lo, hi, hf, h1, h2, h3 => by
    by_cases h : lo / 16777216 = hi / 16777216
    · have hw : wid f ≤ (hi * 256 % 4294967296 + 255) - lo * 256 % 4294967296 := by
        have : f = 0 ∨ f = 1 ∨ f = 2 ∨ f = 3 := by omega
        rcases this with rfl | rfl | rfl | rfl <;> simp only [wid] at h3 ⊢ <;> omega
      have ih := shf_ok f (lo := lo * 256 % 4294967296) (hi := hi * 256 % 4294967296 + 255) (by omega) (by omega) (by omega) hw
      rw [shf_t h]
      refine ⟨ih.1, ih.2.1, ih.2.2.1, fun x hx => ?_, by simp only [List.length_cons]; have := ih.2.2.2.2; omega⟩
      rcases List.mem_cons.1 hx with rfl | hx
      · omega
      · exact ih.2.2.2.1 x hx
    · rw [shf_f h]
      refine ⟨by dsimp only; omega, h2, h, (fun x hx => by cases hx), Nat.zero_le _⟩
/-- A range as it is between the bits. -/
structure Rng (lo hi : Nat) : Prop where
  lt : lo < hi
  bd : hi < 4294967296
theorem Rng.full : Rng 0 4294967295 := ⟨by omega, by omega⟩
/-- What a bit puts out, and the range behind it. -/
def stp (b : Bool) (c lo hi : Nat) : List Nat × Nat × Nat := shf 4 (cutN b lo hi c).1 (cutN b lo hi c).2
theorem stp_ok {b : Bool} {c lo hi : Nat} (h : Rng lo hi) (hc : c ≤ 4095) : Rng (stp b c lo hi).2.1 (stp b c lo hi).2.2 ∧ (∀ x ∈ (stp b c lo hi).1, x < 256) ∧ (stp b c lo hi).1.length ≤ 4 := by
  have hl := cutN_le (b := b) h.lt hc
  have := shf_ok 4 (lo := (cutN b lo hi c).1) (hi := (cutN b lo hi c).2) (Nat.le_refl _) hl.2.1 (by have := h.bd; omega) (Nat.zero_le _)
  exact ⟨⟨this.1, this.2.1⟩, this.2.2.2.1, this.2.2.2.2⟩
/-- Four bytes. -/
def by4 (n : Nat) : List Nat := [n / 16777216, n / 65536 % 256, n / 256 % 256, n % 256]
/-- Four bytes, as a number. -/
def win (l : List Nat) : Nat := ((l.getD 0 0 * 256 + l.getD 1 0) * 256 + l.getD 2 0) * 256 + l.getD 3 0
theorem win_by4 {n : Nat} (h : n < 4294967296) : win (by4 n) = n := by
  simp only [win, by4, List.getD_cons_zero, List.getD_cons_succ]; omega
/-- What bits with their chances put out from a range on, to the end. -/
def encT : Nat → Nat → List (Bool × Nat) → List Nat
  | lo, _, [] => by4 lo
  | lo, hi, (b, c) :: bs => (stp b c lo hi).1 ++ encT (stp b c lo hi).2.1 (stp b c lo hi).2.2 bs
/-- Ranges and bytes behind bits. -/
def encS : Nat × Nat × List Nat → List (Bool × Nat) → Nat × Nat × List Nat
  | s, [] => s
  | (lo, hi, out), (b, c) :: bs => encS ((stp b c lo hi).2.1, (stp b c lo hi).2.2, out ++ (stp b c lo hi).1) bs
theorem encS_T : ∀ (bs : List (Bool × Nat)) (lo hi : Nat) (out : List Nat), (encS (lo, hi, out) bs).2.2 ++ by4 (encS (lo, hi, out) bs).1 = out ++ encT lo hi bs
  | [], _, _, _ => rfl
  | (b, c) :: bs, lo, hi, out => by rw [encS, encS_T bs, encT, List.append_assoc]
theorem encS_snoc : ∀ (bs : List (Bool × Nat)) (s : Nat × Nat × List Nat) (b : Bool) (c : Nat),
    encS s (bs ++ [(b, c)]) = ((stp b c (encS s bs).1 (encS s bs).2.1).2.1, (stp b c (encS s bs).1 (encS s bs).2.1).2.2, (encS s bs).2.2 ++ (stp b c (encS s bs).1 (encS s bs).2.1).1)
  | [], (lo, hi, out), b, c => rfl
  | (b', c') :: bs, (lo, hi, out), b, c => by rw [List.cons_append, encS, encS_snoc bs]; rfl
theorem encT_len : ∀ (bs : List (Bool × Nat)) (lo hi : Nat), 4 ≤ (encT lo hi bs).length
  | [], _, _ => by simp [encT, by4]
  | (b, c) :: bs, lo, hi => by rw [encT, List.length_append]; have := encT_len bs (stp b c lo hi).2.1 (stp b c lo hi).2.2; omega
theorem encT_by : ∀ (bs : List (Bool × Nat)) (lo hi : Nat), Rng lo hi → (∀ p ∈ bs, p.2 ≤ 4095) → ∀ x ∈ encT lo hi bs, x < 256
  | [], lo, hi, h, _, x, hx => by
    have h1 := h.lt; have h2 := h.bd
    simp only [encT, by4, List.mem_cons, List.not_mem_nil, or_false] at hx
    omega
  | (b, c) :: bs, lo, hi, h, hc, x, hx => by
    have hs := stp_ok (b := b) h (hc _ List.mem_cons_self)
    rw [encT] at hx
    rcases List.mem_append.1 hx with hx | hx
    · exact hs.2.1 x hx
    · exact encT_by bs _ _ hs.1 (fun p hp => hc p (List.mem_cons_of_mem _ hp)) x hx
theorem getD_bd {l : List Nat} (h : ∀ x ∈ l, x < 256) (i : Nat) : l.getD i 0 < 256 := by
  rw [List.getD_eq_getElem?_getD]
  cases hg : l[i]? with
  | none => simp
  | some v => exact h v (List.mem_of_getElem? hg)
set_option maxRecDepth 20000 in
theorem shf_win : ∀ (f : Nat) {lo hi : Nat} {T : List Nat}, lo ≤ hi → hi < 4294967296 → (∀ x ∈ T, x < 256) → (shf f lo hi).2.1 ≤ win T → win T ≤ (shf f lo hi).2.2 → (∀ x ∈ (shf f lo hi).1, x < 256) →
    lo ≤ win ((shf f lo hi).1 ++ T) ∧ win ((shf f lo hi).1 ++ T) ≤ hi
  | 0, lo, hi, T, _, _, _, h1, h2, _ => ⟨h1, h2⟩
  | f + 1, lo, hi, T, hl, hh, hT, h1, h2, hb => by
    by_cases h : lo / 16777216 = hi / 16777216
    · rw [shf_t h] at h1 h2 hb ⊢
      have hb' : ∀ x ∈ (shf f (lo * 256 % 4294967296) (hi * 256 % 4294967296 + 255)).1, x < 256 := fun x hx => hb x (List.mem_cons_of_mem _ hx)
      have ih := shf_win f (lo := lo * 256 % 4294967296) (hi := hi * 256 % 4294967296 + 255) (T := T) (by omega) (by omega) hT h1 h2 hb'
      dsimp only at ih ⊢
      rw [List.cons_append]
      have hall : ∀ x ∈ (shf f (lo * 256 % 4294967296) (hi * 256 % 4294967296 + 255)).1 ++ T, x < 256 := fun x hx => (List.mem_append.1 hx).elim (hb' x) (hT x)
      generalize (shf f (lo * 256 % 4294967296) (hi * 256 % 4294967296 + 255)).1 ++ T = U at ih hall ⊢
      simp only [win, List.getD_cons_zero, List.getD_cons_succ] at ih ⊢
      have u0 := getD_bd hall 0; have u1 := getD_bd hall 1; have u2 := getD_bd hall 2; have u3 := getD_bd hall 3
      simp only [show (0 : Nat) + 1 = 1 from rfl] at *
      omega
    · rw [shf_f h] at h1 h2 ⊢
      exact ⟨h1, h2⟩
theorem encT_win : ∀ (bs : List (Bool × Nat)) (lo hi : Nat), Rng lo hi → (∀ p ∈ bs, p.2 ≤ 4095) → lo ≤ win (encT lo hi bs) ∧ win (encT lo hi bs) ≤ hi
  | [], lo, hi, h, _ => by
    have h1 := h.lt; have h2 := h.bd
    rw [encT, win_by4 (by omega)]; omega
  | (b, c) :: bs, lo, hi, h, hc => by
    have hc1 : c ≤ 4095 := hc _ List.mem_cons_self
    have hs := stp_ok (b := b) h hc1
    have hl := cutN_le (b := b) h.lt hc1
    have hc' : ∀ p ∈ bs, p.2 ≤ 4095 := fun p hp => hc p (List.mem_cons_of_mem _ hp)
    have ih := encT_win bs _ _ hs.1 hc'
    have := shf_win 4 (lo := (cutN b lo hi c).1) (hi := (cutN b lo hi c).2) (T := encT (stp b c lo hi).2.1 (stp b c lo hi).2.2 bs) hl.2.1 (by have := h.bd; omega) (encT_by bs _ _ hs.1 hc') ih.1 ih.2 hs.2.1
    rw [encT]
    exact ⟨Nat.le_trans hl.1 this.1, Nat.le_trans this.2 hl.2.2⟩
/-- The window tells the bit. -/
theorem encT_bit {b : Bool} {c lo hi : Nat} {bs : List (Bool × Nat)} (h : Rng lo hi) (hc : ∀ p ∈ (b, c) :: bs, p.2 ≤ 4095) : decide (win (encT lo hi ((b, c) :: bs)) ≤ midN lo hi c) = b := by
  have hc1 : c ≤ 4095 := hc _ List.mem_cons_self
  have hs := stp_ok (b := b) h hc1
  have hl := cutN_le (b := b) h.lt hc1
  have hc' : ∀ p ∈ bs, p.2 ≤ 4095 := fun p hp => hc p (List.mem_cons_of_mem _ hp)
  have ih := encT_win bs _ _ hs.1 hc'
  have := shf_win 4 (lo := (cutN b lo hi c).1) (hi := (cutN b lo hi c).2) (T := encT (stp b c lo hi).2.1 (stp b c lo hi).2.2 bs) hl.2.1 (by have := h.bd; omega) (encT_by bs _ _ hs.1 hc') ih.1 ih.2 hs.2.1
  rw [encT]
  unfold stp at this ⊢
  cases b with
  | true =>
    simp only [cutN] at this ⊢
    exact decide_eq_true this.2
  | false =>
    simp only [cutN] at this ⊢
    exact decide_eq_false (by simp at this ⊢; omega)
/-! ### Taking bytes -/
/-- `k` bytes more are taken. -/
def takN (b : List Nat) : Nat → Nat → Nat → Nat × Nat
  | 0, code, p => (code, p)
  | k + 1, code, p => takN b k (code * 256 % 4294967296 + b.getD p 0) (p + 1)
theorem takN_at (b : List Nat) : ∀ (k code p : Nat), (takN b k code p).2 = p + k
  | 0, _, _ => rfl
  | k + 1, code, p => by rw [takN, takN_at b k]; omega
theorem takN_bd {b : List Nat} (hb : ∀ x ∈ b, x < 256) : ∀ (k : Nat) {code p : Nat}, code < 4294967296 → (takN b k code p).1 < 4294967296
  | 0, _, _, h => h
  | k + 1, code, p, h => by rw [takN]; exact takN_bd hb k (by have := getD_bd hb p; omega)
theorem drop_getD (b : List Nat) (k i : Nat) : (b.drop k).getD i 0 = b.getD (k + i) 0 := by
  rw [List.getD_eq_getElem?_getD, List.getD_eq_getElem?_getD, List.getElem?_drop]
theorem takN_win {b : List Nat} (hb : ∀ x ∈ b, x < 256) : ∀ (k j : Nat), takN b k (win (b.drop j)) (j + 4) = (win (b.drop (j + k)), j + k + 4)
  | 0, j => rfl
  | k + 1, j => by
    have e : win (b.drop j) * 256 % 4294967296 + b.getD (j + 4) 0 = win (b.drop (j + 1)) := by
      simp only [win, drop_getD]
      have u0 := getD_bd hb (j + 0); have u1 := getD_bd hb (j + 1); have u2 := getD_bd hb (j + 2); have u3 := getD_bd hb (j + 3); have u4 := getD_bd hb (j + 4)
      simp only [show j + 1 + 0 = j + 1 by omega, show j + 1 + 1 = j + 2 by omega, show j + 1 + 2 = j + 3 by omega, show j + 1 + 3 = j + 4 by omega]
      omega
    rw [takN, e, show j + 4 + 1 = (j + 1) + 4 by omega, takN_win hb k (j + 1), show j + 1 + k = j + (k + 1) by omega]
theorem takN_new {b : List Nat} (hb : ∀ x ∈ b, x < 256) : takN b 4 0 0 = (win b, 4) := by
  have u0 := getD_bd hb 0; have u1 := getD_bd hb 1; have u2 := getD_bd hb 2
  simp only [takN, win]
  simp only [Nat.zero_mul, Nat.zero_mod, Nat.zero_add, show (1 : Nat) + 1 = 2 from rfl, show (2 : Nat) + 1 = 3 from rfl]
  rw [Nat.mod_eq_of_lt (by omega), Nat.mod_eq_of_lt (by omega), Nat.mod_eq_of_lt (by omega)]
/-- A decoder's state: the range, the code, the place. -/
abbrev Dst := Nat × Nat × Nat × Nat
/-- The bit that is told. -/
def dbit (c : Nat) (s : Dst) : Bool := decide (s.2.2.1 ≤ midN s.1 s.2.1 c)
/-- The state behind it. -/
def dstp (b : List Nat) (c : Nat) (s : Dst) : Dst :=
  ((stp (dbit c s) c s.1 s.2.1).2.1, (stp (dbit c s) c s.1 s.2.1).2.2, (takN b (stp (dbit c s) c s.1 s.2.1).1.length s.2.2.1 s.2.2.2).1, (takN b (stp (dbit c s) c s.1 s.2.1).1.length s.2.2.1 s.2.2.2).2)
/-- What lies ahead of the decoder are the bytes of these bits. -/
structure Ahead (B : List Nat) (s : Dst) (bs : List (Bool × Nat)) : Prop where
  rng : Rng s.1 s.2.1
  place : ∃ k, s.2.2.2 = k + 4 ∧ B.drop k = encT s.1 s.2.1 bs ∧ s.2.2.1 = win (B.drop k) ∧ k ≤ B.length
  ch : ∀ p ∈ bs, p.2 ≤ 4095
  by' : ∀ x ∈ B, x < 256
theorem Ahead.bit {B : List Nat} {s : Dst} {b : Bool} {c : Nat} {bs : List (Bool × Nat)} (h : Ahead B s ((b, c) :: bs)) : dbit c s = b := by
  obtain ⟨k, h1, h2, h3, _⟩ := h.place
  unfold dbit
  rw [h3, h2]
  exact encT_bit h.rng h.ch
theorem Ahead.step {B : List Nat} {s : Dst} {b : Bool} {c : Nat} {bs : List (Bool × Nat)} (h : Ahead B s ((b, c) :: bs)) : Ahead B (dstp B c s) bs := by
  have hb := h.bit
  obtain ⟨k, h1, h2, h3, h4⟩ := h.place
  have hs := stp_ok (b := b) h.rng (h.ch _ List.mem_cons_self)
  unfold dstp
  rw [hb, h1, h3, takN_win h.by']
  refine ⟨hs.1, ⟨k + (stp b c s.1 s.2.1).1.length, rfl, ?_, rfl, ?_⟩, fun p hp => h.ch p (List.mem_cons_of_mem _ hp), h.by'⟩
  · rw [← List.drop_drop, h2, encT, List.drop_left]
  · have : (B.drop k).length = (encT s.1 s.2.1 ((b, c) :: bs)).length := by rw [h2]
    rw [List.length_drop, encT, List.length_append] at this
    omega
theorem Ahead.new {bs : List (Bool × Nat)} (hc : ∀ p ∈ bs, p.2 ≤ 4095) : Ahead (encT 0 4294967295 bs) (0, 4294967295, (takN (encT 0 4294967295 bs) 4 0 0).1, (takN (encT 0 4294967295 bs) 4 0 0).2) bs := by
  have hb := encT_by bs _ _ Rng.full hc
  rw [takN_new hb]
  exact ⟨Rng.full, ⟨0, rfl, rfl, rfl, Nat.zero_le _⟩, hc, hb⟩
/-- At the end no byte past the end was taken. -/
theorem Ahead.done {B : List Nat} {s : Dst} (h : Ahead B s []) : s.2.2.2 = B.length := by
  obtain ⟨k, h1, h2, h3, h4⟩ := h.place
  have : (B.drop k).length = 4 := by rw [h2]; rfl
  rw [List.length_drop] at this
  omega
end Go.Proofs.Ytdbnobeopgfhgaa.Vm
