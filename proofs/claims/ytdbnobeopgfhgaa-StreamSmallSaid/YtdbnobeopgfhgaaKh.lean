/- How many bytes likely bits make: plain numbers. No statement of the seat is in this text. -/
import Derived.Test.YtdbnobeopgfhgaaMk
set_option linter.unusedVariables false
set_option linter.unusedSimpArgs false
namespace Go.Proofs.Ytdbnobeopgfhgaa.G
open Go Go.Proofs.Ytdbnobeopgfhgaa.Vm Go.RowKit
theorem midN_eq (lo hi c : Nat) : midN lo hi c = lo + (hi - lo) * c / 4096 := by
  unfold midN
  congr 1
  generalize hi - lo = d
  have h := Nat.div_add_mod d 4096
  have e : d * c = 4096 * (d / 4096 * c) + d % 4096 * c := by
    conv => lhs; rw [← h]
    rw [Nat.add_mul, Nat.mul_assoc]
  rw [e, Nat.mul_add_div (by omega)]
/-- The chance of the bit that comes. -/
def qB (b : Bool) (c : Nat) : Nat := if b then c else 4096 - c
theorem cut_q {b : Bool} {lo hi c : Nat} (h : lo < hi) (hc1 : 1 ≤ c) (hc : c ≤ 4095) : (hi - lo) * qB b c ≤ 4096 * ((cutN b lo hi c).2 - (cutN b lo hi c).1 + 1) := by
  have hm := midN_eq lo hi c
  unfold cutN qB
  generalize hd : hi - lo = d at hm
  have h1 := Nat.div_add_mod (d * c) 4096
  have h2 := Nat.mod_lt (d * c) (show 4096 > 0 by omega)
  generalize d * c / 4096 = x at hm h1
  generalize (d * c) % 4096 = y at h1 h2
  cases b
  · simp only [Bool.false_eq_true, if_false]
    rw [Nat.mul_sub d 4096 c]
    have hdx : x ≤ d := by
      have : d * c ≤ d * 4096 := Nat.mul_le_mul_left _ (by omega)
      omega
    rw [hm]
    omega
  · simp only [if_true]
    rw [hm]
    omega
theorem shf_width : ∀ (f : Nat) {l h : Nat}, l ≤ h → h < 4294967296 → (shf f l h).2.2 - (shf f l h).2.1 + 1 = (h - l + 1) * 256 ^ (shf f l h).1.length ∧ (shf f l h).2.1 ≤ (shf f l h).2.2
  | 0, l, h, h1, h2 => by simp [shf]; exact h1
  | f + 1, l, h, h1, h2 => by
    by_cases e : l / 16777216 = h / 16777216
    · have hw : h * 256 % 4294967296 + 255 - l * 256 % 4294967296 + 1 = (h - l + 1) * 256 := by omega
      have hle : l * 256 % 4294967296 ≤ h * 256 % 4294967296 + 255 := by omega
      have ih := shf_width f (l := l * 256 % 4294967296) (h := h * 256 % 4294967296 + 255) hle (by omega)
      rw [shf_t e]
      refine ⟨?_, ih.2⟩
      rw [ih.1, hw, List.length_cons, Nat.pow_succ, Nat.mul_assoc, Nat.mul_comm 256]
    · rw [shf_f e]; simp; exact h1
/-- Out of a narrow range that lies about a border, two bytes go out at least. -/
theorem shf_exit {lo hi l h : Nat} (hh : hi < 4294967296) (hn : lo / 16777216 ≠ hi / 16777216) (h1 : lo ≤ l) (h2 : l ≤ h) (h3 : h ≤ hi) (hN : hi - lo < 8191) :
    (shf 4 l h).1.length = 0 ∨ (shf 4 l h).1.length = 4 ∨ ((shf 4 l h).1.length = 3 ∧ l < h) ∨ ((shf 4 l h).1.length = 2 ∧ 256 ≤ hi - lo) := by
  by_cases e0 : l / 16777216 = h / 16777216
  · rw [shf_t e0]
    have e1 : l * 256 % 4294967296 / 16777216 = (h * 256 % 4294967296 + 255) / 16777216 := by omega
    rw [shf_t e1]
    by_cases e2 : l * 256 % 4294967296 * 256 % 4294967296 / 16777216 = ((h * 256 % 4294967296 + 255) * 256 % 4294967296 + 255) / 16777216
    · rw [shf_t e2]
      by_cases e3 : l * 256 % 4294967296 * 256 % 4294967296 * 256 % 4294967296 / 16777216 = (((h * 256 % 4294967296 + 255) * 256 % 4294967296 + 255) * 256 % 4294967296 + 255) / 16777216
      · rw [shf_t e3]
        exact .inr (.inl rfl)
      · rw [shf_f e3]
        exact .inr (.inr (.inl ⟨rfl, by omega⟩))
    · rw [shf_f e2]
      exact .inr (.inr (.inr ⟨rfl, by omega⟩))
  · rw [shf_f e0]; exact .inl rfl
def wd (lo hi : Nat) : Nat := max (hi - lo + 1) 8192
theorem wd_ge (lo hi : Nat) : 8192 ≤ wd lo hi := by unfold wd; exact Nat.le_max_right _ _
theorem wd_low {lo hi : Nat} (h : hi - lo < 8191) : wd lo hi = 8192 := by unfold wd; exact Nat.max_eq_right (by omega)
theorem wd_high {lo hi : Nat} (h : ¬ hi - lo < 8191) : wd lo hi = hi - lo + 1 := by unfold wd; exact Nat.max_eq_left (by omega)
theorem wd_bd {lo hi : Nat} (h : hi < 4294967296) : wd lo hi ≤ 4294967296 := by unfold wd; exact Nat.max_le.2 ⟨by omega, by omega⟩
theorem stp_cost {b : Bool} {c lo hi : Nat} (hr : Rng lo hi) (hn : lo / 16777216 ≠ hi / 16777216) (hc1 : 1 ≤ c) (hc : c ≤ 4095) :
    256 ^ (stp b c lo hi).1.length * (wd lo hi * qB b c * 8191) ^ 2 ≤ (4096 * 8192 * wd (stp b c lo hi).2.1 (stp b c lo hi).2.2) ^ 2 ∧ (stp b c lo hi).2.1 / 16777216 ≠ (stp b c lo hi).2.2 / 16777216 := by
  have hlt := hr.lt
  have hbd := hr.bd
  have hl := cutN_le (b := b) hlt hc
  have hq := cut_q (b := b) hlt hc1 hc
  have hqb : qB b c ≤ 4095 := by unfold qB; split <;> omega
  have ok := shf_ok 4 (lo := (cutN b lo hi c).1) (hi := (cutN b lo hi c).2) (Nat.le_refl _) hl.2.1 (by omega) (Nat.zero_le _)
  have wi := shf_width 4 (l := (cutN b lo hi c).1) (h := (cutN b lo hi c).2) hl.2.1 (by omega)
  refine ⟨?_, ok.2.2.1⟩
  unfold stp
  generalize (cutN b lo hi c).1 = l at *
  generalize (cutN b lo hi c).2 = h at *
  have hs4 := ok.2.2.2.2
  have hw : (h - l + 1) * 256 ^ (shf 4 l h).1.length ≤ wd (shf 4 l h).2.1 (shf 4 l h).2.2 := by
    unfold wd; rw [wi.1]; exact Nat.le_max_left _ _
  have hw0 : 8192 ≤ wd (shf 4 l h).2.1 (shf 4 l h).2.2 := wd_ge _ _
  by_cases hN : hi - lo < 8191
  · have ex := shf_exit hbd hn hl.1 hl.2.1 hl.2.2 hN
    have hW : wd lo hi = 8192 := wd_low hN
    rw [hW]
    generalize wd (shf 4 l h).2.1 (shf 4 l h).2.2 = W' at *
    generalize (shf 4 l h).1.length = s at *
    generalize qB b c = q at *
    have base : 8192 * q * 8191 ≤ 8192 * 4096 * 8192 := Nat.mul_le_mul (Nat.mul_le_mul_left _ (by omega)) (by omega)
    rcases ex with rfl | rfl | ⟨rfl, hlh⟩ | ⟨rfl, h256⟩
    · rw [Nat.pow_zero, Nat.one_mul]
      refine Nat.pow_le_pow_left ?_ 2
      omega
    · have hW' : 4294967296 ≤ W' := by omega
      refine Nat.le_trans (Nat.mul_le_mul_left _ (Nat.pow_le_pow_left base 2)) ?_
      refine Nat.le_trans ?_ (Nat.pow_le_pow_left (Nat.mul_le_mul_left (4096 * 8192) hW') 2)
      decide
    · have hW' : 33554432 ≤ W' := by omega
      refine Nat.le_trans (Nat.mul_le_mul_left _ (Nat.pow_le_pow_left base 2)) ?_
      refine Nat.le_trans ?_ (Nat.pow_le_pow_left (Nat.mul_le_mul_left (4096 * 8192) hW') 2)
      decide
    · have hq16 : q ≤ 16 * (h - l + 1) := by
        have : 256 * q ≤ (hi - lo) * q := Nat.mul_le_mul_right _ h256
        omega
      generalize h - l + 1 = n at *
      have e1 : (256 ^ 2 : Nat) * (8192 * q * 8191) ^ 2 = (256 * (8192 * q * 8191)) ^ 2 := by rw [Nat.mul_pow 256 (8192 * q * 8191) 2]
      rw [e1]
      refine Nat.pow_le_pow_left ?_ 2
      have hW' : n * 65536 ≤ W' := hw
      omega
  · have hW : wd lo hi = hi - lo + 1 := wd_high hN
    rw [hW]
    have hkey : (hi - lo + 1) * qB b c * 8191 ≤ 4096 * 8192 * (h - l + 1) := by
      have g : (hi - lo + 1) * 8191 ≤ (hi - lo) * 8192 := by omega
      have g2 := Nat.mul_le_mul_right (qB b c) g
      have g3 := Nat.mul_le_mul_right 8192 hq
      calc (hi - lo + 1) * qB b c * 8191 = (hi - lo + 1) * 8191 * qB b c := by rw [Nat.mul_right_comm]
        _ ≤ (hi - lo) * 8192 * qB b c := g2
        _ = (hi - lo) * qB b c * 8192 := by rw [Nat.mul_right_comm]
        _ ≤ 4096 * (h - l + 1) * 8192 := g3
        _ = 4096 * 8192 * (h - l + 1) := by rw [Nat.mul_right_comm]
    have hp : 256 ^ (shf 4 l h).1.length ≤ (256 ^ (shf 4 l h).1.length) ^ 2 := by
      rw [Nat.pow_two]; exact Nat.le_mul_of_pos_right _ (Nat.pow_pos (by omega))
    calc 256 ^ (shf 4 l h).1.length * ((hi - lo + 1) * qB b c * 8191) ^ 2 ≤ (256 ^ (shf 4 l h).1.length) ^ 2 * (4096 * 8192 * (h - l + 1)) ^ 2 := Nat.mul_le_mul hp (Nat.pow_le_pow_left hkey 2)
      _ = (4096 * 8192 * ((h - l + 1) * 256 ^ (shf 4 l h).1.length)) ^ 2 := by rw [← Nat.mul_pow]; congr 1; rw [Nat.mul_comm (256 ^ _), Nat.mul_assoc]
      _ ≤ _ := Nat.pow_le_pow_left (Nat.mul_le_mul_left _ hw) 2
/-- The chances of all bits that come, one by one. -/
def qs : List (Bool × Nat) → Nat
  | [] => 1
  | (b, c) :: bs => qB b c * qs bs
theorem qs_app : ∀ (r t : List (Bool × Nat)), qs (r ++ t) = qs r * qs t
  | [], t => by simp [qs]
  | (b, c) :: r, t => by rw [List.cons_append, qs, qs_app r t, qs, Nat.mul_assoc]
theorem comb {A B D W0 W1 Wf q Q P M L : Nat} (h0 : 0 < W1) (h1 : A * (W1 * (Q * P)) ^ 2 ≤ B * D * (L * Wf) ^ 2) (h2 : D * (W0 * q * 8191) ^ 2 ≤ (M * W1) ^ 2) : A * (W0 * (q * Q * (P * 8191))) ^ 2 ≤ B * (L * M * Wf) ^ 2 := by
  refine Nat.le_of_mul_le_mul_left (c := W1 ^ 2) ?_ (Nat.pow_pos h0)
  generalize (8191 : Nat) = z at *
  calc W1 ^ 2 * (A * (W0 * (q * Q * (P * z))) ^ 2) = A * (W1 * (Q * P)) ^ 2 * (W0 * q * z) ^ 2 := by simp only [Nat.mul_pow]; ac_rfl
    _ ≤ B * D * (L * Wf) ^ 2 * (W0 * q * z) ^ 2 := Nat.mul_le_mul_right _ h1
    _ = B * (L * Wf) ^ 2 * (D * (W0 * q * z) ^ 2) := by ac_rfl
    _ ≤ B * (L * Wf) ^ 2 * (M * W1) ^ 2 := Nat.mul_le_mul_left _ h2
    _ = W1 ^ 2 * (B * (L * M * Wf) ^ 2) := by simp only [Nat.mul_pow]; ac_rfl
theorem encS_cost : ∀ (bs : List (Bool × Nat)) (lo hi : Nat) (out : List Nat), Rng lo hi → lo / 16777216 ≠ hi / 16777216 → (∀ p ∈ bs, 1 ≤ p.2 ∧ p.2 ≤ 4095) →
    256 ^ (encS (lo, hi, out) bs).2.2.length * (wd lo hi * (qs bs * 8191 ^ bs.length)) ^ 2 ≤ 256 ^ out.length * ((4096 * 8192) ^ bs.length * wd (encS (lo, hi, out) bs).1 (encS (lo, hi, out) bs).2.1) ^ 2 ∧ Rng (encS (lo, hi, out) bs).1 (encS (lo, hi, out) bs).2.1
  | [], lo, hi, out, hr, _, _ => by simp [encS, qs]; exact hr
  | (b, c) :: bs, lo, hi, out, hr, hn, hc => by
    have hc0 := hc _ List.mem_cons_self
    have st := stp_cost (b := b) hr hn hc0.1 hc0.2
    have ok := (stp_ok (b := b) hr hc0.2).1
    have ih := encS_cost bs (stp b c lo hi).2.1 (stp b c lo hi).2.2 (out ++ (stp b c lo hi).1) ok st.2 fun p hp => hc p (List.mem_cons_of_mem _ hp)
    rw [encS]
    refine ⟨?_, ih.2⟩
    have h1 := ih.1
    have h2 := st.1
    rw [List.length_append, Nat.pow_add] at h1
    have hpos : 0 < wd (stp b c lo hi).2.1 (stp b c lo hi).2.2 := Nat.lt_of_lt_of_le (by omega) (wd_ge _ _)
    generalize wd (stp b c lo hi).2.1 (stp b c lo hi).2.2 = W1 at *
    rw [qs, List.length_cons, Nat.pow_succ, Nat.pow_succ]
    exact comb hpos h1 h2
theorem pow_near : ∀ k, k ≤ 16000 → 8192 ^ k ≤ 8 * 8191 ^ k := by
  intro k hk
  have big : (8192 : Nat) ^ 16000 ≤ 8 * 8191 ^ 16000 := by decide +kernel
  obtain ⟨m, hm⟩ : ∃ m, 16000 = k + m := ⟨16000 - k, by omega⟩
  rw [hm, Nat.pow_add, Nat.pow_add] at big
  refine Nat.le_of_mul_le_mul_right (c := 8192 ^ m) ?_ (Nat.pow_pos (by omega))
  refine Nat.le_trans big ?_
  rw [← Nat.mul_assoc]
  exact Nat.mul_le_mul_left _ (Nat.pow_le_pow_left (by omega) m)
def BIG : Nat := 2 ^ 488
/-- Bits whose chances together are not below one part of 2^488 make 126 bytes at most. -/
theorem encT_few {bs : List (Bool × Nat)} {k : Nat} (hc : ∀ p ∈ bs, 1 ≤ p.2 ∧ p.2 ≤ 4095) (hk : bs.length = k) (hk2 : k ≤ 16000) (hq : 4096 ^ k ≤ BIG * qs bs) : (encT 0 4294967295 bs).length ≤ 126 := by
  have h := encS_cost bs 0 4294967295 [] Rng.full (by decide) hc
  have e := encS_T bs 0 4294967295 []
  rw [List.nil_append] at e
  rw [← e, List.length_append]
  have hwf := wd_bd (lo := (encS (0, 4294967295, []) bs).1) h.2.bd
  have h1 := h.1
  rw [hk] at h1
  have hw0 : wd 0 4294967295 = 4294967296 := by decide
  rw [hw0, List.length_nil, Nat.pow_zero, Nat.one_mul] at h1
  generalize wd (encS (0, 4294967295, []) bs).1 (encS (0, 4294967295, []) bs).2.1 = Wf at *
  have hout : (encS (0, 4294967295, []) bs).2.2.length ≤ 122 := by
    generalize (encS (0, 4294967295, []) bs).2.2.length = o at *
    generalize qs bs = q at *
    have near := pow_near k hk2
    have h2 : 256 ^ o * (q * 8191 ^ k) ^ 2 ≤ ((4096 * 8192) ^ k) ^ 2 := by
      refine Nat.le_of_mul_le_mul_left (c := 4294967296 ^ 2) ?_ (Nat.pow_pos (by omega))
      calc 4294967296 ^ 2 * (256 ^ o * (q * 8191 ^ k) ^ 2) = 256 ^ o * (4294967296 * (q * 8191 ^ k)) ^ 2 := by rw [Nat.mul_pow 4294967296]; exact Nat.mul_left_comm _ _ _
        _ ≤ ((4096 * 8192) ^ k * Wf) ^ 2 := h1
        _ ≤ ((4096 * 8192) ^ k * 4294967296) ^ 2 := Nat.pow_le_pow_left (Nat.mul_le_mul_left _ hwf) 2
        _ = 4294967296 ^ 2 * ((4096 * 8192) ^ k) ^ 2 := by rw [Nat.mul_pow _ 4294967296]; exact Nat.mul_comm _ _
    have hqpos : 0 < q := by
      rcases Nat.eq_zero_or_pos q with g | g
      · rw [g, Nat.mul_zero] at hq
        exact absurd hq (Nat.not_le_of_lt (Nat.pow_pos (by decide)))
      · exact g
    have h3 : (4096 * 8192) ^ k ≤ BIG * 8 * (q * 8191 ^ k) := by
      rw [Nat.mul_pow]
      calc 4096 ^ k * 8192 ^ k ≤ BIG * q * (8 * 8191 ^ k) := Nat.mul_le_mul hq near
        _ = BIG * 8 * (q * 8191 ^ k) := by ac_rfl
    have h4 : 256 ^ o ≤ (BIG * 8) ^ 2 := by
      refine Nat.le_of_mul_le_mul_right (c := (q * 8191 ^ k) ^ 2) ?_ (Nat.pow_pos (Nat.mul_pos hqpos (Nat.pow_pos (by omega))))
      refine Nat.le_trans h2 (Nat.le_trans (Nat.pow_le_pow_left h3 2) ?_)
      rw [Nat.mul_pow (BIG * 8)]
      exact Nat.le_refl _
    rcases Nat.lt_or_ge o 123 with g | g
    · omega
    · have h5 := Nat.pow_le_pow_right (show 0 < 256 by omega) g
      have h6 : (BIG * 8) ^ 2 < 256 ^ 123 := by decide +kernel
      exact absurd (Nat.lt_of_le_of_lt (Nat.le_trans h5 h4) h6) (Nat.lt_irrefl _)
  simp only [by4, List.length_cons, List.length_nil]
  omega
end Go.Proofs.Ytdbnobeopgfhgaa.G
