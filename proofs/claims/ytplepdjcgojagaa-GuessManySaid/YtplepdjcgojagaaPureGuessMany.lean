/- Behind 40 ones with rate 4 the chance is above 3700, behind 40 zeros below 400, wherever the guess began. Condition: the guess is a 16-bit number. -/
import Derived.Test.YtplepdjcgojagaaPGuessManyx1
namespace Go.Proofs.Ytplepdjcgojagaa.Pure
open Go.RowKit Go.Proofs.Ytplepdjcgojagaa.PGuessMany Go.Proofs.YtplepdjcgojagaaW.PrintWords Go.Proofs.YtplepdjcgojagaaW.PrintLast

-- BEGIN
theorem wf_u16 {a : Int} (h : (Lit.int .u16 a).wf = true) : 0 ≤ a ∧ a ≤ 65535 := by
  simp [Lit.wf, IntKind.min, IntKind.max, IntKind.bits, IntKind.signed] at h
  omega
theorem next1 (a : Int) (h0 : 0 ≤ a) (h1 : a ≤ 65535) : guess_Next.f a 1 4 = some (a + (65535 - a) / 16) := by
  unfold guess_Next.f
  have e : (2 : Int) ^ (mx 1 (mn 4 15)).toNat = 16 := by decide
  rw [e]
  simp [IntKind.wrap, IntKind.bits, IntKind.signed]; omega
theorem next0 (a : Int) (h0 : 0 ≤ a) (h1 : a ≤ 65535) : guess_Next.f a 0 4 = some (a - a / 16) := by
  unfold guess_Next.f
  have e : (2 : Int) ^ (mx 1 (mn 4 15)).toNat = 16 := by decide
  rw [e]
  simp [IntKind.wrap, IntKind.bits, IntKind.signed]; omega
/-- The greatest distance behind so many steps. -/
def far : Nat → Nat
  | 0 => 65535
  | n + 1 => far n - far n / 16
theorem wr (i : Int) (h0 : 0 ≤ i) (h1 : i ≤ 100) : wrap64 (i + 1) = i + 1 := by unfold wrap64; omega
theorem ends (b : Bool) (x : Int) (h0 : 0 ≤ x) (h1 : x ≤ 65535) (hx : b = true → 65535 - x ≤ far 40) (hy : b = false → x ≤ far 40) :
    ((guess_Chance.f x).bind fun t103 => ((valiselaw05_awake.f).bind fun t104 => (if t104 = true then (if b = true then (if t103 > 3700 then (some true) else (some false)) else (some (decide (t103 < 400)))) else (some false)))) = some true := by
  have e3 : valiselaw05_awake.f = some true := by decide +kernel
  have hf : far 40 = 4965 := by decide
  rw [hf] at hx hy
  rw [e3]
  simp only [guess_Chance.f, Option.bind_some, if_true]
  have : wrap64 (x / 16) = x / 16 := by unfold wrap64; omega
  rw [this]
  cases b with
  | true =>
    have := hx rfl
    rw [if_pos rfl, if_pos (by unfold mx; split <;> omega)]
  | false =>
    have := hy rfl
    simp; unfold mx; split <;> omega
theorem far_le (n : Nat) : far n ≤ 65535 := by
  induction n with
  | zero => decide
  | succ n ih => unfold far; omega
theorem goes (b : Bool) (d : Nat) : ∀ (n : Nat) (x : Int), n + d = 40 → 0 ≤ x → x ≤ 65535 → (b = true → 65535 - x ≤ far n) → (b = false → x ≤ far n) →
    valiselaw05_GuessMany.l0 (d + 1) x b n = some true := by
  induction d with
  | zero =>
    intro n x hn h0 h1 hx hy
    have : n = 40 := by omega
    subst this
    simp only [valiselaw05_GuessMany.l0]
    rw [if_neg (by omega)]
    exact ends b x h0 h1 hx hy
  | succ d ih =>
    intro n x hn h0 h1 hx hy
    rw [valiselaw05_GuessMany.l0]
    rw [if_pos (by omega), wr n (by omega) (by omega)]
    have hl := far_le n
    have hf : far (n + 1) = far n - far n / 16 := rfl
    cases b with
    | true =>
      rw [if_pos rfl, next1 x h0 h1]
      simp only [Option.bind_some]
      have hx := hx rfl
      exact ih (n + 1) _ (by omega) (by omega) (by omega) (fun _ => by omega) (fun h => by cases h)
    | false =>
      rw [if_neg (by simp), next0 x h0 h1]
      simp only [Option.bind_some]
      have hy := hy rfl
      exact ih (n + 1) _ (by omega) (by omega) (by omega) (fun h => by cases h) (fun _ => by omega)
theorem GuessMany : valiselaw05_GuessMany.Pure := by
  intro a b ha
  obtain ⟨h0, h1⟩ := wf_u16 ha
  exact ⟨41, goes b 40 0 a rfl h0 h1 (fun _ => by show _ ≤ ((65535 : Nat) : Int); omega) (fun _ => by show _ ≤ ((65535 : Nat) : Int); omega)⟩

end Go.Proofs.Ytplepdjcgojagaa.Pure
