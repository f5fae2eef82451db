/- For every guess, bit and rate the program computes the same next guess and the same chance as the reference, and awake holds. Condition: the arguments are of their kinds. -/
import Derived.Test.YtplepdjcgojagaaPGuessStepsx1
namespace Go.Proofs.Ytplepdjcgojagaa.Pure
open Go.RowKit Go.Proofs.Ytplepdjcgojagaa.PGuessSteps Go.Proofs.YtplepdjcgojagaaW.PrintWords Go.Proofs.YtplepdjcgojagaaW.PrintLast

theorem GuessSteps : valiselaw05_GuessSteps.Pure := by
  intro a b c ha hb hc
  have e1 : guess_Next.f a b c = valiseref05_Next.f a b c := rfl
  have e2 : guess_Chance.f a = valiseref05_Chance.f a := rfl
  have e3 : valiselaw05_awake.f = some true := by decide +kernel
  obtain ⟨x, hx⟩ : ∃ x, guess_Next.f a b c = some x := by unfold guess_Next.f; split <;> exact ⟨_, rfl⟩
  unfold valiselaw05_GuessSteps.f
  rw [← e1, ← e2, e3, hx]
  simp [guess_Chance.f]

end Go.Proofs.Ytplepdjcgojagaa.Pure
