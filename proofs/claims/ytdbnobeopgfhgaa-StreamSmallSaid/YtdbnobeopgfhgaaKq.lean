/- The states of a place, in their fast form. -/
import Derived.Test.YtdbnobeopgfhgaaKf
set_option linter.unusedVariables false
set_option linter.unusedSimpArgs false
namespace Go.Proofs.Ytdbnobeopgfhgaa.G
open Go Go.Proofs.Ytdbnobeopgfhgaa.Vm Go.RowKit
def SqF (lv : Nat) (bit : Int) (z : Bool) (g1 g2 : Int) : Nat → Pv × Int × Int
  | 0 => (⟨32768, [16384, 16384, 16384, 16384], sFirst⟩, 32768, 32768)
  | n + 1 => (stF lv (SqF lv bit z g1 g2 n).1 (SqF lv bit z g1 g2 n).2.1 (SqF lv bit z g1 g2 n).2.2 bit, bif (Nat.beq n 0 && !z) then 32768 else nxF (SqF lv bit z g1 g2 n).2.1 bit 16, bif Nat.beq n 0 then g1 else bif Nat.beq n 1 then g2 else nxF (SqF lv bit z g1 g2 n).2.2 bit 8)
theorem SqF_eq (lv : Nat) (bit : Int) (z : Bool) (g1 g2 : Int) (n : Nat) : Sq lv bit z g1 g2 n = SqF lv bit z g1 g2 n := by
  induction n with
  | zero => rfl
  | succ n ih =>
    rw [Sq, SqF, ih, st_eq, nx_eq _ _ _ 16 dv4 (by omega), nx_eq _ _ _ 8 dv3 (by omega)]
    congr 2
    · by_cases h : n = 0
      · subst h
        cases z <;> rfl
      · rw [if_neg (fun g => h g.1), beq_f h]; rfl
    · by_cases h : n = 0
      · subst h; rfl
      · rw [if_neg h, beq_f h, cond_false]
        by_cases h1 : n = 1
        · subst h1; rfl
        · rw [if_neg h1, beq_f h1, cond_false]
end Go.Proofs.Ytdbnobeopgfhgaa.G
