/- The stream cipher's functions and their reference: quarters, rounds, words. Printed by kn.py. -/
import Derived.Test.YtodicpmedallgaaKg
set_option linter.unusedVariables false
set_option linter.unusedSimpArgs false
namespace Go.Proofs.Ytodicpmedallgaa.G
open Go Go.Proofs.Ytodicpmedallgaa.Vm Go.RowKit
/-- A number turned: `n` to the left, `m` to the right. -/
def trn (v : Int) (n m : Nat) : Int := bor .u32 (shl .u32 v n) (shr .u32 v m)
theorem rot_ok {v k : Int} (n m : Nat) {w : World} {K : Int → World → Prop} (e1 : band .u64 (IntKind.wrap .u64 k) 31 = (n : Int)) (e2 : IntKind.wrap .u64 (32 - (n : Int)) = (m : Int)) (h : n ≤ 32) (hm : m ≤ 32) (hk : K (trn v n m) w) : math_bits_RotateLeft32.f v k w K := by
  unfold math_bits_RotateLeft32.f
  dsimp only
  rw [e1, e2, if_neg (by omega), if_neg (by omega), Int.toNat_natCast, Int.toNat_natCast, show IntKind.bits .u32 = 32 from rfl, Nat.min_eq_left h, Nat.min_eq_left hm]
  exact hk
theorem turn_ok {v : Int} (n m : Nat) {w : World} {K : Int → World → Prop} (e2 : IntKind.wrap .u64 (32 - (n : Int)) = (m : Int)) (h : n ≤ 32) (hm : m ≤ 32) (hk : K (trn v n m) w) : ref26_turn.f v (n : Int) w K := by
  unfold ref26_turn.f
  dsimp only
  rw [e2, if_neg (by omega), if_neg (by omega), Int.toNat_natCast, Int.toNat_natCast, show IntKind.bits .u32 = 32 from rfl, Nat.min_eq_left h, Nat.min_eq_left hm]
  exact hk
def qtr (a b c d : Int) : Int × Int × Int × Int :=
  let a1 := IntKind.wrap .u32 (a + b)
  let d1 := trn (bxor .u32 d a1) 16 16
  let c1 := IntKind.wrap .u32 (c + d1)
  let b1 := trn (bxor .u32 b c1) 12 20
  let a2 := IntKind.wrap .u32 (a1 + b1)
  let d2 := trn (bxor .u32 d1 a2) 8 24
  let c2 := IntKind.wrap .u32 (c1 + d2)
  let b2 := trn (bxor .u32 b1 c2) 7 25
  (a2, b2, c2, d2)
theorem chacha_Quarter_ok {a b c d : Int} {w : World} {K : Int → Int → Int → Int → World → Prop} (hk : K (qtr a b c d).1 (qtr a b c d).2.1 (qtr a b c d).2.2.1 (qtr a b c d).2.2.2 w) : chacha_Quarter.f a b c d w K := by
  unfold chacha_Quarter.f
  exact rot_ok 16 16 (by decide +kernel) (by decide +kernel) (by omega) (by omega) (rot_ok 12 20 (by decide +kernel) (by decide +kernel) (by omega) (by omega) (rot_ok 8 24 (by decide +kernel) (by decide +kernel) (by omega) (by omega) (rot_ok 7 25 (by decide +kernel) (by decide +kernel) (by omega) (by omega) hk)))
theorem ref26_Quarter_ok {a b c d : Int} {w : World} {K : Int → Int → Int → Int → World → Prop} (hk : K (qtr a b c d).1 (qtr a b c d).2.1 (qtr a b c d).2.2.1 (qtr a b c d).2.2.2 w) : ref26_Quarter.f a b c d w K := by
  unfold ref26_Quarter.f
  exact turn_ok 16 16 (by decide +kernel) (by omega) (by omega) (turn_ok 12 20 (by decide +kernel) (by omega) (by omega) (turn_ok 8 24 (by decide +kernel) (by omega) (by omega) (turn_ok 7 25 (by decide +kernel) (by omega) (by omega) hk)))
def qL (S : List Int) (a b c d : Nat) : List Int :=
  let q := qtr (S.getD a 0) (S.getD b 0) (S.getD c 0) (S.getD d 0)
  (((S.set a q.1).set b q.2.1).set c q.2.2.1).set d q.2.2.2
theorem qL_length (S : List Int) (a b c d : Nat) : (qL S a b c d).length = S.length := by simp [qL]
def colK (S : List Int) : Nat → List Int
  | 0 => S
  | k + 1 => qL (colK S k) k (4 + k) (8 + k) (12 + k)
def digK (S : List Int) : Nat → List Int
  | 0 => S
  | k + 1 => qL (digK S k) k (4 + (k + 1) % 4) (8 + (k + 2) % 4) (12 + (k + 3) % 4)
theorem colK_length (S : List Int) (k : Nat) : (colK S k).length = S.length := by
  induction k with
  | zero => rfl
  | succ k ih => rw [colK, qL_length, ih]
theorem digK_length (S : List Int) (k : Nat) : (digK S k).length = S.length := by
  induction k with
  | zero => rfl
  | succ k ih => rw [digK, qL_length, ih]
def rnd (S : List Int) : List Int := digK (colK S 4) 4
theorem rnd_length (S : List Int) : (rnd S).length = S.length := by rw [rnd, digK_length, colK_length]
def rndN (S : List Int) : Nat → List Int
  | 0 => S
  | n + 1 => rnd (rndN S n)
theorem rndN_length (S : List Int) (k : Nat) : (rndN S k).length = S.length := by
  induction k with
  | zero => rfl
  | succ k ih => rw [rndN, rnd_length, ih]
theorem rnd_eq (S : List Int) : rnd S = qL (qL (qL (qL (qL (qL (qL (qL S 0 4 8 12) 1 5 9 13) 2 6 10 14) 3 7 11 15) 0 5 10 15) 1 6 11 12) 2 7 8 13) 3 4 9 14 := rfl
theorem newC_i {k : IntKind} {e : TypeId} {w : World} {l : List Value} {xs : List Int} {K : Addr → World → Prop} (hl : l = xs.map (Value.int k))
    (hk : ∀ w', BlI k e w' w.heap.size xs → Chg no w w' → w'.heap.size = w.heap.size + 1 → K ⟨w.heap.size, 0, none⟩ w') : newC e l w K := by
  subst hl
  exact newC_b fun w' hb hc hs => hk w' hb hc hs

theorem lits16 {S : List Int} (h : S.length = 16) (k : IntKind) : [(Value.int k (S.getD 0 0)), (Value.int k (S.getD 1 0)), (Value.int k (S.getD 2 0)), (Value.int k (S.getD 3 0)), (Value.int k (S.getD 4 0)), (Value.int k (S.getD 5 0)), (Value.int k (S.getD 6 0)), (Value.int k (S.getD 7 0)), (Value.int k (S.getD 8 0)), (Value.int k (S.getD 9 0)), (Value.int k (S.getD 10 0)), (Value.int k (S.getD 11 0)), (Value.int k (S.getD 12 0)), (Value.int k (S.getD 13 0)), (Value.int k (S.getD 14 0)), (Value.int k (S.getD 15 0))] = S.map (Value.int k) := by
  match S, h with
  | [x0, x1, x2, x3, x4, x5, x6, x7, x8, x9, x10, x11, x12, x13, x14, x15], _ => rfl
theorem ld16 {k : IntKind} {e : TypeId} {w : World} {b : Nat} {S : List Int} {K : Int → Int → Int → Int → Int → Int → Int → Int → Int → Int → Int → Int → Int → Int → Int → Int → Prop} (h : BlI k e w b S) (hl : S.length = 16) (hk : K (S.getD 0 0) (S.getD 1 0) (S.getD 2 0) (S.getD 3 0) (S.getD 4 0) (S.getD 5 0) (S.getD 6 0) (S.getD 7 0) (S.getD 8 0) (S.getD 9 0) (S.getD 10 0) (S.getD 11 0) (S.getD 12 0) (S.getD 13 0) (S.getD 14 0) (S.getD 15 0)) :
    ldI k ((⟨b, 0, none⟩ : Addr).add 0) w fun x0 => ldI k ((⟨b, 0, none⟩ : Addr).add 1) w fun x1 => ldI k ((⟨b, 0, none⟩ : Addr).add 2) w fun x2 => ldI k ((⟨b, 0, none⟩ : Addr).add 3) w fun x3 => ldI k ((⟨b, 0, none⟩ : Addr).add 4) w fun x4 => ldI k ((⟨b, 0, none⟩ : Addr).add 5) w fun x5 => ldI k ((⟨b, 0, none⟩ : Addr).add 6) w fun x6 => ldI k ((⟨b, 0, none⟩ : Addr).add 7) w fun x7 => ldI k ((⟨b, 0, none⟩ : Addr).add 8) w fun x8 => ldI k ((⟨b, 0, none⟩ : Addr).add 9) w fun x9 => ldI k ((⟨b, 0, none⟩ : Addr).add 10) w fun x10 => ldI k ((⟨b, 0, none⟩ : Addr).add 11) w fun x11 => ldI k ((⟨b, 0, none⟩ : Addr).add 12) w fun x12 => ldI k ((⟨b, 0, none⟩ : Addr).add 13) w fun x13 => ldI k ((⟨b, 0, none⟩ : Addr).add 14) w fun x14 => ldI k ((⟨b, 0, none⟩ : Addr).add 15) w fun x15 => K x0 x1 x2 x3 x4 x5 x6 x7 x8 x9 x10 x11 x12 x13 x14 x15 := by
  match S, hl with
  | [x0, x1, x2, x3, x4, x5, x6, x7, x8, x9, x10, x11, x12, x13, x14, x15], _ => exact ldI_x (i := 0) h (by simp) (ldI_x (i := 1) h (by simp) (ldI_x (i := 2) h (by simp) (ldI_x (i := 3) h (by simp) (ldI_x (i := 4) h (by simp) (ldI_x (i := 5) h (by simp) (ldI_x (i := 6) h (by simp) (ldI_x (i := 7) h (by simp) (ldI_x (i := 8) h (by simp) (ldI_x (i := 9) h (by simp) (ldI_x (i := 10) h (by simp) (ldI_x (i := 11) h (by simp) (ldI_x (i := 12) h (by simp) (ldI_x (i := 13) h (by simp) (ldI_x (i := 14) h (by simp) (ldI_x (i := 15) h (by simp) hk)))))))))))))))
theorem lits12 {S : List Int} (h : S.length = 12) (k : IntKind) : [(Value.int k (S.getD 0 0)), (Value.int k (S.getD 1 0)), (Value.int k (S.getD 2 0)), (Value.int k (S.getD 3 0)), (Value.int k (S.getD 4 0)), (Value.int k (S.getD 5 0)), (Value.int k (S.getD 6 0)), (Value.int k (S.getD 7 0)), (Value.int k (S.getD 8 0)), (Value.int k (S.getD 9 0)), (Value.int k (S.getD 10 0)), (Value.int k (S.getD 11 0))] = S.map (Value.int k) := by
  match S, h with
  | [x0, x1, x2, x3, x4, x5, x6, x7, x8, x9, x10, x11], _ => rfl
theorem ld12 {k : IntKind} {e : TypeId} {w : World} {b : Nat} {S : List Int} {K : Int → Int → Int → Int → Int → Int → Int → Int → Int → Int → Int → Int → Prop} (h : BlI k e w b S) (hl : S.length = 12) (hk : K (S.getD 0 0) (S.getD 1 0) (S.getD 2 0) (S.getD 3 0) (S.getD 4 0) (S.getD 5 0) (S.getD 6 0) (S.getD 7 0) (S.getD 8 0) (S.getD 9 0) (S.getD 10 0) (S.getD 11 0)) :
    ldI k ((⟨b, 0, none⟩ : Addr).add 0) w fun x0 => ldI k ((⟨b, 0, none⟩ : Addr).add 1) w fun x1 => ldI k ((⟨b, 0, none⟩ : Addr).add 2) w fun x2 => ldI k ((⟨b, 0, none⟩ : Addr).add 3) w fun x3 => ldI k ((⟨b, 0, none⟩ : Addr).add 4) w fun x4 => ldI k ((⟨b, 0, none⟩ : Addr).add 5) w fun x5 => ldI k ((⟨b, 0, none⟩ : Addr).add 6) w fun x6 => ldI k ((⟨b, 0, none⟩ : Addr).add 7) w fun x7 => ldI k ((⟨b, 0, none⟩ : Addr).add 8) w fun x8 => ldI k ((⟨b, 0, none⟩ : Addr).add 9) w fun x9 => ldI k ((⟨b, 0, none⟩ : Addr).add 10) w fun x10 => ldI k ((⟨b, 0, none⟩ : Addr).add 11) w fun x11 => K x0 x1 x2 x3 x4 x5 x6 x7 x8 x9 x10 x11 := by
  match S, hl with
  | [x0, x1, x2, x3, x4, x5, x6, x7, x8, x9, x10, x11], _ => exact ldI_x (i := 0) h (by simp) (ldI_x (i := 1) h (by simp) (ldI_x (i := 2) h (by simp) (ldI_x (i := 3) h (by simp) (ldI_x (i := 4) h (by simp) (ldI_x (i := 5) h (by simp) (ldI_x (i := 6) h (by simp) (ldI_x (i := 7) h (by simp) (ldI_x (i := 8) h (by simp) (ldI_x (i := 9) h (by simp) (ldI_x (i := 10) h (by simp) (ldI_x (i := 11) h (by simp) hk)))))))))))
theorem lits4 {S : List Int} (h : S.length = 4) (k : IntKind) : [(Value.int k (S.getD 0 0)), (Value.int k (S.getD 1 0)), (Value.int k (S.getD 2 0)), (Value.int k (S.getD 3 0))] = S.map (Value.int k) := by
  match S, h with
  | [x0, x1, x2, x3], _ => rfl
theorem ld4 {k : IntKind} {e : TypeId} {w : World} {b : Nat} {S : List Int} {K : Int → Int → Int → Int → Prop} (h : BlI k e w b S) (hl : S.length = 4) (hk : K (S.getD 0 0) (S.getD 1 0) (S.getD 2 0) (S.getD 3 0)) :
    ldI k ((⟨b, 0, none⟩ : Addr).add 0) w fun x0 => ldI k ((⟨b, 0, none⟩ : Addr).add 1) w fun x1 => ldI k ((⟨b, 0, none⟩ : Addr).add 2) w fun x2 => ldI k ((⟨b, 0, none⟩ : Addr).add 3) w fun x3 => K x0 x1 x2 x3 := by
  match S, hl with
  | [x0, x1, x2, x3], _ => exact ldI_x (i := 0) h (by simp) (ldI_x (i := 1) h (by simp) (ldI_x (i := 2) h (by simp) (ldI_x (i := 3) h (by simp) hk)))
theorem arr16 {S : List Int} (h : S.length = 16) (kd : IntKind) (j : Nat) (hj : j < 16) : (#[(Value.int kd (S.getD 0 0)), (Value.int kd (S.getD 1 0)), (Value.int kd (S.getD 2 0)), (Value.int kd (S.getD 3 0)), (Value.int kd (S.getD 4 0)), (Value.int kd (S.getD 5 0)), (Value.int kd (S.getD 6 0)), (Value.int kd (S.getD 7 0)), (Value.int kd (S.getD 8 0)), (Value.int kd (S.getD 9 0)), (Value.int kd (S.getD 10 0)), (Value.int kd (S.getD 11 0)), (Value.int kd (S.getD 12 0)), (Value.int kd (S.getD 13 0)), (Value.int kd (S.getD 14 0)), (Value.int kd (S.getD 15 0))] : Array Value)[j]? = some (.int kd (S.getD j 0)) := by
  have e : (#[(Value.int kd (S.getD 0 0)), (Value.int kd (S.getD 1 0)), (Value.int kd (S.getD 2 0)), (Value.int kd (S.getD 3 0)), (Value.int kd (S.getD 4 0)), (Value.int kd (S.getD 5 0)), (Value.int kd (S.getD 6 0)), (Value.int kd (S.getD 7 0)), (Value.int kd (S.getD 8 0)), (Value.int kd (S.getD 9 0)), (Value.int kd (S.getD 10 0)), (Value.int kd (S.getD 11 0)), (Value.int kd (S.getD 12 0)), (Value.int kd (S.getD 13 0)), (Value.int kd (S.getD 14 0)), (Value.int kd (S.getD 15 0))] : Array Value) = (S.map (Value.int kd)).toArray := congrArg List.toArray (lits16 h kd)
  rw [e, List.getElem?_toArray, List.getElem?_map, getD_some (by omega)]; rfl
theorem stCs16 {T : TypeId} {w : World} {b : Nat} {xs S : List Int} {K : World → Prop} (h : BlI .u32 T w b xs) (hx : xs.length = 16) (hS : S.length = 16)
    (hk : ∀ w', BlI .u32 T w' b S → Chg (fun j => j = b) w w' → K w') : stCs ⟨b, 0, none⟩ [(Value.int .u32 (S.getD 0 0)), (Value.int .u32 (S.getD 1 0)), (Value.int .u32 (S.getD 2 0)), (Value.int .u32 (S.getD 3 0)), (Value.int .u32 (S.getD 4 0)), (Value.int .u32 (S.getD 5 0)), (Value.int .u32 (S.getD 6 0)), (Value.int .u32 (S.getD 7 0)), (Value.int .u32 (S.getD 8 0)), (Value.int .u32 (S.getD 9 0)), (Value.int .u32 (S.getD 10 0)), (Value.int .u32 (S.getD 11 0)), (Value.int .u32 (S.getD 12 0)), (Value.int .u32 (S.getD 13 0)), (Value.int .u32 (S.getD 14 0)), (Value.int .u32 (S.getD 15 0))] 0 w K := by
  rw [lits16 hS]; exact stCs_x h (by omega) hk
theorem state_quarter_ok {T : TypeId} {w : World} {bk : Nat} {S : List Int} {x y z u : Int} (a b c d : Nat) {K : World → Prop} (h : BlI .u32 T w bk S) (hl : S.length = 16)
    (ex : x = a) (ey : y = b) (ez : z = c) (eu : u = d) (ha : a < 16) (hb : b < 16) (hc : c < 16) (hd : d < 16)
    (hk : ∀ w', BlI .u32 T w' bk (qL S a b c d) → Chg (fun j => j = bk) w w' → K w') : chacha_state_quarter.f (some ⟨bk, 0, none⟩) x y z u w K := by
  unfold chacha_state_quarter.f
  have hd0 : BlI .u32 T w.drew bk S := h
  refine sm_some (rdA hd0 a ex (getD_some (by omega)) ha (sm_some (rdA hd0 b ey (getD_some (by omega)) hb (sm_some (rdA hd0 c ez (getD_some (by omega)) hc (sm_some (rdA hd0 d eu (getD_some (by omega)) hd (sm_some (sm_some (sm_some (sm_some (chacha_Quarter_ok ?_))))))))))))
  refine wrA hd0 a ex (by omega) ha fun w1 h1 c1 => wrA h1 b ey (by simp; omega) hb fun w2 h2 c2 => wrA h2 c ez (by simp; omega) hc fun w3 h3 c3 => wrA h3 d eu (by simp; omega) hd fun w4 h4 c4 => ?_
  exact hk w4 h4 (((((Chg.drew _ w).trans c1).trans c2).trans c3).trans c4)
theorem rounds_l3 {T : TypeId} {w0 : World} {bk : Nat} {S : List Int} {i : Int} {K : Option Addr → Int → World → Prop} (hl : S.length = 16)
    (hk : ∀ w, BlI .u32 T w bk (colK S 4) → Chg (fun j => j = bk) w0 w → K (some ⟨bk, 0, none⟩) i w) (N : Nat) : ∀ (k : Nat) (w : World), k ≤ 4 → 4 - k < N → BlI .u32 T w bk (colK S k) → Chg (fun j => j = bk) w0 w →
    chacha_state_rounds.l3 N (some ⟨bk, 0, none⟩) i (k : Int) w K := by
  induction N with
  | zero => intro k w h1 h2; omega
  | succ N ih =>
    intro k w h1 h2 hb hc
    rw [chacha_state_rounds.l3]
    refine cond_of (fun hh => ?_) (fun hh => ?_)
    · have hk4 : k < 4 := by have := of_decide_eq_true hh; omega
      refine state_quarter_ok k (4 + k) (8 + k) (12 + k) hb (by rw [colK_length, hl]) rfl (by rw [w64 (by omega) (by omega)]; omega) (by rw [w64 (by omega) (by omega)]; omega) (by rw [w64 (by omega) (by omega)]; omega) (by omega) (by omega) (by omega) (by omega) fun w1 h1 c1 => ?_
      rw [inc (by omega)]
      exact ih (k + 1) w1 (by omega) (by omega) h1 (hc.trans c1)
    · have : k = 4 := by have := of_decide_eq_false hh; omega
      subst this; exact hk w hb hc
theorem tm4 (a : Nat) : Int.tmod (a : Int) 4 = ((a % 4 : Nat) : Int) := rfl
theorem rounds_l8 {T : TypeId} {w0 : World} {bk : Nat} {S : List Int} {i : Int} {K : Option Addr → Int → World → Prop} (hl : S.length = 16)
    (hk : ∀ w, BlI .u32 T w bk (digK S 4) → Chg (fun j => j = bk) w0 w → K (some ⟨bk, 0, none⟩) i w) (N : Nat) : ∀ (k : Nat) (w : World), k ≤ 4 → 4 - k < N → BlI .u32 T w bk (digK S k) → Chg (fun j => j = bk) w0 w →
    chacha_state_rounds.l8 N (some ⟨bk, 0, none⟩) i (k : Int) w K := by
  induction N with
  | zero => intro k w h1 h2; omega
  | succ N ih =>
    intro k w h1 h2 hb hc
    rw [chacha_state_rounds.l8]
    refine cond_of (fun hh => ?_) (fun hh => ?_)
    · have hk4 : k < 4 := by have := of_decide_eq_true hh; omega
      have e : ∀ m : Nat, m < 100 → IntKind.wrap .i64 ((k : Int) + (m : Int)) = ((k + m : Nat) : Int) := fun m hm => by rw [w64 (by omega) (by omega)]; omega
      have f : ∀ a m : Nat, a < 100 → m < 100 → IntKind.wrap .i64 ((a : Int) + Int.tmod (IntKind.wrap .i64 ((k : Int) + (m : Int))) 4) = ((a + (k + m) % 4 : Nat) : Int) := fun a m ha hm => by rw [e m hm, tm4, w64 (by omega) (by omega)]; omega
      refine state_quarter_ok k (4 + (k + 1) % 4) (8 + (k + 2) % 4) (12 + (k + 3) % 4) hb (by rw [digK_length, hl]) rfl (f 4 1 (by omega) (by omega)) (f 8 2 (by omega) (by omega)) (f 12 3 (by omega) (by omega)) (by omega) (by omega) (by omega) (by omega) fun w1 h1 c1 => ?_
      rw [inc (by omega)]
      exact ih (k + 1) w1 (by omega) (by omega) h1 (hc.trans c1)
    · have : k = 4 := by have := of_decide_eq_false hh; omega
      subst this; exact hk w hb hc
theorem rounds_l1 {T : TypeId} {w0 : World} {bk : Nat} {S : List Int} {K : World → Prop} (hl : S.length = 16)
    (hk : ∀ w, BlI .u32 T w bk (rndN S 10) → Chg (fun j => j = bk) w0 w → K w) (N : Nat) : ∀ (k : Nat) (w : World), k ≤ 10 → 10 - k < N → BlI .u32 T w bk (rndN S k) → Chg (fun j => j = bk) w0 w →
    chacha_state_rounds.l1 N (some ⟨bk, 0, none⟩) (k : Int) w K := by
  induction N with
  | zero => intro k w h1 h2; omega
  | succ N ih =>
    intro k w h1 h2 hb hc
    rw [chacha_state_rounds.l1]
    refine cond_of (fun hh => ?_) (fun hh => ?_)
    · have hk4 : k < 10 := by have := of_decide_eq_true hh; omega
      have hL : (rndN S k).length = 16 := by rw [rndN_length, hl]
      refine ⟨5, rounds_l3 (w0 := w) (T := T) hL (fun w1 h1 c1 => ⟨5, rounds_l8 (w0 := w1) (T := T) ((colK_length _ 4).trans hL) (fun w2 h2 c2 => ?_) 5 0 w1 (by omega) (by omega) h1 (Chg.refl _ _)⟩) 5 0 w (by omega) (by omega) hb (Chg.refl _ _)⟩
      rw [inc (by omega)]
      exact ih (k + 1) w2 (by omega) (by omega) h2 ((hc.trans c1).trans c2)
    · have : k = 10 := by have := of_decide_eq_false hh; omega
      subst this; exact hk w hb hc
theorem rounds_ok {T : TypeId} {w : World} {bk : Nat} {S : List Int} {K : World → Prop} (hl : S.length = 16) (h : BlI .u32 T w bk S)
    (hk : ∀ w', BlI .u32 T w' bk (rndN S 10) → Chg (fun j => j = bk) w w' → K w') : chacha_state_rounds.f (some ⟨bk, 0, none⟩) w K := by
  unfold chacha_state_rounds.f
  exact ⟨11, rounds_l1 (w0 := w) (T := T) hl hk 11 0 w (by omega) (by omega) h (Chg.refl _ _)⟩

theorem ref26_round_ok {w : World} {S : List Int} {x y z u : Int} (a b c d : Nat) {K : Int → Int → Int → Int → Int → Int → Int → Int → Int → Int → Int → Int → Int → Int → Int → Int → World → Prop} (hl : S.length = 16)
    (ex : x = a) (ey : y = b) (ez : z = c) (eu : u = d) (ha : a < 16) (hb : b < 16) (hc : c < 16) (hd : d < 16)
    (hk : ∀ w', Chg no w w' → K ((qL S a b c d).getD 0 0) ((qL S a b c d).getD 1 0) ((qL S a b c d).getD 2 0) ((qL S a b c d).getD 3 0) ((qL S a b c d).getD 4 0) ((qL S a b c d).getD 5 0) ((qL S a b c d).getD 6 0) ((qL S a b c d).getD 7 0) ((qL S a b c d).getD 8 0) ((qL S a b c d).getD 9 0) ((qL S a b c d).getD 10 0) ((qL S a b c d).getD 11 0) ((qL S a b c d).getD 12 0) ((qL S a b c d).getD 13 0) ((qL S a b c d).getD 14 0) ((qL S a b c d).getD 15 0) w') : ref26_round.f (S.getD 0 0) (S.getD 1 0) (S.getD 2 0) (S.getD 3 0) (S.getD 4 0) (S.getD 5 0) (S.getD 6 0) (S.getD 7 0) (S.getD 8 0) (S.getD 9 0) (S.getD 10 0) (S.getD 11 0) (S.getD 12 0) (S.getD 13 0) (S.getD 14 0) (S.getD 15 0) x y z u w K := by
  unfold ref26_round.f
  refine newC_i (lits16 hl .u32) fun w1 h1 c1 s1 => newC_x fun w2 h2 c2 s2 => ?_
  have hd0 := h1.chg c2 fun h => h
  have hd1 : BlI .u32 _ w2.drew w.heap.size S := hd0
  refine rdA hd1 a ex (getD_some (by omega)) ha (rdA hd1 b ey (getD_some (by omega)) hb (rdA hd1 c ez (getD_some (by omega)) hc (rdA hd1 d eu (getD_some (by omega)) hd (ref26_Quarter_ok ?_))))
  refine wrA hd1 a ex (by omega) ha fun w3 h3 c3 => wrA h3 b ey (by simp; omega) hb fun w4 h4 c4 => wrA h4 c ez (by simp; omega) hc fun w5 h5 c5 => wrA h5 d eu (by simp; omega) hd fun w6 h6 c6 => ?_
  have k6 : Chg (fun j => j = w.heap.size) w2 w6 := ((((Chg.drew _ w2).trans c3).trans c4).trans c5).trans c6
  have h6' : BlI .u32 _ w6 w.heap.size (qL S a b c d) := h6
  refine ld16 h6' (by rw [qL_length, hl]) ?_
  have h2' := h2.chg k6 fun h => by omega
  refine stCs16 h2' (by simp) (by rw [qL_length, hl]) fun w7 h7 c7 => ?_
  refine ld16 h7 (by rw [qL_length, hl]) ?_
  refine hk w7 ?_
  exact (((c1.trans c2).then k6 fun k hk h => by have := c1.size; omega)).then c7 fun k hk h => by have := c1.size; omega
/-- Four bytes as a number. -/
def wrd (a b c d : Int) : Int := bor .u32 (bor .u32 (bor .u32 (IntKind.wrap .u32 a) (shl .u32 (IntKind.wrap .u32 b) 8)) (shl .u32 (IntKind.wrap .u32 c) 16)) (shl .u32 (IntKind.wrap .u32 d) 24)
theorem word_ok {w : World} {a : Option Addr} {n c : Nat} {xs : List Int} {K : Int → World → Prop} (h : SlI .u8 w a xs) (hn : xs.length = n) (h4 : 4 ≤ n)
    (hk : K (wrd (xs.getD 0 0) (xs.getD 1 0) (xs.getD 2 0) (xs.getD 3 0)) w.drew) : chacha_word.f a n c w K := by
  unfold chacha_word.f
  have g : ∀ i, i < 4 → ∃ p, a = some p ∧ w.drew.cell? (p.add i) = some (.int .u8 (xs.getD i 0)) := fun i hi => by
    obtain ⟨p, hp, hc⟩ := h i (by omega)
    refine ⟨p, hp, ?_⟩
    rw [show w.drew.cell? (p.add i) = w.cell? (p.add i) from rfl, hc]
    congr 2
    obtain ⟨_, e⟩ := List.getElem?_eq_some_iff.1 (getD_some (xs := xs) (i := i) (by omega))
    exact e
  obtain ⟨p, rfl, g0⟩ := g 0 (by omega)
  obtain ⟨_, e, g1⟩ := g 1 (by omega); cases e
  obtain ⟨_, e, g2⟩ := g 2 (by omega); cases e
  obtain ⟨_, e, g3⟩ := g 3 (by omega); cases e
  exact sm_some (if_of ⟨by omega, by omega⟩ (ldI_of g0 (sm_some (if_of ⟨by omega, by omega⟩ (ldI_of g1 (sm_some (if_of ⟨by omega, by omega⟩ (ldI_of g2 (sm_some (if_of ⟨by omega, by omega⟩ (ldI_of g3 hk)))))))))))
theorem little_ok {w : World} {a : Option Addr} {n c : Nat} {xs : List Int} {K : Int → World → Prop} (h : SlI .u8 w a xs) (hn : xs.length = n) (h4 : 4 ≤ n)
    (hk : K (wrd (xs.getD 0 0) (xs.getD 1 0) (xs.getD 2 0) (xs.getD 3 0)) w.drew) : ref26_little.f a n c w K := word_ok (c := c) h hn h4 hk
def wL (xs : List Int) (k : Nat) : Int := wrd (xs.getD (4 * k) 0) (xs.getD (4 * k + 1) 0) (xs.getD (4 * k + 2) 0) (xs.getD (4 * k + 3) 0)
def ldK (xs : List Int) (at' : Nat) (S : List Int) : Nat → List Int
  | 0 => S
  | k + 1 => (ldK xs at' S k).set (at' + k) (wL xs k)
theorem ldK_length (xs : List Int) (a : Nat) (S : List Int) (k : Nat) : (ldK xs a S k).length = S.length := by
  induction k with
  | zero => rfl
  | succ k ih => rw [ldK, List.length_set, ih]
theorem part_getD {xs : List Int} {l j : Nat} (hj : j < 4) : ((xs.take (l + 4)).drop l).getD j 0 = xs.getD (l + j) 0 := by
  rw [List.getD_eq_getElem?_getD, List.getD_eq_getElem?_getD, List.getElem?_drop, List.getElem?_take, if_pos (by omega)]
theorem part_wL (xs : List Int) (k : Nat) : wrd (((xs.take (4 * k + 4)).drop (4 * k)).getD 0 0) (((xs.take (4 * k + 4)).drop (4 * k)).getD 1 0) (((xs.take (4 * k + 4)).drop (4 * k)).getD 2 0) (((xs.take (4 * k + 4)).drop (4 * k)).getD 3 0) = wL xs k := by
  rw [part_getD (by omega), part_getD (by omega), part_getD (by omega), part_getD (by omega)]; rfl
theorem chacha_Block_l3 {T U : TypeId} {w0 : World} {bx b6 b7 : Nat} {xs S : List Int} {ctr : Int} {b5 : Addr} {K : Int → Addr → Addr → Addr → World → Prop} (hxl : xs.length = 32) (hS : S.length = 16) (hne : bx ≠ b7)
    (hk : ∀ w, BlI .u32 T w b7 (ldK xs 4 S 8) → Chg (fun j => j = b7) w0 w → K ctr b5 ⟨b6, 0, none⟩ ⟨b7, 0, none⟩ w) (hx : BlI .u8 U w0 bx xs) (N : Nat) : ∀ (k : Nat) (w : World), k ≤ 8 → 8 - k < N → BlI .u32 T w b7 (ldK xs 4 S k) → Chg (fun j => j = b7) w0 w →
    chacha_Block.l3 N ctr ⟨bx, 0, none⟩ b5 ⟨b6, 0, none⟩ ⟨b7, 0, none⟩ (k : Int) w K := by
  induction N with
  | zero => intro k w h1 h2; omega
  | succ N ih =>
    intro k w h1 h2 hb hc
    rw [chacha_Block.l3]
    refine cond_of (fun hh => ?_) (fun hh => ?_)
    · have hk4 : k < 8 := by have := of_decide_eq_true hh; omega
      have e1 : IntKind.wrap .i64 (4 * (k : Int)) = ((4 * k : Nat) : Int) := by rw [w64 (by omega) (by omega)]; omega
      have e2 : IntKind.wrap .i64 (((4 * k : Nat) : Int) + 4) = ((4 * k + 4 : Nat) : Int) := by rw [w64 (by omega) (by omega)]; omega
      rw [e1, e2]
      refine bnd_lohi (by omega) (by omega) (by omega) ?_
      rw [Int.toNat_natCast, Int.toNat_natCast]
      have hxs := ((hx.chg hc fun h => hne h).sl).part (l := 4 * k) (h := 4 * k + 4) (c := 32) (by omega) (by omega) (by omega)
      refine word_ok hxs (by rw [SlI.part_len (by omega)]) (by omega) ?_
      have hbd : BlI .u32 T w.drew b7 (ldK xs 4 S k) := hb
      rw [part_wL]
      refine wrA hbd (4 + k) (by rw [w64 (by omega) (by omega)]; omega) (by rw [ldK_length, hS]; omega) (by omega) fun w1 h1 c1 => ?_
      rw [inc (by omega)]
      exact ih (k + 1) w1 (by omega) (by omega) h1 ((hc.trans (Chg.drew _ w)).trans c1)
    · have : k = 8 := by have := of_decide_eq_false hh; omega
      subst this; exact hk w hb hc
theorem chacha_Block_l9 {T U : TypeId} {w0 : World} {bx b6 b7 : Nat} {xs S : List Int} {K : Addr → Addr → World → Prop} (hxl : xs.length = 12) (hS : S.length = 16) (hne : bx ≠ b7)
    (hk : ∀ w, BlI .u32 T w b7 (ldK xs 13 S 3) → Chg (fun j => j = b7) w0 w → K ⟨b6, 0, none⟩ ⟨b7, 0, none⟩ w) (hx : BlI .u8 U w0 bx xs) (N : Nat) : ∀ (k : Nat) (w : World), k ≤ 3 → 3 - k < N → BlI .u32 T w b7 (ldK xs 13 S k) → Chg (fun j => j = b7) w0 w →
    chacha_Block.l9 N ⟨bx, 0, none⟩ ⟨b6, 0, none⟩ ⟨b7, 0, none⟩ (k : Int) w K := by
  induction N with
  | zero => intro k w h1 h2; omega
  | succ N ih =>
    intro k w h1 h2 hb hc
    rw [chacha_Block.l9]
    refine cond_of (fun hh => ?_) (fun hh => ?_)
    · have hk4 : k < 3 := by have := of_decide_eq_true hh; omega
      have e1 : IntKind.wrap .i64 (4 * (k : Int)) = ((4 * k : Nat) : Int) := by rw [w64 (by omega) (by omega)]; omega
      have e2 : IntKind.wrap .i64 (((4 * k : Nat) : Int) + 4) = ((4 * k + 4 : Nat) : Int) := by rw [w64 (by omega) (by omega)]; omega
      rw [e1, e2]
      refine bnd_lohi (by omega) (by omega) (by omega) ?_
      rw [Int.toNat_natCast, Int.toNat_natCast]
      have hxs := ((hx.chg hc fun h => hne h).sl).part (l := 4 * k) (h := 4 * k + 4) (c := 12) (by omega) (by omega) (by omega)
      refine word_ok hxs (by rw [SlI.part_len (by omega)]) (by omega) ?_
      have hbd : BlI .u32 T w.drew b7 (ldK xs 13 S k) := hb
      rw [part_wL]
      refine wrA hbd (13 + k) (by rw [w64 (by omega) (by omega)]; omega) (by rw [ldK_length, hS]; omega) (by omega) fun w1 h1 c1 => ?_
      rw [inc (by omega)]
      exact ih (k + 1) w1 (by omega) (by omega) h1 ((hc.trans (Chg.drew _ w)).trans c1)
    · have : k = 3 := by have := of_decide_eq_false hh; omega
      subst this; exact hk w hb hc
theorem ref26_Block_l3 {T U : TypeId} {w0 : World} {bx b6 b7 : Nat} {xs S : List Int} {ctr : Int} {b5 : Addr} {K : Int → Addr → Addr → Addr → World → Prop} (hxl : xs.length = 32) (hS : S.length = 16) (hne : bx ≠ b7)
    (hk : ∀ w, BlI .u32 T w b7 (ldK xs 4 S 8) → Chg (fun j => j = b7) w0 w → K ctr b5 ⟨b6, 0, none⟩ ⟨b7, 0, none⟩ w) (hx : BlI .u8 U w0 bx xs) (N : Nat) : ∀ (k : Nat) (w : World), k ≤ 8 → 8 - k < N → BlI .u32 T w b7 (ldK xs 4 S k) → Chg (fun j => j = b7) w0 w →
    ref26_Block.l3 N ctr ⟨bx, 0, none⟩ b5 ⟨b6, 0, none⟩ ⟨b7, 0, none⟩ (k : Int) w K := by
  induction N with
  | zero => intro k w h1 h2; omega
  | succ N ih =>
    intro k w h1 h2 hb hc
    rw [ref26_Block.l3]
    refine cond_of (fun hh => ?_) (fun hh => ?_)
    · have hk4 : k < 8 := by have := of_decide_eq_true hh; omega
      have e1 : IntKind.wrap .i64 (4 * (k : Int)) = ((4 * k : Nat) : Int) := by rw [w64 (by omega) (by omega)]; omega
      have e2 : IntKind.wrap .i64 (((4 * k : Nat) : Int) + 4) = ((4 * k + 4 : Nat) : Int) := by rw [w64 (by omega) (by omega)]; omega
      rw [e1, e2]
      refine bnd_lohi (by omega) (by omega) (by omega) ?_
      rw [Int.toNat_natCast, Int.toNat_natCast]
      have hxs := ((hx.chg hc fun h => hne h).sl).part (l := 4 * k) (h := 4 * k + 4) (c := 32) (by omega) (by omega) (by omega)
      refine little_ok hxs (by rw [SlI.part_len (by omega)]) (by omega) ?_
      have hbd : BlI .u32 T w.drew b7 (ldK xs 4 S k) := hb
      rw [part_wL]
      refine wrA hbd (4 + k) (by rw [w64 (by omega) (by omega)]; omega) (by rw [ldK_length, hS]; omega) (by omega) fun w1 h1 c1 => ?_
      dsimp only
      rw [inc (by omega)]
      exact ih (k + 1) w1 (by omega) (by omega) h1 ((hc.trans (Chg.drew _ w)).trans c1)
    · have : k = 8 := by have := of_decide_eq_false hh; omega
      subst this; exact hk w hb hc
theorem ref26_Block_l8 {T U : TypeId} {w0 : World} {bx b6 b7 : Nat} {xs S : List Int} {K : Addr → Addr → World → Prop} (hxl : xs.length = 12) (hS : S.length = 16) (hne : bx ≠ b7)
    (hk : ∀ w, BlI .u32 T w b7 (ldK xs 13 S 3) → Chg (fun j => j = b7) w0 w → K ⟨b6, 0, none⟩ ⟨b7, 0, none⟩ w) (hx : BlI .u8 U w0 bx xs) (N : Nat) : ∀ (k : Nat) (w : World), k ≤ 3 → 3 - k < N → BlI .u32 T w b7 (ldK xs 13 S k) → Chg (fun j => j = b7) w0 w →
    ref26_Block.l8 N ⟨bx, 0, none⟩ ⟨b6, 0, none⟩ ⟨b7, 0, none⟩ (k : Int) w K := by
  induction N with
  | zero => intro k w h1 h2; omega
  | succ N ih =>
    intro k w h1 h2 hb hc
    rw [ref26_Block.l8]
    refine cond_of (fun hh => ?_) (fun hh => ?_)
    · have hk4 : k < 3 := by have := of_decide_eq_true hh; omega
      have e1 : IntKind.wrap .i64 (4 * (k : Int)) = ((4 * k : Nat) : Int) := by rw [w64 (by omega) (by omega)]; omega
      have e2 : IntKind.wrap .i64 (((4 * k : Nat) : Int) + 4) = ((4 * k + 4 : Nat) : Int) := by rw [w64 (by omega) (by omega)]; omega
      rw [e1, e2]
      refine bnd_lohi (by omega) (by omega) (by omega) ?_
      rw [Int.toNat_natCast, Int.toNat_natCast]
      have hxs := ((hx.chg hc fun h => hne h).sl).part (l := 4 * k) (h := 4 * k + 4) (c := 12) (by omega) (by omega) (by omega)
      refine little_ok hxs (by rw [SlI.part_len (by omega)]) (by omega) ?_
      have hbd : BlI .u32 T w.drew b7 (ldK xs 13 S k) := hb
      rw [part_wL]
      refine wrA hbd (13 + k) (by rw [w64 (by omega) (by omega)]; omega) (by rw [ldK_length, hS]; omega) (by omega) fun w1 h1 c1 => ?_
      dsimp only
      rw [inc (by omega)]
      exact ih (k + 1) w1 (by omega) (by omega) h1 ((hc.trans (Chg.drew _ w)).trans c1)
    · have : k = 3 := by have := of_decide_eq_false hh; omega
      subst this; exact hk w hb hc
end Go.Proofs.Ytodicpmedallgaa.G
