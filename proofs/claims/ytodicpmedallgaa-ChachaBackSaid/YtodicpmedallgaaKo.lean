/- The stream cipher's blocks. Printed by ko.py. -/
import Derived.Test.YtodicpmedallgaaKn
set_option linter.unusedVariables false
set_option linter.unusedSimpArgs false
namespace Go.Proofs.Ytodicpmedallgaa.G
open Go Go.Proofs.Ytodicpmedallgaa.Vm Go.RowKit
def ini : List Int := [1634760805, 857760878, 2036477234, 1797285236, 0, 0, 0, 0, 0, 0, 0, 0, 0, 0, 0, 0]
def stS (key : List Int) (ctr : Int) (nonce : List Int) : List Int := ldK nonce 13 ((ldK key 4 ini 8).set 12 ctr) 3
theorem stS_length (key : List Int) (ctr : Int) (nonce : List Int) : (stS key ctr nonce).length = 16 := by rw [stS, ldK_length, List.length_set, ldK_length]; rfl
/-- A byte of a block. -/
def oB (T S : List Int) (j : Nat) : Int := IntKind.wrap .u8 (shr .u32 (IntKind.wrap .u32 (T.getD (j / 4) 0 + S.getD (j / 4) 0)) (8 * (j % 4)))
def outN (T S : List Int) (n : Nat) : List Int := (List.range 64).map fun j => if j < n then oB T S j else 0
theorem outN_length (T S : List Int) (n : Nat) : (outN T S n).length = 64 := by simp [outN]
theorem outN_get {T S : List Int} {n j : Nat} (h : j < 64) : (outN T S n)[j]? = some (if j < n then oB T S j else 0) := by
  unfold outN; rw [List.getElem?_map, List.getElem?_range h]; rfl
theorem outN_zero (T S : List Int) : outN T S 0 = List.replicate 64 0 := by
  apply List.ext_getElem?
  intro j
  by_cases hj : j < 64
  · rw [outN_get hj, if_neg (by omega), List.getElem?_replicate, if_pos hj]
  · rw [List.getElem?_eq_none (by rw [outN_length]; omega), List.getElem?_eq_none (by rw [List.length_replicate]; omega)]
theorem outN_set {T S : List Int} {n : Nat} (hn : n < 64) : (outN T S n).set n (oB T S n) = outN T S (n + 1) := by
  apply List.ext_getElem?
  intro j
  by_cases hj : j < 64
  · rw [outN_get hj]
    by_cases e : n = j
    · subst e
      rw [List.getElem?_set_self (by rw [outN_length]; exact hn), if_pos (by omega)]
    · rw [List.getElem?_set_ne e, outN_get hj]
      congr 1
      by_cases h1 : j < n
      · rw [if_pos h1, if_pos (by omega)]
      · rw [if_neg h1, if_neg (by omega)]
  · rw [List.getElem?_eq_none (by rw [List.length_set, outN_length]; omega), List.getElem?_eq_none (by rw [outN_length]; omega)]
/-- A block. -/
def blk (key : List Int) (ctr : Int) (nonce : List Int) : List Int := outN (rndN (stS key ctr nonce) 10) (stS key ctr nonce) 64
theorem blk_length (key : List Int) (ctr : Int) (nonce : List Int) : (blk key ctr nonce).length = 64 := outN_length _ _ _
theorem blk_get {key : List Int} {ctr : Int} {nonce : List Int} {j : Nat} (h : j < 64) : (blk key ctr nonce).getD j 0 = oB (rndN (stS key ctr nonce) 10) (stS key ctr nonce) j := by
  rw [List.getD_eq_getElem?_getD, blk, outN_get h, if_pos h]; rfl
theorem shx {a : Nat} (h : a < 4) : min (Int.toNat (IntKind.wrap .i64 (8 * (a : Int)))) (IntKind.bits .u32) = 8 * a ∧ ¬ IntKind.wrap .i64 (8 * (a : Int)) < 0 := by
  rw [w64 (by omega) (by omega), show IntKind.bits .u32 = 32 from rfl]; omega

theorem chacha_Block_l21 {U : TypeId} {w0 : World} {b6 b7 b11 : Nat} {TT S : List Int} {i : Nat} {v x49 : Int} {K : Addr → Addr → Addr → Int → Int → Int → Int → Int → Int → Int → Int → Int → Int → Int → Int → Int → Int → Int → Int → Int → World → Prop} (hi : i < 16) (hv : v = IntKind.wrap .u32 (TT.getD i 0 + S.getD i 0))
    (hk : ∀ w, BlI .u8 U w b11 (outN TT S (4 * i + 4)) → Chg (fun j => j = b11) w0 w → K ⟨b6, 0, none⟩ ⟨b7, 0, none⟩ ⟨b11, 0, none⟩ (TT.getD 0 0) (TT.getD 1 0) (TT.getD 2 0) (TT.getD 3 0) (TT.getD 4 0) (TT.getD 5 0) (TT.getD 6 0) (TT.getD 7 0) (TT.getD 8 0) (TT.getD 9 0) (TT.getD 10 0) (TT.getD 11 0) (TT.getD 12 0) (TT.getD 13 0) (TT.getD 14 0) (TT.getD 15 0) x49 w) (N : Nat) : ∀ (k : Nat) (w : World), k ≤ 4 → 4 - k < N → BlI .u8 U w b11 (outN TT S (4 * i + k)) → Chg (fun j => j = b11) w0 w →
    chacha_Block.l21 N ⟨b6, 0, none⟩ ⟨b7, 0, none⟩ ⟨b11, 0, none⟩ (i : Int) v (TT.getD 0 0) (TT.getD 1 0) (TT.getD 2 0) (TT.getD 3 0) (TT.getD 4 0) (TT.getD 5 0) (TT.getD 6 0) (TT.getD 7 0) (TT.getD 8 0) (TT.getD 9 0) (TT.getD 10 0) (TT.getD 11 0) (TT.getD 12 0) (TT.getD 13 0) (TT.getD 14 0) (TT.getD 15 0) x49 (k : Int) w K := by
  induction N with
  | zero => intro k w h1 h2; omega
  | succ N ih =>
    intro k w h1 h2 hb hc
    rw [chacha_Block.l21]
    refine cond_of (fun hh => ?_) (fun hh => ?_)
    · have hk4 : k < 4 := by have := of_decide_eq_true hh; omega
      rw [if_neg (shx hk4).2, (shx hk4).1]
      have e2 : IntKind.wrap .i64 (IntKind.wrap .i64 (4 * (i : Int)) + (k : Int)) = ((4 * i + k : Nat) : Int) := by rw [w64 (a := 4 * (i : Int)) (by omega) (by omega), w64 (by omega) (by omega)]; omega
      have e3 : IntKind.wrap .u8 (shr .u32 v (8 * k)) = oB TT S (4 * i + k) := by
        unfold oB; rw [show (4 * i + k) / 4 = i by omega, show (4 * i + k) % 4 = k by omega, hv]
      rw [e3]
      refine wrA hb (4 * i + k) e2 (by rw [outN_length]; omega) (by omega) fun w1 h1 c1 => ?_
      rw [outN_set (by omega)] at h1
      rw [inc (by omega)]
      exact ih (k + 1) w1 (by omega) (by omega) h1 (hc.trans c1)
    · have : k = 4 := by have := of_decide_eq_false hh; omega
      subst this; exact hk w hb hc
theorem chacha_Block_l17 {T U : TypeId} {w0 : World} {b6 b7 b11 : Nat} {TT S : List Int} {K : Addr → Addr → World → Prop} (hT : TT.length = 16) (hS : S.length = 16) (hne : b7 ≠ b11) (h7 : BlI .u32 T w0 b7 S)
    (hk : ∀ w, BlI .u8 U w b11 (outN TT S 64) → Chg (fun j => j = b11) w0 w → K ⟨b6, 0, none⟩ ⟨b11, 0, none⟩ w) (N : Nat) : ∀ (i : Nat) (w : World), i ≤ 16 → 16 - i < N → BlI .u8 U w b11 (outN TT S (4 * i)) → Chg (fun j => j = b11) w0 w →
    chacha_Block.l17 N ⟨b6, 0, none⟩ ⟨b7, 0, none⟩ ⟨b11, 0, none⟩ (TT.getD 0 0) (TT.getD 1 0) (TT.getD 2 0) (TT.getD 3 0) (TT.getD 4 0) (TT.getD 5 0) (TT.getD 6 0) (TT.getD 7 0) (TT.getD 8 0) (TT.getD 9 0) (TT.getD 10 0) (TT.getD 11 0) (TT.getD 12 0) (TT.getD 13 0) (TT.getD 14 0) (TT.getD 15 0) (i : Int) w K := by
  induction N with
  | zero => intro k w h1 h2; omega
  | succ N ih =>
    intro i w h1 h2 hb hc
    rw [chacha_Block.l17]
    refine cond_of (fun hh => ?_) (fun hh => ?_)
    · have hk4 : i < 16 := by have := of_decide_eq_true hh; omega
      refine if_of ⟨by omega, by omega⟩ (ixI_of (v := TT.getD i 0) (by rw [Int.toNat_natCast]; exact arr16 hT _ _ hk4) ?_)
      refine rdA (h7.chg hc fun h => hne h) i rfl (getD_some (by omega)) hk4 ?_
      dsimp only
      refine ⟨5, chacha_Block_l21 (U := U) (w0 := w) hk4 rfl (fun w1 hb1 c1 => ?_) 5 0 w (by omega) (by omega) hb (Chg.refl _ _)⟩
      rw [inc (by omega)]
      exact ih (i + 1) w1 (by omega) (by omega) hb1 (hc.trans c1)
    · have : i = 16 := by have := of_decide_eq_false hh; omega
      subst this; exact hk w hb hc
set_option maxRecDepth 100000 in
theorem ref26_Block_l13 {T : TypeId} {w0 : World} {b6 b7 b10 : Nat} {S : List Int} {K : Addr → Addr → Addr → World → Prop} (hS : S.length = 16) (hlt : b10 < w0.heap.size)
    (hk : ∀ w, BlI .u32 T w b10 (rndN S 10) → Chg (fun j => j = b10) w0 w → K ⟨b6, 0, none⟩ ⟨b7, 0, none⟩ ⟨b10, 0, none⟩ w) (N : Nat) : ∀ (k : Nat) (w : World), k ≤ 10 → 10 - k < N → BlI .u32 T w b10 (rndN S k) → Chg (fun j => j = b10) w0 w →
    ref26_Block.l13 N ⟨b6, 0, none⟩ ⟨b7, 0, none⟩ ⟨b10, 0, none⟩ (k : Int) w K := by
  induction N with
  | zero => intro k w h1 h2; omega
  | succ N ih =>
    intro k w h1 h2 hb hc
    change cond (decide ((k : Int) < 10)) _ _
    refine cond_of (fun hh => ?_) (fun hh => ?_)
    · have hk4 : k < 10 := by have := of_decide_eq_true hh; omega
      have L0 : (rndN S k).length = 16 := by rw [rndN_length, hS]
      have hrk : rndN S (k + 1) = rnd (rndN S k) := rfl
      rw [rnd_eq] at hrk
      generalize rndN S k = S0 at hb L0 hrk
      refine ld16 hb L0 ?_
      refine ref26_round_ok 0 4 8 12 L0 rfl rfl rfl rfl (by omega) (by omega) (by omega) (by omega) fun v0 d0 => ?_
      have L1 : (qL S0 0 4 8 12).length = 16 := by rw [qL_length, L0]
      refine stCs16 (hb.chg d0 fun h => h) L0 L1 fun u0 h100 e0 => ?_
      have k100 := (hc.trans (d0.mono fun _ h => h.elim)).trans e0
      generalize hS1 : qL S0 0 4 8 12 = S1 at h100 L1 hrk
      refine ld16 h100 L1 ?_
      refine ref26_round_ok 1 5 9 13 L1 rfl rfl rfl rfl (by omega) (by omega) (by omega) (by omega) fun v1 d1 => ?_
      have L2 : (qL S1 1 5 9 13).length = 16 := by rw [qL_length, L1]
      refine stCs16 (h100.chg d1 fun h => h) L1 L2 fun u1 h101 e1 => ?_
      have k101 := (k100.trans (d1.mono fun _ h => h.elim)).trans e1
      generalize hS2 : qL S1 1 5 9 13 = S2 at h101 L2 hrk
      refine ld16 h101 L2 ?_
      refine ref26_round_ok 2 6 10 14 L2 rfl rfl rfl rfl (by omega) (by omega) (by omega) (by omega) fun v2 d2 => ?_
      have L3 : (qL S2 2 6 10 14).length = 16 := by rw [qL_length, L2]
      refine stCs16 (h101.chg d2 fun h => h) L2 L3 fun u2 h102 e2 => ?_
      have k102 := (k101.trans (d2.mono fun _ h => h.elim)).trans e2
      generalize hS3 : qL S2 2 6 10 14 = S3 at h102 L3 hrk
      refine ld16 h102 L3 ?_
      refine ref26_round_ok 3 7 11 15 L3 rfl rfl rfl rfl (by omega) (by omega) (by omega) (by omega) fun v3 d3 => ?_
      have L4 : (qL S3 3 7 11 15).length = 16 := by rw [qL_length, L3]
      refine stCs16 (h102.chg d3 fun h => h) L3 L4 fun u3 h103 e3 => ?_
      have k103 := (k102.trans (d3.mono fun _ h => h.elim)).trans e3
      generalize hS4 : qL S3 3 7 11 15 = S4 at h103 L4 hrk
      refine ld16 h103 L4 ?_
      refine ref26_round_ok 0 5 10 15 L4 rfl rfl rfl rfl (by omega) (by omega) (by omega) (by omega) fun v4 d4 => ?_
      have L5 : (qL S4 0 5 10 15).length = 16 := by rw [qL_length, L4]
      refine stCs16 (h103.chg d4 fun h => h) L4 L5 fun u4 h104 e4 => ?_
      have k104 := (k103.trans (d4.mono fun _ h => h.elim)).trans e4
      generalize hS5 : qL S4 0 5 10 15 = S5 at h104 L5 hrk
      refine ld16 h104 L5 ?_
      refine ref26_round_ok 1 6 11 12 L5 rfl rfl rfl rfl (by omega) (by omega) (by omega) (by omega) fun v5 d5 => ?_
      have L6 : (qL S5 1 6 11 12).length = 16 := by rw [qL_length, L5]
      refine stCs16 (h104.chg d5 fun h => h) L5 L6 fun u5 h105 e5 => ?_
      have k105 := (k104.trans (d5.mono fun _ h => h.elim)).trans e5
      generalize hS6 : qL S5 1 6 11 12 = S6 at h105 L6 hrk
      refine ld16 h105 L6 ?_
      refine ref26_round_ok 2 7 8 13 L6 rfl rfl rfl rfl (by omega) (by omega) (by omega) (by omega) fun v6 d6 => ?_
      have L7 : (qL S6 2 7 8 13).length = 16 := by rw [qL_length, L6]
      refine stCs16 (h105.chg d6 fun h => h) L6 L7 fun u6 h106 e6 => ?_
      have k106 := (k105.trans (d6.mono fun _ h => h.elim)).trans e6
      generalize hS7 : qL S6 2 7 8 13 = S7 at h106 L7 hrk
      refine ld16 h106 L7 ?_
      refine ref26_round_ok 3 4 9 14 L7 rfl rfl rfl rfl (by omega) (by omega) (by omega) (by omega) fun v7 d7 => ?_
      have L8 : (qL S7 3 4 9 14).length = 16 := by rw [qL_length, L7]
      refine stCs16 (h106.chg d7 fun h => h) L7 L8 fun u7 h107 e7 => ?_
      have k107 := (k106.trans (d7.mono fun _ h => h.elim)).trans e7
      generalize hS8 : qL S7 3 4 9 14 = S8 at h107 L8 hrk
      dsimp only
      rw [inc (by omega)]
      exact ih (k + 1) u7 (by omega) (by omega) (by rw [hrk]; exact h107) k107
    · have : k = 10 := by have := of_decide_eq_false hh; omega
      subst this; exact hk w hb hc
theorem ref26_Block_l25 {T U : TypeId} {w0 : World} {b6 b7 b10 b12 : Nat} {TT S : List Int} {K : Addr → Addr → World → Prop} (hT : TT.length = 16) (hS : S.length = 16) (hne : b7 ≠ b12) (hne2 : b10 ≠ b12) (h7 : BlI .u32 T w0 b7 S) (h10 : BlI .u32 T w0 b10 TT)
    (hk : ∀ w, BlI .u8 U w b12 (outN TT S 64) → Chg (fun j => j = b12) w0 w → K ⟨b6, 0, none⟩ ⟨b12, 0, none⟩ w) (N : Nat) : ∀ (j : Nat) (w : World), j ≤ 64 → 64 - j < N → BlI .u8 U w b12 (outN TT S j) → Chg (fun j => j = b12) w0 w →
    ref26_Block.l25 N ⟨b6, 0, none⟩ ⟨b7, 0, none⟩ ⟨b10, 0, none⟩ ⟨b12, 0, none⟩ (j : Int) w K := by
  induction N with
  | zero => intro k w h1 h2; omega
  | succ N ih =>
    intro j w h1 h2 hb hc
    rw [ref26_Block.l25]
    refine cond_of (fun hh => ?_) (fun hh => ?_)
    · have hj : j < 64 := by have := of_decide_eq_true hh; omega
      have hcd := hc.trans (Chg.drew _ w)
      have e1 : IntKind.wrap .i64 (Int.tdiv (j : Int) 4) = ((j / 4 : Nat) : Int) := by rw [show Int.tdiv (j : Int) 4 = ((j / 4 : Nat) : Int) from rfl, w64 (by omega) (by omega)]
      refine rdA (h10.chg hcd fun h => hne2 h) (j / 4) e1 (getD_some (by omega)) (by omega) (rdA (h7.chg hcd fun h => hne h) (j / 4) e1 (getD_some (by omega)) (by omega) ?_)
      dsimp only
      have e2 : IntKind.wrap .u64 (IntKind.wrap .i64 (8 * Int.tmod (j : Int) 4)) = ((8 * (j % 4) : Nat) : Int) := by rw [tm4, w64 (by omega) (by omega), wu64 (by omega) (by omega)]; omega
      rw [e2, if_neg (by omega), Int.toNat_natCast, show IntKind.bits .u32 = 32 from rfl, Nat.min_eq_left (by omega)]
      have hbd : BlI .u8 U w.drew b12 (outN TT S j) := hb
      refine wrA hbd j rfl (by rw [outN_length]; omega) hj fun w1 h1 c1 => ?_
      have h1' : BlI .u8 U w1 b12 (outN TT S (j + 1)) := by rw [← outN_set hj]; exact h1
      rw [inc (by omega)]
      exact ih (j + 1) w1 (by omega) (by omega) h1' (hcd.trans c1)
    · have : j = 64 := by have := of_decide_eq_false hh; omega
      subst this; exact hk w hb hc
theorem chacha_Block_ok {key nonce : List Int} {ctr : Int} {w : World} {K : Array Value → World → Prop} (hkl : key.length = 32) (hnl : nonce.length = 12)
    (hk : ∀ w', Chg no w w' → K ((blk key ctr nonce).map (Value.int .u8)).toArray w') : chacha_Block.f (key.map (Value.int .u8)).toArray ctr (nonce.getD 0 0) (nonce.getD 1 0) (nonce.getD 2 0) (nonce.getD 3 0) (nonce.getD 4 0) (nonce.getD 5 0) (nonce.getD 6 0) (nonce.getD 7 0) (nonce.getD 8 0) (nonce.getD 9 0) (nonce.getD 10 0) (nonce.getD 11 0) w K := by
  unfold chacha_Block.f
  refine newC_i (xs := key) (k := .u8) rfl fun w1 hb3 c1 s1 => newC_i (lits12 hnl .u8) fun w2 hb5 c2 s2 => newC_x fun w3 hb6 c3 s3 => newC_x fun w4 hb7 c4 s4 => ?_
  refine stCs_x (ys := ini) hb7 rfl fun w5 hb7 c5 => ?_
  have f3 := (((hb3.chg c2 id).chg c3 id).chg c4 id).chg c5 (by omega)
  have f5 := ((hb5.chg c3 id).chg c4 id).chg c5 (by omega)
  have f6 := (hb6.chg c4 id).chg c5 (by omega)
  have z5 := c5.size
  refine ⟨9, chacha_Block_l3 (b5 := ⟨w1.heap.size, 0, none⟩) (w0 := w5) (S := ini) (b6 := w2.heap.size) (b7 := w3.heap.size) hkl rfl (by omega) (fun w6 hb7 c6 => ?_) f3 9 0 w5 (by omega) (by omega) hb7 (Chg.refl _ _)⟩
  refine stC_x (i := 12) hb7 (by rw [ldK_length]; decide) fun w7 hb7 c7 => ?_
  have f5 := (f5.chg c6 (by omega)).chg c7 (by omega)
  have f6 := (f6.chg c6 (by omega)).chg c7 (by omega)
  refine ⟨4, chacha_Block_l9 (w0 := w7) (b6 := w2.heap.size) (b7 := w3.heap.size) (S := (ldK key 4 ini 8).set 12 ctr) hnl (by rw [List.length_set, ldK_length]; rfl) (by omega) (fun w8 hb7 c8 => ?_) f5 4 0 w7 (by omega) (by omega) hb7 (Chg.refl _ _)⟩
  have f6 := f6.chg c8 (by omega)
  have z8 : w4.heap.size ≤ w8.heap.size := by have := c6.size; have := c7.size; have := c8.size; omega
  have k8 : Chg no w w8 := (((((((c1.trans c2).trans c3).trans c4).then c5 fun k hk h => by omega).then c6 fun k hk h => by omega).then c7 fun k hk h => by omega)).then c8 fun k hk h => by omega
  have hS := stS_length key ctr nonce
  have hb7 : BlI .u32 _ w8 w3.heap.size (stS key ctr nonce) := hb7
  refine ld16 hb7 hS (newC_x fun w9 hb10 c9 s9 => stCs16 hb10 (by simp) hS fun w10 hb10 c10 => ?_)
  have z10 := c10.size
  have f7 := (hb7.chg c9 id).chg c10 (by omega)
  have f6 := (f6.chg c9 id).chg c10 (by omega)
  refine rounds_ok hS hb10 fun w11 hb10 c11 => newC_x fun w12 hb11 c12 s12 => ?_
  have z11 := c11.size
  have f7 := (f7.chg c11 (by omega)).chg c12 id
  have f6 := (f6.chg c11 (by omega)).chg c12 id
  have hT : (rndN (stS key ctr nonce) 10).length = 16 := by rw [rndN_length, hS]
  refine ld16 (hb10.chg c12 id) hT ⟨17, chacha_Block_l17 (w0 := w12) (b6 := w2.heap.size) hT hS (by omega) f7 (fun w13 hb11 c13 => ?_) 17 0 w12 (by omega) (by omega) (by rw [outN_zero]; exact hb11) (Chg.refl _ _)⟩
  have f6 := f6.chg c13 (by omega)
  refine ldA_b hb11 (outN_length _ _ _) (if_of (by simp [outN_length]) (stCs_x f6 (by simp [outN_length]) fun w14 hb6 c14 => ldA_b hb6 (outN_length _ _ _) (hk w14 ?_)))
  exact (((((k8.trans c9).then c10 fun k hk h => by omega).then c11 fun k hk h => by omega).trans c12).then c13 fun k hk h => by omega).then c14 fun k hk h => by omega
theorem ref26_Block_ok {key nonce : List Int} {ctr : Int} {w : World} {K : Array Value → World → Prop} (hkl : key.length = 32) (hnl : nonce.length = 12)
    (hk : ∀ w', Chg no w w' → K ((blk key ctr nonce).map (Value.int .u8)).toArray w') : ref26_Block.f (key.map (Value.int .u8)).toArray ctr (nonce.getD 0 0) (nonce.getD 1 0) (nonce.getD 2 0) (nonce.getD 3 0) (nonce.getD 4 0) (nonce.getD 5 0) (nonce.getD 6 0) (nonce.getD 7 0) (nonce.getD 8 0) (nonce.getD 9 0) (nonce.getD 10 0) (nonce.getD 11 0) w K := by
  unfold ref26_Block.f
  refine newC_i (xs := key) (k := .u8) rfl fun w1 hb3 c1 s1 => newC_i (lits12 hnl .u8) fun w2 hb5 c2 s2 => newC_x fun w3 hb6 c3 s3 => newC_x fun w4 hb7 c4 s4 => ?_
  refine stCs_x (ys := ini) hb7 rfl fun w5 hb7 c5 => ?_
  have f3 := (((hb3.chg c2 id).chg c3 id).chg c4 id).chg c5 (by omega)
  have f5 := ((hb5.chg c3 id).chg c4 id).chg c5 (by omega)
  have f6 := (hb6.chg c4 id).chg c5 (by omega)
  have z5 := c5.size
  refine ⟨9, ref26_Block_l3 (b5 := ⟨w1.heap.size, 0, none⟩) (w0 := w5) (S := ini) (b6 := w2.heap.size) (b7 := w3.heap.size) hkl rfl (by omega) (fun w6 hb7 c6 => ?_) f3 9 0 w5 (by omega) (by omega) hb7 (Chg.refl _ _)⟩
  refine stC_x (i := 12) hb7 (by rw [ldK_length]; decide) fun w7 hb7 c7 => ?_
  have f5 := (f5.chg c6 (by omega)).chg c7 (by omega)
  have f6 := (f6.chg c6 (by omega)).chg c7 (by omega)
  refine ⟨4, ref26_Block_l8 (w0 := w7) (b6 := w2.heap.size) (b7 := w3.heap.size) (S := (ldK key 4 ini 8).set 12 ctr) hnl (by rw [List.length_set, ldK_length]; rfl) (by omega) (fun w8 hb7 c8 => ?_) f5 4 0 w7 (by omega) (by omega) hb7 (Chg.refl _ _)⟩
  have f6 := f6.chg c8 (by omega)
  have z8 : w4.heap.size ≤ w8.heap.size := by have := c6.size; have := c7.size; have := c8.size; omega
  have k8 : Chg no w w8 := (((((((c1.trans c2).trans c3).trans c4).then c5 fun k hk h => by omega).then c6 fun k hk h => by omega).then c7 fun k hk h => by omega)).then c8 fun k hk h => by omega
  have hS := stS_length key ctr nonce
  have hb7 : BlI .u32 _ w8 w3.heap.size (stS key ctr nonce) := hb7
  refine ld16 hb7 hS (newC_x fun w9 hb10 c9 s9 => stCs16 hb10 (by simp) hS fun w10 hb10 c10 => ?_)
  have z10 := c10.size
  have f7 := (hb7.chg c9 id).chg c10 (by omega)
  have f6 := (f6.chg c9 id).chg c10 (by omega)
  refine ⟨11, ref26_Block_l13 (w0 := w10) (S := stS key ctr nonce) hS (by omega) (fun w11 hb10 c11 => ?_) 11 0 w10 (by omega) (by omega) hb10 (Chg.refl _ _)⟩
  refine newC_x fun w12 hb11 c12 s12 => ?_
  have z11 := c11.size
  have f7 := (f7.chg c11 (by omega)).chg c12 id
  have f6 := (f6.chg c11 (by omega)).chg c12 id
  have hT : (rndN (stS key ctr nonce) 10).length = 16 := by rw [rndN_length, hS]
  refine ⟨65, ref26_Block_l25 (w0 := w12) (b6 := w2.heap.size) hT hS (by omega) (by omega) f7 (hb10.chg c12 id) (fun w13 hb11 c13 => ?_) 65 0 w12 (by omega) (by omega) (by rw [outN_zero]; exact hb11) (Chg.refl _ _)⟩
  have f6 := f6.chg c13 (by omega)
  refine ldA_b hb11 (outN_length _ _ _) (if_of (by simp [outN_length]) (stCs_x f6 (by simp [outN_length]) fun w14 hb6 c14 => ldA_b hb6 (outN_length _ _ _) (hk w14 ?_)))
  exact (((((k8.trans c9).then c10 fun k hk h => by omega).then c11 fun k hk h => by omega).trans c12).then c13 fun k hk h => by omega).then c14 fun k hk h => by omega
end Go.Proofs.Ytodicpmedallgaa.G
