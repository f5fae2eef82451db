/- The checksum tells every burst. Conditions: those of the given row. -/
import Derived.Test.YtodicpmedallgaaKb
set_option linter.unusedVariables false
set_option linter.unusedSimpArgs false
namespace Go.Proofs.Ytodicpmedallgaa.G
open Go Go.Proofs.Ytodicpmedallgaa.Vm Go.RowKit
/-- Bytes as one number, the first lowest. -/
def num : List Nat → Nat
  | [] => 0
  | x :: l => x ^^^ (num l <<< 8)
theorem Ln_add : ∀ (a b s : Nat), Ln (a + b) s = Ln a (Ln b s)
  | a, 0, s => rfl
  | a, b + 1, s => by rw [← Nat.add_assoc]; simp only [Ln]; exact Ln_add a b _
theorem Ln_shl (n s : Nat) : Ln n (s <<< n) = s := by rw [Nat.shiftLeft_eq]; exact Ln_high n s
theorem run_num : ∀ (l : List Nat) (s : Nat), run s l = Ln (8 * l.length) (s ^^^ num l)
  | [], s => by simp [run, num, Ln]
  | x :: l, s => by
    show run (stepB s x) l = _
    rw [run_num l, List.length_cons, Nat.mul_succ, Ln_add, num, ← Nat.xor_assoc, Ln_xor 8, Ln_shl]
    rfl
theorem num_set : ∀ (l : List Nat) (i j v : Nat), l[i]? = some v → num (l.set i (v ^^^ 2 ^ j)) = num l ^^^ 2 ^ (8 * i + j)
  | [], _, _, _, h => by simp at h
  | x :: l, 0, j, v, h => by
    simp only [List.getElem?_cons_zero, Option.some.injEq] at h
    subst h
    simp only [List.set_cons_zero, num, Nat.mul_zero, Nat.zero_add]; ac_rfl
  | x :: l, i + 1, j, v, h => by
    simp only [List.getElem?_cons_succ] at h
    simp only [List.set_cons_succ, num]
    rw [num_set l i j v h, Nat.shiftLeft_xor_distrib, Nat.shiftLeft_eq (2 ^ _), ← Nat.pow_add, show 8 * i + j + 8 = 8 * (i + 1) + j by omega, Nat.xor_assoc]
theorem mod_succ (a k : Nat) : a % 2 ^ (k + 1) = a % 2 ^ k ^^^ (if a.testBit k then 2 ^ k else 0) := by
  apply Nat.eq_of_testBit_eq
  intro i
  rw [Nat.testBit_xor, Nat.testBit_mod_two_pow, Nat.testBit_mod_two_pow]
  by_cases h : i = k
  · subst h
    cases hb : a.testBit i <;> simp [hb]
  · by_cases h2 : i < k
    · cases hb : a.testBit k <;> simp [h2, Nat.lt_succ_of_lt h2, Nat.testBit_two_pow, Ne.symm h]
    · cases hb : a.testBit k <;> simp [h2, show ¬ i < k + 1 by omega, Nat.testBit_two_pow, Ne.symm h]
theorem L1_ne {s : Nat} (h : s < 4294967296) (h0 : s ≠ 0) : L1 s ≠ 0 := by
  unfold L1
  by_cases hs : s % 2 = 1
  · rw [if_pos hs]
    intro e
    have : s >>> 1 = 3988292384 := by
      have h2 : s >>> 1 ^^^ 3988292384 ^^^ 3988292384 = 0 ^^^ 3988292384 := by rw [e]
      rwa [Nat.xor_assoc, Nat.xor_self, Nat.xor_zero, Nat.zero_xor] at h2
    rw [Nat.shiftRight_eq_div_pow] at this
    omega
  · rw [if_neg hs, Nat.xor_zero, Nat.shiftRight_eq_div_pow]; omega
theorem Ln_ne : ∀ {n s : Nat}, s < 4294967296 → s ≠ 0 → Ln n s ≠ 0
  | 0, _, _, h => h
  | n + 1, _, h, h0 => Ln_ne (n := n) (L1_lt h) (L1_ne h h0)
theorem Ln_zero : ∀ n : Nat, Ln n 0 = 0
  | 0 => rfl
  | n + 1 => by
    have : L1 0 = 0 := by decide
    simp only [Ln]; rw [this]; exact Ln_zero n
theorem burst {l m : List Nat} {o B : Nat} (hl : l.length = m.length) (ho : o ≤ 8 * l.length) (hB : B < 4294967296) (h : num m = num l ^^^ (B <<< o)) : crc 0 m = crc 0 l ↔ B = 0 := by
  have e : run (0 ^^^ 4294967295) m = run (0 ^^^ 4294967295) l ^^^ Ln (8 * l.length - o) B := by
    rw [run_num, run_num, ← hl, h, ← Nat.xor_assoc, Ln_xor _ _ (B <<< o)]
    congr 1
    conv => lhs; rw [show 8 * l.length = (8 * l.length - o) + o by omega]
    rw [Ln_add, Ln_shl]
  unfold crc
  rw [e]
  constructor
  · intro h
    have h2 : run (0 ^^^ 4294967295) l ^^^ Ln (8 * l.length - o) B ^^^ 4294967295 ^^^ (run (0 ^^^ 4294967295) l ^^^ 4294967295) = 0 := by rw [h, Nat.xor_self]
    have h3 : run (0 ^^^ 4294967295) l ^^^ Ln (8 * l.length - o) B ^^^ 4294967295 ^^^ (run (0 ^^^ 4294967295) l ^^^ 4294967295) = (run (0 ^^^ 4294967295) l ^^^ run (0 ^^^ 4294967295) l) ^^^ (4294967295 ^^^ 4294967295) ^^^ Ln (8 * l.length - o) B := by ac_rfl
    rw [h3, Nat.xor_self, Nat.xor_self, Nat.xor_zero, Nat.zero_xor] at h2
    exact Decidable.byContradiction fun hne => Ln_ne hB hne h2
  · rintro rfl
    rw [Ln_zero, Nat.xor_zero]
theorem burst_l7 {w0 : World} {S : Nat → Prop} {a : Option Addr} {n c cm : Nat} {y : Option Addr} {l : List Nat} {o A : Nat} {K0 : Option Addr → Nat → Nat → Option Addr → Nat → Nat → Bool → World → Prop}
    (hn : n ≤ 1048576) (ho : o < 8 * n) (hA : A < 4294967296) (hln : l.length = n)
    (hk : ∀ w m B, m.length = n → (∀ x ∈ m, x < 256) → B < 4294967296 → num m = num l ^^^ (B <<< o) → Own .u8 5 S w y n cm (ints m) → Chg S w0 w → K0 a n c y n cm (decide (B ≠ 0)) w) :
    ∀ (r k : Nat) (m : List Nat) (w : World), k + r = 32 → m.length = n → (∀ x ∈ m, x < 256) → num m = num l ^^^ ((A % 2 ^ k) <<< o) → Own .u8 5 S w y n cm (ints m) → Chg S w0 w →
      law03_CrcBurst.l7 (r + 1) a n c A y n cm o (decide (A % 2 ^ k ≠ 0)) k w K0
  | 0, k, m, w, hkr, hm, hlt, hnum, how, hch => by
    rw [law03_CrcBurst.l7]
    have : k = 32 := by omega
    subst this
    exact bif_f (dec_f (by omega)) (hk w m _ hm hlt (Nat.mod_lt _ (by decide)) hnum how hch)
  | r + 1, k, m, w, hkr, hm, hlt, hnum, how, hch => by
    rw [law03_CrcBurst.l7]
    have hB : A % 2 ^ k < 4294967296 := Nat.lt_of_le_of_lt (Nat.mod_le _ _) hA
    refine bif_t (dec_t (by omega)) ?_
    have e8 : IntKind.wrap .i64 (8 * (n : Int)) = ((8 * n : Nat) : Int) := by rw [w64 (by omega) (by omega)]; omega
    have eo : IntKind.wrap .i64 ((o : Int) + (k : Int)) = ((o + k : Nat) : Int) := by rw [w64 (by omega) (by omega)]; omega
    rw [e8, eo]
    refine cond_of (fun h => ?_) (fun h => hk w m _ hm hlt hB hnum how hch)
    have hlt8 : o + k < 8 * n := by have := of_decide_eq_true h; omega
    have hku : IntKind.wrap .u64 (k : Int) = (k : Int) := wu64n (by omega)
    rw [hku]
    refine ifn_of (by omega) ?_
    have hbit : ((band .u32 (shr .u32 (A : Int) (min (Int.toNat (k : Int)) (IntKind.bits .u32))) 1) == 1) = A.testBit k := by
      rw [show min (Int.toNat (k : Int)) (IntKind.bits .u32) = k by rw [show IntKind.bits .u32 = 32 from rfl]; omega, shr_nat, show (1 : Int) = ((1 : Nat) : Int) from rfl,
        band_u32 _ _ (Nat.lt_of_le_of_lt (by rw [Nat.shiftRight_eq_div_pow]; exact Nat.div_le_self _ _) hA) (by omega), Nat.and_one_is_mod]
      rw [Nat.testBit, Nat.and_comm, Nat.and_one_is_mod]
      rcases Nat.mod_two_eq_zero_or_one (A >>> k) with hs | hs <;> simp [hs]
    rw [hbit]
    refine cond_of (fun hb => ?_) (fun hb => ?_)
    · have ed : IntKind.wrap .i64 (Int.tdiv ((o + k : Nat) : Int) 8) = (((o + k) / 8 : Nat) : Int) := by
        rw [Int.tdiv_eq_ediv_of_nonneg (by omega), w64 (by omega) (by omega)]; omega
      have em : IntKind.wrap .u64 (Int.tmod ((o + k : Nat) : Int) 8) = (((o + k) % 8 : Nat) : Int) := by
        rw [Int.tmod_eq_emod_of_nonneg (by omega), wu64 (by omega) (by omega)]; omega
      dsimp only
      rw [ed, em]
      have hi : (o + k) / 8 < n := by omega
      have hgi : m[(o + k) / 8]? = some (m[(o + k) / 8]'(by omega)) := List.getElem?_eq_getElem _
      generalize m[(o + k) / 8]'(by omega) = v at hgi
      have hv : v < 256 := hlt v (List.mem_of_getElem? hgi)
      have hj : (o + k) % 8 < 8 := Nat.mod_lt _ (by decide)
      have hpos : 8 * ((o + k) / 8) + (o + k) % 8 = k + o := by omega
      generalize (o + k) / 8 = i at *
      generalize (o + k) % 8 = j at *
      have hp2 : 2 ^ j < 256 := Nat.pow_lt_pow_right (by decide) hj
      have esh : shl .u8 1 (min (Int.toNat (j : Int)) (IntKind.bits .u8)) = ((2 ^ j : Nat) : Int) := by
        rw [show min (Int.toNat (j : Int)) (IntKind.bits .u8) = j by rw [show IntKind.bits .u8 = 8 from rfl]; omega]
        unfold shl
        rw [show (1 : Int) * 2 ^ j = ((2 ^ j : Nat) : Int) by rw [Int.one_mul]; exact (Int.natCast_pow 2 j).symm]
        exact wu8n hp2
      refine rdV how.sl i rfl (by rw [ints_length]; exact hm) (v := (v : Int)) (by rw [ints_get, hgi]; rfl) fun _ _ => ?_
      refine ifn_of (by omega) ?_
      rw [esh, bxor_u8 v _ hv hp2]
      refine wrS how i rfl (by rw [ints_length, hm]; exact hi) fun _ w1 ho1 hc1 => ?_
      rw [show (ints m).set i ((v ^^^ 2 ^ j : Nat) : Int) = ints (m.set i (v ^^^ 2 ^ j)) by unfold ints; rw [List.map_set]] at ho1
      rw [inc (by omega)]
      have hne : A % 2 ^ (k + 1) ≠ 0 := by
        intro h0
        have : (A % 2 ^ (k + 1)).testBit k = true := by rw [Nat.testBit_mod_two_pow]; simp [hb]
        rw [h0] at this; simp at this
      have := burst_l7 (c := c) (a := a) hn ho hA hln hk r (k + 1) (m.set i (v ^^^ 2 ^ j)) w1 (by omega) (by rw [List.length_set]; exact hm) (fun x hx => by
        rcases List.mem_or_eq_of_mem_set hx with hx | rfl
        · exact hlt x hx
        · exact Nat.xor_lt_two_pow (n := 8) hv hp2) (by
          rw [num_set m i j v hgi, hnum, mod_succ, if_pos hb, Nat.shiftLeft_xor_distrib, Nat.shiftLeft_eq (2 ^ k), ← Nat.pow_add, hpos, Nat.xor_assoc]) ho1 (hch.trans hc1)
      rw [decide_eq_true hne] at this
      exact this
    · rw [inc (by omega)]
      have e : A % 2 ^ (k + 1) = A % 2 ^ k := by rw [mod_succ, if_neg (by rw [hb]; simp), Nat.xor_zero]
      have := burst_l7 (c := c) (a := a) hn ho hA hln hk r (k + 1) m w (by omega) hm hlt (by rw [e]; exact hnum) how hch
      rw [e] at this
      exact this
theorem law03_CrcBurst_said {a : Option Addr} {n c : Nat} {v u : Int} {W : World} {K : Bool → World → Prop} (f : Fits W (.slc (.int .u8) 1 1) [.slice a n c]) (hv : (Lit.int .i64 v).wf = true) (hu : (Lit.int .u32 u).wf = true)
    (hk : ∀ w', Below W.heap.size W w' → K true w') : law03_CrcBurst.f a n c v u W K := by
  obtain ⟨hnc, hcs, xs, hxl, hx, hwf⟩ := f.ints
  obtain ⟨l, rfl, hl⟩ := (By.of hwf).nats
  rw [ints_length] at hxl
  obtain ⟨u0, u1⟩ := wf_u32 hu
  obtain ⟨A, rfl⟩ : ∃ A : Nat, u = A := ⟨u.toNat, by omega⟩
  unfold law03_CrcBurst.f
  refine law03_awake_ok fun w1 hc1 => bif_f rfl ?_
  have out : law03_awake.f w1 (fun r w => K r w) := law03_awake_ok fun w2 hc2 => hk w2 (below_no (Below.refl _ _) (hc1.trans hc2) (Nat.le_refl _))
  refine cond_of (fun _ => out) (fun h1 => cond_of (fun _ => out) (fun h2 => cond_of (fun _ => out) (fun h3 => ?_)))
  have hn0 : n ≠ 0 := by
    have : ¬ ((n : Int) == 0) = true := by simp [h1]
    intro e; subst e; exact this rfl
  have hn : n ≤ 1048576 := by have := of_decide_eq_false h3; omega
  refine help_CopyBytes_ok (hx.chg hc1 fun _ _ _ h => h) (by rw [ints_length]; exact hxl) (by omega) fun y cm w2 ho2 hc2 => ?_
  have e8 : IntKind.wrap .u64 (IntKind.wrap .i64 (8 * (n : Int))) = ((8 * n : Nat) : Int) := by rw [w64 (by omega) (by omega), wu64 (by omega) (by omega)]; omega
  rw [e8]
  refine ifn_of (by omega) ?_
  have hu0 : 0 ≤ IntKind.wrap .u64 v := by rw [wu64_eq]; omega
  have hmod := Int.emod_nonneg (IntKind.wrap .u64 v) (show ((8 * n : Nat) : Int) ≠ 0 by omega)
  have hmod2 := Int.emod_lt_of_pos (IntKind.wrap .u64 v) (show 0 < ((8 * n : Nat) : Int) by omega)
  rw [Int.tmod_eq_emod_of_nonneg hu0, w64 (by omega) (by omega)]
  obtain ⟨o, ho⟩ : ∃ o : Nat, IntKind.wrap .u64 v % ((8 * n : Nat) : Int) = o := ⟨(IntKind.wrap .u64 v % ((8 * n : Nat) : Int)).toNat, by omega⟩
  rw [ho] at hmod2 ⊢
  refine ⟨33, ?_⟩
  have := burst_l7 (S := fun k => k = w1.heap.size) (w0 := w2) (a := a) (c := c) (n := n) (y := y) (cm := cm) (l := l) (o := o) (A := A) (K0 := fun o0_33 o0_33n o0_33c o7_34 o7_34n o7_34c o9_35 w =>
            crc_Sum.f o7_34 o7_34n o7_34c w fun r76_37 w =>
            crc_Sum.f o0_33 o0_33n o0_33c w fun r78_38 w =>
            let v6_39 := ((r76_37 != r78_38) == o9_35)
            K v6_39 w) hn (by omega) (by omega) hxl (fun w3 m B hm hlt hB hnum ho3 hc3 => ?_) 32 0 l w2 rfl hxl hl (by rw [show A % 2 ^ 0 = 0 by rw [Nat.pow_zero, Nat.mod_one]]; simp) ho2 (Chg.refl _ _)
  · rw [show (decide (A % 2 ^ 0 ≠ 0)) = false by rw [Nat.pow_zero, Nat.mod_one]; rfl] at this
    exact this
  · have h13 : Chg no w1 w3 := hc2.then hc3 fun k hk h => by omega
    refine crc_Sum_ok ho3.sl hm hlt (by omega) fun w4 hc4 => ?_
    have h04 := (hc1.trans h13).trans hc4
    refine crc_Sum_ok (hx.chg h04 fun _ _ _ h => h) hxl hl (by omega) fun w5 hc5 => ?_
    have key := burst (l := l) (m := m) (o := o) (B := B) (by omega) (by omega) hB hnum
    have e : ((((crc 0 m : Nat) : Int) != ((crc 0 l : Nat) : Int)) == decide (B ≠ 0)) = true := by
      by_cases h0 : B = 0
      · have := key.2 h0
        simp [this, h0]
      · have : ¬ crc 0 m = crc 0 l := fun h => h0 (key.1 h)
        have h2 : ¬ ((crc 0 m : Nat) : Int) = ((crc 0 l : Nat) : Int) := fun h => this (by omega)
        rw [decide_eq_true h0, bne_iff_ne.2 h2]; rfl
    show K ((((crc 0 m : Nat) : Int) != ((crc 0 l : Nat) : Int)) == decide (B ≠ 0)) w5
    rw [e]
    exact hk _ (below_no (Below.refl _ _) (h04.trans hc5) (Nat.le_refl _))
end Go.Proofs.Ytodicpmedallgaa.G
