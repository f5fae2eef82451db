/- The laws of the stream cipher. Printed by kq.py. -/
import Derived.Test.YtodicpmedallgaaKp
import Derived.Test.YtodicpmedallgaaVmV
import Derived.Test.YtodicpmedallgaaGenLawChachaBlocks
import Derived.Test.YtodicpmedallgaaGenLawChachaXors
import Derived.Test.YtodicpmedallgaaGenLawChachaBack
set_option linter.unusedVariables false
set_option linter.unusedSimpArgs false
namespace Go.Proofs.Ytodicpmedallgaa.G
open Go Go.Proofs.Ytodicpmedallgaa.Vm Go.RowKit
theorem toInts_map' (k : IntKind) : ∀ l : List Int, toInts k (l.map (Value.int k)) = some l
  | [] => rfl
  | x :: l => by
    have h := toInts_map' k l
    have hk : kEq k k = true := by cases k <;> rfl
    simp [toInts, h, hk]
theorem nat_beq' (n : Nat) : Nat.beq n n = true := by
  induction n with
  | zero => rfl
  | succ n ih => exact ih
theorem eqI_same' {k : IntKind} {n : Nat} {l : List Int} {K : Bool → Prop} (hl : l.length = n) (hk : K true) : eqI k n (l.map (Value.int k)).toArray (l.map (Value.int k)).toArray K := by
  unfold eqI
  simp only [toInts_map', hl]
  have : Nat.beq n n = true := nat_beq' n
  simp only [this, Bool.and_self, cond_true, beq_self_eq_true]
  exact hk
theorem law26_awake_ok {w : World} {K : Bool → World → Prop} (hk : K true w) : law26_awake.f w K := by
  unfold law26_awake.f
  refine chacha_Quarter_ok (bif_t (by decide +kernel) (bif_t (by decide +kernel) (bif_t (by decide +kernel) ?_)))
  have e : ((qtr 286331153 16909060 2609737539 19088743).2.2.2 == 1484899515) = true := by decide +kernel
  dsimp only
  rw [e]; exact hk
theorem law26_ChachaBlocks_said {key nonce qs : List Int} {ctr : Int} {W : World} {K : Bool → World → Prop} (hkl : key.length = 32) (_ : ∀ x ∈ key, (Lit.int .u8 x).wf = true) (_ : (Lit.int .u32 ctr).wf = true) (hnl : nonce.length = 12) (_ : ∀ x ∈ nonce, (Lit.int .u8 x).wf = true) (hql : qs.length = 4) (_ : ∀ x ∈ qs, (Lit.int .u32 x).wf = true)
    (hk : ∀ w', Below W.heap.size W w' → K true w') : law26_ChachaBlocks.f (key.map (Value.int .u8)).toArray ctr (nonce.getD 0 0) (nonce.getD 1 0) (nonce.getD 2 0) (nonce.getD 3 0) (nonce.getD 4 0) (nonce.getD 5 0) (nonce.getD 6 0) (nonce.getD 7 0) (nonce.getD 8 0) (nonce.getD 9 0) (nonce.getD 10 0) (nonce.getD 11 0) (qs.getD 0 0) (qs.getD 1 0) (qs.getD 2 0) (qs.getD 3 0) W K := by
  unfold law26_ChachaBlocks.f
  refine newC_i (xs := key) (k := .u8) rfl fun w1 hb1 c1 s1 => newC_i (lits12 hnl .u8) fun w2 hb2 c2 s2 => newC_i (lits4 hql .u32) fun w3 hb3 c3 s3 => ?_
  have k1 := (hb1.chg c2 id).chg c3 id
  have k2 := hb2.chg c3 id
  refine ld4 hb3 hql (chacha_Quarter_ok (ld4 hb3 hql (ref26_Quarter_ok (law26_awake_ok (bif_t rfl ?_)))))
  have k1d : BlI .u8 _ w3.drew W.heap.size key := k1
  have k2d : BlI .u8 _ w3.drew w1.heap.size nonce := k2
  refine bif_t (beq_self_eq_true _) (bif_t (beq_self_eq_true _) (bif_t (beq_self_eq_true _) (bif_t (beq_self_eq_true _) ?_)))
  refine ldA_b k1d hkl (ld12 k2d hnl (ldA_b k1d hkl (ld12 k2d hnl (chacha_Block_ok hkl hnl fun w4 c4 => ?_))))
  have e1 := (k1d.chg c4 id).rd
  have e2 := (k2d.chg c4 id).rd
  rw [hkl] at e1
  rw [hnl, ← lits12 hnl .u8] at e2
  refine ⟨e2, e1, ref26_Block_ok hkl hnl fun w5 c5 => eqI_same' (blk_length _ _ _) (hk w5 ?_)⟩
  exact below_no (Below.refl _ _) (((((c1.trans c2).trans c3).trans (Chg.drew no w3)).trans c4).trans c5) (Nat.le_refl _)
theorem law26_ChachaXors_said {key nonce : List Int} {ctr : Int} {a : Option Addr} {n c : Nat} {W : World} {K : Bool → World → Prop} (hkl : key.length = 32) (_ : ∀ x ∈ key, (Lit.int .u8 x).wf = true) (hnl : nonce.length = 12) (_ : ∀ x ∈ nonce, (Lit.int .u8 x).wf = true) (hctr : (Lit.int .u32 ctr).wf = true) (f : Fits W (.slc (.int .u8) 1 1) [.slice a n c])
    (hk : ∀ w', Below W.heap.size W w' → K true w') : law26_ChachaXors.f (key.map (Value.int .u8)).toArray (nonce.getD 0 0) (nonce.getD 1 0) (nonce.getD 2 0) (nonce.getD 3 0) (nonce.getD 4 0) (nonce.getD 5 0) (nonce.getD 6 0) (nonce.getD 7 0) (nonce.getD 8 0) (nonce.getD 9 0) (nonce.getD 10 0) (nonce.getD 11 0) ctr a n c W K := by
  obtain ⟨hnc, _, xs, hxl, hx, hwf⟩ := f.ints
  have hcb := wf_u32 hctr
  unfold law26_ChachaXors.f
  refine newC_i (xs := key) (k := .u8) rfl fun w1 hb1 c1 s1 => newC_i (lits12 hnl .u8) fun w2 hb2 c2 s2 => ?_
  have k1 := hb1.chg c2 id
  have kc2 := c1.trans c2
  refine cond_of (fun _ => law26_awake_ok (hk w2 (below_no (Below.refl _ _) kc2 (Nat.le_refl _)))) (fun h => ?_)
  have hn : n ≤ 2000 := by have := of_decide_eq_false h; omega
  refine help_Own_byte_ok (hx.chg kc2 fun _ _ _ h => h) hxl (by omega) fun w3 hb3 c3 => ?_
  have k1 : BlI .u8 _ w3 W.heap.size key := k1.chg c3 id
  have k1 : BlI .u8 _ w3.drew W.heap.size key := k1
  have hb2 : BlI .u8 _ w3 w1.heap.size nonce := hb2.chg c3 id
  have hb2 : BlI .u8 _ w3.drew w1.heap.size nonce := hb2
  have hb3d : BlI .u8 _ w3.drew w2.heap.size (xs ++ [71, 71, 71]) := hb3
  have kc3 := (kc2.trans c3).trans (Chg.drew no w3)
  refine law26_awake_ok (bif_t rfl (ldA_b k1 hkl (ld12 hb2 hnl (ldA_b k1 hkl (ld12 hb2 hnl (chacha_Xor_ok hkl hnl hcb.1 hcb.2 (BlI.pre_byte hb3d) hxl (by omega) fun a1 d1 w4 ho4 c4 => ?_))))))
  have e1 := (k1.chg c4 id).rd
  have e2 := (hb2.chg c4 id).rd
  rw [hkl] at e1
  rw [hnl, ← lits12 hnl .u8] at e2
  have kc4 := kc3.trans c4
  refine ⟨e2, e1, ref26_Xor_ok hkl hnl (hx.chg kc4 fun _ _ _ h => h) hxl (by omega) fun a2 d2 w5 ho5 c5 => ?_⟩
  have kc5 := kc4.trans c5
  refine help_Bytes_eq (ho4.chg c5 fun _ _ h => h).sl ho5.sl (by rw [xorL_length]; exact hxl) (by rw [xorL_length]; exact hxl) (bif_t rfl ?_)
  refine help_Kept_byte_ok ((hb3d.chg c4 id).chg c5 id) (hx.chg kc5 fun _ _ _ h => h) hxl (by omega) fun w6 c6 => hk w6 ?_
  exact below_no (Below.refl _ _) (kc5.trans c6) (Nat.le_refl _)
theorem oB_bd (T S : List Int) (j : Nat) : 0 ≤ oB T S j ∧ oB T S j ≤ 255 := wu8_bd _
theorem kb_bd (key : List Int) (ctr : Int) (nonce : List Int) (i : Nat) : 0 ≤ kb key ctr nonce i ∧ kb key ctr nonce i ≤ 255 := by
  unfold kb; rw [blk_get (Nat.mod_lt _ (by omega))]; exact oB_bd _ _ _
theorem bxor_bxor {x k : Int} (hx : 0 ≤ x ∧ x ≤ 255) (hk : 0 ≤ k ∧ k ≤ 255) : bxor .u8 (bxor .u8 x k) k = x := by
  obtain ⟨a, rfl⟩ : ∃ a : Nat, x = a := ⟨x.toNat, by omega⟩
  obtain ⟨b, rfl⟩ : ∃ b : Nat, k = b := ⟨k.toNat, by omega⟩
  have h : a ^^^ b < 2 ^ 8 := Nat.xor_lt_two_pow (by omega) (by omega)
  rw [bxor_u8 a b (by omega) (by omega), bxor_u8 _ b (by omega) (by omega), Nat.xor_assoc, Nat.xor_self, Nat.xor_zero]
theorem xor_xor {key nonce xs : List Int} {ctr : Int} (h : By xs) : xorL key ctr nonce (xorL key ctr nonce xs) = xs := by
  apply List.ext_getElem?
  intro j
  by_cases hj : j < xs.length
  · rw [xorL_get (by rw [xorL_length]; exact hj), getD_some hj]
    congr 1
    unfold xB
    rw [List.getD_eq_getElem?_getD, xorL_get hj]
    have hm : xs.getD j 0 ∈ xs := List.mem_of_getElem? (getD_some hj)
    exact bxor_bxor (h _ hm) (kb_bd _ _ _ _)
  · rw [List.getElem?_eq_none (by rw [xorL_length, xorL_length]; omega), List.getElem?_eq_none (by omega)]
theorem kb_behind (key nonce : List Int) (ctr : Int) (k j : Nat) : kb key (IntKind.wrap .u32 (ctr + (k : Int))) nonce j = kb key ctr nonce (64 * k + j) := by
  unfold kb
  rw [show (64 * k + j) % 64 = j % 64 by omega, show (64 * k + j) / 64 = k + j / 64 by omega]
  rw [show IntKind.wrap .u32 (IntKind.wrap .u32 (ctr + (k : Int)) + ((j / 64 : Nat) : Int)) = IntKind.wrap .u32 (ctr + ((k + j / 64 : Nat) : Int)) by rw [wu32_eq, wu32_eq, wu32_eq]; omega]
theorem xor_parts {key nonce xs : List Int} {ctr : Int} {k : Nat} (hk : 64 * k ≤ xs.length) :
    xorL key ctr nonce (xs.take (64 * k)) ++ xorL key (IntKind.wrap .u32 (ctr + (k : Int))) nonce (xs.drop (64 * k)) = xorL key ctr nonce xs := by
  apply List.ext_getElem?
  intro j
  have hl : (xorL key ctr nonce (xs.take (64 * k))).length = 64 * k := by rw [xorL_length, List.length_take]; omega
  by_cases hj : j < 64 * k
  · rw [List.getElem?_append_left (by omega), xorL_get (by rw [List.length_take]; omega), xorL_get (by omega)]
    congr 1; unfold xB
    rw [List.getD_eq_getElem?_getD, List.getElem?_take, if_pos hj, ← List.getD_eq_getElem?_getD]
  · by_cases hj2 : j < xs.length
    · rw [List.getElem?_append_right (by omega), hl, xorL_get (by rw [List.length_drop]; omega), xorL_get hj2]
      congr 1; unfold xB
      rw [kb_behind, show 64 * k + (j - 64 * k) = j by omega, List.getD_eq_getElem?_getD, List.getElem?_drop, ← List.getD_eq_getElem?_getD, show 64 * k + (j - 64 * k) = j by omega]
    · rw [List.getElem?_eq_none (by rw [List.length_append, hl, xorL_length, List.length_drop]; omega), List.getElem?_eq_none (by rw [xorL_length]; omega)]
theorem law26_ChachaBack_said {key nonce : List Int} {ctr cut : Int} {a : Option Addr} {n c : Nat} {W : World} {K : Bool → World → Prop} (hkl : key.length = 32) (_ : ∀ x ∈ key, (Lit.int .u8 x).wf = true) (hnl : nonce.length = 12) (_ : ∀ x ∈ nonce, (Lit.int .u8 x).wf = true) (hctr : (Lit.int .u32 ctr).wf = true) (f : Fits W (.slc (.int .u8) 1 1) [.slice a n c]) (_ : (Lit.int .i64 cut).wf = true)
    (hk : ∀ w', Below W.heap.size W w' → K true w') : law26_ChachaBack.f (key.map (Value.int .u8)).toArray (nonce.getD 0 0) (nonce.getD 1 0) (nonce.getD 2 0) (nonce.getD 3 0) (nonce.getD 4 0) (nonce.getD 5 0) (nonce.getD 6 0) (nonce.getD 7 0) (nonce.getD 8 0) (nonce.getD 9 0) (nonce.getD 10 0) (nonce.getD 11 0) ctr a n c cut W K := by
  obtain ⟨hnc, _, xs, hxl, hx, hwf⟩ := f.ints
  have hcb := wf_u32 hctr
  have hby := By.of hwf
  unfold law26_ChachaBack.f
  refine newC_i (xs := key) (k := .u8) rfl fun w1 hb1 c1 s1 => newC_i (lits12 hnl .u8) fun w2 hb2 c2 s2 => ?_
  have k1 := hb1.chg c2 id
  have kc2 := c1.trans c2
  refine cond_of (fun _ => law26_awake_ok (hk w2 (below_no (Below.refl _ _) kc2 (Nat.le_refl _)))) (fun h => ?_)
  have hn : n ≤ 2000 := by have := of_decide_eq_false h; omega
  refine ldA_b k1 hkl (ld12 hb2 hnl (chacha_Xor_ok hkl hnl hcb.1 hcb.2 (hx.chg kc2 fun _ _ _ h => h) hxl (by omega) fun x3 d3 w3 ho3 c3 => ?_))
  have kc3 := kc2.trans c3
  have e1 : IntKind.wrap .u64 (IntKind.wrap .i64 (IntKind.wrap .i64 (Int.tdiv (n : Int) 64) + 1)) = ((n / 64 + 1 : Nat) : Int) := by
    rw [show Int.tdiv (n : Int) 64 = ((n / 64 : Nat) : Int) from rfl, w64n (by omega), inc (by omega), wu64n (by omega)]
  rw [e1]
  refine ifn_of (by omega) ?_
  obtain ⟨k, ek, hkn⟩ : ∃ k : Nat, IntKind.wrap .i64 (Int.tmod (IntKind.wrap .u64 cut) ((n / 64 + 1 : Nat) : Int)) = k ∧ k ≤ n / 64 := by
    have h0 : 0 ≤ IntKind.wrap .u64 cut := by rw [wu64_eq]; omega
    have g0 := Int.tmod_nonneg ((n / 64 + 1 : Nat) : Int) h0
    have g1 := Int.tmod_lt_of_pos (IntKind.wrap .u64 cut) (show (0 : Int) < ((n / 64 + 1 : Nat) : Int) by omega)
    generalize Int.tmod (IntKind.wrap .u64 cut) ((n / 64 + 1 : Nat) : Int) = q at g0 g1 ⊢
    exact ⟨q.toNat, by rw [w64 (by omega) (by omega)]; omega, by omega⟩
  dsimp only
  rw [ek, show IntKind.wrap .i64 (64 * (k : Int)) = ((64 * k : Nat) : Int) by rw [w64 (by omega) (by omega)]; omega, wu32n (by omega)]
  have k1 : BlI .u8 _ w3 W.heap.size key := k1.chg c3 id
  have k1 : BlI .u8 _ w3.drew W.heap.size key := k1
  have hb2 : BlI .u8 _ w3 w1.heap.size nonce := hb2.chg c3 id
  have hb2 : BlI .u8 _ w3.drew w1.heap.size nonce := hb2
  refine ldA_b k1 hkl (ld12 hb2 hnl (bnd_hi (by omega) (by omega) ?_))
  rw [Int.toNat_natCast]
  have kd3 := kc3.trans (Chg.drew no w3)
  have hx3 : SlI .u8 w3.drew a xs := hx.chg kd3 fun _ _ _ h => h
  have hp1 := hx3.part (l := 0) (h := 64 * k) (c := c) (by omega) (by omega) (by omega)
  refine chacha_Xor_ok hkl hnl hcb.1 hcb.2 hp1 (SlI.part_len (by omega)) (by omega) fun x4 d4 w4 ho4 c4 => ?_
  have k1 : BlI .u8 _ w4 W.heap.size key := k1.chg c4 id
  have k1 : BlI .u8 _ w4.drew W.heap.size key := k1
  have hb2 : BlI .u8 _ w4 w1.heap.size nonce := hb2.chg c4 id
  have hb2 : BlI .u8 _ w4.drew w1.heap.size nonce := hb2
  refine ldA_b k1 hkl (ld12 hb2 hnl (bnd_lo (by omega) (by omega) ?_))
  rw [Int.toNat_natCast]
  have kd4 := (kd3.trans c4).trans (Chg.drew no w4)
  have hx4 : SlI .u8 w4.drew a xs := hx.chg kd4 fun _ _ _ h => h
  have hp2 := hx4.part (l := 64 * k) (h := n) (c := c) (by omega) (by omega) (by omega)
  have hcb2 : 0 ≤ IntKind.wrap .u32 (ctr + (k : Int)) ∧ IntKind.wrap .u32 (ctr + (k : Int)) ≤ 4294967295 := by rw [wu32_eq]; omega
  refine chacha_Xor_ok hkl hnl hcb2.1 hcb2.2 hp2 (SlI.part_len (by omega)) (by omega) fun x5 d5 w5 ho5 c5 => ?_
  have kd5 := kd4.trans c5
  have k1 := k1.chg c5 id
  have hb2 := hb2.chg c5 id
  refine law26_awake_ok (bif_t rfl (ldA_b k1 hkl (ld12 hb2 hnl ?_)))
  have o3 : Own .u8 5 (fun b => b < w3.heap.size) w5 x3 n d3 (xorL key ctr nonce xs) := ((((ho3.mono (T := fun b => b < w3.heap.size) fun b _ h => h).chg (Chg.drew no w3) fun _ _ h => h).chg c4 fun _ _ h => h).chg (Chg.drew no w4) fun _ _ h => h).chg c5 fun _ _ h => h
  refine chacha_Xor_ok hkl hnl hcb.1 hcb.2 o3.sl (by rw [xorL_length]; exact hxl) (by omega) fun x6 d6 w6 ho6 c6 => ?_
  rw [xor_xor hby] at ho6
  have kd6 := kd5.trans c6
  refine help_Bytes_eq ho6.sl (hx.chg kd6 fun _ _ _ h => h) hxl hxl (bif_t rfl ?_)
  rw [List.drop_zero] at ho4
  rw [List.take_of_length_le (by omega)] at ho5
  have o4 := ((ho4.chg (Chg.drew no w4) fun _ _ h => h).chg c5 fun _ _ h => h).chg c6 fun _ _ h => h
  have o5 := ho5.chg c6 fun _ _ h => h
  refine cpS o4.sl (by rw [xorL_length, List.length_take]; omega) (by omega) (by omega) fun x7 d7 w7 ho7 c7 => ?_
  have z7 := c7.size
  have z6 := c6.size
  have z5 := c5.size
  have z4 := c4.size
  have zd3 : w3.drew.heap.size = w3.heap.size := rfl
  have zd4 : w4.drew.heap.size = w4.heap.size := rfl
  have o7 : Own .u8 5 (fun b => w6.heap.size ≤ b) w7 x7 (64 * k - 0) d7 (xorL key ctr nonce (xs.take (64 * k))) := ho7.mono fun b hb _ => by omega
  refine apS o7 (o5.chg c7 fun _ _ h => h).sl (by rw [xorL_length, List.length_drop]; omega) (by omega) (by omega) (by omega) fun x8 d8 w8 ho8 c8 => ?_
  rw [xor_parts (by omega)] at ho8
  have kd8 := (kd6.trans c7).then c8 fun k hk h => by have := kd6.size; omega
  have o3' : Own .u8 5 (fun b => b < w3.heap.size) w8 x3 n d3 (xorL key ctr nonce xs) := ((o3.chg c6 fun _ _ h => h).chg c7 fun _ _ h => h).chg c8 fun b hb h => by omega
  refine help_Bytes_eq ho8.sl o3'.sl (by rw [xorL_length]; omega) (by rw [xorL_length]; exact hxl) (hk w8 ?_)
  exact below_no (Below.refl _ _) kd8 (Nat.le_refl _)
end Go.Proofs.Ytodicpmedallgaa.G
