/- The laws of the checksum: the sums, what adds up, bursts. -/
import Derived.Test.YtodicpmedallgaaKa
import Derived.Test.YtodicpmedallgaaGenLawCrcSums
import Derived.Test.YtodicpmedallgaaGenLawCrcLinear
import Derived.Test.YtodicpmedallgaaGenLawCrcBurst
set_option linter.unusedVariables false
set_option linter.unusedSimpArgs false
namespace Go.Proofs.Ytodicpmedallgaa.G
open Go Go.Proofs.Ytodicpmedallgaa.Vm Go.RowKit
theorem law03_CrcSums_said {a : Option Addr} {n c : Nat} {v : Int} {W : World} {K : Bool → World → Prop} (f : Fits W (.slc (.int .u8) 1 1) [.slice a n c]) (hv : (Lit.int .u32 v).wf = true)
    (hk : ∀ w', Below W.heap.size W w' → K true w') : law03_CrcSums.f a n c v W K := by
  obtain ⟨hnc, hcs, xs, hxl, hx, hwf⟩ := f.ints
  have hb := By.of hwf
  obtain ⟨v0, v1⟩ := wf_u32 hv
  obtain ⟨V, rfl⟩ : ∃ V : Nat, v = V := ⟨v.toNat, by omega⟩
  obtain ⟨l, rfl, hl⟩ := hb.nats
  have hll : l.length = n := by rw [← hxl, ints_length]
  unfold law03_CrcSums.f
  refine help_Own_byte_ok hx hxl (by omega) fun w1 hb1 hc1 => ?_
  refine law03_awake_ok fun w2 hc2 => bif_t rfl ?_
  have hy := BlI.pre_byte hb1
  refine crc_Sum_ok (hy.chg hc2 fun _ _ _ h => h) hll hl (by omega) fun w3 hc3 => ?_
  refine ref03_Sum_ok (hx.chg ((hc1.trans hc2).trans hc3) fun _ _ _ h => h) hll hl (by omega) (bif_t (by simp) ?_)
  have j3 := hc2.trans hc3
  refine crc_Add_ok (hy.chg j3 fun _ _ _ h => h) hll hl (by omega) (by omega) fun w4 hc4 => ?_
  have j4 := j3.trans hc4
  refine ref03_Add_ok (hx.chg (hc1.trans j4) fun _ _ _ h => h) hll hl (by omega) (by omega) (bif_t (by simp) ?_)
  exact help_Kept_byte_ok (hb1.chg j4 fun h => h) (hx.chg (hc1.trans j4) fun _ _ _ h => h) hxl (by omega) fun w5 hc5 => hk _ (below_no (Below.refl _ _) ((hc1.trans j4).trans hc5) (Nat.le_refl _))

/-! ### Three, added up -/
def xor3 : List Nat → List Nat → List Nat → List Nat
  | x :: l, y :: m, z :: k => (x ^^^ y ^^^ z) :: xor3 l m k
  | _, _, _ => []
theorem stepB_xor (s t x y : Nat) : stepB (s ^^^ t) (x ^^^ y) = stepB s x ^^^ stepB t y := by
  unfold stepB
  rw [← Ln_xor]; congr 1; ac_rfl
theorem run_xor3 : ∀ (a b c : List Nat) (s t u : Nat), a.length = b.length → a.length = c.length → run (s ^^^ t ^^^ u) (xor3 a b c) = run s a ^^^ run t b ^^^ run u c
  | [], [], [], s, t, u, _, _ => rfl
  | x :: a, y :: b, z :: c, s, t, u, h1, h2 => by
    simp only [xor3, run, List.foldl_cons]
    rw [stepB_xor, stepB_xor]
    exact run_xor3 a b c _ _ _ (by simpa using h1) (by simpa using h2)
  | [], _ :: _, _, _, _, _, h, _ => by simp at h
  | _ :: _, [], _, _, _, _, h, _ => by simp at h
  | [], _, _ :: _, _, _, _, _, h => by simp at h
  | _ :: _, _, [], _, _, _, _, h => by simp at h
theorem crc_xor3 (a b c : List Nat) (h1 : a.length = b.length) (h2 : a.length = c.length) : crc 0 (xor3 a b c) = crc 0 a ^^^ crc 0 b ^^^ crc 0 c := by
  unfold crc
  have h : (0 ^^^ 4294967295 : Nat) = (0 ^^^ 4294967295) ^^^ (0 ^^^ 4294967295) ^^^ (0 ^^^ 4294967295) := by decide
  conv => lhs; rw [h]
  rw [run_xor3 a b c _ _ _ h1 h2]
  generalize run (0 ^^^ 4294967295) a = p
  generalize run (0 ^^^ 4294967295) b = q
  generalize run (0 ^^^ 4294967295) c = r
  have e : (p ^^^ 4294967295) ^^^ (q ^^^ 4294967295) ^^^ (r ^^^ 4294967295) = p ^^^ q ^^^ r ^^^ 4294967295 ^^^ (4294967295 ^^^ 4294967295) := by ac_rfl
  rw [e, Nat.xor_self, Nat.xor_zero]
theorem xor3_length : ∀ (a b c : List Nat), a.length = b.length → a.length = c.length → (xor3 a b c).length = a.length
  | [], [], [], _, _ => rfl
  | x :: a, y :: b, z :: c, h1, h2 => by simp only [xor3, List.length_cons]; rw [xor3_length a b c (by simpa using h1) (by simpa using h2)]
  | [], _ :: _, _, h, _ => by simp at h
  | _ :: _, [], _, h, _ => by simp at h
  | [], _, _ :: _, _, h => by simp at h
  | _ :: _, _, [], _, h => by simp at h
theorem xor3_lt : ∀ {a b c : List Nat}, (∀ x ∈ a, x < 256) → (∀ x ∈ b, x < 256) → (∀ x ∈ c, x < 256) → ∀ x ∈ xor3 a b c, x < 256
  | [], _, _, _, _, _, x, hx => by simp [xor3] at hx
  | _ :: _, [], _, _, _, _, x, hx => by simp [xor3] at hx
  | _ :: _, _ :: _, [], _, _, _, x, hx => by simp [xor3] at hx
  | p :: a, q :: b, r :: c, ha, hb, hc, x, hx => by
    simp only [xor3, List.mem_cons] at hx
    rcases hx with rfl | hx
    · exact Nat.xor_lt_two_pow (n := 8) (Nat.xor_lt_two_pow (n := 8) (ha p (by simp)) (hb q (by simp))) (hc r (by simp))
    · exact xor3_lt (fun y hy => ha y (by simp [hy])) (fun y hy => hb y (by simp [hy])) (fun y hy => hc y (by simp [hy])) x hx
theorem linear_l4 {W w0 : World} {S : Nat → Prop} {a b c : Option Addr} {n1 c1 n2 c2 n3 c3 m cm : Nat} {y : Option Addr} {lb lc : List Nat} {K0 : Option Addr → Nat → Nat → Option Addr → Nat → Nat → Option Addr → Nat → Nat → Int → Option Addr → Nat → Nat → World → Prop}
    (hb : SlI .u8 w0 b (ints lb)) (hc : SlI .u8 w0 c (ints lc)) (hbS : ∀ p, b = some p → ints lb ≠ [] → ¬ S p.block) (hcS : ∀ p, c = some p → ints lc ≠ [] → ¬ S p.block)
    (hbl : lb.length = n2) (hcl : lc.length = n3) (hm2 : m ≤ n2) (hm3 : m ≤ n3) (hmb : m < 9223372036854775807) (b2 : ∀ x ∈ lb, x < 256) (b3 : ∀ x ∈ lc, x < 256) :
    ∀ (r d : List Nat) (w : World), d.length + r.length = m → (∀ x ∈ r, x < 256) → Own .u8 5 S w y m cm (ints (d ++ r)) → Chg S w0 w →
      (∀ w', Own .u8 5 S w' y m cm (ints (d ++ xor3 r ((lb.take m).drop d.length) ((lc.take m).drop d.length))) → Chg S w0 w' → K0 a n1 c1 b n2 c2 c n3 c3 m y m cm w') →
      law03_CrcLinear.l4 (r.length + 1) a n1 c1 b n2 c2 c n3 c3 m y m cm d.length w K0
  | [], d, w, hd, hr, ho, hch, hk => by
    rw [law03_CrcLinear.l4]
    simp only [List.length_nil, Nat.add_zero] at hd
    refine bif_f (dec_f (by omega)) (hk w ?_ hch)
    simpa [xor3] using ho
  | v :: r, d, w, hd, hr, ho, hch, hk => by
    rw [law03_CrcLinear.l4]
    simp only [List.length_cons] at hd
    have hv : v < 256 := hr v (by simp)
    have ho' : Own .u8 5 S w.drew y m cm (ints (d ++ v :: r)) := ho
    have hchd := hch.trans (Chg.drew S w)
    have hgb : lb[d.length]? = some (lb[d.length]'(by omega)) := List.getElem?_eq_getElem _
    have hgc : lc[d.length]? = some (lc[d.length]'(by omega)) := List.getElem?_eq_getElem _
    generalize hp : lb[d.length]'(by omega) = p at hgb
    generalize hq : lc[d.length]'(by omega) = q at hgc
    have hp2 : p < 256 := b2 p (List.mem_of_getElem? hgb)
    have hq2 : q < 256 := b3 q (List.mem_of_getElem? hgc)
    refine bif_t (dec_t (by omega)) (rdV ho'.sl d.length rfl ho'.length (v := (v : Int)) (by rw [ints_app]; simp [ints]) fun _ _ => ?_)
    refine rdV (hb.chg hchd hbS) d.length rfl (by rw [ints_length]; exact hbl) (v := (p : Int)) (by rw [ints_get, hgb]; rfl) fun _ _ => ?_
    refine rdV (hc.chg hchd hcS) d.length rfl (by rw [ints_length]; exact hcl) (v := (q : Int)) (by rw [ints_get, hgc]; rfl) fun _ _ => ?_
    rw [bxor_u8 v p hv hp2, bxor_u8 _ q (Nat.xor_lt_two_pow (n := 8) hv hp2) hq2]
    refine wrS ho' d.length rfl (by rw [ints_length]; simp) fun _ w1 ho1 hc1 => ?_
    have e : (ints (d ++ v :: r)).set d.length ((v ^^^ p ^^^ q : Nat) : Int) = ints ((d ++ [v ^^^ p ^^^ q]) ++ r) := by
      rw [ints_app, ints_app, ints_app, List.set_append_right _ _ (by rw [ints_length]; omega), ints_length, Nat.sub_self]
      simp [ints]
    rw [e] at ho1
    rw [inc (by omega)]
    have := linear_l4 (W := W) (a := a) (n1 := n1) (c1 := c1) (c2 := c2) (c3 := c3) (K0 := K0) hb hc hbS hcS hbl hcl hm2 hm3 hmb b2 b3 r (d ++ [v ^^^ p ^^^ q]) w1 (by simp; omega) (fun x hx => hr x (by simp [hx])) ho1 (hchd.trans hc1) (fun w' h1 h2 => hk w' ?_ h2)
    · simpa using this
    · have e1 : (lb.take m).drop d.length = p :: (lb.take m).drop (d.length + 1) := by
        rw [List.drop_eq_getElem_cons (by rw [List.length_take]; omega)]
        simp [hp]
      have e2 : (lc.take m).drop d.length = q :: (lc.take m).drop (d.length + 1) := by
        rw [List.drop_eq_getElem_cons (by rw [List.length_take]; omega)]
        simp [hq]
      rw [e1, e2, xor3]
      simpa using h1
theorem help_CopyBytes_ok {x : Option Addr} {n c : Nat} {xs : List Int} {w : World} {K : Option Addr → Nat → Nat → World → Prop} (hx : SlI .u8 w x xs) (hn : xs.length = n) (hs : n ≤ 140737488355328)
    (hk : ∀ a' c' w', Own .u8 5 (fun b => b = w.heap.size) w' a' n c' xs → Chg no w w' → K a' n c' w') : help_CopyBytes.f x n c w K := cpS hx hn (by omega) (by omega) hk
theorem ints_take (l : List Nat) (n : Nat) : ints (l.take n) = (ints l).take n := List.map_take ..
theorem part0 {w : World} {a : Option Addr} {l : List Nat} {n c m : Nat} (hx : SlI .u8 w a (ints l)) (hl : l.length = n) (hm : m ≤ n) (hc : n ≤ c) : SlI .u8 w (adrS a 0 c 1) (ints (l.take m)) := by
  have := hx.part (l := 0) (h := m) (c := c) (by omega) (by rw [ints_length]; omega) (by omega)
  rw [ints_take]; simpa using this
theorem notnewS {w0 : World} {x : Option Addr} {xs : List Int} {k : IntKind} (hx : SlI k w0 x xs) : ∀ p, x = some p → xs ≠ [] → ¬ p.block = w0.heap.size := fun p hp hne => by
  obtain ⟨q, hq, hcq⟩ := hx 0 (List.length_pos_iff.2 hne)
  rw [hp] at hq; cases hq
  have := block_lt hcq
  rw [add_block] at this
  omega
theorem law03_CrcLinear_said {a : Option Addr} {n1 c1 : Nat} {b : Option Addr} {n2 c2 : Nat} {c : Option Addr} {n3 c3 : Nat} {W : World} {K : Bool → World → Prop} (f1 : Fits W (.slc (.int .u8) 1 1) [.slice a n1 c1]) (f2 : Fits W (.slc (.int .u8) 1 1) [.slice b n2 c2])
    (f3 : Fits W (.slc (.int .u8) 1 1) [.slice c n3 c3]) (hk : ∀ w', Below W.heap.size W w' → K true w') : law03_CrcLinear.f a n1 c1 b n2 c2 c n3 c3 W K := by
  obtain ⟨hn1, hs1, xs, hl1, hx, wf1⟩ := f1.ints
  obtain ⟨hn2, hs2, ys, hl2, hy, wf2⟩ := f2.ints
  obtain ⟨hn3, hs3, zs, hl3, hz, wf3⟩ := f3.ints
  obtain ⟨la, rfl, b1⟩ := (By.of wf1).nats
  obtain ⟨lb, rfl, b2⟩ := (By.of wf2).nats
  obtain ⟨lc, rfl, b3⟩ := (By.of wf3).nats
  rw [ints_length] at hl1 hl2 hl3
  unfold law03_CrcLinear.f
  obtain ⟨m, hm⟩ : ∃ m : Nat, mn (mn (n1 : Int) (n2 : Int)) (n3 : Int) = m := ⟨(mn (mn (n1 : Int) (n2 : Int)) (n3 : Int)).toNat, by unfold mn; (repeat' split) <;> omega⟩
  have hm1 : m ≤ n1 ∧ m ≤ n2 ∧ m ≤ n3 := by unfold mn at hm; (repeat' split at hm) <;> omega
  rw [hm]
  refine bnd_hi (by omega) (by omega) ?_
  rw [Int.toNat_natCast]
  have ta : (la.take m).length = m := by rw [List.length_take]; omega
  have tb : (lb.take m).length = m := by rw [List.length_take]; omega
  have tc : (lc.take m).length = m := by rw [List.length_take]; omega
  refine help_CopyBytes_ok (part0 hx hl1 hm1.1 hn1) (by rw [ints_length, List.length_take]; omega) (by omega) fun y cm w1 ho1 hc1 => ?_
  refine ⟨m + 1, ?_⟩
  have hmr : m + 1 = (la.take m).length + 1 := by omega
  rw [hmr]
  refine linear_l4 (W := W) (S := fun k => k = W.heap.size) (w0 := w1) (m := m) (lb := lb) (lc := lc) (hy.chg hc1 fun _ _ _ h => h) (hz.chg hc1 fun _ _ _ h => h) (notnewS hy) (notnewS hz) hl2 hl3 hm1.2.1 hm1.2.2 (by omega) b2 b3 (la.take m) [] w1 (by simp; omega) (fun x hx => b1 x (List.mem_of_mem_take hx)) ho1 (Chg.refl _ _) (fun w2 ho2 hc2 => ?_)
  simp only [List.nil_append, List.length_nil, List.drop_zero] at ho2
  have hc02 : Chg no W w2 := hc1.then hc2 fun k hk h => by omega
  refine law03_awake_ok fun w3 hc3 => bif_t rfl ?_
  have hc3' := (Chg.drew no w2).trans hc3
  have h03 := hc02.trans hc3'
  refine bnd_hi (by omega) (by omega) (bnd_hi (by omega) (by omega) (bnd_hi (by omega) (by omega) ?_))
  rw [Int.toNat_natCast]
  have hlt : ∀ x ∈ xor3 (la.take m) (lb.take m) (lc.take m), x < 256 := xor3_lt (fun x hx => b1 x (List.mem_of_mem_take hx)) (fun x hx => b2 x (List.mem_of_mem_take hx)) (fun x hx => b3 x (List.mem_of_mem_take hx))
  refine crc_Sum_ok (ho2.sl.chg hc3' fun _ _ _ h => h) (by rw [xor3_length _ _ _ (by omega) (by omega)]; omega) hlt (by omega) fun w4 hc4 => ?_
  have h04 := h03.trans hc4
  refine crc_Sum_ok (part0 (hx.chg h04 fun _ _ _ h => h) hl1 hm1.1 hn1) ta (fun x hx => b1 x (List.mem_of_mem_take hx)) (by omega) fun w5 hc5 => ?_
  have h05 := h04.trans hc5
  refine crc_Sum_ok (part0 (hy.chg h05 fun _ _ _ h => h) hl2 hm1.2.1 hn2) tb (fun x hx => b2 x (List.mem_of_mem_take hx)) (by omega) fun w6 hc6 => ?_
  have h06 := h05.trans hc6
  refine crc_Sum_ok (part0 (hz.chg h06 fun _ _ _ h => h) hl3 hm1.2.2 hn3) tc (fun x hx => b3 x (List.mem_of_mem_take hx)) (by omega) fun w7 hc7 => ?_
  have q1 := crc_lt (a := 0) (l := la.take m) (by omega) (fun x hx => b1 x (List.mem_of_mem_take hx))
  have q2 := crc_lt (a := 0) (l := lb.take m) (by omega) (fun x hx => b2 x (List.mem_of_mem_take hx))
  have q3 := crc_lt (a := 0) (l := lc.take m) (by omega) (fun x hx => b3 x (List.mem_of_mem_take hx))
  rw [bxor_u32 _ _ q1 q2, bxor_u32 _ _ (Nat.xor_lt_two_pow (n := 32) q1 q2) q3, crc_xor3 _ _ _ (by omega) (by omega)]
  show K (_ == _) w7
  rw [beq_self_eq_true]
  exact hk _ (below_no (Below.refl _ _) (h06.trans hc7) (Nat.le_refl _))
end Go.Proofs.Ytodicpmedallgaa.G
