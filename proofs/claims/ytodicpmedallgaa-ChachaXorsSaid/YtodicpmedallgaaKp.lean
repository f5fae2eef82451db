/- The stream cipher: bytes turned. Printed by kp.py. -/
import Derived.Test.YtodicpmedallgaaKo
set_option linter.unusedVariables false
set_option linter.unusedSimpArgs false
namespace Go.Proofs.Ytodicpmedallgaa.G
open Go Go.Proofs.Ytodicpmedallgaa.Vm Go.RowKit
section
variable (key : List Int) (ctr : Int) (nonce xs : List Int)
/-- A byte of the stream. -/
def kb (i : Nat) : Int := (blk key (IntKind.wrap .u32 (ctr + ((i / 64 : Nat) : Int))) nonce).getD (i % 64) 0
def xB (i : Nat) : Int := bxor .u8 (xs.getD i 0) (kb key ctr nonce i)
def xK (n : Nat) : List Int := (List.range xs.length).map fun i => if i < n then xB key ctr nonce xs i else xs.getD i 0
def xorL : List Int := (List.range xs.length).map fun i => xB key ctr nonce xs i
variable {key ctr nonce xs}
theorem xK_length (n : Nat) : (xK key ctr nonce xs n).length = xs.length := by simp [xK]
theorem xorL_length : (xorL key ctr nonce xs).length = xs.length := by simp [xorL]
theorem xK_get {n j : Nat} (h : j < xs.length) : (xK key ctr nonce xs n)[j]? = some (if j < n then xB key ctr nonce xs j else xs.getD j 0) := by
  unfold xK; rw [List.getElem?_map, List.getElem?_range h]; rfl
theorem xorL_get {j : Nat} (h : j < xs.length) : (xorL key ctr nonce xs)[j]? = some (xB key ctr nonce xs j) := by
  unfold xorL; rw [List.getElem?_map, List.getElem?_range h]; rfl
theorem xK_zero : xK key ctr nonce xs 0 = xs := by
  apply List.ext_getElem?
  intro j
  by_cases hj : j < xs.length
  · rw [xK_get hj, if_neg (by omega), getD_some hj]
  · rw [List.getElem?_eq_none (by rw [xK_length]; omega), List.getElem?_eq_none (by omega)]
theorem xK_all {n : Nat} (h : xs.length ≤ n) : xK key ctr nonce xs n = xorL key ctr nonce xs := by
  apply List.ext_getElem?
  intro j
  by_cases hj : j < xs.length
  · rw [xK_get hj, if_pos (by omega), xorL_get hj]
  · rw [List.getElem?_eq_none (by rw [xK_length]; omega), List.getElem?_eq_none (by rw [xorL_length]; omega)]
theorem xK_set {n : Nat} (hn : n < xs.length) : (xK key ctr nonce xs n).set n (xB key ctr nonce xs n) = xK key ctr nonce xs (n + 1) := by
  apply List.ext_getElem?
  intro j
  by_cases hj : j < xs.length
  · rw [xK_get hj]
    by_cases e : n = j
    · subst e
      rw [List.getElem?_set_self (by rw [xK_length]; exact hn), if_pos (by omega)]
    · rw [List.getElem?_set_ne e, xK_get hj]
      congr 1
      by_cases h1 : j < n
      · rw [if_pos h1, if_pos (by omega)]
      · rw [if_neg h1, if_neg (by omega)]
  · rw [List.getElem?_eq_none (by rw [List.length_set, xK_length]; omega), List.getElem?_eq_none (by rw [xK_length]; omega)]
theorem xor_snoc {i : Nat} (hi : i < xs.length) : (xorL key ctr nonce xs).take i ++ [xB key ctr nonce xs i] = (xorL key ctr nonce xs).take (i + 1) := by
  rw [List.take_add_one, xorL_get hi]; rfl
end
theorem old3 {k : IntKind} {w : World} {x : Option Addr} {xs : List Int} (hx : SlI k w x xs) : ∀ p, x = some p → xs ≠ [] → p.block < w.heap.size := fun p hp hne => by
  obtain ⟨q, hq, hc⟩ := hx 0 (List.length_pos_iff.2 hne)
  have : q = p := by rw [hp] at hq; exact (Option.some.inj hq).symm
  subst this
  have := block_lt hc
  rw [add_block] at this
  exact this
theorem chacha_Xor_l7 {U : TypeId} {w0 : World} {b4 b5 bo b11 : Nat} {y9 : Option Addr} {n c m cnt : Nat} {y2 ctr : Int} {key nonce xs : List Int} {K : Int → Addr → Addr → Option Addr → Nat → Nat → Int → World → Prop}
    (hxl : xs.length = n) (hn : n ≤ 10000) (hm : 64 * m + cnt ≤ n) (hcnt : cnt ≤ 64) (hne : bo ≠ b11) (h11 : BlI .u8 U w0 b11 (blk key (IntKind.wrap .u32 (ctr + (m : Int))) nonce))
    (hk : ∀ w, Own .u8 5 (fun j => j = bo) w y9 n c (xK key ctr nonce xs (64 * m + cnt)) → Chg (fun j => j = bo) w0 w → K y2 ⟨b4, 0, none⟩ ⟨b5, 0, none⟩ y9 n c ((64 * m : Nat) : Int) w) (N : Nat) : ∀ (i : Nat) (w : World), i ≤ cnt → cnt - i < N → Own .u8 5 (fun j => j = bo) w y9 n c (xK key ctr nonce xs (64 * m + i)) → Chg (fun j => j = bo) w0 w →
    chacha_Xor.l7 N y2 ⟨b4, 0, none⟩ ⟨b5, 0, none⟩ y9 n c ((64 * m : Nat) : Int) ⟨b11, 0, none⟩ (cnt : Int) (i : Int) w K := by
  induction N with
  | zero => intro i w h1 h2; omega
  | succ N ih =>
    intro i w h1 h2 ho hc
    rw [chacha_Xor.l7]
    refine cond_of (fun hh => ?_) (fun hh => ?_)
    · have hi : i < cnt := by have := of_decide_eq_true hh; omega
      have hod : Own .u8 5 (fun j => j = bo) w.drew y9 n c (xK key ctr nonce xs (64 * m + i)) := ho.chg (Chg.drew no w) fun _ _ h => h
      have e : IntKind.wrap .i64 (((64 * m : Nat) : Int) + (i : Int)) = ((64 * m + i : Nat) : Int) := by rw [w64 (by omega) (by omega)]; omega
      have hcd := hc.trans (Chg.drew _ w)
      refine rdV hod.sl (64 * m + i) e (by rw [xK_length, hxl]) (by rw [xK_get (by omega), if_neg (by omega)]) fun _ _ => ?_
      refine rdA (h11.chg hcd fun h => hne h.symm) i rfl (getD_some (by rw [blk_length]; omega)) (by omega) ?_
      have ev : bxor .u8 (xs.getD (64 * m + i) 0) ((blk key (IntKind.wrap .u32 (ctr + (m : Int))) nonce).getD i 0) = xB key ctr nonce xs (64 * m + i) := by
        unfold xB kb; rw [show (64 * m + i) / 64 = m by omega, show (64 * m + i) % 64 = i by omega]
      rw [ev]
      refine wrS hod (64 * m + i) e (by rw [xK_length]; omega) fun _ w1 ho1 hc1 => ?_
      rw [xK_set (by omega)] at ho1
      rw [inc (by omega)]
      exact ih (i + 1) w1 (by omega) (by omega) ho1 (hcd.trans hc1)
    · have : i = cnt := by have := of_decide_eq_false hh; omega
      subst this; exact hk w ho hc
theorem chacha_Xor_l3 {U4 U5 : TypeId} {w0 : World} {b4 b5 bo : Nat} {y9 : Option Addr} {n c : Nat} {ctr : Int} {key nonce xs : List Int} {K : Option Addr → Nat → Nat → World → Prop}
    (hkl : key.length = 32) (hnl : nonce.length = 12) (hxl : xs.length = n) (hn : n ≤ 10000) (hbo : bo < w0.heap.size) (hn4 : b4 ≠ bo) (hn5 : b5 ≠ bo) (h4 : BlI .u8 U4 w0 b4 key) (h5 : BlI .u8 U5 w0 b5 nonce)
    (hk : ∀ w, Own .u8 5 (fun j => j = bo) w y9 n c (xorL key ctr nonce xs) → Chg (fun j => j = bo) w0 w → K y9 n c w) (N : Nat) : ∀ (m : Nat) (w : World), 64 * m ≤ n + 63 → n + 64 < 64 * N + 64 * m → Own .u8 5 (fun j => j = bo) w y9 n c (xK key ctr nonce xs (64 * m)) → Chg (fun j => j = bo) w0 w →
    chacha_Xor.l3 N (IntKind.wrap .u32 (ctr + (m : Int))) ⟨b4, 0, none⟩ ⟨b5, 0, none⟩ y9 n c ((64 * m : Nat) : Int) w K := by
  induction N with
  | zero => intro m w h1 h2; omega
  | succ N ih =>
    intro m w h1 h2 ho hc
    rw [chacha_Xor.l3]
    refine cond_of (fun hh => ?_) (fun hh => ?_)
    · have hm : 64 * m < n := by have := of_decide_eq_true hh; omega
      have z0 := hc.size
      have cap := ho.cap
      refine ldA_b (h4.chg hc hn4) hkl (ld12 (h5.chg hc hn5) hnl (chacha_Block_ok hkl hnl fun w1 c1 => newC_x fun w2 hb2 c2 s2 => if_of (by simp [blk_length]) (stCs_x (ys := blk key (IntKind.wrap .u32 (ctr + (m : Int))) nonce) hb2 (by rw [blk_length, List.length_replicate]) fun w3 hb3 c3 => ?_)))
      have z1 := c1.size
      have e64 : IntKind.wrap .i64 (((64 * m : Nat) : Int) + 64) = ((64 * (m + 1) : Nat) : Int) := by rw [w64 (by omega) (by omega)]; omega
      rw [e64]
      obtain ⟨cnt, hq, hcnt, hle, hor⟩ : ∃ cnt : Nat, mn ((64 * (m + 1) : Nat) : Int) (n : Int) = ((64 * m + cnt : Nat) : Int) ∧ cnt ≤ 64 ∧ 64 * m + cnt ≤ n ∧ (cnt = 64 ∨ 64 * m + cnt = n) := by
        have hb := mn_bd ((64 * (m + 1) : Nat) : Int) (n : Int)
        rcases hb.2.2 with h | h
        · exact ⟨64, by rw [h]; omega, by omega, by omega, .inl rfl⟩
        · exact ⟨n - 64 * m, by rw [h]; omega, by omega, by omega, .inr (by omega)⟩
      rw [hq]
      refine bnd_lohi (by omega) (by omega) (by omega) ?_
      rw [Int.toNat_natCast, Int.toNat_natCast, Nat.add_sub_cancel_left]
      have ho3 : Own .u8 5 (fun j => j = bo) w3 y9 n c (xK key ctr nonce xs (64 * m + 0)) := ((ho.chg c1 fun _ _ h => h).chg c2 fun _ _ h => h).chg c3 fun b hb h => by omega
      have k3 : Chg (fun j => j = bo) w0 w3 := ((hc.trans (c1.mono fun _ h => h.elim)).trans (c2.mono fun _ h => h.elim)).then c3 fun k hk h => by omega
      refine ⟨cnt + 1, chacha_Xor_l7 (w0 := w3) hxl hn hle hcnt (by omega) hb3 (fun w4 ho4 c4 => ?_) (cnt + 1) 0 w3 (by omega) (by omega) ho3 (Chg.refl _ _)⟩
      dsimp only
      rw [e64, show IntKind.wrap .u32 (IntKind.wrap .u32 (ctr + (m : Int)) + 1) = IntKind.wrap .u32 (ctr + ((m + 1 : Nat) : Int)) by rw [wu32_eq, wu32_eq, wu32_eq]; omega]
      refine ih (m + 1) w4 (by omega) (by omega) ?_ (k3.trans c4)
      rcases hor with h | h
      · rw [h] at ho4; exact ho4
      · rw [xK_all (by omega)] at ho4
        rw [xK_all (by omega)]; exact ho4
    · have : n ≤ 64 * m := by have := of_decide_eq_false hh; omega
      rw [xK_all (by omega)] at ho
      exact hk w ho hc
theorem chacha_Xor_ok {x : Option Addr} {n c : Nat} {ctr : Int} {key nonce xs : List Int} {w : World} {K : Option Addr → Nat → Nat → World → Prop} (hkl : key.length = 32) (hnl : nonce.length = 12) (h0 : 0 ≤ ctr) (h1 : ctr ≤ 4294967295) (hx : SlI .u8 w x xs) (hxl : xs.length = n) (hn : n ≤ 10000)
    (hk : ∀ a' c' w', Own .u8 5 (fun b => w.heap.size ≤ b) w' a' n c' (xorL key ctr nonce xs) → Chg no w w' → K a' n c' w') : chacha_Xor.f (key.map (Value.int .u8)).toArray (nonce.getD 0 0) (nonce.getD 1 0) (nonce.getD 2 0) (nonce.getD 3 0) (nonce.getD 4 0) (nonce.getD 5 0) (nonce.getD 6 0) (nonce.getD 7 0) (nonce.getD 8 0) (nonce.getD 9 0) (nonce.getD 10 0) (nonce.getD 11 0) ctr x n c w K := by
  unfold chacha_Xor.f
  refine newC_i (xs := key) (k := .u8) rfl fun w1 hb3 c1 s1 => newC_i (lits12 hnl .u8) fun w2 hb5 c2 s2 => ?_
  refine cpS ((hx.chg c1 fun _ _ _ h => h).chg c2 fun _ _ _ h => h) hxl (by omega) (by omega) fun y cy w3 ho3 c3 => ?_
  have z3 := c3.size
  have k3 := (c1.trans c2).trans c3
  have e0 : IntKind.wrap .u32 (ctr + ((0 : Nat) : Int)) = ctr := by rw [show ctr + ((0 : Nat) : Int) = ctr by omega, wu32 h0 h1]
  have fin : ∀ w', Own .u8 5 (fun j => j = w2.heap.size) w' y n cy (xorL key ctr nonce xs) → Chg (fun j => j = w2.heap.size) w3 w' → K y n cy w' := fun w' ho hc =>
    hk y cy w' (ho.mono fun b hb _ => by omega) (k3.then hc fun k hk h => by omega)
  rcases Nat.eq_zero_or_pos n with hz | hz
  · subst hz
    have hxs : xs = [] := List.length_eq_zero_iff.1 hxl
    subst hxs
    refine ⟨1, ?_⟩
    rw [chacha_Xor.l3]
    exact bif_f rfl (fin w3 ho3 (Chg.refl _ _))
  · have hlt : w2.heap.size < w3.heap.size := by
      rcases ho3 with ⟨_, h, _⟩ | ⟨b, _, _, hb, hbl, _⟩
      · omega
      · have := hbl.lt; omega
    refine ⟨n + 3, ?_⟩
    have := chacha_Xor_l3 (w0 := w3) (ctr := ctr) hkl hnl hxl hn hlt (by omega) (by omega) ((hb3.chg c2 id).chg c3 id) (hb5.chg c3 id) (K := fun a b d w => K a b d w) (fun w' ho hc => fin w' ho hc) (n + 3) 0 w3 (by omega) (by omega) (by rw [Nat.mul_zero, xK_zero]; exact ho3) (Chg.refl _ _)
    rw [e0] at this
    exact this
theorem ref26_Xor_l4 {U4 U5 U10 : TypeId} {w0 : World} {b4 b5 b10 lo : Nat} {x : Option Addr} {n cx : Nat} {ctr : Int} {key nonce xs : List Int} {K0 : Option Addr → Nat → Nat → World → Prop}
    (hkl : key.length = 32) (hnl : nonce.length = 12) (hxl : xs.length = n) (hn : n ≤ 10000) (hx : SlI .u8 w0 x xs) (hxS : ∀ p, x = some p → xs ≠ [] → ¬ (p.block = b10 ∨ lo ≤ p.block)) (h4l : b4 < lo) (h5l : b5 < lo) (h10l : b10 < lo) (hn4 : b4 ≠ b10) (hn5 : b5 ≠ b10) (hlo : lo ≤ w0.heap.size) (h4 : BlI .u8 U4 w0 b4 key) (h5 : BlI .u8 U5 w0 b5 nonce)
    (hk : ∀ y cy w, Own .u8 5 (fun j => lo ≤ j) w y n cy (xorL key ctr nonce xs) → Chg (fun j => j = b10 ∨ lo ≤ j) w0 w → K0 y n cy w) (N : Nat) : ∀ (i : Nat) (y : Option Addr) (cy : Nat) (w : World) (B : List Int), i ≤ n → n - i < N → B.length = 64 → (i % 64 ≠ 0 → B = blk key (IntKind.wrap .u32 (ctr + ((i / 64 : Nat) : Int))) nonce) → BlI .u8 U10 w b10 B → Own .u8 5 (fun j => lo ≤ j) w y i cy ((xorL key ctr nonce xs).take i) → Chg (fun j => j = b10 ∨ lo ≤ j) w0 w →
    ref26_Xor.l4 N ctr x n cx ⟨b4, 0, none⟩ ⟨b5, 0, none⟩ y i cy ⟨b10, 0, none⟩ (i : Int) w K0 := by
  induction N with
  | zero => intro i y cy w B h1 h2; omega
  | succ N ih =>
    intro i y cy w B hi hN hBl hB hb ho hc
    rw [ref26_Xor.l4]
    refine cond_of (fun hh => ?_) (fun hh => ?_)
    · have hlt : i < n := by have := of_decide_eq_true hh; omega
      have em : Int.tmod (i : Int) 64 = ((i % 64 : Nat) : Int) := rfl
      intro J
      have hJ : ∀ w1, BlI .u8 U10 w1 b10 (blk key (IntKind.wrap .u32 (ctr + ((i / 64 : Nat) : Int))) nonce) → Own .u8 5 (fun j => lo ≤ j) w1 y i cy ((xorL key ctr nonce xs).take i) → Chg (fun j => j = b10 ∨ lo ≤ j) w0 w1 → J w1 := by
        intro w1 hb ho hc
        have hz := hc.size
        have hcd := hc.trans (Chg.drew _ w1)
        have hx1 : SlI .u8 w1.drew x xs := hx.chg hcd hxS
        have hbd : BlI .u8 U10 w1.drew b10 (blk key (IntKind.wrap .u32 (ctr + ((i / 64 : Nat) : Int))) nonce) := hb
        have hod : Own .u8 5 (fun j => lo ≤ j) w1.drew y i cy ((xorL key ctr nonce xs).take i) := ho.chg (Chg.drew no w1) fun _ _ h => h
        have hv := getD_some (xs := xs) (i := i) (by omega)
        obtain ⟨p, rfl⟩ := hx1.some (by omega)
        have hp : ∀ w' (hw : Chg (fun j => j = b10 ∨ lo ≤ j) w0 w'), w'.cell? (p.add i) = some (.int .u8 (xs.getD i 0)) := fun w' hw => by
          obtain ⟨q, hq, hcell⟩ := (hx.chg hw hxS) i (by omega)
          cases hq
          rw [hcell]
          congr 2
          obtain ⟨_, e⟩ := List.getElem?_eq_some_iff.1 hv
          exact e
        have hg := getD_some (xs := blk key (IntKind.wrap .u32 (ctr + ((i / 64 : Nat) : Int))) nonce) (i := i % 64) (by rw [blk_length]; omega)
        have hq : ∀ w', BlI .u8 U10 w' b10 (blk key (IntKind.wrap .u32 (ctr + ((i / 64 : Nat) : Int))) nonce) → w'.cell? ((⟨b10, 0, none⟩ : Addr).add (Int.toNat ((i % 64 : Nat) : Int))) = some (.int .u8 ((blk key (IntKind.wrap .u32 (ctr + ((i / 64 : Nat) : Int))) nonce).getD (i % 64) 0)) := fun w' h => by
          rw [Int.toNat_natCast, add_mk, Nat.zero_add]
          exact Bl.cell h (by rw [List.getElem?_map, hg]; rfl)
        show sm _ _
        rw [em]
        refine rdV hx1 i rfl hxl hv fun q hqq => ?_
        cases hqq
        refine rdA hbd (i % 64) rfl hg (by omega) ?_
        refine newC_sl (k := .u8) (xs := [xB key ctr nonce xs i]) rfl fun p2 w2 hs2 c2 z2 hpb => ?_
        have k2 := hcd.trans (c2.mono fun _ h => h.elim)
        have hb2 := hbd.chg c2 id
        rw [Int.toNat_natCast] at *
        refine ⟨hq w2 hb2, hp w2 k2, ?_⟩
        have zd : w1.drew.heap.size = w1.heap.size := rfl
        refine apS (hod.chg c2 fun _ _ h => h) hs2 rfl (by omega) (by omega) (by omega) fun a' c' w3 ho3 c3 => ?_
        have k3 := k2.trans (c3.mono fun _ h => .inr h)
        have hb3 := hb2.chg c3 (by omega)
        refine ⟨hq w3 hb3, hp w3 k3, ?_⟩
        dsimp only
        rw [inc (by omega)]
        rw [xor_snoc (by omega)] at ho3
        refine ih (i + 1) a' c' w3 _ (by omega) (by omega) (blk_length _ _ _) (fun h => ?_) hb3 ho3 k3
        rw [show (i + 1) / 64 = i / 64 by omega]
      clear_value J
      rw [em]
      refine cond_of (fun h => ?_) (fun h => ?_)
      · have hne4 : ¬ (b4 = b10 ∨ lo ≤ b4) := by omega
        have hne5 : ¬ (b5 = b10 ∨ lo ≤ b5) := by omega
        have z0 := hc.size
        have ec : IntKind.wrap .u32 (ctr + IntKind.wrap .u32 (IntKind.wrap .i64 (Int.tdiv (i : Int) 64))) = IntKind.wrap .u32 (ctr + ((i / 64 : Nat) : Int)) := by
          rw [show Int.tdiv (i : Int) 64 = ((i / 64 : Nat) : Int) from rfl, w64n (by omega), wu32n (by omega)]
        rw [ec]
        refine ldA_b (h4.chg hc hne4) hkl (ld12 (h5.chg hc hne5) hnl (ref26_Block_ok hkl hnl fun w1 c1 => if_of (by simp [blk_length]) (stCs_x (ys := blk key (IntKind.wrap .u32 (ctr + ((i / 64 : Nat) : Int))) nonce) (hb.chg c1 id) (by rw [blk_length, hBl]) fun w2 hb2 c2 => hJ w2 hb2 ?_ ?_)))
        · exact (ho.chg c1 fun _ _ h => h).chg c2 fun j hj h => by omega
        · exact (hc.trans (c1.mono fun _ h => h.elim)).trans (c2.mono fun j h => .inl h)
      · have h64 : i % 64 ≠ 0 := by
          intro e
          rw [e] at h
          exact absurd h (by decide)
        rw [hB h64] at hb
        exact hJ w hb ho hc
    · have : i = n := by have := of_decide_eq_false hh; omega
      subst this
      rw [List.take_of_length_le (by rw [xorL_length]; omega)] at ho
      exact hk y cy w ho hc
theorem ref26_Xor_ok {x : Option Addr} {n c : Nat} {ctr : Int} {key nonce xs : List Int} {w : World} {K : Option Addr → Nat → Nat → World → Prop} (hkl : key.length = 32) (hnl : nonce.length = 12) (hx : SlI .u8 w x xs) (hxl : xs.length = n) (hn : n ≤ 10000)
    (hk : ∀ a' c' w', Own .u8 5 (fun b => w.heap.size ≤ b) w' a' n c' (xorL key ctr nonce xs) → Chg no w w' → K a' n c' w') : ref26_Xor.f (key.map (Value.int .u8)).toArray (nonce.getD 0 0) (nonce.getD 1 0) (nonce.getD 2 0) (nonce.getD 3 0) (nonce.getD 4 0) (nonce.getD 5 0) (nonce.getD 6 0) (nonce.getD 7 0) (nonce.getD 8 0) (nonce.getD 9 0) (nonce.getD 10 0) (nonce.getD 11 0) ctr x n c w K := by
  unfold ref26_Xor.f
  refine newC_i (xs := key) (k := .u8) rfl fun w1 hb3 c1 s1 => newC_i (lits12 hnl .u8) fun w2 hb5 c2 s2 => newC_x fun w3 hb10 c3 s3 => ?_
  have k3 := (c1.trans c2).trans c3
  refine ⟨n + 1, ref26_Xor_l4 (w0 := w3) (lo := w3.heap.size) hkl hnl hxl hn (hx.chg k3 fun _ _ _ h => h) ?_ (by omega) (by omega) (by omega) (by omega) (by omega) (Nat.le_refl _) ((hb3.chg c2 id).chg c3 id) (hb5.chg c3 id) (fun y cy w4 ho hc => hk y cy w4 (ho.mono fun b hb _ => by omega) (k3.then hc fun k hk h => by omega)) (n + 1) 0 none 0 w3 _ (by omega) (by omega) (List.length_replicate ..) (fun h => absurd rfl h) hb10 (Own.nil _ _ _ _) (Chg.refl _ _)⟩
  intro p hp hne
  have := old3 hx p hp hne
  omega
end Go.Proofs.Ytodicpmedallgaa.G
