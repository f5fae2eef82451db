/- What the checksum's functions and their reference come to: one shift register, bit by bit. -/
import Derived.Test.YtodicpmedallgaaXh
import Derived.Test.YtodicpmedallgaaVmQ
set_option linter.unusedVariables false
set_option linter.unusedSimpArgs false
namespace Go.Proofs.Ytodicpmedallgaa.G
open Go Go.Proofs.Ytodicpmedallgaa.Vm Go.RowKit
/-- One bit further. -/
def L1 (s : Nat) : Nat := (s >>> 1) ^^^ (if s % 2 = 1 then 3988292384 else 0)
def Ln : Nat → Nat → Nat
  | 0, s => s
  | n + 1, s => Ln n (L1 s)
theorem L1_lt {s : Nat} (h : s < 4294967296) : L1 s < 4294967296 := by
  unfold L1
  refine Nat.xor_lt_two_pow (n := 32) ?_ (by split <;> decide)
  rw [Nat.shiftRight_eq_div_pow]; omega
theorem Ln_lt : ∀ {n s : Nat}, s < 4294967296 → Ln n s < 4294967296
  | 0, _, h => h
  | n + 1, _, h => Ln_lt (n := n) (L1_lt h)
theorem L1_xor (s t : Nat) : L1 (s ^^^ t) = L1 s ^^^ L1 t := by
  unfold L1
  rw [Nat.shiftRight_xor_distrib]
  have h : (s ^^^ t) % 2 = (s % 2 ^^^ t % 2) := by
    have := @Nat.xor_mod_two_pow s t 1
    simpa using this
  rw [h]
  rcases Nat.mod_two_eq_zero_or_one s with hs | hs <;> rcases Nat.mod_two_eq_zero_or_one t with ht | ht
  · simp [hs, ht]
  · simp [hs, ht, Nat.xor_assoc]
  · simp only [hs, ht]; simp; ac_rfl
  · simp only [hs, ht]; simp
    rw [show s >>> 1 ^^^ 3988292384 ^^^ (t >>> 1 ^^^ 3988292384) = s >>> 1 ^^^ t >>> 1 ^^^ (3988292384 ^^^ 3988292384) by ac_rfl]
    simp
theorem Ln_xor : ∀ (n s t : Nat), Ln n (s ^^^ t) = Ln n s ^^^ Ln n t
  | 0, _, _ => rfl
  | n + 1, s, t => by simp only [Ln]; rw [L1_xor, Ln_xor n]
theorem Ln_high : ∀ (n s : Nat), Ln n (s * 2 ^ n) = s
  | 0, s => by simp [Ln]
  | n + 1, s => by
    have h : L1 (s * 2 ^ (n + 1)) = s * 2 ^ n := by
      unfold L1
      rw [Nat.pow_succ, ← Nat.mul_assoc, if_neg (by omega), Nat.shiftRight_eq_div_pow, Nat.xor_zero]
      omega
    simp only [Ln]; rw [h, Ln_high n]
theorem split8 (s : Nat) : s = (s >>> 8 * 2 ^ 8) ^^^ (s % 256) := by
  apply Nat.eq_of_testBit_eq
  intro i
  rw [Nat.testBit_xor, Nat.testBit_mul_two_pow, Nat.testBit_shiftRight, show (256 : Nat) = 2 ^ 8 from rfl, Nat.testBit_mod_two_pow]
  by_cases h : 8 ≤ i
  · rw [show 8 + (i - 8) = i by omega]
    simp [h, Nat.not_lt.2 h]
  · simp [h, Nat.lt_of_not_le h]
/-- One byte further. -/
def stepB (s x : Nat) : Nat := Ln 8 (s ^^^ x)
theorem stepB_lt {s x : Nat} (h : s < 4294967296) (hx : x < 256) : stepB s x < 4294967296 := Ln_lt (Nat.xor_lt_two_pow (n := 32) h (by omega))
theorem stepB_table {s x : Nat} (hx : x < 256) : (s >>> 8) ^^^ Ln 8 ((s % 256) ^^^ x) = stepB s x := by
  unfold stepB
  have h1 : (s ^^^ x) >>> 8 = s >>> 8 := by
    rw [Nat.shiftRight_xor_distrib, show x >>> 8 = 0 by rw [Nat.shiftRight_eq_div_pow]; omega, Nat.xor_zero]
  have h2 : (s ^^^ x) % 256 = (s % 256) ^^^ x := by
    rw [show (256 : Nat) = 2 ^ 8 from rfl, Nat.xor_mod_two_pow, Nat.mod_eq_of_lt (a := x) (by omega)]
  conv => rhs; rw [split8 (s ^^^ x), Ln_xor, Ln_high, h1, h2]
/-- Many bytes further. -/
def run (s : Nat) (l : List Nat) : Nat := l.foldl stepB s
theorem run_lt : ∀ {l : List Nat} {s : Nat}, s < 4294967296 → (∀ x ∈ l, x < 256) → run s l < 4294967296
  | [], _, h, _ => h
  | x :: l, s, h, hl => run_lt (l := l) (stepB_lt h (hl x (by simp))) fun y hy => hl y (by simp [hy])
theorem run_app (s : Nat) (l m : List Nat) : run s (l ++ m) = run (run s l) m := List.foldl_append ..
/-- The checksum carried on. -/
def crc (a : Nat) (l : List Nat) : Nat := run (a ^^^ 4294967295) l ^^^ 4294967295
theorem crc_lt {l : List Nat} {a : Nat} (h : a < 4294967296) (hl : ∀ x ∈ l, x < 256) : crc a l < 4294967296 :=
  Nat.xor_lt_two_pow (n := 32) (run_lt (Nat.xor_lt_two_pow (n := 32) h (by omega)) hl) (by omega)
theorem inv_inv (a : Nat) : a ^^^ 4294967295 ^^^ 4294967295 = a := by rw [Nat.xor_assoc, Nat.xor_self, Nat.xor_zero]
theorem crc_app (a : Nat) (l m : List Nat) : crc a (l ++ m) = crc (crc a l) m := by unfold crc; rw [run_app, inv_inv]
theorem crc_nil (a : Nat) : crc a [] = a := inv_inv a
/-- The table. -/
def tab8 (i : Nat) : List Int := ints ((List.range i).map (Ln 8)) ++ List.replicate (256 - i) 0
theorem tab8_zero : tab8 0 = List.replicate 256 0 := rfl
theorem tab8_length (i : Nat) (h : i ≤ 256) : (tab8 i).length = 256 := by unfold tab8; rw [List.length_append, ints_length]; simp; omega
theorem tab8_set (i : Nat) (h : i < 256) : (tab8 i).set i (Ln 8 i : Nat) = tab8 (i + 1) := by
  unfold tab8
  rw [List.set_append_right _ _ (by rw [ints_length]; simp), ints_length, List.length_map, List.length_range, Nat.sub_self, List.range_succ, List.map_append, ints_app,
    show 256 - i = (256 - (i + 1)) + 1 by omega, List.replicate_succ]
  simp [ints]
theorem tab8_get {i : Nat} (h : i < 256) : (tab8 256)[i]? = some ((Ln 8 i : Nat) : Int) := by
  unfold tab8
  rw [List.getElem?_append_left (by rw [ints_length]; simpa using h), ints_get]
  simp [h]
theorem tbl_bit (s : Nat) (h : s < 4294967296) : ((band .u32 (s : Int) 1) != 0) = decide (s % 2 = 1) := by
  rw [show (1 : Int) = ((1 : Nat) : Int) from rfl, band_u32 s 1 h (by omega), Nat.and_one_is_mod]
  rcases Nat.mod_two_eq_zero_or_one s with hs | hs <;> simp [hs]
theorem tbl_bit1 (s : Nat) (h : s < 4294967296) : ((band .u32 (s : Int) 1) == 1) = decide (s % 2 = 1) := by
  rw [show (1 : Int) = ((1 : Nat) : Int) from rfl, band_u32 s 1 h (by omega), Nat.and_one_is_mod]
  rcases Nat.mod_two_eq_zero_or_one s with hs | hs <;> simp [hs]
theorem shr1 (s : Nat) : shr .u32 (s : Int) 1 = ((s >>> 1 : Nat) : Int) := shr_nat .u32 s 1
theorem shr1_lt {s : Nat} (h : s < 4294967296) : s >>> 1 < 4294967296 := by rw [Nat.shiftRight_eq_div_pow]; omega
theorem bxorP {s : Nat} (h : s < 4294967296) : bxor .u32 (s : Int) 3988292384 = ((s ^^^ 3988292384 : Nat) : Int) := bxor_u32 s 3988292384 h (by omega)
theorem crc_Table_l7 {p q : Addr} {c i : Int} {w : World} {K : Addr → Addr → Int → Int → Int → World → Prop} : ∀ (r s j : Nat), j + r = 8 → s < 4294967296 → K p q c ((Ln r s : Nat) : Int) i w → crc_Table.l7 (r + 1) p q c s i j w K
  | 0, s, j, hj, hs, hk => by
    rw [crc_Table.l7]
    exact bif_f (dec_f (by omega)) hk
  | r + 1, s, j, hj, hs, hk => by
    rw [crc_Table.l7]
    refine bif_t (dec_t (by omega)) ?_
    rw [tbl_bit s hs, shr1, bxorP (shr1_lt hs), inc (by omega)]
    refine cond_of (fun h => ?_) (fun h => ?_)
    · have h1 : s % 2 = 1 := of_decide_eq_true h
      refine crc_Table_l7 r _ (j + 1) (by omega) (Nat.xor_lt_two_pow (n := 32) (shr1_lt hs) (by omega)) ?_
      have : L1 s = s >>> 1 ^^^ 3988292384 := by unfold L1; rw [if_pos h1]
      rw [← this]; exact hk
    · have h1 : ¬ s % 2 = 1 := of_decide_eq_false h
      refine crc_Table_l7 r _ (j + 1) (by omega) (shr1_lt hs) ?_
      have : L1 s = s >>> 1 := by unfold L1; rw [if_neg h1, Nat.xor_zero]
      rw [← this]; exact hk
set_option maxRecDepth 20000 in
theorem crc_Table_l3 {b0 b1 : Nat} {w0 : World} {K : Addr → Addr → World → Prop} (hk : ∀ w, BlI .u32 37 w b1 (tab8 256) → Chg (fun k => k = b1) w0 w → K ⟨b0, 0, none⟩ ⟨b1, 0, none⟩ w) (N : Nat) :
    ∀ (i : Nat) (w : World), i ≤ 256 → 256 - i < N → BlI .u32 37 w b1 (tab8 i) → Chg (fun k => k = b1) w0 w → crc_Table.l3 N ⟨b0, 0, none⟩ ⟨b1, 0, none⟩ i w K := by
  induction N with
  | zero => intro i w h1 h2; omega
  | succ N ih =>
    intro i w hi hN hb hc
    rw [crc_Table.l3]
    by_cases him : i < 256
    · refine bif_t (dec_t (by omega)) ⟨9, ?_⟩
      rw [wu32 (a := (i : Int)) (by omega) (by omega)]
      refine crc_Table_l7 8 i 0 rfl (by omega) ?_
      refine wrA hb i rfl (by rw [tab8_length i hi]; exact him) him fun w1 hb1 hc1 => ?_
      rw [tab8_set i him] at hb1
      rw [inc (by omega)]
      exact ih (i + 1) w1 (by omega) (by omega) hb1 (hc.trans hc1)
    · have : i = 256 := by omega
      subst this
      exact bif_f (dec_f (by omega)) (hk w hb hc)
theorem tab8_size : ((tab8 256).map (Value.int .u32)).toArray.size = 256 := by
  rw [List.size_toArray, List.length_map]; exact tab8_length 256 (Nat.le_refl _)
set_option maxRecDepth 20000 in
theorem crc_Table_ok {w : World} {K : Array Value → World → Prop} (hk : ∀ w', Chg no w w' → K ((tab8 256).map (Value.int .u32)).toArray w') : crc_Table.f w K := by
  unfold crc_Table.f
  refine newC_x fun w1 hb1 hc1 hs1 => newC_x fun w2 hb2 hc2 hs2 => ⟨257, ?_⟩
  refine crc_Table_l3 (w0 := w2) (fun w3 hb3 hc3 => ?_) 257 0 w2 (by omega) (by omega) hb2 (Chg.refl _ _)
  refine ldA_b hb3 (tab8_length 256 (Nat.le_refl _)) (if_of tab8_size ?_)
  have hb13 := (hb1.chg hc2 fun h => h).chg hc3 fun h => by omega
  refine stCs_x hb13 (by rw [tab8_length 256 (Nat.le_refl _)]; rfl) fun w4 hb4 hc4 => ldA_b hb4 (tab8_length 256 (Nat.le_refl _)) (hk w4 ?_)
  exact ((hc1.trans hc2).then hc3 fun k hk h => by omega).then hc4 fun k hk h => by omega
theorem u8_of (s : Nat) : IntKind.wrap .u8 (s : Int) = ((s % 256 : Nat) : Int) := by rw [wu8_eq]; omega
theorem idx8 {s x : Nat} (hx : x < 256) : bxor .u8 (IntKind.wrap .u8 (s : Int)) (x : Int) = ((s % 256 ^^^ x : Nat) : Int) := by
  rw [u8_of, bxor_u8 _ _ (by omega) hx]
theorem idx8_lt {s x : Nat} (hx : x < 256) : s % 256 ^^^ x < 256 := Nat.xor_lt_two_pow (n := 8) (by omega) hx
set_option maxRecDepth 20000 in
theorem crc_Add_l4 {w : World} {bt : Nat} {x : Option Addr} {n c : Nat} {l : List Nat} {K : Int → World → Prop} (ht : BlI .u32 37 w bt (tab8 256)) (hx : SlI .u8 w x (ints l)) (hl : l.length = n) (hb : ∀ x ∈ l, x < 256) (hn : n < 9223372036854775807) :
    ∀ (r e : List Nat) (s : Nat), l = e ++ r → s < 4294967296 → K ((run s r : Nat) : Int) w → crc_Add.l4 (r.length + 1) ⟨bt, 0, none⟩ s x n c n e.length w K
  | [], e, s, he, hs, hk => by
    rw [crc_Add.l4]
    have : e.length = n := by rw [← hl, he]; simp
    exact bif_f (dec_f (by omega)) hk
  | v :: r, e, s, he, hs, hk => by
    have hv : v < 256 := hb v (by rw [he]; simp)
    have hlen : e.length < n := by rw [← hl, he]; simp
    rw [crc_Add.l4]
    refine bif_t (dec_t (by omega)) (rdV hx e.length rfl (by rw [ints_length]; exact hl) (v := (v : Int)) (by rw [he, ints_app]; simp [ints]) fun _ _ => ?_)
    rw [idx8 hv]
    refine rdA (n := 256) ht (s % 256 ^^^ v) rfl (tab8_get (idx8_lt hv)) (idx8_lt hv) ?_
    have e1 : bxor .u32 (shr .u32 (s : Int) 8) ((Ln 8 (s % 256 ^^^ v) : Nat) : Int) = ((stepB s v : Nat) : Int) := by
      rw [shr_nat, bxor_u32 _ _ (by rw [Nat.shiftRight_eq_div_pow]; omega) (Ln_lt (by have := @idx8_lt s v hv; omega)), stepB_table hv]
    rw [e1, inc (by omega)]
    have := crc_Add_l4 (c := c) ht hx hl hb hn r (e ++ [v]) (stepB s v) (by simpa using he) (stepB_lt hs hv) hk
    simpa using this
set_option maxRecDepth 20000 in
theorem crc_Add_ok {w : World} {a : Nat} {x : Option Addr} {n c : Nat} {l : List Nat} {K : Int → World → Prop} (hx : SlI .u8 w x (ints l)) (hl : l.length = n) (hb : ∀ x ∈ l, x < 256) (hn : n < 9223372036854775807) (ha : a < 4294967296)
    (hk : ∀ w', Chg no w w' → K ((crc a l : Nat) : Int) w') : crc_Add.f a x n c w K := by
  unfold crc_Add.f
  refine crc_Table_ok fun w1 hc1 => newC_x fun w2 hb2 hc2 hs2 => if_of tab8_size ?_
  refine stCs_x hb2 (by rw [tab8_length 256 (Nat.le_refl _)]; rfl) fun w3 hb3 hc3 => ⟨n + 1, ?_⟩
  have hc13 := (hc1.trans hc2).then hc3 fun k hk h => by have := hc1.size; omega
  rw [show (4294967295 : Int) = ((4294967295 : Nat) : Int) from rfl, bxor_u32 a 4294967295 ha (by omega)]
  have hs0 : a ^^^ 4294967295 < 4294967296 := Nat.xor_lt_two_pow (n := 32) ha (by omega)
  have := crc_Add_l4 (K := fun o6_18 w => let v4_20 := (bxor .u32 o6_18 ((4294967295 : Nat) : Int)); K v4_20 w) (c := c) hb3 (hx.chg hc13 fun _ _ _ h => h) hl hb hn l [] (a ^^^ 4294967295) rfl hs0 (by
    show K (bxor .u32 ((run (a ^^^ 4294967295) l : Nat) : Int) ((4294967295 : Nat) : Int)) w3
    rw [bxor_u32 _ _ (run_lt hs0 hb) (by omega)]
    exact hk w3 hc13)
  rw [hl] at this
  exact this
theorem crc_Sum_ok {w : World} {x : Option Addr} {n c : Nat} {l : List Nat} {K : Int → World → Prop} (hx : SlI .u8 w x (ints l)) (hl : l.length = n) (hb : ∀ x ∈ l, x < 256) (hn : n < 9223372036854775807)
    (hk : ∀ w', Chg no w w' → K ((crc 0 l : Nat) : Int) w') : crc_Sum.f x n c w K := crc_Add_ok (a := 0) hx hl hb hn (by omega) hk

/-! ### The reference -/
theorem Ln_succ' : ∀ (n s : Nat), Ln (n + 1) s = L1 (Ln n s)
  | 0, _ => rfl
  | n + 1, s => by rw [Ln, Ln_succ' n]; rfl
theorem ref03_Add_l6 {w : World} {x : Option Addr} {n c : Nat} {l : List Nat} {K : Option Addr → Nat → Nat → Int → Int → World → Prop} (hx : SlI .u8 w x (ints l)) (hl : l.length = n) {i : Nat} {v : Nat} (hv : l[i]? = some v) (hv2 : v < 256) :
    ∀ (r j s : Nat) (u : Nat), j + r = 8 → s < 4294967296 → s ^^^ (v >>> j) = u → K x n c ((Ln r u : Nat) : Int) i w → ref03_Add.l6 (r + 1) x n c s i j w K
  | 0, j, s, u, hj, hs, hu, hk => by
    rw [ref03_Add.l6]
    have : j = 8 := by omega
    subst this
    rw [show v >>> 8 = 0 by rw [Nat.shiftRight_eq_div_pow]; omega, Nat.xor_zero] at hu
    subst hu
    exact bif_f (dec_f (by omega)) hk
  | r + 1, j, s, u, hj, hs, hu, hk => by
    rw [ref03_Add.l6]
    refine bif_t (dec_t (by omega)) (rdV hx i rfl (by rw [ints_length]; exact hl) (v := (v : Int)) (by rw [ints_get, hv]; rfl) fun _ _ => ?_)
    have hju : IntKind.wrap .u64 (j : Int) = (j : Int) := wu64 (by omega) (by omega)
    rw [hju]
    refine ifn_of (by omega) ?_
    have hsl : v >>> j < 256 := Nat.lt_of_le_of_lt (by rw [Nat.shiftRight_eq_div_pow]; exact Nat.div_le_self _ _) hv2
    have hbit : ((band .u32 (bxor .u32 (s : Int) (IntKind.wrap .u32 (shr .u8 (v : Int) (min (Int.toNat (j : Int)) (IntKind.bits .u8))))) 1) == 1) = decide (u % 2 = 1) := by
      rw [show min (Int.toNat (j : Int)) (IntKind.bits .u8) = j by rw [show IntKind.bits .u8 = 8 from rfl]; omega, shr_nat, wu32n (Nat.lt_trans hsl (by omega)), bxor_u32 _ _ hs (Nat.lt_trans hsl (by omega)), hu]
      exact tbl_bit1 u (by rw [← hu]; exact Nat.xor_lt_two_pow (n := 32) hs (Nat.lt_trans hsl (by omega)))
    rw [hbit, shr1]
    have hnext : s >>> 1 ^^^ v >>> (j + 1) = u >>> 1 := by rw [← hu, Nat.shiftRight_xor_distrib, Nat.shiftRight_add]
    refine cond_of (fun h => ?_) (fun h => ?_)
    · have h1 : u % 2 = 1 := of_decide_eq_true h
      rw [bxorP (shr1_lt hs), inc (by omega)]
      refine ref03_Add_l6 hx hl hv hv2 r (j + 1) _ (L1 u) (by omega) (Nat.xor_lt_two_pow (n := 32) (shr1_lt hs) (by omega)) ?_ hk
      unfold L1; rw [if_pos h1, ← hnext]; ac_rfl
    · have h1 : ¬ u % 2 = 1 := of_decide_eq_false h
      rw [inc (by omega)]
      refine ref03_Add_l6 hx hl hv hv2 r (j + 1) _ (L1 u) (by omega) (shr1_lt hs) ?_ hk
      unfold L1; rw [if_neg h1, ← hnext, Nat.xor_zero]
theorem ref03_Add_l3 {w : World} {x : Option Addr} {n c : Nat} {l : List Nat} {K : Int → World → Prop} (hx : SlI .u8 w x (ints l)) (hl : l.length = n) (hb : ∀ x ∈ l, x < 256) (hn : n < 9223372036854775807) :
    ∀ (r e : List Nat) (s : Nat), l = e ++ r → s < 4294967296 → K ((run s r : Nat) : Int) w → ref03_Add.l3 (r.length + 1) x n c s e.length w K
  | [], e, s, he, hs, hk => by
    rw [ref03_Add.l3]
    have : e.length = n := by rw [← hl, he]; simp
    exact bif_f (dec_f (by omega)) hk
  | v :: r, e, s, he, hs, hk => by
    have hv : v < 256 := hb v (by rw [he]; simp)
    have hlen : e.length < n := by rw [← hl, he]; simp
    rw [ref03_Add.l3]
    refine bif_t (dec_t (by omega)) ⟨9, ?_⟩
    refine ref03_Add_l6 (v := v) hx hl (by rw [he]; simp) hv 8 0 s (s ^^^ v) rfl hs rfl ?_
    show ref03_Add.l3 (r.length + 1) x n c ((stepB s v : Nat) : Int) (IntKind.wrap .i64 ((e.length : Int) + 1)) w K
    rw [inc (by omega)]
    have := ref03_Add_l3 (c := c) hx hl hb hn r (e ++ [v]) (stepB s v) (by simpa using he) (stepB_lt hs hv) hk
    simpa using this
theorem ref03_Add_ok {w : World} {a : Nat} {x : Option Addr} {n c : Nat} {l : List Nat} {K : Int → World → Prop} (hx : SlI .u8 w x (ints l)) (hl : l.length = n) (hb : ∀ x ∈ l, x < 256) (hn : n < 9223372036854775807) (ha : a < 4294967296)
    (hk : K ((crc a l : Nat) : Int) w) : ref03_Add.f a x n c w K := by
  unfold ref03_Add.f
  refine ⟨n + 1, ?_⟩
  rw [show (4294967295 : Int) = ((4294967295 : Nat) : Int) from rfl, bxor_u32 4294967295 a (by omega) ha]
  have hs0 : 4294967295 ^^^ a < 4294967296 := Nat.xor_lt_two_pow (n := 32) (by omega) ha
  have := ref03_Add_l3 (K := fun o5_29 w => let v4_31 := (bxor .u32 ((4294967295 : Nat) : Int) o5_29); K v4_31 w) (c := c) hx hl hb hn l [] (4294967295 ^^^ a) rfl hs0 (by
    show K (bxor .u32 ((4294967295 : Nat) : Int) ((run (4294967295 ^^^ a) l : Nat) : Int)) w
    rw [bxor_u32 _ _ (by omega) (run_lt hs0 hb), Nat.xor_comm 4294967295 (run _ _), Nat.xor_comm 4294967295 a]
    exact hk)
  rw [hl] at this
  exact this
theorem ref03_Sum_ok {w : World} {x : Option Addr} {n c : Nat} {l : List Nat} {K : Int → World → Prop} (hx : SlI .u8 w x (ints l)) (hl : l.length = n) (hb : ∀ x ∈ l, x < 256) (hn : n < 9223372036854775807)
    (hk : K ((crc 0 l : Nat) : Int) w) : ref03_Sum.f x n c w K := ref03_Add_ok (a := 0) hx hl hb hn (by omega) hk
theorem law03_awake_ok {w : World} {K : Bool → World → Prop} (hk : ∀ w', Chg no w w' → K true w') : law03_awake.f w K := by
  unfold law03_awake.f
  refine newC_b fun w1 hb1 hc1 hs1 => mkStr_of hb1 fun w2 y hy hc2 => ?_
  have hs : SlI .u8 w2 (some ⟨w.heap.size, 0, none⟩) (ints [49, 50, 51, 52, 53, 54, 55, 56, 57]) := fun i hi => ⟨_, rfl, by
    rw [add_mk, Nat.zero_add]
    exact cell_any (l := (ints [49, 50, 51, 52, 53, 54, 55, 56, 57]).map (Value.int .u8)) hy (by rw [List.getElem?_map, List.getElem?_eq_getElem hi]; rfl)⟩
  refine crc_Sum_ok hs rfl (by simp) (by omega) fun w3 hc3 => ?_
  have e : crc 0 [49, 50, 51, 52, 53, 54, 55, 56, 57] = 3421780262 := by decide +kernel
  rw [e]
  exact hk w3 ((hc1.then hc2 fun k hk h => by omega).trans hc3)
end Go.Proofs.Ytodicpmedallgaa.G
