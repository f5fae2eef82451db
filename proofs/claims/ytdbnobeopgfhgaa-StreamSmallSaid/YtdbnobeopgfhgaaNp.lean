/- One byte, again and again, is packed to few bytes. -/
import Derived.Test.YtdbnobeopgfhgaaKh
import Derived.Test.YtdbnobeopgfhgaaNa
import Derived.Test.YtdbnobeopgfhgaaNb
import Derived.Test.YtdbnobeopgfhgaaNc
import Derived.Test.YtdbnobeopgfhgaaNd
import Derived.Test.YtdbnobeopgfhgaaGenLawStreamSmall
set_option linter.unusedVariables false
set_option linter.unusedSimpArgs false
namespace Go.Proofs.Ytdbnobeopgfhgaa.G
open Go Go.Proofs.Ytdbnobeopgfhgaa.Vm Go.RowKit
theorem sm_all {lv : Nat} {bit : Int} {z : Bool} {g1 g2 : Int} (hlv : lv ≤ 2) (hb : bit = 0 ∨ bit = 1) (hz : z = true → bit = 0) (h1 : g1 ∈ R1 lv) (h2 : g2 ∈ R2 lv) : smC lv bit z g1 g2 = true := by
  have : lv = 0 ∨ lv = 1 ∨ lv = 2 := by omega
  have s0 := sm_0
  simp only [Bool.and_eq_true] at s0
  rcases this with rfl | rfl | rfl
  · have e1 : g1 = 32768 := by
      have h : g1 ∈ ([32768] : List Int) := h1
      simpa using h
    have e2 : g2 = 32768 := by
      have h : g2 ∈ ([32768] : List Int) := h2
      simpa using h
    subst e1 e2
    cases z
    · rcases hb with rfl | rfl
      · exact s0.1.1
      · exact s0.1.2
    · rw [hz rfl]; exact s0.2
  · have e1 : g1 = 32768 := by
      have h : g1 ∈ ([32768] : List Int) := h1
      simpa using h
    have e2 : g2 = 32768 := by
      have h : g2 ∈ ([32768] : List Int) := h2
      simpa using h
    subst e1 e2
    cases z
    · rcases hb with rfl | rfl
      · exact sm_1a
      · exact sm_1b
    · rw [hz rfl]; exact sm_1c
  · have h : g1 ∈ ([32768, 28672, 36863] : List Int) := h1
    simp only [List.mem_cons, List.not_mem_nil, or_false] at h
    cases z
    · rcases hb with rfl | rfl
      · rcases h with rfl | rfl | rfl
        · exact List.all_eq_true.1 sm_2a0 _ h2
        · exact List.all_eq_true.1 sm_2a1 _ h2
        · exact List.all_eq_true.1 sm_2a2 _ h2
      · rcases h with rfl | rfl | rfl
        · exact List.all_eq_true.1 sm_2b0 _ h2
        · exact List.all_eq_true.1 sm_2b1 _ h2
        · exact List.all_eq_true.1 sm_2b2 _ h2
    · rw [hz rfl]
      rcases h with rfl | rfl | rfl
      · exact List.all_eq_true.1 sm_2c0 _ h2
      · exact List.all_eq_true.1 sm_2c1 _ h2
      · exact List.all_eq_true.1 sm_2c2 _ h2
def prd (f : Nat → Nat) : Nat → Nat
  | 0 => 1
  | k + 1 => prd f k * f k
theorem prd_congr {f g : Nat → Nat} : ∀ k, (∀ i, i < k → f i = g i) → prd f k = prd g k
  | 0, _ => rfl
  | k + 1, h => by rw [prd, prd, prd_congr k fun i hi => h i (by omega), h k (by omega)]
theorem prd_mul (f g : Nat → Nat) : ∀ k, prd (fun i => f i * g i) k = prd f k * prd g k
  | 0 => rfl
  | k + 1 => by rw [prd, prd, prd, prd_mul f g k]; ac_rfl
theorem prd_const (a : Nat) : ∀ k, prd (fun _ => a) k = a ^ k
  | 0 => rfl
  | k + 1 => by rw [prd, prd_const a k, Nat.pow_succ]
theorem prd_mono {f g : Nat → Nat} : ∀ k, (∀ i, i < k → f i ≤ g i) → prd f k ≤ prd g k
  | 0, _ => Nat.le_refl _
  | k + 1, h => by rw [prd, prd]; exact Nat.mul_le_mul (prd_mono k fun i hi => h i (by omega)) (h k (by omega))
def PFs (lv c : Nat) (G : Nat → Int × Int) (i n : Nat) : Nat := PF lv (bt c i) (c == 0) (G i).1 (G i).2 n
def qv (lv c : Nat) (G : Nat → Int × Int) (n i : Nat) : Nat := qN (bt c i) (chV lv (Qs lv c G i n).1 (Qs lv c G i n).2.1 (Qs lv c G i n).2.2)
theorem PFs_succ (lv c : Nat) (G : Nat → Int × Int) (i n : Nat) : PFs lv c G i (n + 1) = PFs lv c G i n * qv lv c G n i := by
  unfold PFs qv Qs
  rw [PF, SqF_eq, ch_eq]
theorem PFs_congr {lv c : Nat} {G H : Nat → Int × Int} {i : Nat} : ∀ n, (∀ m, m < n → Qs lv c G i m = Qs lv c H i m) → PFs lv c G i n = PFs lv c H i n
  | 0, _ => rfl
  | n + 1, h => by
    rw [PFs_succ, PFs_succ, PFs_congr n fun m hm => h m (by omega)]
    unfold qv
    rw [h n (by omega)]
/-- The bits of a byte, from the `j`th on. -/
def tl (c j : Nat) : List Int := (List.range (8 - j)).map fun k => bt c (j + k)
theorem tl_cons {c j : Nat} (h : j < 8) : tl c j = bt c j :: tl c (j + 1) := by
  unfold tl
  rw [show 8 - j = 8 - (j + 1) + 1 by omega, List.range_succ_eq_map, List.map_cons, List.map_map, Nat.add_zero]
  congr 1
  refine List.map_congr_left fun k _ => ?_
  show bt c (j + (k + 1)) = _
  rw [show j + (k + 1) = j + 1 + k by omega]
theorem tl_bits (c : Nat) : bits8 c = tl c 0 := by
  unfold bits8 tl
  refine List.map_congr_left fun k _ => ?_
  rw [Nat.zero_add]; rfl
theorem qB_qN {b p : Int} (hb : b = 0 ∨ b = 1) (h1 : 1 ≤ p) (h2 : p ≤ 4095) : qB (b != 0) (chc p) = qN b p := by
  have e : chc p = p.toNat := by unfold chc mx mn; (repeat' split) <;> omega
  rw [e]
  rcases hb with rfl | rfl
  · show 4096 - p.toNat = (4096 - p).toNat
    omega
  · rfl
theorem round {lv c n : Nat} {G : Nat → Int × Int} (hc : c < 256) : ∀ (m j : Nat) (s : Mod), j + m = 8 → Mid lv c n j G s → (if j < 8 then At c n j s else At c (n + 1) 0 s) →
    Mid lv c n 8 G (mrun s (tl c j)) ∧ At c (n + 1) 0 (mrun s (tl c j)) ∧ prd (qv lv c G n) j * qs (trc s (tl c j)) = prd (qv lv c G n) 8
  | 0, j, s, hj, h, a => by
    obtain rfl : j = 8 := by omega
    rw [if_neg (by omega)] at a
    exact ⟨h, a, by show _ * 1 = _; rw [Nat.mul_one]⟩
  | m + 1, j, s, hj, h, a => by
    have hj8 : j < 8 := by omega
    rw [if_pos hj8] at a
    have hch := h.chance a hj8
    have hcb := Mod.chance_bd h.mok.ok
    have hb := bt_01 c j
    have a' : if j + 1 < 8 then At c n (j + 1) (s.asked.learn (bt c j)) else At c (n + 1) 0 (s.asked.learn (bt c j)) := by
      by_cases h7 : j < 7
      · rw [if_pos (by omega)]; exact a.asked.learn hc h7
      · obtain rfl : j = 7 := by omega
        rw [if_neg (by omega)]; exact a.asked.wrap hc
    have ih := round hc m (j + 1) (s.asked.learn (bt c j)) (by omega) (h.asked.learn hc a.asked hj8) a'
    rw [tl_cons hj8]
    refine ⟨ih.1, ih.2.1, ?_⟩
    have e := ih.2.2
    rw [prd] at e
    rw [trc, qs, qB_qN hb hcb.1 hcb.2, hch, ← e, Nat.mul_assoc]
    rfl
theorem rounds {lv c : Nat} (hc : c < 256) (hlv : lv ≤ 2) : ∀ n, ∃ G, Mid lv c n 0 G (mst lv (bitsB (List.replicate n c))) ∧ At c n 0 (mst lv (bitsB (List.replicate n c))) ∧ qs (trc (modNew lv) (bitsB (List.replicate n c))) = prd (fun i => PFs lv c G i n) 8
  | 0 => ⟨_, (mid_new hc hlv).1, (mid_new hc hlv).2, rfl⟩
  | n + 1 => by
    obtain ⟨G, hm, ha, hq⟩ := rounds hc hlv n
    have r := round hc 8 0 _ rfl hm (by rw [if_pos (by omega)]; exact ha)
    obtain ⟨G', hm', he⟩ := r.1.wrap hc hlv
    have eb : bitsB (List.replicate (n + 1) c) = bitsB (List.replicate n c) ++ tl c 0 := by
      rw [List.replicate_succ', bitsB_snoc, tl_bits]
    have em : mst lv (bitsB (List.replicate n c) ++ tl c 0) = mrun (mst lv (bitsB (List.replicate n c))) (tl c 0) := by
      unfold mst; rw [mrun_app]
    rw [eb, em]
    refine ⟨G', hm', r.2.1, ?_⟩
    have e3 := r.2.2
    rw [show prd (qv lv c G n) 0 = 1 from rfl, Nat.one_mul] at e3
    rw [trc_app, qs_app, hq]
    show _ * qs (trc (mst lv (bitsB (List.replicate n c))) (tl c 0)) = _
    rw [e3, ← prd_mul]
    refine prd_congr 8 fun i hi => ?_
    rw [← PFs_succ]
    exact PFs_congr (n + 1) fun m hm => (he i m hi (by omega)).symm
theorem trc_ge : ∀ (r : List Int) (m : Mod), ∀ p ∈ trc m r, 1 ≤ p.2 ∧ p.2 ≤ 4095
  | [], _, p, h => by cases h
  | b :: r, m, p, h => by
    rw [trc] at h
    rcases List.mem_cons.1 h with rfl | h
    · exact chc_bd _
    · exact trc_ge r _ p h
theorem pack_small {lv c n : Nat} (hc : c < 256) (hlv : lv ≤ 2) (h1 : 1500 ≤ n) (h2 : n < 2000) : (packN lv (List.replicate n c)).length ≤ 126 := by
  obtain ⟨G, hm, ha, hq⟩ := rounds hc hlv n
  refine encT_few (k := 8 * n) (trc_ge _ _) (by rw [trc_len, bitsB_len, List.length_replicate]) (by omega) ?_
  rw [hq]
  have low : ∀ i, i < 8 → 4096 ^ n ≤ 2 ^ 61 * PFs lv c G i n := fun i hi => by
    have hz : (c == 0) = true → bt c i = 0 := fun h => by
      have : c = 0 := by simpa using h
      subst this
      unfold bt bitN; simp
    exact PF_low (bt_01 c i) (sm_all hlv (bt_01 c i) hz (hm.g i hi).1 (hm.g i hi).2) (by omega) h2
  have e1 : 4096 ^ (8 * n) = prd (fun _ => 4096 ^ n) 8 := by rw [prd_const, ← Nat.pow_mul, Nat.mul_comm]
  have e2 : prd (fun i => 2 ^ 61 * PFs lv c G i n) 8 = BIG * prd (fun i => PFs lv c G i n) 8 := by
    have h : ((2 : Nat) ^ 61) ^ 8 = BIG := by decide +kernel
    rw [prd_mul, prd_const, h]
  rw [e1, ← e2]
  exact prd_mono 8 low
theorem fill_set {i N : Nat} {c : Int} (h : i < N) : (List.replicate i c ++ List.replicate (N - i) 0).set i c = List.replicate (i + 1) c ++ List.replicate (N - (i + 1)) 0 := by
  rw [List.set_append_right _ _ (by rw [List.length_replicate]; exact Nat.le_refl _), List.length_replicate, Nat.sub_self, show N - i = N - (i + 1) + 1 by omega, List.replicate_succ, List.set_cons_zero, List.replicate_succ', List.append_assoc]
  rfl
theorem law09_StreamSmall_l4 {w0 : World} {b N : Nat} {c : Int} {y1 y2 : Int} {K : Int → Int → Option Addr → Nat → Nat → World → Prop} (hN : N ≤ 100000)
    (hk : ∀ w, BlI .u8 5 w b (List.replicate N c) → Chg (fun j => j = b) w0 w → K y1 y2 (some ⟨b, 0, none⟩) N N w) (M : Nat) : ∀ (i : Nat) (w : World), i ≤ N → N - i < M → BlI .u8 5 w b (List.replicate i c ++ List.replicate (N - i) 0) → Chg (fun j => j = b) w0 w →
    law09_StreamSmall.l4 M c y1 y2 (some ⟨b, 0, none⟩) N N (N : Int) (i : Int) w K := by
  induction M with
  | zero => intro i w h1 h2; omega
  | succ M ih =>
    intro i w h1 h2 hb hc
    rw [law09_StreamSmall.l4]
    refine cond_of (fun hh => ?_) (fun hh => ?_)
    · have hi : i < N := by have := of_decide_eq_true hh; omega
      refine wrB hb i rfl (by simp; omega) hi fun p w1 hb1 c1 => ?_
      rw [fill_set hi] at hb1
      rw [inc (by omega)]
      exact ih (i + 1) w1 (by omega) (by omega) hb1 (hc.trans c1)
    · obtain rfl : i = N := by have := of_decide_eq_false hh; omega
      rw [Nat.sub_self, List.replicate_zero, List.append_nil] at hb
      exact hk w hb hc
theorem law09_awake_ok {w : World} {K : Bool → World → Prop} (hk : ∀ w', Chg no w w' → K true w') : law09_awake.f w K := by
  unfold law09_awake.f
  refine newC_b fun w1 hb1 hc1 hs1 => mkStr_of hb1 fun w2 y hy hc2 => ?_
  have hx : SlI .u8 w2 (some ⟨w.heap.size, 0, none⟩) (ints [97]) := fun i hi => by
    have : i = 0 := by rw [ints_length] at hi; simp at hi; exact hi
    subst this
    exact ⟨_, rfl, by rw [add_mk]; exact cell_any hy rfl⟩
  refine stream_Pack_ok hx rfl (by decide) (by omega) (fun h => (h ⟨by omega, by omega⟩).elim) fun _ _ a c' w3 ho hc3 => bif_t rfl ?_
  dsimp only
  have := (packN_len (0 : Int).toNat [97]).1
  rw [dec_t (by omega)]
  exact hk w3 ((hc1.then hc2 fun k hk h => by omega).trans hc3)
theorem mod_u64 (a : Int) (m : Nat) (h0 : 0 < m) (h1 : m ≤ 1000000) : ∃ q : Nat, q < m ∧ IntKind.wrap .i64 (Int.tmod (IntKind.wrap .u64 a) (m : Int)) = (q : Int) := by
  have h2 : 0 ≤ IntKind.wrap .u64 a := by rw [wu64_eq]; omega
  rw [Int.tmod_eq_emod_of_nonneg h2]
  have h3 := Int.emod_nonneg (IntKind.wrap .u64 a) (show (m : Int) ≠ 0 by omega)
  have h4 := Int.emod_lt_of_pos (IntKind.wrap .u64 a) (show 0 < (m : Int) by omega)
  refine ⟨(IntKind.wrap .u64 a % (m : Int)).toNat, by omega, ?_⟩
  rw [w64 (by omega) (by omega)]
  omega
theorem law09_StreamSmall_said {c' a b : Int} {W : World} {K : Bool → World → Prop} (hwc : (Lit.int .u8 c').wf = true) (_ : (Lit.int .i64 a).wf = true) (_ : (Lit.int .i64 b).wf = true)
    (hk : ∀ w', Below W.heap.size W w' → K true w') : law09_StreamSmall.f c' a b W K := by
  have hcb := wf_u8 hwc
  obtain ⟨c, rfl⟩ : ∃ c : Nat, c' = c := ⟨c'.toNat, by omega⟩
  have hc : c < 256 := by omega
  unfold law09_StreamSmall.f
  obtain ⟨q, hq, eq⟩ := mod_u64 a 500 (by omega) (by omega)
  obtain ⟨lv, hlv, elv⟩ := mod_u64 b 3 (by omega) (by omega)
  have eq : IntKind.wrap .i64 (Int.tmod (IntKind.wrap .u64 a) 500) = (q : Int) := eq
  have elv : IntKind.wrap .i64 (Int.tmod (IntKind.wrap .u64 b) 3) = (lv : Int) := elv
  dsimp only
  rw [eq, show IntKind.wrap .i64 (1500 + (q : Int)) = ((1500 + q : Nat) : Int) by rw [w64 (by omega) (by omega)]; omega]
  obtain ⟨N, hN⟩ : ∃ N, 1500 + q = N := ⟨_, rfl⟩
  rw [hN]
  refine mkL_b (by omega) (by omega) (by omega) (by omega) fun w1 hb1 c1 s1 => ?_
  rw [Int.toNat_natCast] at *
  refine ⟨N + 1, law09_StreamSmall_l4 (w0 := w1) (by omega) (fun w2 hb2 c2 => ?_) (N + 1) 0 w1 (by omega) (by omega) (by rw [List.replicate_zero, List.nil_append, Nat.sub_zero]; exact hb1) (Chg.refl _ _)⟩
  rw [elv]
  have hx : SlI .u8 w2 (some ⟨W.heap.size, 0, none⟩) (ints (List.replicate N c)) := by
    have := hb2.sl
    unfold ints
    rw [List.map_replicate]; exact this
  have k2 : Chg no W w2 := c1.then c2 fun k hk h => by omega
  refine stream_Pack_ok hx (List.length_replicate ..) (fun x hx => by rw [(List.mem_replicate.1 hx).2]; exact hc) (by omega) (fun h => (h ⟨by omega, by omega⟩).elim) fun _ _ a' d w3 ho c3 => law09_awake_ok fun w4 c4 => bif_t rfl (bif_t rfl ?_)
  rw [Int.toNat_natCast] at *
  have hs := pack_small (lv := lv) (n := N) hc (by omega) (by omega) (by omega)
  have hd : decide (IntKind.wrap .i64 (10 * (((packN lv (List.replicate N c)).length : Nat) : Int)) ≤ ((N : Nat) : Int)) = true := by
    rw [w64 (by omega) (by omega)]; exact decide_eq_true (by omega)
  rw [hd]
  exact hk w4 (below_no (Below.refl _ _) ((k2.trans c3).trans c4) (Nat.le_refl _))
end Go.Proofs.Ytdbnobeopgfhgaa.G
