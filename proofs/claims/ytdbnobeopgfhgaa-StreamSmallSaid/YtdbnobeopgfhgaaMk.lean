/- The stream: packing, given and reference. -/
import Derived.Test.YtdbnobeopgfhgaaMz
import Derived.Test.YtdbnobeopgfhgaaMd
import Derived.Test.YtdbnobeopgfhgaaXh
set_option linter.unusedVariables false
set_option linter.unusedSimpArgs false
namespace Go.Proofs.Ytdbnobeopgfhgaa.G
open Go Go.Proofs.Ytdbnobeopgfhgaa.Vm Go.RowKit
/-! ### Bits -/
def bitN (c k : Nat) : Nat := (c >>> k) % 2
theorem bitN_le (c k : Nat) : bitN c k ≤ 1 := by unfold bitN; omega
theorem band_one (a : Nat) (h : a < 256) : band .u8 (a : Int) 1 = ((a % 2 : Nat) : Int) := by
  unfold band
  rw [show IntKind.bits .u8 = 8 from rfl, show (1 : Int) = ((1 : Nat) : Int) from rfl, BitVec.ofInt_natCast, BitVec.ofInt_natCast, BitVec.toNat_and, BitVec.toNat_ofNat, BitVec.toNat_ofNat, Nat.mod_eq_of_lt (by omega), Nat.mod_eq_of_lt (by omega), Nat.and_one_is_mod]
  exact wu8n (by omega)
theorem bit_of {c k : Nat} (hc : c < 256) (hk : k ≤ 7) : IntKind.wrap .i64 (band .u8 (shr .u8 (c : Int) (min k (IntKind.bits .u8))) 1) = ((bitN c k : Nat) : Int) := by
  have e : min k (IntKind.bits .u8) = k := by rw [show IntKind.bits .u8 = 8 from rfl]; omega
  have h2 : c >>> k ≤ c := by rw [Nat.shiftRight_eq_div_pow]; exact Nat.div_le_self _ _
  rw [e, shr_nat, band_one _ (by omega)]
  exact w64n (by omega)
def bits8 (c : Nat) : List Int := (List.range 8).map fun j => ((bitN c (7 - j) : Nat) : Int)
theorem bits8_len (c : Nat) : (bits8 c).length = 8 := by simp [bits8]
theorem bits8_get {c j : Nat} (h : j < 8) : (bits8 c)[j]? = some ((bitN c (7 - j) : Nat) : Int) := by unfold bits8; rw [List.getElem?_map, List.getElem?_range h]; rfl
theorem take_snoc' {l : List Int} {i : Nat} {v : Int} (h : l[i]? = some v) : l.take (i + 1) = l.take i ++ [v] := by
  obtain ⟨hi, rfl⟩ := List.getElem?_eq_some_iff.1 h
  rw [List.take_succ_eq_append_getElem hi]
def bitsB (B : List Nat) : List Int := B.flatMap bits8
theorem bitsB_snoc (B : List Nat) (c : Nat) : bitsB (B ++ [c]) = bitsB B ++ bits8 c := by unfold bitsB; simp
theorem bitsB_len (B : List Nat) : (bitsB B).length = 8 * B.length := by
  induction B with
  | nil => rfl
  | cons c B ih =>
    unfold bitsB at ih ⊢
    rw [List.flatMap_cons, List.length_append, bits8_len, ih, List.length_cons]; omega
theorem bits8_01 {c : Nat} : ∀ b ∈ bits8 c, b = 0 ∨ b = 1 := fun b hb => by
  obtain ⟨j, _, rfl⟩ := List.mem_map.1 hb
  have := bitN_le c (7 - j)
  omega
theorem bitsB_01 {B : List Nat} : ∀ b ∈ bitsB B, b = 0 ∨ b = 1 := fun b hb => by
  obtain ⟨c, _, hc⟩ := List.mem_flatMap.1 hb
  exact bits8_01 b hc
/-! ### The model behind bits, and the chances on the way -/
def mrun : Mod → List Int → Mod
  | m, [] => m
  | m, b :: r => mrun (m.asked.learn b) r
def trc : Mod → List Int → List (Bool × Nat)
  | _, [] => []
  | m, b :: r => (b != 0, chc m.chance) :: trc (m.asked.learn b) r
theorem mrun_app : ∀ (r t : List Int) (m : Mod), mrun m (r ++ t) = mrun (mrun m r) t
  | [], _, _ => rfl
  | b :: r, t, m => by rw [List.cons_append, mrun, mrun_app r, mrun]
theorem trc_app : ∀ (r t : List Int) (m : Mod), trc m (r ++ t) = trc m r ++ trc (mrun m r) t
  | [], _, _ => rfl
  | b :: r, t, m => by rw [List.cons_append, trc, trc_app r, trc, mrun]; rfl
theorem trc_len : ∀ (r : List Int) (m : Mod), (trc m r).length = r.length
  | [], _ => rfl
  | b :: r, m => by rw [trc, List.length_cons, trc_len r]; rfl
theorem trc_ch : ∀ (r : List Int) (m : Mod), ∀ p ∈ trc m r, p.2 ≤ 4095
  | [], _, p, h => by cases h
  | b :: r, m, p, h => by
    rw [trc] at h
    rcases List.mem_cons.1 h with rfl | h
    · exact (chc_bd _).2
    · exact trc_ch r _ p h
theorem mrun_ok : ∀ (r : List Int) (m : Mod), Dok m → (∀ b ∈ r, b = 0 ∨ b = 1) → Dok (mrun m r)
  | [], m, h, _ => h
  | b :: r, m, h, hb => mrun_ok r _ (h.asked.learn (hb b List.mem_cons_self)) fun c hc => hb c (List.mem_cons_of_mem _ hc)
theorem encS_len' : ∀ (bs : List (Bool × Nat)) (lo hi : Nat) (out : List Nat), Rng lo hi → (∀ p ∈ bs, p.2 ≤ 4095) → Rng (encS (lo, hi, out) bs).1 (encS (lo, hi, out) bs).2.1 ∧ (encS (lo, hi, out) bs).2.2.length ≤ out.length + 4 * bs.length
  | [], lo, hi, out, h, _ => ⟨h, by simp [encS]⟩
  | (b, c) :: bs, lo, hi, out, h, hc => by
    have hs := stp_ok (b := b) h (hc _ List.mem_cons_self)
    have ih := encS_len' bs (stp b c lo hi).2.1 (stp b c lo hi).2.2 (out ++ (stp b c lo hi).1) hs.1 fun p hp => hc p (List.mem_cons_of_mem _ hp)
    rw [encS]
    refine ⟨ih.1, ?_⟩
    have h1 := ih.2
    have h2 : (stp b c lo hi).1.length ≤ 4 := hs.2.2
    rw [List.length_append] at h1
    rw [List.length_cons]
    omega
/-- The coder's state behind bits. -/
def cst (lv : Nat) (r : List Int) : Nat × Nat × List Nat := encS (0, 4294967295, []) (trc (modNew lv) r)
def mst (lv : Nat) (r : List Int) : Mod := mrun (modNew lv) r
theorem cst_ok (lv : Nat) (r : List Int) : Rng (cst lv r).1 (cst lv r).2.1 ∧ (cst lv r).2.2.length ≤ 4 * r.length := by
  have := encS_len' (trc (modNew lv) r) 0 4294967295 [] Rng.full (trc_ch _ _)
  rw [trc_len, List.length_nil, Nat.zero_add] at this
  exact this
theorem cst_snoc (lv : Nat) (r : List Int) (b : Int) : cst lv (r ++ [b]) = ((stp (b != 0) (chc (mst lv r).chance) (cst lv r).1 (cst lv r).2.1).2.1, (stp (b != 0) (chc (mst lv r).chance) (cst lv r).1 (cst lv r).2.1).2.2, (cst lv r).2.2 ++ (stp (b != 0) (chc (mst lv r).chance) (cst lv r).1 (cst lv r).2.1).1) := by
  unfold cst
  rw [trc_app]
  exact encS_snoc _ _ _ _
theorem mst_snoc (lv : Nat) (r : List Int) (b : Int) : mst lv (r ++ [b]) = (mst lv r).asked.learn b := by unfold mst; rw [mrun_app]; rfl
/-- What bytes are packed to. -/
def packN (lv : Nat) (B : List Nat) : List Nat := encT 0 4294967295 (trc (modNew lv) (bitsB B))
theorem packN_eq (lv : Nat) (B : List Nat) : (cst lv (bitsB B)).2.2 ++ by4 (cst lv (bitsB B)).1 = packN lv B := by
  unfold cst packN
  rw [encS_T, List.nil_append]
theorem packN_by (lv : Nat) (B : List Nat) : ∀ x ∈ packN lv B, x < 256 := encT_by _ _ _ Rng.full (trc_ch _ _)
theorem packN_len (lv : Nat) (B : List Nat) : 4 ≤ (packN lv B).length ∧ (packN lv B).length ≤ 32 * B.length + 4 := by
  refine ⟨encT_len _ _ _, ?_⟩
  rw [← packN_eq, List.length_append]
  have := (cst_ok lv (bitsB B)).2
  rw [bitsB_len] at this
  simp only [by4, List.length_cons, List.length_nil]
  omega
/-! ### The given packer -/
/-- The packer behind bits `r`, all of it in blocks from `z` on. -/
structure PK (w : World) (z bp lv : Nat) (r : List Int) : Prop where
  lp : z ≤ bp
  ltp : bp < w.heap.size
  cells : ∃ (be bm : Nat) (S1 S2 : Nat → Prop), Bl 95 w bp [.pointer (some ⟨be, 0, none⟩), .pointer (some ⟨bm, 0, none⟩)] ∧ ES 131 w S1 be (cst lv r).1 (cst lv r).2.1 (cst lv r).2.2 ∧ GM w S2 bm (mst lv r) ∧ Dis S1 S2 w ∧ ¬ S1 bp ∧ ¬ S2 bp ∧ (∀ x, S1 x → z ≤ x) ∧ (∀ x, S2 x → z ≤ x)
theorem packer_put_ok {w0 : World} {z bp lv c : Nat} {r : List Int} {K : World → Prop} (hc : c < 256) (hL : r.length ≤ 100000) (h : PK w0 z bp lv r) (hk : ∀ w', PK w' z bp lv (r ++ bits8 c) → Chg (fun b => z ≤ b) w0 w' → K w') : stream_packer_put.f (some ⟨bp, 0, none⟩) c w0 K := by
  have loop : ∀ (N k : Nat) (w : World), k ≤ 8 → k < N → PK w z bp lv (r ++ (bits8 c).take (8 - k)) → Chg (fun b => z ≤ b) w0 w → stream_packer_put.l1 N (some ⟨bp, 0, none⟩) c ((k : Int) - 1) w (fun w => K w) := by
    intro N
    induction N with
    | zero => intro k w h1 h2; omega
    | succ N ih =>
      intro k w h1 h2 hP hC
      rw [stream_packer_put.l1]
      by_cases hk0 : k = 0
      · subst hk0
        rw [List.take_of_length_le (by rw [bits8_len]; omega)] at hP
        exact bif_f (dec_f (by omega)) (hk w hP hC)
      · obtain ⟨lp, ltp, be, bm, S1, S2, hb, hE, hG, hD, n1, n2, l1, l2⟩ := hP
        refine bif_t (dec_t (by omega)) ?_
        rw [if_neg (by omega), show Int.toNat ((k : Int) - 1) = k - 1 by omega, bit_of hc (by omega)]
        have hbit : (bits8 c)[8 - k]? = some ((bitN c (k - 1) : Nat) : Int) := by
          rw [bits8_get (by omega), show 7 - (8 - k) = k - 1 by omega]
        have hb01 : ((bitN c (k - 1) : Nat) : Int) = 0 ∨ ((bitN c (k - 1) : Nat) : Int) = 1 := by have := bitN_le c (k - 1); omega
        generalize ((bitN c (k - 1) : Nat) : Int) = b at hbit hb01
        generalize hr' : r ++ (bits8 c).take (8 - k) = r' at hE hG
        have hr'l : r'.length ≤ 100008 := by rw [← hr', List.length_append, List.length_take]; omega
        have hco := cst_ok lv r'
        have kd : Chg no w w.drew := Chg.drew no w
        have hbd := hb.chg kd fun h => h
        refine sm_some (ldP_b (i := 0) hbd rfl (sm_some (ldP_b (i := 1) hbd rfl ?_)))
        refine model_Chance_ok (w := w.drew) hD.b (hG.chg kd fun _ _ h => h) fun w1 hG1 hc1 => ?_
        have hz1 : w.heap.size ≤ w1.heap.size := hc1.size
        have hb1 := hbd.chg hc1 n2
        refine ⟨hb1.cell (i := 0) rfl, ?_⟩
        have hD1 := hD.size hz1
        refine coder_Encode_ok hD1.a ((hE.chg kd fun _ _ h => h).chg hc1 fun b hb h2 => hD.ab b hb h2) hco.1 (by have := hco.2; omega) fun w2 hE2 hc2 => sm_some ?_
        have hz2 := hc2.size
        have hb2 := hb1.chg hc2 n1
        have hG2 := hG1.chg hc2 fun b hb h1 => hD.ab b h1 hb
        have hD2 := hD1.grow hz2
        refine ldP_b (i := 1) hb2 rfl (model_Learn_ok hb01 hD2.b hG2 fun w3 hG3 hc3 => ?_)
        have hz3 := hc3.size
        dsimp only
        rw [w64 (a := (k : Int) - 1 - 1) (by omega) (by omega), show (k : Int) - 1 - 1 = ((k - 1 : Nat) : Int) - 1 by omega]
        refine ih (k - 1) w3 (by omega) (by omega) ?_ (((hC.trans (Chg.drew _ w)).trans (hc1.mono fun b hb => l2 b hb)).trans ((hc2.mono fun b hb => l1 b hb).trans (hc3.mono fun b hb => l2 b hb)))
        have er : r ++ (bits8 c).take (8 - (k - 1)) = r' ++ [b] := by
          rw [show 8 - (k - 1) = (8 - k) + 1 by omega, take_snoc' hbit, ← List.append_assoc, hr']
        rw [er]
        refine ⟨lp, by omega, be, bm, gr S1 w1 w2, S2, hb2.chg hc3 n2, ?_, ?_, hD2.size hz3, ?_, n2, ?_, l2⟩
        · rw [cst_snoc]
          exact hE2.chg hc3 fun b hb h2 => hD2.ab b hb h2
        · rw [mst_snoc]; exact hG3
        · intro h
          rcases h with h | h
          · exact n1 h
          · omega
        · intro x hx
          rcases hx with hx | hx
          · exact l1 x hx
          · omega
  unfold stream_packer_put.f
  exact ⟨9, loop 9 8 w0 (by omega) (by omega) (by simpa using h) (Chg.refl _ _)⟩
theorem stream_Pack_ok {x : Option Addr} {n c : Nat} {lv : Int} {B : List Nat} {w : World} {K : Option Addr → Nat → Nat → Int → World → Prop} (hx : SlI .u8 w x (ints B)) (hn : B.length = n) (hby : ∀ x ∈ B, x < 256) (hn3 : n ≤ 3000)
    (h1 : ¬ (0 ≤ lv ∧ lv ≤ 2) → K none 0 0 1 w) (h0 : 0 ≤ lv → lv ≤ 2 → ∀ a c' w', SlI .u8 w' a (ints (packN lv.toNat B)) → Chg no w w' → K a (packN lv.toNat B).length c' 0 w') : stream_Pack.f x n c lv w K := by
  unfold stream_Pack.f stream_right.f
  by_cases hlv : 0 ≤ lv ∧ lv ≤ 2
  · obtain ⟨g0, g2⟩ := hlv
    obtain ⟨l, rfl⟩ : ∃ l : Nat, lv = l := ⟨lv.toNat, by omega⟩
    have h0 := h0 g0 g2
    rw [Int.toNat_natCast] at h0
    refine bif_t (dec_t g0) ?_
    dsimp only
    refine bif_f (by rw [dec_t (by omega)]; rfl) (bif_f (dec_f (by omega)) ?_)
    have elv : (mx 0 (mn (l : Int) 2)).toNat = l := by unfold mx mn; (repeat' split) <;> omega
    refine coder_NewEncoder_ok fun be w1 hE hc1 => model_New_ok fun bm w2 hG hc2 => newC_b fun w3 hb3 hc3 hs3 => ⟨n + 1, ?_⟩
    rw [elv] at hG
    have hz1 := hc1.size; have hz2 := hc2.size
    have k3 := (hc1.trans hc2).trans hc3
    have hP : PK w3 w.heap.size w2.heap.size l (bitsB (B.take 0)) := by
      refine ⟨by omega, by omega, be, bm, _, _, hb3, (hE.chg hc2 fun _ _ h => h).chg hc3 fun _ _ h => h, hG.chg hc3 fun _ _ h => h, ⟨fun y hy => by omega, fun y hy => by omega, fun y hy hy2 => by omega⟩, fun h => by omega, fun h => by omega, fun y hy => hy.1, fun y hy => by omega⟩
    have hx3 := hx.chg k3 fun _ _ _ h => h
    have xold : ∀ p, x = some p → ints B ≠ [] → ¬ w.heap.size ≤ p.block := fun p hp hne => by
      obtain ⟨q, hq, hcq⟩ := hx 0 (List.length_pos_iff.2 hne)
      rw [hp] at hq; cases hq
      have := block_lt hcq
      rw [add_block] at this
      omega
    have loop : ∀ (N i : Nat) (w' : World), i ≤ n → n - i < N → PK w' w.heap.size w2.heap.size l (bitsB (B.take i)) → Chg (fun b => w.heap.size ≤ b) w3 w' → stream_Pack.l7 N ⟨w2.heap.size, 0, none⟩ x n c n i w' (fun o6_22 w =>
        ldP o6_22 w fun x35_24 =>
        coder_Encoder_Flush.f x35_24 w fun r36_25 r36_25n r36_25c w =>
        K r36_25 r36_25n r36_25c 0 w) := by
      intro N
      induction N with
      | zero => intro i w' h1 h2; omega
      | succ N ih =>
        intro i w' hi hN hP hc
        rw [stream_Pack.l7]
        by_cases hlt : i < n
        · have hg : B[i]? = some (B[i]'(by omega)) := List.getElem?_eq_getElem _
          have hbt := hby _ (List.mem_of_getElem? hg)
          have hsn : B.take (i + 1) = B.take i ++ [B[i]'(by omega)] := List.take_succ_eq_append_getElem (by omega)
          generalize B[i]'(by omega) = v at hg hbt hsn
          refine bif_t (dec_t (by omega)) (rdV (hx3.chg hc xold) i rfl (by rw [ints_length]; exact hn) (v := (v : Int)) (by rw [ints_get, hg]; rfl) fun _ _ => ?_)
          refine packer_put_ok hbt (by rw [bitsB_len, List.length_take]; omega) hP fun w4 hP4 hc4 => ?_
          rw [inc (by omega)]
          rw [← bitsB_snoc, ← hsn] at hP4
          exact ih (i + 1) w4 (by omega) (by omega) hP4 (hc.trans hc4)
        · have : i = n := by omega
          subst this
          rw [List.take_of_length_le (by omega)] at hP
          obtain ⟨lp, ltp, be, bm, S1, S2, hb, hE, hG, hD, n1, n2, l1, l2⟩ := hP
          have hco := cst_ok l (bitsB B)
          have hcl := hco.2
          rw [bitsB_len] at hcl
          have hlo : (cst l (bitsB B)).1 < 4294967296 := by have := hco.1.lt; have := hco.1.bd; omega
          refine bif_f (dec_f (by omega)) (ldP_b (i := 0) hb rfl (coder_Flush_ok hD.a hE hlo (by omega) fun a c' w4 ho hE4 hc4 => ?_))
          rw [packN_eq] at ho
          have hl4 : (cst l (bitsB B)).2.2.length + 4 = (packN l B).length := by rw [← packN_eq, List.length_append]; rfl
          rw [hl4]
          exact h0 a c' w4 ho.sl ((k3.then hc fun j hj h => by omega).then hc4 fun j hj h => by have := l1 j h; omega)
    exact loop (n + 1) 0 w3 (by omega) (by omega) hP (Chg.refl _ _)
  · have k1 := h1 hlv
    refine cond_of (fun hh => ?_) (fun hh => ?_)
    · have := of_decide_eq_true hh
      dsimp only
      refine bif_t ?_ k1
      rw [dec_f (by omega)]; rfl
    · exact bif_t rfl k1
/-! ### The reference's -/
structure RK (w : World) (z be bm lv : Nat) (r : List Int) : Prop where
  cells : ∃ (S1 S2 : Nat → Prop), ES 136 w S1 be (cst lv r).1 (cst lv r).2.1 (cst lv r).2.2 ∧ RM w S2 bm (mst lv r) ∧ Dis S1 S2 w ∧ (∀ x, S1 x → z ≤ x) ∧ (∀ x, S2 x → z ≤ x)
theorem ref09_Pack_ok {x : Option Addr} {n c : Nat} {lv : Int} {B : List Nat} {w : World} {K : Option Addr → Nat → Nat → Int → World → Prop} (hx : SlI .u8 w x (ints B)) (hn : B.length = n) (hby : ∀ x ∈ B, x < 256) (hn3 : n ≤ 3000)
    (h1 : ¬ (0 ≤ lv ∧ lv ≤ 2) → K none 0 0 1 w) (h0 : 0 ≤ lv → lv ≤ 2 → ∀ a c' w', SlI .u8 w' a (ints (packN lv.toNat B)) → Chg no w w' → K a (packN lv.toNat B).length c' 0 w') : ref09_Pack.f x n c lv w K := by
  unfold ref09_Pack.f
  refine cond_of (fun hh => h1 fun h => by have := of_decide_eq_true hh; omega) (fun hh1 => cond_of (fun hh => h1 fun h => by have := of_decide_eq_true hh; omega) (fun hh2 => bif_f (dec_f (by omega)) ?_))
  have g0 : 0 ≤ lv := by have := of_decide_eq_false hh1; omega
  have g2 : lv ≤ 2 := by have := of_decide_eq_false hh2; omega
  obtain ⟨l, rfl⟩ : ∃ l : Nat, lv = l := ⟨lv.toNat, by omega⟩
  have h0 := h0 g0 g2
  rw [Int.toNat_natCast] at h0
  have elv : (mx 0 (mn (l : Int) 2)).toNat = l := by unfold mx mn; (repeat' split) <;> omega
  refine ref04_NewEncoder_ok fun be w1 hE hc1 => ref08_New_ok fun bm w2 hG hc2 => ⟨n + 1, ?_⟩
  rw [elv] at hG
  have hz1 := hc1.size; have hz2 := hc2.size
  have k2 := hc1.trans hc2
  have hP : RK w2 w.heap.size be bm l (bitsB (B.take 0)) :=
    ⟨_, _, hE.chg hc2 fun _ _ h => h, hG, ⟨fun y hy => by omega, fun y hy => by omega, fun y hy hy2 => by omega⟩, fun y hy => hy.1, fun y hy => by omega⟩
  have hx2 := hx.chg k2 fun _ _ _ h => h
  have xold : ∀ p, x = some p → ints B ≠ [] → ¬ w.heap.size ≤ p.block := fun p hp hne => by
    obtain ⟨q, hq, hcq⟩ := hx 0 (List.length_pos_iff.2 hne)
    rw [hp] at hq; cases hq
    have := block_lt hcq
    rw [add_block] at this
    omega
  have inner : ∀ (K2 : Option Addr → Nat → Nat → Option Addr → Option Addr → Int → World → Prop) (i v : Nat) (w0 : World), i < n → B[i]? = some v → v < 256 → RK w0 w.heap.size be bm l (bitsB (B.take i)) → Chg (fun b => w.heap.size ≤ b) w2 w0 → (∀ w', RK w' w.heap.size be bm l (bitsB (B.take i) ++ bits8 v) → Chg (fun b => w.heap.size ≤ b) w2 w' → K2 x n c (some ⟨be, 0, none⟩) (some ⟨bm, 0, none⟩) i w') →
      ∀ (N k : Nat) (w' : World), k ≤ 8 → k < N → RK w' w.heap.size be bm l (bitsB (B.take i) ++ (bits8 v).take (8 - k)) → Chg (fun b => w.heap.size ≤ b) w2 w' → ref09_Pack.l10 N x n c (some ⟨be, 0, none⟩) (some ⟨bm, 0, none⟩) i ((k : Int) - 1) w' K2 := by
    intro K2 i v w0 hi hg hv hP0 hc0 hK N
    induction N with
    | zero => intro k w' h1 h2; omega
    | succ N ih =>
      intro k w' h1 h2 hP hC
      rw [ref09_Pack.l10]
      by_cases hk0 : k = 0
      · subst hk0
        rw [List.take_of_length_le (l := bits8 v) (by rw [bits8_len]; omega)] at hP
        exact bif_f (dec_f (by omega)) (hK w' hP hC)
      · obtain ⟨S1, S2, hE, hG, hD, l1, l2⟩ := hP.cells
        refine bif_t (dec_t (by omega)) (rdV (hx2.chg hC xold) i rfl (by rw [ints_length]; exact hn) (v := (v : Int)) (by rw [ints_get, hg]; rfl) fun _ _ => ?_)
        rw [wu64 (a := (k : Int) - 1) (by omega) (by omega), if_neg (by omega), show Int.toNat ((k : Int) - 1) = k - 1 by omega, bit_of hv (by omega)]
        have hbit : (bits8 v)[8 - k]? = some ((bitN v (k - 1) : Nat) : Int) := by
          rw [bits8_get (by omega), show 7 - (8 - k) = k - 1 by omega]
        have hb01 : ((bitN v (k - 1) : Nat) : Int) = 0 ∨ ((bitN v (k - 1) : Nat) : Int) = 1 := by have := bitN_le v (k - 1); omega
        generalize ((bitN v (k - 1) : Nat) : Int) = b at hbit hb01
        generalize hr' : bitsB (B.take i) ++ (bits8 v).take (8 - k) = r' at hE hG
        have hr'l : r'.length ≤ 24008 := by rw [← hr', List.length_append, List.length_take, bitsB_len, List.length_take]; omega
        have hco := cst_ok l r'
        dsimp only
        refine ref08_Chance_ok hD.b hG fun w3 hG3 hc3 => ?_
        have hz3 := hc3.size
        have hD3 := (hD.swap.grow hz3).swap
        refine ref04_Encode_ok hD3.a (hE.chg hc3 fun b hb h2 => hD.ab b hb h2) hco.1 (by have := hco.2; omega) fun w4 hE4 hc4 => ?_
        have hz4 := hc4.size
        have hD4 := hD3.grow hz4
        refine ref08_Learn_ok hb01 hD4.b (hG3.chg hc4 fun b hb h1 => hD3.ab b h1 hb) fun w5 hG5 hc5 => ?_
        have hz5 := hc5.size
        have hD5 := (hD4.swap.grow hz5).swap
        rw [w64 (a := (k : Int) - 1 - 1) (by omega) (by omega), show (k : Int) - 1 - 1 = ((k - 1 : Nat) : Int) - 1 by omega]
        have hzw : w.heap.size ≤ w'.heap.size := by have := hC.size; omega
        refine ih (k - 1) w5 (by omega) (by omega) ?_ (((hC.trans (hc3.mono fun b hb => l2 b hb)).trans (hc4.mono fun b hb => l1 b hb)).trans (hc5.mono fun b hb => ?_))
        · have er : bitsB (B.take i) ++ (bits8 v).take (8 - (k - 1)) = r' ++ [b] := by
            rw [show 8 - (k - 1) = (8 - k) + 1 by omega, take_snoc' hbit, ← List.append_assoc, hr']
          rw [er]
          refine ⟨_, _, ?_, ?_, hD5, ?_, ?_⟩
          · rw [cst_snoc]
            exact hE4.chg hc5 fun b hb h2 => hD4.ab b hb h2
          · rw [mst_snoc]; exact hG5
          · intro y hy
            rcases hy with hy | hy
            · exact l1 y hy
            · omega
          · intro y hy
            rcases hy with (hy | hy) | hy
            · exact l2 y hy
            · omega
            · omega
        · rcases hb with hb | hb
          · exact l2 b hb
          · omega
  have loop : ∀ (N i : Nat) (w' : World), i ≤ n → n - i < N → RK w' w.heap.size be bm l (bitsB (B.take i)) → Chg (fun b => w.heap.size ≤ b) w2 w' → ref09_Pack.l7 N x n c (some ⟨be, 0, none⟩) (some ⟨bm, 0, none⟩) i w' (fun o6_35 w =>
          ref04_Encoder_Flush.f o6_35 w fun r51_37 r51_37n r51_37c w =>
          K r51_37 r51_37n r51_37c 0 w) := by
    intro N
    induction N with
    | zero => intro i w' h1 h2; omega
    | succ N ih =>
      intro i w' hi hN hP hc
      rw [ref09_Pack.l7]
      by_cases hlt : i < n
      · have hg : B[i]? = some (B[i]'(by omega)) := List.getElem?_eq_getElem _
        have hbt := hby _ (List.mem_of_getElem? hg)
        have hsn : B.take (i + 1) = B.take i ++ [B[i]'(by omega)] := List.take_succ_eq_append_getElem (by omega)
        generalize B[i]'(by omega) = v at hg hbt hsn
        refine bif_t (dec_t (by omega)) ⟨9, inner _ i v w' hlt hg hbt hP hc (fun w3 hP3 hc3 => ?_) 9 8 w' (by omega) (by omega) (by simpa using hP) hc⟩
        dsimp only
        rw [inc (by omega)]
        rw [← bitsB_snoc, ← hsn] at hP3
        exact ih (i + 1) w3 (by omega) (by omega) hP3 hc3
      · have : i = n := by omega
        subst this
        rw [List.take_of_length_le (by omega)] at hP
        obtain ⟨S1, S2, hE, hG, hD, l1, l2⟩ := hP.cells
        have hco := cst_ok l (bitsB B)
        have hcl := hco.2
        rw [bitsB_len] at hcl
        have hlo : (cst l (bitsB B)).1 < 4294967296 := by have := hco.1.lt; have := hco.1.bd; omega
        refine bif_f (dec_f (by omega)) (ref04_Flush_ok hD.a hE hlo (by omega) fun a c' w4 ho hE4 hc4 => ?_)
        rw [packN_eq] at ho
        have hl4 : (cst l (bitsB B)).2.2.length + 4 = (packN l B).length := by rw [← packN_eq, List.length_append]; rfl
        rw [hl4]
        exact h0 a c' w4 ho.sl ((k2.then hc fun j hj h => by omega).then hc4 fun j hj h => by have := l1 j h; omega)
  exact loop (n + 1) 0 w2 (by omega) (by omega) hP (Chg.refl _ _)
end Go.Proofs.Ytdbnobeopgfhgaa.G
