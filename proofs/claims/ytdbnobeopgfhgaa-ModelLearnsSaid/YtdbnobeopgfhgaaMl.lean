/- The stream: unpacking, given and reference. -/
import Derived.Test.YtdbnobeopgfhgaaMk
set_option linter.unusedVariables false
set_option linter.unusedSimpArgs false
namespace Go.Proofs.Ytdbnobeopgfhgaa.G
open Go Go.Proofs.Ytdbnobeopgfhgaa.Vm Go.RowKit
theorem dstp_rng' {B : List Nat} {c : Nat} {s : Dst} (hr : Rng s.1 s.2.1) (hc : c ≤ 4095) : Rng (dstp B c s).1 (dstp B c s).2.1 ∧ (dstp B c s).2.2.2 ≤ s.2.2.2 + 4 := by
  unfold dstp
  have := stp_ok (b := dbit c s) hr hc
  refine ⟨this.1, ?_⟩
  dsimp only
  rw [takN_at]
  have := this.2.2
  omega
theorem dnew_rng' (B : List Nat) : Rng (dnew B).1 (dnew B).2.1 ∧ (dnew B).2.2.2 = 4 := ⟨Rng.full, by unfold dnew; dsimp only; rw [takN_at]⟩
theorem ints_inj {A B : List Nat} (h : ints A = ints B) : A = B := by
  induction A generalizing B with
  | nil => cases B with
    | nil => rfl
    | cons b B => cases h
  | cons a A ih =>
    cases B with
    | nil => cases h
    | cons b B =>
      simp only [ints, List.map_cons, List.cons.injEq] at h ih
      rw [ih h.2]
      congr 1
      have := h.1
      omega
theorem str_eq {A B : List Nat} (ha : ∀ x ∈ A, x < 256) (hb : ∀ x ∈ B, x < 256) : ((⟨((ints A).map fun n => UInt8.ofNat n.toNat).toArray⟩ : ByteArray).toList == (⟨((ints B).map fun n => UInt8.ofNat n.toNat).toArray⟩ : ByteArray).toList) = decide (A = B) := by
  rw [ByteArray.toList_eq, ByteArray.toList_eq]
  by_cases h : A = B
  · subst h; simp
  · rw [decide_eq_false h]
    apply Bool.eq_false_iff.2
    intro e
    rw [beq_iff_eq] at e
    exact h (ints_inj (bytes_inj (ints_by ha) (ints_by hb) (by simpa using e)))
theorem bytes_Equal_ok {a b : Option Addr} {n c m d : Nat} {A B : List Nat} {w : World} {K : Bool → World → Prop} (ha : SlI .u8 w a (ints A)) (hb : SlI .u8 w b (ints B)) (hn : A.length = n) (hm : B.length = m) (bA : ∀ x ∈ A, x < 256) (bB : ∀ x ∈ B, x < 256) (hk : K (decide (A = B)) w) : bytes_Equal.f a n c b m d w K := by
  unfold bytes_Equal.f
  refine strL_of ha (by rw [ints_length]; exact hn) (strL_of hb (by rw [ints_length]; exact hm) ?_)
  dsimp only
  rw [str_eq bA bB]
  exact hk
theorem help_Bytes_ok {a b : Option Addr} {n c m d : Nat} {A B : List Nat} {w : World} {K : Bool → World → Prop} (ha : SlI .u8 w a (ints A)) (hb : SlI .u8 w b (ints B)) (hn : A.length = n) (hm : B.length = m) (bA : ∀ x ∈ A, x < 256) (bB : ∀ x ∈ B, x < 256) (hk : K (decide (A = B)) w) : help_Bytes.f a n c b m d w K := by
  unfold help_Bytes.f
  refine strL_of ha (by rw [ints_length]; exact hn) (strL_of hb (by rw [ints_length]; exact hm) ?_)
  dsimp only
  rw [str_eq bA bB]
  exact hk
/-! ### Unpacking, as plain numbers -/
def bI (b : Bool) : Nat := if b then 1 else 0
def unK (X : List Nat) : Nat → Nat → Mod → Dst → Nat × Mod × Dst
  | 0, v, m, d => (v, m, d)
  | k + 1, v, m, d => unK X k ((v * 2 + bI (dbit (chc m.chance) d)) % 256) (m.asked.learn (bI (dbit (chc m.chance) d) : Nat)) (dstp X (chc m.chance) d)
def unB (X : List Nat) : Nat → Mod → Dst → List Nat
  | 0, _, _ => []
  | n + 1, m, d => (unK X 8 0 m d).1 :: unB X n (unK X 8 0 m d).2.1 (unK X 8 0 m d).2.2
theorem unB_len (X : List Nat) : ∀ (n : Nat) (m : Mod) (d : Dst), (unB X n m d).length = n
  | 0, _, _ => rfl
  | n + 1, m, d => by rw [unB, List.length_cons, unB_len X n]
theorem unK_bd (X : List Nat) : ∀ (k v : Nat) (m : Mod) (d : Dst), v < 256 → (unK X k v m d).1 < 256
  | 0, _, _, _, h => h
  | k + 1, v, m, d, h => by rw [unK]; exact unK_bd X k _ _ _ (by omega)
theorem unB_by (X : List Nat) : ∀ (n : Nat) (m : Mod) (d : Dst), ∀ x ∈ unB X n m d, x < 256
  | 0, _, _, x, h => by cases h
  | n + 1, m, d, x, h => by
    rw [unB] at h
    rcases List.mem_cons.1 h with rfl | h
    · exact unK_bd X 8 0 _ _ (by omega)
    · exact unB_by X n _ _ x h
theorem bI_01 (b : Bool) : ((bI b : Nat) : Int) = 0 ∨ ((bI b : Nat) : Int) = 1 := by cases b <;> simp [bI]
theorem bI_if (b : Bool) : (if b = true then (1 : Int) else 0) = ((bI b : Nat) : Int) := by cases b <;> rfl
theorem bor_bit {a : Nat} {b : Bool} (ha : a < 256) : bor .u8 (shl .u8 (a : Int) 1) (IntKind.wrap .u8 ((bI b : Nat) : Int)) = (((a * 2 + bI b) % 256 : Nat) : Int) := by
  have hb : bI b < 2 ^ 1 := by cases b <;> simp [bI]
  have hb2 : bI b < 256 := by omega
  have e1 : shl .u8 (a : Int) 1 = ((a % 128 * 2 : Nat) : Int) := by unfold shl; rw [wu8_eq]; omega
  have ha2 : a % 128 * 2 < 256 := by omega
  rw [e1, wu8n hb2]
  have e3 : (a * 2 + bI b) % 256 = a % 128 * 2 + bI b := by omega
  rw [e3]
  generalize a % 128 = q at *
  unfold bor
  rw [show IntKind.bits .u8 = 8 from rfl, BitVec.ofInt_natCast, BitVec.ofInt_natCast, BitVec.toNat_or, BitVec.toNat_ofNat, BitVec.toNat_ofNat, Nat.mod_eq_of_lt (a := q * 2) (by omega), Nat.mod_eq_of_lt (a := bI b) (by omega)]
  have : q * 2 ||| bI b = q * 2 + bI b := by
    rw [show q * 2 = q <<< 1 by rw [Nat.shiftLeft_eq], ← Nat.shiftLeft_add_eq_or_of_lt hb]
  rw [this, wu8n (by omega)]
/-- The coder's state behind `k` bits. -/
theorem unK_pl {X : List Nat} : ∀ (k v : Nat) (m : Mod) (d : Dst), Rng d.1 d.2.1 → Rng (unK X k v m d).2.2.1 (unK X k v m d).2.2.2.1 ∧ (unK X k v m d).2.2.2.2.2 ≤ d.2.2.2 + 4 * k
  | 0, v, m, d, hd => ⟨hd, Nat.le_refl _⟩
  | k + 1, v, m, d, hd => by
    rw [unK]
    have h2 := dstp_rng' (B := X) hd (chc_bd m.chance).2
    have ih := unK_pl (X := X) k ((v * 2 + bI (dbit (chc m.chance) d)) % 256) (m.asked.learn (bI (dbit (chc m.chance) d) : Nat)) _ h2.1
    refine ⟨ih.1, ?_⟩
    have := ih.2
    omega
/-! ### The given unpacker -/
structure UK (w : World) (S : Nat → Prop) (bp : Nat) (X : List Nat) (m : Mod) (d : Dst) : Prop where
  inS : S bp
  rng : Rng d.1 d.2.1
  cells : ∃ (bd bm : Nat) (S1 S2 : Nat → Prop), Bl 104 w bp [.pointer (some ⟨bd, 0, none⟩), .pointer (some ⟨bm, 0, none⟩)] ∧ DS 141 w S1 bd X d ∧ GM w S2 bm m ∧ (∀ x, S1 x → ¬ S2 x) ∧ ¬ S1 bp ∧ ¬ S2 bp ∧ (∀ x, S1 x → S x) ∧ (∀ x, S2 x → S x)
theorem UK.chg {w w' : World} {S T : Nat → Prop} {bp : Nat} {X : List Nat} {m : Mod} {d : Dst} (h : UK w S bp X m d) (hc : Chg T w w') (hn : ∀ b, S b → ¬ T b) : UK w' S bp X m d := by
  obtain ⟨i, rg, bd, bm, S1, S2, hb, hE, hG, hD, n1, n2, l1, l2⟩ := h
  exact ⟨i, rg, bd, bm, S1, S2, hb.chg hc (hn _ i), hE.chg hc fun b hb => hn b (l1 b hb), hG.chg hc fun b hb => hn b (l2 b hb), hD, n1, n2, l1, l2⟩
theorem unpacker_next_ok {w0 : World} {S : Nat → Prop} {bp : Nat} {X : List Nat} {m0 : Mod} {d0 : Dst} {K : Int → World → Prop} (hlt : ∀ b, S b → b < w0.heap.size) (h : UK w0 S bp X m0 d0) (hp : d0.2.2.2 ≤ 800000000) (hk : ∀ w', UK w' S bp X (unK X 8 0 m0 d0).2.1 (unK X 8 0 m0 d0).2.2 → Chg S w0 w' → K ((unK X 8 0 m0 d0).1 : Nat) w') : stream_unpacker_next.f (some ⟨bp, 0, none⟩) w0 K := by
  have loop : ∀ (N k v : Nat) (m : Mod) (d : Dst) (w : World), k ≤ 8 → 8 - k < N → v < 256 → d.2.2.2 ≤ 800000000 + 4 * k → unK X (8 - k) v m d = unK X 8 0 m0 d0 → UK w S bp X m d → Chg S w0 w →
      stream_unpacker_next.l3 N (some ⟨bp, 0, none⟩) v k w (fun o3_20 w => K o3_20 w) := by
    intro N
    induction N with
    | zero => intro k v m d w h1 h2; omega
    | succ N ih =>
      intro k v m d w h1 h2 hv hpl hun hU hC
      rw [stream_unpacker_next.l3]
      by_cases hk8 : k = 8
      · subst hk8
        rw [show (8 - 8 : Nat) = 0 from rfl, unK] at hun
        refine bif_f (dec_f (by omega)) ?_
        have e1 : v = (unK X 8 0 m0 d0).1 := by rw [← hun]
        have e2 : m = (unK X 8 0 m0 d0).2.1 := by rw [← hun]
        have e3 : d = (unK X 8 0 m0 d0).2.2 := by rw [← hun]
        rw [e2, e3] at hU
        rw [e1]
        exact hk w hU hC
      · obtain ⟨i, rg, bd, bm, S1, S2, hb, hE, hG, hD, n1, n2, l1, l2⟩ := hU
        have hltw : ∀ b, S b → b < w.heap.size := fun b hb => Nat.lt_of_lt_of_le (hlt b hb) hC.size
        refine bif_t (dec_t (by omega)) ?_
        have kd : Chg no w w.drew := Chg.drew no w
        have hbd := hb.chg kd fun h => h
        refine sm_some (ldP_b (i := 0) hbd rfl (sm_some (ldP_b (i := 1) hbd rfl ?_)))
        refine model_Chance_ok (w := w.drew) (fun b hb => hltw b (l2 b hb)) (hG.chg kd fun _ _ h => h) fun w1 hG1 hc1 => ?_
        have hz1 : w.heap.size ≤ w1.heap.size := hc1.size
        have hb1 := hbd.chg hc1 n2
        refine ⟨hb1.cell (i := 0) rfl, ?_⟩
        refine coder_Decode_ok ((hE.chg kd fun _ _ h => h).chg hc1 fun b hb h2 => hD b hb h2) rg (by omega) fun w2 hE2 hc2' => sm_some ?_
        have hc2 : Chg S1 w1 w2 := hc2'.mono fun b hb => by subst hb; exact hE2.inS
        have hz2 := hc2.size
        have hb2 := hb1.chg hc2 n1
        have hG2 := hG1.chg hc2 fun b hb h1 => hD b h1 hb
        rw [bI_if]
        refine ldP_b (i := 1) hb2 rfl (model_Learn_ok (bI_01 _) (fun b hb => by have := hltw b (l2 b hb); omega) hG2 fun w3 hG3 hc3 => ?_)
        dsimp only
        have hs := dstp_rng' (B := X) rg (chc_bd m.chance).2
        rw [bor_bit hv, inc (by omega)]
        rw [show 8 - k = (8 - (k + 1)) + 1 by omega, unK] at hun
        exact ih (k + 1) _ _ _ w3 (by omega) (by omega) (Nat.mod_lt _ (by omega)) (by omega) hun ⟨i, hs.1, bd, bm, S1, S2, hb2.chg hc3 n2, hE2.chg hc3 fun b hb h2 => hD b hb h2, hG3, hD, n1, n2, l1, l2⟩ (((hC.trans (Chg.drew _ w)).trans (hc1.mono fun b hb => l2 b hb)).trans ((hc2.mono fun b hb => l1 b hb).trans (hc3.mono fun b hb => l2 b hb)))
  unfold stream_unpacker_next.f
  exact ⟨9, loop 9 0 0 m0 d0 w0 (by omega) (by omega) (by omega) (by omega) rfl h (Chg.refl _ _)⟩
/-- What unpacking answers. -/
def unpB (X : List Nat) (n lv : Nat) : List Nat := unB X n (modNew lv) (dnew X)
theorem stream_Unpack_ok {x : Option Addr} {l c : Nat} {n lv : Int} {X : List Nat} {w : World} {K : Option Addr → Nat → Nat → Int → World → Prop} (hx : SlI .u8 w x (ints X)) (hl : X.length = l) (hby : ∀ x ∈ X, x < 256) (hl3 : l ≤ 140737488355328) (hn3 : n ≤ 3000 ∨ 1048576 < n)
    (h1 : (¬ (0 ≤ lv ∧ lv ≤ 2) ∨ n < 0) → ∀ w', Chg no w w' → K none 0 0 1 w') (h5 : 0 ≤ lv → lv ≤ 2 → 1048576 < n → ∀ w', Chg no w w' → K none 0 0 5 w')
    (h4 : 0 ≤ lv → lv ≤ 2 → 0 ≤ n → n ≤ 3000 → packN lv.toNat (unpB X n.toNat lv.toNat) ≠ X → ∀ w', Chg no w w' → K none 0 0 4 w')
    (h0 : 0 ≤ lv → lv ≤ 2 → 0 ≤ n → n ≤ 3000 → packN lv.toNat (unpB X n.toNat lv.toNat) = X → ∀ a c' w', SlI .u8 w' a (ints (unpB X n.toNat lv.toNat)) → Chg no w w' → K a n.toNat c' 0 w') : stream_Unpack.f x l c n lv w K := by
  unfold stream_Unpack.f stream_right.f
  by_cases hlv : 0 ≤ lv ∧ lv ≤ 2
  · obtain ⟨g0, g2⟩ := hlv
    refine bif_t (dec_t g0) ?_
    dsimp only
    refine bif_f (by rw [dec_t (by omega)]; rfl) ?_
    by_cases hn0 : n < 0
    · exact bif_t (dec_t hn0) (h1 (.inr hn0) w (Chg.refl _ _))
    refine bif_f (dec_f hn0) ?_
    by_cases hn5 : 1048576 < n
    · exact bif_t (dec_t hn5) (h5 g0 g2 hn5 w (Chg.refl _ _))
    refine bif_f (dec_f hn5) ?_
    obtain ⟨lv, rfl⟩ : ∃ l : Nat, lv = l := ⟨lv.toNat, by omega⟩
    obtain ⟨n, rfl⟩ : ∃ l : Nat, n = l := ⟨n.toNat, by omega⟩
    have h0 := h0 g0 g2 (by omega) (by omega)
    have h4 := h4 g0 g2 (by omega) (by omega)
    rw [Int.toNat_natCast, Int.toNat_natCast] at h0 h4
    have elv : (mx 0 (mn (lv : Int) 2)).toNat = lv := by unfold mx mn; (repeat' split) <;> omega
    refine coder_NewDecoder_ok hx hl hby hl3 fun bd w1 hE hc1 => model_New_ok fun bm w2 hG hc2 => newC_b fun w3 hb3 hc3 hs3 => ⟨n + 1, ?_⟩
    rw [elv] at hG
    have hz1 := hc1.size; have hz2 := hc2.size
    have k3 := (hc1.trans hc2).trans hc3
    have hE3 := (hE.chg hc2 fun _ _ h => h).chg hc3 fun _ _ h => h
    have hG3 := hG.chg hc3 fun _ _ h => h
    have hU : UK w3 (fun b => w.heap.size ≤ b ∧ b < w3.heap.size) w2.heap.size X (modNew lv) (dnew X) :=
      ⟨⟨by omega, by omega⟩, (dnew_rng' X).1, bd, bm, _, _, hb3, hE3, hG3, fun y hy hy2 => by omega, fun h => by omega, fun h => by omega, fun y hy => ⟨hy.1, by omega⟩, fun y hy => ⟨by omega, by omega⟩⟩
    have hx3 := hx.chg k3 fun _ _ _ h => h
    have xold : ∀ p, x = some p → ints X ≠ [] → ¬ w.heap.size ≤ p.block := fun p hp hne => by
      obtain ⟨q, hq, hcq⟩ := hx 0 (List.length_pos_iff.2 hne)
      rw [hp] at hq; cases hq
      have := block_lt hcq
      rw [add_block] at this
      omega
    have loop : ∀ (N i : Nat) (m : Mod) (d : Dst) (Y : List Nat) (S3 : Nat → Prop) (a : Option Addr) (ca : Nat) (w' : World), i ≤ n → n - i < N → Y.length = i → d.2.2.2 ≤ 4 + 32 * i → UK w' (fun b => w.heap.size ≤ b ∧ b < w3.heap.size) w2.heap.size X m d → Own .u8 5 S3 w' a i ca (ints Y) → (∀ b, S3 b → w3.heap.size ≤ b) → Y ++ unB X (n - i) m d = unpB X n lv → Chg (fun b => w.heap.size ≤ b) w3 w' →
        stream_Unpack.l8 N x l c lv ⟨w2.heap.size, 0, none⟩ a i ca n i w' (fun o0_26 o0_26n o0_26c o2_27 o9_28 o9_28n o9_28c w =>
          stream_Pack.f o9_28 o9_28n o9_28c o2_27 w fun r41_31 r41_31n r41_31c r41_32 w =>
          bif (r41_32 != 0) then
            K none 0 0 4 w
          else
            bytes_Equal.f o0_26 o0_26n o0_26c r41_31 r41_31n r41_31c w fun r49_34 w =>
            bif (!r49_34) then
              K none 0 0 4 w
            else
              K o9_28 o9_28n o9_28c 0 w) := by
      intro N
      induction N with
      | zero => intro i m d Y S3 a ca w' h1 h2; omega
      | succ N ih =>
        intro i m d Y S3 a ca w' hi hN hY hpl hU hO hS3 hun hc
        rw [stream_Unpack.l8]
        have hzc := hc.size
        by_cases hlt : i < n
        · refine bif_t (dec_t (by omega)) (unpacker_next_ok (fun b hb => by omega) hU (by omega) fun w4 hU4 hc4 => ?_)
          have hz4 := hc4.size
          rw [show n - i = (n - (i + 1)) + 1 by omega, unB] at hun
          have hpl8 := (unK_pl (X := X) 8 0 m d hU.rng).2
          generalize (unK X 8 0 m d).1 = v at hun
          generalize (unK X 8 0 m d).2.1 = m1 at hun hU4
          generalize (unK X 8 0 m d).2.2 = d1 at hun hU4 hpl8
          refine newC_sl (k := .u8) (xs := ints [v]) rfl fun p2 w5 hs5 hc5 hz5 hpb => ?_
          have hO5 := (hO.chg hc4 fun b hb h => by have := hS3 b hb; omega).chg hc5 fun _ _ h => h
          refine appL_own hO5 hs5 rfl (by omega) (by omega) fun a' c' w6 hO6 hc6 => ?_
          rw [inc (by omega)]
          rw [← ints_app] at hO6
          have hz6 := hc6.size
          refine ih (i + 1) m1 d1 (Y ++ [v]) _ a' c' w6 (by omega) (by omega) (by rw [List.length_append, hY]; rfl) (by omega) ((hU4.chg hc5 fun _ _ h => h).chg hc6 fun b hb h => by have := hS3 b h; omega) hO6 (fun b hb => by rcases hb with hb | hb; exact hS3 b hb; omega) (by rw [List.append_assoc]; exact hun) (((hc.trans (hc4.mono fun b hb => hb.1)).trans (hc5.mono fun _ h => h.elim)).trans (hc6.mono fun b hb => by have := hS3 b hb; omega))
        · have : i = n := by omega
          subst this
          rw [Nat.sub_self, unB, List.append_nil] at hun
          subst hun
          have hx4 := hx3.chg hc xold
          refine bif_f (dec_f (by omega)) (stream_Pack_ok hO.sl hY (unB_by X i _ _) (by omega) (fun h => (h ⟨by omega, by omega⟩).elim) fun _ _ a' c' w5 ho5 hc5 => ?_)
          rw [Int.toNat_natCast] at ho5
          rw [Int.toNat_natCast]
          have kk : Chg no w w5 := (k3.then hc fun j hj h => by omega).trans hc5
          refine bif_f rfl (bytes_Equal_ok (hx4.chg hc5 fun _ _ _ h => h) ho5 hl rfl hby (packN_by _ _) ?_)
          by_cases he : X = packN lv (unpB X i lv)
          · refine bif_f (by rw [decide_eq_true he]; rfl) ?_
            exact h0 he.symm a ca w5 (hO.sl.chg hc5 fun _ _ _ h => h) kk
          · refine bif_t (by rw [decide_eq_false he]; rfl) ?_
            exact h4 (fun h => he h.symm) w5 kk
    exact loop (n + 1) 0 _ _ [] no none 0 w3 (by omega) (by omega) rfl (by have := (dnew_rng' X).2; omega) hU (Own.nil _ _ _ _) (fun _ h => h.elim) rfl (Chg.refl _ _)
  · have k1 := h1 (.inl hlv) w (Chg.refl _ _)
    refine cond_of (fun hh => ?_) (fun hh => ?_)
    · have := of_decide_eq_true hh
      dsimp only
      refine bif_t ?_ k1
      rw [dec_f (by omega)]; rfl
    · exact bif_t rfl k1
/-! ### The reference's -/
structure VK (w : World) (S : Nat → Prop) (bd bm : Nat) (X : List Nat) (m : Mod) (d : Dst) : Prop where
  rng : Rng d.1 d.2.1
  cells : ∃ (S1 S2 : Nat → Prop), DS 143 w S1 bd X d ∧ RM w S2 bm m ∧ (∀ x, S1 x → ¬ S2 x) ∧ (∀ x, S1 x → S x) ∧ (∀ x, S2 x → S x)
theorem VK.chg {w w' : World} {S T : Nat → Prop} {bd bm : Nat} {X : List Nat} {m : Mod} {d : Dst} (h : VK w S bd bm X m d) (hc : Chg T w w') (hn : ∀ b, S b → ¬ T b) : VK w' S bd bm X m d := by
  obtain ⟨rg, S1, S2, hE, hG, hD, l1, l2⟩ := h
  exact ⟨rg, S1, S2, hE.chg hc fun b hb => hn b (l1 b hb), hG.chg hc fun b hb => hn b (l2 b hb), hD, l1, l2⟩
theorem VK.mono {w : World} {S T : Nat → Prop} {bd bm : Nat} {X : List Nat} {m : Mod} {d : Dst} (h : VK w S bd bm X m d) (hs : ∀ b, S b → T b) : VK w T bd bm X m d := by
  obtain ⟨rg, S1, S2, hE, hG, hD, l1, l2⟩ := h
  exact ⟨rg, S1, S2, hE, hG, hD, fun b hb => hs b (l1 b hb), fun b hb => hs b (l2 b hb)⟩
theorem gr_size {S : Nat → Prop} {w w' w'' : World} (h : w.heap.size ≤ w'.heap.size) (h2 : w'.heap.size ≤ w''.heap.size) : ∀ b, gr S w w' b → gr S w w'' b := fun b hb => by
  rcases hb with hb | hb
  · exact .inl hb
  · exact .inr ⟨hb.1, by omega⟩
theorem ref09_Unpack_ok {x : Option Addr} {l c : Nat} {n lv : Int} {X : List Nat} {w : World} {K : Option Addr → Nat → Nat → Int → World → Prop} (hx : SlI .u8 w x (ints X)) (hl : X.length = l) (hby : ∀ x ∈ X, x < 256) (hl3 : l ≤ 140737488355328) (hn3 : n ≤ 3000 ∨ 1048576 < n)
    (h1 : (¬ (0 ≤ lv ∧ lv ≤ 2) ∨ n < 0) → ∀ w', Chg no w w' → K none 0 0 1 w') (h5 : 0 ≤ lv → lv ≤ 2 → 1048576 < n → ∀ w', Chg no w w' → K none 0 0 5 w')
    (h4 : 0 ≤ lv → lv ≤ 2 → 0 ≤ n → n ≤ 3000 → packN lv.toNat (unpB X n.toNat lv.toNat) ≠ X → ∀ w', Chg no w w' → K none 0 0 4 w')
    (h0 : 0 ≤ lv → lv ≤ 2 → 0 ≤ n → n ≤ 3000 → packN lv.toNat (unpB X n.toNat lv.toNat) = X → ∀ a c' w', SlI .u8 w' a (ints (unpB X n.toNat lv.toNat)) → Chg no w w' → K a n.toNat c' 0 w') : ref09_Unpack.f x l c n lv w K := by
  unfold ref09_Unpack.f
  refine cond_of (fun hh => h1 (.inl fun h => by have := of_decide_eq_true hh; omega) w (Chg.refl _ _)) (fun hh1 => cond_of (fun hh => h1 (.inl fun h => by have := of_decide_eq_true hh; omega) w (Chg.refl _ _)) (fun hh2 => cond_of (fun hh => h1 (.inr (of_decide_eq_true hh)) w (Chg.refl _ _)) (fun hh3 => ?_)))
  have g0 : 0 ≤ lv := by have := of_decide_eq_false hh1; omega
  have g2 : lv ≤ 2 := by have := of_decide_eq_false hh2; omega
  have hn0 : 0 ≤ n := by have := of_decide_eq_false hh3; omega
  by_cases hn5 : 1048576 < n
  · exact bif_t (dec_t hn5) (h5 g0 g2 hn5 w (Chg.refl _ _))
  refine bif_f (dec_f hn5) ?_
  obtain ⟨lv, rfl⟩ : ∃ l : Nat, lv = l := ⟨lv.toNat, by omega⟩
  obtain ⟨n, rfl⟩ : ∃ l : Nat, n = l := ⟨n.toNat, by omega⟩
  have h0 := h0 g0 g2 (by omega) (by omega)
  have h4 := h4 g0 g2 (by omega) (by omega)
  rw [Int.toNat_natCast, Int.toNat_natCast] at h0 h4
  have elv : (mx 0 (mn (lv : Int) 2)).toNat = lv := by unfold mx mn; (repeat' split) <;> omega
  refine ref04_NewDecoder_ok hx hl hby hl3 fun bd w1 hE hc1 => ref08_New_ok fun bm w2 hG hc2 => ⟨n + 1, ?_⟩
  rw [elv] at hG
  have hz1 := hc1.size; have hz2 := hc2.size
  have k2 := hc1.trans hc2
  have hV : VK w2 (fun b => w.heap.size ≤ b ∧ b < w2.heap.size) bd bm X (modNew lv) (dnew X) :=
    ⟨(dnew_rng' X).1, _, _, hE.chg hc2 fun _ _ h => h, hG, fun y hy hy2 => by omega, fun y hy => ⟨hy.1, by omega⟩, fun y hy => ⟨by omega, by omega⟩⟩
  have hx2 := hx.chg k2 fun _ _ _ h => h
  have xold : ∀ p, x = some p → ints X ≠ [] → ¬ w.heap.size ≤ p.block := fun p hp hne => by
    obtain ⟨q, hq, hcq⟩ := hx 0 (List.length_pos_iff.2 hne)
    rw [hp] at hq; cases hq
    have := block_lt hcq
    rw [add_block] at this
    omega
  have inner : ∀ (S : Nat → Prop) (K2 : Option Addr → Nat → Nat → Int → Int → Option Addr → Option Addr → Option Addr → Nat → Nat → Int → Int → World → Prop) (a : Option Addr) (na ca i : Nat) (m0 : Mod) (d0 : Dst) (w0 : World), (∀ b, S b → b < w0.heap.size) → d0.2.2.2 ≤ 800000000 →
      (∀ w', VK w' (gr S w0 w') bd bm X (unK X 8 0 m0 d0).2.1 (unK X 8 0 m0 d0).2.2 → Chg S w0 w' → K2 x l c n lv (some ⟨bd, 0, none⟩) (some ⟨bm, 0, none⟩) a na ca i ((unK X 8 0 m0 d0).1 : Nat) w') →
      ∀ (N k v : Nat) (m : Mod) (d : Dst) (w' : World), k ≤ 8 → 8 - k < N → v < 256 → d.2.2.2 ≤ 800000000 + 4 * k → unK X (8 - k) v m d = unK X 8 0 m0 d0 → VK w' (gr S w0 w') bd bm X m d → Chg S w0 w' →
      ref09_Unpack.l12 N x l c n lv (some ⟨bd, 0, none⟩) (some ⟨bm, 0, none⟩) a na ca i v k w' K2 := by
    intro S K2 a na ca i m0 d0 w0 hlt hp hk N
    induction N with
    | zero => intro k v m d w' h1 h2; omega
    | succ N ih =>
      intro k v m d w' h1 h2 hv hpl hun hV hC
      rw [ref09_Unpack.l12]
      by_cases hk8 : k = 8
      · subst hk8
        rw [show (8 - 8 : Nat) = 0 from rfl, unK] at hun
        refine bif_f (dec_f (by omega)) ?_
        have e1 : v = (unK X 8 0 m0 d0).1 := by rw [← hun]
        have e2 : m = (unK X 8 0 m0 d0).2.1 := by rw [← hun]
        have e3 : d = (unK X 8 0 m0 d0).2.2 := by rw [← hun]
        rw [e2, e3] at hV
        rw [e1]
        exact hk w' hV hC
      · obtain ⟨rg, S1, S2, hE, hG, hD, l1, l2⟩ := hV
        have hz0 := hC.size
        have hltw : ∀ b, gr S w0 w' b → b < w'.heap.size := fun b hb => by
          rcases hb with hb | hb
          · have := hlt b hb; omega
          · exact hb.2
        refine bif_t (dec_t (by omega)) (ref08_Chance_ok (fun b hb => hltw b (l2 b hb)) hG fun w3 hG3 hc3 => ?_)
        have hz3 := hc3.size
        refine ref04_Decode_ok (hE.chg hc3 fun b hb h2 => hD b hb h2) rg (by omega) fun w4 hE4 hc4' => ?_
        have hc4 : Chg S1 w3 w4 := hc4'.mono fun b hb => by subst hb; exact hE4.inS
        have hz4 := hc4.size
        have hD4 : ∀ b, S1 b → ¬ gr S2 w' w3 b := fun b hb h => by
          rcases h with h | h
          · exact hD b hb h
          · have := hltw b (l1 b hb); omega
        rw [bI_if]
        refine ref08_Learn_ok (bI_01 _) (fun b hb => ?_) (hG3.chg hc4 fun b hb h1 => hD4 b h1 hb) fun w5 hG5 hc5 => ?_
        · rcases hb with hb | hb
          · have := hltw b (l2 b hb); omega
          · omega
        have hz5 := hc5.size
        dsimp only
        have hs := dstp_rng' (B := X) rg (chc_bd m.chance).2
        rw [bor_bit hv, inc (by omega)]
        rw [show 8 - k = (8 - (k + 1)) + 1 by omega, unK] at hun
        have up : ∀ b, gr S w0 w' b → gr S w0 w5 b := gr_size hz0 (by omega)
        refine ih (k + 1) _ _ _ w5 (by omega) (by omega) (Nat.mod_lt _ (by omega)) (by omega) hun ⟨hs.1, S1, _, hE4.chg hc5 fun b hb h2 => hD4 b hb h2, hG5, ?_, fun b hb => up b (l1 b hb), ?_⟩ ?_
        · intro b hb h
          rcases h with h | h
          · exact hD4 b hb h
          · have := hltw b (l1 b hb); omega
        · intro b hb
          rcases hb with (hb | hb) | hb
          · exact up b (l2 b hb)
          · exact .inr ⟨by omega, by omega⟩
          · exact .inr ⟨by omega, by omega⟩
        · refine ((hC.then hc3 fun j hj h => ?_).then hc4 fun j hj h => ?_).then hc5 fun j hj h => ?_
          · rcases l2 j h with h | h
            · exact h
            · omega
          · rcases l1 j h with h | h
            · exact h
            · omega
          · rcases h with h | h
            · rcases l2 j h with h | h
              · exact h
              · omega
            · omega
  have loop : ∀ (N i : Nat) (m : Mod) (d : Dst) (Y : List Nat) (S S3 : Nat → Prop) (a : Option Addr) (ca : Nat) (w' : World), i ≤ n → n - i < N → Y.length = i → d.2.2.2 ≤ 4 + 32 * i → VK w' S bd bm X m d → Own .u8 5 S3 w' a i ca (ints Y) → Dis S S3 w' → (∀ b, S b → w.heap.size ≤ b) → (∀ b, S3 b → w.heap.size ≤ b) → Y ++ unB X (n - i) m d = unpB X n lv → Chg (fun b => w.heap.size ≤ b) w2 w' →
      ref09_Unpack.l8 N x l c n lv (some ⟨bd, 0, none⟩) (some ⟨bm, 0, none⟩) a i ca i w' (fun o0_44 o0_44n o0_44c o2_45 o10_46 o10_46n o10_46c w =>
            ref09_Pack.f o10_46 o10_46n o10_46c o2_45 w fun r61_48 r61_48n r61_48c r61_49 w =>
            help_Bytes.f o0_44 o0_44n o0_44c r61_48 r61_48n r61_48c w fun r66_52 w =>
            bif (!r66_52) then
              K none 0 0 4 w
            else
              K o10_46 o10_46n o10_46c 0 w) := by
    intro N
    induction N with
    | zero => intro i m d Y S S3 a ca w' h1 h2; omega
    | succ N ih =>
      intro i m d Y S S3 a ca w' hi hN hY hpl hV hO hD hS hS3 hun hc
      rw [ref09_Unpack.l8]
      have hzc := hc.size
      by_cases hlt : i < n
      · refine bif_t (dec_t (by omega)) ⟨9, inner S _ a i ca i m d w' hD.a (by omega) (fun w4 hV4 hc4 => ?_) 9 0 0 m d w' (by omega) (by omega) (by omega) (by omega) rfl (hV.mono fun b hb => .inl hb) (Chg.refl _ _)⟩
        have hz4 := hc4.size
        rw [show n - i = (n - (i + 1)) + 1 by omega, unB] at hun
        have hpl8 := (unK_pl (X := X) 8 0 m d hV.rng).2
        generalize (unK X 8 0 m d).1 = v at hun
        generalize (unK X 8 0 m d).2.1 = m1 at hun hV4
        generalize (unK X 8 0 m d).2.2 = d1 at hun hV4 hpl8
        refine newC_sl (k := .u8) (xs := ints [v]) rfl fun p2 w5 hs5 hc5 hz5 hpb => ?_
        have hz5' := hc5.size
        have hO5 := (hO.chg hc4 fun b hb h => hD.ab b h hb).chg hc5 fun _ _ h => h
        refine appL_own hO5 hs5 rfl (by omega) (by omega) fun a' c' w6 hO6 hc6 => ?_
        dsimp only
        rw [inc (by omega)]
        rw [← ints_app] at hO6
        have hz6 := hc6.size
        have hD4 := hD.grow hz4
        refine ih (i + 1) m1 d1 (Y ++ [v]) _ (fun b => b < w6.heap.size ∧ (S3 b ∨ b = w5.heap.size)) a' c' w6 (by omega) (by omega) (by rw [List.length_append, hY]; rfl) (by omega) ((hV4.chg hc5 fun _ _ h => h).chg hc6 fun b hb h => hD4.ab b hb h) (hO6.mono fun b hb hl => ⟨hl, hb⟩) ⟨fun b hb => by have := hD4.a b hb; omega, fun b hb => hb.1, fun b hb h => ?_⟩ (fun b hb => by rcases hb with hb | hb; exact hS b hb; omega) (fun b hb => by rcases hb.2 with hb | hb; exact hS3 b hb; omega) (by rw [List.append_assoc]; exact hun) (((hc.trans (hc4.mono fun b hb => hS b hb)).trans (hc5.mono fun _ h => h.elim)).trans (hc6.mono fun b hb => hS3 b hb))
        rcases h.2 with h | h
        · exact hD4.ab b hb h
        · have := hD4.a b hb; omega
      · have : i = n := by omega
        subst this
        rw [Nat.sub_self, unB, List.append_nil] at hun
        subst hun
        have hx4 := hx2.chg hc xold
        refine bif_f (dec_f (by omega)) (ref09_Pack_ok hO.sl hY (unB_by X i _ _) (by omega) (fun h => (h ⟨by omega, by omega⟩).elim) fun _ _ a' c' w5 ho5 hc5 => ?_)
        rw [Int.toNat_natCast] at ho5
        rw [Int.toNat_natCast]
        have kk : Chg no w w5 := (k2.then hc fun j hj h => by omega).trans hc5
        refine help_Bytes_ok (hx4.chg hc5 fun _ _ _ h => h) ho5 hl rfl hby (packN_by _ _) ?_
        by_cases he : X = packN lv (unpB X i lv)
        · refine bif_f (by rw [decide_eq_true he]; rfl) ?_
          exact h0 he.symm a ca w5 (hO.sl.chg hc5 fun _ _ _ h => h) kk
        · refine bif_t (by rw [decide_eq_false he]; rfl) ?_
          exact h4 (fun h => he h.symm) w5 kk
  exact loop (n + 1) 0 _ _ [] _ no none 0 w2 (by omega) (by omega) rfl (by have := (dnew_rng' X).2; omega) hV (Own.nil _ _ _ _) ⟨fun b hb => hb.2, fun _ h => h.elim, fun _ _ h => h⟩ (fun b hb => hb.1) (fun _ h => h.elim) rfl (Chg.refl _ _)
/-! ### There and back -/
theorem unK_pack {X : List Nat} : ∀ (k v : Nat) (m : Mod) (d : Dst) (bs : List Int) (r : List (Bool × Nat)), bs.length = k → (∀ b ∈ bs, b = 0 ∨ b = 1) → Ahead X d (trc m bs ++ r) →
    (unK X k v m d).1 = bs.foldl (fun v b => (v * 2 + b.toNat) % 256) v ∧ (unK X k v m d).2.1 = mrun m bs ∧ Ahead X (unK X k v m d).2.2 r
  | 0, v, m, d, bs, r, hl, _, ha => by
    cases List.length_eq_zero_iff.1 hl
    exact ⟨rfl, rfl, ha⟩
  | k + 1, v, m, d, [], r, hl, _, ha => by cases hl
  | k + 1, v, m, d, b :: bs, r, hl, hb, ha => by
    rw [trc, List.cons_append] at ha
    have h1 := ha.bit
    have h2 := ha.step
    have hb0 := hb b List.mem_cons_self
    have e : bI (b != 0) = b.toNat ∧ ((bI (b != 0) : Nat) : Int) = b := by rcases hb0 with rfl | rfl <;> exact ⟨rfl, rfl⟩
    rw [unK, h1, e.2, e.1]
    exact unK_pack k _ _ _ bs r (by simpa using hl) (fun c hc => hb c (List.mem_cons_of_mem _ hc)) h2
theorem bits8_all : ((List.range 256).all fun c => (bits8 c).foldl (fun v b => (v * 2 + b.toNat) % 256) 0 == c) = true := by decide +kernel
theorem bits8_back {c : Nat} (h : c < 256) : (bits8 c).foldl (fun v b => (v * 2 + b.toNat) % 256) 0 = c := by
  have := List.all_eq_true.1 bits8_all c (List.mem_range.2 h)
  simpa using this
theorem unB_pack {X : List Nat} : ∀ (B : List Nat) (m : Mod) (d : Dst), (∀ x ∈ B, x < 256) → Ahead X d (trc m (bitsB B)) → unB X B.length m d = B
  | [], m, d, _, _ => rfl
  | c :: B, m, d, hB, ha => by
    have e : bitsB (c :: B) = bits8 c ++ bitsB B := rfl
    rw [e, trc_app] at ha
    have h := unK_pack 8 0 m d (bits8 c) _ (bits8_len c) bits8_01 ha
    rw [List.length_cons, unB, h.1, bits8_back (hB c List.mem_cons_self), h.2.1, unB_pack B _ _ (fun x hx => hB x (List.mem_cons_of_mem _ hx)) h.2.2]
theorem unp_pack {B : List Nat} (lv : Nat) (hB : ∀ x ∈ B, x < 256) : unpB (packN lv B) B.length lv = B :=
  unB_pack B _ _ hB (Ahead.new (trc_ch _ _))
end Go.Proofs.Ytdbnobeopgfhgaa.G
