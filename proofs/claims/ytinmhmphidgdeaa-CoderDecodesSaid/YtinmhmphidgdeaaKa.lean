/- The laws of the range coder's encoder. -/
import Derived.Test.YtinmhmphidgdeaaMc
import Derived.Test.YtinmhmphidgdeaaXh
import Derived.Test.YtinmhmphidgdeaaGenLawCoderEncodes
import Derived.Test.YtinmhmphidgdeaaGenLawCoderSmall
import Derived.Test.YtinmhmphidgdeaaGenLawCoderNil
set_option linter.unusedVariables false
set_option linter.unusedSimpArgs false
namespace Go.Proofs.Ytinmhmphidgdeaa.G
open Go Go.Proofs.Ytinmhmphidgdeaa.Vm Go.RowKit
theorem law04_awake_ok {w : World} {K : Bool → World → Prop} (hk : ∀ w', Chg no w w' → K true w') : law04_awake.f w K := by
  unfold law04_awake.f
  refine coder_NewEncoder_ok fun bt w1 hE hc1 => bif_f rfl ?_
  refine coder_Encode_ok (fun b hb => hb.2.1) hE Rng.full (by simp) fun w2 hE2 hc2 => ?_
  have e : stp ((0 : Int) != 0) (chc 2048) 0 4294967295 = ([], 2147483648, 4294967295) := by decide +kernel
  rw [e] at hE2
  dsimp only at hE2
  have hz1 := hc1.size; have hz2 := hc2.size
  have hlt2 : ∀ b, gr (fun b => w.heap.size ≤ b ∧ b < w1.heap.size ∧ b = bt) w1 w2 b → b < w2.heap.size := fun b hb => by
    rcases hb with hb | hb <;> omega
  refine coder_Flush_ok hlt2 hE2 (by omega) (by simp) fun a c w3 ho hE3 hc3 => ?_
  have e2 : ints (([] : List Nat) ++ [] ++ by4 2147483648) = [128, 0, 0, 0] := by decide +kernel
  rw [e2] at ho
  have hs := ho.sl
  refine bif_t (by simp) (rdV hs 0 rfl (by simp) (v := 128) rfl fun _ _ => bif_t rfl (rdV hs 3 rfl (by simp) (v := 0) rfl fun _ _ => ?_))
  refine hk w3 ((hc1.then hc2 fun k hk h => ?_).then hc3 fun k hk h => ?_)
  · have := h.1; omega
  · rcases h with h | h <;> omega
theorem help_Spoil_ok {e : TypeId} {S : Nat → Prop} {w : World} {a : Option Addr} {n c : Nat} {ys : List Int} {K : World → Prop} (h : Own .u8 e S w a n c ys) (hn : n < 4611686018427387904) (hk : ∀ w', Chg S w w' → K w') : help_Spoil.f a n c w K := by
  have loop : ∀ (N i : Nat) (ys : List Int) (w' : World), n - i < N → i ≤ n → Own .u8 e S w' a n c ys → Chg S w w' → help_Spoil.l1 N a n c i w' (fun w => K w) := by
    intro N
    induction N with
    | zero => intro i ys w' h; omega
    | succ N ih =>
      intro i ys w' h1 h2 ho hc
      rw [help_Spoil.l1]
      have hl := ho.length
      by_cases hlt : i < n
      · refine bif_t (dec_t (by omega)) (rdS ho.sl i rfl hl (by omega) fun _ _ => wrS ho i rfl (by omega) fun _ w2 ho2 hc2 => ?_)
        dsimp only
        rw [inc (by omega)]
        exact ih (i + 1) _ w2 (by omega) (by omega) ho2 (hc.trans hc2)
      · exact bif_f (dec_f (by omega)) (hk w' hc)
  unfold help_Spoil.f
  exact ⟨n + 1, loop (n + 1) 0 ys w (by omega) (by omega) h (Chg.refl _ _)⟩
/-- Pairs of whole numbers handed in. -/
def SlP (w : World) (a : Option Addr) (ps : List (Int × Int)) : Prop := ∀ i p, ps[i]? = some p → ∃ q, a = some q ∧ w.cell? (q.add (i * 2)) = some (.int .i64 p.1) ∧ w.cell? ((q.add (i * 2)).add 1) = some (.int .i64 p.2)
theorem SlP.below {W w : World} {a : Option Addr} {ps : List (Int × Int)} (h : SlP W a ps) (b : Below W.heap.size W w) : SlP w a ps := fun i p hp => by
  obtain ⟨q, hq, h1, h2⟩ := h i p hp
  exact ⟨q, hq, below_cell b h1, below_cell b h2⟩
theorem fits_pairs {w : World} {by' : Nat} {a : Option Addr} {n c : Nat} (h : Fits w (.slc (.st (.pair 1 (.int .i64) (.pair 1 (.int .i64) .unit))) 2 by') [.slice a n c]) : n ≤ c ∧ c * by' ≤ 140737488351232 ∧ ∃ ps : List (Int × Int), ps.length = n ∧ SlP w a ps := by
  obtain ⟨h1, h2, L, hL, hR, hF⟩ := h.rows
  have key : ∀ i, i < n → ∃ p : Int × Int, L[i]? = some [.int .i64 p.1, .int .i64 p.2] := fun i hi => by
    have hi' : i < L.length := by omega
    obtain ⟨q, hq, hl, _⟩ := hR i hi'
    obtain ⟨⟨x, h1, _⟩, ⟨y, h2, _⟩, _⟩ := hF _ (List.getElem_mem hi')
    refine ⟨(x, y), ?_⟩
    rw [List.getElem?_eq_getElem hi']
    generalize L[i] = l at hl h1 h2
    match l, hl with
    | [u, v], _ =>
      simp at h1 h2
      subst h1 h2; rfl
  obtain ⟨f, hf⟩ := Go.Deep.choose_lt key
  refine ⟨h1, h2, (List.range n).map f, by simp, fun i p hp => ?_⟩
  have hi : i < n := by have := (List.getElem?_eq_some_iff.1 hp).1; simpa using this
  rw [List.getElem?_map, List.getElem?_range hi] at hp
  cases hp
  have hg := hf i hi
  obtain ⟨hiL, hge⟩ := List.getElem?_eq_some_iff.1 hg
  obtain ⟨q, hq, hl, hc⟩ := hR i hiL
  refine ⟨q, hq, ?_, ?_⟩
  · have := hc 0 (.int .i64 (f i).1) (by rw [hge]; rfl)
    rwa [show (q.add (i * 2)).add 0 = q.add (i * 2) from rfl] at this
  · exact hc 1 (.int .i64 (f i).2) (by rw [hge]; rfl)
theorem rdP1 {w : World} {a : Option Addr} {ps : List (Int × Int)} {n i : Nat} {p : Int × Int} {K : Addr → Int → Prop} (h : SlP w a ps) (hn : ps.length = n) (hp : ps[i]? = some p) (hk : ∀ q, a = some q → w.cell? (q.add (i * 2)) = some (.int .i64 p.1) → K q p.1) :
    sm a fun q => if 0 ≤ (i : Int) ∧ (i : Int) < (n : Int) then ldI .i64 (q.add (Int.toNat (i : Int) * 2)) w (K q) else False := by
  obtain ⟨q, rfl, h1, h2⟩ := h i p hp
  have hi := (List.getElem?_eq_some_iff.1 hp).1
  refine sm_some (if_of ⟨by omega, by omega⟩ ?_)
  rw [Int.toNat_natCast]
  exact ldI_of h1 (hk q rfl h1)
theorem rdP2 {w : World} {a : Option Addr} {ps : List (Int × Int)} {n i : Nat} {p : Int × Int} {K : Addr → Int → Prop} (h : SlP w a ps) (hn : ps.length = n) (hp : ps[i]? = some p) (hk : ∀ q, a = some q → K q p.2) :
    sm a fun q => if 0 ≤ (i : Int) ∧ (i : Int) < (n : Int) then ldI .i64 ((q.add (Int.toNat (i : Int) * 2)).add 1) w (K q) else False := by
  obtain ⟨q, rfl, h1, h2⟩ := h i p hp
  have hi := (List.getElem?_eq_some_iff.1 hp).1
  refine sm_some (if_of ⟨by omega, by omega⟩ ?_)
  rw [Int.toNat_natCast]
  exact ldI_of h2 (hk q rfl)
/-- Both encoders are in one state. -/
structure Both (W w : World) (S T : Nat → Prop) (b1 b2 lo hi : Nat) (out : List Nat) : Prop where
  rng : Rng lo hi
  a : ES 86 w S b1 lo hi out
  b : ES 91 w T b2 lo hi out
  dis : Dis S T w
  lo1 : ∀ x, S x → W.heap.size ≤ x
  lo2 : ∀ x, T x → W.heap.size ≤ x
  bel : Below W.heap.size W w
theorem gr_lo {W w w' : World} {S : Nat → Prop} (h : ∀ x, S x → W.heap.size ≤ x) (hw : W.heap.size ≤ w.heap.size) : ∀ x, gr S w w' x → W.heap.size ≤ x := fun x hx => hx.elim (h x) fun hx => by omega
set_option maxRecDepth 20000 in
theorem law04_CoderEncodes_l8 {W : World} {x y : Option Addr} {n c m d b1 b2 : Nat} {r : Int} {ps : List (Int × Int)} {K2 : Option Addr → Nat → Nat → Option Addr → Option Addr → Int → World → Prop} (hx : SlP W x ps) (hxl : ps.length = n)
    (hk : ∀ S T lo hi out w, Both W w S T b1 b2 lo hi out → out.length ≤ 8000 → K2 y m d (some ⟨b1, 0, none⟩) (some ⟨b2, 0, none⟩) r w) (N : Nat) :
    ∀ (i : Nat) (S T : Nat → Prop) (lo hi : Nat) (out : List Nat) (w : World), i ≤ 2000 → 2000 - i < N → out.length ≤ 4 * i → Both W w S T b1 b2 lo hi out →
      law04_CoderEncodes.l8 N x n c y m d (some ⟨b1, 0, none⟩) (some ⟨b2, 0, none⟩) r i w K2 := by
  induction N with
  | zero => intro i S T lo hi out w h1 h2; omega
  | succ N ih =>
    intro i S T lo hi out w hi2 hN hL hB
    rw [law04_CoderEncodes.l8]
    have fin := hk S T lo hi out w hB (by omega)
    refine cond_of (fun h1 => cond_of (fun h2 => ?_) (fun _ => fin)) (fun _ => fin)
    have hlt : i < n := by have := of_decide_eq_true h1; omega
    have hlt2 : i < 2000 := by have := of_decide_eq_true h2; omega
    obtain ⟨p, hp⟩ : ∃ p, ps[i]? = some p := ⟨_, List.getElem?_eq_getElem (by omega)⟩
    have hsz := hB.bel.size
    have bd := below_no hB.bel (Chg.drew no w) hsz
    have hch := (chc_bd p.2).2
    refine rdP1 (hx.below bd) hxl hp fun _ _ _ => rdP2 (hx.below bd) hxl hp fun _ _ => ?_
    refine coder_Encode_ok (w := w.drew) hB.dis.a (hB.a.chg (Chg.drew no w) fun _ _ h => h) hB.rng (by omega) fun w1 hE1 hc1 => ?_
    have hs := stp_ok (b := p.1 != 0) hB.rng hch
    have hz1 : w.heap.size ≤ w1.heap.size := hc1.size
    have B1 := below_chg bd hc1 hsz hB.lo1
    have D1 := hB.dis.grow hz1
    have R1 := (hB.b.chg (Chg.drew no w) fun _ _ h => h).chg hc1 fun b hb hs => hB.dis.ab b hs hb
    have bd1 := below_no B1 (Chg.drew no w1) (by omega)
    refine rdP1 (hx.below bd1) hxl hp fun _ _ _ => rdP2 (hx.below bd1) hxl hp fun _ _ => ?_
    refine ref04_Encode_ok (w := w1.drew) D1.b (R1.chg (Chg.drew no w1) fun _ _ h => h) hB.rng (by omega) fun w2 hE2 hc2 => ?_
    have hz2 : w1.heap.size ≤ w2.heap.size := hc2.size
    dsimp only
    rw [inc (by omega)]
    refine ih (i + 1) _ _ _ _ _ w2 (by omega) (by omega) (by rw [List.length_append]; have := hs.2.2; omega) ⟨hs.1, (hE1.chg (Chg.drew no w1) fun _ _ h => h).chg hc2 fun b hb ht => D1.ab b hb ht, hE2, (D1.swap.grow hz2).swap, gr_lo hB.lo1 hsz, gr_lo hB.lo2 (Nat.le_trans hsz hz1), below_chg bd1 hc2 (by exact Nat.le_trans hsz hz1) hB.lo2⟩
theorem law04_CoderEncodes_said {x y : Option Addr} {n c m d : Nat} {W : World} {K : Bool → World → Prop} (f : Fits W (.slc (.st (.pair 1 (.int .i64) (.pair 1 (.int .i64) .unit))) 2 16) [.slice x n c]) (g : Fits W (.slc (.st (.pair 1 (.int .i64) (.pair 1 (.int .i64) .unit))) 2 16) [.slice y m d])
    (hk : ∀ w', Below W.heap.size W w' → K true w') : law04_CoderEncodes.f x n c y m d W K := by
  obtain ⟨_, _, ps, hpl, hp⟩ := fits_pairs f
  obtain ⟨_, _, qs, hql, hq⟩ := fits_pairs g
  unfold law04_CoderEncodes.f
  refine coder_NewEncoder_ok fun b1 w1 hE1 hc1 => ref04_NewEncoder_ok fun b2 w2 hE2 hc2 => law04_awake_ok fun w3 hc3 => bif_f rfl (bif_f rfl ⟨3, ?_⟩)
  have hz1 := hc1.size; have hz2 := hc2.size; have hz3 := hc3.size
  have loop : ∀ (N r : Nat) (x : Option Addr) (n c : Nat) (ps : List (Int × Int)) (S T : Nat → Prop) (w : World), SlP W x ps → ps.length = n → r ≤ 2 → 2 - r < N → Both W w S T b1 b2 0 4294967295 [] →
      law04_CoderEncodes.l5 N x n c y m d (some ⟨b1, 0, none⟩) (some ⟨b2, 0, none⟩) (r : Int) w (fun w => K true w) (fun o w => K o w) := by
    intro N
    induction N with
    | zero => intro r x n c ps S T w _ _ h1 h2; omega
    | succ N ih =>
      intro r x n c ps S T w hp hpl h1 h2 hB
      rw [law04_CoderEncodes.l5]
      refine cond_of (fun hh => ?_) (fun _ => hk w hB.bel)
      have hr2 : r < 2 := by have := of_decide_eq_true hh; omega
      refine ⟨2001, law04_CoderEncodes_l8 hp hpl (fun S T lo hi out w hB hL => ?_) 2001 0 S T 0 4294967295 [] w (by omega) (by omega) (by simp) hB⟩
      have hlo : lo < 4294967296 := by have := hB.rng.lt; have := hB.rng.bd; omega
      have hsz := hB.bel.size
      refine coder_Flush_ok hB.dis.a hB.a hlo (by omega) fun a4 c4 w4 h4 hE4 hc4 => ?_
      have hz4 := hc4.size
      have hb1 := hB.a.inS
      have hb2 := hB.b.inS
      have R4 := hB.b.chg hc4 fun b hb hs => hB.dis.ab b hs hb
      have D4 := hB.dis.grow hz4
      have B4 := below_chg hB.bel hc4 hsz hB.lo1
      refine ref04_Flush_ok D4.b R4 hlo (by omega) fun a5 c5 w5 h5 hE5 hc5 => ?_
      have hz5 := hc5.size
      have B5 := below_chg B4 hc5 (by omega) hB.lo2
      have h45 := h4.chg hc5 fun b hb ht => D4.ab b hb.1 ht
      have E45 := hE4.chg hc5 fun b hb ht => by subst hb; exact hB.dis.ab _ hb1 ht
      have l4 := h45.length
      refine help_Bytes_eq h45.sl h5.sl l4 l4 (bif_f rfl ?_)
      refine help_Spoil_ok h45 (by omega) fun w6 hc6 => ?_
      dsimp only
      rw [inc (by omega)]
      have hz6 := hc6.size
      refine ih (r + 1) y m d qs (fun b => b = b1) (fun b => b = b2) w6 hq hql (by omega) (by omega) ⟨Rng.full, E45.chg hc6 fun b hb ht => ht.2 hb, hE5.chg hc6 fun b hb ht => by subst hb; exact D4.ab _ ht.1 hb2, ⟨?_, ?_, ?_⟩, ?_, ?_, below_chg B5 hc6 (by omega) fun b hb => gr_lo hB.lo1 hsz b hb.1⟩
      · intro b hb; subst hb; have := hB.dis.a _ hb1; omega
      · intro b hb; subst hb; have := hB.dis.b _ hb2; omega
      · intro b hb he; subst hb; subst he; exact hB.dis.ab _ hb1 hb2
      · intro b hb; subst hb; exact hB.lo1 _ hb1
      · intro b hb; subst hb; exact hB.lo2 _ hb2
  refine loop 3 0 x n c ps _ _ w3 hp hpl (by omega) (by omega) ⟨Rng.full, (hE1.chg hc2 fun _ _ h => h).chg hc3 fun _ _ h => h, hE2.chg hc3 fun _ _ h => h, ⟨?_, ?_, ?_⟩, ?_, ?_, below_no (Below.refl _ _) ((hc1.trans hc2).trans hc3) (Nat.le_refl _)⟩
  · intro b hb; omega
  · intro b hb; omega
  · intro b hb he; omega
  · intro b hb; omega
  · intro b hb; omega
theorem law04_CoderNil_said {a b : Int} {W : World} {K : Bool → World → Prop} (_ : (Lit.int .i64 a).wf = true) (_ : (Lit.int .i64 b).wf = true) (hk : ∀ w', Below W.heap.size W w' → K true w') : law04_CoderNil.f a b W K := by
  have e1 : ∀ {w : World} {K : World → Prop}, K w → coder_Encoder_Encode.f none a b w K := fun h => by unfold coder_Encoder_Encode.f; exact h
  have e2 : ∀ {w : World} {K : Option Addr → Nat → Nat → World → Prop}, K none 0 0 w → coder_Encoder_Flush.f none w K := fun h => by unfold coder_Encoder_Flush.f; exact h
  have e3 : ∀ {w : World} {K : Int → World → Prop}, K 0 w → coder_Decoder_Decode.f none b w K := fun h => by unfold coder_Decoder_Decode.f; exact h
  have e4 : ∀ {w : World} {K : Int → World → Prop}, K 0 w → coder_Decoder_Past.f none w K := fun h => by unfold coder_Decoder_Past.f; exact h
  unfold law04_CoderNil.f
  exact e1 (law04_awake_ok fun w1 hc1 => bif_t rfl (e2 (bif_t rfl (e3 (bif_t rfl (e4 (hk _ (below_no (Below.refl _ _) hc1 (Nat.le_refl _)))))))))
/-! ### Likely bits -/
def itn : Nat → Nat → Nat
  | 0, x => x
  | k + 1, x => itn k (midN 0 x 4095)
def chkL : List Nat → Nat → Bool
  | [], _ => true
  | y :: l, x => (itn 500 x == y) && chkL l y
def marks : List Nat := [3801359119, 3364479869, 2977809858, 2635578696, 2332679167, 2064590972, 1827313371, 1617305393, 1431433013, 1266922387, 1121318498, 992448431, 878389023, 777438127, 688089217, 609008911, 539017080, 477069207, 422240811, 373713686, 330763650, 292749721, 259104622, 229326259, 202970232, 179643226, 158997122, 140723816, 124550611, 110236134, 97566778, 86353482, 76428900, 67644913, 59870446, 52989471, 46899302, 41509061, 36738307, 32515855]
theorem marks_ok : chkL marks 4294967295 = true := by decide +kernel
theorem itn_le : ∀ (k x : Nat), itn k x ≤ x
  | 0, x => Nat.le_refl _
  | k + 1, x => by
    rw [itn]
    have := itn_le k (midN 0 x 4095)
    have := (midN_le (lo := 0) (hi := x) (c := 4095) (Nat.zero_le _) (Nat.le_refl _)).2.1
    omega
theorem itn_snoc : ∀ (k x : Nat), itn (k + 1) x = midN 0 (itn k x) 4095
  | 0, x => rfl
  | k + 1, x => by rw [itn, itn_snoc k, itn]
theorem itn_add : ∀ (a b x : Nat), itn (a + b) x = itn b (itn a x)
  | 0, b, x => by rw [Nat.zero_add]; rfl
  | a + 1, b, x => by rw [show a + 1 + b = (a + b) + 1 by omega, itn, itn_add a b, itn]
set_option maxRecDepth 20000 in
theorem chk_end : ∀ (l : List Nat) (x : Nat), chkL l x = true → itn (500 * l.length) x = l.getLastD x
  | [], x, _ => rfl
  | y :: l, x, h => by
    rw [chkL, Bool.and_eq_true, beq_iff_eq] at h
    rw [List.length_cons, show 500 * (l.length + 1) = 500 + 500 * l.length by omega, itn_add, h.1, chk_end l y h.2]
    cases l <;> rfl
theorem small_hi {i : Nat} (h : i ≤ 20000) : 16777216 ≤ itn i 4294967295 := by
  have e := chk_end marks 4294967295 marks_ok
  rw [show 500 * marks.length = 20000 by decide +kernel, show marks.getLastD 4294967295 = 32515855 by decide +kernel, show (20000 : Nat) = i + (20000 - i) by omega, itn_add] at e
  have := itn_le (20000 - i) (itn i 4294967295)
  omega
set_option maxRecDepth 20000 in
theorem law04_CoderSmall_said {n : Int} {W : World} {K : Bool → World → Prop} (_ : (Lit.int .i64 n).wf = true) (hk : ∀ w', Below W.heap.size W w' → K true w') : law04_CoderSmall.f n W K := by
  unfold law04_CoderSmall.f
  obtain ⟨m, hm, hm3⟩ : ∃ m : Nat, IntKind.wrap .i64 (Int.tmod (IntKind.wrap .u64 n) 20000) = m ∧ m < 20000 := by
    have h0 : 0 ≤ IntKind.wrap .u64 n := by rw [wu64_eq]; omega
    have g0 := Int.tmod_nonneg 20000 h0
    have g1 := Int.tmod_lt_of_pos (IntKind.wrap .u64 n) (show (0 : Int) < 20000 by omega)
    generalize Int.tmod (IntKind.wrap .u64 n) 20000 = q at g0 g1 ⊢
    exact ⟨q.toNat, by rw [w64 (by omega) (by omega)]; omega, by omega⟩
  dsimp only
  rw [hm]
  refine coder_NewEncoder_ok fun bt w1 hE1 hc1 => law04_awake_ok fun w2 hc2 => bif_f rfl (bif_f rfl ⟨m + 1, ?_⟩)
  have hz1 := hc1.size; have hz2 := hc2.size
  have loop : ∀ (N i : Nat) (S : Nat → Prop) (w : World), i ≤ m → m - i < N → (∀ b, S b → W.heap.size ≤ b ∧ b < w.heap.size) → ES 86 w S bt 0 (itn i 4294967295) [] → Below W.heap.size W w →
      law04_CoderSmall.l6 N m (some ⟨bt, 0, none⟩) i w (fun o0 o3 w => coder_Encoder_Flush.f o3 w fun r rn rc w => K (decide (((rn : Nat) : Int) ≤ (IntKind.wrap .i64 ((IntKind.wrap .i64 (Int.tdiv o0 2048)) + 6)))) w) := by
    intro N
    induction N with
    | zero => intro i S w h1 h2; omega
    | succ N ih =>
      intro i S w h1 h2 hS hE hB
      rw [law04_CoderSmall.l6]
      have hsm := small_hi (i := i) (by omega)
      have hle := itn_le i 4294967295
      have hsz := hB.size
      by_cases hlt : i < m
      · refine bif_t (dec_t (by omega)) (coder_Encode_ok (fun b hb => (hS b hb).2) hE ⟨by omega, by omega⟩ (by simp) fun w3 hE3 hc3 => ?_)
        have hsm2 := small_hi (i := i + 1) (by omega)
        have e : stp ((1 : Int) != 0) (chc 4095) 0 (itn i 4294967295) = ([], 0, itn (i + 1) 4294967295) := by
          unfold stp
          rw [show ((1 : Int) != 0) = true from rfl, show chc 4095 = 4095 by decide +kernel]
          show shf 4 0 (midN 0 (itn i 4294967295) 4095) = _
          rw [← itn_snoc]
          exact shf_f (by omega)
        rw [e] at hE3
        have hz3 := hc3.size
        dsimp only
        rw [inc (by omega)]
        refine ih (i + 1) _ w3 (by omega) (by omega) (fun b hb => ?_) hE3 (below_chg hB hc3 hsz fun b hb => (hS b hb).1)
        rcases hb with hb | hb
        · have := hS b hb; omega
        · omega
      · have : i = m := by omega
        subst this
        refine bif_f (dec_f (by omega)) (coder_Flush_ok (fun b hb => (hS b hb).2) hE (by omega) (by simp) fun a c w3 ho hE3 hc3 => ?_)
        have e : Int.tdiv (i : Int) 2048 = ((i / 2048 : Nat) : Int) := tdiv_nat i 2048
        rw [e, w64 (a := ((i / 2048 : Nat) : Int)) (by omega) (by omega), w64 (by omega) (by omega)]
        rw [dec_t (by simp only [List.length_nil]; omega)]
        exact hk w3 (below_chg hB hc3 hsz fun b hb => (hS b hb).1)
  exact loop (m + 1) 0 _ w2 (by omega) (by omega) (fun b hb => by omega) (hE1.chg hc2 fun _ _ h => h) (below_no (Below.refl _ _) (hc1.trans hc2) (Nat.le_refl _))
end Go.Proofs.Ytinmhmphidgdeaa.G
