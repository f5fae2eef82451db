/- The laws of the range coder's decoder. -/
import Derived.Test.YtinmhmphidgdeaaKa
import Derived.Test.YtinmhmphidgdeaaMd
import Derived.Test.YtinmhmphidgdeaaGenLawCoderDecodes
import Derived.Test.YtinmhmphidgdeaaGenLawCoderBack
set_option linter.unusedVariables false
set_option linter.unusedSimpArgs false
namespace Go.Proofs.Ytinmhmphidgdeaa.G
open Go Go.Proofs.Ytinmhmphidgdeaa.Vm Go.RowKit
theorem coder_Past_ok {bt : Nat} {B : List Nat} {s : Dst} {w : World} {S : Nat → Prop} {K : Int → World → Prop} (h : DS 98 w S bt B s) (hn : B.length ≤ 4611686018427387904)
    (hk : ∀ w', Chg no w w' → K ((s.2.2.2 - B.length : Nat) : Int) w') : coder_Decoder_Past.f (some ⟨bt, 0, none⟩) w K := by
  unfold coder_Decoder_Past.f
  obtain ⟨h0, hby, hcd, hpl, x, c, h1, h2⟩ := h
  have h1d : Bl 98 w.drew bt _ := h1
  refine bif_f rfl (sm_some (ldI_b (i := 4) h1d rfl (sm_some (ldL_b (i := 3) h1d rfl ?_))))
  dsimp only
  rw [past_eq hpl hn]
  exact hk _ (Chg.drew _ _)
theorem ref04_Past_ok {bt : Nat} {B : List Nat} {s : Dst} {w : World} {S : Nat → Prop} {K : Int → World → Prop} (h : DS 100 w S bt B s) (hn : B.length ≤ 4611686018427387904)
    (hk : ∀ w', Chg no w w' → K ((s.2.2.2 - B.length : Nat) : Int) w') : ref04_Decoder_Past.f (some ⟨bt, 0, none⟩) w K := by
  unfold ref04_Decoder_Past.f
  obtain ⟨h0, hby, hcd, hpl, x, c, h1, h2⟩ := h
  have h1d : Bl 100 w.drew bt _ := h1
  refine sm_some (ldI_b (i := 4) h1d rfl (sm_some (ldL_b (i := 3) h1d rfl ?_)))
  dsimp only
  rw [past_eq hpl hn]
  exact hk _ (Chg.drew _ _)

theorem dstp_rng {B : List Nat} {c : Nat} {s : Dst} (hr : Rng s.1 s.2.1) (hc : c ≤ 4095) : Rng (dstp B c s).1 (dstp B c s).2.1 ∧ (dstp B c s).2.2.2 ≤ s.2.2.2 + 4 := by
  unfold dstp
  have := stp_ok (b := dbit c s) hr hc
  refine ⟨this.1, ?_⟩
  dsimp only
  rw [takN_at]
  have := this.2.2
  omega
theorem dnew_rng (B : List Nat) : Rng (dnew B).1 (dnew B).2.1 ∧ (dnew B).2.2.2 = 4 := ⟨Rng.full, by unfold dnew; dsimp only; rw [takN_at]⟩
/-- Both decoders are in one state. -/
structure Dec (W w : World) (S T : Nat → Prop) (b1 b2 : Nat) (B : List Nat) (s : Dst) : Prop where
  rng : Rng s.1 s.2.1
  a : DS 98 w S b1 B s
  b : DS 100 w T b2 B s
  dis : Dis S T w
  lo1 : ∀ x, S x → W.heap.size ≤ x
  lo2 : ∀ x, T x → W.heap.size ≤ x
  bel : Below W.heap.size W w
set_option maxRecDepth 20000 in
theorem law04_CoderDecodes_said {x y : Option Addr} {n c m d : Nat} {W : World} {K : Bool → World → Prop} (f : Fits W (.slc (.int .u8) 1 1) [.slice x n c]) (g : Fits W (.slc (.int .i64) 1 8) [.slice y m d])
    (hk : ∀ w', Below W.heap.size W w' → K true w') : law04_CoderDecodes.f x n c y m d W K := by
  obtain ⟨hnc, hc1, xs, hxl, hx, hwf⟩ := f.ints
  obtain ⟨_, _, cs, hcl, hcs, _⟩ := g.ints
  obtain ⟨B, rfl, hby⟩ := (By.of hwf).nats
  have hBn : B.length = n := by rw [← ints_length]; exact hxl
  unfold law04_CoderDecodes.f
  refine cond_of (fun _ => law04_awake_ok fun w hc => hk w (below_no (Below.refl _ _) hc (Nat.le_refl _))) (fun h => ?_)
  have hn : n ≤ 3000 := by have := of_decide_eq_false h; omega
  refine help_Own_byte_ok hx hxl (by omega) fun w1 hb1 hc1 => ?_
  have hz1 := hc1.size
  refine coder_NewDecoder_ok (BlI.pre_byte hb1) hBn hby (by omega) fun b2 w2 hD2 hc2 => ?_
  have hz2 := hc2.size
  refine ref04_NewDecoder_ok (hx.chg (hc1.trans hc2) fun _ _ _ h => h) hBn hby (by omega) fun b3 w3 hD3 hc3 => law04_awake_ok fun w4 hc4 => bif_f rfl (bif_f rfl ?_)
  have hz3 := hc3.size; have hz4 := hc4.size
  have k4 := ((hc1.trans hc2).trans hc3).trans hc4
  have hb4 := ((hb1.chg hc2 fun h => h).chg hc3 fun h => h).chg hc4 fun h => h
  refine help_Kept_byte_ok hb4 (hx.chg k4 fun _ _ _ h => h) hxl (by omega) fun w5 hc5 => bif_f rfl ?_
  have hz5 := hc5.size
  have hb5 := hb4.chg hc5 fun h => h
  have hb1lt := hb1.bl.lt
  have hoS : Own .u8 5 (fun b => b = W.heap.size) w5 (some ⟨W.heap.size, 0, none⟩) n (n + 3) ((ints B ++ [71, 71, 71]).take n) :=
    .inr ⟨W.heap.size, _, rfl, rfl, hb5, by rw [List.length_append, hxl]; rfl, by omega, rfl⟩
  refine help_Spoil_ok hoS (by omega) fun w6 hc6 => ?_
  have hz6 := hc6.size
  have hD26 := (((hD2.chg hc3 fun _ _ h => h).chg hc4 fun _ _ h => h).chg hc5 fun _ _ h => h).chg hc6 fun b hb e => by omega
  have hD36 := ((hD3.chg hc4 fun _ _ h => h).chg hc5 fun _ _ h => h).chg hc6 fun b hb e => by omega
  have B6 : Below W.heap.size W w6 := below_chg (below_no (Below.refl _ _) (k4.trans hc5) (Nat.le_refl _)) hc6 (by omega) fun b hb => by omega
  have hdn := dnew_rng B
  have loop : ∀ (N i : Nat) (s : Dst) (w : World), i ≤ 2000 → 2000 - i < N → s.2.2.2 ≤ 4 + 4 * i → Dec W w (fun b => w1.heap.size ≤ b ∧ b < w2.heap.size) (fun b => w2.heap.size ≤ b ∧ b < w3.heap.size) b2 b3 B s →
      law04_CoderDecodes.l9 N y m d (some ⟨b2, 0, none⟩) (some ⟨b3, 0, none⟩) (i : Int) w (fun o6 o7 w => coder_Decoder_Past.f o6 w fun r64 w => ref04_Decoder_Past.f o7 w fun r66 w => K (r64 == r66) w) (fun o w => K o w) := by
    intro N
    induction N with
    | zero => intro i s w h1 h2; omega
    | succ N ih =>
      intro i s w h1 h2 hs hD
      rw [law04_CoderDecodes.l9]
      have hsz := hD.bel.size
      have fin : coder_Decoder_Past.f (some ⟨b2, 0, none⟩) w fun r64 w => ref04_Decoder_Past.f (some ⟨b3, 0, none⟩) w fun r66 w => K (r64 == r66) w :=
        coder_Past_ok hD.a (by omega) fun w7 hc7 => ref04_Past_ok (hD.b.chg hc7 fun _ _ h => h) (by omega) fun w8 hc8 => by
          rw [beq_self_eq_true]
          exact hk w8 (below_no (below_no hD.bel hc7 hsz) hc8 (by have := hc7.size; omega))
      refine cond_of (fun hh1 => cond_of (fun hh2 => ?_) (fun _ => fin)) (fun _ => fin)
      have hlt : i < m := by have := of_decide_eq_true hh1; omega
      have hlt2 : i < 2000 := by have := of_decide_eq_true hh2; omega
      have bd := below_no hD.bel (Chg.drew no w) hsz
      have hv : cs[i]? = some (cs[i]'(by omega)) := List.getElem?_eq_getElem _
      generalize cs[i]'(by omega) = v at hv
      obtain ⟨p, rfl⟩ := hcs.some (by omega)
      have hcell : ∀ w', Below W.heap.size W w' → w'.cell? (p.add i) = some (.int .i64 v) := fun w' hb => by
        obtain ⟨q, hq, hce⟩ := hcs.below hb i (by omega)
        cases hq
        rw [hce]
        obtain ⟨_, e⟩ := List.getElem?_eq_some_iff.1 hv
        rw [e]
      refine rdV (hcs.below bd) i rfl hcl hv fun q hq => rdV (hcs.below bd) i rfl hcl hv fun q2 hq2 => ?_
      cases hq; cases hq2
      have hch := (chc_bd v).2
      have hnx := dstp_rng (B := B) hD.rng hch
      refine coder_Decode_ok (w := w.drew) (hD.a.chg (Chg.drew no w) fun _ _ h => h) hD.rng (by omega) fun w7 hD7 hc7 => ?_
      have hz7 : w.heap.size ≤ w7.heap.size := hc7.size
      have hin1 := hD.a.inS
      have hin2 := hD.b.inS
      have l1 := hD.lo1 _ hin1
      have l2 := hD.lo2 _ hin2
      have B7 := below_chg bd hc7 hsz fun b hb => by subst hb; exact l1
      have R7 := (hD.b.chg (Chg.drew no w) fun _ _ h => h).chg hc7 fun b hb e => by subst e; exact hD.dis.ab _ hin1 hb
      rw [Int.toNat_natCast]
      refine ⟨hcell _ B7, ref04_Decode_ok R7 hD.rng (by omega) fun w8 hD8 hc8 => bif_f (by simp) ?_⟩
      have hz8 : w7.heap.size ≤ w8.heap.size := hc8.size
      have B8 := below_chg B7 hc8 (by omega) fun b hb => by subst hb; exact l2
      have D78 := hD7.chg hc8 fun b hb e => by subst e; exact hD.dis.ab _ hb hin2
      refine coder_Past_ok D78 (by omega) fun w9 hc9 => ref04_Past_ok (hD8.chg hc9 fun _ _ h => h) (by omega) fun w10 hc10 => bif_f (by simp) ?_
      have hz9 := hc9.size; have hz10 := hc10.size
      dsimp only
      rw [inc (by omega)]
      have hc910 := hc9.trans hc10
      exact ih (i + 1) _ w10 (by omega) (by omega) (by omega) ⟨hnx.1, D78.chg hc910 fun _ _ h => h, hD8.chg hc910 fun _ _ h => h, hD.dis.size (by omega), hD.lo1, hD.lo2, below_no B8 hc910 (by omega)⟩
  refine ⟨2001, loop 2001 0 (dnew B) w6 (by omega) (by omega) (by omega) ⟨hdn.1, hD26, hD36, ⟨?_, ?_, ?_⟩, ?_, ?_, B6⟩⟩
  · intro b hb; omega
  · intro b hb; omega
  · intro b hb he; omega
  · intro b hb; omega
  · intro b hb; omega
/-- Bits with their chances. -/
def bitsOf (ps : List (Int × Int)) : List (Bool × Nat) := ps.map fun p => (p.1 != 0, chc p.2)
theorem bitsOf_ch (ps : List (Int × Int)) : ∀ p ∈ bitsOf ps, p.2 ≤ 4095 := fun p hp => by
  obtain ⟨q, _, rfl⟩ := List.mem_map.1 hp
  exact (chc_bd q.2).2
theorem encS_len : ∀ (bs : List (Bool × Nat)) (lo hi : Nat) (out : List Nat), Rng lo hi → (∀ p ∈ bs, p.2 ≤ 4095) → Rng (encS (lo, hi, out) bs).1 (encS (lo, hi, out) bs).2.1 ∧ (encS (lo, hi, out) bs).2.2.length ≤ out.length + 4 * bs.length
  | [], lo, hi, out, h, _ => ⟨h, by simp [encS]⟩
  | (b, c) :: bs, lo, hi, out, h, hc => by
    have hs := stp_ok (b := b) h (hc _ List.mem_cons_self)
    have ih := encS_len bs (stp b c lo hi).2.1 (stp b c lo hi).2.2 (out ++ (stp b c lo hi).1) hs.1 fun p hp => hc p (List.mem_cons_of_mem _ hp)
    rw [encS]
    refine ⟨ih.1, ?_⟩
    have h1 := ih.2
    have h2 : (stp b c lo hi).1.length ≤ 4 := hs.2.2
    rw [List.length_append] at h1
    rw [List.length_cons]
    omega
set_option maxRecDepth 20000 in
theorem law04_CoderBack_said {x : Option Addr} {n c : Nat} {W : World} {K : Bool → World → Prop} (f : Fits W (.slc (.st (.pair 1 (.int .i64) (.pair 1 (.int .i64) .unit))) 2 16) [.slice x n c])
    (hk : ∀ w', Below W.heap.size W w' → K true w') : law04_CoderBack.f x n c W K := by
  obtain ⟨_, _, ps, hpl, hp⟩ := fits_pairs f
  unfold law04_CoderBack.f
  refine coder_NewEncoder_ok fun bt w1 hE1 hc1 => law04_awake_ok fun w2 hc2 => bif_f rfl (bif_f rfl ⟨2001, ?_⟩)
  have hz1 := hc1.size; have hz2 := hc2.size
  generalize hM : (min n 2000) = M
  generalize hbs : bitsOf (ps.take M) = bs
  have hbl : bs.length = M := by subst hbs; simp [bitsOf]; omega
  have hbc : ∀ p ∈ bs, p.2 ≤ 4095 := by subst hbs; exact bitsOf_ch _
  have hget : ∀ i p, i < M → ps[i]? = some p → bs[i]? = some (p.1 != 0, chc p.2) := fun i p hi hp => by
    subst hbs
    unfold bitsOf
    rw [List.getElem?_map, List.getElem?_take, if_pos hi, hp]; rfl
  have hT := encS_T bs 0 4294967295 []
  rw [List.nil_append] at hT
  have hSl := encS_len bs 0 4294967295 [] Rng.full hbc
  have hBl : (encT 0 4294967295 bs).length ≤ 8004 := by
    rw [← hT, List.length_append]
    have := hSl.2
    simp only [List.length_nil, by4, List.length_cons] at this ⊢
    omega
  have hBy := encT_by bs _ _ Rng.full hbc
  have dec : ∀ (a : Option Addr) (c' n' : Nat) (w : World), (encT 0 4294967295 bs).length = n' → SlI .u8 w a (ints (encT 0 4294967295 bs)) → Below W.heap.size W w →
      coder_NewDecoder.f a n' c' w fun r38_24 w =>
        bif r38_24.isNone then K false w
        else ∃ N_41 : Nat, law04_CoderBack.l12 N_41 x n c r38_24 0 w (fun o5_42 w => coder_Decoder_Past.f o5_42 w fun r67_45 w => K (r67_45 == 0) w) (fun o2_43 w => K o2_43 w) := by
    intro a c' n' w hn' ha hB
    have hsz := hB.size
    refine coder_NewDecoder_ok ha hn' hBy (by omega) fun b2 w2 hD hc => bif_f rfl ?_
    have B2 := below_no hB hc hsz
    have hl2 : W.heap.size ≤ b2 := by have := hD.inS.1; omega
    have loop : ∀ (N i : Nat) (s : Dst) (w' : World), i ≤ M → M - i < N → s.2.2.2 ≤ 4 + 4 * i → DS 98 w' (fun b => w.heap.size ≤ b ∧ b < w2.heap.size) b2 (encT 0 4294967295 bs) s → Ahead (encT 0 4294967295 bs) s (bs.drop i) → Below W.heap.size W w' →
        law04_CoderBack.l12 N x n c (some ⟨b2, 0, none⟩) (i : Int) w' (fun o5_42 w => coder_Decoder_Past.f o5_42 w fun r67_45 w => K (r67_45 == 0) w) (fun o2_43 w => K o2_43 w) := by
      intro N
      induction N with
      | zero => intro i s w' h1 h2; omega
      | succ N ih =>
        intro i s w' h1 h2 hs hD hA hB
        rw [law04_CoderBack.l12]
        have hsz := hB.size
        have fin : i = M → coder_Decoder_Past.f (some ⟨b2, 0, none⟩) w' fun r67_45 w => K (r67_45 == 0) w := fun e => by
          refine coder_Past_ok hD (by omega) fun w3 hc3 => ?_
          rw [e, List.drop_of_length_le (by omega)] at hA
          rw [hA.done, Nat.sub_self]
          exact hk w3 (below_no hB hc3 hsz)
        refine cond_of (fun hh1 => cond_of (fun hh2 => ?_) (fun hh2 => fin ?_)) (fun hh1 => fin ?_)
        · have hlt : i < n := by have := of_decide_eq_true hh1; omega
          have hlt2 : i < 2000 := by have := of_decide_eq_true hh2; omega
          have hiM : i < M := by omega
          obtain ⟨p, hpi⟩ : ∃ p, ps[i]? = some p := ⟨_, List.getElem?_eq_getElem (by omega)⟩
          have bd := below_no hB (Chg.drew no w') hsz
          refine rdP2 (hp.below bd) hpl hpi fun q hq => rdP1 (hp.below bd) hpl hpi fun q2 hq2 _ => ?_
          subst hq; cases hq2
          have hcons : bs.drop i = (p.1 != 0, chc p.2) :: bs.drop (i + 1) := by
            obtain ⟨hi, e⟩ := List.getElem?_eq_some_iff.1 (hget i p hiM hpi)
            rw [List.drop_eq_getElem_cons hi, e]
          rw [hcons] at hA
          refine coder_Decode_ok (w := w'.drew) (hD.chg (Chg.drew no w') fun _ _ h => h) hA.rng (by omega) fun w3 hD3 hc3 => ?_
          have B3 := below_chg bd hc3 hsz fun b hb => by subst hb; exact hl2
          have hcell := (hp.below B3) i p hpi
          obtain ⟨q3, hq3, hcell, _⟩ := hcell
          cases hq3
          rw [Int.toNat_natCast]
          refine ⟨hcell, bif_f ?_ ?_⟩
          · rw [hA.bit]
            cases hb : (p.1 != 0) <;> rfl
          · have hnx := dstp_rng (B := encT 0 4294967295 bs) hA.rng (chc_bd p.2).2
            dsimp only
            rw [inc (by omega)]
            exact ih (i + 1) _ w3 (by omega) (by omega) (by omega) hD3 hA.step B3
        · have := of_decide_eq_true hh1; have := of_decide_eq_false hh2; omega
        · have := of_decide_eq_false hh1; omega
    have hdn := dnew_rng (encT 0 4294967295 bs)
    exact ⟨2001, loop 2001 0 _ w2 (by omega) (by omega) (by omega) hD (Ahead.new hbc) B2⟩
  have enc : ∀ (N i : Nat) (S : Nat → Prop) (lo hi : Nat) (out : List Nat) (w : World), i ≤ M → M - i < N → (∀ b, S b → W.heap.size ≤ b ∧ b < w.heap.size) → encS (0, 4294967295, []) (bs.take i) = (lo, hi, out) → ES 86 w S bt lo hi out → Below W.heap.size W w →
      law04_CoderBack.l5 N x n c (some ⟨bt, 0, none⟩) (i : Int) w (fun o0_20 o0_20n o0_20c o3_21 w => coder_Encoder_Flush.f o3_21 w fun r37_23 r37_23n r37_23c w =>
        coder_NewDecoder.f r37_23 r37_23n r37_23c w fun r38_24 w =>
        bif r38_24.isNone then K false w
        else ∃ N_41 : Nat, law04_CoderBack.l12 N_41 o0_20 o0_20n o0_20c r38_24 0 w (fun o5_42 w => coder_Decoder_Past.f o5_42 w fun r67_45 w => K (r67_45 == 0) w) (fun o2_43 w => K o2_43 w)) := by
    intro N
    induction N with
    | zero => intro i S lo hi out w h1 h2; omega
    | succ N ih =>
      intro i S lo hi out w h1 h2 hS he hE hB
      rw [law04_CoderBack.l5]
      have hsz := hB.size
      have hri := encS_len (bs.take i) 0 4294967295 [] Rng.full fun p hp => hbc p (List.mem_of_mem_take hp)
      rw [he] at hri
      dsimp only at hri
      have hol : out.length ≤ 8000 := by
        have := hri.2
        rw [List.length_take, List.length_nil] at this
        omega
      have hlo : lo < 4294967296 := by have := hri.1.lt; have := hri.1.bd; omega
      have fin : i = M → coder_Encoder_Flush.f (some ⟨bt, 0, none⟩) w fun r37_23 r37_23n r37_23c w =>
        coder_NewDecoder.f r37_23 r37_23n r37_23c w fun r38_24 w =>
        bif r38_24.isNone then K false w
        else ∃ N_41 : Nat, law04_CoderBack.l12 N_41 x n c r38_24 0 w (fun o5_42 w => coder_Decoder_Past.f o5_42 w fun r67_45 w => K (r67_45 == 0) w) (fun o2_43 w => K o2_43 w) := fun e => by
        rw [e, List.take_of_length_le (by omega)] at he
        rw [he] at hT
        dsimp only at hT
        refine coder_Flush_ok (fun b hb => (hS b hb).2) hE hlo (by omega) fun a c' w3 ho hE3 hc3 => ?_
        rw [hT] at ho
        refine dec a c' _ w3 ?_ ho.sl (below_chg hB hc3 hsz fun b hb => (hS b hb).1)
        rw [← hT, List.length_append]; rfl
      refine cond_of (fun hh1 => cond_of (fun hh2 => ?_) (fun hh2 => fin ?_)) (fun hh1 => fin ?_)
      · have hlt : i < n := by have := of_decide_eq_true hh1; omega
        have hlt2 : i < 2000 := by have := of_decide_eq_true hh2; omega
        have hiM : i < M := by omega
        obtain ⟨p, hpi⟩ : ∃ p, ps[i]? = some p := ⟨_, List.getElem?_eq_getElem (by omega)⟩
        have bd := below_no hB (Chg.drew no w) hsz
        refine rdP1 (hp.below bd) hpl hpi fun _ _ _ => rdP2 (hp.below bd) hpl hpi fun _ _ => ?_
        refine coder_Encode_ok (w := w.drew) (fun b hb => (hS b hb).2) (hE.chg (Chg.drew no w) fun _ _ h => h) hri.1 (by omega) fun w3 hE3 hc3 => ?_
        have hz3 : w.heap.size ≤ w3.heap.size := hc3.size
        dsimp only
        rw [inc (by omega)]
        refine ih (i + 1) _ _ _ _ w3 (by omega) (by omega) (fun b hb => ?_) ?_ hE3 (below_chg bd hc3 hsz fun b hb => (hS b hb).1)
        · rcases hb with hb | hb
          · have := hS b hb; omega
          · have h1 : w.heap.size ≤ b := hb.1
            exact ⟨by omega, hb.2⟩
        · have e : bs.take (i + 1) = bs.take i ++ [(p.1 != 0, chc p.2)] := by
            obtain ⟨hi, e⟩ := List.getElem?_eq_some_iff.1 (hget i p hiM hpi)
            rw [List.take_succ_eq_append_getElem hi, e]
          rw [e, encS_snoc, he]
      · have := of_decide_eq_true hh1; have := of_decide_eq_false hh2; omega
      · have := of_decide_eq_false hh1; omega
  exact enc 2001 0 _ 0 4294967295 [] w2 (by omega) (by omega) (fun b hb => by omega) rfl (hE1.chg hc2 fun _ _ h => h) (below_no (Below.refl _ _) (hc1.trans hc2) (Nat.le_refl _))
end Go.Proofs.Ytinmhmphidgdeaa.G
