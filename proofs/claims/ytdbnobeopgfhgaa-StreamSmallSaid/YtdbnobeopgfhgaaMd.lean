/- The range coder's decoder and its reference: what their functions come to. -/
import Derived.Test.YtdbnobeopgfhgaaMc
set_option linter.unusedVariables false
set_option linter.unusedSimpArgs false
namespace Go.Proofs.Ytdbnobeopgfhgaa.G
open Go Go.Proofs.Ytdbnobeopgfhgaa.Vm Go.RowKit
/-- A decoder in block `bt`, of the bytes `B`. -/
structure DS (e : TypeId) (w : World) (S : Nat → Prop) (bt : Nat) (B : List Nat) (s : Dst) : Prop where
  inS : S bt
  by' : ∀ x ∈ B, x < 256
  code : s.2.2.1 < 4294967296
  place : s.2.2.2 ≤ 1000000000
  cells : ∃ a c, Bl e w bt [.int .u32 s.1, .int .u32 s.2.1, .int .u32 s.2.2.1, .slice a B.length c, .int .i64 s.2.2.2] ∧ Own .u8 5 (fun b => S b ∧ b ≠ bt) w a B.length c (ints B)
theorem DS.chg {e : TypeId} {S T : Nat → Prop} {w w' : World} {bt : Nat} {B : List Nat} {s : Dst} (h : DS e w S bt B s) (hc : Chg T w w') (hn : ∀ b, S b → ¬ T b) : DS e w' S bt B s := by
  obtain ⟨h0, h1, h2, h3, a, c, h4, h5⟩ := h
  exact ⟨h0, h1, h2, h3, a, c, h4.chg hc (hn _ h0), h5.chg hc fun b hb => hn b hb.1⟩
theorem DS.mono {e : TypeId} {S T : Nat → Prop} {w : World} {bt : Nat} {B : List Nat} {s : Dst} (h : DS e w S bt B s) (hs : ∀ b, S b → b < w.heap.size → T b) : DS e w T bt B s := by
  obtain ⟨h0, h1, h2, h3, a, c, h4, h5⟩ := h
  exact ⟨hs _ h0 h4.lt, h1, h2, h3, a, c, h4, h5.mono fun b hb hl => ⟨hs b hb.1 hl, hb.2⟩⟩
theorem ints_getD {B : List Nat} {p : Nat} (h : p < B.length) : (ints B)[p]? = some ((B.getD p 0 : Nat) : Int) := by
  rw [ints_get, List.getD_eq_getElem?_getD, List.getElem?_eq_getElem h]; rfl
theorem getD_out {B : List Nat} {p : Nat} (h : ¬ p < B.length) : B.getD p 0 = 0 := by
  rw [List.getD_eq_getElem?_getD, List.getElem?_eq_none (by omega)]; rfl
theorem coder_more_ok {w : World} {S : Nat → Prop} {bt lo hi code p : Nat} {B : List Nat} {K : World → Prop} (h : DS 141 w S bt B (lo, hi, code, p)) (hp : p < 1000000000)
    (hk : ∀ w', DS 141 w' S bt B (lo, hi, code * 256 % 4294967296 + B.getD p 0, p + 1) → Chg (fun j => j = bt) w w' → K w') : coder_Decoder_more.f (some ⟨bt, 0, none⟩) w K := by
  obtain ⟨h0, hby, hcd, hpl, a, c, h1, h2⟩ := h
  dsimp only at hcd hpl h1
  unfold coder_Decoder_more.f
  have hB := getD_bd hby p
  refine sm_some (ldI_b (i := 2) h1 rfl (sm_some (stC_b (i := 2) h1 (by simp) fun w1 hb1 hc1 => ?_)))
  rw [shl8] at hb1
  have ho1 := h2.chg hc1 fun b hb e => hb.2 e
  have hb1d : Bl 141 w1.drew bt [.int .u32 lo, .int .u32 hi, .int .u32 ((code * 256 % 4294967296 : Nat) : Int), .slice a B.length c, .int .i64 p] := hb1
  have hb1dd : Bl 141 w1.drew.drew bt [.int .u32 lo, .int .u32 hi, .int .u32 ((code * 256 % 4294967296 : Nat) : Int), .slice a B.length c, .int .i64 p] := hb1
  have kd : Chg (fun j => j = bt) w w1.drew := hc1.trans (Chg.drew _ w1)
  dsimp only
  refine sm_some (ldI_b (i := 4) hb1d rfl (sm_some (ldL_b (i := 3) hb1d rfl (cond_of (fun hh => ?_) (fun hh => ?_)))))
  · have hlt : p < B.length := by have := of_decide_eq_true hh; omega
    have ho1dd : Own .u8 5 (fun b => S b ∧ b ≠ bt) w1.drew.drew a B.length c (ints B) := ho1.chg ((Chg.drew no w1).trans (Chg.drew no w1.drew)) fun _ _ h => h
    refine sm_some (ldI_b (i := 2) hb1dd rfl (sm_some (ldL_b (i := 3) hb1dd rfl (sm_some (ldI_b (i := 4) hb1dd rfl ?_)))))
    refine rdV (w := w1.drew.drew) ho1dd.sl p rfl (ints_length B) (ints_getD hlt) fun _ _ => ?_
    have e : bor .u32 ((code * 256 % 4294967296 : Nat) : Int) (IntKind.wrap .u32 ((B.getD p 0 : Nat) : Int)) = ((code * 256 % 4294967296 + B.getD p 0 : Nat) : Int) := by
      rw [wu32n (by omega), bor_u32 _ _ (by omega) (by omega), show code * 256 % 4294967296 = code % 16777216 * 256 by omega, or_low hB]
    rw [e]
    refine sm_some (stC_b (i := 2) hb1dd (by simp) fun w2 hb2 hc2 => sm_some (ldI_b (i := 4) hb2 rfl (sm_some ?_)))
    rw [inc (by omega)]
    refine stC_b (i := 4) hb2 (by simp) fun w3 hb3 hc3 => hk w3 ⟨h0, hby, by dsimp only; omega, by dsimp only; omega, a, c, hb3, (ho1dd.chg hc2 fun b hb e => hb.2 e).chg hc3 fun b hb e => hb.2 e⟩ (((kd.trans (Chg.drew _ w1.drew)).trans hc2).trans hc3)
  · have hge : ¬ p < B.length := by have := of_decide_eq_false hh; omega
    refine sm_some (ldI_b (i := 4) hb1d rfl (sm_some ?_))
    rw [inc (by omega)]
    have ho1d : Own .u8 5 (fun b => S b ∧ b ≠ bt) w1.drew a B.length c (ints B) := ho1.chg (Chg.drew no w1) fun _ _ h => h
    refine stC_b (i := 4) hb1d (by simp) fun w3 hb3 hc3 => hk w3 ⟨h0, hby, by dsimp only; omega, by dsimp only; omega, a, c, ?_, ho1d.chg hc3 fun b hb e => hb.2 e⟩ (kd.trans hc3)
    rw [getD_out hge]; exact hb3
theorem ref04_take_ok {w : World} {S : Nat → Prop} {bt lo hi code p : Nat} {B : List Nat} {K : World → Prop} (h : DS 143 w S bt B (lo, hi, code, p)) (hp : p < 1000000000)
    (hk : ∀ w', DS 143 w' S bt B (lo, hi, code * 256 % 4294967296 + B.getD p 0, p + 1) → Chg (fun j => j = bt) w w' → K w') : ref04_Decoder_take.f (some ⟨bt, 0, none⟩) w K := by
  obtain ⟨h0, hby, hcd, hpl, a, c, h1, h2⟩ := h
  dsimp only at hcd hpl h1
  unfold ref04_Decoder_take.f
  have hB := getD_bd hby p
  have h1d : Bl 143 w.drew bt _ := h1
  have h1dd : Bl 143 w.drew.drew bt _ := h1
  have tail : ∀ (w1 : World) (c0 : Nat), c0 = B.getD p 0 → Bl 143 w1 bt [.int .u32 lo, .int .u32 hi, .int .u32 code, .slice a B.length c, .int .i64 p] → Own .u8 5 (fun b => S b ∧ b ≠ bt) w1 a B.length c (ints B) → Chg (fun j => j = bt) w w1 →
      sm (some (⟨bt, 0, none⟩ : Addr)) fun p_16 =>
        ldI .i64 (p_16.add 4) w1 fun x26_17 =>
        sm (some (⟨bt, 0, none⟩ : Addr)) fun p_18 =>
        stC (p_18.add 4) (Value.int .i64 (IntKind.wrap .i64 (x26_17 + 1))) w1 fun w =>
        sm (some (⟨bt, 0, none⟩ : Addr)) fun p_19 =>
        ldI .u32 (p_19.add 2) w fun x34_20 =>
        sm (some (⟨bt, 0, none⟩ : Addr)) fun p_21 =>
        stC (p_21.add 2) (Value.int .u32 (bor .u32 (shl .u32 x34_20 8) (IntKind.wrap .u32 (c0 : Int)))) w fun w =>
        K w := by
    intro w1 c0 hc0 hb1 ho1 hc1
    subst hc0
    refine sm_some (ldI_b (i := 4) hb1 rfl (sm_some ?_))
    rw [inc (by omega)]
    refine stC_b (i := 4) hb1 (by simp) fun w2 hb2 hc2 => sm_some (ldI_b (i := 2) hb2 rfl (sm_some ?_))
    rw [wu32n (by omega), shl8_or _ _ hB]
    refine stC_b (i := 2) hb2 (by simp) fun w3 hb3 hc3 => hk w3 ⟨h0, hby, by dsimp only; omega, by dsimp only; omega, a, c, hb3, (ho1.chg hc2 fun b hb e => hb.2 e).chg hc3 fun b hb e => hb.2 e⟩ ((hc1.trans hc2).trans hc3)
  dsimp only
  refine sm_some (ldI_b (i := 4) h1d rfl (sm_some (ldL_b (i := 3) h1d rfl (cond_of (fun hh => ?_) (fun hh => ?_)))))
  · have hlt : p < B.length := by have := of_decide_eq_true hh; omega
    have hodd : Own .u8 5 (fun b => S b ∧ b ≠ bt) w.drew.drew a B.length c (ints B) := h2.chg ((Chg.drew no w).trans (Chg.drew no w.drew)) fun _ _ h => h
    refine sm_some (ldL_b (i := 3) h1dd rfl (sm_some (ldI_b (i := 4) h1dd rfl ?_)))
    refine rdV (w := w.drew.drew) hodd.sl p rfl (ints_length B) (ints_getD hlt) fun _ _ => ?_
    exact tail w.drew.drew _ rfl h1dd hodd ((Chg.drew _ w).trans (Chg.drew _ w.drew))
  · have hge : ¬ p < B.length := by have := of_decide_eq_false hh; omega
    exact tail w.drew 0 (getD_out hge).symm h1d (h2.chg (Chg.drew no w) fun _ _ h => h) (Chg.drew _ w)
theorem coder_Decode_l8f {bt : Nat} {y5 : Int} {K0 : Int → World → Prop} {N : Nat} {w : World} (hN : 0 < N) (hk : K0 y5 w) : coder_Decoder_Decode.l8 N (some ⟨bt, 0, none⟩) y5 false w K0 := by
  obtain ⟨N, rfl⟩ : ∃ M, N = M + 1 := ⟨N - 1, by omega⟩
  rw [coder_Decoder_Decode.l8]; exact hk
set_option maxRecDepth 20000 in
theorem coder_Decode_loop {bt : Nat} {y5 : Int} {B : List Nat} {S : Nat → Prop} {K0 : Int → World → Prop} : ∀ (f lo hi code p : Nat) (w : World) (N : Nat), f ≤ 3 → lo ≤ hi → hi < 4294967296 → wid f ≤ hi - lo → p + f < 1000000000 → DS 141 w S bt B (lo, hi, code, p) → f + 1 < N →
    (∀ w', DS 141 w' S bt B ((shf f lo hi).2.1, (shf f lo hi).2.2, takN B ((shf f lo hi).1.length + 1) code p) → Chg (fun j => j = bt) w w' → K0 y5 w') →
    coder_Decoder_Decode.l8 N (some ⟨bt, 0, none⟩) y5 true w K0 := by
  intro f
  induction f with
  | zero =>
    intro lo hi code p w N hf hr hh hw hp h hN hk
    obtain ⟨N, rfl⟩ : ∃ M, N = M + 1 := ⟨N - 1, by omega⟩
    rw [coder_Decoder_Decode.l8]
    refine coder_more_ok h (by omega) fun w1 hE hc1 => sm_some ?_
    obtain ⟨h0, hby, hcd, hpl, a, c, h1, h2⟩ := hE
    refine coder_span_shift_ok h1 rfl rfl (by dsimp only; omega) (fun hne w2 hc2 => coder_Decode_l8f (by omega) (hk w2 ?_ (hc1.trans (hc2.mono fun _ h => h.elim)))) (fun he => ?_)
    · exact DS.chg ⟨h0, hby, hcd, hpl, a, c, h1, h2⟩ hc2 fun _ _ h => h
    · simp only [wid] at hw; dsimp only at he; omega
  | succ f ih =>
    intro lo hi code p w N hf hr hh hw hp h hN hk
    obtain ⟨N, rfl⟩ : ∃ M, N = M + 1 := ⟨N - 1, by omega⟩
    rw [coder_Decoder_Decode.l8]
    refine coder_more_ok h (by omega) fun w1 hE hc1 => sm_some ?_
    obtain ⟨h0, hby, hcd, hpl, a, c, h1, h2⟩ := hE
    refine coder_span_shift_ok h1 rfl rfl (by dsimp only; omega) (fun hne w2 hc2 => coder_Decode_l8f (by omega) (hk w2 ?_ (hc1.trans (hc2.mono fun _ h => h.elim)))) (fun he w2 hb2 hc2 => ?_)
    · rw [shf_f hne]
      exact DS.chg ⟨h0, hby, hcd, hpl, a, c, h1, h2⟩ hc2 fun _ _ h => h
    · dsimp only at he hb2
      refine ih _ _ _ _ w2 N (by omega) (by omega) (by omega) (wid_step (by omega) hr he hw) (by omega) ⟨h0, hby, hcd, hpl, a, c, hb2, h2.chg hc2 fun b hb e => hb.2 e⟩ (by omega) fun w3 hE3 hc3 => hk w3 ?_ ((hc1.trans hc2).trans hc3)
      rw [shf_t he]
      exact hE3
theorem coder_Decode_ok {bt : Nat} {a : Int} {B : List Nat} {s : Dst} {w : World} {S : Nat → Prop} {K : Int → World → Prop} (h : DS 141 w S bt B s) (hr : Rng s.1 s.2.1) (hp : s.2.2.2 ≤ 900000000)
    (hk : ∀ w', DS 141 w' S bt B (dstp B (chc a) s) → Chg (fun j => j = bt) w w' → K (if dbit (chc a) s then 1 else 0) w') : coder_Decoder_Decode.f (some ⟨bt, 0, none⟩) a w K := by
  obtain ⟨lo, hi, code, p⟩ := s
  unfold coder_Decoder_Decode.f
  obtain ⟨h0, hby, hcd, hpl, x, c, h1, h2⟩ := h
  dsimp only at hr hp hcd hpl h1
  have hm := midN_le (Nat.le_of_lt hr.lt) (chc_bd a).2
  have hm2 := hm.2.2 hr.lt
  have hbd := hr.bd
  refine bif_f rfl (sm_some (coder_span_mid_ok h1 rfl rfl (Nat.le_of_lt hr.lt) hr.bd fun w1 hc1 => ?_))
  have tail : ∀ (bit : Int) (b : Bool), (bit = 1 ∧ b = true ∨ bit = 0 ∧ b = false) → dbit (chc a) (lo, hi, code, p) = b →
      (sm (some (⟨bt, 0, none⟩ : Addr)) fun p_14 =>
      coder_span_take.f (some p_14) bit (midN lo hi (chc a) : Nat) w1 fun w =>
      sm (some (⟨bt, 0, none⟩ : Addr)) fun p_17 =>
      coder_span_shift.f (some p_17) w fun r32_18 r32_19 w =>
      ∃ N_26 : Nat, coder_Decoder_Decode.l8 N_26 (some ⟨bt, 0, none⟩) bit r32_19 w
      (fun o5_27 w => K o5_27 w)) := by
    intro bit b hbb hbit
    unfold dstp at hk
    rw [hbit] at hk
    dsimp only at hk
    have hcut := cutN_le (b := b) hr.lt (chc_bd a).2
    refine sm_some (coder_span_take_ok (h1.chg hc1 fun h => h) (by simp) (.inl (by omega)) fun w2 hb2 hc2 => sm_some ?_)
    have hbl : Bl 141 w2 bt [.int .u32 (cutN b lo hi (chc a)).1, .int .u32 (cutN b lo hi (chc a)).2, .int .u32 code, .slice x B.length c, .int .i64 p] := by
      rcases hbb with ⟨rfl, rfl⟩ | ⟨rfl, rfl⟩
      · rw [if_pos (by omega)] at hb2; exact hb2
      · rw [if_neg (by omega)] at hb2; exact hb2
    have hkb : (if b = true then (1 : Int) else 0) = bit := by rcases hbb with ⟨rfl, rfl⟩ | ⟨rfl, rfl⟩ <;> rfl
    rw [hkb] at hk
    have ho2 := (h2.chg hc1 fun _ _ h => h).chg hc2 fun b hb e => hb.2 e
    have kk : Chg (fun j => j = bt) w w2 := (hc1.mono fun _ h => h.elim).trans hc2
    generalize hc : cutN b lo hi (chc a) = cc at hbl hcut
    have hst : stp b (chc a) lo hi = shf 4 cc.1 cc.2 := by unfold stp; rw [hc]
    rw [hst] at hk
    obtain ⟨l', h'⟩ := cc
    dsimp only at hbl hcut hk
    refine coder_span_shift_ok hbl rfl rfl (by omega) (fun hne w3 hc3 => ⟨1, coder_Decode_l8f (by omega) (hk w3 ?_ (kk.trans (hc3.mono fun _ h => h.elim)))⟩) (fun he w3 hb3 hc3 => ⟨6, ?_⟩)
    · rw [shf_f hne]
      exact ⟨h0, hby, hcd, hpl, x, c, hbl.chg hc3 fun h => h, ho2.chg hc3 fun _ _ h => h⟩
    · refine coder_Decode_loop (bt := bt) 3 _ _ _ _ w3 6 (Nat.le_refl _) (by omega) (by omega) (wid_step (by omega) hcut.2.1 he (Nat.zero_le _)) (by omega) ⟨h0, hby, hcd, hpl, x, c, hb3, ho2.chg hc3 fun b hb e => hb.2 e⟩ (by omega) fun w4 hE4 hc4 => hk w4 ?_ ((kk.trans hc3).trans hc4)
      rw [shf_t he]
      exact hE4
  dsimp only
  refine sm_some (ldI_b (i := 2) (h1.chg hc1 fun h => h) rfl (cond_of (fun hh => ?_) (fun hh => ?_)))
  · have := of_decide_eq_true hh
    exact tail 1 true (.inl ⟨rfl, rfl⟩) (decide_eq_true (by dsimp only; omega))
  · have := of_decide_eq_false hh
    exact tail 0 false (.inr ⟨rfl, rfl⟩) (decide_eq_false (by dsimp only; omega))
theorem ref04_Decode_l5 {bt : Nat} {y5 : Int} {B : List Nat} {S : Nat → Prop} {K0 : Int → World → Prop} : ∀ (f lo hi code p : Nat) (w : World) (N : Nat), f ≤ 4 → lo ≤ hi → hi < 4294967296 → wid f ≤ hi - lo → p + f < 1000000000 → DS 143 w S bt B (lo, hi, code, p) → f < N →
    (∀ w', DS 143 w' S bt B ((shf f lo hi).2.1, (shf f lo hi).2.2, takN B (shf f lo hi).1.length code p) → Chg (fun j => j = bt) w w' → K0 y5 w') →
    ref04_Decoder_Decode.l5 N (some ⟨bt, 0, none⟩) y5 w K0 := by
  intro f
  induction f with
  | zero =>
    intro lo hi code p w N hf hr hh hw hp h hN hk
    obtain ⟨N, rfl⟩ : ∃ M, N = M + 1 := ⟨N - 1, by omega⟩
    rw [ref04_Decoder_Decode.l5]
    obtain ⟨h0, hby, hcd, hpl, a, c, h1, h2⟩ := h
    dsimp only at h1
    simp only [wid] at hw
    refine sm_some (ldI_b (i := 0) h1 rfl (ldI_b (i := 1) h1 rfl (ref04_out_ok fun w1 hc1 => bif_f (dec_f (by omega)) (hk w1 ?_ (hc1.mono fun _ h => h.elim)))))
    exact DS.chg ⟨h0, hby, hcd, hpl, a, c, h1, h2⟩ hc1 fun _ _ h => h
  | succ f ih =>
    intro lo hi code p w N hf hr hh hw hp h hN hk
    obtain ⟨N, rfl⟩ : ∃ M, N = M + 1 := ⟨N - 1, by omega⟩
    rw [ref04_Decoder_Decode.l5]
    obtain ⟨h0, hby, hcd, hpl, a, c, h1, h2⟩ := h
    dsimp only at h1 hcd hpl
    refine sm_some (ldI_b (i := 0) h1 rfl (ldI_b (i := 1) h1 rfl (ref04_out_ok fun w1 hc1 => ?_)))
    have h11 := h1.chg hc1 fun h => h
    refine cond_of (fun hd => ?_) (fun hd => hk w1 ?_ (hc1.mono fun _ h => h.elim))
    · have he := of_decide_eq_true hd
      refine sm_some (ldI_b (i := 0) h11 rfl (ldI_b (i := 1) h11 rfl (ref04_next_ok fun w2 hc2 => sm_some ?_)))
      refine stCs_go [(Value.int .u32 ((lo * 256 % 4294967296 : Nat) : Int)), (Value.int .u32 ((hi * 256 % 4294967296 + 255 : Nat) : Int))] 0 _ _ (h11.chg hc2 fun h => h) (by simp [one]) (by simp) fun w3 hb3 hc3 => ?_
      have ho3 := ((h2.chg hc1 fun _ _ h => h).chg hc2 fun _ _ h => h).chg hc3 fun b hb e => hb.2 e
      refine ref04_take_ok (lo := lo * 256 % 4294967296) (hi := hi * 256 % 4294967296 + 255) (code := code) (p := p) ⟨h0, hby, hcd, hpl, a, c, hb3, ho3⟩ (by omega) fun w4 hE4 hc4 => ?_
      refine ih _ _ _ _ w4 N (by omega) (by omega) (by omega) (wid_step (by omega) hr he hw) (by omega) hE4 (by omega) fun w5 hE5 hc5 => hk w5 ?_ (((((hc1.trans hc2).mono fun _ h => h.elim).trans hc3).trans hc4).trans hc5)
      rw [shf_t he]
      exact hE5
    · rw [shf_f (of_decide_eq_false hd)]
      exact DS.chg ⟨h0, hby, hcd, hpl, a, c, h1, h2⟩ hc1 fun _ _ h => h
theorem ref04_Decode_ok {bt : Nat} {a : Int} {B : List Nat} {s : Dst} {w : World} {S : Nat → Prop} {K : Int → World → Prop} (h : DS 143 w S bt B s) (hr : Rng s.1 s.2.1) (hp : s.2.2.2 ≤ 900000000)
    (hk : ∀ w', DS 143 w' S bt B (dstp B (chc a) s) → Chg (fun j => j = bt) w w' → K (if dbit (chc a) s then 1 else 0) w') : ref04_Decoder_Decode.f (some ⟨bt, 0, none⟩) a w K := by
  obtain ⟨lo, hi, code, p⟩ := s
  unfold ref04_Decoder_Decode.f
  obtain ⟨h0, hby, hcd, hpl, x, c, h1, h2⟩ := h
  dsimp only at hr hp hcd hpl h1
  have hbd := hr.bd
  have hm := midN_le (Nat.le_of_lt hr.lt) (chc_bd a).2
  have h1d : Bl 143 w.drew bt _ := h1
  have tail : ∀ (w1 : World) (bit : Int) (b : Bool), Chg no w w1 → (bit = 1 ∧ b = true ∨ bit = 0 ∧ b = false) → dbit (chc a) (lo, hi, code, p) = b →
      (sm (some (⟨bt, 0, none⟩ : Addr)) fun p_13 =>
      ldI .u32 (p_13.add 0) w1 fun x21_14 =>
      ldI .u32 (p_13.add 1) w1 fun x21_15 =>
      ref04_Range_cut.f x21_14 x21_15 bit a w1 fun r24_16_0 r24_16_1 w =>
      sm (some (⟨bt, 0, none⟩ : Addr)) fun p_17 =>
      stCs p_17 [(Value.int .u32 r24_16_0), (Value.int .u32 r24_16_1)] 0 w fun w =>
      ∃ N_31 : Nat, ref04_Decoder_Decode.l5 N_31 (some ⟨bt, 0, none⟩) bit w
      (fun o5_32 w => K o5_32 w)) := by
    intro w1 bit b hc1 hbb hbit
    unfold dstp at hk
    rw [hbit] at hk
    dsimp only at hk
    have hb' : (bit != 0) = b := by rcases hbb with ⟨rfl, rfl⟩ | ⟨rfl, rfl⟩ <;> rfl
    have hkb : (if b = true then (1 : Int) else 0) = bit := by rcases hbb with ⟨rfl, rfl⟩ | ⟨rfl, rfl⟩ <;> rfl
    rw [hkb] at hk
    have hcut := cutN_le (b := b) hr.lt (chc_bd a).2
    have h11 := h1.chg hc1 fun h => h
    refine sm_some (ldI_b (i := 0) h11 rfl (ldI_b (i := 1) h11 rfl (ref04_cut_ok hr fun w2 hc2 => sm_some ?_)))
    rw [hb']
    refine stCs_go [(Value.int .u32 ((cutN b lo hi (chc a)).1 : Nat)), (Value.int .u32 ((cutN b lo hi (chc a)).2 : Nat))] 0 _ _ (h11.chg hc2 fun h => h) (by simp [one]) (by simp) fun w3 hb3 hc3 => ⟨5, ?_⟩
    have ho3 := ((h2.chg hc1 fun _ _ h => h).chg hc2 fun _ _ h => h).chg hc3 fun b hb e => hb.2 e
    exact ref04_Decode_l5 4 _ _ code p w3 5 (Nat.le_refl _) hcut.2.1 (by omega) (Nat.zero_le _) (by omega) ⟨h0, hby, hcd, hpl, x, c, hb3, ho3⟩ (by omega) fun w4 hE4 hc4 => hk w4 hE4 ((((hc1.trans hc2).mono fun _ h => h.elim).trans hc3).trans hc4)
  dsimp only
  refine sm_some (ldI_b (i := 2) h1d rfl (sm_some (ldI_b (i := 0) h1d rfl (ldI_b (i := 1) h1d rfl (ref04_Mid_ok (Nat.le_of_lt hr.lt) hr.bd fun w1 hc1 => ?_)))))
  have k1 : Chg no w w1 := (Chg.drew no w).trans hc1
  refine ⟨(h1d.chg hc1 fun h => h).cell (i := 2) rfl, cond_of (fun hh => ?_) (fun hh => ?_)⟩
  · have := of_decide_eq_true hh
    exact tail w1 1 true k1 (.inl ⟨rfl, rfl⟩) (decide_eq_true (by dsimp only; omega))
  · have := of_decide_eq_false hh
    exact tail w1 0 false k1 (.inr ⟨rfl, rfl⟩) (decide_eq_false (by dsimp only; omega))
theorem past_eq {p n : Nat} (hp : p ≤ 1000000000) (hn : n ≤ 4611686018427387904) : mx 0 (IntKind.wrap .i64 ((p : Int) - (n : Int))) = ((p - n : Nat) : Int) := by
  rw [w64 (by omega) (by omega)]; unfold mx; split <;> omega
/-- The state of a new decoder. -/
def dnew (B : List Nat) : Dst := (0, 4294967295, takN B 4 0 0)
theorem coder_NewDecoder_ok {x : Option Addr} {n c : Nat} {B : List Nat} {w : World} {K : Option Addr → World → Prop} (hx : SlI .u8 w x (ints B)) (hn : B.length = n) (hby : ∀ x ∈ B, x < 256) (hs : n ≤ 140737488355328)
    (hk : ∀ bt w', DS 141 w' (fun b => w.heap.size ≤ b ∧ b < w'.heap.size) bt B (dnew B) → Chg no w w' → K (some ⟨bt, 0, none⟩) w') : coder_NewDecoder.f x n c w K := by
  unfold coder_NewDecoder.f
  refine coder_whole_ok fun w1 hc1 => cpS (hx.chg hc1 fun _ _ _ h => h) (by rw [ints_length]; exact hn) (by omega) (by omega) fun a' c' w2 ho hc2 => newC_b fun w3 hb3 hc3 hs3 => ?_
  have hz1 := hc1.size; have hz2 := hc2.size
  subst hn
  have k3 := (hc1.trans hc2).trans hc3
  have hDS : DS 141 w3 (fun b => w.heap.size ≤ b ∧ b < w3.heap.size) w2.heap.size B (0, 4294967295, 0, 0) := by
    refine ⟨⟨by omega, by omega⟩, hby, by dsimp only; omega, by dsimp only; omega, a', c', hb3, ?_⟩
    rcases ho.tight with h | ⟨b, xs, e0, hS, hb, hr⟩
    · exact .inl h
    · have := hb.bl.lt
      have hSb : b = w1.heap.size := hS.2
      exact .inr ⟨b, xs, e0, ⟨⟨by omega, by omega⟩, by omega⟩, hb.chg hc3 fun h => h, hr⟩
  have loop : ∀ (N k code p : Nat) (w' : World), k ≤ 4 → 4 - k < N → p = k → DS 141 w' (fun b => w.heap.size ≤ b ∧ b < w3.heap.size) w2.heap.size B (0, 4294967295, code, p) → takN B (4 - k) code p = takN B 4 0 0 → Chg (fun j => j = w2.heap.size) w3 w' →
      coder_NewDecoder.l3 N ⟨w2.heap.size, 0, none⟩ (k : Int) w' (fun o3 w => K (some o3) w) := by
    intro N
    induction N with
    | zero => intro k code p w' h1 h2; omega
    | succ N ih =>
      intro k code p w' h1 h2 hp hD ht hc
      rw [coder_NewDecoder.l3]
      by_cases hlt : k < 4
      · refine bif_t (dec_t (by omega)) (coder_more_ok hD (by omega) fun w4 hD4 hc4 => ?_)
        rw [inc (by omega)]
        refine ih (k + 1) _ _ w4 (by omega) (by omega) (by omega) hD4 ?_ (hc.trans hc4)
        rw [show 4 - k = (4 - (k + 1)) + 1 by omega, takN] at ht
        exact ht
      · have : k = 4 := by omega
        subst this
        refine bif_f (dec_f (by omega)) (hk _ w' ?_ (k3.then hc fun j hj h => by omega))
        have hz := hc.size
        rw [Nat.sub_self] at ht
        have e : dnew B = (0, 4294967295, code, p) := by unfold dnew; rw [← ht]; rfl
        rw [e]
        exact hD.mono fun b hb _ => ⟨hb.1, by omega⟩
  exact ⟨5, loop 5 0 0 0 w3 (by omega) (by omega) rfl hDS rfl (Chg.refl _ _)⟩
theorem ref04_NewDecoder_ok {x : Option Addr} {n c : Nat} {B : List Nat} {w : World} {K : Option Addr → World → Prop} (hx : SlI .u8 w x (ints B)) (hn : B.length = n) (hby : ∀ x ∈ B, x < 256) (hs : n ≤ 140737488355328)
    (hk : ∀ bt w', DS 143 w' (fun b => w.heap.size ≤ b ∧ b < w'.heap.size) bt B (dnew B) → Chg no w w' → K (some ⟨bt, 0, none⟩) w') : ref04_NewDecoder.f x n c w K := by
  unfold ref04_NewDecoder.f
  refine ref04_full_ok fun w1 hc1 => cpS (hx.chg hc1 fun _ _ _ h => h) (by rw [ints_length]; exact hn) (by omega) (by omega) fun a' c' w2 ho hc2 => newC_b fun w3 hb3 hc3 hs3 => ?_
  have hz1 := hc1.size; have hz2 := hc2.size
  subst hn
  have k3 := (hc1.trans hc2).trans hc3
  have hDS : DS 143 w3 (fun b => w.heap.size ≤ b ∧ b < w3.heap.size) w2.heap.size B (0, 4294967295, 0, 0) := by
    refine ⟨⟨by omega, by omega⟩, hby, by dsimp only; omega, by dsimp only; omega, a', c', hb3, ?_⟩
    rcases ho.tight with h | ⟨b, xs, e0, hS, hb, hr⟩
    · exact .inl h
    · have := hb.bl.lt
      have hSb : b = w1.heap.size := hS.2
      exact .inr ⟨b, xs, e0, ⟨⟨by omega, by omega⟩, by omega⟩, hb.chg hc3 fun h => h, hr⟩
  have loop : ∀ (N k code p : Nat) (w' : World), k ≤ 4 → 4 - k < N → p = k → DS 143 w' (fun b => w.heap.size ≤ b ∧ b < w3.heap.size) w2.heap.size B (0, 4294967295, code, p) → takN B (4 - k) code p = takN B 4 0 0 → Chg (fun j => j = w2.heap.size) w3 w' →
      ref04_NewDecoder.l3 N ⟨w2.heap.size, 0, none⟩ (k : Int) w' (fun o3 w => K (some o3) w) := by
    intro N
    induction N with
    | zero => intro k code p w' h1 h2; omega
    | succ N ih =>
      intro k code p w' h1 h2 hp hD ht hc
      rw [ref04_NewDecoder.l3]
      by_cases hlt : k < 4
      · refine bif_t (dec_t (by omega)) (ref04_take_ok hD (by omega) fun w4 hD4 hc4 => ?_)
        dsimp only
        rw [inc (by omega)]
        refine ih (k + 1) _ _ w4 (by omega) (by omega) (by omega) hD4 ?_ (hc.trans hc4)
        rw [show 4 - k = (4 - (k + 1)) + 1 by omega, takN] at ht
        exact ht
      · have : k = 4 := by omega
        subst this
        refine bif_f (dec_f (by omega)) (hk _ w' ?_ (k3.then hc fun j hj h => by omega))
        have hz := hc.size
        rw [Nat.sub_self] at ht
        have e : dnew B = (0, 4294967295, code, p) := by unfold dnew; rw [← ht]; rfl
        rw [e]
        exact hD.mono fun b hb _ => ⟨hb.1, by omega⟩
  exact ⟨5, loop 5 0 0 0 w3 (by omega) (by omega) rfl hDS rfl (Chg.refl _ _)⟩
end Go.Proofs.Ytdbnobeopgfhgaa.G
