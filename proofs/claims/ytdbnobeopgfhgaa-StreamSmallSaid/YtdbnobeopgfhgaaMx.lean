/- The model, continued: learning, and making. -/
import Derived.Test.YtdbnobeopgfhgaaMp
set_option linter.unusedVariables false
set_option linter.unusedSimpArgs false
namespace Go.Proofs.Ytdbnobeopgfhgaa.G
open Go Go.Proofs.Ytdbnobeopgfhgaa.Vm Go.RowKit
theorem bl_eq {e : TypeId} {w : World} {b : Nat} {l m : List Value} (h : Bl e w b l) (hl : l = m) : Bl e w b m := hl ▸ h
/-- The cells of a moved model. -/
theorem moved_cells {s : Mod} {bit : Int} (hb : bit = 0 ∨ bit = 1) :
    (256 ≤ 2 * s.part + bit.toNat → (s.moved bit).part = 1 ∧ (s.moved bit).last = 2 * s.part + bit.toNat - 256 ∧ (s.moved bit).older = s.last) ∧
    (¬ 256 ≤ 2 * s.part + bit.toNat → (s.moved bit).part = 2 * s.part + bit.toNat ∧ (s.moved bit).last = s.last ∧ (s.moved bit).older = s.older) ∧
    (s.moved bit).level = s.level ∧ (s.moved bit).A = s.A ∧ (s.moved bit).B = s.B ∧ (s.moved bit).C = s.C ∧ (s.moved bit).M = s.M ∧ (s.moved bit).S = s.S := by
  unfold Mod.moved
  dsimp only
  refine ⟨fun h => ?_, fun h => ?_, ?_⟩
  · rw [if_pos h]; exact ⟨rfl, rfl, rfl⟩
  · rw [if_neg h]; exact ⟨rfl, rfl, rfl⟩
  · split <;> exact ⟨rfl, rfl, rfl, rfl, rfl, rfl⟩
theorem model_Learn_ok {w : World} {S : Nat → Prop} {bt : Nat} {s : Mod} {bit : Int} {K : World → Prop} (hb : bit = 0 ∨ bit = 1) (hlt : ∀ b, S b → b < w.heap.size) (h : GM w S bt s) (hk : ∀ w', GM w' S bt (s.learn bit) → Chg S w w' → K w') : model_Model_Learn.f (some ⟨bt, 0, none⟩) bit w K := by
  have hcell := h.cells
  unfold model_Model_Learn.f
  obtain ⟨c', pa', pb', pc', pm', ps', _, h3', h4', _⟩ := hcell
  obtain ⟨ba', hba'⟩ := h4'.some'
  refine bif_f rfl (sm_some (ldP_b (i := 0) h3' rfl (bif_f (by rw [hba']; rfl) (model_Chance_ok hlt h fun w1 hG hc1 => ?_))))
  have hz1 := hc1.size
  unfold Mod.learn at hk
  generalize s.asked = s1 at hG hk
  obtain ⟨ok, h1, c, pa, pb, pc, pm, ps, hc0, h3, h4, h5⟩ := hG
  have okt := ok.taught bit
  have okm := okt.moved hb
  have hla := ok.la; have hlb := ok.lb; have hlc := ok.lc
  have hp1 := ok.p1; have hp2 := ok.p2; have hlast := ok.l; have hold := ok.o; have hlv := ok.lv
  refine model_contexts_ok ok h3 rfl rfl rfl ?_
  have kd : Chg no w1 w1.drew := Chg.drew no w1
  have h3d := h3.chg kd fun h => h
  refine sm_some (ldP_b (i := 0) h3d rfl ?_)
  refine guess_Table_Learn_ok (w := w1.drew) (h4.chg kd fun _ _ h => h) (by omega) (by omega) fun w2 hA2 hc2 => ?_
  have k2 : Chg (fun b => S b ∧ c b = 1) w1 w2 := (Chg.drew _ w1).trans hc2
  have h32 := h3.chg k2 fun h => by omega
  -- the place moves on
  have t52 : ∀ w5 : World, Bl 77 w5 bt [.pointer pa, .pointer pb, .pointer pc, .pointer pm, .pointer ps, .int .i64 s1.level, .int .i64 s1.part, .int .i64 s1.last, .int .i64 s1.older] → GT w5 (fun b => S b ∧ c b = 1) pa (s1.taught bit).A → GMb w5 S c (s1.taught bit) pb pc pm ps → Chg S w1 w5 →
      (sm (some (⟨bt, 0, none⟩ : Addr)) fun p_33 =>
          ldI .i64 (p_33.add 6) w5 fun x74_34 =>
          sm (some (⟨bt, 0, none⟩ : Addr)) fun p_35 =>
          stC (p_35.add 6) (Value.int .i64 (IntKind.wrap .i64 (x74_34 * 2))) w5 fun w =>
          bif (bit != 0) then
            sm (some (⟨bt, 0, none⟩ : Addr)) fun p_38 =>
            ldI .i64 (p_38.add 6) w fun x83_39 =>
            sm (some (⟨bt, 0, none⟩ : Addr)) fun p_40 =>
            stC (p_40.add 6) (Value.int .i64 (IntKind.wrap .i64 (x83_39 + 1))) w fun w =>
            (sm (some (⟨bt, 0, none⟩ : Addr)) fun p_42 =>
            ldI .i64 (p_42.add 6) w fun x90_43 =>
            bif (decide (x90_43 ≥ 256)) then
              sm (some (⟨bt, 0, none⟩ : Addr)) fun p_44 =>
              ldI .i64 (p_44.add 7) w.drew fun x98_45 =>
              sm (some (⟨bt, 0, none⟩ : Addr)) fun p_46 =>
              ldI .i64 (p_46.add 6) w.drew fun x102_47 =>
              sm (some (⟨bt, 0, none⟩ : Addr)) fun p_48 =>
              stC (p_48.add 8) (Value.int .i64 x98_45) w.drew fun w =>
              sm (some (⟨bt, 0, none⟩ : Addr)) fun p_49 =>
              stC (p_49.add 7) (Value.int .i64 (IntKind.wrap .i64 (x102_47 - 256))) w fun w =>
              sm (some (⟨bt, 0, none⟩ : Addr)) fun p_50 =>
              stC (p_50.add 6) (Value.int .i64 1) w fun w =>
              K w
            else
              K w)
          else
            (sm (some (⟨bt, 0, none⟩ : Addr)) fun p_42 =>
            ldI .i64 (p_42.add 6) w fun x90_43 =>
            bif (decide (x90_43 ≥ 256)) then
              sm (some (⟨bt, 0, none⟩ : Addr)) fun p_44 =>
              ldI .i64 (p_44.add 7) w.drew fun x98_45 =>
              sm (some (⟨bt, 0, none⟩ : Addr)) fun p_46 =>
              ldI .i64 (p_46.add 6) w.drew fun x102_47 =>
              sm (some (⟨bt, 0, none⟩ : Addr)) fun p_48 =>
              stC (p_48.add 8) (Value.int .i64 x98_45) w.drew fun w =>
              sm (some (⟨bt, 0, none⟩ : Addr)) fun p_49 =>
              stC (p_49.add 7) (Value.int .i64 (IntKind.wrap .i64 (x102_47 - 256))) w fun w =>
              sm (some (⟨bt, 0, none⟩ : Addr)) fun p_50 =>
              stC (p_50.add 6) (Value.int .i64 1) w fun w =>
              K w
            else
              K w)) := by
    intro w5 b5 hA5 hG5 k5
    obtain ⟨mh, ml, m1, m2, m3, m4, m5, m6⟩ := moved_cells (s := s1.taught bit) hb
    have tp : (s1.taught bit).part = s1.part := rfl
    have tl : (s1.taught bit).last = s1.last := rfl
    have to : (s1.taught bit).older = s1.older := rfl
    have tv : (s1.taught bit).level = s1.level := rfl
    rw [tp] at mh ml
    rw [tl] at mh ml
    rw [to] at ml
    -- the end of it
    have fin : ∀ (w6 : World) (v : Nat), v = 2 * s1.part + bit.toNat → Bl 77 w6 bt [.pointer pa, .pointer pb, .pointer pc, .pointer pm, .pointer ps, .int .i64 s1.level, .int .i64 v, .int .i64 s1.last, .int .i64 s1.older] → Chg (fun j => j = bt) w5 w6 →
        (sm (some (⟨bt, 0, none⟩ : Addr)) fun p_42 =>
            ldI .i64 (p_42.add 6) w6 fun x90_43 =>
            bif (decide (x90_43 ≥ 256)) then
              sm (some (⟨bt, 0, none⟩ : Addr)) fun p_44 =>
              ldI .i64 (p_44.add 7) w6.drew fun x98_45 =>
              sm (some (⟨bt, 0, none⟩ : Addr)) fun p_46 =>
              ldI .i64 (p_46.add 6) w6.drew fun x102_47 =>
              sm (some (⟨bt, 0, none⟩ : Addr)) fun p_48 =>
              stC (p_48.add 8) (Value.int .i64 x98_45) w6.drew fun w =>
              sm (some (⟨bt, 0, none⟩ : Addr)) fun p_49 =>
              stC (p_49.add 7) (Value.int .i64 (IntKind.wrap .i64 (x102_47 - 256))) w fun w =>
              sm (some (⟨bt, 0, none⟩ : Addr)) fun p_50 =>
              stC (p_50.add 6) (Value.int .i64 1) w fun w =>
              K w
            else
              K w6) := by
      intro w6 v hv b6 k6
      have last : ∀ (w7 : World) (l : List Value), Bl 77 w7 bt l → l = [.pointer pa, .pointer pb, .pointer pc, .pointer pm, .pointer ps, .int .i64 ((s1.taught bit).moved bit).level, .int .i64 ((s1.taught bit).moved bit).part, .int .i64 ((s1.taught bit).moved bit).last, .int .i64 ((s1.taught bit).moved bit).older] → Chg (fun j => j = bt) w5 w7 → K w7 := by
        intro w7 l b7 hl k7
        subst hl
        refine hk w7 ⟨okm, h1, c, pa, pb, pc, pm, ps, hc0, b7, ?_, ?_⟩ (hc1.trans (k5.trans (k7.mono fun b hb => by subst hb; exact h1)))
        · rw [m2]; exact hA5.chg k7 fun b hb e => by subst e; omega
        · have := hG5.chg k7 fun b hb h2 e => by subst e; omega
          unfold GMb at this ⊢
          rw [m1, m3, m4, m5, m6]; exact this
      refine sm_some (ldI_b (i := 6) b6 rfl (cond_of (fun hh => ?_) (fun hh => ?_)))
      · have h256 : 256 ≤ 2 * s1.part + bit.toNat := by have := of_decide_eq_true hh; omega
        obtain ⟨q1, q2, q3⟩ := mh h256
        have b6d : Bl 77 w6.drew bt [.pointer pa, .pointer pb, .pointer pc, .pointer pm, .pointer ps, .int .i64 s1.level, .int .i64 v, .int .i64 s1.last, .int .i64 s1.older] := b6
        refine sm_some (ldI_b (i := 7) b6d rfl (sm_some (ldI_b (i := 6) b6d rfl (sm_some ?_))))
        refine stC_b (i := 8) b6d (by simp) fun w7 b7 k7 => sm_some ?_
        have hbit : bit.toNat ≤ 1 := by omega
        rw [w64 (by omega) (by omega)]
        refine stC_b (i := 7) b7 (by simp) fun w8 b8 k8 => sm_some (stC_b (i := 6) b8 (by simp) fun w9 b9 k9 => last w9 _ b9 ?_ ((((k6.trans (Chg.drew _ w6)).trans k7).trans k8).trans k9))
        rw [m1, q1, q2, q3, tv]
        have : ((v : Int) - 256) = ((2 * s1.part + bit.toNat - 256 : Nat) : Int) := by omega
        rw [this]; rfl
      · have h256 : ¬ 256 ≤ 2 * s1.part + bit.toNat := by have := of_decide_eq_false hh; omega
        obtain ⟨q1, q2, q3⟩ := ml h256
        refine last w6 _ b6 ?_ k6
        rw [m1, q1, q2, q3, tv, hv]
    refine sm_some (ldI_b (i := 6) b5 rfl (sm_some ?_))
    have e2 : IntKind.wrap .i64 ((s1.part : Int) * 2) = ((2 * s1.part : Nat) : Int) := by rw [w64 (by omega) (by omega)]; omega
    rw [e2]
    refine stC_b (i := 6) b5 (by simp) fun w6 b6 k6 => cond_of (fun hh => ?_) (fun hh => ?_)
    · have hb1 : bit = 1 := by rcases hb with rfl | rfl; cases hh; rfl
      refine sm_some (ldI_b (i := 6) b6 rfl (sm_some ?_))
      have e3 : IntKind.wrap .i64 (((2 * s1.part : Nat) : Int) + 1) = ((2 * s1.part + 1 : Nat) : Int) := by rw [w64 (by omega) (by omega)]; omega
      rw [e3]
      exact stC_b (i := 6) b6 (by simp) fun w7 b7 k7 => fin w7 (2 * s1.part + 1) (by subst hb1; rfl) b7 (k6.trans k7)
    · have hb0 : bit = 0 := by rcases hb with rfl | rfl; rfl; cases hh
      exact fin w6 (2 * s1.part) (by subst hb0; rfl) b6 k6
  have kS2 : Chg S w1 w2 := k2.mono fun b hb => hb.1
  dsimp only
  refine sm_some (ldI_b (i := 5) h32 rfl (cond_of (fun hh => ?_) (fun hh => ?_)))
  · have hl0 : s1.level ≠ 0 := by have := of_decide_eq_true hh; omega
    obtain ⟨gB, ⟨bm, em, gM⟩, ⟨bs, es, gS⟩⟩ := h5.1 hl0
    refine sm_some (ldP_b (i := 1) h32 rfl (guess_Table_Learn_ok (gB.chg k2 fun b hb hh => by omega) (by omega) (by omega) fun w3 hB3 hc3 => sm_some ?_))
    have k3 : Chg (fun b => S b ∧ (c b = 1 ∨ c b = 2)) w1 w3 := (k2.mono fun b hb => ⟨hb.1, .inl hb.2⟩).trans (hc3.mono fun b hb => ⟨hb.1, .inr hb.2⟩)
    refine ldP_b (i := 3) (h3.chg k3 fun h => by omega) rfl ?_
    rw [em]
    refine mix_Learn_ok (gM.chg k3 fun b hb hh => by omega) fun w4 hM4 hc4 => sm_some ?_
    have k4 : Chg (fun b => S b ∧ (c b = 1 ∨ c b = 2 ∨ c b = 4)) w1 w4 := (k3.mono fun b hb => ⟨hb.1, hb.2.imp id .inl⟩).trans (hc4.mono fun b hb => ⟨hb.1, .inr (.inr hb.2)⟩)
    refine ldP_b (i := 4) (h3.chg k4 fun h => by omega) rfl ?_
    rw [es]
    refine stage_Learn_ok (gS.chg k4 fun b hb hh => by omega) fun w5 hS5 hc5 => sm_some ?_
    have k5 : Chg (fun b => S b ∧ (c b = 1 ∨ c b = 2 ∨ c b = 4 ∨ c b = 5)) w1 w5 := (k4.mono fun b hb => ⟨hb.1, by omega⟩).trans (hc5.mono fun b hb => ⟨hb.1, by omega⟩)
    have h35 := h3.chg k5 fun h => by omega
    have hA5 : GT w5 (fun b => S b ∧ c b = 1) pa (s1.taught bit).A := ((hA2.chg hc3 fun b hb hh => by omega).chg hc4 fun b hb hh => by omega).chg hc5 fun b hb hh => by omega
    have hB5 : GT w5 (fun b => S b ∧ c b = 2) pb (s1.taught bit).B := by
      have e : (s1.taught bit).B = upd s1.B s1.c2 bit 4 := by unfold Mod.taught; dsimp only; rw [if_neg hl0]
      rw [e]
      exact (hB3.chg hc4 fun b hb hh => by omega).chg hc5 fun b hb hh => by omega
    have eM : (s1.taught bit).M = s1.M.learn bit := by unfold Mod.taught; dsimp only; rw [if_neg hl0]
    have eS : (s1.taught bit).S = s1.S.learn bit 6 := by unfold Mod.taught; dsimp only; rw [if_neg hl0]
    have base : (∃ bm, pm = some ⟨bm, 0, none⟩ ∧ MS w5 (fun b => S b ∧ c b = 4) bm (s1.taught bit).M) ∧ (∃ bs, ps = some ⟨bs, 0, none⟩ ∧ SS w5 (fun b => S b ∧ c b = 5) bs (s1.taught bit).S) := by
      rw [eM, eS]
      exact ⟨⟨bm, em, hM4.chg hc5 fun b hb hh => by omega⟩, ⟨bs, es, hS5⟩⟩
    refine ldI_b (i := 5) h35 rfl (cond_of (fun hh2 => ?_) (fun hh2 => ?_))
    · have hl2 : s1.level = 2 := by have := of_decide_eq_true hh2; omega
      have gC := h5.2 hl2
      refine sm_some (ldP_b (i := 2) h35 rfl (guess_Table_Learn_ok (gC.chg k5 fun b hb hh => by omega) (by omega) (by omega) fun w6 hC6 hc6 => ?_))
      refine t52 w6 (h35.chg hc6 fun h => by omega) (hA5.chg hc6 fun b hb hh => by omega) ⟨fun _ => ⟨hB5.chg hc6 fun b hb hh => by omega, ?_, ?_⟩, fun _ => ?_⟩ ((k5.mono fun b hb => hb.1).trans (hc6.mono fun b hb => hb.1))
      · obtain ⟨⟨x, ex, hx⟩, _⟩ := base
        exact ⟨x, ex, hx.chg hc6 fun b hb hh => by omega⟩
      · obtain ⟨_, ⟨x, ex, hx⟩⟩ := base
        exact ⟨x, ex, hx.chg hc6 fun b hb hh => by omega⟩
      · have e : (s1.taught bit).C = upd s1.C s1.c3 bit 3 := by unfold Mod.taught; dsimp only; rw [if_pos hl2]
        rw [e]; exact hC6
    · have hl2 : s1.level ≠ 2 := by have := of_decide_eq_false hh2; omega
      exact t52 w5 h35 hA5 ⟨fun _ => ⟨hB5, base.1, base.2⟩, fun h => absurd h hl2⟩ (k5.mono fun b hb => hb.1)
  · have hl0 : s1.level = 0 := by have := of_decide_eq_false hh; omega
    refine sm_some (ldI_b (i := 5) h32 rfl (bif_f (dec_f (by omega)) ?_))
    refine t52 w2 h32 hA2 ⟨fun h => absurd hl0 h, fun h => ?_⟩ kS2
    have : s1.level = 2 := h
    omega
theorem model_New_ok {w : World} {a : Int} {K : Option Addr → World → Prop}
    (hk : ∀ bt w', GM w' (fun b => w.heap.size ≤ b ∧ b < w'.heap.size) bt (modNew (mx 0 (mn a 2)).toNat) → Chg no w w' → K (some ⟨bt, 0, none⟩) w') : model_New.f a w K := by
  unfold model_New.f
  have h1 := mx_bd 0 (mn a 2)
  have h2 := mn_bd a 2
  obtain ⟨lv, hlv, hlv2⟩ : ∃ lv : Nat, mx 0 (mn a 2) = lv ∧ lv ≤ 2 := ⟨(mx 0 (mn a 2)).toNat, by omega, by omega⟩
  rw [hlv] at hk ⊢
  rw [Int.toNat_natCast] at hk
  have e256 : (mx 1 (mn 256 65536)).toNat = 256 := by decide
  have e65536 : (mx 1 (mn 65536 65536)).toNat = 65536 := by decide
  have em256 : (mx 1 (mn 256 4096)).toNat = 256 := by decide
  have es256 : (mx 1 (mn 256 1024)).toNat = 256 := by decide
  have okn := modNew_ok hlv2
  refine newC_b fun w1 hb1 hc1 hs1 => guess_New_ok fun pa w2 hA2 hc2 => ?_
  rw [e256] at hA2
  obtain ⟨ba, hba⟩ := hA2.some'
  have hz2 := hc2.size
  refine stC_b (i := 0) (hb1.chg hc2 fun h => h) (by simp) fun w3 hb3 hc3 => ?_
  have hz3 := hc3.size
  have k3 : Chg no w w3 := (hc1.trans hc2).then hc3 fun j hj h => by omega
  have hA3 := hA2.chg hc3 fun b hb h => by omega
  dsimp only
  refine ldI_b (i := 5) hb3 rfl (cond_of (fun hh => ?_) (fun hh => ?_))
  · have hl0 : lv ≠ 0 := by have := of_decide_eq_true hh; omega
    refine guess_New_ok fun pb w4 hB4 hc4 => mix_New_ok fun bm w5 hM5 hc5 => stage_New_ok fun bs w6 hS6 hc6 => ?_
    rw [e65536] at hB4
    rw [em256] at hM5
    rw [es256] at hS6
    have hz4 := hc4.size; have hz5 := hc5.size; have hz6 := hc6.size
    have k46 := (hc4.trans hc5).trans hc6
    refine stC_b (i := 1) (hb3.chg k46 fun h => h) (by simp) fun w7 hb7 hc7 => stC_b (i := 3) hb7 (by simp) fun w8 hb8 hc8 => stC_b (i := 4) hb8 (by simp) fun w9 hb9 hc9 => ?_
    have k79 : Chg (fun j => j = w.heap.size) w6 w9 := (hc7.trans hc8).trans hc9
    have hz9 := k79.size
    have k9 : Chg no w w9 := (k3.trans k46).then k79 fun j hj h => by omega
    have hA9 := (hA3.chg k46 fun _ _ h => h).chg k79 fun b hb h => by omega
    have hB9 := (hB4.chg (hc5.trans hc6) fun _ _ h => h).chg k79 fun b hb h => by omega
    have hM9 := (hM5.chg hc6 fun _ _ h => h).chg k79 fun b hb h => by omega
    have hS9 := hS6.chg k79 fun b hb h => by omega
    refine ldI_b (i := 5) hb9 rfl (cond_of (fun hh2 => ?_) (fun hh2 => ?_))
    · refine guess_New_ok fun pc w10 hC10 hc10 => ?_
      rw [e65536] at hC10
      have hz10 := hc10.size
      refine stC_b (i := 2) (hb9.chg hc10 fun h => h) (by simp) fun w11 hb11 hc11x => ?_
      have hc11 : Chg (fun j => j = w.heap.size) w10 w11 := hc11x
      have hz11 := hc11.size
      have kk := hc10.size
      have kA := (hA9.chg hc10 fun _ _ h => h).chg hc11 fun b hb h => by omega
      have kB := (hB9.chg hc10 fun _ _ h => h).chg hc11 fun b hb h => by omega
      have kM := (hM9.chg hc10 fun _ _ h => h).chg hc11 fun b hb h => by omega
      have kS := (hS9.chg hc10 fun _ _ h => h).chg hc11 fun b hb h => by omega
      have kC := hC10.chg hc11 fun b hb h => by omega
      refine hk _ w11 ⟨okn, ⟨Nat.le_refl _, by omega⟩, fun b => if b < w1.heap.size then 0 else if b < w2.heap.size then 1 else if b < w4.heap.size then 2 else if b < w5.heap.size then 4 else if b < w9.heap.size then 5 else 3, pa, pb, pc, some ⟨bm, 0, none⟩, some ⟨bs, 0, none⟩, ?_, hb11, ?_, ⟨fun _ => ⟨?_, ⟨bm, rfl, ?_⟩, ⟨bs, rfl, ?_⟩⟩, fun _ => ?_⟩⟩ ((k9.trans hc10).then hc11 fun j hj h => by omega)
      · dsimp only; rw [if_pos (by omega)]
      · exact kA.mono fun b hb hl => ⟨⟨by omega, by omega⟩, by dsimp only; rw [if_neg (by omega), if_pos (by omega)]⟩
      · exact kB.mono fun b hb hl => ⟨⟨by omega, by omega⟩, by dsimp only; rw [if_neg (by omega), if_neg (by omega), if_pos (by omega)]⟩
      · exact kM.mono fun b hb hl => ⟨⟨by omega, by omega⟩, by dsimp only; rw [if_neg (by omega), if_neg (by omega), if_neg (by omega), if_pos (by omega)]⟩
      · exact kS.mono fun b hb hl => ⟨⟨by omega, by omega⟩, by dsimp only; rw [if_neg (by omega), if_neg (by omega), if_neg (by omega), if_neg (by omega), if_pos (by omega)]⟩
      · exact kC.mono fun b hb hl => ⟨⟨by omega, by omega⟩, by dsimp only; rw [if_neg (by omega), if_neg (by omega), if_neg (by omega), if_neg (by omega), if_neg (by omega)]⟩
    · have hl2 : lv ≠ 2 := by have := of_decide_eq_false hh2; omega
      refine hk _ w9 ⟨okn, ⟨Nat.le_refl _, by omega⟩, fun b => if b < w1.heap.size then 0 else if b < w2.heap.size then 1 else if b < w4.heap.size then 2 else if b < w5.heap.size then 4 else if b < w9.heap.size then 5 else 3, pa, pb, none, some ⟨bm, 0, none⟩, some ⟨bs, 0, none⟩, ?_, hb9, ?_, ⟨fun _ => ⟨?_, ⟨bm, rfl, ?_⟩, ⟨bs, rfl, ?_⟩⟩, fun h => absurd h hl2⟩⟩ k9
      · dsimp only; rw [if_pos (by omega)]
      · exact hA9.mono fun b hb hl => ⟨⟨by omega, by omega⟩, by dsimp only; rw [if_neg (by omega), if_pos (by omega)]⟩
      · exact hB9.mono fun b hb hl => ⟨⟨by omega, by omega⟩, by dsimp only; rw [if_neg (by omega), if_neg (by omega), if_pos (by omega)]⟩
      · exact hM9.mono fun b hb hl => ⟨⟨by omega, by omega⟩, by dsimp only; rw [if_neg (by omega), if_neg (by omega), if_neg (by omega), if_pos (by omega)]⟩
      · exact hS9.mono fun b hb hl => ⟨⟨by omega, by omega⟩, by dsimp only; rw [if_neg (by omega), if_neg (by omega), if_neg (by omega), if_neg (by omega), if_pos (by omega)]⟩
  · have hl0 : lv = 0 := by have := of_decide_eq_false hh; omega
    refine ldI_b (i := 5) hb3 rfl (bif_f (dec_f (by omega)) ?_)
    refine hk _ w3 ⟨okn, ⟨Nat.le_refl _, by omega⟩, fun b => if b < w1.heap.size then 0 else 1, pa, none, none, none, none, ?_, hb3, ?_, ⟨fun h => absurd hl0 h, fun h => ?_⟩⟩ k3
    · dsimp only; rw [if_pos (by omega)]
    · exact hA3.mono fun b hb hl => ⟨⟨by omega, by omega⟩, by dsimp only; rw [if_neg (by omega)]⟩
    · have : lv = 2 := h
      omega
end Go.Proofs.Ytdbnobeopgfhgaa.G
