/- The model's reference. -/
import Derived.Test.YtdbnobeopgfhgaaMx
set_option linter.unusedVariables false
set_option linter.unusedSimpArgs false
namespace Go.Proofs.Ytdbnobeopgfhgaa.G
open Go Go.Proofs.Ytdbnobeopgfhgaa.Vm Go.RowKit
structure RM (w : World) (S : Nat → Prop) (bt : Nat) (s : Mod) : Prop where
  ok : Dok s
  inS : S bt
  cells : ∃ (c : Nat → Nat) (pa pb pc : Option Addr) (bm bs : Nat), c bt = 0 ∧ Bl 85 w bt [.int .i64 s.level, .pointer pa, .pointer pb, .pointer pc, .pointer (some ⟨bm, 0, none⟩), .pointer (some ⟨bs, 0, none⟩), .int .i64 s.part, .int .i64 s.last, .int .i64 s.older] ∧
    RT w (fun b => S b ∧ c b = 1) pa s.A ∧ RT w (fun b => S b ∧ c b = 2) pb s.B ∧ RT w (fun b => S b ∧ c b = 3) pc s.C ∧ MR w (fun b => S b ∧ c b = 4) bm s.M ∧ SR w (fun b => S b ∧ c b = 5) bs s.S
theorem RM.chg {S T : Nat → Prop} {w w' : World} {bt : Nat} {s : Mod} (h : RM w S bt s) (hc : Chg T w w') (hn : ∀ b, S b → ¬ T b) : RM w' S bt s := by
  obtain ⟨h0, h1, c, pa, pb, pc, bm, bs, h2, h3, h4, h5, h6, h7, h8⟩ := h
  exact ⟨h0, h1, c, pa, pb, pc, bm, bs, h2, h3.chg hc (hn _ h1), h4.chg hc fun b hb => hn b hb.1, h5.chg hc fun b hb => hn b hb.1, h6.chg hc fun b hb => hn b hb.1, h7.chg hc fun b hb => hn b hb.1, h8.chg hc fun b hb => hn b hb.1⟩
theorem RM.mono {S T : Nat → Prop} {w : World} {bt : Nat} {s : Mod} (h : RM w S bt s) (hs : ∀ b, S b → T b) : RM w T bt s := by
  obtain ⟨h0, h1, c, pa, pb, pc, bm, bs, h2, h3, h4, h5, h6, h7, h8⟩ := h
  exact ⟨h0, hs _ h1, c, pa, pb, pc, bm, bs, h2, h3, h4.mono fun b hb => ⟨hs b hb.1, hb.2⟩, h5.mono fun b hb => ⟨hs b hb.1, hb.2⟩, h6.mono fun b hb => ⟨hs b hb.1, hb.2⟩, h7.mono fun b hb => ⟨hs b hb.1, hb.2⟩, h8.mono fun b hb => ⟨hs b hb.1, hb.2⟩⟩
theorem ref08_second_ok {w : World} {e : TypeId} {bt : Nat} {l : List Value} {s : Mod} {K : Int → World → Prop} (ok : Dok s) (h : Bl e w bt l) (h6 : l[6]? = some (.int .i64 s.part)) (h7 : l[7]? = some (.int .i64 s.last)) (hk : K s.c2 w.drew) : ref08_Model_second.f (some ⟨bt, 0, none⟩) w K := by
  unfold ref08_Model_second.f
  have hd : Bl e w.drew bt l := h
  have p2 := ok.p2; have hl := ok.l
  refine sm_some (ldI_b (i := 7) hd h7 (sm_some (ldI_b (i := 6) hd h6 ?_)))
  dsimp only
  have e1 : IntKind.wrap .i64 (IntKind.wrap .i64 ((s.last : Int) * 256) + (s.part : Int)) = ((s.c2 : Nat) : Int) := by unfold Mod.c2; rw [w64 (a := (s.last : Int) * 256) (by omega) (by omega), w64 (by omega) (by omega)]; omega
  rw [e1]; exact hk
theorem ref08_third_ok {w : World} {e : TypeId} {bt : Nat} {l : List Value} {s : Mod} {K : Int → World → Prop} (ok : Dok s) (h : Bl e w bt l) (h6 : l[6]? = some (.int .i64 s.part)) (h7 : l[7]? = some (.int .i64 s.last)) (h8 : l[8]? = some (.int .i64 s.older)) (hk : K s.c3 w.drew) : ref08_Model_third.f (some ⟨bt, 0, none⟩) w K := by
  unfold ref08_Model_third.f
  have hd : Bl e w.drew bt l := h
  have p2 := ok.p2; have hl := ok.l; have ho := ok.o
  refine sm_some (ldI_b (i := 8) hd h8 (sm_some (ldI_b (i := 7) hd h7 (sm_some (ldI_b (i := 6) hd h6 ?_)))))
  dsimp only
  have e2 : IntKind.wrap .i64 (IntKind.wrap .i64 ((s.older : Int) * 256) + (s.last : Int)) = ((s.older * 256 + s.last : Nat) : Int) := by rw [w64 (a := (s.older : Int) * 256) (by omega) (by omega), w64 (by omega) (by omega)]; omega
  have e3 : IntKind.wrap .i64 (IntKind.wrap .i64 (((s.older * 256 + s.last : Nat) : Int) * 40503) + IntKind.wrap .i64 ((s.part : Int) * 7919)) = (((s.older * 256 + s.last) * 40503 + s.part * 7919 : Nat) : Int) := by
    rw [w64 (a := ((s.older * 256 + s.last : Nat) : Int) * 40503) (by omega) (by omega), w64 (a := (s.part : Int) * 7919) (by omega) (by omega), w64 (by omega) (by omega)]; omega
  have e4 : Int.tmod (((s.older * 256 + s.last) * 40503 + s.part * 7919 : Nat) : Int) 65536 = ((s.c3 : Nat) : Int) := by
    unfold Mod.c3
    rw [Int.tmod_eq_emod_of_nonneg (by omega)]; omega
  rw [e2, e3, e4]; exact hk
/-- Blocks that are new are the mixer's. -/
def cnew (z : Nat) (c : Nat → Nat) (b : Nat) : Nat := if z ≤ b then 4 else c b
theorem ref08_Chance_ok {w : World} {S : Nat → Prop} {bt : Nat} {s : Mod} {K : Int → World → Prop} (hlt : ∀ b, S b → b < w.heap.size) (h : RM w S bt s) (hk : ∀ w', RM w' (gr S w w') bt s.asked → Chg S w w' → K s.chance w') : ref08_Model_Chance.f (some ⟨bt, 0, none⟩) w K := by
  have hR := h
  obtain ⟨ok, h1, c, pa, pb, pc, bm, bs, hc0, h3, h4, h5, h6, h7, h8⟩ := h
  unfold ref08_Model_Chance.f
  have hla := ok.la; have hlb := ok.lb; have hlc := ok.lc; have hlv := ok.lv
  have kd : Chg no w w.drew := Chg.drew no w
  have h3d := h3.chg kd fun h => h
  refine sm_some (ldI_b (i := 0) h3 rfl (cond_of (fun hh => ?_) (fun hh => ?_)))
  · have hl0 : s.level = 0 := by
      have : (s.level : Int) = 0 := by simpa using hh
      omega
    have ea : s.asked = s := by unfold Mod.asked; rw [if_pos hl0]
    have ec : s.chance = chanceV (at' s.A s.part) := by unfold Mod.chance; rw [if_pos hl0]
    rw [ea, ec] at hk
    refine sm_some (ldP_b (i := 1) h3d rfl (sm_some (ldI_b (i := 6) h3d rfl (ref05_Table_At_ok (h4.chg kd fun _ _ h => h) (by omega) (by omega) fun w2 hc2 => ?_))))
    exact hk w2 ((hR.chg (kd.trans hc2) fun _ _ h => h).mono fun b hb => .inl hb) ((kd.trans hc2).mono fun _ h => h.elim)
  · have hl0 : s.level ≠ 0 := by
      have : (s.level : Int) ≠ 0 := by simpa using hh
      omega
    have ea : s.asked = { s with M := s.M', S := s.S.refine s.p s.part } := by unfold Mod.asked; rw [if_neg hl0]
    have ec : s.chance = IntKind.wrap .i64 (Int.tdiv (IntKind.wrap .i64 (s.p + IntKind.wrap .i64 (3 * s.q))) 4) := by unfold Mod.chance; rw [if_neg hl0]
    have oka := ok.asked
    rw [ea] at oka
    rw [ea, ec] at hk
    have t48 : ∀ w1 : World, Chg no w w1 →
      (sm (some (⟨bt, 0, none⟩ : Addr)) fun p_24 =>
      ldP (p_24.add 4) w1.drew fun x35_25 =>
      sm (some (⟨bt, 0, none⟩ : Addr)) fun p_26 =>
      ldI .i64 (p_26.add 6) w1.drew fun x39_27 =>
      sm (some (⟨bt, 0, none⟩ : Addr)) fun p_28 =>
      ldP (p_28.add 1) w1.drew fun x43_29 =>
      sm (some (⟨bt, 0, none⟩ : Addr)) fun p_30 =>
      ldI .i64 (p_30.add 6) w1.drew fun x47_31 =>
      sm (some (⟨bt, 0, none⟩ : Addr)) fun p_32 =>
      ldP (p_32.add 2) w1.drew fun x53_33 =>
      ref05_Table_At.f x43_29 x47_31 w1.drew fun r48_34 w =>
      (World.cell? w (p_32.add 2) = some (.pointer x53_33)) ∧
      ((World.cell? w (p_26.add 6) = some (.int .i64 x39_27)) ∧
      ((World.cell? w (p_24.add 4) = some (.pointer x35_25)) ∧
      (ref06_Stretch.f r48_34 w fun r49_35 w =>
      (World.cell? w (p_32.add 2) = some (.pointer x53_33)) ∧
      ((World.cell? w (p_26.add 6) = some (.int .i64 x39_27)) ∧
      ((World.cell? w (p_24.add 4) = some (.pointer x35_25)) ∧
      (ref08_Model_second.f (some ⟨bt, 0, none⟩) w fun r55_36 w =>
      (World.cell? w (p_32.add 2) = some (.pointer x53_33)) ∧
      ((World.cell? w (p_26.add 6) = some (.int .i64 x39_27)) ∧
      ((World.cell? w (p_24.add 4) = some (.pointer x35_25)) ∧
      (ref05_Table_At.f x53_33 r55_36 w fun r56_37 w =>
      (World.cell? w (p_26.add 6) = some (.int .i64 x39_27)) ∧
      ((World.cell? w (p_24.add 4) = some (.pointer x35_25)) ∧
      (ref06_Stretch.f r56_37 w fun r57_38 w =>
      (World.cell? w (p_26.add 6) = some (.int .i64 x39_27)) ∧
      ((World.cell? w (p_24.add 4) = some (.pointer x35_25)) ∧
      (newC 3 [(Value.int .i64 r49_35), (Value.int .i64 r57_38), (Value.int .i64 s.x2), (Value.int .i64 256)] w fun a59_39 w =>
      (World.cell? w (p_26.add 6) = some (.int .i64 x39_27)) ∧
      ((World.cell? w (p_24.add 4) = some (.pointer x35_25)) ∧
      (ref06_Mixer_Mix.f x35_25 x39_27 (some a59_39) 4 4 w fun r60_40 w =>
      sm (some (⟨bt, 0, none⟩ : Addr)) fun p_42 =>
      ldP (p_42.add 5) w.drew fun x65_43 =>
      sm (some (⟨bt, 0, none⟩ : Addr)) fun p_44 =>
      ldI .i64 (p_44.add 6) w.drew fun x70_45 =>
      ref07_Stage_Refine.f x65_43 r60_40 x70_45 w.drew fun r71_46 w =>
      K (IntKind.wrap .i64 (Int.tdiv (IntKind.wrap .i64 (r60_40 + (IntKind.wrap .i64 (3 * r71_46)))) 4)) w)))))))))))))))) := by
      intro w1 k1
      have k1d : Chg no w w1.drew := k1.trans (Chg.drew no w1)
      have h31 := h3.chg k1d fun h => h
      have cell := fun {w' : World} (hc : Chg no w w') {i : Nat} {v : Value} (hi : [Value.int .i64 s.level, .pointer pa, .pointer pb, .pointer pc, .pointer (some ⟨bm, 0, none⟩), .pointer (some ⟨bs, 0, none⟩), .int .i64 s.part, .int .i64 s.last, .int .i64 s.older][i]? = some v) => (h3.chg hc fun h => h).cell (i := i) hi
      refine sm_some (ldP_b (i := 4) h31 rfl (sm_some (ldI_b (i := 6) h31 rfl (sm_some (ldP_b (i := 1) h31 rfl (sm_some (ldI_b (i := 6) h31 rfl (sm_some (ldP_b (i := 2) h31 rfl ?_)))))))))
      refine ref05_Table_At_ok (h4.chg k1d fun _ _ h => h) (by omega) (by omega) fun w2 hc2 => ?_
      have k2 := k1d.trans hc2
      refine ⟨cell k2 (i := 2) rfl, cell k2 (i := 6) rfl, cell k2 (i := 4) rfl, ref06_Stretch_v ⟨cell k2 (i := 2) rfl, cell k2 (i := 6) rfl, cell k2 (i := 4) rfl, ?_⟩⟩
      refine ref08_second_ok ok (h3.chg k2 fun h => h) rfl rfl ?_
      have k2d : Chg no w w2.drew := k2.trans (Chg.drew no w2)
      refine ⟨cell k2d (i := 2) rfl, cell k2d (i := 6) rfl, cell k2d (i := 4) rfl, ref05_Table_At_ok (h5.chg k2d fun _ _ h => h) (by omega) (by omega) fun w3 hc3 => ?_⟩
      have k3 := k2d.trans hc3
      refine ⟨cell k3 (i := 6) rfl, cell k3 (i := 4) rfl, ref06_Stretch_v ⟨cell k3 (i := 6) rfl, cell k3 (i := 4) rfl, newC_b fun w4 hb4 hc4 hs4 => ?_⟩⟩
      have k4 := k3.trans hc4
      refine ⟨cell k4 (i := 6) rfl, cell k4 (i := 4) rfl, ?_⟩
      have hx4 : SlI .i64 w4 (some ⟨w3.heap.size, 0, none⟩) s.xs := BlI.sl (show BlI .i64 3 w4 w3.heap.size s.xs from hb4)
      have hz3 := k3.size; have hz4 := k4.size
      refine ref06_Mix_ok (h7.chg k4 fun _ _ h => h) (fun b hb => Nat.lt_of_lt_of_le (hlt b hb.1) hz4) hx4 (fun p hp _ hh => by
        cases hp
        have : w3.heap.size < w.heap.size := hlt _ hh.1
        omega) rfl fun w5 hM5 hc5 => sm_some ?_
      have hz5 := hc5.size
      have hbm := h7.inS
      have hbs := h8.inS
      have k5 : Chg (fun b => b = bm) w w5 := (k4.mono fun _ h => h.elim).trans hc5
      have k5d := k5.trans (Chg.drew _ w5)
      have h35 := h3.chg k5d fun h => by subst h; omega
      refine ldP_b (i := 5) h35 rfl (sm_some (ldI_b (i := 6) h35 rfl ?_))
      refine ref07_Refine_ok (w := w5.drew) (h8.chg k5d fun b hb e => by subst e; omega) fun w6 hS6 hc6 => ?_
      have hz6 : w5.heap.size ≤ w6.heap.size := hc6.size
      have k56 : Chg (fun b => b = bs) w5 w6 := (Chg.drew _ w5).trans hc6
      have k6 : Chg (fun b => b = bm ∨ b = bs) w w6 := (k5.mono fun b hb => .inl hb).trans (k56.mono fun b hb => .inr hb)
      have old : ∀ (j b : Nat), S b ∧ c b = j → gr S w w6 b ∧ cnew w.heap.size c b = j := fun j b hb => by
        refine ⟨.inl hb.1, ?_⟩
        have := hlt b hb.1
        unfold cnew
        rw [if_neg (by omega)]; exact hb.2
      have off : ∀ (j b : Nat), S b ∧ c b = j → j ≠ 4 → j ≠ 5 → ¬ (b = bm ∨ b = bs) := fun j b hb h4 h5 hh => by
        rcases hh with rfl | rfl
        · exact h4 (hb.2.symm.trans hbm.2)
        · exact h5 (hb.2.symm.trans hbs.2)
      refine hk w6 ⟨oka, .inl h1, cnew w.heap.size c, pa, pb, pc, bm, bs, ?_, h3.chg k6 fun h => ?_, (h4.chg k6 fun b hb => off 1 b hb (by omega) (by omega)).mono fun b hb => old 1 b hb, (h5.chg k6 fun b hb => off 2 b hb (by omega) (by omega)).mono fun b hb => old 2 b hb, (h6.chg k6 fun b hb => off 3 b hb (by omega) (by omega)).mono fun b hb => old 3 b hb, ?_, ?_⟩ (k6.mono fun b hb => ?_)
      · unfold cnew; have := hlt bt h1; rw [if_neg (by omega)]; exact hc0
      · rcases h with h | h
        · subst h; omega
        · subst h; omega
      · refine (hM5.chg k56 fun b hb e => ?_).mono fun b hb => ?_
        · subst e
          rcases hb with hb | hb
          · omega
          · have := hlt _ hbs.1; omega
        · rcases hb with hb | hb
          · exact old 4 b hb
          · refine ⟨.inr ⟨by omega, by omega⟩, ?_⟩
            unfold cnew; rw [if_pos (by omega)]
      · exact hS6.mono fun b hb => old 5 b hb
      · rcases hb with rfl | rfl
        · exact hbm.1
        · exact hbs.1
    dsimp only
    refine sm_some (ldI_b (i := 0) h3 rfl (cond_of (fun hh2 => ?_) (fun hh2 => ?_)))
    · have hl2 : s.level = 2 := by
        have : (s.level : Int) = 2 := by simpa using hh2
        omega
      refine sm_some (ldP_b (i := 3) h3d rfl (ref08_third_ok ok h3d rfl rfl rfl ?_))
      have kdd : Chg no w w.drew.drew := kd.trans (Chg.drew no w.drew)
      refine ⟨(h3.chg kdd fun h => h).cell (i := 3) rfl, ref05_Table_At_ok (h6.chg kdd fun _ _ h => h) (by omega) (by omega) fun w2 hc2 => ref06_Stretch_v ?_⟩
      have e2 : strV (chanceV (at' s.C s.c3)) = s.x2 := by unfold Mod.x2; rw [if_pos hl2]
      rw [e2]
      exact t48 w2 (kdd.trans hc2)
    · have hl2 : s.level ≠ 2 := by
        have : (s.level : Int) ≠ 2 := by simpa using hh2
        omega
      have e2 : (0 : Int) = s.x2 := by unfold Mod.x2; rw [if_neg hl2]
      have := t48 w (Chg.refl _ _)
      rw [← e2] at this
      exact this
theorem ref08_Learn_ok {w : World} {S : Nat → Prop} {bt : Nat} {s : Mod} {bit : Int} {K : World → Prop} (hb : bit = 0 ∨ bit = 1) (hlt : ∀ b, S b → b < w.heap.size) (h : RM w S bt s) (hk : ∀ w', RM w' (gr S w w') bt (s.learn bit) → Chg S w w' → K w') : ref08_Model_Learn.f (some ⟨bt, 0, none⟩) bit w K := by
  unfold ref08_Model_Learn.f
  refine ref08_Chance_ok hlt h fun w1 hG hc1 => ?_
  have hz1 := hc1.size
  unfold Mod.learn at hk
  generalize s.asked = s1 at hG hk
  have gS : ∀ T w', Chg T w1 w' → (∀ b, T b → gr S w w1 b) → Chg S w w' := fun T w' hc hT => hc1.then hc fun j hj h => by
    rcases hT j h with h | h
    · exact h
    · omega
  have grow : ∀ w', w1.heap.size ≤ w'.heap.size → ∀ b, gr S w w1 b → gr S w w' b := fun w' hz b hb => hb.imp id fun hb => ⟨hb.1, by omega⟩
  generalize hS1 : gr S w w1 = S1 at hG gS grow
  obtain ⟨ok, h1, c, pa, pb, pc, bm, bs, hc0, h3, h4, h5, h6, h7, h8⟩ := hG
  have okt := ok.taught bit
  have okm := okt.moved hb
  have hla := ok.la; have hlb := ok.lb; have hlc := ok.lc
  have hp1 := ok.p1; have hp2 := ok.p2; have hlast := ok.l; have hold := ok.o; have hlv := ok.lv
  have t47 : ∀ w5 : World, Bl 85 w5 bt [.int .i64 s1.level, .pointer pa, .pointer pb, .pointer pc, .pointer (some ⟨bm, 0, none⟩), .pointer (some ⟨bs, 0, none⟩), .int .i64 s1.part, .int .i64 s1.last, .int .i64 s1.older] →
      RT w5 (fun b => S1 b ∧ c b = 1) pa (s1.taught bit).A → RT w5 (fun b => S1 b ∧ c b = 2) pb (s1.taught bit).B → RT w5 (fun b => S1 b ∧ c b = 3) pc (s1.taught bit).C → MR w5 (fun b => S1 b ∧ c b = 4) bm (s1.taught bit).M → SR w5 (fun b => S1 b ∧ c b = 5) bs (s1.taught bit).S → Chg S1 w1 w5 →
      (sm (some (⟨bt, 0, none⟩ : Addr)) fun p_34 =>
      ldI .i64 (p_34.add 6) w5 fun x61_35 =>
      sm (some (⟨bt, 0, none⟩ : Addr)) fun p_36 =>
      stC (p_36.add 6) (Value.int .i64 (IntKind.wrap .i64 ((IntKind.wrap .i64 (2 * x61_35)) + bit))) w5 fun w =>
      sm (some (⟨bt, 0, none⟩ : Addr)) fun p_38 =>
      ldI .i64 (p_38.add 6) w fun x70_39 =>
      bif (decide (x70_39 ≥ 256)) then
        sm (some (⟨bt, 0, none⟩ : Addr)) fun p_40 =>
        ldI .i64 (p_40.add 7) w.drew fun x78_41 =>
        sm (some (⟨bt, 0, none⟩ : Addr)) fun p_42 =>
        ldI .i64 (p_42.add 6) w.drew fun x82_43 =>
        sm (some (⟨bt, 0, none⟩ : Addr)) fun p_44 =>
        stC (p_44.add 8) (Value.int .i64 x78_41) w.drew fun w =>
        sm (some (⟨bt, 0, none⟩ : Addr)) fun p_45 =>
        stC (p_45.add 7) (Value.int .i64 (IntKind.wrap .i64 (x82_43 - 256))) w fun w =>
        sm (some (⟨bt, 0, none⟩ : Addr)) fun p_46 =>
        stC (p_46.add 6) (Value.int .i64 1) w fun w =>
        K w
      else
        K w) := by
    intro w5 b5 hA hB hC hM hS k5
    obtain ⟨mh, ml, m1, m2, m3, m4, m5, m6⟩ := moved_cells (s := s1.taught bit) hb
    have tp : (s1.taught bit).part = s1.part := rfl
    have tl : (s1.taught bit).last = s1.last := rfl
    have to : (s1.taught bit).older = s1.older := rfl
    have tv : (s1.taught bit).level = s1.level := rfl
    rw [tp] at mh ml
    rw [tl] at mh ml
    rw [to] at ml
    have last : ∀ (w7 : World) (l : List Value), Bl 85 w7 bt l → l = [.int .i64 ((s1.taught bit).moved bit).level, .pointer pa, .pointer pb, .pointer pc, .pointer (some ⟨bm, 0, none⟩), .pointer (some ⟨bs, 0, none⟩), .int .i64 ((s1.taught bit).moved bit).part, .int .i64 ((s1.taught bit).moved bit).last, .int .i64 ((s1.taught bit).moved bit).older] → Chg (fun j => j = bt) w5 w7 → K w7 := by
      intro w7 l b7 hl k7
      subst hl
      have k17 : Chg S1 w1 w7 := k5.trans (k7.mono fun b hb => by subst hb; exact h1)
      refine hk w7 (RM.mono (S := S1) ⟨okm, h1, c, pa, pb, pc, bm, bs, hc0, b7, ?_, ?_, ?_, ?_, ?_⟩ (grow w7 k17.size)) (gS _ w7 k17 fun b hb => hb)
      · rw [m2]; exact hA.chg k7 fun b hb e => by subst e; omega
      · rw [m3]; exact hB.chg k7 fun b hb e => by subst e; omega
      · rw [m4]; exact hC.chg k7 fun b hb e => by subst e; omega
      · rw [m5]; exact hM.chg k7 fun b hb e => by subst e; omega
      · rw [m6]; exact hS.chg k7 fun b hb e => by subst e; omega
    have hbit : bit = ((bit.toNat : Nat) : Int) := by omega
    have hbit1 : bit.toNat ≤ 1 := by omega
    refine sm_some (ldI_b (i := 6) b5 rfl (sm_some ?_))
    have e2 : IntKind.wrap .i64 (IntKind.wrap .i64 (2 * (s1.part : Int)) + bit) = ((2 * s1.part + bit.toNat : Nat) : Int) := by
      rw [w64 (a := 2 * (s1.part : Int)) (by omega) (by omega), w64 (by omega) (by omega)]; omega
    rw [e2]
    refine stC_b (i := 6) b5 (by simp) fun w6 b6 k6 => sm_some (ldI_b (i := 6) b6 rfl (cond_of (fun hh => ?_) (fun hh => ?_)))
    · have h256 : 256 ≤ 2 * s1.part + bit.toNat := by have := of_decide_eq_true hh; omega
      obtain ⟨q1, q2, q3⟩ := mh h256
      have b6d := b6.chg (Chg.drew no w6) fun h => h
      refine sm_some (ldI_b (i := 7) b6d rfl (sm_some (ldI_b (i := 6) b6d rfl (sm_some ?_))))
      refine stC_b (i := 8) b6d (by simp) fun w7 b7 k7 => sm_some ?_
      rw [w64 (a := ((2 * s1.part + bit.toNat : Nat) : Int) - 256) (by omega) (by omega)]
      refine stC_b (i := 7) b7 (by simp) fun w8 b8 k8 => sm_some (stC_b (i := 6) b8 (by simp) fun w9 b9 k9 => last w9 _ b9 ?_ ((((k6.trans (Chg.drew _ w6)).trans k7).trans k8).trans k9))
      rw [m1, q1, q2, q3, tv]
      have : (((2 * s1.part + bit.toNat : Nat) : Int) - 256) = ((2 * s1.part + bit.toNat - 256 : Nat) : Int) := by omega
      rw [this]; rfl
    · have h256 : ¬ 256 ≤ 2 * s1.part + bit.toNat := by have := of_decide_eq_false hh; omega
      obtain ⟨q1, q2, q3⟩ := ml h256
      refine last w6 _ b6 ?_ k6
      rw [m1, q1, q2, q3, tv]; rfl
  have main : (sm (some (⟨bt, 0, none⟩ : Addr)) fun p_8 =>
    ldP (p_8.add 1) w1.drew fun x12_9 =>
    sm (some (⟨bt, 0, none⟩ : Addr)) fun p_10 =>
    ldI .i64 (p_10.add 6) w1.drew fun x16_11 =>
    ref05_Table_Learn.f x12_9 x16_11 bit 4 w1.drew fun w =>
    sm (some (⟨bt, 0, none⟩ : Addr)) fun p_14 =>
    ldI .i64 p_14 w fun x22_15 =>
    bif (decide (x22_15 > 0)) then
      sm (some (⟨bt, 0, none⟩ : Addr)) fun p_17 =>
      ldP (p_17.add 2) w.drew fun x27_18 =>
      ref08_Model_second.f (some ⟨bt, 0, none⟩) w.drew fun r29_19 w =>
      (World.cell? w (p_17.add 2) = some (.pointer x27_18)) ∧
      (ref05_Table_Learn.f x27_18 r29_19 bit 4 w fun w =>
      sm (some (⟨bt, 0, none⟩ : Addr)) fun p_22 =>
      ldI .i64 p_22 w fun x35_23 =>
      bif (x35_23 == 2) then
        sm (some (⟨bt, 0, none⟩ : Addr)) fun p_24 =>
        ldP (p_24.add 3) w.drew fun x40_25 =>
        ref08_Model_third.f (some ⟨bt, 0, none⟩) w.drew fun r42_26 w =>
        (World.cell? w (p_24.add 3) = some (.pointer x40_25)) ∧
        (ref05_Table_Learn.f x40_25 r42_26 bit 3 w fun w =>
        sm (some (⟨bt, 0, none⟩ : Addr)) fun p_28 =>
        ldP (p_28.add 4) w fun x48_29 =>
        ref06_Mixer_Learn.f x48_29 bit w fun w =>
        sm (some (⟨bt, 0, none⟩ : Addr)) fun p_30 =>
        ldP (p_30.add 5) w fun x54_31 =>
        ref07_Stage_Learn.f x54_31 bit 6 w fun w5 =>
        (sm (some (⟨bt, 0, none⟩ : Addr)) fun p_34 =>
      ldI .i64 (p_34.add 6) w5 fun x61_35 =>
      sm (some (⟨bt, 0, none⟩ : Addr)) fun p_36 =>
      stC (p_36.add 6) (Value.int .i64 (IntKind.wrap .i64 ((IntKind.wrap .i64 (2 * x61_35)) + bit))) w5 fun w =>
      sm (some (⟨bt, 0, none⟩ : Addr)) fun p_38 =>
      ldI .i64 (p_38.add 6) w fun x70_39 =>
      bif (decide (x70_39 ≥ 256)) then
        sm (some (⟨bt, 0, none⟩ : Addr)) fun p_40 =>
        ldI .i64 (p_40.add 7) w.drew fun x78_41 =>
        sm (some (⟨bt, 0, none⟩ : Addr)) fun p_42 =>
        ldI .i64 (p_42.add 6) w.drew fun x82_43 =>
        sm (some (⟨bt, 0, none⟩ : Addr)) fun p_44 =>
        stC (p_44.add 8) (Value.int .i64 x78_41) w.drew fun w =>
        sm (some (⟨bt, 0, none⟩ : Addr)) fun p_45 =>
        stC (p_45.add 7) (Value.int .i64 (IntKind.wrap .i64 (x82_43 - 256))) w fun w =>
        sm (some (⟨bt, 0, none⟩ : Addr)) fun p_46 =>
        stC (p_46.add 6) (Value.int .i64 1) w fun w =>
        K w
      else
        K w))
      else
        sm (some (⟨bt, 0, none⟩ : Addr)) fun p_28 =>
        ldP (p_28.add 4) w fun x48_29 =>
        ref06_Mixer_Learn.f x48_29 bit w fun w =>
        sm (some (⟨bt, 0, none⟩ : Addr)) fun p_30 =>
        ldP (p_30.add 5) w fun x54_31 =>
        ref07_Stage_Learn.f x54_31 bit 6 w fun w5 =>
        (sm (some (⟨bt, 0, none⟩ : Addr)) fun p_34 =>
      ldI .i64 (p_34.add 6) w5 fun x61_35 =>
      sm (some (⟨bt, 0, none⟩ : Addr)) fun p_36 =>
      stC (p_36.add 6) (Value.int .i64 (IntKind.wrap .i64 ((IntKind.wrap .i64 (2 * x61_35)) + bit))) w5 fun w =>
      sm (some (⟨bt, 0, none⟩ : Addr)) fun p_38 =>
      ldI .i64 (p_38.add 6) w fun x70_39 =>
      bif (decide (x70_39 ≥ 256)) then
        sm (some (⟨bt, 0, none⟩ : Addr)) fun p_40 =>
        ldI .i64 (p_40.add 7) w.drew fun x78_41 =>
        sm (some (⟨bt, 0, none⟩ : Addr)) fun p_42 =>
        ldI .i64 (p_42.add 6) w.drew fun x82_43 =>
        sm (some (⟨bt, 0, none⟩ : Addr)) fun p_44 =>
        stC (p_44.add 8) (Value.int .i64 x78_41) w.drew fun w =>
        sm (some (⟨bt, 0, none⟩ : Addr)) fun p_45 =>
        stC (p_45.add 7) (Value.int .i64 (IntKind.wrap .i64 (x82_43 - 256))) w fun w =>
        sm (some (⟨bt, 0, none⟩ : Addr)) fun p_46 =>
        stC (p_46.add 6) (Value.int .i64 1) w fun w =>
        K w
      else
        K w))
    else
      (sm (some (⟨bt, 0, none⟩ : Addr)) fun p_34 =>
      ldI .i64 (p_34.add 6) w fun x61_35 =>
      sm (some (⟨bt, 0, none⟩ : Addr)) fun p_36 =>
      stC (p_36.add 6) (Value.int .i64 (IntKind.wrap .i64 ((IntKind.wrap .i64 (2 * x61_35)) + bit))) w fun w =>
      sm (some (⟨bt, 0, none⟩ : Addr)) fun p_38 =>
      ldI .i64 (p_38.add 6) w fun x70_39 =>
      bif (decide (x70_39 ≥ 256)) then
        sm (some (⟨bt, 0, none⟩ : Addr)) fun p_40 =>
        ldI .i64 (p_40.add 7) w.drew fun x78_41 =>
        sm (some (⟨bt, 0, none⟩ : Addr)) fun p_42 =>
        ldI .i64 (p_42.add 6) w.drew fun x82_43 =>
        sm (some (⟨bt, 0, none⟩ : Addr)) fun p_44 =>
        stC (p_44.add 8) (Value.int .i64 x78_41) w.drew fun w =>
        sm (some (⟨bt, 0, none⟩ : Addr)) fun p_45 =>
        stC (p_45.add 7) (Value.int .i64 (IntKind.wrap .i64 (x82_43 - 256))) w fun w =>
        sm (some (⟨bt, 0, none⟩ : Addr)) fun p_46 =>
        stC (p_46.add 6) (Value.int .i64 1) w fun w =>
        K w
      else
        K w)) := by
    have kd : Chg no w1 w1.drew := Chg.drew no w1
    have h3d := h3.chg kd fun h => h
    refine sm_some (ldP_b (i := 1) h3d rfl (sm_some (ldI_b (i := 6) h3d rfl ?_)))
    refine ref05_Table_Learn_ok (w := w1.drew) (h4.chg kd fun _ _ h => h) (by omega) (by omega) fun w2 hA2 hc2 => sm_some ?_
    have k2 : Chg (fun b => S1 b ∧ c b = 1) w1 w2 := (Chg.drew _ w1).trans hc2
    have h32 := h3.chg k2 fun h => by omega
    have hB2 := h5.chg k2 fun b hb hh => by omega
    have hC2 := h6.chg k2 fun b hb hh => by omega
    have hM2 := h7.chg k2 fun b hb hh => by omega
    have hS2 := h8.chg k2 fun b hb hh => by omega
    refine ldI_b (i := 0) h32 rfl (cond_of (fun hh => ?_) (fun hh => ?_))
    · have hl0 : s1.level ≠ 0 := by have := of_decide_eq_true hh; omega
      have kd2 : Chg no w2 w2.drew := Chg.drew no w2
      have h32d := h32.chg kd2 fun h => h
      refine sm_some (ldP_b (i := 2) h32d rfl (ref08_second_ok ok h32d rfl rfl ?_))
      have kdd2 : Chg no w2 w2.drew.drew := kd2.trans (Chg.drew no w2.drew)
      have h32dd := h32.chg kdd2 fun h => h
      refine ⟨h32dd.cell (i := 2) rfl, ref05_Table_Learn_ok (w := w2.drew.drew) (hB2.chg kdd2 fun _ _ h => h) (by omega) (by omega) fun w3 hB3 hc3 => sm_some ?_⟩
      have k23 : Chg (fun b => S1 b ∧ c b = 2) w2 w3 := (kdd2.mono fun _ h => h.elim).trans hc3
      have k3 : Chg (fun b => S1 b ∧ (c b = 1 ∨ c b = 2)) w1 w3 := (k2.mono fun b hb => ⟨hb.1, .inl hb.2⟩).trans (k23.mono fun b hb => ⟨hb.1, .inr hb.2⟩)
      have h33 := h3.chg k3 fun h => by omega
      have hA3 := hA2.chg k23 fun b hb hh => by omega
      have hC3 := hC2.chg k23 fun b hb hh => by omega
      have hM3 := hM2.chg k23 fun b hb hh => by omega
      have hS3 := hS2.chg k23 fun b hb hh => by omega
      have eB : (s1.taught bit).B = upd s1.B s1.c2 bit 4 := by unfold Mod.taught; dsimp only; rw [if_neg hl0]
      have eM : (s1.taught bit).M = s1.M.learn bit := by unfold Mod.taught; dsimp only; rw [if_neg hl0]
      have eS : (s1.taught bit).S = s1.S.learn bit 6 := by unfold Mod.taught; dsimp only; rw [if_neg hl0]
      have hB3' : RT w3 (fun b => S1 b ∧ c b = 2) pb (s1.taught bit).B := by rw [eB]; exact hB3
      -- mixer, stage, and on
      have t32 : ∀ w4 : World, Chg (fun b => S1 b ∧ c b = 3) w3 w4 → RT w4 (fun b => S1 b ∧ c b = 3) pc (s1.taught bit).C →
        (sm (some (⟨bt, 0, none⟩ : Addr)) fun p_28 =>
        ldP (p_28.add 4) w4 fun x48_29 =>
        ref06_Mixer_Learn.f x48_29 bit w4 fun w =>
        sm (some (⟨bt, 0, none⟩ : Addr)) fun p_30 =>
        ldP (p_30.add 5) w fun x54_31 =>
        ref07_Stage_Learn.f x54_31 bit 6 w fun w5 =>
        (sm (some (⟨bt, 0, none⟩ : Addr)) fun p_34 =>
      ldI .i64 (p_34.add 6) w5 fun x61_35 =>
      sm (some (⟨bt, 0, none⟩ : Addr)) fun p_36 =>
      stC (p_36.add 6) (Value.int .i64 (IntKind.wrap .i64 ((IntKind.wrap .i64 (2 * x61_35)) + bit))) w5 fun w =>
      sm (some (⟨bt, 0, none⟩ : Addr)) fun p_38 =>
      ldI .i64 (p_38.add 6) w fun x70_39 =>
      bif (decide (x70_39 ≥ 256)) then
        sm (some (⟨bt, 0, none⟩ : Addr)) fun p_40 =>
        ldI .i64 (p_40.add 7) w.drew fun x78_41 =>
        sm (some (⟨bt, 0, none⟩ : Addr)) fun p_42 =>
        ldI .i64 (p_42.add 6) w.drew fun x82_43 =>
        sm (some (⟨bt, 0, none⟩ : Addr)) fun p_44 =>
        stC (p_44.add 8) (Value.int .i64 x78_41) w.drew fun w =>
        sm (some (⟨bt, 0, none⟩ : Addr)) fun p_45 =>
        stC (p_45.add 7) (Value.int .i64 (IntKind.wrap .i64 (x82_43 - 256))) w fun w =>
        sm (some (⟨bt, 0, none⟩ : Addr)) fun p_46 =>
        stC (p_46.add 6) (Value.int .i64 1) w fun w =>
        K w
      else
        K w)) := by
        intro w4 k34 hC4
        have h34 := h33.chg k34 fun h => by omega
        refine sm_some (ldP_b (i := 4) h34 rfl (ref06_Learn_ok (hM3.chg k34 fun b hb hh => by omega) fun w5 hM5 hc5 => sm_some ?_))
        have k35 : Chg (fun b => S1 b ∧ (c b = 3 ∨ c b = 4)) w3 w5 := (k34.mono fun b hb => ⟨hb.1, .inl hb.2⟩).trans (hc5.mono fun b hb => ⟨hb.1, .inr hb.2⟩)
        refine ldP_b (i := 5) (h33.chg k35 fun h => by omega) rfl (ref07_Learn_ok (hS3.chg k35 fun b hb hh => by omega) fun w6 hS6 hc6 => ?_)
        have k36 : Chg (fun b => S1 b ∧ (c b = 3 ∨ c b = 4 ∨ c b = 5)) w3 w6 := (k35.mono fun b hb => ⟨hb.1, by omega⟩).trans (hc6.mono fun b hb => ⟨hb.1, by omega⟩)
        refine t47 w6 (h33.chg k36 fun h => by omega) (hA3.chg k36 fun b hb hh => by omega) (hB3'.chg k36 fun b hb hh => by omega) ((hC4.chg hc5 fun b hb hh => by omega).chg hc6 fun b hb hh => by omega) ?_ ?_ ((k3.mono fun b hb => hb.1).trans (k36.mono fun b hb => hb.1))
        · rw [eM]; exact hM5.chg hc6 fun b hb hh => by omega
        · rw [eS]; exact hS6
      refine ldI_b (i := 0) h33 rfl (cond_of (fun hh2 => ?_) (fun hh2 => ?_))
      · have hl2 : s1.level = 2 := by
          have : (s1.level : Int) = 2 := by simpa using hh2
          omega
        have kd3 : Chg no w3 w3.drew := Chg.drew no w3
        have h33d := h33.chg kd3 fun h => h
        refine sm_some (ldP_b (i := 3) h33d rfl (ref08_third_ok ok h33d rfl rfl rfl ?_))
        have kdd3 : Chg no w3 w3.drew.drew := kd3.trans (Chg.drew no w3.drew)
        refine ⟨(h33.chg kdd3 fun h => h).cell (i := 3) rfl, ref05_Table_Learn_ok (w := w3.drew.drew) (hC3.chg kdd3 fun _ _ h => h) (by omega) (by omega) fun w4 hC4 hc4 => ?_⟩
        refine t32 w4 ((kdd3.mono fun _ h => h.elim).trans hc4) ?_
        have e : (s1.taught bit).C = upd s1.C s1.c3 bit 3 := by unfold Mod.taught; dsimp only; rw [if_pos hl2]
        rw [e]; exact hC4
      · have hl2 : s1.level ≠ 2 := by
          have : (s1.level : Int) ≠ 2 := by simpa using hh2
          omega
        refine t32 w3 (Chg.refl _ _) ?_
        have e : (s1.taught bit).C = s1.C := by unfold Mod.taught; dsimp only; rw [if_neg hl2]
        rw [e]; exact hC3
    · have hl0 : s1.level = 0 := by have := of_decide_eq_false hh; omega
      have eB : (s1.taught bit).B = s1.B := by unfold Mod.taught; dsimp only; rw [if_pos hl0]
      have eC : (s1.taught bit).C = s1.C := by unfold Mod.taught; dsimp only; rw [if_neg (by omega)]
      have eM : (s1.taught bit).M = s1.M := by unfold Mod.taught; dsimp only; rw [if_pos hl0]
      have eS : (s1.taught bit).S = s1.S := by unfold Mod.taught; dsimp only; rw [if_pos hl0]
      refine t47 w2 h32 hA2 ?_ ?_ ?_ ?_ (k2.mono fun b hb => hb.1)
      · rw [eB]; exact hB2
      · rw [eC]; exact hC2
      · rw [eM]; exact hM2
      · rw [eS]; exact hS2
  dsimp only
  rcases hb with rfl | rfl
  · exact bif_f rfl main
  · exact bif_t rfl main
theorem ref08_New_ok {w : World} {a : Int} {K : Option Addr → World → Prop}
    (hk : ∀ bt w', RM w' (fun b => w.heap.size ≤ b ∧ b < w'.heap.size) bt (modNew (mx 0 (mn a 2)).toNat) → Chg no w w' → K (some ⟨bt, 0, none⟩) w') : ref08_New.f a w K := by
  unfold ref08_New.f
  have h1 := mx_bd 0 (mn a 2)
  have h2 := mn_bd a 2
  obtain ⟨lv, hlv, hlv2⟩ : ∃ lv : Nat, mx 0 (mn a 2) = lv ∧ lv ≤ 2 := ⟨(mx 0 (mn a 2)).toNat, by omega, by omega⟩
  rw [hlv] at hk ⊢
  rw [Int.toNat_natCast] at hk
  have e256 : (mx 1 (mn 256 65536)).toNat = 256 := by decide
  have e65536 : (mx 1 (mn 65536 65536)).toNat = 65536 := by decide
  have em256 : (mx 1 (mn 256 4096)).toNat = 256 := by decide
  have es256 : (mx 1 (mn 256 1024)).toNat = 256 := by decide
  have okn := modNew_ok hlv2
  refine ref05_New_ok fun pa w1 hA hc1 => ref05_New_ok fun pb w2 hB hc2 => ref05_New_ok fun pc w3 hC hc3 => ref06_New_ok fun bm w4 hM hc4 => ref07_New_ok fun bs w5 hS hc5 => newC_b fun w6 hb6 hc6 hs6 => ?_
  rw [e256] at hA
  rw [e65536] at hB hC
  rw [em256] at hM
  rw [es256] at hS
  have hz1 := hc1.size; have hz2 := hc2.size; have hz3 := hc3.size; have hz4 := hc4.size; have hz5 := hc5.size
  have k56 := hc5.trans hc6
  have k46 := hc4.trans k56
  have k36 := hc3.trans k46
  have k26 := hc2.trans k36
  refine hk _ w6 ⟨okn, ⟨by omega, by omega⟩, fun b => if b < w1.heap.size then 1 else if b < w2.heap.size then 2 else if b < w3.heap.size then 3 else if b < w4.heap.size then 4 else if b < w5.heap.size then 5 else 0, pa, pb, pc, bm, bs, ?_, hb6, ?_, ?_, ?_, ?_, ?_⟩ (hc1.trans k26)
  · dsimp only; rw [if_neg (by omega), if_neg (by omega), if_neg (by omega), if_neg (by omega), if_neg (by omega)]
  · exact (hA.chg k26 fun _ _ h => h).mono fun b hb => ⟨⟨by omega, by omega⟩, by dsimp only; rw [if_pos (by omega)]⟩
  · exact (hB.chg k36 fun _ _ h => h).mono fun b hb => ⟨⟨by omega, by omega⟩, by dsimp only; rw [if_neg (by omega), if_pos (by omega)]⟩
  · exact (hC.chg k46 fun _ _ h => h).mono fun b hb => ⟨⟨by omega, by omega⟩, by dsimp only; rw [if_neg (by omega), if_neg (by omega), if_pos (by omega)]⟩
  · exact (hM.chg k56 fun _ _ h => h).mono fun b hb => ⟨⟨by omega, by omega⟩, by dsimp only; rw [if_neg (by omega), if_neg (by omega), if_neg (by omega), if_pos (by omega)]⟩
  · exact (hS.chg hc6 fun _ _ h => h).mono fun b hb => ⟨⟨by omega, by omega⟩, by dsimp only; rw [if_neg (by omega), if_neg (by omega), if_neg (by omega), if_neg (by omega), if_pos (by omega)]⟩
end Go.Proofs.Ytdbnobeopgfhgaa.G
