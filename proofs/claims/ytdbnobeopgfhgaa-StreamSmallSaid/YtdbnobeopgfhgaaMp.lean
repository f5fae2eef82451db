/- The model: what making, asking and learning come to. -/
import Derived.Test.YtdbnobeopgfhgaaMv
set_option linter.unusedVariables false
set_option linter.unusedSimpArgs false
namespace Go.Proofs.Ytdbnobeopgfhgaa.G
open Go Go.Proofs.Ytdbnobeopgfhgaa.Vm Go.RowKit
/-- A model's state. -/
structure Mod where
  level : Nat
  A : List Int
  B : List Int
  C : List Int
  M : Mst
  S : Sst
  part : Nat
  last : Nat
  older : Nat
structure Dok (s : Mod) : Prop where
  lv : s.level ≤ 2
  la : s.A.length = 256
  lb : s.B.length = 65536
  lc : s.C.length = 65536
  ga : Gs s.A
  gb : Gs s.B
  gc : Gs s.C
  mok : Mok s.M
  sok : Sok s.S
  p1 : 1 ≤ s.part
  p2 : s.part ≤ 255
  l : s.last ≤ 255
  o : s.older ≤ 255
/-- The contexts. -/
def Mod.c2 (s : Mod) : Nat := s.last * 256 + s.part
def Mod.c3 (s : Mod) : Nat := ((s.older * 256 + s.last) * 40503 + s.part * 7919) % 65536
def Mod.x0 (s : Mod) : Int := strV (chanceV (at' s.A s.part))
def Mod.x1 (s : Mod) : Int := strV (chanceV (at' s.B s.c2))
def Mod.x2 (s : Mod) : Int := if s.level = 2 then strV (chanceV (at' s.C s.c3)) else 0
def Mod.xs (s : Mod) : List Int := [s.x0, s.x1, s.x2, 256]
def Mod.M' (s : Mod) : Mst := s.M.mix s.part s.xs
def Mod.p (s : Mod) : Int := s.M'.told
def Mod.q (s : Mod) : Int := s.S.told s.p s.part
def Mod.chance (s : Mod) : Int := if s.level = 0 then chanceV (at' s.A s.part) else IntKind.wrap .i64 (Int.tdiv (IntKind.wrap .i64 (s.p + IntKind.wrap .i64 (3 * s.q))) 4)
/-- Behind a question. -/
def Mod.asked (s : Mod) : Mod := if s.level = 0 then s else { s with M := s.M', S := s.S.refine s.p s.part }
def upd (gs : List Int) (i : Nat) (bit rate : Int) : List Int := gs.set ((i : Int) % gs.length).toNat (nextV (at' gs i) bit rate)
/-- The place moves on. -/
def Mod.moved (s : Mod) (bit : Int) : Mod :=
  let n := 2 * s.part + bit.toNat
  if 256 ≤ n then { s with older := s.last, last := n - 256, part := 1 } else { s with part := n }
def Mod.taught (s : Mod) (bit : Int) : Mod :=
  { s with A := upd s.A s.part bit 4, B := if s.level = 0 then s.B else upd s.B s.c2 bit 4, C := if s.level = 2 then upd s.C s.c3 bit 3 else s.C, M := if s.level = 0 then s.M else s.M.learn bit, S := if s.level = 0 then s.S else s.S.learn bit 6 }
def Mod.learn (s : Mod) (bit : Int) : Mod := (s.asked.taught bit).moved bit
theorem upd_len (gs : List Int) (i : Nat) (b r : Int) : (upd gs i b r).length = gs.length := by unfold upd; rw [List.length_set]
theorem upd_gs {gs : List Int} (h : Gs gs) (i : Nat) (b r : Int) : Gs (upd gs i b r) := by
  have := at_bd h i
  have nb := nextV_bd (at' gs i) b r this.1 this.2
  exact h.set _ _ nb.1 nb.2
theorem Dok.asked {s : Mod} (h : Dok s) : Dok s.asked := by
  unfold Mod.asked
  split
  · exact h
  · exact ⟨h.lv, h.la, h.lb, h.lc, h.ga, h.gb, h.gc, h.mok.mix _ _, h.sok.refine _ _, h.p1, h.p2, h.l, h.o⟩
theorem Dok.taught {s : Mod} (h : Dok s) (b : Int) : Dok (s.taught b) := by
  refine ⟨h.lv, by rw [← h.la]; exact upd_len _ _ _ _, ?_, ?_, upd_gs h.ga _ _ _, ?_, ?_, ?_, ?_, h.p1, h.p2, h.l, h.o⟩
  · unfold Mod.taught; dsimp only; split; exact h.lb; rw [upd_len]; exact h.lb
  · unfold Mod.taught; dsimp only; split; rw [upd_len]; exact h.lc; exact h.lc
  · unfold Mod.taught; dsimp only; split; exact h.gb; exact upd_gs h.gb _ _ _
  · unfold Mod.taught; dsimp only; split; exact upd_gs h.gc _ _ _; exact h.gc
  · unfold Mod.taught; dsimp only; split; exact h.mok; exact h.mok.learn _
  · unfold Mod.taught; dsimp only; split; exact h.sok; exact h.sok.learn _ _
theorem Dok.moved {s : Mod} (h : Dok s) {b : Int} (hb : b = 0 ∨ b = 1) : Dok (s.moved b) := by
  have p1 := h.p1; have p2 := h.p2
  unfold Mod.moved
  dsimp only
  split
  · exact ⟨h.lv, h.la, h.lb, h.lc, h.ga, h.gb, h.gc, h.mok, h.sok, by dsimp only; omega, by dsimp only; omega, by dsimp only; omega, h.l⟩
  · exact ⟨h.lv, h.la, h.lb, h.lc, h.ga, h.gb, h.gc, h.mok, h.sok, by dsimp only; omega, by dsimp only; omega, h.l, h.o⟩
theorem Dok.learn {s : Mod} (h : Dok s) {b : Int} (hb : b = 0 ∨ b = 1) : Dok (s.learn b) := (h.asked.taught b).moved hb
theorem told_bd (s : Mst) (a : Int) (xs : List Int) : 1 ≤ (s.mix a xs).told ∧ (s.mix a xs).told ≤ 4095 := by
  have := cl_bd (shr .i64 (mSum (mIns xs) (s.W.getD (mPlace s.W.length a) []) 4) 16)
  exact sq_bd _ this.1 this.2
theorem Mod.p_bd (s : Mod) : 1 ≤ s.p ∧ s.p ≤ 4095 := told_bd _ _ _
theorem Mod.q_bd (s : Mod) : 1 ≤ s.q ∧ s.q ≤ 4095 := sTold_bd _ _
theorem Mod.chance_hi {s : Mod} (h : s.level ≠ 0) : s.chance = (s.p + 3 * s.q) / 4 := by
  have := s.p_bd; have := s.q_bd
  unfold Mod.chance
  rw [if_neg h, w64 (a := 3 * s.q) (by omega) (by omega), w64 (a := s.p + 3 * s.q) (by omega) (by omega), Int.tdiv_eq_ediv_of_nonneg (by omega), w64 (by omega) (by omega)]
theorem Mod.chance_bd {s : Mod} (h : Dok s) : 1 ≤ s.chance ∧ s.chance ≤ 4095 := by
  by_cases h0 : s.level = 0
  · unfold Mod.chance
    rw [if_pos h0]
    have := at_bd h.ga s.part
    exact chanceV_bd _ this.1 this.2
  · rw [Mod.chance_hi h0]
    have := s.p_bd; have := s.q_bd
    omega
def modNew (lv : Nat) : Mod := ⟨lv, List.replicate 256 32768, List.replicate 65536 32768, List.replicate 65536 32768, mNew 256, sNew 256, 1, 0, 0⟩
theorem rep_gs (n : Nat) : Gs (List.replicate n 32768) := fun g hg => by rw [(List.mem_replicate.1 hg).2]; omega
theorem modNew_ok {lv : Nat} (h : lv ≤ 2) : Dok (modNew lv) :=
  ⟨h, List.length_replicate, List.length_replicate, List.length_replicate, rep_gs _, rep_gs _, rep_gs _, mNew_ok (by omega) (by omega), sNew_ok (by omega) (by omega), by unfold modNew; dsimp only; omega, by unfold modNew; dsimp only; omega, by unfold modNew; dsimp only; omega, by unfold modNew; dsimp only; omega⟩
/-! ### The given one -/
def GMb (w : World) (S : Nat → Prop) (c : Nat → Nat) (s : Mod) (pb pc pm ps : Option Addr) : Prop :=
  (s.level ≠ 0 → GT w (fun b => S b ∧ c b = 2) pb s.B ∧ (∃ bm, pm = some ⟨bm, 0, none⟩ ∧ MS w (fun b => S b ∧ c b = 4) bm s.M) ∧ (∃ bs, ps = some ⟨bs, 0, none⟩ ∧ SS w (fun b => S b ∧ c b = 5) bs s.S)) ∧
  (s.level = 2 → GT w (fun b => S b ∧ c b = 3) pc s.C)
/-- The model in block `bt`; `c` tells which part a block is of. -/
structure GM (w : World) (S : Nat → Prop) (bt : Nat) (s : Mod) : Prop where
  ok : Dok s
  inS : S bt
  cells : ∃ (c : Nat → Nat) (pa pb pc pm ps : Option Addr), c bt = 0 ∧ Bl 77 w bt [.pointer pa, .pointer pb, .pointer pc, .pointer pm, .pointer ps, .int .i64 s.level, .int .i64 s.part, .int .i64 s.last, .int .i64 s.older] ∧
    GT w (fun b => S b ∧ c b = 1) pa s.A ∧ GMb w S c s pb pc pm ps
theorem GT.mono {w : World} {S T : Nat → Prop} {t : Option Addr} {gs : List Int} (h : GT w S t gs) (hs : ∀ b, S b → b < w.heap.size → T b) : GT w T t gs := by
  obtain ⟨bt, bc, h0, h1, h2, h3, h4, h5, h6⟩ := h
  exact ⟨bt, bc, h0, hs _ h1 h4.lt, hs _ h2 h5.bl.lt, h3, h4, h5, h6⟩
theorem GMb.chg {T : Nat → Prop} {w w' : World} {S : Nat → Prop} {c : Nat → Nat} {s : Mod} {pb pc pm ps : Option Addr} (h : GMb w S c s pb pc pm ps) (hc : Chg T w w') (hn : ∀ b, S b → 2 ≤ c b → ¬ T b) : GMb w' S c s pb pc pm ps := by
  refine ⟨fun hl => ?_, fun hl => (h.2 hl).chg hc fun b hb => hn b hb.1 (by omega)⟩
  obtain ⟨h1, ⟨bm, e1, h2⟩, ⟨bs, e2, h3⟩⟩ := h.1 hl
  exact ⟨h1.chg hc fun b hb => hn b hb.1 (by omega), ⟨bm, e1, h2.chg hc fun b hb => hn b hb.1 (by omega)⟩, ⟨bs, e2, h3.chg hc fun b hb => hn b hb.1 (by omega)⟩⟩
theorem GM.chg {S T : Nat → Prop} {w w' : World} {bt : Nat} {s : Mod} (h : GM w S bt s) (hc : Chg T w w') (hn : ∀ b, S b → ¬ T b) : GM w' S bt s := by
  obtain ⟨h0, h1, c, pa, pb, pc, pm, ps, h2, h3, h4, h5⟩ := h
  exact ⟨h0, h1, c, pa, pb, pc, pm, ps, h2, h3.chg hc (hn _ h1), h4.chg hc fun b hb => hn b hb.1, h5.chg hc fun b hb _ => hn b hb⟩
theorem GM.mono {S T : Nat → Prop} {w : World} {bt : Nat} {s : Mod} (h : GM w S bt s) (hs : ∀ b, S b → b < w.heap.size → T b) : GM w T bt s := by
  obtain ⟨h0, h1, c, pa, pb, pc, pm, ps, h2, h3, h4, h5⟩ := h
  refine ⟨h0, hs _ h1 h3.lt, c, pa, pb, pc, pm, ps, h2, h3, h4.mono fun b hb hl => ⟨hs b hb.1 hl, hb.2⟩, fun hl => ?_, fun hl => (h5.2 hl).mono fun b hb hlt => ⟨hs b hb.1 hlt, hb.2⟩⟩
  obtain ⟨g1, ⟨bm, e1, g2⟩, ⟨bs, e2, g3⟩⟩ := h5.1 hl
  exact ⟨g1.mono fun b hb hl => ⟨hs b hb.1 hl, hb.2⟩, ⟨bm, e1, g2.mono fun b hb hl => ⟨hs b hb.1 hl, hb.2⟩⟩, ⟨bs, e2, g3.mono fun b hb hl => ⟨hs b hb.1 hl, hb.2⟩⟩⟩
theorem band16 (a : Nat) (h : a < 9223372036854775808) : band .i64 (a : Int) 65535 = ((a % 65536 : Nat) : Int) := by
  unfold band
  rw [show IntKind.bits .i64 = 64 from rfl, show (65535 : Int) = ((65535 : Nat) : Int) from rfl, BitVec.ofInt_natCast, BitVec.ofInt_natCast, BitVec.toNat_and, BitVec.toNat_ofNat, BitVec.toNat_ofNat, Nat.mod_eq_of_lt (by omega), Nat.mod_eq_of_lt (by omega)]
  rw [show (65535 : Nat) = 2 ^ 16 - 1 from rfl, Nat.and_two_pow_sub_one_eq_mod]
  exact w64n (by omega)
theorem shl8i (a : Nat) (h : a ≤ 255) : shl .i64 (a : Int) 8 = ((a * 256 : Nat) : Int) := by
  unfold shl; rw [w64 (by omega) (by omega)]; omega
theorem model_contexts_ok {w : World} {e : TypeId} {bt : Nat} {l : List Value} {s : Mod} {K : Int → Int → Int → World → Prop} (ok : Dok s) (h : Bl e w bt l) (h6 : l[6]? = some (.int .i64 s.part)) (h7 : l[7]? = some (.int .i64 s.last)) (h8 : l[8]? = some (.int .i64 s.older))
    (hk : K s.part s.c2 s.c3 w.drew) : model_Model_contexts.f (some ⟨bt, 0, none⟩) w K := by
  unfold model_Model_contexts.f
  have hd : Bl e w.drew bt l := h
  have p2 := ok.p2; have hl := ok.l; have ho := ok.o
  refine sm_some (ldI_b (i := 6) hd h6 (sm_some (ldI_b (i := 7) hd h7 (sm_some (ldI_b (i := 6) hd h6 (sm_some (ldI_b (i := 8) hd h8 (sm_some (ldI_b (i := 7) hd h7 (sm_some (ldI_b (i := 6) hd h6 ?_)))))))))))
  dsimp only
  rw [shl8i _ hl, shl8i _ ho]
  have e1 : IntKind.wrap .i64 (((s.last * 256 : Nat) : Int) + (s.part : Int)) = ((s.c2 : Nat) : Int) := by unfold Mod.c2; rw [w64 (by omega) (by omega)]; omega
  have e2 : IntKind.wrap .i64 (((s.older * 256 : Nat) : Int) + (s.last : Int)) = ((s.older * 256 + s.last : Nat) : Int) := by rw [w64 (by omega) (by omega)]; omega
  have e3 : IntKind.wrap .i64 (IntKind.wrap .i64 (((s.older * 256 + s.last : Nat) : Int) * 40503) + IntKind.wrap .i64 ((s.part : Int) * 7919)) = (((s.older * 256 + s.last) * 40503 + s.part * 7919 : Nat) : Int) := by
    rw [w64 (a := ((s.older * 256 + s.last : Nat) : Int) * 40503) (by omega) (by omega), w64 (a := (s.part : Int) * 7919) (by omega) (by omega), w64 (by omega) (by omega)]; omega
  rw [e1, e2, e3, band16 _ (by omega)]
  exact hk
theorem GT.some' {w : World} {S : Nat → Prop} {t : Option Addr} {gs : List Int} (h : GT w S t gs) : ∃ b, t = some ⟨b, 0, none⟩ := by
  obtain ⟨bt, bc, h0, _⟩ := h
  exact ⟨bt, h0⟩
def mCellsD (s : Mod) (pa pb pc pm ps : Option Addr) : List Value := [.pointer pa, .pointer pb, .pointer pc, .pointer pm, .pointer ps, .int .i64 s.level, .int .i64 s.part, .int .i64 s.last, .int .i64 s.older]
theorem model_Chance_ok {w : World} {S : Nat → Prop} {bt : Nat} {s : Mod} {K : Int → World → Prop} (hlt : ∀ b, S b → b < w.heap.size) (h : GM w S bt s) (hk : ∀ w', GM w' S bt s.asked → Chg S w w' → K s.chance w') : model_Model_Chance.f (some ⟨bt, 0, none⟩) w K := by
  obtain ⟨ok, h1, c, pa, pb, pc, pm, ps, hc0, h3, h4, h5⟩ := h
  unfold model_Model_Chance.f
  have hla := ok.la; have hlb := ok.lb; have hlc := ok.lc
  refine bif_f rfl (sm_some (ldP_b (i := 0) h3 rfl ?_))
  obtain ⟨ba, hba⟩ := h4.some'
  refine bif_f (by rw [hba]; rfl) (model_contexts_ok ok h3 rfl rfl rfl ?_)
  have k1 : Chg no w w.drew := Chg.drew no w
  have h3d := h3.chg k1 fun h => h
  refine sm_some (ldP_b (i := 0) h3d rfl ?_)
  refine guess_Table_At_ok (w := w.drew) (h4.chg k1 fun _ _ h => h) (by omega) (by omega) fun w2 hc2 => sm_some ?_
  have k2 := k1.trans hc2
  have h32 := h3.chg k2 fun h => h
  refine ldI_b (i := 5) h32 rfl (cond_of (fun hh => ?_) (fun hh => ?_))
  · have hl0 : s.level = 0 := by
      have : (s.level : Int) = 0 := by simpa using hh
      omega
    have ea : s.asked = s := by unfold Mod.asked; rw [if_pos hl0]
    have ec : s.chance = chanceV (at' s.A s.part) := by unfold Mod.chance; rw [if_pos hl0]
    rw [ea, ec] at hk
    exact hk w2 ⟨ok, h1, c, pa, pb, pc, pm, ps, hc0, h32, h4.chg k2 fun _ _ h => h, h5.chg k2 fun _ _ _ h => h⟩ (k2.mono fun _ h => h.elim)
  · have hl0 : s.level ≠ 0 := by
      have : (s.level : Int) ≠ 0 := by simpa using hh
      omega
    obtain ⟨gB, ⟨bm, em, gM⟩, ⟨bs, es, gS⟩⟩ := h5.1 hl0
    obtain ⟨bb, hbb⟩ := gB.some'
    have ea : s.asked = { s with M := s.M', S := s.S.refine s.p s.part } := by unfold Mod.asked; rw [if_neg hl0]
    have ec : s.chance = IntKind.wrap .i64 (Int.tdiv (IntKind.wrap .i64 (s.p + IntKind.wrap .i64 (3 * s.q))) 4) := by unfold Mod.chance; rw [if_neg hl0]
    have oka := ok.asked
    rw [ea] at oka
    rw [ea, ec] at hk
    -- the mixer and the stage
    have t59 : ∀ (b7 : Nat) (w6 : World), w.heap.size ≤ b7 → BlI .i64 88 w6 b7 s.xs → Chg no w w6 →
        (sm (some (⟨bt, 0, none⟩ : Addr)) fun p_47 =>
            ldP (p_47.add 3) w6.drew fun x65_48 =>
            sm (some (⟨bt, 0, none⟩ : Addr)) fun p_49 =>
            ldI .i64 (p_49.add 6) w6.drew fun x69_50 =>
            mix_Mixer_Mix.f x65_48 x69_50 (some ⟨b7, 0, none⟩) 4 4 w6.drew fun r71_51 w =>
            sm (some (⟨bt, 0, none⟩ : Addr)) fun p_53 =>
            ldP (p_53.add 4) w.drew fun x76_54 =>
            sm (some (⟨bt, 0, none⟩ : Addr)) fun p_55 =>
            ldI .i64 (p_55.add 6) w.drew fun x81_56 =>
            stage_Stage_Refine.f x76_54 r71_51 x81_56 w.drew fun r82_57 w =>
            K (IntKind.wrap .i64 (Int.tdiv (IntKind.wrap .i64 (r71_51 + (IntKind.wrap .i64 (3 * r82_57)))) 4)) w) := by
      intro b7 w6 hb7 hx6 k6
      have k6d : Chg no w w6.drew := k6.trans (Chg.drew no w6)
      have h36 := h3.chg k6d fun h => h
      have hx6d : SlI .i64 w6.drew (some ⟨b7, 0, none⟩) s.xs := BlI.sl (show BlI .i64 88 w6.drew b7 s.xs from hx6)
      refine sm_some (ldP_b (i := 3) h36 rfl (sm_some (ldI_b (i := 6) h36 rfl ?_)))
      rw [em]
      refine mix_Mix_ok (w := w6.drew) (gM.chg k6d fun _ _ h => h) hx6d (fun p hp _ hh => by
        cases hp
        have : b7 < w.heap.size := hlt _ hh.1
        omega) rfl fun w7 hM7 hc7 => sm_some ?_
      have k7 : Chg (fun b => S b ∧ c b = 4) w w7 := (k6d.mono fun _ h => h.elim).trans hc7
      have k7d := k7.trans (Chg.drew _ w7)
      have h37 := h3.chg k7d fun h => by omega
      refine ldP_b (i := 4) h37 rfl (sm_some (ldI_b (i := 6) h37 rfl ?_))
      rw [es]
      refine stage_Refine_ok (w := w7.drew) (gS.chg k7d fun b hb hh => by omega) fun w8 hS8 hc8 => ?_
      have k78 : Chg (fun b => S b ∧ c b = 5) w7 w8 := (Chg.drew _ w7).trans hc8
      have k8 : Chg (fun b => S b ∧ (c b = 4 ∨ c b = 5)) w w8 := (k7.mono fun b hb => ⟨hb.1, .inl hb.2⟩).trans (k78.mono fun b hb => ⟨hb.1, .inr hb.2⟩)
      refine hk w8 ⟨oka, h1, c, pa, pb, pc, pm, ps, hc0, h3.chg k8 fun h => by omega, h4.chg k8 fun b hb hh => by omega, fun _ => ⟨gB.chg k8 fun b hb hh => by omega, ⟨bm, em, hM7.chg k78 fun b hb hh => by omega⟩, ⟨bs, es, hS8⟩⟩, fun hl2 => (h5.2 hl2).chg k8 fun b hb hh => by omega⟩ (k8.mono fun b hb => hb.1)
    have t60 : ∀ (b7 : Nat) (w5 : World), w.heap.size ≤ b7 → BlI .i64 88 w5 b7 [s.x0, s.x1, 0, 256] → Chg no w w5 →
        (sm (some (⟨bt, 0, none⟩ : Addr)) fun p_40 =>
          ldI .i64 (p_40.add 5) w5 fun x51_41 =>
          bif (decide (x51_41 > 1)) then
            sm (some (⟨bt, 0, none⟩ : Addr)) fun p_42 =>
            ldP (p_42.add 2) w5 fun x57_43 =>
            guess_Table_At.f x57_43 s.c3 w5 fun r59_44 w =>
            mix_Stretch.f r59_44 w fun r60_45 w =>
            stC ((⟨b7, 0, none⟩ : Addr).add 2) (Value.int .i64 r60_45) w fun w6 =>
            (sm (some (⟨bt, 0, none⟩ : Addr)) fun p_47 =>
            ldP (p_47.add 3) w6.drew fun x65_48 =>
            sm (some (⟨bt, 0, none⟩ : Addr)) fun p_49 =>
            ldI .i64 (p_49.add 6) w6.drew fun x69_50 =>
            mix_Mixer_Mix.f x65_48 x69_50 (some ⟨b7, 0, none⟩) 4 4 w6.drew fun r71_51 w =>
            sm (some (⟨bt, 0, none⟩ : Addr)) fun p_53 =>
            ldP (p_53.add 4) w.drew fun x76_54 =>
            sm (some (⟨bt, 0, none⟩ : Addr)) fun p_55 =>
            ldI .i64 (p_55.add 6) w.drew fun x81_56 =>
            stage_Stage_Refine.f x76_54 r71_51 x81_56 w.drew fun r82_57 w =>
            K (IntKind.wrap .i64 (Int.tdiv (IntKind.wrap .i64 (r71_51 + (IntKind.wrap .i64 (3 * r82_57)))) 4)) w)
          else
            (sm (some (⟨bt, 0, none⟩ : Addr)) fun p_47 =>
            ldP (p_47.add 3) w5.drew fun x65_48 =>
            sm (some (⟨bt, 0, none⟩ : Addr)) fun p_49 =>
            ldI .i64 (p_49.add 6) w5.drew fun x69_50 =>
            mix_Mixer_Mix.f x65_48 x69_50 (some ⟨b7, 0, none⟩) 4 4 w5.drew fun r71_51 w =>
            sm (some (⟨bt, 0, none⟩ : Addr)) fun p_53 =>
            ldP (p_53.add 4) w.drew fun x76_54 =>
            sm (some (⟨bt, 0, none⟩ : Addr)) fun p_55 =>
            ldI .i64 (p_55.add 6) w.drew fun x81_56 =>
            stage_Stage_Refine.f x76_54 r71_51 x81_56 w.drew fun r82_57 w =>
            K (IntKind.wrap .i64 (Int.tdiv (IntKind.wrap .i64 (r71_51 + (IntKind.wrap .i64 (3 * r82_57)))) 4)) w)) := by
      intro b7 w5 hb7 hx5 k5
      have h35 := h3.chg k5 fun h => h
      have hlv := ok.lv
      refine sm_some (ldI_b (i := 5) h35 rfl (cond_of (fun hh2 => ?_) (fun hh2 => ?_)))
      · have hl2 : s.level = 2 := by have := of_decide_eq_true hh2; omega
        have gC := h5.2 hl2
        refine sm_some (ldP_b (i := 2) h35 rfl (guess_Table_At_ok (gC.chg k5 fun _ _ h => h) (by omega) (by omega) fun w6 hc6 => mix_Stretch_v ?_))
        have k6 := k5.trans hc6
        have e2 : strV (chanceV (at' s.C s.c3)) = s.x2 := by unfold Mod.x2; rw [if_pos hl2]
        rw [e2]
        refine stC_b (i := 2) (hx5.chg hc6 fun h => h).bl (by simp) fun w7 hb7' hc7 => t59 b7 w7 hb7 ?_ (k6.then hc7 fun j hj h => by have h2 : j = b7 := h; omega)
        exact hb7'
      · have hl2 : s.level ≠ 2 := by have := of_decide_eq_false hh2; omega
        refine t59 b7 w5 hb7 ?_ k5
        unfold Mod.xs Mod.x2
        rw [if_neg hl2]
        exact hx5
    have fill : ∀ (b7 : Nat) (w4 w5 : World), BlI .i64 88 w4 b7 [0, 0, 0, 0] → True := fun _ _ _ _ => trivial
    dsimp only
    have k2d : Chg no w w2.drew := k2.trans (Chg.drew no w2)
    have h32d := h3.chg k2d fun h => h
    have e0 : strV (chanceV (at' s.A s.part)) = s.x0 := rfl
    have e1 : strV (chanceV (at' s.B s.c2)) = s.x1 := rfl
    have z4 : ∀ {w4 : World} {b7 : Nat}, Bl 88 w4 b7 [(Value.int .i64 0), (Value.int .i64 0), (Value.int .i64 0), (Value.int .i64 0)] → BlI .i64 88 w4 b7 [0, 0, 0, 0] := fun h => h
    have cellB : ∀ {w' : World}, Chg no w w' → w'.cell? ((⟨bt, 0, none⟩ : Addr).add 1) = some (.pointer pb) := fun hc => (h3.chg hc fun h => h).cell (i := 1) rfl
    refine sm_some (ldP_b (i := 1) h32d rfl ⟨mix_Stretch_v ⟨cellB k2d, ⟨?_, ?_⟩⟩, ?_⟩)
    · refine guess_Table_At_ok (gB.chg k2d fun _ _ h => h) (by omega) (by omega) fun w3 hc3 => ?_
      have k3 := k2d.trans hc3
      refine ⟨mix_Stretch_v (newC_b fun w4 hb4 hc4 hs4 => ?_), newC_b fun w4 hb4 hc4 hs4 => mix_Stretch_v ?_⟩
      · have k4 := k3.trans hc4
        refine stCs_b (m := [(Value.int .i64 s.x0), (Value.int .i64 s.x1), (Value.int .i64 0), (Value.int .i64 256)]) hb4 (by simp [one]) rfl fun w5 hb5 hc5 => ?_
        exact t60 _ w5 k3.size hb5 (k4.then hc5 fun j hj h => by have := k3.size; omega)
      · have k4 := k3.trans hc4
        refine stCs_b (m := [(Value.int .i64 s.x0), (Value.int .i64 s.x1), (Value.int .i64 0), (Value.int .i64 256)]) hb4 (by simp [one]) rfl fun w5 hb5 hc5 => ?_
        exact t60 _ w5 k3.size hb5 (k4.then hc5 fun j hj h => by have := k3.size; omega)
    · refine newC_b fun w3 hb3 hc3 hs3 => ?_
      have k3 := k2d.trans hc3
      refine ⟨cellB k3, guess_Table_At_ok (gB.chg k3 fun _ _ h => h) (by omega) (by omega) fun w4 hc4 => mix_Stretch_v ?_⟩
      have k4 := k3.trans hc4
      refine stCs_b (m := [(Value.int .i64 s.x0), (Value.int .i64 s.x1), (Value.int .i64 0), (Value.int .i64 256)]) (hb3.chg hc4 fun h => h) (by simp [one]) rfl fun w5 hb5 hc5 => ?_
      exact t60 _ w5 k2d.size hb5 (k4.then hc5 fun j hj h => by have := k2d.size; omega)
    · refine newC_b fun w3 hb3 hc3 hs3 => ?_
      have k3 := k2d.trans hc3
      refine ⟨cellB k3, mix_Stretch_v ⟨cellB k3, guess_Table_At_ok (gB.chg k3 fun _ _ h => h) (by omega) (by omega) fun w4 hc4 => mix_Stretch_v ?_⟩⟩
      have k4 := k3.trans hc4
      refine stCs_b (m := [(Value.int .i64 s.x0), (Value.int .i64 s.x1), (Value.int .i64 0), (Value.int .i64 256)]) (hb3.chg hc4 fun h => h) (by simp [one]) rfl fun w5 hb5 hc5 => ?_
      exact t60 _ w5 k2d.size hb5 (k4.then hc5 fun j hj h => by have := k2d.size; omega)
end Go.Proofs.Ytdbnobeopgfhgaa.G
