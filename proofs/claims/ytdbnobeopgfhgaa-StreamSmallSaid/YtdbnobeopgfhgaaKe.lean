/- The model on one byte again and again: the states of its places. -/
import Derived.Test.YtdbnobeopgfhgaaKd
set_option linter.unusedVariables false
set_option linter.unusedSimpArgs false
namespace Go.Proofs.Ytdbnobeopgfhgaa.G
open Go Go.Proofs.Ytdbnobeopgfhgaa.Vm Go.RowKit
/-- The states of a place, round for round: its own, its guess in the second table, its guess in the third. -/
def Sq (lv : Nat) (bit : Int) (z : Bool) (g1 g2 : Int) : Nat → Pv × Int × Int
  | 0 => (⟨32768, [16384, 16384, 16384, 16384], sFirst⟩, 32768, 32768)
  | n + 1 => (stV lv (Sq lv bit z g1 g2 n).1 (Sq lv bit z g1 g2 n).2.1 (Sq lv bit z g1 g2 n).2.2 bit, if n = 0 ∧ z = false then 32768 else nextV (Sq lv bit z g1 g2 n).2.1 bit 4, if n = 0 then g1 else if n = 1 then g2 else nextV (Sq lv bit z g1 g2 n).2.2 bit 3)
theorem Sq_1 (lv : Nat) (bit : Int) (z : Bool) (g1 g2 g3 : Int) : Sq lv bit z g1 g2 1 = Sq lv bit z g1 g3 1 := rfl
def R1 (lv : Nat) : List Int := if lv = 2 then [32768, 28672, 36863] else [32768]
def R2 (lv : Nat) : List Int := if lv = 2 then [32768, 28672, 36863, 25088, 33279, 32256, 40447] else [32768]
theorem R_next {g bit : Int} (h : g ∈ R1 2) (hb : bit = 0 ∨ bit = 1) : nextV g bit 3 ∈ R2 2 := by
  have h : g ∈ ([32768, 28672, 36863] : List Int) := h
  show _ ∈ ([32768, 28672, 36863, 25088, 33279, 32256, 40447] : List Int)
  simp only [List.mem_cons, List.not_mem_nil, or_false] at h
  rcases h with rfl | rfl | rfl <;> rcases hb with rfl | rfl <;> decide +kernel
theorem R_half {bit : Int} (hb : bit = 0 ∨ bit = 1) : nextV 32768 bit 3 ∈ R1 2 := by
  show _ ∈ ([32768, 28672, 36863] : List Int)
  rcases hb with rfl | rfl <;> decide +kernel
theorem R_sub {lv : Nat} {g : Int} (h : g ∈ R1 lv) : g ∈ R2 lv := by
  unfold R1 at h; unfold R2
  split at h
  · rename_i e
    rw [if_pos e]
    simp only [List.mem_cons, List.not_mem_nil, or_false] at h ⊢
    rcases h with h | h | h
    · exact .inl h
    · exact .inr (.inl h)
    · exact .inr (.inr (.inl h))
  · rename_i e
    rw [if_neg e]; exact h
theorem half_R1 (lv : Nat) : (32768 : Int) ∈ R1 lv := by unfold R1; split <;> simp
/-- What stands ahead of a bit of a byte, and the bit. -/
def prt (c j : Nat) : Nat := 2 ^ j + c / 2 ^ (8 - j)
def bt (c j : Nat) : Int := (bitN c (7 - j) : Nat)
theorem bt_01 (c j : Nat) : bt c j = 0 ∨ bt c j = 1 := by
  have := bitN_le c (7 - j)
  unfold bt; omega
theorem prt_step {c j : Nat} (hj : j < 8) : 2 * prt c j + (bt c j).toNat = prt c (j + 1) := by
  unfold bt
  rw [Int.toNat_natCast]
  unfold prt bitN
  rw [Nat.shiftRight_eq_div_pow]
  have : j = 0 ∨ j = 1 ∨ j = 2 ∨ j = 3 ∨ j = 4 ∨ j = 5 ∨ j = 6 ∨ j = 7 := by omega
  rcases this with rfl | rfl | rfl | rfl | rfl | rfl | rfl | rfl <;> simp <;> omega
theorem prt_bd {c j : Nat} (hc : c < 256) (hj : j ≤ 8) : 2 ^ j ≤ prt c j ∧ prt c j < 2 ^ (j + 1) := by
  unfold prt
  have : j = 0 ∨ j = 1 ∨ j = 2 ∨ j = 3 ∨ j = 4 ∨ j = 5 ∨ j = 6 ∨ j = 7 ∨ j = 8 := by omega
  rcases this with rfl | rfl | rfl | rfl | rfl | rfl | rfl | rfl | rfl <;> simp <;> omega
theorem prt_lt {c j : Nat} (hc : c < 256) (hj : j < 8) : 1 ≤ prt c j ∧ prt c j < 256 := by
  have := prt_bd hc (Nat.le_of_lt hj)
  have h1 := Nat.pow_le_pow_right (show 0 < 2 by omega) (show j + 1 ≤ 8 by omega)
  have h2 := Nat.pow_le_pow_right (show 0 < 2 by omega) (show 0 ≤ j by omega)
  omega
theorem prt_inj {c i j : Nat} (hc : c < 256) (hi : i < 8) (hj : j < 8) (h : prt c i = prt c j) : i = j := by
  have bi := prt_bd hc (Nat.le_of_lt hi)
  have bj := prt_bd hc (Nat.le_of_lt hj)
  rcases Nat.lt_trichotomy i j with g | g | g
  · have := Nat.pow_le_pow_right (show 0 < 2 by omega) (show i + 1 ≤ j by omega)
    omega
  · exact g
  · have := Nat.pow_le_pow_right (show 0 < 2 by omega) (show j + 1 ≤ i by omega)
    omega
def lastN (c n : Nat) : Nat := if n = 0 then 0 else c
def oldN (c n : Nat) : Nat := if n ≤ 1 then 0 else c
def b2 (c n i : Nat) : Nat := lastN c n * 256 + prt c i
def b3 (c n i : Nat) : Nat := ((oldN c n * 256 + lastN c n) * 40503 + prt c i * 7919) % 65536
theorem lastN_lt {c n : Nat} (hc : c < 256) : lastN c n < 256 := by unfold lastN; split <;> omega
theorem b2_lt {c n i : Nat} (hc : c < 256) (hi : i < 8) : b2 c n i < 65536 := by
  have := lastN_lt (n := n) hc
  have := prt_lt hc hi
  unfold b2; omega
theorem b3_lt (c n i : Nat) : b3 c n i < 65536 := Nat.mod_lt _ (by omega)
theorem b2_inj {c n i j : Nat} (hc : c < 256) (hi : i < 8) (hj : j < 8) (h : b2 c n i = b2 c n j) : i = j := by
  unfold b2 at h
  exact prt_inj hc hi hj (by omega)
theorem mod_inj (K p q : Nat) (hp : p < 256) (hq : q < 256) (h : (K + p * 7919) % 65536 = (K + q * 7919) % 65536) : p = q := by omega
theorem b3_inj {c n i j : Nat} (hc : c < 256) (hi : i < 8) (hj : j < 8) (h : b3 c n i = b3 c n j) : i = j := by
  exact prt_inj hc hi hj (mod_inj _ _ _ (prt_lt hc hi).2 (prt_lt hc hj).2 h)
theorem stV_congr {lv : Nat} {v : Pv} {b b' c c' bit : Int} (hb : lv ≠ 0 → b = b') (hc : lv = 2 → c = c') : stV lv v b c bit = stV lv v b' c' bit := by
  unfold stV toldV xsV
  by_cases h0 : lv = 0
  · simp only [if_pos h0]
  · rw [hb h0]
    by_cases h2 : lv = 2
    · rw [hc h2]
    · simp only [if_neg h2]
theorem chV_congr {lv : Nat} {v : Pv} {b b' c c' : Int} (hb : lv ≠ 0 → b = b') (hc : lv = 2 → c = c') : chV lv v b c = chV lv v b' c' := by
  unfold chV toldV xsV
  by_cases h0 : lv = 0
  · simp only [if_pos h0]
  · rw [hb h0]
    by_cases h2 : lv = 2
    · rw [hc h2]
    · simp only [if_neg h2]
def Qs (lv c : Nat) (G : Nat → Int × Int) (i n : Nat) : Pv × Int × Int := Sq lv (bt c i) (c == 0) (G i).1 (G i).2 n
/-- In round `n`, `j` bits of the byte learnt. -/
structure Mid (lv c n j : Nat) (G : Nat → Int × Int) (s : Mod) : Prop where
  mok : Mk s
  hlv : s.level = lv
  g : ∀ i, i < 8 → (G i).1 ∈ R1 lv ∧ (G i).2 ∈ R2 lv
  new : ∀ i, j ≤ i → i < 8 → view s (prt c i) = (Qs lv c G i n).1 ∧ (lv ≠ 0 → at' s.B (b2 c n i) = (Qs lv c G i n).2.1) ∧ (lv = 2 → at' s.C (b3 c n i) = (Qs lv c G i n).2.2)
  old : ∀ i, i < j → i < 8 → view s (prt c i) = stV lv (Qs lv c G i n).1 (Qs lv c G i n).2.1 (Qs lv c G i n).2.2 (bt c i) ∧ (lv ≠ 0 → at' s.B (b2 c n i) = nextV (Qs lv c G i n).2.1 (bt c i) 4) ∧ (lv = 2 → at' s.C (b3 c n i) = nextV (Qs lv c G i n).2.2 (bt c i) 3)
  bz : n = 0 → ∀ m : Nat, 256 ≤ m → m < 65536 → at' s.B m = 32768
  c0 : n = 0 → lv = 2 → ∀ m : Nat, m < 65536 → at' s.C m ∈ R1 lv
  c1 : n = 1 → lv = 2 → ∀ m : Nat, m < 65536 → at' s.C m ∈ R2 lv
structure At (c n j : Nat) (s : Mod) : Prop where
  p : s.part = prt c j
  l : s.last = lastN c n
  o : s.older = oldN c n
theorem At.c2 {c n j : Nat} {s : Mod} (h : At c n j s) : s.c2 = b2 c n j := by unfold Mod.c2 b2; rw [h.p, h.l]
theorem At.c3 {c n j : Nat} {s : Mod} (h : At c n j s) : s.c3 = b3 c n j := by unfold Mod.c3 b3; rw [h.p, h.l, h.o]
theorem Mid.chance {lv c n j : Nat} {G : Nat → Int × Int} {s : Mod} (h : Mid lv c n j G s) (a : At c n j s) (hj : j < 8) : s.chance = chV lv (Qs lv c G j n).1 (Qs lv c G j n).2.1 (Qs lv c G j n).2.2 := by
  obtain ⟨h1, h2, h3⟩ := h.new j (Nat.le_refl _) hj
  rw [chance_view h.mok, h.hlv, a.p, h1, a.c2, a.c3]
  exact chV_congr h2 h3
theorem Mid.learn {lv c n j : Nat} {G : Nat → Int × Int} {s : Mod} (hc : c < 256) (h : Mid lv c n j G s) (a : At c n j s) (hj : j < 8) : Mid lv c n (j + 1) G (s.learn (bt c j)) := by
  obtain ⟨h1, h2, h3⟩ := h.new j (Nat.le_refl _) hj
  have hb := bt_01 c j
  have hst : stV s.level (view s s.part) (at' s.B s.c2) (at' s.C s.c3) (bt c j) = stV lv (Qs lv c G j n).1 (Qs lv c G j n).2.1 (Qs lv c G j n).2.2 (bt c j) := by
    rw [h.hlv, a.p, h1, a.c2, a.c3]; exact stV_congr h2 h3
  have vw : ∀ i, i < 8 → view (s.learn (bt c j)) (prt c i) = if j = i then stV lv (Qs lv c G j n).1 (Qs lv c G j n).2.1 (Qs lv c G j n).2.2 (bt c j) else view s (prt c i) := fun i hi => by
    rw [view_learn h.mok _ (prt_lt hc hi).2, hst, a.p]
    by_cases e : j = i
    · subst e; rw [if_pos rfl, if_pos rfl]
    · rw [if_neg e, if_neg fun g => e (prt_inj hc hj hi g)]
  have vb : lv ≠ 0 → ∀ m : Nat, m < 65536 → at' (s.learn (bt c j)).B m = if b2 c n j = m then nextV (at' s.B (b2 c n j)) (bt c j) 4 else at' s.B m := fun h0 m hm => by
    rw [learn_B, if_neg (by rw [h.hlv]; exact h0), a.c2, at_upd (by rw [h.mok.ok.lb]; exact b2_lt hc hj) (by rw [h.mok.ok.lb]; exact hm)]
  have vc : lv = 2 → ∀ m : Nat, m < 65536 → at' (s.learn (bt c j)).C m = if b3 c n j = m then nextV (at' s.C (b3 c n j)) (bt c j) 3 else at' s.C m := fun h0 m hm => by
    rw [learn_C, if_pos (by rw [h.hlv]; exact h0), a.c3, at_upd (by rw [h.mok.ok.lc]; exact b3_lt c n j) (by rw [h.mok.ok.lc]; exact hm)]
  refine ⟨h.mok.learn hb, by rw [learn_level]; exact h.hlv, h.g, fun i hi hi8 => ?_, fun i hi hi8 => ?_, fun hn m hm hm2 => ?_, fun hn h0 m hm => ?_, fun hn h0 m hm => ?_⟩
  · obtain ⟨k1, k2, k3⟩ := h.new i (by omega) hi8
    refine ⟨by rw [vw i hi8, if_neg (by omega)]; exact k1, fun h0 => ?_, fun h0 => ?_⟩
    · rw [vb h0 _ (b2_lt hc hi8), if_neg fun g => absurd (b2_inj hc hj hi8 g) (by omega)]; exact k2 h0
    · rw [vc h0 _ (b3_lt _ _ _), if_neg fun g => absurd (b3_inj hc hj hi8 g) (by omega)]; exact k3 h0
  · by_cases e : i = j
    · subst e
      refine ⟨by rw [vw i hi8, if_pos rfl], fun h0 => ?_, fun h0 => ?_⟩
      · rw [vb h0 _ (b2_lt hc hi8), if_pos rfl, h2 h0]
      · rw [vc h0 _ (b3_lt _ _ _), if_pos rfl, h3 h0]
    · obtain ⟨k1, k2, k3⟩ := h.old i (by omega) hi8
      refine ⟨by rw [vw i hi8, if_neg (by omega)]; exact k1, fun h0 => ?_, fun h0 => ?_⟩
      · rw [vb h0 _ (b2_lt hc hi8), if_neg fun g => absurd (b2_inj hc hj hi8 g) (by omega)]; exact k2 h0
      · rw [vc h0 _ (b3_lt _ _ _), if_neg fun g => absurd (b3_inj hc hj hi8 g) (by omega)]; exact k3 h0
  · by_cases h0 : lv = 0
    · rw [learn_B, if_pos (by rw [h.hlv]; exact h0)]; exact h.bz hn m hm hm2
    · have := (prt_lt hc hj).2
      rw [vb h0 m hm2, if_neg (by unfold b2 lastN; rw [if_pos hn]; omega)]; exact h.bz hn m hm hm2
  · rw [vc h0 m hm]
    split
    · rw [h3 h0]
      have : (Qs lv c G j n).2.2 = 32768 := by subst hn; rfl
      rw [this, h0]; exact R_half hb
    · exact h.c0 hn h0 m hm
  · rw [vc h0 m hm]
    split
    · rw [h3 h0]
      have : (Qs lv c G j n).2.2 = (G j).1 := by subst hn; rfl
      rw [this, h0]
      exact R_next (h0 ▸ (h.g j hj).1) hb
    · exact h.c1 hn h0 m hm
theorem asked_view (s : Mod) (p : Nat) : view s.asked p = view s p := by
  unfold view
  rw [(asked_eqs s).1]
  have e1 : s.asked.M.W = s.M.W := by unfold Mod.asked; split <;> rfl
  have e2 : s.asked.S.T = s.S.T := by unfold Mod.asked; split <;> rfl
  rw [e1, e2]
theorem Mk.asked {s : Mod} (h : Mk s) : Mk s.asked := by
  have e1 : s.asked.M.W = s.M.W := by unfold Mod.asked; split <;> rfl
  have e2 : s.asked.S.T = s.S.T := by unfold Mod.asked; split <;> rfl
  exact ⟨h.ok.asked, by rw [e1]; exact h.lm, by rw [e2]; exact h.ls⟩
theorem Mid.asked {lv c n j : Nat} {G : Nat → Int × Int} {s : Mod} (h : Mid lv c n j G s) : Mid lv c n j G s.asked := by
  obtain ⟨h1, h2, h3, h4, h5, h6, h7⟩ := asked_eqs s
  refine ⟨h.mok.asked, h7.trans h.hlv, h.g, fun i hi hi8 => ?_, fun i hi hi8 => ?_, ?_, ?_, ?_⟩
  · rw [asked_view, h2, h3]; exact h.new i hi hi8
  · rw [asked_view, h2, h3]; exact h.old i hi hi8
  · rw [h2]; exact h.bz
  · rw [h3]; exact h.c0
  · rw [h3]; exact h.c1
theorem At.asked {c n j : Nat} {s : Mod} (a : At c n j s) : At c n j s.asked := by
  obtain ⟨h1, h2, h3, h4, h5, h6, h7⟩ := asked_eqs s
  exact ⟨h4.trans a.p, h5.trans a.l, h6.trans a.o⟩
/-- Places may be told anew what the third table holds: what was, stays. -/
theorem Mid.wrap {lv c n : Nat} {G : Nat → Int × Int} {s : Mod} (hc : c < 256) (hlv : lv ≤ 2) (h : Mid lv c n 8 G s) : ∃ G', Mid lv c (n + 1) 0 G' s ∧ ∀ i m, i < 8 → m ≤ n → Qs lv c G' i m = Qs lv c G i m := by
  have hb2 : ∀ i, i < 8 → lv ≠ 0 → at' s.B (b2 c (n + 1) i) = if n = 0 ∧ (c == 0) = false then 32768 else nextV (Qs lv c G i n).2.1 (bt c i) 4 := fun i hi h0 => by
    obtain ⟨k1, k2, k3⟩ := h.old i hi hi
    by_cases hn : n = 0
    · by_cases hz : c = 0
      · rw [if_neg (by rw [hz]; simp), ← k2 h0]
        unfold b2 lastN; rw [hn, hz]; simp
      · have hp := prt_lt hc hi
        rw [if_pos ⟨hn, by simpa using hz⟩, h.bz hn _ ?_ (b2_lt hc hi)]
        unfold b2 lastN; rw [if_neg (by omega)]; omega
    · rw [if_neg (fun g => hn g.1), ← k2 h0]
      unfold b2 lastN; rw [if_neg (by omega), if_neg hn]
  by_cases h2 : lv = 2
  · by_cases hn : n = 0
    · refine ⟨fun i => (at' s.C (b3 c 1 i), 32768), ⟨h.mok, h.hlv, fun i hi => ⟨h.c0 hn h2 _ (b3_lt _ _ _), R_sub (half_R1 lv)⟩, fun i _ hi => ?_, fun i hi => by omega, fun e => by omega, fun e => by omega, fun _ _ m hm => R_sub (h.c0 hn h2 m hm)⟩, fun i m _ hm => ?_⟩
      · obtain ⟨k1, k2, k3⟩ := h.old i hi hi
        subst hn
        exact ⟨k1, hb2 i hi, fun _ => rfl⟩
      · obtain rfl : m = 0 := by omega
        rfl
    · by_cases hn1 : n = 1
      · refine ⟨fun i => ((G i).1, at' s.C (b3 c 2 i)), ⟨h.mok, h.hlv, fun i hi => ⟨(h.g i hi).1, h.c1 hn1 h2 _ (b3_lt _ _ _)⟩, fun i _ hi => ?_, fun i hi => by omega, fun e => by omega, fun e => by omega, fun e => by omega⟩, fun i m _ hm => ?_⟩
        · obtain ⟨k1, k2, k3⟩ := h.old i hi hi
          subst hn1
          exact ⟨k1, hb2 i hi, fun _ => rfl⟩
        · have : m = 0 ∨ m = 1 := by omega
          rcases this with rfl | rfl <;> rfl
      · refine ⟨G, ⟨h.mok, h.hlv, h.g, fun i _ hi => ?_, fun i hi => by omega, fun e => by omega, fun e => by omega, fun e => by omega⟩, fun i m _ hm => rfl⟩
        obtain ⟨k1, k2, k3⟩ := h.old i hi hi
        refine ⟨k1, hb2 i hi, fun h0 => ?_⟩
        show _ = (Sq lv (bt c i) (c == 0) (G i).1 (G i).2 (n + 1)).2.2
        rw [Sq, if_neg hn, if_neg hn1]
        have : b3 c (n + 1) i = b3 c n i := by unfold b3 oldN lastN; rw [if_neg (by omega), if_neg (by omega), if_neg (by omega), if_neg hn]
        rw [this]; exact k3 h0
  · refine ⟨G, ⟨h.mok, h.hlv, h.g, fun i _ hi => ?_, fun i hi => by omega, fun e => by omega, fun e => by omega, fun _ e => absurd e h2⟩, fun i m _ hm => rfl⟩
    obtain ⟨k1, k2, k3⟩ := h.old i hi hi
    exact ⟨k1, hb2 i hi, fun h0 => absurd h0 h2⟩
theorem At.learn {c n j : Nat} {s : Mod} (hc : c < 256) (a : At c n j s) (hj : j < 7) : At c n (j + 1) (s.learn (bt c j)) := by
  have e := learn_at s (bt c j)
  rw [a.p, prt_step (by omega), if_neg (by have := prt_lt hc (show j + 1 < 8 by omega); omega)] at e
  simp only [Prod.mk.injEq] at e
  exact ⟨e.1, e.2.1.trans a.l, e.2.2.trans a.o⟩
theorem At.wrap {c n : Nat} {s : Mod} (hc : c < 256) (a : At c n 7 s) : At c (n + 1) 0 (s.learn (bt c 7)) := by
  have e := learn_at s (bt c 7)
  have h8 : prt c 8 = 256 + c := by unfold prt; simp
  rw [a.p, prt_step (by omega), h8, if_pos (by omega), a.l] at e
  simp only [Prod.mk.injEq] at e
  refine ⟨e.1.trans ?_, e.2.1.trans ?_, e.2.2.trans ?_⟩
  · unfold prt; simp; omega
  · unfold lastN; rw [if_neg (by omega)]; omega
  · unfold oldN lastN
    by_cases h : n = 0
    · rw [if_pos h, if_pos (by omega)]
    · rw [if_neg h, if_neg (by omega)]
theorem at_rep' {n : Nat} {i : Nat} (h : i < n) : at' (List.replicate n 32768) (i : Int) = 32768 := at_rep2 n (by omega) _
theorem mid_new {lv c : Nat} (hc : c < 256) (hlv : lv ≤ 2) : Mid lv c 0 0 (fun _ => (32768, 32768)) (modNew lv) ∧ At c 0 0 (modNew lv) := by
  have hm : Mk (modNew lv) := ⟨modNew_ok hlv, List.length_replicate .., List.length_replicate ..⟩
  refine ⟨⟨hm, rfl, fun _ _ => ⟨half_R1 lv, R_sub (half_R1 lv)⟩, fun i _ hi => ?_, fun i hi => by omega, fun _ m _ hm => at_rep' hm, fun _ _ m hm => by rw [show at' (modNew lv).C (m : Int) = 32768 from at_rep' hm]; exact half_R1 lv, fun e => by omega⟩, ⟨?_, rfl, rfl⟩⟩
  · have hp := (prt_lt hc hi).2
    refine ⟨?_, fun _ => at_rep' (b2_lt hc hi), fun _ => at_rep' (b3_lt _ _ _)⟩
    have e1 : at' (modNew lv).A (prt c i : Int) = 32768 := at_rep' hp
    have e2 : (modNew lv).M.W.getD (prt c i) [] = [16384, 16384, 16384, 16384] := by
      show (List.replicate 256 _).getD _ _ = _
      rw [List.getD_eq_getElem?_getD, List.getElem?_replicate, if_pos hp]; rfl
    have e3 : (modNew lv).S.T.getD (prt c i) [] = sFirst := by
      show (List.replicate 256 _).getD _ _ = _
      rw [List.getD_eq_getElem?_getD, List.getElem?_replicate, if_pos hp]; rfl
    unfold view
    rw [e1, e2, e3]; rfl
  · unfold prt; simp; show 1 = _; omega
end Go.Proofs.Ytdbnobeopgfhgaa.G
