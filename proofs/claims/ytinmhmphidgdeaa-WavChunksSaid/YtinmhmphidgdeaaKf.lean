/- Where a file's samples are: the reference's parser. -/
import Derived.Test.YtinmhmphidgdeaaKe
set_option linter.unusedVariables false
set_option linter.unusedSimpArgs false
namespace Go.Proofs.Ytinmhmphidgdeaa.G
open Go Go.Proofs.Ytinmhmphidgdeaa.Vm Go.RowKit
theorem ref13_Parse_l7 {y0 : Option Addr} {n c b2 b4 : Nat} {xs : List Int} {w0 : World} {K0 : Addr → World → Prop} {Kr : Addr → Bool → World → Prop} {R : Rs} (hx : SlI .u8 w0 y0 xs) (hxS : ∀ p, y0 = some p → xs ≠ [] → ¬ (p.block = b4 ∨ p.block = b2)) (hxl : xs.length = n) (hnc : n ≤ c) (hb : By xs) (hn : n ≤ 100000)
    (d9 : b4 ≠ b2) (lb4 : b4 < w0.heap.size) (lb2 : b2 < w0.heap.size)
    (hk0 : R = Z → ∀ w l, l.length = 4 → BlI .i64 26 w b2 l → Chg (fun j => j = b4 ∨ j = b2) w0 w → K0 ⟨b2, 0, none⟩ w)
    (hk : ∀ w, BlI .i64 26 w b2 (rI R) → Chg (fun j => j = b4 ∨ j = b2) w0 w → Kr ⟨b2, 0, none⟩ R.2.2.2.2 w) (N : Nat) :
    ∀ (at' : Nat) (has : Bool) (fm ch bits : Nat) (l2 : List Int) (w : World), at' ≤ 10000000000 → n < 8 * N + at' → pL xs (N + 1) at' has fm ch bits = R → l2.length = 4 → BlI .i64 26 w b2 l2 → BlI .i64 26 w b4 [(ch : Int), (bits : Int), 0, 0] → Chg (fun j => j = b4 ∨ j = b2) w0 w →
      ref13_Parse.l7 (N + 1) y0 n c ⟨b2, 0, none⟩ ⟨b4, 0, none⟩ has (fm : Int) (at' : Int) w K0 Kr := by
  induction N with
  | zero =>
    intro at' has fm ch bits l2 w h1 h2 hR hl2 hb2 hb4 hc
    rw [ref13_Parse.l7, show IntKind.wrap .i64 ((at' : Int) + 8) = ((at' + 8 : Nat) : Int) by rw [w64 (by omega) (by omega)]; omega]
    exact bif_f (dec_f (by omega)) (hk0 (by rw [← hR]; exact pL_end (by omega)) w l2 hl2 hb2 hc)
  | succ N ih =>
    intro at' has fm ch bits l2 w h1 h2 hR hl2 hb2 hb4 hc
    rw [ref13_Parse.l7, show IntKind.wrap .i64 ((at' : Int) + 8) = ((at' + 8 : Nat) : Int) by rw [w64 (by omega) (by omega)]; omega]
    have fail : ∀ w1 l, l.length = 4 → BlI .i64 26 w1 b2 l → Chg (fun j => j = b4 ∨ j = b2) w0 w1 → R = Z → stCs ⟨b2, 0, none⟩ [(Value.int .i64 0), (Value.int .i64 0), (Value.int .i64 0), (Value.int .i64 0)] 0 w1 fun w => Kr ⟨b2, 0, none⟩ false w := fun w1 l hl h k hZ =>
      stCs4 h hl fun w2 h2 c2 => by
        have := hk w2 (by rw [hZ]; exact h2) (k.trans (c2.mono fun j h => .inr h))
        rw [hZ] at this; exact this
    refine cond_of (fun hh => ?_) (fun hh => hk0 (by rw [← hR]; have := of_decide_eq_false hh; exact pL_end (by omega)) w l2 hl2 hb2 hc)
    have hle : at' + 8 ≤ xs.length := by have := of_decide_eq_true hh; omega
    rw [pL, if_pos hle] at hR
    have hcd := hc.trans (Chg.drew _ w)
    have hxd : SlI .u8 w.drew y0 xs := hx.chg hcd hxS
    have e4 : IntKind.wrap .i64 ((at' : Int) + 4) = ((at' + 4 : Nat) : Int) := by rw [w64 (by omega) (by omega)]; omega
    rw [e4]
    refine bnd_lohi (by omega) (by omega) (by omega) ?_
    rw [Int.toNat_natCast, Int.toNat_natCast, Nat.add_sub_cancel_left]
    have hp := hxd.part (l := at') (h := at' + 4) (c := c) (by omega) (by omega) (by omega)
    rw [show (xs.take (at' + 4)).drop at' = (xs.drop at').take 4 by rw [List.drop_take]; congr 1; omega] at hp
    have hpl : ((xs.drop at').take 4).length = 4 := by rw [List.length_take, List.length_drop]; omega
    refine strL_of hp hpl (ref13_little_ok (k := 4) hxd hxl hnc hb (by omega) (by omega) (by omega) (by omega) fun w1 c1 => ⟨strL_of (hp.chg c1 fun _ _ _ h => h) hpl rfl, ?_⟩)
    have k1 := hcd.trans (c1.mono fun _ h => h.elim)
    have hb2 : BlI .i64 26 w1 b2 l2 := Bl.chg (show Bl 26 w.drew b2 _ from hb2) c1 id
    have hb4 : BlI .i64 26 w1 b4 [(ch : Int), (bits : Int), 0, 0] := Bl.chg (show Bl 26 w.drew b4 _ from hb4) c1 id
    have hsz := leA_4 hb (at' + 4)
    rw [show ((xs.drop at').take 4).map (fun n => UInt8.ofNat n.toNat) = nm4 xs at' from rfl]
    generalize hS : leA xs (at' + 4) 4 = size at hsz hR
    generalize hnm : nm4 xs at' = nm at hR
    intro v10 J69
    have hv10 : v10 = ((at' + 8 : Nat) : Int) := rfl
    have h69 : ∀ (has' : Bool) (fm' ch' bits' : Nat) (w2 : World), (if nm = DATA ∧ has' = true then fin xs.length (at' + 8) size fm' ch' bits' else pL xs (N + 1) (at' + 8 + size + size % 2) has' fm' ch' bits') = R → BlI .i64 26 w2 b2 l2 → BlI .i64 26 w2 b4 [(ch' : Int), (bits' : Int), 0, 0] → Chg (fun j => j = b4 ∨ j = b2) w0 w2 → J69 has' (fm' : Int) w2 := by
      intro has' fm' ch' bits' w2 hR hb2 hb4 k2
      unfold J69
      intro J67
      have h67f : ¬ (nm = DATA ∧ has' = true) → J67 false w2 := fun hnd => by
        rw [if_neg hnd] at hR
        show cond false _ _
        refine bif_f rfl ?_
        dsimp only
        have e1 : IntKind.wrap .i64 (IntKind.wrap .i64 (v10 + (size : Int)) + Int.tmod (size : Int) 2) = ((at' + 8 + size + size % 2 : Nat) : Int) := by
          rw [hv10, show Int.tmod (size : Int) 2 = ((size % 2 : Nat) : Int) from rfl, w64 (a := ((at' + 8 : Nat) : Int) + (size : Int)) (by omega) (by omega), w64 (by omega) (by omega)]; omega
        rw [e1]
        exact ih _ has' fm' ch' bits' l2 w2 (by omega) (by omega) hR hl2 hb2 hb4 k2
      have h67t : nm = DATA → has' = true → J67 true w2 := by
        intro e1 e2
        rw [if_pos ⟨e1, e2⟩] at hR
        show cond true _ _
        refine bif_t rfl ?_
        unfold fin at hR
        intro J51
        have h51t : R = Z → J51 true w2 := fun hZ => fail w2 l2 hl2 hb2 k2 hZ
        have h51f : fm' = 1 → 1 ≤ ch' → ch' ≤ 8 → (bits' = 8 ∨ bits' = 16) → J51 false w2 := by
          intro g1 g2 g3 g4
          show cond false _ _
          refine bif_f rfl (ldI_b (i := 0) hb4.bl rfl (ldI_b (i := 1) hb4.bl rfl ?_))
          dsimp only
          have eF : IntKind.wrap .i64 (Int.tdiv (IntKind.wrap .i64 ((ch' : Int) * (bits' : Int))) 8) = ((fr ch' bits' : Nat) : Int) ∧ 1 ≤ fr ch' bits' ∧ fr ch' bits' ≤ 16 := by
            unfold fr
            rw [if_pos ⟨by omega, by omega, by omega⟩]
            rcases g4 with rfl | rfl
            · rw [if_pos (show ((8 : Nat) : Int) = 8 from rfl), w64 (a := (ch' : Int) * ((8 : Nat) : Int)) (by omega) (by omega), Int.tdiv_eq_ediv_of_nonneg (by omega), w64 (by omega) (by omega)]; omega
            · rw [if_neg (show ¬ ((16 : Nat) : Int) = 8 by decide), w64 (a := (ch' : Int) * ((16 : Nat) : Int)) (by omega) (by omega), Int.tdiv_eq_ediv_of_nonneg (by omega), w64 (by omega) (by omega)]; omega
          generalize hF : fr (ch' : Int) (bits' : Int) = F at hR eF
          rw [eF.1]
          refine ifn_of (by omega) ?_
          have e5 : IntKind.wrap .i64 (((n : Nat) : Int) - v10) = ((xs.length - (at' + 8) : Nat) : Int) := by rw [hv10, w64 (by omega) (by omega)]; omega
          have e6 : mn (size : Int) ((xs.length - (at' + 8) : Nat) : Int) = ((min size (xs.length - (at' + 8)) : Nat) : Int) := by
            have := mn_bd (size : Int) ((xs.length - (at' + 8) : Nat) : Int)
            omega
          rw [e5, e6]
          generalize hq : min size (xs.length - (at' + 8)) = q at hR
          have hdq : q / F ≤ q := Nat.div_le_self _ _
          have hdm : q / F * F ≤ q := Nat.div_mul_le_self _ _
          rw [show Int.tdiv (q : Int) (F : Int) = ((q / F : Nat) : Int) from rfl, w64n (by omega), show ((q / F : Nat) : Int) * (F : Int) = ((q / F * F : Nat) : Int) by rw [Int.natCast_mul], w64n (by omega)]
          refine cond_of (fun h => ?_) fun h => ?_
          · have h0 : q / F * F < 1 := by have := of_decide_eq_true h; omega
            have hqF : q < F := by
              rcases Nat.lt_or_ge q F with g | g
              · exact g
              · have h1 : 1 ≤ q / F := (Nat.le_div_iff_mul_le (by omega)).2 (by omega)
                have := Nat.mul_le_mul h1 eF.2.1
                omega
            exact fail w2 l2 hl2 hb2 k2 (by rw [← hR, if_pos (.inr (.inr hqF))])
          · have h0 : ¬ q / F * F < 1 := by have := of_decide_eq_false h; omega
            have hqF : ¬ q < F := fun g => h0 (by rw [Nat.div_eq_of_lt g]; omega)
            rw [if_neg (show ¬ (fm' ≠ 1 ∨ F = 0 ∨ q < F) by omega)] at hR
            rw [show IntKind.wrap .i64 (v10 + ((q / F * F : Nat) : Int)) = ((at' + 8 + q / F * F : Nat) : Int) by rw [hv10, w64 (by omega) (by omega)]; omega]
            refine stC_b (i := 2) hb4.bl (by simp) fun w3 hb43 c3 => stC_b (i := 3) hb43 (by simp) fun w4 hb44 c4 => ?_
            have hb44' : BlI .i64 26 w4 b4 [(ch' : Int), (bits' : Int), ((at' + 8 : Nat) : Int), ((at' + 8 + q / F * F : Nat) : Int)] := hb44
            have k4 : Chg (fun j => j = b4) w2 w4 := c3.trans c4
            refine ld4i hb44' (stCs4 (hb2.chg k4 (by omega)) hl2 fun w5 hb25 c5 => ?_)
            have := hk w5 (by rw [← hR]; exact hb25) ((k2.trans (k4.mono fun j h => .inl h)).trans (c5.mono fun j h => .inr h))
            rw [← hR] at this; exact this
        clear_value J51
        have fr0 : ¬ (1 ≤ ch' ∧ ch' ≤ 8 ∧ (bits' = 8 ∨ bits' = 16)) → R = Z := fun h => by
          have : fr (ch' : Int) (bits' : Int) = 0 := by unfold fr; rw [if_neg (by omega)]
          rw [← hR, if_pos (.inr (.inl this))]
        refine cond_of (fun h => h51t ?_) fun h => ?_
        · have : fm' ≠ 1 := by
            have : ¬ (fm' : Int) = 1 := by simpa using h
            omega
          rw [← hR, if_pos (.inl this)]
        · have e1 : fm' = 1 := by
            have : (fm' : Int) = 1 := by simpa using h
            omega
          refine ldI_b (i := 0) hb4.bl rfl (cond_of (fun h => h51t (fr0 fun g => by have := of_decide_eq_true h; omega)) fun h1 => ldI_b (i := 0) hb4.bl rfl (cond_of (fun h => h51t (fr0 fun g => by have := of_decide_eq_true h; omega)) fun h2 => ldI_b (i := 1) hb4.bl rfl (cond_of (fun h => ?_) fun h3 => ?_)))
          · have e8 : bits' ≠ 8 := by
              have : ¬ (bits' : Int) = 8 := by simpa using h
              omega
            refine ldI_b (i := 1) hb4.bl rfl ?_
            by_cases g : bits' = 16
            · have : ((bits' : Int) != 16) = false := by subst g; rfl
              rw [this]
              exact h51f e1 (by have := of_decide_eq_false h1; omega) (by have := of_decide_eq_false h2; omega) (.inr g)
            · have : ((bits' : Int) != 16) = true := by simp; omega
              rw [this]
              exact h51t (fr0 fun g' => by omega)
          · have e8 : bits' = 8 := by
              have : (bits' : Int) = 8 := by simpa using h3
              omega
            exact h51f e1 (by have := of_decide_eq_false h1; omega) (by have := of_decide_eq_false h2; omega) (.inl e8)
      clear_value J67
      rw [sEq]
      refine cond_of (fun h => ?_) fun h => ?_
      · have e1 : nm = DATA := eq_of_beq h
        cases hh : has'
        · exact h67f fun g => by rw [hh] at g; exact absurd g.2 (by decide)
        · exact h67t e1 hh
      · exact h67f fun g => absurd (beq_iff_eq.2 g.1) (by rw [show DATA = (#[100, 97, 116, 97] : Array UInt8).toList from rfl, h]; decide)
    clear_value J69
    intro J37
    have h37t : nm = FMT → has = false → 16 ≤ size → at' + 8 + 16 ≤ xs.length → J37 true w1 := by
      intro e1 e2 e3 e4
      rw [if_pos ⟨e1, e2, e3, e4⟩] at hR
      show cond true _ _
      refine bif_t rfl ?_
      have hx1 := hx.chg k1 hxS
      have ea : IntKind.wrap .i64 (v10 + 2) = ((at' + 8 + 2 : Nat) : Int) := by rw [hv10, w64 (by omega) (by omega)]; omega
      have eb : IntKind.wrap .i64 (v10 + 14) = ((at' + 8 + 14 : Nat) : Int) := by rw [hv10, w64 (by omega) (by omega)]; omega
      rw [ea, eb, hv10]
      refine ref13_little_ok (k := 2) hx1 hxl hnc hb (by omega) (by omega) (by omega) (by omega) fun w2 c2 => ref13_little_ok (k := 2) (hx1.chg c2 fun _ _ _ h => h) hxl hnc hb (by omega) (by omega) (by omega) (by omega) fun w3 c3 => ref13_little_ok (k := 2) ((hx1.chg c2 fun _ _ _ h => h).chg c3 fun _ _ _ h => h) hxl hnc hb (by omega) (by omega) (by omega) (by omega) fun w4 c4 => ?_
      have k4 := (c2.trans c3).trans c4
      refine stC_b (i := 0) (hb4.chg k4 id).bl (by simp) fun w5 hb45 c5 => stC_b (i := 1) hb45 (by simp) fun w6 hb46 c6 => ?_
      have k6 : Chg (fun j => j = b4) w1 w6 := ((k4.mono fun _ h => h.elim).trans c5).trans c6
      refine h69 true _ _ _ w6 ?_ (hb2.chg k6 (by omega)) hb46 (k1.trans (k6.mono fun j h => .inl h))
      rw [if_neg (fun g => absurd (g.1.symm.trans e1) (by decide))]
      exact hR
    have h37f : ¬ (nm = FMT ∧ has = false ∧ 16 ≤ size ∧ at' + 8 + 16 ≤ xs.length) → J37 false w1 := by
      intro hno
      rw [if_neg hno] at hR
      show cond false _ _
      exact bif_f rfl (h69 has fm ch bits w1 hR hb2 hb4 k1)
    clear_value J37
    rw [sEq]
    refine cond_of (fun h => ?_) fun h => ?_
    · have e1 : nm = FMT := eq_of_beq h
      refine cond_of (fun h2 => ?_) fun h2 => ?_
      · have e2 : has = false := by simpa using h2
        have e16 : IntKind.wrap .i64 (v10 + 16) = ((at' + 8 + 16 : Nat) : Int) := by rw [hv10, w64 (by omega) (by omega)]; omega
        rw [e16]
        refine cond_of (fun h3 => ?_) fun h3 => ?_
        · have e3 : 16 ≤ size := by have := of_decide_eq_true h3; omega
          by_cases g : at' + 8 + 16 ≤ xs.length
          · rw [decide_eq_true (by omega)]; exact h37t e1 e2 e3 g
          · rw [decide_eq_false (by omega)]; exact h37f fun q => g q.2.2.2
        · exact h37f fun q => by have := of_decide_eq_false h3; omega
      · have e2 : has = true := by simpa using h2
        exact h37f fun q => by rw [e2] at q; exact absurd q.2.1 (by decide)
    · exact h37f fun q => absurd (beq_iff_eq.2 q.1) (by rw [show FMT = (#[102, 109, 116, 32] : Array UInt8).toList from rfl, h]; decide)
theorem ref13_Parse_ok {x : Option Addr} {n c : Nat} {xs : List Int} {w : World} {K : Int → Int → Int → Int → Bool → World → Prop} (hx : SlI .u8 w x xs) (hxl : xs.length = n) (hnc : n ≤ c) (hb : By xs) (hn : n ≤ 100000)
    (hk : ∀ w', Chg no w w' → K (pP xs).1 (pP xs).2.1 (pP xs).2.2.1 (pP xs).2.2.2.1 (pP xs).2.2.2.2 w') : ref13_Parse.f x n c w K := by
  unfold ref13_Parse.f
  refine newC_i (k := .i64) (xs := [0, 0, 0, 0]) rfl fun w1 hb2 c1 s1 => ?_
  have hx1 := hx.chg c1 fun _ _ _ h => h
  intro J
  have hJt : (xs.length < 12 ∨ nm4 xs 0 ≠ RIFF ∨ nm4 xs 8 ≠ WAVE) → J true w1 := fun h => by
    show cond true _ _
    refine bif_t rfl (stCs4 hb2 rfl fun w2 h2 c2 => ld4i h2 ?_)
    have := hk w2 (c1.then c2 fun k hk h => by omega)
    rw [pP, if_pos h] at this; exact this
  have hJf : ¬ (xs.length < 12 ∨ nm4 xs 0 ≠ RIFF ∨ nm4 xs 8 ≠ WAVE) → J false w1 := fun h => by
    have hP : pL xs (xs.length + 1) 12 false 0 0 0 = pP xs := by rw [pP, if_neg h]
    have h12 : ¬ xs.length < 12 := fun g => h (.inl g)
    show cond false _ _
    refine bif_f rfl (newC_i (k := .i64) (xs := [0, 0, 0, 0]) rfl fun w5 hb5 c5 s5 => ?_)
    refine ⟨n + 1, ?_⟩
    subst hxl
    refine ref13_Parse_l7 (w0 := w5) (R := pP xs) (hx1.chg c5 fun _ _ _ h => h) ?_ rfl hnc hb hn (show w1.heap.size ≠ w.heap.size by omega) (by omega) (by omega) (fun hZ w6 l hl h6 c6 => ?_) (fun w6 h6 c6 => ?_) xs.length 12 false 0 0 0 _ w5 (by omega) (by omega) hP rfl (hb2.chg c5 id) hb5 (Chg.refl _ _)
    · intro p hp hne
      have := old3 hx p hp hne
      omega
    · refine stCs4 h6 hl fun w7 h7 c7 => ld4i h7 ?_
      have := hk w7 (((c1.trans c5).then c6 fun k hk h => by omega).then c7 fun k hk h => by omega)
      rw [hZ] at this; exact this
    · refine ld4i h6 (hk w6 ?_)
      exact (c1.trans c5).then c6 fun k hk h => by omega
  clear_value J
  refine cond_of (fun h => hJt (.inl (by have := of_decide_eq_true h; omega))) fun h => ?_
  have h12 : 12 ≤ xs.length := by have := of_decide_eq_false h; omega
  refine bnd_hi (by omega) (by omega) ?_
  have p1 := hx1.part (l := 0) (h := 4) (c := c) (by omega) (by omega) (by omega)
  refine strL_of p1 (SlI.part_len (by omega)) ?_
  have e1 : ((xs.take 4).drop 0).map (fun n => UInt8.ofNat n.toNat) = nm4 xs 0 := by unfold nm4; rw [List.drop_zero, List.drop_zero]
  rw [e1, sEq]
  refine cond_of (fun h => hJt ?_) fun h => ?_
  · refine .inr (.inl fun g => ?_)
    rw [g] at h; exact absurd h (by decide)
  · have g1 : nm4 xs 0 = RIFF := by
      have : (nm4 xs 0 == (#[82, 73, 70, 70] : Array UInt8).toList) = true := by simpa using h
      exact eq_of_beq this
    refine bnd_lohi (by omega) (by omega) (by omega) ?_
    have p2 := hx1.part (l := 8) (h := 12) (c := c) (by omega) (by omega) (by omega)
    refine strL_of p2 (SlI.part_len (by omega)) ?_
    have e2 : ((xs.take 12).drop 8).map (fun n => UInt8.ofNat n.toNat) = nm4 xs 8 := by unfold nm4; rw [List.drop_take]
    rw [e2, sEq]
    by_cases g2 : nm4 xs 8 = WAVE
    · rw [g2]
      exact hJf fun h => by
        rcases h with h | h | h
        · omega
        · exact h g1
        · exact h g2
    · have : (nm4 xs 8 == (#[87, 65, 86, 69] : Array UInt8).toList) = false := by simpa [WAVE] using g2
      rw [this]; exact hJt (.inr (.inr g2))
end Go.Proofs.Ytinmhmphidgdeaa.G
