/- Where a file's samples are: the program's parser. -/
import Derived.Test.YtinmhmphidgdeaaKd
set_option linter.unusedVariables false
set_option linter.unusedSimpArgs false
namespace Go.Proofs.Ytinmhmphidgdeaa.G
open Go Go.Proofs.Ytinmhmphidgdeaa.Vm Go.RowKit
def rI (r : Rs) : List Int := [r.1, r.2.1, r.2.2.1, r.2.2.2.1]
theorem stCs4 {T : TypeId} {w : World} {b : Nat} {l : List Int} {a c d e : Int} {K : World → Prop} (h : BlI .i64 T w b l) (hl : l.length = 4)
    (hk : ∀ w', BlI .i64 T w' b [a, c, d, e] → Chg (fun j => j = b) w w' → K w') : stCs ⟨b, 0, none⟩ [(Value.int .i64 a), (Value.int .i64 c), (Value.int .i64 d), (Value.int .i64 e)] 0 w K :=
  stCs_x (ys := [a, c, d, e]) h (by rw [hl]; rfl) hk
theorem ld4i {T : TypeId} {w : World} {b : Nat} {a c d e : Int} {K : Int → Int → Int → Int → Prop} (h : BlI .i64 T w b [a, c, d, e]) (hk : K a c d e) :
    ldI .i64 ((⟨b, 0, none⟩ : Addr).add 0) w fun x0 => ldI .i64 ((⟨b, 0, none⟩ : Addr).add 1) w fun x1 => ldI .i64 ((⟨b, 0, none⟩ : Addr).add 2) w fun x2 => ldI .i64 ((⟨b, 0, none⟩ : Addr).add 3) w fun x3 => K x0 x1 x2 x3 :=
  ldI_b (i := 0) h.bl rfl (ldI_b (i := 1) h.bl rfl (ldI_b (i := 2) h.bl rfl (ldI_b (i := 3) h.bl rfl hk)))
theorem wav_Parse_l7 {y0 : Option Addr} {n c b2 b4 b5 br ba : Nat} {xs : List Int} {w0 : World} {Kr : Addr → Bool → World → Prop} {R : Rs} (hx : SlI .u8 w0 y0 xs) (hxS : ∀ p, y0 = some p → xs ≠ [] → ¬ (p.block = br ∨ p.block = b5 ∨ p.block = b2)) (hxl : xs.length = n) (hnc : n ≤ c) (hb : By xs) (hn : n ≤ 100000)
    (h4 : Bl 68 w0 b4 [.pointer (some ⟨br, 0, none⟩), .int .i64 (xs.length : Int)]) (d1 : b4 ≠ br) (d2 : b4 ≠ b5) (d3 : b4 ≠ b2) (d4 : br ≠ b5) (d5 : br ≠ b2) (d6 : ba ≠ br) (d7 : ba ≠ b5) (d8 : ba ≠ b2) (d9 : b5 ≠ b2) (lbr : br < w0.heap.size) (lb5 : b5 < w0.heap.size) (lb2 : b2 < w0.heap.size)
    (hk : ∀ w, BlI .i64 26 w b2 (rI R) → Chg (fun j => j = br ∨ j = b5 ∨ j = b2) w0 w → Kr ⟨b2, 0, none⟩ R.2.2.2.2 w) (N : Nat) :
    ∀ (at' : Nat) (has : Bool) (fm ch bits : Nat) (l2 : List Int) (w : World), at' ≤ n → n < 8 * N + at' → pL xs (N + 1) at' has fm ch bits = R → RD 103 w br ba xs at' → l2.length = 4 → BlI .i64 26 w b2 l2 → BlI .i64 26 w b5 [(ch : Int), (bits : Int), 0, 0] → Chg (fun j => j = br ∨ j = b5 ∨ j = b2) w0 w →
      wav_Parse.l7 (N + 1) y0 n c ⟨b2, 0, none⟩ ⟨b4, 0, none⟩ ⟨b5, 0, none⟩ has (fm == 1) w Kr := by
  induction N with
  | zero => intro at' has fm ch bits l2 w h1 h2; omega
  | succ N ih =>
    intro at' has fm ch bits l2 w h1 h2 hR hr hl2 hb2 hb5 hc
    rw [wav_Parse.l7]
    have fail : ∀ w1 l, l.length = 4 → BlI .i64 26 w1 b2 l → Chg (fun j => j = br ∨ j = b5 ∨ j = b2) w0 w1 → R = Z → stCs ⟨b2, 0, none⟩ [(Value.int .i64 0), (Value.int .i64 0), (Value.int .i64 0), (Value.int .i64 0)] 0 w1 fun w => Kr ⟨b2, 0, none⟩ false w := fun w1 l hl h k hZ =>
      stCs4 h hl fun w2 h2 c2 => by
        have := hk w2 (by rw [hZ]; exact h2) (k.trans (c2.mono fun j h => .inr (.inr h)))
        rw [hZ] at this; exact this
    refine wav_next_ok (h4.chg hc (by omega)) d1 hr hb (by omega) (by omega) (fun hlt w1 c1 => ?_) (fun hle w1 hr1 c1 => ?_)
    · have k1 := hc.trans (c1.mono fun j h => .inl h)
      exact bif_t rfl (fail w1 l2 hl2 (hb2.chg c1 (by omega)) k1 (by rw [← hR]; exact pL_end (by omega)))
    · have k1 := hc.trans (c1.mono fun j h => .inl h)
      have hb2 := hb2.chg c1 (by omega)
      have hb5 := hb5.chg c1 (by omega)
      refine bif_f rfl ?_
      have hsz := leA_4 hb (at' + 4)
      rw [pL, if_pos hle] at hR
      generalize hS : leA xs (at' + 4) 4 = size at hsz hR
      generalize hnm : nm4 xs at' = nm at hR
      intro J74
      have h74 : ∀ (has' : Bool) (fm' ch' bits' : Nat) (w2 : World) (l : List Int), pL xs (N + 1) (at' + 8 + size + size % 2) has' fm' ch' bits' = R → RD 103 w2 br ba xs (at' + 8) → l.length = 4 → BlI .i64 26 w2 b2 l → BlI .i64 26 w2 b5 [(ch' : Int), (bits' : Int), 0, 0] → Chg (fun j => j = br ∨ j = b5 ∨ j = b2) w0 w2 → J74 has' (fm' == 1) w2 := by
        intro has' fm' ch' bits' w2 l hR hr hl hb2 hb5 k2
        show wav_chunks_skip.f _ _ _ _ _
        refine wav_skip_ok (h4.chg k2 (by omega)) d1 hr (by omega) (by omega) hsz (fun hlt w3 c3 => bif_t rfl (fail w3 l hl (hb2.chg c3 (by omega)) (k2.trans (c3.mono fun j h => .inl h)) ?_)) (fun hle w3 hr3 c3 => bif_f rfl ?_)
        · rw [← hR]; exact pL_end (by omega)
        · exact ih _ has' fm' ch' bits' l w3 (by omega) (by omega) hR hr3 hl (hb2.chg c3 (by omega)) (hb5.chg c3 (by omega)) (k2.trans (c3.mono fun j h => .inl h))
      clear_value J74
      intro J68
      have h68t : nm = FMT → has = false → 16 ≤ size → at' + 8 + 16 ≤ xs.length → J68 true w1 := by
        intro e1 e2 e3 e4
        rw [if_pos ⟨e1, e2, e3, e4⟩] at hR
        show cond true _ _
        refine bif_t rfl ?_
        have e16 : IntKind.wrap .i64 (((at' + 8 : Nat) : Int) + 16) = ((at' + 8 + 16 : Nat) : Int) := by rw [w64 (by omega) (by omega)]; omega
        rw [e16]
        refine bnd_lohi (by omega) (by omega) (by omega) ?_
        rw [Int.toNat_natCast, Int.toNat_natCast, Nat.add_sub_cancel_left]
        have hx1 := hx.chg k1 hxS
        have hp := hx1.part (l := at' + 8) (h := at' + 8 + 16) (c := c) (by omega) (by omega) (by omega)
        rw [show (xs.take (at' + 8 + 16)).drop (at' + 8) = (xs.drop (at' + 8)).take 16 by rw [List.drop_take]; congr 1; omega] at hp
        have hbp : By ((xs.drop (at' + 8)).take 16) := By.part hb _ _
        have hpl : ((xs.drop (at' + 8)).take 16).length = 16 := by rw [List.length_take, List.length_drop]; omega
        have z1 := k1.size
        refine num_New_ok hp hpl (by omega) (by omega) fun bq w2 hq2 hlt2 c2 => ?_
        refine num_Little_ok (k := 2) hq2 hbp (by omega) (by omega) (by omega) (by omega) fun w3 hq3 c3 => ?_
        dsimp only
        refine num_Little_ok (k := 2) hq3 hbp (by omega) (by omega) (by omega) (by omega) fun w4 hq4 c4 => ?_
        have hb5 := ((hb5.chg c2 id).chg c3 (by omega)).chg c4 (by omega)
        have k4 : Chg no w1 w4 := (c2.then c3 fun k hk h => by omega).then c4 fun k hk h => by omega
        rw [leA_part (by omega), leA_part (by omega)]
        have v2 := leA_2 hb (at' + 8 + (0 + 2))
        have v4 := leA_2 hb (at' + 8 + (0 + 2 + 2 + 10))
        rw [w64n (by omega)]
        refine stC_b (i := 0) hb5.bl (by simp) fun w5 hb5 c5 => ?_
        have hq5 := hq4.chg c5 (show ¬ bq = b5 by omega) (show ¬ w1.heap.size = b5 by omega)
        have z2 := c2.size
        refine num_Raw_ok (k := 10) hq5 (by omega) (by omega) (by omega) fun a6 e6 w6 ho6 hq6 c6 => ?_
        have hb5 := hb5.chg c6 (show ¬ b5 = bq by omega)
        refine num_Little_ok (k := 2) hq6 hbp (by omega) (by omega) (by omega) (by omega) fun w7 hq7 c7 => ?_
        have hb5 := hb5.chg c7 (show ¬ b5 = bq by omega)
        rw [leA_part (by omega), w64n (by omega)]
        refine stC_b (i := 1) hb5 (by simp) fun w8 hb5 c8 => ?_
        have k8 : Chg (fun j => j = b5) w1 w8 := ((((k4.mono fun _ h => h.elim).trans c5).then c6 fun k hk h => by omega).then c7 fun k hk h => by omega).trans c8
        have hb5' : BlI .i64 26 w8 b5 [((leA xs (at' + 8 + (0 + 2)) 2 : Nat) : Int), ((leA xs (at' + 8 + (0 + 2 + 2 + 10)) 2 : Nat) : Int), 0, 0] := hb5
        have ep : (((leA xs (at' + 8 + 0) 2 : Nat) : Int) == 1) = (leA xs (at' + 8) 2 == 1) := by
          rw [Nat.add_zero]
          generalize leA xs (at' + 8) 2 = q
          by_cases h : q = 1
          · subst h; rfl
          · have h1 : (q == 1) = false := by simpa using h
            have h2 : ((q : Int) == 1) = false := by simp; omega
            rw [h1, h2]
        rw [ep]
        exact h74 true _ _ _ w8 l2 hR (hr1.chg k8 (by omega) (by omega)) hl2 (hb2.chg k8 (by omega)) hb5' (k1.trans (k8.mono fun j h => .inr (.inl h)))
      have h68f : ¬ (nm = FMT ∧ has = false ∧ 16 ≤ size ∧ at' + 8 + 16 ≤ xs.length) → J68 false w1 := by
        intro hno
        rw [if_neg hno] at hR
        show cond false _ _
        refine bif_f rfl ?_
        intro J67
        have h67f : ¬ (nm = DATA ∧ has = true) → J67 false w1 := fun hnd => by
          rw [if_neg hnd] at hR
          exact h74 has fm ch bits w1 l2 hR hr1 hl2 hb2 hb5 k1
        have h67t : nm = DATA → has = true → J67 true w1 := by
          intro e1 e2
          rw [if_pos ⟨e1, e2⟩] at hR
          refine ld4i hb5 (wav_frame_ok fun w2 c2 => ?_)
          have k2 := k1.trans (c2.mono fun _ h => h.elim)
          have hb2 := hb2.chg c2 id
          have hb5 := hb5.chg c2 id
          unfold fin at hR
          generalize hF : fr (ch : Int) (bits : Int) = F at hR
          have hFb : F ≤ 16 := by
            rw [← hF]; unfold fr
            split
            · split <;> omega
            · omega
          have emn : mn ((at' + 8 + size : Nat) : Int) ((n : Nat) : Int) = ((at' + 8 + min size (xs.length - (at' + 8)) : Nat) : Int) := by
            have := mn_bd ((at' + 8 + size : Nat) : Int) ((n : Nat) : Int)
            omega
          have emn2 : IntKind.wrap .i64 (((at' + 8 + min size (xs.length - (at' + 8)) : Nat) : Int) - ((at' + 8 : Nat) : Int)) = ((min size (xs.length - (at' + 8)) : Nat) : Int) := by
            rw [w64 (by omega) (by omega)]; omega
          intro J60
          have h60t : R = Z → J60 true w2 := fun hZ => fail w2 l2 hl2 hb2 k2 hZ
          have h60f : fm = 1 → F ≠ 0 → ¬ min size (xs.length - (at' + 8)) < F → J60 false w2 := by
            intro g1 g2 g3
            rw [if_neg (show ¬ (fm ≠ 1 ∨ F = 0 ∨ min size (xs.length - (at' + 8)) < F) by omega)] at hR
            show if (F : Int) = 0 then _ else _
            refine ifn_of (by omega) ?_
            have hb5d : Bl 26 w2.drew b5 _ := hb5.bl
            refine stC_b (i := 2) hb5d (by simp) fun w3 hb53 c3 => stC_b (i := 3) hb53 (by simp) fun w4 hb54 c4 => ?_
            have em : IntKind.wrap .i64 (((at' + 8 : Nat) : Int) + IntKind.wrap .i64 (IntKind.wrap .i64 (Int.tdiv (IntKind.wrap .i64 (mn ((at' + 8 + size : Nat) : Int) ((n : Nat) : Int) - ((at' + 8 : Nat) : Int))) (F : Int)) * (F : Int))) = ((at' + 8 + min size (xs.length - (at' + 8)) / F * F : Nat) : Int) := by
              rw [emn, emn2]
              generalize hq : min size (xs.length - (at' + 8)) = q
              have hdq : q / F ≤ q := Nat.div_le_self _ _
              have hdm : q / F * F ≤ q := Nat.div_mul_le_self _ _
              rw [show Int.tdiv (q : Int) (F : Int) = ((q / F : Nat) : Int) from rfl, w64n (by omega), show ((q / F : Nat) : Int) * (F : Int) = ((q / F * F : Nat) : Int) by rw [Int.natCast_mul], w64n (by omega)]
              rw [w64 (by omega) (by omega)]; omega
            have hb54' : BlI .i64 26 w4 b5 [(ch : Int), (bits : Int), ((at' + 8 : Nat) : Int), ((at' + 8 + min size (xs.length - (at' + 8)) / F * F : Nat) : Int)] := by
              rw [← em]; exact hb54
            have k4 : Chg (fun j => j = b5) w2 w4 := ((Chg.drew _ w2).trans c3).trans c4
            refine ld4i hb54' (stCs4 (hb2.chg k4 (by omega)) hl2 fun w5 hb25 c5 => ?_)
            have := hk w5 (by rw [← hR]; exact hb25) ((k2.trans (k4.mono fun j h => .inr (.inl h))).trans (c5.mono fun j h => .inr (.inr h)))
            rw [← hR] at this; exact this
          clear_value J60
          refine cond_of (fun h => h60t ?_) fun h => cond_of (fun h' => h60t ?_) fun h' => ?_
          · have : fm ≠ 1 := by simpa using h
            rw [← hR, if_pos (.inl this)]
          · have : F = 0 := by simpa using h'
            rw [← hR, if_pos (.inr (.inl this))]
          · have e1 : fm = 1 := by simpa using h
            have e2 : F ≠ 0 := by simpa using h'
            have e3 : (decide (IntKind.wrap .i64 (mn ((at' + 8 + size : Nat) : Int) ((n : Nat) : Int) - ((at' + 8 : Nat) : Int)) < (F : Int))) = decide (min size (xs.length - (at' + 8)) < F) := by
              rw [emn, emn2]; exact decide_eq_decide.2 (by omega)
            rw [e3]
            by_cases g : min size (xs.length - (at' + 8)) < F
            · rw [decide_eq_true g]; exact h60t (by rw [← hR, if_pos (.inr (.inr g))])
            · rw [decide_eq_false g]; exact h60f e1 e2 g
        clear_value J67
        rw [sEq]
        refine cond_of (fun h => ?_) fun h => ?_
        · have e1 : nm = DATA := eq_of_beq h
          cases hh : has
          · exact h67f fun g => by rw [hh] at g; exact absurd g.2 (by decide)
          · exact h67t e1 hh
        · exact h67f fun g => by
            exact absurd (beq_iff_eq.2 g.1) (by rw [show DATA = (#[100, 97, 116, 97] : Array UInt8).toList from rfl, h]; decide)
      clear_value J68
      rw [sEq]
      refine cond_of (fun h => ?_) fun h => ?_
      · have e1 : nm = FMT := eq_of_beq h
        refine cond_of (fun h2 => ?_) fun h2 => ?_
        · have e2 : has = false := by simpa using h2
          have e16 : IntKind.wrap .i64 (((at' + 8 : Nat) : Int) + 16) = ((at' + 8 + 16 : Nat) : Int) := by rw [w64 (by omega) (by omega)]; omega
          have es : IntKind.wrap .i64 (((at' + 8 + size : Nat) : Int) - ((at' + 8 : Nat) : Int)) = (size : Int) := by rw [w64 (by omega) (by omega)]; omega
          rw [e16, es]
          refine cond_of (fun h3 => ?_) fun h3 => ?_
          · have e3 : 16 ≤ size := by have := of_decide_eq_true h3; omega
            dsimp only
            by_cases g : at' + 8 + 16 ≤ xs.length
            · rw [decide_eq_true (by omega)]; exact h68t e1 e2 e3 g
            · rw [decide_eq_false (by omega)]; exact h68f fun q => g q.2.2.2
          · exact h68f fun q => by have := of_decide_eq_false h3; omega
        · have e2 : has = true := by simpa using h2
          exact h68f fun q => by rw [e2] at q; exact absurd q.2.1 (by decide)
      · exact h68f fun q => absurd (beq_iff_eq.2 q.1) (by rw [show FMT = (#[102, 109, 116, 32] : Array UInt8).toList from rfl, h]; decide)
def RIFF : List UInt8 := [82, 73, 70, 70]
def WAVE : List UInt8 := [87, 65, 86, 69]
/-- Where the samples are. -/
def pP (xs : List Int) : Rs := if xs.length < 12 ∨ nm4 xs 0 ≠ RIFF ∨ nm4 xs 8 ≠ WAVE then Z else pL xs (xs.length + 1) 12 false 0 0 0
theorem wav_Parse_ok {x : Option Addr} {n c : Nat} {xs : List Int} {w : World} {K : Int → Int → Int → Int → Bool → World → Prop} (hx : SlI .u8 w x xs) (hxl : xs.length = n) (hnc : n ≤ c) (hb : By xs) (hn : n ≤ 100000)
    (hk : ∀ w', Chg no w w' → K (pP xs).1 (pP xs).2.1 (pP xs).2.2.1 (pP xs).2.2.2.1 (pP xs).2.2.2.2 w') : wav_Parse.f x n c w K := by
  unfold wav_Parse.f
  refine newC_i (k := .i64) (xs := [0, 0, 0, 0]) rfl fun w1 hb2 c1 s1 => ?_
  have hx1 := hx.chg c1 fun _ _ _ h => h
  intro J
  have hJt : (xs.length < 12 ∨ nm4 xs 0 ≠ RIFF ∨ nm4 xs 8 ≠ WAVE) → J true w1 := fun h => by
    show cond true _ _
    refine bif_t rfl (stCs4 hb2 rfl fun w2 h2 c2 => ld4i h2 ?_)
    have := hk w2 (c1.then c2 fun k hk h => by omega)
    rw [pP, if_pos h] at this; exact this
  have hJf : ¬ (xs.length < 12 ∨ nm4 xs 0 ≠ RIFF ∨ nm4 xs 8 ≠ WAVE) → J false w1 := fun h => by
    have hP : pL xs (xs.length + 1) 12 false 0 0 0 = pP xs := by rw [pP, if_neg h]
    have h12 : ¬ xs.length < 12 := fun g => h (.inl g)
    show cond false _ _
    refine bif_f rfl (num_New_ok hx1 hxl (by omega) (by omega) fun br w2 hr hlt c2 => newC_b fun w3 h4 c3 s3 => ?_)
    have lbr := hr.lt
    have z2 := c2.size
    refine ldP_b (i := 0) h4 rfl (num_Raw_ok (k := 12) (hr.chg c3 id id) (by omega) (by omega) (by omega) fun a4 d4 w4 ho4 hr4 c4 => ?_)
    have z4 := c4.size
    have h4 := h4.chg c4 (show ¬ w2.heap.size = br by omega)
    refine newC_i (k := .i64) (xs := [0, 0, 0, 0]) rfl fun w5 hb5 c5 s5 => ?_
    have k5 : Chg no w1 w5 := ((c2.trans c3).then c4 fun k hk h => by omega).trans c5
    refine ⟨n + 1, ?_⟩
    subst hxl
    refine wav_Parse_l7 (w0 := w5) (R := pP xs) (hx1.chg k5 fun _ _ _ h => h) ?_ rfl hnc hb hn (h4.chg c5 id) (show w2.heap.size ≠ br by omega) (show w2.heap.size ≠ w4.heap.size by omega) (show w2.heap.size ≠ w.heap.size by omega) (by omega) (by omega) (show w1.heap.size ≠ br by omega) (by omega) (by omega) (by omega) (by omega) (by omega) (by omega) (fun w6 h6 c6 => ?_) xs.length 12 false 0 0 0 _ w5 (by omega) (by omega) hP (hr4.chg c5 id id) rfl (hb2.chg k5 id) hb5 (Chg.refl _ _)
    · intro p hp hne
      have := old3 hx p hp hne
      omega
    · refine ld4i h6 (hk w6 ?_)
      exact (c1.trans k5).then c6 fun k hk h => by omega
  clear_value J
  refine cond_of (fun h => hJt (.inl (by have := of_decide_eq_true h; omega))) fun h => ?_
  have h12 : 12 ≤ xs.length := by have := of_decide_eq_false h; omega
  refine bnd_hi (by omega) (by omega) ?_
  have p1 := hx1.part (l := 0) (h := 4) (c := c) (by omega) (by omega) (by omega)
  refine strL_of p1 (SlI.part_len (by omega)) ?_
  have e1 : ((xs.take 4).drop 0).map (fun n => UInt8.ofNat n.toNat) = nm4 xs 0 := by unfold nm4; rw [List.drop_zero, List.drop_zero]
  rw [e1, sEq]
  refine cond_of (fun h => hJt ?_) fun h => ?_
  · refine .inr (.inl fun g => ?_)
    rw [g] at h; exact absurd h (by decide)
  · have g1 : nm4 xs 0 = RIFF := by
      have : (nm4 xs 0 == (#[82, 73, 70, 70] : Array UInt8).toList) = true := by simpa using h
      exact eq_of_beq this
    refine bnd_lohi (by omega) (by omega) (by omega) ?_
    have p2 := hx1.part (l := 8) (h := 12) (c := c) (by omega) (by omega) (by omega)
    refine strL_of p2 (SlI.part_len (by omega)) ?_
    have e2 : ((xs.take 12).drop 8).map (fun n => UInt8.ofNat n.toNat) = nm4 xs 8 := by unfold nm4; rw [List.drop_take]
    rw [e2, sEq]
    by_cases g2 : nm4 xs 8 = WAVE
    · rw [g2]
      exact hJf fun h => by
        rcases h with h | h | h
        · omega
        · exact h g1
        · exact h g2
    · have : (nm4 xs 8 == (#[87, 65, 86, 69] : Array UInt8).toList) = false := by simpa [WAVE] using g2
      rw [this]; exact hJt (.inr (.inr g2))
end Go.Proofs.Ytinmhmphidgdeaa.G
