/- Mixing and learning in any script: both mixers say the same. -/
import Derived.Test.YtplepdjcgojagaaKe
set_option linter.unusedVariables false
set_option linter.unusedSimpArgs false
namespace Go.Proofs.Ytplepdjcgojagaa.G
open Go Go.Proofs.Ytplepdjcgojagaa.Vm Go.RowKit
theorem tab_get2 {k : IntKind} {e eo : TypeId} {S : Nat → Prop} {w : World} {a : Option Addr} {n c i : Nat} {bs : List Nat} {L : List (List Int)} {x : Int} {l : List Int} {K : Addr → Option Addr → Nat → Nat → Prop} (h : TabR k e eo S w a n c bs L)
    (hx : x = i) (hl : L[i]? = some l) (hk : ∀ p b c', bs[i]? = some b → w.cell? (p.add i) = some (.slice (some ⟨b, 0, none⟩) l.length c') → K p (some ⟨b, 0, none⟩) l.length c') : sm a fun p => if 0 ≤ x ∧ x < (n : Int) then ldL (p.add x.toNat) w (K p) else False := by
  obtain ⟨hs, ho, h1, h2⟩ := h.head
  have hi : i < n := by rw [h.size]; exact (List.getElem?_eq_some_iff.1 hl).1
  have hg : hs[i]? = some (hs[i]'(by omega)) := List.getElem?_eq_getElem _
  have hb : bs[i]? = some (bs[i]'(by rw [h.len, ← h.size]; exact hi)) := List.getElem?_eq_getElem _
  obtain ⟨p, rfl, hc⟩ := ho.cell (i := i) (v := Hdr.v (hs[i]'(by omega))) (by rw [List.getElem?_map, hg]; rfl)
  have := h2 i _ _ l hg hb hl
  subst hx
  refine sm_some (if_of ⟨by omega, by omega⟩ ?_)
  rw [show Int.toNat (i : Int) = i by omega]
  refine ldL_of hc ?_
  unfold Hdr.v at hc
  rw [this.1, this.2] at hc ⊢
  exact hk p _ _ hb hc
theorem fits_op {w : World} {l : List Value} (h : Fits w (.st (.pair 1 (.int .i64) (.pair 1 (.int .i64) (.pair 1 (.slc (.int .i64) 1 8) .unit)))) l) (hl : l.length = 3) :
    ∃ a b p n c, l = [.int .i64 a, .int .i64 b, .slice p n c] ∧ n ≤ c ∧ c * 8 ≤ 140737488351232 ∧ ∃ xs : List Int, xs.length = n ∧ SlI .i64 w p xs := by
  obtain ⟨⟨a, h1, _⟩, ⟨b, h2, _⟩, h3, _⟩ := h
  match l, hl with
  | [x, y, z], _ =>
    simp at h1 h2
    subst h1 h2
    have h3' := h3
    obtain ⟨p, n, c, he, hnc, hc8, _⟩ := h3
    simp at he
    subst he
    obtain ⟨q1, q2, xs, hxl, hx, _⟩ := Fits.ints (w := w) (k := .i64) (by' := 8) (a := p) (n := n) (c := c) h3'
    exact ⟨a, b, p, n, c, rfl, q1, q2, xs, hxl, hx⟩
/-- Both mixers are in one state. -/
structure Mix2 (W w : World) (S T : Nat → Prop) (b1 b2 : Nat) (s : Mst) : Prop where
  a : MS w S b1 s
  b : MR w T b2 s
  dis : Dis S T w
  lo1 : ∀ x, S x → W.heap.size ≤ x
  lo2 : ∀ x, T x → W.heap.size ≤ x
  bel : Below W.heap.size W w
theorem fill_l15 {w0 : World} {y1 y5 y6 : Option Addr} {n1 c1 : Nat} {y7 : Int} {y8 : Addr} {bo n c : Nat} {K2 : Option Addr → Nat → Nat → Option Addr → Option Addr → Int → Addr → World → Prop} (hk : ∀ w, Chg (fun j => j = bo) w0 w → K2 y1 n1 c1 y5 y6 y7 y8 w) (hn : n < 4611686018427387904) (N : Nat) :
    ∀ (i : Nat) (xs : List Int) (w : World), i ≤ n → n - i < N → n ≤ xs.length → BlI .i64 3 w bo xs → Chg (fun j => j = bo) w0 w → law06_MixPlays.l15 N y1 n1 c1 y5 y6 y7 y8 (some ⟨bo, 0, none⟩) n c n i w K2 := by
  induction N with
  | zero => intro i xs w h1 h2; omega
  | succ N ih =>
    intro i xs w h1 h2 hl hb hc
    rw [law06_MixPlays.l15]
    by_cases hlt : i < n
    · refine bif_t (dec_t (by omega)) (wrB hb i rfl (by omega) hlt fun _ w1 hb1 hc1 => ?_)
      rw [inc (by omega)]
      exact ih (i + 1) _ w1 (by omega) (by omega) (by rw [List.length_set]; exact hl) hb1 (hc.trans hc1)
    · exact bif_f (dec_f (by omega)) (hk w hc)
theorem fill_l26 {w0 : World} {y1 y5 y6 : Option Addr} {n1 c1 : Nat} {y7 : Int} {y8 : Addr} {bo n c : Nat} {K2 : Option Addr → Nat → Nat → Option Addr → Option Addr → Int → Addr → World → Prop} (hk : ∀ w, Chg (fun j => j = bo) w0 w → K2 y1 n1 c1 y5 y6 y7 y8 w) (hn : n < 4611686018427387904) (N : Nat) :
    ∀ (i : Nat) (xs : List Int) (w : World), i ≤ n → n - i < N → n ≤ xs.length → BlI .i64 74 w bo xs → Chg (fun j => j = bo) w0 w → law06_MixPlays.l26 N y1 n1 c1 y5 y6 y7 y8 (some ⟨bo, 0, none⟩) n c n i w K2 := by
  induction N with
  | zero => intro i xs w h1 h2; omega
  | succ N ih =>
    intro i xs w h1 h2 hl hb hc
    rw [law06_MixPlays.l26]
    by_cases hlt : i < n
    · refine bif_t (dec_t (by omega)) (wrB hb i rfl (by omega) hlt fun _ w1 hb1 hc1 => ?_)
      rw [inc (by omega)]
      exact ih (i + 1) _ w1 (by omega) (by omega) (by rw [List.length_set]; exact hl) hb1 (hc.trans hc1)
    · exact bif_f (dec_f (by omega)) (hk w hc)
theorem gr_lo2 {lo : Nat} {w w' : World} {S : Nat → Prop} (h : ∀ x, S x → lo ≤ x) (hw : lo ≤ w.heap.size) : ∀ x, gr S w w' x → lo ≤ x := fun x hx => hx.elim (h x) fun hx => by omega
theorem learn_len (s : Mst) (b : Int) : (s.learn b).W.length = s.W.length ∧ (s.learn b).set = s.set := by
  unfold Mst.learn; split <;> simp
set_option maxRecDepth 20000 in
theorem law06_MixPlays_l7 {W : World} {x : Option Addr} {n c b1 b2 : Nat} {L : List (List Value)} {K0 : World → Prop} {Kr : Bool → World → Prop} (hL : L.length = n) (hR : SlR 3 W x L) (hF : ∀ l ∈ L, Fits W (.st (.pair 1 (.int .i64) (.pair 1 (.int .i64) (.pair 1 (.slc (.int .i64) 1 8) .unit)))) l)
    (hk : ∀ w, Below W.heap.size W w → K0 w) (N : Nat) :
    ∀ (i : Nat) (S T : Nat → Prop) (s : Mst) (w : World), i ≤ 200 → 200 - i < N → Mix2 W w S T b1 b2 s → law06_MixPlays.l7 N x n c (some ⟨b1, 0, none⟩) (some ⟨b2, 0, none⟩) i w K0 Kr := by
  induction N with
  | zero => intro i S T s w h1 h2; omega
  | succ N ih =>
    intro i S T s w hi hN hM
    rw [law06_MixPlays.l7]
    have fin := hk w hM.bel
    have hsz := hM.bel.size
    refine cond_of (fun hh1 => cond_of (fun hh2 => ?_) (fun _ => fin)) (fun _ => fin)
    have hlt : i < n := by have := of_decide_eq_true hh1; omega
    have hlt2 : i < 200 := by have := of_decide_eq_true hh2; omega
    have hiL : i < L.length := by omega
    obtain ⟨q, hq, hl3, hc3⟩ := hR i hiL
    obtain ⟨oa, ob, op, on, oc, hl, hnc, hc8, xs, hxl, hx⟩ := fits_op (hF _ (List.getElem_mem hiL)) hl3
    subst hq
    have cell := fun (w' : World) (hB : Below W.heap.size W w') (j : Nat) (v : Value) (hv : L[i][j]? = some v) => below_cell hB (hc3 j v hv)
    refine sm_some (if_of ⟨by omega, by omega⟩ ?_)
    rw [Int.toNat_natCast]
    refine ldI_of (cell w hM.bel 0 (.int .i64 oa) (by rw [hl]; rfl)) (ldI_of (cell w hM.bel 1 (.int .i64 ob) (by rw [hl]; rfl)) (ldL_of (cell w hM.bel 2 (.slice op on oc) (by rw [hl]; rfl)) ?_))
    refine newC_b fun w1 hb1 hc1 hs1 => stCs_b (m := [(Value.int .i64 oa), (Value.int .i64 ob), (Value.slice op on oc)]) hb1 (by simp [one]) rfl fun w2 hb2 hc2 => ?_
    have k2 : Chg no w w2 := hc1.then hc2 fun k hk h => by omega
    have hz2 := k2.size
    have hb2lt := hb2.lt
    have M2 : Mix2 W w2 S T b1 b2 s := ⟨hM.a.chg k2 fun _ _ h => h, hM.b.chg k2 fun _ _ h => h, hM.dis.size hz2, hM.lo1, hM.lo2, below_no hM.bel k2 hsz⟩
    refine ldL_b (i := 2) hb2 rfl (cond_of (fun _ => ?_) (fun hn20 => ?_))
    · dsimp only
      rw [inc (by omega)]
      exact ih (i + 1) S T s w2 (by omega) (by omega) M2
    have hon : on ≤ 20 := by have := of_decide_eq_false hn20; omega
    refine ldL_b (i := 2) hb2 rfl (help_Own_int_ok (hx.below M2.bel) hxl (by omega) fun w3 hb3 hc3' => ?_)
    have hz3 := hc3'.size
    have hb3lt := hb3.bl.lt
    have hb23 := hb2.chg hc3' fun h => h
    have M3 : Mix2 W w3 S T b1 b2 s := ⟨M2.a.chg hc3' fun _ _ h => h, M2.b.chg hc3' fun _ _ h => h, M2.dis.size hz3, hM.lo1, hM.lo2, below_no M2.bel hc3' (by omega)⟩
    -- blocks of the script's copies are none of the mixers' own
    have nS8 : ¬ S w.heap.size := fun h => by have := hM.dis.a _ h; omega
    have nT8 : ¬ T w.heap.size := fun h => by have := hM.dis.b _ h; omega
    have nSo : ¬ S w2.heap.size := fun h => by have := M2.dis.a _ h; omega
    have nTo : ¬ T w2.heap.size := fun h => by have := M2.dis.b _ h; omega
    have hb3d : Bl 57 w3.drew w.heap.size [(Value.int .i64 oa), (Value.int .i64 ob), (Value.slice op on oc)] := hb23
    refine ldI_b (i := 0) hb3d rfl (ldI_b (i := 0) hb3d rfl (ldL_b (i := 2) hb3d rfl ?_))
    have in3 : SlI .i64 w3.drew (some ⟨w2.heap.size, 0, none⟩) xs := BlI.pre_int hb3
    refine mix_Mix_ok (w := w3.drew) (M3.a.chg (Chg.drew no w3) fun _ _ h => h) in3 (fun p hp _ => by cases hp; exact nSo) hxl fun w4 hM4 hc4 => ?_
    have hz4 : w3.heap.size ≤ w4.heap.size := hc4.size
    have B3d := below_no M3.bel (Chg.drew no w3) M3.bel.size
    have B4 := below_chg B3d hc4 M3.bel.size hM.lo1
    have hb4 := hb3d.chg hc4 nS8
    refine ⟨hb4.cell (i := 2) rfl, hb4.cell (i := 0) rfl, ?_⟩
    have R4 : MR w4 T b2 s := (M3.b.chg (Chg.drew no w3) fun _ _ h => h).chg hc4 fun b hb hs => hM.dis.ab b hs hb
    have D4 : Dis S T w4 := M3.dis.size hz4
    have xold : ∀ p, op = some p → xs ≠ [] → ¬ T p.block := fun p hp hne h => by
      have := old_lt hx p hp hne; have := hM.lo2 _ h; omega
    refine ref06_Mix_ok R4 D4.b (hx.below B4) xold hxl fun w5 hM5 hc5 => bif_f (by simp) ?_
    have hz5 := hc5.size
    have hTb2 : T b2 := R4.inS
    have B5 := below_chg B4 hc5 (by have := M3.bel.size; omega) fun b hb => by subst hb; exact hM.lo2 _ hTb2
    have hb5 := hb4.chg hc5 fun h => by rw [h] at nT8; exact nT8 hTb2
    have D5 : Dis S (gr T w4 w5) w5 := (D4.swap.grow hz5).swap
    have M5a := hM4.chg hc5 fun b hb e => hM.dis.ab b hb (by rw [e]; exact hTb2)
    have hb35 := ((hb3.chg (Chg.drew no w3) fun h => h).chg hc4 nSo).chg hc5 fun h => by rw [h] at nTo; exact nTo hTb2
    refine ldL_b (i := 2) hb5 rfl (help_Kept_int_ok hb35 (hx.below B5) hxl (by omega) fun w6 hc6 => bif_f rfl ⟨on + 1, ?_⟩)
    have hz6 := hc6.size
    have T' : ∀ b, gr T w4 w5 b → b ≠ w.heap.size ∧ b ≠ w2.heap.size := fun b hb => by
      rcases hb with hb | hb
      · exact ⟨fun e => nT8 (e ▸ hb), fun e => nTo (e ▸ hb)⟩
      · exact ⟨by omega, by omega⟩
    refine fill_l15 (w0 := w6) (bo := w2.heap.size) (fun w7 hc7 => ?_) (by omega) (on + 1) 0 _ w6 (by omega) (by omega) (by rw [List.length_append]; omega) (hb35.chg hc6 fun h => h) (Chg.refl _ _)
    have hz7 := hc7.size
    have hb7 := (hb5.chg hc6 fun h => h).chg hc7 fun h => by omega
    have M7 : Mix2 W w7 S (gr T w4 w5) b1 b2 (s.mix oa xs) := ⟨(M5a.chg hc6 fun _ _ h => h).chg hc7 fun b hb e => nSo (e ▸ hb), (hM5.chg hc6 fun _ _ h => h).chg hc7 fun b hb e => (T' b hb).2 e, D5.size (by omega), hM.lo1, gr_lo2 hM.lo2 (by have := M3.bel.size; omega), below_chg (below_no B5 hc6 (by have := B5.size; omega)) hc7 (by have := B5.size; omega) fun b hb => by have := M2.bel.size; omega⟩
    -- what comes behind the learning
    have rest : ∀ (z8 : Nat) (s' : Mst) (w8 : World), z8 = w.heap.size → s'.W.length = s.W.length → s'.set = (s.mix oa xs).set → Mix2 W w8 S (gr T w4 w5) b1 b2 s' → Bl 57 w8 z8 [(Value.int .i64 oa), (Value.int .i64 ob), (Value.slice op on oc)] →
      (ldI .i64 (⟨z8, 0, none⟩ : Addr) w8 fun x92_64 =>
                  mix_Mixer_Weights.f (some ⟨b1, 0, none⟩) x92_64 w8 fun r93_65 r93_65n r93_65c w =>
                  sm (some (⟨b2, 0, none⟩ : Addr)) fun p_68 =>
                  ldL p_68 w.drew fun x98_69 x98_69n x98_69c =>
                  sm (some (⟨b2, 0, none⟩ : Addr)) fun p_70 =>
                  ldI .i64 (p_70.add 2) w.drew fun x102_71 =>
                  sm x98_69 fun p_72 =>
                  if 0 ≤ (x102_71 : Int) ∧ (x102_71 : Int) < ((x98_69n : Nat) : Int) then
                  ldL (p_72.add (Int.toNat x102_71)) w.drew fun x104_73 x104_73n x104_73c =>
                  help_Plain_int.f r93_65 r93_65n r93_65c x104_73 x104_73n x104_73c w.drew fun r105_74 w =>
                  (World.cell? w (p_70.add 2) = some (.int .i64 x102_71)) ∧
                  ((World.cell? w p_68 = some (.slice x98_69 x98_69n x98_69c)) ∧
                  (bif (!r105_74) then
                    Kr false w
                  else
                    ∃ N_83 : Nat, law06_MixPlays.l26 N_83 (some q) n c (some ⟨b1, 0, none⟩) (some ⟨b2, 0, none⟩) i (⟨z8, 0, none⟩ : Addr) r93_65 r93_65n r93_65c ((r93_65n : Nat) : Int) 0 w
                    (fun o1_84 o1_84n o1_84c o5_85 o6_86 o7_87 o8_88 w =>
                      ldI .i64 o8_88 w.drew fun x118_90 =>
                      sm o6_86 fun p_91 =>
                      ldL p_91 w.drew fun x123_92 x123_92n x123_92c =>
                      sm o6_86 fun p_93 =>
                      ldI .i64 (p_93.add 2) w.drew fun x127_94 =>
                      sm x123_92 fun p_95 =>
                      if 0 ≤ (x127_94 : Int) ∧ (x127_94 : Int) < ((x123_92n : Nat) : Int) then
                      ldL (p_95.add (Int.toNat x127_94)) w.drew fun x129_96 x129_96n x129_96c =>
                      mix_Mixer_Weights.f o5_85 x118_90 w.drew fun r119_97 r119_97n r119_97c w =>
                      (World.cell? w (p_95.add (Int.toNat x127_94)) = some (.slice x129_96 x129_96n x129_96c)) ∧
                      ((World.cell? w (p_93.add 2) = some (.int .i64 x127_94)) ∧
                      ((World.cell? w p_91 = some (.slice x123_92 x123_92n x123_92c)) ∧
                      (help_Plain_int.f r119_97 r119_97n r119_97c x129_96 x129_96n x129_96c w fun r130_98 w =>
                      (World.cell? w (p_93.add 2) = some (.int .i64 x127_94)) ∧
                      ((World.cell? w p_91 = some (.slice x123_92 x123_92n x123_92c)) ∧
                      (bif (!r130_98) then
                        Kr false w
                      else
                        law06_MixPlays.l7 N o1_84 o1_84n o1_84c o5_85 o6_86 (IntKind.wrap .i64 (o7_87 + 1)) w K0 Kr)))))
                      else False)))
                  else False) := by
      intro z8 s' w8 hz8 hlen hset M8 hb8
      have eset : mPlace s'.W.length oa = s'.set := by rw [hset, hlen]; rfl
      have hb8lt := hb8.lt
      refine ldI_b (i := 0) hb8 rfl (mix_Weights_ok M8.a fun bw w9 hbw hb9 hc9 => sm_some ?_)
      rw [eset] at hb9
      obtain ⟨ok, h1, A, B, sa, sc, bs, ia, il, ic, hA, hB, h2, h3, h4⟩ := M8.b
      have hrow := ok.row ok.set
      have kd9 : Chg no w8 w9.drew := hc9.trans (Chg.drew no w9)
      have h2d := h2.chg kd9 fun h => h
      have h3d := h3.chg kd9 fun _ _ h => h
      refine ldL_b (i := 0) h2d rfl (sm_some (ldI_b (i := 2) h2d rfl ?_))
      refine TabR.get h3d rfl (rowD ok.set) fun _ b c' hbs => ?_
      rw [hrow]
      have hb9d : BlI .i64 74 w9.drew bw (s'.W.getD s'.set []) := hb9
      refine help_Plain_int_ok (w := w9.drew) (BlI.sl hb9d) (h3d.blk hbs (rowD ok.set)) hrow hrow (by omega) fun w10 hc10 => ⟨(h2d.chg hc10 fun h => h).cell (i := 2) rfl, (h2d.chg hc10 fun h => h).cell (i := 0) rfl, bif_f rfl ⟨5, ?_⟩⟩
      have k10 := kd9.trans hc10
      refine fill_l26 (w0 := w10) (bo := bw) (fun w11 hc11 => ?_) (by omega) 5 0 _ w10 (by omega) (by omega) (by rw [hrow]; exact Nat.le_refl _) (hb9d.chg hc10 fun h => h) (Chg.refl _ _)
      have hz10 := k10.size; have hz11 := hc11.size
      have k11 : Chg (fun j => j = bw) w8 w11.drew := ((k10.mono fun _ h => h.elim).trans hc11).trans (Chg.drew _ w11)
      have hne : ∀ y, y < w8.heap.size → ¬ y = bw := fun y hy e => by omega
      have hb11 := hb8.chg k11 (hne _ hb8lt)
      have hd := M8.dis
      have R11 : MR w11.drew (gr T w4 w5) b2 s' := MR.chg ⟨ok, h1, A, B, sa, sc, bs, ia, il, ic, hA, hB, h2, h3, h4⟩ k11 fun y hy => hne y (hd.b y hy)
      have S11 : MS w11.drew S b1 s' := M8.a.chg k11 fun y hy => hne y (hd.a y hy)
      have h211 := h2.chg k11 (hne _ h2.lt)
      have h311 := h3.chg k11 fun y hy => hne y (hd.b y (hA y hy).1)
      refine ldI_b (i := 0) hb11 rfl (sm_some (ldL_b (i := 0) h211 rfl (sm_some (ldI_b (i := 2) h211 rfl ?_))))
      refine tab_get2 h311 rfl (rowD ok.set) fun p b' c'' hbs' hcell => ?_
      rw [hrow] at hcell ⊢
      have hz11d : w8.heap.size ≤ w11.drew.heap.size := k11.size
      refine mix_Weights_ok S11 fun bw2 w12 hbw2 hb12 hc12 => ?_
      rw [eset] at hb12
      have h212 := h211.chg hc12 fun h => h
      have h312 := h311.chg hc12 fun _ _ h => h
      rw [Int.toNat_natCast]
      refine ⟨chg_cell hc12 hcell fun h => h, h212.cell (i := 2) rfl, h212.cell (i := 0) rfl, ?_⟩
      refine help_Plain_int_ok (BlI.sl hb12) (h312.blk hbs' (rowD ok.set)) hrow hrow (by omega) fun w13 hc13 => ⟨(h212.chg hc13 fun h => h).cell (i := 2) rfl, (h212.chg hc13 fun h => h).cell (i := 0) rfl, bif_f rfl ?_⟩
      have k13 : Chg (fun j => j = bw) w8 w13 := k11.trans ((hc12.trans hc13).mono fun _ h => h.elim)
      have hz8W := M8.bel.size
      rw [inc (by omega)]
      exact ih (i + 1) S (gr T w4 w5) s' w13 (by omega) (by omega) ⟨M8.a.chg k13 fun y hy => hne y (hd.a y hy), MR.chg ⟨ok, h1, A, B, sa, sc, bs, ia, il, ic, hA, hB, h2, h3, h4⟩ k13 fun y hy => hne y (hd.b y hy), hd.size k13.size, M8.lo1, M8.lo2, below_chg M8.bel k13 hz8W fun y hy => by omega⟩
    have lrn : ∀ w8 : World, MS w8 S b1 ((s.mix oa xs).learn ob) → Chg S w7 w8 → ∀ w9 : World, MR w9 (gr T w4 w5) b2 ((s.mix oa xs).learn ob) → Chg (gr T w4 w5) w8 w9 → Mix2 W w9 S (gr T w4 w5) b1 b2 ((s.mix oa xs).learn ob) ∧ Bl 57 w9 w.heap.size [(Value.int .i64 oa), (Value.int .i64 ob), (Value.slice op on oc)] := by
      intro w8 hM8 hc8 w9 hM9 hc9
      have hz8 := hc8.size; have hz9 := hc9.size
      have h7 := M7.bel.size
      exact ⟨⟨hM8.chg hc9 fun y hy ht => M7.dis.ab y hy ht, hM9, M7.dis.size (by omega), M7.lo1, M7.lo2, below_chg (below_chg M7.bel hc8 h7 M7.lo1) hc9 (by omega) M7.lo2⟩, (hb7.chg hc8 nS8).chg hc9 fun h => (T' _ h).1 rfl⟩
    have hll := learn_len (s.mix oa xs) ob
    dsimp only
    refine ldI_b (i := 1) hb7 rfl (cond_of (fun hb0 => ?_) (fun hb0 => ldI_b (i := 1) hb7 rfl (cond_of (fun hb1 => ?_) (fun hb1 => ?_))))
    · refine ldI_b (i := 1) hb7 rfl (mix_Learn_ok M7.a fun w8 hM8 hc8 => ldI_b (i := 1) (hb7.chg hc8 nS8) rfl (ref06_Learn_ok (M7.b.chg hc8 fun y hy hs => M7.dis.ab y hs hy) fun w9 hM9 hc9 => ?_))
      have := lrn w8 hM8 hc8 w9 hM9 hc9
      exact rest _ _ w9 rfl hll.1 hll.2 this.1 this.2
    · refine ldI_b (i := 1) hb7 rfl (mix_Learn_ok M7.a fun w8 hM8 hc8 => ldI_b (i := 1) (hb7.chg hc8 nS8) rfl (ref06_Learn_ok (M7.b.chg hc8 fun y hy hs => M7.dis.ab y hs hy) fun w9 hM9 hc9 => ?_))
      have := lrn w8 hM8 hc8 w9 hM9 hc9
      exact rest _ _ w9 rfl hll.1 hll.2 this.1 this.2
    · exact rest _ (s.mix oa xs) w7 rfl rfl rfl M7 hb7
theorem law06_MixPlays_said {a : Int} {x : Option Addr} {n c : Nat} {W : World} {K : Bool → World → Prop} (_ : (Lit.int .i64 a).wf = true) (f : Fits W (.slc (.st (.pair 1 (.int .i64) (.pair 1 (.int .i64) (.pair 1 (.slc (.int .i64) 1 8) .unit)))) 3 40) [.slice x n c])
    (hk : ∀ w', Below W.heap.size W w' → K true w') : law06_MixPlays.f a x n c W K := by
  obtain ⟨_, _, L, hL, hR, hF⟩ := f.rows
  unfold law06_MixPlays.f
  have main : ∀ v : Int, (mix_New.f v W fun r16_6 w =>
    ref06_New.f v w fun r18_7 w =>
    law06_awake.f  w fun r19_10 w =>
    bif (!r19_10) then
      K false w
    else
      bif r16_6.isNone then
        K false w
      else
        ∃ N_103 : Nat, law06_MixPlays.l7 N_103 x n c r16_6 r18_7 0 w
        (fun w => K true w) (fun o4_104 w => K o4_104 w)) := by
    intro v
    refine mix_New_ok fun b1 w1 hM hc1 => ref06_New_ok fun b2 w2 hR2 hc2 => law06_awake_ok (bif_f rfl (bif_f rfl ⟨201, ?_⟩))
    have hz1 := hc1.size; have hz2 := hc2.size
    exact law06_MixPlays_l7 hL hR hF hk 201 0 _ _ _ w2 (by omega) (by omega) ⟨hM.chg hc2 fun _ _ h => h, hR2, ⟨fun y hy => by omega, fun y hy => hy.2, fun y hy hy2 => by omega⟩, fun y hy => hy.1, fun y hy => by omega, below_no (Below.refl _ _) (hc1.trans hc2) (Nat.le_refl _)⟩
  dsimp only
  exact cond_of (fun _ => main 50) (fun _ => main a)
end Go.Proofs.Ytplepdjcgojagaa.G
