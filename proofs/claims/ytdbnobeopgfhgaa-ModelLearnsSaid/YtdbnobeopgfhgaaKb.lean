/- The laws of the model: what is learnt, asked, and told. -/
import Derived.Test.YtdbnobeopgfhgaaMz
import Derived.Test.YtdbnobeopgfhgaaGenLawModelPlays
import Derived.Test.YtdbnobeopgfhgaaGenLawModelNil
import Derived.Test.YtdbnobeopgfhgaaGenLawModelSame
set_option linter.unusedVariables false
set_option linter.unusedSimpArgs false
namespace Go.Proofs.Ytdbnobeopgfhgaa.G
open Go Go.Proofs.Ytdbnobeopgfhgaa.Vm Go.RowKit
theorem at_rep (n : Nat) (h : 0 < n) (i : Int) : at' (List.replicate n 32768) i = 32768 := by
  unfold at'
  rw [List.length_replicate]
  have := place_bd i n (by omega)
  rw [List.getD_eq_getElem?_getD, List.getElem?_replicate, if_pos (by omega)]; rfl
theorem law08_awake_ok {w : World} {K : Bool → World → Prop} (hk : ∀ w', Chg no w w' → K true w') : law08_awake.f w K := by
  unfold law08_awake.f
  refine model_New_ok fun bt w1 hG hc1 => bif_t rfl ?_
  have e0 : (mx 0 (mn 0 2)).toNat = 0 := by decide
  rw [e0] at hG
  have hz := hc1.size
  refine model_Chance_ok (fun b hb => hb.2) hG fun w2 hG2 hc2 => ?_
  have e : (modNew 0).chance = 2048 := by
    unfold Mod.chance
    rw [if_pos (show (modNew 0).level = 0 from rfl)]
    have : at' (modNew 0).A (modNew 0).part = 32768 := at_rep 256 (by omega) _
    rw [this]; decide
  dsimp only
  rw [e]
  exact hk w2 (hc1.then hc2 fun k hk h => by omega)
/-- Bools handed in. -/
def SlB (w : World) (a : Option Addr) (bs : List Bool) : Prop := ∀ i v, bs[i]? = some v → ∃ p, a = some p ∧ w.cell? (p.add i) = some (.bool v)
theorem SlB.below {W w : World} {a : Option Addr} {bs : List Bool} (h : SlB W a bs) (b : Below W.heap.size W w) : SlB w a bs := fun i v hv => by
  obtain ⟨p, hp, hc⟩ := h i v hv
  exact ⟨p, hp, below_cell b hc⟩
theorem fits_bools {w : World} {by' : Nat} {a : Option Addr} {n c : Nat} (h : Fits w (.slc .bool 1 by') [.slice a n c]) : n ≤ c ∧ c * by' ≤ 140737488351232 ∧ ∃ bs : List Bool, bs.length = n ∧ SlB w a bs := by
  obtain ⟨h1, h2, L, hL, hR, hF⟩ := h.rows
  have key : ∀ i, i < n → ∃ v : Bool, L[i]? = some [.bool v] := fun i hi => by
    have hi' : i < L.length := by omega
    obtain ⟨v, hv⟩ := hF _ (List.getElem_mem hi')
    exact ⟨v, by rw [List.getElem?_eq_getElem hi', hv]⟩
  obtain ⟨f, hf⟩ := Go.Deep.choose_lt key
  refine ⟨h1, h2, (List.range n).map f, by simp, fun i v hp => ?_⟩
  have hi : i < n := by have := (List.getElem?_eq_some_iff.1 hp).1; simpa using this
  rw [List.getElem?_map, List.getElem?_range hi] at hp
  cases hp
  obtain ⟨hiL, hge⟩ := List.getElem?_eq_some_iff.1 (hf i hi)
  obtain ⟨q, hq, hl, hc⟩ := hR i hiL
  refine ⟨q, hq, ?_⟩
  have := hc 0 (.bool (f i)) (by rw [hge]; rfl)
  rwa [Nat.mul_one, show (q.add i).add 0 = q.add i from rfl] at this
theorem rdBool {w : World} {a : Option Addr} {bs : List Bool} {n i : Nat} {v : Bool} {K : Addr → Bool → Prop} (h : SlB w a bs) (hn : bs.length = n) (hv : bs[i]? = some v) (hk : ∀ p, K p v) : sm a fun p => if 0 ≤ (i : Int) ∧ (i : Int) < (n : Int) then ldB (p.add (Int.toNat (i : Int))) w (K p) else False := by
  obtain ⟨p, rfl, hc⟩ := h i v hv
  have hi := (List.getElem?_eq_some_iff.1 hv).1
  refine sm_some (if_of ⟨by omega, by omega⟩ ?_)
  rw [Int.toNat_natCast]
  exact ldB_of hc (hk p)
/-- The model and its reference are in one state. -/
structure D2 (W w : World) (S T : Nat → Prop) (b1 b2 : Nat) (s : Mod) : Prop where
  a : GM w S b1 s
  b : RM w T b2 s
  dis : Dis S T w
  lo1 : ∀ x, S x → W.heap.size ≤ x
  lo2 : ∀ x, T x → W.heap.size ≤ x
  bel : Below W.heap.size W w
theorem gr_lo3 {lo : Nat} {w w' : World} {S : Nat → Prop} (h : ∀ x, S x → lo ≤ x) (hw : lo ≤ w.heap.size) : ∀ x, gr S w w' x → lo ≤ x := fun x hx => hx.elim (h x) fun hx => by omega
theorem ask_both {W w : World} {S T : Nat → Prop} {b1 b2 : Nat} {s : Mod} {K : Int → Int → World → Prop} (h : D2 W w S T b1 b2 s) (hk : ∀ T' w', D2 W w' S T' b1 b2 s.asked → K s.chance s.chance w') :
    model_Model_Chance.f (some ⟨b1, 0, none⟩) w fun r w => ref08_Model_Chance.f (some ⟨b2, 0, none⟩) w fun r' w => K r r' w := by
  have hsz := h.bel.size
  refine model_Chance_ok h.dis.a h.a fun w1 hG1 hc1 => ?_
  have hz1 := hc1.size
  refine ref08_Chance_ok (h.dis.size hz1).b (h.b.chg hc1 fun b hb hs => h.dis.ab b hs hb) fun w2 hR2 hc2 => hk (gr T w1 w2) w2 ?_
  have hz2 := hc2.size
  exact ⟨hG1.chg hc2 fun b hb ht => h.dis.ab b hb ht, hR2, ((h.dis.size hz1).swap.grow hz2).swap, h.lo1, gr_lo3 h.lo2 (by omega), below_chg (below_chg h.bel hc1 hsz h.lo1) hc2 (by omega) h.lo2⟩
theorem teach_both {W w : World} {S T : Nat → Prop} {b1 b2 : Nat} {s : Mod} {bit : Int} {K : World → Prop} (hb : bit = 0 ∨ bit = 1) (h : D2 W w S T b1 b2 s) (hk : ∀ T' w', D2 W w' S T' b1 b2 (s.learn bit) → K w') :
    model_Model_Learn.f (some ⟨b1, 0, none⟩) bit w fun w => ref08_Model_Learn.f (some ⟨b2, 0, none⟩) bit w fun w => K w := by
  have hsz := h.bel.size
  refine model_Learn_ok hb h.dis.a h.a fun w1 hG1 hc1 => ?_
  have hz1 := hc1.size
  refine ref08_Learn_ok hb (h.dis.size hz1).b (h.b.chg hc1 fun b hb hs => h.dis.ab b hs hb) fun w2 hR2 hc2 => hk (gr T w1 w2) w2 ?_
  have hz2 := hc2.size
  exact ⟨hG1.chg hc2 fun b hb ht => h.dis.ab b hb ht, hR2, ((h.dis.size hz1).swap.grow hz2).swap, h.lo1, gr_lo3 h.lo2 (by omega), below_chg (below_chg h.bel hc1 hsz h.lo1) hc2 (by omega) h.lo2⟩
theorem law08_ModelNil_said {a : Int} {W : World} {K : Bool → World → Prop} (_ : (Lit.int .i64 a).wf = true) (hk : ∀ w', Below W.heap.size W w' → K true w') : law08_ModelNil.f a W K := by
  have n1 : ∀ {w : World} {K : World → Prop}, K w → model_Model_Learn.f none a w K := fun h => by unfold model_Model_Learn.f; exact h
  have n2 : ∀ {w : World} {K : Int → World → Prop}, K 0 w → model_Model_Chance.f none w K := fun h => by unfold model_Model_Chance.f; exact h
  unfold law08_ModelNil.f
  exact n1 (law08_awake_ok fun w1 hc1 => bif_t rfl (n2 (hk _ (below_no (Below.refl _ _) hc1 (Nat.le_refl _)))))
set_option maxRecDepth 20000 in
theorem law08_ModelPlays_said {a : Int} {x : Option Addr} {n c : Nat} {y : Option Addr} {m d : Nat} {W : World} {K : Bool → World → Prop} (_ : (Lit.int .i64 a).wf = true) (f : Fits W (.slc .bool 1 1) [.slice x n c]) (g : Fits W (.slc (.int .i64) 1 8) [.slice y m d])
    (hk : ∀ w', Below W.heap.size W w' → K true w') : law08_ModelPlays.f a x n c y m d W K := by
  obtain ⟨_, _, bs, hbl, hbs⟩ := fits_bools f
  obtain ⟨_, _, ys, hyl, hys, _⟩ := g.ints
  unfold law08_ModelPlays.f
  refine model_New_ok fun b1 w1 hG hc1 => ref08_New_ok fun b2 w2 hR hc2 => law08_awake_ok fun w3 hc3 => bif_f rfl (bif_f rfl ⟨601, ?_⟩)
  have hz1 := hc1.size; have hz2 := hc2.size; have hz3 := hc3.size
  have D3 : D2 W w3 (fun b => W.heap.size ≤ b ∧ b < w1.heap.size) (fun b => w1.heap.size ≤ b ∧ b < w2.heap.size) b1 b2 (modNew (mx 0 (mn a 2)).toNat) :=
    ⟨(hG.chg hc2 fun _ _ h => h).chg hc3 fun _ _ h => h, hR.chg hc3 fun _ _ h => h, ⟨fun y hy => by omega, fun y hy => by omega, fun y hy hy2 => by omega⟩, fun y hy => hy.1, fun y hy => by omega, below_no (Below.refl _ _) ((hc1.trans hc2).trans hc3) (Nat.le_refl _)⟩
  have asks : ∀ (K2 : Option Addr → Nat → Nat → Option Addr → Nat → Nat → Option Addr → Option Addr → Int → World → Prop) (Kr : Bool → World → Prop) (i t : Nat) (S : Nat → Prop), t ≤ 3 → (∀ T s w, D2 W w S T b1 b2 s → K2 x n c y m d (some ⟨b1, 0, none⟩) (some ⟨b2, 0, none⟩) i w) → ∀ (N k : Nat) (T : Nat → Prop) (s : Mod) (w : World), k ≤ t → t - k < N → D2 W w S T b1 b2 s →
      law08_ModelPlays.l11 N x n c y m d (some ⟨b1, 0, none⟩) (some ⟨b2, 0, none⟩) i t k w K2 Kr := by
    intro K2 Kr i t S ht hK N
    induction N with
    | zero => intro k T s w h1 h2; omega
    | succ N ih =>
      intro k T s w h1 h2 hD
      rw [law08_ModelPlays.l11]
      by_cases hlt : k < t
      · refine bif_t (dec_t (by omega)) (ask_both hD fun T' w' hD' => bif_f (by simp) ?_)
        dsimp only
        rw [inc (by omega)]
        exact ih (k + 1) T' _ w' (by omega) (by omega) hD'
      · exact bif_f (dec_f (by omega)) (hK T s w hD)
  have loop : ∀ (N i : Nat) (T : Nat → Prop) (s : Mod) (w : World), i ≤ 600 → 600 - i < N → D2 W w (fun b => W.heap.size ≤ b ∧ b < w1.heap.size) T b1 b2 s →
      law08_ModelPlays.l5 N x n c y m d (some ⟨b1, 0, none⟩) (some ⟨b2, 0, none⟩) i w (fun o7_50 o8_51 w =>
        model_Model_Chance.f o7_50 w fun r65_54 w =>
        ref08_Model_Chance.f o8_51 w fun r67_55 w =>
        K (r65_54 == r67_55) w) (fun o w => K o w) := by
    intro N
    induction N with
    | zero => intro i T s w h1 h2; omega
    | succ N ih =>
      intro i T s w h1 h2 hD
      rw [law08_ModelPlays.l5]
      have fin : (model_Model_Chance.f (some ⟨b1, 0, none⟩) w fun r65_54 w => ref08_Model_Chance.f (some ⟨b2, 0, none⟩) w fun r67_55 w => K (r65_54 == r67_55) w) :=
        ask_both (K := fun r r' w => K (r == r') w) hD fun T' w' hD' => by rw [beq_self_eq_true]; exact hk w' hD'.bel
      refine cond_of (fun hh1 => cond_of (fun hh2 => ?_) (fun _ => fin)) (fun _ => fin)
      have hlt : i < n := by have := of_decide_eq_true hh1; omega
      have hlt2 : i < 600 := by have := of_decide_eq_true hh2; omega
      have j47 : ∀ t : Nat, t ≤ 3 → ∃ N_32 : Nat, law08_ModelPlays.l11 N_32 x n c y m d (some ⟨b1, 0, none⟩) (some ⟨b2, 0, none⟩) i t 0 w
          (fun o1_33 o1_33n o1_33c o2_34 o2_34n o2_34c o7_35 o8_36 o9_37 w =>
            sm o1_33 fun p_42 =>
            if 0 ≤ (o9_37 : Int) ∧ (o9_37 : Int) < ((o1_33n : Nat) : Int) then
            ldB (p_42.add (Int.toNat o9_37)) w fun x57_43 =>
            bif x57_43 then
              model_Model_Learn.f o7_35 1 w fun w =>
              ref08_Model_Learn.f o8_36 1 w fun w =>
              law08_ModelPlays.l5 N o1_33 o1_33n o1_33c o2_34 o2_34n o2_34c o7_35 o8_36 (IntKind.wrap .i64 (o9_37 + 1)) w (fun o7_50 o8_51 w =>
        model_Model_Chance.f o7_50 w fun r65_54 w =>
        ref08_Model_Chance.f o8_51 w fun r67_55 w =>
        K (r65_54 == r67_55) w) (fun o w => K o w)
            else
              model_Model_Learn.f o7_35 0 w fun w =>
              ref08_Model_Learn.f o8_36 0 w fun w =>
              law08_ModelPlays.l5 N o1_33 o1_33n o1_33c o2_34 o2_34n o2_34c o7_35 o8_36 (IntKind.wrap .i64 (o9_37 + 1)) w (fun o7_50 o8_51 w =>
        model_Model_Chance.f o7_50 w fun r65_54 w =>
        ref08_Model_Chance.f o8_51 w fun r67_55 w =>
        K (r65_54 == r67_55) w) (fun o w => K o w)
            else False)
          (fun o6_38 w => K o6_38 w) := by
        intro t ht
        refine ⟨t + 1, asks _ _ i t _ ht (fun T' s' w' hD' => ?_) (t + 1) 0 T s w (by omega) (by omega) hD⟩
        have hv : bs[i]? = some (bs[i]'(by omega)) := List.getElem?_eq_getElem _
        refine rdBool (hbs.below hD'.bel) hbl hv fun _ => ?_
        rw [inc (by omega)]
        refine cond_of (fun _ => teach_both (.inr rfl) hD' fun T'' w'' hD'' => ?_) (fun _ => teach_both (.inl rfl) hD' fun T'' w'' hD'' => ?_)
        · exact ih (i + 1) T'' _ w'' (by omega) (by omega) hD''
        · exact ih (i + 1) T'' _ w'' (by omega) (by omega) hD''
      dsimp only
      refine cond_of (fun hh3 => ?_) (fun hh3 => ?_)
      · have hlt3 : i < m := by have := of_decide_eq_true hh3; omega
        have hv : ys[i]? = some (ys.getD i 0) := getDs (by omega)
        refine rdV (hys.below hD.bel) i rfl hyl hv fun _ _ => ?_
        obtain ⟨t, ht, ht3⟩ : ∃ t : Nat, IntKind.wrap .i64 (Int.tmod (IntKind.wrap .u64 (ys.getD i 0)) 3) = t ∧ t < 3 := by
          have h0 : 0 ≤ IntKind.wrap .u64 (ys.getD i 0) := by rw [wu64_eq]; omega
          have g0 := Int.tmod_nonneg 3 h0
          have g1 := Int.tmod_lt_of_pos (IntKind.wrap .u64 (ys.getD i 0)) (show (0 : Int) < 3 by omega)
          generalize Int.tmod (IntKind.wrap .u64 (ys.getD i 0)) 3 = q at g0 g1 ⊢
          exact ⟨q.toNat, by rw [w64 (by omega) (by omega)]; omega, by omega⟩
        rw [ht]
        exact j47 t (by omega)
      · exact j47 1 (by omega)
  exact loop 601 0 _ _ w3 (by omega) (by omega) D3
/-! ### Two of them, and a third -/
structure D3 (W w : World) (S1 S2 S3 : Nat → Prop) (b1 b2 b3 : Nat) (s t : Mod) : Prop where
  a : GM w S1 b1 s
  b : GM w S2 b2 s
  c : GM w S3 b3 t
  d12 : Dis S1 S2 w
  d13 : Dis S1 S3 w
  d23 : Dis S2 S3 w
  lo1 : ∀ x, S1 x → W.heap.size ≤ x
  lo2 : ∀ x, S2 x → W.heap.size ≤ x
  lo3 : ∀ x, S3 x → W.heap.size ≤ x
  bel : Below W.heap.size W w
theorem D3.third {W w : World} {S1 S2 S3 : Nat → Prop} {b1 b2 b3 : Nat} {s t : Mod} {bit : Int} {K : World → Prop} (hb : bit = 0 ∨ bit = 1) (h : D3 W w S1 S2 S3 b1 b2 b3 s t) (hk : ∀ w', D3 W w' S1 S2 S3 b1 b2 b3 s (t.learn bit) → K w') : model_Model_Learn.f (some ⟨b3, 0, none⟩) bit w K := by
  refine model_Learn_ok hb h.d13.b h.c fun w1 hG hc => hk w1 ?_
  have hz := hc.size
  exact ⟨h.a.chg hc fun b hb h3 => h.d13.ab b hb h3, h.b.chg hc fun b hb h3 => h.d23.ab b hb h3, hG, h.d12.size hz, h.d13.size hz, h.d23.size hz, h.lo1, h.lo2, h.lo3, below_chg h.bel hc h.bel.size h.lo3⟩
theorem D3.ask {W w : World} {S1 S2 S3 : Nat → Prop} {b1 b2 b3 : Nat} {s t : Mod} {K : Int → World → Prop} {K2 : Int → Int → World → Prop} (h : D3 W w S1 S2 S3 b1 b2 b3 s t) (hk : ∀ w1, (∀ K2 : Int → World → Prop, (∀ w', D3 W w' S1 S2 S3 b1 b2 b3 s.asked t → K2 s.chance w') → model_Model_Chance.f (some ⟨b2, 0, none⟩) w1 K2) → K s.chance w1) :
    model_Model_Chance.f (some ⟨b1, 0, none⟩) w K := by
  refine model_Chance_ok h.d12.a h.a fun w1 hG hc => hk w1 fun K2 hK2 => ?_
  have hz := hc.size
  refine model_Chance_ok (h.d12.size hz).b (h.b.chg hc fun b hb h1 => h.d12.ab b h1 hb) fun w2 hG2 hc2 => hK2 w2 ?_
  have hz2 := hc2.size
  exact ⟨hG.chg hc2 fun b hb h2 => h.d12.ab b hb h2, hG2, (h.c.chg hc fun b hb h1 => h.d13.ab b h1 hb).chg hc2 fun b hb h2 => h.d23.ab b h2 hb, h.d12.size (by omega), h.d13.size (by omega), h.d23.size (by omega), h.lo1, h.lo2, h.lo3, below_chg (below_chg h.bel hc h.bel.size h.lo1) hc2 (by have := h.bel.size; omega) h.lo2⟩
theorem D3.teach {W w : World} {S1 S2 S3 : Nat → Prop} {b1 b2 b3 : Nat} {s t : Mod} {bit : Int} {K : World → Prop} (hb : bit = 0 ∨ bit = 1) (h : D3 W w S1 S2 S3 b1 b2 b3 s t) (hk : ∀ w', D3 W w' S1 S2 S3 b1 b2 b3 (s.learn bit) t → K w') :
    model_Model_Learn.f (some ⟨b1, 0, none⟩) bit w fun w => model_Model_Learn.f (some ⟨b2, 0, none⟩) bit w fun w => K w := by
  refine model_Learn_ok hb h.d12.a h.a fun w1 hG hc => ?_
  have hz := hc.size
  refine model_Learn_ok hb (h.d12.size hz).b (h.b.chg hc fun b hb h1 => h.d12.ab b h1 hb) fun w2 hG2 hc2 => hk w2 ?_
  have hz2 := hc2.size
  exact ⟨hG.chg hc2 fun b hb h2 => h.d12.ab b hb h2, hG2, (h.c.chg hc fun b hb h1 => h.d13.ab b h1 hb).chg hc2 fun b hb h2 => h.d23.ab b h2 hb, h.d12.size (by omega), h.d13.size (by omega), h.d23.size (by omega), h.lo1, h.lo2, h.lo3, below_chg (below_chg h.bel hc h.bel.size h.lo1) hc2 (by have := h.bel.size; omega) h.lo2⟩
set_option maxRecDepth 20000 in
theorem law08_ModelSame_said {a : Int} {x : Option Addr} {n c : Nat} {y : Option Addr} {m d : Nat} {W : World} {K : Bool → World → Prop} (_ : (Lit.int .i64 a).wf = true) (f : Fits W (.slc .bool 1 1) [.slice x n c]) (g : Fits W (.slc .bool 1 1) [.slice y m d])
    (hk : ∀ w', Below W.heap.size W w' → K true w') : law08_ModelSame.f a x n c y m d W K := by
  obtain ⟨_, _, bs, hbl, hbs⟩ := fits_bools f
  obtain ⟨_, _, ys, hyl, hys⟩ := fits_bools g
  unfold law08_ModelSame.f
  refine model_New_ok fun b1 w1 hG1 hc1 => model_New_ok fun b2 w2 hG2 hc2 => model_New_ok fun b3 w3 hG3 hc3 => law08_awake_ok fun w4 hc4 => bif_f rfl (bif_f rfl (bif_f rfl (bif_f rfl ⟨401, ?_⟩)))
  have hz1 := hc1.size; have hz2 := hc2.size; have hz3 := hc3.size; have hz4 := hc4.size
  have D0 : D3 W w4 (fun b => W.heap.size ≤ b ∧ b < w1.heap.size) (fun b => w1.heap.size ≤ b ∧ b < w2.heap.size) (fun b => w2.heap.size ≤ b ∧ b < w3.heap.size) b1 b2 b3 (modNew (mx 0 (mn a 2)).toNat) (modNew (mx 0 (mn a 2)).toNat) :=
    ⟨((hG1.chg hc2 fun _ _ h => h).chg hc3 fun _ _ h => h).chg hc4 fun _ _ h => h, (hG2.chg hc3 fun _ _ h => h).chg hc4 fun _ _ h => h, hG3.chg hc4 fun _ _ h => h, ⟨fun y hy => by omega, fun y hy => by omega, fun y hy hy2 => by omega⟩, ⟨fun y hy => by omega, fun y hy => by omega, fun y hy hy2 => by omega⟩, ⟨fun y hy => by omega, fun y hy => by omega, fun y hy hy2 => by omega⟩,
      fun y hy => hy.1, fun y hy => by omega, fun y hy => by omega, below_no (Below.refl _ _) (((hc1.trans hc2).trans hc3).trans hc4) (Nat.le_refl _)⟩
  generalize (fun b => W.heap.size ≤ b ∧ b < w1.heap.size) = S1 at D0
  generalize (fun b => w1.heap.size ≤ b ∧ b < w2.heap.size) = S2 at D0
  generalize (fun b => w2.heap.size ≤ b ∧ b < w3.heap.size) = S3 at D0
  have loop : ∀ (N i : Nat) (s t : Mod) (w : World), i ≤ 400 → 400 - i < N → D3 W w S1 S2 S3 b1 b2 b3 s t →
      law08_ModelSame.l5 N x n c y m d (some ⟨b1, 0, none⟩) (some ⟨b2, 0, none⟩) (some ⟨b3, 0, none⟩) i w (fun o7_44 o8_45 w =>
        model_Model_Chance.f o7_44 w fun r81_48 w =>
        model_Model_Chance.f o8_45 w fun r83_49 w =>
        K (r81_48 == r83_49) w) (fun o w => K o w) := by
    intro N
    induction N with
    | zero => intro i s t w h1 h2; omega
    | succ N ih =>
      intro i s t w h1 h2 hD
      rw [law08_ModelSame.l5]
      have fin : (model_Model_Chance.f (some ⟨b1, 0, none⟩) w fun r81_48 w => model_Model_Chance.f (some ⟨b2, 0, none⟩) w fun r83_49 w => K (r81_48 == r83_49) w) :=
        D3.ask (K2 := fun _ _ _ => True) hD fun w1 h => h _ fun w' hD' => by rw [beq_self_eq_true]; exact hk w' hD'.bel
      refine cond_of (fun hh1 => cond_of (fun hh2 => ?_) (fun _ => fin)) (fun _ => fin)
      have hlt : i < n := by have := of_decide_eq_true hh1; omega
      have hlt2 : i < 400 := by have := of_decide_eq_true hh2; omega
      have j39 : ∀ bit : Int, bit = 0 ∨ bit = 1 → (model_Model_Chance.f (some ⟨b1, 0, none⟩) w fun r48_25 w =>
          bif (decide (r48_25 < 1)) then
            K false w
          else
            bif (decide (r48_25 > 4095)) then
              K false w
            else
              model_Model_Chance.f (some ⟨b2, 0, none⟩) w fun r58_28 w =>
              bif (r48_25 != r58_28) then
                K false w
              else
                model_Model_Learn.f (some ⟨b1, 0, none⟩) bit w fun w =>
                model_Model_Learn.f (some ⟨b2, 0, none⟩) bit w fun w =>
                bif (decide ((i : Int) < ((m : Nat) : Int))) then
                  model_Model_Learn.f (some ⟨b3, 0, none⟩) bit w fun w =>
                  sm y fun p_37 =>
                  if 0 ≤ (i : Int) ∧ (i : Int) < ((m : Nat) : Int) then
                  ldB (p_37.add (Int.toNat (i : Int))) w fun x77_38 =>
                  bif x77_38 then
                    model_Model_Learn.f (some ⟨b3, 0, none⟩) 1 w fun w =>
                    law08_ModelSame.l5 N x n c y m d (some ⟨b1, 0, none⟩) (some ⟨b2, 0, none⟩) (some ⟨b3, 0, none⟩) (IntKind.wrap .i64 ((i : Int) + 1)) w (fun o7_44 o8_45 w =>
        model_Model_Chance.f o7_44 w fun r81_48 w =>
        model_Model_Chance.f o8_45 w fun r83_49 w =>
        K (r81_48 == r83_49) w) (fun o w => K o w)
                  else
                    law08_ModelSame.l5 N x n c y m d (some ⟨b1, 0, none⟩) (some ⟨b2, 0, none⟩) (some ⟨b3, 0, none⟩) (IntKind.wrap .i64 ((i : Int) + 1)) w (fun o7_44 o8_45 w =>
        model_Model_Chance.f o7_44 w fun r81_48 w =>
        model_Model_Chance.f o8_45 w fun r83_49 w =>
        K (r81_48 == r83_49) w) (fun o w => K o w)
                  else False
                else
                  law08_ModelSame.l5 N x n c y m d (some ⟨b1, 0, none⟩) (some ⟨b2, 0, none⟩) (some ⟨b3, 0, none⟩) (IntKind.wrap .i64 ((i : Int) + 1)) w (fun o7_44 o8_45 w =>
        model_Model_Chance.f o7_44 w fun r81_48 w =>
        model_Model_Chance.f o8_45 w fun r83_49 w =>
        K (r81_48 == r83_49) w) (fun o w => K o w)) := by
        intro bit hbit
        have hcb := Mod.chance_bd hD.a.ok
        refine D3.ask (K2 := fun _ _ _ => True) hD fun w1 h => bif_f (dec_f (by omega)) (bif_f (dec_f (by omega)) (h _ fun w2 hD2 => bif_f (by simp) (hD2.teach hbit fun w3 hD3 => ?_)))
        rw [inc (by omega)]
        refine cond_of (fun hh3 => hD3.third hbit fun w4 hD4 => ?_) (fun _ => ih (i + 1) _ _ w3 (by omega) (by omega) hD3)
        have hlt3 : i < m := by have := of_decide_eq_true hh3; omega
        have hv : ys[i]? = some (ys[i]'(by omega)) := List.getElem?_eq_getElem _
        refine rdBool (hys.below hD4.bel) hyl hv fun _ => cond_of (fun _ => hD4.third (.inr rfl) fun w5 hD5 => ?_) (fun _ => ?_)
        · exact ih (i + 1) _ _ w5 (by omega) (by omega) hD5
        · exact ih (i + 1) _ _ w4 (by omega) (by omega) hD4
      dsimp only
      have hv : bs[i]? = some (bs[i]'(by omega)) := List.getElem?_eq_getElem _
      refine rdBool (hbs.below hD.bel) hbl hv fun _ => cond_of (fun _ => j39 1 (.inr rfl)) (fun _ => j39 0 (.inl rfl))
  exact loop 401 0 _ _ w4 (by omega) (by omega) D0
end Go.Proofs.Ytdbnobeopgfhgaa.G
