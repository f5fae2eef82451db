/- The laws of the stage. -/
import Derived.Test.YtdbnobeopgfhgaaMv
import Derived.Test.YtdbnobeopgfhgaaGenLawStageFirst
import Derived.Test.YtdbnobeopgfhgaaGenLawStagePlays
import Derived.Test.YtdbnobeopgfhgaaGenLawStageNil
set_option linter.unusedVariables false
set_option linter.unusedSimpArgs false
namespace Go.Proofs.Ytdbnobeopgfhgaa.G
open Go Go.Proofs.Ytdbnobeopgfhgaa.Vm Go.RowKit
def sLit : List Int := [16, 432, 912, 1456, 2048, 2736, 3520, 4416, 5472, 6704, 8192, 10016, 12288, 15216, 19120, 24576, 32768, 40960, 46416, 50320, 53248, 55520, 57344, 58832, 60064, 61120, 62016, 62800, 63488, 64080, 64624, 65104, 65520]
theorem sFirst_lit : sFirst = sLit := by decide +kernel
def chkF (i : Nat) : Bool := let p := sTold sLit ((i : Int) + 1); decide (p - ((i : Int) + 1) ≤ 160) && decide (((i : Int) + 1) - p ≤ 160)
set_option maxRecDepth 20000 in
theorem chkF_ok : (List.range 4095).all chkF = true := by decide +kernel
theorem first_near {c : Int} (h1 : 1 ≤ c) (h2 : c ≤ 4095) : sTold sFirst c - c ≤ 160 ∧ c - sTold sFirst c ≤ 160 := by
  have := List.all_eq_true.1 chkF_ok (c - 1).toNat (List.mem_range.2 (by omega))
  unfold chkF at this
  rw [show (((c - 1).toNat : Nat) : Int) + 1 = c by omega, ← sFirst_lit] at this
  simpa using this
theorem sNew_row {n : Nat} {a : Int} (h : 0 < n) : (sNew n).T.getD (mPlace (sNew n).T.length a) [] = sFirst := by
  have hp := (mPlace_lt (n := (sNew n).T.length) (by simpa [sNew] using h) a).1
  exact (List.mem_replicate.1 (rowD_mem hp)).2
theorem law07_awake_ok {w : World} {K : Bool → World → Prop} (hk : ∀ w', Chg no w w' → K true w') : law07_awake.f w K := by
  unfold law07_awake.f
  refine stage_New_ok fun bt w1 hS hc1 => bif_t rfl ?_
  have e1 : (mx 1 (mn 1 1024)).toNat = 1 := by decide
  rw [e1] at hS
  refine stage_Refine_ok hS fun w2 hS2 hc2 => bif_t ?_ (stage_At_ok hS2 fun w3 hc3 => ?_)
  · have : (sNew 1).told 2048 0 = 2048 := by
      unfold Sst.told
      rw [sNew_row (by omega), sFirst_lit]
      decide +kernel
    rw [this]; rfl
  · dsimp only
    have : ((sNew 1).refine 2048 0).at' 0 16 = 32768 := by
      unfold Sst.at'
      show ((sNew 1).T.getD (mPlace (sNew 1).T.length 0) []).getD _ 0 = _
      rw [sNew_row (by omega), sFirst_lit]
      decide +kernel
    rw [this]
    have hz := hc1.size
    exact hk w3 ((hc1.then hc2 fun k hk h => by omega).trans hc3)
theorem law07_StageFirst_said {c a : Int} {W : World} {K : Bool → World → Prop} (_ : (Lit.int .i64 c).wf = true) (_ : (Lit.int .i64 a).wf = true) (hk : ∀ w', Below W.heap.size W w' → K true w') : law07_StageFirst.f c a W K := by
  unfold law07_StageFirst.f
  refine stage_New_ok fun bt w1 hS hc1 => law07_awake_ok fun w2 hc2 => bif_f rfl (bif_f rfl ?_)
  have e1 : (mx 1 (mn 4 1024)).toNat = 4 := by decide
  rw [e1] at hS
  obtain ⟨v, hv, hv1, hv2⟩ : ∃ v : Int, IntKind.wrap .i64 (1 + IntKind.wrap .i64 (Int.tmod (IntKind.wrap .u64 c) 4095)) = v ∧ 1 ≤ v ∧ v ≤ 4095 := by
    have h0 : 0 ≤ IntKind.wrap .u64 c := by rw [wu64_eq]; omega
    have g0 := Int.tmod_nonneg 4095 h0
    have g1 := Int.tmod_lt_of_pos (IntKind.wrap .u64 c) (show (0 : Int) < 4095 by omega)
    generalize Int.tmod (IntKind.wrap .u64 c) 4095 = q at g0 g1 ⊢
    exact ⟨1 + q, by rw [w64 (a := q) (by omega) (by omega), w64 (by omega) (by omega)], by omega, by omega⟩
  dsimp only
  rw [hv]
  refine stage_Refine_ok (hS.chg hc2 fun _ _ h => h) fun w3 hS3 hc3 => ?_
  have et : (sNew 4).told v a = sTold sFirst v := by unfold Sst.told; rw [sNew_row (by omega)]
  rw [et]
  have hb := sTold_bd sFirst v
  have hn := first_near hv1 hv2
  refine bif_t (dec_t (by omega)) (bif_t (dec_t (by omega)) (bif_t (dec_t (by rw [w64 (by omega) (by omega)]; omega)) ?_))
  rw [dec_t (by rw [w64 (by omega) (by omega)]; omega)]
  have hz1 := hc1.size; have hz2 := hc2.size
  exact hk w3 (below_chg (below_no (Below.refl _ _) (hc1.trans hc2) (Nat.le_refl _)) hc3 (by omega) fun b hb => hb.1)
theorem law07_StageNil_said {a b c d : Int} {W : World} {K : Bool → World → Prop} (_ : (Lit.int .i64 a).wf = true) (_ : (Lit.int .i64 b).wf = true) (_ : (Lit.int .i64 c).wf = true) (_ : (Lit.int .i64 d).wf = true) (hk : ∀ w', Below W.heap.size W w' → K true w') : law07_StageNil.f a b c d W K := by
  have n1 : ∀ {w : World} {K : World → Prop}, K w → stage_Stage_Learn.f none c d w K := fun h => by unfold stage_Stage_Learn.f; exact h
  have n2 : ∀ {w : World} {K : Int → World → Prop}, K 0 w → stage_Stage_Refine.f none a b w K := fun h => by unfold stage_Stage_Refine.f; exact h
  have n3 : ∀ {w : World} {K : Int → World → Prop}, K 0 w → stage_Stage_At.f none b a w K := fun h => by unfold stage_Stage_At.f; exact h
  unfold law07_StageNil.f
  refine n1 (stage_New_ok fun b1 w1 hS1 hc1 => stage_New_ok fun b2 w2 hS2 hc2 => law07_awake_ok fun w3 hc3 => bif_f rfl (bif_f rfl (bif_f rfl ?_)))
  have e1 : (mx 1 (mn 3 1024)).toNat = 3 := by decide
  rw [e1] at hS1 hS2
  have hz1 := hc1.size; have hz2 := hc2.size; have hz3 := hc3.size
  refine stage_Learn_ok ((hS1.chg hc2 fun _ _ h => h).chg hc3 fun _ _ h => h) fun w4 hS4 hc4 => ⟨34, ?_⟩
  have el : (sNew 3).learn c d = sNew 3 := rfl
  rw [el] at hS4
  have hS24 := (hS2.chg hc3 fun _ _ h => h).chg hc4 fun b hb h => by omega
  have B4 : Below W.heap.size W w4 := below_chg (below_no (Below.refl _ _) ((hc1.trans hc2).trans hc3) (Nat.le_refl _)) hc4 (by omega) fun b hb => hb.1
  have loop : ∀ (N i : Nat) (w : World), i ≤ 33 → 33 - i < N → Chg no w4 w → law07_StageNil.l8 N a b none (some ⟨b1, 0, none⟩) (some ⟨b2, 0, none⟩) i w (fun o0_25 o1_26 o9_27 w =>
          stage_Stage_Refine.f o9_27 o0_25 o1_26 w fun r49_30 w =>
          bif (r49_30 == 0) then
            stage_Stage_At.f o9_27 o1_26 o0_25 w fun r55_31 w =>
            let v8_32 := (r55_31 == 0)
            K v8_32 w
          else
            K false w) (fun o w => K o w) := by
    intro N
    induction N with
    | zero => intro i w h1 h2; omega
    | succ N ih =>
      intro i w h1 h2 hc
      rw [law07_StageNil.l8]
      by_cases hlt : i < 33
      · refine bif_t (dec_t (by omega)) (stage_At_ok (hS4.chg hc fun _ _ h => h) fun w5 hc5 => stage_At_ok (hS24.chg (hc.trans hc5) fun _ _ h => h) fun w6 hc6 => bif_f (by simp) ?_)
        dsimp only
        rw [inc (by omega)]
        exact ih (i + 1) w6 (by omega) (by omega) ((hc.trans hc5).trans hc6)
      · have : i = 33 := by omega
        subst this
        exact bif_f (dec_f (by omega)) (n2 (bif_t rfl (n3 (hk w (below_no B4 hc B4.size)))))
  exact loop 34 0 w4 (by omega) (by omega) (Chg.refl _ _)
/-! ### Any script -/
structure St2 (W w : World) (S T : Nat → Prop) (b1 b2 : Nat) (s : Sst) : Prop where
  a : SS w S b1 s
  b : SR w T b2 s
  dis : Dis S T w
  lo1 : ∀ x, S x → W.heap.size ≤ x
  lo2 : ∀ x, T x → W.heap.size ≤ x
  bel : Below W.heap.size W w
theorem St2.chg {W w w' : World} {S T : Nat → Prop} {b1 b2 : Nat} {s : Sst} (h : St2 W w S T b1 b2 s) (hc : Chg no w w') : St2 W w' S T b1 b2 s :=
  ⟨h.a.chg hc fun _ _ h => h, h.b.chg hc fun _ _ h => h, h.dis.size hc.size, h.lo1, h.lo2, below_no h.bel hc h.bel.size⟩
theorem fits_op4 {w : World} {l : List Value} (h : Fits w (.st (.pair 1 (.int .i64) (.pair 1 (.int .i64) (.pair 1 (.int .i64) (.pair 1 (.int .i64) .unit))))) l) (hl : l.length = 4) :
    ∃ a b c d, l = [.int .i64 a, .int .i64 b, .int .i64 c, .int .i64 d] := by
  obtain ⟨⟨a, h1, _⟩, ⟨b, h2, _⟩, ⟨c, h3, _⟩, ⟨d, h4, _⟩, _⟩ := h
  match l, hl with
  | [x, y, z, u], _ =>
    simp at h1 h2 h3 h4
    subst h1 h2 h3 h4
    exact ⟨a, b, c, d, rfl⟩
theorem law07_StagePlays_l16 {W : World} {y1 : Option Addr} {n1 c1 b1 b2 z8 : Nat} {y2 y3 y11 : Int} {s : Sst} {S T : Nat → Prop} {l : List Value} {v1 : Int} {K2 : Option Addr → Nat → Nat → Int → Int → Option Addr → Option Addr → Int → World → Prop} {Kr : Bool → World → Prop} (hl : l[1]? = some (.int .i64 v1))
    (hk : ∀ w, St2 W w S T b1 b2 s → K2 y1 n1 c1 y2 y3 (some ⟨b1, 0, none⟩) (some ⟨b2, 0, none⟩) y11 w) (N : Nat) : ∀ (k : Int) (w : World), -1 ≤ k → k ≤ 34 → 34 - k < N → St2 W w S T b1 b2 s → Bl 32 w z8 l →
      law07_StagePlays.l16 N y1 n1 c1 y2 y3 (some ⟨b1, 0, none⟩) (some ⟨b2, 0, none⟩) y11 ⟨z8, 0, none⟩ k w K2 Kr := by
  induction N with
  | zero => intro k w h0 h1 h2; omega
  | succ N ih =>
    intro k w h0 h1 h2 hM hb
    rw [law07_StagePlays.l16]
    refine cond_of (fun hh => ?_) (fun _ => hk w hM)
    have hlt := of_decide_eq_true hh
    have kd : Chg no w w.drew := Chg.drew no w
    have hbd := hb.chg kd fun h => h
    have Md := hM.chg kd
    refine ldI_b (i := 1) hbd hl (ldI_b (i := 1) hbd hl (stage_At_ok Md.a fun w1 hc1 => ⟨(hbd.chg hc1 fun h => h).cell (i := 1) hl, ref07_At_ok (Md.chg hc1).b fun w2 hc2 => bif_f (by simp) ?_⟩))
    dsimp only
    rw [w64 (by omega) (by omega)]
    exact ih (k + 1) w2 (by omega) (by omega) (by omega) ((Md.chg hc1).chg hc2) ((hbd.chg hc1 fun h => h).chg hc2 fun h => h)
set_option maxRecDepth 20000 in
theorem law07_StagePlays_l7 {W : World} {x : Option Addr} {n c b1 b2 : Nat} {y2 y3 : Int} {L : List (List Value)} {K0 : World → Prop} {Kr : Bool → World → Prop} (hL : L.length = n) (hR : SlR 4 W x L) (hF : ∀ l ∈ L, Fits W (.st (.pair 1 (.int .i64) (.pair 1 (.int .i64) (.pair 1 (.int .i64) (.pair 1 (.int .i64) .unit))))) l)
    (hk : ∀ w, Below W.heap.size W w → K0 w) (N : Nat) :
    ∀ (i : Nat) (S T : Nat → Prop) (s : Sst) (w : World), i ≤ 200 → 200 - i < N → St2 W w S T b1 b2 s → law07_StagePlays.l7 N x n c y2 y3 (some ⟨b1, 0, none⟩) (some ⟨b2, 0, none⟩) i w K0 Kr := by
  induction N with
  | zero => intro i S T s w h1 h2; omega
  | succ N ih =>
    intro i S T s w hi hN hM
    rw [law07_StagePlays.l7]
    have fin := hk w hM.bel
    have hsz := hM.bel.size
    refine cond_of (fun hh1 => cond_of (fun hh2 => ?_) (fun _ => fin)) (fun _ => fin)
    have hlt : i < n := by have := of_decide_eq_true hh1; omega
    have hlt2 : i < 200 := by have := of_decide_eq_true hh2; omega
    have hiL : i < L.length := by omega
    obtain ⟨q, hq, hl4, hc4⟩ := hR i hiL
    obtain ⟨oa, ob, oc, od, hl⟩ := fits_op4 (hF _ (List.getElem_mem hiL)) hl4
    subst hq
    have cell := fun (w' : World) (hB : Below W.heap.size W w') (j : Nat) (v : Value) (hv : L[i][j]? = some v) => below_cell hB (hc4 j v hv)
    refine sm_some (if_of ⟨by omega, by omega⟩ ?_)
    rw [Int.toNat_natCast]
    refine ldI_of (cell w hM.bel 0 (.int .i64 oa) (by rw [hl]; rfl)) (ldI_of (cell w hM.bel 1 (.int .i64 ob) (by rw [hl]; rfl)) (ldI_of (cell w hM.bel 2 (.int .i64 oc) (by rw [hl]; rfl)) (ldI_of (cell w hM.bel 3 (.int .i64 od) (by rw [hl]; rfl)) ?_)))
    refine newC_b fun w1 hb1 hc1 hs1 => stCs_b (m := [(Value.int .i64 oa), (Value.int .i64 ob), (Value.int .i64 oc), (Value.int .i64 od)]) hb1 (by simp [one]) rfl fun w2 hb2 hc2 => ?_
    have k2 : Chg no w w2 := hc1.then hc2 fun k hk h => by omega
    have hz2 := k2.size
    have M2 := hM.chg k2
    have kd : Chg no w2 w2.drew := Chg.drew no w2
    have M2d := M2.chg kd
    have hb2d := hb2.chg kd fun h => h
    have nS8 : ¬ S w.heap.size := fun h => by have := hM.dis.a _ h; omega
    have nT8 : ¬ T w.heap.size := fun h => by have := hM.dis.b _ h; omega
    refine ldI_b (i := 0) hb2d rfl (ldI_b (i := 1) hb2d rfl (ldI_b (i := 0) hb2d rfl (ldI_b (i := 1) hb2d rfl ?_)))
    refine stage_Refine_ok (w := w2.drew) M2d.a fun w3 hS3 hc3 => ?_
    have hb3 := hb2d.chg hc3 nS8
    have hz3 := hc3.size
    refine ⟨hb3.cell (i := 1) rfl, hb3.cell (i := 0) rfl, ?_⟩
    have R3 := M2d.b.chg hc3 fun b hb hs => hM.dis.ab b hs hb
    have B3 := below_chg M2d.bel hc3 M2d.bel.size hM.lo1
    have hT2 := R3.inS
    refine ref07_Refine_ok R3 fun w4 hR4 hc4 => bif_f (by simp) ?_
    have hz4 := hc4.size
    have hb4 := hb3.chg hc4 fun h => by rw [h] at nT8; exact nT8 hT2
    have B4 := below_chg B3 hc4 B3.size fun b hb => by subst hb; exact hM.lo2 _ hT2
    have M4 : St2 W w4 S T b1 b2 (s.refine oa ob) := ⟨hS3.chg hc4 fun b hb e => hM.dis.ab b hb (by rw [e]; exact hT2), hR4, M2d.dis.size (by omega), hM.lo1, hM.lo2, B4⟩
    have rest : ∀ (s' : Sst) (w5 : World), St2 W w5 S T b1 b2 s' → Bl 32 w5 w.heap.size [(Value.int .i64 oa), (Value.int .i64 ob), (Value.int .i64 oc), (Value.int .i64 od)] → ∀ z8 : Nat, z8 = w.heap.size →
        ∃ N_60 : Nat, law07_StagePlays.l16 N_60 (some q) n c y2 y3 (some ⟨b1, 0, none⟩) (some ⟨b2, 0, none⟩) i ⟨z8, 0, none⟩ (-1) w5
            (fun o1_61 o1_61n o1_61c o2_62 o3_63 o9_64 o10_65 o11_66 w =>
              stage_Stage_At.f o9_64 o2_62 o3_63 w fun r102_69 w =>
              ref07_Stage_At.f o10_65 o2_62 o3_63 w fun r106_70 w =>
              bif (r102_69 != r106_70) then
                Kr false w
              else
                law07_StagePlays.l7 N o1_61 o1_61n o1_61c o2_62 o3_63 o9_64 o10_65 (IntKind.wrap .i64 (o11_66 + 1)) w K0 Kr)
            (fun o8_67 w => Kr o8_67 w) := by
      intro s' w5 M5 hb5 z8 hz8
      subst hz8
      refine ⟨36, law07_StagePlays_l16 (l := [(Value.int .i64 oa), (Value.int .i64 ob), (Value.int .i64 oc), (Value.int .i64 od)]) rfl (fun w6 M6 => ?_) 36 (-1) w5 (by omega) (by omega) (by omega) M5 hb5⟩
      refine stage_At_ok M6.a fun w7 hc7 => ref07_At_ok (M6.chg hc7).b fun w8 hc8 => bif_f (by simp) ?_
      rw [inc (by omega)]
      exact ih (i + 1) S T s' w8 (by omega) (by omega) ((M6.chg hc7).chg hc8)
    have lrn : (ldI .i64 ((⟨w.heap.size, 0, none⟩ : Addr).add 2) w4 fun x74_43 =>
              ldI .i64 ((⟨w.heap.size, 0, none⟩ : Addr).add 3) w4 fun x76_44 =>
              stage_Stage_Learn.f (some ⟨b1, 0, none⟩) x74_43 x76_44 w4 fun w5 =>
              ldI .i64 ((⟨w.heap.size, 0, none⟩ : Addr).add 2) w5 fun x80_45 =>
              ldI .i64 ((⟨w.heap.size, 0, none⟩ : Addr).add 3) w5 fun x82_46 =>
              ref07_Stage_Learn.f (some ⟨b2, 0, none⟩) x80_45 x82_46 w5 fun w5 =>
              ∃ N_60 : Nat, law07_StagePlays.l16 N_60 (some q) n c y2 y3 (some ⟨b1, 0, none⟩) (some ⟨b2, 0, none⟩) i ⟨w.heap.size, 0, none⟩ (-1) w5
            (fun o1_61 o1_61n o1_61c o2_62 o3_63 o9_64 o10_65 o11_66 w =>
              stage_Stage_At.f o9_64 o2_62 o3_63 w fun r102_69 w =>
              ref07_Stage_At.f o10_65 o2_62 o3_63 w fun r106_70 w =>
              bif (r102_69 != r106_70) then
                Kr false w
              else
                law07_StagePlays.l7 N o1_61 o1_61n o1_61c o2_62 o3_63 o9_64 o10_65 (IntKind.wrap .i64 (o11_66 + 1)) w K0 Kr)
            (fun o8_67 w => Kr o8_67 w)) := by
      refine ldI_b (i := 2) hb4 rfl (ldI_b (i := 3) hb4 rfl (stage_Learn_ok M4.a fun w5 hS5 hc5 => ?_))
      have hb5 := hb4.chg hc5 nS8
      have hz5 := hc5.size
      have B5 := below_chg B4 hc5 B4.size hM.lo1
      refine ldI_b (i := 2) hb5 rfl (ldI_b (i := 3) hb5 rfl (ref07_Learn_ok (M4.b.chg hc5 fun b hb hs => hM.dis.ab b hs hb) fun w6 hR6 hc6 => ?_))
      have hz6 := hc6.size
      exact rest _ w6 ⟨hS5.chg hc6 fun b hb ht => hM.dis.ab b hb ht, hR6, M4.dis.size (by omega), hM.lo1, hM.lo2, below_chg B5 hc6 B5.size hM.lo2⟩ (hb5.chg hc6 nT8) _ rfl
    dsimp only
    refine ldI_b (i := 2) hb4 rfl (cond_of (fun hb0 => ?_) (fun hb0 => ldI_b (i := 2) hb4 rfl (cond_of (fun hb1 => ?_) (fun hb1 => ?_))))
    · exact lrn
    · exact lrn
    · exact rest _ w4 M4 hb4 _ rfl
theorem law07_StagePlays_said {a : Int} {x : Option Addr} {n c : Nat} {u v : Int} {W : World} {K : Bool → World → Prop} (_ : (Lit.int .i64 a).wf = true) (f : Fits W (.slc (.st (.pair 1 (.int .i64) (.pair 1 (.int .i64) (.pair 1 (.int .i64) (.pair 1 (.int .i64) .unit))))) 4 32) [.slice x n c]) (_ : (Lit.int .i64 u).wf = true) (_ : (Lit.int .i64 v).wf = true)
    (hk : ∀ w', Below W.heap.size W w' → K true w') : law07_StagePlays.f a x n c u v W K := by
  obtain ⟨_, _, L, hL, hR, hF⟩ := f.rows
  unfold law07_StagePlays.f
  have main : ∀ z : Int, (stage_New.f z W fun r17_6 w =>
    ref07_New.f z w fun r19_7 w =>
    law07_awake.f  w fun r20_10 w =>
    bif (!r20_10) then
      K false w
    else
      bif r17_6.isNone then
        K false w
      else
        stage_Stage_At.f r17_6 u v w fun r30_11 w =>
        ref07_Stage_At.f r19_7 u v w fun r34_12 w =>
        bif (r30_11 != r34_12) then
          K false w
        else
          ∃ N_74 : Nat, law07_StagePlays.l7 N_74 x n c u v r17_6 r19_7 0 w
          (fun w => K true w)
          (fun o8_75 w => K o8_75 w)) := by
    intro z
    refine stage_New_ok fun b1 w1 hM hc1 => ref07_New_ok fun b2 w2 hR2 hc2 => law07_awake_ok fun w3 hc3 => bif_f rfl (bif_f rfl ?_)
    have hz1 := hc1.size; have hz2 := hc2.size; have hz3 := hc3.size
    have M3 : St2 W w3 (fun b => W.heap.size ≤ b ∧ b < w1.heap.size) (fun b => w1.heap.size ≤ b ∧ b < w2.heap.size) b1 b2 (sNew (mx 1 (mn z 1024)).toNat) :=
      ⟨(hM.chg hc2 fun _ _ h => h).chg hc3 fun _ _ h => h, hR2.chg hc3 fun _ _ h => h, ⟨fun y hy => by omega, fun y hy => by omega, fun y hy hy2 => by omega⟩, fun y hy => hy.1, fun y hy => by omega, below_no (Below.refl _ _) ((hc1.trans hc2).trans hc3) (Nat.le_refl _)⟩
    refine stage_At_ok M3.a fun w4 hc4 => ref07_At_ok (M3.chg hc4).b fun w5 hc5 => bif_f (by simp) ⟨201, ?_⟩
    exact law07_StagePlays_l7 hL hR hF hk 201 0 _ _ _ w5 (by omega) (by omega) ((M3.chg hc4).chg hc5)
  dsimp only
  exact cond_of (fun _ => main 50) (fun _ => main a)
end Go.Proofs.Ytdbnobeopgfhgaa.G
