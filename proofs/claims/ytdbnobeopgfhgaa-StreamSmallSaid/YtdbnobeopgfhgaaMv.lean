/- The stage, made; and its reference. -/
import Derived.Test.YtdbnobeopgfhgaaMs
set_option linter.unusedVariables false
set_option linter.unusedSimpArgs false
namespace Go.Proofs.Ytdbnobeopgfhgaa.G
open Go Go.Proofs.Ytdbnobeopgfhgaa.Vm Go.RowKit
abbrev sZ : List Int := List.replicate 33 0
theorem sZ_len : sZ.length = 33 := by simp [sZ]
theorem stage_New_l4 {w0 : World} {y3 : Addr} {b4 : Nat} {K : Addr → Addr → World → Prop} (hk : ∀ w, BlI .i64 63 w b4 sFirst → Chg (fun j => j = b4) w0 w → K y3 ⟨b4, 0, none⟩ w) (N : Nat) :
    ∀ (k : Nat) (w : World), k ≤ 33 → 33 - k < N → BlI .i64 63 w b4 (partR sFirst sZ 33 k) → Chg (fun j => j = b4) w0 w → stage_New.l4 N y3 ⟨b4, 0, none⟩ k w K := by
  induction N with
  | zero => intro k w h1 h2; omega
  | succ N ih =>
    intro k w h1 h2 hs hc
    rw [stage_New.l4]
    by_cases hlt : k < 33
    · refine bif_t (dec_t (by omega)) (mix_Squash_ok ?_)
      have e : IntKind.wrap .i64 (16 * sq (cl (IntKind.wrap .i64 (128 * IntKind.wrap .i64 ((k : Int) - 16))))) = sFirst.getD k 0 := by
        rw [List.getD_eq_getElem?_getD, sFirst_get hlt]; rfl
      rw [e]
      refine wrA hs k rfl (by rw [partR_len]; exact hlt) hlt fun w1 hb1 hc1 => ?_
      rw [inc (by omega)]
      rw [partR_set hlt] at hb1
      exact ih (k + 1) w1 (by omega) (by omega) hb1 (hc.trans hc1)
    · have : k = 33 := by omega
      subst this
      rw [partR_all sFirst_len] at hs
      exact bif_f (dec_f (by omega)) (hk w hs hc)
theorem stage_New_ok {w : World} {a : Int} {K : Option Addr → World → Prop}
    (hk : ∀ bt w', SS w' (fun b => w.heap.size ≤ b ∧ b < w'.heap.size) bt (sNew (mx 1 (mn a 1024)).toNat) → Chg no w w' → K (some ⟨bt, 0, none⟩) w') : stage_New.f a w K := by
  unfold stage_New.f
  have h1 := mx_bd 1 (mn a 1024)
  have h2 := mn_bd a 1024
  have h3 : mx 1 (mn a 1024) ≤ 1024 := by omega
  obtain ⟨n, hn⟩ : ∃ n : Nat, mx 1 (mn a 1024) = n := ⟨(mx 1 (mn a 1024)).toNat, by omega⟩
  rw [hn] at hk h1 h3 ⊢
  rw [Int.toNat_natCast] at hk
  have hln : (sNew n).T.length = n := by simp [sNew]
  generalize hzr : List.replicate 33 (Value.int .i64 0) = zr
  have hzr' : zr = sZ.map (Value.int .i64) := by rw [← hzr]; simp [sZ]
  refine mkL_z (by omega) (by omega) (by omega) (by omega) fun w1 hb1 hc1 hs1 => newC_b fun w2 hb2 hc2 hs2 => ?_
  subst hzr'
  refine newC_b fun w3 hb3 hc3 hs3 => ⟨34, ?_⟩
  rw [Int.toNat_natCast] at hb1 hb2
  have hb3' : BlI .i64 63 w3 w2.heap.size (partR sFirst sZ 33 0) := by
    rw [partR_zero sZ_len]; exact hb3
  refine stage_New_l4 (w0 := w3) (b4 := w2.heap.size) (fun w4 hf4 hc4 => ?_) 34 0 w3 (by omega) (by omega) hb3' (Chg.refl _ _)
  have hb24 := (hb2.chg hc3 fun h => h).chg hc4 fun h => by omega
  have hbs : BlI .i64 63 w4 w.heap.size (rowsI sFirst sZ n 0).flatten := by
    rw [rowsI_zero]
    have e := zrow_ints .i64 sZ n
    have hb1' : BlI .i64 63 w1 w.heap.size (List.replicate n sZ).flatten := by
      unfold BlI
      unfold Bl at hb1
      rw [← e]; exact hb1
    exact ((hb1'.chg hc2 fun h => h).chg hc3 fun h => h).chg hc4 fun h => by omega
  refine ldL_b (i := 0) hb24 rfl ⟨n + 1, ?_⟩
  have loop : ∀ (N i : Nat) (w' : World), i ≤ n → n - i < N → BlI .i64 63 w' w.heap.size (rowsI sFirst sZ n i).flatten → Chg (fun j => j = w.heap.size) w4 w' → stage_New.l9 N ⟨w1.heap.size, 0, none⟩ ⟨w2.heap.size, 0, none⟩ n i w' (fun o3 w => K (some o3) w) := by
    intro N
    induction N with
    | zero => intro i w' h1 h2; omega
    | succ N ih =>
      intro i w' hi hN hs hc
      rw [stage_New.l9]
      have hcd := hc.trans (Chg.drew _ w')
      have hb' := hb24.chg hc fun h => by omega
      have hb'd := hb24.chg hcd fun h => by omega
      have hf' := hf4.chg hcd fun h => by omega
      by_cases hlt : i < n
      · refine bif_t (dec_t (by omega)) (ldL_b (i := 0) hb'd rfl (ldA_b (w := w'.drew) hf' sFirst_len (sm_some (if_of ⟨by omega, by omega⟩ (if_of (by simp [sFirst_len]) ?_)))))
        have hr33 : ∀ r ∈ rowsI sFirst sZ n i, r.length = 33 := rowsI_w sFirst_len sZ_len
        have hfl := flat_length hr33
        rw [rowsI_len] at hfl
        have hsd : BlI .i64 63 w'.drew w.heap.size (rowsI sFirst sZ n i).flatten := hs
        rw [Int.toNat_natCast]
        have hin : i * 33 + 33 ≤ n * 33 := by omega
        refine stCs_ints hsd (by rw [hfl, sFirst_len]; omega) fun w5 hb5 hc5 => ?_
        rw [sFirst_len, flat_put hr33 (by rw [rowsI_len]; exact hlt), rowsI_set hlt] at hb5
        rw [inc (by omega)]
        exact ih (i + 1) w5 (by omega) (by omega) hb5 (hcd.trans hc5)
      · have : i = n := by omega
        subst this
        rw [rowsI_all] at hs
        have hz4 := hc4.size
        have hz := hc.size
        refine bif_f (dec_f (by omega)) (hk _ w' ⟨sNew_ok (by omega) (by omega), ⟨by omega, by omega⟩, w.heap.size, ⟨by omega, by omega⟩, by omega, ?_, hs⟩ ((((hc1.trans hc2).trans hc3).then hc4 fun k hk h => by omega).then hc fun k hk h => by omega))
        rw [hln]; exact hb'
  exact loop (n + 1) 0 w4 (by omega) (by omega) hbs (Chg.refl _ _)
/-! ### The reference -/
structure SR (w : World) (S : Nat → Prop) (bt : Nat) (s : Sst) : Prop where
  ok : Sok s
  inS : S bt
  cells : ∃ (A : Nat → Prop) (a : Option Addr) (c : Nat) (bs : List Nat), (∀ x, A x → S x ∧ x ≠ bt) ∧
    Bl 68 w bt [.slice a s.T.length c, .int .i64 s.set, .int .i64 s.step, .bool s.has] ∧ TabR .i64 3 37 A w a s.T.length c bs s.T
theorem SR.chg {S T : Nat → Prop} {w w' : World} {bt : Nat} {s : Sst} (h : SR w S bt s) (hc : Chg T w w') (hn : ∀ b, S b → ¬ T b) : SR w' S bt s := by
  obtain ⟨h0, h1, A, a, c, bs, hA, h2, h3⟩ := h
  exact ⟨h0, h1, A, a, c, bs, hA, h2.chg hc (hn _ h1), h3.chg hc fun b hb => hn b (hA b hb).1⟩
theorem SR.mono {S T : Nat → Prop} {w : World} {bt : Nat} {s : Sst} (h : SR w S bt s) (hs : ∀ b, S b → T b) : SR w T bt s := by
  obtain ⟨h0, h1, A, a, c, bs, hA, h2, h3⟩ := h
  exact ⟨h0, hs _ h1, A, a, c, bs, fun x hx => ⟨hs x (hA x hx).1, (hA x hx).2⟩, h2, h3⟩
theorem ref07_New_ok {w : World} {a : Int} {K : Option Addr → World → Prop}
    (hk : ∀ bt w', SR w' (fun b => w.heap.size ≤ b ∧ b < w'.heap.size) bt (sNew (mx 1 (mn a 1024)).toNat) → Chg no w w' → K (some ⟨bt, 0, none⟩) w') : ref07_New.f a w K := by
  unfold ref07_New.f
  have h1 := mx_bd 1 (mn a 1024)
  have h2 := mn_bd a 1024
  have h3 : mx 1 (mn a 1024) ≤ 1024 := by omega
  obtain ⟨n, hn⟩ : ∃ n : Nat, mx 1 (mn a 1024) = n := ⟨(mx 1 (mn a 1024)).toNat, by omega⟩
  rw [hn] at hk h1 h3
  rw [Int.toNat_natCast] at hk
  refine newC_b fun w1 hb1 hc1 hs1 => ⟨n + 1, ?_⟩
  have loop : ∀ (N i : Nat) (x : Option Addr) (c : Nat) (bs : List Nat) (w' : World), i ≤ n → n - i < N → Bl 68 w' w.heap.size [.slice x i c, .int .i64 0, .int .i64 0, .bool false] → TabR .i64 3 37 (fun b => w.heap.size + 1 ≤ b) w' x i c bs (List.replicate i sFirst) → Chg no w w' → w.heap.size + 1 ≤ w'.heap.size →
      (∀ b, x = some ⟨b, 0, none⟩ → b < w'.heap.size) → ref07_New.l3 N a ⟨w.heap.size, 0, none⟩ i w' (fun o3 w => K (some o3) w) := by
    intro N
    induction N with
    | zero => intro i x c bs w' h1 h2; omega
    | succ N ih =>
      intro i x c bs w' hi hN hb hT hc hz hxl
      rw [ref07_New.l3, hn]
      by_cases hlt : i < n
      · refine bif_t (dec_t (by omega)) ⟨34, ?_⟩
        have hbsl : ∀ b ∈ bs, b < w'.heap.size := fun b hb => by
          obtain ⟨j, hj, rfl⟩ := List.getElem_of_mem hb
          obtain ⟨_, xs, hx, _⟩ := hT.row j _ _ (List.getElem?_eq_getElem hj) (List.getElem?_eq_getElem (by rw [← hT.len]; exact hj))
          exact hx.bl.lt
        have inner : ∀ (M k : Nat) (y : Option Addr) (cy : Nat) (w2 : World), k ≤ 33 → 33 - k < M → Own .i64 3 (fun b => w'.heap.size ≤ b) w2 y k cy (sFirst.take k) → Chg no w' w2 →
            ref07_New.l7 M a ⟨w.heap.size, 0, none⟩ i y k cy k w2 (fun o0_19 o3_20 o4_21 o5_22 o5_22n o5_22c w =>
        ldL o3_20 w fun x27_23 x27_23n x27_23c =>
        newC 37 [(Value.slice o5_22 o5_22n o5_22c)] w fun a29_24 w =>
        appL 37 1 24 [(Value.slice none 0 0)] x27_23 x27_23n x27_23c (some a29_24) 1 1 w fun a30_25 a30_25n a30_25c w =>
        stC o3_20 (Value.slice a30_25 a30_25n a30_25c) w fun w =>
        let v4_26 := (IntKind.wrap .i64 (o4_21 + 1))
        ref07_New.l3 N o0_19 o3_20 v4_26 w (fun o3 w => K (some o3) w)) := by
          intro M
          induction M with
          | zero => intro k y cy w2 h1 h2; omega
          | succ M ihM =>
            intro k y cy w2 hk4 hM hy hc2
            rw [ref07_New.l7]
            by_cases hlt4 : k < 33
            · refine bif_t (dec_t (by omega)) (ref06_Squash_ok (newC_sl (k := .i64) (xs := [sFst k]) rfl fun p3 w3 hs3 hc3 hz3 _ => ?_))
              have hz2 := hc2.size
              refine apS (hy.chg hc3 fun _ _ h => h) hs3 rfl (by omega) (by omega) (by omega) fun y' cy' w4 hy4 hc4 => ?_
              dsimp only
              rw [inc (by omega)]
              refine ihM (k + 1) y' cy' w4 (by omega) (by omega) ?_ ((hc2.trans hc3).then hc4 fun j hj h => by omega)
              have e : sFirst.take k ++ [sFst k] = sFirst.take (k + 1) := by
                rw [List.take_succ_eq_append_getElem (by rw [sFirst_len]; exact hlt4)]
                congr 2
                have := sFirst_get hlt4
                rw [List.getElem?_eq_getElem (by rw [sFirst_len]; exact hlt4)] at this
                exact (Option.some.inj this).symm
              rw [e] at hy4; exact hy4
            · have : k = 33 := by omega
              subst this
              have hz2 := hc2.size
              rw [List.take_of_length_le (by rw [sFirst_len]; omega)] at hy
              refine bif_f (dec_f (by omega)) (ldL_b (i := 0) (hb.chg hc2 fun h => h) rfl (newC_b fun w3 hb3 hc3 hs3 => ?_))
              have hy3 := (hy.chg hc3 fun _ _ h => h).tight
              obtain ⟨b0, hyb⟩ : ∃ b0, y = some ⟨b0, 0, none⟩ := by
                rcases hy3 with ⟨_, h, _⟩ | ⟨b, _, h, _⟩
                · omega
                · exact ⟨b, h⟩
              subst hyb
              have hlo : w'.heap.size ≤ b0 := by
                rcases hy3 with ⟨h, _⟩ | ⟨b, _, h, hS, _⟩
                · cases h
                · cases h; exact hS.2
              have hrow : Own .i64 3 (fun b => b = b0) w3 (some ⟨b0, 0, none⟩) sFirst.length cy sFirst := by
                rw [sFirst_len]
                exact hy3.mono fun b hb _ => by
                  have := hb.1
                  simp at this
                  exact this.symm
              have hb3' : Bl 37 w3 w2.heap.size [.slice (some ⟨b0, 0, none⟩) sFirst.length cy] := by rw [sFirst_len]; exact hb3
              refine TabR.append (lo := w.heap.size + 1) ((hT.chg hc2 fun _ _ h => h).chg hc3 fun _ _ h => h) hrow (by omega) (fun b _ hxb e => by have := hxl b hxb; omega) (fun hm => by have := hbsl b0 hm; omega) hb3' (by omega) (by omega) fun a' c' w4 hT4 hc4 hblk => ?_
              have hz4 := hc4.size
              have hb4 := ((hb.chg hc2 fun h => h).chg hc3 fun h => h).chg hc4 fun h => by omega
              refine stC_b (i := 0) hb4 (by simp) fun w5 hb5 hc5 => ?_
              have hz5 := hc5.size
              dsimp only
              rw [inc (by omega)]
              refine ih (i + 1) a' c' (bs ++ [b0]) w5 (by omega) (by omega) hb5 ?_ (((hc.trans hc2).trans hc3).then hc4 (fun j hj h => by omega) |>.then hc5 fun j hj h => by have := hj; omega) (by omega) fun b hb => ?_
              · rw [List.replicate_succ']
                exact hT4.chg hc5 fun b hb e => by omega
              · rcases hblk b hb with h | h
                · have := hxl b h; omega
                · obtain ⟨hhs, ho, _, _⟩ := hT4.head
                  rcases ho with ⟨h0, _⟩ | ⟨b', xs, h0, _, hbb, _⟩
                  · rw [h0] at hb; cases hb
                  · rw [h0] at hb; cases hb
                    have := hbb.lt; omega
        exact inner 34 0 none 0 w' (by omega) (by omega) (Own.nil _ _ _ _) (Chg.refl _ _)
      · have : i = n := by omega
        subst this
        have hln : (sNew i).T.length = i := by simp [sNew]
        refine bif_f (dec_f (by omega)) (hk _ w' ⟨sNew_ok (by omega) (by omega), ⟨Nat.le_refl _, by omega⟩, fun b => w.heap.size + 1 ≤ b ∧ b < w'.heap.size, x, c, bs, fun x hx => ⟨⟨by omega, hx.2⟩, by omega⟩, ?_, ?_⟩ hc)
        · rw [hln]; exact hb
        · rw [hln]; exact hT.mono fun b hb hl => ⟨hb, hl⟩
  exact loop (n + 1) 0 none 0 [] w1 (by omega) (by omega) hb1 (TabR.nil _ _ _ _ _) hc1 (by omega) (fun b hb => by cases hb)
theorem tab_get2 {k : IntKind} {e eo : TypeId} {S : Nat → Prop} {w : World} {a : Option Addr} {n c i : Nat} {bs : List Nat} {L : List (List Int)} {x : Int} {l : List Int} {K : Addr → Option Addr → Nat → Nat → Prop} (h : TabR k e eo S w a n c bs L)
    (hx : x = i) (hl : L[i]? = some l) (hk : ∀ p b c', bs[i]? = some b → w.cell? (p.add i) = some (.slice (some ⟨b, 0, none⟩) l.length c') → K p (some ⟨b, 0, none⟩) l.length c') : sm a fun p => if 0 ≤ x ∧ x < (n : Int) then ldL (p.add x.toNat) w (K p) else False := by
  obtain ⟨hs, ho, h1, h2⟩ := h.head
  have hi : i < n := by rw [h.size]; exact (List.getElem?_eq_some_iff.1 hl).1
  have hg : hs[i]? = some (hs[i]'(by omega)) := List.getElem?_eq_getElem _
  have hb : bs[i]? = some (bs[i]'(by rw [h.len, ← h.size]; exact hi)) := List.getElem?_eq_getElem _
  obtain ⟨p, rfl, hc⟩ := ho.cell (i := i) (v := Hdr.v (hs[i]'(by omega))) (by rw [List.getElem?_map, hg]; rfl)
  have := h2 i _ _ l hg hb hl
  subst hx
  refine sm_some (if_of ⟨by omega, by omega⟩ ?_)
  rw [show Int.toNat (i : Int) = i by omega]
  refine ldL_of hc ?_
  unfold Hdr.v at hc
  rw [this.1, this.2] at hc ⊢
  exact hk p _ _ hb hc
theorem round_ok {n : Nat} {a : Int} {w : World} {K : Int → World → Prop} (h0 : 0 < n) (h1 : n ≤ 4096) (hk : K ((mPlace n a : Nat) : Int) w) : ref05_Round.f a n w K := by
  refine ref05_Round_ok h0 (by omega) ?_
  rw [← (mPlace_lt h0 a).2]; exact hk
theorem ref07_At_ok {w : World} {S : Nat → Prop} {bt : Nat} {s : Sst} {a k : Int} {K : Int → World → Prop} (h : SR w S bt s) (hk : ∀ w', Chg no w w' → K (s.at' a k) w') : ref07_Stage_At.f (some ⟨bt, 0, none⟩) a k w K := by
  obtain ⟨ok, h1, A, sa, sc, bs, hA, h2, h3⟩ := h
  unfold ref07_Stage_At.f
  have hp := mPlace_lt ok.n0 a
  have hq := mPlace_lt (n := 33) (by omega) k
  have n0 := ok.n0; have n1 := ok.n1
  have h2d : Bl 68 w.drew bt [.slice sa s.T.length sc, .int .i64 s.set, .int .i64 s.step, .bool s.has] := h2
  have h3d := h3.chg (Chg.drew no w) fun _ _ h => h
  refine sm_some (ldL_b (i := 0) h2d rfl (sm_some (ldL_b (i := 0) h2d rfl ?_)))
  refine round_ok (n := s.T.length) ok.n0 (by omega) ⟨h2d.cell (i := 0) rfl, h2d.cell (i := 0) rfl, ?_⟩
  refine tab_get2 h3d rfl (rowD hp.1) fun p b c' hbs hcell => ?_
  rw [ok.row hp.1] at hcell ⊢
  refine round_ok (n := 33) (by omega) (by omega) ?_
  rw [Int.toNat_natCast]
  refine ⟨hcell, h2d.cell (i := 0) rfl, h2d.cell (i := 0) rfl, ?_⟩
  exact rdV (h3d.blk hbs (rowD hp.1)) (mPlace 33 k) rfl (ok.row hp.1) (getDs (by rw [ok.row hp.1]; exact hq.1)) fun _ _ => hk _ (Chg.drew _ _)
theorem ref07_Refine_ok {w : World} {S : Nat → Prop} {bt : Nat} {s : Sst} {c a : Int} {K : Int → World → Prop} (h : SR w S bt s) (hk : ∀ w', SR w' S bt (s.refine c a) → Chg (fun j => j = bt) w w' → K (s.told c a) w') : ref07_Stage_Refine.f (some ⟨bt, 0, none⟩) c a w K := by
  obtain ⟨ok, h1, A, sa, sc, bs, hA, h2, h3⟩ := h
  unfold ref07_Stage_Refine.f
  have hp := mPlace_lt ok.n0 a
  have n0 := ok.n0; have n1 := ok.n1
  refine ref06_Stretch_v ?_
  have hb := strV_bd c
  obtain ⟨k31, r128, hkr⟩ := sK_bd c
  have ev : IntKind.wrap .i64 (strV c + 2048) = ((128 * sK c + sR c : Nat) : Int) := by rw [w64 (by omega) (by omega)]; omega
  have ek : IntKind.wrap .i64 (Int.tdiv ((128 * sK c + sR c : Nat) : Int) 128) = (sK c : Int) := by
    rw [Int.tdiv_eq_ediv_of_nonneg (by omega), show ((128 * sK c + sR c : Nat) : Int) / 128 = (sK c : Int) by omega, w64 (by omega) (by omega)]
  have er : Int.tmod ((128 * sK c + sR c : Nat) : Int) 128 = (sR c : Int) := by
    rw [Int.tmod_eq_emod_of_nonneg (by omega)]; omega
  have ek1 : IntKind.wrap .i64 ((sK c : Int) + 1) = ((sK c + 1 : Nat) : Int) := by rw [w64 (by omega) (by omega)]; omega
  dsimp only
  rw [ev, ek, er, ek1]
  refine sm_some (ldL_b (i := 0) h2 rfl (round_ok (n := s.T.length) ok.n0 (by omega) (sm_some ?_)))
  refine stC_b (i := 1) h2 (by simp) fun w1 hb1 hc1 => sm_some (stC_b (i := 2) hb1 (by simp) fun w2 hb2 hc2 => sm_some (stC_b (i := 3) hb2 (by simp) fun w3 hb3 hc3 => ?_))
  have k3 : Chg (fun j => j = bt) w w3 := (hc1.trans hc2).trans hc3
  have okr := ok.refine c a
  have fin : ∀ (w4 : World) (st : Nat), st = (s.refine c a).step → Bl 68 w4 bt [.slice sa s.T.length sc, .int .i64 (mPlace s.T.length a : Nat), .int .i64 st, .bool true] → Chg (fun j => j = bt) w w4 →
      (sm (some (⟨bt, 0, none⟩ : Addr)) fun p_19 =>
    ldL p_19 w4.drew fun x45_20 x45_20n x45_20c =>
    sm (some (⟨bt, 0, none⟩ : Addr)) fun p_21 =>
    ldI .i64 (p_21.add 1) w4.drew fun x49_22 =>
    sm x45_20 fun p_23 =>
    if 0 ≤ (x49_22 : Int) ∧ (x49_22 : Int) < ((x45_20n : Nat) : Int) then
    ldL (p_23.add (Int.toNat x49_22)) w4.drew fun x51_24 x51_24n x51_24c =>
    sm x51_24 fun p_26 =>
    if 0 ≤ ((sK c : Nat) : Int) ∧ ((sK c : Nat) : Int) < ((x51_24n : Nat) : Int) then
    ldI .i64 (p_26.add (Int.toNat ((sK c : Nat) : Int))) w4.drew.drew fun x55_27 =>
    sm x51_24 fun p_28 =>
    if 0 ≤ ((sK c + 1 : Nat) : Int) ∧ ((sK c + 1 : Nat) : Int) < ((x51_24n : Nat) : Int) then
    ldI .i64 (p_28.add (Int.toNat ((sK c + 1 : Nat) : Int))) w4.drew.drew fun x63_29 =>
    K (mx 1 (mn (shr .i64 (IntKind.wrap .i64 ((IntKind.wrap .i64 (x55_27 * (IntKind.wrap .i64 (128 - (sR c : Int))))) + (IntKind.wrap .i64 (x63_29 * (sR c : Int))))) 11) 4095)) w4.drew.drew
    else False
    else False
    else False) := by
    intro w4 st hst hb4 hc4
    have k4 : Chg (fun j => j = bt) w w4.drew := hc4.trans (Chg.drew _ w4)
    have k4d : Chg (fun j => j = bt) w w4.drew.drew := k4.trans (Chg.drew _ w4.drew)
    have hb4d : Bl 68 w4.drew bt [.slice sa s.T.length sc, .int .i64 (mPlace s.T.length a : Nat), .int .i64 st, .bool true] := hb4
    have h3d := h3.chg k4 fun b hb e => (hA b hb).2 e
    have h3dd := h3.chg k4d fun b hb e => (hA b hb).2 e
    refine sm_some (ldL_b (i := 0) hb4d rfl (sm_some (ldI_b (i := 1) hb4d rfl ?_)))
    refine TabR.get h3d rfl (rowD hp.1) fun _ b c' hbs => ?_
    rw [ok.row hp.1]
    have hs := h3dd.blk hbs (rowD hp.1)
    refine rdV (w := w4.drew.drew) hs (sK c) rfl (ok.row hp.1) (getDs (by rw [ok.row hp.1]; omega)) fun _ _ => rdV (w := w4.drew.drew) hs (sK c + 1) rfl (ok.row hp.1) (getDs (by rw [ok.row hp.1]; omega)) fun _ _ => ?_
    refine hk w4.drew.drew ⟨okr, h1, A, sa, sc, bs, hA, ?_, h3dd⟩ k4d
    rw [← hst]; exact hb4d
  refine cond_of (fun hh => ?_) (fun hh => ?_)
  · have h64 : 64 ≤ sR c := by have := of_decide_eq_true hh; omega
    exact sm_some (stC_b (i := 2) hb3 (by simp) fun w4 hb4 hc4 => fin w4 (sK c + 1) (by unfold Sst.refine; dsimp only; rw [if_pos h64]) hb4 (k3.trans hc4))
  · have h64 : ¬ 64 ≤ sR c := by have := of_decide_eq_false hh; omega
    exact fin w3 (sK c) (by unfold Sst.refine; dsimp only; rw [if_neg h64]) hb3 k3
theorem ref07_Learn_ok {w : World} {S : Nat → Prop} {bt : Nat} {s : Sst} {b r : Int} {K : World → Prop} (h : SR w S bt s) (hk : ∀ w', SR w' S bt (s.learn b r) → Chg S w w' → K w') : ref07_Stage_Learn.f (some ⟨bt, 0, none⟩) b r w K := by
  obtain ⟨ok, h1, A, sa, sc, bs, hA, h2, h3⟩ := h
  unfold ref07_Stage_Learn.f
  have okl := ok.learn b r
  refine sm_some (ldB_b (i := 3) h2 rfl (cond_of (fun hh => ?_) (fun hh => ?_)))
  · have hf : s.has = false := by simpa using hh
    have e : s.learn b r = s := by unfold Sst.learn; rw [hf]; rfl
    rw [e] at hk
    exact hk w ⟨ok, h1, A, sa, sc, bs, hA, h2, h3⟩ (Chg.refl _ _)
  · have hf : s.has = true := by simpa using hh
    have e : s.learn b r = { s with T := s.T.set s.set ((s.T.getD s.set []).set s.step (sUp ((s.T.getD s.set []).getD s.step 0) b r)) } := by unfold Sst.learn; rw [hf]; rfl
    rw [e] at hk okl
    have h2d : Bl 68 w.drew bt [.slice sa s.T.length sc, .int .i64 s.set, .int .i64 s.step, .bool s.has] := h2
    have h2dd : Bl 68 w.drew.drew bt [.slice sa s.T.length sc, .int .i64 s.set, .int .i64 s.step, .bool s.has] := h2
    have h3d := h3.chg (Chg.drew no w) fun _ _ h => h
    have h3dd := h3d.chg (Chg.drew no w.drew) fun _ _ h => h
    have hset := ok.set; have hstep := ok.step
    have hrow := ok.row hset
    have fin : ∀ v : Int, v = (if b ≠ 0 then 65535 else 0) → (sm (some (⟨bt, 0, none⟩ : Addr)) fun p_10 =>
      ldL p_10 w.drew fun x18_11 x18_11n x18_11c =>
      sm (some (⟨bt, 0, none⟩ : Addr)) fun p_12 =>
      ldI .i64 (p_12.add 1) w.drew fun x22_13 =>
      sm x18_11 fun p_14 =>
      if 0 ≤ (x22_13 : Int) ∧ (x22_13 : Int) < ((x18_11n : Nat) : Int) then
      ldL (p_14.add (Int.toNat x22_13)) w.drew fun x24_15 x24_15n x24_15c =>
      sm (some (⟨bt, 0, none⟩ : Addr)) fun p_16 =>
      ldI .i64 (p_16.add 2) w.drew.drew fun x29_17 =>
      sm (some (⟨bt, 0, none⟩ : Addr)) fun p_18 =>
      ldI .i64 (p_18.add 2) w.drew.drew fun x34_19 =>
      sm x24_15 fun p_20 =>
      if 0 ≤ (x34_19 : Int) ∧ (x34_19 : Int) < ((x24_15n : Nat) : Int) then
      ldI .i64 (p_20.add (Int.toNat x34_19)) w.drew.drew fun x36_21 =>
      sm (some (⟨bt, 0, none⟩ : Addr)) fun p_22 =>
      ldI .i64 (p_22.add 2) w.drew.drew fun x42_23 =>
      sm x24_15 fun p_24 =>
      if 0 ≤ (x42_23 : Int) ∧ (x42_23 : Int) < ((x24_15n : Nat) : Int) then
      ldI .i64 (p_24.add (Int.toNat x42_23)) w.drew.drew fun x44_25 =>
      if (IntKind.wrap .u64 (mx 1 (mn r 15))) < 0 then False else
      sm x24_15 fun p_26 =>
      if 0 ≤ (x29_17 : Int) ∧ (x29_17 : Int) < ((x24_15n : Nat) : Int) then
      stC (p_26.add (Int.toNat x29_17)) (Value.int .i64 (IntKind.wrap .i64 (x36_21 + (shr .i64 (IntKind.wrap .i64 (v - x44_25)) (min (Int.toNat (IntKind.wrap .u64 (mx 1 (mn r 15)))) (IntKind.bits .i64)))))) w.drew.drew fun w =>
      K w
      else False
      else False
      else False
      else False) := by
      intro v hv
      have hmx := mx_bd 1 (mn r 15)
      have hmn := mn_bd r 15
      rw [wu64 (a := mx 1 (mn r 15)) (by omega) (by omega)]
      refine sm_some (ldL_b (i := 0) h2d rfl (sm_some (ldI_b (i := 1) h2d rfl ?_)))
      refine TabR.get h3d rfl (rowD hset) fun _ bb c' hbs => ?_
      rw [hrow]
      have hs := h3dd.blk hbs (rowD hset)
      have hv1 := getDs (xs := s.T.getD s.set []) (i := s.step) (by rw [hrow]; exact hstep)
      refine sm_some (ldI_b (i := 2) h2dd rfl (sm_some (ldI_b (i := 2) h2dd rfl (rdV (w := w.drew.drew) hs s.step rfl hrow hv1 fun _ _ => sm_some (ldI_b (i := 2) h2dd rfl (rdV (w := w.drew.drew) hs s.step rfl hrow hv1 fun _ _ => ?_))))))
      rw [if_neg (by omega), hv]
      refine sm_some (if_of ⟨by omega, by omega⟩ ?_)
      rw [Int.toNat_natCast]
      refine TabR.put (v := sUp ((s.T.getD s.set []).getD s.step 0) b r) h3dd hbs (rowD hset) (by rw [hrow]; exact hstep) fun w1 hT1 hc1 => ?_
      have k1 : Chg A w w1 := ((Chg.drew _ w).trans (Chg.drew _ w.drew)).trans (hc1.mono fun x hx => hx.2)
      refine hk w1 ⟨okl, h1, A, sa, sc, bs, hA, ?_, ?_⟩ (k1.mono fun x hx => (hA x hx).1)
      · dsimp only; rw [List.length_set]; exact h2.chg k1 fun h => (hA bt h).2 rfl
      · dsimp only; rw [List.length_set]; exact hT1
    dsimp only
    refine cond_of (fun hb => ?_) (fun hb => ?_)
    · have : b ≠ 0 := by simpa using hb
      exact fin 65535 (by rw [if_pos this])
    · have : b = 0 := by simpa using hb
      exact fin 0 (by rw [if_neg (by simpa using this)])
end Go.Proofs.Ytdbnobeopgfhgaa.G
