/- The mixer's reference: mixing and learning. -/
import Derived.Test.YtdbnobeopgfhgaaMn
set_option linter.unusedVariables false
set_option linter.unusedSimpArgs false
namespace Go.Proofs.Ytdbnobeopgfhgaa.G
open Go Go.Proofs.Ytdbnobeopgfhgaa.Vm Go.RowKit
theorem ref06_Mix_l4 {w0 : World} {bt lo : Nat} {W : List (List Int)} {set : Nat} {told : Int} {xs : List Int} {x : Option Addr} {n c : Nat} {a : Option Addr} {ca : Nat} {bs : List Nat} {A : Nat → Prop} {K0 : Option Addr → Int → World → Prop} (hW : ∀ r ∈ W, r.length = 4) (hset : set < W.length)
    (hlo : lo ≤ w0.heap.size) (hbt : bt < lo) (hA : ∀ b, A b → b < lo ∧ b ≠ bt) (hx : SlI .i64 w0 x xs) (hxb : ∀ p, x = some p → xs ≠ [] → p.block ≠ bt ∧ p.block < lo) (hxl : xs.length = n) (hT : TabR .i64 3 37 A w0 a W.length ca bs W)
    (hk : ∀ ia ic w, Bl 122 w bt [.slice a W.length ca, .slice ia 4 ic, .int .i64 set, .int .i64 told, .bool true] → Own .i64 3 (fun b => lo ≤ b) w ia 4 ic (mIns xs) → Chg (fun j => j = bt ∨ lo ≤ j) w0 w → K0 (some ⟨bt, 0, none⟩) (mSum (mIns xs) (W.getD set []) 4) w) (N : Nat) :
    ∀ (k : Nat) (ia : Option Addr) (ic : Nat) (w : World), k ≤ 4 → 4 - k < N → Bl 122 w bt [.slice a W.length ca, .slice ia k ic, .int .i64 set, .int .i64 told, .bool true] → Own .i64 3 (fun b => lo ≤ b) w ia k ic ((mIns xs).take k) → Chg (fun j => j = bt ∨ lo ≤ j) w0 w →
      ref06_Mixer_Mix.l4 N (some ⟨bt, 0, none⟩) x n c (mSum (mIns xs) (W.getD set []) k) k w K0 := by
  induction N with
  | zero => intro k ia ic w h1 h2; omega
  | succ N ih =>
    intro k ia ic w h1 h2 hb ho hc
    rw [ref06_Mixer_Mix.l4]
    by_cases hlt : k < 4
    · have hsz := hc.size
      have tail : ∀ v : Int, v = mIn xs k → (sm (some (⟨bt, 0, none⟩ : Addr)) fun p_23 =>
        ldL (p_23.add 1) w fun x44_24 x44_24n x44_24c =>
        newC 3 [(Value.int .i64 v)] w fun a46_25 w =>
        appL 3 1 8 [(Value.int .i64 0)] x44_24 x44_24n x44_24c (some a46_25) 1 1 w fun a47_26 a47_26n a47_26c w =>
        sm (some (⟨bt, 0, none⟩ : Addr)) fun p_27 =>
        stC (p_27.add 1) (Value.slice a47_26 a47_26n a47_26c) w fun w =>
        sm (some (⟨bt, 0, none⟩ : Addr)) fun p_28 =>
        ldL p_28 w.drew fun x55_29 x55_29n x55_29c =>
        sm (some (⟨bt, 0, none⟩ : Addr)) fun p_30 =>
        ldI .i64 (p_30.add 2) w.drew fun x59_31 =>
        sm x55_29 fun p_32 =>
        if 0 ≤ (x59_31 : Int) ∧ (x59_31 : Int) < ((x55_29n : Nat) : Int) then
        ldL (p_32.add (Int.toNat x59_31)) w.drew fun x61_33 x61_33n x61_33c =>
        sm x61_33 fun p_34 =>
        if 0 ≤ (k : Int) ∧ (k : Int) < ((x61_33n : Nat) : Int) then
        ldI .i64 (p_34.add (Int.toNat (k : Int))) w.drew fun x64_35 =>
        ref06_Mixer_Mix.l4 N (some ⟨bt, 0, none⟩) x n c (IntKind.wrap .i64 (mSum (mIns xs) (W.getD set []) k + (IntKind.wrap .i64 (v * x64_35)))) (IntKind.wrap .i64 ((k : Int) + 1)) w.drew K0
        else False
        else False) := by
        intro v hv
        refine sm_some (ldL_b (i := 1) hb rfl (newC_sl (k := .i64) (xs := [v]) rfl fun p1 w1 hs1 hc1 hz1 _ => ?_))
        refine apS (ho.chg hc1 fun _ _ h => h) hs1 rfl (by omega) (by omega) (by omega) fun ia' ic' w2 ho2 hc2 => sm_some ?_
        have hb2 := (hb.chg hc1 fun h => h).chg hc2 fun h => by omega
        refine stC_b (i := 1) hb2 (by simp) fun w3 hb3 hc3 => ?_
        have hb3d : Bl 122 w3.drew bt [.slice a W.length ca, .slice ia' (k + 1) ic', .int .i64 set, .int .i64 told, .bool true] := hb3
        have k3 : Chg (fun j => j = bt ∨ lo ≤ j) w0 w3.drew := (((hc.trans (hc1.mono fun _ h => h.elim)).trans (hc2.mono fun b hb => .inr hb)).trans (hc3.mono fun b hb => .inl hb)).trans (Chg.drew _ w3)
        have hT3 := hT.chg k3 fun b hb hh => by
          have := hA b hb
          rcases hh with hh | hh
          · exact this.2 hh
          · omega
        have ho3 : Own .i64 3 (fun b => lo ≤ b) w3.drew ia' (k + 1) ic' ((mIns xs).take k ++ [v]) := (ho2.chg hc3 fun b hb e => by
          change b = bt at e
          omega).chg (Chg.drew no w3) fun _ _ h => h
        refine sm_some (ldL_b (i := 0) hb3d rfl (sm_some (ldI_b (i := 2) hb3d rfl ?_)))
        refine TabR.get hT3 rfl (rowD hset) fun _ b c' hbs => ?_
        have hrow := hW _ (rowD_mem hset)
        refine rdV (w := w3.drew) (hT3.blk hbs (rowD hset)) k rfl rfl (getDs (by omega)) fun _ _ => ?_
        rw [inc (by omega)]
        have e : (mIns xs).take k ++ [v] = (mIns xs).take (k + 1) := by
          rw [hv, List.take_succ_eq_append_getElem (by rw [mIns_len]; exact hlt)]
          congr 2
          have := mIns_get (xs := xs) hlt
          rw [List.getElem?_eq_getElem (by rw [mIns_len]; exact hlt)] at this
          exact (Option.some.inj this).symm
        rw [e] at ho3
        have := ih (k + 1) ia' ic' w3.drew (by omega) (by omega) hb3d ho3 k3
        rw [mSum, mIns_getD hlt] at this
        rw [hv]
        exact this
      refine bif_t (dec_t (by omega)) ?_
      dsimp only
      refine cond_of (fun hh => ?_) (fun hh => ?_)
      · have hkn : k < n := by have := of_decide_eq_true hh; omega
        refine rdV (hx.chg hc fun p hp hne hh => by
          have := hxb p hp hne
          rcases hh with hh | hh
          · exact this.1 hh
          · omega) k rfl hxl (getDs (by omega)) fun _ _ => ?_
        exact tail _ (by unfold mIn; rw [if_pos (by omega)]; rfl)
      · have hkn : ¬ k < n := by have := of_decide_eq_false hh; omega
        exact tail _ (by unfold mIn; rw [if_neg (by omega)])
    · have : k = 4 := by omega
      subst this
      rw [List.take_of_length_le (by rw [mIns_len]; omega)] at ho
      exact bif_f (dec_f (by omega)) (hk ia ic w hb ho hc)
theorem ref06_Mix_ok {w : World} {S : Nat → Prop} {bt : Nat} {s : Mst} {a : Int} {x : Option Addr} {n c : Nat} {xs : List Int} {K : Int → World → Prop} (h : MR w S bt s) (hlt : ∀ b, S b → b < w.heap.size) (hx : SlI .i64 w x xs) (hxS : ∀ p, x = some p → xs ≠ [] → ¬ S p.block) (hxl : xs.length = n)
    (hk : ∀ w', MR w' (gr S w w') bt (s.mix a xs) → Chg (fun j => j = bt) w w' → K (s.mix a xs).told w') : ref06_Mixer_Mix.f (some ⟨bt, 0, none⟩) a x n c w K := by
  obtain ⟨ok, h1, A, B, sa, sc, bs, ia, il, ic, hA, hB, h2, h3, h4⟩ := h
  unfold ref06_Mixer_Mix.f
  have hp := mPlace_lt ok.n0 a
  have hbt := hlt bt h1
  have h3' := h3.mono (T := fun b => A b ∧ b < w.heap.size) fun b hb hl => ⟨hb, hl⟩
  have n0 := ok.n0; have n1 := ok.n1
  refine sm_some (ldL_b (i := 0) h2 rfl (ref05_Round_ok (by omega) (by omega) (sm_some ?_)))
  rw [← hp.2]
  refine stC_b (i := 2) h2 (by simp) fun w1 hb1 hc1 => sm_some (stC_b (i := 1) hb1 (by simp) fun w2 hb2 hc2 => sm_some (stC_b (i := 4) hb2 (by simp) fun w3 hb3 hc3 => ⟨5, ?_⟩))
  have k3 := (hc1.trans hc2).trans hc3
  have hz3 := k3.size
  have old : ∀ p, x = some p → xs ≠ [] → p.block < w.heap.size := fun p hp hne => by
    obtain ⟨q, hq, hcq⟩ := hx 0 (List.length_pos_iff.2 hne)
    rw [hp] at hq; cases hq
    have := block_lt hcq
    rw [add_block] at this
    exact this
  refine ref06_Mix_l4 (w0 := w3) (lo := w.heap.size) (set := mPlace s.W.length a) (told := s.told) ok.w4 hp.1 hz3 hbt (A := fun b => A b ∧ b < w.heap.size) (fun b hb => ⟨hb.2, (hA b hb.1).2.1⟩) (hx.chg k3 fun p hp hne e => hxS p hp hne (by
      change p.block = bt at e
      rw [e]; exact h1))
    (fun p hp hne => ⟨fun e => hxS p hp hne (by rw [e]; exact h1), old p hp hne⟩) hxl (h3'.chg k3 fun b hb e => by
      change b = bt at e
      exact (hA b hb.1).2.1 e) (fun ia' ic' w4 hb4 ho4 hc4 => ?_) 5 0 none 0 w3 (by omega) (by omega) hb3 (Own.nil _ _ _ _) (Chg.refl _ _)
  refine ref06_Squash_ok (sm_some (stC_b (i := 3) hb4 (by simp) fun w5 hb5 hc5 => sm_some (ldI_b (i := 3) hb5 rfl (hk w5 ⟨ok.mix a xs, .inl h1, fun b => A b ∧ b < w.heap.size, fun b => w.heap.size ≤ b ∧ b < w5.heap.size, sa, sc, bs, ia', 4, ic', ?_, ?_, hb5, ?_, ?_⟩ ?_))))
  · intro b hb
    exact ⟨.inl (hA b hb.1).1, (hA b hb.1).2.1, fun h => by omega⟩
  · intro b hb
    exact ⟨.inr hb, by omega⟩
  · refine ((h3'.chg k3 fun b hb e => ?_).chg hc4 fun b hb e => ?_).chg hc5 fun b hb e => ?_
    · change b = bt at e; exact (hA b hb.1).2.1 e
    · rcases e with e | e
      · exact (hA b hb.1).2.1 e
      · omega
    · change b = bt at e; exact (hA b hb.1).2.1 e
  · refine (ho4.chg hc5 fun b hb e => ?_).mono fun b hb hl => ⟨hb, hl⟩
    change b = bt at e; omega
  · refine (k3.then hc4 fun j hj hh => ?_).trans hc5
    rcases hh with hh | hh
    · exact hh
    · omega
theorem ref06_Learn_l6 {w0 : World} {bt b : Nat} {s : Mst} {e : Int} {a : Option Addr} {c : Nat} {bs : List Nat} {A B : Nat → Prop} {ia : Option Addr} {il ic c5 : Nat} {K0 : World → Prop} (ok : Mok s) (hA : ∀ x, A x → x ≠ bt ∧ ¬ B x) (hB : ∀ x, B x → x ≠ bt)
    (hb : Bl 122 w0 bt [.slice a s.W.length c, .slice ia il ic, .int .i64 s.set, .int .i64 s.told, .bool s.has]) (hi : Own .i64 3 B w0 ia il ic s.ins) (hbs : bs[s.set]? = some b)
    (hk : ∀ w, TabR .i64 3 37 A w a s.W.length c bs (s.W.set s.set (mRow s.ins (s.W.getD s.set []) e 4)) → Chg A w0 w → K0 w) (N : Nat) :
    ∀ (k : Nat) (w : World), k ≤ 4 → 4 - k < N → TabR .i64 3 37 A w a s.W.length c bs (s.W.set s.set (mRow s.ins (s.W.getD s.set []) e k)) → Chg A w0 w → ref06_Mixer_Learn.l6 N (some ⟨bt, 0, none⟩) e (some ⟨b, 0, none⟩) 4 c5 k w K0 := by
  have hrow := ok.row ok.set
  have i4 := ok.i4
  induction N with
  | zero => intro k w h1 h2; omega
  | succ N ih =>
    intro k w h1 h2 hT hc
    rw [ref06_Mixer_Learn.l6]
    by_cases hlt : k < 4
    · have kd := hc.trans (Chg.drew _ w)
      have hbd := hb.chg kd fun h => (hA bt h).1 rfl
      have hid := hi.chg kd fun x hx hx2 => (hA x hx2).2 hx
      have hTd := hT.chg (Chg.drew no w) fun _ _ h => h
      have hg : (s.W.set s.set (mRow s.ins (s.W.getD s.set []) e k))[s.set]? = some (mRow s.ins (s.W.getD s.set []) e k) := List.getElem?_set_self ok.set
      have hv : (mRow s.ins (s.W.getD s.set []) e k)[k]? = some ((s.W.getD s.set []).getD k 0) := by rw [mRow_get hlt, if_neg (by omega)]
      have il4 : il = 4 := by have := hi.length; omega
      refine bif_t (dec_t (by omega)) (rdV (w := w.drew) (hTd.blk hbs hg) k rfl (mRow_len _ _ _ _) hv fun _ _ => ?_)
      refine sm_some (ldL_b (i := 1) hbd rfl (rdV (w := w.drew) hid.sl k rfl (by omega) (getDs (by omega)) fun _ _ => sm_some (if_of ⟨by omega, by omega⟩ ?_)))
      rw [Int.toNat_natCast]
      refine TabR.put (v := mW s.ins (s.W.getD s.set []) e k) hTd hbs hg (by rw [mRow_len]; exact hlt) fun w1 hT1 hc1 => ?_
      dsimp only
      rw [inc (by omega)]
      rw [List.set_set, mRow_set hlt] at hT1
      exact ih (k + 1) w1 (by omega) (by omega) hT1 (kd.trans (hc1.mono fun x hx => hx.2))
    · have : k = 4 := by omega
      subst this
      exact bif_f (dec_f (by omega)) (hk w hT hc)
theorem ref06_Learn_ok {w : World} {S : Nat → Prop} {bt : Nat} {s : Mst} {b : Int} {K : World → Prop} (h : MR w S bt s) (hk : ∀ w', MR w' S bt (s.learn b) → Chg S w w' → K w') : ref06_Mixer_Learn.f (some ⟨bt, 0, none⟩) b w K := by
  obtain ⟨ok, h1, A, B, sa, sc, bs, ia, il, ic, hA, hB, h2, h3, h4⟩ := h
  unfold ref06_Mixer_Learn.f
  have okl := ok.learn b
  refine sm_some (ldB_b (i := 4) h2 rfl (cond_of (fun hh => ?_) (fun hh => ?_)))
  · have hf : s.has = false := by simpa using hh
    have e : s.learn b = s := by unfold Mst.learn; rw [hf]; rfl
    rw [e] at hk
    exact hk w ⟨ok, h1, A, B, sa, sc, bs, ia, il, ic, hA, hB, h2, h3, h4⟩ (Chg.refl _ _)
  · have hf : s.has = true := by simpa using hh
    have e : s.learn b = { s with W := s.W.set s.set (mRow s.ins (s.W.getD s.set []) (mE b s.told) 4) } := by unfold Mst.learn; rw [hf]; rfl
    rw [e] at hk okl
    have h4' : Own .i64 3 B w ia il ic s.ins := by rw [hf] at h4; exact h4
    have fin : ∀ v : Int, v = mE b s.told → (sm (some (⟨bt, 0, none⟩ : Addr)) fun p_16 =>
      ldL p_16 w.drew fun x29_17 x29_17n x29_17c =>
      sm (some (⟨bt, 0, none⟩ : Addr)) fun p_18 =>
      ldI .i64 (p_18.add 2) w.drew fun x33_19 =>
      sm x29_17 fun p_20 =>
      if 0 ≤ (x33_19 : Int) ∧ (x33_19 : Int) < ((x29_17n : Nat) : Int) then
      ldL (p_20.add (Int.toNat x33_19)) w.drew fun x35_21 x35_21n x35_21c =>
      ∃ N_34 : Nat, ref06_Mixer_Learn.l6 N_34 (some ⟨bt, 0, none⟩) v x35_21 x35_21n x35_21c 0 w.drew
      (fun w => K w)
      else False) := by
      intro v hv
      have h2d : Bl 122 w.drew bt [.slice sa s.W.length sc, .slice ia il ic, .int .i64 s.set, .int .i64 s.told, .bool s.has] := h2
      have h3d := h3.chg (Chg.drew no w) fun _ _ h => h
      refine sm_some (ldL_b (i := 0) h2d rfl (sm_some (ldI_b (i := 2) h2d rfl ?_)))
      refine TabR.get h3d rfl (rowD ok.set) fun _ b' c' hbs => ⟨5, ?_⟩
      rw [ok.row ok.set, hv]
      refine ref06_Learn_l6 (w0 := w.drew) (A := A) (B := B) ok (fun x hx => (hA x hx).2) (fun x hx => (hB x hx).2) h2d (h4'.chg (Chg.drew no w) fun _ _ h => h) hbs (fun w1 hT1 hc1 => ?_) 5 0 w.drew (by omega) (by omega) ?_ (Chg.refl _ _)
      · have k1 := (Chg.drew A w).trans hc1
        refine hk w1 ⟨okl, h1, A, B, sa, sc, bs, ia, il, ic, hA, hB, ?_, ?_, ?_⟩ (k1.mono fun x hx => (hA x hx).1)
        · dsimp only; rw [List.length_set]; exact h2.chg k1 fun h => (hA bt h).2.1 rfl
        · dsimp only; rw [List.length_set]; exact hT1
        · exact h4.chg k1 fun x hx hx2 => (hA x hx2).2.2 hx
      · rw [mRow_zero (ok.row ok.set), set_same (rowD ok.set)]
        exact h3d
    refine sm_some (ldI_b (i := 3) h2 rfl ?_)
    dsimp only
    refine cond_of (fun hb => ?_) (fun hb => ?_)
    · have : b ≠ 0 := by simpa using hb
      exact sm_some (ldI_b (i := 3) h2 rfl (fin _ (by unfold mE; rw [if_pos this, Int.mul_comm])))
    · have : b = 0 := by simpa using hb
      exact fin _ (by unfold mE; rw [if_neg (by simpa using this), Int.mul_comm])
end Go.Proofs.Ytdbnobeopgfhgaa.G
