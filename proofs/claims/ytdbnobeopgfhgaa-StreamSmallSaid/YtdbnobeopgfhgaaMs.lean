/- The stage and its reference: what making, refining and learning come to. -/
import Derived.Test.YtdbnobeopgfhgaaMo
set_option linter.unusedVariables false
set_option linter.unusedSimpArgs false
namespace Go.Proofs.Ytdbnobeopgfhgaa.G
open Go Go.Proofs.Ytdbnobeopgfhgaa.Vm Go.RowKit
/-! ### Stretch, computed -/
def bsq : Nat → Int → Int → Int → Int
  | 0, _, lo, _ => lo
  | f + 1, p, lo, hi => if lo < hi then (if p ≤ sq ((lo + hi) / 2 - 2047) then bsq f p lo ((lo + hi) / 2) else bsq f p ((lo + hi) / 2 + 1) hi) else lo
def strV (p : Int) : Int := bsq 12 (clp p) 0 4094 - 2047
theorem bsq_ok {p : Int} : ∀ (f : Nat) (lo hi : Int), 0 ≤ lo → lo ≤ hi → hi ≤ 4094 → hi - lo < ((2 ^ f : Nat) : Int) → p ≤ sq (hi - 2047) → (lo = 0 ∨ sq (lo - 1 - 2047) < p) → IsStr p (bsq f p lo hi - 2047)
  | 0, lo, hi, h0, h1, h2, h3, h4, h5 => by
    have : lo = hi := by simp at h3; omega
    subst this
    unfold bsq
    refine ⟨by omega, by omega, h4, ?_⟩
    rcases h5 with h | h
    · exact .inl (by omega)
    · exact .inr (by rw [show lo - 2047 - 1 = lo - 1 - 2047 by omega]; exact h)
  | f + 1, lo, hi, h0, h1, h2, h3, h4, h5 => by
    unfold bsq
    rw [Nat.pow_succ] at h3
    split
    · split
      · rename_i hl hp
        exact bsq_ok f lo _ h0 (by omega) (by omega) (by omega) hp h5
      · rename_i hl hp
        exact bsq_ok f _ hi (by omega) (by omega) h2 (by omega) h4 (.inr (by rw [show (lo + hi) / 2 + 1 - 1 - 2047 = (lo + hi) / 2 - 2047 by omega]; omega))
    · have : lo = hi := by omega
      subst this
      refine ⟨by omega, by omega, h4, ?_⟩
      rcases h5 with h | h
      · exact .inl (by omega)
      · exact .inr (by rw [show lo - 2047 - 1 = lo - 1 - 2047 by omega]; exact h)
theorem strV_is (p : Int) : IsStr (clp p) (strV p) := by
  unfold strV
  refine bsq_ok 12 0 4094 (by omega) (by omega) (by omega) (by decide) ?_ (.inl rfl)
  have := clp_bd p
  rw [show (4094 : Int) - 2047 = 2047 by omega, sq_top]; omega
theorem strV_bd (p : Int) : -2047 ≤ strV p ∧ strV p ≤ 2047 := ⟨(strV_is p).1, (strV_is p).2.1⟩
theorem mix_Stretch_v {d : Int} {w : World} {K : Int → World → Prop} (hk : K (strV d) w) : mix_Stretch.f d w K :=
  mix_Stretch_ok fun s hs => by rw [hs.uniq (strV_is d)]; exact hk
theorem ref06_Stretch_v {d : Int} {w : World} {K : Int → World → Prop} (hk : K (strV d) w) : ref06_Stretch.f d w K :=
  ref06_Stretch_ok fun s hs => by rw [hs.uniq (strV_is d)]; exact hk
/-! ### A stage's state -/
structure Sst where
  T : List (List Int)
  has : Bool
  set : Nat
  step : Nat
structure Sok (s : Sst) : Prop where
  n0 : 0 < s.T.length
  n1 : s.T.length ≤ 1024
  w33 : ∀ r ∈ s.T, r.length = 33
  set : s.set < s.T.length
  step : s.step < 33
theorem Sok.row {s : Sst} (h : Sok s) {i : Nat} (hi : i < s.T.length) : (s.T.getD i []).length = 33 := h.w33 _ (rowD_mem hi)
def sFst (k : Nat) : Int := IntKind.wrap .i64 (16 * sq (cl (IntKind.wrap .i64 (128 * IntKind.wrap .i64 ((k : Int) - 16)))))
def sFirst : List Int := (List.range 33).map sFst
theorem sFirst_len : sFirst.length = 33 := by simp [sFirst]
theorem sFirst_get {k : Nat} (h : k < 33) : sFirst[k]? = some (sFst k) := by unfold sFirst; rw [List.getElem?_map, List.getElem?_range h]; rfl
def sNew (n : Nat) : Sst := ⟨List.replicate n sFirst, false, 0, 0⟩
theorem sNew_ok {n : Nat} (h0 : 0 < n) (h1 : n ≤ 1024) : Sok (sNew n) := ⟨by simpa [sNew] using h0, by simpa [sNew] using h1, fun r hr => by rw [(List.mem_replicate.1 hr).2]; exact sFirst_len, by simpa [sNew] using h0, by simp [sNew]⟩
/-- The step below a chance, and how far it is above. -/
def sK (c : Int) : Nat := ((strV c + 2048) / 128).toNat
def sR (c : Int) : Nat := ((strV c + 2048) % 128).toNat
theorem sK_bd (c : Int) : sK c ≤ 31 ∧ sR c < 128 ∧ strV c + 2048 = 128 * (sK c : Int) + (sR c : Int) := by
  have := strV_bd c
  unfold sK sR; omega
def sTold (row : List Int) (c : Int) : Int := mx 1 (mn (shr .i64 (IntKind.wrap .i64 ((IntKind.wrap .i64 (row.getD (sK c) 0 * (IntKind.wrap .i64 (128 - (sR c : Int))))) + (IntKind.wrap .i64 (row.getD (sK c + 1) 0 * (sR c : Int))))) 11) 4095)
def Sst.told (s : Sst) (c a : Int) : Int := sTold (s.T.getD (mPlace s.T.length a) []) c
def Sst.refine (s : Sst) (c a : Int) : Sst := ⟨s.T, true, mPlace s.T.length a, if 64 ≤ sR c then sK c + 1 else sK c⟩
def sUp (v : Int) (bit rate : Int) : Int := IntKind.wrap .i64 (v + (shr .i64 (IntKind.wrap .i64 ((if bit ≠ 0 then 65535 else 0) - v)) (min (Int.toNat (mx 1 (mn rate 15))) (IntKind.bits .i64))))
def Sst.learn (s : Sst) (bit rate : Int) : Sst := if s.has then { s with T := s.T.set s.set ((s.T.getD s.set []).set s.step (sUp ((s.T.getD s.set []).getD s.step 0) bit rate)) } else s
def Sst.at' (s : Sst) (a k : Int) : Int := (s.T.getD (mPlace s.T.length a) []).getD (mPlace 33 k) 0
theorem sTold_bd (row : List Int) (c : Int) : 1 ≤ sTold row c ∧ sTold row c ≤ 4095 := by
  unfold sTold
  generalize shr .i64 _ 11 = t
  unfold mx mn; (repeat' split) <;> omega
theorem Sok.refine {s : Sst} (h : Sok s) (c a : Int) : Sok (s.refine c a) := ⟨h.n0, h.n1, h.w33, (mPlace_lt h.n0 a).1, by have := (sK_bd c).1; unfold Sst.refine; dsimp only; split <;> omega⟩
theorem Sok.learn {s : Sst} (h : Sok s) (b r : Int) : Sok (s.learn b r) := by
  unfold Sst.learn
  split
  · refine ⟨by simpa using h.n0, by simpa using h.n1, fun q hq => ?_, by simpa using h.set, h.step⟩
    rcases List.mem_or_eq_of_mem_set hq with hq | rfl
    · exact h.w33 q hq
    · rw [List.length_set]; exact h.row h.set
  · exact h
theorem flat_put {m : Nat} {r : List Int} : ∀ {L : List (List Int)} {i : Nat}, (∀ q ∈ L, q.length = m) → i < L.length → L.flatten.take (i * m) ++ r ++ L.flatten.drop (i * m + m) = (L.set i r).flatten
  | [], i, _, h => by simp at h
  | q :: L, 0, hm, _ => by
    have hq := hm q List.mem_cons_self
    simp only [List.flatten_cons, List.set_cons_zero, Nat.zero_mul, Nat.zero_add, List.take_zero, List.nil_append]
    rw [List.drop_append_of_le_length (by omega), List.drop_of_length_le (by omega), List.nil_append]
  | q :: L, i + 1, hm, h => by
    have hq := hm q List.mem_cons_self
    have ih := flat_put (r := r) (L := L) (i := i) (fun p hp => hm p (List.mem_cons_of_mem _ hp)) (by simpa using h)
    rw [List.set_cons_succ, List.flatten_cons, List.flatten_cons, ← ih]
    have e1 : (i + 1) * m = q.length + i * m := by rw [Nat.succ_mul]; omega
    have e2 : (i + 1) * m + m = q.length + (i * m + m) := by rw [Nat.succ_mul]; omega
    rw [e2, e1, List.take_append, List.drop_append]
    rw [List.take_of_length_le (by omega), List.drop_of_length_le (by omega), List.nil_append, Nat.add_sub_cancel_left, Nat.add_sub_cancel_left]
    simp
/-! ### The given one -/
structure SS (w : World) (S : Nat → Prop) (bt : Nat) (s : Sst) : Prop where
  ok : Sok s
  inS : S bt
  cells : ∃ bs, S bs ∧ bs ≠ bt ∧ Bl 62 w bt [.slice (some ⟨bs, 0, none⟩) s.T.length s.T.length, .bool s.has, .int .i64 s.set, .int .i64 s.step] ∧ BlI .i64 63 w bs s.T.flatten
theorem SS.chg {S T : Nat → Prop} {w w' : World} {bt : Nat} {s : Sst} (h : SS w S bt s) (hc : Chg T w w') (hn : ∀ b, S b → ¬ T b) : SS w' S bt s := by
  obtain ⟨h0, h1, bs, h2, h3, h4, h5⟩ := h
  exact ⟨h0, h1, bs, h2, h3, h4.chg hc (hn _ h1), h5.chg hc (hn _ h2)⟩
theorem SS.mono {S T : Nat → Prop} {w : World} {bt : Nat} {s : Sst} (h : SS w S bt s) (hs : ∀ b, S b → b < w.heap.size → T b) : SS w T bt s := by
  obtain ⟨h0, h1, bs, h2, h3, h4, h5⟩ := h
  exact ⟨h0, hs _ h1 h4.lt, bs, hs _ h2 h5.bl.lt, h3, h4, h5⟩
theorem stage_round_ok {n : Nat} {a : Int} {w : World} {K : Int → World → Prop} (h0 : 0 < n) (h1 : n ≤ 4096) (hk : K ((mPlace n a : Nat) : Int) w) : stage_round.f a n w K := by
  unfold stage_round.f
  dsimp only
  rw [if_neg (by omega), if_neg (by omega), place_eq _ _ (by omega) (by omega), ← (mPlace_lt h0 a).2]
  exact hk
theorem cell33 {w : World} {bs i k : Nat} {e : TypeId} {T : List (List Int)} (hT : ∀ r ∈ T, r.length = 33) (hi : i < T.length) (hk : k < 33) (hs : BlI .i64 e w bs T.flatten) : (T.flatten.map (Value.int .i64))[i * 33 + k]? = some (.int .i64 ((T.getD i []).getD k 0)) := by
  rw [List.getElem?_map, flat_get hT (rowD hi) hk, getDs (by rw [hT _ (rowD_mem hi)]; exact hk)]; rfl
theorem stage_At_ok {w : World} {S : Nat → Prop} {bt : Nat} {s : Sst} {a k : Int} {K : Int → World → Prop} (h : SS w S bt s) (hk : ∀ w', Chg no w w' → K (s.at' a k) w') : stage_Stage_At.f (some ⟨bt, 0, none⟩) a k w K := by
  obtain ⟨ok, h1, bs, h2, h3, h4, h5⟩ := h
  unfold stage_Stage_At.f
  have hp := mPlace_lt ok.n0 a
  have hq := mPlace_lt (n := 33) (by omega) k
  have h4d : Bl 62 w.drew bt [.slice (some ⟨bs, 0, none⟩) s.T.length s.T.length, .bool s.has, .int .i64 s.set, .int .i64 s.step] := h4
  have h5d : BlI .i64 63 w.drew bs s.T.flatten := h5
  have n0 := ok.n0; have n1 := ok.n1
  refine bif_f rfl (sm_some (ldL_b (i := 0) h4 rfl (bif_f (beq_false_of_ne (by omega)) (sm_some (ldL_b (i := 0) h4d rfl (sm_some (ldL_b (i := 0) h4d rfl ?_)))))))
  refine stage_round_ok (n := s.T.length) ok.n0 (by omega) ⟨h4d.cell (i := 0) rfl, h4d.cell (i := 0) rfl, sm_some (if_of ⟨by omega, by omega⟩ ?_)⟩
  refine stage_round_ok (n := 33) (by omega) (by omega) ⟨h4d.cell (i := 0) rfl, h4d.cell (i := 0) rfl, if_of ⟨by omega, by omega⟩ ?_⟩
  rw [Int.toNat_natCast, Int.toNat_natCast, add_mk, add_mk, Nat.zero_add]
  exact ldI_b h5d.bl (cell33 ok.w33 hp.1 hq.1 h5d) (hk _ (Chg.drew _ _))
theorem stage_Refine_ok {w : World} {S : Nat → Prop} {bt : Nat} {s : Sst} {c a : Int} {K : Int → World → Prop} (h : SS w S bt s) (hk : ∀ w', SS w' S bt (s.refine c a) → Chg S w w' → K (s.told c a) w') : stage_Stage_Refine.f (some ⟨bt, 0, none⟩) c a w K := by
  obtain ⟨ok, h1, bs, h2, h3, h4, h5⟩ := h
  unfold stage_Stage_Refine.f
  have hp := mPlace_lt ok.n0 a
  have n0 := ok.n0; have n1 := ok.n1
  refine bif_f rfl (sm_some (ldL_b (i := 0) h4 rfl (bif_f (beq_false_of_ne (by omega)) (mix_Stretch_v ?_))))
  have hb := strV_bd c
  obtain ⟨k31, r128, hkr⟩ := sK_bd c
  have ev : IntKind.wrap .i64 (strV c + 2048) = ((128 * sK c + sR c : Nat) : Int) := by rw [w64 (by omega) (by omega)]; omega
  have ek : IntKind.wrap .i64 (Int.tdiv ((128 * sK c + sR c : Nat) : Int) 128) = (sK c : Int) := by
    rw [Int.tdiv_eq_ediv_of_nonneg (by omega), show ((128 * sK c + sR c : Nat) : Int) / 128 = (sK c : Int) by omega, w64 (by omega) (by omega)]
  have er : Int.tmod ((128 * sK c + sR c : Nat) : Int) 128 = (sR c : Int) := by
    rw [Int.tmod_eq_emod_of_nonneg (by omega)]; omega
  have ek1 : IntKind.wrap .i64 ((sK c : Int) + 1) = ((sK c + 1 : Nat) : Int) := by rw [w64 (by omega) (by omega)]; omega
  dsimp only
  rw [ev, ek, er, ek1]
  refine sm_some (ldL_b (i := 0) h4 rfl (stage_round_ok (n := s.T.length) ok.n0 (by omega) (sm_some ?_)))
  refine stC_b (i := 1) h4 (by simp) fun w1 hb1 hc1 => sm_some (stC_b (i := 2) hb1 (by simp) fun w2 hb2 hc2 => sm_some (stC_b (i := 3) hb2 (by simp) fun w3 hb3 hc3 => sm_some ?_))
  have hb3d : Bl 62 w3.drew bt [.slice (some ⟨bs, 0, none⟩) s.T.length s.T.length, .bool true, .int .i64 (mPlace s.T.length a : Nat), .int .i64 (sK c)] := hb3
  have k3 : Chg (fun j => j = bt) w w3.drew := ((hc1.trans hc2).trans hc3).trans (Chg.drew _ w3)
  refine ldL_b (i := 0) hb3d rfl (sm_some (ldI_b (i := 2) hb3d rfl (sm_some (if_of ⟨by omega, by omega⟩ ?_))))
  have okr := ok.refine c a
  have fin : ∀ (w4 : World) (st : Nat), st = (s.refine c a).step → Bl 62 w4 bt [.slice (some ⟨bs, 0, none⟩) s.T.length s.T.length, .bool true, .int .i64 (mPlace s.T.length a : Nat), .int .i64 st] → Chg (fun j => j = bt) w w4 →
      (if 0 ≤ ((sK c : Nat) : Int) ∧ ((sK c : Nat) : Int) < ((33 : Nat) : Int) then
        ldI .i64 (((⟨bs, 0, none⟩ : Addr).add (Int.toNat ((mPlace s.T.length a : Nat) : Int) * 33)).add (Int.toNat ((sK c : Nat) : Int))) w4.drew fun x65_31 =>
        if 0 ≤ ((sK c + 1 : Nat) : Int) ∧ ((sK c + 1 : Nat) : Int) < ((33 : Nat) : Int) then
        ldI .i64 (((⟨bs, 0, none⟩ : Addr).add (Int.toNat ((mPlace s.T.length a : Nat) : Int) * 33)).add (Int.toNat ((sK c + 1 : Nat) : Int))) w4.drew fun x74_32 =>
        K (mx 1 (mn (shr .i64 (IntKind.wrap .i64 ((IntKind.wrap .i64 (x65_31 * (IntKind.wrap .i64 (128 - (sR c : Int))))) + (IntKind.wrap .i64 (x74_32 * (sR c : Int))))) 11) 4095)) w4.drew
        else False
        else False) := by
    intro w4 st hst hb4 hc4
    have h54 : BlI .i64 63 w4.drew bs s.T.flatten := h5.chg (hc4.trans (Chg.drew _ w4)) h3
    have hb4d : Bl 62 w4.drew bt [.slice (some ⟨bs, 0, none⟩) s.T.length s.T.length, .bool true, .int .i64 (mPlace s.T.length a : Nat), .int .i64 st] := hb4
    refine if_of ⟨by omega, by omega⟩ ?_
    rw [Int.toNat_natCast, Int.toNat_natCast, Int.toNat_natCast, add_mk, add_mk, Nat.zero_add, add_mk]
    refine ldI_b h54.bl (cell33 ok.w33 hp.1 (by omega) h54) (if_of ⟨by omega, by omega⟩ (ldI_b h54.bl (cell33 ok.w33 hp.1 (by omega) h54) (hk w4.drew ⟨okr, h1, bs, h2, h3, ?_, h54⟩ ((hc4.trans (Chg.drew _ w4)).mono fun b hb => by subst hb; exact h1))))
    rw [← hst]; exact hb4d
  refine cond_of (fun hh => ?_) (fun hh => ?_)
  · have h64 : 64 ≤ sR c := by have := of_decide_eq_true hh; omega
    refine sm_some (stC_b (i := 3) hb3d (by simp) fun w4 hb4 hc4 => fin w4 (sK c + 1) (by unfold Sst.refine; dsimp only; rw [if_pos h64]) hb4 (k3.trans hc4))
  · have h64 : ¬ 64 ≤ sR c := by have := of_decide_eq_false hh; omega
    exact fin w3.drew (sK c) (by unfold Sst.refine; dsimp only; rw [if_neg h64]) hb3d k3
theorem stage_Learn_ok {w : World} {S : Nat → Prop} {bt : Nat} {s : Sst} {b r : Int} {K : World → Prop} (h : SS w S bt s) (hk : ∀ w', SS w' S bt (s.learn b r) → Chg S w w' → K w') : stage_Stage_Learn.f (some ⟨bt, 0, none⟩) b r w K := by
  obtain ⟨ok, h1, bs, h2, h3, h4, h5⟩ := h
  unfold stage_Stage_Learn.f
  have okl := ok.learn b r
  refine bif_f rfl (sm_some (ldB_b (i := 1) h4 rfl (cond_of (fun hh => ?_) (fun hh => ?_))))
  · have hf : s.has = false := by simpa using hh
    have e : s.learn b r = s := by unfold Sst.learn; rw [hf]; rfl
    rw [e] at hk
    exact hk w ⟨ok, h1, bs, h2, h3, h4, h5⟩ (Chg.refl _ _)
  · have hf : s.has = true := by simpa using hh
    have e : s.learn b r = { s with T := s.T.set s.set ((s.T.getD s.set []).set s.step (sUp ((s.T.getD s.set []).getD s.step 0) b r)) } := by unfold Sst.learn; rw [hf]; rfl
    rw [e] at hk okl
    have h4d : Bl 62 w.drew bt [.slice (some ⟨bs, 0, none⟩) s.T.length s.T.length, .bool s.has, .int .i64 s.set, .int .i64 s.step] := h4
    have h5d : BlI .i64 63 w.drew.drew bs s.T.flatten := h5
    have hset := ok.set; have hstep := ok.step
    have hg := cell33 (k := s.step) ok.w33 hset hstep h5d
    have fin : ∀ v : Int, v = (if b ≠ 0 then 65535 else 0) → (sm (some (⟨bt, 0, none⟩ : Addr)) fun p_10 =>
        ldL p_10 w.drew fun x22_11 x22_11n x22_11c =>
        sm (some (⟨bt, 0, none⟩ : Addr)) fun p_12 =>
        ldI .i64 (p_12.add 2) w.drew fun x26_13 =>
        sm (some (⟨bt, 0, none⟩ : Addr)) fun p_14 =>
        ldI .i64 (p_14.add 3) w.drew fun x30_15 =>
        sm x22_11 fun p_16 =>
        if 0 ≤ (x26_13 : Int) ∧ (x26_13 : Int) < ((x22_11n : Nat) : Int) then
        if 0 ≤ (x30_15 : Int) ∧ (x30_15 : Int) < ((33 : Nat) : Int) then
        ldI .i64 ((p_16.add (Int.toNat x26_13 * 33)).add (Int.toNat x30_15)) w.drew.drew fun x35_17 =>
        ldI .i64 ((p_16.add (Int.toNat x26_13 * 33)).add (Int.toNat x30_15)) w.drew.drew fun x39_18 =>
        if (mx 1 (mn r 15)) < 0 then False else
        stC ((p_16.add (Int.toNat x26_13 * 33)).add (Int.toNat x30_15)) (Value.int .i64 (IntKind.wrap .i64 (x35_17 + (shr .i64 (IntKind.wrap .i64 (v - x39_18)) (min (Int.toNat (mx 1 (mn r 15))) (IntKind.bits .i64)))))) w.drew.drew fun w =>
        K w
        else False
        else False) := by
      intro v hv
      have hmx := (mx_bd 1 (mn r 15)).1
      refine sm_some (ldL_b (i := 0) h4d rfl (sm_some (ldI_b (i := 2) h4d rfl (sm_some (ldI_b (i := 3) h4d rfl (sm_some (if_of ⟨by omega, by omega⟩ (if_of ⟨by omega, by omega⟩ ?_))))))))
      rw [Int.toNat_natCast, Int.toNat_natCast, add_mk, add_mk, Nat.zero_add]
      refine ldI_b h5d.bl hg (ldI_b h5d.bl hg ?_)
      rw [if_neg (by omega), hv]
      refine stC_b (v := .int .i64 (sUp ((s.T.getD s.set []).getD s.step 0) b r)) h5d.bl (List.getElem?_eq_some_iff.1 hg).1 fun w1 hb1 hc1 => hk w1 ⟨okl, h1, bs, h2, h3, ?_, ?_⟩ ((((Chg.drew _ w).trans (Chg.drew _ w.drew)).trans hc1).mono fun b hb => by subst hb; exact h2)
      · dsimp only
        rw [List.length_set]
        exact (show Bl 62 w.drew.drew bt _ from h4).chg hc1 fun h => h3 h.symm
      · unfold BlI
        unfold Bl at hb1
        rw [← List.map_set, flat_set ok.w33 (rowD hset) hstep] at hb1
        exact hb1
    dsimp only
    refine cond_of (fun hb => ?_) (fun hb => ?_)
    · have : b ≠ 0 := by simpa using hb
      exact fin 65535 (by rw [if_pos this])
    · have : b = 0 := by simpa using hb
      exact fin 0 (by rw [if_neg (by simpa using this)])
end Go.Proofs.Ytdbnobeopgfhgaa.G
