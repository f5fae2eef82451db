/- The mixer and its reference: what making, mixing and learning come to. -/
import Derived.Test.YtdbnobeopgfhgaaMt
import Derived.Test.YtdbnobeopgfhgaaVmT
set_option linter.unusedVariables false
set_option linter.unusedSimpArgs false
namespace Go.Proofs.Ytdbnobeopgfhgaa.G
open Go Go.Proofs.Ytdbnobeopgfhgaa.Vm Go.RowKit
theorem getDs {xs : List Int} {i : Nat} (h : i < xs.length) : xs[i]? = some (xs.getD i 0) := by
  rw [List.getD_eq_getElem?_getD, List.getElem?_eq_getElem h]; rfl
/-- A mixer's state. -/
structure Mst where
  W : List (List Int)
  has : Bool
  set : Nat
  ins : List Int
  told : Int
/-- It is as a mixer is. -/
structure Mok (s : Mst) : Prop where
  n0 : 0 < s.W.length
  n1 : s.W.length ≤ 4096
  w4 : ∀ r ∈ s.W, r.length = 4
  set : s.set < s.W.length
  i4 : s.ins.length = 4
def mIn (xs : List Int) (k : Nat) : Int := if k < xs.length then cl (xs.getD k 0) else 0
def mIns (xs : List Int) : List Int := (List.range 4).map (mIn xs)
def mSum (ins row : List Int) : Nat → Int
  | 0 => 0
  | k + 1 => IntKind.wrap .i64 (mSum ins row k + IntKind.wrap .i64 (ins.getD k 0 * row.getD k 0))
def mTold (ins row : List Int) : Int := sq (cl (shr .i64 (mSum ins row 4) 16))
def mPlace (n : Nat) (a : Int) : Nat := (a % (n : Int)).toNat
theorem mPlace_lt {n : Nat} (h : 0 < n) (a : Int) : mPlace n a < n ∧ ((mPlace n a : Nat) : Int) = a % (n : Int) := by
  have := place_bd a n (by omega)
  unfold mPlace; omega
def Mst.mix (s : Mst) (a : Int) (xs : List Int) : Mst := ⟨s.W, true, mPlace s.W.length a, mIns xs, mTold (mIns xs) (s.W.getD (mPlace s.W.length a) [])⟩
def mE (bit : Int) (told : Int) : Int := IntKind.wrap .i64 (7 * IntKind.wrap .i64 ((if bit ≠ 0 then 4095 else 0) - told))
def mW (ins row : List Int) (e : Int) (k : Nat) : Int := mx (-16777216) (mn (IntKind.wrap .i64 (row.getD k 0 + (shr .i64 (IntKind.wrap .i64 ((IntKind.wrap .i64 (ins.getD k 0 * e)) + 32768)) 16))) 16777216)
/-- A row, `k` of it learnt. -/
def mRow (ins row : List Int) (e : Int) (k : Nat) : List Int := (List.range 4).map fun j => if j < k then mW ins row e j else row.getD j 0
def Mst.learn (s : Mst) (bit : Int) : Mst := if s.has then { s with W := s.W.set s.set (mRow s.ins (s.W.getD s.set []) (mE bit s.told) 4) } else s
theorem mIns_len (xs : List Int) : (mIns xs).length = 4 := by simp [mIns]
theorem mIns_get {xs : List Int} {k : Nat} (h : k < 4) : (mIns xs)[k]? = some (mIn xs k) := by unfold mIns; rw [List.getElem?_map, List.getElem?_range h]; rfl
theorem mIns_getD {xs : List Int} {k : Nat} (h : k < 4) : (mIns xs).getD k 0 = mIn xs k := by rw [List.getD_eq_getElem?_getD, mIns_get h]; rfl
theorem mRow_len (ins row : List Int) (e : Int) (k : Nat) : (mRow ins row e k).length = 4 := by simp [mRow]
theorem mRow_get {ins row : List Int} {e : Int} {k j : Nat} (h : j < 4) : (mRow ins row e k)[j]? = some (if j < k then mW ins row e j else row.getD j 0) := by unfold mRow; rw [List.getElem?_map, List.getElem?_range h]; rfl
theorem mRow_zero {ins row : List Int} {e : Int} (h : row.length = 4) : mRow ins row e 0 = row := by
  apply List.ext_getElem?
  intro j
  by_cases hj : j < 4
  · rw [mRow_get hj, if_neg (by omega), getDs (by omega)]
  · rw [List.getElem?_eq_none (by rw [mRow_len]; omega), List.getElem?_eq_none (by omega)]
theorem mRow_set {ins row : List Int} {e : Int} {k : Nat} (h : k < 4) : (mRow ins row e k).set k (mW ins row e k) = mRow ins row e (k + 1) := by
  apply List.ext_getElem?
  intro j
  by_cases hj : j < 4
  · rw [mRow_get hj]
    by_cases he : k = j
    · subst he
      rw [List.getElem?_set_self (by rw [mRow_len]; exact h), if_pos (by omega)]
    · rw [List.getElem?_set_ne he, mRow_get hj]
      congr 1
      by_cases h1 : j < k
      · rw [if_pos h1, if_pos (by omega)]
      · rw [if_neg h1, if_neg (by omega)]
  · rw [List.getElem?_eq_none (by rw [List.length_set, mRow_len]; omega), List.getElem?_eq_none (by rw [mRow_len]; omega)]
theorem rowD {L : List (List Int)} {i : Nat} (h : i < L.length) : L[i]? = some (L.getD i []) := by
  rw [List.getD_eq_getElem?_getD, List.getElem?_eq_getElem h]; rfl
theorem rowD_mem {L : List (List Int)} {i : Nat} (h : i < L.length) : L.getD i [] ∈ L := List.mem_of_getElem? (rowD h)
theorem Mok.row {s : Mst} (h : Mok s) {i : Nat} (hi : i < s.W.length) : (s.W.getD i []).length = 4 := h.w4 _ (rowD_mem hi)
theorem Mok.mix {s : Mst} (h : Mok s) (a : Int) (xs : List Int) : Mok (s.mix a xs) := ⟨h.n0, h.n1, h.w4, (mPlace_lt h.n0 a).1, mIns_len xs⟩
theorem Mok.learn {s : Mst} (h : Mok s) (b : Int) : Mok (s.learn b) := by
  unfold Mst.learn
  split
  · refine ⟨by simpa using h.n0, by simpa using h.n1, fun r hr => ?_, by simpa using h.set, h.i4⟩
    rcases List.mem_or_eq_of_mem_set hr with hr | rfl
    · exact h.w4 r hr
    · exact mRow_len _ _ _ _
  · exact h
def mNew (n : Nat) : Mst := ⟨List.replicate n [16384, 16384, 16384, 16384], false, 0, [0, 0, 0, 0], 0⟩
theorem mNew_ok {n : Nat} (h0 : 0 < n) (h1 : n ≤ 4096) : Mok (mNew n) := ⟨by simpa [mNew] using h0, by simpa [mNew] using h1, fun r hr => by rw [(List.mem_replicate.1 hr).2]; rfl, by simpa [mNew] using h0, rfl⟩
/-! ### The given one -/
def mCells (s : Mst) (bs : Nat) : List Value := [.bool s.has, .int .i64 s.set] ++ s.ins.map (Value.int .i64) ++ [.int .i64 s.told, .slice (some ⟨bs, 0, none⟩) s.W.length s.W.length]
/-- The mixer in block `bt`. -/
structure MS (w : World) (S : Nat → Prop) (bt : Nat) (s : Mst) : Prop where
  ok : Mok s
  inS : S bt
  cells : ∃ bs, S bs ∧ bs ≠ bt ∧ Bl 117 w bt (mCells s bs) ∧ BlI .i64 88 w bs s.W.flatten
theorem MS.chg {S T : Nat → Prop} {w w' : World} {bt : Nat} {s : Mst} (h : MS w S bt s) (hc : Chg T w w') (hn : ∀ b, S b → ¬ T b) : MS w' S bt s := by
  obtain ⟨h0, h1, bs, h2, h3, h4, h5⟩ := h
  exact ⟨h0, h1, bs, h2, h3, h4.chg hc (hn _ h1), h5.chg hc (hn _ h2)⟩
theorem MS.mono {S T : Nat → Prop} {w : World} {bt : Nat} {s : Mst} (h : MS w S bt s) (hs : ∀ b, S b → b < w.heap.size → T b) : MS w T bt s := by
  obtain ⟨h0, h1, bs, h2, h3, h4, h5⟩ := h
  exact ⟨h0, hs _ h1 h4.lt, bs, hs _ h2 h5.bl.lt, h3, h4, h5⟩
theorem mCells_ins {s : Mst} {bs k : Nat} (h4 : s.ins.length = 4) (h : k < 4) : (mCells s bs)[2 + k]? = some (.int .i64 (s.ins.getD k 0)) := by
  unfold mCells
  rw [List.getElem?_append_left (by simp [h4]; omega), List.getElem?_append_right (by simp), List.getElem?_map]
  rw [show 2 + k - [Value.bool s.has, Value.int .i64 s.set].length = k by simp, getDs (by omega)]; rfl
theorem mCells_told {s : Mst} {bs : Nat} (h4 : s.ins.length = 4) : (mCells s bs)[6]? = some (.int .i64 s.told) := by
  unfold mCells
  rw [List.getElem?_append_right (by simp [h4])]; simp [h4]
theorem mCells_sets {s : Mst} {bs : Nat} (h4 : s.ins.length = 4) : (mCells s bs)[7]? = some (.slice (some ⟨bs, 0, none⟩) s.W.length s.W.length) := by
  unfold mCells
  rw [List.getElem?_append_right (by simp [h4])]; simp [h4]
theorem mCells_len {s : Mst} {bs : Nat} (h4 : s.ins.length = 4) : (mCells s bs).length = 8 := by unfold mCells; simp [h4]
theorem mix_place_ok {w : World} {bt bs n : Nat} {e : TypeId} {l : List Value} {a : Int} {K : Int → World → Prop} (h : Bl e w bt l) (hl : l[7]? = some (.slice (some ⟨bs, 0, none⟩) n n)) (h0 : 0 < n) (h1 : n ≤ 4096) (hk : K ((mPlace n a : Nat) : Int) w) : mix_Mixer_place.f (some ⟨bt, 0, none⟩) a w K := by
  unfold mix_Mixer_place.f
  refine sm_some (ldL_b (i := 7) h hl ?_)
  dsimp only
  rw [if_neg (by omega), if_neg (by omega), place_eq _ _ (by omega) (by omega), ← (mPlace_lt h0 a).2]
  exact hk
/-- The inputs, `k` of them written. -/
def insK (xs : List Int) (k : Nat) : List Int := (List.range 4).map fun j => if j < k then mIn xs j else 0
theorem insK_len (xs : List Int) (k : Nat) : (insK xs k).length = 4 := by simp [insK]
theorem insK_get {xs : List Int} {k j : Nat} (h : j < 4) : (insK xs k)[j]? = some (if j < k then mIn xs j else 0) := by unfold insK; rw [List.getElem?_map, List.getElem?_range h]; rfl
theorem insK_set {xs : List Int} {k : Nat} (h : k < 4) : (insK xs k).set k (mIn xs k) = insK xs (k + 1) := by
  apply List.ext_getElem?
  intro j
  by_cases hj : j < 4
  · rw [insK_get hj]
    by_cases he : k = j
    · subst he
      rw [List.getElem?_set_self (by rw [insK_len]; exact h), if_pos (by omega)]
    · rw [List.getElem?_set_ne he, insK_get hj]
      congr 1
      by_cases h1 : j < k
      · rw [if_pos h1, if_pos (by omega)]
      · rw [if_neg h1, if_neg (by omega)]
  · rw [List.getElem?_eq_none (by rw [List.length_set, insK_len]; omega), List.getElem?_eq_none (by rw [insK_len]; omega)]
theorem insK_end {xs : List Int} {k : Nat} (h : k = min xs.length 4) : insK xs k = mIns xs := by
  unfold insK mIns
  refine List.map_congr_left fun j hj => ?_
  have := List.mem_range.1 hj
  by_cases h1 : j < k
  · rw [if_pos h1]
  · rw [if_neg h1]; unfold mIn; rw [if_neg (by omega)]
theorem mSum_bd (ins row : List Int) (k : Nat) : -9223372036854775808 ≤ mSum ins row k ∧ mSum ins row k ≤ 9223372036854775807 := by
  cases k with
  | zero => unfold mSum; omega
  | succ k =>
    unfold mSum
    generalize mSum ins row k + _ = t
    simp [IntKind.wrap, IntKind.bits, IntKind.signed]
    split <;> omega
theorem mSum_stop {xs row : List Int} {k : Nat} (h : min xs.length 4 ≤ k) (hk : k ≤ 4) : mSum (mIns xs) row k = mSum (mIns xs) row (min xs.length 4) := by
  induction k with
  | zero => rw [show min xs.length 4 = 0 by omega]
  | succ k ih =>
    by_cases he : min xs.length 4 = k + 1
    · rw [he]
    · rw [← ih (by omega) (by omega), mSum, mIns_getD (by omega)]
      unfold mIn
      rw [if_neg (by omega), Int.zero_mul, show IntKind.wrap .i64 0 = 0 by decide, Int.add_zero]
      have := mSum_bd (mIns xs) row k
      exact w64 (by omega) (by omega)
theorem mSum_congr {ins ins' row : List Int} : ∀ {k : Nat}, (∀ j, j < k → ins.getD j 0 = ins'.getD j 0) → mSum ins row k = mSum ins' row k
  | 0, _ => rfl
  | k + 1, h => by rw [mSum, mSum, mSum_congr (k := k) fun j hj => h j (by omega), h k (by omega)]
theorem mix_Mix_l6 {w0 : World} {bt bs : Nat} {W : List (List Int)} {set : Nat} {xs : List Int} {x : Option Addr} {n c : Nat} {K0 : Option Addr → Int → World → Prop} (hW : ∀ r ∈ W, r.length = 4) (hset : set < W.length) (hne : bs ≠ bt)
    (hx : SlI .i64 w0 x xs) (hxb : ∀ p, x = some p → xs ≠ [] → p.block ≠ bt) (hxl : xs.length = n) (hs : BlI .i64 88 w0 bs W.flatten)
    (hk : ∀ w, Bl 117 w bt (mCells ⟨W, true, set, mIns xs, 0⟩ bs) → Chg (fun j => j = bt) w0 w → K0 (some ⟨bt, 0, none⟩) (mSum (mIns xs) (W.getD set []) 4) w) (N : Nat) :
    ∀ (k : Nat) (w : World), k ≤ min n 4 → min n 4 - k < N → Bl 117 w bt (mCells ⟨W, true, set, insK xs k, 0⟩ bs) → Chg (fun j => j = bt) w0 w →
      mix_Mixer_Mix.l6 N (some ⟨bt, 0, none⟩) x n c (mSum (mIns xs) (W.getD set []) k) ((min n 4 : Nat) : Int) k w K0 := by
  induction N with
  | zero => intro k w h1 h2; omega
  | succ N ih =>
    intro k w h1 h2 hb hc
    rw [mix_Mixer_Mix.l6]
    by_cases hlt : k < min n 4
    · have hk4 : k < 4 := by omega
      have hv := getDs (xs := xs) (i := k) (by omega)
      have hcd := hc.trans (Chg.drew _ w)
      have hbd : Bl 117 w.drew bt (mCells ⟨W, true, set, insK xs k, 0⟩ bs) := hb
      have hrow := hW _ (rowD_mem hset)
      refine bif_t (dec_t (by omega)) (rdV (w := w.drew) (hx.chg hcd hxb) k rfl hxl hv fun _ _ => sm_some (if_of ⟨by omega, by omega⟩ ?_))
      rw [Int.toNat_natCast, add_mk, add_mk, Nat.zero_add]
      have hin : mx (-2047) (mn (xs.getD k 0) 2047) = mIn xs k := by unfold mIn; rw [if_pos (by omega)]; rfl
      rw [hin]
      refine stC_b hbd (by rw [mCells_len (insK_len _ _)]; omega) fun w1 hb1 hc1 => ?_
      have e : (mCells ⟨W, true, set, insK xs k, 0⟩ bs).set (2 + k) (.int .i64 (mIn xs k)) = mCells ⟨W, true, set, insK xs (k + 1), 0⟩ bs := by
        unfold mCells
        rw [List.set_append_left _ _ (by simp [insK_len]; omega), List.set_append_right _ _ (by simp), show 2 + k - [Value.bool true, Value.int .i64 set].length = k by simp, ← List.map_set, insK_set hk4]
      rw [e] at hb1
      have hb1d : Bl 117 w1.drew bt (mCells ⟨W, true, set, insK xs (k + 1), 0⟩ bs) := hb1
      have k1 := (hcd.trans hc1).trans (Chg.drew _ w1)
      have hg : (insK xs (k + 1)).getD k 0 = mIn xs k := by rw [List.getD_eq_getElem?_getD, insK_get hk4, if_pos (by omega)]; rfl
      refine sm_some (if_of ⟨by omega, by omega⟩ ?_)
      rw [add_mk, add_mk, Nat.zero_add]
      refine ldI_b hb1d (mCells_ins (insK_len _ _) hk4) (sm_some (ldL_b (i := 7) hb1d (mCells_sets (insK_len _ _)) (sm_some (ldI_b (i := 1) hb1d rfl (sm_some (if_of ⟨by omega, by dsimp only; omega⟩ (if_of ⟨by omega, by omega⟩ ?_)))))))
      rw [add_mk, add_mk, Nat.zero_add]
      have hs1 := (hs.chg k1 hne).bl
      refine ldI_b hs1 (by rw [List.getElem?_map, Int.toNat_natCast, flat_get hW (rowD hset) hk4, getDs (by omega)]; rfl) ?_
      dsimp only
      rw [hg, inc (by omega)]
      have := ih (k + 1) w1.drew (by omega) (by omega) hb1d k1
      rw [mSum, mIns_getD hk4] at this
      exact this
    · have hkk : k = min n 4 := by omega
      refine bif_f (dec_f (by omega)) ?_
      rw [insK_end (by rw [hxl]; exact hkk)] at hb
      have := hk w hb hc
      rw [mSum_stop (k := 4) (by rw [hxl]; omega) (Nat.le_refl _), hxl, ← hkk] at this
      exact this
theorem mix_Mix_ok {w : World} {S : Nat → Prop} {bt : Nat} {s : Mst} {a : Int} {x : Option Addr} {n c : Nat} {xs : List Int} {K : Int → World → Prop} (h : MS w S bt s) (hx : SlI .i64 w x xs) (hxS : ∀ p, x = some p → xs ≠ [] → ¬ S p.block) (hxl : xs.length = n)
    (hk : ∀ w', MS w' S bt (s.mix a xs) → Chg S w w' → K (s.mix a xs).told w') : mix_Mixer_Mix.f (some ⟨bt, 0, none⟩) a x n c w K := by
  obtain ⟨ok, h1, bs, h2, h3, h4, h5⟩ := h
  unfold mix_Mixer_Mix.f
  have hp := mPlace_lt ok.n0 a
  refine bif_f rfl (sm_some (ldL_b (i := 7) h4 (mCells_sets ok.i4) (bif_f (beq_false_of_ne (by have := ok.n0; omega)) ?_)))
  refine mix_place_ok h4 (mCells_sets ok.i4) ok.n0 ok.n1 (sm_some ?_)
  refine stCs_go _ 0 _ _ h4 (by simp [one]) (by rw [mCells_len ok.i4]; simp) fun w1 hb1 hc1 => ⟨5, ?_⟩
  have e1 : ((mCells s bs).take (0 + 0) ++ [(Value.bool true), (Value.int .i64 (mPlace s.W.length a : Nat)), (Value.int .i64 0), (Value.int .i64 0), (Value.int .i64 0), (Value.int .i64 0), (Value.int .i64 0)] ++ (mCells s bs).drop (0 + 0 + [(Value.bool true), (Value.int .i64 (mPlace s.W.length a : Nat)), (Value.int .i64 0), (Value.int .i64 0), (Value.int .i64 0), (Value.int .i64 0), (Value.int .i64 0)].length)) = mCells ⟨s.W, true, mPlace s.W.length a, insK xs 0, 0⟩ bs := by
    obtain ⟨W, has, set, ins, told⟩ := s
    have := ok.i4
    match ins, this with
    | [i0, i1, i2, i3], _ => rfl
  rw [e1] at hb1
  have emn : mn (n : Int) 4 = ((min n 4 : Nat) : Int) := by unfold mn; split <;> omega
  rw [emn]
  refine mix_Mix_l6 (w0 := w1) ok.w4 hp.1 h3 (hx.chg hc1 fun p hp hne e => hxS p hp hne (by rw [e]; exact h1)) (fun p hp hne e => hxS p hp hne (by rw [e]; exact h1)) hxl (h5.chg hc1 h3) (fun w2 hb2 hc2 => ?_) 5 0 w1 (by omega) (by omega) hb1 (Chg.refl _ _)
  refine mix_Squash_ok ?_
  have ecl : cl (mx (-2047) (mn (shr .i64 (mSum (mIns xs) (s.W.getD (mPlace s.W.length a) []) 4) 16) 2047)) = cl (shr .i64 (mSum (mIns xs) (s.W.getD (mPlace s.W.length a) []) 4) 16) := by
    have := cl_bd (shr .i64 (mSum (mIns xs) (s.W.getD (mPlace s.W.length a) []) 4) 16)
    exact cl_id _ this.1 this.2
  rw [ecl]
  refine sm_some (stC_b (i := 6) hb2 (by rw [mCells_len (mIns_len _)]; omega) fun w3 hb3 hc3 => ?_)
  have e3 : (mCells ⟨s.W, true, mPlace s.W.length a, mIns xs, 0⟩ bs).set 6 (.int .i64 (mTold (mIns xs) (s.W.getD (mPlace s.W.length a) []))) = mCells (s.mix a xs) bs := by
    have := mIns_len xs
    unfold Mst.mix mCells
    dsimp only
    generalize mIns xs = ins at this ⊢
    match ins, this with
    | [i0, i1, i2, i3], _ => rfl
  change Bl 117 w3 bt ((mCells ⟨s.W, true, mPlace s.W.length a, mIns xs, 0⟩ bs).set 6 (.int .i64 (mTold (mIns xs) (s.W.getD (mPlace s.W.length a) [])))) at hb3
  rw [e3] at hb3
  refine sm_some (ldI_b (i := 6) hb3 (mCells_told (mIns_len _)) (hk w3 ⟨ok.mix a xs, h1, bs, h2, h3, hb3, ((h5.chg hc1 h3).chg hc2 h3).chg hc3 h3⟩ ?_))
  exact ((hc1.trans hc2).trans hc3).mono fun b hb => by subst hb; exact h1
theorem mix_Learn_l6 {w0 : World} {bt bs : Nat} {s : Mst} {e : Int} {K0 : World → Prop} (ok : Mok s) (hne : bs ≠ bt) (hb : Bl 117 w0 bt (mCells s bs))
    (hk : ∀ w, BlI .i64 88 w bs (s.W.set s.set (mRow s.ins (s.W.getD s.set []) e 4)).flatten → Chg (fun j => j = bs) w0 w → K0 w) (N : Nat) :
    ∀ (k : Nat) (w : World), k ≤ 4 → 4 - k < N → BlI .i64 88 w bs (s.W.set s.set (mRow s.ins (s.W.getD s.set []) e k)).flatten → Chg (fun j => j = bs) w0 w → mix_Mixer_Learn.l6 N (some ⟨bt, 0, none⟩) e k w K0 := by
  have hrow := ok.row ok.set
  induction N with
  | zero => intro k w h1 h2; omega
  | succ N ih =>
    intro k w h1 h2 hs hc
    rw [mix_Mixer_Learn.l6]
    by_cases hlt : k < 4
    · have kd := hc.trans (Chg.drew _ w)
      have kdd := kd.trans (Chg.drew _ w.drew)
      have hbd := hb.chg kd fun h => hne h.symm
      have hbdd := hb.chg kdd fun h => hne h.symm
      have hset' : s.set < (s.W.set s.set (mRow s.ins (s.W.getD s.set []) e k)).length := by rw [List.length_set]; exact ok.set
      have hr4 : ∀ r ∈ s.W.set s.set (mRow s.ins (s.W.getD s.set []) e k), r.length = 4 := fun r hr => by
        rcases List.mem_or_eq_of_mem_set hr with hr | rfl
        · exact ok.w4 r hr
        · exact mRow_len _ _ _ _
      have hgr : (s.W.set s.set (mRow s.ins (s.W.getD s.set []) e k))[s.set]? = some (mRow s.ins (s.W.getD s.set []) e k) := List.getElem?_set_self ok.set
      have hget : (s.W.set s.set (mRow s.ins (s.W.getD s.set []) e k)).flatten[s.set * 4 + k]? = some ((s.W.getD s.set []).getD k 0) := by
        rw [flat_get hr4 hgr hlt, mRow_get hlt, if_neg (by omega)]
      have hsdd : BlI .i64 88 w.drew.drew bs (s.W.set s.set (mRow s.ins (s.W.getD s.set []) e k)).flatten := hs
      refine bif_t (dec_t (by omega)) (sm_some (ldL_b (i := 7) hbd (mCells_sets ok.i4) (sm_some (ldI_b (i := 1) hbd rfl (sm_some (if_of ⟨by omega, by have := ok.set; omega⟩ (if_of ⟨by omega, by omega⟩ ?_)))))))
      rw [add_mk, add_mk, Nat.zero_add, Int.toNat_natCast, Int.toNat_natCast]
      refine ldI_b hsdd.bl (by rw [List.getElem?_map, hget]; rfl) (sm_some (if_of ⟨by omega, by omega⟩ ?_))
      rw [add_mk, add_mk, Nat.zero_add]
      refine ldI_b hbdd (mCells_ins ok.i4 hlt) ?_
      have hfl := flat_length hr4
      rw [List.length_set] at hfl
      have hlt2 : s.set * 4 + k < (s.W.set s.set (mRow s.ins (s.W.getD s.set []) e k)).flatten.length := (List.getElem?_eq_some_iff.1 hget).1
      refine stC_b (v := .int .i64 (mW s.ins (s.W.getD s.set []) e k)) hsdd.bl (by rw [List.length_map]; exact hlt2) fun w1 hb1 hc1 => ?_
      rw [inc (by omega)]
      refine ih (k + 1) w1 (by omega) (by omega) ?_ (kdd.trans hc1)
      unfold BlI
      unfold Bl at hb1
      rw [← List.map_set, flat_set hr4 hgr hlt, List.set_set, mRow_set hlt] at hb1
      exact hb1
    · have : k = 4 := by omega
      subst this
      exact bif_f (dec_f (by omega)) (hk w hs hc)
theorem mix_Learn_ok {w : World} {S : Nat → Prop} {bt : Nat} {s : Mst} {b : Int} {K : World → Prop} (h : MS w S bt s) (hk : ∀ w', MS w' S bt (s.learn b) → Chg S w w' → K w') : mix_Mixer_Learn.f (some ⟨bt, 0, none⟩) b w K := by
  obtain ⟨ok, h1, bs, h2, h3, h4, h5⟩ := h
  unfold mix_Mixer_Learn.f
  have okl := ok.learn b
  refine bif_f rfl (sm_some (ldB_b (i := 0) h4 rfl (cond_of (fun hh => ?_) (fun hh => ?_))))
  · have hf : s.has = false := by simpa using hh
    have e : s.learn b = s := by unfold Mst.learn; rw [hf]; rfl
    rw [e] at hk
    exact hk w ⟨ok, h1, bs, h2, h3, h4, h5⟩ (Chg.refl _ _)
  · have hf : s.has = true := by simpa using hh
    have e : s.learn b = { s with W := s.W.set s.set (mRow s.ins (s.W.getD s.set []) (mE b s.told) 4) } := by unfold Mst.learn; rw [hf]; rfl
    rw [e] at hk okl
    have fin : ∀ r : Int, IntKind.wrap .i64 (7 * IntKind.wrap .i64 (r - s.told)) = mE b s.told → sm (some (⟨bt, 0, none⟩ : Addr)) fun p_10 => ldI .i64 (p_10.add 6) w fun x25_11 =>
        ∃ N_27 : Nat, mix_Mixer_Learn.l6 N_27 (some ⟨bt, 0, none⟩) (IntKind.wrap .i64 (7 * IntKind.wrap .i64 (r - x25_11))) 0 w (fun w => K w) := by
      intro r hr
      refine sm_some (ldI_b (i := 6) h4 (mCells_told ok.i4) ⟨5, ?_⟩)
      rw [hr]
      refine mix_Learn_l6 ok h3 h4 (fun w1 hs hc => hk w1 ⟨okl, h1, bs, h2, h3, ?_, hs⟩ (hc.mono fun b hb => by subst hb; exact h2)) 5 0 w (by omega) (by omega) ?_ (Chg.refl _ _)
      · have := h4.chg hc fun h => h3 h.symm
        unfold mCells at this ⊢
        rw [List.length_set]; exact this
      · rw [mRow_zero (ok.row ok.set), show s.W.set s.set (s.W.getD s.set []) = s.W by
          apply List.ext_getElem?
          intro j
          by_cases hj : s.set = j
          · subst hj
            rw [List.getElem?_set_self ok.set, rowD ok.set]
          · rw [List.getElem?_set_ne hj]]
        exact h5
    dsimp only
    refine cond_of (fun hb => ?_) (fun hb => ?_)
    · have : b ≠ 0 := by simpa using hb
      exact fin 4095 (by unfold mE; rw [if_pos this])
    · have : b = 0 := by simpa using hb
      exact fin 0 (by unfold mE; rw [if_neg (by simpa using this)])
end Go.Proofs.Ytdbnobeopgfhgaa.G
