/- The mixer, continued: making, the weights, and the reference. -/
import Derived.Test.YtdbnobeopgfhgaaMm
set_option linter.unusedVariables false
set_option linter.unusedSimpArgs false
namespace Go.Proofs.Ytdbnobeopgfhgaa.G
open Go Go.Proofs.Ytdbnobeopgfhgaa.Vm Go.RowKit
theorem mkL_z {e : TypeId} {size bytes : Nat} {zero : List Value} {w : World} {l c : Int} {K : Option Addr → Nat → Nat → World → Prop} (h0 : 0 ≤ l) (h1 : l ≤ c) (h2 : (bytes : Int) * c ≤ 281474976710656) (h3 : 0 < bytes)
    (hk : ∀ w', Bl e w' w.heap.size (zrow zero c.toNat) → Chg no w w' → w'.heap.size = w.heap.size + 1 → K (some ⟨w.heap.size, 0, none⟩) l.toNat c.toNat w') : mkL e size bytes zero l c w K := by
  unfold mkL
  have hc : c < 9223372036854775808 := by
    have : (1 : Int) * c ≤ (bytes : Int) * c := Int.mul_le_mul_of_nonneg_right (by omega) (by omega)
    omega
  rw [if_pos ⟨h0, h1, hc, h2⟩]
  refine hk _ ?_ (Chg.alloc _ _) (alloc_size _ _)
  unfold Bl; rw [heap_alloc_new]
theorem zrow_ints (k : IntKind) (r : List Int) : ∀ n, zrow (r.map (Value.int k)) n = ((List.replicate n r).flatten).map (Value.int k)
  | 0 => rfl
  | n + 1 => by
    have ih := zrow_ints k r n
    unfold zrow at ih ⊢
    rw [List.range_succ, List.flatMap_append, ih, List.replicate_succ']
    simp
/-- Rows of which the first `i` are `f`, the others `z`. -/
def rowsI (f z : List Int) (n i : Nat) : List (List Int) := (List.range n).map fun r => if r < i then f else z
theorem rowsI_len (f z : List Int) (n i : Nat) : (rowsI f z n i).length = n := by simp [rowsI]
theorem rowsI_get {f z : List Int} {n i r : Nat} (h : r < n) : (rowsI f z n i)[r]? = some (if r < i then f else z) := by unfold rowsI; rw [List.getElem?_map, List.getElem?_range h]; rfl
theorem rowsI_set {f z : List Int} {n i : Nat} (h : i < n) : (rowsI f z n i).set i f = rowsI f z n (i + 1) := by
  apply List.ext_getElem?
  intro j
  by_cases hj : j < n
  · rw [rowsI_get hj]
    by_cases he : i = j
    · subst he
      rw [List.getElem?_set_self (by rw [rowsI_len]; exact h), if_pos (by omega)]
    · rw [List.getElem?_set_ne he, rowsI_get hj]
      congr 1
      by_cases h1 : j < i
      · rw [if_pos h1, if_pos (by omega)]
      · rw [if_neg h1, if_neg (by omega)]
  · rw [List.getElem?_eq_none (by rw [List.length_set, rowsI_len]; omega), List.getElem?_eq_none (by rw [rowsI_len]; omega)]
theorem rowsI_zero (f z : List Int) (n : Nat) : rowsI f z n 0 = List.replicate n z := by
  apply List.ext_getElem?
  intro j
  by_cases hj : j < n
  · rw [rowsI_get hj, if_neg (by omega), List.getElem?_replicate, if_pos hj]
  · rw [List.getElem?_eq_none (by rw [rowsI_len]; omega), List.getElem?_eq_none (by simp; omega)]
theorem rowsI_all (f z : List Int) (n : Nat) : rowsI f z n n = List.replicate n f := by
  apply List.ext_getElem?
  intro j
  by_cases hj : j < n
  · rw [rowsI_get hj, if_pos hj, List.getElem?_replicate, if_pos hj]
  · rw [List.getElem?_eq_none (by rw [rowsI_len]; omega), List.getElem?_eq_none (by simp; omega)]
theorem rowsI_w {f z : List Int} {n i m : Nat} (hf : f.length = m) (hz : z.length = m) : ∀ r ∈ rowsI f z n i, r.length = m := fun r hr => by
  obtain ⟨j, _, rfl⟩ := List.mem_map.1 hr
  split
  · exact hf
  · exact hz
/-- A row's first `k` places are of `f`. -/
def partR (f z : List Int) (m k : Nat) : List Int := (List.range m).map fun j => if j < k then f.getD j 0 else z.getD j 0
theorem partR_len (f z : List Int) (m k : Nat) : (partR f z m k).length = m := by simp [partR]
theorem partR_get {f z : List Int} {m k j : Nat} (h : j < m) : (partR f z m k)[j]? = some (if j < k then f.getD j 0 else z.getD j 0) := by unfold partR; rw [List.getElem?_map, List.getElem?_range h]; rfl
theorem partR_set {f z : List Int} {m k : Nat} (h : k < m) : (partR f z m k).set k (f.getD k 0) = partR f z m (k + 1) := by
  apply List.ext_getElem?
  intro j
  by_cases hj : j < m
  · rw [partR_get hj]
    by_cases he : k = j
    · subst he
      rw [List.getElem?_set_self (by rw [partR_len]; exact h), if_pos (by omega)]
    · rw [List.getElem?_set_ne he, partR_get hj]
      congr 1
      by_cases h1 : j < k
      · rw [if_pos h1, if_pos (by omega)]
      · rw [if_neg h1, if_neg (by omega)]
  · rw [List.getElem?_eq_none (by rw [List.length_set, partR_len]; omega), List.getElem?_eq_none (by rw [partR_len]; omega)]
theorem partR_zero {f z : List Int} {m : Nat} (h : z.length = m) : partR f z m 0 = z := by
  apply List.ext_getElem?
  intro j
  by_cases hj : j < m
  · rw [partR_get hj, if_neg (by omega), getDs (by omega)]
  · rw [List.getElem?_eq_none (by rw [partR_len]; omega), List.getElem?_eq_none (by omega)]
theorem partR_all {f z : List Int} {m : Nat} (h : f.length = m) : partR f z m m = f := by
  apply List.ext_getElem?
  intro j
  by_cases hj : j < m
  · rw [partR_get hj, if_pos hj, getDs (by omega)]
  · rw [List.getElem?_eq_none (by rw [partR_len]; omega), List.getElem?_eq_none (by omega)]
theorem set_same {L : List (List Int)} {i : Nat} {l : List Int} (h : L[i]? = some l) : L.set i l = L := by
  apply List.ext_getElem?
  intro j
  by_cases hj : i = j
  · subst hj
    rw [List.getElem?_set_self (List.getElem?_eq_some_iff.1 h).1, h]
  · rw [List.getElem?_set_ne hj]
abbrev mF : List Int := [16384, 16384, 16384, 16384]
abbrev mZ : List Int := [0, 0, 0, 0]
theorem mix_New_l6 {w0 : World} {bt bs n i : Nat} {y16 y17 : Int} {K : Addr → Int → Int → World → Prop} (hne : bs ≠ bt) (hi : i < n) (hb : Bl 117 w0 bt (mCells (mNew n) bs))
    (hk : ∀ w, BlI .i64 88 w bs (rowsI mF mZ n (i + 1)).flatten → Chg (fun j => j = bs) w0 w → K ⟨bt, 0, none⟩ y16 y17 w) (N : Nat) :
    ∀ (k : Nat) (w : World), k ≤ 4 → 4 - k < N → BlI .i64 88 w bs ((rowsI mF mZ n i).set i (partR mF mZ 4 k)).flatten → Chg (fun j => j = bs) w0 w → mix_New.l6 N ⟨bt, 0, none⟩ i y16 y17 k w K := by
  have hln : (mNew n).W.length = n := by simp [mNew]
  induction N with
  | zero => intro k w h1 h2; omega
  | succ N ih =>
    intro k w h1 h2 hs hc
    rw [mix_New.l6]
    by_cases hlt : k < 4
    · have hb' := hb.chg hc fun h => hne h.symm
      have hg : ((rowsI mF mZ n i).set i (partR mF mZ 4 k))[i]? = some (partR mF mZ 4 k) := List.getElem?_set_self (by rw [rowsI_len]; exact hi)
      have hr4 : ∀ r ∈ (rowsI mF mZ n i).set i (partR mF mZ 4 k), r.length = 4 := fun r hr => by
        rcases List.mem_or_eq_of_mem_set hr with hr | rfl
        · exact rowsI_w (f := mF) (z := mZ) (m := 4) rfl rfl r hr
        · exact partR_len _ _ _ _
      have hget := flat_get hr4 hg hlt
      rw [partR_get hlt] at hget
      refine bif_t (dec_t (by omega)) (ldL_b (i := 7) hb' (mCells_sets rfl) (sm_some (if_of ⟨by omega, by omega⟩ (if_of ⟨by omega, by omega⟩ ?_))))
      rw [add_mk, add_mk, Nat.zero_add, Int.toNat_natCast, Int.toNat_natCast]
      refine stC_b (v := .int .i64 16384) hs.bl (by rw [List.length_map]; exact (List.getElem?_eq_some_iff.1 hget).1) fun w1 hb1 hc1 => ?_
      rw [inc (by omega)]
      refine ih (k + 1) w1 (by omega) (by omega) ?_ (hc.trans hc1)
      unfold BlI
      unfold Bl at hb1
      have e : (partR mF mZ 4 k).set k 16384 = partR mF mZ 4 (k + 1) := by
        rw [← partR_set hlt]
        congr 1
        match k, hlt with
        | 0, _ => rfl
        | 1, _ => rfl
        | 2, _ => rfl
        | 3, _ => rfl
      rw [← List.map_set, flat_set hr4 hg hlt, List.set_set, e] at hb1
      exact hb1
    · have : k = 4 := by omega
      subst this
      rw [partR_all (f := mF) (z := mZ) (m := 4) rfl, rowsI_set hi] at hs
      exact bif_f (dec_f (by omega)) (hk w hs hc)
theorem mix_New_ok {w : World} {a : Int} {K : Option Addr → World → Prop}
    (hk : ∀ bt w', MS w' (fun b => w.heap.size ≤ b ∧ b < w'.heap.size) bt (mNew (mx 1 (mn a 4096)).toNat) → Chg no w w' → K (some ⟨bt, 0, none⟩) w') : mix_New.f a w K := by
  unfold mix_New.f
  have h1 := mx_bd 1 (mn a 4096)
  have h2 := mn_bd a 4096
  have h3 : mx 1 (mn a 4096) ≤ 4096 := by omega
  obtain ⟨n, hn⟩ : ∃ n : Nat, mx 1 (mn a 4096) = n := ⟨(mx 1 (mn a 4096)).toNat, by omega⟩
  rw [hn] at hk h1 h3 ⊢
  rw [Int.toNat_natCast] at hk
  have hln : (mNew n).W.length = n := by simp [mNew]
  refine mkL_z (by omega) (by omega) (by omega) (by omega) fun w1 hb1 hc1 hs1 => newC_b fun w2 hb2 hc2 hs2 => ?_
  rw [Int.toNat_natCast] at hb1 hb2
  have hb2' : Bl 117 w2 w1.heap.size (mCells (mNew n) w.heap.size) := by
    have : mCells (mNew n) w.heap.size = [(Value.bool false), (Value.int .i64 0), (Value.int .i64 0), (Value.int .i64 0), (Value.int .i64 0), (Value.int .i64 0), (Value.int .i64 0), (Value.slice (some ⟨w.heap.size, 0, none⟩) n n)] := by
      unfold mCells; rw [hln]; rfl
    rw [this]; exact hb2
  have hbs : BlI .i64 88 w2 w.heap.size (rowsI mF mZ n 0).flatten := by
    rw [rowsI_zero]
    have e := zrow_ints .i64 mZ n
    unfold BlI
    unfold Bl at hb1
    have hb1' : w1.heap[w.heap.size]? = some (.cells ((List.replicate n mZ).flatten.map (Value.int .i64)).toArray 88 (0, 0)) := by rw [← e]; exact hb1
    exact hc2.keep hb1' fun h => h
  refine ldL_b (i := 7) hb2' (mCells_sets rfl) ⟨n + 1, ?_⟩
  rw [hln]
  have loop : ∀ (N i : Nat) (w' : World), i ≤ n → n - i < N → BlI .i64 88 w' w.heap.size (rowsI mF mZ n i).flatten → Chg (fun j => j = w.heap.size) w2 w' → mix_New.l3 N ⟨w1.heap.size, 0, none⟩ n i w' (fun o3 w => K (some o3) w) := by
    intro N
    induction N with
    | zero => intro i w' h1 h2; omega
    | succ N ih =>
      intro i w' hi hN hs hc
      rw [mix_New.l3]
      have hb' := hb2'.chg hc fun h => by omega
      by_cases hlt : i < n
      · refine bif_t (dec_t (by omega)) ⟨5, ?_⟩
        refine mix_New_l6 (w0 := w') (by omega) hlt hb' (fun w3 hs3 hc3 => ?_) 5 0 w' (by omega) (by omega) ?_ (Chg.refl _ _)
        · rw [inc (by omega)]
          exact ih (i + 1) w3 (by omega) (by omega) hs3 (hc.trans hc3)
        · rw [partR_zero (f := mF) (z := mZ) (m := 4) rfl, set_same (by rw [rowsI_get hlt, if_neg (by omega)])]
          exact hs
      · have : i = n := by omega
        subst this
        rw [rowsI_all] at hs
        have hz := hc.size
        refine bif_f (dec_f (by omega)) (hk _ w' ⟨mNew_ok (by omega) (by omega), ⟨by omega, by omega⟩, w.heap.size, ⟨by omega, by omega⟩, by omega, hb', hs⟩ ((hc1.trans hc2).then hc fun k hk h => by omega))
  exact loop (n + 1) 0 w2 (by omega) (by omega) hbs (Chg.refl _ _)
theorem row4 {w : World} {bs i : Nat} {e : TypeId} {W : List (List Int)} (hW : ∀ r ∈ W, r.length = 4) (hi : i < W.length) (hs : BlI .i64 e w bs W.flatten) {j : Nat} (hj : j < 4) : (W.flatten.map (Value.int .i64))[i * 4 + j]? = some (.int .i64 ((W.getD i []).getD j 0)) := by
  rw [List.getElem?_map, flat_get hW (rowD hi) hj, getDs (by rw [hW _ (rowD_mem hi)]; exact hj)]; rfl
theorem list4 {l : List Int} (h : l.length = 4) : [Value.int .i64 (l.getD 0 0), .int .i64 (l.getD 1 0), .int .i64 (l.getD 2 0), .int .i64 (l.getD 3 0)] = l.map (Value.int .i64) := by
  match l, h with
  | [a, b, c, d], _ => rfl
/-! ### The reference -/
/-- The reference's mixer in block `bt`. -/
structure MR (w : World) (S : Nat → Prop) (bt : Nat) (s : Mst) : Prop where
  ok : Mok s
  inS : S bt
  cells : ∃ (A B : Nat → Prop) (a : Option Addr) (c : Nat) (bs : List Nat) (ia : Option Addr) (il ic : Nat), (∀ x, A x → S x ∧ x ≠ bt ∧ ¬ B x) ∧ (∀ x, B x → S x ∧ x ≠ bt) ∧
    Bl 122 w bt [.slice a s.W.length c, .slice ia il ic, .int .i64 s.set, .int .i64 s.told, .bool s.has] ∧ TabR .i64 3 37 A w a s.W.length c bs s.W ∧ Own .i64 3 B w ia il ic (if s.has then s.ins else [])
theorem MR.chg {S T : Nat → Prop} {w w' : World} {bt : Nat} {s : Mst} (h : MR w S bt s) (hc : Chg T w w') (hn : ∀ b, S b → ¬ T b) : MR w' S bt s := by
  obtain ⟨h0, h1, A, B, a, c, bs, ia, il, ic, hA, hB, h2, h3, h4⟩ := h
  exact ⟨h0, h1, A, B, a, c, bs, ia, il, ic, hA, hB, h2.chg hc (hn _ h1), h3.chg hc (fun b hb => hn b (hA b hb).1), h4.chg hc fun b hb => hn b (hB b hb).1⟩
theorem MR.mono {S T : Nat → Prop} {w : World} {bt : Nat} {s : Mst} (h : MR w S bt s) (hs : ∀ b, S b → T b) : MR w T bt s := by
  obtain ⟨h0, h1, A, B, a, c, bs, ia, il, ic, hA, hB, h2, h3, h4⟩ := h
  exact ⟨h0, hs _ h1, A, B, a, c, bs, ia, il, ic, fun x hx => ⟨hs x (hA x hx).1, (hA x hx).2⟩, fun x hx => ⟨hs x (hB x hx).1, (hB x hx).2⟩, h2, h3, h4⟩
theorem ref06_New_ok {w : World} {a : Int} {K : Option Addr → World → Prop}
    (hk : ∀ bt w', MR w' (fun b => w.heap.size ≤ b ∧ b < w'.heap.size) bt (mNew (mx 1 (mn a 4096)).toNat) → Chg no w w' → K (some ⟨bt, 0, none⟩) w') : ref06_New.f a w K := by
  unfold ref06_New.f
  have h1 := mx_bd 1 (mn a 4096)
  have h2 := mn_bd a 4096
  have h3 : mx 1 (mn a 4096) ≤ 4096 := by omega
  obtain ⟨n, hn⟩ : ∃ n : Nat, mx 1 (mn a 4096) = n := ⟨(mx 1 (mn a 4096)).toNat, by omega⟩
  rw [hn] at hk h1 h3
  rw [Int.toNat_natCast] at hk
  refine newC_b fun w1 hb1 hc1 hs1 => ⟨n + 1, ?_⟩
  have loop : ∀ (N i : Nat) (x : Option Addr) (c : Nat) (bs : List Nat) (w' : World), i ≤ n → n - i < N → Bl 122 w' w.heap.size [.slice x i c, .slice none 0 0, .int .i64 0, .int .i64 0, .bool false] → TabR .i64 3 37 (fun b => w.heap.size + 1 ≤ b) w' x i c bs (List.replicate i mF) → Chg no w w' → w.heap.size + 1 ≤ w'.heap.size →
      (∀ b, x = some ⟨b, 0, none⟩ → b < w'.heap.size) → ref06_New.l3 N a ⟨w.heap.size, 0, none⟩ i w' (fun o3 w => K (some o3) w) := by
    intro N
    induction N with
    | zero => intro i x c bs w' h1 h2; omega
    | succ N ih =>
      intro i x c bs w' hi hN hb hT hc hz hxl
      rw [ref06_New.l3, hn]
      by_cases hlt : i < n
      · refine bif_t (dec_t (by omega)) ⟨5, ?_⟩
        have hbsl : ∀ b ∈ bs, b < w'.heap.size := fun b hb => by
          obtain ⟨j, hj, rfl⟩ := List.getElem_of_mem hb
          obtain ⟨_, xs, hx, _⟩ := hT.row j _ _ (List.getElem?_eq_getElem hj) (List.getElem?_eq_getElem (by rw [← hT.len]; exact hj))
          exact hx.bl.lt
        have inner : ∀ (M k : Nat) (y : Option Addr) (cy : Nat) (w2 : World), k ≤ 4 → 4 - k < M → Own .i64 3 (fun b => w'.heap.size ≤ b) w2 y k cy (mF.take k) → Chg no w' w2 →
            ref06_New.l7 M a ⟨w.heap.size, 0, none⟩ i y k cy k w2 (fun o0_19 o3_20 o4_21 o5_22 o5_22n o5_22c w =>
        ldL o3_20 w fun x27_23 x27_23n x27_23c =>
        newC 37 [(Value.slice o5_22 o5_22n o5_22c)] w fun a29_24 w =>
        appL 37 1 24 [(Value.slice none 0 0)] x27_23 x27_23n x27_23c (some a29_24) 1 1 w fun a30_25 a30_25n a30_25c w =>
        stC o3_20 (Value.slice a30_25 a30_25n a30_25c) w fun w =>
        let v4_26 := (IntKind.wrap .i64 (o4_21 + 1))
        ref06_New.l3 N o0_19 o3_20 v4_26 w (fun o3 w => K (some o3) w)) := by
          intro M
          induction M with
          | zero => intro k y cy w2 h1 h2; omega
          | succ M ihM =>
            intro k y cy w2 hk4 hM hy hc2
            rw [ref06_New.l7]
            by_cases hlt4 : k < 4
            · refine bif_t (dec_t (by omega)) (newC_sl (k := .i64) (xs := [16384]) rfl fun p3 w3 hs3 hc3 hz3 _ => ?_)
              have hz2 := hc2.size
              refine apS (hy.chg hc3 fun _ _ h => h) hs3 rfl (by omega) (by omega) (by omega) fun y' cy' w4 hy4 hc4 => ?_
              dsimp only
              rw [inc (by omega)]
              refine ihM (k + 1) y' cy' w4 (by omega) (by omega) ?_ ((hc2.trans hc3).then hc4 fun j hj h => by omega)
              have e : mF.take k ++ [16384] = mF.take (k + 1) := by
                match k, hlt4 with
                | 0, _ => rfl
                | 1, _ => rfl
                | 2, _ => rfl
                | 3, _ => rfl
              rw [e] at hy4; exact hy4
            · have : k = 4 := by omega
              subst this
              have hz2 := hc2.size
              refine bif_f (dec_f (by omega)) (ldL_b (i := 0) (hb.chg hc2 fun h => h) rfl (newC_b fun w3 hb3 hc3 hs3 => ?_))
              have hy3 := (hy.chg hc3 fun _ _ h => h).tight
              obtain ⟨b0, hyb⟩ : ∃ b0, y = some ⟨b0, 0, none⟩ := by
                rcases hy3 with ⟨_, h, _⟩ | ⟨b, _, h, _⟩
                · omega
                · exact ⟨b, h⟩
              subst hyb
              have hlo : w'.heap.size ≤ b0 := by
                rcases hy3 with ⟨h, _⟩ | ⟨b, _, h, hS, _⟩
                · cases h
                · cases h; exact hS.2
              have hrow : Own .i64 3 (fun b => b = b0) w3 (some ⟨b0, 0, none⟩) mF.length cy mF := hy3.mono fun b hb _ => by
                have := hb.1
                simp at this
                exact this.symm
              refine TabR.append (lo := w.heap.size + 1) ((hT.chg hc2 fun _ _ h => h).chg hc3 fun _ _ h => h) hrow (by omega) (fun b _ hxb e => by have := hxl b hxb; omega) (fun hm => by have := hbsl b0 hm; omega) hb3 (by omega) (by omega) fun a' c' w4 hT4 hc4 hblk => ?_
              have hz4 := hc4.size
              have hb4 := ((hb.chg hc2 fun h => h).chg hc3 fun h => h).chg hc4 fun h => by omega
              refine stC_b (i := 0) hb4 (by simp) fun w5 hb5 hc5 => ?_
              have hz5 := hc5.size
              dsimp only
              rw [inc (by omega)]
              refine ih (i + 1) a' c' (bs ++ [b0]) w5 (by omega) (by omega) hb5 ?_ (((hc.trans hc2).trans hc3).then hc4 (fun j hj h => by omega) |>.then hc5 fun j hj h => by have := hj; omega) (by omega) fun b hb => ?_
              · rw [List.replicate_succ']
                exact hT4.chg hc5 fun b hb e => by omega
              · rcases hblk b hb with h | h
                · have := hxl b h; omega
                · obtain ⟨hhs, ho, _, _⟩ := hT4.head
                  rcases ho with ⟨h0, _⟩ | ⟨b', xs, h0, _, hbb, _⟩
                  · rw [h0] at hb; cases hb
                  · rw [h0] at hb; cases hb
                    have := hbb.lt; omega
        exact inner 5 0 none 0 w' (by omega) (by omega) (Own.nil _ _ _ _) (Chg.refl _ _)
      · have : i = n := by omega
        subst this
        have hln : (mNew i).W.length = i := by simp [mNew]
        refine bif_f (dec_f (by omega)) (hk _ w' ⟨mNew_ok (by omega) (by omega), ⟨Nat.le_refl _, by omega⟩, fun b => w.heap.size + 1 ≤ b ∧ b < w'.heap.size, no, x, c, bs, none, 0, 0, fun x hx => ⟨⟨by omega, hx.2⟩, by omega, fun h => h⟩, fun x hx => hx.elim, ?_, ?_, Own.nil _ _ _ _⟩ hc)
        · rw [hln]; exact hb
        · rw [hln]; exact hT.mono fun b hb hl => ⟨hb, hl⟩
  exact loop (n + 1) 0 none 0 [] w1 (by omega) (by omega) hb1 (TabR.nil _ _ _ _ _) hc1 (by omega) (fun b hb => by cases hb)
end Go.Proofs.Ytdbnobeopgfhgaa.G
