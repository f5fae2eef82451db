/- What the columns' functions and their reference come to. -/
import Derived.Test.YtmgcjihcbdgihaaKa
set_option linter.unusedVariables false
set_option linter.unusedSimpArgs false
namespace Go.Proofs.Ytmgcjihcbdgihaa.G
open Go Go.Proofs.Ytmgcjihcbdgihaa.Vm Go.RowKit
/-- The first `R * m` in rows of `m` read by columns; what is beyond them stays. -/
def headL (R m : Nat) (xs : List Int) : List Int := (List.range R).flatMap fun i => (List.range m).map fun j => xs.getD (j * R + i) 0
def permL (R m : Nat) (xs : List Int) : List Int := headL R m xs ++ xs.drop (R * m)
/-- How far it has come: `i` rows, and `j` of the next. -/
def pre (R m : Nat) (xs : List Int) (i j : Nat) : List Int := ((List.range i).flatMap fun i => (List.range m).map fun j => xs.getD (j * R + i) 0) ++ (List.range j).map fun j => xs.getD (j * R + i) 0
theorem flat_len (f : Nat → Nat → Int) (R m : Nat) : ((List.range R).flatMap fun i => (List.range m).map (f i)).length = R * m := by
  induction R with
  | zero => simp
  | succ R ih => rw [List.range_succ, List.flatMap_append, List.length_append, ih]; simp [Nat.succ_mul]
theorem flat_get (f : Nat → Nat → Int) (R m k : Nat) (h : k < R * m) : ((List.range R).flatMap fun i => (List.range m).map (f i))[k]? = some (f (k / m) (k % m)) := by
  induction R with
  | zero => omega
  | succ R ih =>
    rw [List.range_succ, List.flatMap_append]
    have hl := flat_len f R m
    have hm : 0 < m := by
      rcases Nat.eq_zero_or_pos m with rfl | h'
      · simp at h
      · exact h'
    by_cases hk : k < R * m
    · rw [List.getElem?_append_left (by omega)]; exact ih hk
    · rw [List.getElem?_append_right (by omega), hl]
      rw [Nat.succ_mul] at h
      have e : k = R * m + (k - R * m) := by omega
      have h2 : k - R * m < m := by omega
      have hd : k / m = R := by
        rw [e, Nat.mul_comm R m, Nat.mul_add_div hm, Nat.div_eq_of_lt (by rw [Nat.mul_comm m R]; omega)]; omega
      have hmod : k % m = k - R * m := by
        have := Nat.div_add_mod k m
        rw [hd, Nat.mul_comm] at this; omega
      rw [hd, hmod]
      simp [h2]
theorem headL_length (R m : Nat) (xs : List Int) : (headL R m xs).length = R * m := flat_len _ _ _
theorem headL_get (R m k : Nat) (xs : List Int) (h : k < R * m) : (headL R m xs)[k]? = some (xs.getD ((k % m) * R + k / m) 0) := flat_get (fun i j => xs.getD (j * R + i) 0) R m k h
theorem permL_length (R m : Nat) (xs : List Int) (h : R * m ≤ xs.length) : (permL R m xs).length = xs.length := by
  unfold permL; rw [List.length_append, headL_length, List.length_drop]; omega
theorem permL_get (R m k : Nat) (xs : List Int) (h : k < R * m) : (permL R m xs)[k]? = some (xs.getD ((k % m) * R + k / m) 0) := by
  unfold permL; rw [List.getElem?_append_left (by rw [headL_length]; exact h), headL_get R m k xs h]
theorem permL_rest (R m k : Nat) (xs : List Int) (h : R * m ≤ k) : (permL R m xs)[k]? = xs[k]? := by
  unfold permL; rw [List.getElem?_append_right (by rw [headL_length]; exact h), headL_length, List.getElem?_drop]
  congr 1; omega
theorem idx_lt {R m i j : Nat} (hi : i < R) (hj : j < m) : j * R + i < R * m := by
  have : j * R + R ≤ m * R := by rw [← Nat.succ_mul]; exact Nat.mul_le_mul_right _ hj
  rw [Nat.mul_comm m R] at this; omega
theorem perm_perm (R m : Nat) (xs : List Int) (h : R * m ≤ xs.length) : permL R m (permL m R xs) = xs := by
  have hl1 : (permL m R xs).length = xs.length := permL_length _ _ _ (by rw [Nat.mul_comm]; exact h)
  apply List.ext_getElem?
  intro k
  by_cases hk : k < R * m
  · rw [permL_get R m k _ hk]
    have hm : 0 < m := by
      rcases Nat.eq_zero_or_pos m with rfl | h'
      · omega
      · exact h'
    have h1 : k / m < R := Nat.div_lt_of_lt_mul (by rw [Nat.mul_comm]; exact hk)
    have h2 : k % m < m := Nat.mod_lt _ hm
    have h3 := idx_lt h1 h2
    have hR : 0 < R := Nat.lt_of_le_of_lt (Nat.zero_le _) h1
    rw [List.getD_eq_getElem?_getD, permL_get m R _ xs (by rw [Nat.mul_comm m R]; exact h3)]
    rw [show (k % m * R + k / m) % R = k / m by rw [Nat.mul_comm, Nat.mul_add_mod, Nat.mod_eq_of_lt h1],
      show (k % m * R + k / m) / R = k % m by rw [Nat.mul_comm, Nat.mul_add_div hR, Nat.div_eq_of_lt h1]; omega]
    rw [show k / m * m + k % m = k by rw [Nat.mul_comm]; exact Nat.div_add_mod k m]
    rw [Option.getD_some, List.getD_eq_getElem?_getD, List.getElem?_eq_getElem (by omega)]; rfl
  · rw [permL_rest R m k _ (by omega), permL_rest m R k _ (by rw [Nat.mul_comm]; omega)]
theorem permL_by {R m : Nat} {xs : List Int} (h : By xs) : By (permL R m xs) := by
  intro x hx
  unfold permL headL at hx
  rcases List.mem_append.1 hx with hx | hx
  · obtain ⟨i, _, hx⟩ := List.mem_flatMap.1 hx
    obtain ⟨j, _, rfl⟩ := List.mem_map.1 hx
    rw [List.getD_eq_getElem?_getD]
    cases hg : xs[j * R + i]? with
    | none => simp
    | some v => exact h v (List.mem_of_getElem? hg)
  · exact h x (List.mem_of_mem_drop hx)
theorem pre_length (R m : Nat) (xs : List Int) (i j : Nat) : (pre R m xs i j).length = i * m + j := by
  unfold pre; rw [List.length_append, flat_len (fun i j => xs.getD (j * R + i) 0)]; simp
theorem pre_succ (R m : Nat) (xs : List Int) (i j : Nat) : pre R m xs i (j + 1) = pre R m xs i j ++ [xs.getD (j * R + i) 0] := by
  unfold pre; rw [List.range_succ, List.map_append]; simp
theorem pre_next (R m : Nat) (xs : List Int) (i : Nat) : pre R m xs i m = pre R m xs (i + 1) 0 := by
  unfold pre; rw [List.range_succ, List.flatMap_append]; simp
theorem pre_zero (R m : Nat) (xs : List Int) : pre R m xs 0 0 = [] := rfl
theorem pre_end (R m : Nat) (xs : List Int) : pre R m xs R 0 = headL R m xs := by unfold pre headL; simp
theorem setD (p xs : List Int) (v : Int) (h : p.length < xs.length) : (p ++ xs.drop p.length).set p.length v = p ++ [v] ++ xs.drop (p ++ [v]).length := by
  rw [List.set_append_right _ _ (Nat.le_refl _), Nat.sub_self, List.drop_eq_getElem_cons h, List.set_cons_zero]
  simp
theorem ref18_Apart_l8 {w0 : World} {x : Option Addr} {n xc R m : Nat} {xs : List Int} {K2 : Option Addr → Nat → Nat → Int → Int → Option Addr → Nat → Nat → Int → World → Prop} (hx : SlI .u8 w0 x xs) (hxl : xs.length = n) (hm : m * R ≤ n) (hRb : R ≤ 140737488355328) (hn : n ≤ 140737488355328) {j : Nat} (hj : j < R) {B : Nat} (hB : w0.heap.size ≤ B)
    (hk : ∀ w a c, B ≤ w.heap.size → Own .u8 5 (fun b => B ≤ b) w a (j * m + m) c (pre R m xs j m) → Chg no w0 w → K2 x n xc R m a (j * m + m) c j w) (N : Nat) :
    ∀ (i : Nat) (w : World) (a : Option Addr) (c : Nat), B ≤ w.heap.size → i ≤ m → m - i < N → Own .u8 5 (fun b => B ≤ b) w a (j * m + i) c (pre R m xs j i) → Chg no w0 w → ref18_Apart.l8 N x n xc R m a (j * m + i) c j i w K2 := by
  induction N with
  | zero => intro i w a c h1 h2; omega
  | succ N ih =>
    intro i w a c hBw hi hN ho hc
    rw [ref18_Apart.l8]
    by_cases him : i < m
    · refine bif_t (dec_t (by omega)) ?_
      have h1 : i * R + j < n := by have := idx_lt hj him; rw [Nat.mul_comm] at hm; omega
      have e : IntKind.wrap .i64 (IntKind.wrap .i64 ((i : Int) * R) + j) = ((i * R + j : Nat) : Int) := by
        have : ((i : Int) * R) = ((i * R : Nat) : Int) := by simp
        rw [this, w64 (a := ((i * R : Nat) : Int)) (by omega) (by omega), w64 (by omega) (by omega)]; omega
      rw [e]
      refine rdV (hx.chg hc fun _ _ _ h => h) (i * R + j) rfl hxl (v := xs.getD (i * R + j) 0) (by rw [List.getD_eq_getElem?_getD, List.getElem?_eq_getElem (by omega)]; rfl) fun _ _ => ?_
      refine newC_sl (k := .u8) (xs := [xs.getD (i * R + j) 0]) rfl fun p w1 hs hc1 hs1 hp => ?_
      have hsz := hc.size
      have hj2 : j * m + m ≤ n := by rw [← Nat.succ_mul]; exact Nat.le_trans (by rw [Nat.mul_comm m R]; exact Nat.mul_le_mul_right m hj) hm
      refine apS (ho.chg hc1 fun _ _ h => h) hs rfl (by omega) (by omega) (by omega) fun a' c' w2 ho2 hc2 => ?_
      rw [inc (by omega)]
      have hsz2 := hc2.size
      have := ih (i + 1) w2 a' c' (by omega) (by omega) (by omega) (by rw [pre_succ]; exact ho2) ((hc.trans hc1).then hc2 fun k hk h => by omega)
      exact this
    · have : i = m := by omega
      subst this
      exact bif_f (dec_f (by omega)) (hk w a c hBw ho hc)
theorem ref18_Apart_l5 {w0 : World} {x : Option Addr} {n xc R m : Nat} {xs : List Int} {K0 : Option Addr → Nat → Nat → Int → Int → Option Addr → Nat → Nat → World → Prop} (hx : SlI .u8 w0 x xs) (hxl : xs.length = n) (hm : m * R ≤ n) (hRb : R ≤ 140737488355328) (hn : n ≤ 140737488355328) {B : Nat} (hB : w0.heap.size ≤ B)
    (hk : ∀ w a c, B ≤ w.heap.size → Own .u8 5 (fun b => B ≤ b) w a (R * m) c (headL R m xs) → Chg no w0 w → K0 x n xc R m a (R * m) c w) (N : Nat) :
    ∀ (j : Nat) (w : World) (a : Option Addr) (c : Nat), B ≤ w.heap.size → j ≤ R → R - j < N → Own .u8 5 (fun b => B ≤ b) w a (j * m) c (pre R m xs j 0) → Chg no w0 w → ref18_Apart.l5 N x n xc R m a (j * m) c j w K0 := by
  induction N with
  | zero => intro j w a c h1 h2; omega
  | succ N ih =>
    intro j w a c hBw hj hN ho hc
    rw [ref18_Apart.l5]
    by_cases hjR : j < R
    · refine bif_t (dec_t (by omega)) ⟨m + 1, ?_⟩
      refine ref18_Apart_l8 hx hxl hm hRb hn hjR hB (fun w1 a1 c1 hB1 ho1 hc1 => ?_) (m + 1) 0 w a c hBw (by omega) (by omega) ho hc
      rw [pre_next, ← Nat.succ_mul] at ho1
      show ref18_Apart.l5 N x n xc R m a1 (j * m + m) c1 (IntKind.wrap .i64 ((j : Int) + 1)) w1 K0
      rw [inc (by omega), ← Nat.succ_mul]
      exact ih (j + 1) w1 a1 c1 hB1 (by omega) (by omega) ho1 hc1
    · have : j = R := by omega
      subst this
      rw [pre_end] at ho
      exact bif_f (dec_f (by omega)) (hk w a c hBw ho hc)
theorem ref18_Together_l8 {w0 : World} {x : Option Addr} {n xc R m : Nat} {xs : List Int} {K2 : Option Addr → Nat → Nat → Int → Int → Option Addr → Nat → Nat → Int → World → Prop} (hx : SlI .u8 w0 x xs) (hxl : xs.length = n) (hm : m * R ≤ n) (hRb : R ≤ 140737488355328) (hn : n ≤ 140737488355328) {j : Nat} (hj : j < R) {B : Nat} (hB : w0.heap.size ≤ B)
    (hk : ∀ w a c, B ≤ w.heap.size → Own .u8 5 (fun b => B ≤ b) w a (j * m + m) c (pre R m xs j m) → Chg no w0 w → K2 x n xc m R a (j * m + m) c j w) (N : Nat) :
    ∀ (i : Nat) (w : World) (a : Option Addr) (c : Nat), B ≤ w.heap.size → i ≤ m → m - i < N → Own .u8 5 (fun b => B ≤ b) w a (j * m + i) c (pre R m xs j i) → Chg no w0 w → ref18_Together.l8 N x n xc m R a (j * m + i) c j i w K2 := by
  induction N with
  | zero => intro i w a c h1 h2; omega
  | succ N ih =>
    intro i w a c hBw hi hN ho hc
    rw [ref18_Together.l8]
    by_cases him : i < m
    · refine bif_t (dec_t (by omega)) ?_
      have h1 : i * R + j < n := by have := idx_lt hj him; rw [Nat.mul_comm] at hm; omega
      have e : IntKind.wrap .i64 (IntKind.wrap .i64 ((i : Int) * R) + j) = ((i * R + j : Nat) : Int) := by
        have : ((i : Int) * R) = ((i * R : Nat) : Int) := by simp
        rw [this, w64 (a := ((i * R : Nat) : Int)) (by omega) (by omega), w64 (by omega) (by omega)]; omega
      rw [e]
      refine rdV (hx.chg hc fun _ _ _ h => h) (i * R + j) rfl hxl (v := xs.getD (i * R + j) 0) (by rw [List.getD_eq_getElem?_getD, List.getElem?_eq_getElem (by omega)]; rfl) fun _ _ => ?_
      refine newC_sl (k := .u8) (xs := [xs.getD (i * R + j) 0]) rfl fun p w1 hs hc1 hs1 hp => ?_
      have hsz := hc.size
      have hj2 : j * m + m ≤ n := by rw [← Nat.succ_mul]; exact Nat.le_trans (by rw [Nat.mul_comm m R]; exact Nat.mul_le_mul_right m hj) hm
      refine apS (ho.chg hc1 fun _ _ h => h) hs rfl (by omega) (by omega) (by omega) fun a' c' w2 ho2 hc2 => ?_
      rw [inc (by omega)]
      have hsz2 := hc2.size
      have := ih (i + 1) w2 a' c' (by omega) (by omega) (by omega) (by rw [pre_succ]; exact ho2) ((hc.trans hc1).then hc2 fun k hk h => by omega)
      exact this
    · have : i = m := by omega
      subst this
      exact bif_f (dec_f (by omega)) (hk w a c hBw ho hc)
theorem ref18_Together_l5 {w0 : World} {x : Option Addr} {n xc R m : Nat} {xs : List Int} {K0 : Option Addr → Nat → Nat → Int → Int → Option Addr → Nat → Nat → World → Prop} (hx : SlI .u8 w0 x xs) (hxl : xs.length = n) (hm : m * R ≤ n) (hRb : R ≤ 140737488355328) (hn : n ≤ 140737488355328) {B : Nat} (hB : w0.heap.size ≤ B)
    (hk : ∀ w a c, B ≤ w.heap.size → Own .u8 5 (fun b => B ≤ b) w a (R * m) c (headL R m xs) → Chg no w0 w → K0 x n xc m R a (R * m) c w) (N : Nat) :
    ∀ (j : Nat) (w : World) (a : Option Addr) (c : Nat), B ≤ w.heap.size → j ≤ R → R - j < N → Own .u8 5 (fun b => B ≤ b) w a (j * m) c (pre R m xs j 0) → Chg no w0 w → ref18_Together.l5 N x n xc m R a (j * m) c j w K0 := by
  induction N with
  | zero => intro j w a c h1 h2; omega
  | succ N ih =>
    intro j w a c hBw hj hN ho hc
    rw [ref18_Together.l5]
    by_cases hjR : j < R
    · refine bif_t (dec_t (by omega)) ⟨m + 1, ?_⟩
      refine ref18_Together_l8 hx hxl hm hRb hn hjR hB (fun w1 a1 c1 hB1 ho1 hc1 => ?_) (m + 1) 0 w a c hBw (by omega) (by omega) ho hc
      rw [pre_next, ← Nat.succ_mul] at ho1
      show ref18_Together.l5 N x n xc m R a1 (j * m + m) c1 (IntKind.wrap .i64 ((j : Int) + 1)) w1 K0
      rw [inc (by omega), ← Nat.succ_mul]
      exact ih (j + 1) w1 a1 c1 hB1 (by omega) (by omega) ho1 hc1
    · have : j = R := by omega
      subst this
      rw [pre_end] at ho
      exact bif_f (dec_f (by omega)) (hk w a c hBw ho hc)
theorem ref18_Apart_ok {x : Option Addr} {n xc : Nat} {v : Int} {xs : List Int} {w : World} {K : Option Addr → Nat → Nat → World → Prop} (hx : SlI .u8 w x xs) (hxl : xs.length = n) (hn : n ≤ 70368744177664) (hnc : n ≤ xc)
    (hk : ∀ a c w', Own .u8 5 (fun b => w.heap.size ≤ b) w' a n c (permL (mx 1 (mn v 16)).toNat (n / (mx 1 (mn v 16)).toNat) xs) → Chg no w w' → K a n c w') : ref18_Apart.f x n xc v w K := by
  unfold ref18_Apart.f
  have m1 := mx_bd 1 (mn v 16)
  have m2 := mn_bd v 16
  obtain ⟨M, hM⟩ : ∃ M : Nat, mx 1 (mn v 16) = M := ⟨(mx 1 (mn v 16)).toNat, by omega⟩
  rw [hM] at hk ⊢
  rw [Int.toNat_natCast] at hk
  have hM0 : 1 ≤ M := by omega
  have hle : n / M ≤ n := Nat.div_le_self _ _
  have hmR : n / M * M ≤ n := Nat.div_mul_le_self _ _
  have hdiv0 : Int.tdiv (n : Int) M = ((n / M : Nat) : Int) := by rw [Int.tdiv_eq_ediv_of_nonneg (by omega)]; rfl
  generalize n / M = q at *
  have hdiv : IntKind.wrap .i64 (Int.tdiv (n : Int) M) = (q : Int) := by rw [hdiv0, w64 (by omega) (by omega)]
  refine ifn_of (by omega) ?_
  rw [hdiv]
  refine ⟨M + 1, ?_⟩
  have key := ref18_Apart_l5 (xc := xc) (R := M) (m := (q)) (w0 := w) (B := w.heap.size) (K0 := fun o0_29 o0_29n o0_29c o1_30 o5_31 o6_32 o6_32n o6_32c w => bnd o0_29n o0_29c (some (Value.int .i64 (IntKind.wrap .i64 (o5_31 * o1_30)))) none fun l_34 h_35 =>
    appL 5 1 1 [(Value.int .u8 0)] o6_32 o6_32n o6_32c (adrS o0_29 l_34 o0_29c 1) (h_35 - l_34) (o0_29c - l_34) w fun a43_36 a43_36n a43_36c w =>
    K a43_36 a43_36n a43_36c w) hx hxl (hmR) (by omega) (by omega) (Nat.le_refl _) (fun w1 a1 c1 hB1 ho1 hc1 => ?_) (M + 1) 0 w none 0 (Nat.le_refl _) (by omega) (by omega) (by rw [Nat.zero_mul]; exact Own.nil _ _ _ _) (Chg.refl _ _)
  · rw [Nat.zero_mul] at key; exact key
  · have e : IntKind.wrap .i64 (((q : Nat) : Int) * M) = ((q * M : Nat) : Int) := by
      have : ((q : Nat) : Int) * M = ((q * M : Nat) : Int) := (Int.natCast_mul _ _).symm
      rw [this, w64 (by omega) (by omega)]
    rw [e]
    refine bnd_lo (by omega) (by omega) ?_
    rw [Int.toNat_natCast]
    have hp : SlI .u8 w1 (adrS x (q * M) xc 1) (xs.drop (q * M)) := by
      have := (hx.chg hc1 fun _ _ _ h => h).part (l := q * M) (h := n) (c := xc) (by omega) (by omega) hnc
      rwa [List.take_of_length_le (by omega)] at this
    refine apS ho1 hp (by rw [List.length_drop]; omega) (by simp only [Nat.mul_one]; have := Nat.mul_comm M (q); omega) (by omega) (by omega) fun a' c' w2 ho2 hc2 => ?_
    have en : M * (q) + (n - q * M) = n := by have := Nat.mul_comm M (q); omega
    rw [en] at ho2 ⊢
    refine hk a' c' w2 ?_ (hc1.then hc2 fun k hk h => by omega)
    unfold permL
    rw [Nat.mul_comm M (q)] at *
    exact ho2
theorem ref18_Together_ok {x : Option Addr} {n xc : Nat} {v : Int} {xs : List Int} {w : World} {K : Option Addr → Nat → Nat → World → Prop} (hx : SlI .u8 w x xs) (hxl : xs.length = n) (hn : n ≤ 70368744177664) (hnc : n ≤ xc)
    (hk : ∀ a c w', Own .u8 5 (fun b => w.heap.size ≤ b) w' a n c (permL (n / (mx 1 (mn v 16)).toNat) (mx 1 (mn v 16)).toNat xs) → Chg no w w' → K a n c w') : ref18_Together.f x n xc v w K := by
  unfold ref18_Together.f
  have m1 := mx_bd 1 (mn v 16)
  have m2 := mn_bd v 16
  obtain ⟨M, hM⟩ : ∃ M : Nat, mx 1 (mn v 16) = M := ⟨(mx 1 (mn v 16)).toNat, by omega⟩
  rw [hM] at hk ⊢
  rw [Int.toNat_natCast] at hk
  have hM0 : 1 ≤ M := by omega
  have hle : n / M ≤ n := Nat.div_le_self _ _
  have hmR : n / M * M ≤ n := Nat.div_mul_le_self _ _
  have hdiv0 : Int.tdiv (n : Int) M = ((n / M : Nat) : Int) := by rw [Int.tdiv_eq_ediv_of_nonneg (by omega)]; rfl
  generalize n / M = q at *
  have hdiv : IntKind.wrap .i64 (Int.tdiv (n : Int) M) = (q : Int) := by rw [hdiv0, w64 (by omega) (by omega)]
  refine ifn_of (by omega) ?_
  rw [hdiv]
  refine ⟨q + 1, ?_⟩
  have key := ref18_Together_l5 (xc := xc) (R := (q)) (m := M) (w0 := w) (B := w.heap.size) (K0 := fun o0_29 o0_29n o0_29c o1_30 o5_31 o6_32 o6_32n o6_32c w => bnd o0_29n o0_29c (some (Value.int .i64 (IntKind.wrap .i64 (o5_31 * o1_30)))) none fun l_34 h_35 =>
    appL 5 1 1 [(Value.int .u8 0)] o6_32 o6_32n o6_32c (adrS o0_29 l_34 o0_29c 1) (h_35 - l_34) (o0_29c - l_34) w fun a43_36 a43_36n a43_36c w =>
    K a43_36 a43_36n a43_36c w) hx hxl (by rw [Nat.mul_comm]; exact hmR) (by have := Nat.div_le_self n M; omega) (by omega) (Nat.le_refl _) (fun w1 a1 c1 hB1 ho1 hc1 => ?_) (q + 1) 0 w none 0 (Nat.le_refl _) (by omega) (by omega) (by rw [Nat.zero_mul]; exact Own.nil _ _ _ _) (Chg.refl _ _)
  · rw [Nat.zero_mul] at key; exact key
  · have e : IntKind.wrap .i64 (((q : Nat) : Int) * M) = ((q * M : Nat) : Int) := by
      have : ((q : Nat) : Int) * M = ((q * M : Nat) : Int) := (Int.natCast_mul _ _).symm
      rw [this, w64 (by omega) (by omega)]
    rw [e]
    refine bnd_lo (by omega) (by omega) ?_
    rw [Int.toNat_natCast]
    have hp : SlI .u8 w1 (adrS x (q * M) xc 1) (xs.drop (q * M)) := by
      have := (hx.chg hc1 fun _ _ _ h => h).part (l := q * M) (h := n) (c := xc) (by omega) (by omega) hnc
      rwa [List.take_of_length_le (by omega)] at this
    refine apS ho1 hp (by rw [List.length_drop]; omega) (by simp only [Nat.mul_one]; omega) (by omega) (by omega) fun a' c' w2 ho2 hc2 => ?_
    have en : (q) * M + (n - q * M) = n := by omega
    rw [en] at ho2 ⊢
    refine hk a' c' w2 ?_ (hc1.then hc2 fun k hk h => by omega)
    unfold permL
    exact ho2
theorem colour_Apart_l8 {S : Nat → Prop} {w0 : World} {x y : Option Addr} {n xc yc R m : Nat} {xs : List Int} {K2 : Option Addr → Nat → Nat → Int → Int → Option Addr → Nat → Nat → Int → Int → World → Prop} (hx : SlI .u8 w0 x xs) (hxS : ∀ p, x = some p → xs ≠ [] → ¬ S p.block) (hxl : xs.length = n)
    (hm : m * R ≤ n) (hn : n ≤ 140737488355328) {j : Nat} (hj : j < R)
    (hk : ∀ w, Own .u8 5 S w y n yc (pre R m xs j m ++ xs.drop (pre R m xs j m).length) → Chg S w0 w → K2 x n xc R m y n yc R j w) (N : Nat) :
    ∀ (i : Nat) (w : World), i ≤ m → m - i < N → Own .u8 5 S w y n yc (pre R m xs j i ++ xs.drop (pre R m xs j i).length) → Chg S w0 w → colour_Apart.l8 N x n xc R m y n yc j R j m i w K2 := by
  induction N with
  | zero => intro i w h1 h2; omega
  | succ N ih =>
    intro i w hi hN ho hc
    rw [colour_Apart.l8]
    by_cases him : i < m
    · refine bif_t (dec_t (by omega)) ?_
      have h1 : i * R + j < n := by have := idx_lt hj him; rw [Nat.mul_comm] at hm; omega
      have hj2 : j * m + m ≤ n := by rw [← Nat.succ_mul]; exact Nat.le_trans (by rw [Nat.mul_comm m R]; exact Nat.mul_le_mul_right m hj) hm
      have e : IntKind.wrap .i64 (IntKind.wrap .i64 ((i : Int) * R) + j) = ((i * R + j : Nat) : Int) := by
        have : ((i : Int) * R) = ((i * R : Nat) : Int) := by simp
        rw [this, w64 (a := ((i * R : Nat) : Int)) (by omega) (by omega), w64 (by omega) (by omega)]; omega
      have e2 : IntKind.wrap .i64 (IntKind.wrap .i64 ((j : Int) * m) + i) = ((j * m + i : Nat) : Int) := by
        have : ((j : Int) * m) = ((j * m : Nat) : Int) := by simp
        rw [this, w64 (a := ((j * m : Nat) : Int)) (by omega) (by omega), w64 (by omega) (by omega)]; omega
      rw [e, e2]
      have hpl := pre_length R m xs j i
      refine rdV (hx.chg hc hxS) (i * R + j) rfl hxl (v := xs.getD (i * R + j) 0) (by rw [List.getD_eq_getElem?_getD, List.getElem?_eq_getElem (by omega)]; rfl) fun _ _ => ?_
      refine wrS ho (j * m + i) rfl (by rw [ho.length]; omega) fun _ w1 ho1 hc1 => ?_
      rw [← hpl, setD _ _ _ (by omega), ← pre_succ] at ho1
      rw [inc (by omega)]
      exact ih (i + 1) w1 (by omega) (by omega) ho1 (hc.trans hc1)
    · have : i = m := by omega
      subst this
      exact bif_f (dec_f (by omega)) (hk w ho hc)
theorem colour_Apart_l5 {S : Nat → Prop} {w0 : World} {x y : Option Addr} {n xc yc R m : Nat} {xs : List Int} {K0 : Option Addr → Nat → Nat → World → Prop} (hx : SlI .u8 w0 x xs) (hxS : ∀ p, x = some p → xs ≠ [] → ¬ S p.block) (hxl : xs.length = n)
    (hm : m * R ≤ n) (hRb : R ≤ 140737488355328) (hn : n ≤ 140737488355328)
    (hk : ∀ w, Own .u8 5 S w y n yc (permL R m xs) → Chg S w0 w → K0 y n yc w) (N : Nat) :
    ∀ (j : Nat) (w : World), j ≤ R → R - j < N → Own .u8 5 S w y n yc (pre R m xs j 0 ++ xs.drop (pre R m xs j 0).length) → Chg S w0 w → colour_Apart.l5 N x n xc R m y n yc R j w K0 := by
  induction N with
  | zero => intro j w h1 h2; omega
  | succ N ih =>
    intro j w hj hN ho hc
    rw [colour_Apart.l5]
    by_cases hjR : j < R
    · refine bif_t (dec_t (by omega)) ⟨m + 1, ?_⟩
      refine colour_Apart_l8 hx hxS hxl hm hn hjR (fun w1 ho1 hc1 => ?_) (m + 1) 0 w (by omega) (by omega) ho hc
      rw [pre_next] at ho1
      show colour_Apart.l5 N x n xc R m y n yc R (IntKind.wrap .i64 ((j : Int) + 1)) w1 K0
      rw [inc (by omega)]
      exact ih (j + 1) w1 (by omega) (by omega) ho1 hc1
    · have : j = R := by omega
      subst this
      rw [pre_end, headL_length] at ho
      exact bif_f (dec_f (by omega)) (hk w ho hc)
/-- So far the columns stand together. -/
def Tog (R m : Nat) (xs : List Int) (j i : Nat) (ys : List Int) : Prop := ys.length = xs.length ∧ ∀ k, ys[k]? = if k < R * m ∧ (k % m < j ∨ (k % m = j ∧ k / m < i)) then some (xs.getD (k % m * R + k / m) 0) else xs[k]?
theorem Tog.zero (R m : Nat) (xs : List Int) : Tog R m xs 0 0 xs := ⟨rfl, fun k => by generalize k / m = q; rw [if_neg (by omega)]⟩
theorem Tog.next {R m : Nat} {xs ys : List Int} {j : Nat} (hm : 0 < m) (h : Tog R m xs j R ys) : Tog R m xs (j + 1) 0 ys := ⟨h.1, fun k => by
  rw [h.2 k]
  by_cases hk : k < R * m
  · have : k / m < R := Nat.div_lt_of_lt_mul (by rw [Nat.mul_comm]; exact hk)
    generalize k / m = q at *
    by_cases hj : k % m < j ∨ k % m = j
    · rw [if_pos ⟨hk, by omega⟩, if_pos ⟨hk, by omega⟩]
    · rw [if_neg (fun hh => hj (by omega)), if_neg (fun hh => hj (by omega))]
  · rw [if_neg (fun hh => hk hh.1), if_neg (fun hh => hk hh.1)]⟩
theorem Tog.done {R m : Nat} {xs ys : List Int} (hm : 0 < m) (h : Tog R m xs m 0 ys) : ys = permL R m xs := by
  apply List.ext_getElem?
  intro k
  rw [h.2 k]
  by_cases hk : k < R * m
  · rw [if_pos ⟨hk, .inl (Nat.mod_lt _ hm)⟩, permL_get R m k xs hk]
  · rw [if_neg (fun hh => hk hh.1), permL_rest R m k xs (by omega)]
theorem Tog.step {R m : Nat} {xs ys : List Int} {j i : Nat} (hj : j < m) (hi : i < R) (hle : R * m ≤ xs.length) (h : Tog R m xs j i ys) : Tog R m xs j (i + 1) (ys.set (i * m + j) (xs.getD (j * R + i) 0)) := by
  refine ⟨by rw [List.length_set]; exact h.1, fun k => ?_⟩
  have hlt : i * m + j < R * m := by rw [Nat.mul_comm R m]; exact idx_lt hj hi
  have hmod : (i * m + j) % m = j := by rw [Nat.mul_comm, Nat.mul_add_mod, Nat.mod_eq_of_lt hj]
  have hdiv : (i * m + j) / m = i := by rw [Nat.mul_comm, Nat.mul_add_div (by omega), Nat.div_eq_of_lt hj]; omega
  by_cases hk : i * m + j = k
  · subst hk
    rw [List.getElem?_set_self (by rw [h.1]; omega), hmod, hdiv, if_pos ⟨hlt, by omega⟩]
  · rw [List.getElem?_set_ne hk, h.2 k]
    have : k % m = j → k / m ≠ i := fun h1 h2 => hk (by rw [← h1, ← h2, Nat.mul_comm]; exact Nat.div_add_mod k m)
    by_cases hc : k < R * m ∧ (k % m < j ∨ (k % m = j ∧ k / m < i))
    · rw [if_pos hc, if_pos ⟨hc.1, by omega⟩]
    · rw [if_neg hc, if_neg (fun hh => hc ⟨hh.1, by rcases hh.2 with h1 | ⟨h1, h2⟩; exact .inl h1; exact .inr ⟨h1, by have := this h1; omega⟩⟩)]
theorem colour_Together_l8 {S : Nat → Prop} {w0 : World} {x y : Option Addr} {n xc yc R m : Nat} {xs : List Int} {K2 : Option Addr → Nat → Nat → Int → Int → Option Addr → Nat → Nat → Int → Int → World → Prop} (hx : SlI .u8 w0 x xs) (hxS : ∀ p, x = some p → xs ≠ [] → ¬ S p.block) (hxl : xs.length = n)
    (hm : R * m ≤ n) (hn : n ≤ 140737488355328) {j : Nat} (hj : j < m)
    (hk : ∀ w ys, Tog R m xs j R ys → Own .u8 5 S w y n yc ys → Chg S w0 w → K2 x n xc m R y n yc m j w) (N : Nat) :
    ∀ (i : Nat) (w : World) (ys : List Int), i ≤ R → R - i < N → Tog R m xs j i ys → Own .u8 5 S w y n yc ys → Chg S w0 w → colour_Together.l8 N x n xc m R y n yc j m j R i w K2 := by
  induction N with
  | zero => intro i w ys h1 h2; omega
  | succ N ih =>
    intro i w ys hi hN hT ho hc
    rw [colour_Together.l8]
    by_cases him : i < R
    · refine bif_t (dec_t (by omega)) ?_
      have h1 : j * R + i < n := by have := idx_lt him hj; omega
      have h2 : i * m + j < n := by have := idx_lt hj him; rw [Nat.mul_comm m R] at this; omega
      have e : IntKind.wrap .i64 (IntKind.wrap .i64 ((i : Int) * m) + j) = ((i * m + j : Nat) : Int) := by
        have : ((i : Int) * m) = ((i * m : Nat) : Int) := by simp
        rw [this, w64 (a := ((i * m : Nat) : Int)) (by omega) (by omega), w64 (by omega) (by omega)]; omega
      have e2 : IntKind.wrap .i64 (IntKind.wrap .i64 ((j : Int) * R) + i) = ((j * R + i : Nat) : Int) := by
        have : ((j : Int) * R) = ((j * R : Nat) : Int) := by simp
        rw [this, w64 (a := ((j * R : Nat) : Int)) (by omega) (by omega), w64 (by omega) (by omega)]; omega
      rw [e, e2]
      refine rdV (hx.chg hc hxS) (j * R + i) rfl hxl (v := xs.getD (j * R + i) 0) (by rw [List.getD_eq_getElem?_getD, List.getElem?_eq_getElem (by omega)]; rfl) fun _ _ => ?_
      refine wrS ho (i * m + j) rfl (by rw [ho.length]; omega) fun _ w1 ho1 hc1 => ?_
      have hRb : R ≤ n := Nat.le_trans (Nat.le_mul_of_pos_right R (by omega)) hm
      rw [inc (by omega)]
      exact ih (i + 1) w1 _ (by omega) (by omega) (hT.step hj him (by omega)) ho1 (hc.trans hc1)
    · have : i = R := by omega
      subst this
      exact bif_f (dec_f (by omega)) (hk w ys hT ho hc)
theorem colour_Together_l5 {S : Nat → Prop} {w0 : World} {x y : Option Addr} {n xc yc R m : Nat} {xs : List Int} {K0 : Option Addr → Nat → Nat → World → Prop} (hx : SlI .u8 w0 x xs) (hxS : ∀ p, x = some p → xs ≠ [] → ¬ S p.block) (hxl : xs.length = n)
    (hm : R * m ≤ n) (hm0 : 0 < m) (hmb : m ≤ 140737488355328) (hn : n ≤ 140737488355328)
    (hk : ∀ w, Own .u8 5 S w y n yc (permL R m xs) → Chg S w0 w → K0 y n yc w) (N : Nat) :
    ∀ (j : Nat) (w : World) (ys : List Int), j ≤ m → m - j < N → Tog R m xs j 0 ys → Own .u8 5 S w y n yc ys → Chg S w0 w → colour_Together.l5 N x n xc m R y n yc m j w K0 := by
  induction N with
  | zero => intro j w ys h1 h2; omega
  | succ N ih =>
    intro j w ys hj hN hT ho hc
    rw [colour_Together.l5]
    by_cases hjR : j < m
    · refine bif_t (dec_t (by omega)) ⟨R + 1, ?_⟩
      refine colour_Together_l8 hx hxS hxl hm hn hjR (fun w1 ys1 hT1 ho1 hc1 => ?_) (R + 1) 0 w ys (by omega) (by omega) hT ho hc
      show colour_Together.l5 N x n xc m R y n yc m (IntKind.wrap .i64 ((j : Int) + 1)) w1 K0
      rw [inc (by omega)]
      exact ih (j + 1) w1 ys1 (by omega) (by omega) (hT1.next hm0) ho1 hc1
    · have : j = m := by omega
      subst this
      have := hT.done hm0
      subst this
      exact bif_f (dec_f (by omega)) (hk w ho hc)
theorem notnew {k : IntKind} {w : World} {x : Option Addr} {xs : List Int} (hx : SlI k w x xs) : ∀ p, x = some p → xs ≠ [] → ¬ p.block = w.heap.size := fun p hp hne => by
  obtain ⟨q, hq, hcq⟩ := hx 0 (List.length_pos_iff.2 hne)
  rw [hp] at hq; cases hq
  have := block_lt hcq
  rw [add_block] at this
  omega
theorem colour_Apart_ok {x : Option Addr} {n xc : Nat} {v : Int} {xs : List Int} {w : World} {K : Option Addr → Nat → Nat → World → Prop} (hx : SlI .u8 w x xs) (hxl : xs.length = n) (hn : n ≤ 70368744177664)
    (hk : ∀ a c w', Own .u8 5 (fun b => b = w.heap.size) w' a n c (permL (mx 1 (mn v 16)).toNat (n / (mx 1 (mn v 16)).toNat) xs) → Chg no w w' → K a n c w') : colour_Apart.f x n xc v w K := by
  unfold colour_Apart.f
  have m1 := mx_bd 1 (mn v 16)
  have m2 := mn_bd v 16
  obtain ⟨M, hM⟩ : ∃ M : Nat, mx 1 (mn v 16) = M := ⟨(mx 1 (mn v 16)).toNat, by omega⟩
  rw [hM] at hk ⊢
  rw [Int.toNat_natCast] at hk
  have hM0 : 1 ≤ M := by omega
  have hle : n / M ≤ n := Nat.div_le_self _ _
  have hmR : n / M * M ≤ n := Nat.div_mul_le_self _ _
  have hdiv0 : Int.tdiv (n : Int) M = ((n / M : Nat) : Int) := by rw [Int.tdiv_eq_ediv_of_nonneg (by omega)]; rfl
  generalize n / M = q at *
  have hdiv : IntKind.wrap .i64 (Int.tdiv (n : Int) M) = (q : Int) := by rw [hdiv0, w64 (by omega) (by omega)]
  refine ifn_of (by omega) ?_
  rw [hdiv]
  refine cpS hx hxl (by omega) (by omega) fun a' c' w1 ho hc => ⟨M + 1, ?_⟩
  exact colour_Apart_l5 (S := fun b => b = w.heap.size) (R := M) (m := q) (hx.chg hc fun _ _ _ h => h) (notnew hx) hxl hmR (by omega) (by omega) (fun w2 ho2 hc2 => hk a' c' w2 ho2 (hc.then hc2 fun k hk h => by omega)) (M + 1) 0 w1 (by omega) (by omega) ho (Chg.refl _ _)
theorem colour_Together_ok {x : Option Addr} {n xc : Nat} {v : Int} {xs : List Int} {w : World} {K : Option Addr → Nat → Nat → World → Prop} (hx : SlI .u8 w x xs) (hxl : xs.length = n) (hn : n ≤ 70368744177664)
    (hk : ∀ a c w', Own .u8 5 (fun b => b = w.heap.size) w' a n c (permL (n / (mx 1 (mn v 16)).toNat) (mx 1 (mn v 16)).toNat xs) → Chg no w w' → K a n c w') : colour_Together.f x n xc v w K := by
  unfold colour_Together.f
  have m1 := mx_bd 1 (mn v 16)
  have m2 := mn_bd v 16
  obtain ⟨M, hM⟩ : ∃ M : Nat, mx 1 (mn v 16) = M := ⟨(mx 1 (mn v 16)).toNat, by omega⟩
  rw [hM] at hk ⊢
  rw [Int.toNat_natCast] at hk
  have hM0 : 1 ≤ M := by omega
  have hle : n / M ≤ n := Nat.div_le_self _ _
  have hmR : n / M * M ≤ n := Nat.div_mul_le_self _ _
  have hdiv0 : Int.tdiv (n : Int) M = ((n / M : Nat) : Int) := by rw [Int.tdiv_eq_ediv_of_nonneg (by omega)]; rfl
  generalize n / M = q at *
  have hdiv : IntKind.wrap .i64 (Int.tdiv (n : Int) M) = (q : Int) := by rw [hdiv0, w64 (by omega) (by omega)]
  refine ifn_of (by omega) ?_
  rw [hdiv]
  refine cpS hx hxl (by omega) (by omega) fun a' c' w1 ho hc => ⟨M + 1, ?_⟩
  exact colour_Together_l5 (S := fun b => b = w.heap.size) (R := q) (m := M) (hx.chg hc fun _ _ _ h => h) (notnew hx) hxl hmR (by omega) (by omega) (by omega) (fun w2 ho2 hc2 => hk a' c' w2 ho2 (hc.then hc2 fun k hk h => by omega)) (M + 1) 0 w1 xs (by omega) (by omega) (Tog.zero _ _ _) ho (Chg.refl _ _)
end Go.Proofs.Ytmgcjihcbdgihaa.G
