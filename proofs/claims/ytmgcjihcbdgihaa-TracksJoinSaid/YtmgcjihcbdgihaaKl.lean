/- Middle and side of tracks, and back. -/
import Derived.Test.YtmgcjihcbdgihaaKj
import Derived.Test.YtmgcjihcbdgihaaKh
import Derived.Test.YtmgcjihcbdgihaaVmT
import Derived.Test.YtmgcjihcbdgihaaGenLawTracksMid
set_option linter.unusedVariables false
set_option linter.unusedSimpArgs false
namespace Go.Proofs.Ytmgcjihcbdgihaa.G
open Go Go.Proofs.Ytmgcjihcbdgihaa.Vm Go.RowKit
def midS (x y : Int) : Int := IntKind.wrap .i32 (x - y)
def midM (x y : Int) : Int := IntKind.wrap .i32 (y + shr .i32 (midS x y) 1)
def unR (x y : Int) : Int := IntKind.wrap .i32 (x - shr .i32 y 1)
def unL (x y : Int) : Int := IntKind.wrap .i32 (unR x y + y)
/-- Two lists, number by number. -/
def zipI (f : Int → Int → Int) (xs ys : List Int) (n : Nat) : List Int := (List.range n).map fun i => f (xs.getD i 0) (ys.getD i 0)
theorem zipI_length (f : Int → Int → Int) (xs ys : List Int) (n : Nat) : (zipI f xs ys n).length = n := by simp [zipI]
theorem zipI_get {f : Int → Int → Int} {xs ys : List Int} {n i : Nat} (h : i < n) : (zipI f xs ys n)[i]? = some (f (xs.getD i 0) (ys.getD i 0)) := by
  unfold zipI; rw [List.getElem?_map, List.getElem?_range h]; rfl
theorem zipI_snoc {f : Int → Int → Int} {xs ys : List Int} {i : Nat} : zipI f xs ys i ++ [f (xs.getD i 0) (ys.getD i 0)] = zipI f xs ys (i + 1) := by
  unfold zipI; rw [List.range_succ, List.map_append]; rfl
theorem zipI_getD {f : Int → Int → Int} {xs ys : List Int} {n i : Nat} (h : i < n) : (zipI f xs ys n).getD i 0 = f (xs.getD i 0) (ys.getD i 0) := by
  rw [List.getD_eq_getElem?_getD, zipI_get h]; rfl
theorem un_mid (x y : Int) (hx : -2147483648 ≤ x ∧ x ≤ 2147483647) (hy : -2147483648 ≤ y ∧ y ≤ 2147483647) : unL (midM x y) (midS x y) = x ∧ unR (midM x y) (midS x y) = y := by
  have e : unR (midM x y) (midS x y) = y := by
    unfold unR midM
    generalize shr .i32 (midS x y) 1 = t
    simp only [w32_eq]; omega
  refine ⟨?_, e⟩
  unfold unL
  rw [e]
  unfold midS
  simp only [w32_eq]; omega
theorem unmid_lists {xs ys : List Int} {n : Nat} (hx : I32 xs) (hy : I32 ys) (lx : xs.length = n) (ly : ys.length = n) :
    zipI unL (zipI midM xs ys n) (zipI midS xs ys n) n = xs ∧ zipI unR (zipI midM xs ys n) (zipI midS xs ys n) n = ys := by
  have bx : ∀ i, i < n → -2147483648 ≤ xs.getD i 0 ∧ xs.getD i 0 ≤ 2147483647 := fun i hi => hx _ (List.mem_of_getElem? (getD_some (by omega)))
  have by' : ∀ i, i < n → -2147483648 ≤ ys.getD i 0 ∧ ys.getD i 0 ≤ 2147483647 := fun i hi => hy _ (List.mem_of_getElem? (getD_some (by omega)))
  constructor
  · refine list_eq (by rw [zipI_length, lx]) fun i hi => ?_
    rw [zipI_length] at hi
    rw [zipI_getD hi, zipI_getD hi, zipI_getD hi]
    exact (un_mid _ _ (bx i hi) (by' i hi)).1
  · refine list_eq (by rw [zipI_length, ly]) fun i hi => ?_
    rw [zipI_length] at hi
    rw [zipI_getD hi, zipI_getD hi, zipI_getD hi]
    exact (un_mid _ _ (bx i hi) (by' i hi)).2
theorem set_mid {a : List Int} {m i : Nat} {v : Int} (ha : a.length = i) : (a ++ List.replicate (m + 1) 0).set i v = (a ++ [v]) ++ List.replicate m 0 := by
  subst ha
  rw [List.set_append_right _ _ (Nat.le_refl _), Nat.sub_self, List.replicate_succ]; simp
theorem tracks_Mid_l5 {w0 : World} {x y : Option Addr} {n c d b1 b2 lo : Nat} {xs ys : List Int} {K0 : Option Addr → Nat → Nat → Option Addr → Nat → Nat → World → Prop} (hx : SlI .i32 w0 x xs) (hy : SlI .i32 w0 y ys) (lx : xs.length = n) (ly : ys.length = n) (hn : n < 4611686018427387904)
    (hox : ∀ p, x = some p → xs ≠ [] → ¬ (p.block = b1 ∨ p.block = b2)) (hoy : ∀ p, y = some p → ys ≠ [] → ¬ (p.block = b1 ∨ p.block = b2)) (hne : b1 ≠ b2)
    (hk : ∀ w, BlI .i32 21 w b1 (zipI midM xs ys n) → BlI .i32 21 w b2 (zipI midS xs ys n) → Chg (fun b => b = b1 ∨ b = b2) w0 w → K0 (some ⟨b1, 0, none⟩) n n (some ⟨b2, 0, none⟩) n n w) (N : Nat) :
    ∀ (i : Nat) (w : World), i ≤ n → n - i < N → BlI .i32 21 w b1 (zipI midM xs ys i ++ List.replicate (n - i) 0) → BlI .i32 21 w b2 (zipI midS xs ys i ++ List.replicate (n - i) 0) → Chg (fun b => b = b1 ∨ b = b2) w0 w →
      tracks_Mid.l5 N x n c y n d (some ⟨b1, 0, none⟩) n n (some ⟨b2, 0, none⟩) n n n i w K0 := by
  induction N with
  | zero => intro i w h1 h2; omega
  | succ N ih =>
    intro i w hi hN h1 h2 hc
    rw [tracks_Mid.l5]
    have z1 := zipI_length midM xs ys i
    have z2 := zipI_length midS xs ys i
    by_cases hlt : i < n
    · have hcd := hc.trans (Chg.drew _ w)
      have hvx := getD_some (xs := xs) (i := i) (by omega)
      have hvy := getD_some (xs := ys) (i := i) (by omega)
      have h2d : BlI .i32 21 w.drew b2 (zipI midS xs ys i ++ List.replicate (n - i) 0) := h2
      refine bif_t (dec_t (by omega)) (rdV (w := w.drew) (hx.chg hcd hox) i rfl lx hvx fun _ _ => rdV (w := w.drew) (hy.chg hcd hoy) i rfl ly hvy fun _ _ => ?_)
      refine wrB (w := w.drew) h2d i rfl (by simp [z2]; omega) hlt fun _ w1 hb1 hc1 => ?_
      have k1 := hcd.trans (hc1.mono fun b hb => .inr hb)
      have k1d := k1.trans (Chg.drew _ w1)
      rw [show n - i = (n - (i + 1)) + 1 by omega, set_mid z2] at hb1
      change BlI .i32 21 w1 b2 (zipI midS xs ys i ++ [midS (xs.getD i 0) (ys.getD i 0)] ++ List.replicate (n - (i + 1)) 0) at hb1
      rw [zipI_snoc] at hb1
      have hb1d : BlI .i32 21 w1.drew b2 (zipI midS xs ys (i + 1) ++ List.replicate (n - (i + 1)) 0) := hb1
      have hg : (zipI midS xs ys (i + 1) ++ List.replicate (n - (i + 1)) 0)[i]? = some (midS (xs.getD i 0) (ys.getD i 0)) := by
        rw [List.getElem?_append_left (by rw [zipI_length]; omega), zipI_get (by omega)]
      have h1d : BlI .i32 21 w1.drew b1 (zipI midM xs ys i ++ List.replicate (n - i) 0) := h1.chg (((Chg.drew (fun j => j = b2) w).trans hc1).trans (Chg.drew _ w1)) hne
      refine rdV (w := w1.drew) (hy.chg k1d hoy) i rfl ly hvy fun _ _ => rdV (w := w1.drew) (BlI.sl hb1d) i rfl (by simp [zipI_length]; omega) hg fun _ _ => ?_
      refine wrB (w := w1.drew) h1d i rfl (by simp [z1]; omega) hlt fun _ w2 hb2 hc2 => ?_
      rw [show n - i = (n - (i + 1)) + 1 by omega, set_mid z1] at hb2
      change BlI .i32 21 w2 b1 (zipI midM xs ys i ++ [midM (xs.getD i 0) (ys.getD i 0)] ++ List.replicate (n - (i + 1)) 0) at hb2
      rw [zipI_snoc] at hb2
      rw [inc (by omega)]
      exact ih (i + 1) w2 (by omega) (by omega) hb2 (hb1d.chg hc2 fun h => hne h.symm) (k1d.trans (hc2.mono fun b hb => .inl hb))
    · have : i = n := by omega
      subst this
      rw [Nat.sub_self, List.replicate_zero, List.append_nil] at h1 h2
      exact bif_f (dec_f (by omega)) (hk w h1 h2 hc)
theorem tracks_Unmid_l5 {w0 : World} {x y : Option Addr} {n c d b1 b2 lo : Nat} {xs ys : List Int} {K0 : Option Addr → Nat → Nat → Option Addr → Nat → Nat → World → Prop} (hx : SlI .i32 w0 x xs) (hy : SlI .i32 w0 y ys) (lx : xs.length = n) (ly : ys.length = n) (hn : n < 4611686018427387904)
    (hox : ∀ p, x = some p → xs ≠ [] → ¬ (p.block = b1 ∨ p.block = b2)) (hoy : ∀ p, y = some p → ys ≠ [] → ¬ (p.block = b1 ∨ p.block = b2)) (hne : b1 ≠ b2)
    (hk : ∀ w, BlI .i32 21 w b1 (zipI unL xs ys n) → BlI .i32 21 w b2 (zipI unR xs ys n) → Chg (fun b => b = b1 ∨ b = b2) w0 w → K0 (some ⟨b1, 0, none⟩) n n (some ⟨b2, 0, none⟩) n n w) (N : Nat) :
    ∀ (i : Nat) (w : World), i ≤ n → n - i < N → BlI .i32 21 w b1 (zipI unL xs ys i ++ List.replicate (n - i) 0) → BlI .i32 21 w b2 (zipI unR xs ys i ++ List.replicate (n - i) 0) → Chg (fun b => b = b1 ∨ b = b2) w0 w →
      tracks_Unmid.l5 N x n c y n d (some ⟨b1, 0, none⟩) n n (some ⟨b2, 0, none⟩) n n n i w K0 := by
  induction N with
  | zero => intro i w h1 h2; omega
  | succ N ih =>
    intro i w hi hN h1 h2 hc
    rw [tracks_Unmid.l5]
    have z1 := zipI_length unL xs ys i
    have z2 := zipI_length unR xs ys i
    by_cases hlt : i < n
    · have hcd := hc.trans (Chg.drew _ w)
      have hvx := getD_some (xs := xs) (i := i) (by omega)
      have hvy := getD_some (xs := ys) (i := i) (by omega)
      have h2d : BlI .i32 21 w.drew b2 (zipI unR xs ys i ++ List.replicate (n - i) 0) := h2
      refine bif_t (dec_t (by omega)) (rdV (w := w.drew) (hx.chg hcd hox) i rfl lx hvx fun _ _ => rdV (w := w.drew) (hy.chg hcd hoy) i rfl ly hvy fun _ _ => ?_)
      refine wrB (w := w.drew) h2d i rfl (by simp [z2]; omega) hlt fun _ w1 hb1 hc1 => ?_
      have k1 := hcd.trans (hc1.mono fun b hb => .inr hb)
      have k1d := k1.trans (Chg.drew _ w1)
      rw [show n - i = (n - (i + 1)) + 1 by omega, set_mid z2] at hb1
      change BlI .i32 21 w1 b2 (zipI unR xs ys i ++ [unR (xs.getD i 0) (ys.getD i 0)] ++ List.replicate (n - (i + 1)) 0) at hb1
      rw [zipI_snoc] at hb1
      have hb1d : BlI .i32 21 w1.drew b2 (zipI unR xs ys (i + 1) ++ List.replicate (n - (i + 1)) 0) := hb1
      have hg : (zipI unR xs ys (i + 1) ++ List.replicate (n - (i + 1)) 0)[i]? = some (unR (xs.getD i 0) (ys.getD i 0)) := by
        rw [List.getElem?_append_left (by rw [zipI_length]; omega), zipI_get (by omega)]
      have h1d : BlI .i32 21 w1.drew b1 (zipI unL xs ys i ++ List.replicate (n - i) 0) := h1.chg (((Chg.drew (fun j => j = b2) w).trans hc1).trans (Chg.drew _ w1)) hne
      refine rdV (w := w1.drew) (BlI.sl hb1d) i rfl (by simp [zipI_length]; omega) hg fun _ _ => rdV (w := w1.drew) (hy.chg k1d hoy) i rfl ly hvy fun _ _ => ?_
      refine wrB (w := w1.drew) h1d i rfl (by simp [z1]; omega) hlt fun _ w2 hb2 hc2 => ?_
      rw [show n - i = (n - (i + 1)) + 1 by omega, set_mid z1] at hb2
      change BlI .i32 21 w2 b1 (zipI unL xs ys i ++ [unL (xs.getD i 0) (ys.getD i 0)] ++ List.replicate (n - (i + 1)) 0) at hb2
      rw [zipI_snoc] at hb2
      rw [inc (by omega)]
      exact ih (i + 1) w2 (by omega) (by omega) hb2 (hb1d.chg hc2 fun h => hne h.symm) (k1d.trans (hc2.mono fun b hb => .inl hb))
    · have : i = n := by omega
      subst this
      rw [Nat.sub_self, List.replicate_zero, List.append_nil] at h1 h2
      exact bif_f (dec_f (by omega)) (hk w h1 h2 hc)
theorem tracks_Mid_ok {x y : Option Addr} {n m c d : Nat} {xs ys : List Int} {w : World} {K : Option Addr → Nat → Nat → Option Addr → Nat → Nat → Int → World → Prop} (hx : SlI .i32 w x xs) (hy : SlI .i32 w y ys) (lx : xs.length = n) (ly : ys.length = m) (hn : n * 4 ≤ 140737488355328)
    (h1 : n ≠ m → K none 0 0 none 0 0 1 w) (hk : n = m → ∀ a1 a2 c1 c2 w', SlI .i32 w' a1 (zipI midM xs ys n) → SlI .i32 w' a2 (zipI midS xs ys n) → Chg no w w' → K a1 n c1 a2 n c2 0 w') : tracks_Mid.f x n c y m d w K := by
  unfold tracks_Mid.f
  refine cond_of (fun h => h1 (by have : (n : Int) ≠ m := by simpa using h
                                  omega)) (fun h => ?_)
  have e : n = m := by
    have : (n : Int) = m := by simpa using h
    omega
  subst e
  have ox := old_lt hx (Nat.le_refl _)
  have oy := old_lt hy (Nat.le_refl _)
  have kd : Chg no w w.drew := Chg.drew no w
  dsimp only
  generalize hcn : (n : Int) = n'
  refine ⟨?_, ?_⟩
  · refine mkL_b (by omega) (by omega) (by omega) (by omega) fun w1 hb1 hc1 hs1 => mkL_b (by omega) (by omega) (by omega) (by omega) fun w2 hb2 hc2 hs2 => ⟨n + 1, ?_⟩
    subst hcn
    rw [Int.toNat_natCast] at hb1 hb2 ⊢
    have k2 := (kd.trans hc1).trans hc2
    have e1 : w.drew.heap.size = w.heap.size := rfl
    refine tracks_Mid_l5 (w0 := w2) (lo := 0) (hx.chg k2 fun _ _ _ h => h) (hy.chg k2 fun _ _ _ h => h) lx ly (by omega) (fun p hp hne hh => ox p hp hne (by omega)) (fun p hp hne hh => oy p hp hne (by omega)) (by omega) (fun w3 hA hB hc3 => ?_) (n + 1) 0 w2 (by omega) (by omega) ((hb1.chg hc2 fun h => h)) hb2 (Chg.refl _ _)
    exact hk rfl _ _ _ _ w3 (BlI.sl hA) (BlI.sl hB) (k2.then hc3 fun k hk h => by omega)
  · refine mkL_b (by omega) (by omega) (by omega) (by omega) fun w1 hb1 hc1 hs1 => mkL_b (by omega) (by omega) (by omega) (by omega) fun w2 hb2 hc2 hs2 => ⟨n + 1, ?_⟩
    subst hcn
    rw [Int.toNat_natCast] at hb1 hb2 ⊢
    have k2 := (kd.trans hc1).trans hc2
    have e1 : w.drew.heap.size = w.heap.size := rfl
    refine tracks_Mid_l5 (w0 := w2) (lo := 0) (hx.chg k2 fun _ _ _ h => h) (hy.chg k2 fun _ _ _ h => h) lx ly (by omega) (fun p hp hne hh => ox p hp hne (by omega)) (fun p hp hne hh => oy p hp hne (by omega)) (by omega) (fun w3 hA hB hc3 => ?_) (n + 1) 0 w2 (by omega) (by omega) hb2 ((hb1.chg hc2 fun h => h)) (Chg.refl _ _)
    exact hk rfl _ _ _ _ w3 (BlI.sl hA) (BlI.sl hB) (k2.then hc3 fun k hk h => by omega)
theorem tracks_Unmid_ok {x y : Option Addr} {n m c d : Nat} {xs ys : List Int} {w : World} {K : Option Addr → Nat → Nat → Option Addr → Nat → Nat → Int → World → Prop} (hx : SlI .i32 w x xs) (hy : SlI .i32 w y ys) (lx : xs.length = n) (ly : ys.length = m) (hn : n * 4 ≤ 140737488355328)
    (h1 : n ≠ m → K none 0 0 none 0 0 1 w) (hk : n = m → ∀ a1 a2 c1 c2 w', SlI .i32 w' a1 (zipI unL xs ys n) → SlI .i32 w' a2 (zipI unR xs ys n) → Chg no w w' → K a1 n c1 a2 n c2 0 w') : tracks_Unmid.f x n c y m d w K := by
  unfold tracks_Unmid.f
  refine cond_of (fun h => h1 (by have : (n : Int) ≠ m := by simpa using h
                                  omega)) (fun h => ?_)
  have e : n = m := by
    have : (n : Int) = m := by simpa using h
    omega
  subst e
  have ox := old_lt hx (Nat.le_refl _)
  have oy := old_lt hy (Nat.le_refl _)
  have kd : Chg no w w.drew := Chg.drew no w
  dsimp only
  generalize hcn : (n : Int) = n'
  refine ⟨?_, ?_⟩
  · refine mkL_b (by omega) (by omega) (by omega) (by omega) fun w1 hb1 hc1 hs1 => mkL_b (by omega) (by omega) (by omega) (by omega) fun w2 hb2 hc2 hs2 => ⟨n + 1, ?_⟩
    subst hcn
    rw [Int.toNat_natCast] at hb1 hb2 ⊢
    have k2 := (kd.trans hc1).trans hc2
    have e1 : w.drew.heap.size = w.heap.size := rfl
    refine tracks_Unmid_l5 (w0 := w2) (lo := 0) (hx.chg k2 fun _ _ _ h => h) (hy.chg k2 fun _ _ _ h => h) lx ly (by omega) (fun p hp hne hh => ox p hp hne (by omega)) (fun p hp hne hh => oy p hp hne (by omega)) (by omega) (fun w3 hA hB hc3 => ?_) (n + 1) 0 w2 (by omega) (by omega) ((hb1.chg hc2 fun h => h)) hb2 (Chg.refl _ _)
    exact hk rfl _ _ _ _ w3 (BlI.sl hA) (BlI.sl hB) (k2.then hc3 fun k hk h => by omega)
  · refine mkL_b (by omega) (by omega) (by omega) (by omega) fun w1 hb1 hc1 hs1 => mkL_b (by omega) (by omega) (by omega) (by omega) fun w2 hb2 hc2 hs2 => ⟨n + 1, ?_⟩
    subst hcn
    rw [Int.toNat_natCast] at hb1 hb2 ⊢
    have k2 := (kd.trans hc1).trans hc2
    have e1 : w.drew.heap.size = w.heap.size := rfl
    refine tracks_Unmid_l5 (w0 := w2) (lo := 0) (hx.chg k2 fun _ _ _ h => h) (hy.chg k2 fun _ _ _ h => h) lx ly (by omega) (fun p hp hne hh => ox p hp hne (by omega)) (fun p hp hne hh => oy p hp hne (by omega)) (by omega) (fun w3 hA hB hc3 => ?_) (n + 1) 0 w2 (by omega) (by omega) hb2 ((hb1.chg hc2 fun h => h)) (Chg.refl _ _)
    exact hk rfl _ _ _ _ w3 (BlI.sl hA) (BlI.sl hB) (k2.then hc3 fun k hk h => by omega)
theorem ref14_Mid_ok {x y : Option Addr} {n m c d : Nat} {xs ys : List Int} {w : World} {K : Option Addr → Nat → Nat → Option Addr → Nat → Nat → Int → World → Prop} (hx : SlI .i32 w x xs) (hy : SlI .i32 w y ys) (lx : xs.length = n) (ly : ys.length = m) (hn : n * 4 ≤ 140737488355328)
    (h1 : n ≠ m → K none 0 0 none 0 0 1 w) (hk : n = m → ∀ a1 a2 c1 c2 w', SlI .i32 w' a1 (zipI midM xs ys n) → SlI .i32 w' a2 (zipI midS xs ys n) → Chg no w w' → K a1 n c1 a2 n c2 0 w') : ref14_Mid.f x n c y m d w K := by
  unfold ref14_Mid.f
  refine cond_of (fun h => h1 (by have : (n : Int) ≠ m := by simpa using h
                                  omega)) (fun h => ?_)
  have e : n = m := by
    have : (n : Int) = m := by simpa using h
    omega
  subst e
  have loop : ∀ (N i : Nat) (u v : Option Addr) (cu cv : Nat) (X Y : Nat → Prop) (w' : World), i ≤ n → n - i < N → Dis X Y w' → (∀ b, X b → w.heap.size ≤ b) → (∀ b, Y b → w.heap.size ≤ b) → Own .i32 21 X w' u i cu (zipI midM xs ys i) → Own .i32 21 Y w' v i cv (zipI midS xs ys i) → Chg no w w' →
      ref14_Mid.l5 N x n c y n d u i cu v i cv i w' (fun o7 o7n o7c o8 o8n o8c w => K o7 o7n o7c o8 o8n o8c 0 w) := by
    intro N
    induction N with
    | zero => intro i u v cu cv X Y w' h1 h2; omega
    | succ N ih =>
      intro i u v cu cv X Y w' hi hN hD hX hY hu hv hc
      rw [ref14_Mid.l5]
      have hsz := hc.size
      by_cases hlt : i < n
      · have hcd := hc.trans (Chg.drew no w')
        have hvx := getD_some (xs := xs) (i := i) (by omega)
        have hvy := getD_some (xs := ys) (i := i) (by omega)
        have hx1 : SlI .i32 w'.drew x xs := hx.chg hcd fun _ _ _ h => h
        have hy1 : SlI .i32 w'.drew y ys := hy.chg hcd fun _ _ _ h => h
        refine bif_t (dec_t (by omega)) (rdV (w := w'.drew) hx1 i rfl lx hvx fun _ _ => rdV (w := w'.drew) hy1 i rfl ly hvy fun _ _ => ?_)
        dsimp only
        refine rdV (w := w'.drew) hy1 i rfl ly hvy fun _ _ => ?_
        refine newC_sl (k := .i32) (xs := [midM (xs.getD i 0) (ys.getD i 0)]) rfl fun p1 w1 hs1 hc1 hz1 _ => ?_
        have e1 : w'.drew.heap.size = w'.heap.size := rfl
        have kd1 := (Chg.drew no w').trans hc1
        refine appL_own (hu.chg kd1 fun _ _ h => h) hs1 rfl (by omega) (by omega) fun u' cu' w2 hu2 hc2 => ?_
        have hz2 := hc2.size
        refine newC_sl (k := .i32) (xs := [midS (xs.getD i 0) (ys.getD i 0)]) rfl fun p3 w3 hs3 hc3 hz3 _ => ?_
        have hv3 := ((hv.chg kd1 fun _ _ h => h).chg hc2 fun k hk h => hD.ab k h hk).chg hc3 fun _ _ h => h
        refine appL_own hv3 hs3 rfl (by omega) (by omega) fun v' cv' w4 hv4 hc4 => ?_
        have hz4 := hc4.size
        rw [inc (by omega)]
        have hu4 := (hu2.chg hc3 fun _ _ h => h).chg hc4 fun k hk h => by
          rcases hk with hk | hk
          · exact hD.ab k hk h
          · have := hD.b k h; omega
        rw [zipI_snoc] at hu4 hv4
        refine ih (i + 1) u' v' cu' cv' (fun k => X k ∨ k = w1.heap.size) (fun k => (Y k ∨ k = w3.heap.size) ∧ k < w4.heap.size) w4 (by omega) (by omega) ⟨?_, fun k hk => hk.2, ?_⟩ ?_ ?_ hu4 (hv4.mono fun k hk hl => ⟨hk, hl⟩) ?_
        · rintro k (hk | hk)
          · have := hD.a k hk; omega
          · omega
        · rintro k (hk | hk) ⟨h | h, _⟩
          · exact hD.ab k hk h
          · have := hD.a k hk; omega
          · have := hD.b k h; omega
          · omega
        · rintro k (hk | hk)
          · exact hX k hk
          · omega
        · rintro k ⟨hk | hk, _⟩
          · exact hY k hk
          · omega
        · exact (((hc.trans kd1).then hc2 fun k hk h => by have := hX k h; omega).trans hc3).then hc4 fun k hk h => by have := hY k h; omega
      · have : i = n := by omega
        subst this
        exact bif_f (dec_f (by omega)) (hk rfl u v cu cv w' hu.sl hv.sl hc)
  exact ⟨n + 1, loop (n + 1) 0 none none 0 0 no no w (by omega) (by omega) ⟨fun _ h => h.elim, fun _ h => h.elim, fun _ h => h.elim⟩ (fun _ h => h.elim) (fun _ h => h.elim) (Own.nil _ _ _ _) (Own.nil _ _ _ _) (Chg.refl _ _)⟩
theorem ref14_Unmid_ok {x y : Option Addr} {n m c d : Nat} {xs ys : List Int} {w : World} {K : Option Addr → Nat → Nat → Option Addr → Nat → Nat → Int → World → Prop} (hx : SlI .i32 w x xs) (hy : SlI .i32 w y ys) (lx : xs.length = n) (ly : ys.length = m) (hn : n * 4 ≤ 140737488355328)
    (h1 : n ≠ m → K none 0 0 none 0 0 1 w) (hk : n = m → ∀ a1 a2 c1 c2 w', SlI .i32 w' a1 (zipI unL xs ys n) → SlI .i32 w' a2 (zipI unR xs ys n) → Chg no w w' → K a1 n c1 a2 n c2 0 w') : ref14_Unmid.f x n c y m d w K := by
  unfold ref14_Unmid.f
  refine cond_of (fun h => h1 (by have : (n : Int) ≠ m := by simpa using h
                                  omega)) (fun h => ?_)
  have e : n = m := by
    have : (n : Int) = m := by simpa using h
    omega
  subst e
  have loop : ∀ (N i : Nat) (u v : Option Addr) (cu cv : Nat) (X Y : Nat → Prop) (w' : World), i ≤ n → n - i < N → Dis X Y w' → (∀ b, X b → w.heap.size ≤ b) → (∀ b, Y b → w.heap.size ≤ b) → Own .i32 21 X w' u i cu (zipI unL xs ys i) → Own .i32 21 Y w' v i cv (zipI unR xs ys i) → Chg no w w' →
      ref14_Unmid.l5 N x n c y n d u i cu v i cv i w' (fun o7 o7n o7c o8 o8n o8c w => K o7 o7n o7c o8 o8n o8c 0 w) := by
    intro N
    induction N with
    | zero => intro i u v cu cv X Y w' h1 h2; omega
    | succ N ih =>
      intro i u v cu cv X Y w' hi hN hD hX hY hu hv hc
      rw [ref14_Unmid.l5]
      have hsz := hc.size
      by_cases hlt : i < n
      · have hcd := hc.trans (Chg.drew no w')
        have hvx := getD_some (xs := xs) (i := i) (by omega)
        have hvy := getD_some (xs := ys) (i := i) (by omega)
        have hx1 : SlI .i32 w'.drew x xs := hx.chg hcd fun _ _ _ h => h
        have hy1 : SlI .i32 w'.drew y ys := hy.chg hcd fun _ _ _ h => h
        refine bif_t (dec_t (by omega)) (rdV (w := w'.drew) hx1 i rfl lx hvx fun _ _ => rdV (w := w'.drew) hy1 i rfl ly hvy fun _ _ => ?_)
        dsimp only
        refine rdV (w := w'.drew) hy1 i rfl ly hvy fun _ _ => ?_
        refine newC_sl (k := .i32) (xs := [unL (xs.getD i 0) (ys.getD i 0)]) rfl fun p1 w1 hs1 hc1 hz1 _ => ?_
        have e1 : w'.drew.heap.size = w'.heap.size := rfl
        have kd1 := (Chg.drew no w').trans hc1
        refine appL_own (hu.chg kd1 fun _ _ h => h) hs1 rfl (by omega) (by omega) fun u' cu' w2 hu2 hc2 => ?_
        have hz2 := hc2.size
        refine newC_sl (k := .i32) (xs := [unR (xs.getD i 0) (ys.getD i 0)]) rfl fun p3 w3 hs3 hc3 hz3 _ => ?_
        have hv3 := ((hv.chg kd1 fun _ _ h => h).chg hc2 fun k hk h => hD.ab k h hk).chg hc3 fun _ _ h => h
        refine appL_own hv3 hs3 rfl (by omega) (by omega) fun v' cv' w4 hv4 hc4 => ?_
        have hz4 := hc4.size
        rw [inc (by omega)]
        have hu4 := (hu2.chg hc3 fun _ _ h => h).chg hc4 fun k hk h => by
          rcases hk with hk | hk
          · exact hD.ab k hk h
          · have := hD.b k h; omega
        rw [zipI_snoc] at hu4 hv4
        refine ih (i + 1) u' v' cu' cv' (fun k => X k ∨ k = w1.heap.size) (fun k => (Y k ∨ k = w3.heap.size) ∧ k < w4.heap.size) w4 (by omega) (by omega) ⟨?_, fun k hk => hk.2, ?_⟩ ?_ ?_ hu4 (hv4.mono fun k hk hl => ⟨hk, hl⟩) ?_
        · rintro k (hk | hk)
          · have := hD.a k hk; omega
          · omega
        · rintro k (hk | hk) ⟨h | h, _⟩
          · exact hD.ab k hk h
          · have := hD.a k hk; omega
          · have := hD.b k h; omega
          · omega
        · rintro k (hk | hk)
          · exact hX k hk
          · omega
        · rintro k ⟨hk | hk, _⟩
          · exact hY k hk
          · omega
        · exact (((hc.trans kd1).then hc2 fun k hk h => by have := hX k h; omega).trans hc3).then hc4 fun k hk h => by have := hY k h; omega
      · have : i = n := by omega
        subst this
        exact bif_f (dec_f (by omega)) (hk rfl u v cu cv w' hu.sl hv.sl hc)
  exact ⟨n + 1, loop (n + 1) 0 none none 0 0 no no w (by omega) (by omega) ⟨fun _ h => h.elim, fun _ h => h.elim, fun _ h => h.elim⟩ (fun _ h => h.elim) (fun _ h => h.elim) (Own.nil _ _ _ _) (Own.nil _ _ _ _) (Chg.refl _ _)⟩
theorem law14_TracksMid_said {x y : Option Addr} {n m c d : Nat} {W : World} {K : Bool → World → Prop} (f : Fits W (.slc (.int .i32) 1 4) [.slice x n c]) (g : Fits W (.slc (.int .i32) 1 4) [.slice y m d])
    (hk : ∀ w', Below W.heap.size W w' → K true w') : law14_TracksMid.f x n c y m d W K := by
  obtain ⟨_, _, xs, lx, hx, _⟩ := f.ints
  obtain ⟨_, _, ys, ly, hy, _⟩ := g.ints
  unfold law14_TracksMid.f
  refine cond_of (fun _ => law14_awake_ok fun w hc => hk w (below_no (Below.refl _ _) hc (Nat.le_refl _))) (fun h => ?_)
  refine cond_of (fun _ => law14_awake_ok fun w hc => hk w (below_no (Below.refl _ _) hc (Nat.le_refl _))) (fun h' => ?_)
  have hn : n ≤ 3000 := by have := of_decide_eq_false h; omega
  have hm : m ≤ 3000 := by have := of_decide_eq_false h'; omega
  by_cases hnm : n = m
  · refine tracks_Mid_ok hx hy lx ly (by omega) (fun h => absurd hnm h) fun _ a1 a2 c1 c2 w1 hA hB hc1 => ?_
    refine ref14_Mid_ok (hx.chg hc1 fun _ _ _ h => h) (hy.chg hc1 fun _ _ _ h => h) lx ly (by omega) (fun h => absurd hnm h) fun _ a3 a4 c3 c4 w2 hC hD hc2 => ?_
    have k2 := hc1.trans hc2
    refine tracks_Unmid_ok (hx.chg k2 fun _ _ _ h => h) (hy.chg k2 fun _ _ _ h => h) lx ly (by omega) (fun h => absurd hnm h) fun _ a5 a6 c5 c6 w3 hE hF hc3 => ?_
    have k3 := k2.trans hc3
    refine ref14_Unmid_ok (hx.chg k3 fun _ _ _ h => h) (hy.chg k3 fun _ _ _ h => h) lx ly (by omega) (fun h => absurd hnm h) fun _ a7 a8 c7 c8 w4 hG hH hc4 => ?_
    refine law14_awake_ok fun w5 hc5 => bif_t rfl ?_
    have j45 := hc4.trans hc5
    have j35 := hc3.trans j45
    have j25 := hc2.trans j35
    have z := fun f => zipI_length f xs ys n
    refine help_Plain_int32_ok (hA.chg j25 fun _ _ _ h => h) (hC.chg j35 fun _ _ _ h => h) (z _) (z _) (by omega) fun w6 hc6 => bif_t rfl ?_
    refine help_Plain_int32_ok (hB.chg (j25.trans hc6) fun _ _ _ h => h) (hD.chg (j35.trans hc6) fun _ _ _ h => h) (z _) (z _) (by omega) fun w7 hc7 => bif_t rfl (bif_t rfl ?_)
    have j67 := hc6.trans hc7
    refine help_Plain_int32_ok (hE.chg (j45.trans j67) fun _ _ _ h => h) (hG.chg (hc5.trans j67) fun _ _ _ h => h) (z _) (z _) (by omega) fun w8 hc8 => bif_t rfl ?_
    have j68 := j67.trans hc8
    refine help_Plain_int32_ok (hF.chg (j45.trans j68) fun _ _ _ h => h) (hH.chg (hc5.trans j68) fun _ _ _ h => h) (z _) (z _) (by omega) fun w9 hc9 => bif_t rfl ?_
    exact hk _ (below_no (Below.refl _ _) ((k3.trans j45).trans (j68.trans hc9)) (Nat.le_refl _))
  · refine tracks_Mid_ok hx hy lx ly (by omega) (fun _ => ?_) fun h => absurd h hnm
    refine ref14_Mid_ok hx hy lx ly (by omega) (fun _ => ?_) fun h => absurd h hnm
    refine tracks_Unmid_ok hx hy lx ly (by omega) (fun _ => ?_) fun h => absurd h hnm
    refine ref14_Unmid_ok hx hy lx ly (by omega) (fun _ => ?_) fun h => absurd h hnm
    refine law14_awake_ok fun w5 hc5 => bif_t rfl ?_
    have nl : ∀ w, SlI .i32 w none [] := fun w => SlI.nil _ _ _
    refine help_Plain_int32_ok (nl _) (nl _) rfl rfl (by omega) fun w6 hc6 => bif_t rfl ?_
    refine help_Plain_int32_ok (nl _) (nl _) rfl rfl (by omega) fun w7 hc7 => bif_t rfl (bif_t rfl ?_)
    refine help_Plain_int32_ok (nl _) (nl _) rfl rfl (by omega) fun w8 hc8 => bif_t rfl ?_
    refine help_Plain_int32_ok (nl _) (nl _) rfl rfl (by omega) fun w9 hc9 => bif_t rfl ?_
    exact hk _ (below_no (Below.refl _ _) ((hc5.trans (hc6.trans hc7)).trans (hc8.trans hc9)) (Nat.le_refl _))
end Go.Proofs.Ytmgcjihcbdgihaa.G
