/- What the colours' functions and their reference come to. -/
import Derived.Test.YtmgcjihcbdgihaaXh
set_option linter.unusedVariables false
set_option linter.unusedSimpArgs false
namespace Go.Proofs.Ytmgcjihcbdgihaa.G
open Go Go.Proofs.Ytmgcjihcbdgihaa.Vm Go.RowKit
/-- Pixels turned. -/
def turnL : List Int → List Int
  | a :: b :: c :: l => IntKind.wrap .u8 (a - b) :: b :: IntKind.wrap .u8 (c - b) :: turnL l
  | l => l
/-- Pixels turned back. -/
def backL : List Int → List Int
  | a :: b :: c :: l => IntKind.wrap .u8 (a + b) :: b :: IntKind.wrap .u8 (c + b) :: backL l
  | l => l
theorem turnL_length : ∀ l : List Int, (turnL l).length = l.length
  | [] => rfl
  | [_] => rfl
  | [_, _] => rfl
  | a :: b :: c :: l => by simp [turnL, turnL_length l]
theorem backL_length : ∀ l : List Int, (backL l).length = l.length
  | [] => rfl
  | [_] => rfl
  | [_, _] => rfl
  | a :: b :: c :: l => by simp [backL, backL_length l]
theorem turnL_by : ∀ {l : List Int}, By l → By (turnL l)
  | [], h => h
  | [_], h => h
  | [_, _], h => h
  | a :: b :: c :: l, h => by
    intro x hx
    simp only [turnL, List.mem_cons] at hx
    rcases hx with rfl | rfl | rfl | hx
    · exact wu8_bd _
    · exact h _ (by simp)
    · exact wu8_bd _
    · exact turnL_by (l := l) (fun y hy => h y (by simp [hy])) x hx
theorem backL_by : ∀ {l : List Int}, By l → By (backL l)
  | [], h => h
  | [_], h => h
  | [_, _], h => h
  | a :: b :: c :: l, h => by
    intro x hx
    simp only [backL, List.mem_cons] at hx
    rcases hx with rfl | rfl | rfl | hx
    · exact wu8_bd _
    · exact h _ (by simp)
    · exact wu8_bd _
    · exact backL_by (l := l) (fun y hy => h y (by simp [hy])) x hx
theorem back_turn : ∀ {l : List Int}, By l → backL (turnL l) = l
  | [], _ => rfl
  | [_], _ => rfl
  | [_, _], _ => rfl
  | a :: b :: c :: l, h => by
    have ha := h a (by simp)
    have hb := h b (by simp)
    have hc := h c (by simp)
    simp only [turnL, backL, wu8_eq, List.cons.injEq]
    exact ⟨by omega, trivial, by omega, back_turn fun y hy => h y (by simp [hy])⟩
theorem turn_back : ∀ {l : List Int}, By l → turnL (backL l) = l
  | [], _ => rfl
  | [_], _ => rfl
  | [_, _], _ => rfl
  | a :: b :: c :: l, h => by
    have ha := h a (by simp)
    have hb := h b (by simp)
    have hc := h c (by simp)
    simp only [turnL, backL, wu8_eq, List.cons.injEq]
    exact ⟨by omega, trivial, by omega, turn_back fun y hy => h y (by simp [hy])⟩
theorem set02 (d : List Int) (x y z u v : Int) (l : List Int) : ((d ++ x :: y :: z :: l).set d.length u).set (d.length + 2) v = d ++ u :: y :: v :: l := by
  rw [List.set_append_right _ _ (by omega), List.set_append_right _ _ (by omega)]
  simp
theorem colour_Turn_l3 {S : Nat → Prop} {w0 : World} {a : Option Addr} {n c : Nat} {K0 : Option Addr → Nat → Nat → World → Prop} (hn : n < 4611686018427387904) (N : Nat) :
    ∀ (d r : List Int) (w : World), By (d ++ r) → r.length < 3 * N → Own .u8 5 S w a n c (d ++ r) → Chg S w0 w →
      (∀ w', Own .u8 5 S w' a n c (d ++ turnL r) → Chg S w0 w' → K0 a n c w') → colour_Turn.l3 N a n c d.length w K0 := by
  induction N with
  | zero => intro d r w h1 h2; omega
  | succ N ih =>
    intro d r w hb hN ho hc hk
    have hl := ho.length
    rw [List.length_append] at hl
    rw [colour_Turn.l3]
    have e3 : IntKind.wrap .i64 ((d.length : Int) + 3) = ((d.length + 3 : Nat) : Int) := by rw [w64 (by omega) (by omega)]; omega
    match r, hb, hN, ho, hk, hl with
    | [], hb, hN, ho, hk, hl => exact bif_f (dec_f (by rw [e3]; simp at hl; omega)) (hk w ho hc)
    | [x], hb, hN, ho, hk, hl => exact bif_f (dec_f (by rw [e3]; simp at hl; omega)) (hk w ho hc)
    | [x, y], hb, hN, ho, hk, hl => exact bif_f (dec_f (by rw [e3]; simp at hl; omega)) (hk w ho hc)
    | x :: y :: z :: l, hb, hN, ho, hk, hl =>
      simp only [List.length_cons] at hl hN
      have bx := hb x (by simp)
      have b_y := hb y (by simp)
      have bz := hb z (by simp)
      have e1 : IntKind.wrap .i64 ((d.length : Int) + 1) = ((d.length + 1 : Nat) : Int) := by rw [w64 (by omega) (by omega)]; omega
      have e2 : IntKind.wrap .i64 ((d.length : Int) + 2) = ((d.length + 2 : Nat) : Int) := by rw [w64 (by omega) (by omega)]; omega
      rw [e1, e2, e3]
      have ho' : Own .u8 5 S w.drew a n c (d ++ x :: y :: z :: l) := ho
      have hlen : (d ++ x :: y :: z :: l).length = n := by simp; omega
      refine bif_t (dec_t (by omega)) (rdV ho'.sl d.length rfl hlen (v := x) (by simp) fun _ _ => rdV ho'.sl (d.length + 1) rfl hlen (v := y) (by simp) fun _ _ => rdV ho'.sl (d.length + 2) rfl hlen (v := z) (by simp) fun _ _ => ?_)
      rw [w64 (a := x) (by omega) (by omega), w64 (a := y) (by omega) (by omega), w64 (a := z) (by omega) (by omega)]
      refine wrS ho' d.length rfl (by simp) fun _ w1 ho1 hc1 => wrS ho1 (d.length + 2) rfl (by simp) fun _ w2 ho2 hc2 => ?_
      rw [set02] at ho2
      rw [w64 (a := x - y) (by omega) (by omega), w64 (a := z - y) (by omega) (by omega)] at ho2
      have := ih (d ++ [IntKind.wrap .u8 (x - y), y, IntKind.wrap .u8 (z - y)]) l w2 ?_ (by omega) (by simpa using ho2) ((hc.trans ((Chg.drew S w).trans hc1)).trans hc2) ?_
      · simpa using this
      · intro v hv
        simp only [List.mem_append, List.mem_cons, List.not_mem_nil, or_false] at hv
        rcases hv with (hv | rfl | rfl | rfl) | hv
        · exact hb v (by simp [hv])
        · exact wu8_bd _
        · exact b_y
        · exact wu8_bd _
        · exact hb v (by simp [hv])
      · intro w' h1 h2
        refine hk w' ?_ h2
        simpa [turnL] using h1
theorem colour_Turn_ok {x : Option Addr} {n c : Nat} {xs : List Int} {w : World} {K : Option Addr → Nat → Nat → World → Prop} (hx : SlI .u8 w x xs) (hn : xs.length = n) (hb : By xs) (hs : n ≤ 140737488355328)
    (hk : ∀ a' c' w', Own .u8 5 (fun b => b = w.heap.size) w' a' n c' (turnL xs) → Chg no w w' → K a' n c' w') : colour_Turn.f x n c w K := by
  unfold colour_Turn.f
  refine cpS hx hn (by omega) (by omega) fun a' c' w1 ho hc => ⟨n + 1, ?_⟩
  have := colour_Turn_l3 (S := fun b => b = w.heap.size) (w0 := w1) (K0 := K) (a := a') (c := c') (n := n) (by omega) (n + 1) [] xs w1 hb (by omega) ho (Chg.refl _ _) (fun w' h1 h2 => hk a' c' w' h1 (hc.then h2 fun k hk h => by omega))
  simpa using this
theorem colour_Back_l3 {S : Nat → Prop} {w0 : World} {a : Option Addr} {n c : Nat} {K0 : Option Addr → Nat → Nat → World → Prop} (hn : n < 4611686018427387904) (N : Nat) :
    ∀ (d r : List Int) (w : World), By (d ++ r) → r.length < 3 * N → Own .u8 5 S w a n c (d ++ r) → Chg S w0 w →
      (∀ w', Own .u8 5 S w' a n c (d ++ backL r) → Chg S w0 w' → K0 a n c w') → colour_Back.l3 N a n c d.length w K0 := by
  induction N with
  | zero => intro d r w h1 h2; omega
  | succ N ih =>
    intro d r w hb hN ho hc hk
    have hl := ho.length
    rw [List.length_append] at hl
    rw [colour_Back.l3]
    have e3 : IntKind.wrap .i64 ((d.length : Int) + 3) = ((d.length + 3 : Nat) : Int) := by rw [w64 (by omega) (by omega)]; omega
    match r, hb, hN, ho, hk, hl with
    | [], hb, hN, ho, hk, hl => exact bif_f (dec_f (by rw [e3]; simp at hl; omega)) (hk w ho hc)
    | [x], hb, hN, ho, hk, hl => exact bif_f (dec_f (by rw [e3]; simp at hl; omega)) (hk w ho hc)
    | [x, y], hb, hN, ho, hk, hl => exact bif_f (dec_f (by rw [e3]; simp at hl; omega)) (hk w ho hc)
    | x :: y :: z :: l, hb, hN, ho, hk, hl =>
      simp only [List.length_cons] at hl hN
      have bx := hb x (by simp)
      have b_y := hb y (by simp)
      have bz := hb z (by simp)
      have e1 : IntKind.wrap .i64 ((d.length : Int) + 1) = ((d.length + 1 : Nat) : Int) := by rw [w64 (by omega) (by omega)]; omega
      have e2 : IntKind.wrap .i64 ((d.length : Int) + 2) = ((d.length + 2 : Nat) : Int) := by rw [w64 (by omega) (by omega)]; omega
      rw [e1, e2, e3]
      have ho' : Own .u8 5 S w.drew a n c (d ++ x :: y :: z :: l) := ho
      have hlen : (d ++ x :: y :: z :: l).length = n := by simp; omega
      refine bif_t (dec_t (by omega)) (rdV ho'.sl d.length rfl hlen (v := x) (by simp) fun _ _ => rdV ho'.sl (d.length + 1) rfl hlen (v := y) (by simp) fun _ _ => rdV ho'.sl (d.length + 2) rfl hlen (v := z) (by simp) fun _ _ => ?_)
      rw [w64 (a := x) (by omega) (by omega), w64 (a := y) (by omega) (by omega), w64 (a := z) (by omega) (by omega)]
      refine wrS ho' d.length rfl (by simp) fun _ w1 ho1 hc1 => wrS ho1 (d.length + 2) rfl (by simp) fun _ w2 ho2 hc2 => ?_
      rw [set02] at ho2
      rw [w64 (a := x + y) (by omega) (by omega), w64 (a := z + y) (by omega) (by omega)] at ho2
      have := ih (d ++ [IntKind.wrap .u8 (x + y), y, IntKind.wrap .u8 (z + y)]) l w2 ?_ (by omega) (by simpa using ho2) ((hc.trans ((Chg.drew S w).trans hc1)).trans hc2) ?_
      · simpa using this
      · intro v hv
        simp only [List.mem_append, List.mem_cons, List.not_mem_nil, or_false] at hv
        rcases hv with (hv | rfl | rfl | rfl) | hv
        · exact hb v (by simp [hv])
        · exact wu8_bd _
        · exact b_y
        · exact wu8_bd _
        · exact hb v (by simp [hv])
      · intro w' h1 h2
        refine hk w' ?_ h2
        simpa [backL] using h1
theorem colour_Back_ok {x : Option Addr} {n c : Nat} {xs : List Int} {w : World} {K : Option Addr → Nat → Nat → World → Prop} (hx : SlI .u8 w x xs) (hn : xs.length = n) (hb : By xs) (hs : n ≤ 140737488355328)
    (hk : ∀ a' c' w', Own .u8 5 (fun b => b = w.heap.size) w' a' n c' (backL xs) → Chg no w w' → K a' n c' w') : colour_Back.f x n c w K := by
  unfold colour_Back.f
  refine cpS hx hn (by omega) (by omega) fun a' c' w1 ho hc => ⟨n + 1, ?_⟩
  have := colour_Back_l3 (S := fun b => b = w.heap.size) (w0 := w1) (K0 := K) (a := a') (c := c') (n := n) (by omega) (n + 1) [] xs w1 hb (by omega) ho (Chg.refl _ _) (fun w' h1 h2 => hk a' c' w' h1 (hc.then h2 fun k hk h => by omega))
  simpa using this
theorem ref18_Turn_l3 {S : Nat → Prop} {w0 : World} {a x : Option Addr} {n c xc : Nat} {xs : List Int} {K0 : Option Addr → Nat → Nat → World → Prop} (hx : SlI .u8 w0 x xs) (hxl : xs.length = n) (hxb : By xs)
    (hS : ∀ p, x = some p → xs ≠ [] → ¬ S p.block) (hn : n < 4611686018427387904) (N : Nat) :
    ∀ (e d r : List Int) (w : World), xs = e ++ r → e.length = d.length → r.length < 3 * N → Own .u8 5 S w a n c (d ++ r) → Chg S w0 w →
      (∀ w', Own .u8 5 S w' a n c (d ++ turnL r) → Chg S w0 w' → K0 a n c w') → ref18_Turn.l3 N x n xc a n c d.length w K0 := by
  induction N with
  | zero => intro e d r w h1 h2; omega
  | succ N ih =>
    intro e d r w he hed hN ho hc hk
    have hl := ho.length
    rw [List.length_append] at hl
    rw [ref18_Turn.l3]
    have e3 : IntKind.wrap .i64 ((d.length : Int) + 3) = ((d.length + 3 : Nat) : Int) := by rw [w64 (by omega) (by omega)]; omega
    match r, he, hN, ho, hk, hl with
    | [], he, hN, ho, hk, hl => exact bif_f (dec_f (by rw [e3]; simp at hl; omega)) (hk w ho hc)
    | [x'], he, hN, ho, hk, hl => exact bif_f (dec_f (by rw [e3]; simp at hl; omega)) (hk w ho hc)
    | [x', y], he, hN, ho, hk, hl => exact bif_f (dec_f (by rw [e3]; simp at hl; omega)) (hk w ho hc)
    | u :: y :: z :: l, he, hN, ho, hk, hl =>
      simp only [List.length_cons] at hl hN
      have e1 : IntKind.wrap .i64 ((d.length : Int) + 1) = ((d.length + 1 : Nat) : Int) := by rw [w64 (by omega) (by omega)]; omega
      have e2 : IntKind.wrap .i64 ((d.length : Int) + 2) = ((d.length + 2 : Nat) : Int) := by rw [w64 (by omega) (by omega)]; omega
      rw [e1, e2, e3]
      have hx' : SlI .u8 w.drew x xs := hx.chg (hc.trans (Chg.drew S w)) hS
      have ho' : Own .u8 5 S w.drew a n c (d ++ u :: y :: z :: l) := ho
      refine bif_t (dec_t (by omega)) (rdV hx' d.length rfl hxl (v := u) (by rw [he, ← hed]; simp) fun _ _ => rdV hx' (d.length + 1) rfl hxl (v := y) (by rw [he, ← hed]; simp) fun _ _ => rdV hx' (d.length + 2) rfl hxl (v := z) (by rw [he, ← hed]; simp) fun _ _ => rdV hx' (d.length + 1) rfl hxl (v := y) (by rw [he, ← hed]; simp) fun _ _ => ?_)
      refine wrS ho' d.length rfl (by simp) fun _ w1 ho1 hc1 => wrS ho1 (d.length + 2) rfl (by simp) fun _ w2 ho2 hc2 => ?_
      rw [set02] at ho2
      have := ih (e ++ [u, y, z]) (d ++ [IntKind.wrap .u8 (u - y), y, IntKind.wrap .u8 (z - y)]) l w2 (by simpa using he) (by simp [hed]) (by omega) (by simpa using ho2) ((hc.trans ((Chg.drew S w).trans hc1)).trans hc2) ?_
      · simpa using this
      · intro w' h1 h2
        refine hk w' ?_ h2
        simpa [turnL] using h1
theorem ref18_Turn_ok {x : Option Addr} {n c : Nat} {xs : List Int} {w : World} {K : Option Addr → Nat → Nat → World → Prop} (hx : SlI .u8 w x xs) (hn : xs.length = n) (hb : By xs) (hs : n ≤ 140737488355328)
    (hk : ∀ a' c' w', Own .u8 5 (fun b => b = w.heap.size) w' a' n c' (turnL xs) → Chg no w w' → K a' n c' w') : ref18_Turn.f x n c w K := by
  unfold ref18_Turn.f
  refine cpS hx hn (by omega) (by omega) fun a' c' w1 ho hc => ⟨n + 1, ?_⟩
  have hlt : ∀ p, x = some p → xs ≠ [] → ¬ p.block = w.heap.size := fun p hp hne => by
    obtain ⟨q, hq, hcq⟩ := hx 0 (List.length_pos_iff.2 hne)
    rw [hp] at hq; cases hq
    have := block_lt hcq
    rw [add_block] at this
    omega
  have := ref18_Turn_l3 (S := fun b => b = w.heap.size) (w0 := w1) (K0 := K) (a := a') (c := c') (n := n) (xc := c) (hx.chg hc fun _ _ _ h => h) hn hb hlt (by omega) (n + 1) [] [] xs w1 rfl rfl (by omega) ho (Chg.refl _ _) (fun w' h1 h2 => hk a' c' w' h1 (hc.then h2 fun k hk h => by omega))
  simpa using this
theorem ref18_Back_l3 {S : Nat → Prop} {w0 : World} {a x : Option Addr} {n c xc : Nat} {xs : List Int} {K0 : Option Addr → Nat → Nat → World → Prop} (hx : SlI .u8 w0 x xs) (hxl : xs.length = n) (hxb : By xs)
    (hS : ∀ p, x = some p → xs ≠ [] → ¬ S p.block) (hn : n < 4611686018427387904) (N : Nat) :
    ∀ (e d r : List Int) (w : World), xs = e ++ r → e.length = d.length → r.length < 3 * N → Own .u8 5 S w a n c (d ++ r) → Chg S w0 w →
      (∀ w', Own .u8 5 S w' a n c (d ++ backL r) → Chg S w0 w' → K0 a n c w') → ref18_Back.l3 N x n xc a n c d.length w K0 := by
  induction N with
  | zero => intro e d r w h1 h2; omega
  | succ N ih =>
    intro e d r w he hed hN ho hc hk
    have hl := ho.length
    rw [List.length_append] at hl
    rw [ref18_Back.l3]
    have e3 : IntKind.wrap .i64 ((d.length : Int) + 3) = ((d.length + 3 : Nat) : Int) := by rw [w64 (by omega) (by omega)]; omega
    match r, he, hN, ho, hk, hl with
    | [], he, hN, ho, hk, hl => exact bif_f (dec_f (by rw [e3]; simp at hl; omega)) (hk w ho hc)
    | [x'], he, hN, ho, hk, hl => exact bif_f (dec_f (by rw [e3]; simp at hl; omega)) (hk w ho hc)
    | [x', y], he, hN, ho, hk, hl => exact bif_f (dec_f (by rw [e3]; simp at hl; omega)) (hk w ho hc)
    | u :: y :: z :: l, he, hN, ho, hk, hl =>
      simp only [List.length_cons] at hl hN
      have e1 : IntKind.wrap .i64 ((d.length : Int) + 1) = ((d.length + 1 : Nat) : Int) := by rw [w64 (by omega) (by omega)]; omega
      have e2 : IntKind.wrap .i64 ((d.length : Int) + 2) = ((d.length + 2 : Nat) : Int) := by rw [w64 (by omega) (by omega)]; omega
      rw [e1, e2, e3]
      have hx' : SlI .u8 w.drew x xs := hx.chg (hc.trans (Chg.drew S w)) hS
      have ho' : Own .u8 5 S w.drew a n c (d ++ u :: y :: z :: l) := ho
      refine bif_t (dec_t (by omega)) (rdV hx' d.length rfl hxl (v := u) (by rw [he, ← hed]; simp) fun _ _ => rdV hx' (d.length + 1) rfl hxl (v := y) (by rw [he, ← hed]; simp) fun _ _ => rdV hx' (d.length + 2) rfl hxl (v := z) (by rw [he, ← hed]; simp) fun _ _ => rdV hx' (d.length + 1) rfl hxl (v := y) (by rw [he, ← hed]; simp) fun _ _ => ?_)
      refine wrS ho' d.length rfl (by simp) fun _ w1 ho1 hc1 => wrS ho1 (d.length + 2) rfl (by simp) fun _ w2 ho2 hc2 => ?_
      rw [set02] at ho2
      have := ih (e ++ [u, y, z]) (d ++ [IntKind.wrap .u8 (u + y), y, IntKind.wrap .u8 (z + y)]) l w2 (by simpa using he) (by simp [hed]) (by omega) (by simpa using ho2) ((hc.trans ((Chg.drew S w).trans hc1)).trans hc2) ?_
      · simpa using this
      · intro w' h1 h2
        refine hk w' ?_ h2
        simpa [backL] using h1
theorem ref18_Back_ok {x : Option Addr} {n c : Nat} {xs : List Int} {w : World} {K : Option Addr → Nat → Nat → World → Prop} (hx : SlI .u8 w x xs) (hn : xs.length = n) (hb : By xs) (hs : n ≤ 140737488355328)
    (hk : ∀ a' c' w', Own .u8 5 (fun b => b = w.heap.size) w' a' n c' (backL xs) → Chg no w w' → K a' n c' w') : ref18_Back.f x n c w K := by
  unfold ref18_Back.f
  refine cpS hx hn (by omega) (by omega) fun a' c' w1 ho hc => ⟨n + 1, ?_⟩
  have hlt : ∀ p, x = some p → xs ≠ [] → ¬ p.block = w.heap.size := fun p hp hne => by
    obtain ⟨q, hq, hcq⟩ := hx 0 (List.length_pos_iff.2 hne)
    rw [hp] at hq; cases hq
    have := block_lt hcq
    rw [add_block] at this
    omega
  have := ref18_Back_l3 (S := fun b => b = w.heap.size) (w0 := w1) (K0 := K) (a := a') (c := c') (n := n) (xc := c) (hx.chg hc fun _ _ _ h => h) hn hb hlt (by omega) (n + 1) [] [] xs w1 rfl rfl (by omega) ho (Chg.refl _ _) (fun w' h1 h2 => hk a' c' w' h1 (hc.then h2 fun k hk h => by omega))
  simpa using this
theorem law18_awake_ok {w : World} {K : Bool → World → Prop} (hk : ∀ w', Chg no w w' → K true w') : law18_awake.f w K := by
  unfold law18_awake.f
  refine newC_sl (k := .u8) (xs := [5, 3, 4]) rfl fun p w1 hs hc1 _ _ => ?_
  refine colour_Turn_ok hs rfl (fun x hx => by simp at hx; omega) (by omega) fun a' c' w2 ho hc2 => ?_
  have e : turnL [5, 3, 4] = [2, 3, 1] := by decide +kernel
  rw [e] at ho
  have hs2 := ho.sl
  refine bif_t rfl ?_
  refine rdV hs2 0 rfl rfl (v := 2) rfl fun p hp => bif_t rfl (rdV hs2 1 rfl rfl (v := 3) rfl fun q hq => bif_t rfl (rdV hs2 2 rfl rfl (v := 1) rfl fun r hr => hk w2 (hc1.trans hc2)))
end Go.Proofs.Ytmgcjihcbdgihaa.G
