/- The laws of layer 5 on tables. -/
import Derived.Test.YtplepdjcgojagaaKc
import Derived.Test.YtplepdjcgojagaaVmN
import Derived.Test.YtplepdjcgojagaaGenLawGuessLearns
import Derived.Test.YtplepdjcgojagaaGenLawGuessNil
set_option linter.unusedVariables false
set_option linter.unusedSimpArgs false
namespace Go.Proofs.Ytplepdjcgojagaa.G
open Go Go.Proofs.Ytplepdjcgojagaa.Vm Go.RowKit
/-- Blocks from `a` on, below `b`. -/
abbrev iv (a b : Nat) : Nat → Prop := fun k => a ≤ k ∧ k < b
/-- The two tables say the same. -/
structure Two (W w : World) (l1 h1 l2 h2 n : Nat) (s t : Option Addr) (gs : List Int) : Prop where
  len : gs.length = n
  gt : GT w (iv l1 h1) s gs
  rt : RT w (iv l2 h2) t gs
  bel : Below W.heap.size W w
  hi : h2 ≤ w.heap.size
theorem fits3 {w : World} {l : List Value} (h : Fits w (.st (.pair 1 (.int .i64) (.pair 1 (.int .i64) (.pair 1 (.int .i64) .unit)))) l) (hl : l.length = 3) :
    ∃ a b c, l = [.int .i64 a, .int .i64 b, .int .i64 c] := by
  obtain ⟨⟨a, h1, _⟩, ⟨b, h2, _⟩, ⟨c, h3, _⟩, _⟩ := h
  match l, hl with
  | [x, y, z], _ =>
    simp at h1 h2 h3
    subst h1 h2 h3
    exact ⟨a, b, c, rfl⟩
theorem learns_l15 {W : World} {l1 h1 l2 h2 n : Nat} (hn0 : 0 < n) (hn1 : n ≤ 65536) {K2 : World → Prop} {Kr : Bool → World → Prop} {s t : Option Addr} {gs : List Int}
    {a : Option Addr} {len cap : Nat} {xs : List Int} (hxl : xs.length = len) (hx : SlI .i64 W a xs)
    (hk : ∀ w, Below W.heap.size W w → K2 w) (N : Nat) : ∀ (i : Nat) (w : World), i ≤ 100 → 100 - i < N → Two W w l1 h1 l2 h2 n s t gs → W.heap.size ≤ w.heap.size → law05_GuessLearns.l15 N a len cap s t i w K2 Kr := by
  induction N with
  | zero => intro i w h1 h2; omega
  | succ N ih =>
    intro i w hi hN hT hW
    rw [law05_GuessLearns.l15]
    refine cond_of (fun h => ?_) (fun _ => hk w hT.bel)
    have hlt : (i : Int) < len := by simpa using h
    refine cond_of (fun h => ?_) (fun _ => hk w hT.bel)
    have hlt2 : (i : Int) < 100 := by simpa using h
    have hxw := hx.below hT.bel
    obtain ⟨p, rfl⟩ := hx.some (by omega)
    have hil : i < xs.length := by omega
    refine sm_some (if_of ⟨by omega, hlt⟩ (hxw.ldI (w := w) rfl (by simpa using hil) (sm_some (if_of ⟨by omega, hlt⟩ (hxw.ldI (w := w) rfl (by simpa using hil) ?_)))))
    have h0 : 0 < gs.length := by rw [hT.len]; exact hn0
    have h1' : gs.length ≤ 4611686018427387904 := by rw [hT.len]; omega
    refine guess_Table_At_ok (w := w.drew) (hT.gt.chg (Chg.drew no w) fun _ _ h => h) h0 h1' fun w1 hc1 => ?_
    have hb1 : Below W.heap.size W w1 := below_no hT.bel ((Chg.drew no w).trans hc1) hW
    refine ⟨?_, ?_⟩
    · obtain ⟨q, hq, hc⟩ := (hx.below hb1) i hil
      cases hq; simpa using hc
    refine ref05_Table_At_ok (hT.rt.chg ((Chg.drew no w).trans hc1) fun _ _ h => h) h0 h1' fun w2 hc2 => ?_
    refine bif_f (by simp) ?_
    rw [show (IntKind.wrap .i64 ((i : Int) + 1)) = ((i + 1 : Nat) : Int) by rw [w64 (by omega) (by omega)]; omega]
    have hc02 : Chg no w w2 := ((Chg.drew no w).trans hc1).trans hc2
    have := hc02.size
    exact ih (i + 1) w2 (by omega) (by omega) ⟨hT.len, hT.gt.chg hc02 fun _ _ h => h, hT.rt.chg hc02 fun _ _ h => h, below_no hT.bel hc02 hW, by have := hT.hi; omega⟩ (by omega)
set_option maxRecDepth 20000 in
theorem learns_l7 {W : World} {l1 h1 l2 h2 n : Nat} (hl : W.heap.size ≤ l1) (hd1 : l1 ≤ h1) (hd : h1 ≤ l2) (hd2 : l2 ≤ h2) (hn0 : 0 < n) (hn1 : n ≤ 65536) {K0 : Option Addr → Nat → Nat → Option Addr → Option Addr → World → Prop} {Kr : Bool → World → Prop} {s t : Option Addr}
    {a b : Option Addr} {len cap bl bc : Nat} {L : List (List Value)} (hxl : L.length = len) (hx : SlR 3 W a L)
    (hf : ∀ l ∈ L, ∃ x y z, l = [.int .i64 x, .int .i64 y, .int .i64 z])
    (hk : ∀ w gs, Two W w l1 h1 l2 h2 n s t gs → W.heap.size ≤ w.heap.size → K0 b bl bc s t w) (N : Nat) :
    ∀ (i : Nat) (w : World) (gs : List Int), i ≤ 300 → 300 - i < N → Two W w l1 h1 l2 h2 n s t gs → W.heap.size ≤ w.heap.size → law05_GuessLearns.l7 N a len cap b bl bc s t i w K0 Kr := by
  induction N with
  | zero => intro i w gs h1 h2; omega
  | succ N ih =>
    intro i w gs hi hN hT hW
    rw [law05_GuessLearns.l7]
    refine cond_of (fun h => ?_) (fun _ => hk w gs hT hW)
    have hlt : (i : Int) < len := by simpa using h
    refine cond_of (fun h => ?_) (fun _ => hk w gs hT hW)
    have hlt2 : (i : Int) < 300 := by simpa using h
    have hil : i < L.length := by omega
    obtain ⟨p, rfl, _, hc⟩ := hx i hil
    obtain ⟨x, y, z, hxyz⟩ := hf _ (List.getElem_mem hil)
    rw [hxyz] at hc
    have c0 := below_cell hT.bel (hc 0 _ rfl)
    have c1 := below_cell hT.bel (hc 1 _ rfl)
    have c2 := below_cell hT.bel (hc 2 _ rfl)
    refine sm_some (if_of ⟨by omega, hlt⟩ ?_)
    rw [show Int.toNat (i : Int) = i by omega]
    refine ldI_of c0 (ldI_of c1 (ldI_of c2 (newC_b fun w1 hb1 hc1 hs1 => ?_)))
    refine stCs_b hb1 (by simp [one]) rfl fun w2 hb2 hc2 => ?_
    have hc02 : Chg no w w2 := hc1.then hc2 fun k hk h => by omega
    have hs2 := hc02.size
    have hi2 := hT.hi
    refine ldI_b hb2 rfl (ldI_b (i := 1) hb2 rfl (ldI_b (i := 2) hb2 rfl ?_))
    have h0 : 0 < gs.length := by rw [hT.len]; exact hn0
    have h1' : gs.length ≤ 4611686018427387904 := by rw [hT.len]; omega
    have gt2 := hT.gt.chg hc02 fun _ _ h => h
    have rt2 := hT.rt.chg hc02 fun _ _ h => h
    refine guess_Table_Learn_ok gt2 h0 h1' fun w3 gt3 hc3 => ?_
    have rt3 := rt2.chg hc3 fun b hb h => by have := hb.1; have := h.2; omega
    have hb3 := hb2.chg hc3 fun h => by have := h.2; omega
    refine ldI_b hb3 rfl (ldI_b (i := 1) hb3 rfl (ldI_b (i := 2) hb3 rfl ?_))
    refine ref05_Table_Learn_ok rt3 h0 h1' fun w4 rt4 hc4 => ?_
    have gt4 := gt3.chg hc4 fun b hb h => by have := hb.2; have := h.1; omega
    have hb4 := hb3.chg hc4 fun h => by have := h.2; omega
    have hs3 := hc3.size
    have hs4 := hc4.size
    have hbel4 : Below W.heap.size W w4 := below_chg (below_chg (below_no hT.bel hc02 hW) hc3 (by omega) fun k h => by have := h.1; omega) hc4 (by omega) fun k h => by have := h.1; omega
    refine ldI_b hb4.drew rfl (ldI_b hb4.drew rfl ?_)
    have hl0 : 0 < (gs.set (x % gs.length).toNat (nextV (at' gs x) y z)).length := by rw [List.length_set]; exact h0
    have hl1 : (gs.set (x % gs.length).toNat (nextV (at' gs x) y z)).length ≤ 4611686018427387904 := by rw [List.length_set]; exact h1'
    refine guess_Table_At_ok (gt4.chg (Chg.drew no w4) fun _ _ h => h) hl0 hl1 fun w5 hc5 => ⟨?_, ?_⟩
    · exact (hb4.chg ((Chg.drew no w4).trans hc5) fun h => h).cell rfl
    have hc45 := (Chg.drew no w4).trans hc5
    refine ref05_Table_At_ok (rt4.chg hc45 fun _ _ h => h) hl0 hl1 fun w6 hc6 => ?_
    refine bif_f (by simp) ?_
    rw [show (IntKind.wrap .i64 ((i : Int) + 1)) = ((i + 1 : Nat) : Int) by rw [w64 (by omega) (by omega)]; omega]
    have hc46 := hc45.trans hc6
    have hs6 := hc46.size
    exact ih (i + 1) w6 _ (by omega) (by omega) ⟨by rw [List.length_set]; exact hT.len, gt4.chg hc46 fun _ _ h => h, rt4.chg hc46 fun _ _ h => h, below_no hbel4 hc46 (by omega), by omega⟩ (by omega)
theorem law05_GuessLearns_said {a0 : Int} {a1 : Option Addr} {n1 c1 : Nat} {a2 : Option Addr} {n2 c2 : Nat} {W : World} {K : Bool → World → Prop} (w0 : (Lit.int .i64 a0).wf = true)
    (f1 : Fits W (.slc (.st (.pair 1 (.int .i64) (.pair 1 (.int .i64) (.pair 1 (.int .i64) .unit)))) 3 24) [.slice a1 n1 c1]) (f2 : Fits W (.slc (.int .i64) 1 8) [.slice a2 n2 c2])
    (hk : ∀ w', Below W.heap.size W w' → K true w') : law05_GuessLearns.f a0 a1 n1 c1 a2 n2 c2 W K := by
  obtain ⟨_, _, L, hL, hx, hfit⟩ := f1.rows
  obtain ⟨_, _, xs, hxs, hsl, _⟩ := f2.ints
  have hf3 : ∀ l ∈ L, ∃ x y z, l = [.int .i64 x, .int .i64 y, .int .i64 z] := fun l hl => by
    obtain ⟨i, hi, rfl⟩ := List.getElem_of_mem hl
    exact fits3 (hfit _ hl) (hx i hi).choose_spec.2.1
  have key : ∀ j : Int, (guess_New.f j W fun r15_6 w =>
    ref05_New.f j w fun r17_7 w =>
    law05_awake.f  w.drew fun r18_10 w =>
    bif (!r18_10) then
      K false w
    else
      bif r15_6.isNone then
        K false w
      else
        sm r17_7 fun p_11 =>
        ldL p_11 w fun x30_12 x30_12n x30_12c =>
        guess_Table_Len.f r15_6 w fun r26_13 w =>
        (World.cell? w p_11 = some (.slice x30_12 x30_12n x30_12c)) ∧
        (bif (r26_13 != ((x30_12n : Nat) : Int)) then
          K false w
        else
          ∃ N_43 : Nat, law05_GuessLearns.l7 N_43 a1 n1 c1 a2 n2 c2 r15_6 r17_7 0 w
          (fun o2_44 o2_44n o2_44c o7_45 o8_46 w =>
            ∃ N_62 : Nat, law05_GuessLearns.l15 N_62 o2_44 o2_44n o2_44c o7_45 o8_46 0 w
            (fun w =>
              K true w)
            (fun o6_63 w =>
              K o6_63 w))
          (fun o6_47 w =>
            K o6_47 w))) := by
    intro j
    have m1 := mx_bd 1 (mn j 65536)
    have m2 := mn_bd j 65536
    have m3 : mx 1 (mn j 65536) ≤ 65536 := by omega
    refine guess_New_ok fun s w1 gt1 hc1 => ref05_New_ok fun t w2 rt2 hc2 => law05_awake_ok (bif_f rfl ?_)
    generalize mx 1 (mn j 65536) = m at *
    have hs1 := hc1.size
    have hs2 := hc2.size
    have hc2d := hc2.trans (Chg.drew no w2)
    have gt2 := gt1.chg hc2d fun _ _ h => h
    have rt2 := rt2.chg (Chg.drew no w2) fun _ _ h => h
    have hsome : s.isNone = false := by obtain ⟨bt, bc, rfl, _⟩ := gt1; rfl
    rw [hsome]
    refine bif_f rfl ?_
    have hT : Two W w2.drew W.heap.size w1.heap.size w1.heap.size w2.heap.size m.toNat s t (List.replicate m.toNat 32768) :=
      ⟨by simp, gt2, rt2, below_no (Below.refl _ _) (hc1.trans hc2d) (Nat.le_refl _), Nat.le_refl _⟩
    have rt2c := rt2
    obtain ⟨bt, x, c, rfl, hS, hb, ho, hg⟩ := rt2c
    refine sm_some (ldL_b hb rfl (guess_Table_Len_ok gt2 ⟨hb.cell rfl, bif_f (by simp) ?_⟩))
    refine ⟨301, learns_l7 (n := m.toNat) (Nat.le_refl _) hs1 (Nat.le_refl _) hs2 (by omega) (by omega) hL hx hf3 (fun w gs hT hW => ⟨101, ?_⟩) 301 0 _ _ (by omega) (by omega) hT (by show _ ≤ w2.heap.size; omega)⟩
    exact learns_l15 (n := m.toNat) (by omega) (by omega) hxs hsl (fun w hb => hk w hb) 101 0 w (by omega) (by omega) hT hW
  unfold law05_GuessLearns.f
  exact cond_of (fun _ => key 3000) (fun _ => key a0)
theorem law05_GuessNil_said {a b c d : Int} {W : World} {K : Bool → World → Prop} (_ : (Lit.int .i64 a).wf = true) (_ : (Lit.int .i64 b).wf = true) (_ : (Lit.int .i64 c).wf = true) (_ : (Lit.int .i64 d).wf = true)
    (hk : ∀ w', Below W.heap.size W w' → K true w') : law05_GuessNil.f a b c d W K := by
  unfold law05_GuessNil.f
  unfold guess_Table_Learn.f
  rw [show ∀ K : Int → World → Prop, guess_Table_Len.f none W K = K 0 W from fun _ => rfl]
  refine bif_f (by decide) ?_
  refine guess_New_ok fun t w1 gt hc1 => law05_awake_ok (bif_t rfl ?_)
  have k := hk w1 (below_no (Below.refl _ _) hc1 (Nat.le_refl _))
  have hsome : t.isNone = false := by obtain ⟨bt, bc, rfl, _⟩ := gt; rfl
  refine bif_t (c := !t.isNone) (by rw [hsome]; rfl) (guess_Table_Len_ok gt ?_)
  have m1 := mx_bd 1 (mn d 65536)
  have e : mx 1 (mn (mn d 100000) 65536) = mx 1 (mn d 65536) := by congr 1; unfold mn; (repeat' split) <;> omega
  rw [e]
  have : ((List.replicate (mx 1 (mn d 65536)).toNat (32768 : Int)).length : Int) = mx 1 (mn d 65536) := by rw [List.length_replicate]; omega
  show K (((List.replicate (mx 1 (mn d 65536)).toNat (32768 : Int)).length : Int) == mx 1 (mn d 65536)) w1
  rw [this]
  simpa using k
end Go.Proofs.Ytplepdjcgojagaa.G
