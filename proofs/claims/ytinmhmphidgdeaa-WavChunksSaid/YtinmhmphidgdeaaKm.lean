/- The law of other chunks. -/
import Derived.Test.YtinmhmphidgdeaaKl
import Derived.Test.YtinmhmphidgdeaaGenLawWavChunks
set_option linter.unusedVariables false
set_option linter.unusedSimpArgs false
namespace Go.Proofs.Ytinmhmphidgdeaa.G
open Go Go.Proofs.Ytinmhmphidgdeaa.Vm Go.RowKit
/-- The slice `a` of strings reads `ss`. -/
def SlT (w : World) (a : Option Addr) (ss : List ByteArray) : Prop := ∀ i (hi : i < ss.length), ∃ p, a = some p ∧ w.cell? (p.add i) = some (.string ss[i])
theorem SlT.chg {w w' : World} {a : Option Addr} {ss : List ByteArray} (h : SlT w a ss) (hc : Chg no w w') : SlT w' a ss := fun i hi => by
  obtain ⟨p, hp, h2⟩ := h i hi
  exact ⟨p, hp, chg_cell hc h2 fun h => h⟩
theorem Fits.strs {w : World} {b2 : Nat} {a : Option Addr} {n c : Nat} (h : Fits w (.slc .str 1 b2) [.slice a n c]) : ∃ ss : List ByteArray, ss.length = n ∧ SlT w a ss := by
  obtain ⟨h1, h2, L, hL, h3⟩ := h.elems
  have key : ∀ i, i < n → ∃ s : ByteArray, ∃ p, a = some p ∧ w.cell? (p.add i) = some (.string s) := by
    intro i hi
    obtain ⟨p, hp, hr, hl, s, hs, _⟩ := h3 i (by omega)
    rw [hs, Nat.mul_one] at hr
    exact ⟨s, p, hp, rdCs_one hr⟩
  obtain ⟨f, hf⟩ := Go.Deep.choose_lt key
  refine ⟨(List.range n).map f, by simp, fun i hi => ?_⟩
  obtain ⟨p, hp, hc⟩ := hf i (by simpa using hi)
  exact ⟨p, hp, by simpa using hc⟩
theorem rdT {w : World} {a : Option Addr} {ss : List ByteArray} {n : Nat} {e : Int} {s : ByteArray} {K : Addr → ByteArray → Prop} (h : SlT w a ss) (i : Nat) (he : e = i) (hn : ss.length = n) (hv : ss[i]? = some s)
    (hk : ∀ p, K p s) : sm a fun p => if 0 ≤ e ∧ e < (n : Int) then ldS (p.add e.toNat) w (K p) else False := by
  obtain ⟨hi, hx⟩ := List.getElem?_eq_some_iff.1 hv
  obtain ⟨p, hp, hc⟩ := h i hi
  subst hp he
  refine sm_some (if_of ⟨by omega, by omega⟩ (ldS_of ?_ (hk p)))
  rw [Int.toNat_natCast, hc, hx]
theorem rdH {k : IntKind} {w : World} {a : Option Addr} {hs : List Hdr} {L : List (List Int)} {n : Nat} {e : Int} {g : Hdr} {K : Addr → Option Addr → Nat → Nat → Prop} (h : SlS k w a hs L) (i : Nat) (he : e = i) (hn : L.length = n) (hg : hs[i]? = some g)
    (hk : ∀ p, K p g.1 g.2.1 g.2.2) : sm a fun p => if 0 ≤ e ∧ e < (n : Int) then ldL (p.add e.toNat) w (K p) else False := by
  obtain ⟨p, hp, hc⟩ := h.head i g hg
  have hi := (List.getElem?_eq_some_iff.1 hg).1
  have := h.len
  subst hp he
  refine sm_some (if_of ⟨by omega, by omega⟩ (ldL_of ?_ (hk p)))
  rw [Int.toNat_natCast]; exact hc
/-- A chunk of another name. -/
def Ck (q : List Int) : Prop := ∃ nm ct : List Int, q = nm ++ (leB ct.length 4 ++ (ct ++ if ct.length % 2 = 1 then [0] else [])) ∧ nm.length = 4 ∧ nm.map (fun n => UInt8.ofNat n.toNat) ≠ FMT ∧ nm.map (fun n => UInt8.ofNat n.toNat) ≠ DATA ∧ By nm ∧ By ct ∧ ct.length ≤ 300
theorem Ck.len {q : List Int} (h : Ck q) : 8 ≤ q.length ∧ q.length ≤ 309 := by
  obtain ⟨nm, ct, rfl, h1, _, _, _, _, h2⟩ := h
  rw [List.length_append, List.length_append, List.length_append, leB_length]
  split <;> simp <;> omega
theorem Ck.by' {q : List Int} (h : Ck q) : By q := by
  obtain ⟨nm, ct, rfl, h1, _, _, h3, h4, h2⟩ := h
  refine By.app h3 (By.app (leB_by _ _) (By.app h4 ?_))
  intro x hx
  split at hx
  · simp at hx; omega
  · cases hx
theorem pL_chunks {L R : List Int} {N fm ch bits : Nat} : ∀ (Q : List (List Int)) (at' : Nat), (∀ q ∈ Q, Ck q) → at' ≤ L.length → L.drop at' = Q.flatten ++ R → pL L (N + Q.length) at' true fm ch bits = pL L N (at' + Q.flatten.length) true fm ch bits := by
  intro Q
  induction Q with
  | nil => intro at' _ _ _; rfl
  | cons q Q ih =>
    intro at' hQ hle hd
    have hq := hQ q List.mem_cons_self
    have hqb := hq.len
    rw [List.flatten_cons, List.append_assoc] at hd
    have hlen := congrArg List.length hd
    rw [List.length_drop, List.length_append] at hlen
    have hd2 : L.drop (at' + q.length) = Q.flatten ++ R := by rw [← List.drop_drop, hd, List.drop_left]
    obtain ⟨nm, ct, hqe, h1, hnf, hnd, _, _, h2⟩ := hq
    have hn4 : nm4 L at' = nm.map (fun n => UInt8.ofNat n.toNat) := by
      unfold nm4
      rw [hd, hqe, List.append_assoc, List.take_left' h1]
    have hsz : leA L (at' + 4) 4 = ct.length := by
      refine leA_leB ?_ (by omega)
      rw [← List.drop_drop, hd, hqe, List.append_assoc, List.drop_left' h1, List.append_assoc, List.take_left' (leB_length _ _)]
    have hql : at' + 8 + ct.length + ct.length % 2 = at' + q.length := by
      rw [hqe, List.length_append, List.length_append, List.length_append, leB_length]
      split <;> simp <;> omega
    rw [List.length_cons, ← Nat.add_assoc, pL, if_pos (by omega), if_neg (fun g => absurd g.2.1 (by decide)), if_neg (fun g => hnd (hn4.symm.trans g.1)), hsz, hql, ih (at' + q.length) (fun x hx => hQ x (List.mem_cons_of_mem _ hx)) (by omega) hd2, List.flatten_cons, List.length_append, Nat.add_assoc]
theorem pP_chunks {ch bits f : Nat} {xs : List Int} {Q : List (List Int)} (h1 : 1 ≤ ch) (h2 : ch ≤ 8) (h3 : bits = 8 ∨ bits = 16) (hf : fr (ch : Int) (bits : Int) = f) (hx : xs.length ≤ 5000) (hfx : f ≤ xs.length) (hQ : ∀ q ∈ Q, Ck q) (hQl : Q.length ≤ 5) :
    pP ((((mkW ch bits f xs).take 36).drop 0 ++ Q.flatten) ++ (mkW ch bits f xs).drop 36) = ((ch : Int), (bits : Int), ((44 + Q.flatten.length : Nat) : Int), ((44 + Q.flatten.length + xs.length / f * f : Nat) : Int), true) ∧
    ((((mkW ch bits f xs).take 36).drop 0 ++ Q.flatten) ++ (mkW ch bits f xs).drop 36).drop (44 + Q.flatten.length) = xs ∧
    ((((mkW ch bits f xs).take 36).drop 0 ++ Q.flatten) ++ (mkW ch bits f xs).drop 36).length = 44 + Q.flatten.length + xs.length := by
  have hf0 : f ≠ 0 := by
    rw [← hf]; unfold fr
    rw [if_pos ⟨by omega, by omega, by omega⟩]
    split <;> omega
  have hfx' := hfx
  generalize hM : Q.flatten = more
  have hl : ((((mkW ch bits f xs).take 36).drop 0 ++ more) ++ (mkW ch bits f xs).drop 36).length = 44 + more.length + xs.length := by
    rw [List.length_append, List.length_append, List.drop_zero, List.length_take, List.length_drop, mkW_length]; omega
  have n0 : nm4 ((((mkW ch bits f xs).take 36).drop 0 ++ more) ++ (mkW ch bits f xs).drop 36) 0 = RIFF := by kernel_rfl
  have n8 : nm4 ((((mkW ch bits f xs).take 36).drop 0 ++ more) ++ (mkW ch bits f xs).drop 36) 8 = WAVE := by kernel_rfl
  have n12 : nm4 ((((mkW ch bits f xs).take 36).drop 0 ++ more) ++ (mkW ch bits f xs).drop 36) 12 = FMT := by kernel_rfl
  have l16 : leA ((((mkW ch bits f xs).take 36).drop 0 ++ more) ++ (mkW ch bits f xs).drop 36) (12 + 4) 4 = 16 := leA_leB (by kernel_rfl) (by omega)
  have l20 : leA ((((mkW ch bits f xs).take 36).drop 0 ++ more) ++ (mkW ch bits f xs).drop 36) (12 + 8) 2 = 1 := leA_leB (by kernel_rfl) (by omega)
  have l22 : leA ((((mkW ch bits f xs).take 36).drop 0 ++ more) ++ (mkW ch bits f xs).drop 36) (12 + 8 + 2) 2 = ch := leA_leB (by kernel_rfl) (by omega)
  have l34 : leA ((((mkW ch bits f xs).take 36).drop 0 ++ more) ++ (mkW ch bits f xs).drop 36) (12 + 8 + 14) 2 = bits := leA_leB (by kernel_rfl) (by omega)
  have d36 : ((((mkW ch bits f xs).take 36).drop 0 ++ more) ++ (mkW ch bits f xs).drop 36).drop (12 + 8 + 16 + 16 % 2) = more ++ (mkW ch bits f xs).drop 36 := by kernel_rfl
  have r4 : (((mkW ch bits f xs).drop 36).take 4).map (fun n => UInt8.ofNat n.toNat) = DATA := by kernel_rfl
  have r8 : (((mkW ch bits f xs).drop 36).drop 4).take 4 = leB xs.length 4 := by kernel_rfl
  have rx : ((mkW ch bits f xs).drop 36).drop 8 = xs := by kernel_rfl
  generalize (((mkW ch bits f xs).take 36).drop 0 ++ more) ++ (mkW ch bits f xs).drop 36 = L at *
  generalize (mkW ch bits f xs).drop 36 = R at *
  have dm : L.drop (12 + 8 + 16 + 16 % 2 + more.length) = R := by rw [← List.drop_drop, d36, List.drop_left]
  refine ⟨?_, ?_, hl⟩
  · have n36 : nm4 L (12 + 8 + 16 + 16 % 2 + more.length) = DATA := by unfold nm4; rw [dm, r4]
    have l40 : leA L (12 + 8 + 16 + 16 % 2 + more.length + 4) 4 = xs.length := leA_leB (by rw [← List.drop_drop, dm, r8]) (by omega)
    unfold pP
    rw [if_neg (show ¬ (L.length < 12 ∨ nm4 L 0 ≠ RIFF ∨ nm4 L 8 ≠ WAVE) from fun h => by
      rcases h with h | h | h
      · omega
      · exact h n0
      · exact h n8)]
    obtain ⟨k, hk⟩ : ∃ k, L.length + 1 = k + 1 + Q.length + 1 := ⟨L.length - 1 - Q.length, by omega⟩
    rw [hk, pL, if_pos (by omega), l16, if_pos ⟨n12, rfl, by omega, by omega⟩, l20, l22, l34, pL_chunks (R := R) Q _ hQ (by omega) (by rw [hM]; exact d36), hM, pL, if_pos (by omega), if_neg (fun g => absurd g.2.1 (by decide)), if_pos ⟨n36, rfl⟩, l40]
    unfold fin
    rw [hf, show min xs.length (L.length - (12 + 8 + 16 + 16 % 2 + more.length + 8)) = xs.length by omega, if_neg (show ¬ ((1 : Nat) ≠ 1 ∨ f = 0 ∨ xs.length < f) by omega)]
    rw [show 12 + 8 + 16 + 16 % 2 + more.length + 8 = 44 + more.length by omega]
  · rw [show 44 + more.length = 12 + 8 + 16 + 16 % 2 + more.length + 8 by omega, ← List.drop_drop, dm, rx]
theorem sI_back (s : ByteArray) : (sI s).map (fun n => UInt8.ofNat n.toNat) = s.data.toList := by
  unfold sI
  rw [List.map_map]
  conv => rhs; rw [← List.map_id s.data.toList]
  refine List.map_congr_left fun b _ => ?_
  simp
theorem sI_by (s : ByteArray) : By (sI s) := fun x hx => by
  obtain ⟨b, _, rfl⟩ := List.mem_map.1 hx
  have := b.toNat_lt
  omega
theorem law13_WavChunks_l10 {W w0 : World} {x y z b : Option Addr} {n c ny cy nz cz nb cb lo : Nat} {p11 : Addr} {v12 : Int} {ss : List ByteArray} {hs : List Hdr} {CT : List (List Int)} {K0 : Option Addr → Nat → Nat → Addr → Int → Option Addr → Nat → Nat → Option Addr → Nat → Nat → World → Prop}
    (hT : SlT W y ss) (hTl : ss.length = ny) (hS : SlS .u8 W z hs CT) (hSl : CT.length = nz) (hby : ∀ l ∈ CT, By l) (hlo : lo ≤ w0.heap.size) (hW0 : Chg no W w0) (hWlo : W.heap.size ≤ lo)
    (hk : ∀ (Q : List (List Int)) a m c' w, (∀ q ∈ Q, Ck q) → Q.length ≤ 5 → Own .u8 5 (fun b => lo ≤ b) w a m c' Q.flatten → Chg (fun b => lo ≤ b) w0 w → K0 x n c p11 v12 b nb cb a m c' w) (N : Nat) :
    ∀ (i : Nat) (Q : List (List Int)) (a : Option Addr) (m c' : Nat) (w : World), i ≤ 5 → 5 - i < N → (∀ q ∈ Q, Ck q) → Q.length ≤ i → Own .u8 5 (fun b => lo ≤ b) w a m c' Q.flatten → Chg (fun b => lo ≤ b) w0 w →
      law13_WavChunks.l10 N x n c y ny cy z nz cz p11 v12 b nb cb a m c' (i : Int) w K0 := by
  induction N with
  | zero => intro i Q a m c' w h1 h2; omega
  | succ N ih =>
    intro i Q a m c' w h1 h2 hQ hQl ho hc
    rw [law13_WavChunks.l10]
    have fin := hk Q a m c' w hQ (by omega) ho hc
    refine cond_of (fun g1 => cond_of (fun g2 => cond_of (fun g3 => ?_) (fun _ => fin)) (fun _ => fin)) (fun _ => fin)
    have hi1 : i < ss.length := by have := of_decide_eq_true g1; omega
    have hi2 : i < CT.length := by have := of_decide_eq_true g2; omega
    have hi5 : i < 5 := by have := of_decide_eq_true g3; omega
    have toW : ∀ w', Chg (fun b => lo ≤ b) w0 w' → Chg no W w' := fun w' h => hW0.then h fun k hk h => by omega
    have hTw := hT.chg (toW w hc)
    have hSw := hS.chg (toW w hc)
    have z0 := hc.size
    have skip : law13_WavChunks.l10 N x n c y ny cy z nz cz p11 v12 b nb cb a m c' (IntKind.wrap .i64 ((i : Int) + 1)) w K0 := by
      rw [inc (by omega)]
      exact ih (i + 1) Q a m c' w (by omega) (by omega) hQ (by omega) ho hc
    obtain ⟨s, hv⟩ : ∃ s, ss[i]? = some s := ⟨_, List.getElem?_eq_getElem hi1⟩
    refine rdT hTw i rfl hTl hv fun _ => cond_of (fun _ => skip) fun g4 => rdT hTw i rfl hTl hv fun _ => cond_of (fun _ => skip) fun g5 => rdT hTw i rfl hTl hv fun _ => cond_of (fun _ => skip) fun g6 => ?_
    have hi3 : i < hs.length := by rw [hS.len]; exact hi2
    obtain ⟨g, hg⟩ : ∃ g, hs[i]? = some g := ⟨_, List.getElem?_eq_getElem hi3⟩
    have hct : CT[i]? = some CT[i] := List.getElem?_eq_getElem hi2
    refine rdH hSw i rfl hSl hg fun _ => cond_of (fun _ => skip) fun g7 => ?_
    have hn300 : g.2.1 ≤ 300 := by have := of_decide_eq_false g7; omega
    have hctl := (hSw.row i g _ hg hct).2
    have hctb := hby CT[i] (List.getElem_mem hi2)
    generalize hCe : CT[i] = ct at hctl hctb hct
    have hs4 : s.size = 4 := by
      have : ((s.size : Nat) : Int) = 4 := by simpa using g4
      omega
    have hml := ho.length
    have hflen : Q.flatten.length ≤ 5 * 309 := by
      have : ∀ (Q : List (List Int)), (∀ q ∈ Q, Ck q) → Q.flatten.length ≤ Q.length * 309 := by
        intro Q
        induction Q with
        | nil => intro _; simp
        | cons q Q ih =>
          intro h
          have h1 := (h q List.mem_cons_self).len
          have h2 := ih fun x hx => h x (List.mem_cons_of_mem _ hx)
          rw [List.flatten_cons, List.length_append, List.length_cons, Nat.succ_mul]; omega
      exact Nat.le_trans (this Q hQ) (Nat.mul_le_mul_right 309 (Nat.le_trans hQl (Nat.le_of_lt hi5)))
    have hnf : (sI s).map (fun n => UInt8.ofNat n.toNat) ≠ FMT := fun e => by
      have e' : s.data.toList = FMT := (sI_back s).symm.trans e
      rw [ByteArray.toList_eq, ByteArray.toList_eq, e'] at g6
      exact absurd g6 (by decide)
    have hnd : (sI s).map (fun n => UInt8.ofNat n.toNat) ≠ DATA := fun e => by
      have e' : s.data.toList = DATA := (sI_back s).symm.trans e
      rw [ByteArray.toList_eq, ByteArray.toList_eq, e'] at g5
      exact absurd g5 (by decide)
    refine rdT hTw i rfl hTl hv fun _ => apT ho (by omega) (by omega) fun a1 d1 w1 ho1 c1 => ?_
    have k1 := hc.trans c1
    have z1 := c1.size
    refine rdH (hS.chg (toW w1 k1)) i rfl hSl hg fun _ => ?_
    rw [wu64n (by omega)]
    refine ref02_Little_ok g.2.1 4 (by omega) fun a2 d2 w2 ho2 c2 => ?_
    have k2 := k1.trans (c2.mono fun _ h => h.elim)
    have z2 := c2.size
    refine apS (ho1.chg c2 fun _ _ h => h) ho2.sl (leB_length _ _) (by omega) (by omega) (by omega) fun a3 d3 w3 ho3 c3 => ?_
    have k3 := k2.trans c3
    have z3 := c3.size
    have hS3 := hS.chg (toW w3 k3)
    refine rdH hS3 i rfl hSl hg fun _ => apS ho3 (hS3.row i g _ hg hct).1 hctl (by omega) (by omega) (by omega) fun a4 d4 w4 ho4 c4 => ?_
    have k4 := k3.trans c4
    have z4 := c4.size
    refine rdH (hS.chg (toW w4 k4)) i rfl hSl hg fun _ => ?_
    have hQ' : ∀ pad, pad = (if ct.length % 2 = 1 then [0] else []) → ∀ q ∈ Q ++ [sI s ++ (leB ct.length 4 ++ (ct ++ pad))], Ck q := fun pad hp q hq => by
      rcases List.mem_append.1 hq with h | h
      · exact hQ q h
      · rw [List.mem_singleton] at h
        subst h hp
        exact ⟨sI s, ct, rfl, by rw [sI_length, hs4], hnf, hnd, sI_by s, hctb, by omega⟩
    have hfl : ∀ pad : List Int, (Q ++ [sI s ++ (leB ct.length 4 ++ (ct ++ pad))]).flatten = Q.flatten ++ sI s ++ leB ct.length 4 ++ ct ++ pad := fun pad => by
      rw [List.flatten_append]; simp [List.append_assoc]
    rw [← hctl] at ho4
    rw [show Int.tmod ((g.2.1 : Nat) : Int) 2 = ((g.2.1 % 2 : Nat) : Int) from rfl]
    refine cond_of (fun h5 => ?_) fun h5 => ?_
    · have hodd : ct.length % 2 = 1 := by
        have : ((g.2.1 % 2 : Nat) : Int) = 1 := by simpa using h5
        omega
      refine newC_sl (k := .u8) (xs := [0]) rfl fun p5 w5 hs5 c5 s5 _ => ?_
      have z5 := c5.size
      rw [← hctl]
      refine apS (ho4.chg c5 fun _ _ h => h) hs5 rfl (by omega) (by omega) (by omega) fun a6 d6 w6 ho6 c6 => ?_
      dsimp only
      rw [inc (by omega)]
      refine ih (i + 1) (Q ++ [sI s ++ (leB ct.length 4 ++ (ct ++ [0]))]) a6 _ d6 w6 (by omega) (by omega) (hQ' [0] (by rw [if_pos hodd])) (by rw [List.length_append]; simp; omega) ?_ ((k4.trans (c5.mono fun _ h => h.elim)).trans c6)
      rw [hfl]; exact ho6
    · have hev : ¬ ct.length % 2 = 1 := by
        have : ¬ ((g.2.1 % 2 : Nat) : Int) = 1 := by simpa using h5
        omega
      dsimp only
      rw [inc (by omega), ← hctl]
      refine ih (i + 1) (Q ++ [sI s ++ (leB ct.length 4 ++ (ct ++ []))]) a4 _ d4 w4 (by omega) (by omega) (hQ' [] (by rw [if_neg hev])) (by rw [List.length_append]; simp; omega) ?_ k4
      rw [hfl, List.append_nil]; exact ho4
theorem law13_WavChunks_said {cs bs : Int} {x y z : Option Addr} {n c ny cy nz cz : Nat} {W : World} {K : Bool → World → Prop} (_ : (Lit.int .i64 cs).wf = true) (_ : (Lit.int .i64 bs).wf = true) (f3 : Fits W (.slc (.int .u8) 1 1) [.slice x n c]) (f4 : Fits W (.slc .str 1 16) [.slice y ny cy]) (f5 : Fits W (.slc (.slc (.int .u8) 1 1) 1 24) [.slice z nz cz])
    (hk : ∀ w', Below W.heap.size W w' → K true w') : law13_WavChunks.f cs bs x n c y ny cy z nz cz W K := by
  obtain ⟨hnc, _, xs, hxl, hx, hwf⟩ := f3.ints
  obtain ⟨ss, hTl, hT⟩ := Fits.strs f4
  obtain ⟨_, _, hs, CT, hSl, hS, _, hCwf⟩ := f5.slices
  have hby := By.of hwf
  unfold law13_WavChunks.f
  obtain ⟨ch, ech, hc1, hc8⟩ := ways cs
  obtain ⟨bits, ebits, hbits⟩ := wide bs
  rw [ech, ebits]
  obtain ⟨eF, F1, F16⟩ := frI (ch := (ch : Int)) (bits := (bits : Int)) (by omega) (by omega) (by omega)
  obtain ⟨F, hF⟩ : ∃ F, fr (ch : Int) (bits : Int) = F := ⟨_, rfl⟩
  have hmk : mkF (ch : Int) (bits : Int) xs = mkW ch bits F xs := by rw [mkF, if_neg (by omega), hF]; rfl
  rw [hF] at eF F1 F16
  refine newC_i (k := .i64) (xs := [0, 0, 0, 0]) rfl fun w1 hb1 c1 s1 => stCs4 hb1 rfl fun w2 hb2 c2 => ldI_b (i := 0) hb2.bl rfl (ldI_b (i := 1) hb2.bl rfl ?_)
  have k2 : Chg no W w2 := c1.then c2 fun k hk h => by omega
  dsimp only
  rw [eF]
  refine cond_of (fun _ => law13_awake_ok fun w hc => hk w (below_no (Below.refl _ _) (k2.trans hc) (Nat.le_refl _))) (fun h => cond_of (fun _ => law13_awake_ok fun w hc => hk w (below_no (Below.refl _ _) (k2.trans hc) (Nat.le_refl _))) (fun h' => ?_))
  have hn : n ≤ 1000 := by have := of_decide_eq_false h; omega
  have hnF : F ≤ n := by have := of_decide_eq_false h'; omega
  refine ld4i hb2 (wav_Make_ok (hx.chg k2 fun _ _ _ h => h) hxl (by omega) fun a3 n3 d3 w3 hn3 ho3 c3 => ?_)
  rw [hmk] at hn3 ho3
  have hl3 : n3 = 44 + n := by rw [hn3, mkW_length, hxl]
  refine law13_awake_ok fun w4 c4 => bif_f rfl ?_
  rw [show IntKind.wrap .i64 (44 + ((n : Nat) : Int)) = ((n3 : Nat) : Int) by rw [w64 (by omega) (by omega)]; omega]
  refine bif_f (by simp) ?_
  have k4 := (k2.trans c3).trans c4
  have z2 := c2.size
  have z3 := c3.size
  have z4 := c4.size
  have hb24 := (hb2.chg c3 id).chg c4 id
  have z40 := k4.size
  have cap3 := ho3.cap
  have hbl2 := hb24.lt
  refine ⟨6, law13_WavChunks_l10 (W := W) (w0 := w4) (lo := w4.heap.size) hT hTl hS hSl (fun l hl => By.of (hCwf l hl)) (Nat.le_refl _) k4 z40 (fun Q a m c' w5 hQ hQl ho5 c5 => ?_) 6 0 [] none 0 0 w4 (by omega) (by omega) (fun q hq => by cases hq) (Nat.le_refl _) (Own.nil _ _ _ _) (Chg.refl _ _)⟩
  obtain ⟨hP, hD, hLl⟩ := pP_chunks (Q := Q) hc1 hc8 hbits hF (by omega : xs.length ≤ 5000) (by omega) hQ hQl
  have hm := ho5.length
  rw [hm] at hP hD hLl
  have hmb : m ≤ 1545 := by
    have : ∀ (Q : List (List Int)), (∀ q ∈ Q, Ck q) → Q.flatten.length ≤ Q.length * 309 := by
      intro Q
      induction Q with
      | nil => intro _; simp
      | cons q Q ih =>
        intro h
        have h1 := (h q List.mem_cons_self).len
        have h2 := ih fun x hx => h x (List.mem_cons_of_mem _ hx)
        rw [List.flatten_cons, List.length_append, List.length_cons, Nat.succ_mul]; omega
    have := this Q hQ
    omega
  have hQby : By Q.flatten := fun v hv => by
    obtain ⟨q, hq, hvq⟩ := List.mem_flatten.1 hv
    exact (hQ q hq).by' v hvq
  have z5 := c5.size
  have o3 : Own .u8 5 (fun b => b < w4.heap.size) w5 a3 n3 d3 (mkW ch bits F xs) := ((ho3.mono (T := fun b => b < w4.heap.size) fun b _ h => by omega).chg c4 fun _ _ h => h).chg c5 fun b hb h => by omega
  refine bnd_hi (by omega) (by omega) (bnd_lo (by omega) (by omega) ?_)
  rw [show Int.toNat 36 = 36 from rfl]
  have o3d : Own .u8 5 (fun b => b < w4.heap.size) w5.drew a3 n3 d3 (mkW ch bits F xs) := o3.chg (Chg.drew no w5) fun _ _ h => h
  have ho5d := ho5.chg (Chg.drew no w5) fun _ _ h => h
  have hp1 := o3d.sl.part (l := 0) (h := 36) (c := d3) (by omega) (by rw [← hn3]; omega) (by omega)
  refine cpS hp1 (SlI.part_len (by rw [← hn3]; omega)) (by omega) (by omega) fun a6 d6 w6 ho6 c6 => ?_
  have zd : w5.drew.heap.size = w5.heap.size := rfl
  have z6 := c6.size
  have o6 : Own .u8 5 (fun b => w5.heap.size ≤ b) w6 a6 (36 - 0) d6 (((mkW ch bits F xs).take 36).drop 0) := ho6.mono fun b hb _ => by omega
  have om6 : Own .u8 5 (fun b => w4.heap.size ≤ b ∧ b < w5.heap.size) w6 a m c' Q.flatten := ((ho5.mono (T := fun b => w4.heap.size ≤ b ∧ b < w5.heap.size) fun b hb h => ⟨hb, h⟩).chg (Chg.drew no w5) fun _ _ h => h).chg c6 fun _ _ h => h
  refine apS o6 om6.sl hm (by omega) (by omega) (by omega) fun a7 d7 w7 ho7 c7 => ?_
  have z7 := c7.size
  have o37 : Own .u8 5 (fun b => b < w4.heap.size) w7 a3 n3 d3 (mkW ch bits F xs) := (o3d.chg c6 fun _ _ h => h).chg c7 fun b hb h => by omega
  have hp2 := o37.sl.part (l := 36) (h := n3) (c := d3) (by omega) (by rw [← hn3]; exact Nat.le_refl _) (by omega)
  refine apS ho7 hp2 (SlI.part_len (by rw [← hn3]; exact Nat.le_refl _)) (by omega) (by omega) (by omega) fun a8 d8 w8 ho8 c8 => ?_
  rw [List.take_of_length_le (Nat.le_of_eq hn3.symm)] at ho8
  generalize hL : (((mkW ch bits F xs).take 36).drop 0 ++ Q.flatten) ++ (mkW ch bits F xs).drop 36 = L at hP hD hLl ho8
  have hLby : By L := by
    rw [← hL]
    exact By.app (By.app (fun v hv => mkW_by hby v (List.mem_of_mem_take (List.mem_of_mem_drop hv))) hQby) (fun v hv => mkW_by hby v (List.mem_of_mem_drop hv))
  have h8l := ho8.length
  have h8c := ho8.cap
  refine wav_Parse_ok ho8.sl ho8.length ho8.cap hLby (by omega) fun w9 c9 => ?_
  rw [hP]
  refine newC_i (k := .i64) (xs := [0, 0, 0, 0]) rfl fun w10 hb10 c10 s10 => stCs4 hb10 rfl fun w11 hb11 c11 => ifn_of (by omega) ?_
  dsimp only
  have hdq : n / F ≤ n := Nat.div_le_self _ _
  have hdm : n / F * F ≤ n := Nat.div_mul_le_self _ _
  rw [show Int.tdiv ((n : Nat) : Int) (F : Int) = ((n / F : Nat) : Int) from rfl, w64n (by omega), show ((n / F : Nat) : Int) * (F : Int) = ((n / F * F : Nat) : Int) by rw [Int.natCast_mul], w64n (by omega)]
  have z8 := c8.size
  have z9 := c9.size
  have e4 : Chg (fun b => w4.heap.size ≤ b) w4 w11 := ((((((c5.trans (Chg.drew _ w5)).trans (c6.mono fun _ h => h.elim)).trans (c7.mono fun j h => by omega)).trans (c8.mono fun j h => by omega)).trans (c9.mono fun _ h => h.elim)).trans (c10.mono fun _ h => h.elim)).trans (c11.mono fun j h => by omega)
  have kk : Chg no W w11 := k4.then e4 fun k hk h => by omega
  have hb2z : BlI .i64 _ w11 W.heap.size _ := hb24.chg e4 (by omega)
  have hb2d : BlI .i64 _ w11.drew W.heap.size _ := hb2z
  rw [hxl] at hb11
  have hb11d : BlI .i64 26 w11.drew w9.heap.size [(ch : Int), (bits : Int), ((44 + m : Nat) : Int), ((44 + m + n / F * F : Nat) : Int)] := hb11
  refine bif_t rfl (ld4i hb11d (ldI_b (i := 0) hb2d.bl rfl (ldI_b (i := 1) hb2d.bl rfl ?_)))
  rw [show IntKind.wrap .i64 (44 + ((m : Nat) : Int)) = ((44 + m : Nat) : Int) by rw [w64 (by omega) (by omega)]; omega, show IntKind.wrap .i64 (((44 + m : Nat) : Int) + ((n / F * F : Nat) : Int)) = ((44 + m + n / F * F : Nat) : Int) by rw [w64 (by omega) (by omega)]; omega]
  refine eqI4 (bif_t rfl (ldI_b (i := 2) hb11d.bl rfl (ldI_b (i := 3) hb11d.bl rfl (bnd_lohi (by omega) (by omega) (by omega) (bnd_hi (by omega) (by omega) ?_)))))
  rw [Int.toNat_natCast, Int.toNat_natCast, Int.toNat_natCast]
  have o8 : Own .u8 5 (fun b => b < w9.heap.size) w11 a8 (36 - 0 + m + (n3 - 36)) d8 L := (((ho8.mono (T := fun b => b < w9.heap.size) fun b _ h => by omega).chg c9 fun _ _ h => h).chg c10 fun _ _ h => h).chg c11 fun b hb h => by omega
  have hq1 := (o8.chg (Chg.drew no w11) fun _ _ h => h).sl.part (l := 44 + m) (h := 44 + m + n / F * F) (c := d8) (by omega) (by omega) (by omega)
  have hx11 : SlI .u8 w11.drew x xs := hx.chg (kk.trans (Chg.drew no w11)) fun _ _ _ h => h
  have hq2 := hx11.part (l := 0) (h := n / F * F) (c := c) (by omega) (by omega) (by omega)
  have eq12 : (L.take (44 + m + n / F * F)).drop (44 + m) = (xs.take (n / F * F)).drop 0 := by
    rw [List.drop_take, hD, List.drop_zero]; congr 1; omega
  rw [eq12] at hq1
  refine help_Bytes_eq hq1 hq2 (by rw [SlI.part_len (by omega)]; omega) (SlI.part_len (by omega)) ?_
  refine ⟨hb11d.bl.cell (i := 3) rfl, hb11d.bl.cell (i := 2) rfl, hb2d.bl.cell (i := 1) rfl, hb2d.bl.cell (i := 0) rfl, hb11d.rd, hk _ ?_⟩
  exact below_no (Below.refl _ _) (kk.trans (Chg.drew no w11)) (Nat.le_refl _)
end Go.Proofs.Ytinmhmphidgdeaa.G
