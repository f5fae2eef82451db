/- The laws of the stream. -/
import Derived.Test.YtdbnobeopgfhgaaMl
import Derived.Test.YtdbnobeopgfhgaaGenLawStreamPacks
import Derived.Test.YtdbnobeopgfhgaaGenLawStreamUnpacks
import Derived.Test.YtdbnobeopgfhgaaGenLawStreamBack
import Derived.Test.YtdbnobeopgfhgaaGenLawStreamLimits
set_option linter.unusedVariables false
set_option linter.unusedSimpArgs false
namespace Go.Proofs.Ytdbnobeopgfhgaa.G
open Go Go.Proofs.Ytdbnobeopgfhgaa.Vm Go.RowKit
theorem law09_awake_ok {w : World} {K : Bool → World → Prop} (hk : ∀ w', Chg no w w' → K true w') : law09_awake.f w K := by
  unfold law09_awake.f
  refine newC_b fun w1 hb1 hc1 hs1 => mkStr_of hb1 fun w2 y hy hc2 => ?_
  have hx : SlI .u8 w2 (some ⟨w.heap.size, 0, none⟩) (ints [97]) := fun i hi => by
    have : i = 0 := by rw [ints_length] at hi; simp at hi; exact hi
    subst this
    exact ⟨_, rfl, by rw [add_mk]; exact cell_any hy rfl⟩
  refine stream_Pack_ok hx rfl (by decide) (by omega) (fun h => (h ⟨by omega, by omega⟩).elim) fun _ _ a c' w3 ho hc3 => bif_t rfl ?_
  dsimp only
  have := (packN_len (0 : Int).toNat [97]).1
  rw [dec_t (by omega)]
  exact hk w3 ((hc1.then hc2 fun k hk h => by omega).trans hc3)
theorem law09_StreamPacks_said {x : Option Addr} {n c : Nat} {a : Int} {W : World} {K : Bool → World → Prop} (f : Fits W (.slc (.int .u8) 1 1) [.slice x n c]) (wa : (Lit.int .i64 a).wf = true)
    (hk : ∀ w', Below W.heap.size W w' → K true w') : law09_StreamPacks.f x n c a W K := by
  obtain ⟨hnc, hc1, xs, hxl, hx, hwf⟩ := f.ints
  obtain ⟨B, rfl, hby⟩ := (By.of hwf).nats
  have hBn : B.length = n := by rw [← ints_length]; exact hxl
  unfold law09_StreamPacks.f
  refine cond_of (fun _ => law09_awake_ok fun w hc => hk w (below_no (Below.refl _ _) hc (Nat.le_refl _))) (fun h => ?_)
  have hn : n ≤ 1500 := by have := of_decide_eq_false h; omega
  refine help_Own_byte_ok hx hxl (by omega) fun w1 hb1 hc1 => ?_
  have fin : ∀ (p q : Option Addr) (s t : Nat) (e : Int) (Y : List Nat) (w3 : World), Chg no w1 w3 → SlI .u8 w3 p (ints Y) → SlI .u8 w3 q (ints Y) → (law09_awake.f w3 fun r28_15 w =>
    bif r28_15 then
      help_Bytes.f p Y.length s q Y.length t w fun r32_16 w =>
      bif r32_16 then
        bif (e == e) then
          help_Kept_byte.f (some ⟨W.heap.size, 0, none⟩) n (n + 3) x n c 71 w fun r42_17 w =>
          K r42_17 w
        else
          K false w
      else
        K false w
    else
      K false w) := fun p q s t e Y w3 j3 hp hq => law09_awake_ok fun w4 hc4 => bif_t rfl (help_Bytes_eq (hp.chg hc4 fun _ _ _ h => h) (hq.chg hc4 fun _ _ _ h => h) (by rw [ints_length]) (by rw [ints_length]) (bif_t rfl (bif_t (by simp) (help_Kept_byte_ok (hb1.chg (j3.trans hc4) fun h => h) (hx.chg (hc1.trans (j3.trans hc4)) fun _ _ _ h => h) hxl (by omega) fun w5 hc5 => hk w5 (below_no (Below.refl _ _) ((hc1.trans (j3.trans hc4)).trans hc5) (Nat.le_refl _))))))
  have hx1 := hx.chg hc1 fun _ _ _ h => h
  refine stream_Pack_ok (BlI.pre_byte hb1) hBn hby (by omega) (fun hl => ref09_Pack_ok hx1 hBn hby (by omega) (fun _ => ?_) fun g0 g2 => (hl ⟨g0, g2⟩).elim) fun g0 g2 p s w2 hp hc2 => ref09_Pack_ok (hx1.chg hc2 fun _ _ _ h => h) hBn hby (by omega) (fun hl => (hl ⟨g0, g2⟩).elim) fun _ _ q t w3 hq hc3 => ?_
  · exact fin none none 0 0 1 [] w1 (Chg.refl _ _) (SlI.nil _ _ _) (SlI.nil _ _ _)
  · exact fin p q s t 0 _ w3 (hc2.trans hc3) (hp.chg hc3 fun _ _ _ h => h) hq
theorem law09_StreamUnpacks_said {x : Option Addr} {n c : Nat} {a b : Int} {W : World} {K : Bool → World → Prop} (f : Fits W (.slc (.int .u8) 1 1) [.slice x n c]) (wa : (Lit.int .i64 a).wf = true) (wb : (Lit.int .i64 b).wf = true)
    (hk : ∀ w', Below W.heap.size W w' → K true w') : law09_StreamUnpacks.f x n c a b W K := by
  obtain ⟨hnc, hc1, xs, hxl, hx, hwf⟩ := f.ints
  obtain ⟨X, rfl, hby⟩ := (By.of hwf).nats
  have hBn : X.length = n := by rw [← ints_length]; exact hxl
  have aw : ∀ w, Chg no W w → K true w := fun w hc => hk w (below_no (Below.refl _ _) hc (Nat.le_refl _))
  unfold law09_StreamUnpacks.f
  dsimp only
  suffices hm : n ≤ 600 → (a ≤ 3000 ∨ 1048576 < a) → (help_Own_byte.f x n c 71 W fun r25_9 r25_9n r25_9c w =>
    stream_Unpack.f r25_9 r25_9n r25_9c a b w fun r30_11 r30_11n r30_11c r30_12 w =>
    ref09_Unpack.f x n c a b w fun r37_14 r37_14n r37_14c r37_15 w =>
    law09_awake.f  w fun r40_17 w =>
    bif r40_17 then
      help_Bytes.f r30_11 r30_11n r30_11c r37_14 r37_14n r37_14c w fun r44_18 w =>
      bif r44_18 then
        bif (r30_12 == r37_15) then
          help_Kept_byte.f r25_9 r25_9n r25_9c x n c 71 w fun r54_19 w =>
          K r54_19 w
        else
          K false w
      else
        K false w
    else
      K false w) by
    refine cond_of (fun _ => law09_awake_ok aw) fun h1 => ?_
    have hn : n ≤ 600 := by have := of_decide_eq_false h1; omega
    refine cond_of (fun h2 => cond_of (fun _ => law09_awake_ok aw) fun h3 => hm hn ?_) fun h2 => hm hn ?_
    · have := of_decide_eq_false h3; omega
    · have := of_decide_eq_false h2; omega
  intro hn ha
  refine help_Own_byte_ok hx hxl (by omega) fun w1 hb1 hc1 => ?_
  have fin : ∀ (p q : Option Addr) (l s t : Nat) (e : Int) (Y : List Nat) (w3 : World), Y.length = l → Chg no w1 w3 → SlI .u8 w3 p (ints Y) → SlI .u8 w3 q (ints Y) → (law09_awake.f w3 fun r28_15 w =>
    bif r28_15 then
      help_Bytes.f p l s q l t w fun r32_16 w =>
      bif r32_16 then
        bif (e == e) then
          help_Kept_byte.f (some ⟨W.heap.size, 0, none⟩) n (n + 3) x n c 71 w fun r42_17 w =>
          K r42_17 w
        else
          K false w
      else
        K false w
    else
      K false w) := fun p q l s t e Y w3 hl j3 hp hq => law09_awake_ok fun w4 hc4 => bif_t rfl (help_Bytes_eq (hp.chg hc4 fun _ _ _ h => h) (hq.chg hc4 fun _ _ _ h => h) (by rw [ints_length]; exact hl) (by rw [ints_length]; exact hl) (bif_t rfl (bif_t (by simp) (help_Kept_byte_ok (hb1.chg (j3.trans hc4) fun h => h) (hx.chg (hc1.trans (j3.trans hc4)) fun _ _ _ h => h) hxl (by omega) fun w5 hc5 => hk w5 (below_no (Below.refl _ _) ((hc1.trans (j3.trans hc4)).trans hc5) (Nat.le_refl _))))))
  have hx1 := hx.chg hc1 fun _ _ _ h => h
  refine stream_Unpack_ok (BlI.pre_byte hb1) hBn hby (by omega) ha (fun h w2 hc2 => ?_) (fun g0 g2 g5 w2 hc2 => ?_) (fun g0 g2 gn gm ge w2 hc2 => ?_) (fun g0 g2 gn gm ge p s w2 hp hc2 => ?_)
  · refine ref09_Unpack_ok (hx1.chg hc2 fun _ _ _ h => h) hBn hby (by omega) ha (fun _ w3 hc3 => ?_) (fun _ _ _ => ?_) (fun _ _ _ _ => ?_) (fun _ _ _ _ => ?_)
    · exact fin none none 0 0 0 1 [] w3 rfl (hc2.trans hc3) (SlI.nil _ _ _) (SlI.nil _ _ _)
    all_goals omega
  · refine ref09_Unpack_ok (hx1.chg hc2 fun _ _ _ h => h) hBn hby (by omega) ha (fun _ => ?_) (fun _ _ _ w3 hc3 => ?_) (fun _ _ _ _ => ?_) (fun _ _ _ _ => ?_)
    rotate_left
    · exact fin none none 0 0 0 5 [] w3 rfl (hc2.trans hc3) (SlI.nil _ _ _) (SlI.nil _ _ _)
    all_goals omega
  · refine ref09_Unpack_ok (hx1.chg hc2 fun _ _ _ h => h) hBn hby (by omega) ha (fun _ => ?_) (fun _ _ _ => ?_) (fun _ _ _ _ _ w3 hc3 => ?_) (fun _ _ _ _ he => (ge he).elim)
    · omega
    · omega
    · exact fin none none 0 0 0 4 [] w3 rfl (hc2.trans hc3) (SlI.nil _ _ _) (SlI.nil _ _ _)
  · refine ref09_Unpack_ok (hx1.chg hc2 fun _ _ _ h => h) hBn hby (by omega) ha (fun _ => ?_) (fun _ _ _ => ?_) (fun _ _ _ _ he => (he ge).elim) (fun _ _ _ _ _ q t w3 hq hc3 => ?_)
    · omega
    · omega
    · exact fin p q _ s t 0 _ w3 (unB_len _ _ _ _) (hc2.trans hc3) (hp.chg hc3 fun _ _ _ h => h) hq
theorem mod_u64 (a : Int) (m : Nat) (h0 : 0 < m) (h1 : m ≤ 1000000) : ∃ q : Nat, q < m ∧ IntKind.wrap .i64 (Int.tmod (IntKind.wrap .u64 a) (m : Int)) = (q : Int) := by
  have h2 : 0 ≤ IntKind.wrap .u64 a := by rw [wu64_eq]; omega
  rw [Int.tmod_eq_emod_of_nonneg h2]
  have h3 := Int.emod_nonneg (IntKind.wrap .u64 a) (show (m : Int) ≠ 0 by omega)
  have h4 := Int.emod_lt_of_pos (IntKind.wrap .u64 a) (show 0 < (m : Int) by omega)
  refine ⟨(IntKind.wrap .u64 a % (m : Int)).toNat, by omega, ?_⟩
  rw [w64 (by omega) (by omega)]
  omega
theorem law09_StreamBack_said {x : Option Addr} {n c : Nat} {a b : Int} {W : World} {K : Bool → World → Prop} (f : Fits W (.slc (.int .u8) 1 1) [.slice x n c]) (wa : (Lit.int .i64 a).wf = true) (wb : (Lit.int .i64 b).wf = true)
    (hk : ∀ w', Below W.heap.size W w' → K true w') : law09_StreamBack.f x n c a b W K := by
  obtain ⟨hnc, hc1, xs, hxl, hx, hwf⟩ := f.ints
  obtain ⟨B, rfl, hby⟩ := (By.of hwf).nats
  have hBn : B.length = n := by rw [← ints_length]; exact hxl
  have aw : ∀ w, Chg no W w → K true w := fun w hc => hk w (below_no (Below.refl _ _) hc (Nat.le_refl _))
  unfold law09_StreamBack.f
  obtain ⟨lv, hlv, elv⟩ := mod_u64 a 3 (by omega) (by omega)
  obtain ⟨o, ho, eo⟩ := mod_u64 b 1500 (by omega) (by omega)
  rw [show ((3 : Nat) : Int) = 3 from rfl] at elv
  rw [show ((1500 : Nat) : Int) = 1500 from rfl] at eo
  rw [elv, eo]
  dsimp only
  refine cond_of (fun _ => law09_awake_ok aw) fun h1 => ?_
  have hn : n ≤ 1500 := by have := of_decide_eq_false h1; omega
  have hpl := (packN_len lv B).2
  refine stream_Pack_ok hx hBn hby (by omega) (fun h => by omega) fun _ _ p s w2 hp hc2 => ?_
  rw [Int.toNat_natCast] at hp ⊢
  have hpb := packN_by lv B
  have eback := unp_pack lv hby
  rw [hBn] at eback
  refine stream_Unpack_ok hp rfl hpb (by omega) (by omega) (fun h => by omega) (fun _ _ => by omega) (fun _ _ _ _ he => ?_) fun _ _ _ _ he q t w3 hq hc3 => ?_
  · rw [Int.toNat_natCast, Int.toNat_natCast, eback] at he
    exact (he rfl).elim
  rw [Int.toNat_natCast, Int.toNat_natCast, eback] at hq
  rw [Int.toNat_natCast]
  refine law09_awake_ok fun w4 hc4 => bif_f rfl (bif_f rfl (bif_f rfl ?_))
  have k4 := (hc2.trans hc3).trans hc4
  refine help_Bytes_eq (hx.chg k4 fun _ _ _ h => h) (hq.chg hc4 fun _ _ _ h => h) hxl hxl (bif_f rfl ?_)
  have hp4 := (hp.chg hc3 fun _ _ _ h => h).chg hc4 fun _ _ _ h => h
  refine stream_Unpack_ok hp4 rfl hpb (by omega) (by omega) (fun h => by omega) (fun _ _ => by omega) (fun _ _ _ _ he w5 hc5 => ?_) fun _ _ _ _ he r u w5 hr hc5 => ?_
  · exact cond_of (fun _ => aw w5 (k4.trans hc5)) fun _ => bif_t rfl (bif_t rfl (aw w5 (k4.trans hc5)))
  · rw [Int.toNat_natCast, Int.toNat_natCast] at hr he
    rw [Int.toNat_natCast]
    refine cond_of (fun _ => aw w5 (k4.trans hc5)) fun _ => bif_f rfl (bif_t rfl (bif_t (by simp) ?_))
    unfold law09_packs.f
    refine ref09_Pack_ok hr (unB_len _ _ _ _) (unB_by _ _ _ _) (by omega) (fun h => by omega) fun _ _ v z w6 hv hc6 => ?_
    rw [Int.toNat_natCast] at hv ⊢
    rw [show packN lv (unpB (packN lv B) o lv) = packN lv B from he] at hv ⊢
    exact help_Bytes_eq ((hp4.chg hc5 fun _ _ _ h => h).chg hc6 fun _ _ _ h => h) hv (by rw [ints_length]) (by rw [ints_length]) (aw w6 ((k4.trans hc5).trans hc6))
def limE (b r18_7 r25_11 : Int) (j9_14 : Bool) (w : World) (K : Bool → World → Prop) : Prop :=
      ((let J_35 := fun  (w : World) =>
        ((let J_31 := fun (j50_24 : Bool) (w : World) =>
          ((bif j50_24 then
            let v4_26 := (r25_11 == 1)
            K v4_26 w
          else
            let v58_28 := (decide (b > 1048576))
            bif v58_28 then
              let v4_30 := (r25_11 == 5)
              K v4_30 w
            else
              bif (r25_11 == 0) then
                bif (b == 0) then
                  K true w
                else
                  bif (r25_11 != 1) then
                    let v4_33 := (r25_11 != 5)
                    K v4_33 w
                  else
                    K false w
              else
                bif (r25_11 != 1) then
                  let v4_34 := (r25_11 != 5)
                  K v4_34 w
                else
                  K false w) : Prop)
        bif j9_14 then
          J_31 true w
        else
          let v50_23 := (decide (b < 0))
          J_31 v50_23 w) : Prop)
      law09_awake.f  w fun r34_17 w =>
      bif (!r34_17) then
        K false w
      else
        bif (!((r18_7 == 1) == j9_14)) then
          K false w
        else
          bif (!j9_14) then
            bif (r18_7 != 0) then
              K false w
            else
              J_35 w
          else
            J_35 w) : Prop)
def limC (a b : Int) (w : World) (K : Bool → World → Prop) : Prop :=
  stream_Pack.f none 0 0 a w fun _ _ _ r18 w =>
  newC 5 [(Value.int .u8 0), (Value.int .u8 0), (Value.int .u8 0), (Value.int .u8 0)] w fun a22_9 w =>
  stream_Unpack.f (some a22_9) 4 4 b a w fun _ _ _ r25 w =>
  bif (decide (a < 0)) then limE b r18 r25 true w K else limE b r18 r25 (decide (a > 2)) w K
theorem limE_bad {b : Int} {w : World} {K : Bool → World → Prop} (hk : ∀ w', Chg no w w' → K true w') : limE b 1 1 true w K := by
  unfold limE
  exact law09_awake_ok fun w5 hc5 => bif_f rfl (bif_f rfl (bif_f rfl (bif_t rfl (hk w5 hc5))))
theorem limE_good {b r : Int} {w : World} {K : Bool → World → Prop} (hr : b < 0 ∧ r = 1 ∨ 1048576 < b ∧ r = 5 ∨ 0 ≤ b ∧ b ≤ 300 ∧ (r = 0 ∨ r = 4)) (hk : ∀ w', Chg no w w' → K true w') : limE b 0 r false w K := by
  unfold limE
  refine law09_awake_ok fun w5 hc5 => bif_f rfl (bif_f rfl (bif_t rfl (bif_f rfl (bif_f rfl ?_))))
  have k := hk w5 hc5
  rcases hr with ⟨h, rfl⟩ | ⟨h, rfl⟩ | ⟨h, h2, rfl | rfl⟩
  · exact bif_t (dec_t h) k
  · exact bif_f (dec_f (by omega)) (bif_t (dec_t h) k)
  · exact bif_f (dec_f (by omega)) (bif_f (dec_f (by omega)) (bif_t rfl (cond_of (fun _ => k) fun _ => bif_t rfl k)))
  · exact bif_f (dec_f (by omega)) (bif_f (dec_f (by omega)) (bif_f rfl (bif_t rfl k)))
theorem limC_ok {a b : Int} {W : World} {K : Bool → World → Prop} (hb : b ≤ 300 ∨ 1048576 < b) (aw : ∀ w, Chg no W w → K true w) : limC a b W K := by
  unfold limC
  have hX : ∀ x ∈ [0, 0, 0, 0], x < 256 := by decide
  have e0 : [(Value.int .u8 0), (Value.int .u8 0), (Value.int .u8 0), (Value.int .u8 0)] = (ints [0, 0, 0, 0]).map (Value.int .u8) := rfl
  rw [e0]
  by_cases hlv : 0 ≤ a ∧ a ≤ 2
  · refine stream_Pack_ok (B := []) (SlI.nil _ _ _) rfl (fun x hx => by cases hx) (by omega) (fun h => (h hlv).elim) fun _ _ p s w2 hp hc2 => newC_sl (k := .u8) (xs := ints [0, 0, 0, 0]) rfl fun p2 w3 hs3 hc3 hz3 hpb => ?_
    have k3 := hc2.trans hc3
    have e1 : decide (a < 0) = false := dec_f (by omega)
    have e2 : decide (a > 2) = false := dec_f (by omega)
    rw [e1, e2]
    refine stream_Unpack_ok (l := 4) (X := [0, 0, 0, 0]) hs3 rfl hX (by omega) (by omega) (fun h w4 hc4 => ?_) (fun _ _ h5 w4 hc4 => ?_) (fun _ _ hn0 hn3 _ w4 hc4 => ?_) (fun _ _ hn0 hn3 _ q t w4 hq hc4 => ?_)
    · exact limE_good (by omega) fun w5 hc5 => aw w5 ((k3.trans hc4).trans hc5)
    · exact limE_good (by omega) fun w5 hc5 => aw w5 ((k3.trans hc4).trans hc5)
    · exact limE_good (by omega) fun w5 hc5 => aw w5 ((k3.trans hc4).trans hc5)
    · exact limE_good (by omega) fun w5 hc5 => aw w5 ((k3.trans hc4).trans hc5)
  · refine stream_Pack_ok (B := []) (SlI.nil _ _ _) rfl (fun x hx => by cases hx) (by omega) (fun _ => ?_) (fun g0 g2 => (hlv ⟨g0, g2⟩).elim)
    refine newC_sl (k := .u8) (xs := ints [0, 0, 0, 0]) rfl fun p2 w3 hs3 hc3 hz3 hpb => ?_
    refine stream_Unpack_ok (l := 4) (X := [0, 0, 0, 0]) hs3 rfl hX (by omega) (by omega) (fun h w4 hc4 => ?_) (fun g0 g2 => (hlv ⟨g0, g2⟩).elim) (fun g0 g2 => (hlv ⟨g0, g2⟩).elim) (fun g0 g2 => (hlv ⟨g0, g2⟩).elim)
    have fin := limE_bad (b := b) (w := w4) (K := K) fun w5 hc5 => aw w5 ((hc3.trans hc4).trans hc5)
    refine cond_of (fun _ => fin) fun hh => ?_
    have := of_decide_eq_false hh
    rw [dec_t (show a > 2 by omega)]
    exact fin
theorem law09_StreamLimits_said {a b : Int} {W : World} {K : Bool → World → Prop} (wa : (Lit.int .i64 a).wf = true) (wb : (Lit.int .i64 b).wf = true)
    (hk : ∀ w', Below W.heap.size W w' → K true w') : law09_StreamLimits.f a b W K := by
  have aw : ∀ w, Chg no W w → K true w := fun w hc => hk w (below_no (Below.refl _ _) hc (Nat.le_refl _))
  show (bif (decide (b > 300)) then (bif (decide (b ≤ 1048576)) then limC a 300 W K else limC a b W K) else limC a b W K)
  refine cond_of (fun h1 => cond_of (fun h2 => limC_ok (by omega) aw) fun h2 => limC_ok ?_ aw) fun h1 => limC_ok ?_ aw
  · have := of_decide_eq_false h2; omega
  · have := of_decide_eq_false h1; omega
end Go.Proofs.Ytdbnobeopgfhgaa.G
