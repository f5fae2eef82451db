/- What the helps of the laws come to: copies with a margin, comparing, bytes. -/
import Derived.Test.YtdbnobeopgfhgaaGen4
import Derived.Test.YtdbnobeopgfhgaaVmP
set_option linter.unusedVariables false
set_option linter.unusedSimpArgs false
namespace Go.Proofs.Ytdbnobeopgfhgaa.G
open Go Go.Proofs.Ytdbnobeopgfhgaa.Vm Go.RowKit
theorem help_Bytes_eq {a b : Option Addr} {n c m d : Nat} {xs : List Int} {w : World} {K : Bool → World → Prop} (ha : SlI .u8 w a xs) (hb : SlI .u8 w b xs) (hn : xs.length = n) (hm : xs.length = m) (hk : K true w) : help_Bytes.f a n c b m d w K := by
  unfold help_Bytes.f
  refine strL_of ha hn (strL_of hb hm ?_)
  simpa using hk
theorem help_Same_byte_l4 {a b : Option Addr} {n c m d : Nat} {xs : List Int} {K0 : World → Prop} {Kr : Bool → World → Prop} {w0 : World} (ha : SlI .u8 w0 a xs) (hb : SlI .u8 w0 b xs) (hn : xs.length = n) (hm : xs.length = m) (hl : n < 9223372036854775807)
    (hk : ∀ w, Chg no w0 w → K0 w) (N : Nat) : ∀ (i : Nat) (w : World), i ≤ n → n - i < N → Chg no w0 w → help_Same_byte.l4 N a n c b m d i w K0 Kr := by
  induction N with
  | zero => intro i w h1 h2; omega
  | succ N ih =>
    intro i w h1 h2 hc
    rw [help_Same_byte.l4]
    refine cond_of (fun h => ?_) (fun _ => hk w hc)
    have hlt : (i : Int) < n := by simpa using h
    have hcd := hc.trans (Chg.drew no w)
    refine rdS (w := w.drew) (ha.chg hcd fun _ _ _ h => h) i rfl hn (by omega) fun p hp => rdS (w := w.drew) (hb.chg hcd fun _ _ _ h => h) i rfl hm (by omega) fun q hq => ?_
    unfold help_Plain_byte_f1.f
    refine bif_f (by simp) ?_
    rw [inc (by omega)]
    exact ih (i + 1) _ (by omega) (by omega) hcd
theorem help_Same_byte_ok {a b : Option Addr} {n c m d : Nat} {xs : List Int} {w : World} {K : Bool → World → Prop} (ha : SlI .u8 w a xs) (hb : SlI .u8 w b xs) (hn : xs.length = n) (hm : xs.length = m) (hl : n < 9223372036854775807)
    (hk : ∀ w', Chg no w w' → K true w') : help_Same_byte.f a n c b m d w K := by
  unfold help_Same_byte.f
  refine bif_f (by simp; omega) ⟨n + 1, ?_⟩
  exact help_Same_byte_l4 ha hb hn hm hl hk (n + 1) 0 w (by omega) (by omega) (Chg.refl _ _)
theorem help_Plain_byte_ok {a b : Option Addr} {n c m d : Nat} {xs : List Int} {w : World} {K : Bool → World → Prop} (ha : SlI .u8 w a xs) (hb : SlI .u8 w b xs) (hn : xs.length = n) (hm : xs.length = m) (hl : n < 9223372036854775807)
    (hk : ∀ w', Chg no w w' → K true w') : help_Plain_byte.f a n c b m d w K := help_Same_byte_ok ha hb hn hm hl hk
theorem help_Own_byte_ok {a : Option Addr} {n c : Nat} {v : Int} {xs : List Int} {w : World} {K : Option Addr → Nat → Nat → World → Prop} (h : SlI .u8 w a xs) (hn : xs.length = n) (hs : (n + 3) * 1 ≤ 140737488355328)
    (hk : ∀ w', BlI .u8 5 w' w.heap.size (xs ++ [v, v, v]) → Chg no w w' → K (some ⟨w.heap.size, 0, none⟩) n (n + 3) w') : help_Own_byte.f a n c v w K := by
  unfold help_Own_byte.f
  have e3 : IntKind.wrap .i64 ((n : Int) + 3) = ((n + 3 : Nat) : Int) := by rw [w64 (by omega) (by omega)]; omega
  rw [e3]
  generalize hc : ((n + 3 : Nat) : Int) = c3
  refine mkL_b (by omega) (by omega) (by omega) (by omega) fun w1 hb1 hc1 hs1 => ?_
  subst hc
  simp only [Int.toNat_zero, Int.toNat_natCast] at hb1 ⊢
  refine apFit hb1 (by simp) (by omega) (h.chg hc1 fun _ _ _ h => h) hn fun w2 hb2 hc2 => ?_
  rw [Nat.zero_add] at hb2 ⊢
  rw [List.take_zero, List.nil_append, List.drop_replicate, show n + 3 - n = 3 by omega, show List.replicate 3 (0 : Int) = [0, 0, 0] from rfl] at hb2
  refine bnd_hi (by omega) (by omega) ?_
  rw [show Int.toNat ((n + 3 : Nat) : Int) = n + 3 by omega]
  have hadr : adrS (some ⟨w.heap.size, 0, none⟩) 0 (n + 3) 1 = some ⟨w.heap.size, 0, none⟩ := by unfold adrS; rw [if_neg (by omega)]; rfl
  rw [hadr]
  have hc02 : Chg no w w2 := hc1.then hc2 fun k hk h => by omega
  refine ⟨4, ?_⟩
  rw [help_Own_byte.l5]
  refine bif_t (dec_t (by omega)) (wrB hb2 n rfl (by simp [hn]) (by omega) fun _ w3 hb3 hc3 => ?_)
  rw [inc (by omega), help_Own_byte.l5]
  refine bif_t (dec_t (by omega)) (wrB hb3 (n + 1) rfl (by simp [hn]) (by omega) fun _ w4 hb4 hc4 => ?_)
  rw [inc (by omega), help_Own_byte.l5]
  refine bif_t (dec_t (by omega)) (wrB hb4 (n + 1 + 1) rfl (by simp [hn]) (by omega) fun _ w5 hb5 hc5 => ?_)
  rw [inc (by omega), help_Own_byte.l5]
  refine bif_f (dec_f (by omega)) (hk w5 ?_ ?_)
  · have e : (((xs ++ [0, 0, 0]).set n v).set (n + 1) v).set (n + 1 + 1) v = xs ++ [v, v, v] := by
      rw [List.set_append_right _ _ (by omega), List.set_append_right _ _ (by omega), List.set_append_right _ _ (by omega)]
      rw [show n - xs.length = 0 by omega, show n + 1 - xs.length = 1 by omega, show n + 1 + 1 - xs.length = 2 by omega]; rfl
    rw [e] at hb5; exact hb5
  · exact ((hc02.then hc3 fun k hk h => by omega).then hc4 fun k hk h => by omega).then hc5 fun k hk h => by omega
theorem help_Kept_byte_l5 {b : Nat} {n d : Nat} {v : Int} {xs : List Int} {K0 : World → Prop} {Kr : Bool → World → Prop} {w : World} (h : BlI .u8 5 w b (xs ++ [v, v, v])) (hn : xs.length = n) (hl : n < 9223372036854775800)
    (hk : K0 w) : help_Kept_byte.l5 4 v (some ⟨b, 0, none⟩) (n + 3) d n w K0 Kr := by
  rw [help_Kept_byte.l5]
  refine bif_t (dec_t (by omega)) (rdB h n rfl (by simp [hn]) (by omega) fun _ => bif_f (by simp [← hn]) ?_)
  rw [inc (by omega), help_Kept_byte.l5]
  refine bif_t (dec_t (by omega)) (rdB h (n + 1) rfl (by simp [hn]) (by omega) fun _ => bif_f (by simp [← hn]) ?_)
  rw [inc (by omega), help_Kept_byte.l5]
  refine bif_t (dec_t (by omega)) (rdB h (n + 1 + 1) rfl (by simp [hn]) (by omega) fun _ => bif_f (by rw [show ∀ hh, (xs ++ [v, v, v])[n + 1 + 1]'hh = v from fun hh => by rw [List.getElem_append_right (by omega)]; simp [show n + 1 + 1 - xs.length = 2 by omega]]; simp) ?_)
  rw [inc (by omega), help_Kept_byte.l5]
  exact bif_f (dec_f (by omega)) hk
theorem BlI.pre_byte {b : Nat} {xs ys : List Int} {w : World} (h : BlI .u8 5 w b (xs ++ ys)) : SlI .u8 w (some ⟨b, 0, none⟩) xs := by
  intro i hi
  obtain ⟨p, hp, hc⟩ := h.sl i (by simp; omega)
  exact ⟨p, hp, by rw [hc, List.getElem_append_left hi]⟩
theorem help_Kept_byte_ok {a : Option Addr} {b n c : Nat} {v : Int} {xs : List Int} {w : World} {K : Bool → World → Prop} (h : BlI .u8 5 w b (xs ++ [v, v, v])) (ha : SlI .u8 w a xs) (hn : xs.length = n) (hl : n < 9223372036854775800)
    (hk : ∀ w', Chg no w w' → K true w') : help_Kept_byte.f (some ⟨b, 0, none⟩) n (n + 3) a n c v w K := by
  unfold help_Kept_byte.f
  refine help_Plain_byte_ok (BlI.pre_byte h) ha hn hn (by omega) fun w1 hc1 => bif_f rfl ?_
  have e3 : IntKind.wrap .i64 ((n : Int) + 3) = ((n + 3 : Nat) : Int) := by rw [w64 (by omega) (by omega)]; omega
  rw [e3]
  refine bif_f (dec_f (by omega)) (bnd_hi (by omega) (by omega) ?_)
  have hadr : adrS (some ⟨b, 0, none⟩) 0 (n + 3) 1 = some ⟨b, 0, none⟩ := by unfold adrS; rw [if_neg (by omega)]; rfl
  rw [hadr, show Int.toNat ((n + 3 : Nat) : Int) = n + 3 by omega]
  exact ⟨4, help_Kept_byte_l5 (h.chg hc1 fun h => h) hn hl (hk w1 hc1)⟩
end Go.Proofs.Ytdbnobeopgfhgaa.G
