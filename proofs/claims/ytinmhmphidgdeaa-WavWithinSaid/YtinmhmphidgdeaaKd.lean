/- Where a file's samples are: the parsers. -/
import Derived.Test.YtinmhmphidgdeaaKc
set_option linter.unusedVariables false
set_option linter.unusedSimpArgs false
namespace Go.Proofs.Ytinmhmphidgdeaa.G
open Go Go.Proofs.Ytinmhmphidgdeaa.Vm Go.RowKit
def nm4 (xs : List Int) (at' : Nat) : List UInt8 := ((xs.drop at').take 4).map fun n => UInt8.ofNat n.toNat
def FMT : List UInt8 := [102, 109, 116, 32]
def DATA : List UInt8 := [100, 97, 116, 97]
theorem sEq (l : List UInt8) (c : Array UInt8) : ((⟨l.toArray⟩ : ByteArray).toList == (ByteArray.mk c).toList) = (l == c.toList) := by rw [ByteArray.toList_eq, ByteArray.toList_eq]
/-- How many bytes a frame has; 0: none. -/
def fr (ch bits : Int) : Nat := if 1 ≤ ch ∧ ch ≤ 8 ∧ (bits = 8 ∨ bits = 16) then (if bits = 8 then ch.toNat else 2 * ch.toNat) else 0
abbrev Rs : Type := Int × Int × Int × Int × Bool
def Z : Rs := (0, 0, 0, 0, false)
def fin (len fo size fm ch bits : Nat) : Rs :=
  if fm ≠ 1 ∨ fr ch bits = 0 ∨ min size (len - fo) < fr ch bits then Z else ((ch : Int), (bits : Int), (fo : Int), ((fo + min size (len - fo) / fr ch bits * fr ch bits : Nat) : Int), true)
def pL (xs : List Int) : Nat → Nat → Bool → Nat → Nat → Nat → Rs
  | 0, _, _, _, _, _ => Z
  | N + 1, at', has, fm, ch, bits =>
    if at' + 8 ≤ xs.length then
      if nm4 xs at' = FMT ∧ has = false ∧ 16 ≤ leA xs (at' + 4) 4 ∧ at' + 8 + 16 ≤ xs.length then
        pL xs N (at' + 8 + leA xs (at' + 4) 4 + leA xs (at' + 4) 4 % 2) true (leA xs (at' + 8) 2) (leA xs (at' + 8 + 2) 2) (leA xs (at' + 8 + 14) 2)
      else if nm4 xs at' = DATA ∧ has = true then fin xs.length (at' + 8) (leA xs (at' + 4) 4) fm ch bits
      else pL xs N (at' + 8 + leA xs (at' + 4) 4 + leA xs (at' + 4) 4 % 2) has fm ch bits
    else Z
theorem pL_end {xs : List Int} {N at' fm ch bits : Nat} {has : Bool} (h : xs.length < at' + 8) : pL xs N at' has fm ch bits = Z := by
  cases N with
  | zero => rfl
  | succ N => rw [pL, if_neg (by omega)]
theorem leA_part {xs : List Int} {f m i k : Nat} (h : i + k ≤ m) : leA ((xs.drop f).take m) i k = leA xs (f + i) k := by
  unfold leA
  rw [List.drop_take, List.take_take, List.drop_drop, Nat.min_eq_left (by omega)]
theorem leA_2 {xs : List Int} (h : By xs) (l : Nat) : leA xs l 2 < 65536 := leA_lt h l 2
theorem leA_4 {xs : List Int} (h : By xs) (l : Nat) : leA xs l 4 < 4294967296 := leA_lt h l 4
theorem wav_frame_ok {ch bits z u : Int} {w : World} {K : Int → World → Prop} (hk : ∀ w', Chg no w w' → K ((fr ch bits : Nat) : Int) w') : wav_frame.f ch bits z u w K := by
  unfold wav_frame.f
  refine newC_i (k := .i64) (xs := [ch, bits, z, u]) rfl fun w1 hb c1 s1 => ?_
  intro J
  have hJ : 1 ≤ ch → ch ≤ 8 → (bits = 8 ∨ bits = 16) → J w1 := fun h1 h2 h3 => by
    show ldI _ _ _ _
    refine ldI_b (i := 0) hb.bl rfl (ldI_b (i := 1) hb.bl rfl ?_)
    dsimp only
    have e : IntKind.wrap .i64 (Int.tdiv (IntKind.wrap .i64 (ch * bits)) 8) = ((fr ch bits : Nat) : Int) := by
      unfold fr
      rw [if_pos ⟨h1, h2, h3⟩]
      rcases h3 with rfl | rfl
      · rw [if_pos rfl, w64 (a := ch * 8) (by omega) (by omega), Int.tdiv_eq_ediv_of_nonneg (by omega), w64 (by omega) (by omega)]; omega
      · rw [if_neg (by omega), w64 (a := ch * 16) (by omega) (by omega), Int.tdiv_eq_ediv_of_nonneg (by omega), w64 (by omega) (by omega)]; omega
    rw [e]; exact hk w1 c1
  clear_value J
  have h0 : ¬ (1 ≤ ch ∧ ch ≤ 8 ∧ (bits = 8 ∨ bits = 16)) → K 0 w1 := fun h => by
    have := hk w1 c1
    rw [fr, if_neg h] at this; exact this
  refine ldI_b (i := 0) hb.bl rfl (cond_of (fun h => h0 fun g => by have := of_decide_eq_true h; omega) fun h1 => ldI_b (i := 0) hb.bl rfl (cond_of (fun h => h0 fun g => by have := of_decide_eq_true h; omega) fun h2 => ldI_b (i := 1) hb.bl rfl (cond_of (fun h => ?_) fun h3 => ?_)))
  · refine ldI_b (i := 1) hb.bl rfl (cond_of (fun h4 => h0 fun g => ?_) fun h4 => ?_)
    · have e1 : bits ≠ 8 := by simpa using h
      have e2 : bits ≠ 16 := by simpa using h4
      omega
    · have e2 : bits = 16 := by simpa using h4
      exact hJ (by have := of_decide_eq_false h1; omega) (by have := of_decide_eq_false h2; omega) (.inr e2)
  · have e2 : bits = 8 := by simpa using h3
    exact hJ (by have := of_decide_eq_false h1; omega) (by have := of_decide_eq_false h2; omega) (.inl e2)
theorem wav_next_ok {b4 br ba at' : Nat} {xs : List Int} {w : World} {K : ByteArray → Int → Int → Bool → World → Prop} (h4 : Bl 68 w b4 [.pointer (some ⟨br, 0, none⟩), .int .i64 (xs.length : Int)]) (hne : b4 ≠ br) (h : RD 103 w br ba xs at') (hb : By xs) (hl : at' ≤ xs.length) (hx : xs.length ≤ 1000000)
    (hk1 : xs.length < at' + 8 → ∀ w', Chg (fun j => j = br) w w' → K (ByteArray.mk #[]) 0 0 false w')
    (hk2 : at' + 8 ≤ xs.length → ∀ w', RD 103 w' br ba xs (at' + 8) → Chg (fun j => j = br) w w' → K ⟨(nm4 xs at').toArray⟩ ((at' + 8 : Nat) : Int) ((at' + 8 + leA xs (at' + 4) 4 : Nat) : Int) true w') : wav_chunks_next.f (some ⟨b4, 0, none⟩) w K := by
  unfold wav_chunks_next.f
  refine sm_some (ldP_b (i := 0) h4 rfl (num_Left_ok h hl hx (cond_of (fun hh => hk1 (by have := of_decide_eq_true hh; omega) _ (Chg.drew _ w)) fun hh => ?_)))
  have hlen : at' + 8 ≤ xs.length := by have := of_decide_eq_false hh; omega
  have h4d : Bl 68 w.drew b4 _ := h4
  have hd : RD 103 w.drew br ba xs at' := h
  refine sm_some (ldP_b (i := 0) h4d rfl (num_Raw_ok (k := 4) hd (by omega) (by omega) hx fun a1 d1 w1 ho1 hr1 c1 => strL_of ho1.sl (by rw [List.length_take, List.length_drop]; omega) ?_))
  have h41 := h4d.chg c1 hne
  refine sm_some (ldP_b (i := 0) h41 rfl (num_Little_ok (k := 4) hr1 hb (by omega) (by omega) (by omega) hx fun w2 hr2 c2 => ?_))
  have h42 := h41.chg c2 hne
  have h42d : Bl 68 w2.drew b4 _ := h42
  have hr2d : RD 103 w2.drew br ba xs (at' + 4 + 4) := hr2
  have hv := leA_4 hb (at' + 4)
  dsimp only
  refine sm_some (ldI_b (i := 1) h42d rfl (sm_some (ldP_b (i := 0) h42d rfl (num_Left_ok hr2d (by omega) hx ⟨h42d.cell (i := 1) rfl, ?_⟩))))
  rw [show IntKind.wrap .i64 (((xs.length : Nat) : Int) - ((xs.length - (at' + 4 + 4) : Nat) : Int)) = ((at' + 8 : Nat) : Int) by rw [w64 (by omega) (by omega)]; omega, w64n (a := leA xs (at' + 4) 4) (by omega), show IntKind.wrap .i64 (((at' + 8 : Nat) : Int) + ((leA xs (at' + 4) 4 : Nat) : Int)) = ((at' + 8 + leA xs (at' + 4) 4 : Nat) : Int) by rw [w64 (by omega) (by omega)]; omega]
  exact hk2 hlen _ hr2 (((((Chg.drew _ w).trans c1).trans c2).trans (Chg.drew _ w2)).trans (Chg.drew _ _))
theorem wav_skip_ok {b4 br ba at' size : Nat} {xs : List Int} {w : World} {K : Bool → World → Prop} {n : Int} (h4 : Bl 68 w b4 [.pointer (some ⟨br, 0, none⟩), .int .i64 n]) (hne : b4 ≠ br) (h : RD 103 w br ba xs at') (hl : at' ≤ xs.length) (hx : xs.length ≤ 1000000) (hs : size < 4294967296)
    (hk1 : xs.length < at' + size + size % 2 → ∀ w', Chg (fun j => j = br) w w' → K false w')
    (hk2 : at' + size + size % 2 ≤ xs.length → ∀ w', RD 103 w' br ba xs (at' + size + size % 2) → Chg (fun j => j = br) w w' → K true w') : wav_chunks_skip.f (some ⟨b4, 0, none⟩) (at' : Int) ((at' + size : Nat) : Int) w K := by
  unfold wav_chunks_skip.f
  have e1 : IntKind.wrap .i64 (((at' + size : Nat) : Int) - (at' : Int)) = (size : Int) := by rw [w64 (by omega) (by omega)]; omega
  have e2 : IntKind.wrap .i64 ((size : Int) + Int.tmod (size : Int) 2) = ((size + size % 2 : Nat) : Int) := by
    rw [show Int.tmod (size : Int) 2 = ((size % 2 : Nat) : Int) from rfl, w64 (by omega) (by omega)]; omega
  dsimp only
  rw [e1, e2]
  refine sm_some (ldP_b (i := 0) h4 rfl (num_Left_ok h hl hx (cond_of (fun hh => hk1 (by have := of_decide_eq_true hh; omega) _ (Chg.drew _ w)) fun hh => ?_)))
  have hlen : at' + size + size % 2 ≤ xs.length := by have := of_decide_eq_false hh; omega
  have h4d : Bl 68 w.drew b4 _ := h4
  have hd : RD 103 w.drew br ba xs at' := h
  refine sm_some (ldP_b (i := 0) h4d rfl ?_)
  rcases Nat.eq_zero_or_pos size with hz | hz
  · subst hz
    exact num_Raw0_ok hd (hk2 hlen _ hd (Chg.drew _ w))
  · refine num_Raw_ok (k := size + size % 2) hd (by omega) (by omega) hx fun a1 d1 w1 ho1 hr1 c1 => ?_
    rw [← Nat.add_assoc] at hr1
    exact hk2 hlen _ hr1 ((Chg.drew _ w).trans c1)
end Go.Proofs.Ytinmhmphidgdeaa.G
