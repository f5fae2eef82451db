/- The range coder's encoder and its reference: what their functions come to. -/
import Derived.Test.YtdbnobeopgfhgaaGen1
import Derived.Test.YtdbnobeopgfhgaaGen2
import Derived.Test.YtdbnobeopgfhgaaGen3
import Derived.Test.YtdbnobeopgfhgaaGen4
import Derived.Test.YtdbnobeopgfhgaaPc
import Derived.Test.YtdbnobeopgfhgaaVmT
set_option linter.unusedVariables false
set_option linter.unusedSimpArgs false
namespace Go.Proofs.Ytdbnobeopgfhgaa.G
open Go Go.Proofs.Ytdbnobeopgfhgaa.Vm Go.RowKit
/-! ### Numbers -/
theorem tdiv_nat (a b : Nat) : Int.tdiv (a : Int) (b : Int) = ((a / b : Nat) : Int) := by
  rw [Int.tdiv_eq_ediv_of_nonneg (by omega)]; exact (Int.natCast_ediv a b).symm
theorem tmod_nat (a b : Nat) : Int.tmod (a : Int) (b : Int) = ((a % b : Nat) : Int) := by
  rw [Int.tmod_eq_emod_of_nonneg (by omega)]; exact (Int.natCast_emod a b).symm
theorem mid_eq {lo hi c : Nat} (h : lo ≤ hi) (hh : hi < 4294967296) (hc : c ≤ 4095) :
    IntKind.wrap .u32 ((IntKind.wrap .u32 ((lo : Int) + (IntKind.wrap .u32 ((IntKind.wrap .u32 (Int.tdiv (IntKind.wrap .u32 ((hi : Int) - (lo : Int))) 4096)) * (IntKind.wrap .u32 (c : Int)))))) + (IntKind.wrap .u32 (Int.tdiv (IntKind.wrap .u32 ((Int.tmod (IntKind.wrap .u32 ((hi : Int) - (lo : Int))) 4096) * (IntKind.wrap .u32 (c : Int)))) 4096))) = ((midN lo hi c : Nat) : Int) := by
  have hm := midN_le h hc
  unfold midN at hm ⊢
  have e : (hi : Int) - (lo : Int) = ((hi - lo : Nat) : Int) := by omega
  rw [e, wu32n (a := hi - lo) (by omega), wu32n (a := c) (by omega), show (4096 : Int) = ((4096 : Nat) : Int) from rfl, tdiv_nat, tmod_nat, wu32n (a := (hi - lo) / 4096) (by omega), ← Int.natCast_mul, ← Int.natCast_mul]
  have h1 : (hi - lo) / 4096 * c ≤ (hi - lo) / 4096 * 4095 := Nat.mul_le_mul_left _ hc
  have h2 : (hi - lo) % 4096 * c ≤ (hi - lo) % 4096 * 4095 := Nat.mul_le_mul_left _ hc
  generalize (hi - lo) / 4096 * c = p at *
  generalize (hi - lo) % 4096 * c = q at *
  rw [wu32n (a := p) (by omega), wu32n (a := q) (by omega), tdiv_nat, ← Int.natCast_add, wu32n (by omega), wu32n (by omega), ← Int.natCast_add, wu32n (by omega), Nat.add_assoc]
theorem mid_eq64 {lo hi c : Nat} (h : lo ≤ hi) (hh : hi < 4294967296) (hc : c ≤ 4095) :
    IntKind.wrap .u32 ((lo : Int) + (IntKind.wrap .u32 (IntKind.wrap .u64 ((IntKind.wrap .u64 ((IntKind.wrap .u64 (Int.tdiv (IntKind.wrap .u64 (IntKind.wrap .u32 ((hi : Int) - (lo : Int)))) 4096)) * (IntKind.wrap .u64 (c : Int)))) + (IntKind.wrap .u64 (Int.tdiv (IntKind.wrap .u64 ((Int.tmod (IntKind.wrap .u64 (IntKind.wrap .u32 ((hi : Int) - (lo : Int)))) 4096) * (IntKind.wrap .u64 (c : Int)))) 4096)))))) = ((midN lo hi c : Nat) : Int) := by
  have hm := midN_le h hc
  unfold midN at hm ⊢
  have e : (hi : Int) - (lo : Int) = ((hi - lo : Nat) : Int) := by omega
  rw [e, wu32n (a := hi - lo) (by omega), wu64n (a := hi - lo) (by omega), wu64n (a := c) (by omega), show (4096 : Int) = ((4096 : Nat) : Int) from rfl, tdiv_nat, tmod_nat, wu64n (a := (hi - lo) / 4096) (by omega), ← Int.natCast_mul, ← Int.natCast_mul]
  have h1 : (hi - lo) / 4096 * c ≤ (hi - lo) / 4096 * 4095 := Nat.mul_le_mul_left _ hc
  have h2 : (hi - lo) % 4096 * c ≤ (hi - lo) % 4096 * 4095 := Nat.mul_le_mul_left _ hc
  generalize (hi - lo) / 4096 * c = p at *
  generalize (hi - lo) % 4096 * c = q at *
  rw [wu64n (a := p) (by omega), wu64n (a := q) (by omega), tdiv_nat, wu64n (by omega), ← Int.natCast_add, wu64n (by omega), wu32n (by omega), ← Int.natCast_add, wu32n (by omega)]
theorem shl8 (a : Nat) : shl .u32 (a : Int) 8 = ((a * 256 % 4294967296 : Nat) : Int) := by
  unfold shl; rw [wu32_eq]; omega
theorem shr24 (a : Nat) : shr .u32 (a : Int) 24 = ((a / 16777216 : Nat) : Int) := by rw [shr_nat, Nat.shiftRight_eq_div_pow]
theorem shr16 (a : Nat) : shr .u32 (a : Int) 16 = ((a / 65536 : Nat) : Int) := by rw [shr_nat, Nat.shiftRight_eq_div_pow]
theorem shr8 (a : Nat) : shr .u32 (a : Int) 8 = ((a / 256 : Nat) : Int) := by rw [shr_nat, Nat.shiftRight_eq_div_pow]
theorem or_low {m c : Nat} (hc : c < 256) : m * 256 ||| c = m * 256 + c := by
  have h : c < 2 ^ 8 := hc
  rw [show m * 256 = m <<< 8 by rw [Nat.shiftLeft_eq], ← Nat.shiftLeft_add_eq_or_of_lt h]
theorem shl8_or (a c : Nat) (hc : c < 256) : bor .u32 (shl .u32 (a : Int) 8) (c : Int) = ((a * 256 % 4294967296 + c : Nat) : Int) := by
  rw [shl8, bor_u32 _ _ (by omega) (by omega), show a * 256 % 4294967296 = a % 16777216 * 256 by omega, or_low hc]
/-! ### The coder's span -/
theorem coder_span_mid_ok {e : TypeId} {w : World} {b lo hi : Nat} {l : List Value} {a : Int} {K : Int → World → Prop} (h : Bl e w b l) (h0 : l[0]? = some (.int .u32 lo)) (h1 : l[1]? = some (.int .u32 hi)) (hr : lo ≤ hi) (hh : hi < 4294967296)
    (hk : ∀ w', Chg no w w' → K (midN lo hi (chc a) : Nat) w') : coder_span_mid.f (some ⟨b, 0, none⟩) a w K := by
  unfold coder_span_mid.f
  have hd : Bl e w.drew b l := h
  refine sm_some (ldI_b hd h1 (sm_some (ldI_b hd h0 (sm_some (ldI_b hd h0 ?_)))))
  dsimp only
  rw [chc_int, mid_eq hr hh (chc_bd a).2]
  exact hk _ (Chg.drew _ _)
theorem coder_span_take_ok {e : TypeId} {w : World} {b m : Nat} {l : List Value} {a : Int} {K : World → Prop} (h : Bl e w b l) (hl : 2 ≤ l.length) (hm : m + 1 < 4294967296 ∨ a ≠ 0)
    (hk : ∀ w', Bl e w' b (if a ≠ 0 then l.set 1 (.int .u32 m) else l.set 0 (.int .u32 ((m + 1 : Nat) : Int))) → Chg (fun j => j = b) w w' → K w') : coder_span_take.f (some ⟨b, 0, none⟩) a m w K := by
  unfold coder_span_take.f
  refine cond_of (fun ha => ?_) (fun ha => ?_)
  · have ha' : a ≠ 0 := by simpa using ha
    refine sm_some (stC_b (i := 1) h (by omega) fun w1 hb hc => hk w1 ?_ hc)
    rw [if_pos ha']; exact hb
  · have ha' : a = 0 := by simpa using ha
    have hm' : m + 1 < 4294967296 := hm.resolve_right (fun hn => hn ha')
    have e1 : IntKind.wrap .u32 ((m : Int) + 1) = ((m + 1 : Nat) : Int) := by rw [show (m : Int) + 1 = ((m + 1 : Nat) : Int) by omega, wu32n hm']
    rw [e1]
    refine sm_some (stC_b (i := 0) h (by omega) fun w1 hb hc => hk w1 ?_ hc)
    rw [if_neg (by simpa using ha')]; exact hb
theorem coder_span_shift_ok {e : TypeId} {w : World} {b lo hi : Nat} {l : List Value} {K : Int → Bool → World → Prop} (h : Bl e w b l) (h0 : l[0]? = some (.int .u32 lo)) (h1 : l[1]? = some (.int .u32 hi)) (hlo : lo < 4294967296)
    (hf : lo / 16777216 ≠ hi / 16777216 → ∀ w', Chg no w w' → K 0 false w')
    (ht : lo / 16777216 = hi / 16777216 → ∀ w', Bl e w' b ((l.set 0 (.int .u32 ((lo * 256 % 4294967296 : Nat) : Int))).set 1 (.int .u32 ((hi * 256 % 4294967296 + 255 : Nat) : Int))) → Chg (fun j => j = b) w w' → K ((lo / 16777216 : Nat) : Int) true w') :
    coder_span_shift.f (some ⟨b, 0, none⟩) w K := by
  unfold coder_span_shift.f
  have hd : Bl e w.drew b l := h
  have hdd : Bl e w.drew.drew b l := h
  have hl1 : 1 < l.length := (List.getElem?_eq_some_iff.1 h1).1
  refine sm_some (ldI_b hd h0 (sm_some (ldI_b hd h1 ?_)))
  rw [shr24, shr24]
  refine cond_of (fun hh => ?_) (fun hh => ?_)
  · refine hf (fun he => ?_) _ (Chg.drew _ _)
    rw [he] at hh; simp at hh
  · have he : lo / 16777216 = hi / 16777216 := by
      have : ((lo / 16777216 : Nat) : Int) = ((hi / 16777216 : Nat) : Int) := by simpa using hh
      omega
    refine sm_some (ldI_b hd h0 ?_)
    dsimp only
    refine sm_some (ldI_b hdd h0 (sm_some (ldI_b hdd h1 ?_)))
    rw [shr24, wu8n (by omega), shl8, show (255 : Int) = ((255 : Nat) : Int) from rfl, shl8_or _ _ (by omega)]
    refine sm_some (stC_b (i := 0) hdd (by omega) fun w1 hb1 hc1 => sm_some (stC_b (i := 1) hb1 (by rw [List.length_set]; exact hl1) fun w2 hb2 hc2 => ht he w2 hb2 ?_))
    exact (((Chg.drew _ w).trans (Chg.drew _ w.drew)).trans hc1).trans hc2
theorem coder_whole_ok {w : World} {K : Int → Int → World → Prop} (hk : ∀ w', Chg no w w' → K 0 4294967295 w') : coder_whole.f w K := by
  unfold coder_whole.f
  refine newC_b fun w1 hb1 hc1 hs1 => ?_
  refine stCs_b (m := [(Value.int .u32 0), (Value.int .u32 4294967295)]) hb1 (by simp [one]) rfl fun w2 hb2 hc2 => ?_
  exact ldI_b (i := 0) hb2 rfl (ldI_b (i := 1) hb2 rfl (hk w2 (hc1.then hc2 fun k hk h => by omega)))
theorem ref04_full_ok {w : World} {K : Int → Int → World → Prop} (hk : ∀ w', Chg no w w' → K 0 4294967295 w') : ref04_full.f w K := by
  unfold ref04_full.f
  refine newC_b fun w1 hb1 hc1 hs1 => ?_
  refine stCs_b (m := [(Value.int .u32 0), (Value.int .u32 4294967295)]) hb1 (by simp [one]) rfl fun w2 hb2 hc2 => ?_
  exact ldI_b (i := 0) hb2 rfl (ldI_b (i := 1) hb2 rfl (hk w2 (hc1.then hc2 fun k hk h => by omega)))
theorem ref04_Mid_ok {w : World} {lo hi : Nat} {a : Int} {K : Int → World → Prop} (hr : lo ≤ hi) (hh : hi < 4294967296) (hk : ∀ w', Chg no w w' → K (midN lo hi (chc a) : Nat) w') : ref04_Range_Mid.f lo hi a w K := by
  unfold ref04_Range_Mid.f
  refine newC_b fun w1 hb1 hc1 hs1 => ?_
  dsimp only
  refine ldI_b (i := 1) hb1 rfl (ldI_b (i := 0) hb1 rfl (ldI_b (i := 0) hb1 rfl ?_))
  rw [chc_int, mid_eq64 hr hh (chc_bd a).2]
  exact hk _ hc1
theorem ref04_cut_ok {w : World} {lo hi : Nat} {b a : Int} {K : Int → Int → World → Prop} (hr : Rng lo hi) (hk : ∀ w', Chg no w w' → K ((cutN (b != 0) lo hi (chc a)).1 : Nat) ((cutN (b != 0) lo hi (chc a)).2 : Nat) w') : ref04_Range_cut.f lo hi b a w K := by
  unfold ref04_Range_cut.f
  refine newC_b fun w1 hb1 hc1 hs1 => newC_b fun w2 hb2 hc2 hs2 => ?_
  have hb1' := hb1.chg hc2 fun h => h
  refine ldI_b (i := 0) hb1' rfl (ldI_b (i := 1) hb1' rfl (ref04_Mid_ok (Nat.le_of_lt hr.lt) hr.bd fun w3 hc3 => ?_))
  have hb13 := hb1'.chg hc3 fun h => h
  have hb23 := hb2.chg hc3 fun h => h
  have hm := (midN_le (Nat.le_of_lt hr.lt) (chc_bd a).2).2.2 hr.lt
  have hbd := hr.bd
  have k3 := (hc1.trans hc2).trans hc3
  refine cond_of (fun hh => ?_) (fun hh => ?_)
  · unfold cutN at hk
    rw [hh] at hk
    refine ldI_b (i := 0) hb13 rfl (stCs_b (m := [(Value.int .u32 lo), (Value.int .u32 (midN lo hi (chc a) : Nat))]) hb23 (by simp [one]) rfl fun w4 hb4 hc4 => ?_)
    exact ldI_b (i := 0) hb4 rfl (ldI_b (i := 1) hb4 rfl (hk w4 (k3.then hc4 fun k hk h => by omega)))
  · unfold cutN at hk
    rw [hh] at hk
    have e1 : IntKind.wrap .u32 (((midN lo hi (chc a) : Nat) : Int) + 1) = ((midN lo hi (chc a) + 1 : Nat) : Int) := by rw [show ((midN lo hi (chc a) : Nat) : Int) + 1 = ((midN lo hi (chc a) + 1 : Nat) : Int) by omega, wu32n (by omega)]
    rw [e1]
    refine ldI_b (i := 1) hb13 rfl (stCs_b (m := [(Value.int .u32 (midN lo hi (chc a) + 1 : Nat)), (Value.int .u32 hi)]) hb23 (by simp [one]) rfl fun w4 hb4 hc4 => ?_)
    exact ldI_b (i := 0) hb4 rfl (ldI_b (i := 1) hb4 rfl (hk w4 (k3.then hc4 fun k hk h => by omega)))
theorem ref04_out_ok {w : World} {lo hi : Nat} {K : Bool → World → Prop} (hk : ∀ w', Chg no w w' → K (decide (lo / 16777216 = hi / 16777216)) w') : ref04_Range_out.f lo hi w K := by
  unfold ref04_Range_out.f
  refine newC_b fun w1 hb1 hc1 hs1 => ldI_b (i := 0) hb1 rfl (ldI_b (i := 1) hb1 rfl ?_)
  dsimp only
  rw [shr24, shr24]
  have := hk w1 hc1
  rw [show (((lo / 16777216 : Nat) : Int) == ((hi / 16777216 : Nat) : Int)) = decide (lo / 16777216 = hi / 16777216) by
    rw [Bool.eq_iff_iff]; simp; omega]
  exact this
theorem ref04_next_ok {w : World} {lo hi : Nat} {K : Int → Int → World → Prop} (hk : ∀ w', Chg no w w' → K ((lo * 256 % 4294967296 : Nat) : Int) ((hi * 256 % 4294967296 + 255 : Nat) : Int) w') : ref04_Range_next.f lo hi w K := by
  unfold ref04_Range_next.f
  refine newC_b fun w1 hb1 hc1 hs1 => newC_b fun w2 hb2 hc2 hs2 => ?_
  have hb1' := hb1.chg hc2 fun h => h
  refine ldI_b (i := 0) hb1' rfl (ldI_b (i := 1) hb1' rfl ?_)
  rw [shl8, show (255 : Int) = ((255 : Nat) : Int) from rfl, shl8_or _ _ (by omega)]
  refine stCs_b (m := [(Value.int .u32 ((lo * 256 % 4294967296 : Nat) : Int)), (Value.int .u32 ((hi * 256 % 4294967296 + 255 : Nat) : Int))]) hb2 (by simp [one]) rfl fun w3 hb3 hc3 => ?_
  exact ldI_b (i := 0) hb3 rfl (ldI_b (i := 1) hb3 rfl (hk w3 ((hc1.trans hc2).then hc3 fun k hk h => by omega)))
/-! ### Encoders -/
/-- An encoder in block `bt`, its bytes in blocks of `S`. -/
structure ES (e : TypeId) (w : World) (S : Nat → Prop) (bt lo hi : Nat) (out : List Nat) : Prop where
  inS : S bt
  cells : ∃ a c, Bl e w bt [.int .u32 lo, .int .u32 hi, .slice a out.length c] ∧ Own .u8 5 (fun b => S b ∧ b ≠ bt) w a out.length c (ints out)
theorem ES.chg {e : TypeId} {S T : Nat → Prop} {w w' : World} {bt lo hi : Nat} {out : List Nat} (h : ES e w S bt lo hi out) (hc : Chg T w w') (hn : ∀ b, S b → ¬ T b) : ES e w' S bt lo hi out := by
  obtain ⟨h0, a, c, h1, h2⟩ := h
  exact ⟨h0, a, c, h1.chg hc (hn _ h0), h2.chg hc fun b hb => hn b hb.1⟩
theorem ES.mono {e : TypeId} {S T : Nat → Prop} {w : World} {bt lo hi : Nat} {out : List Nat} (h : ES e w S bt lo hi out) (hs : ∀ b, S b → b < w.heap.size → T b) : ES e w T bt lo hi out := by
  obtain ⟨h0, a, c, h1, h2⟩ := h
  exact ⟨hs _ h0 h1.lt, a, c, h1, h2.mono fun b hb hl => ⟨hs b hb.1 hl, hb.2⟩⟩
theorem ES.grow {e : TypeId} {S : Nat → Prop} {w0 w w' : World} {bt lo hi : Nat} {out : List Nat} (h : ES e w' (gr (gr S w0 w) w w') bt lo hi out) (h1 : w0.heap.size ≤ w.heap.size) (h2 : w.heap.size ≤ w'.heap.size) : ES e w' (gr S w0 w') bt lo hi out :=
  h.mono fun b hb _ => gr_trans h1 h2 b hb
theorem coder_NewEncoder_bl {w : World} {K : Option Addr → World → Prop} (hk : ∀ bt w', w.heap.size ≤ bt → Bl 131 w' bt [.int .u32 0, .int .u32 4294967295, .slice none 0 0] → Chg no w w' → K (some ⟨bt, 0, none⟩) w') : coder_NewEncoder.f w K := by
  unfold coder_NewEncoder.f
  exact coder_whole_ok fun w1 hc1 => newC_b fun w2 hb2 hc2 hs2 => hk _ w2 hc1.size hb2 (hc1.trans hc2)
theorem coder_NewEncoder_ok {w : World} {K : Option Addr → World → Prop} (hk : ∀ bt w', ES 131 w' (fun b => w.heap.size ≤ b ∧ b < w'.heap.size ∧ b = bt) bt 0 4294967295 [] → Chg no w w' → K (some ⟨bt, 0, none⟩) w') : coder_NewEncoder.f w K :=
  coder_NewEncoder_bl fun bt w' hb h hc => hk bt w' ⟨⟨hb, h.lt, rfl⟩, none, 0, h, Own.nil _ _ _ _⟩ hc
theorem ref04_NewEncoder_ok {w : World} {K : Option Addr → World → Prop} (hk : ∀ bt w', ES 136 w' (fun b => w.heap.size ≤ b ∧ b < w'.heap.size ∧ b = bt) bt 0 4294967295 [] → Chg no w w' → K (some ⟨bt, 0, none⟩) w') : ref04_NewEncoder.f w K := by
  unfold ref04_NewEncoder.f
  refine ref04_full_ok fun w1 hc1 => newC_b fun w2 hb2 hc2 hs2 => hk _ w2 ⟨⟨hc1.size, by omega, rfl⟩, none, 0, hb2, Own.nil _ _ _ _⟩ (hc1.trans hc2)
theorem coder_put {e : TypeId} {w : World} {S : Nat → Prop} {bt lo hi v : Nat} {out : List Nat} {K : World → Prop} (hlt : ∀ b, S b → b < w.heap.size) (h : ES e w S bt lo hi out) (hL : out.length ≤ 1000000) (hv : v < 256)
    (hk : ∀ w', ES e w' (gr S w w') bt lo hi (out ++ [v]) → Chg S w w' → K w') :
    sm (some ⟨bt, 0, none⟩) fun p_14 =>
      ldL (p_14.add 2) w fun x39_15 x39_15n x39_15c =>
      newC 5 [(Value.int .u8 (v : Int))] w fun a41_16 w =>
      appL 5 1 1 [(Value.int .u8 0)] x39_15 x39_15n x39_15c (some a41_16) 1 1 w fun a42_17 a42_17n a42_17c w =>
      sm (some ⟨bt, 0, none⟩) fun p_18 =>
      stC (p_18.add 2) (Value.slice a42_17 a42_17n a42_17c) w fun w => K w := by
  obtain ⟨h0, a, c, h1, h2⟩ := h
  refine sm_some (ldL_b (i := 2) h1 rfl (newC_sl (k := .u8) (xs := ints [v]) rfl fun p2 w2 hs2 hc2 hz2 hpb => ?_))
  refine appL_own (h2.chg hc2 fun _ _ h => h) hs2 rfl (by omega) (by omega) fun a' c' w3 ho3 hc3 => sm_some ?_
  have h13 := (h1.chg hc2 fun h => h).chg hc3 fun h => h.2 rfl
  refine stC_b (i := 2) h13 (by simp) fun w4 hb4 hc4 => hk w4 ⟨.inl h0, a', c', ?_, ?_⟩ ?_
  · rw [List.length_append]; exact hb4
  · rw [List.length_append, ints_app]
    have hz3 := hc3.size
    have hz4 := hc4.size
    refine (ho3.chg hc4 fun b hb e => ?_).mono fun b hb hl => ?_
    · change b = bt at e
      rcases hb with hb | hb
      · exact hb.2 e
      · have := hlt _ h0; omega
    · rcases hb with hb | hb
      · exact ⟨.inl hb.1, hb.2⟩
      · have := hlt _ h0
        exact ⟨.inr ⟨by omega, hl⟩, by omega⟩
  · exact ((hc2.mono fun _ h => h.elim).trans (hc3.mono fun b hb => hb.1)).trans (hc4.mono fun b hb => by subst hb; exact h0)
theorem coder_Encode_l3f {bt : Nat} {y6 : Int} {K0 : World → Prop} {N : Nat} {w : World} (hN : 0 < N) (hk : K0 w) : coder_Encoder_Encode.l3 N (some ⟨bt, 0, none⟩) y6 false w K0 := by
  obtain ⟨N, rfl⟩ : ∃ M, N = M + 1 := ⟨N - 1, by omega⟩
  rw [coder_Encoder_Encode.l3]; exact hk
theorem wid_step {f lo hi : Nat} (hf : f ≤ 3) (hr : lo ≤ hi) (he : lo / 16777216 = hi / 16777216) (hw : wid (f + 1) ≤ hi - lo) : wid f ≤ (hi * 256 % 4294967296 + 255) - lo * 256 % 4294967296 := by
  have : f = 0 ∨ f = 1 ∨ f = 2 ∨ f = 3 := by omega
  rcases this with rfl | rfl | rfl | rfl <;> simp only [wid] at hw ⊢ <;> omega
theorem coder_Encode_loop {bt : Nat} {K0 : World → Prop} : ∀ (f lo hi v : Nat) (out : List Nat) (w : World) (S : Nat → Prop) (N : Nat), f ≤ 3 → lo ≤ hi → hi < 4294967296 → wid f ≤ hi - lo → v < 256 → out.length + f ≤ 900100 → (∀ b, S b → b < w.heap.size) → ES 131 w S bt lo hi out → f + 1 < N →
    (∀ w', ES 131 w' (gr S w w') bt (shf f lo hi).2.1 (shf f lo hi).2.2 (out ++ v :: (shf f lo hi).1) → Chg S w w' → K0 w') →
    coder_Encoder_Encode.l3 N (some ⟨bt, 0, none⟩) v true w K0 := by
  intro f
  induction f with
  | zero =>
    intro lo hi v out w S N hf hr hh hw hv hL hlt h hN hk
    obtain ⟨N, rfl⟩ : ∃ M, N = M + 1 := ⟨N - 1, by omega⟩
    rw [coder_Encoder_Encode.l3]
    refine coder_put hlt h (by omega) hv fun w1 hE hc1 => sm_some ?_
    obtain ⟨h0, a, c, h1, h2⟩ := hE
    refine coder_span_shift_ok h1 rfl rfl (by omega) (fun hne w2 hc2 => coder_Encode_l3f (by omega) (hk w2 ?_ (hc1.trans (hc2.mono fun _ h => h.elim)))) (fun he => ?_)
    · have hz := hc2.size
      exact ES.mono (ES.chg ⟨h0, a, c, h1, h2⟩ hc2 fun _ _ h => h) fun b hb _ => hb.imp id fun hb => ⟨hb.1, by omega⟩
    · simp only [wid] at hw; omega
  | succ f ih =>
    intro lo hi v out w S N hf hr hh hw hv hL hlt h hN hk
    obtain ⟨N, rfl⟩ : ∃ M, N = M + 1 := ⟨N - 1, by omega⟩
    rw [coder_Encoder_Encode.l3]
    have hz0 : ∀ b, S b → b < w.heap.size := hlt
    refine coder_put hlt h (by omega) hv fun w1 hE hc1 => sm_some ?_
    have hz1 := hc1.size
    obtain ⟨h0, a, c, h1, h2⟩ := hE
    refine coder_span_shift_ok h1 rfl rfl (by omega) (fun hne w2 hc2 => coder_Encode_l3f (by omega) (hk w2 ?_ (hc1.trans (hc2.mono fun _ h => h.elim)))) (fun he w2 hb2 hc2 => ?_)
    · have hz := hc2.size
      rw [shf_f hne]
      exact ES.mono (ES.chg ⟨h0, a, c, h1, h2⟩ hc2 fun _ _ h => h) fun b hb _ => hb.imp id fun hb => ⟨hb.1, by omega⟩
    · have hz2 := hc2.size
      have hES : ES 131 w2 (gr S w w1) bt (lo * 256 % 4294967296) (hi * 256 % 4294967296 + 255) (out ++ [v]) := ⟨h0, a, c, hb2, h2.chg hc2 fun b hb e => hb.2 e⟩
      refine ih _ _ _ _ w2 _ N (by omega) (by omega) (by omega) (wid_step (by omega) hr he hw) (by omega) (by rw [List.length_append, List.length_singleton]; omega) (fun b hb => ?_) hES (by omega) fun w3 hE3 hc3 => hk w3 ?_ ?_
      · rcases hb with hb | hb
        · have := hlt b hb; omega
        · omega
      · rw [shf_t he]
        rw [List.append_assoc] at hE3
        have hz3 := hc3.size
        refine hE3.mono fun b hb _ => ?_
        rcases hb with (hb | hb) | hb
        · exact .inl hb
        · exact .inr ⟨by omega, by omega⟩
        · exact .inr ⟨by omega, hb.2⟩
      · have hbt : S bt := by
          rcases h0 with h0 | h0
          · exact h0
          · exact h.inS
        refine ((hc1.trans (hc2.mono fun b hb => by subst hb; exact hbt))).then hc3 fun k hk hg => ?_
        rcases hg with hg | hg
        · exact hg
        · omega
theorem coder_Encode_ok {bt lo hi : Nat} {b a : Int} {out : List Nat} {w : World} {S : Nat → Prop} {K : World → Prop} (hlt : ∀ b, S b → b < w.heap.size) (h : ES 131 w S bt lo hi out) (hr : Rng lo hi) (hL : out.length ≤ 900000)
    (hk : ∀ w', ES 131 w' (gr S w w') bt (stp (b != 0) (chc a) lo hi).2.1 (stp (b != 0) (chc a) lo hi).2.2 (out ++ (stp (b != 0) (chc a) lo hi).1) → Chg S w w' → K w') : coder_Encoder_Encode.f (some ⟨bt, 0, none⟩) b a w K := by
  unfold coder_Encoder_Encode.f
  obtain ⟨h0, x, c, h1, h2⟩ := h
  have h1d : Bl 131 w.drew bt _ := h1
  have hm := midN_le (Nat.le_of_lt hr.lt) (chc_bd a).2
  have hm2 := hm.2.2 hr.lt
  have hbd := hr.bd
  refine bif_f rfl (sm_some (sm_some (coder_span_mid_ok h1d rfl rfl (Nat.le_of_lt hr.lt) hr.bd fun w1 hc1 => ?_)))
  have k1 := (Chg.drew no w).trans hc1
  refine coder_span_take_ok (h1.chg k1 fun h => h) (by simp) (.inl (by omega)) fun w2 hb2 hc2 => sm_some ?_
  have hcut := cutN_le (b := b != 0) hr.lt (chc_bd a).2
  have hbl : Bl 131 w2 bt [.int .u32 (cutN (b != 0) lo hi (chc a)).1, .int .u32 (cutN (b != 0) lo hi (chc a)).2, .slice x out.length c] := by
    by_cases hb : b = 0
    · rw [if_neg (by simpa using hb)] at hb2
      have : (b != 0) = false := by simpa using hb
      rw [this]; exact hb2
    · rw [if_pos hb] at hb2
      have : (b != 0) = true := by simpa using hb
      rw [this]; exact hb2
  have ho2 := (h2.chg k1 fun _ _ h => h).chg hc2 fun b hb e => hb.2 e
  have hz1 := k1.size; have hz2 := hc2.size
  have kk : Chg S w w2 := (k1.mono fun _ h => h.elim).trans (hc2.mono fun b hb => by subst hb; exact h0)
  generalize hc : cutN (b != 0) lo hi (chc a) = cc at hbl hcut
  have hst : stp (b != 0) (chc a) lo hi = shf 4 cc.1 cc.2 := by unfold stp; rw [hc]
  rw [hst] at hk
  obtain ⟨l', h'⟩ := cc
  dsimp only at hbl hcut hk
  refine coder_span_shift_ok hbl rfl rfl (by omega) (fun hne w3 hc3 => ⟨1, coder_Encode_l3f (by omega) (hk w3 ?_ (kk.trans (hc3.mono fun _ h => h.elim)))⟩) (fun he w3 hb3 hc3 => ⟨6, ?_⟩)
  · rw [shf_f hne, List.append_nil]
    exact ⟨.inl h0, x, c, hbl.chg hc3 fun h => h, (ho2.chg hc3 fun _ _ h => h).mono fun b hb _ => ⟨.inl hb.1, hb.2⟩⟩
  · have hz3 := hc3.size
    refine coder_Encode_loop (bt := bt) 3 _ _ _ out w3 S 6 (Nat.le_refl _) (by omega) (by omega) (wid_step (by omega) hcut.2.1 he (Nat.zero_le _)) (by omega) (by omega) (fun b hb => by have := hlt b hb; omega) ⟨h0, x, c, hb3, ho2.chg hc3 fun b hb e => hb.2 e⟩ (by omega) fun w4 hE4 hc4 => hk w4 ?_ ((kk.trans (hc3.mono fun b hb => by subst hb; exact h0)).trans hc4)
    rw [shf_t he]
    exact hE4.mono fun b hb _ => hb.imp id fun hb => ⟨by omega, hb.2⟩
theorem coder_Flush_ok {bt lo hi : Nat} {out : List Nat} {w : World} {S : Nat → Prop} {K : Option Addr → Nat → Nat → World → Prop} (hlt : ∀ b, S b → b < w.heap.size) (h : ES 131 w S bt lo hi out) (hlo : lo < 4294967296) (hL : out.length ≤ 1000000)
    (hk : ∀ a c w', Own .u8 5 (fun b => gr S w w' b ∧ b ≠ bt) w' a (out.length + 4) c (ints (out ++ by4 lo)) → ES 131 w' (fun b => b = bt) bt 0 4294967295 [] → Chg S w w' → K a (out.length + 4) c w') : coder_Encoder_Flush.f (some ⟨bt, 0, none⟩) w K := by
  unfold coder_Encoder_Flush.f
  obtain ⟨h0, x, c, h1, h2⟩ := h
  have h1d : Bl 131 w.drew bt _ := h1
  have h2d : Own .u8 5 (fun b => S b ∧ b ≠ bt) w.drew x out.length c (ints out) := h2.chg (Chg.drew no w) fun _ _ h => h
  refine bif_f rfl (sm_some (ldL_b (i := 2) h1d rfl (sm_some (ldI_b (i := 0) h1d rfl (sm_some (ldI_b (i := 0) h1d rfl (sm_some (ldI_b (i := 0) h1d rfl (sm_some (ldI_b (i := 0) h1d rfl ?_))))))))))
  have e : [(Value.int .u8 (IntKind.wrap .u8 (shr .u32 (lo : Int) 24))), (Value.int .u8 (IntKind.wrap .u8 (shr .u32 (lo : Int) 16))), (Value.int .u8 (IntKind.wrap .u8 (shr .u32 (lo : Int) 8))), (Value.int .u8 (IntKind.wrap .u8 (lo : Int)))] = (ints (by4 lo)).map (Value.int .u8) := by
    have e2 : ∀ m : Nat, IntKind.wrap .u8 (m : Int) = ((m % 256 : Nat) : Int) := fun m => by rw [wu8_eq]; omega
    rw [shr24, shr16, shr8, e2, e2, e2, e2, show lo / 16777216 % 256 = lo / 16777216 by omega]; rfl
  rw [e]
  refine newC_sl (k := .u8) (xs := ints (by4 lo)) rfl fun p2 w2 hs2 hc2 hz2 hpb => ?_
  have h12 := h1d.chg hc2 fun h => h
  refine ⟨h12.cell (i := 0) rfl, h12.cell (i := 0) rfl, h12.cell (i := 0) rfl, h12.cell (i := 0) rfl, h12.cell (i := 2) rfl, ?_⟩
  refine appL_own (h2d.chg hc2 fun _ _ h => h) hs2 (by rw [ints_length]; rfl) (by omega) (by omega) fun a' c' w3 ho3 hc3 => ?_
  have h13 := h12.chg hc3 fun h => h.2 rfl
  refine ⟨h13.cell (i := 0) rfl, h13.cell (i := 0) rfl, h13.cell (i := 0) rfl, h13.cell (i := 0) rfl, ?_⟩
  have hbt := hlt _ h0
  have hzd : w.drew.heap.size = w.heap.size := rfl
  have hz3 := hc3.size
  refine coder_NewEncoder_bl fun b4 w4 h40 h41 hc4 => ?_
  have hb4 : b4 ≠ bt := by omega
  refine sm_some (ldI_b (i := 0) h41 rfl (ldI_b (i := 1) h41 rfl (ldL_b (i := 2) h41 rfl (sm_some ?_))))
  have h14 := h13.chg hc4 fun h => h
  refine stCs_b (m := [(Value.int .u32 0), (Value.int .u32 4294967295), (Value.slice none 0 0)]) h14 (by simp [one]) rfl fun w5 hb5 hc5 => ?_
  have ho5 := (ho3.chg hc4 fun _ _ h => h).chg hc5 fun b hb e => by
    rcases hb with hb | hb
    · exact hb.2 e
    · omega
  have hz4 := hc4.size; have hz5 := hc5.size
  refine hk a' c' w5 ?_ ⟨rfl, none, 0, hb5, Own.nil _ _ _ _⟩ ?_
  · rw [ints_app]
    refine ho5.mono fun b hb hl => ?_
    rcases hb with hb | hb
    · exact ⟨.inl hb.1, hb.2⟩
    · exact ⟨.inr ⟨by omega, hl⟩, by omega⟩
  · exact ((((Chg.drew S w).trans (hc2.mono fun _ h => h.elim)).trans (hc3.mono fun b hb => hb.1)).trans (hc4.mono fun _ h => h.elim)).trans (hc5.mono fun b hb => by subst hb; exact h0)
/-! ### The reference -/
theorem ref04_Encode_l1 {bt : Nat} {K0 : World → Prop} : ∀ (f lo hi : Nat) (out : List Nat) (w : World) (S : Nat → Prop) (N : Nat), f ≤ 4 → lo ≤ hi → hi < 4294967296 → wid f ≤ hi - lo → out.length + f ≤ 900100 → (∀ b, S b → b < w.heap.size) → ES 136 w S bt lo hi out → f < N →
    (∀ w', ES 136 w' (gr S w w') bt (shf f lo hi).2.1 (shf f lo hi).2.2 (out ++ (shf f lo hi).1) → Chg S w w' → K0 w') →
    ref04_Encoder_Encode.l1 N (some ⟨bt, 0, none⟩) w K0 := by
  intro f
  induction f with
  | zero =>
    intro lo hi out w S N hf hr hh hw hL hlt h hN hk
    obtain ⟨N, rfl⟩ : ∃ M, N = M + 1 := ⟨N - 1, by omega⟩
    rw [ref04_Encoder_Encode.l1]
    obtain ⟨h0, a, c, h1, h2⟩ := h
    simp only [wid] at hw
    refine sm_some (ldI_b (i := 0) h1 rfl (ldI_b (i := 1) h1 rfl (ref04_out_ok fun w1 hc1 => bif_f (dec_f (by omega)) (hk w1 ?_ (hc1.mono fun _ h => h.elim)))))
    rw [show shf 0 lo hi = ([], lo, hi) from rfl, List.append_nil]
    exact ES.mono (ES.chg ⟨h0, a, c, h1, h2⟩ hc1 fun _ _ h => h) fun b hb _ => .inl hb
  | succ f ih =>
    intro lo hi out w S N hf hr hh hw hL hlt h hN hk
    obtain ⟨N, rfl⟩ : ∃ M, N = M + 1 := ⟨N - 1, by omega⟩
    rw [ref04_Encoder_Encode.l1]
    obtain ⟨h0, a, c, h1, h2⟩ := h
    refine sm_some (ldI_b (i := 0) h1 rfl (ldI_b (i := 1) h1 rfl (ref04_out_ok fun w1 hc1 => ?_)))
    have hz1 := hc1.size
    refine cond_of (fun hd => ?_) (fun hd => hk w1 ?_ (hc1.mono fun _ h => h.elim))
    · have he := of_decide_eq_true hd
      have k1 : Chg no w w1.drew := hc1.trans (Chg.drew no w1)
      have h1d := h1.chg k1 fun h => h
      have h2d := h2.chg k1 fun _ _ h => h
      refine sm_some (ldL_b (i := 2) h1d rfl (sm_some (ldI_b (i := 1) h1d rfl ?_)))
      rw [shr24, wu8n (by omega)]
      refine newC_sl (k := .u8) (xs := ints [hi / 16777216]) rfl fun p2 w2 hs2 hc2 hz2 hpb => ?_
      have h12 := h1d.chg hc2 fun h => h
      refine ⟨h12.cell (i := 1) rfl, h12.cell (i := 2) rfl, ?_⟩
      have hzd : w1.drew.heap.size = w1.heap.size := rfl
      have hbt := hlt _ h0
      refine appL_own (h2d.chg hc2 fun _ _ h => h) hs2 rfl (by omega) (by omega) fun a' c' w3 ho3 hc3 => ?_
      have h13 := h12.chg hc3 fun h => h.2 rfl
      refine ⟨h13.cell (i := 1) rfl, sm_some (stC_b (i := 2) h13 (by simp) fun w4 hb4 hc4 => sm_some (ldI_b (i := 0) hb4 rfl (ldI_b (i := 1) hb4 rfl (ref04_next_ok fun w5 hc5 => sm_some ?_))))⟩
      have hb5 := hb4.chg hc5 fun h => h
      have hz3 := hc3.size; have hz4 := hc4.size; have hz5 := hc5.size
      have ho5 := (ho3.chg hc4 fun b hb e => by
        change b = bt at e
        rcases hb with hb | hb
        · exact hb.2 e
        · omega).chg hc5 fun _ _ h => h
      refine stCs_go [(Value.int .u32 ((lo * 256 % 4294967296 : Nat) : Int)), (Value.int .u32 ((hi * 256 % 4294967296 + 255 : Nat) : Int))] 0 _ _ hb5 (by simp [one]) (by simp) fun w6 hb6 hc6 => ?_
      have hz6 := hc6.size
      have ho6 := ho5.chg hc6 fun b hb e => by
        rcases hb with hb | hb
        · exact hb.2 e
        · omega
      have kk : Chg S w w6 := ((((k1.mono fun _ h => h.elim).trans (hc2.mono fun _ h => h.elim)).trans (hc3.mono fun b hb => hb.1)).trans (hc4.mono fun b hb => by subst hb; exact h0)).trans ((hc5.mono fun _ h => h.elim).trans (hc6.mono fun b hb => by subst hb; exact h0))
      have hES : ES 136 w6 (gr S w w6) bt (lo * 256 % 4294967296) (hi * 256 % 4294967296 + 255) (out ++ [hi / 16777216]) := by
        refine ⟨.inl h0, a', c', ?_, ?_⟩
        · rw [List.length_append]; exact hb6
        · rw [List.length_append, ints_app]
          refine ho6.mono fun b hb hl => ?_
          rcases hb with hb | hb
          · exact ⟨.inl hb.1, hb.2⟩
          · exact ⟨.inr ⟨by omega, hl⟩, by omega⟩
      refine ih _ _ _ w6 _ N (by omega) (by omega) (by omega) (wid_step (by omega) hr he hw) (by rw [List.length_append, List.length_singleton]; omega) (fun b hb => ?_) hES (by omega) fun w7 hE7 hc7 => hk w7 ?_ ?_
      · rcases hb with hb | hb
        · have := hlt b hb; omega
        · exact hb.2
      · rw [shf_t he]
        rw [List.append_assoc, ← he] at hE7
        have hz7 := hc7.size
        exact hE7.mono fun b hb _ => gr_trans (by omega) hz7 b hb
      · refine kk.then hc7 fun k hk hg => ?_
        rcases hg with hg | hg
        · exact hg
        · omega
    · rw [shf_f (of_decide_eq_false hd), List.append_nil]
      exact ES.mono (ES.chg ⟨h0, a, c, h1, h2⟩ hc1 fun _ _ h => h) fun b hb _ => .inl hb
theorem ref04_Encode_ok {bt lo hi : Nat} {b a : Int} {out : List Nat} {w : World} {S : Nat → Prop} {K : World → Prop} (hlt : ∀ b, S b → b < w.heap.size) (h : ES 136 w S bt lo hi out) (hr : Rng lo hi) (hL : out.length ≤ 900000)
    (hk : ∀ w', ES 136 w' (gr S w w') bt (stp (b != 0) (chc a) lo hi).2.1 (stp (b != 0) (chc a) lo hi).2.2 (out ++ (stp (b != 0) (chc a) lo hi).1) → Chg S w w' → K w') : ref04_Encoder_Encode.f (some ⟨bt, 0, none⟩) b a w K := by
  unfold ref04_Encoder_Encode.f
  obtain ⟨h0, x, c, h1, h2⟩ := h
  refine sm_some (ldI_b (i := 0) h1 rfl (ldI_b (i := 1) h1 rfl (ref04_cut_ok hr fun w1 hc1 => sm_some ?_)))
  have hcut := cutN_le (b := b != 0) hr.lt (chc_bd a).2
  have hbd := hr.bd
  have hb1 := h1.chg hc1 fun h => h
  refine stCs_go [(Value.int .u32 ((cutN (b != 0) lo hi (chc a)).1 : Nat)), (Value.int .u32 ((cutN (b != 0) lo hi (chc a)).2 : Nat))] 0 _ _ hb1 (by simp [one]) (by simp) fun w2 hb2 hc2 => ⟨5, ?_⟩
  have hz1 := hc1.size; have hz2 := hc2.size
  have kk : Chg S w w2 := (hc1.mono fun _ h => h.elim).trans (hc2.mono fun b hb => by subst hb; exact h0)
  have ho2 := (h2.chg hc1 fun _ _ h => h).chg hc2 fun b hb e => hb.2 e
  refine ref04_Encode_l1 4 _ _ out w2 S 5 (Nat.le_refl _) hcut.2.1 (by omega) (Nat.zero_le _) (by omega) (fun b hb => by have := hlt b hb; omega) ⟨h0, x, c, hb2, ho2⟩ (by omega) fun w3 hE3 hc3 => hk w3 ?_ (kk.trans hc3)
  exact hE3.mono fun b hb _ => hb.imp id fun hb => ⟨by omega, hb.2⟩
theorem ref04_Flush_ok {bt lo hi : Nat} {out : List Nat} {w : World} {S : Nat → Prop} {K : Option Addr → Nat → Nat → World → Prop} (hlt : ∀ b, S b → b < w.heap.size) (h : ES 136 w S bt lo hi out) (hlo : lo < 4294967296) (hL : out.length ≤ 1000000)
    (hk : ∀ a c w', Own .u8 5 (fun b => gr S w w' b ∧ b ≠ bt) w' a (out.length + 4) c (ints (out ++ by4 lo)) → ES 136 w' (fun b => b = bt) bt 0 4294967295 [] → Chg S w w' → K a (out.length + 4) c w') : ref04_Encoder_Flush.f (some ⟨bt, 0, none⟩) w K := by
  unfold ref04_Encoder_Flush.f
  obtain ⟨h0, x, c, h1, h2⟩ := h
  refine sm_some (ldI_b (i := 0) h1 rfl (sm_some (ldL_b (i := 2) h1 rfl ?_)))
  have e : [(Value.int .u8 (IntKind.wrap .u8 (shr .u32 (lo : Int) 24))), (Value.int .u8 (IntKind.wrap .u8 (shr .u32 (lo : Int) 16))), (Value.int .u8 (IntKind.wrap .u8 (shr .u32 (lo : Int) 8))), (Value.int .u8 (IntKind.wrap .u8 (lo : Int)))] = (ints (by4 lo)).map (Value.int .u8) := by
    have e2 : ∀ m : Nat, IntKind.wrap .u8 (m : Int) = ((m % 256 : Nat) : Int) := fun m => by rw [wu8_eq]; omega
    rw [shr24, shr16, shr8, e2, e2, e2, e2, show lo / 16777216 % 256 = lo / 16777216 by omega]; rfl
  rw [e]
  refine newC_sl (k := .u8) (xs := ints (by4 lo)) rfl fun p2 w2 hs2 hc2 hz2 hpb => ?_
  refine appL_own (h2.chg hc2 fun _ _ h => h) hs2 (by rw [ints_length]; rfl) (by omega) (by omega) fun a' c' w3 ho3 hc3 => ?_
  have hbt := hlt _ h0
  have hz3 := hc3.size
  refine ref04_full_ok fun w4 hc4 => sm_some ?_
  have h14 := ((h1.chg hc2 fun h => h).chg hc3 fun h => h.2 rfl).chg hc4 fun h => h
  refine stCs_go [(Value.int .u32 0), (Value.int .u32 4294967295)] 0 _ _ h14 (by simp [one]) (by simp) fun w5 hb5 hc5 => sm_some (stC_b (i := 2) hb5 (by simp) fun w6 hb6 hc6 => ?_)
  have ho6 := ((ho3.chg hc4 fun _ _ h => h).chg hc5 fun b hb e => by
    rcases hb with hb | hb
    · exact hb.2 e
    · omega).chg hc6 fun b hb e => by
    change b = bt at e
    rcases hb with hb | hb
    · exact hb.2 e
    · omega
  have hz4 := hc4.size; have hz5 := hc5.size; have hz6 := hc6.size
  refine hk a' c' w6 ?_ ⟨rfl, none, 0, hb6, Own.nil _ _ _ _⟩ ?_
  · rw [ints_app]
    refine ho6.mono fun b hb hl => ?_
    rcases hb with hb | hb
    · exact ⟨.inl hb.1, hb.2⟩
    · exact ⟨.inr ⟨by omega, hl⟩, by omega⟩
  · exact ((((hc2.mono fun _ h => h.elim).trans (hc3.mono fun b hb => hb.1)).trans (hc4.mono fun _ h => h.elim)).trans (hc5.mono fun b hb => by subst hb; exact h0)).trans (hc6.mono fun b hb => by subst hb; exact h0)
end Go.Proofs.Ytdbnobeopgfhgaa.G
