/- The laws of files of samples. -/
import Derived.Test.YtinmhmphidgdeaaKh
import Derived.Test.YtinmhmphidgdeaaVmV
import Derived.ProofKit
import Derived.Test.YtinmhmphidgdeaaGenLawWavParses
import Derived.Test.YtinmhmphidgdeaaGenLawWavMakes
import Derived.Test.YtinmhmphidgdeaaGenLawWavBack
import Derived.Test.YtinmhmphidgdeaaGenLawWavWithin
set_option linter.unusedVariables false
set_option linter.unusedSimpArgs false
namespace Go.Proofs.Ytinmhmphidgdeaa.G
open Go Go.Proofs.Ytinmhmphidgdeaa.Vm Go.RowKit
theorem toInts_map' (k : IntKind) : ∀ l : List Int, toInts k (l.map (Value.int k)) = some l
  | [] => rfl
  | x :: l => by
    have h := toInts_map' k l
    have hk : kEq k k = true := by cases k <;> rfl
    simp [toInts, h, hk]
theorem eqI4 {a b c d : Int} {K : Bool → Prop} (hk : K true) : eqI .i64 4 #[(Value.int .i64 a), (Value.int .i64 b), (Value.int .i64 c), (Value.int .i64 d)] #[(Value.int .i64 a), (Value.int .i64 b), (Value.int .i64 c), (Value.int .i64 d)] K := by
  have e : (#[(Value.int .i64 a), (Value.int .i64 b), (Value.int .i64 c), (Value.int .i64 d)] : Array Value).toList = [a, b, c, d].map (Value.int .i64) := rfl
  unfold eqI
  rw [e, toInts_map']
  simp only [beq_self_eq_true]
  exact hk
theorem By.app {xs ys : List Int} (h : By xs) (g : By ys) : By (xs ++ ys) := fun x hx => (List.mem_append.1 hx).elim (h x) (g x)
theorem leB_by (v m : Nat) : By (leB v m) := fun x hx => by
  obtain ⟨k, _, rfl⟩ := List.mem_map.1 hx
  have := Nat.mod_lt (v / 256 ^ k) (show 256 > 0 by omega)
  omega
theorem mkW_by {ch bits f : Nat} {xs : List Int} (h : By xs) : By (mkW ch bits f xs) := by
  unfold mkW
  refine By.app (By.app (By.app (By.app (By.app (By.app (By.app (By.app (By.app (By.app (By.app (By.app ?_ (leB_by _ _)) ?_) (leB_by _ _)) (leB_by _ _)) (leB_by _ _)) (leB_by _ _)) (leB_by _ _)) (leB_by _ _)) (leB_by _ _)) ?_) (leB_by _ _)) h
  all_goals intro x hx; simp at hx; omega
theorem mkF_by {ch bits : Int} {xs : List Int} (h : By xs) : By (mkF ch bits xs) := by
  unfold mkF; split
  · intro x hx; cases hx
  · exact mkW_by h
theorem mkF_length {ch bits : Int} {xs : List Int} : (mkF ch bits xs).length ≤ 44 + xs.length := by
  unfold mkF; split
  · simp
  · rw [mkW_length]; omega
theorem leB_get {v k j : Nat} (h : j < k) : (leB v k).getD j 0 = ((v / 256 ^ j % 256 : Nat) : Int) := by
  unfold leB
  rw [List.getD_eq_getElem?_getD, List.getElem?_map, List.getElem?_range h]; rfl
theorem leP_leB (v k : Nat) : ∀ j, j ≤ k → leP (leB v k) j = v % 256 ^ j := by
  intro j
  induction j with
  | zero => intro _; simp [leP, Nat.mod_one]
  | succ j ih =>
    intro h
    rw [leP, ih (by omega), leB_get (by omega), Int.toNat_natCast, Nat.pow_succ, Nat.mod_mul, Nat.mul_comm (v / 256 ^ j % 256)]
theorem leA_leB {L : List Int} {i k v : Nat} (h : (L.drop i).take k = leB v k) (hv : v < 256 ^ k) : leA L i k = v := by
  unfold leA
  rw [h, leP_leB v k k (Nat.le_refl _), Nat.mod_eq_of_lt hv]
theorem pL_Z {xs : List Int} : ∀ (N at' : Nat) (has : Bool) (fm ch bits : Nat), (pL xs N at' has fm ch bits).2.2.2.2 = false → pL xs N at' has fm ch bits = Z := by
  intro N
  induction N with
  | zero => intros; rfl
  | succ N ih =>
    intro at' has fm ch bits h
    rw [pL] at h ⊢
    split at h
    · rename_i g1
      rw [if_pos g1]
      split at h
      · rename_i g2
        rw [if_pos g2]; exact ih _ _ _ _ _ h
      · rename_i g2
        rw [if_neg g2]
        split at h
        · rename_i g3
          rw [if_pos g3]
          unfold fin at h ⊢
          split at h
          · rename_i g4
            rw [if_pos g4]
          · cases h
        · rename_i g3
          rw [if_neg g3]; exact ih _ _ _ _ _ h
    · rename_i g1
      rw [if_neg g1]
theorem pP_Z {xs : List Int} (h : (pP xs).2.2.2.2 = false) : pP xs = Z := by
  unfold pP at h ⊢
  split at h
  · rename_i g; rw [if_pos g]
  · rename_i g; rw [if_neg g]; exact pL_Z _ _ _ _ _ _ h
theorem law13_awake_ok {w : World} {K : Bool → World → Prop} (hk : ∀ w', Chg no w w' → K true w') : law13_awake.f w K := by
  unfold law13_awake.f
  refine newC_i (k := .u8) (xs := [1, 2]) rfl fun w1 hb1 c1 s1 => ?_
  refine wav_Make_ok hb1.sl rfl (by omega) fun a2 n2 d2 w2 hn2 ho2 c2 => ?_
  have hl := mkF_length (ch := 1) (bits := 8) (xs := [1, 2])
  refine wav_Parse_ok ho2.sl hn2.symm ho2.cap (mkF_by (fun x hx => by simp at hx; omega)) (by rw [hn2]; simp at hl; omega) fun w3 c3 => ?_
  have e : pP (mkF 1 8 [1, 2]) = (1, 8, 44, 46, true) := by decide +kernel
  rw [e]
  refine newC_i (k := .i64) (xs := [0, 0, 0, 0]) rfl fun w4 hb4 c4 s4 => stCs4 hb4 rfl fun w5 hb5 c5 => bif_t rfl (ld4i hb5 (eqI4 (hk w5 ?_)))
  exact ((((c1.trans c2).trans c3).trans c4).then c5 fun k hk h => by have := ((c1.trans c2).trans c3).size; omega)
theorem law13_WavParses_said {a : Option Addr} {n c : Nat} {W : World} {K : Bool → World → Prop} (f : Fits W (.slc (.int .u8) 1 1) [.slice a n c])
    (hk : ∀ w', Below W.heap.size W w' → K true w') : law13_WavParses.f a n c W K := by
  obtain ⟨hnc, _, xs, hxl, hx, hwf⟩ := f.ints
  have hby := By.of hwf
  unfold law13_WavParses.f
  refine cond_of (fun _ => law13_awake_ok fun w hc => hk w (below_no (Below.refl _ _) hc (Nat.le_refl _))) (fun h => ?_)
  have hn : n ≤ 5000 := by have := of_decide_eq_false h; omega
  refine help_Own_byte_ok hx hxl (by omega) fun w1 hb1 c1 => wav_Parse_ok (BlI.pre_byte hb1) hxl (by omega) hby (by omega) fun w2 c2 => ?_
  refine newC_i (k := .i64) (xs := [0, 0, 0, 0]) rfl fun w3 hb3 c3 s3 => stCs4 hb3 rfl fun w4 hb4 c4 => ?_
  have z2 := (c1.trans c2).size
  have k4 : Chg no W w4 := ((c1.trans c2).trans c3).then c4 fun k hk h => by omega
  refine ref13_Parse_ok (hx.chg k4 fun _ _ _ h => h) hxl hnc hby (by omega) fun w5 c5 => ?_
  refine newC_i (k := .i64) (xs := [0, 0, 0, 0]) rfl fun w6 hb6 c6 s6 => stCs4 hb6 rfl fun w7 hb7 c7 => law13_awake_ok fun w8 c8 => bif_t rfl ?_
  have z5 := (k4.trans c5).size
  have z4 := c4.size
  have z45 := c5.size
  have k7 : Chg (fun j => j = w5.heap.size) w4 w7 := ((c5.trans c6).mono fun _ h => h.elim).trans c7
  have hb4' := (hb4.chg k7 (by omega)).chg c8 id
  refine ld4i hb4' (ld4i (hb7.chg c8 id) (eqI4 (bif_t rfl (bif_t (beq_self_eq_true _) ?_))))
  have hbl := hb1.lt
  have z1 := c2.size
  have kk : Chg no W w8 := (k4.then k7 fun k hk h => by omega).trans c8
  have hb1' : BlI .u8 5 w8 W.heap.size (xs ++ [71, 71, 71]) := (((((hb1.chg c2 id).chg c3 id).chg c4 (by omega)).chg k7 (by omega)).chg c8 id)
  exact help_Kept_byte_ok hb1' (hx.chg kk fun _ _ _ h => h) hxl (by omega) fun w9 c9 => hk w9 (below_no (Below.refl _ _) (kk.trans c9) (Nat.le_refl _))
theorem law13_WavMakes_said {a0 a1 a2 a3 : Int} {a : Option Addr} {n c : Nat} {W : World} {K : Bool → World → Prop} (_ : (Lit.int .i64 a0).wf = true) (_ : (Lit.int .i64 a1).wf = true) (_ : (Lit.int .i64 a2).wf = true) (_ : (Lit.int .i64 a3).wf = true) (f : Fits W (.slc (.int .u8) 1 1) [.slice a n c])
    (hk : ∀ w', Below W.heap.size W w' → K true w') : law13_WavMakes.f a0 a1 a2 a3 a n c W K := by
  obtain ⟨hnc, _, xs, hxl, hx, hwf⟩ := f.ints
  unfold law13_WavMakes.f
  refine newC_i (k := .i64) (xs := [a0, a1, a2, a3]) rfl fun w1 hb1 c1 s1 => ?_
  refine cond_of (fun _ => law13_awake_ok fun w hc => hk w (below_no (Below.refl _ _) (c1.trans hc) (Nat.le_refl _))) (fun h => ?_)
  have hn : n ≤ 5000 := by have := of_decide_eq_false h; omega
  refine help_Own_byte_ok (hx.chg c1 fun _ _ _ h => h) hxl (by omega) fun w2 hb2 c2 => law13_awake_ok fun w3 c3 => bif_t rfl ?_
  have hb2d : BlI .u8 5 w2.drew w1.heap.size (xs ++ [71, 71, 71]) := hb2
  have hb1e : BlI .i64 _ w2 W.heap.size [a0, a1, a2, a3] := hb1.chg c2 id
  have hb1d : BlI .i64 _ w2.drew W.heap.size [a0, a1, a2, a3] := hb1e
  have hb1 := hb1d.chg c3 id
  refine ld4i hb1 (ld4i hb1 (wav_Make_ok (BlI.pre_byte (hb2d.chg c3 id)) hxl (by omega) fun a4 n4 d4 w4 hn4 ho4 c4 => ⟨?_, ?_⟩))
  · exact (hb1.chg c4 id).rd
  · have k4 : Chg no W w4 := (((c1.trans c2).trans (Chg.drew no w2)).trans c3).trans c4
    refine ref13_Make_ok (hx.chg k4 fun _ _ _ h => h) hxl (by omega) fun a5 n5 d5 w5 hn5 ho5 c5 => ?_
    have k5 := k4.trans c5
    refine help_Bytes_eq (ho4.chg c5 fun _ _ h => h).sl ho5.sl hn4.symm hn5.symm (bif_t rfl ?_)
    exact help_Kept_byte_ok (((hb2d.chg c3 id).chg c4 id).chg c5 id) (hx.chg k5 fun _ _ _ h => h) hxl (by omega) fun w6 c6 => hk w6 (below_no (Below.refl _ _) (k5.trans c6) (Nat.le_refl _))
/-- What is made is parsed, whatever stands behind. -/
theorem pP_made {ch bits f : Nat} {xs more : List Int} (h1 : 1 ≤ ch) (h2 : ch ≤ 8) (h3 : bits = 8 ∨ bits = 16) (hf : fr (ch : Int) (bits : Int) = f) (hx : xs.length ≤ 5000) :
    pP (mkW ch bits f xs ++ more) = if xs.length < f then Z else ((ch : Int), (bits : Int), 44, ((44 + xs.length / f * f : Nat) : Int), true) := by
  have hl : (mkW ch bits f xs ++ more).length = 44 + xs.length + more.length := by rw [List.length_append, mkW_length]
  have hf0 : f ≠ 0 := by
    rw [← hf]; unfold fr
    rw [if_pos ⟨by omega, by omega, by omega⟩]
    split <;> omega
  have n0 : nm4 (mkW ch bits f xs ++ more) 0 = RIFF := by kernel_rfl
  have n8 : nm4 (mkW ch bits f xs ++ more) 8 = WAVE := by kernel_rfl
  have n12 : nm4 (mkW ch bits f xs ++ more) 12 = FMT := by kernel_rfl
  have n36 : nm4 (mkW ch bits f xs ++ more) (12 + 8 + 16 + 16 % 2) = DATA := by kernel_rfl
  have l16 : leA (mkW ch bits f xs ++ more) (12 + 4) 4 = 16 := leA_leB (by kernel_rfl) (by omega)
  have l20 : leA (mkW ch bits f xs ++ more) (12 + 8) 2 = 1 := leA_leB (by kernel_rfl) (by omega)
  have l22 : leA (mkW ch bits f xs ++ more) (12 + 8 + 2) 2 = ch := leA_leB (by kernel_rfl) (by omega)
  have l34 : leA (mkW ch bits f xs ++ more) (12 + 8 + 14) 2 = bits := leA_leB (by kernel_rfl) (by omega)
  have l40 : leA (mkW ch bits f xs ++ more) (12 + 8 + 16 + 16 % 2 + 4) 4 = xs.length := leA_leB (by kernel_rfl) (by omega)
  generalize mkW ch bits f xs ++ more = L at *
  unfold pP
  rw [if_neg (show ¬ (L.length < 12 ∨ nm4 L 0 ≠ RIFF ∨ nm4 L 8 ≠ WAVE) from fun h => by
    rcases h with h | h | h
    · omega
    · exact h n0
    · exact h n8)]
  obtain ⟨k, hk⟩ : ∃ k, L.length + 1 = k + 1 + 1 := ⟨L.length - 1, by omega⟩
  rw [hk, pL, if_pos (by omega), l16, if_pos ⟨n12, rfl, by omega, by omega⟩, l20, l22, l34, pL, if_pos (by omega), if_neg (fun g => absurd g.2.1 (by decide)), if_pos ⟨n36, rfl⟩, l40]
  unfold fin
  rw [hf, show min xs.length (L.length - (12 + 8 + 16 + 16 % 2 + 8)) = xs.length by omega]
  by_cases g : xs.length < f
  · rw [if_pos (.inr (.inr g)), if_pos g]
  · rw [if_neg (show ¬ ((1 : Nat) ≠ 1 ∨ f = 0 ∨ xs.length < f) by omega), if_neg g]; rfl
theorem frI {ch bits : Int} (h1 : 1 ≤ ch) (h2 : ch ≤ 8) (h3 : bits = 8 ∨ bits = 16) : IntKind.wrap .i64 (Int.tdiv (IntKind.wrap .i64 (ch * bits)) 8) = ((fr ch bits : Nat) : Int) ∧ 1 ≤ fr ch bits ∧ fr ch bits ≤ 16 := by
  unfold fr
  rw [if_pos ⟨h1, h2, h3⟩]
  rcases h3 with rfl | rfl
  · rw [if_pos rfl, w64 (a := ch * 8) (by omega) (by omega), Int.tdiv_eq_ediv_of_nonneg (by omega), w64 (by omega) (by omega)]; omega
  · rw [if_neg (by omega), w64 (a := ch * 16) (by omega) (by omega), Int.tdiv_eq_ediv_of_nonneg (by omega), w64 (by omega) (by omega)]; omega
theorem ways (a : Int) : ∃ ch : Nat, IntKind.wrap .i64 (1 + IntKind.wrap .i64 (Int.tmod (IntKind.wrap .u64 a) 8)) = (ch : Int) ∧ 1 ≤ ch ∧ ch ≤ 8 := by
  have h0 : 0 ≤ IntKind.wrap .u64 a := by rw [wu64_eq]; omega
  have g0 := Int.tmod_nonneg 8 h0
  have g1 := Int.tmod_lt_of_pos (IntKind.wrap .u64 a) (show (0 : Int) < 8 by omega)
  generalize Int.tmod (IntKind.wrap .u64 a) 8 = q at g0 g1 ⊢
  exact ⟨(1 + q).toNat, by rw [w64 (a := q) (by omega) (by omega), w64 (by omega) (by omega)]; omega, by omega, by omega⟩
theorem wide (a : Int) : ∃ b : Nat, IntKind.wrap .i64 (8 + IntKind.wrap .i64 (8 * IntKind.wrap .i64 (Int.tmod (IntKind.wrap .u64 a) 2))) = (b : Int) ∧ (b = 8 ∨ b = 16) := by
  have h0 : 0 ≤ IntKind.wrap .u64 a := by rw [wu64_eq]; omega
  have g0 := Int.tmod_nonneg 2 h0
  have g1 := Int.tmod_lt_of_pos (IntKind.wrap .u64 a) (show (0 : Int) < 2 by omega)
  generalize Int.tmod (IntKind.wrap .u64 a) 2 = q at g0 g1 ⊢
  refine ⟨(8 + 8 * q).toNat, ?_, by omega⟩
  rw [w64 (a := q) (by omega) (by omega), w64 (a := 8 * q) (by omega) (by omega), w64 (by omega) (by omega)]; omega
theorem law13_WavBack_said {cs bs : Int} {x y : Option Addr} {n c m d : Nat} {W : World} {K : Bool → World → Prop} (_ : (Lit.int .i64 cs).wf = true) (_ : (Lit.int .i64 bs).wf = true) (f : Fits W (.slc (.int .u8) 1 1) [.slice x n c]) (f' : Fits W (.slc (.int .u8) 1 1) [.slice y m d])
    (hk : ∀ w', Below W.heap.size W w' → K true w') : law13_WavBack.f cs bs x n c y m d W K := by
  obtain ⟨hnc, _, xs, hxl, hx, hwf⟩ := f.ints
  obtain ⟨hmd, _, ys, hyl, hy, hwfy⟩ := f'.ints
  have hby := By.of hwf
  have hbyy := By.of hwfy
  unfold law13_WavBack.f
  refine cond_of (fun _ => law13_awake_ok fun w hc => hk w (below_no (Below.refl _ _) hc (Nat.le_refl _))) (fun h => cond_of (fun _ => law13_awake_ok fun w hc => hk w (below_no (Below.refl _ _) hc (Nat.le_refl _))) (fun h' => ?_))
  have hn : n ≤ 3000 := by have := of_decide_eq_false h; omega
  have hm : m ≤ 300 := by have := of_decide_eq_false h'; omega
  obtain ⟨ch, ech, hc1, hc8⟩ := ways cs
  obtain ⟨bits, ebits, hbits⟩ := wide bs
  rw [ech, ebits]
  obtain ⟨eF, F1, F16⟩ := frI (ch := (ch : Int)) (bits := (bits : Int)) (by omega) (by omega) (by omega)
  obtain ⟨F, hF⟩ : ∃ F, fr (ch : Int) (bits : Int) = F := ⟨_, rfl⟩
  have hmk : mkF (ch : Int) (bits : Int) xs = mkW ch bits F xs := by rw [mkF, if_neg (by omega), hF]; rfl
  rw [hF] at eF F1 F16
  refine newC_i (k := .i64) (xs := [0, 0, 0, 0]) rfl fun w1 hb1 c1 s1 => stCs4 hb1 rfl fun w2 hb2 c2 => ld4i hb2 ?_
  have k2 : Chg no W w2 := c1.then c2 fun k hk h => by omega
  refine wav_Make_ok (hx.chg k2 fun _ _ _ h => h) hxl (by omega) fun a3 n3 d3 w3 hn3 ho3 c3 => ?_
  rw [hmk] at hn3 ho3
  have hl3 : n3 = 44 + n := by rw [hn3, mkW_length, hxl]
  have z2 := c2.size
  refine copyB_ok ho3.sl hn3.symm (by omega) fun a4 d4 w4 ho4 c4 => ?_
  have z3 := c3.size
  have z4 := c4.size
  have k4 := (k2.trans c3).trans c4
  have z4' := k4.size
  refine apS (lo := w3.heap.size) (ho4.mono fun b hb _ => by omega) (hy.chg k4 fun _ _ _ h => h) hyl (by omega) (by omega) z4 fun a5 d5 w5 ho5 c5 => ?_
  have k5 : Chg no W w5 := k4.then c5 fun k hk h => by omega
  refine wav_Parse_ok ho5.sl ho5.length ho5.cap (By.app (mkW_by hby) hbyy) (by omega) fun w6 c6 => ?_
  have k6 := k5.trans c6
  rw [pP_made hc1 hc8 hbits hF (by omega)]
  refine newC_i (k := .i64) (xs := [0, 0, 0, 0]) rfl fun w7 hb7 c7 s7 => stCs4 hb7 rfl fun w8 hb8 c8 => ?_
  have z6 := k6.size
  have z26 : w2.heap.size ≤ w6.heap.size := by have := c5.size; have := c6.size; omega
  have k8 : Chg no W w8 := (k6.trans c7).then c8 fun k hk h => by omega
  have e28 : Chg no w2 w8 := ((((c3.trans c4).then c5 fun k hk h => by omega).trans c6).trans c7).then c8 fun k hk h => by omega
  have hb2' := hb2.chg e28 id
  refine ldI_b (i := 0) hb2'.bl rfl (ldI_b (i := 1) hb2'.bl rfl ?_)
  dsimp only
  rw [eF]
  refine ifn_of (by omega) ?_
  have hdq : n / F ≤ n := Nat.div_le_self _ _
  have hdm : n / F * F ≤ n := Nat.div_mul_le_self _ _
  rw [show Int.tdiv ((n : Nat) : Int) (F : Int) = ((n / F : Nat) : Int) from rfl, w64n (by omega), show ((n / F : Nat) : Int) * (F : Int) = ((n / F * F : Nat) : Int) by rw [Int.natCast_mul], w64n (by omega)]
  by_cases g : xs.length < F
  · rw [if_pos g] at hb8 ⊢
    rw [show n / F = 0 from Nat.div_eq_of_lt (by omega), Nat.zero_mul]
    refine bif_t rfl (law13_awake_ok fun w9 c9 => bif_t rfl (bif_t rfl (ld4i (hb8.chg c9 id) (eqI4 (hk w9 ?_)))))
    exact below_no (Below.refl _ _) (k8.trans c9) (Nat.le_refl _)
  · rw [if_neg g, hxl] at hb8
    rw [if_neg g]
    have h1 : 1 ≤ n / F := (Nat.le_div_iff_mul_le (by omega)).2 (by omega)
    have h1m := Nat.mul_le_mul h1 F1
    refine bif_f (by simp; omega) (law13_awake_ok fun w9 c9 => bif_t rfl (bif_t rfl ?_))
    have hb8' := hb8.chg c9 id
    have hb2'' := hb2'.chg c9 id
    refine ld4i hb8' (ldI_b (i := 0) hb2''.bl rfl (ldI_b (i := 1) hb2''.bl rfl ?_))
    rw [show IntKind.wrap .i64 (44 + ((n / F * F : Nat) : Int)) = ((44 + n / F * F : Nat) : Int) by rw [w64 (by omega) (by omega)]; omega]
    refine eqI4 (bif_t rfl (ld4i hb2'' ?_))
    have k9 := k8.trans c9
    refine ref13_Make_ok (hx.chg k9 fun _ _ _ h => h) hxl (by omega) fun a10 n10 d10 w10 hn10 ho10 c10 => ?_
    rw [hmk] at hn10 ho10
    have e39 : Chg no w3 w9 := (((c4.then c5 fun k hk h => by omega).trans c6).trans c7).then c8 (fun k hk h => by have := c5.size; have := c6.size; omega) |>.trans c9
    exact help_Bytes_eq ((ho3.chg e39 fun _ _ h => h).chg c10 fun _ _ h => h).sl ho10.sl hn3.symm hn10.symm (hk w10 (below_no (Below.refl _ _) (k9.trans c10) (Nat.le_refl _)))
theorem pL_in {xs : List Int} : ∀ (N at' : Nat) (has : Bool) (fm ch bits : Nat), (has = true → 36 ≤ at') → 12 ≤ at' → (pL xs N at' has fm ch bits).2.2.2.2 = true →
    ∃ c b f t : Nat, pL xs N at' has fm ch bits = ((c : Int), (b : Int), (f : Int), (t : Int), true) ∧ 1 ≤ c ∧ c ≤ 8 ∧ (b = 8 ∨ b = 16) ∧ 44 ≤ f ∧ f < t ∧ t ≤ xs.length ∧ (t - f) % fr (c : Int) (b : Int) = 0 := by
  intro N
  induction N with
  | zero => intro at' has fm ch bits _ _ h; cases h
  | succ N ih =>
    intro at' has fm ch bits h36 h12 h
    rw [pL] at h ⊢
    split at h
    · rename_i g1
      rw [if_pos g1]
      split at h
      · rename_i g2
        rw [if_pos g2]; exact ih _ _ _ _ _ (fun _ => by omega) (by omega) h
      · rename_i g2
        rw [if_neg g2]
        split at h
        · rename_i g3
          rw [if_pos g3]
          have h36 := h36 g3.2
          unfold fin at h ⊢
          split at h
          · cases h
          · rename_i g4
            rw [if_neg g4]
            have hf0 : fr (ch : Int) (bits : Int) ≠ 0 := fun e => g4 (.inr (.inl e))
            obtain ⟨b1, b2, b3, b4⟩ := fr_bd hf0
            refine ⟨ch, bits, at' + 8, _, rfl, by omega, by omega, by omega, by omega, ?_⟩
            generalize hq : min (leA xs (at' + 4) 4) (xs.length - (at' + 8)) = q at g4 ⊢
            generalize fr (ch : Int) (bits : Int) = F at *
            have hqF : F ≤ q := by
              rcases Nat.lt_or_ge q F with g | g
              · exact absurd (.inr (.inr g)) g4
              · exact g
            have h1 : 1 ≤ q / F := (Nat.le_div_iff_mul_le (by omega)).2 (by omega)
            have hm := Nat.mul_le_mul h1 (Nat.le_refl F)
            have hdm : q / F * F ≤ q := Nat.div_mul_le_self _ _
            refine ⟨by omega, by omega, ?_⟩
            rw [Nat.add_sub_cancel_left, Nat.mul_mod_left]
        · rename_i g3
          rw [if_neg g3]; exact ih _ _ _ _ _ (fun e => by have := h36 e; omega) (by omega) h
    · cases h
theorem pP_in {xs : List Int} (h : (pP xs).2.2.2.2 = true) :
    ∃ c b f t : Nat, pP xs = ((c : Int), (b : Int), (f : Int), (t : Int), true) ∧ 1 ≤ c ∧ c ≤ 8 ∧ (b = 8 ∨ b = 16) ∧ 44 ≤ f ∧ f < t ∧ t ≤ xs.length ∧ (t - f) % fr (c : Int) (b : Int) = 0 := by
  unfold pP at h ⊢
  split at h
  · cases h
  · rename_i g
    rw [if_neg g]
    exact pL_in _ _ _ _ _ _ (fun e => by cases e) (Nat.le_refl _) h
theorem law13_WavWithin_said {x : Option Addr} {n c : Nat} {W : World} {K : Bool → World → Prop} (f : Fits W (.slc (.int .u8) 1 1) [.slice x n c])
    (hk : ∀ w', Below W.heap.size W w' → K true w') : law13_WavWithin.f x n c W K := by
  obtain ⟨hnc, _, xs, hxl, hx, hwf⟩ := f.ints
  unfold law13_WavWithin.f
  refine cond_of (fun _ => law13_awake_ok fun w hc => hk w (below_no (Below.refl _ _) hc (Nat.le_refl _))) (fun h => ?_)
  have hn : n ≤ 5000 := by have := of_decide_eq_false h; omega
  refine wav_Parse_ok hx hxl hnc (By.of hwf) (by omega) fun w1 c1 => ?_
  refine newC_i (k := .i64) (xs := [0, 0, 0, 0]) rfl fun w2 hb2 c2 s2 => stCs4 hb2 rfl fun w3 hb3 c3 => ?_
  have z1 := c1.size
  have k3 : Chg no W w3 := (c1.trans c2).then c3 fun k hk h => by omega
  cases hok : (pP xs).2.2.2.2
  · have e := pP_Z hok
    rw [e] at hb3
    intro J
    refine law13_awake_ok fun w4 c4 => bif_f rfl ?_
    show cond true _ _
    refine bif_t rfl (law13_awake_ok fun w5 c5 => bif_t rfl (ld4i ((hb3.chg c4 id).chg c5 id) (eqI4 (hk w5 ?_))))
    exact below_no (Below.refl _ _) ((k3.trans c4).trans c5) (Nat.le_refl _)
  · obtain ⟨ch, b, f, t, e, g1, g2, g3, g4, g5, g6, g7⟩ := pP_in hok
    rw [e] at hb3
    intro J
    refine law13_awake_ok fun w4 c4 => bif_f rfl ?_
    show cond false _ _
    have hb3 : BlI .i64 _ w3 w1.heap.size [(ch : Int), (b : Int), (f : Int), (t : Int)] := hb3
    have hb := hb3.chg c4 id
    obtain ⟨eF, F1, F16⟩ := frI (ch := (ch : Int)) (bits := (b : Int)) (by omega) (by omega) (by omega)
    generalize fr (ch : Int) (b : Int) = F at *
    have ev : (Int.tmod (IntKind.wrap .i64 ((t : Int) - (f : Int))) (F : Int) == 0) = true := by
      rw [show IntKind.wrap .i64 ((t : Int) - (f : Int)) = ((t - f : Nat) : Int) by rw [w64 (by omega) (by omega)]; omega, show Int.tmod ((t - f : Nat) : Int) (F : Int) = (((t - f) % F : Nat) : Int) from rfl, g7]; rfl
    have fin : K true w4 := hk w4 (below_no (Below.refl _ _) (k3.trans c4) (Nat.le_refl _))
    refine bif_f rfl (ldI_b (i := 0) hb.bl rfl (bif_t (dec_t (by omega)) (ldI_b (i := 0) hb.bl rfl (bif_t (dec_t (by omega)) (ldI_b (i := 1) hb.bl rfl (cond_of (fun _ => ?_) fun h8 => ldI_b (i := 1) hb.bl rfl (bif_t ?_ ?_)))))))
    · refine ldI_b (i := 2) hb.bl rfl (bif_t (dec_t (by omega)) (ldI_b (i := 2) hb.bl rfl (ldI_b (i := 3) hb.bl rfl (bif_t (dec_t (by omega)) (ldI_b (i := 3) hb.bl rfl (bif_t (dec_t (by omega)) (ldI_b (i := 3) hb.bl rfl (ldI_b (i := 2) hb.bl rfl (ldI_b (i := 0) hb.bl rfl (ldI_b (i := 1) hb.bl rfl ?_))))))))))
      rw [eF]
      refine ifn_of (by omega) ?_
      dsimp only
      rw [ev]; exact fin
    · have hb8 : ¬ (b : Int) = 8 := by simpa using h8
      have : b = 16 := by omega
      subst this; rfl
    · refine ldI_b (i := 2) hb.bl rfl (bif_t (dec_t (by omega)) (ldI_b (i := 2) hb.bl rfl (ldI_b (i := 3) hb.bl rfl (bif_t (dec_t (by omega)) (ldI_b (i := 3) hb.bl rfl (bif_t (dec_t (by omega)) (ldI_b (i := 3) hb.bl rfl (ldI_b (i := 2) hb.bl rfl (ldI_b (i := 0) hb.bl rfl (ldI_b (i := 1) hb.bl rfl ?_))))))))))
      rw [eF]
      refine ifn_of (by omega) ?_
      dsimp only
      rw [ev]; exact fin
end Go.Proofs.Ytinmhmphidgdeaa.G
