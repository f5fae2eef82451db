/- Files of samples: what is made. -/
import Derived.Test.YtinmhmphidgdeaaKg
set_option linter.unusedVariables false
set_option linter.unusedSimpArgs false
namespace Go.Proofs.Ytinmhmphidgdeaa.G
open Go Go.Proofs.Ytinmhmphidgdeaa.Vm Go.RowKit
def mkW (ch bits f : Nat) (xs : List Int) : List Int :=
  [82, 73, 70, 70] ++ leB (36 + xs.length) 4 ++ [87, 65, 86, 69, 102, 109, 116, 32] ++ leB 16 4 ++ leB 1 2 ++ leB ch 2 ++ leB 8000 4 ++ leB (8000 * f) 4 ++ leB f 2 ++ leB bits 2 ++ [100, 97, 116, 97] ++ leB xs.length 4 ++ xs
theorem mkW_length (ch bits f : Nat) (xs : List Int) : (mkW ch bits f xs).length = 44 + xs.length := by
  simp only [mkW, List.length_append, leB_length, List.length_cons, List.length_nil]
/-- The bytes of a file. -/
def mkF (ch bits : Int) (xs : List Int) : List Int := if fr ch bits = 0 then [] else mkW ch.toNat bits.toNat (fr ch bits) xs
theorem fr_bd {ch bits : Int} (h : fr ch bits ≠ 0) : 1 ≤ ch ∧ ch ≤ 8 ∧ (bits = 8 ∨ bits = 16) ∧ fr ch bits ≤ 16 := by
  unfold fr at h ⊢
  split at h
  · rename_i g
    rw [if_pos g]
    refine ⟨g.1, g.2.1, g.2.2, ?_⟩
    split <;> omega
  · exact absurd rfl h
theorem Own.at {k : IntKind} {e : TypeId} {S : Nat → Prop} {w : World} {a : Option Addr} {n c : Nat} {ys : List Int} (h : Own k e S w a n c ys) : ∀ p, a = some p → S p.block := fun p hp => by
  rcases h with ⟨h, _⟩ | ⟨b, _, h, hb, _⟩
  · rw [h] at hp; cases hp
  · rw [h] at hp; cases hp; exact hb
theorem WS.lit2 {w : World} {bw lo : Nat} {ys : List Int} {K : World → Prop} (xs zs : List Int) (h : WS w bw lo ys) (hlo : lo ≤ bw) (hsz : ys.length + (xs ++ zs).length ≤ 1000000)
    (hk : ∀ w', WS w' bw lo (ys ++ (xs ++ zs)) → Chg (fun j => lo ≤ j) w w' → K w') :
    newC 5 (xs.map (Value.int .u8)) w fun a w => mkStr a w fun w => newC 5 (zs.map (Value.int .u8)) w fun b w => mkStr b w fun w => newC 22 [.slice (some a) xs.length xs.length, .slice (some b) zs.length zs.length] w fun p w => num_Writer_Raw.f (some ⟨bw, 0, none⟩) (some p) 2 2 w K := by
  have hbl : bw < w.heap.size := by obtain ⟨a, n, c, hb, _⟩ := h; exact hb.lt
  refine newC_i rfl fun w1 hb1 c1 s1 => mkStr_x hb1 fun w2 hs2 c2 => newC_i rfl fun w4 hb4 c4 s4 => mkStr_x hb4 fun w5 hs5 c5 => newC_b fun w6 hb6 c6 s6 => ?_
  have z2 := c2.size
  have z5 := c5.size
  have k6 : Chg no w w6 := (((c1.then c2 fun k hk h => by omega).trans c4).then c5 fun k hk h => by omega).trans c6
  have e : pflat [(some ⟨w.heap.size, 0, none⟩, xs.length, xs.length, xs), (some ⟨w2.heap.size, 0, none⟩, zs.length, zs.length, zs)] = xs ++ zs := by simp [pflat]
  refine WS.put (P := [(some ⟨w.heap.size, 0, none⟩, xs.length, xs.length, xs), (some ⟨w2.heap.size, 0, none⟩, zs.length, zs.length, zs)]) h k6 hlo hb6 (by omega) (fun q hq => ?_) (by rw [e]; exact hsz) (by simp) fun w7 h7 c7 => hk w7 (by rw [e] at h7; exact h7) ((k6.mono fun _ h => h.elim).trans c7)
  rcases List.mem_cons.1 hq with hq | hq
  · subst hq
    exact ⟨((hs2.chg c4 fun _ _ _ h => h).chg c5 fun p hp _ h => by cases hp; simp only at h; omega).chg c6 fun _ _ _ h => h, rfl, fun p hp _ => by cases hp; exact Nat.le_refl _⟩
  · rw [List.mem_singleton] at hq
    subst hq
    exact ⟨hs5.chg c6 fun _ _ _ h => h, rfl, fun p hp _ => by cases hp; show w.heap.size ≤ w2.heap.size; omega⟩
theorem wav_Make_ok {x : Option Addr} {n c : Nat} {ch bits z u : Int} {xs : List Int} {w : World} {K : Option Addr → Nat → Nat → World → Prop} (hx : SlI .u8 w x xs) (hxl : xs.length = n) (hn : n ≤ 100000)
    (hk : ∀ a' n' c' w', n' = (mkF ch bits xs).length → Own .u8 5 (fun b => w.heap.size ≤ b) w' a' n' c' (mkF ch bits xs) → Chg no w w' → K a' n' c' w') : wav_Make.f ch bits z u x n c w K := by
  unfold wav_Make.f
  refine newC_i (k := .i64) (xs := [ch, bits, z, u]) rfl fun w1 hb1 c1 s1 => ?_
  refine ld4i hb1 (wav_frame_ok fun w2 c2 => ?_)
  have k2 := c1.trans c2
  have z2 := c2.size
  refine cond_of (fun h => ?_) fun h => ?_
  · have h0 : fr ch bits = 0 := by
      have : ((fr ch bits : Nat) : Int) = 0 := by simpa using h
      omega
    have e : mkF ch bits xs = [] := by rw [mkF, if_pos h0]
    exact hk none 0 0 w2 (by rw [e]; rfl) (by rw [e]; exact Own.nil _ _ _ _) k2
  · have h0 : fr ch bits ≠ 0 := by
      have : ¬ ((fr ch bits : Nat) : Int) = 0 := by simpa using h
      omega
    have e : mkF ch bits xs = mkW ch.toNat bits.toNat (fr ch bits) xs := by rw [mkF, if_neg h0]
    rw [e] at hk
    obtain ⟨g1, g2, g3, g4⟩ := fr_bd h0
    generalize fr ch bits = f at *
    subst hxl
    refine newC_b fun w3 hb3 c3 s3 => ?_
    have hws : WS w3 w2.heap.size w2.heap.size [] := ⟨none, 0, 0, hb3, Own.nil _ _ _ _⟩
    have k3 := k2.trans c3
    have L := leB_length
    refine WS.lit [82, 73, 70, 70] hws (Nat.le_refl _) (by simp) fun w4 h4 c4 => ?_
    rw [show IntKind.wrap .u64 (IntKind.wrap .i64 (36 + ((xs.length : Nat) : Int))) = ((36 + xs.length : Nat) : Int) by rw [w64 (by omega) (by omega), wu64 (by omega) (by omega)]; omega]
    refine WS.little (36 + xs.length) 4 h4 (Nat.le_refl _) (by omega) (by simp) fun w5 h5 c5 => ?_
    refine WS.lit2 [87, 65, 86, 69] [102, 109, 116, 32] h5 (Nat.le_refl _) (by simp [L]) fun w6 h6 c6 => ?_
    refine WS.little 16 4 h6 (Nat.le_refl _) (by omega) (by simp [L]) fun w7 h7 c7 => ?_
    refine WS.little 1 2 h7 (Nat.le_refl _) (by omega) (by simp [L]) fun w8 h8 c8 => ?_
    have k8 : Chg (fun j => w2.heap.size ≤ j) w3 w8 := (((c4.trans c5).trans c6).trans c7).trans c8
    refine ldI_b (i := 0) (((hb1.chg c2 id).chg c3 id).chg k8 (by omega)).bl rfl ?_
    rw [show IntKind.wrap .u64 ch = ((ch.toNat : Nat) : Int) by rw [wu64 (by omega) (by omega)]; omega]
    refine WS.little ch.toNat 2 h8 (Nat.le_refl _) (by omega) (by simp [L]) fun w9 h9 c9 => ?_
    refine WS.little 8000 4 h9 (Nat.le_refl _) (by omega) (by simp [L]) fun w10 h10 c10 => ?_
    rw [show IntKind.wrap .u64 (IntKind.wrap .i64 (8000 * (f : Int))) = ((8000 * f : Nat) : Int) by rw [w64 (by omega) (by omega), wu64 (by omega) (by omega)]; omega]
    refine WS.little (8000 * f) 4 h10 (Nat.le_refl _) (by omega) (by simp [L]) fun w11 h11 c11 => ?_
    rw [show IntKind.wrap .u64 (f : Int) = (f : Int) by rw [wu64 (by omega) (by omega)]]
    refine WS.little f 2 h11 (Nat.le_refl _) (by omega) (by simp [L]) fun w12 h12 c12 => ?_
    have k12 : Chg (fun j => w2.heap.size ≤ j) w3 w12 := (((k8.trans c9).trans c10).trans c11).trans c12
    refine ldI_b (i := 1) (((hb1.chg c2 id).chg c3 id).chg k12 (by omega)).bl rfl ?_
    rw [show IntKind.wrap .u64 bits = ((bits.toNat : Nat) : Int) by rw [wu64 (by omega) (by omega)]; omega]
    refine WS.little bits.toNat 2 h12 (Nat.le_refl _) (by omega) (by simp [L]) fun w13 h13 c13 => ?_
    refine WS.lit [100, 97, 116, 97] h13 (Nat.le_refl _) (by simp [L]) fun w14 h14 c14 => ?_
    rw [show IntKind.wrap .u64 ((xs.length : Nat) : Int) = ((xs.length : Nat) : Int) by rw [wu64 (by omega) (by omega)]]
    refine WS.little xs.length 4 h14 (Nat.le_refl _) (by omega) (by simp [L]) fun w15 h15 c15 => ?_
    have k15 : Chg (fun j => w2.heap.size ≤ j) w3 w15 := ((k12.trans c13).trans c14).trans c15
    have kk : Chg no w w15 := k3.then k15 fun k hk h => by omega
    refine clone_ok (hx.chg kk fun _ _ _ h => h) rfl (by omega) fun a d w16 ho16 c16 => newC_b fun w17 hb17 c17 s17 => ?_
    have z16 := c16.size
    refine WS.put (P := [(a, xs.length, d, xs)]) h15 (c16.trans c17) (Nat.le_refl _) hb17 z16 (fun q hq => ?_) (by rw [pflat_one]; simp [L]; omega) (by simp) fun w18 h18 c18 => ?_
    · rw [List.mem_singleton] at hq
      subst hq
      exact ⟨(ho16.chg c17 fun _ _ h => h).sl, rfl, fun p hp _ => Own.at ho16 p hp⟩
    · rw [pflat_one] at h18
      have h18 : WS w18 w2.heap.size w2.heap.size (mkW ch.toNat bits.toNat f xs) := h18
      have kz : Chg no w w18 := ((kk.trans c16).trans c17).then c18 fun k hk h => by omega
      have zz := kz.size
      exact WS.bytes h18 (by rw [mkW_length]; omega) fun a' c' w19 ho19 c19 => hk a' _ c' w19 rfl (ho19.mono fun b hb _ => by omega) (kz.trans c19)
theorem szl {n m : Nat} (h1 : n ≤ 1000) (h2 : m ≤ 100000) : (n + m) * 1 ≤ 140737488355328 := by omega
theorem szt {n m : Nat} (h1 : n ≤ 1000) (h2 : m ≤ 1000) : n + m ≤ 140737488355328 := by omega
theorem ref13_Make_ok {x : Option Addr} {n c : Nat} {ch bits z u : Int} {xs : List Int} {w : World} {K : Option Addr → Nat → Nat → World → Prop} (hx : SlI .u8 w x xs) (hxl : xs.length = n) (hn : n ≤ 100000)
    (hk : ∀ a' n' c' w', n' = (mkF ch bits xs).length → Own .u8 5 (fun b => w.heap.size ≤ b) w' a' n' c' (mkF ch bits xs) → Chg no w w' → K a' n' c' w') : ref13_Make.f ch bits z u x n c w K := by
  unfold ref13_Make.f
  refine newC_i (k := .i64) (xs := [ch, bits, z, u]) rfl fun w1 hb1 c1 s1 => ?_
  intro J
  have hJ : fr ch bits ≠ 0 → J w1 := by
    intro h0
    have e : mkF ch bits xs = mkW ch.toNat bits.toNat (fr ch bits) xs := by rw [mkF, if_neg h0]
    rw [e] at hk
    obtain ⟨g1, g2, g3, g4⟩ := fr_bd h0
    have hfr : IntKind.wrap .u64 (IntKind.wrap .i64 (Int.tdiv (IntKind.wrap .i64 (ch * bits)) 8)) = ((fr ch bits : Nat) : Int) := by
      unfold fr
      rw [if_pos ⟨g1, g2, g3⟩]
      rcases g3 with rfl | rfl
      · rw [if_pos rfl, w64 (a := ch * 8) (by omega) (by omega), Int.tdiv_eq_ediv_of_nonneg (by omega), w64 (by omega) (by omega), wu64 (by omega) (by omega)]; omega
      · rw [if_neg (by omega), w64 (a := ch * 16) (by omega) (by omega), Int.tdiv_eq_ediv_of_nonneg (by omega), w64 (by omega) (by omega), wu64 (by omega) (by omega)]; omega
    unfold J
    dsimp only
    refine ldI_b (i := 0) hb1.bl rfl (ldI_b (i := 1) hb1.bl rfl ?_)
    rw [hfr]
    generalize fr ch bits = f at *
    subst hxl
    refine newC_i (k := .u8) (xs := [82, 73, 70, 70]) rfl fun w2 hb2 c2 s2 => mkStr_x hb2 fun w3 hs3 c3 => ?_
    have z3 := c3.size
    have k3 : Chg no w w3 := (c1.trans c2).then c3 fun k hk h => by omega
    have n3 : Chg no w1 w3 := c2.then c3 fun k hk h => by omega
    rw [show IntKind.wrap .u64 ((xs.length : Nat) : Int) = ((xs.length : Nat) : Int) by rw [wu64 (by omega) (by omega)], show IntKind.wrap .u64 (36 + ((xs.length : Nat) : Int)) = ((36 + xs.length : Nat) : Int) by rw [wu64 (by omega) (by omega)]; omega]
    refine ref02_Little_ok (36 + xs.length) 4 (by omega) fun a4 d4 w4 ho4 c4 => ?_
    have hs4 := hs3.chg c4 fun _ _ _ h => h
    refine appL_full hs4 rfl ho4.sl (leB_length _ _) (by omega) (by simp) (by omega) fun a5 d5 w5 ho5 c5 => ?_
    have k5 := (k3.trans c4).trans c5
    have n5 := (n3.trans c4).trans c5
    have z5 := n5.size
    have eS1 : (ByteArray.mk #[87, 65, 86, 69, 102, 109, 116, 32]).size = 8 := rfl
    have eS2 : (ByteArray.mk #[100, 97, 116, 97]).size = 4 := rfl
    have z4 := (n3.trans c4).size
    have zw := c1.size
    have o5 : Own .u8 5 (fun b => w1.heap.size ≤ b) w5 a5 (4 + 4) d5 ([82, 73, 70, 70] ++ leB (36 + xs.length) 4) := ho5.mono fun b hb _ => by omega
    refine apT o5 (szt (of_decide_eq_true rfl) (of_decide_eq_true rfl)) z5 fun a6 d6 w6 o6 c6 => ?_
    have k6 : Chg no w w6 := k5.then c6 fun k hk h => by omega
    have n6 : Chg no w1 w6 := n5.then c6 fun k hk h => by omega
    refine ref02_Little_ok (16) 4 (by omega) fun b6 e6 v6 p6 q6 => ?_
    have y6 := (n6.trans q6).size
    refine apS (o6.chg q6 fun _ _ h => h) p6.sl (leB_length _ _) (szl (of_decide_eq_true rfl) (of_decide_eq_true rfl)) (by omega) y6 fun a7 d7 w7 o7 c7 => ?_
    have k7 : Chg no w w7 := (k6.trans q6).then c7 fun k hk h => by omega
    have n7 : Chg no w1 w7 := (n6.trans q6).then c7 fun k hk h => by omega
    refine ref02_Little_ok (1) 2 (by omega) fun b7 e7 v7 p7 q7 => ?_
    have y7 := (n7.trans q7).size
    refine apS (o7.chg q7 fun _ _ h => h) p7.sl (leB_length _ _) (szl (of_decide_eq_true rfl) (of_decide_eq_true rfl)) (by omega) y7 fun a8 d8 w8 o8 c8 => ?_
    have k8 : Chg no w w8 := (k7.trans q7).then c8 fun k hk h => by omega
    have n8 : Chg no w1 w8 := (n7.trans q7).then c8 fun k hk h => by omega
    refine ldI_b (i := 0) (hb1.chg n8 id).bl rfl ?_
    rw [show IntKind.wrap .u64 ch = ((ch.toNat : Nat) : Int) by rw [wu64 (by omega) (by omega)]; omega]
    refine ref02_Little_ok (ch.toNat) 2 (by omega) fun b8 e8 v8 p8 q8 => ?_
    have y8 := (n8.trans q8).size
    refine apS (o8.chg q8 fun _ _ h => h) p8.sl (leB_length _ _) (szl (of_decide_eq_true rfl) (of_decide_eq_true rfl)) (by omega) y8 fun a9 d9 w9 o9 c9 => ?_
    have k9 : Chg no w w9 := (k8.trans q8).then c9 fun k hk h => by omega
    have n9 : Chg no w1 w9 := (n8.trans q8).then c9 fun k hk h => by omega
    refine ref02_Little_ok (8000) 4 (by omega) fun b9 e9 v9 p9 q9 => ?_
    have y9 := (n9.trans q9).size
    refine apS (o9.chg q9 fun _ _ h => h) p9.sl (leB_length _ _) (szl (of_decide_eq_true rfl) (of_decide_eq_true rfl)) (by omega) y9 fun a10 d10 w10 o10 c10 => ?_
    have k10 : Chg no w w10 := (k9.trans q9).then c10 fun k hk h => by omega
    have n10 : Chg no w1 w10 := (n9.trans q9).then c10 fun k hk h => by omega
    rw [show IntKind.wrap .u64 (8000 * (f : Int)) = ((8000 * f : Nat) : Int) by rw [wu64 (by omega) (by omega)]; omega]
    refine ref02_Little_ok (8000 * f) 4 (by omega) fun b10 e10 v10 p10 q10 => ?_
    have y10 := (n10.trans q10).size
    refine apS (o10.chg q10 fun _ _ h => h) p10.sl (leB_length _ _) (szl (of_decide_eq_true rfl) (of_decide_eq_true rfl)) (by omega) y10 fun a11 d11 w11 o11 c11 => ?_
    have k11 : Chg no w w11 := (k10.trans q10).then c11 fun k hk h => by omega
    have n11 : Chg no w1 w11 := (n10.trans q10).then c11 fun k hk h => by omega
    refine ref02_Little_ok (f) 2 (by omega) fun b11 e11 v11 p11 q11 => ?_
    have y11 := (n11.trans q11).size
    refine apS (o11.chg q11 fun _ _ h => h) p11.sl (leB_length _ _) (szl (of_decide_eq_true rfl) (of_decide_eq_true rfl)) (by omega) y11 fun a12 d12 w12 o12 c12 => ?_
    have k12 : Chg no w w12 := (k11.trans q11).then c12 fun k hk h => by omega
    have n12 : Chg no w1 w12 := (n11.trans q11).then c12 fun k hk h => by omega
    refine ldI_b (i := 1) (hb1.chg n12 id).bl rfl ?_
    rw [show IntKind.wrap .u64 bits = ((bits.toNat : Nat) : Int) by rw [wu64 (by omega) (by omega)]; omega]
    refine ref02_Little_ok (bits.toNat) 2 (by omega) fun b12 e12 v12 p12 q12 => ?_
    have y12 := (n12.trans q12).size
    refine apS (o12.chg q12 fun _ _ h => h) p12.sl (leB_length _ _) (szl (of_decide_eq_true rfl) (of_decide_eq_true rfl)) (by omega) y12 fun a13 d13 w13 o13 c13 => ?_
    have k13 : Chg no w w13 := (k12.trans q12).then c13 fun k hk h => by omega
    have n13 : Chg no w1 w13 := (n12.trans q12).then c13 fun k hk h => by omega
    have z13 := n13.size
    refine apT o13 (szt (of_decide_eq_true rfl) (of_decide_eq_true rfl)) z13 fun a14 d14 w14 o14 c14 => ?_
    have k14 : Chg no w w14 := k13.then c14 fun k hk h => by omega
    have n14 : Chg no w1 w14 := n13.then c14 fun k hk h => by omega
    refine ref02_Little_ok (xs.length) 4 (by omega) fun b14 e14 v14 p14 q14 => ?_
    have y14 := (n14.trans q14).size
    refine apS (o14.chg q14 fun _ _ h => h) p14.sl (leB_length _ _) (szl (of_decide_eq_true rfl) (of_decide_eq_true rfl)) (by omega) y14 fun a15 d15 w15 o15 c15 => ?_
    have k15 : Chg no w w15 := (k14.trans q14).then c15 fun k hk h => by omega
    have n15 : Chg no w1 w15 := (n14.trans q14).then c15 fun k hk h => by omega
    refine copyB_ok (hx.chg k15 fun _ _ _ h => h) rfl (by omega) fun b15 e15 v15 p15 q15 => ?_
    have y15 := (n15.trans q15).size
    refine apS (o15.chg q15 fun _ _ h => h) p15.sl rfl (szl (of_decide_eq_true rfl) (by omega)) (by omega) y15 fun a16 d16 w16 o16 c16 => ?_
    have k16 : Chg no w w16 := (k15.trans q15).then c16 fun k hk h => by omega
    have n16 : Chg no w1 w16 := (n15.trans q15).then c16 fun k hk h => by omega
    exact hk a16 _ d16 w16 (by rw [mkW_length]; show 4 + 4 + 8 + 4 + 2 + 2 + 4 + 4 + 2 + 2 + 4 + 4 + xs.length = _; omega) (o16.mono fun b hb _ => by omega) k16
  clear_value J
  have h0 : ¬ (1 ≤ ch ∧ ch ≤ 8 ∧ (bits = 8 ∨ bits = 16)) → K none 0 0 w1 := fun h => by
    have e : mkF ch bits xs = [] := by rw [mkF, if_pos (by rw [fr, if_neg h])]
    exact hk none 0 0 w1 (by rw [e]; rfl) (by rw [e]; exact Own.nil _ _ _ _) c1
  have h1 : 1 ≤ ch → ch ≤ 8 → (bits = 8 ∨ bits = 16) → J w1 := fun h1 h2 h3 => hJ (by
    unfold fr; rw [if_pos ⟨h1, h2, h3⟩]; split <;> omega)
  refine ldI_b (i := 0) hb1.bl rfl (cond_of (fun h => h0 fun g => by have := of_decide_eq_true h; omega) fun h2 => ldI_b (i := 0) hb1.bl rfl (cond_of (fun h => h0 fun g => by have := of_decide_eq_true h; omega) fun h3 => ldI_b (i := 1) hb1.bl rfl (cond_of (fun h => ?_) fun h4 => ?_)))
  · refine ldI_b (i := 1) hb1.bl rfl (cond_of (fun h5 => h0 fun g => ?_) fun h5 => ?_)
    · have e1 : bits ≠ 8 := by simpa using h
      have e2 : bits ≠ 16 := by simpa using h5
      omega
    · have e2 : bits = 16 := by simpa using h5
      exact h1 (by have := of_decide_eq_false h2; omega) (by have := of_decide_eq_false h3; omega) (.inr e2)
  · have e2 : bits = 8 := by simpa using h4
    exact h1 (by have := of_decide_eq_false h2; omega) (by have := of_decide_eq_false h3; omega) (.inl e2)
end Go.Proofs.Ytinmhmphidgdeaa.G
