/- Readers and writers of bytes, and their reference. Printed by kc.py. -/
import Derived.Test.YtinmhmphidgdeaaGen1
import Derived.Test.YtinmhmphidgdeaaGen2
import Derived.Test.YtinmhmphidgdeaaGen3
import Derived.Test.YtinmhmphidgdeaaXh
import Derived.Test.YtinmhmphidgdeaaVmT
import Derived.Laws.Strings
set_option linter.unusedVariables false
set_option linter.unusedSimpArgs false
namespace Go.Proofs.Ytinmhmphidgdeaa.G
open Go Go.Proofs.Ytinmhmphidgdeaa.Vm Go.RowKit
theorem gd_some {α : Type} {xs : List α} {i : Nat} {d : α} (h : i < xs.length) : xs[i]? = some (xs.getD i d) := by
  rw [List.getD_eq_getElem?_getD, List.getElem?_eq_getElem h]; rfl
theorem old3 {k : IntKind} {w : World} {x : Option Addr} {xs : List Int} (hx : SlI k w x xs) : ∀ p, x = some p → xs ≠ [] → p.block < w.heap.size := fun p hp hne => by
  obtain ⟨q, hq, hc⟩ := hx 0 (List.length_pos_iff.2 hne)
  have : q = p := by rw [hp] at hq; exact (Option.some.inj hq).symm
  subst this
  have := block_lt hc
  rw [add_block] at this
  exact this
theorem newC_i {k : IntKind} {e : TypeId} {w : World} {l : List Value} {xs : List Int} {K : Addr → World → Prop} (hl : l = xs.map (Value.int k))
    (hk : ∀ w', BlI k e w' w.heap.size xs → Chg no w w' → w'.heap.size = w.heap.size + 1 → K ⟨w.heap.size, 0, none⟩ w') : newC e l w K := by
  subst hl
  exact newC_b fun w' hb hc hs => hk w' hb hc hs
theorem copyB_ok {x : Option Addr} {n c : Nat} {xs : List Int} {w : World} {K : Option Addr → Nat → Nat → World → Prop} (hx : SlI .u8 w x xs) (hn : xs.length = n) (hs : n ≤ 140737488355328)
    (hk : ∀ a' c' w', Own .u8 5 (fun b => b = w.heap.size) w' a' n c' xs → Chg no w w' → K a' n c' w') : help_CopyBytes.f x n c w K := cpS hx hn (by omega) (by omega) hk
/-! ### Numbers of bytes -/
theorem bor_u64 (a b : Nat) (ha : a < 18446744073709551616) (hb : b < 18446744073709551616) : bor .u64 (a : Int) (b : Int) = ((a ||| b : Nat) : Int) := by
  unfold bor
  have h : a ||| b < 2 ^ 64 := Nat.or_lt_two_pow ha hb
  rw [show IntKind.bits .u64 = 64 from rfl, BitVec.ofInt_natCast, BitVec.ofInt_natCast, BitVec.toNat_or, BitVec.toNat_ofNat, BitVec.toNat_ofNat, Nat.mod_eq_of_lt ha, Nat.mod_eq_of_lt hb]
  exact wu64 (by omega) (by omega)
theorem p256 (j : Nat) : 2 ^ (8 * j) = 256 ^ j := by rw [Nat.pow_mul]
theorem p256_le {j : Nat} (h : j < 8) : 256 ^ (j + 1) ≤ 18446744073709551616 := by
  have := Nat.pow_le_pow_right (show 0 < 256 by omega) (show j + 1 ≤ 8 by omega)
  omega
theorem bor_byte {a c j : Nat} (ha : a < 256 ^ j) (hc : c < 256) (hj : j < 8) : bor .u64 (a : Int) (shl .u64 (c : Int) (8 * j)) = ((a + c * 256 ^ j : Nat) : Int) := by
  have h8 := p256_le hj
  have hcj : c * 256 ^ j + 256 ^ j ≤ 256 ^ (j + 1) := by
    rw [Nat.pow_succ, Nat.mul_comm (256 ^ j) 256, ← Nat.succ_mul]
    exact Nat.mul_le_mul_right _ hc
  have e : shl .u64 (c : Int) (8 * j) = ((c * 256 ^ j : Nat) : Int) := by
    unfold shl
    rw [show (c : Int) * 2 ^ (8 * j) = ((c * 256 ^ j : Nat) : Int) by rw [← p256]; simp]
    exact wu64n (by omega)
  rw [e, bor_u64 _ _ (by omega) (by omega)]
  congr 1
  have := Nat.shiftLeft_add_eq_or_of_lt (i := 8 * j) (b := a) (by rw [p256]; exact ha) c
  rw [Nat.shiftLeft_eq, p256] at this
  rw [Nat.or_comm, ← this, Nat.add_comm]
theorem bor_low {v c : Nat} (hv : v < 72057594037927936) (hc : c < 256) : bor .u64 (shl .u64 (v : Int) 8) (c : Int) = ((c + 256 * v : Nat) : Int) := by
  have e : shl .u64 (v : Int) 8 = ((v <<< 8 : Nat) : Int) := by
    unfold shl
    have : (v : Int) * (2 : Int) ^ 8 = ((v <<< 8 : Nat) : Int) := by rw [Nat.shiftLeft_eq]; omega
    rw [this]
    exact wu64n (by rw [Nat.shiftLeft_eq]; omega)
  rw [e, bor_u64 _ _ (by rw [Nat.shiftLeft_eq]; omega) (by omega), ← Nat.shiftLeft_add_eq_or_of_lt (i := 8) hc v, Nat.shiftLeft_eq]
  congr 1; omega
/-- The number that the first `j` bytes are, the lowest first. -/
def leP (ys : List Int) : Nat → Nat
  | 0 => 0
  | j + 1 => leP ys j + (ys.getD j 0).toNat * 256 ^ j
/-- The number that `m` bytes from `j` on are. -/
def up (ys : List Int) : Nat → Nat → Nat
  | _, 0 => 0
  | j, m + 1 => (ys.getD j 0).toNat + 256 * up ys (j + 1) m
theorem getD_by {ys : List Int} (h : By ys) (j : Nat) : 0 ≤ ys.getD j 0 ∧ ys.getD j 0 ≤ 255 := by
  by_cases hj : j < ys.length
  · exact h _ (List.mem_of_getElem? (gd_some hj))
  · rw [List.getD_eq_getElem?_getD, List.getElem?_eq_none (by omega)]; simp
theorem leP_lt {ys : List Int} (h : By ys) (j : Nat) : leP ys j < 256 ^ j := by
  induction j with
  | zero => simp [leP]
  | succ j ih =>
    have hb := getD_by h j
    have : (ys.getD j 0).toNat * 256 ^ j ≤ 255 * 256 ^ j := Nat.mul_le_mul_right _ (by omega)
    rw [leP, Nat.pow_succ]; omega
theorem up_lt {ys : List Int} (h : By ys) (m : Nat) : ∀ j, up ys j m < 256 ^ m := by
  induction m with
  | zero => intro j; simp [up]
  | succ m ih =>
    intro j
    have hb := getD_by h j
    have := ih (j + 1)
    rw [up, Nat.pow_succ]; omega
theorem leP_up (ys : List Int) (m : Nat) : ∀ j, leP ys j + 256 ^ j * up ys j m = leP ys (j + m) := by
  induction m with
  | zero => intro j; simp [up]
  | succ m ih =>
    intro j
    have e := ih (j + 1)
    rw [show j + (m + 1) = j + 1 + m by omega, ← e, up, leP, Nat.pow_succ, Nat.mul_add, Nat.mul_comm (256 ^ j) (ys.getD j 0).toNat, Nat.mul_assoc]; omega
theorem up_leP (ys : List Int) (m : Nat) : up ys 0 m = leP ys m := by
  have := leP_up ys m 0
  simpa [leP] using this
/-- The number of `k` bytes from `at'` on. -/
def leA (xs : List Int) (at' k : Nat) : Nat := leP ((xs.drop at').take k) k
theorem By.part {xs : List Int} (h : By xs) (l k : Nat) : By ((xs.drop l).take k) := fun x hx => h x (List.mem_of_mem_drop (List.mem_of_mem_take hx))
theorem leA_lt {xs : List Int} (h : By xs) (l k : Nat) : leA xs l k < 256 ^ k := leP_lt (By.part h l k) k
/-! ### Readers -/
def RD (T : TypeId) (w : World) (br ba : Nat) (xs : List Int) (at' : Nat) : Prop :=
  ∃ a c, Bl T w br [.slice a xs.length c, .int .i64 (at' : Int), .int .i64 0] ∧ SlI .u8 w a xs ∧ xs.length ≤ c ∧ ba ≠ br ∧ ∀ p, a = some p → xs ≠ [] → p.block = ba
theorem RD.chg {T : TypeId} {S : Nat → Prop} {w w' : World} {br ba at' : Nat} {xs : List Int} (h : RD T w br ba xs at') (hc : Chg S w w') (h1 : ¬ S br) (h2 : ¬ S ba) : RD T w' br ba xs at' := by
  obtain ⟨a, c, hb, hs, hl, hne, hp⟩ := h
  exact ⟨a, c, hb.chg hc h1, hs.chg hc fun p hq hx => by rw [hp p hq hx]; exact h2, hl, hne, hp⟩
theorem RD.lt {T : TypeId} {w : World} {br ba at' : Nat} {xs : List Int} (h : RD T w br ba xs at') : br < w.heap.size := by
  obtain ⟨a, c, hb, _⟩ := h
  exact hb.lt
theorem num_New_ok {x : Option Addr} {n c : Nat} {xs : List Int} {w : World} {K : Option Addr → World → Prop} (hx : SlI .u8 w x xs) (hn : xs.length = n) (h0 : 0 < n) (hs : n ≤ 140737488355328)
    (hk : ∀ br w', RD 103 w' br w.heap.size xs 0 → w.heap.size < br → Chg no w w' → K (some ⟨br, 0, none⟩) w') : num_New.f x n c w K := by
  unfold num_New.f
  refine cpS hx hn (by omega) (by omega) fun a c' w1 ho hc1 => newC_b fun w2 hb hc2 hs2 => ?_
  have hlt : w.heap.size < w1.heap.size := by
    rcases ho with ⟨_, h, _⟩ | ⟨b, _, _, hb, hbl, _⟩
    · omega
    · have := hbl.lt; omega
  subst hn
  refine hk _ w2 ⟨a, c', hb, (ho.chg hc2 fun _ _ h => h).sl, ho.cap, by omega, fun p hp hne => ?_⟩ hlt (hc1.trans hc2)
  rcases ho with ⟨h, _⟩ | ⟨b, _, h, hb, _⟩
  · rw [h] at hp; cases hp
  · rw [h] at hp; cases hp; exact hb
theorem num_Raw_ok {br ba at' k : Nat} {xs : List Int} {w : World} {K : Option Addr → Nat → Nat → World → Prop} (h : RD 103 w br ba xs at') (hk0 : 0 < k) (hl : at' + k ≤ xs.length) (hx : xs.length ≤ 1000000)
    (hk : ∀ a' c' w', Own .u8 5 (fun b => w.heap.size ≤ b) w' a' k c' ((xs.drop at').take k) → RD 103 w' br ba xs (at' + k) → Chg (fun j => j = br) w w' → K a' k c' w') : num_Reader_Raw.f (some ⟨br, 0, none⟩) (k : Int) w K := by
  obtain ⟨a, c, hb, hs, hlc, hne, hp⟩ := h
  have hbd : Bl 103 w.drew br _ := hb
  unfold num_Reader_Raw.f
  have ek : IntKind.wrap .i64 (((xs.length : Nat) : Int) - (at' : Int)) = ((xs.length - at' : Nat) : Int) := by rw [w64 (by omega) (by omega)]; omega
  have ea : IntKind.wrap .i64 ((at' : Int) + (k : Int)) = ((at' + k : Nat) : Int) := by rw [w64 (by omega) (by omega)]; omega
  have eb : IntKind.wrap .i64 (((at' + k : Nat) : Int) - (k : Int)) = (at' : Int) := by rw [w64 (by omega) (by omega)]; omega
  refine bif_f rfl (sm_some (ldI_b (i := 2) hb rfl (bif_f rfl (bif_f (dec_f (by omega)) (sm_some (ldL_b (i := 0) hbd rfl (sm_some (ldI_b (i := 1) hbd rfl ?_))))))))
  rw [ek]
  refine bif_f (dec_f (by omega)) (sm_some (ldI_b (i := 1) hbd rfl (sm_some ?_)))
  rw [ea]
  refine stC_b (i := 1) hbd (by simp) fun w1 hb1 c1 => ?_
  have hb1' : Bl 103 w1 br [.slice a xs.length c, .int .i64 ((at' + k : Nat) : Int), .int .i64 0] := hb1
  have hb1d : Bl 103 w1.drew br [.slice a xs.length c, .int .i64 ((at' + k : Nat) : Int), .int .i64 0] := hb1
  refine sm_some (ldL_b (i := 0) hb1d rfl (sm_some (ldI_b (i := 1) hb1d rfl (sm_some (ldI_b (i := 1) hb1d rfl ?_)))))
  rw [eb]
  refine bnd_lohi (by omega) (by omega) (by omega) ?_
  rw [Int.toNat_natCast, Int.toNat_natCast]
  have hne' : ∀ p, a = some p → xs ≠ [] → ¬ p.block = br := fun p h1 h2 => by rw [hp p h1 h2]; exact hne
  have hs0 : SlI .u8 w1 a xs := hs.chg (S := fun j => j = br) ((Chg.drew _ w).trans c1) hne'
  have hs1 : SlI .u8 w1.drew a xs := hs0
  have hpart := hs1.part (l := at') (h := at' + k) (c := c) (by omega) (by omega) (by omega)
  rw [show (xs.take (at' + k)).drop at' = (xs.drop at').take k by rw [List.drop_take]; congr 1; omega] at hpart
  refine cpS hpart (by rw [List.length_take, List.length_drop]; omega) (by omega) (by omega) fun a' c' w2 ho2 hc2 => ?_
  have hb2 := hb1d.chg hc2 id
  have hs2 := hs1.chg hc2 fun _ _ _ h => h
  have z1 : w.heap.size ≤ w1.drew.heap.size := c1.size
  refine ⟨hb2.cell (i := 1) rfl, hb2.cell (i := 1) rfl, hb2.cell (i := 0) rfl, ?_⟩
  have ho3 : Own .u8 5 (fun b => w.heap.size ≤ b) w2 a' k c' ((xs.drop at').take k) := by
    rw [show at' + k - at' = k by omega] at ho2
    exact ho2.mono fun b hb _ => by omega
  have c3 : Chg (fun j => j = br) w w2 := (((Chg.drew _ w).trans c1).trans (Chg.drew _ w1)).trans (hc2.mono fun _ h => h.elim)
  rw [show at' + k - at' = k by omega]
  exact hk a' c' w2 ho3 ⟨a, c, hb2, hs2, hlc, hne, hp⟩ c3
theorem ref02_New_ok {x : Option Addr} {n c : Nat} {xs : List Int} {w : World} {K : Option Addr → World → Prop} (hx : SlI .u8 w x xs) (hn : xs.length = n) (h0 : 0 < n) (hs : n ≤ 140737488355328)
    (hk : ∀ br w', RD 111 w' br w.heap.size xs 0 → w.heap.size < br → Chg no w w' → K (some ⟨br, 0, none⟩) w') : ref02_New.f x n c w K := by
  unfold ref02_New.f
  refine cpS hx hn (by omega) (by omega) fun a c' w1 ho hc1 => newC_b fun w2 hb hc2 hs2 => ?_
  have hlt : w.heap.size < w1.heap.size := by
    rcases ho with ⟨_, h, _⟩ | ⟨b, _, _, hb, hbl, _⟩
    · omega
    · have := hbl.lt; omega
  subst hn
  refine hk _ w2 ⟨a, c', hb, (ho.chg hc2 fun _ _ h => h).sl, ho.cap, by omega, fun p hp hne => ?_⟩ hlt (hc1.trans hc2)
  rcases ho with ⟨h, _⟩ | ⟨b, _, h, hb, _⟩
  · rw [h] at hp; cases hp
  · rw [h] at hp; cases hp; exact hb
theorem ref02_Raw_ok {br ba at' k : Nat} {xs : List Int} {w : World} {K : Option Addr → Nat → Nat → World → Prop} (h : RD 111 w br ba xs at') (hk0 : 0 < k) (hl : at' + k ≤ xs.length) (hx : xs.length ≤ 1000000)
    (hk : ∀ a' c' w', Own .u8 5 (fun b => w.heap.size ≤ b) w' a' k c' ((xs.drop at').take k) → RD 111 w' br ba xs (at' + k) → Chg (fun j => j = br) w w' → K a' k c' w') : ref02_Reader_Raw.f (some ⟨br, 0, none⟩) (k : Int) w K := by
  obtain ⟨a, c, hb, hs, hlc, hne, hp⟩ := h
  have hbd : Bl 111 w.drew br _ := hb
  unfold ref02_Reader_Raw.f
  have ek : IntKind.wrap .i64 (((xs.length : Nat) : Int) - (at' : Int)) = ((xs.length - at' : Nat) : Int) := by rw [w64 (by omega) (by omega)]; omega
  have ea : IntKind.wrap .i64 ((at' : Int) + (k : Int)) = ((at' + k : Nat) : Int) := by rw [w64 (by omega) (by omega)]; omega
  have eb : IntKind.wrap .i64 (((at' + k : Nat) : Int) - (k : Int)) = (at' : Int) := by rw [w64 (by omega) (by omega)]; omega
  refine sm_some (ldI_b (i := 2) hb rfl (bif_f rfl (sm_some (ldL_b (i := 0) hbd rfl (sm_some (ldI_b (i := 1) hbd rfl ?_))))))
  have em : mx (k : Int) 0 = (k : Int) := by unfold mx; rw [if_neg (by omega)]
  rw [em, ek]
  refine bif_f (dec_f (by omega)) (sm_some (ldI_b (i := 1) hbd rfl (sm_some ?_)))
  rw [ea]
  refine stC_b (i := 1) hbd (by simp) fun w1 hb1 c1 => ?_
  have hb1' : Bl 111 w1 br [.slice a xs.length c, .int .i64 ((at' + k : Nat) : Int), .int .i64 0] := hb1
  have hb1d : Bl 111 w1.drew br [.slice a xs.length c, .int .i64 ((at' + k : Nat) : Int), .int .i64 0] := hb1
  refine sm_some (ldL_b (i := 0) hb1d rfl (sm_some (ldI_b (i := 1) hb1d rfl (sm_some (ldI_b (i := 1) hb1d rfl ?_)))))
  rw [eb]
  refine bnd_lohi (by omega) (by omega) (by omega) ?_
  rw [Int.toNat_natCast, Int.toNat_natCast]
  have hne' : ∀ p, a = some p → xs ≠ [] → ¬ p.block = br := fun p h1 h2 => by rw [hp p h1 h2]; exact hne
  have hs0 : SlI .u8 w1 a xs := hs.chg (S := fun j => j = br) ((Chg.drew _ w).trans c1) hne'
  have hs1 : SlI .u8 w1.drew a xs := hs0
  have hpart := hs1.part (l := at') (h := at' + k) (c := c) (by omega) (by omega) (by omega)
  rw [show (xs.take (at' + k)).drop at' = (xs.drop at').take k by rw [List.drop_take]; congr 1; omega] at hpart
  refine cpS hpart (by rw [List.length_take, List.length_drop]; omega) (by omega) (by omega) fun a' c' w2 ho2 hc2 => ?_
  have hb2 := hb1d.chg hc2 id
  have hs2 := hs1.chg hc2 fun _ _ _ h => h
  have z1 : w.heap.size ≤ w1.drew.heap.size := c1.size
  refine ⟨hb2.cell (i := 1) rfl, hb2.cell (i := 1) rfl, hb2.cell (i := 0) rfl, ?_⟩
  have ho3 : Own .u8 5 (fun b => w.heap.size ≤ b) w2 a' k c' ((xs.drop at').take k) := by
    rw [show at' + k - at' = k by omega] at ho2
    exact ho2.mono fun b hb _ => by omega
  have c3 : Chg (fun j => j = br) w w2 := (((Chg.drew _ w).trans c1).trans (Chg.drew _ w1)).trans (hc2.mono fun _ h => h.elim)
  rw [show at' + k - at' = k by omega]
  exact hk a' c' w2 ho3 ⟨a, c, hb2, hs2, hlc, hne, hp⟩ c3
theorem num_Left_ok {br ba at' : Nat} {xs : List Int} {w : World} {K : Int → World → Prop} (h : RD 103 w br ba xs at') (hl : at' ≤ xs.length) (hx : xs.length ≤ 1000000) (hk : K ((xs.length - at' : Nat) : Int) w.drew) : num_Reader_Left.f (some ⟨br, 0, none⟩) w K := by
  obtain ⟨a, c, hb, hs, hlc, hne, hp⟩ := h
  have hbd : Bl 103 w.drew br _ := hb
  unfold num_Reader_Left.f
  refine bif_f rfl (sm_some (ldL_b (i := 0) hbd rfl (sm_some (ldI_b (i := 1) hbd rfl ?_))))
  dsimp only
  rw [w64 (by omega) (by omega), show ((xs.length : Nat) : Int) - (at' : Int) = ((xs.length - at' : Nat) : Int) by omega]
  exact hk
theorem num_Raw0_ok {br ba at' : Nat} {xs : List Int} {w : World} {K : Option Addr → Nat → Nat → World → Prop} (h : RD 103 w br ba xs at') (hk : K none 0 0 w) : num_Reader_Raw.f (some ⟨br, 0, none⟩) 0 w K := by
  obtain ⟨a, c, hb, hs, hlc, hne, hp⟩ := h
  unfold num_Reader_Raw.f
  exact bif_f rfl (sm_some (ldI_b (i := 2) hb rfl (bif_f rfl (bif_t rfl hk))))
theorem num_Little_l3 {y : Option Addr} {n c : Nat} {ys : List Int} {w : World} {K : Int → World → Prop} (hy : SlI .u8 w y ys) (hyl : ys.length = n) (hb : By ys) (hn : n ≤ 8) (hk : K ((leP ys n : Nat) : Int) w) (N : Nat) : ∀ j : Nat, j ≤ n → n - j < N →
    num_Reader_Little.l3 N ((leP ys j : Nat) : Int) y n c (n : Int) (j : Int) w K := by
  induction N with
  | zero => intro j h1 h2; omega
  | succ N ih =>
    intro j h1 h2
    rw [num_Reader_Little.l3]
    refine cond_of (fun hh => ?_) (fun hh => ?_)
    · have hj : j < n := by have := of_decide_eq_true hh; omega
      have hbj := getD_by hb j
      refine rdV hy j rfl hyl (gd_some (d := 0) (by omega)) fun _ _ => ?_
      have e8 : IntKind.wrap .i64 (8 * (j : Int)) = ((8 * j : Nat) : Int) := by rw [w64 (by omega) (by omega)]; omega
      rw [e8, Int.toNat_natCast, show IntKind.bits .u64 = 64 from rfl, Nat.min_eq_left (by omega)]
      refine ifn_of (by omega) ?_
      dsimp only
      rw [wu64 (by omega) (by omega), show ys.getD j 0 = (((ys.getD j 0).toNat : Nat) : Int) by omega, bor_byte (leP_lt hb j) (by omega) (by omega), inc (by omega)]
      exact ih (j + 1) (by omega) (by omega)
    · have : j = n := by have := of_decide_eq_false hh; omega
      subst this; exact hk
theorem num_Little_ok {br ba at' k : Nat} {xs : List Int} {w : World} {K : Int → World → Prop} (h : RD 103 w br ba xs at') (hb : By xs) (hk0 : 0 < k) (hk4 : k ≤ 4) (hl : at' + k ≤ xs.length) (hx : xs.length ≤ 1000000)
    (hk : ∀ w', RD 103 w' br ba xs (at' + k) → Chg (fun j => j = br) w w' → K ((leA xs at' k : Nat) : Int) w') : num_Reader_Little.f (some ⟨br, 0, none⟩) (k : Int) w K := by
  unfold num_Reader_Little.f
  rw [show mn (k : Int) 8 = (k : Int) by unfold mn; rw [if_neg (by omega)]]
  refine num_Raw_ok h hk0 hl hx fun a c w1 ho hr hc => ⟨k + 1, ?_⟩
  exact num_Little_l3 ho.sl (by rw [List.length_take, List.length_drop]; omega) (By.part hb _ _) (by omega) (hk w1 hr hc) (k + 1) 0 (by omega) (by omega)
theorem ref02_Little_l4 {y : Option Addr} {n c : Nat} {ys : List Int} {w : World} {K : Int → World → Prop} (hy : SlI .u8 w y ys) (hyl : ys.length = n) (hb : By ys) (hn : n ≤ 4) (hk : K ((leP ys n : Nat) : Int) w) (N : Nat) : ∀ j : Nat, j ≤ n → j < N →
    ref02_Reader_Little.l4 N y n c ((up ys j (n - j) : Nat) : Int) ((j : Int) - 1) w K := by
  induction N with
  | zero => intro j h1 h2; omega
  | succ N ih =>
    intro j h1 h2
    rw [ref02_Reader_Little.l4]
    refine cond_of (fun hh => ?_) (fun hh => ?_)
    · have hj : 1 ≤ j := by have := of_decide_eq_true hh; omega
      obtain ⟨i, rfl⟩ : ∃ i, j = i + 1 := ⟨j - 1, by omega⟩
      have hbj := getD_by hb i
      refine rdV hy i (by omega) hyl (gd_some (d := 0) (by omega)) fun _ _ => ?_
      dsimp only
      have hu := up_lt hb (n - (i + 1)) (i + 1)
      have hp := Nat.pow_le_pow_right (show 0 < 256 by omega) (show n - (i + 1) ≤ 4 by omega)
      rw [wu64 (by omega) (by omega), show ys.getD i 0 = (((ys.getD i 0).toNat : Nat) : Int) by omega, bor_low (by omega) (by omega), w64 (by omega) (by omega)]
      have e : (ys.getD i 0).toNat + 256 * up ys (i + 1) (n - (i + 1)) = up ys i (n - i) := by
        rw [show n - i = n - (i + 1) + 1 by omega, up]
      rw [e, show ((i + 1 : Nat) : Int) - 1 - 1 = (i : Int) - 1 by omega]
      exact ih i (by omega) (by omega)
    · have : j = 0 := by have := of_decide_eq_false hh; omega
      subst this
      rw [Nat.sub_zero, up_leP]; exact hk
theorem ref02_RLittle_ok {br ba at' k : Nat} {xs : List Int} {w : World} {K : Int → World → Prop} (h : RD 111 w br ba xs at') (hb : By xs) (hk0 : 0 < k) (hk4 : k ≤ 4) (hl : at' + k ≤ xs.length) (hx : xs.length ≤ 1000000)
    (hk : ∀ w', RD 111 w' br ba xs (at' + k) → Chg (fun j => j = br) w w' → K ((leA xs at' k : Nat) : Int) w') : ref02_Reader_Little.f (some ⟨br, 0, none⟩) (k : Int) w K := by
  unfold ref02_Reader_Little.f
  rw [show mn (k : Int) 8 = (k : Int) by unfold mn; rw [if_neg (by omega)]]
  refine ref02_Raw_ok h hk0 hl hx fun a c w1 ho hr hc => ?_
  dsimp only
  rw [w64 (by omega) (by omega)]
  refine ⟨k + 1, ?_⟩
  have := ref02_Little_l4 (c := c) (K := K) ho.sl (by rw [List.length_take, List.length_drop]; omega) (By.part hb _ _) (by omega) (hk w1 hr hc) (k + 1) k (by omega) (by omega)
  rw [Nat.sub_self] at this
  exact this
theorem ref13_little_ok {x : Option Addr} {n c at' k : Nat} {xs : List Int} {w : World} {K : Int → World → Prop} (hx : SlI .u8 w x xs) (hxl : xs.length = n) (hnc : n ≤ c) (hb : By xs) (hk0 : 0 < k) (hk4 : k ≤ 4) (hl : at' + k ≤ n) (hn : n ≤ 1000000)
    (hk : ∀ w', Chg no w w' → K ((leA xs at' k : Nat) : Int) w') : ref13_little.f x n c (at' : Int) (k : Int) w K := by
  unfold ref13_little.f
  rw [show IntKind.wrap .i64 ((at' : Int) + (k : Int)) = ((at' + k : Nat) : Int) by rw [w64 (by omega) (by omega)]; omega]
  refine bnd_lohi (by omega) (by omega) (by omega) ?_
  rw [Int.toNat_natCast, Int.toNat_natCast, Nat.add_sub_cancel_left]
  have hp := hx.part (l := at') (h := at' + k) (c := c) (by omega) (by omega) (by omega)
  rw [show (xs.take (at' + k)).drop at' = (xs.drop at').take k by rw [List.drop_take]; congr 1; omega] at hp
  have hpl : ((xs.drop at').take k).length = k := by rw [List.length_take, List.length_drop]; omega
  refine ref02_New_ok hp hpl hk0 (by omega) fun br w1 hr hlt hc => ?_
  refine ref02_RLittle_ok hr (By.part hb _ _) hk0 hk4 (by omega) (by omega) fun w2 hr2 hc2 => ?_
  have e : leA ((xs.drop at').take k) 0 k = leA xs at' k := by unfold leA; rw [List.drop_zero, List.take_take, Nat.min_self]
  have hlt2 : leA xs at' k < 4294967296 := Nat.lt_of_lt_of_le (leA_lt hb at' k) (Nat.pow_le_pow_right (show 0 < 256 by omega) hk4)
  dsimp only
  rw [e, w64n (by omega)]
  exact hk w2 (hc.then hc2 fun k hk h => by omega)
end Go.Proofs.Ytinmhmphidgdeaa.G
