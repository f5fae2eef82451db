/- The checksum of all parts is the sum of what they are together; both tables are one. Conditions: those of the given row (arguments of bulk at most 1048576). -/
import Derived.Test.YtodicpmedallgaaKd
import Derived.Test.YtodicpmedallgaaVmS
set_option linter.unusedVariables false
set_option linter.unusedSimpArgs false
namespace Go.Proofs.Ytodicpmedallgaa.G
open Go Go.Proofs.Ytodicpmedallgaa.Vm Go.RowKit
/-- Lists of bytes, as natural numbers. -/
theorem nats_all : ∀ {L : List (List Int)}, (∀ l ∈ L, ∀ x ∈ l, (Lit.int .u8 x).wf = true) → ∃ M : List (List Nat), L = M.map ints ∧ ∀ l ∈ M, ∀ x ∈ l, x < 256
  | [], _ => ⟨[], rfl, fun l hl => by cases hl⟩
  | l :: L, h => by
    obtain ⟨M, rfl, hM⟩ := nats_all (L := L) fun m hm => h m (List.mem_cons_of_mem _ hm)
    obtain ⟨m, hm, hb⟩ := (By.of (h l List.mem_cons_self)).nats
    exact ⟨m :: M, by simp [hm], fun k hk => (List.mem_cons.1 hk).elim (fun e => by subst e; exact hb) (hM k)⟩
theorem head_i {w : World} {a : Option Addr} {hs : List Hdr} {L : List (List Int)} {i n : Nat} {g : Hdr} {x : Int} {K : Addr → Option Addr → Nat → Nat → Prop} (h : SlS .u8 w a hs L) (hx : x = i) (hn : i < n) (hg : hs[i]? = some g)
    (hk : ∀ p, K p g.1 g.2.1 g.2.2) : sm a fun p => if 0 ≤ x ∧ x < (n : Int) then ldL (p.add x.toNat) w (K p) else False := by
  obtain ⟨p, rfl, hc⟩ := h.head i g hg
  subst hx
  refine sm_some (if_of ⟨by omega, by omega⟩ ?_)
  rw [show Int.toNat (i : Int) = i by omega]
  exact ldL_of hc (hk p)
theorem crc_flat : ∀ (M : List (List Nat)) (a : Nat), M.foldl crc a = crc a M.flatten
  | [], a => by rw [List.foldl_nil, List.flatten_nil, crc_nil]
  | m :: M, a => by rw [List.foldl_cons, crc_flat M, List.flatten_cons, crc_app]
theorem crc_All_l3 {w0 : World} {x : Option Addr} {n c : Nat} {hs : List Hdr} {M : List (List Nat)} {K : Int → World → Prop} (hS : SlS .u8 w0 x hs (M.map ints)) (hM : M.length = n) (hb : ∀ l ∈ M, ∀ x ∈ l, x < 256) (hsz : ∀ l ∈ M, l.length < 9223372036854775807) (hn : n < 9223372036854775807)
    (hk : ∀ w, Chg no w0 w → K ((M.foldl crc 0 : Nat) : Int) w) (N : Nat) :
    ∀ (e r : List (List Nat)) (s : Nat) (w : World), M = e ++ r → s = e.foldl crc 0 → s < 4294967296 → r.length < N → Chg no w0 w → crc_All.l3 N s x n c n e.length w K := by
  induction N with
  | zero => intro e r s w h1 h2 h3 h4; omega
  | succ N ih =>
    intro e r s w he hs' hlt hN hc
    rw [crc_All.l3]
    have hl : e.length + r.length = n := by rw [← hM, he]; simp
    cases r with
    | nil =>
      simp only [List.append_nil] at he
      refine bif_f (dec_f (by simp at hl; omega)) ?_
      rw [hs', ← he]; exact hk w hc
    | cons m r =>
      simp only [List.length_cons] at hl hN
      have hS' := hS.chg hc
      have hLi : (M.map ints)[e.length]? = some (ints m) := by rw [he]; simp
      have hi : e.length < hs.length := by rw [hS.len, List.length_map]; omega
      have hg : hs[e.length]? = some hs[e.length] := List.getElem?_eq_getElem hi
      have hmM : m ∈ M := by rw [he]; simp
      obtain ⟨r1, r2⟩ := hS'.row _ _ _ hg hLi
      rw [ints_length] at r2
      refine bif_t (dec_t (by omega)) (head_i hS' rfl (by omega) hg fun _ => ?_)
      refine crc_Add_ok r1 r2 (hb m hmM) (by have := hsz m hmM; omega) hlt fun w1 hc1 => ?_
      rw [inc (by omega)]
      have := ih (e ++ [m]) r (crc s m) w1 (by simpa using he) (by rw [List.foldl_append, ← hs']; rfl) (crc_lt hlt (hb m hmM)) (by omega) (hc.trans hc1)
      simpa using this
theorem crc_All_ok {w : World} {x : Option Addr} {n c : Nat} {hs : List Hdr} {M : List (List Nat)} {K : Int → World → Prop} (hS : SlS .u8 w x hs (M.map ints)) (hM : M.length = n) (hb : ∀ l ∈ M, ∀ x ∈ l, x < 256) (hsz : ∀ l ∈ M, l.length < 9223372036854775807) (hn : n < 9223372036854775807)
    (hk : ∀ w', Chg no w w' → K ((crc 0 M.flatten : Nat) : Int) w') : crc_All.f x n c w K := by
  unfold crc_All.f
  refine ⟨n + 1, ?_⟩
  exact crc_All_l3 (K := K) hS hM hb hsz hn (fun w' hc => by rw [crc_flat]; exact hk w' hc) (n + 1) [] M 0 w rfl rfl (by omega) (by omega) (Chg.refl _ _)
theorem ref03_Table_l7 {p q : Addr} {c : Int} {w : World} {K : Addr → Addr → Int → Int → World → Prop} : ∀ (r s j : Nat), j + r = 8 → s < 4294967296 → K p q c ((Ln r s : Nat) : Int) w → ref03_Table.l7 (r + 1) p q c s j w K
  | 0, s, j, hj, hs, hk => by
    rw [ref03_Table.l7]
    exact bif_f (dec_f (by omega)) hk
  | r + 1, s, j, hj, hs, hk => by
    rw [ref03_Table.l7]
    refine bif_t (dec_t (by omega)) ?_
    rw [tbl_bit1 s hs, shr1]
    refine cond_of (fun h => ?_) (fun h => ?_)
    · have h1 : s % 2 = 1 := of_decide_eq_true h
      dsimp only
      rw [bxorP (shr1_lt hs), inc (by omega)]
      refine ref03_Table_l7 r _ (j + 1) (by omega) (Nat.xor_lt_two_pow (n := 32) (shr1_lt hs) (by omega)) ?_
      have : L1 s = s >>> 1 ^^^ 3988292384 := by unfold L1; rw [if_pos h1]
      rw [← this]; exact hk
    · have h1 : ¬ s % 2 = 1 := of_decide_eq_false h
      dsimp only
      rw [inc (by omega)]
      refine ref03_Table_l7 r _ (j + 1) (by omega) (shr1_lt hs) ?_
      have : L1 s = s >>> 1 := by unfold L1; rw [if_neg h1, Nat.xor_zero]
      rw [← this]; exact hk
set_option maxRecDepth 20000 in
theorem ref03_Table_l3 {b0 b1 : Nat} {w0 : World} {K : Addr → Addr → World → Prop} (hk : ∀ w, BlI .u32 37 w b1 (tab8 256) → Chg (fun k => k = b1) w0 w → K ⟨b0, 0, none⟩ ⟨b1, 0, none⟩ w) (N : Nat) :
    ∀ (i : Nat) (w : World), i ≤ 256 → 256 - i < N → BlI .u32 37 w b1 (tab8 i) → Chg (fun k => k = b1) w0 w → ref03_Table.l3 N ⟨b0, 0, none⟩ ⟨b1, 0, none⟩ i w K := by
  induction N with
  | zero => intro i w h1 h2; omega
  | succ N ih =>
    intro i w hi hN hb hc
    rw [ref03_Table.l3]
    by_cases him : i < 256
    · refine bif_t (dec_t (by omega)) ⟨9, ?_⟩
      rw [wu32 (a := (i : Int)) (by omega) (by omega)]
      refine ref03_Table_l7 8 i 0 rfl (by omega) ?_
      refine wrA hb i rfl (by rw [tab8_length i hi]; exact him) him fun w1 hb1 hc1 => ?_
      rw [tab8_set i him] at hb1
      rw [inc (by omega)]
      exact ih (i + 1) w1 (by omega) (by omega) hb1 (hc.trans hc1)
    · have : i = 256 := by omega
      subst this
      exact bif_f (dec_f (by omega)) (hk w hb hc)
set_option maxRecDepth 20000 in
theorem ref03_Table_ok {w : World} {K : Array Value → World → Prop} (hk : ∀ w', Chg no w w' → K ((tab8 256).map (Value.int .u32)).toArray w') : ref03_Table.f w K := by
  unfold ref03_Table.f
  refine newC_x fun w1 hb1 hc1 hs1 => newC_x fun w2 hb2 hc2 hs2 => ⟨257, ?_⟩
  refine ref03_Table_l3 (w0 := w2) (fun w3 hb3 hc3 => ?_) 257 0 w2 (by omega) (by omega) hb2 (Chg.refl _ _)
  refine ldA_b hb3 (tab8_length 256 (Nat.le_refl _)) (if_of tab8_size ?_)
  have hb13 := (hb1.chg hc2 fun h => h).chg hc3 fun h => by omega
  refine stCs_x hb13 (by rw [tab8_length 256 (Nat.le_refl _)]; rfl) fun w4 hb4 hc4 => ldA_b hb4 (tab8_length 256 (Nat.le_refl _)) (hk w4 ?_)
  exact ((hc1.trans hc2).then hc3 fun k hk h => by omega).then hc4 fun k hk h => by omega
theorem toInts_map (k : IntKind) : ∀ l : List Int, toInts k (l.map (Value.int k)) = some l
  | [] => rfl
  | x :: l => by
    have h := toInts_map k l
    have hk : kEq k k = true := by cases k <;> rfl
    simp [toInts, h, hk]
theorem nat_beq (n : Nat) : Nat.beq n n = true := by
  induction n with
  | zero => rfl
  | succ n ih => exact ih
theorem eqI_same {k : IntKind} {n : Nat} {l : List Int} {K : Bool → Prop} (hl : l.length = n) (hk : K true) : eqI k n (l.map (Value.int k)).toArray (l.map (Value.int k)).toArray K := by
  unfold eqI
  simp only [toInts_map, hl]
  have : Nat.beq n n = true := nat_beq n
  simp only [this, Bool.and_self, cond_true, beq_self_eq_true]
  exact hk
theorem law03_CrcAll_l5 {W : World} {x : Option Addr} {n xc : Nat} {hs : List Hdr} {M : List (List Nat)} {K0 : Option Addr → Nat → Nat → Option Addr → Nat → Nat → World → Prop} (hS : SlS .u8 W x hs (M.map ints)) (hM : M.length = n) (hn : n ≤ 60) (hsum : (M.map List.length).sum ≤ 1048576)
    (hk : ∀ w a c, Own .u8 5 (fun b => W.heap.size ≤ b) w a M.flatten.length c (ints M.flatten) → Chg no W w → K0 x n xc a M.flatten.length c w) (N : Nat) :
    ∀ (e r : List (List Nat)) (w : World) (a : Option Addr) (c : Nat), M = e ++ r → r.length < N → Own .u8 5 (fun b => W.heap.size ≤ b) w a e.flatten.length c (ints e.flatten) → Chg no W w → law03_CrcAll.l5 N x n xc a e.flatten.length c e.length w K0 := by
  induction N with
  | zero => intro e r w a c h1 h2; omega
  | succ N ih =>
    intro e r w a c he hN ho hc
    rw [law03_CrcAll.l5]
    have hl : e.length + r.length = n := by rw [← hM, he]; simp
    cases r with
    | nil =>
      simp only [List.append_nil] at he
      subst he
      exact bif_f (dec_f (by simp at hl; omega)) (hk w a c ho hc)
    | cons m r =>
      simp only [List.length_cons] at hl hN
      have hS' := hS.chg hc
      have hLi : (M.map ints)[e.length]? = some (ints m) := by rw [he]; simp
      have hi : e.length < hs.length := by rw [hS.len, List.length_map]; omega
      have hg : hs[e.length]? = some hs[e.length] := List.getElem?_eq_getElem hi
      obtain ⟨r1, r2⟩ := hS'.row _ _ _ hg hLi
      have hsz : e.flatten.length + m.length ≤ 1048576 := by
        have h2 : (M.map List.length).sum = e.flatten.length + (m.length + (r.map List.length).sum) := by rw [he, List.map_append, List.sum_append, List.length_flatten]; simp
        omega
      have hW := hc.size
      refine bif_t (dec_t (by omega)) (head_i hS' rfl (by omega) hg fun _ => ?_)
      rw [ints_length] at r2
      refine apS ho r1 (by rw [ints_length]; exact r2) (by omega) (by omega) hW fun a' c' w1 ho1 hc1 => ?_
      rw [inc (by omega)]
      have h1 : e.flatten.length + hs[e.length].2.1 = (e ++ [m]).flatten.length := by simp [r2]
      rw [h1, ← ints_app, show e.flatten ++ m = (e ++ [m]).flatten by simp] at ho1
      rw [h1]
      have := ih (e ++ [m]) r w1 a' c' (by simpa using he) (by omega) ho1 (hc.then hc1 fun k hk h => by omega)
      rw [List.length_append, List.length_singleton] at this
      exact this
theorem mem_len {M : List (List Nat)} {N : Nat} (h : (M.map List.length).sum ≤ N) : ∀ l ∈ M, l.length ≤ N := fun l hl => by
  have : l.length ≤ (M.map List.length).sum := by
    clear h
    induction M with
    | nil => cases hl
    | cons m M ih =>
      simp only [List.map_cons, List.sum_cons]
      rcases List.mem_cons.1 hl with rfl | hl
      · omega
      · have := ih hl; omega
  omega
set_option maxRecDepth 20000 in
theorem law03_CrcAll_said {x : Option Addr} {n c N : Nat} {W : World} {K : Bool → World → Prop} (f : Fits W (.slc (.slc (.int .u8) 1 1) 1 24) [.slice x n c]) (g : FitsN W (.slc (.slc (.int .u8) 1 1) 1 24) [.slice x n c] N) (hB : N ≤ 1048576)
    (hk : ∀ w', Below W.heap.size W w' → K true w') : law03_CrcAll.f x n c W K := by
  obtain ⟨hnc, _, hs, L, hL, hS, _, hwf⟩ := f.slices
  have hsum := g.slices hS hL
  obtain ⟨M, rfl, hb⟩ := nats_all hwf
  rw [List.length_map] at hL
  have hsum2 : (M.map List.length).sum ≤ 1048576 := by
    have e : ((M.map ints).map List.length) = M.map List.length := by rw [List.map_map]; exact List.map_congr_left fun l _ => ints_length l
    rw [e] at hsum; omega
  have hml := mem_len hsum2
  have hfb : ∀ x ∈ M.flatten, x < 256 := fun x hx => by
    obtain ⟨l, hl, hx⟩ := List.mem_flatten.1 hx
    exact hb l hl x hx
  unfold law03_CrcAll.f
  refine cond_of (fun _ => law03_awake_ok fun w hc => hk w (below_no (Below.refl _ _) hc (Nat.le_refl _))) (fun h => ?_)
  have hn : n ≤ 60 := by have := of_decide_eq_false h; omega
  refine ⟨n + 1, ?_⟩
  refine law03_CrcAll_l5 hS hL hn hsum2 (fun w1 a c1 ho hc1 => ?_) (n + 1) [] M W none 0 rfl (by omega) (Own.nil _ _ _ _) (Chg.refl _ _)
  refine law03_awake_ok fun w2 hc2 => bif_t rfl ?_
  have k2 := hc1.trans hc2
  refine crc_All_ok (hS.chg k2) hL hb (fun l hl => by have := hml l hl; omega) (by omega) fun w3 hc3 => ?_
  have k3 := k2.trans hc3
  have hfl : M.flatten.length ≤ 1048576 := by rw [List.length_flatten]; exact hsum2
  refine ref03_Sum_ok (ho.sl.chg (hc2.trans hc3) fun _ _ _ h => h) rfl hfb (by omega) (bif_t (by simp) ?_)
  refine crc_All_ok (hs := []) (M := []) ⟨rfl, (fun i g hg => by simp at hg), (fun i g l hg _ => by simp at hg)⟩ rfl (fun l hl => by cases hl) (fun l hl => by cases hl) (by omega) fun w4 hc4 => ?_
  refine bif_t (by rw [List.flatten_nil, crc_nil]; rfl) ?_
  refine crc_Table_ok fun w5 hc5 => ref03_Table_ok fun w6 hc6 => eqI_same (tab8_length 256 (Nat.le_refl _)) ?_
  exact hk _ (below_no (Below.refl _ _) (((k3.trans hc4).trans hc5).trans hc6) (Nat.le_refl _))
end Go.Proofs.Ytodicpmedallgaa.G
