/- Files of samples: writers, and what is made. -/
import Derived.Test.YtinmhmphidgdeaaKf
set_option linter.unusedVariables false
set_option linter.unusedSimpArgs false
namespace Go.Proofs.Ytinmhmphidgdeaa.G
open Go Go.Proofs.Ytinmhmphidgdeaa.Vm Go.RowKit
theorem sl_any {k : IntKind} {e : TypeId} {w : World} {b : Nat} {xs : List Int} {z : Nat × Nat} (h : w.heap[b]? = some (.cells (xs.map (Value.int k)).toArray e z)) : SlI k w (some ⟨b, 0, none⟩) xs := fun i hi =>
  ⟨_, rfl, by rw [add_mk, Nat.zero_add]; exact cell_any h (by rw [List.getElem?_map, List.getElem?_eq_getElem hi]; rfl)⟩
theorem mkStr_x {k : IntKind} {e : TypeId} {w : World} {b : Nat} {xs : List Int} {K : World → Prop} (h : BlI k e w b xs) (hk : ∀ w', SlI k w' (some ⟨b, 0, none⟩) xs → Chg (fun j => j = b) w w' → K w') : mkStr ⟨b, 0, none⟩ w K :=
  mkStr_of h.bl fun w' y hy hc => hk w' (sl_any hy) hc
/-- Appending to a slice that is full. -/
theorem appL_full {k : IntKind} {e : TypeId} {bytes : Nat} {w : World} {x : Option Addr} {p : Addr} {n xc m : Nat} {ys zs : List Int} {K : Option Addr → Nat → Nat → World → Prop}
    (ha : SlI k w (some p) ys) (hl : ys.length = n) (hx : SlI k w x zs) (hm : zs.length = m) (h0 : 0 < m) (hs : (n + m) * bytes ≤ 140737488355328) (hb : 0 < bytes)
    (hk : ∀ a' c' w', Own k e (fun b => b = w.heap.size) w' a' (n + m) c' (ys ++ zs) → Chg no w w' → K a' (n + m) c' w') :
    appL e 1 bytes [.int k 0] (some p) n n x m xc w K := by
  have h64 : n + m ≤ (n + m) * bytes := Nat.le_mul_of_pos_right _ hb
  obtain ⟨q, rfl⟩ := hx.some (by omega)
  unfold appL
  simp only [Nat.mul_one]
  rw [← hm, hx.rd, hm]
  show appG e 1 bytes [.int k 0] (some p) n n m (zs.map (Value.int k)) w K
  unfold appG
  rw [if_neg (by omega)]
  simp only [Nat.mul_one]
  have hold : rdCs w p n 0 = some (ys.map (Value.int k)) := by rw [← hl]; exact ha.rd
  rw [hold]
  refine ⟨⟨by omega, growslice_fits (by omega) hs⟩, ?_⟩
  have hg : n + m ≤ grownCap w (n + m) n e := grownCap_ge _ _ _ _
  rw [zrow_one, show ys.map (Value.int k) ++ zs.map (Value.int k) ++ List.replicate (grownCap w (n + m) n e - (n + m)) (Value.int k 0) =
    (ys ++ zs ++ List.replicate (grownCap w (n + m) n e - (n + m)) 0).map (Value.int k) by simp]
  refine hk _ _ _ (.inr ⟨w.heap.size, ys ++ zs ++ List.replicate (grownCap w (n + m) n e - (n + m)) 0, rfl, rfl, ?_, ?_, hg, ?_⟩) (chg_drew_alloc w _)
  · unfold BlI; rw [show w.heap.size = w.drew.heap.size from rfl, heap_alloc_new]
  · simp; omega
  · rw [List.take_append_of_le_length (by simp; omega)]; exact (List.take_of_length_le (by simp; omega)).symm
def sI (s : ByteArray) : List Int := s.data.toList.map fun b => (b.toNat : Int)
theorem sI_length (s : ByteArray) : (sI s).length = s.size := by simp [sI]
theorem apT {e : TypeId} {lo : Nat} {w : World} {a : Option Addr} {n c : Nat} {ys : List Int} {s : ByteArray} {K : Option Addr → Nat → Nat → World → Prop}
    (h : Own .u8 e (fun b => lo ≤ b) w a n c ys) (hs : n + s.size ≤ 140737488355328) (hlo : lo ≤ w.heap.size)
    (hk : ∀ a' c' w', Own .u8 e (fun b => lo ≤ b) w' a' (n + s.size) c' (ys ++ sI s) → Chg (fun b => lo ≤ b) w w' → K a' (n + s.size) c' w') : appT e 1 [.int .u8 0] a n c s w K := by
  unfold appT
  rw [show bytesOf s = (sI s).map (Value.int .u8) by simp [bytesOf, sI]]
  exact appG_own h (sI_length s) (by omega) (by omega) fun a' c' w' ho hc => hk a' c' w' (ho.mono fun b hb _ => hb.elim id fun h => by omega) hc
/-! ### Writers -/
abbrev Part : Type := Option Addr × Nat × Nat × List Int
def pcell (q : Part) : Value := .slice q.1 q.2.1 q.2.2.1
def pflat (P : List Part) : List Int := (P.map fun q => q.2.2.2).flatten
theorem pflat_one (a : Option Addr) (n c : Nat) (xs : List Int) : pflat [(a, n, c, xs)] = xs := by simp [pflat]
theorem put_l1 {T : TypeId} {w0 : World} {bp bw mc : Nat} {S : Nat → Prop} {P : List Part} {ys : List Int} {K : World → Prop} (hp : Bl T w0 bp (P.map pcell)) (hbp : bp ≠ bw) (hbS : ¬ S bp) (hbwS : ¬ S bw) (hbw : bw < w0.heap.size)
    (hP : ∀ q ∈ P, SlI .u8 w0 q.1 q.2.2.2 ∧ q.2.2.2.length = q.2.1 ∧ ∀ p, q.1 = some p → q.2.2.2 ≠ [] → p.block ≠ bw ∧ ¬ S p.block) (hsz : ys.length + (pflat P).length ≤ 1000000) (hPl : P.length ≤ 1000)
    (hk : ∀ w a n c, Bl 78 w bw [.slice a n c] → Own .u8 5 (fun b => S b ∨ w0.heap.size ≤ b) w a n c (ys ++ pflat P) → Chg (fun j => j = bw ∨ S j ∨ w0.heap.size ≤ j) w0 w → K w) (N : Nat) :
    ∀ (i : Nat) (w : World) (a : Option Addr) (n c : Nat), i ≤ P.length → P.length - i < N → Bl 78 w bw [.slice a n c] → Own .u8 5 (fun b => S b ∨ w0.heap.size ≤ b) w a n c (ys ++ pflat (P.take i)) → Chg (fun j => j = bw ∨ S j ∨ w0.heap.size ≤ j) w0 w →
      num_buffer_put.l1 N (some ⟨bw, 0, none⟩) (some ⟨bp, 0, none⟩) P.length mc (P.length : Int) (i : Int) w K := by
  induction N with
  | zero => intro i w a n c h1 h2; omega
  | succ N ih =>
    intro i w a n c h1 h2 hw ho hc
    rw [num_buffer_put.l1]
    have z0 := hc.size
    have hbpl := hp.lt
    refine cond_of (fun hh => ?_) (fun hh => ?_)
    · have hi : i < P.length := by have := of_decide_eq_true hh; omega
      obtain ⟨hq1, hq2, hq3⟩ := hP P[i] (List.getElem_mem hi)
      have hqlt : ∀ p, P[i].1 = some p → P[i].2.2.2 ≠ [] → p.block < w0.heap.size := old3 hq1
      have hnS : ¬ (bp = bw ∨ S bp ∨ w0.heap.size ≤ bp) := fun h => by
        rcases h with h | h | h
        · exact hbp h
        · exact hbS h
        · omega
      refine sm_some (if_of ⟨by omega, by omega⟩ ?_)
      rw [Int.toNat_natCast, add_mk, Nat.zero_add]
      refine ldL_b (i := i) (p := P[i].1) (n := P[i].2.1) (c := P[i].2.2.1) (hp.chg hc hnS) (by rw [List.getElem?_map, List.getElem?_eq_getElem hi]; rfl) (sm_some (ldL_b (i := 0) hw rfl ?_))
      have hq1' : SlI .u8 w P[i].1 P[i].2.2.2 := hq1.chg hc fun p hp hne h => by
        have h3 := hq3 p hp hne
        have h4 := hqlt p hp hne
        rcases h with h | h | h
        · exact h3.1 h
        · exact h3.2 h
        · omega
      have hfl : pflat (P.take i) ++ P[i].2.2.2 = pflat (P.take (i + 1)) := by
        have e : P.take (i + 1) = P.take i ++ [P[i]] := by rw [List.take_add_one, List.getElem?_eq_getElem hi]; rfl
        unfold pflat
        rw [e, List.map_append, List.flatten_append]
        show _ = _ ++ (_ ++ [])
        rw [List.append_nil]
      have hle : (pflat (P.take (i + 1))).length ≤ (pflat P).length := by
        have e : pflat P = pflat (P.take (i + 1)) ++ pflat (P.drop (i + 1)) := by
          unfold pflat
          rw [← List.flatten_append, ← List.map_append, List.take_append_drop]
        rw [e, List.length_append]; omega
      have hn := ho.length
      have hfl2 := congrArg List.length hfl
      simp only [List.length_append] at hn hfl2
      refine appL_own ho hq1' hq2 (by omega) (by omega) fun a' c' w1 ho1 c1 => sm_some ?_
      have hbwS' : ¬ (S bw ∨ w0.heap.size ≤ bw) := fun h => h.elim hbwS fun h => by omega
      have hw1 := hw.chg c1 hbwS'
      refine stC_b (i := 0) hw1 (by simp) fun w2 hw2 c2 => ?_
      have ho2 : Own .u8 5 (fun b => S b ∨ w0.heap.size ≤ b) w1 a' (n + P[i].2.1) c' (ys ++ pflat (P.take (i + 1))) := by
        rw [← hfl, ← List.append_assoc]
        exact ho1.mono fun b hb _ => hb.elim id fun h => .inr (by omega)
      rw [inc (by omega)]
      refine ih (i + 1) w2 a' _ c' (by omega) (by omega) hw2 (ho2.chg c2 fun b hb h => ?_) ((hc.trans (c1.mono fun j h => .inr h)).trans (c2.mono fun j h => .inl h))
      have h : b = bw := h
      subst h
      exact hbwS' hb
    · have : i = P.length := by have := of_decide_eq_false hh; omega
      subst this
      rw [List.take_length] at ho
      exact hk w a n c hw ho hc
def WS (w : World) (bw lo : Nat) (ys : List Int) : Prop := ∃ a n c, Bl 78 w bw [.slice a n c] ∧ Own .u8 5 (fun b => lo ≤ b ∧ b ≠ bw ∧ b < w.heap.size) w a n c ys
theorem WS.chg {w w' : World} {bw lo : Nat} {ys : List Int} (h : WS w bw lo ys) (hc : Chg no w w') : WS w' bw lo ys := by
  obtain ⟨a, n, c, hb, ho⟩ := h
  have := hc.size
  exact ⟨a, n, c, hb.chg hc id, (ho.mono fun b hb _ => ⟨hb.1, hb.2.1, by omega⟩).chg hc fun _ _ h => h⟩
theorem WS.put {T : TypeId} {w w3 : World} {bp bw lo mc : Nat} {P : List Part} {ys : List Int} {K : World → Prop} (h : WS w bw lo ys) (hc : Chg no w w3) (hlo : lo ≤ bw) (hp : Bl T w3 bp (P.map pcell)) (hbp : w.heap.size ≤ bp)
    (hP : ∀ q ∈ P, SlI .u8 w3 q.1 q.2.2.2 ∧ q.2.2.2.length = q.2.1 ∧ ∀ p, q.1 = some p → q.2.2.2 ≠ [] → w.heap.size ≤ p.block) (hsz : ys.length + (pflat P).length ≤ 1000000) (hPl : P.length ≤ 1000)
    (hk : ∀ w', WS w' bw lo (ys ++ pflat P) → Chg (fun j => lo ≤ j) w3 w' → K w') : num_Writer_Raw.f (some ⟨bw, 0, none⟩) (some ⟨bp, 0, none⟩) P.length mc w3 K := by
  obtain ⟨a, n, c, hb, ho⟩ := h
  have hbl := hb.lt
  have z := hc.size
  unfold num_Writer_Raw.f num_buffer_put.f
  refine bif_t rfl (sm_some ⟨P.length + 1, ?_⟩)
  refine put_l1 (S := fun b => lo ≤ b ∧ b ≠ bw ∧ b < w.heap.size) (w0 := w3) hp (by omega) (by omega) (by omega) (by omega) (fun q hq => ⟨(hP q hq).1, (hP q hq).2.1, fun p h1 h2 => ?_⟩) hsz hPl (fun w' a' n' c' hb' ho' hc' => ?_) (P.length + 1) 0 w3 a n c (by omega) (by omega) (hb.chg hc id) ?_ (Chg.refl _ _)
  · have := (hP q hq).2.2 p h1 h2
    omega
  · have z' := hc'.size
    refine hk w' ⟨a', n', c', hb', ho'.mono fun b hb hlt => ?_⟩ (hc'.mono fun j h => ?_)
    · omega
    · omega
  · rw [show pflat (P.take 0) = [] from rfl, List.append_nil]
    exact (ho.mono fun b hb _ => .inl hb).chg hc fun _ _ h => h
theorem WS.lit {w : World} {bw lo : Nat} {ys : List Int} {K : World → Prop} (xs : List Int) (h : WS w bw lo ys) (hlo : lo ≤ bw) (hsz : ys.length + xs.length ≤ 1000000)
    (hk : ∀ w', WS w' bw lo (ys ++ xs) → Chg (fun j => lo ≤ j) w w' → K w') :
    newC 5 (xs.map (Value.int .u8)) w fun a w => mkStr a w fun w => newC 22 [.slice (some a) xs.length xs.length] w fun p w => num_Writer_Raw.f (some ⟨bw, 0, none⟩) (some p) 1 1 w K := by
  have hbl : bw < w.heap.size := by obtain ⟨a, n, c, hb, _⟩ := h; exact hb.lt
  refine newC_i rfl fun w1 hb1 c1 s1 => mkStr_x hb1 fun w2 hs2 c2 => newC_b fun w3 hb3 c3 s3 => ?_
  have z2 := c2.size
  have k3 : Chg no w w3 := (c1.then c2 fun k hk h => by omega).trans c3
  refine WS.put (P := [(some ⟨w.heap.size, 0, none⟩, xs.length, xs.length, xs)]) h k3 hlo hb3 (by omega) (fun q hq => ?_) (by rw [pflat_one]; exact hsz) (by simp) fun w4 h4 c4 => hk w4 (by rw [pflat_one] at h4; exact h4) ((k3.mono fun _ h => h.elim).trans c4)
  rw [List.mem_singleton] at hq
  subst hq
  exact ⟨hs2.chg c3 fun _ _ _ h => h, rfl, fun p hp _ => by cases hp; exact Nat.le_refl _⟩
/-- The bytes of a number, the lowest first. -/
def leB (v m : Nat) : List Int := (List.range m).map fun k => ((v / 256 ^ k % 256 : Nat) : Int)
theorem leB_length (v m : Nat) : (leB v m).length = m := by simp [leB]
theorem leB_snoc (v k : Nat) : leB v k ++ [((v / 256 ^ k % 256 : Nat) : Int)] = leB v (k + 1) := by
  unfold leB; rw [List.range_succ, List.map_append]; rfl
theorem shr_byte (v k : Nat) : IntKind.wrap .u8 (shr .u64 (v : Int) (8 * k)) = ((v / 256 ^ k % 256 : Nat) : Int) := by
  rw [shr_nat, wu8_eq, Nat.shiftRight_eq_div_pow, p256]; omega
theorem WS.little {w : World} {bw lo : Nat} {ys : List Int} {K : World → Prop} (v m : Nat) (h : WS w bw lo ys) (hlo : lo ≤ bw) (hm : m ≤ 8) (hsz : ys.length ≤ 900000)
    (hk : ∀ w', WS w' bw lo (ys ++ leB v m) → Chg (fun j => lo ≤ j) w w' → K w') : num_Writer_Little.f (some ⟨bw, 0, none⟩) (v : Int) (m : Int) w K := by
  unfold num_Writer_Little.f
  rw [show mx (mn (m : Int) 8) 0 = (m : Int) by unfold mx mn; rw [if_neg (by omega), if_neg (by omega)]]
  suffices go : ∀ (N k : Nat) (w' : World), k ≤ m → m - k < N → WS w' bw lo (ys ++ leB v k) → Chg (fun j => lo ≤ j) w w' → num_Writer_Little.l1 N (some ⟨bw, 0, none⟩) (v : Int) (m : Int) (k : Int) w' K from
    ⟨m + 1, go (m + 1) 0 w (by omega) (by omega) (by rw [show leB v 0 = [] from rfl, List.append_nil]; exact h) (Chg.refl _ _)⟩
  intro N
  induction N with
  | zero => intro k w' h1 h2; omega
  | succ N ih =>
    intro k w' h1 h2 hw hc
    rw [num_Writer_Little.l1]
    refine cond_of (fun hh => ?_) (fun hh => ?_)
    · have hk' : k < m := by have := of_decide_eq_true hh; omega
      have e8 : IntKind.wrap .i64 (8 * (k : Int)) = ((8 * k : Nat) : Int) := by rw [w64 (by omega) (by omega)]; omega
      rw [e8, Int.toNat_natCast, show IntKind.bits .u64 = 64 from rfl, Nat.min_eq_left (by omega)]
      refine ifn_of (by omega) ?_
      rw [shr_byte]
      have hbl : bw < w'.heap.size := by obtain ⟨a, n, c, hb, _⟩ := hw; exact hb.lt
      have hll := leB_length v k
      refine newC_i (k := .u8) (xs := [((v / 256 ^ k % 256 : Nat) : Int)]) rfl fun w1 hb1 c1 s1 => newC_b fun w3 hb3 c3 s3 => ?_
      have k3 := c1.trans c3
      refine WS.put (P := [(some ⟨w'.heap.size, 0, none⟩, 1, 1, [((v / 256 ^ k % 256 : Nat) : Int)])]) hw k3 hlo hb3 (by omega) (fun q hq => ?_) (by rw [pflat_one, List.length_append, hll]; simp; omega) (by simp) fun w4 h4 c4 => ?_
      · rw [List.mem_singleton] at hq
        subst hq
        exact ⟨(hb1.chg c3 id).sl, rfl, fun p hp _ => by cases hp; exact Nat.le_refl _⟩
      · rw [inc (by omega)]
        refine ih (k + 1) w4 (by omega) (by omega) ?_ ((hc.trans (k3.mono fun _ h => h.elim)).trans c4)
        rw [← leB_snoc, ← List.append_assoc]
        rw [pflat_one] at h4; exact h4
    · have : k = m := by have := of_decide_eq_false hh; omega
      subst this; exact hk w' hw hc
theorem clone_ok {x : Option Addr} {n c : Nat} {xs : List Int} {w : World} {K : Option Addr → Nat → Nat → World → Prop} (hx : SlI .u8 w x xs) (hxl : xs.length = n) (hn : n ≤ 1000000)
    (hk : ∀ a' c' w', Own .u8 5 (fun b => w.heap.size ≤ b) w' a' n c' xs → Chg no w w' → K a' n c' w') : bytes_Clone.f x n c w K := by
  unfold bytes_Clone.f
  cases x with
  | none =>
    have hxs : xs = [] := by
      cases xs with
      | nil => rfl
      | cons y ys => obtain ⟨p, hp, _⟩ := hx 0 (by simp); cases hp
    subst hxs
    subst hxl
    exact bif_t rfl (hk none 0 w (Own.nil _ _ _ _) (Chg.refl _ _))
  | some p =>
    refine bif_f rfl (newC_i (k := .u8) (xs := []) rfl fun w1 hb1 c1 s1 => ?_)
    have ho := hb1.own (fun b => b = w.heap.size) rfl
    refine appL_own ho (hx.chg c1 fun _ _ _ h => h) hxl (by simp; omega) (by omega) fun a' c' w2 ho2 c2 => ?_
    have ho3 : Own .u8 5 (fun b => w.heap.size ≤ b) w2 a' (0 + n) c' xs := ho2.mono fun b hb _ => by omega
    rw [Nat.zero_add] at ho3
    show K a' (0 + n) c' w2
    rw [Nat.zero_add]
    exact hk a' c' w2 ho3 (c1.then c2 fun k hk h => by omega)
theorem WS.bytes {w : World} {bw lo : Nat} {ys : List Int} {K : Option Addr → Nat → Nat → World → Prop} (h : WS w bw lo ys) (hsz : ys.length ≤ 1000000)
    (hk : ∀ a' c' w', Own .u8 5 (fun b => b = w.heap.size) w' a' ys.length c' ys → Chg no w w' → K a' ys.length c' w') : num_Writer_Bytes.f (some ⟨bw, 0, none⟩) w K := by
  obtain ⟨a, n, c, hb, ho⟩ := h
  have hn := ho.length
  subst hn
  unfold num_Writer_Bytes.f
  exact bif_f rfl (sm_some (ldL_b (i := 0) hb rfl (cpS ho.sl rfl (by omega) (by omega) hk)))
theorem ref02_Little_ok {w : World} {K : Option Addr → Nat → Nat → World → Prop} (v m : Nat) (hm : m ≤ 8)
    (hk : ∀ a' c' w', Own .u8 5 (fun b => w.heap.size ≤ b) w' a' m c' (leB v m) → Chg no w w' → K a' m c' w') : ref02_Little.f (v : Int) (m : Int) w K := by
  unfold ref02_Little.f
  suffices go : ∀ (N k : Nat) (a : Option Addr) (c : Nat) (w' : World), k ≤ m → m - k < N → Own .u8 5 (fun b => w.heap.size ≤ b) w' a k c (leB v k) → Chg no w w' → ref02_Little.l3 N (v : Int) (m : Int) a k c (k : Int) w' K from
    ⟨m + 1, go (m + 1) 0 none 0 w (by omega) (by omega) (Own.nil _ _ _ _) (Chg.refl _ _)⟩
  intro N
  induction N with
  | zero => intro k a c w' h1 h2; omega
  | succ N ih =>
    intro k a c w' h1 h2 ho hc
    rw [ref02_Little.l3, show mx 0 (mn (m : Int) 8) = (m : Int) by unfold mx mn; split <;> split <;> omega]
    refine cond_of (fun hh => ?_) (fun hh => ?_)
    · have hk' : k < m := by have := of_decide_eq_true hh; omega
      have e8 : IntKind.wrap .u64 (IntKind.wrap .i64 (8 * (k : Int))) = ((8 * k : Nat) : Int) := by rw [w64 (by omega) (by omega), wu64 (by omega) (by omega)]; omega
      rw [e8, Int.toNat_natCast, show IntKind.bits .u64 = 64 from rfl, Nat.min_eq_left (by omega)]
      refine ifn_of (by omega) ?_
      rw [shr_byte]
      refine newC_sl (k := .u8) (xs := [((v / 256 ^ k % 256 : Nat) : Int)]) rfl fun p w1 hs1 c1 s1 _ => ?_
      have z := hc.size
      refine apS (ho.chg c1 fun _ _ h => h) hs1 rfl (by omega) (by omega) (by omega) fun a' c' w2 ho2 c2 => ?_
      rw [leB_snoc] at ho2
      dsimp only
      rw [inc (by omega)]
      exact ih (k + 1) a' c' w2 (by omega) (by omega) ho2 ((hc.trans c1).then c2 fun k hk h => by omega)
    · have : k = m := by have := of_decide_eq_false hh; omega
      subst this; exact hk a c w' ho hc
end Go.Proofs.Ytinmhmphidgdeaa.G
