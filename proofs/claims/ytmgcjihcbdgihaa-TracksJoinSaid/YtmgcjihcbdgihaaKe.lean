/- What the tracks' functions and their reference come to. -/
import Derived.Test.YtmgcjihcbdgihaaXh
import Derived.Test.YtmgcjihcbdgihaaVmR
set_option linter.unusedVariables false
set_option linter.unusedSimpArgs false
namespace Go.Proofs.Ytmgcjihcbdgihaa.G
open Go Go.Proofs.Ytmgcjihcbdgihaa.Vm Go.RowKit
/-- Samples dealt out to tracks. -/
def spl (ch : Nat) (v : Nat → Int) : Nat → List (List Int)
  | 0 => List.replicate ch []
  | k + 1 => (spl ch v k).set (k % ch) ((spl ch v k).getD (k % ch) [] ++ [v k])
theorem spl_length (ch : Nat) (v : Nat → Int) : ∀ k, (spl ch v k).length = ch
  | 0 => by simp [spl]
  | k + 1 => by rw [spl, List.length_set, spl_length ch v k]
theorem spl_row {ch : Nat} {v : Nat → Int} : ∀ {k : Nat} {l : List Int}, l ∈ spl ch v k → l.length ≤ k
  | 0, l, h => by
    rw [spl] at h
    rw [(List.mem_replicate.1 h).2]; simp
  | k + 1, l, h => by
    rw [spl] at h
    rcases List.mem_or_eq_of_mem_set h with h | h
    · have := spl_row h; omega
    · subst h
      rw [List.length_append, List.length_singleton, List.getD_eq_getElem?_getD]
      cases hg : (spl ch v k)[k % ch]? with
      | none => simp
      | some r =>
        have := spl_row (List.mem_of_getElem? hg)
        simp only [Option.getD_some]; omega
theorem spl_get {ch : Nat} {v : Nat → Int} (h : 0 < ch) (k : Nat) : (spl ch v k)[k % ch]? = some ((spl ch v k).getD (k % ch) []) := by
  have : k % ch < (spl ch v k).length := by rw [spl_length]; exact Nat.mod_lt _ h
  rw [List.getD_eq_getElem?_getD, List.getElem?_eq_getElem this]; rfl
/-- A sample of two bytes. -/
def s16 (x y : Int) : Int := IntKind.wrap .i32 (IntKind.wrap .i16 (bor .u16 (IntKind.wrap .u16 x) (shl .u16 (IntKind.wrap .u16 y) 8)))
/-- The k-th sample of bytes. -/
def smp (D : Nat) (xs : List Int) (k : Nat) : Int := if D = 2 then s16 (xs.getD (2 * k) 0) (xs.getD (2 * k + 1) 0) else xs.getD k 0 - 128
theorem getD_some {xs : List Int} {i : Nat} (h : i < xs.length) : xs[i]? = some (xs.getD i 0) := by
  rw [List.getD_eq_getElem?_getD, List.getElem?_eq_getElem h]; rfl
theorem hdr_of {k : IntKind} {e eo : TypeId} {S : Nat → Prop} {w : World} {bo : Nat} {hs : List Hdr} {L : List (List Int)} {i : Nat} (h : OwnR k e eo S w bo hs L) (hi : i < L.length) : ∃ g, hs[i]? = some g := by
  have : i < hs.length := by rw [h.len]; exact hi
  exact ⟨hs[i], List.getElem?_eq_getElem this⟩
theorem w32 {a : Int} (h0 : -2147483648 ≤ a) (h1 : a ≤ 2147483647) : IntKind.wrap .i32 a = a := by
  simp [IntKind.wrap, IntKind.bits, IntKind.signed]; omega
theorem rdHead {e : TypeId} {w : World} {b n i : Nat} {hs : List Hdr} {g : Hdr} {x : Int} {K : Addr → Option Addr → Nat → Nat → Prop} (h : Bl e w b (hs.map Hdr.v)) (hx : x = i) (hn : i < n) (hg : hs[i]? = some g)
    (hk : ∀ p, p = (⟨b, 0, none⟩ : Addr) → K p g.1 g.2.1 g.2.2) : sm (some ⟨b, 0, none⟩) fun p => if 0 ≤ x ∧ x < (n : Int) then ldL (p.add x.toNat) w (K p) else False := by
  subst hx
  refine sm_some (if_of ⟨by omega, by omega⟩ ?_)
  rw [show Int.toNat (i : Int) = i by omega, add_mk, Nat.zero_add]
  exact ldL_b h (by rw [List.getElem?_map, hg]; rfl) (hk _ rfl)
theorem grow_step {lo bo ch k i : Nat} {e v : Int} {sv : Nat → Int} {w : World} {hs : List Hdr} {K' : World → Prop} (h : OwnR .i32 21 38 (fun b => lo ≤ b) w bo hs (spl ch sv k)) (hch : 0 < ch) (hk5 : k ≤ 5000) (hlo : lo ≤ w.heap.size) (hi : i = k % ch) (he : e = i) (hv : v = sv k)
    (hk : ∀ w' hs', OwnR .i32 21 38 (fun b => lo ≤ b) w' bo hs' (spl ch sv (k + 1)) → Chg (fun b => lo ≤ b) w w' → K' w') :
    sm (some ⟨bo, 0, none⟩) fun p_32 =>
        if 0 ≤ e ∧ e < (ch : Int) then
        ldL (p_32.add e.toNat) w fun x68_33 x68_33n x68_33c =>
        newC 21 [(Value.int .i32 v)] w fun a70_34 w =>
        appL 21 1 4 [(Value.int .i32 0)] x68_33 x68_33n x68_33c (some a70_34) 1 1 w fun a71_35 a71_35n a71_35c w =>
        sm (some ⟨bo, 0, none⟩) fun p_36 =>
        if 0 ≤ e ∧ e < (ch : Int) then
        stC (p_36.add e.toNat) (Value.slice a71_35 a71_35n a71_35c) w fun w => K' w
        else False
        else False := by
  have hlt : k % ch < ch := Nat.mod_lt _ hch
  rw [← hi] at hlt
  obtain ⟨g, hg⟩ := hdr_of h (i := i) (by rw [spl_length]; exact hlt)
  have hl := spl_get (v := sv) hch k
  rw [← hi] at hl
  refine rdHead h.head he hlt hg fun p _ => ?_
  refine newC_sl (k := .i32) (xs := [v]) rfl fun q w1 hsl hc1 hs1 hq => ?_
  have hlen := spl_row (List.mem_of_getElem? hl)
  refine OwnR.append (lo := lo) (h.chg hc1 fun _ _ h => h) hg hl hsl rfl (by omega) (by omega) (by omega) fun a' c' w2 hst hc2 => ?_
  refine sm_some (if_of ⟨by omega, by omega⟩ ?_)
  rw [show e.toNat = i by omega, add_mk, Nat.zero_add]
  refine hst _ fun w3 hR hc3 => hk w3 (hs.set i (a', g.2.1 + 1, c')) ?_ ((hc1.mono fun _ h => h.elim).trans hc3)
  rw [spl, ← hi, ← hv]; exact hR
theorem tracks_Split_l8 {w0 : World} {lo bo n xc ch D T : Nat} {x : Option Addr} {xs : List Int} {K0 : Option Addr → Nat → Nat → World → Prop} (hx : SlI .u8 w0 x xs) (hxS : ∀ p, x = some p → xs ≠ [] → ¬ lo ≤ p.block) (hxl : xs.length = n) (hb : By xs)
    (hT : n = T * D) (hD : D = 1 ∨ D = 2) (hch : 0 < ch) (hch8 : ch ≤ 8) (hn : n ≤ 5000)
    (hk : ∀ w hs, OwnR .i32 21 38 (fun b => lo ≤ b) w bo hs (spl ch (smp D xs) T) → Chg (fun b => lo ≤ b) w0 w → K0 (some ⟨bo, 0, none⟩) ch ch w) (N : Nat) :
    ∀ (k : Nat) (w : World) (hs : List Hdr), k ≤ T → T - k < N → lo ≤ w.heap.size → OwnR .i32 21 38 (fun b => lo ≤ b) w bo hs (spl ch (smp D xs) k) → Chg (fun b => lo ≤ b) w0 w →
      tracks_Split.l8 N x n xc ch D (some ⟨bo, 0, none⟩) ch ch ((k * D : Nat) : Int) w K0 := by
  induction N with
  | zero => intro k w hs h1 h2; omega
  | succ N ih =>
    intro k w hs hkT hN hlo hR hc
    rw [tracks_Split.l8]
    by_cases hlt : k < T
    · have hkn : k * D < n := by rw [hT]; rcases hD with rfl | rfl <;> omega
      have hTn : T ≤ 5000 := by rcases hD with rfl | rfl <;> omega
      have hx1 := hx.chg hc hxS
      refine bif_t (dec_t (by omega)) (rdV hx1 (k * D) rfl hxl (getD_some (by omega)) fun _ _ => ?_)
      have ediv : Int.tmod (IntKind.wrap .i64 (Int.tdiv ((k * D : Nat) : Int) (D : Int))) (ch : Int) = ((k % ch : Nat) : Int) := by
        have : Int.tdiv ((k * D : Nat) : Int) (D : Int) = (k : Int) := by rcases hD with rfl | rfl <;> (rw [Int.tdiv_eq_ediv_of_nonneg (by omega)]; omega)
        rw [this, w64 (by omega) (by omega), Int.tmod_eq_emod_of_nonneg (by omega)]; rfl
      have enext : IntKind.wrap .i64 (((k * D : Nat) : Int) + (D : Int)) = (((k + 1) * D : Nat) : Int) := by
        rw [w64 (by omega) (by omega), Nat.succ_mul]; omega
      have bx := hb (xs.getD (k * D) 0) (List.mem_of_getElem? (getD_some (by omega)))
      dsimp only
      rcases hD with rfl | rfl
      · refine bif_f rfl (ifn_of (by decide) (ifn_of (by omega) ?_))
        rw [ediv]
        refine grow_step hR hch (by omega) hlo rfl rfl ?_ fun w' hs' hR' hc' => ?_
        · unfold smp
          rw [if_neg (by decide), Nat.mul_one, w32 (a := xs.getD k 0) (by rw [Nat.mul_one] at bx; omega) (by rw [Nat.mul_one] at bx; omega), w32 (by rw [Nat.mul_one] at bx; omega) (by rw [Nat.mul_one] at bx; omega)]
        · rw [enext]
          have := hc'.size
          exact ih (k + 1) w' hs' (by omega) (by omega) (by omega) hR' (hc.trans hc')
      · have hcd := hc.trans (Chg.drew (fun b => lo ≤ b) w)
        have hx2 := hx.chg hcd hxS
        have e1 : IntKind.wrap .i64 (((k * 2 : Nat) : Int) + 1) = ((k * 2 + 1 : Nat) : Int) := by rw [w64 (by omega) (by omega)]; omega
        rw [e1]
        refine bif_t rfl (rdV hx2 (k * 2) rfl hxl (getD_some (by omega)) fun _ _ => rdV hx2 (k * 2 + 1) rfl hxl (getD_some (by omega)) fun _ _ => ifn_of (by decide) (ifn_of (by omega) ?_))
        rw [ediv]
        refine grow_step (w := w.drew) (hR.chg (Chg.drew no w) fun _ _ h => h) hch (by omega) hlo rfl rfl ?_ fun w' hs' hR' hc' => ?_
        · unfold smp s16
          rw [if_pos rfl, Nat.mul_comm 2 k]
        · rw [enext]
          have := hc'.size
          exact ih (k + 1) w' hs' (by omega) (by omega) (by have : w.drew.heap.size = w.heap.size := rfl; omega) hR' (hcd.trans hc')
    · have : k = T := by omega
      subst this
      exact bif_f (dec_f (by rw [← hT]; omega)) (hk w hs hR hc)
theorem old_lt {k : IntKind} {w : World} {x : Option Addr} {xs : List Int} (hx : SlI k w x xs) {lo : Nat} (h : w.heap.size ≤ lo) : ∀ p, x = some p → xs ≠ [] → ¬ lo ≤ p.block := fun p hp hne => by
  obtain ⟨q, hq, hcq⟩ := hx 0 (List.length_pos_iff.2 hne)
  rw [hp] at hq; cases hq
  have := block_lt hcq
  rw [add_block] at this
  omega
/-- What may be split: so many tracks, of so many bits. -/
def May (a b : Int) : Prop := 1 ≤ a ∧ a ≤ 8 ∧ (b = 8 ∨ b = 16)
theorem tracks_may_ok {a b : Int} {w : World} {K : Bool → World → Prop} (h1 : May a b → K true w) (h2 : ¬ May a b → K false w) : tracks_may.f a b w K := by
  unfold tracks_may.f
  refine cond_of (fun ha => cond_of (fun hb => cond_of (fun hc => ?_) (fun hc => ?_)) (fun hb => ?_)) (fun ha => ?_)
  · exact h1 ⟨of_decide_eq_true ha, of_decide_eq_true hb, .inl (by simpa using hc)⟩
  · have hb8 : b ≠ 8 := by simpa using hc
    by_cases h16 : b = 16
    · subst h16; exact h1 ⟨of_decide_eq_true ha, of_decide_eq_true hb, .inr rfl⟩
    · rw [beq_false_of_ne h16]; exact h2 fun h => by rcases h.2.2 with h | h; exact hb8 h; exact h16 h
  · exact h2 fun h => of_decide_eq_false hb h.2.1
  · exact h2 fun h => of_decide_eq_false ha h.1
theorem tracks_Split_ok {x : Option Addr} {n xc : Nat} {a b : Int} {xs : List Int} {w : World} {K : Option Addr → Nat → Nat → Int → World → Prop} (hx : SlI .u8 w x xs) (hxl : xs.length = n) (hb : By xs) (hn : n ≤ 5000)
    (h1 : ¬ May a b → K none 0 0 1 w)
    (h4 : ∀ ch D : Nat, a = ch → b = 8 * D → (D = 1 ∨ D = 2) → 1 ≤ ch → ch ≤ 8 → n % (ch * D) ≠ 0 → K none 0 0 4 w)
    (h0 : ∀ (ch D T bo : Nat) hs w', a = ch → b = 8 * D → (D = 1 ∨ D = 2) → 1 ≤ ch → ch ≤ 8 → n % (ch * D) = 0 → n = T * D → OwnR .i32 21 38 (fun b => w.heap.size ≤ b) w' bo hs (spl ch (smp D xs) T) → Chg no w w' → K (some ⟨bo, 0, none⟩) ch ch 0 w') :
    tracks_Split.f x n xc a b w K := by
  unfold tracks_Split.f
  refine tracks_may_ok (fun hm => ?_) (fun hm => bif_t rfl (h1 hm))
  refine bif_f rfl ?_
  obtain ⟨a1, a8, hb816⟩ := hm
  obtain ⟨ch, rfl⟩ : ∃ ch : Nat, a = ch := ⟨a.toNat, by omega⟩
  obtain ⟨D, hD, hbD⟩ : ∃ D : Nat, (D = 1 ∨ D = 2) ∧ b = 8 * D := by rcases hb816 with h | h; exact ⟨1, .inl rfl, by omega⟩; exact ⟨2, .inr rfl, by omega⟩
  have ed : IntKind.wrap .i64 (Int.tdiv b 8) = (D : Int) := by
    rw [hbD, Int.tdiv_eq_ediv_of_nonneg (by omega), w64 (by omega) (by omega)]; omega
  have em : IntKind.wrap .i64 ((ch : Int) * (D : Int)) = ((ch * D : Nat) : Int) := by
    have : (ch : Int) * (D : Int) = ((ch * D : Nat) : Int) := by simp
    rw [this, w64 (by rcases hD with rfl | rfl <;> omega) (by rcases hD with rfl | rfl <;> omega)]
  have hpos : 0 < ch * D := Nat.mul_pos (by omega) (by omega)
  rw [ed]
  dsimp only
  rw [em]
  refine ifn_of (by omega) ?_
  have emod : Int.tmod (n : Int) ((ch * D : Nat) : Int) = ((n % (ch * D) : Nat) : Int) := by rw [Int.tmod_eq_emod_of_nonneg (by omega)]; rfl
  rw [emod]
  refine cond_of (fun h => ?_) (fun h => ?_)
  · refine h4 ch D rfl hbD hD (by omega) (by omega) fun h0 => ?_
    rw [h0] at h; simp at h
  · have hz : n % (ch * D) = 0 := by
      have : ¬ (((n % (ch * D) : Nat) : Int) != 0) = true := by rw [h]; simp
      simp only [bne_iff_ne, ne_eq, Decidable.not_not] at this
      omega
    obtain ⟨q, hq⟩ := Nat.dvd_of_mod_eq_zero hz
    have hT : n = (q * ch) * D := by rw [hq]; ac_rfl
    refine mkL_v (by omega) (by omega) (by omega) (by omega) fun w1 hb1 hc1 hs1 => ⟨q * ch + 1, ?_⟩
    rw [Int.toNat_natCast] at hb1 ⊢
    have hR := OwnR.new (k := .i32) (e := 21) (S := fun b => w.heap.size ≤ b) hb1 (Nat.le_refl _)
    have := tracks_Split_l8 (w0 := w1) (lo := w.heap.size) (bo := w.heap.size) (xc := xc) (ch := ch) (D := D) (T := q * ch) (K0 := fun o9_40 o9_40n o9_40c w => K o9_40 o9_40n o9_40c 0 w) (hx.chg hc1 fun _ _ _ h => h) (old_lt hx (Nat.le_refl _)) hxl hb hT hD (by omega) (by omega) hn
      (fun w2 hs hR2 hc2 => h0 ch D (q * ch) w.heap.size hs w2 rfl hbD hD (by omega) (by omega) hz hT hR2 (hc1.then hc2 fun k hk h => by omega)) (q * ch + 1) 0 w1 _ (by omega) (by omega) (by omega) hR (Chg.refl _ _)
    rw [Nat.zero_mul] at this
    exact this
theorem grow_step2 {lo bo ch k i : Nat} {e v : Int} {sv : Nat → Int} {w : World} {hs : List Hdr} {K' : World → Prop} (h : OwnR .i32 21 38 (fun b => lo ≤ b) w bo hs (spl ch sv k)) (hch : 0 < ch) (hk5 : k ≤ 5000) (hlo : lo ≤ w.heap.size) (hi : i = k % ch) (he : e = i) (hv : v = sv k)
    (hk : ∀ w' hs', OwnR .i32 21 38 (fun b => lo ≤ b) w' bo hs' (spl ch sv (k + 1)) → Chg (fun b => lo ≤ b) w w' → K' w') :
    sm (some ⟨bo, 0, none⟩) fun p_32 =>
        if 0 ≤ e ∧ e < (ch : Int) then
        ldL (p_32.add e.toNat) w.drew fun x68_33 x68_33n x68_33c =>
        newC 21 [(Value.int .i32 v)] w.drew fun a70_34 w =>
        (World.cell? w (p_32.add e.toNat) = some (.slice x68_33 x68_33n x68_33c)) ∧
        (appL 21 1 4 [(Value.int .i32 0)] x68_33 x68_33n x68_33c (some a70_34) 1 1 w fun a71_35 a71_35n a71_35c w =>
        sm (some ⟨bo, 0, none⟩) fun p_36 =>
        if 0 ≤ e ∧ e < (ch : Int) then
        stC (p_36.add e.toNat) (Value.slice a71_35 a71_35n a71_35c) w fun w => K' w
        else False)
        else False := by
  have hlt : k % ch < ch := Nat.mod_lt _ hch
  rw [← hi] at hlt
  obtain ⟨g, hg⟩ := hdr_of h (i := i) (by rw [spl_length]; exact hlt)
  have hl := spl_get (v := sv) hch k
  rw [← hi] at hl
  have h' : OwnR .i32 21 38 (fun b => lo ≤ b) w.drew bo hs (spl ch sv k) := h.chg (Chg.drew no w) fun _ _ h => h
  refine rdHead h'.head he hlt hg fun p hp => ?_
  refine newC_sl (k := .i32) (xs := [v]) rfl fun q w1 hsl hc1 hs1 hq => ?_
  have hlen := spl_row (List.mem_of_getElem? hl)
  have h1 := h'.chg hc1 fun _ _ h => h
  refine ⟨by subst hp; rw [show e.toNat = i by omega, add_mk, Nat.zero_add]; exact h1.head.cell (by rw [List.getElem?_map, hg]; rfl), ?_⟩
  have hdsz : w.drew.heap.size = w.heap.size := rfl
  refine OwnR.append (lo := lo) h1 hg hl hsl rfl (by omega) (by omega) (by omega) fun a' c' w2 hst hc2 => ?_
  refine sm_some (if_of ⟨by omega, by omega⟩ ?_)
  rw [show e.toNat = i by omega, add_mk, Nat.zero_add]
  refine hst _ fun w3 hR hc3 => hk w3 (hs.set i (a', g.2.1 + 1, c')) ?_ ((((Chg.drew no w).trans hc1).mono fun _ h => h.elim).trans hc3)
  rw [spl, ← hi, ← hv]; exact hR
theorem ref14_Split_l8 {w0 : World} {lo bo n xc ch D T : Nat} {b2 : Int} {x : Option Addr} {xs : List Int} {K0 : Option Addr → Nat → Nat → World → Prop} (hx : SlI .u8 w0 x xs) (hxS : ∀ p, x = some p → xs ≠ [] → ¬ lo ≤ p.block) (hxl : xs.length = n) (hb : By xs)
    (hT : n = T * D) (hD : D = 1 ∨ D = 2) (hbD : b2 = 8 * D) (hch : 0 < ch) (hch8 : ch ≤ 8) (hn : n ≤ 5000)
    (hk : ∀ w hs, OwnR .i32 21 38 (fun b => lo ≤ b) w bo hs (spl ch (smp D xs) T) → Chg (fun b => lo ≤ b) w0 w → K0 (some ⟨bo, 0, none⟩) ch ch w) (N : Nat) :
    ∀ (k : Nat) (w : World) (hs : List Hdr), k ≤ T → T - k < N → lo ≤ w.heap.size → OwnR .i32 21 38 (fun b => lo ≤ b) w bo hs (spl ch (smp D xs) k) → Chg (fun b => lo ≤ b) w0 w →
      ref14_Split.l8 N x n xc ch b2 D (some ⟨bo, 0, none⟩) ch ch (k : Int) w K0 := by
  induction N with
  | zero => intro k w hs h1 h2; omega
  | succ N ih =>
    intro k w hs hkT hN hlo hR hc
    rw [ref14_Split.l8]
    have hTn : T ≤ 5000 := by rcases hD with rfl | rfl <;> omega
    have eT : IntKind.wrap .i64 (Int.tdiv (n : Int) (D : Int)) = (T : Int) := by
      have : Int.tdiv (n : Int) (D : Int) = (T : Int) := by rcases hD with rfl | rfl <;> (rw [Int.tdiv_eq_ediv_of_nonneg (by omega)]; omega)
      rw [this, w64 (by omega) (by omega)]
    rw [eT]
    refine ifn_of (by omega) ?_
    by_cases hlt : k < T
    · have hkn : k * D < n := by rw [hT]; rcases hD with rfl | rfl <;> omega
      have hx1 := hx.chg hc hxS
      have ek : IntKind.wrap .i64 ((k : Int) * (D : Int)) = ((k * D : Nat) : Int) := by
        have : (k : Int) * (D : Int) = ((k * D : Nat) : Int) := by simp
        rw [this, w64 (by omega) (by omega)]
      rw [ek]
      refine bif_t (dec_t (by omega)) (rdV hx1 (k * D) rfl hxl (getD_some (by omega)) fun _ _ => ?_)
      have emod : Int.tmod (k : Int) (ch : Int) = ((k % ch : Nat) : Int) := by rw [Int.tmod_eq_emod_of_nonneg (by omega)]; rfl
      have bx := hb (xs.getD (k * D) 0) (List.mem_of_getElem? (getD_some (by omega)))
      dsimp only
      rw [hbD]
      rcases hD with rfl | rfl
      · refine bif_f (by decide) (ifn_of (by omega) (ifn_of (by omega) ?_))
        rw [emod]
        refine grow_step2 hR hch (by omega) hlo rfl rfl ?_ fun w' hs' hR' hc' => ?_
        · unfold smp
          rw [if_neg (by decide), Nat.mul_one, w32 (a := xs.getD k 0) (by rw [Nat.mul_one] at bx; omega) (by rw [Nat.mul_one] at bx; omega), w32 (by rw [Nat.mul_one] at bx; omega) (by rw [Nat.mul_one] at bx; omega)]
        · rw [inc (by omega)]
          have := hc'.size
          have := ih (k + 1) w' hs' (by omega) (by omega) (by omega) hR' (hc.trans hc')
          rw [hbD] at this; exact this
      · have hcd := hc.trans (Chg.drew (fun b => lo ≤ b) w)
        have hx2 := hx.chg hcd hxS
        have e0 : IntKind.wrap .i64 (2 * (k : Int)) = ((2 * k : Nat) : Int) := by rw [w64 (by omega) (by omega)]; omega
        have e1 : IntKind.wrap .i64 (((2 * k : Nat) : Int) + 1) = ((2 * k + 1 : Nat) : Int) := by rw [w64 (by omega) (by omega)]; omega
        rw [e0, e1]
        refine bif_t (by decide) (rdV hx2 (2 * k) rfl hxl (getD_some (by omega)) fun _ _ => rdV hx2 (2 * k + 1) rfl hxl (getD_some (by omega)) fun _ _ => ifn_of (by omega) (ifn_of (by omega) ?_))
        rw [emod]
        refine grow_step2 (w := w.drew) (hR.chg (Chg.drew no w) fun _ _ h => h) hch (by omega) hlo rfl rfl ?_ fun w' hs' hR' hc' => ?_
        · unfold smp s16
          rw [if_pos rfl]
        · rw [inc (by omega)]
          have := hc'.size
          have := ih (k + 1) w' hs' (by omega) (by omega) (by have : w.drew.heap.size = w.heap.size := rfl; omega) hR' (hcd.trans hc')
          rw [hbD] at this; exact this
    · have : k = T := by omega
      subst this
      exact bif_f (dec_f (by omega)) (hk w hs hR hc)
theorem ref14_Split_ok {x : Option Addr} {n xc : Nat} {a b : Int} {xs : List Int} {w : World} {K : Option Addr → Nat → Nat → Int → World → Prop} (hx : SlI .u8 w x xs) (hxl : xs.length = n) (hb : By xs) (hn : n ≤ 5000)
    (h1 : ¬ May a b → K none 0 0 1 w)
    (h4 : ∀ ch D : Nat, a = ch → b = 8 * D → (D = 1 ∨ D = 2) → 1 ≤ ch → ch ≤ 8 → n % (ch * D) ≠ 0 → K none 0 0 4 w)
    (h0 : ∀ (ch D T bo : Nat) hs w', a = ch → b = 8 * D → (D = 1 ∨ D = 2) → 1 ≤ ch → ch ≤ 8 → n % (ch * D) = 0 → n = T * D → OwnR .i32 21 38 (fun b => w.heap.size ≤ b) w' bo hs (spl ch (smp D xs) T) → Chg no w w' → K (some ⟨bo, 0, none⟩) ch ch 0 w') :
    ref14_Split.f x n xc a b w K := by
  unfold ref14_Split.f
  dsimp only
  refine cond_of (fun ha => h1 fun h => by have := of_decide_eq_true ha; have := h.1; omega) (fun ha => ?_)
  refine cond_of (fun ha8 => h1 fun h => by have := of_decide_eq_true ha8; have := h.2.1; omega) (fun ha8 => ?_)
  have a1 : 1 ≤ a := by have := of_decide_eq_false ha; omega
  have a8 : a ≤ 8 := by have := of_decide_eq_false ha8; omega
  obtain ⟨ch, rfl⟩ : ∃ ch : Nat, a = ch := ⟨a.toNat, by omega⟩
  have body : ∀ D : Nat, (D = 1 ∨ D = 2) → b = 8 * D → (if (IntKind.wrap .i64 ((ch : Int) * (IntKind.wrap .i64 (Int.tdiv b 8)))) = 0 then False else
    bif ((Int.tmod (n : Int) (IntKind.wrap .i64 ((ch : Int) * (IntKind.wrap .i64 (Int.tdiv b 8))))) != 0) then
      K none 0 0 4 w
    else
      mkL 38 1 24 [(Value.slice none 0 0)] ch ch w fun a36_13 a36_13n a36_13c w =>
      ∃ N_38 : Nat, ref14_Split.l8 N_38 x n xc ch b (IntKind.wrap .i64 (Int.tdiv b 8)) a36_13 a36_13n a36_13c 0 w
      (fun o9_39 o9_39n o9_39c w =>
        K o9_39 o9_39n o9_39c 0 w)) := by
    intro D hD hbD
    have ed : IntKind.wrap .i64 (Int.tdiv b 8) = (D : Int) := by
      rw [hbD, Int.tdiv_eq_ediv_of_nonneg (by omega), w64 (by omega) (by omega)]; omega
    have em : IntKind.wrap .i64 ((ch : Int) * (D : Int)) = ((ch * D : Nat) : Int) := by
      have : (ch : Int) * (D : Int) = ((ch * D : Nat) : Int) := by simp
      rw [this, w64 (by rcases hD with rfl | rfl <;> omega) (by rcases hD with rfl | rfl <;> omega)]
    have hpos : 0 < ch * D := Nat.mul_pos (by omega) (by omega)
    rw [ed, em]
    refine ifn_of (by omega) ?_
    have emod : Int.tmod (n : Int) ((ch * D : Nat) : Int) = ((n % (ch * D) : Nat) : Int) := by rw [Int.tmod_eq_emod_of_nonneg (by omega)]; rfl
    rw [emod]
    refine cond_of (fun h => ?_) (fun h => ?_)
    · refine h4 ch D rfl hbD hD (by omega) (by omega) fun h0 => ?_
      rw [h0] at h; simp at h
    · have hz : n % (ch * D) = 0 := by
        have : ¬ (((n % (ch * D) : Nat) : Int) != 0) = true := by rw [h]; simp
        simp only [bne_iff_ne, ne_eq, Decidable.not_not] at this
        omega
      obtain ⟨q, hq⟩ := Nat.dvd_of_mod_eq_zero hz
      have hT : n = (q * ch) * D := by rw [hq]; ac_rfl
      refine mkL_v (by omega) (by omega) (by omega) (by omega) fun w1 hb1 hc1 hs1 => ⟨q * ch + 1, ?_⟩
      rw [Int.toNat_natCast] at hb1 ⊢
      have hR := OwnR.new (k := .i32) (e := 21) (S := fun b => w.heap.size ≤ b) hb1 (Nat.le_refl _)
      exact ref14_Split_l8 (w0 := w1) (lo := w.heap.size) (bo := w.heap.size) (xc := xc) (ch := ch) (D := D) (T := q * ch) (b2 := b) (K0 := fun o9_40 o9_40n o9_40c w => K o9_40 o9_40n o9_40c 0 w) (hx.chg hc1 fun _ _ _ h => h) (old_lt hx (Nat.le_refl _)) hxl hb hT hD hbD (by omega) (by omega) hn
        (fun w2 hs hR2 hc2 => h0 ch D (q * ch) w.heap.size hs w2 rfl hbD hD (by omega) (by omega) hz hT hR2 (hc1.then hc2 fun k hk h => by omega)) (q * ch + 1) 0 w1 _ (by omega) (by omega) (by omega) hR (Chg.refl _ _)
  refine cond_of (fun hb8 => cond_of (fun hb16 => h1 fun h => ?_) (fun hb16 => ?_)) (fun hb8 => ?_)
  · rcases h.2.2 with h | h
    · rw [h] at hb8; simp at hb8
    · rw [h] at hb16; simp at hb16
  · exact body 2 (.inr rfl) (by simpa using hb16)
  · exact body 1 (.inl rfl) (by simpa using hb8)
theorem help_Same_Sint32_ok {w0 : World} {S T : Nat → Prop} {b1 b2 n c1 c2 : Nat} {h1 h2 : List Hdr} {L : List (List Int)} {K : Bool → World → Prop} (H1 : OwnR .i32 21 38 S w0 b1 h1 L) (H2 : OwnR .i32 21 38 T w0 b2 h2 L) (hn : L.length = n) (hn9 : n < 9223372036854775807)
    (hr : ∀ l ∈ L, l.length < 9223372036854775807) (hk : ∀ w, Chg no w0 w → K true w) : help_Same_Sint32.f (some ⟨b1, 0, none⟩) n c1 (some ⟨b2, 0, none⟩) n c2 w0 K := by
  unfold help_Same_Sint32.f
  refine bif_f (by simp) ⟨n + 1, ?_⟩
  have go : ∀ (N i : Nat) (w : World), i ≤ n → n - i < N → Chg no w0 w → help_Same_Sint32.l4 N (some ⟨b1, 0, none⟩) n c1 (some ⟨b2, 0, none⟩) n c2 i w (fun w => K true w) (fun o6_19 w => K o6_19 w) := by
    intro N
    induction N with
    | zero => intro i w h1 h2; omega
    | succ N ih =>
      intro i w hi hN hc
      rw [help_Same_Sint32.l4]
      by_cases hlt : i < n
      · have hcd := hc.trans (Chg.drew no w)
        have K1 := H1.chg hcd fun _ _ h => h
        have K2 := H2.chg hcd fun _ _ h => h
        obtain ⟨g1, hg1⟩ := hdr_of K1 (i := i) (by omega)
        obtain ⟨g2, hg2⟩ := hdr_of K2 (i := i) (by omega)
        have hl : L[i]? = some (L[i]'(by omega)) := List.getElem?_eq_getElem _
        generalize L[i]'(by omega) = l at hl
        have o1 := K1.row i g1 l hg1 hl
        have o2 := K2.row i g2 l hg2 hl
        refine bif_t (dec_t (by omega)) (rdHead K1.head rfl hlt hg1 fun _ _ => rdHead K2.head rfl hlt hg2 fun _ _ => ?_)
        have hlr := hr l (List.mem_of_getElem? hl)
        refine help_Plain_int32_ok o1.sl o2.sl o1.length o2.length (by rw [← o1.length]; exact hlr) fun w1 hc1 => bif_f rfl ?_
        rw [inc (by omega)]
        exact ih (i + 1) w1 (by omega) (by omega) (hcd.trans hc1)
      · exact bif_f (dec_f (by omega)) (hk w hc)
  exact go (n + 1) 0 w0 (by omega) (by omega) (Chg.refl _ _)
theorem help_Same_Sint32_nil {w0 : World} {K : Bool → World → Prop} (hk : K true w0) : help_Same_Sint32.f none 0 0 none 0 0 w0 K := by
  unfold help_Same_Sint32.f
  refine bif_f (by simp) ⟨1, ?_⟩
  rw [help_Same_Sint32.l4]
  exact bif_f (dec_f (by omega)) hk
theorem law14_awake_ok {w : World} {K : Bool → World → Prop} (hk : ∀ w', Chg no w w' → K true w') : law14_awake.f w K := by
  unfold law14_awake.f
  refine newC_sl (k := .u8) (xs := [128, 129]) rfl fun p w1 hs hc1 _ _ => ?_
  refine tracks_Split_ok hs rfl (fun x hx => by simp at hx; omega) (by omega) (fun h => absurd ⟨by omega, by omega, .inl rfl⟩ h) (fun ch D h1 h2 h3 h4 h5 h6 => ?_) (fun ch D T bo hs w2 h1 h2 h3 h4 h5 h6 h7 hR hc2 => ?_)
  · have : ch = 1 := by omega
    have : D = 1 := by omega
    subst ch D
    exact absurd rfl h6
  · have : ch = 1 := by omega
    have : D = 1 := by omega
    subst ch D
    have hT : T = 2 := by omega
    subst hT
    have e : spl 1 (smp 1 [128, 129]) 2 = [[0, 1]] := by decide +kernel
    rw [e] at hR
    obtain ⟨g, hg⟩ := hdr_of hR (i := 0) (by simp)
    have o := hR.row 0 g [0, 1] hg rfl
    have hl := o.length
    have hcell := Bl.cell hR.head (i := 0) (v := g.v) (by rw [List.getElem?_map, hg]; rfl)
    refine bif_t rfl (bif_t rfl (sm_some (if_of ⟨by omega, by omega⟩ (ldL_of hcell (bif_t ?_ (sm_some (if_of ⟨by omega, by omega⟩ (ldL_of hcell ?_))))))))
    · rw [← hl]; rfl
    · refine rdV o.sl 1 rfl hl (v := 1) rfl fun _ _ => hk w2 (hc1.trans hc2)
end Go.Proofs.Ytmgcjihcbdgihaa.G
