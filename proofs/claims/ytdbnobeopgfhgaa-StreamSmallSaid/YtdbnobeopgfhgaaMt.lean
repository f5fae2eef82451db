/- The table of guesses and the reference's: what making, reading and learning come to. -/
import Derived.Test.YtdbnobeopgfhgaaMq
set_option linter.unusedVariables false
set_option linter.unusedSimpArgs false
namespace Go.Proofs.Ytdbnobeopgfhgaa.G
open Go Go.Proofs.Ytdbnobeopgfhgaa.Vm Go.RowKit
/-- A guess as the table keeps it. -/
def xk (g : Int) : Int := bxor .u16 g 32768
theorem xk_eq (g : Int) : xk g = ((BitVec.ofInt 16 g ^^^ BitVec.ofInt 16 32768).toNat : Int) := by
  unfold xk bxor
  rw [show IntKind.bits .u16 = 16 from rfl]
  have := (BitVec.ofInt 16 g ^^^ BitVec.ofInt 16 32768).isLt
  rw [wu16 (by omega) (by omega)]
theorem xk_bd (g : Int) : 0 ≤ xk g ∧ xk g ≤ 65535 := by
  rw [xk_eq]
  have := (BitVec.ofInt 16 g ^^^ BitVec.ofInt 16 32768).isLt
  omega
theorem xk_xk (g : Int) (h0 : 0 ≤ g) (h1 : g ≤ 65535) : xk (xk g) = g := by
  rw [xk_eq (xk g), xk_eq g]
  rw [show BitVec.ofInt 16 (((BitVec.ofInt 16 g ^^^ BitVec.ofInt 16 32768).toNat : Nat) : Int) = BitVec.ofInt 16 g ^^^ BitVec.ofInt 16 32768 by
    rw [BitVec.ofInt_natCast, BitVec.ofNat_toNat]; simp]
  rw [BitVec.xor_assoc, BitVec.xor_self, BitVec.xor_zero, BitVec.toNat_ofInt]
  omega
theorem xk_half : xk 32768 = 0 := by decide +kernel
/-- The place of a number in a table of `n`. -/
theorem place_eq (i n : Int) (h0 : 0 < n) (h1 : n ≤ 4611686018427387904) : Int.tmod (IntKind.wrap .i64 (Int.tmod i n + n)) n = i % n := by
  have e := Int.tmod_def i n
  have b1 : -n < Int.tmod i n := by
    have h := Int.tmod_lt_of_pos (-i) h0
    rw [Int.neg_tmod] at h
    omega
  have b2 : Int.tmod i n < n := Int.tmod_lt_of_pos i h0
  rw [w64 (by omega) (by omega), Int.tmod_eq_emod_of_nonneg (by omega), Int.add_emod_right, e]
  exact Int.sub_mul_emod_self_left ..
theorem place_bd (i n : Int) (h0 : 0 < n) : 0 ≤ i % n ∧ i % n < n := ⟨Int.emod_nonneg _ (by omega), Int.emod_lt_of_pos _ h0⟩
/-- Guesses are in their bounds. -/
def Gs (gs : List Int) : Prop := ∀ g ∈ gs, 0 ≤ g ∧ g ≤ 65535
theorem Gs.set {gs : List Int} (h : Gs gs) (i : Nat) (v : Int) (h0 : 0 ≤ v) (h1 : v ≤ 65535) : Gs (gs.set i v) := fun g hg => by
  rcases List.mem_or_eq_of_mem_set hg with hg | hg
  · exact h g hg
  · subst hg; exact ⟨h0, h1⟩
/-- The pointer `t` is a table of the guesses `gs`, in blocks of `S`. -/
def GT (w : World) (S : Nat → Prop) (t : Option Addr) (gs : List Int) : Prop :=
  ∃ bt bc, t = some ⟨bt, 0, none⟩ ∧ S bt ∧ S bc ∧ bt ≠ bc ∧ Bl 112 w bt [.slice (some ⟨bc, 0, none⟩) gs.length gs.length] ∧ BlI .u16 120 w bc (gs.map xk) ∧ Gs gs
theorem GT.chg {T : Nat → Prop} {w w' : World} {S : Nat → Prop} {t : Option Addr} {gs : List Int} (h : GT w S t gs) (hc : Chg T w w') (hn : ∀ b, S b → ¬ T b) : GT w' S t gs := by
  obtain ⟨bt, bc, h0, h1, h2, h3, h4, h5, h6⟩ := h
  exact ⟨bt, bc, h0, h1, h2, h3, h4.chg hc (hn _ h1), h5.chg hc (hn _ h2), h6⟩
theorem guess_New_ok {a : Int} {w : World} {K : Option Addr → World → Prop}
    (hk : ∀ t w', GT w' (fun b => w.heap.size ≤ b ∧ b < w'.heap.size) t (List.replicate (mx 1 (mn a 65536)).toNat 32768) → Chg no w w' → K t w') : guess_New.f a w K := by
  unfold guess_New.f
  have h1 := mx_bd 1 (mn a 65536)
  have h2 := mn_bd a 65536
  have h3 : mx 1 (mn a 65536) ≤ 65536 := by omega
  generalize mx 1 (mn a 65536) = n at *
  refine mkL_b (by omega) (by omega) (by omega) (by omega) fun w1 hb1 hc1 hs1 => ?_
  refine newC_b fun w2 hb2 hc2 hs2 => ?_
  refine hk _ w2 ⟨w1.heap.size, w.heap.size, rfl, ⟨by omega, by omega⟩, ⟨by omega, by omega⟩, by omega, ?_, ?_, ?_⟩ (hc1.trans hc2)
  · simpa using hb2
  · have := hb1.chg hc2 (fun h => h)
    simpa [xk_half] using this
  · intro g hg
    rw [List.mem_replicate] at hg
    obtain ⟨_, rfl⟩ := hg; omega
theorem guess_Table_Len_ok {w : World} {S : Nat → Prop} {t : Option Addr} {gs : List Int} {K : Int → World → Prop} (h : GT w S t gs) (hk : K gs.length w) : guess_Table_Len.f t w K := by
  obtain ⟨bt, bc, rfl, h1, h2, h3, h4, h5, h6⟩ := h
  unfold guess_Table_Len.f
  exact ldL_b h4 rfl hk
theorem guess_cells_place_ok {w : World} {b c' : Nat} {x : Option Addr} {n : Nat} {i : Int} {K : Int → World → Prop} (h : Bl 112 w b [.slice x n c']) (h0 : 0 < n) (h1 : n ≤ 4611686018427387904)
    (hk : K (i % n) w) : guess_cells_place.f (some ⟨b, 0, none⟩) i w K := by
  unfold guess_cells_place.f
  refine ldL_b h rfl ?_
  rw [if_neg (by omega), if_neg (by omega)]
  show K (Int.tmod (IntKind.wrap .i64 (Int.tmod i n + n)) n) w
  rw [place_eq _ _ (by omega) (by omega)]
  exact hk
/-- What stands at a place. -/
def at' (gs : List Int) (i : Int) : Int := gs.getD (i % gs.length).toNat 0
theorem at_bd {gs : List Int} (h : Gs gs) (i : Int) : 0 ≤ at' gs i ∧ at' gs i ≤ 65535 := by
  unfold at'
  rw [List.getD_eq_getElem?_getD]
  cases hx : gs[(i % gs.length).toNat]? with
  | none => simp
  | some v => exact h v (List.mem_of_getElem? hx)
theorem guess_Table_At_ok {w : World} {S : Nat → Prop} {t : Option Addr} {gs : List Int} {i : Int} {K : Int → World → Prop} (h : GT w S t gs) (h0 : 0 < gs.length) (h1 : gs.length ≤ 4611686018427387904)
    (hk : ∀ w', Chg no w w' → K (chanceV (at' gs i)) w') : guess_Table_At.f t i w K := by
  unfold guess_Table_At.f
  refine guess_Table_Len_ok h (bif_f (beq_false_of_ne (by omega)) ?_)
  have hbd := at_bd h.choose_spec.choose_spec.2.2.2.2.2.2 i
  obtain ⟨bt, bc, rfl, hS1, hS2, h3, h4, h5, h6⟩ := h
  refine sm_some (ldL_b h4.drew rfl (sm_some ?_))
  refine guess_cells_place_ok h4.drew h0 h1 ⟨h4.drew.cell rfl, sm_some ?_⟩
  obtain ⟨p0, p1⟩ := place_bd i gs.length (by omega)
  refine if_of ⟨p0, p1⟩ ?_
  have hlt : (i % gs.length).toNat < gs.length := by omega
  have hx : (gs.map xk)[(i % gs.length).toNat]'(by simpa using hlt) = xk (at' gs i) := by
    rw [List.getElem_map]; unfold at'; rw [List.getD_eq_getElem?_getD, List.getElem?_eq_getElem hlt]; rfl
  refine ldI_x (xs := gs.map xk) h5 (by simpa using hlt) ?_
  rw [hx]
  refine guess_Chance_ok (xk_bd _).1 (xk_bd _).2 ?_
  rw [show bxor .u16 (xk (at' gs i)) 32768 = at' gs i from xk_xk _ hbd.1 hbd.2]
  refine ⟨?_, h4.drew.cell rfl, hk _ (Chg.drew _ _)⟩
  rw [add_mk, Nat.zero_add]
  rw [show w.drew.cell? = w.cell? from rfl, h5.cell (by simpa using hlt), hx]
theorem guess_Table_Learn_ok {w : World} {S : Nat → Prop} {t : Option Addr} {gs : List Int} {i b c : Int} {K : World → Prop} (h : GT w S t gs) (h0 : 0 < gs.length) (h1 : gs.length ≤ 4611686018427387904)
    (hk : ∀ w', GT w' S t (gs.set (i % gs.length).toNat (nextV (at' gs i) b c)) → Chg S w w' → K w') : guess_Table_Learn.f t i b c w K := by
  unfold guess_Table_Learn.f
  refine guess_Table_Len_ok h (bif_t (dec_t (by omega)) ?_)
  have hbd := at_bd h.choose_spec.choose_spec.2.2.2.2.2.2 i
  obtain ⟨bt, bc, rfl, hS1, hS2, h3, h4, h5, h6⟩ := h
  refine sm_some (ldL_b h4.drew rfl (sm_some ?_))
  refine guess_cells_place_ok h4.drew h0 h1 ⟨h4.drew.cell rfl, sm_some ?_⟩
  obtain ⟨p0, p1⟩ := place_bd i gs.length (by omega)
  refine if_of ⟨p0, p1⟩ ?_
  have hlt : (i % gs.length).toNat < gs.length := by omega
  have hx : (gs.map xk)[(i % gs.length).toNat]'(by simpa using hlt) = xk (at' gs i) := by
    rw [List.getElem_map]; unfold at'; rw [List.getD_eq_getElem?_getD, List.getElem?_eq_getElem hlt]; rfl
  refine ldI_x (xs := gs.map xk) h5 (by simpa using hlt) ?_
  rw [hx, show bxor .u16 (xk (at' gs i)) 32768 = at' gs i from xk_xk _ hbd.1 hbd.2]
  refine guess_Next_ok hbd.1 hbd.2 ?_
  have nb := nextV_bd (at' gs i) b c hbd.1 hbd.2
  refine stC_x (xs := gs.map xk) (w := w.drew) h5 (by simpa using hlt) fun w' hw hc => hk w' ⟨bt, bc, rfl, hS1, hS2, h3, ?_, ?_, h6.set _ _ nb.1 nb.2⟩ (((Chg.drew _ _).trans hc).mono fun k hk => by subst hk; exact hS2)
  · rw [List.length_set]; exact h4.drew.chg hc h3
  · rw [List.map_set]; exact hw

/-! ### The reference -/
/-- The pointer `t` is the reference's table of the guesses `gs`, in blocks of `S`. -/
def RT (w : World) (S : Nat → Prop) (t : Option Addr) (gs : List Int) : Prop :=
  ∃ bt a c, t = some ⟨bt, 0, none⟩ ∧ S bt ∧ Bl 119 w bt [.slice a gs.length c] ∧ Own .u16 120 (fun b => S b ∧ b ≠ bt) w a gs.length c gs ∧ Gs gs
theorem RT.chg {T : Nat → Prop} {w w' : World} {S : Nat → Prop} {t : Option Addr} {gs : List Int} (h : RT w S t gs) (hc : Chg T w w') (hn : ∀ b, S b → ¬ T b) : RT w' S t gs := by
  obtain ⟨bt, a, c, h0, h1, h2, h3, h4⟩ := h
  exact ⟨bt, a, c, h0, h1, h2.chg hc (hn _ h1), h3.chg hc (fun b hb => hn b hb.1), h4⟩
theorem RT.mono {w : World} {S T : Nat → Prop} {t : Option Addr} {gs : List Int} (h : RT w S t gs) (hs : ∀ b, S b → T b) : RT w T t gs := by
  obtain ⟨bt, a, c, h0, h1, h2, h3, h4⟩ := h
  exact ⟨bt, a, c, h0, hs _ h1, h2, h3.mono fun b hb _ => ⟨hs b hb.1, hb.2⟩, h4⟩
theorem ref05_New_loop {a : Int} {w0 : World} {K : Addr → World → Prop} {m : Int} (hm : mx 1 (mn a 65536) = m) (hm0 : 1 ≤ m) (hm1 : m ≤ 65536)
    (hk : ∀ p w', RT w' (fun b => w0.heap.size ≤ b ∧ b < w'.heap.size) (some p) (List.replicate m.toNat 32768) → Chg no w0 w' → K p w') (N : Nat) :
    ∀ (p : Addr) (i : Nat) (w : World), (i : Int) ≤ m → m - i < N → RT w (fun b => w0.heap.size ≤ b ∧ b < w.heap.size) (some p) (List.replicate i 32768) → Chg no w0 w → ref05_New.l3 N a p i w K := by
  induction N with
  | zero => intro p i w h1 h2; omega
  | succ N ih =>
    intro p i w h1 h2 hR hc
    rw [ref05_New.l3, hm]
    refine cond_of (fun h => ?_) (fun h => ?_)
    · have hlt : (i : Int) < m := by simpa using h
      obtain ⟨bt, x, c, e, hS, h3, h4, h5⟩ := hR
      cases e
      rw [List.length_replicate] at h3 h4
      refine ldL_b h3 rfl (newC_b fun w1 hb1 hc1 hs1 => ?_)
      have h4' := h4.chg hc1 (fun _ _ h => h)
      have h3' := h3.chg hc1 (fun h => h)
      have hx : SlI .u16 w1 (some ⟨w.heap.size, 0, none⟩) [32768] := BlI.sl (k := .u16) (e := 120) (b := w.heap.size) hb1
      refine appL_own (zs := [32768]) h4' hx rfl (by omega) (by omega) fun a' c' w2 ho hc2 => ?_
      have h3b := h3'.chg hc2 (fun h => h.2 rfl)
      refine stC_b h3b (by simp) fun w3 hb3 hc3 => ?_
      rw [show (IntKind.wrap .i64 ((i : Int) + 1)) = ((i + 1 : Nat) : Int) by rw [w64 (by omega) (by omega)]; omega]
      have hs2 := hc2.size
      have hs3 := hc3.size
      have hc02 : Chg no w0 w3 := ((hc.trans hc1).then hc2 (fun k hk hS => by have := hS.1.1; omega)).then hc3 (fun k hk hS => by omega)
      refine ih _ (i + 1) w3 (by omega) (by omega) ⟨bt, a', c', rfl, ⟨hS.1, by omega⟩, ?_, ?_, ?_⟩ hc02
      · rw [List.length_replicate]; exact hb3
      · rw [List.length_replicate, List.replicate_succ']
        refine (ho.chg hc3 ?_).mono ?_
        · rintro b (hb | hb) e
          · exact hb.2 e
          · have := hS.2; omega
        · rintro b (⟨⟨h1, h2⟩, h3⟩ | hb) hlt'
          · exact ⟨⟨h1, by omega⟩, h3⟩
          · have := hS.1; have := hS.2
            exact ⟨⟨by omega, hlt'⟩, by omega⟩
      · intro g hg
        rw [List.mem_replicate] at hg
        obtain ⟨_, rfl⟩ := hg; omega
    · have hge : (i : Int) = m := by
        have : ¬ (i : Int) < m := by simpa using h
        omega
      refine hk p w ?_ hc
      rw [show m.toNat = i by omega]; exact hR
theorem ref05_New_ok {a : Int} {w : World} {K : Option Addr → World → Prop}
    (hk : ∀ t w', RT w' (fun b => w.heap.size ≤ b ∧ b < w'.heap.size) t (List.replicate (mx 1 (mn a 65536)).toNat 32768) → Chg no w w' → K t w') : ref05_New.f a w K := by
  unfold ref05_New.f
  have h1 := mx_bd 1 (mn a 65536)
  have h2 := mn_bd a 65536
  have h3 : mx 1 (mn a 65536) ≤ 65536 := by omega
  refine newC_b fun w1 hb1 hc1 hs1 => ⟨65537, ?_⟩
  refine ref05_New_loop (w0 := w) rfl h1.1 h3 (fun p w' hR hc => hk _ _ hR hc) 65537 _ 0 w1 (by omega) (by omega) ⟨w.heap.size, none, 0, rfl, ⟨by omega, by omega⟩, hb1, .nil _ _ _ _, fun g hg => by cases hg⟩ hc1
theorem ref05_Round_ok {n : Nat} {i : Int} {w : World} {K : Int → World → Prop} (h0 : 0 < n) (h1 : n ≤ 4611686018427387904) (hk : K (i % n) w) : ref05_Round.f i n w K := by
  unfold ref05_Round.f
  rw [if_neg (by omega), if_neg (by omega)]
  show K (Int.tmod (IntKind.wrap .i64 (Int.tmod i n + n)) n) w
  rw [place_eq _ _ (by omega) (by omega)]
  exact hk
theorem ref05_Next_ok {a b c : Int} {w : World} {K : Int → World → Prop} (h0 : 0 ≤ a) (h1 : a ≤ 65535) (hk : K (nextV a b c) w) : ref05_Next.f a b c w K := by
  have hbd := nextV_bd a b c h0 h1
  have hr := mx_bd 1 (mn c 15)
  have hm := mn_bd c 15
  unfold nextV at hk hbd
  unfold ref05_Next.f
  have eu : IntKind.wrap .u64 (mx 1 (mn c 15)) = mx 1 (mn c 15) := by simp [IntKind.wrap, IntKind.bits, IntKind.signed]; omega
  simp only [eu, shr_dv, wu16 (a := 65535 - a) (by omega) (by omega)]
  refine cond_of (fun h => ?_) (fun h => ?_)
  · have hb : b ≠ 0 := by simpa using h
    rw [if_neg hb] at hk hbd
    rw [if_neg (by omega), wu16 hbd.1 hbd.2]; exact hk
  · have hb : b = 0 := by simpa using h
    rw [if_pos hb] at hk hbd
    rw [if_neg (by omega), wu16 hbd.1 hbd.2]; exact hk
theorem ref05_Chance_ok {a : Int} {w : World} {K : Int → World → Prop} (h0 : 0 ≤ a) (h1 : a ≤ 65535) (hk : K (chanceV a) w) : ref05_Chance.f a w K := guess_Chance_ok h0 h1 hk
theorem own_at {S : Nat → Prop} {w : World} {a : Option Addr} {c : Nat} {gs : List Int} (h : Own .u16 120 S w a gs.length c gs) {j : Nat} (hj : j < gs.length) :
    ∃ b xs, a = some ⟨b, 0, none⟩ ∧ S b ∧ BlI .u16 120 w b xs ∧ xs.length = c ∧ gs.length ≤ c ∧ gs = xs.take gs.length ∧ xs[j]? = some gs[j] := by
  rcases h with ⟨_, h1, _, h2⟩ | ⟨b, xs, h0, hS, hb, h1, h2, h3⟩
  · omega
  · refine ⟨b, xs, h0, hS, hb, h1, h2, h3, ?_⟩
    have : gs[j]? = (xs.take gs.length)[j]? := by rw [← h3]
    rw [List.getElem?_take_of_lt hj, List.getElem?_eq_getElem hj] at this
    exact this.symm
theorem ref05_Table_At_ok {w : World} {S : Nat → Prop} {t : Option Addr} {gs : List Int} {i : Int} {K : Int → World → Prop} (h : RT w S t gs) (h0 : 0 < gs.length) (h1 : gs.length ≤ 4611686018427387904)
    (hk : ∀ w', Chg no w w' → K (chanceV (at' gs i)) w') : ref05_Table_At.f t i w K := by
  unfold ref05_Table_At.f
  obtain ⟨bt, a, c, rfl, hS, h2, h3, h4⟩ := h
  have hbd := at_bd h4 i
  refine sm_some (ldL_b h2.drew rfl (sm_some (ldL_b h2.drew rfl (ref05_Round_ok h0 h1 ⟨h2.drew.cell rfl, h2.drew.cell rfl, ?_⟩))))
  obtain ⟨p0, p1⟩ := place_bd i gs.length (by omega)
  have hlt : (i % gs.length).toNat < gs.length := by omega
  obtain ⟨b, xs, rfl, hSb, hb, hl, hle, he, hx⟩ := own_at h3 hlt
  have hg : gs[(i % gs.length).toNat] = at' gs i := by unfold at'; rw [List.getD_eq_getElem?_getD, List.getElem?_eq_getElem hlt]; rfl
  refine sm_some (if_of ⟨p0, p1⟩ ?_)
  have hlx : (i % gs.length).toNat < xs.length := by omega
  refine ldI_x (xs := xs) (w := w.drew) hb hlx ?_
  rw [show xs[(i % gs.length).toNat] = at' gs i by rw [List.getElem?_eq_getElem hlx] at hx; rw [← hg]; exact Option.some.inj hx]
  exact ref05_Chance_ok hbd.1 hbd.2 ⟨h2.drew.cell rfl, h2.drew.cell rfl, hk _ (Chg.drew _ _)⟩
theorem ref05_Table_Learn_ok {w : World} {S : Nat → Prop} {t : Option Addr} {gs : List Int} {i b c : Int} {K : World → Prop} (h : RT w S t gs) (h0 : 0 < gs.length) (h1 : gs.length ≤ 4611686018427387904)
    (hk : ∀ w', RT w' S t (gs.set (i % gs.length).toNat (nextV (at' gs i) b c)) → Chg S w w' → K w') : ref05_Table_Learn.f t i b c w K := by
  unfold ref05_Table_Learn.f
  obtain ⟨bt, a, cc, rfl, hS, h2, h3, h4⟩ := h
  have hbd := at_bd h4 i
  refine sm_some (ldL_b h2 rfl (ref05_Round_ok h0 h1 (sm_some (ldL_b h2.drew rfl (sm_some (ldL_b h2.drew rfl ?_))))))
  obtain ⟨p0, p1⟩ := place_bd i gs.length (by omega)
  have hlt : (i % gs.length).toNat < gs.length := by omega
  obtain ⟨bb, xs, rfl, hSb, hb, hl, hle, he, hx⟩ := own_at h3 hlt
  have hg : gs[(i % gs.length).toNat] = at' gs i := by unfold at'; rw [List.getD_eq_getElem?_getD, List.getElem?_eq_getElem hlt]; rfl
  refine sm_some (if_of ⟨p0, p1⟩ ?_)
  have hlx : (i % gs.length).toNat < xs.length := by omega
  refine ldI_x (xs := xs) (w := w.drew) hb hlx ?_
  rw [show xs[(i % gs.length).toNat] = at' gs i by rw [List.getElem?_eq_getElem hlx] at hx; rw [← hg]; exact Option.some.inj hx]
  have nb := nextV_bd (at' gs i) b c hbd.1 hbd.2
  refine ref05_Next_ok hbd.1 hbd.2 ⟨h2.drew.cell rfl, h2.drew.cell rfl, sm_some (if_of ⟨p0, p1⟩ ?_)⟩
  refine stC_x (xs := xs) (w := w.drew) hb hlx fun w' hw hc => hk w' ⟨bt, some ⟨bb, 0, none⟩, cc, rfl, hS, ?_, ?_, h4.set _ _ nb.1 nb.2⟩ (((Chg.drew _ _).trans hc).mono fun k hk => by subst hk; exact hSb.1)
  · rw [List.length_set]; exact h2.drew.chg hc (fun e => hSb.2 e.symm)
  · refine .inr ⟨bb, _, rfl, hSb, hw, by simpa using hl, by simpa using hle, ?_⟩
    rw [List.length_set, List.take_set, ← he]
end Go.Proofs.Ytdbnobeopgfhgaa.G
