/- Of pixels that are grey nothing is left but their green. Conditions: those of the given row. -/
import Derived.Test.YtmgcjihcbdgihaaKa
import Derived.Test.YtmgcjihcbdgihaaGenLawColourGrey
set_option linter.unusedVariables false
set_option linter.unusedSimpArgs false
namespace Go.Proofs.Ytmgcjihcbdgihaa.G
open Go Go.Proofs.Ytmgcjihcbdgihaa.Vm Go.RowKit
/-- Grey pixels. -/
def greyL : List Int → List Int
  | [] => []
  | x :: l => x :: x :: x :: greyL l
/-- .. turned. -/
def greenL : List Int → List Int
  | [] => []
  | x :: l => 0 :: x :: 0 :: greenL l
theorem greyL_app : ∀ (e : List Int) (x : Int), greyL (e ++ [x]) = greyL e ++ [x, x, x]
  | [], x => rfl
  | y :: e, x => by simp [greyL, greyL_app e x]
theorem greyL_length : ∀ e : List Int, (greyL e).length = 3 * e.length
  | [] => rfl
  | y :: e => by simp [greyL, greyL_length e]; omega
theorem greenL_length : ∀ e : List Int, (greenL e).length = 3 * e.length
  | [] => rfl
  | y :: e => by simp [greenL, greenL_length e]; omega
theorem greyL_by : ∀ {e : List Int}, By e → By (greyL e)
  | [], h => h
  | y :: e, h => by
    intro x hx
    simp only [greyL, List.mem_cons] at hx
    have hy := h y (by simp)
    rcases hx with rfl | rfl | rfl | hx
    · exact hy
    · exact hy
    · exact hy
    · exact greyL_by (e := e) (fun z hz => h z (by simp [hz])) x hx
theorem turn_grey : ∀ e : List Int, turnL (greyL e) = greenL e
  | [] => rfl
  | y :: e => by
    simp only [greyL, turnL, greenL, turn_grey e, Int.sub_self]
    rw [wu8 (by omega) (by omega)]
theorem greenL_app : ∀ (e r : List Int), greenL (e ++ r) = greenL e ++ greenL r
  | [], r => rfl
  | y :: e, r => by simp [greenL, greenL_app e r]
theorem law18_ColourGrey_l5 {W : World} {x : Option Addr} {n xc : Nat} {xs : List Int} {K0 : Option Addr → Nat → Nat → Option Addr → Nat → Nat → World → Prop} (hx : SlI .u8 W x xs) (hxl : xs.length = n) (hn : n ≤ 1000)
    (hk : ∀ w a c, Own .u8 5 (fun b => W.heap.size ≤ b) w a (3 * n) c (greyL xs) → Chg no W w → K0 x n xc a (3 * n) c w) (N : Nat) :
    ∀ (e r : List Int) (w : World) (a : Option Addr) (c : Nat), xs = e ++ r → r.length < N → Own .u8 5 (fun b => W.heap.size ≤ b) w a (3 * e.length) c (greyL e) → Chg no W w → law18_ColourGrey.l5 N x n xc a (3 * e.length) c e.length w K0 := by
  induction N with
  | zero => intro e r w a c h1 h2; omega
  | succ N ih =>
    intro e r w a c he hN ho hc
    have hl : e.length + r.length = n := by rw [← hxl, he]; simp
    rw [law18_ColourGrey.l5]
    cases r with
    | nil =>
      simp only [List.append_nil] at he
      subst he
      simp only [List.length_nil, Nat.add_zero] at hl
      subst hl
      exact bif_f (dec_f (by omega)) (hk w a c ho hc)
    | cons v r =>
      simp only [List.length_cons] at hl hN
      have hx' : SlI .u8 w.drew x xs := hx.chg (hc.trans (Chg.drew no w)) fun _ _ _ h => h
      have hv : xs[e.length]? = some v := by rw [he]; simp
      refine bif_t (dec_t (by omega)) (rdV hx' e.length rfl hxl hv fun _ _ => rdV hx' e.length rfl hxl hv fun _ _ => rdV hx' e.length rfl hxl hv fun _ _ => ?_)
      refine newC_sl (k := .u8) (xs := [v, v, v]) rfl fun p w1 hs hc1 hs1 hp => ?_
      have hcd := (Chg.drew no w).trans hc1
      have hsz := hc.size
      have hsz1 := hcd.size
      refine apS (ho.chg hcd fun _ _ h => h) hs rfl (by omega) (by omega) (by omega) fun a' c' w2 ho2 hc2 => ?_
      rw [inc (by omega)]
      have := ih (e ++ [v]) r w2 a' c' (by simpa using he) (by omega) (by rw [greyL_app]; simpa [Nat.mul_add] using ho2) ((hc.trans hcd).then hc2 fun k hk h => by omega)
      simpa [Nat.mul_add] using this
theorem law18_ColourGrey_l12 {W : World} {x y : Option Addr} {n xc m yc : Nat} {xs : List Int} {K2 : World → Prop} {Kr : Bool → World → Prop} (hx : SlI .u8 W x xs) (hxl : xs.length = n) (hn : n ≤ 1000)
    (hy : SlI .u8 W y (greenL xs)) (hm : m = 3 * n) (hk : ∀ w, Chg no W w → K2 w) (N : Nat) :
    ∀ (e r : List Int) (w : World), xs = e ++ r → r.length < N → Chg no W w → law18_ColourGrey.l12 N x n xc y m yc e.length w K2 Kr := by
  induction N with
  | zero => intro e r w h1 h2; omega
  | succ N ih =>
    intro e r w he hN hc
    have hl : e.length + r.length = n := by rw [← hxl, he]; simp
    rw [law18_ColourGrey.l12]
    cases r with
    | nil => exact bif_f (dec_f (by simp at hl; omega)) (hk w hc)
    | cons v r =>
      simp only [List.length_cons] at hl hN
      have hcd := hc.trans (Chg.drew no w)
      have hx' : SlI .u8 w.drew x xs := hx.chg hcd fun _ _ _ h => h
      have hy' : SlI .u8 w.drew y (greenL xs) := hy.chg hcd fun _ _ _ h => h
      have hyl : (greenL xs).length = m := by rw [greenL_length]; omega
      have hg : greenL xs = greenL e ++ 0 :: v :: 0 :: greenL r := by rw [he, greenL_app]; rfl
      have hv : xs[e.length]? = some v := by rw [he]; simp
      have e3 : IntKind.wrap .i64 (3 * (e.length : Int)) = ((3 * e.length : Nat) : Int) := by rw [w64 (by omega) (by omega)]; omega
      have e31 : IntKind.wrap .i64 (((3 * e.length : Nat) : Int) + 1) = ((3 * e.length + 1 : Nat) : Int) := by rw [w64 (by omega) (by omega)]; omega
      have e32 : IntKind.wrap .i64 (((3 * e.length : Nat) : Int) + 2) = ((3 * e.length + 2 : Nat) : Int) := by rw [w64 (by omega) (by omega)]; omega
      rw [e3, e31, e32]
      refine bif_t (dec_t (by omega)) (rdV hy' (3 * e.length) rfl hyl (v := 0) (by rw [hg, ← greenL_length]; simp) fun _ _ => bif_f rfl ?_)
      refine rdV hy' (3 * e.length + 1) rfl hyl (v := v) (by rw [hg, ← greenL_length]; simp) fun _ _ => rdV hx' e.length rfl hxl hv fun _ _ => bif_f (by simp) ?_
      refine rdV hy' (3 * e.length + 2) rfl hyl (v := 0) (by rw [hg, ← greenL_length]; simp) fun _ _ => bif_f rfl ?_
      rw [inc (by omega)]
      have := ih (e ++ [v]) r w.drew (by simpa using he) (by omega) hcd
      simpa using this
theorem law18_ColourGrey_said {a : Option Addr} {n c : Nat} {W : World} {K : Bool → World → Prop} (f : Fits W (.slc (.int .u8) 1 1) [.slice a n c])
    (hk : ∀ w', Below W.heap.size W w' → K true w') : law18_ColourGrey.f a n c W K := by
  obtain ⟨_, _, xs, hxl, hx, hwf⟩ := f.ints
  have hb := By.of hwf
  unfold law18_ColourGrey.f
  refine cond_of (fun _ => law18_awake_ok fun w hc => hk w (below_no (Below.refl _ _) hc (Nat.le_refl _))) (fun h => ?_)
  have hn : n ≤ 1000 := by
    have : ¬ (n : Int) > 1000 := by simpa using h
    omega
  refine ⟨n + 1, ?_⟩
  refine law18_ColourGrey_l5 hx hxl hn (fun w a' c' ho hc => ?_) (n + 1) [] xs W none 0 rfl (by omega) (Own.nil _ _ _ _) (Chg.refl _ _)
  refine colour_Turn_ok ho.sl ho.length (greyL_by hb) (by omega) fun a2 c2 w2 ho2 hc2 => ?_
  refine law18_awake_ok fun w3 hc3 => bif_f rfl (bif_f (by simp) ⟨n + 1, ?_⟩)
  rw [turn_grey] at ho2
  have hc03 := (hc.trans hc2).trans hc3
  refine law18_ColourGrey_l12 (hx.chg hc03 fun _ _ _ h => h) hxl hn (ho2.sl.chg hc3 fun _ _ _ h => h) rfl (fun w hcw => hk w (below_no (Below.refl _ _) (hc03.trans hcw) (Nat.le_refl _))) (n + 1) [] xs w3 rfl (by omega) (Chg.refl _ _)
end Go.Proofs.Ytmgcjihcbdgihaa.G
