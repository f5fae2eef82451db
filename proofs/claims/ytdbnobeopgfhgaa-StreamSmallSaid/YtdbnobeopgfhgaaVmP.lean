/- Steps on blocks that fit, and parts of slices. No statement of the seat is in this text. -/
import Derived.Test.YtdbnobeopgfhgaaVmO
set_option linter.unusedVariables false
set_option linter.unusedSimpArgs false
namespace Go.Proofs.Ytdbnobeopgfhgaa.Vm
open Go Go.RowKit
theorem apFit {k : IntKind} {e : TypeId} {bytes : Nat} {w : World} {b : Nat} {x : Option Addr} {n c xc m : Nat} {xs zs : List Int} {K : Option Addr → Nat → Nat → World → Prop}
    (h : BlI k e w b xs) (hc : xs.length = c) (hf : n + m ≤ c) (hx : SlI k w x zs) (hm : zs.length = m)
    (hk : ∀ w', BlI k e w' b (xs.take n ++ zs ++ xs.drop (n + m)) → Chg (fun j => j = b) w w' → K (Option.some ⟨b, 0, none⟩) (n + m) c w') : appL e 1 bytes [.int k 0] (Option.some ⟨b, 0, none⟩) n c x m xc w K := by
  unfold appL
  have go : appG e 1 bytes [.int k 0] (Option.some ⟨b, 0, none⟩) n c m (zs.map (Value.int k)) w K := by
    unfold appG
    rw [if_pos hf]
    simp only [Nat.mul_one]
    refine stCs_ints h (by omega) fun w' hw hch => ?_
    rw [hm] at hw
    exact hk w' hw hch
  cases x with
  | none =>
    cases m with
    | zero =>
      have : zs = [] := List.length_eq_zero_iff.1 hm
      subst this
      exact go
    | succ m =>
      obtain ⟨p, hp, _⟩ := hx 0 (by omega)
      cases hp
  | some p =>
    simp only [Nat.mul_one]
    rw [← hm, hx.rd, hm]
    exact go
theorem bnd_hi {n c : Nat} {k : IntKind} {i : Int} {K : Nat → Nat → Prop} (h0 : 0 ≤ i) (h1 : i ≤ c) (hk : K 0 i.toNat) : bnd n c none (Option.some (.int k i)) K := by
  unfold bnd; exact if_of ⟨h0, h1⟩ hk
theorem bnd_lo {n c : Nat} {k : IntKind} {i : Int} {K : Nat → Nat → Prop} (h0 : 0 ≤ i) (h1 : i ≤ n) (hk : K i.toNat n) : bnd n c (Option.some (.int k i)) none K := by
  unfold bnd; exact if_of ⟨h0, h1⟩ hk
theorem bnd_lohi {n c : Nat} {k j : IntKind} {l h : Int} {K : Nat → Nat → Prop} (h0 : 0 ≤ l) (h1 : l ≤ h) (h2 : h ≤ c) (hk : K l.toNat h.toNat) : bnd n c (Option.some (.int k l)) (Option.some (.int j h)) K := by
  unfold bnd; exact if_of ⟨by omega, h2⟩ (if_of ⟨h0, by omega⟩ hk)
/-- A part of a slice reads as the part. -/
theorem SlI.part {k : IntKind} {w : World} {a : Option Addr} {xs : List Int} {l h c : Nat} (hs : SlI k w a xs) (hl : l ≤ h) (hh : h ≤ xs.length) (hc : h ≤ c) : SlI k w (adrS a l c 1) ((xs.take h).drop l) := by
  intro i hi
  rw [List.length_drop, List.length_take] at hi
  obtain ⟨p, hp, hcell⟩ := hs (l + i) (by omega)
  subst hp
  unfold adrS
  rw [if_neg (by omega)]
  refine ⟨p.add l, rfl, ?_⟩
  rw [Go.Deep.add_add, hcell]
  simp
theorem SlI.part_len {xs : List Int} {l h : Nat} (hh : h ≤ xs.length) : ((xs.take h).drop l).length = h - l := by
  rw [List.length_drop, List.length_take]; omega
/-- A write at an index of a block. -/
theorem wrB {k : IntKind} {t : TypeId} {w : World} {b n : Nat} {ys : List Int} {e v : Int} {K : Addr → World → Prop} (h : BlI k t w b ys) (i : Nat) (he : e = i) (hi : i < ys.length) (hn : i < n)
    (hk : ∀ p w', BlI k t w' b (ys.set i v) → Chg (fun j => j = b) w w' → K p w') : sm (Option.some ⟨b, 0, none⟩) fun p => if 0 ≤ e ∧ e < (n : Int) then stC (p.add e.toNat) (.int k v) w (K p) else False := by
  subst he
  refine sm_some (if_of ⟨by omega, by omega⟩ ?_)
  rw [show Int.toNat (i : Int) = i by omega]
  exact stC_x h hi fun w' hw hc => hk _ w' hw hc
theorem rdB {k : IntKind} {t : TypeId} {w : World} {b n : Nat} {ys : List Int} {e : Int} {K : Addr → Int → Prop} (h : BlI k t w b ys) (i : Nat) (he : e = i) (hi : i < ys.length) (hn : i < n)
    (hk : ∀ p, K p ys[i]) : sm (Option.some ⟨b, 0, none⟩) fun p => if 0 ≤ e ∧ e < (n : Int) then ldI k (p.add e.toNat) w (K p) else False := by
  subst he
  refine sm_some (if_of ⟨by omega, by omega⟩ ?_)
  rw [show Int.toNat (i : Int) = i by omega]
  exact ldI_x h hi (hk _)
theorem w64 {a : Int} (h0 : -9223372036854775808 ≤ a) (h1 : a ≤ 9223372036854775807) : IntKind.wrap .i64 a = a := by
  simp [IntKind.wrap, IntKind.bits, IntKind.signed]; omega
theorem wf_i64 {a : Int} (h : (Lit.int .i64 a).wf = true) : -9223372036854775808 ≤ a ∧ a ≤ 9223372036854775807 := by
  simp [Lit.wf, IntKind.min, IntKind.max, IntKind.bits, IntKind.signed] at h
  omega
theorem mx_bd (a b : Int) : a ≤ mx a b ∧ b ≤ mx a b ∧ (mx a b = a ∨ mx a b = b) := by unfold mx; split <;> omega
theorem mn_bd (a b : Int) : mn a b ≤ a ∧ mn a b ≤ b ∧ (mn a b = a ∨ mn a b = b) := by unfold mn; split <;> omega
theorem rdV {k : IntKind} {w : World} {a : Option Addr} {xs : List Int} {n : Nat} {e v : Int} {K : Addr → Int → Prop} (h : SlI k w a xs) (i : Nat) (he : e = i) (hn : xs.length = n) (hv : xs[i]? = Option.some v)
    (hk : ∀ p, a = Option.some p → K p v) : sm a fun p => if 0 ≤ e ∧ e < (n : Int) then ldI k (p.add e.toNat) w (K p) else False := by
  obtain ⟨hi, hx⟩ := List.getElem?_eq_some_iff.1 hv
  exact rdS h i he hn hi fun p hp => by rw [hx]; exact hk p hp
theorem wu8 {a : Int} (h0 : 0 ≤ a) (h1 : a ≤ 255) : IntKind.wrap .u8 a = a := by
  simp [IntKind.wrap, IntKind.bits, IntKind.signed]; omega
theorem wu8_bd (a : Int) : 0 ≤ IntKind.wrap .u8 a ∧ IntKind.wrap .u8 a ≤ 255 := by
  simp [IntKind.wrap, IntKind.bits, IntKind.signed]; omega
theorem wu8_eq (a : Int) : IntKind.wrap .u8 a = a % 256 := by
  simp [IntKind.wrap, IntKind.bits, IntKind.signed]
theorem Own.cap {k : IntKind} {e : TypeId} {S : Nat → Prop} {w : World} {a : Option Addr} {n c : Nat} {ys : List Int} (h : Own k e S w a n c ys) : n ≤ c := by
  rcases h with ⟨_, h1, h2, _⟩ | ⟨_, _, _, _, _, _, h, _⟩ <;> omega
/-- One more, of a count. -/
theorem inc {i : Nat} (h : i < 9223372036854775807) : IntKind.wrap .i64 ((i : Int) + 1) = ((i + 1 : Nat) : Int) := by rw [w64 (by omega) (by omega)]; omega
end Go.Proofs.Ytdbnobeopgfhgaa.Vm
