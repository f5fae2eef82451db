/- Steps at an index, copies, strings of bytes. No statement of the seat is in this text. -/
import Derived.Test.YtdbnobeopgfhgaaVmN
set_option linter.unusedVariables false
set_option linter.unusedSimpArgs false
namespace Go.Proofs.Ytdbnobeopgfhgaa.Vm
open Go Go.RowKit
theorem rdS {k : IntKind} {w : World} {a : Option Addr} {xs : List Int} {n : Nat} {e : Int} {K : Addr → Int → Prop} (h : SlI k w a xs) (i : Nat) (he : e = i) (hn : xs.length = n) (hi : i < xs.length)
    (hk : ∀ p, a = Option.some p → K p xs[i]) : sm a fun p => if 0 ≤ e ∧ e < (n : Int) then ldI k (p.add e.toNat) w (K p) else False := by
  obtain ⟨p, hp, hc⟩ := h i hi
  subst hp he
  refine sm_some (if_of ⟨by omega, by omega⟩ (ldI_of ?_ (hk p rfl)))
  rw [show Int.toNat (i : Int) = i by omega]; exact hc
theorem wrS {k : IntKind} {t : TypeId} {S : Nat → Prop} {w : World} {a : Option Addr} {n c : Nat} {ys : List Int} {e v : Int} {K : Addr → World → Prop} (h : Own k t S w a n c ys) (i : Nat) (he : e = i) (hi : i < ys.length)
    (hk : ∀ p w', Own k t S w' a n c (ys.set i v) → Chg S w w' → K p w') : sm a fun p => if 0 ≤ e ∧ e < (n : Int) then stC (p.add e.toNat) (.int k v) w (K p) else False := by
  have hl := h.length
  rcases h with ⟨_, h1, _, h2⟩ | ⟨b, xs, h0, hS, hb, h1, h2, h3⟩
  · rw [h2] at hi; cases hi
  · subst h0 h3 he
    rw [List.length_take] at hi hl
    refine sm_some (if_of ⟨by omega, by omega⟩ ?_)
    rw [show Int.toNat (i : Int) = i by omega]
    refine stC_x hb (by omega) fun w' hw hc => hk _ w' (.inr ⟨b, _, rfl, hS, hw, by simpa using h1, h2, ?_⟩) (hc.mono fun k hk => by subst hk; exact hS)
    rw [List.take_set]
/-- A copy: what is appended onto nothing. -/
theorem cpS {k : IntKind} {e : TypeId} {bytes : Nat} {w : World} {x : Option Addr} {xc m : Nat} {zs : List Int} {K : Option Addr → Nat → Nat → World → Prop}
    (hx : SlI k w x zs) (hm : zs.length = m) (hs : m * bytes ≤ 140737488355328) (hb : 0 < bytes)
    (hk : ∀ a' c' w', Own k e (fun b => b = w.heap.size) w' a' m c' zs → Chg no w w' → K a' m c' w') : appL e 1 bytes [.int k 0] none 0 0 x m xc w K := by
  refine appL_own (S := no) (Own.nil k e no w) hx hm (by rw [Nat.zero_add]; exact hs) hb fun a' c' w' ho hc => ?_
  rw [Nat.zero_add] at ho ⊢
  exact hk a' c' w' (ho.mono fun b hb _ => hb.elim (fun h => h.elim) id) hc
theorem toBytes_of : ∀ {xs : List Int}, toBytes (xs.map (Value.int .u8)) = Option.some (xs.map fun n => UInt8.ofNat n.toNat)
  | [] => rfl
  | x :: xs => by simp [toBytes, toBytes_of (xs := xs)]
theorem strL_of {w : World} {a : Option Addr} {n c : Nat} {xs : List Int} {K : ByteArray → Prop} (h : SlI .u8 w a xs) (hn : xs.length = n) (hk : K ⟨(xs.map fun n => UInt8.ofNat n.toNat).toArray⟩) : strL a n c w K := by
  unfold strL
  cases a with
  | none =>
    cases xs with
    | nil => exact hk
    | cons x xs => obtain ⟨p, hp, _⟩ := h 0 (by simp); cases hp
  | some p =>
    rw [← hn]
    simp only [h.rd, toBytes_of]
    exact hk
/-- Whole numbers that are bytes. -/
def By (xs : List Int) : Prop := ∀ x ∈ xs, 0 ≤ x ∧ x ≤ 255
theorem By.of {xs : List Int} (h : ∀ x ∈ xs, (Lit.int .u8 x).wf = true) : By xs := fun x hx => by
  have := h x hx
  simp [Lit.wf, IntKind.min, IntKind.max, IntKind.bits, IntKind.signed] at this
  omega
theorem bytes_inj {xs ys : List Int} (hx : By xs) (hy : By ys) (h : (xs.map fun n => UInt8.ofNat n.toNat) = ys.map fun n => UInt8.ofNat n.toNat) : xs = ys := by
  induction xs generalizing ys with
  | nil => cases ys with
    | nil => rfl
    | cons y ys => simp at h
  | cons x xs ih =>
    cases ys with
    | nil => simp at h
    | cons y ys =>
      simp only [List.map_cons, List.cons.injEq] at h
      obtain ⟨h1, h2⟩ := h
      rw [ih (fun z hz => hx z (List.mem_cons_of_mem _ hz)) (fun z hz => hy z (List.mem_cons_of_mem _ hz)) h2]
      have bx := hx x List.mem_cons_self
      have by' := hy y List.mem_cons_self
      have := congrArg UInt8.toNat h1
      simp at this
      congr 1; omega
/-- Appending to a slice of one's own in the blocks from `lo` on. -/
theorem apS {k : IntKind} {e : TypeId} {bytes lo : Nat} {w : World} {a x : Option Addr} {n c xc m : Nat} {ys zs : List Int} {K : Option Addr → Nat → Nat → World → Prop}
    (h : Own k e (fun b => lo ≤ b) w a n c ys) (hx : SlI k w x zs) (hm : zs.length = m) (hs : (n + m) * bytes ≤ 140737488355328) (hb : 0 < bytes) (hlo : lo ≤ w.heap.size)
    (hk : ∀ a' c' w', Own k e (fun b => lo ≤ b) w' a' (n + m) c' (ys ++ zs) → Chg (fun b => lo ≤ b) w w' → K a' (n + m) c' w') : appL e 1 bytes [.int k 0] a n c x m xc w K :=
  appL_own h hx hm hs hb fun a' c' w' ho hc => hk a' c' w' (ho.mono fun b hb _ => hb.elim id fun h => by omega) hc
theorem newC_sl {k : IntKind} {e : TypeId} {w : World} {l : List Value} {xs : List Int} {K : Addr → World → Prop} (hl : l = xs.map (Value.int k))
    (hk : ∀ p w', SlI k w' (Option.some p) xs → Chg no w w' → w'.heap.size = w.heap.size + 1 → p.block = w.heap.size → K p w') : newC e l w K := by
  subst hl
  exact newC_b fun w' hb hc hs => hk _ w' (BlI.sl hb) hc hs rfl
end Go.Proofs.Ytdbnobeopgfhgaa.Vm
