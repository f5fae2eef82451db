/- Bits of whole numbers, as bits of natural numbers. No statement of the seat is in this text. -/
import Derived.Test.YtdbnobeopgfhgaaVmP
set_option linter.unusedVariables false
set_option linter.unusedSimpArgs false
namespace Go.Proofs.Ytdbnobeopgfhgaa.Vm
open Go Go.RowKit
theorem wu32 {a : Int} (h0 : 0 ≤ a) (h1 : a ≤ 4294967295) : IntKind.wrap .u32 a = a := by simp [IntKind.wrap, IntKind.bits, IntKind.signed]; omega
theorem wu64 {a : Int} (h0 : 0 ≤ a) (h1 : a ≤ 18446744073709551615) : IntKind.wrap .u64 a = a := by simp [IntKind.wrap, IntKind.bits, IntKind.signed]; omega
theorem wu32_eq (a : Int) : IntKind.wrap .u32 a = a % 4294967296 := by simp [IntKind.wrap, IntKind.bits, IntKind.signed]
theorem wu64_eq (a : Int) : IntKind.wrap .u64 a = a % 18446744073709551616 := by simp [IntKind.wrap, IntKind.bits, IntKind.signed]
theorem wu8n {a : Nat} (h : a < 256) : IntKind.wrap .u8 (a : Int) = a := wu8 (by omega) (by omega)
theorem wu32n {a : Nat} (h : a < 4294967296) : IntKind.wrap .u32 (a : Int) = a := wu32 (by omega) (by omega)
theorem wu64n {a : Nat} (h : a < 18446744073709551616) : IntKind.wrap .u64 (a : Int) = a := wu64 (by omega) (by omega)
theorem w64n {a : Nat} (h : a < 9223372036854775808) : IntKind.wrap .i64 (a : Int) = a := w64 (by omega) (by omega)
theorem wf_u8 {a : Int} (h : (Lit.int .u8 a).wf = true) : 0 ≤ a ∧ a ≤ 255 := by
  simp [Lit.wf, IntKind.min, IntKind.max, IntKind.bits, IntKind.signed] at h; omega
theorem wf_u32 {a : Int} (h : (Lit.int .u32 a).wf = true) : 0 ≤ a ∧ a ≤ 4294967295 := by
  simp [Lit.wf, IntKind.min, IntKind.max, IntKind.bits, IntKind.signed] at h; omega
theorem shr_nat (k : IntKind) (a n : Nat) : shr k (a : Int) n = ((a >>> n : Nat) : Int) := by
  unfold shr
  rw [Int.fdiv_eq_ediv_of_nonneg _ (Int.pow_nonneg (by omega)), Nat.shiftRight_eq_div_pow]
  simp
theorem bxor_u32 (a b : Nat) (ha : a < 4294967296) (hb : b < 4294967296) : bxor .u32 (a : Int) (b : Int) = ((a ^^^ b : Nat) : Int) := by
  unfold bxor
  have h : a ^^^ b < 2 ^ 32 := Nat.xor_lt_two_pow ha hb
  rw [show IntKind.bits .u32 = 32 from rfl, BitVec.ofInt_natCast, BitVec.ofInt_natCast, BitVec.toNat_xor, BitVec.toNat_ofNat, BitVec.toNat_ofNat, Nat.mod_eq_of_lt ha, Nat.mod_eq_of_lt hb]
  exact wu32 (by omega) (by omega)
theorem bxor_u8 (a b : Nat) (ha : a < 256) (hb : b < 256) : bxor .u8 (a : Int) (b : Int) = ((a ^^^ b : Nat) : Int) := by
  unfold bxor
  have h : a ^^^ b < 2 ^ 8 := Nat.xor_lt_two_pow ha hb
  rw [show IntKind.bits .u8 = 8 from rfl, BitVec.ofInt_natCast, BitVec.ofInt_natCast, BitVec.toNat_xor, BitVec.toNat_ofNat, BitVec.toNat_ofNat, Nat.mod_eq_of_lt ha, Nat.mod_eq_of_lt hb]
  exact wu8 (by omega) (by omega)
theorem band_u32 (a b : Nat) (ha : a < 4294967296) (hb : b < 4294967296) : band .u32 (a : Int) (b : Int) = ((a &&& b : Nat) : Int) := by
  unfold band
  have h : a &&& b ≤ a := Nat.and_le_left
  rw [show IntKind.bits .u32 = 32 from rfl, BitVec.ofInt_natCast, BitVec.ofInt_natCast, BitVec.toNat_and, BitVec.toNat_ofNat, BitVec.toNat_ofNat, Nat.mod_eq_of_lt ha, Nat.mod_eq_of_lt hb]
  exact wu32 (by omega) (by omega)
theorem bor_u32 (a b : Nat) (ha : a < 4294967296) (hb : b < 4294967296) : bor .u32 (a : Int) (b : Int) = ((a ||| b : Nat) : Int) := by
  unfold bor
  have h : a ||| b < 2 ^ 32 := Nat.or_lt_two_pow ha hb
  rw [show IntKind.bits .u32 = 32 from rfl, BitVec.ofInt_natCast, BitVec.ofInt_natCast, BitVec.toNat_or, BitVec.toNat_ofNat, BitVec.toNat_ofNat, Nat.mod_eq_of_lt ha, Nat.mod_eq_of_lt hb]
  exact wu32 (by omega) (by omega)
/-- A write, and a read, at an index of an array. -/
theorem wrA {k : IntKind} {t : TypeId} {w : World} {b n : Nat} {ys : List Int} {e v : Int} {K : World → Prop} (h : BlI k t w b ys) (i : Nat) (he : e = i) (hi : i < ys.length) (hn : i < n)
    (hk : ∀ w', BlI k t w' b (ys.set i v) → Chg (fun j => j = b) w w' → K w') : if 0 ≤ e ∧ e < (n : Int) then stC ((⟨b, 0, none⟩ : Addr).add e.toNat) (.int k v) w K else False := by
  subst he
  refine if_of ⟨by omega, by omega⟩ ?_
  rw [show Int.toNat (i : Int) = i by omega]
  exact stC_x h hi hk
theorem rdA {k : IntKind} {t : TypeId} {w : World} {b n : Nat} {ys : List Int} {e v : Int} {K : Int → Prop} (h : BlI k t w b ys) (i : Nat) (he : e = i) (hv : ys[i]? = Option.some v) (hn : i < n)
    (hk : K v) : if 0 ≤ e ∧ e < (n : Int) then ldI k ((⟨b, 0, none⟩ : Addr).add e.toNat) w K else False := by
  obtain ⟨hi, hx⟩ := List.getElem?_eq_some_iff.1 hv
  subst he
  refine if_of ⟨by omega, by omega⟩ ?_
  rw [show Int.toNat (i : Int) = i by omega]
  exact ldI_x h hi (by rw [hx]; exact hk)
theorem ldA_b {k : IntKind} {t : TypeId} {w : World} {b n : Nat} {xs : List Int} {K : List Value → Prop} (h : BlI k t w b xs) (hn : xs.length = n) (hk : K (xs.map (Value.int k))) : ldA ⟨b, 0, none⟩ n w K :=
  ldA_of (by rw [← hn]; exact h.rd) hk
theorem stCs_x {k : IntKind} {t : TypeId} {w : World} {b : Nat} {xs ys : List Int} {K : World → Prop} (h : BlI k t w b xs) (hl : ys.length = xs.length)
    (hk : ∀ w', BlI k t w' b ys → Chg (fun j => j = b) w w' → K w') : stCs ⟨b, 0, none⟩ (ys.map (Value.int k)) 0 w K :=
  stCs_b h (fun v hv => by obtain ⟨x, _, rfl⟩ := List.mem_map.1 hv; rfl) (by simp [hl]) hk
theorem newC_x {k : IntKind} {t : TypeId} {w : World} {n : Nat} {z : Int} {K : Addr → World → Prop}
    (hk : ∀ w', BlI k t w' w.heap.size (List.replicate n z) → Chg no w w' → w'.heap.size = w.heap.size + 1 → K ⟨w.heap.size, 0, none⟩ w') : newC t (List.replicate n (Value.int k z)) w K :=
  newC_b fun w' hb hc hs => hk w' (by unfold BlI; unfold Bl at hb; rw [hb]; simp) hc hs
theorem heap_freeze_same {w : World} {b : Nat} {l : List Value} {e : TypeId} {z : Nat × Nat} (h : w.heap[b]? = Option.some (.cells l.toArray e z)) (m o : Nat) :
    ∃ y, (w.freeze ⟨b, o, none⟩ m).heap[b]? = Option.some (.cells l.toArray e y) := by
  unfold World.freeze
  split
  · exact ⟨z, h⟩
  · refine ⟨if z.1 == z.2 then (o, o + m) else (min z.1 o, max z.2 (o + m)), ?_⟩
    show (w.heap.modify b _)[b]? = _
    rw [Array.getElem?_modify, if_pos rfl, h]
    rfl
theorem heap_freeze_other {w : World} {b k : Nat} (hk : k ≠ b) (m o : Nat) : (w.freeze ⟨b, o, none⟩ m).heap[k]? = w.heap[k]? := by
  unfold World.freeze
  split
  · rfl
  · show (w.heap.modify b _)[k]? = _
    rw [Array.getElem?_modify]
    rw [if_neg (fun h => hk h.symm)]
theorem Chg.freeze (w : World) (b o m : Nat) : Chg (fun k => k = b) w (w.freeze ⟨b, o, none⟩ m) :=
  ⟨by unfold World.freeze; split <;> rfl, by unfold World.freeze; split <;> rfl, by unfold World.freeze; split <;> rfl, by unfold World.freeze; split; exact Nat.le_refl _; show _ ≤ (w.heap.modify b _).size; simp, fun k _ hn => heap_freeze_other hn m o⟩
theorem mkStr_of {w : World} {b : Nat} {e : TypeId} {l : List Value} {K : World → Prop} (h : Bl e w b l) (hk : ∀ w' y, w'.heap[b]? = Option.some (.cells l.toArray e y) → Chg (fun k => k = b) w w' → K w') : mkStr ⟨b, 0, none⟩ w K := by
  unfold mkStr
  rw [show w.shape? b = Option.some (e, l.length) by unfold World.shape?; rw [h]; simp]
  obtain ⟨y, hy⟩ := heap_freeze_same h 1 l.length
  exact hk _ y hy (Chg.freeze w b l.length 1)
theorem cell_any {w : World} {b i : Nat} {l : List Value} {e : TypeId} {z : Nat × Nat} {v : Value} (h : w.heap[b]? = Option.some (.cells l.toArray e z)) (hi : l[i]? = Option.some v) : w.cell? ⟨b, i, none⟩ = Option.some v := by
  rw [cell_of_row w b i _ e z h]; simpa using hi
/-- Natural numbers as whole ones. -/
def ints (l : List Nat) : List Int := l.map fun (n : Nat) => (n : Int)
theorem By.nats {xs : List Int} (h : By xs) : ∃ l : List Nat, xs = ints l ∧ ∀ x ∈ l, x < 256 := by
  induction xs with
  | nil => exact ⟨[], rfl, fun x hx => by cases hx⟩
  | cons x xs ih =>
    obtain ⟨l, hl, hb⟩ := ih fun y hy => h y (List.mem_cons_of_mem _ hy)
    have hx := h x List.mem_cons_self
    refine ⟨x.toNat :: l, ?_, fun y hy => ?_⟩
    · simp only [ints, List.map_cons] at hl ⊢
      rw [hl]; congr 1; omega
    · rcases List.mem_cons.1 hy with rfl | hy
      · omega
      · exact hb y hy
theorem ints_by {l : List Nat} (h : ∀ x ∈ l, x < 256) : By (ints l) := fun x hx => by
  obtain ⟨n, hn, rfl⟩ := List.mem_map.1 hx
  have := h n hn
  omega
theorem ints_length (l : List Nat) : (ints l).length = l.length := List.length_map ..
theorem ints_get (l : List Nat) (i : Nat) : (ints l)[i]? = (l[i]?).map fun (n : Nat) => (n : Int) := List.getElem?_map ..
theorem ints_app (l m : List Nat) : ints (l ++ m) = ints l ++ ints m := List.map_append ..
end Go.Proofs.Ytdbnobeopgfhgaa.Vm
