/- Regions that draw their order, told in one order. No statement of the seat is in this text. -/
import Derived.Test.YtdbnobeopgfhgaaVmG
import Derived.Deep.LoopGhost
set_option linter.unusedVariables false
set_option linter.unusedSimpArgs false
set_option linter.unusedSectionVars false
namespace Go.Proofs.Ytdbnobeopgfhgaa.Vm
open Go
section
variable {P : Program} {ops : Array Oper} {Q : Exit → Act → World → Prop}
def filt (ops : Array Oper) (j : Nat) (Φ : Facts) : Facts := Φ.filter fun p => !aft ops j p.1
/-- Whatever order is picked, and the facts hold behind every operation that does not wait for what told them. -/
def wpF (P : Program) (ops : Array Oper) (Q : Exit → Act → World → Prop) : Nat → Facts → Array Bool → Act → World → Prop
  | 0, _, listed, a, w => Region.ready .any ops listed = [] ∧ Q .normal a w
  | n + 1, Φ, listed, a, w =>
    (Region.ready .any ops listed = [] → Q .normal a w) ∧
    ∀ i ∈ Region.ready .any ops listed, wpOp P ops Q i (fun a' w' => (∀ p ∈ filt ops i Φ, p.2 w') ∧ wpF P ops Q n (filt ops i Φ) (listed.setIfInBounds i true) a' w') a w
theorem wpF_any : ∀ (n : Nat) (Φ : Facts) (listed : Array Bool) (a : Act) (w : World), wpF P ops Q n Φ listed a w → wpAny P .any ops Q n listed a w
  | 0, _, _, _, _, h => h
  | n + 1, Φ, _, _, _, h => ⟨h.1, fun i hi => wpOp_mono (fun a' w' h' => wpF_any n _ _ a' w' h'.2) (h.2 i hi)⟩
/-- Weaker facts. -/
def Less (Φ Ψ : Facts) : Prop := ∀ p ∈ Φ, (∀ w, p.2 w) ∨ p ∈ Ψ
theorem Less.filt {Φ Ψ : Facts} (h : Less Φ Ψ) (j : Nat) : Less (filt ops j Φ) (filt ops j Ψ) := by
  intro p hp
  obtain ⟨h1, h2⟩ := List.mem_filter.1 hp
  rcases h p h1 with h | h
  · exact .inl h
  · exact .inr (List.mem_filter.2 ⟨h, h2⟩)
theorem wpF_less : ∀ (n : Nat) {Φ Ψ : Facts} (listed : Array Bool) (a : Act) (w : World), Less Φ Ψ → wpF P ops Q n Ψ listed a w → wpF P ops Q n Φ listed a w
  | 0, _, _, _, _, _, _, h => h
  | n + 1, Φ, Ψ, listed, a, w, hl, h => ⟨h.1, fun i hi => wpOp_mono (fun a' w' h' => ⟨fun p hp => by
      rcases hl.filt (ops := ops) i p hp with h | h
      · exact h w'
      · exact h'.1 p h, wpF_less n _ a' w' (hl.filt i) h'.2⟩) (h.2 i hi)⟩
theorem aft_false {i j : Nat} {oj : Oper} (hj : ops[j]? = some oj) (h : ∀ e ∈ oj.after, Region.binds .any e = true → e.on ≠ i) : aft ops j i = false := by
  unfold aft
  rw [hj]
  simp only
  rw [Array.any_eq_false']
  intro e he
  simp only [Bool.and_eq_true, beq_iff_eq, not_and]
  exact h e he
/-- What may come up now, hands back its value wherever its fact holds, and is apart from all that does not wait for it, may be taken first. -/
theorem wpF_first {i : Nat} {oi : Oper} {v : Value} {F : World → Prop} (hi : ops[i]? = some oi) (hsel : ∀ (j : Nat) (o : Oper) cs b, ops[j]? = some o → o.op ≠ .select cs b)
    (hQ : ∀ c a w, Q (.panic c) (a.put oi.dst v) w → Q (.panic c) a w) :
    ∀ (n : Nat) (Φ : Facts) (listed : Array Bool) (a : Act) (w : World),
      (∀ j oj, ops[j]? = some oj → j ≠ i → listed.getD j true = false → (∀ e ∈ oj.after, Region.binds .any e = true → e.on ≠ i) → oi.apart ops oj = true) →
      i ∈ Region.ready .any ops listed → YieldsIf P ops F oi v a → F w → (∀ p ∈ Φ, p.2 w) →
      wpF P ops Q n ((i, F) :: Φ) (listed.setIfInBounds i true) (a.put oi.dst v) w → wpF P ops Q (n + 1) Φ listed a w := by
  intro n
  induction n with
  | zero =>
    intro Φ listed a w _ hr hy hF hΦ H
    refine ⟨fun h => (by rw [h] at hr; cases hr), fun j hj => ?_⟩
    by_cases hji : j = i
    · subst hji; exact hy.wpOp hi hF ⟨fun p hp => hΦ p (List.mem_filter.1 hp).1, H⟩
    · have := ready_mono hj hji
      rw [H.1] at this
      cases this
  | succ n ih =>
    intro Φ listed a w hfree hr hy hF hΦ H
    refine ⟨fun h => (by rw [h] at hr; cases hr), fun j hj => ?_⟩
    by_cases hji : j = i
    · subst hji
      refine hy.wpOp hi hF ⟨fun p hp => hΦ p (List.mem_filter.1 hp).1, wpF_less _ _ _ _ ?_ H⟩
      intro p hp
      exact .inr (List.mem_cons_of_mem _ (List.mem_filter.1 hp).1)
    · have h1 := H.2 j (ready_mono hj hji)
      obtain ⟨hjun, oj, hoj, hall⟩ := mem_ready.1 hj
      have hnot : ∀ e ∈ oj.after, Region.binds .any e = true → e.on ≠ i := fun e he hb heq => by
        have h1 := hall e he hb
        have h0 := (mem_ready.1 hr).1
        rw [heq] at h1
        rcases Nat.lt_or_ge i listed.size with h' | h'
        · simp [h'] at h0 h1; rw [h0] at h1; cases h1
        · simp [Array.getElem?_eq_none h'] at h1
      have haft := aft_false hoj hnot
      have hfilt : filt ops j ((i, F) :: Φ) = (i, F) :: filt ops j Φ := by
        simp [filt, haft]
      rw [hfilt] at h1
      have h2 := wpOp_putIf hoj (hfree j oj hoj hji hjun hnot) (fun cs b => hsel i oi cs b hi) (fun cs b => hsel j oj cs b hoj) hQ hy h1
      have hfree' : ∀ k ok, ops[k]? = some ok → k ≠ i → (listed.setIfInBounds j true).getD k true = false →
          (∀ e ∈ ok.after, Region.binds .any e = true → e.on ≠ i) → oi.apart ops ok = true := fun k ok hk hki hun hno => by
        refine hfree k ok hk hki ?_ hno
        by_cases hjk : j = k
        · subst hjk; exact hjun
        · rw [getD_set_ne true hjk] at hun; exact hun
      refine wpOp_mono (fun a' w' h3 => ⟨fun p hp => h3.2.1 p (List.mem_cons_of_mem _ hp), ?_⟩) h2
      refine ih (filt ops j Φ) (listed.setIfInBounds j true) a' w' hfree' (ready_mono hr (Ne.symm hji)) h3.1 (h3.2.1 (i, F) List.mem_cons_self) (fun p hp => h3.2.1 p (List.mem_cons_of_mem _ hp)) ?_
      rw [Array.setIfInBounds_comm _ _ hji]
      exact h3.2.2
/-- Is a plan an order that tells all? -/
def planOk (ops : Array Oper) : Plan → Array Bool → Nat → Bool
  | .done, listed, n => (Region.ready .any ops listed).isEmpty
  | .take i p, listed, n => match n with
    | 0 => false
    | n + 1 => (Region.ready .any ops listed).contains i && Region.free .any ops listed i && planOk ops p (listed.setIfInBounds i true) n
  | .eff i p, listed, n => match n with
    | 0 => false
    | n + 1 => (Region.ready .any ops listed) == [i] && planOk ops p (listed.setIfInBounds i true) n
  | .eff2 i p j q, listed, n => match n with
    | 0 => false
    | n + 1 => (Region.ready .any ops listed) == [i, j] && planOk ops p (listed.setIfInBounds i true) n && planOk ops q (listed.setIfInBounds j true) n
theorem fkeep_filt (j : Nat) : ∀ (Φ : Facts), fkeep ops j Φ = filt ops j Φ
  | [] => rfl
  | p :: Φ => by
    have ih := fkeep_filt j Φ
    simp only [fkeep, filt, List.filter_cons] at ih ⊢
    cases h : aft ops j p.1 <;> simp [ih]
theorem held_ok {w : World} {K : Prop} : ∀ {Φ : Facts}, held w Φ K → (∀ p ∈ Φ, p.2 w) ∧ K
  | [], h => ⟨fun p hp => (List.not_mem_nil hp).elim, h⟩
  | p :: Φ, h => by
    obtain ⟨h1, h2⟩ := h
    obtain ⟨h3, h4⟩ := held_ok h2
    exact ⟨fun q hq => by
      rcases List.mem_cons.1 hq with rfl | hq
      · exact h1
      · exact h3 q hq, h4⟩
end
section
variable {P : Program} {ops : Array Oper} {Q : Exit → Act → World → Prop} {T : Tab} (hT : TOk P T) {C : Hd} (hC : CSound P C)
/-- A guard: what is told of it, and what the machine finds. -/
theorem gsel_ok {g : Option (Nat × Bool)} {o : Oper} (hg : o.guard = g) {f : Fr} {a : Act} (hr : Ref f a) {yes no : Fr → Prop} (h : gsel ops g f yes no) :
    ∃ f', Ref f' a ∧ ((Region.wanted o (yielded ops a.tmps) = true ∧ yes f') ∨ (Region.wanted o (yielded ops a.tmps) = false ∧ no f')) := by
  subst hg
  unfold gsel at h
  unfold Region.wanted
  cases ho : o.guard with
  | none => rw [ho] at h; exact ⟨f, hr, .inl ⟨rfl, h⟩⟩
  | some gw =>
    obtain ⟨j, want⟩ := gw
    rw [ho] at h
    simp only at h ⊢
    split at h
    · rename_i d hd
      have hy : yielded ops a.tmps j = match a.tmps[d]? with | some (.bool b) => some b | _ => none := by
        unfold yielded
        rw [hd]
        rfl
      split at h
      · rename_i b hb
        have hv := hr.val d _ (getD_some hb)
        rw [hy, hv]
        simp only
        cases b with
        | true =>
          simp only [cond_true] at h
          refine ⟨f.set d (some (.bool true)), hr.known hb, ?_⟩
          cases want with
          | true => exact .inl ⟨rfl, h⟩
          | false => exact .inr ⟨rfl, h⟩
        | false =>
          simp only [cond_false] at h
          refine ⟨f.set d (some (.bool false)), hr.known hb, ?_⟩
          cases want with
          | true => exact .inr ⟨rfl, h⟩
          | false => exact .inl ⟨rfl, h⟩
      · rename_i vs hb
        have hv := hr.val d _ (getD_some hb)
        rw [hy, hv]
        exact ⟨f, hr, .inr ⟨rfl, h⟩⟩
      · exact h.elim
    · exact h.elim
include hT hC
theorem aOps_ok {ops : Array Oper} {K : Fr → World → Prop} : ∀ {l : List Oper} {f : Fr} {a : Act} {w : World}, aOps C T ops l f w K → Ref f a →
    (∀ f' a' w', K f' w' → Ref f' a' → Q .normal a' w') → wpList P ops Q l a w
  | [], f, a, w, h, hr, hk => hk f a w h hr
  | o :: r, f, a, w, h, hr, hk => by
    obtain ⟨f', hr', h⟩ := gsel_ok (ops := ops) rfl hr h
    unfold wpList
    rcases h with ⟨hw, h⟩ | ⟨hw, h⟩
    · rw [if_pos hw]
      left
      cases he : isE T o.op with
      | true =>
        rw [he, cond_true] at h
        refine e_ok hT hr' hC h fun v w' h => aOps_ok h (hr'.put o.dst v) hk
      | false =>
        rw [he, cond_false] at h
        obtain ⟨v, F, h, hF, hg⟩ := q_ok hT hr' h
        unfold Oper.wp
        rw [hg w hF]
        exact aOps_ok h (hr'.put o.dst v) hk
    · rw [if_neg (by rw [hw]; simp)]
      exact aOps_ok h (hr'.put o.dst undef) hk
theorem aDraw_ok {ops : Array Oper} (hs : Region.noSelect ops = true) (hQ : ∀ c a w, ¬ Q (.panic c) a w) {K : Fr → World → Prop} :
    ∀ {p : Plan} {Φ : Facts} {n : Nat} {listed : Array Bool} {f : Fr} {a : Act} {w : World}, aDraw C T ops p Φ f w K → planOk ops p listed n = true → Ref f a → (∀ q ∈ Φ, q.2 w) →
    (∀ f' a' w', K f' w' → Ref f' a' → Q .normal a' w') → wpF P ops Q n Φ listed a w
  | .done, Φ, n, listed, f, a, w, h, hp, hr, hΦ, hk => by
    simp only [planOk, List.isEmpty_iff] at hp
    cases n with
    | zero => exact ⟨hp, hk f a w h hr⟩
    | succ n => exact ⟨fun _ => hk f a w h hr, by rw [hp]; simp⟩
  | .take i p, Φ, n, listed, f, a, w, h, hp, hr, hΦ, hk => by
    cases n with
    | zero => cases hp
    | succ n =>
      simp only [planOk, Bool.and_eq_true] at hp
      obtain ⟨⟨hready, hfree⟩, hp⟩ := hp
      simp only [aDraw] at h
      split at h
      · rename_i o ho
        obtain ⟨f', hr', h⟩ := gsel_ok (ops := ops) rfl hr h
        have hready' : i ∈ Region.ready .any ops listed := by simpa using hready
        rcases h with ⟨hw, h⟩ | ⟨hw, h⟩
        · obtain ⟨v, F, h, hF, hg⟩ := q_ok hT hr' h
          have hΦ' : ∀ q ∈ fadd i F Φ, q.2 w := by
            intro q hq
            cases F with
            | none => exact hΦ q hq
            | some F =>
              rcases List.mem_cons.1 hq with rfl | hq
              · exact hF
              · exact hΦ q hq
          have ih := aDraw_ok hs hQ (n := n) (listed := listed.setIfInBounds i true) h hp (hr'.put o.dst v) hΦ' hk
          refine wpF_first (F := factP F) (v := v) ho (Region.noSelect_spec hs) (fun c a w hc => absurd hc (hQ c _ w)) n Φ listed a w (Region.free_spec ho hfree) hready' (.inl ⟨hw, fun w' hw' => hg w' hw'⟩) hF hΦ ?_
          refine wpF_less _ _ _ _ ?_ ih
          intro q hq
          rcases List.mem_cons.1 hq with rfl | hq'
          · cases F with
            | none => exact .inl fun w => trivial
            | some F => exact .inr List.mem_cons_self
          · cases F with
            | none => exact .inr hq'
            | some F => exact .inr (List.mem_cons_of_mem _ hq')
        · have ih := aDraw_ok hs hQ (n := n) (listed := listed.setIfInBounds i true) h hp (hr'.put o.dst undef) hΦ hk
          refine wpF_first (F := fun _ => True) (v := undef) ho (Region.noSelect_spec hs) (fun c a w hc => absurd hc (hQ c _ w)) n Φ listed a w (Region.free_spec ho hfree) hready' (.inr ⟨hw, rfl⟩) trivial hΦ ?_
          refine wpF_less _ _ _ _ ?_ ih
          intro q hq
          rcases List.mem_cons.1 hq with rfl | hq
          · exact .inl fun w => trivial
          · exact .inr hq
      · exact h.elim
  | .eff i p, Φ, n, listed, f, a, w, h, hp, hr, hΦ, hk => by
    cases n with
    | zero => cases hp
    | succ n =>
      simp only [planOk, Bool.and_eq_true, beq_iff_eq] at hp
      obtain ⟨hready, hp⟩ := hp
      simp only [aDraw] at h
      split at h
      · rename_i o ho
        obtain ⟨f', hr', h⟩ := gsel_ok (ops := ops) rfl hr h
        refine ⟨fun h0 => (by rw [hready] at h0; cases h0), fun j hj => ?_⟩
        rw [hready] at hj
        obtain rfl : j = i := by simpa using hj
        unfold wpOp
        rw [ho]
        simp only
        rcases h with ⟨hw, h⟩ | ⟨hw, h⟩
        · rw [if_pos hw]
          left
          refine e_ok hT hr' hC h fun v w' h => ?_
          obtain ⟨h1, h2⟩ := held_ok h
          rw [fkeep_filt] at h1 h2
          exact ⟨h1, aDraw_ok hs hQ h2 hp (hr'.put o.dst v) h1 hk⟩
        · rw [if_neg (by rw [hw]; simp)]
          rw [fkeep_filt] at h
          have h1 : ∀ q ∈ filt ops j Φ, q.2 w := fun q hq => hΦ q (List.mem_filter.1 hq).1
          exact ⟨h1, aDraw_ok hs hQ h hp (hr'.put o.dst undef) h1 hk⟩
      · exact h.elim
  | .eff2 i p k q, Φ, n, listed, f, a, w, h, hp, hr, hΦ, hk => by
    cases n with
    | zero => cases hp
    | succ n =>
      simp only [planOk, Bool.and_eq_true, beq_iff_eq] at hp
      obtain ⟨⟨hready, hp⟩, hq⟩ := hp
      simp only [aDraw] at h
      split at h
      · rename_i o u ho hu
        obtain ⟨h1, h2⟩ := h
        refine ⟨fun h0 => (by rw [hready] at h0; cases h0), fun j hj => ?_⟩
        rw [hready] at hj
        have hj' : j = i ∨ j = k := by simpa using hj
        unfold wpOp
        rcases hj' with rfl | rfl
        · obtain ⟨f', hr', h⟩ := gsel_ok (ops := ops) rfl hr h1
          rw [ho]
          simp only
          rcases h with ⟨hw, h⟩ | ⟨hw, h⟩
          · rw [if_pos hw]
            left
            refine e_ok hT hr' hC h fun v w' h => ?_
            obtain ⟨h1, h2⟩ := held_ok h
            rw [fkeep_filt] at h1 h2
            exact ⟨h1, aDraw_ok hs hQ h2 hp (hr'.put o.dst v) h1 hk⟩
          · rw [if_neg (by rw [hw]; simp)]
            rw [fkeep_filt] at h
            have h1 : ∀ q ∈ filt ops j Φ, q.2 w := fun q hq => hΦ q (List.mem_filter.1 hq).1
            exact ⟨h1, aDraw_ok hs hQ h hp (hr'.put o.dst undef) h1 hk⟩
        · obtain ⟨f', hr', h⟩ := gsel_ok (ops := ops) rfl hr h2
          rw [hu]
          simp only
          rcases h with ⟨hw, h⟩ | ⟨hw, h⟩
          · rw [if_pos hw]
            left
            refine e_ok hT hr' hC h fun v w' h => ?_
            obtain ⟨h1, h2⟩ := held_ok h
            rw [fkeep_filt] at h1 h2
            exact ⟨h1, aDraw_ok hs hQ h2 hq (hr'.put u.dst v) h1 hk⟩
          · rw [if_neg (by rw [hw]; simp)]
            rw [fkeep_filt] at h
            have h1 : ∀ q ∈ filt ops j Φ, q.2 w := fun q hq => hΦ q (List.mem_filter.1 hq).1
            exact ⟨h1, aDraw_ok hs hQ h hq (hr'.put u.dst undef) h1 hk⟩
      · exact h.elim
end

/-! ### Code -/
/-- Are all regions in order? -/
def regOk (D : Nat → Plan) : Code → Bool
  | .skip | .exit _ | .ret => true
  | .region id ops draw => match draw with
    | false => true
    | true => Region.noSelect ops && planOk ops (D id) (Array.replicate ops.size false) ops.size
  | .seq a b => regOk D a && regOk D b
  | .cond _ a b => regOk D a && regOk D b
  | .block _ c => regOk D c
  | .loop _ => true
  | _ => false
/-- The loops of a code, those inside of loops left out. -/
def loopsOf : Code → List Code
  | .seq a b => loopsOf a ++ loopsOf b
  | .cond _ a b => loopsOf a ++ loopsOf b
  | .block _ c => loopsOf c
  | .loop c => [c]
  | _ => []
/-- What a post says of an exit. -/
def Good (K : AExit → Fr → World → Prop) (e : Exit) (a : Act) (w : World) : Prop := ∃ x f, e = AExit.toExit x ∧ K x f w ∧ Ref f a
/-- What is told of a loop is what it does. -/
def LoopOk (P : Program) (L : LHd) (c : Code) : Prop := ∀ f w K a, L (lid c) f w K → Ref f a → (Code.loop c).wp P (Good K) a w
theorem Good.mono {K K' : AExit → Fr → World → Prop} (h : ∀ e f w, K e f w → K' e f w) {e : Exit} {a : Act} {w : World} (hg : Good K e a w) : Good K' e a w := by
  obtain ⟨x, f, he, hk, hr⟩ := hg
  exact ⟨x, f, he, h _ _ _ hk, hr⟩
section
variable {P : Program} {T : Tab} (hT : TOk P T) {C : Hd} (hC : CSound P C) {L : LHd} {D : Nat → Plan}
include hT hC
theorem awp_ok : ∀ (c : Code) (K : AExit → Fr → World → Prop) (f : Fr) (w : World) (a : Act), awp C L D T c K f w → regOk D c = true → (∀ b ∈ loopsOf c, LoopOk P L b) → Ref f a →
    c.wp P (Good K) a w
  | .skip, K, f, w, a, h, hg, hl, hr => wp_skip ⟨.normal, f, rfl, h, hr⟩
  | .exit i, K, f, w, a, h, hg, hl, hr => wp_exit ⟨.exit i, f, rfl, h, hr⟩
  | .ret, K, f, w, a, h, hg, hl, hr => wp_ret ⟨.ret, f, rfl, h, hr⟩
  | .region id ops draw, K, f, w, a, h, hg, hl, hr => by
    cases draw with
    | false =>
      refine wp_region_list ?_
      exact aOps_ok hT hC (K := fun f w => K .normal f w) h hr fun f' a' w' hk hr' => ⟨.normal, f', rfl, hk, hr'⟩
    | true =>
      simp only [regOk, Bool.and_eq_true] at hg
      refine wp_region_any hT.mixed (wpF_any _ [] _ _ _ ?_)
      exact aDraw_ok hT hC hg.1 (fun c a w ⟨x, f, he, _⟩ => by cases x <;> cases he) (K := fun f w => K .normal f w) h hg.2 hr (fun q hq => (List.not_mem_nil hq).elim)
        fun f' a' w' hk hr' => ⟨.normal, f', rfl, hk, hr'⟩
  | .seq x y, K, f, w, a, h, hg, hl, hr => by
    simp only [regOk, Bool.and_eq_true] at hg
    refine wp_seq (wp_mono (awp_ok x _ f w a h hg.1 (fun b hb => hl b (by simp [loopsOf, hb])) hr) ?_)
    rintro e a' w' ⟨ex, f', rfl, hk, hr'⟩
    cases ex with
    | normal => exact awp_ok y K f' w' a' hk hg.2 (fun b hb => hl b (by simp [loopsOf, hb])) hr'
    | exit i => exact ⟨.exit i, f', rfl, hk, hr'⟩
    | ret => exact ⟨.ret, f', rfl, hk, hr'⟩
  | .cond c x y, K, f, w, a, h, hg, hl, hr => by
    simp only [regOk, Bool.and_eq_true] at hg
    simp only [awp] at h
    split at h
    · rename_i t hc
      cases t with
      | true => exact wp_cond_true (hr.ev hc) (awp_ok x K f w a h hg.1 (fun b hb => hl b (by simp [loopsOf, hb])) hr)
      | false => exact wp_cond_false (hr.ev hc) (awp_ok y K f w a h hg.2 (fun b hb => hl b (by simp [loopsOf, hb])) hr)
    · exact h.elim
  | .block id c, K, f, w, a, h, hg, hl, hr => by
    refine wp_block (wp_mono (awp_ok c _ f w a h hg hl hr) ?_)
    rintro e a' w' ⟨ex, f', rfl, hk, hr'⟩
    cases ex with
    | normal => exact ⟨.normal, f', rfl, hk, hr'⟩
    | ret => exact ⟨.ret, f', rfl, hk, hr'⟩
    | exit i =>
      simp only at hk
      show Exit.inBlock id _ (.exit i) a' w'
      simp only [Exit.inBlock]
      split at hk
      · rename_i hb
        rw [if_pos (Nat.eq_of_beq_eq_true hb)]
        exact ⟨.normal, f', rfl, hk, hr'⟩
      · rename_i hb
        rw [if_neg (fun e => by subst e; simp at hb)]
        exact ⟨.exit i, f', rfl, hk, hr'⟩
  | .loop c, K, f, w, a, h, hg, hl, hr => hl c (by simp [loopsOf]) f w K a h hr
  | .rangeFunc _ _ _ _, _, _, _, _, h, _, _, _ => h.elim
  | .scope _, _, _, _, _, h, _, _, _ => h.elim
  | .label _, _, _, _, _, h, _, _, _ => h.elim
  | .goto _, _, _, _, _, h, _, _, _ => h.elim
  | .refuse _, _, _, _, _, h, _, _, _ => h.elim
/-- A frame of which less is known. -/
def LeAt : Nat → Fr → Fr → Prop
  | _, [], _ => True
  | i, none :: g, f => LeAt (i + 1) g f
  | i, some v :: g, f => f.getD i none = some v ∧ LeAt (i + 1) g f
/-- What stands behind a round. -/
def lpost (H : Nat → Fr → World → (AExit → Fr → World → Prop) → Prop) (HX : AExit → Fr → World → (AExit → Fr → World → Prop) → Prop) (n : Nat) (K : AExit → Fr → World → Prop) : AExit → Fr → World → Prop := fun e f w => match e with
  | .normal => H n f w K
  | .exit i => HX (.exit i) f w K
  | .ret => HX .ret f w K
omit hT hC in
theorem LeAt.get : ∀ {g f : Fr} {i : Nat}, LeAt i g f → ∀ (j : Nat) (v : Value), g[j]? = some (some v) → f.getD (i + j) none = some v
  | [], f, i, h, j, v, hj => by cases hj
  | none :: g, f, i, h, j, v, hj => by
    cases j with
    | zero => simp at hj
    | succ j =>
      have := LeAt.get (g := g) (i := i + 1) h j v (by simpa using hj)
      rw [show i + (j + 1) = i + 1 + j by omega]; exact this
  | some u :: g, f, i, h, j, v, hj => by
    cases j with
    | zero => simp at hj; subst hj; exact h.1
    | succ j =>
      have := LeAt.get (g := g) (i := i + 1) h.2 j v (by simpa using hj)
      rw [show i + (j + 1) = i + 1 + j by omega]; exact this
omit hT hC in
theorem Ref.less {g f : Fr} {a : Act} (hr : Ref f a) (hl : g.length = f.length) (h : LeAt 0 g f) : Ref g a :=
  ⟨hl.trans hr.size, fun i v hi => hr.val i v (getD_some (by have := h.get i v hi; simpa using this)), hr.defers⟩
/-- The law of a loop: 'H n' tells of n rounds at the most, 'HX' of what stands behind it. -/
theorem loop_ok {c : Code} (H : Nat → Fr → World → (AExit → Fr → World → Prop) → Prop) (HX : AExit → Fr → World → (AExit → Fr → World → Prop) → Prop)
    (hg : regOk D c = true) (hl : ∀ b ∈ loopsOf c, LoopOk P L b)
    (h0 : ∀ f w K, ¬ H 0 f w K)
    (hs : ∀ n f w K, H (n + 1) f w K → ∃ g, g.length = f.length ∧ LeAt 0 g f ∧
      awp C L D T c (lpost H HX n K) g w)
    (hx : ∀ e f w K, HX e f w K → ∃ g, g.length = f.length ∧ LeAt 0 g f ∧ K e g w)
    (hL : ∀ f w K, L (lid c) f w K → ∃ n, H n f w K) : LoopOk P L c := by
  intro f w K a h hr
  obtain ⟨n, h⟩ := hL f w K h
  refine wp_loop_ghost (fun n a w => ∃ f, H n f w K ∧ Ref f a) n ⟨f, h, hr⟩ ?_
  rintro n a w ⟨f, h, hr⟩
  cases n with
  | zero => exact absurd h (h0 _ _ _)
  | succ n =>
    obtain ⟨g, hlen, hle, h⟩ := hs n f w K h
    refine wp_mono (awp_ok hT hC c _ g w a h hg hl (hr.less hlen hle)) ?_
    rintro e a' w' ⟨ex, f', rfl, hk, hr'⟩
    cases ex with
    | normal => exact ⟨n, Nat.lt_succ_self n, f', hk, hr'⟩
    | exit i =>
      obtain ⟨g', hlen', hle', hk⟩ := hx _ _ _ _ hk
      exact ⟨.exit i, g', rfl, hk, hr'.less hlen' hle'⟩
    | ret =>
      obtain ⟨g', hlen', hle', hk⟩ := hx _ _ _ _ hk
      exact ⟨.ret, g', rfl, hk, hr'.less hlen' hle'⟩
omit hC in
/-- The results, as the machine reads them. -/
theorem ares_ok {w : World} {a : Act} : ∀ {l : List ResultVar} {f : Fr} {K : List Value → Prop}, ares T l f w K → Ref f a →
    ∃ vs, K vs ∧ (l.mapM (fun | ResultVar.tmp t => (pure (a.tmps.getD t undef) : Sem Value) | .cell p t => do loadVar t (← asAddr (a.tmps.getD p undef)))).run P w = .ok vs w
  | [], f, K, h, hr => ⟨[], h, by simp⟩
  | .tmp t :: l, f, K, h, hr => by
    simp only [ares] at h
    split at h
    · rename_i v hv
      obtain ⟨_, h⟩ := cond_f h
      obtain ⟨vs, hk, hrun⟩ := ares_ok h hr
      exact ⟨v :: vs, hk, by simp only [List.mapM_cons, Sem.run_bind, Sem.run_pure, Result.andThen_ok, hrun, hr.get hv]⟩
    · exact h.elim
  | .cell p t :: l, f, K, h, hr => by
    simp only [ares] at h
    have fin : ∀ {ad : Addr} {v : Value} {vs : List Value}, f.getD p none = some (.pointer (some ad)) → (loadVar t ad).run P w = .ok v w →
        (l.mapM (fun | ResultVar.tmp t => (pure (a.tmps.getD t undef) : Sem Value) | .cell p t => do loadVar t (← asAddr (a.tmps.getD p undef)))).run P w = .ok vs w →
        ((ResultVar.cell p t :: l).mapM (fun | ResultVar.tmp t => (pure (a.tmps.getD t undef) : Sem Value) | .cell p t => do loadVar t (← asAddr (a.tmps.getD p undef)))).run P w = .ok (v :: vs) w := by
      intro ad v vs hp hl hrun
      have hga := hr.get hp
      have ha : (asAddr (.pointer (some ad))).run P w = .ok ad w := rfl
      simp only [List.mapM_cons, Sem.run_bind, Result.andThen_ok, hga, ha, hl, hrun, Sem.run_pure]
    split at h
    · rename_i ad n e size _ _ hp ht
      obtain ⟨cs, hc, h⟩ := ldW_ok h
      obtain ⟨vs, hk, hrun⟩ := ares_ok h hr
      exact ⟨_, hk, fin hp (run_loadVar_agg (u_arr hT ht rfl) rfl (run_size hT ht w) hc) hrun⟩
    · rename_i ad fs size _ _ hp ht
      obtain ⟨cs, hc, h⟩ := ldW_ok h
      obtain ⟨vs, hk, hrun⟩ := ares_ok h hr
      obtain ⟨gs, hu, _⟩ := u_struct hT ht rfl
      exact ⟨_, hk, fin hp (run_loadVar_agg hu rfl (run_size hT ht w) hc) hrun⟩
    · rename_i ad k _ _ _ hp ht
      obtain ⟨n, hc, h⟩ := ldI_ok h
      obtain ⟨vs, hk, hrun⟩ := ares_ok h hr
      exact ⟨_, hk, fin hp (run_loadVar_one (u_int hT ht rfl) rfl hc) hrun⟩
    · rename_i ad e _ _ _ hp ht
      obtain ⟨q, n, c, hc, h⟩ := ldL_ok h
      obtain ⟨vs, hk, hrun⟩ := ares_ok h hr
      exact ⟨_, hk, fin hp (run_loadVar_one (u_slice hT ht rfl) rfl hc) hrun⟩
    · exact h.elim
omit hC in
theorem results_ok {w : World} {a : Act} {fn : Func} {f : Fr} {K : Value → Prop} (h : ares T fn.results.toList f w fun vs => K (tup vs)) (hr : Ref f a) :
    ∃ v, K v ∧ (results fn a.tmps).run P w = .ok v w := by
  obtain ⟨vs, hk, hrun⟩ := ares_ok hT (P := P) h hr
  refine ⟨_, hk, ?_⟩
  have hm : (fn.results.mapM (fun | ResultVar.tmp t => (pure (a.tmps.getD t undef) : Sem Value) | .cell p t => do loadVar t (← asAddr (a.tmps.getD p undef)))).run P w = .ok vs.toArray w := by
    rw [← Array.toArray_toList (xs := fn.results), List.mapM_toArray, Sem.run_map, hrun]
    rfl
  unfold results
  rw [Sem.run_bind]
  refine (congrArg (fun r => Result.andThen r _) hm).trans ?_
  simp only [Result.andThen_ok]
  cases vs with
  | nil => rfl
  | cons v vs => cases vs with
    | nil => rfl
    | cons u vs => rfl
/-- What is told of a function is what its calls do. -/
theorem fn_ok {g : FuncId} {fn : Func} {c : Code} (hf : P.funcs[g]? = some fn) (hb : fn.body = some c) (hg : regOk D c = true) (hl : ∀ b ∈ loopsOf c, LoopOk P L b)
    {args : List Value} (hargs : args.length ≤ fn.ntmps) {w : World} {K : Value → World → Prop} (h : afn C L D T fn args w K) :
    Calls P g args.toArray w fun e w' => ∃ v, e = .returned v ∧ K v w' := by
  unfold afn at h
  rw [hb] at h
  simp only at h
  refine calls_of_wp hf hb (wp_mono (awp_ok hT hC c _ _ w _ h hg hl ?_) ?_)
  · refine ⟨by simp, fun i v hi => ?_, rfl⟩
    rw [← Array.getElem?_toList]
    have e : (args.toArray ++ Array.replicate (fn.ntmps - args.toArray.size) undef).toList = args ++ List.replicate (fn.ntmps - args.length) undef := by simp
    rw [e]
    by_cases hlt : i < args.length
    · rw [List.getElem?_append_left (by simpa using hlt)] at hi
      rw [List.getElem?_append_left hlt]
      simpa using hi
    · rw [List.getElem?_append_right (by simp; omega)] at hi
      rw [List.getElem?_append_right (by omega)]
      rw [List.getElem?_replicate] at hi ⊢
      simp only [List.length_map] at hi
      split at hi
      · rename_i hc
        rw [if_pos hc]
        simpa using hi
      · cases hi
  · rintro e a' w' ⟨ex, f', rfl, hk, hr'⟩
    cases ex with
    | normal =>
      obtain ⟨v, hv, hrun⟩ := results_ok (K := fun v => K v w') hT hk hr'
      exact ⟨hr'.defers, v, hrun, v, rfl, hv⟩
    | ret =>
      obtain ⟨v, hv, hrun⟩ := results_ok (K := fun v => K v w') hT hk hr'
      exact ⟨hr'.defers, v, hrun, v, rfl, hv⟩
    | exit i => exact hk.elim
end
/-! ### What slots and arguments hold -/
def gI (k : IntKind) (f : Fr) (i : Nat) (K : Int → Prop) : Prop := match f.getD i none with
  | some (.int j n) => cond (kEq j k) (K n) False
  | _ => False
def gB (f : Fr) (i : Nat) (K : Bool → Prop) : Prop := match f.getD i none with
  | some (.bool b) => K b
  | _ => False
def gS (f : Fr) (i : Nat) (K : ByteArray → Prop) : Prop := match f.getD i none with
  | some (.string b) => K b
  | _ => False
def gP (f : Fr) (i : Nat) (K : Option Addr → Prop) : Prop := match f.getD i none with
  | some (.pointer p) => K p
  | _ => False
def gQ (f : Fr) (i : Nat) (K : Addr → Prop) : Prop := match f.getD i none with
  | some (.pointer (some p)) => K p
  | _ => False
def gL (f : Fr) (i : Nat) (K : Option Addr → Nat → Nat → Prop) : Prop := match f.getD i none with
  | some (.slice p n c) => K p n c
  | _ => False
def gA (f : Fr) (i : Nat) (K : Array Value → Prop) : Prop := match f.getD i none with
  | some (.agg cs) => K cs
  | _ => False
def gF (g : FuncId) (f : Fr) (i : Nat) (K : Prop) : Prop := match f.getD i none with
  | some (.func (.func h) x y) => cond (Nat.beq h g && Nat.beq x.size 0 && Nat.beq y.size 0) K False
  | _ => False
def gU (f : Fr) (i : Nat) (K : Prop) : Prop := match f.getD i none with
  | some (.tuple x) => cond (Nat.beq x.size 0) K False
  | _ => False
theorem gF_ok {g : FuncId} {f : Fr} {i : Nat} {K : Prop} (h : gF g f i K) : f.getD i none = some (.func (.func g) #[] #[]) ∧ K := by
  unfold gF at h
  split at h
  · rename_i k x y hv
    obtain ⟨h1, h2⟩ := cond_f h
    simp only [Bool.and_eq_true] at h1
    obtain ⟨⟨ha, hb⟩, hc⟩ := h1
    have hx : x = #[] := Array.eq_empty_of_size_eq_zero (Nat.eq_of_beq_eq_true hb)
    have hy : y = #[] := Array.eq_empty_of_size_eq_zero (Nat.eq_of_beq_eq_true hc)
    subst hx hy
    rw [hv, Nat.eq_of_beq_eq_true ha]
    exact ⟨rfl, h2⟩
  · exact h.elim
theorem gU_ok {f : Fr} {i : Nat} {K : Prop} (h : gU f i K) : f.getD i none = some undef ∧ K := by
  unfold gU at h
  split at h
  · rename_i x hv
    obtain ⟨h1, h2⟩ := cond_f h
    have hx : x = #[] := Array.eq_empty_of_size_eq_zero (Nat.eq_of_beq_eq_true h1)
    subst hx
    exact ⟨hv, h2⟩
  · exact h.elim
def gN (f : Fr) (n : Nat) (K : Prop) : Prop := cond (Nat.beq f.length n) K False
theorem gI_ok {k : IntKind} {f : Fr} {i : Nat} {K : Int → Prop} (h : gI k f i K) : ∃ n, f.getD i none = some (.int k n) ∧ K n := by
  unfold gI at h
  split at h
  · rename_i j n hj
    obtain ⟨hk, h⟩ := cond_f h
    exact ⟨n, by rw [hj, kEq_eq hk], h⟩
  · exact h.elim
theorem gB_ok {f : Fr} {i : Nat} {K : Bool → Prop} (h : gB f i K) : ∃ n, f.getD i none = some (.bool n) ∧ K n := by
  unfold gB at h; split at h
  · exact ⟨_, by assumption, h⟩
  · exact h.elim
theorem gS_ok {f : Fr} {i : Nat} {K : ByteArray → Prop} (h : gS f i K) : ∃ n, f.getD i none = some (.string n) ∧ K n := by
  unfold gS at h; split at h
  · exact ⟨_, by assumption, h⟩
  · exact h.elim
theorem gP_ok {f : Fr} {i : Nat} {K : Option Addr → Prop} (h : gP f i K) : ∃ n, f.getD i none = some (.pointer n) ∧ K n := by
  unfold gP at h; split at h
  · exact ⟨_, by assumption, h⟩
  · exact h.elim
theorem gQ_ok {f : Fr} {i : Nat} {K : Addr → Prop} (h : gQ f i K) : ∃ n, f.getD i none = some (.pointer (some n)) ∧ K n := by
  unfold gQ at h; split at h
  · exact ⟨_, by assumption, h⟩
  · exact h.elim
theorem gL_ok {f : Fr} {i : Nat} {K : Option Addr → Nat → Nat → Prop} (h : gL f i K) : ∃ p n c, f.getD i none = some (.slice p n c) ∧ K p n c := by
  unfold gL at h; split at h
  · exact ⟨_, _, _, by assumption, h⟩
  · exact h.elim
theorem gA_ok {f : Fr} {i : Nat} {K : Array Value → Prop} (h : gA f i K) : ∃ n, f.getD i none = some (.agg n) ∧ K n := by
  unfold gA at h; split at h
  · exact ⟨_, by assumption, h⟩
  · exact h.elim
theorem gN_ok {f : Fr} {n : Nat} {K : Prop} (h : gN f n K) : n = f.length ∧ K := by
  obtain ⟨h1, h2⟩ := cond_f h
  exact ⟨(Nat.eq_of_beq_eq_true h1).symm, h2⟩
def gT (f : Fr) (i : Nat) (K : List Value → Prop) : Prop := match f.getD i none with
  | some (.agg cs) => K cs.toList
  | _ => False
theorem gT_ok {f : Fr} {i : Nat} {K : List Value → Prop} (h : gT f i K) : ∃ l, f.getD i none = some (.agg l.toArray) ∧ K l := by
  unfold gT at h; split at h
  · rename_i cs hc
    exact ⟨cs.toList, by simpa using hc, h⟩
  · exact h.elim
def vT (v : Value) (K : List Value → Prop) : Prop := match v with
  | .agg cs => K cs.toList
  | _ => False
theorem vT_ok {v : Value} {K : List Value → Prop} (h : vT v K) : ∃ l, v = .agg l.toArray ∧ K l := by
  unfold vT at h; split at h
  · rename_i cs
    exact ⟨cs.toList, by simp, h⟩
  · exact h.elim
def cI (k : IntKind) (l : List Value) (K : Int → List Value → Prop) : Prop := match l with
  | .int j n :: r => cond (kEq j k) (K n r) False
  | _ => False
def cB (l : List Value) (K : Bool → List Value → Prop) : Prop := match l with
  | .bool n :: r => K n r
  | _ => False
def cS (l : List Value) (K : ByteArray → List Value → Prop) : Prop := match l with
  | .string n :: r => K n r
  | _ => False
def cP (l : List Value) (K : Option Addr → List Value → Prop) : Prop := match l with
  | .pointer n :: r => K n r
  | _ => False
def cL (l : List Value) (K : Option Addr → Nat → Nat → List Value → Prop) : Prop := match l with
  | .slice p n c :: r => K p n c r
  | _ => False
def cE (l : List Value) (K : Prop) : Prop := match l with
  | [] => K
  | _ => False
theorem cI_ok {k : IntKind} {l : List Value} {K : Int → List Value → Prop} (h : cI k l K) : ∃ n r, l = .int k n :: r ∧ K n r := by
  unfold cI at h; split at h
  · obtain ⟨hk, h⟩ := cond_f h
    exact ⟨_, _, by rw [kEq_eq hk], h⟩
  · exact h.elim
theorem cB_ok {l : List Value} {K : Bool → List Value → Prop} (h : cB l K) : ∃ n r, l = .bool n :: r ∧ K n r := by
  unfold cB at h; split at h
  · exact ⟨_, _, rfl, h⟩
  · exact h.elim
theorem cS_ok {l : List Value} {K : ByteArray → List Value → Prop} (h : cS l K) : ∃ n r, l = .string n :: r ∧ K n r := by
  unfold cS at h; split at h
  · exact ⟨_, _, rfl, h⟩
  · exact h.elim
theorem cP_ok {l : List Value} {K : Option Addr → List Value → Prop} (h : cP l K) : ∃ n r, l = .pointer n :: r ∧ K n r := by
  unfold cP at h; split at h
  · exact ⟨_, _, rfl, h⟩
  · exact h.elim
theorem cL_ok {l : List Value} {K : Option Addr → Nat → Nat → List Value → Prop} (h : cL l K) : ∃ p n c r, l = .slice p n c :: r ∧ K p n c r := by
  unfold cL at h; split at h
  · exact ⟨_, _, _, _, rfl, h⟩
  · exact h.elim
theorem cE_ok {l : List Value} {K : Prop} (h : cE l K) : l = [] ∧ K := by
  unfold cE at h; split at h
  · exact ⟨rfl, h⟩
  · exact h.elim
def vI (k : IntKind) (v : Value) (K : Int → Prop) : Prop := match v with
  | .int j n => cond (kEq j k) (K n) False
  | _ => False
def vB (v : Value) (K : Bool → Prop) : Prop := match v with
  | .bool b => K b
  | _ => False
def vS (v : Value) (K : ByteArray → Prop) : Prop := match v with
  | .string b => K b
  | _ => False
def vP (v : Value) (K : Option Addr → Prop) : Prop := match v with
  | .pointer p => K p
  | _ => False
def vQ (v : Value) (K : Addr → Prop) : Prop := match v with
  | .pointer (some p) => K p
  | _ => False
theorem vQ_ok {v : Value} {K : Addr → Prop} (h : vQ v K) : ∃ n, v = .pointer (some n) ∧ K n := by
  unfold vQ at h; split at h
  · exact ⟨_, rfl, h⟩
  · exact h.elim
def vL (v : Value) (K : Option Addr → Nat → Nat → Prop) : Prop := match v with
  | .slice p n c => K p n c
  | _ => False
def vA (v : Value) (K : Array Value → Prop) : Prop := match v with
  | .agg cs => K cs
  | _ => False
/-- A function value: that function, with nothing bound. -/
def vF (g : FuncId) (v : Value) (K : Prop) : Prop := match v with
  | .func (.func h) x y => cond (Nat.beq h g && Nat.beq x.size 0 && Nat.beq y.size 0) K False
  | _ => False
theorem vI_ok {k : IntKind} {v : Value} {K : Int → Prop} (h : vI k v K) : ∃ n, v = .int k n ∧ K n := by
  unfold vI at h
  split at h
  · obtain ⟨hk, h⟩ := cond_f h
    exact ⟨_, by rw [kEq_eq hk], h⟩
  · exact h.elim
theorem vB_ok {v : Value} {K : Bool → Prop} (h : vB v K) : ∃ n, v = .bool n ∧ K n := by
  unfold vB at h; split at h
  · exact ⟨_, rfl, h⟩
  · exact h.elim
theorem vS_ok {v : Value} {K : ByteArray → Prop} (h : vS v K) : ∃ n, v = .string n ∧ K n := by
  unfold vS at h; split at h
  · exact ⟨_, rfl, h⟩
  · exact h.elim
theorem vP_ok {v : Value} {K : Option Addr → Prop} (h : vP v K) : ∃ n, v = .pointer n ∧ K n := by
  unfold vP at h; split at h
  · exact ⟨_, rfl, h⟩
  · exact h.elim
theorem vL_ok {v : Value} {K : Option Addr → Nat → Nat → Prop} (h : vL v K) : ∃ p n c, v = .slice p n c ∧ K p n c := by
  unfold vL at h; split at h
  · exact ⟨_, _, _, rfl, h⟩
  · exact h.elim
theorem vA_ok {v : Value} {K : Array Value → Prop} (h : vA v K) : ∃ n, v = .agg n ∧ K n := by
  unfold vA at h; split at h
  · exact ⟨_, rfl, h⟩
  · exact h.elim
theorem vF_ok {g : FuncId} {v : Value} {K : Prop} (h : vF g v K) : v = .func (.func g) #[] #[] ∧ K := by
  unfold vF at h
  split at h
  · rename_i k x y
    obtain ⟨h1, h2⟩ := cond_f h
    simp only [Bool.and_eq_true] at h1
    obtain ⟨⟨ha, hb⟩, hc⟩ := h1
    have hx : x = #[] := Array.eq_empty_of_size_eq_zero (Nat.eq_of_beq_eq_true hb)
    have hy : y = #[] := Array.eq_empty_of_size_eq_zero (Nat.eq_of_beq_eq_true hc)
    subst hx hy
    rw [Nat.eq_of_beq_eq_true ha]
    exact ⟨rfl, h2⟩
  · exact h.elim
/-- A handler of one function's calls. -/
abbrev Hf := List Value → World → (Value → World → Prop) → Prop
def FSound (P : Program) (g : FuncId) (H : Hf) : Prop := ∀ args w K, H args w K →
  enters P g = true ∧ Calls P g args.toArray w fun e w' => ∃ v, e = .returned v ∧ K v w'
def hnil : Hd := fun _ _ _ _ => False
def hcons (g : FuncId) (H : Hf) (C : Hd) : Hd := fun h args w K => match Nat.beq h g with
  | true => H args w K
  | false => C h args w K
theorem lnil {P : Program} {L : LHd} : ∀ b ∈ ([] : List Code), LoopOk P L b := fun b hb => (List.not_mem_nil hb).elim
theorem lcons {P : Program} {L : LHd} {c : Code} {l : List Code} (h : LoopOk P L c) (hl : ∀ b ∈ l, LoopOk P L b) : ∀ b ∈ c :: l, LoopOk P L b := fun b hb => by
  rcases List.mem_cons.1 hb with rfl | hb
  · exact h
  · exact hl b hb
theorem hnil_ok {P : Program} : CSound P hnil := fun _ _ _ _ h => h.elim
theorem hcons_ok {P : Program} {g : FuncId} {H : Hf} {C : Hd} (h : FSound P g H) (hC : CSound P C) : CSound P (hcons g H C) := by
  intro k args w K hk
  unfold hcons at hk
  split at hk
  · rename_i hb
    have := Nat.eq_of_beq_eq_true hb
    subst this
    exact h args w K hk
  · exact hC k args w K hk
end Go.Proofs.Ytdbnobeopgfhgaa.Vm
