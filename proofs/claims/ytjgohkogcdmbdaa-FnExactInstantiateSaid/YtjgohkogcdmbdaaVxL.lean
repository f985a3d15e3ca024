/- Whatever order is drawn: an operation that only reads may be taken first. -/
import Derived.Test.YtjgohkogcdmbdaaVxJ
import Derived.Deep.RegionHeld3
namespace Go.Vx
section
variable {P : Program} {ops : Array Oper} {Q : Exit → Act → World → Prop} {S : Array Bool → World → Prop}

/-- Who has come up has come up behind those that it waits for. -/
def Closed (ops : Array Oper) (L : Array Bool) : Prop := ∀ x o, ops[x]? = some o → L.getD x true = true → ∀ e ∈ o.after, Region.binds .any e = true → L.getD e.on true = true
/-- Whatever order is picked from here on, and S holds of what has come up and the world, all the way. -/
def anyG (P : Program) (ops : Array Oper) (Q : Exit → Act → World → Prop) (S : Array Bool → World → Prop) : Nat → Array Bool → Act → World → Prop
  | 0, L, a, w => Region.ready .any ops L = [] ∧ Q .normal a w
  | n + 1, L, a, w => (Region.ready .any ops L = [] → Q .normal a w) ∧ ∀ i ∈ Region.ready .any ops L, wpOp P ops Q i (fun a' w' => S (L.setIfInBounds i true) w' ∧ anyG P ops Q S n (L.setIfInBounds i true) a' w') a w
theorem any_of_G : ∀ (n : Nat) (L : Array Bool) (a : Act) (w : World), anyG P ops Q S n L a w → wpAny P .any ops Q n L a w
  | 0, _, _, _, h => h
  | n + 1, _, _, _, h => ⟨h.1, fun i hi => wpOp_mono (fun a' w' h' => any_of_G n _ a' w' h'.2) (h.2 i hi)⟩
/-- A world in which i is still to come. -/
def Pend (ops : Array Oper) (S : Array Bool → World → Prop) (i : Nat) (w : World) : Prop := ∃ L : Array Bool, Closed ops L ∧ L.getD i true = false ∧ S L w
theorem Closed.set {L : Array Bool} (h : Closed ops L) {i : Nat} (hi : i ∈ Region.ready .any ops L) : Closed ops (L.setIfInBounds i true) := by
  obtain ⟨h0, o, ho, hall⟩ := mem_ready.1 hi
  have up : ∀ k, L.getD k true = true → (L.setIfInBounds i true).getD k true = true := fun k hk => by
    by_cases e : i = k
    · subst e; rw [h0] at hk; cases hk
    · rw [getD_set_ne true e]; exact hk
  intro x ox hx hl e he hb
  by_cases hxi : i = x
  · subst hxi
    rw [ho] at hx
    cases hx
    have h1 := hall e he hb
    refine up _ ?_
    rcases Nat.lt_or_ge e.on L.size with h' | h'
    · simp [h'] at h1 ⊢; exact h1
    · simp [Array.getElem?_eq_none h'] at h1
  · rw [getD_set_ne true hxi] at hl
    exact up _ (h x ox hx hl e he hb)
theorem anyG_first {i : Nat} {oi : Oper} {v : Value} (hi : ops[i]? = some oi) (hsel : ∀ (j : Nat) (o : Oper) cs b, ops[j]? = some o → o.op ≠ .select cs b)
    (hQ : ∀ c a w, Q (.panic c) (a.put oi.dst v) w → Q (.panic c) a w) (hS : ∀ L w, S (L.setIfInBounds i true) w ↔ S L w) :
    ∀ (n : Nat) (L : Array Bool) (a : Act) (w : World),
      (∀ j oj, ops[j]? = some oj → j ≠ i → L.getD j true = false → (∀ e ∈ oj.after, Region.binds .any e = true → e.on ≠ i) → oi.apart ops oj = true) →
      Closed ops L → i ∈ Region.ready .any ops L → YieldsIf P ops (Pend ops S i) oi v a → S L w →
      anyG P ops Q S n (L.setIfInBounds i true) (a.put oi.dst v) w → anyG P ops Q S (n + 1) L a w := by
  intro n
  induction n with
  | zero =>
    intro L a w _ hc hr hy hs H
    have hp : Pend ops S i w := ⟨L, hc, (mem_ready.1 hr).1, hs⟩
    refine ⟨fun h => (by rw [h] at hr; cases hr), fun j hj => ?_⟩
    by_cases hji : j = i
    · subst hji; exact hy.wpOp hi hp ⟨(hS L w).2 hs, H⟩
    · have := ready_mono hj hji
      rw [H.1] at this
      cases this
  | succ n ih =>
    intro L a w hfree hc hr hy hs H
    have hp : Pend ops S i w := ⟨L, hc, (mem_ready.1 hr).1, hs⟩
    refine ⟨fun h => (by rw [h] at hr; cases hr), fun j hj => ?_⟩
    by_cases hji : j = i
    · subst hji; exact hy.wpOp hi hp ⟨(hS L w).2 hs, H⟩
    · have h1 := H.2 j (ready_mono hj hji)
      obtain ⟨hjun, oj, hoj, hall⟩ := mem_ready.1 hj
      have hnot : ∀ e ∈ oj.after, Region.binds .any e = true → e.on ≠ i := fun e he hb heq => by
        have h1 := hall e he hb
        have h0 := (mem_ready.1 hr).1
        rw [heq] at h1
        rcases Nat.lt_or_ge i L.size with h' | h'
        · simp [h'] at h0 h1; rw [h0] at h1; cases h1
        · simp [Array.getElem?_eq_none h'] at h1
      have h2 := wpOp_putIf hoj (hfree j oj hoj hji hjun hnot) (fun cs b => hsel i oi cs b hi) (fun cs b => hsel j oj cs b hoj) hQ hy h1
      refine wpOp_mono (fun a' w' h3 => ?_) h2
      obtain ⟨hy', hs', hg⟩ := h3
      rw [Array.setIfInBounds_comm _ _ (Ne.symm hji)] at hs' hg
      have hs'' := (hS _ _).1 hs'
      refine ⟨hs'', ih _ a' w' (fun k ok hk hki hun hno => hfree k ok hk hki ?_ hno) (hc.set hj) (ready_mono hr (Ne.symm hji)) hy' hs'' hg⟩
      by_cases hjk : j = k
      · subst hjk; exact hjun
      · rw [getD_set_ne true hjk] at hun; exact hun
end
end Go.Vx
