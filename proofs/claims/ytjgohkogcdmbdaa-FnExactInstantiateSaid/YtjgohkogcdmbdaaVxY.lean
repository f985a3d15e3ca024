/- What a law owns; its calls. -/
import Derived.Test.YtjgohkogcdmbdaaVxX
namespace Go.Vx
section
variable {P : Program} {f : FuncId} {args : List Value} {μ H : Mem}
theorem apart_join {g k : Mem} (h1 : Apart μ g) (h2 : Apart μ k) : Apart μ (g.join k) := fun b hb => by rw [Mem.join_get, h1 b hb]; exact h2 b hb
/-- A call that reads owned memory and makes new memory, some of which is owned from then on. -/
theorem Spec.lendOwn {R : Value → Mem → Prop} {R' : Value → Mem → Mem → Prop} (ha : Apart μ H) (h : Spec P f args (μ.join H) R) (G : ∀ v μ1, (μ.join H).Le μ1 → R v μ1 → ∃ g : Mem, g.Le μ1 ∧ (∀ b, g b ≠ none → (μ.join H) b = none) ∧ R' v g μ1) :
    SpecH P f args μ H fun v μ2 H2 => ∃ g μ1, R' v g μ1 ∧ (μ.join H).Le μ1 ∧ Parts H2 H g ∧ μ2 = (μ1.sub H).sub g := by
  refine ⟨h.1, fun w hm hH _ => (h.2 w (hm.join hH) (holds_nil w) (apart_nil _)).mono ?_⟩
  rintro e w' ⟨v, μ1, h1, rfl, hr, hS⟩
  obtain ⟨g, hg, hf, hr'⟩ := G v μ1 hS.le hr
  have hgH : Apart H g := fun b hb => by
    cases h2 : g b with
    | none => rfl
    | some o =>
      have := hf b (by simp [h2])
      cases h3 : H b with
      | none => exact absurd h3 hb
      | some o' => rw [Mem.le_join_right ha b o' h3] at this; cases this
  have hgμ : Apart μ g := fun b hb => by
    cases h2 : g b with
    | none => rfl
    | some o =>
      have := hf b (by simp [h2])
      cases h3 : μ b with
      | none => exact absurd h3 hb
      | some o' => rw [Mem.le_join μ H b o' h3] at this; cases this
  refine ⟨v, (μ1.sub H).sub g, H.join g, rfl, ⟨g, μ1, hr', hS.le, Parts.join hgH, rfl⟩, ⟨Mem.le_sub (Mem.le_sub ((Mem.le_join μ H).trans hS.le) ha) hgμ, hS.mem.le ((Mem.sub_le _ _).trans (Mem.sub_le _ _)), (hS.mem.le ((Mem.le_join_right ha).trans hS.le)).join (hS.mem.le hg), fun b hb => ?_, fun b hb hb' => ?_, fun b hb => ?_, hS.size, fun b hb _ => hS.keep b hb rfl, hS.os, hS.tape, hS.output⟩⟩
  · have k1 := Mem.sub_none hb
    rw [Mem.sub_of k1] at hb
    rw [Mem.join_get, Mem.sub_none hb]; exact k1
  · have k1 := Mem.sub_none hb'
    rw [Mem.sub_of k1] at hb'
    have k2 := Mem.sub_none hb'
    rw [Mem.sub_of k2] at hb'
    refine .inl ((hS.fresh b ?_ hb').resolve_right fun h => h rfl)
    rw [Mem.join_get, hb]; exact k2
  · rcases join_ne hb with h2 | h2
    · exact .inr h2
    · refine .inl ((hS.fresh b (hf b h2) ?_).resolve_right fun h => h rfl)
      cases h3 : g b with
      | none => exact absurd h3 h2
      | some o => rw [hg b o h3]; simp
/-- A call that has nothing to do with what is owned. -/
theorem Spec.beside {R : Value → Mem → Prop} (ha : Apart μ H) (h : Spec P f args μ R) : SpecH P f args μ H fun v μ' H' => H' = H ∧ R v μ' := by
  refine ⟨h.1, fun w hm hH _ => (h.2 w hm (holds_nil w) (apart_nil _)).mono ?_⟩
  rintro e w' ⟨v, μ', h', rfl, hr, hS⟩
  refine ⟨v, μ', H, rfl, ⟨rfl, hr⟩, ⟨hS.le, hS.mem, fun b o hb => by rw [hS.keep b (hH.lt (by simp [hb])) rfl]; exact hH b o hb, fun b hb => ?_, fun b hb hb' => .inl ((hS.fresh b hb hb').resolve_right fun h => h rfl), fun b hb => .inr hb, hS.size, fun b hb _ => hS.keep b hb rfl, hS.os, hS.tape, hS.output⟩⟩
  by_cases hm0 : μ b = none
  · have := (hS.fresh b hm0 hb).resolve_right fun h => h rfl
    cases h1 : H b with
    | none => rfl
    | some o => have := hH.lt (b := b) (by simp [h1]); omega
  · exact ha b hm0
/-- Data that are owned, each with memory of its own. -/
def Owns : Mem → List (D × Value) → Prop
  | H, [] => H = Mem.nil
  | H, (d, v) :: l => ∃ h k, Parts H h k ∧ OwnV d h v ∧ Owns k l
theorem Owns.snoc : ∀ {l : List (D × Value)} {H g H' : Mem} {d : D} {v : Value}, Owns H l → OwnV d g v → Parts H' H g → Owns H' (l ++ [(d, v)])
  | [], H, g, H', d, v, h, k, p => by
    subst h
    exact ⟨g, Mem.nil, p.symm, k, rfl⟩
  | (e, u) :: l, H, g, H', d, v, h, k, p => by
    obtain ⟨h1, h2, q, k1, k2⟩ := h
    obtain ⟨m, q1, q2⟩ := p.symm.assoc q.symm
    exact ⟨h1, m, q2.symm, k1, Owns.snoc k2 k q1.symm⟩
theorem Owns.focus : ∀ {l1 l2 : List (D × Value)} {H : Mem} {d : D} {v : Value}, Owns H (l1 ++ (d, v) :: l2) →
    ∃ h k, Parts H h k ∧ OwnV d h v ∧ ∀ H' h' d', Parts H' h' k → OwnV d' h' v → Owns H' (l1 ++ (d', v) :: l2)
  | [], l2, H, d, v, h => by
    obtain ⟨h1, h2, q, k1, k2⟩ := h
    exact ⟨h1, h2, q, k1, fun H' h' d' p k => ⟨h', h2, p, k, k2⟩⟩
  | (e, u) :: l1, l2, H, d, v, h => by
    obtain ⟨h1, h2, q, k1, k2⟩ := h
    obtain ⟨h3, h4, q3, k3, back⟩ := Owns.focus k2
    obtain ⟨m, q1, q2⟩ := q.assoc q3.symm
    refine ⟨h3, m, q2.symm, k3, fun H' h' d' p k => ?_⟩
    obtain ⟨m2, q4, q5⟩ := p.assoc q1.symm
    exact ⟨h1, m2, q5.symm, k1, back m2 h' d' q4 k⟩
theorem Owns.rep {μ : Mem} {H : Mem} (ha : Apart μ H) {l1 l2 : List (D × Value)} {d : D} {v : Value} (h : Owns H (l1 ++ (d, v) :: l2)) : RepV (μ.join H) d v := by
  obtain ⟨h1, k, p, o, _⟩ := h.focus
  exact o.rep (p.left.trans (Mem.le_join_right ha))
/-! ### The calls of a law -/
variable {dr : Bool} {s : St} {K : Value → St → Prop}
/-- Nothing is owned yet: that is fitting. -/
theorem Owns.none : Owns Mem.nil [] := rfl
/-- A call that makes data of its own; its result is wrapped by T. -/
theorem call_new {l : List (D × Value)} {d : D} (T : Value → Value) (hap : Apart s.mem s.own) (ho : Owns s.own l) (h : Spec P f args (s.mem.join s.own) fun v μ' => ∃ gv, v = T gv ∧ Fresh (s.mem.join s.own) μ' d gv)
    (k : ∀ gv μ' H', s.mem.Le μ' → Apart μ' H' → Owns H' (l ++ [(d, gv)]) → memOwnK s μ' H' fun s => K (T gv) s) : callVC dr P f args s K := by
  refine call_own (Spec.lendOwn (R' := fun v g μ1 => ∃ gv, v = T gv ∧ OwnV d g gv) hap h fun v μ1 hle hR => ?_) fun v μ' H' hle ha' hR => ?_
  · obtain ⟨gv, e, g, h1, h2, h3⟩ := hR
    exact ⟨g, h2, h3, gv, e, h1⟩
  · obtain ⟨g, μ1, ⟨gv, rfl, h1⟩, _, hp, _⟩ := hR
    exact k gv μ' H' hle ha' (ho.snoc h1 hp)
/-- A call that only reads, owned data too. -/
theorem call_read {x : Value} (hap : Apart s.mem s.own) (h : Spec P f args (s.mem.join s.own) fun v μ' => v = x ∧ μ' = s.mem.join s.own) (k : K x s) : callVC dr P f args s K :=
  call_own (SpecH.lendGives hap h) fun v μ' H' _ _ ⟨h1, h2, h3⟩ => by
    subst h1 h2 h3
    cases s
    exact k
/-- A call that has nothing to do with what is owned. -/
theorem call_data {R : Value → Mem → Prop} (hap : Apart s.mem s.own) (h : Spec P f args s.mem R) (k : ∀ v μ', s.mem.Le μ' → Apart μ' s.own → R v μ' → memOwnK s μ' s.own fun s => K v s) : callVC dr P f args s K :=
  call_own (Spec.beside hap h) fun v μ' H' hle ha' ⟨h1, h2⟩ => by
    subst h1
    exact k v μ' hle ha' h2
/-- A call that marks owned data. -/
theorem call_mark {l1 l2 : List (D × Value)} {d d' : D} {u : Value} {x : Value} (hap : Apart s.mem s.own) (ho : Owns s.own (l1 ++ (d, u) :: l2)) (h : ∀ hx, OwnV d hx u → SpecH P f args s.mem hx fun r μ' h' => r = x ∧ μ' = s.mem ∧ OwnV d' h' u)
    (k : ∀ H', Apart s.mem H' → Owns H' (l1 ++ (d', u) :: l2) → memOwnK s s.mem H' fun s => K x s) : callVC dr P f args s K := by
  obtain ⟨h1, k1, p, o, back⟩ := ho.focus
  refine call_own (SpecH.frame p (h h1 o)) fun v μ' H' hle ha' ⟨h', ⟨e1, e2, o'⟩, p'⟩ => ?_
  subst e1 e2
  exact k H' ha' (back H' h' d' p' o')
end
end Go.Vx
