/- Contracts: which terms are well-formed. -/
import Derived.Test.YtjgohkogcdmbdaaVl
namespace Go.Vx
open Go.Proofs Classical
section
variable {μ : Mem}
theorem Tm.cnts_append : ∀ (a c : List Tm), Tm.cnts (a ++ c) = Tm.cnts a + Tm.cnts c
  | [], c => by simp [Tm.cnts]
  | d :: r, c => by simp [Tm.cnts, Tm.cnts_append r c, Nat.add_assoc]
theorem Tm.cnts_take {xs : List Tm} {j : Nat} {x : Tm} (h : xs[j]? = some x) : Tm.cnts (xs.take (j + 1)) = Tm.cnts (xs.take j) + x.cnt := by
  rw [List.take_add_one, h, Option.toList_some, Tm.cnts_append]; simp [Tm.cnts]
theorem Tm.cnts_le (xs : List Tm) (j : Nat) : Tm.cnts (xs.take j) ≤ Tm.cnts xs := by
  have := Tm.cnts_append (xs.take j) (xs.drop j)
  rw [List.take_append_drop] at this; omega
/-- 'l02Count': the nodes, or just above the bound. -/
def upTo (n most : Int) : Int := min n (max most 0 + 1)
theorem l02Count_spec : ∀ (t : Tm) {v : Value} {most : Int}, RepV μ t.d v → -1000000000000 ≤ most → most ≤ 1000000000000 → Gives Try.prog 79 [v, .int .i64 most] μ (.int .i64 (upTo t.cnt most)) :=
  Tm.ind fun k n s l ih v most hv h1 h2 => by
    obtain ⟨base, cap, rfl, hsl⟩ := Tm.inv hv
    have hn := maxLen_le hsl.max
    refine Spec.mk Try.func79 (by kernel_rfl) ?_
    intro r
    refine loop_intro (fun i : Nat => i ≤ l.length) (fun i => ⟨[(1, .val (.int .i64 most)), (5, .val (.int .i64 (upTo (1 + Tm.cnts (l.take i) : Nat) most))), (9, .val (.slice base l.length cap)), (10, .val (.int .i64 l.length)), (11, .val (.int .i64 i))], [], 1, μ, Mem.nil⟩) (fun i => l.length - i)
      0 (by omega) (fun i => ⟨rfl, rfl⟩) ⟨⟨rfl, by show some (SV.val (.int .i64 _)) = some (SV.val (.int .i64 _)); congr 3; simp [Tm.cnts, upTo]; omega, rfl, rfl, rfl, trivial⟩, trivial, rfl, rfl⟩ ?_
    intro i hi
    refine ifd (fun h => ?_) (fun h => ?_)
    · obtain ⟨t, ht⟩ := at_some (l := l) (i := i) (by omega)
      have hc := Tm.cnts_take ht
      have hc' := Tm.cnts_le l (i + 1)
      obtain ⟨ad, p, hel, hr⟩ := Tm.elem hsl ht
      refine elem_intro hel ?_
      intro r2
      refine ifd (fun h => ret_gives ?_ rfl) (fun h => ?_)
      · simp only [Tm.cnt, upTo] at h ⊢
        congr 1; omega
      · have hb : upTo (1 + Tm.cnts (l.take i) : Nat) most ≤ 1000000000001 ∧ 1 ≤ upTo (1 + Tm.cnts (l.take i) : Nat) most := by unfold upTo; omega
        refine num64 (by omega) (by omega) ?_
        refine call_gives (ih t (mem_at ht) hr (by omega) (by omega)) ?_
        refine num_eq (x := upTo (1 + Tm.cnts (l.take (i + 1)) : Nat) most) ?_ ?_
        · have hb2 : upTo (t.cnt : Int) (most - upTo (1 + Tm.cnts (l.take i) : Nat) most) ≤ 1000000000001 ∧ 1 ≤ upTo (t.cnt : Int) (most - upTo (1 + Tm.cnts (l.take i) : Nat) most) := by
            have := t.cnt_pos
            unfold upTo at hb h ⊢
            omega
          rw [wrap64 (by omega) (by omega), hc]
          unfold upTo at h ⊢; omega
        · exact num64 (by omega) (by omega) ⟨i + 1, by omega, by omega, ⟨⟨rfl, rfl, rfl, rfl, rfl, trivial⟩, trivial, rfl, rfl⟩⟩
    · obtain rfl : i = l.length := by omega
      rw [List.take_length]
      exact ret_gives rfl rfl
set_option maxRecDepth 20000 in
theorem l02Shape_spec : ∀ (t : Tm) {v : Value}, RepV μ t.d v → t.d.wd → Gives Try.prog 80 [v] μ (.bool (decide t.Sh)) :=
  Tm.ind fun k n s l ih v hv hw => by
    obtain ⟨base, cap, rfl, hsl⟩ := Tm.inv hv
    have hn := maxLen_le hsl.max
    rw [Tm.d_mk] at hw
    have hs : s.size ≤ maxLen := hw.2.2.1
    have hws := D.wds_mem (xs := l.map Tm.d) hw.2.2.2.1
    have hiff := Tm.Sh_iff' k n s l
    refine Spec.mk Try.func80 (by kernel_rfl) ?_
    intro r
    repeat' (first
      | refine ifd (fun h => ?_) (fun h => ?_)
      | refine ifnd (fun h => ?_) (fun h => ?_)
      | refine if_intro (fun h => ?_) (fun h => ?_))
    all_goals first
      | (exfalso; clear ih hsl hv hw hws hiff; first | omega | contradiction)
      | (refine ret_gives (isF fun hS => ?_) rfl; clear ih hsl hv hw hws; rcases hiff.1 hS with ⟨e1, e2, e3, e4⟩ | ⟨e1, e2, e3, e4, e5⟩ | ⟨e1, e2, e3, e4⟩ | ⟨e1, e2, e3, e4, e5⟩ | ⟨e1, e2, e3, e4, e5⟩ <;> first | omega | contradiction | (subst_vars; contradiction))
      | (refine ret_gives (isT (hiff.2 (.inl ⟨?_, ?_, ?_, ?_⟩))) rfl <;> first | omega | assumption)
      | (refine call_gives (l01In_spec _ _ _ _) (ret_gives (isI (p := (0 : Int) ≤ n ∧ n ≤ 100000) (hiff.trans ⟨fun hh => ?_, fun hh => .inr (.inl ⟨by omega, hh.1, hh.2, by assumption, by omega⟩)⟩).symm) rfl); rcases hh with ⟨e1, e2, e3, e4⟩ | ⟨e1, e2, e3, e4, e5⟩ | ⟨e1, e2, e3, e4⟩ | ⟨e1, e2, e3, e4, e5⟩ | ⟨e1, e2, e3, e4, e5⟩ <;> first | omega | exact ⟨by omega, by omega⟩)
      | (refine call_gives (l01In_spec _ _ _ _) (ret_gives (isI (p := (-1000000000 : Int) ≤ n ∧ n ≤ 1000000000) (hiff.trans ⟨fun hh => ?_, fun hh => .inr (.inr (.inr (.inl ⟨by omega, hh.1, hh.2, by assumption, by omega⟩)))⟩).symm) rfl); rcases hh with ⟨e1, e2, e3, e4⟩ | ⟨e1, e2, e3, e4, e5⟩ | ⟨e1, e2, e3, e4⟩ | ⟨e1, e2, e3, e4, e5⟩ | ⟨e1, e2, e3, e4, e5⟩ <;> first | omega | exact ⟨by omega, by omega⟩)
      | (refine call_gives (spec_IsName_spec s hs _) (ret_gives (isI (p := IsNm s) (hiff.trans ⟨fun hh => ?_, fun hh => .inr (.inr (.inl ⟨by omega, by omega, hh, by omega⟩))⟩).symm) rfl); rcases hh with ⟨e1, e2, e3, e4⟩ | ⟨e1, e2, e3, e4, e5⟩ | ⟨e1, e2, e3, e4⟩ | ⟨e1, e2, e3, e4, e5⟩ | ⟨e1, e2, e3, e4, e5⟩ <;> first | omega | assumption)
      | skip
    have h2 := h
    obtain ⟨a, b, rfl⟩ := two_of h2
    obtain ⟨ad, p, hel, hra⟩ := Tm.elem (i := 0) hsl rfl
    obtain ⟨ad', p', hel', hrb⟩ := Tm.elem (i := 1) hsl rfl
    refine elem_intro hel (call_gives (ih a (by simp) hra (hws _ (by simp))) ?_)
    refine if_intro (fun h => ?_) (fun h => ?_)
    · refine elem_intro hel' (call_gives (ih b (by simp) hrb (hws _ (by simp))) (ret_gives (isI (hiff.trans ⟨fun hh => ?_, fun hh => ?_⟩).symm) rfl))
      · rcases hh with ⟨e1, e2, e3, e4⟩ | ⟨e1, e2, e3, e4, e5⟩ | ⟨e1, e2, e3, e4⟩ | ⟨e1, e2, e3, e4, e5⟩ | ⟨e1, e2, e3, e4, e5⟩ <;> first | omega | (obtain ⟨a', b', e, e6, e7⟩ := e5; cases e; assumption)
      · exact .inr (.inr (.inr (.inr ⟨by omega, by omega, by assumption, rfl, a, b, rfl, of_decide_eq_true h, hh⟩)))
    · refine ret_gives (isF fun hh => ?_) rfl
      replace hh := hiff.1 hh
      rcases hh with ⟨e1, e2, e3, e4⟩ | ⟨e1, e2, e3, e4, e5⟩ | ⟨e1, e2, e3, e4⟩ | ⟨e1, e2, e3, e4, e5⟩ | ⟨e1, e2, e3, e4, e5⟩ <;> first | omega | (obtain ⟨a', b', e, e6, e7⟩ := e5; cases e; exact absurd e6 (of_decide_eq_false h))
/-- 'nodesOf': the nodes of a well-formed term that fits; else -1. -/
noncomputable def Tm.nodes (t : Tm) (room : Int) : Int := if t.Sh ∧ (t.cnt : Int) ≤ room then t.cnt else -1
theorem Tm.nodes_neg {t : Tm} {room : Int} (h : ¬ (t.Sh ∧ (t.cnt : Int) ≤ room)) : Value.int .i64 (-1) = .int .i64 (t.nodes room) := by rw [Tm.nodes, if_neg h]
theorem Tm.nodes_pos {t : Tm} {room : Int} (h : t.Sh) (h2 : (t.cnt : Int) ≤ room) : t.nodes room = t.cnt := by rw [Tm.nodes, if_pos ⟨h, h2⟩]
theorem Tm.nodes_lt {t : Tm} {room : Int} (h : t.nodes room < 0) : ¬ (t.Sh ∧ (t.cnt : Int) ≤ room) := fun k => by rw [Tm.nodes, if_pos k] at h; omega
theorem Tm.nodes_ge {t : Tm} {room : Int} (h : ¬ t.nodes room < 0) : t.Sh ∧ (t.cnt : Int) ≤ room ∧ t.nodes room = t.cnt := by
  by_cases k : t.Sh ∧ (t.cnt : Int) ≤ room
  · exact ⟨k.1, k.2, by rw [Tm.nodes, if_pos k]⟩
  · rw [Tm.nodes, if_neg k] at h; omega
set_option maxRecDepth 20000 in
theorem nodesOf_spec : ∀ (t : Tm) {v : Value} {room : Int}, RepV μ t.d v → -1000000000000 ≤ room → room ≤ 1000000000000 → Gives Try.prog 84 [v, .int .i64 room] μ (.int .i64 (t.nodes room)) :=
  Tm.ind fun k n s l ih v room hv hr1 hr2 => by
    obtain ⟨base, cap, rfl, hsl⟩ := Tm.inv hv
    have hn := maxLen_le hsl.max
    have hiff := Tm.Sh_iff' k n s l
    have hone : l.length = 0 → (Tm.mk k n s l).cnt = 1 := fun h => by
      obtain rfl := List.eq_nil_of_length_eq_zero h
      rfl
    have hpos := Tm.cnt_pos (.mk k n s l)
    refine Spec.mk Try.func84 (by kernel_rfl) ?_
    intro r
    refine ifd (fun h0 => ret_gives (Tm.nodes_neg fun hh => by omega) rfl) (fun h0 => ?_)
    have hgood : (Tm.mk k n s l).Sh → l.length = 0 → Value.int .i64 1 = .int .i64 ((Tm.mk k n s l).nodes room) := fun h1 h2 => by
      have := hone h2
      rw [Tm.nodes_pos h1 (by omega), this]; rfl
    refine ifnd (fun hk => ?_) (fun hk => ?_)
    · repeat' (first
        | refine ifd (fun h => ?_) (fun h => ?_)
        | refine ifnd (fun h => ?_) (fun h => ?_)
        | refine if_intro (fun h => ?_) (fun h => ?_)
        | refine call_gives (impl_IsName_spec s _) ?_)
      all_goals first
        | (exfalso; clear ih hsl hv hiff; first | omega | contradiction)
        | (refine ret_gives (Tm.nodes_neg fun hS => ?_) rfl; have hh := hiff.1 hS.1; clear ih hsl hv; rcases hh with ⟨e1, e2, e3, e4⟩ | ⟨e1, e2, e3, e4, e5⟩ | ⟨e1, e2, e3, e4⟩ | ⟨e1, e2, e3, e4, e5⟩ | ⟨e1, e2, e3, e4, e5⟩ <;> first | omega | contradiction | (subst_vars; contradiction))
        | (refine ret_gives (hgood (hiff.2 (.inl ⟨?_, ?_, ?_, ?_⟩)) (by omega)) rfl <;> first | omega | assumption; done)
        | (refine ret_gives (hgood (hiff.2 (.inr (.inl ⟨?_, ?_, ?_, ?_, ?_⟩))) (by omega)) rfl <;> first | omega | assumption; done)
        | (refine ret_gives (hgood (hiff.2 (.inr (.inr (.inl ⟨?_, ?_, ?_, ?_⟩)))) (by omega)) rfl <;> first | omega | assumption; done)
        | (refine ret_gives (hgood (hiff.2 (.inr (.inr (.inr (.inl ⟨?_, ?_, ?_, ?_, ?_⟩))))) (by omega)) rfl <;> first | omega | assumption; done)
        | trace_state
    · refine ifnd (fun h1 => ?_) (fun h1 => ?_)
      · refine ret_gives (Tm.nodes_neg fun hS => ?_) rfl; have hh := hiff.1 hS.1; clear ih hsl hv
        rcases hh with ⟨e1, e2, e3, e4⟩ | ⟨e1, e2, e3, e4, e5⟩ | ⟨e1, e2, e3, e4⟩ | ⟨e1, e2, e3, e4, e5⟩ | ⟨e1, e2, e3, e4, e5⟩ <;> omega
      refine ifnd (fun h2 => ?_) (fun h2 => ?_)
      · refine ret_gives (Tm.nodes_neg fun hS => ?_) rfl; have hh := hiff.1 hS.1; clear ih hsl hv
        rcases hh with ⟨e1, e2, e3, e4⟩ | ⟨e1, e2, e3, e4, e5⟩ | ⟨e1, e2, e3, e4⟩ | ⟨e1, e2, e3, e4, e5⟩ | ⟨e1, e2, e3, e4, e5⟩ <;> first | omega | contradiction
      refine ifnd (fun h3 => ?_) (fun h3 => ?_)
      · refine ret_gives (Tm.nodes_neg fun hS => ?_) rfl; have hh := hiff.1 hS.1; clear ih hsl hv
        rcases hh with ⟨e1, e2, e3, e4⟩ | ⟨e1, e2, e3, e4, e5⟩ | ⟨e1, e2, e3, e4⟩ | ⟨e1, e2, e3, e4, e5⟩ | ⟨e1, e2, e3, e4, e5⟩ <;> omega
      obtain ⟨a, b, rfl⟩ := two_of h3
      have hcnt : (Tm.mk k n s [a, b]).cnt = 1 + a.cnt + b.cnt := by simp [Tm.cnt, Tm.cnts]; omega
      have hsh : (Tm.mk k n s [a, b]).Sh → a.Sh ∧ b.Sh := fun hS => by
        have hh := hiff.1 hS
        rcases hh with ⟨e1, e2, e3, e4⟩ | ⟨e1, e2, e3, e4, e5⟩ | ⟨e1, e2, e3, e4⟩ | ⟨e1, e2, e3, e4, e5⟩ | ⟨e1, e2, e3, e4, e5⟩ <;> first | omega | (obtain ⟨a', b', e, e6, e7⟩ := e5; cases e; exact ⟨e6, e7⟩)
      obtain ⟨ad, p, hel, hra⟩ := Tm.elem (i := 0) hsl rfl
      obtain ⟨ad', p', hel', hrb⟩ := Tm.elem (i := 1) hsl rfl
      refine elem_intro hel (num64 (by omega) (by omega) (call_gives (ih a (by simp) hra (by omega) (by omega)) ?_))
      refine ifd (fun h4 => ?_) (fun h4 => ?_)
      · have := Tm.nodes_lt h4
        refine ret_gives (Tm.nodes_neg fun hS => this ⟨(hsh hS.1).1, ?_⟩) rfl
        have := hS.2; rw [hcnt] at this; omega
      obtain ⟨g1, g2, g3⟩ := Tm.nodes_ge h4
      have := a.cnt_pos
      refine elem_intro hel' (num64 (by omega) (by omega) (num64 (by omega) (by omega) (call_gives (ih b (by simp) hrb (by omega) (by omega)) ?_)))
      refine ifd (fun h5 => ?_) (fun h5 => ?_)
      · have := Tm.nodes_lt h5
        refine ret_gives (Tm.nodes_neg fun hS => this ⟨(hsh hS.1).2, ?_⟩) rfl
        have := hS.2; rw [hcnt] at this; omega
      obtain ⟨g4, g5, g6⟩ := Tm.nodes_ge h5
      refine num64 (by omega) (by omega) (num64 (by omega) (by omega) (ret_gives ?_ rfl))
      rw [Tm.nodes_pos (hiff.2 (.inr (.inr (.inr (.inr ⟨by omega, by omega, by assumption, rfl, a, b, rfl, g1, g4⟩))))) (by rw [hcnt]; omega), hcnt]
      congr 1; omega
end
end Go.Vx
