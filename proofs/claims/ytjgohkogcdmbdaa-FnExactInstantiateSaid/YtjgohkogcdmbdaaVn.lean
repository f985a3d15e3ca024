/- Contracts: well-formed terms, lists of them; ground terms. -/
import Derived.Test.YtjgohkogcdmbdaaVm
namespace Go.Vx
open Go.Proofs Classical
section
variable {μ : Mem}
theorem Tm.v_eq {t : Tm} {v : Value} (h : RepV μ t.d v) : ∃ p : Option Addr × Nat, v = .agg #[.int .i64 t.kind, .int .i64 t.num, .string t.name, .slice p.1 t.args.length p.2] := Tm.invV h
theorem spec_TermOk_spec (t : Tm) {v : Value} (hv : RepV μ t.d v) (hw : t.d.wd) : Gives Try.prog 52 [v] μ (.bool (decide t.Ok)) := by
  obtain ⟨p, rfl⟩ := Tm.invV hv
  refine Spec.mk Try.func52 (by kernel_rfl) ?_
  intro r
  refine call_gives (l02Count_spec t hv (by decide) (by decide)) ?_
  refine ifd (fun h => ?_) (fun h => ret_gives (isF fun hh => ?_) rfl)
  · refine call_gives (l02Shape_spec t hv hw) (ret_gives (isI ⟨fun hh => ⟨hh, ?_⟩, fun hh => hh.1⟩) rfl)
    unfold upTo at h; omega
  · have := hh.2; unfold upTo at h; omega
theorem impl_TermOk_spec (t : Tm) {v : Value} (hv : RepV μ t.d v) : Gives Try.prog 57 [v] μ (.bool (decide t.Ok)) := by
  obtain ⟨p, rfl⟩ := Tm.invV hv
  refine Spec.mk Try.func57 (by kernel_rfl) ?_
  intro r
  refine call_gives (nodesOf_spec t hv (by decide) (by decide)) (ret_gives (isI ⟨fun hh => ?_, fun hh => ?_⟩) rfl)
  · obtain ⟨h1, h2, _⟩ := Tm.nodes_ge (by omega : ¬ t.nodes 5000 < 0)
    exact ⟨h1, by omega⟩
  · rw [Tm.nodes_pos hh.1 (by have := hh.2; omega)]
    have := t.cnt_pos; omega
theorem l02AllOk_spec {l : List Tm} {base : Option Addr} {cap : Nat} (hsl : Sl μ 4 base l.length (l.map Tm.d)) (hw : D.wds (l.map Tm.d)) : Gives Try.prog 47 [.slice base l.length cap] μ (.bool (decide (∀ t ∈ l, t.Ok))) := by
    have hn := maxLen_le hsl.max
    refine Spec.mk Try.func47 (by kernel_rfl) ?_
    refine loop_intro (fun i : Nat => i ≤ l.length ∧ ∀ t ∈ l.take i, t.Ok) (fun i => ⟨[(5, .val (.slice base l.length cap)), (6, .val (.int .i64 l.length)), (7, .val (.int .i64 i))], [], 0, μ, Mem.nil⟩) (fun i => l.length - i)
      0 ⟨by omega, by simp⟩ (fun i => ⟨rfl, rfl⟩) ⟨⟨rfl, rfl, rfl, trivial⟩, trivial, rfl, rfl⟩ ?_
    rintro i ⟨hi, hall⟩
    refine ifd (fun h => ?_) (fun h => ?_)
    · obtain ⟨t, ht⟩ := at_some (l := l) (i := i) (by omega)
      obtain ⟨ad, p, hel, hr⟩ := Tm.elem hsl ht
      refine elem_intro hel ?_
      intro r
      refine call_gives (spec_TermOk_spec t hr (D.wds_mem hw _ (mem_at (at_map (f := Tm.d) ht)))) ?_
      refine ifnd (fun h => ret_gives (isF fun hh => h (hh t (mem_at ht))) rfl) (fun h => ?_)
      refine num64 (by omega) (by omega) ⟨i + 1, ⟨by omega, fun x hx => ?_⟩, by omega, ⟨⟨rfl, rfl, rfl, trivial⟩, trivial, rfl, rfl⟩⟩
      rw [List.take_add_one, ht, Option.toList_some, List.mem_append, List.mem_singleton] at hx
      rcases hx with hx | rfl
      · exact hall x hx
      · exact h
    · obtain rfl : i = l.length := by omega
      rw [List.take_length] at hall
      exact ret_gives (isT hall) rfl
theorem termsOk_spec {l : List Tm} {base : Option Addr} {cap : Nat} (hsl : Sl μ 4 base l.length (l.map Tm.d)) : Gives Try.prog 49 [.slice base l.length cap] μ (.bool (decide (∀ t ∈ l, t.Ok))) := by
    have hn := maxLen_le hsl.max
    refine Spec.mk Try.func49 (by kernel_rfl) ?_
    refine loop_intro (fun i : Nat => i ≤ l.length ∧ ∀ t ∈ l.take i, t.Ok) (fun i => ⟨[(5, .val (.slice base l.length cap)), (6, .val (.int .i64 l.length)), (7, .val (.int .i64 i))], [], 0, μ, Mem.nil⟩) (fun i => l.length - i)
      0 ⟨by omega, by simp⟩ (fun i => ⟨rfl, rfl⟩) ⟨⟨rfl, rfl, rfl, trivial⟩, trivial, rfl, rfl⟩ ?_
    rintro i ⟨hi, hall⟩
    refine ifd (fun h => ?_) (fun h => ?_)
    · obtain ⟨t, ht⟩ := at_some (l := l) (i := i) (by omega)
      obtain ⟨ad, p, hel, hr⟩ := Tm.elem hsl ht
      refine elem_intro hel ?_
      intro r
      refine call_gives (impl_TermOk_spec t hr) ?_
      refine ifnd (fun h => ret_gives (isF fun hh => h (hh t (mem_at ht))) rfl) (fun h => ?_)
      refine num64 (by omega) (by omega) ⟨i + 1, ⟨by omega, fun x hx => ?_⟩, by omega, ⟨⟨rfl, rfl, rfl, trivial⟩, trivial, rfl, rfl⟩⟩
      rw [List.take_add_one, ht, Option.toList_some, List.mem_append, List.mem_singleton] at hx
      rcases hx with hx | rfl
      · exact hall x hx
      · exact h
    · obtain rfl : i = l.length := by omega
      rw [List.take_length] at hall
      exact ret_gives (isT hall) rfl
end
end Go.Vx
