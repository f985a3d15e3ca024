/- Contracts: which lists of bindings are fine; copies; the reference's Instantiate. -/
import Derived.Test.YtjgohkogcdmbdaaVr
namespace Go.Vx
open Go.Proofs Classical
section
variable {μ : Mem}
theorem okAt_ext {l : List Bd} {i : Nat} (hall : ∀ j b, j < i → l[j]? = some b → okAt l j b) {b : Bd} (hb : l[i]? = some b) (h : okAt l i b) : ∀ j b, j < i + 1 → l[j]? = some b → okAt l j b := fun j c hj hc => by
  rcases Nat.lt_or_ge j i with h1 | h1
  · exact hall j c h1 hc
  · obtain rfl : j = i := by omega
    rw [hb] at hc; cases hc; exact h
theorem l04Values_spec {l : List Bd} {base : Option Addr} {cap : Nat} (hsl : Sl μ 5 base l.length (l.map Bd.d)) (hw : D.wds (l.map Bd.d)) : Gives Try.prog 81 [.slice base l.length cap] μ (.bool (decide (valsOk l))) := by
  have hn := maxLen_le hsl.max
  refine Spec.mk Try.func81 (by kernel_rfl) ?_
  refine loop_intro (fun i : Nat => i ≤ l.length ∧ ∀ j b, j < i → l[j]? = some b → okAt l j b) (fun i => ⟨[(0, .val (.slice base l.length cap)), (5, .val (.slice base l.length cap)), (6, .val (.int .i64 l.length)), (7, .val (.int .i64 i))], [], 0, μ, Mem.nil⟩) (fun i => l.length - i)
    0 ⟨by omega, fun j b hj => by omega⟩ (fun i => ⟨rfl, rfl⟩) ⟨⟨rfl, rfl, rfl, rfl, trivial⟩, trivial, rfl, rfl⟩ ?_
  rintro i ⟨hi, hall⟩
  refine ifd (fun h => ?_) (fun h => ?_)
  · obtain ⟨b, hb⟩ := at_some (l := l) (i := i) (by omega)
    obtain ⟨ad, p, hel, hr⟩ := Bd.elem hsl hb
    have hto := Bd.toV hr
    have hwt : b.to.d.wd := (D.wds_mem hw _ (mem_at (at_map (f := Bd.d) hb))).2.1
    have bad : ¬ okAt l i b → Value.bool false = .bool (decide (valsOk l)) := fun k => isF fun hv => k (hv.2 i b hb)
    refine elem_intro hel ?_
    intro r
    refine ifd (fun h0 => ?_) (fun h0 => ?_)
    · obtain ⟨c, hc⟩ := at_some (l := l) (i := i - 1) (by omega)
      obtain ⟨ad2, p2, hel2, _⟩ := Bd.elem hsl hc
      have hprev : okAt l i b → c.var < b.var := fun k => k.2.2 (i - 1) c (by omega) hc
      refine num_eq (x := ((i - 1 : Nat) : Int)) (by rw [wrap64 (by omega) (by omega)]; omega) ?_
      refine elem_intro hel2 ?_
      refine ifd (fun h1 => ret_gives (bad fun k => by have := hprev k; omega) rfl) (fun h1 => ?_)
      have hlt : ∀ j c', j + 1 = i → l[j]? = some c' → c'.var < b.var := fun j c' hj hc' => by
        have e : j = i - 1 := by omega
        rw [e, hc] at hc'
        cases hc'; omega
      refine call_gives (l01In_spec _ _ _ _) ?_
      refine ifnd (fun h2 => ret_gives (bad fun k => h2 k.1) rfl) (fun h2 => ?_)
      refine call_gives (spec_TermOk_spec b.to hto hwt) ?_
      refine ifnd (fun h3 => ret_gives (bad fun k => h3 k.2.1) rfl) (fun h3 => ?_)
      exact num64 (by omega) (by omega) ⟨i + 1, ⟨by omega, okAt_ext hall hb ⟨h2, h3, hlt⟩⟩, by omega, ⟨⟨rfl, rfl, rfl, rfl, trivial⟩, trivial, rfl, rfl⟩⟩
    · refine call_gives (l01In_spec _ _ _ _) ?_
      refine ifnd (fun h2 => ret_gives (bad fun k => h2 k.1) rfl) (fun h2 => ?_)
      refine call_gives (spec_TermOk_spec b.to hto hwt) ?_
      refine ifnd (fun h3 => ret_gives (bad fun k => h3 k.2.1) rfl) (fun h3 => ?_)
      exact num64 (by omega) (by omega) ⟨i + 1, ⟨by omega, okAt_ext hall hb ⟨h2, h3, fun j c' hj _ => by omega⟩⟩, by omega, ⟨⟨rfl, rfl, rfl, rfl, trivial⟩, trivial, rfl, rfl⟩⟩
  · obtain rfl : i = l.length := by omega
    refine ret_gives (isI ⟨fun hh => ⟨by omega, fun j b hb => hall j b (List.getElem?_eq_some_iff.1 hb).1 hb⟩, fun hh => by have := hh.1; omega⟩) rfl
theorem spec_ValuesOk_spec {l : List Bd} {base : Option Addr} {cap : Nat} (hsl : Sl μ 5 base l.length (l.map Bd.d)) (hw : D.wds (l.map Bd.d)) : Gives Try.prog 53 [.slice base l.length cap] μ (.bool (decide (valsOk l))) := by
  refine Spec.mk Try.func53 (by kernel_rfl) ?_
  exact call_gives (l04Values_spec hsl hw) (ret_gives rfl rfl)
theorem impl_ValuesOk_spec {l : List Bd} {base : Option Addr} {cap : Nat} (hsl : Sl μ 5 base l.length (l.map Bd.d)) : Gives Try.prog 58 [.slice base l.length cap] μ (.bool (decide (valsOk l))) := by
  have hn := maxLen_le hsl.max
  refine Spec.mk Try.func58 (by kernel_rfl) ?_
  refine ifd (fun h => ret_gives (isF fun k => by have := k.1; omega) rfl) (fun hlen => ?_)
  refine loop_intro (fun i : Nat => i ≤ l.length ∧ ∀ j b, j < i → l[j]? = some b → okAt l j b) (fun i => ⟨[(0, .val (.slice base l.length cap)), (8, .val (.slice base l.length cap)), (9, .val (.int .i64 l.length)), (10, .val (.int .i64 i))], [], 0, μ, Mem.nil⟩) (fun i => l.length - i)
    0 ⟨by omega, fun j b hj => by omega⟩ (fun i => ⟨rfl, rfl⟩) ⟨⟨rfl, rfl, rfl, rfl, trivial⟩, trivial, rfl, rfl⟩ ?_
  rintro i ⟨hi, hall⟩
  refine ifd (fun h => ?_) (fun h => ?_)
  · obtain ⟨b, hb⟩ := at_some (l := l) (i := i) (by omega)
    obtain ⟨ad, p, hel, hr⟩ := Bd.elem hsl hb
    have hto := Bd.toV hr
    have bad : ¬ okAt l i b → Value.bool false = .bool (decide (valsOk l)) := fun k => isF fun hv => k (hv.2 i b hb)
    refine elem_intro hel ?_
    intro r
    refine ifd (fun h1 => ret_gives (bad fun k => by have := k.1.1; omega) rfl) (fun h1 => ?_)
    refine ifd (fun h2 => ret_gives (bad fun k => by have := k.1.2; omega) rfl) (fun h2 => ?_)
    refine ifd (fun h0 => ?_) (fun h0 => ?_)
    · obtain ⟨c, hc⟩ := at_some (l := l) (i := i - 1) (by omega)
      obtain ⟨ad2, p2, hel2, _⟩ := Bd.elem hsl hc
      have hprev : okAt l i b → c.var < b.var := fun k => k.2.2 (i - 1) c (by omega) hc
      refine num_eq (x := ((i - 1 : Nat) : Int)) (by rw [wrap64 (by omega) (by omega)]; omega) ?_
      refine elem_intro hel2 ?_
      refine ifd (fun h1 => ret_gives (bad fun k => by have := hprev k; omega) rfl) (fun h3 => ?_)
      have hlt : ∀ j c', j + 1 = i → l[j]? = some c' → c'.var < b.var := fun j c' hj hc' => by
        have e : j = i - 1 := by omega
        rw [e, hc] at hc'
        cases hc'; omega
      refine call_gives (impl_TermOk_spec b.to hto) ?_
      refine ifnd (fun h3 => ret_gives (bad fun k => h3 k.2.1) rfl) (fun h4 => ?_)
      exact num64 (by omega) (by omega) ⟨i + 1, ⟨by omega, okAt_ext hall hb ⟨⟨by omega, by omega⟩, h4, hlt⟩⟩, by omega, ⟨⟨rfl, rfl, rfl, rfl, trivial⟩, trivial, rfl, rfl⟩⟩
    · refine call_gives (impl_TermOk_spec b.to hto) ?_
      refine ifnd (fun h3 => ret_gives (bad fun k => h3 k.2.1) rfl) (fun h4 => ?_)
      exact num64 (by omega) (by omega) ⟨i + 1, ⟨by omega, okAt_ext hall hb ⟨⟨by omega, by omega⟩, h4, fun j c' hj _ => by omega⟩⟩, by omega, ⟨⟨rfl, rfl, rfl, rfl, trivial⟩, trivial, rfl, rfl⟩⟩
  · obtain rfl : i = l.length := by omega
    exact ret_gives (isT ⟨by omega, fun j b hb => hall j b (List.getElem?_eq_some_iff.1 hb).1 hb⟩) rfl
end
end Go.Vx
