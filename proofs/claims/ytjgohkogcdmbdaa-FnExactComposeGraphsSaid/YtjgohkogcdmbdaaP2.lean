/- 'laws.FnExactComposeGraphs' returns true for every input, and each argument reads behind the call as it read before: no condition. -/
import Derived.Test.YtjgohkogcdmbdaaRows
import Derived.Test.YtjgohkogcdmbdaaVd
import Derived.Test.YtjgohkogcdmbdaaVg
namespace Go.Proofs.Ytjgohkogcdmbdaa
open Go.ChangeShapes Go.WideShapes Go.ChangeAt Go.RowKit Go.Vx
theorem FnExactComposeGraphs.own : ownKnob Try.prog.godebug = none := by kernel_rfl
theorem FnExactComposeGraphs.laidOut : laidOutB Try.prog = true := by kernel_rfl
set_option maxRecDepth 100000 in
theorem FnExactComposeGraphs.lifted (os : Os) (started : os.Started) (H : Type) (enc : TypeId × Value → H) :
    ReturnsInHanded {} Try.checked os 4 .any (Rows.fnExactComposeGraphsSpec.pre6 enc Try.prog Try.f4 Rows.fnExactComposeGraphsRow.domain false) (Rows.fnExactComposeGraphsSpec.post enc Try.prog Try.f4 false true false false) := by
  refine returnsInHanded_of_change (C := Try.checked) FnExactComposeGraphs.own started (by kernel_rfl) Try.func4
    (ChangeSpec.witness6 (enc := enc) (C := Try.checked) false ⟨#[], #[.agg #[.string ⟨#[]⟩, .string ⟨#[]⟩, .slice none 0 0], .agg #[.string ⟨#[]⟩, .string ⟨#[]⟩, .slice none 0 0]], []⟩ 8 (by kernel_rfl) (by kernel_rfl) (by kernel_rfl) (by kernel_rfl)) ?_
  intro W base args ds gs before hval0 hW hcnd _
  have hval : ∀ (j : Nat) t v, Try.f4.params[j]? = some t → args[j]? = some v → Value.okWide Try.prog W .any base t v := hval0
  have hW' := hW
  obtain ⟨p, q, hA0, hV, rfl, hfz, hnd⟩ := hW
  have hA : DataW.TrodAll enc Try.prog W 0 (fun _ => true) true Try.f4.params.toList args.toList ds p := hA0
  rw [Try.params4] at hA hval
  obtain ⟨v0, v1, d0, d1, p0, p1, rfl, rfl, hp0, h0, h1⟩ := trodAll_two hA
  obtain ⟨e0, ⟨a, rfl, a1, a2⟩, cs0, rfl, hr0⟩ := read_struct Try.underlying24 read_Graph (hval 0 _ _ rfl rfl) h0
  obtain ⟨e1, ⟨b, rfl, b1, b2⟩, cs1, rfl, hr1⟩ := read_struct Try.underlying24 read_Graph (hval 1 _ _ rfl rfl) h1
  refine law_calls FnExactComposeGraphs.laidOut (fn := Try.f4) (tb := 4) ?_ (by kernel_rfl) und_bool rfl rfl hW' ?_
  · intro t ht
    have : Try.f4.params.toList = [24, 24] := by rw [Try.params4]
    rw [this] at ht
    simp only [List.mem_cons, List.not_mem_nil, or_false] at ht
    rcases ht with rfl | rfl
    · exact ⟨by kernel_rfl, of_decide_eq_true (by kernel_rfl)⟩
    · exact ⟨by kernel_rfl, of_decide_eq_true (by kernel_rfl)⟩
  · exact FnExactComposeGraphs_spec ⟨cs0, rfl, by simpa [Rep, Graph.d] using hr0⟩ ⟨cs1, rfl, by simpa [Rep, Graph.d] using hr1⟩ a1 a2 b1 b2
theorem FnExactComposeGraphs_holds : Rows.FnExactComposeGraphsSaid :=
  OpenClaim.holds_of_wide 4 Try.f4 rfl rfl rfl rfl rfl rfl rfl ⟨rfl, rfl, rfl, rfl, rfl⟩ rfl rfl rfl rfl rfl (by kernel_rfl) Try.func4 (by kernel_rfl)
    (of_decide_eq_true (by kernel_rfl)) (by unfold Func.isWrapper; first | (rw [if_pos (by decide +kernel)]; kernel_rfl) | (rw [if_neg (by decide +kernel)]; exact ⟨rfl, rfl⟩))
    (fun os started H enc _ => FnExactComposeGraphs.lifted os started H enc)
#print axioms FnExactComposeGraphs_holds
end Go.Proofs.Ytjgohkogcdmbdaa
