/- 'laws.FnExactRowOf' returns true for every input, and each argument reads behind the call as it read before: no condition. -/
import Derived.Test.YtjgohkogcdmbdaaRows
import Derived.Test.YtjgohkogcdmbdaaVk
import Derived.Test.YtjgohkogcdmbdaaVq
namespace Go.Proofs.Ytjgohkogcdmbdaa
open Go.ChangeShapes Go.WideShapes Go.ChangeAt Go.RowKit Go.Vx
theorem FnExactRowOf.own : ownKnob Try.prog.godebug = none := by kernel_rfl
theorem FnExactRowOf.laidOut : laidOutB Try.prog = true := by kernel_rfl
set_option maxRecDepth 100000 in
theorem FnExactRowOf.lifted (os : Os) (started : os.Started) (H : Type) (enc : TypeId × Value → H) :
    ReturnsInHanded {} Try.checked os 5 .any (Rows.fnExactRowOfSpec.pre6 enc Try.prog Try.f5 Rows.fnExactRowOfRow.domain false) (Rows.fnExactRowOfSpec.post enc Try.prog Try.f5 false true false false) := by
  refine returnsInHanded_of_change (C := Try.checked) FnExactRowOf.own started (by kernel_rfl) Try.func5
    (ChangeSpec.witness6 (enc := enc) (C := Try.checked) false ⟨#[], #[.slice none 0 0], []⟩ 8 (by kernel_rfl) (by kernel_rfl) (by kernel_rfl) (by kernel_rfl)) ?_
  intro W base args ds gs before hval0 hW hcnd _
  have hval : ∀ (j : Nat) t v, Try.f5.params[j]? = some t → args[j]? = some v → Value.okWide Try.prog W .any base t v := hval0
  have hW' := hW
  obtain ⟨p, q, hA0, hV, rfl, hfz, hnd⟩ := hW
  have hA : DataW.TrodAll enc Try.prog W 0 (fun _ => true) true Try.f5.params.toList args.toList ds p := hA0
  rw [Try.params5] at hA hval
  obtain ⟨v0, d0, rfl, rfl, h0⟩ := trodAll_one hA
  obtain ⟨e0, ⟨l, rfl, kw⟩, hr0⟩ := read_cell (fun cs => okWide_slice Try.underlying37 cs) read_TermS (hval 0 _ _ rfl rfl) h0
  refine law_calls FnExactRowOf.laidOut (fn := Try.f5) (tb := 4) ?_ (by kernel_rfl) und_bool rfl rfl hW' ?_
  · intro t ht
    have : Try.f5.params.toList = [37] := by rw [Try.params5]
    rw [this] at ht
    simp only [List.mem_cons, List.not_mem_nil, or_false] at ht
    subst ht
    exact ⟨by kernel_rfl, of_decide_eq_true (by kernel_rfl)⟩
  · exact FnExactRowOf_spec hr0 kw
theorem FnExactRowOf_holds : Rows.FnExactRowOfSaid :=
  OpenClaim.holds_of_wide 5 Try.f5 rfl rfl rfl rfl rfl rfl rfl ⟨rfl, rfl, rfl, rfl, rfl⟩ rfl rfl rfl rfl rfl (by kernel_rfl) Try.func5 (by kernel_rfl)
    (of_decide_eq_true (by kernel_rfl)) (by unfold Func.isWrapper; first | (rw [if_pos (by decide +kernel)]; kernel_rfl) | (rw [if_neg (by decide +kernel)]; exact ⟨rfl, rfl⟩))
    (fun os started H enc _ => FnExactRowOf.lifted os started H enc)
#print axioms FnExactRowOf_holds
end Go.Proofs.Ytjgohkogcdmbdaa
