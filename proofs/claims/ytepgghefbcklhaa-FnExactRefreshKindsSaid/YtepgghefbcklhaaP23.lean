/- 'laws.FnExactRefreshKinds' returns true for every input, and each argument reads behind the call as it read before: no condition. -/
import Derived.Test.YtepgghefbcklhaaRows
import Derived.Test.YtepgghefbcklhaaM3
import Derived.Test.YtepgghefbcklhaaM5
namespace Go.Proofs.Ytepgghefbcklhaa
open Go.ChangeShapes Go.WideShapes Go.ChangeAt Go.RowKit Go.Vx
theorem FnExactRefreshKinds.own : ownKnob Try.prog.godebug = none := by kernel_rfl
theorem FnExactRefreshKinds.laidOut : laidOutB Try.prog = true := by kernel_rfl
set_option maxRecDepth 100000 in
theorem FnExactRefreshKinds.lifted (os : Os) (started : os.Started) (H : Type) (enc : TypeId × Value → H) :
    ReturnsInHanded {} Try.checked os 6 .any (Rows.fnExactRefreshKindsSpec.pre6 enc Try.prog Try.f6 Rows.fnExactRefreshKindsRow.domain false) (Rows.fnExactRefreshKindsSpec.post enc Try.prog Try.f6 false true false false) := by
  refine returnsInHanded_of_change (C := Try.checked) FnExactRefreshKinds.own started (by kernel_rfl) Try.func6
    (ChangeSpec.witness6 (enc := enc) (C := Try.checked) false ⟨#[], #[.slice none 0 0, .slice none 0 0], []⟩ 8 (by kernel_rfl) (by kernel_rfl) (by kernel_rfl) (by kernel_rfl)) ?_
  intro W base args ds gs before hval0 hW hcnd _
  have hval : ∀ (j : Nat) t v, Try.f6.params[j]? = some t → args[j]? = some v → Value.okWide Try.prog W .any base t v := hval0
  have hW' := hW
  obtain ⟨p, q, hA0, hV, rfl, hfz, hnd⟩ := hW
  have hA : DataW.TrodAll enc Try.prog W 0 (fun _ => true) true Try.f6.params.toList args.toList ds p := hA0
  rw [Try.params6] at hA hval
  obtain ⟨v0, v1, d0, d1, p0, p1, rfl, rfl, hp0, h0, h1⟩ := trodAll_two hA
  obtain ⟨e0, ⟨l0, rfl, w0⟩, hr0⟩ := read_cell (fun cs => okWide_slice Try.underlying41 cs) read_BindingS (hval 0 _ _ rfl rfl) h0
  obtain ⟨e1, ⟨l1, rfl, w1⟩, hr1⟩ := read_cell (fun cs => okWide_slice Try.underlying50 cs) read_VarKindS (hval 1 _ _ rfl rfl) h1
  refine law_calls FnExactRefreshKinds.laidOut (fn := Try.f6) (tb := 4) ?_ (by kernel_rfl) und_bool rfl rfl hW' ⟨Try.f6, Try.func6, by kernel_rfl, by kernel_rfl⟩ ?_
  · intro t ht
    have : Try.f6.params.toList = [41, 50] := by rw [Try.params6]
    rw [this] at ht
    simp only [List.mem_cons, List.not_mem_nil, or_false] at ht
    rcases ht with rfl | rfl
    · exact ⟨by kernel_rfl, of_decide_eq_true (by kernel_rfl)⟩
    · exact ⟨by kernel_rfl, of_decide_eq_true (by kernel_rfl)⟩
  · exact FnExactRefreshKinds_spec hr0 hr1 w0 w1
theorem FnExactRefreshKinds.closed : joinedFacts Try.pinned.checked.prog 6 Try.f6 Rows.fnExactRefreshKindsSpec Rows.fnExactRefreshKindsRow = true := by kernel_rfl
theorem FnExactRefreshKinds_holds : Rows.FnExactRefreshKindsSaid :=
  OpenClaim.holds_of_wide 6 Try.f6 rfl rfl rfl rfl rfl rfl rfl ⟨rfl, rfl, rfl, rfl, rfl⟩ rfl rfl rfl rfl rfl (by kernel_rfl) Try.func6 FnExactRefreshKinds.closed
    (of_decide_eq_true (by kernel_rfl)) (by unfold Func.isWrapper; first | (rw [if_pos (by decide +kernel)]; kernel_rfl) | (rw [if_neg (by decide +kernel)]; exact ⟨rfl, rfl⟩))
    (fun os started H enc _ => FnExactRefreshKinds.lifted os started H enc)
#print axioms FnExactRefreshKinds_holds
end Go.Proofs.Ytepgghefbcklhaa
