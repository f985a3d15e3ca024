/- 'laws.FnExactRowsOk' returns true for every input, and each argument reads behind the call as it read before: no condition. -/
import Derived.Test.YtcpooehlndhcbaaRows
import Derived.Test.YtcpooehlndhcbaaM4
namespace Go.Proofs.Ytcpooehlndhcbaa
open Go.ChangeShapes Go.WideShapes Go.ChangeAt Go.RowKit Go.Vx
theorem FnExactRowsOk.own : ownKnob Try.prog.godebug = none := by kernel_rfl
theorem FnExactRowsOk.laidOut : laidOutB Try.prog = true := by kernel_rfl
set_option maxRecDepth 100000 in
theorem FnExactRowsOk.lifted (os : Os) (started : os.Started) (H : Type) (enc : TypeId × Value → H) :
    ReturnsInHanded {} Try.checked os 3 .any (Rows.fnExactRowsOkSpec.pre6 enc Try.prog Try.f3 Rows.fnExactRowsOkRow.domain false) (Rows.fnExactRowsOkSpec.post enc Try.prog Try.f3 false true false false) := by
  refine returnsInHanded_of_change (C := Try.checked) FnExactRowsOk.own started (by kernel_rfl) Try.func3
    (ChangeSpec.witness6 (enc := enc) (C := Try.checked) false ⟨#[], #[.agg #[.slice none 0 0], .slice none 0 0], []⟩ 8 (by kernel_rfl) (by kernel_rfl) (by kernel_rfl) (by kernel_rfl)) ?_
  intro W base args ds gs before hval0 hW hcnd _
  have hval : ∀ (j : Nat) t v, Try.f3.params[j]? = some t → args[j]? = some v → Value.okWide Try.prog W .any base t v := hval0
  have hW' := hW
  obtain ⟨p, q, hA0, hV, rfl, hfz, hnd⟩ := hW
  have hA : DataW.TrodAll enc Try.prog W 0 (fun _ => true) true Try.f3.params.toList args.toList ds p := hA0
  rw [Try.params3] at hA hval
  obtain ⟨v0, v1, d0, d1, p0, p1, rfl, rfl, hp0, h0, h1⟩ := trodAll_two hA
  obtain ⟨e0, ⟨g0, rfl, w0⟩, cs0, rfl, hr0⟩ := read_struct Try.underlying24 read_Program (hval 0 _ _ rfl rfl) h0
  obtain ⟨e1, ⟨l1, rfl⟩, hr1⟩ := read_cell (fun cs => okWide_slice Try.underlying25 cs) read_IntS (hval 1 _ _ rfl rfl) h1
  refine law_calls FnExactRowsOk.laidOut (fn := Try.f3) (tb := 4) ?_ (by kernel_rfl) und_bool rfl rfl hW' ⟨Try.f3, Try.func3, by kernel_rfl, by kernel_rfl⟩ ?_
  · intro t ht
    have : Try.f3.params.toList = [24, 25] := by rw [Try.params3]
    rw [this] at ht
    simp only [List.mem_cons, List.not_mem_nil, or_false] at ht
    rcases ht with rfl | rfl
    · exact ⟨by kernel_rfl, of_decide_eq_true (by kernel_rfl)⟩
    · exact ⟨by kernel_rfl, of_decide_eq_true (by kernel_rfl)⟩
  · exact FnExactRowsOk_spec (Pg.rep hr0) hr1 w0
theorem FnExactRowsOk.closed : joinedFacts Try.pinned.checked.prog 3 Try.f3 Rows.fnExactRowsOkSpec Rows.fnExactRowsOkRow = true := by kernel_rfl
theorem FnExactRowsOk_holds : Rows.FnExactRowsOkSaid :=
  OpenClaim.holds_of_wide 3 Try.f3 rfl rfl rfl rfl rfl rfl rfl ⟨rfl, rfl, rfl, rfl, rfl⟩ rfl rfl rfl rfl rfl (by kernel_rfl) Try.func3 FnExactRowsOk.closed
    (of_decide_eq_true (by kernel_rfl)) (by unfold Func.isWrapper; first | (rw [if_pos (by decide +kernel)]; kernel_rfl) | (rw [if_neg (by decide +kernel)]; exact ⟨rfl, rfl⟩))
    (fun os started H enc _ => FnExactRowsOk.lifted os started H enc)
#print axioms FnExactRowsOk_holds
end Go.Proofs.Ytcpooehlndhcbaa
