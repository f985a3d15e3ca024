/- 'laws.FnExactIsUnifier' returns true for every input, and each argument reads behind the call as it read before: no condition. -/
import Derived.Test.YtjgohkogcdmbdaaRows
import Derived.Test.YtjgohkogcdmbdaaM3
namespace Go.Proofs.Ytjgohkogcdmbdaa
open Go.ChangeShapes Go.WideShapes Go.ChangeAt Go.RowKit Go.Vx
theorem FnExactIsUnifier.own : ownKnob Try.prog.godebug = none := by kernel_rfl
theorem FnExactIsUnifier.laidOut : laidOutB Try.prog = true := by kernel_rfl
set_option maxRecDepth 100000 in
theorem FnExactIsUnifier.lifted (os : Os) (started : os.Started) (H : Type) (enc : TypeId × Value → H) :
    ReturnsInHanded {} Try.checked os 8 .any (Rows.fnExactIsUnifierSpec.pre6 enc Try.prog Try.f8 Rows.fnExactIsUnifierRow.domain false) (Rows.fnExactIsUnifierSpec.post enc Try.prog Try.f8 false true false false) := by
  refine returnsInHanded_of_change (C := Try.checked) FnExactIsUnifier.own started (by kernel_rfl) Try.func8
    (ChangeSpec.witness6 (enc := enc) (C := Try.checked) false ⟨#[], #[.slice none 0 0, .agg #[.int .i64 0, .int .i64 0, .string ⟨#[]⟩, .slice none 0 0], .agg #[.int .i64 0, .int .i64 0, .string ⟨#[]⟩, .slice none 0 0]], []⟩ 8 (by kernel_rfl) (by kernel_rfl) (by kernel_rfl) (by kernel_rfl)) ?_
  intro W base args ds gs before hval0 hW hcnd _
  have hval : ∀ (j : Nat) t v, Try.f8.params[j]? = some t → args[j]? = some v → Value.okWide Try.prog W .any base t v := hval0
  have hW' := hW
  obtain ⟨p, q, hA0, hV, rfl, hfz, hnd⟩ := hW
  have hA : DataW.TrodAll enc Try.prog W 0 (fun _ => true) true Try.f8.params.toList args.toList ds p := hA0
  rw [Try.params8] at hA hval
  obtain ⟨v0, v1, v2, d0, d1, d2, p0, p1, p2, rfl, rfl, hp0, h0, h1, h2⟩ := trodAll_three hA
  obtain ⟨e0, ⟨l0, rfl, w0⟩, hr0⟩ := read_cell (fun cs => okWide_slice Try.underlying46 cs) read_BindingS (hval 0 _ _ rfl rfl) h0
  obtain ⟨e1, ⟨t1, rfl, w1⟩, cs1, rfl, hr1⟩ := read_struct Try.underlying45 read_Term (hval 1 _ _ rfl rfl) h1
  obtain ⟨e2, ⟨t2, rfl, w2⟩, cs2, rfl, hr2⟩ := read_struct Try.underlying45 read_Term (hval 2 _ _ rfl rfl) h2
  refine law_calls FnExactIsUnifier.laidOut (fn := Try.f8) (tb := 4) ?_ (by kernel_rfl) und_bool rfl rfl hW' ?_
  · intro t ht
    have : Try.f8.params.toList = [46, 45, 45] := by rw [Try.params8]
    rw [this] at ht
    simp only [List.mem_cons, List.not_mem_nil, or_false] at ht
    rcases ht with rfl | rfl | rfl
    · exact ⟨by kernel_rfl, of_decide_eq_true (by kernel_rfl)⟩
    · exact ⟨by kernel_rfl, of_decide_eq_true (by kernel_rfl)⟩
    · exact ⟨by kernel_rfl, of_decide_eq_true (by kernel_rfl)⟩
  · exact FnExactIsUnifier_spec hr0 (Tm.rep hr1) (Tm.rep hr2) w0 w1 w2
theorem FnExactIsUnifier_holds : Rows.FnExactIsUnifierSaid :=
  OpenClaim.holds_of_wide 8 Try.f8 rfl rfl rfl rfl rfl rfl rfl ⟨rfl, rfl, rfl, rfl, rfl⟩ rfl rfl rfl rfl rfl (by kernel_rfl) Try.func8 (by kernel_rfl)
    (of_decide_eq_true (by kernel_rfl)) (by unfold Func.isWrapper; first | (rw [if_pos (by decide +kernel)]; kernel_rfl) | (rw [if_neg (by decide +kernel)]; exact ⟨rfl, rfl⟩))
    (fun os started H enc _ => FnExactIsUnifier.lifted os started H enc)
#print axioms FnExactIsUnifier_holds
end Go.Proofs.Ytjgohkogcdmbdaa
