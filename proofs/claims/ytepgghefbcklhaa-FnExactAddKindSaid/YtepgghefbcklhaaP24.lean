/- 'laws.FnExactAddKind' returns true for every input, and each argument reads behind the call as it read before: no condition. -/
import Derived.Test.YtepgghefbcklhaaRows
import Derived.Test.YtepgghefbcklhaaM3
import Derived.Test.YtepgghefbcklhaaM5
namespace Go.Proofs.Ytepgghefbcklhaa
open Go.ChangeShapes Go.WideShapes Go.ChangeAt Go.RowKit Go.Vx
theorem FnExactAddKind.own : ownKnob Try.prog.godebug = none := by kernel_rfl
theorem FnExactAddKind.laidOut : laidOutB Try.prog = true := by kernel_rfl
set_option maxRecDepth 100000 in
theorem FnExactAddKind.lifted (os : Os) (started : os.Started) (H : Type) (enc : TypeId × Value → H) :
    ReturnsInHanded {} Try.checked os 7 .any (Rows.fnExactAddKindSpec.pre6 enc Try.prog Try.f7 Rows.fnExactAddKindRow.domain false) (Rows.fnExactAddKindSpec.post enc Try.prog Try.f7 false true false false) := by
  refine returnsInHanded_of_change (C := Try.checked) FnExactAddKind.own started (by kernel_rfl) Try.func7
    (ChangeSpec.witness6 (enc := enc) (C := Try.checked) false ⟨#[], #[.slice none 0 0, .slice none 0 0, .agg #[.int .i64 0, .int .i64 0, .string ⟨#[]⟩, .slice none 0 0], .int .i64 0], []⟩ 8 (by kernel_rfl) (by kernel_rfl) (by kernel_rfl) (by kernel_rfl)) ?_
  intro W base args ds gs before hval0 hW hcnd _
  have hval : ∀ (j : Nat) t v, Try.f7.params[j]? = some t → args[j]? = some v → Value.okWide Try.prog W .any base t v := hval0
  have hW' := hW
  obtain ⟨p, q, hA0, hV, rfl, hfz, hnd⟩ := hW
  have hA : DataW.TrodAll enc Try.prog W 0 (fun _ => true) true Try.f7.params.toList args.toList ds p := hA0
  rw [Try.params7] at hA hval
  obtain ⟨v0, v1, v2, v3, d0, d1, d2, d3, p0, p1, p2, p3, rfl, rfl, hp0, h0, h1, h2, h3⟩ := trodAll_four hA
  obtain ⟨e0, ⟨l0, rfl, w0⟩, hr0⟩ := read_cell (fun cs => okWide_slice Try.underlying41 cs) read_BindingS (hval 0 _ _ rfl rfl) h0
  obtain ⟨e1, ⟨l1, rfl, w1⟩, hr1⟩ := read_cell (fun cs => okWide_slice Try.underlying50 cs) read_VarKindS (hval 1 _ _ rfl rfl) h1
  obtain ⟨e2, ⟨t2, rfl, w2⟩, cs2, rfl, hr2⟩ := read_struct Try.underlying61 read_Term (hval 2 _ _ rfl rfl) h2
  obtain ⟨e3, ⟨n3, rfl, w3⟩, hr3⟩ := read_cell (fun cs => okWide_int Try.underlying3 cs) (reads_int Try.underlying3) (hval 3 _ _ rfl rfl) h3
  refine law_calls FnExactAddKind.laidOut (fn := Try.f7) (tb := 4) ?_ (by kernel_rfl) und_bool rfl rfl hW' ⟨Try.f7, Try.func7, by kernel_rfl, by kernel_rfl⟩ ?_
  · intro t ht
    have : Try.f7.params.toList = [41, 50, 61, 3] := by rw [Try.params7]
    rw [this] at ht
    simp only [List.mem_cons, List.not_mem_nil, or_false] at ht
    rcases ht with rfl | rfl | rfl | rfl
    · exact ⟨by kernel_rfl, of_decide_eq_true (by kernel_rfl)⟩
    · exact ⟨by kernel_rfl, of_decide_eq_true (by kernel_rfl)⟩
    · exact ⟨by kernel_rfl, of_decide_eq_true (by kernel_rfl)⟩
    · exact ⟨by kernel_rfl, of_decide_eq_true (by kernel_rfl)⟩
  · exact by
      have e3 : [v3] = [Value.int .i64 n3] := hr3
      cases e3
      exact FnExactAddKind_spec hr0 hr1 (Tm.rep hr2) w0 w1 w2
theorem FnExactAddKind.closed : joinedFacts Try.pinned.checked.prog 7 Try.f7 Rows.fnExactAddKindSpec Rows.fnExactAddKindRow = true := by kernel_rfl
theorem FnExactAddKind_holds : Rows.FnExactAddKindSaid :=
  OpenClaim.holds_of_wide 7 Try.f7 rfl rfl rfl rfl rfl rfl rfl ⟨rfl, rfl, rfl, rfl, rfl⟩ rfl rfl rfl rfl rfl (by kernel_rfl) Try.func7 FnExactAddKind.closed
    (of_decide_eq_true (by kernel_rfl)) (by unfold Func.isWrapper; first | (rw [if_pos (by decide +kernel)]; kernel_rfl) | (rw [if_neg (by decide +kernel)]; exact ⟨rfl, rfl⟩))
    (fun os started H enc _ => FnExactAddKind.lifted os started H enc)
#print axioms FnExactAddKind_holds
end Go.Proofs.Ytepgghefbcklhaa
