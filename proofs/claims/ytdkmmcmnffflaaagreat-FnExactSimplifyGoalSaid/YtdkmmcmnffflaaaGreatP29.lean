/- 'laws.FnExactSimplifyGoal' returns true for every input, and each argument reads behind the call as it read before: no condition. -/
import Derived.Test.YtdkmmcmnffflaaaGreatRows
import Derived.Test.YtdkmmcmnffflaaaGreatE1
namespace Go.Proofs.YtdkmmcmnffflaaaGreat
open Go.ChangeShapes Go.WideShapes Go.ChangeAt Go.RowKit Go.Vx
theorem FnExactSimplifyGoal.own : ownKnob Tryz.prog.godebug = none := by kernel_rfl
theorem FnExactSimplifyGoal.laidOut : laidOutB Tryz.prog = true := by kernel_rfl
set_option maxRecDepth 100000 in
theorem FnExactSimplifyGoal.lifted (os : Os) (started : os.Started) (H : Type) (enc : TypeId × Value → H) :
  ReturnsInHanded {} Tryz.checked os 3 .any (Rows.fnExactSimplifyGoalSpec.pre6 enc Tryz.prog Tryz.f3 Rows.fnExactSimplifyGoalRow.domain false) (Rows.fnExactSimplifyGoalSpec.post enc Tryz.prog Tryz.f3 false true false false) := by
 refine returnsInHanded_of_change (C := Tryz.checked) FnExactSimplifyGoal.own started (by kernel_rfl) Tryz.func3
  (ChangeSpec.witness6 (enc := enc) (C := Tryz.checked) false ⟨#[], #[.agg #[.int .i64 0, .string ⟨#[]⟩, .slice none 0 0, .slice none 0 0]], []⟩ 8 (by kernel_rfl) (by kernel_rfl) (by kernel_rfl) (by kernel_rfl)) ?_
 intro W base args ds gs before hval0 hW hcnd _
 have hval : ∀ (j : Nat) t v, Tryz.f3.params[j]? = some t → args[j]? = some v → Value.okWide Tryz.prog W .any base t v := hval0
 have hW' := hW
 obtain ⟨p, q, hA0, hV, rfl, hfz, hnd⟩ := hW
 have hA : DataW.TrodAll enc Tryz.prog W 0 (fun _ => true) true Tryz.f3.params.toList args.toList ds p := hA0
 rw [Tryz.params3] at hA hval
 obtain ⟨v0, d0, rfl, rfl, h0⟩ := trodAll_one hA
 obtain ⟨e0, ⟨g0, rfl, w0⟩, cs0, rfl, hr0⟩ := read_struct Tryz.underlying25 read_Goal (hval 0 _ _ rfl rfl) h0
 refine law_calls FnExactSimplifyGoal.laidOut (fn := Tryz.f3) (tb := 4) ?_ (by kernel_rfl) und_bool rfl rfl hW' ⟨Tryz.f3, Tryz.func3, by kernel_rfl, by kernel_rfl⟩ ?_
 ·intro t ht
  have : Tryz.f3.params.toList = [25] := by rw [Tryz.params3]
  rw [this] at ht
  simp only [List.mem_cons, List.not_mem_nil, or_false] at ht
  subst ht
  exact ⟨by kernel_rfl, of_decide_eq_true (by kernel_rfl)⟩
 ·exact FnExactSimplifyGoal_spec (Gl.rep hr0) w0
theorem FnExactSimplifyGoal.k0 : (Rows.fnExactSimplifyGoalRow.wf (OpenSpec.ofChange Rows.fnExactSimplifyGoalSpec)) = true := by kernel_rfl
theorem FnExactSimplifyGoal.k1 : (laidOutB Tryz.pinned.checked.prog) = true := by kernel_rfl
theorem FnExactSimplifyGoal.k2 : (mapsRowed Tryz.pinned.checked.prog) = true := by kernel_rfl
theorem FnExactSimplifyGoal.k3 : (Tryz.f3.params.all (Tryz.pinned.checked.prog.readableRec ·)) = true := by kernel_rfl
theorem FnExactSimplifyGoal.k4 : (namedTie Tryz.pinned.checked.prog Rows.fnExactSimplifyGoalRow.named Rows.fnExactSimplifyGoalSpec.vars) = true := by kernel_rfl
theorem FnExactSimplifyGoal.k5 : (Rows.fnExactSimplifyGoalRow.stops == []) = true := by kernel_rfl
theorem FnExactSimplifyGoal.k6 : (Tryz.pinned.checked.prog.stops == []) = true := by kernel_rfl
theorem FnExactSimplifyGoal.k7 : (Rows.fnExactSimplifyGoalRow.knobs == []) = true := by kernel_rfl
theorem FnExactSimplifyGoal.k8 : (Tryz.pinned.checked.prog.stopKnobs == []) = true := by kernel_rfl
theorem FnExactSimplifyGoal.k9 : (Rows.fnExactSimplifyGoalRow.inPlace == Tryz.pinned.checked.prog.inPlace 3) = true := by kernel_rfl
theorem FnExactSimplifyGoal.k10 : (Rows.fnExactSimplifyGoalRow.unfollowed == Tryz.pinned.checked.prog.unfollowed 3) = true := by kernel_rfl
theorem FnExactSimplifyGoal.k11 : (Rows.fnExactSimplifyGoalRow.recurses == Tryz.pinned.checked.prog.recurses 3) = true := by kernel_rfl
theorem FnExactSimplifyGoal.k12 : (Rows.fnExactSimplifyGoalRow.named == Tryz.pinned.checked.prog.varsNamed 3) = true := by kernel_rfl
theorem FnExactSimplifyGoal.k13 : (Rows.fnExactSimplifyGoalRow.maps == (Tryz.f3.params.toList ++ Rows.fnExactSimplifyGoalSpec.plain.varTypes Tryz.pinned.checked.prog).any (Tryz.pinned.checked.prog.mapsRec ·)) = true := by kernel_rfl
theorem FnExactSimplifyGoal.k14 : (Rows.fnExactSimplifyGoalRow.ifaces == (Tryz.f3.params.toList ++ Rows.fnExactSimplifyGoalSpec.plain.varTypes Tryz.pinned.checked.prog).any (Tryz.pinned.checked.prog.ifacesRec ·)) = true := by kernel_rfl
theorem FnExactSimplifyGoal.k15 : (Rows.fnExactSimplifyGoalRow.mapsOut == Tryz.pinned.checked.prog.mapsAmong Tryz.f3.resultTypes.toList) = true := by kernel_rfl
theorem FnExactSimplifyGoal.k16 : (Rows.fnExactSimplifyGoalRow.loops == (Tryz.f3.params.toList ++ Rows.fnExactSimplifyGoalSpec.plain.varTypes Tryz.pinned.checked.prog).any (Tryz.pinned.checked.prog.loopsFrom ·)) = true := by kernel_rfl
theorem FnExactSimplifyGoal.k17 : (Rows.fnExactSimplifyGoalRow.wideKeys == (Tryz.f3.params.toList ++ Rows.fnExactSimplifyGoalSpec.plain.varTypes Tryz.pinned.checked.prog ++ Tryz.f3.resultTypes.toList).any (Tryz.pinned.checked.prog.wideKeysFrom ·)) = true := by kernel_rfl
theorem FnExactSimplifyGoal.k18 : (Rows.fnExactSimplifyGoalSpec.vars.all (Tryz.pinned.checked.prog.varReadable ·)) = true := by kernel_rfl
theorem FnExactSimplifyGoal.k19 : (Tryz.f3.resultTypes.all (fun t => Tryz.pinned.checked.prog.readableRec t && decide (t < Tryz.pinned.checked.prog.types.size))) = true := by kernel_rfl
theorem FnExactSimplifyGoal.k20 : (Rows.fnExactSimplifyGoalRow.ifacesOut == Tryz.f3.resultTypes.toList.any (Tryz.pinned.checked.prog.ifacesRec ·)) = true := by kernel_rfl
theorem FnExactSimplifyGoal.k21 : (Rows.fnExactSimplifyGoalRow.loopsOut == Tryz.f3.resultTypes.toList.any (Tryz.pinned.checked.prog.loopsFrom ·)) = true := by kernel_rfl
theorem FnExactSimplifyGoal.k22 : (Rows.fnExactSimplifyGoalRow.plainKeys == Tryz.pinned.checked.prog.plainKeys) = true := by kernel_rfl
theorem FnExactSimplifyGoal.k23 : (Rows.fnExactSimplifyGoalRow.shortTexts.isNone) = true := by kernel_rfl
theorem FnExactSimplifyGoal.k24 : (Tryz.pinned.checked.prog.stopsHeard) = true := by kernel_rfl
theorem FnExactSimplifyGoal.k25 : (Tryz.pinned.checked.prog.mayEnter) = true := by kernel_rfl
theorem FnExactSimplifyGoal.k26 : (Rows.fnExactSimplifyGoalRow.lifted == Tryz.pinned.checked.prog.liftsFinal) = true := by kernel_rfl
theorem FnExactSimplifyGoal.k27 : (Tryz.pinned.checked.prog.make == some Rows.fnExactSimplifyGoalRow.make) = true := by kernel_rfl
theorem FnExactSimplifyGoal.k28 : (Rows.fnExactSimplifyGoalRow.kinds == (if Rows.fnExactSimplifyGoalRow.domain.isEmpty then [] else Tryz.f3.params.toList.map fun t => match Tryz.pinned.checked.prog.underlying t with | some (.int k) => some k | _ => none)) = true := by kernel_rfl
theorem FnExactSimplifyGoal.k29 : (Rows.fnExactSimplifyGoalRow.pinned == Rows.fnExactSimplifyGoalRow.pinnedBy) = true := by kernel_rfl
theorem FnExactSimplifyGoal.k30 : (Rows.fnExactSimplifyGoalRow.veiled == (Tryz.f3.params.toList ++ Rows.fnExactSimplifyGoalSpec.plain.varTypes Tryz.pinned.checked.prog ++ Tryz.f3.resultTypes.toList).any (Tryz.pinned.checked.prog.veiledRec ·)) = true := by kernel_rfl
theorem FnExactSimplifyGoal.k31 : (Rows.fnExactSimplifyGoalRow.veiledFits Tryz.pinned.checked.prog Tryz.f3.params.toList (Tryz.f3.params.toList ++ Rows.fnExactSimplifyGoalSpec.plain.varTypes Tryz.pinned.checked.prog ++ Tryz.f3.resultTypes.toList)) = true := by kernel_rfl
theorem FnExactSimplifyGoal.and2 {a b : Bool} (h1 : a = true) (h2 : b = true) : (a && b) = true := by rw [h1, h2]; rfl
theorem FnExactSimplifyGoal.joined {P : Program} {f : FuncId} {fn : Func} {s : ChangeSpec} {c : OpenClaim} (h0 : (c.wf (OpenSpec.ofChange s)) = true) (h1 : (laidOutB P) = true) (h2 : (mapsRowed P) = true) (h3 : (fn.params.all (P.readableRec ·)) = true) (h4 : (namedTie P c.named s.vars) = true) (h5 : (c.stops == []) = true) (h6 : (P.stops == []) = true) (h7 : (c.knobs == []) = true) (h8 : (P.stopKnobs == []) = true) (h9 : (c.inPlace == P.inPlace f) = true) (h10 : (c.unfollowed == P.unfollowed f) = true) (h11 : (c.recurses == P.recurses f) = true) (h12 : (c.named == P.varsNamed f) = true) (h13 : (c.maps == (fn.params.toList ++ s.plain.varTypes P).any (P.mapsRec ·)) = true) (h14 : (c.ifaces == (fn.params.toList ++ s.plain.varTypes P).any (P.ifacesRec ·)) = true) (h15 : (c.mapsOut == P.mapsAmong fn.resultTypes.toList) = true) (h16 : (c.loops == (fn.params.toList ++ s.plain.varTypes P).any (P.loopsFrom ·)) = true) (h17 : (c.wideKeys == (fn.params.toList ++ s.plain.varTypes P ++ fn.resultTypes.toList).any (P.wideKeysFrom ·)) = true) (h18 : (s.vars.all (P.varReadable ·)) = true) (h19 : (fn.resultTypes.all (fun t => P.readableRec t && decide (t < P.types.size))) = true) (h20 : (c.ifacesOut == fn.resultTypes.toList.any (P.ifacesRec ·)) = true) (h21 : (c.loopsOut == fn.resultTypes.toList.any (P.loopsFrom ·)) = true) (h22 : (c.plainKeys == P.plainKeys) = true) (h23 : (c.shortTexts.isNone) = true) (h24 : (P.stopsHeard) = true) (h25 : (P.mayEnter) = true) (h26 : (c.lifted == P.liftsFinal) = true) (h27 : (P.make == some c.make) = true) (h28 : (c.kinds == (if c.domain.isEmpty then [] else fn.params.toList.map fun t => match P.underlying t with | some (.int k) => some k | _ => none)) = true) (h29 : (c.pinned == c.pinnedBy) = true) (h30 : (c.veiled == (fn.params.toList ++ s.plain.varTypes P ++ fn.resultTypes.toList).any (P.veiledRec ·)) = true) (h31 : (c.veiledFits P fn.params.toList (fn.params.toList ++ s.plain.varTypes P ++ fn.resultTypes.toList)) = true) : joinedFacts P f fn s c = true := by
 unfold joinedFacts
 exact FnExactSimplifyGoal.and2 (FnExactSimplifyGoal.and2 (FnExactSimplifyGoal.and2 (FnExactSimplifyGoal.and2 (FnExactSimplifyGoal.and2 (FnExactSimplifyGoal.and2 (FnExactSimplifyGoal.and2 (FnExactSimplifyGoal.and2 (FnExactSimplifyGoal.and2 (FnExactSimplifyGoal.and2 (FnExactSimplifyGoal.and2 (FnExactSimplifyGoal.and2 (FnExactSimplifyGoal.and2 (FnExactSimplifyGoal.and2 (FnExactSimplifyGoal.and2 (FnExactSimplifyGoal.and2 (FnExactSimplifyGoal.and2 (FnExactSimplifyGoal.and2 (FnExactSimplifyGoal.and2 (FnExactSimplifyGoal.and2 (FnExactSimplifyGoal.and2 (FnExactSimplifyGoal.and2 (FnExactSimplifyGoal.and2 (FnExactSimplifyGoal.and2 (FnExactSimplifyGoal.and2 (FnExactSimplifyGoal.and2 (FnExactSimplifyGoal.and2 (FnExactSimplifyGoal.and2 (FnExactSimplifyGoal.and2 (FnExactSimplifyGoal.and2 (FnExactSimplifyGoal.and2 (h0) h1) h2) h3) h4) h5) h6) h7) h8) h9) h10) h11) h12) h13) h14) h15) h16) h17) h18) h19) h20) h21) h22) h23) h24) h25) h26) h27) h28) h29) h30) h31
theorem FnExactSimplifyGoal.closed : joinedFacts Tryz.pinned.checked.prog 3 Tryz.f3 Rows.fnExactSimplifyGoalSpec Rows.fnExactSimplifyGoalRow = true := FnExactSimplifyGoal.joined (P := Tryz.pinned.checked.prog) (f := 3) (fn := Tryz.f3) (s := Rows.fnExactSimplifyGoalSpec) (c := Rows.fnExactSimplifyGoalRow) FnExactSimplifyGoal.k0 FnExactSimplifyGoal.k1 FnExactSimplifyGoal.k2 FnExactSimplifyGoal.k3 FnExactSimplifyGoal.k4 FnExactSimplifyGoal.k5 FnExactSimplifyGoal.k6 FnExactSimplifyGoal.k7 FnExactSimplifyGoal.k8 FnExactSimplifyGoal.k9 FnExactSimplifyGoal.k10 FnExactSimplifyGoal.k11 FnExactSimplifyGoal.k12 FnExactSimplifyGoal.k13 FnExactSimplifyGoal.k14 FnExactSimplifyGoal.k15 FnExactSimplifyGoal.k16 FnExactSimplifyGoal.k17 FnExactSimplifyGoal.k18 FnExactSimplifyGoal.k19 FnExactSimplifyGoal.k20 FnExactSimplifyGoal.k21 FnExactSimplifyGoal.k22 FnExactSimplifyGoal.k23 FnExactSimplifyGoal.k24 FnExactSimplifyGoal.k25 FnExactSimplifyGoal.k26 FnExactSimplifyGoal.k27 FnExactSimplifyGoal.k28 FnExactSimplifyGoal.k29 FnExactSimplifyGoal.k30 FnExactSimplifyGoal.k31
theorem FnExactSimplifyGoal_holds : Rows.FnExactSimplifyGoalSaid :=
 OpenClaim.holds_of_wide 3 Tryz.f3 rfl rfl rfl rfl rfl rfl rfl ⟨rfl, rfl, rfl, rfl, rfl⟩ rfl rfl rfl rfl rfl (by kernel_rfl) Tryz.func3 FnExactSimplifyGoal.closed
  (of_decide_eq_true (by kernel_rfl)) (by unfold Func.isWrapper; first | (rw [if_pos (by decide +kernel)]; kernel_rfl) | (rw [if_neg (by decide +kernel)]; exact ⟨rfl, rfl⟩))
  (fun os started H enc _ => FnExactSimplifyGoal.lifted os started H enc)
#print axioms FnExactSimplifyGoal_holds
end Go.Proofs.YtdkmmcmnffflaaaGreat
