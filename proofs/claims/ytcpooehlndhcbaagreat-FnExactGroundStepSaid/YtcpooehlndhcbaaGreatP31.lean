/- 'laws.FnExactGroundStep' returns true for every input, and each argument reads behind the call as it read before: no condition. -/
import Derived.Test.YtcpooehlndhcbaaGreatRows
import Derived.Test.YtcpooehlndhcbaaGreatM4
namespace Go.Proofs.YtcpooehlndhcbaaGreat
open Go.ChangeShapes Go.WideShapes Go.ChangeAt Go.RowKit Go.Vx
theorem FnExactGroundStep.own : ownKnob Tryz.prog.godebug = none := by kernel_rfl
theorem FnExactGroundStep.laidOut : laidOutB Tryz.prog = true := by kernel_rfl
set_option maxRecDepth 100000 in
theorem FnExactGroundStep.lifted (os : Os) (started : os.Started) (H : Type) (enc : TypeId × Value → H) :
    ReturnsInHanded {} Tryz.checked os 7 .any (Rows.fnExactGroundStepSpec.pre6 enc Tryz.prog Tryz.f7 Rows.fnExactGroundStepRow.domain false) (Rows.fnExactGroundStepSpec.post enc Tryz.prog Tryz.f7 false true false false) := by
  refine returnsInHanded_of_change (C := Tryz.checked) FnExactGroundStep.own started (by kernel_rfl) Tryz.func7
    (ChangeSpec.witness6 (enc := enc) (C := Tryz.checked) false ⟨#[], #[.agg #[.slice none 0 0], .slice none 0 0], []⟩ 8 (by kernel_rfl) (by kernel_rfl) (by kernel_rfl) (by kernel_rfl)) ?_
  intro W base args ds gs before hval0 hW hcnd _
  have hval : ∀ (j : Nat) t v, Tryz.f7.params[j]? = some t → args[j]? = some v → Value.okWide Tryz.prog W .any base t v := hval0
  have hW' := hW
  obtain ⟨p, q, hA0, hV, rfl, hfz, hnd⟩ := hW
  have hA : DataW.TrodAll enc Tryz.prog W 0 (fun _ => true) true Tryz.f7.params.toList args.toList ds p := hA0
  rw [Tryz.params7] at hA hval
  obtain ⟨v0, v1, d0, d1, p0, p1, rfl, rfl, hp0, h0, h1⟩ := trodAll_two hA
  obtain ⟨e0, ⟨g0, rfl, w0⟩, cs0, rfl, hr0⟩ := read_struct Tryz.underlying63 read_Program (hval 0 _ _ rfl rfl) h0
  obtain ⟨e1, ⟨l1, rfl⟩, hr1⟩ := read_cell (fun cs => okWide_slice Tryz.underlying74 cs) read_IntS (hval 1 _ _ rfl rfl) h1
  refine law_calls FnExactGroundStep.laidOut (fn := Tryz.f7) (tb := 4) ?_ (by kernel_rfl) und_bool rfl rfl hW' ⟨Tryz.f7, Tryz.func7, by kernel_rfl, by kernel_rfl⟩ ?_
  · intro t ht
    have : Tryz.f7.params.toList = [63, 74] := by rw [Tryz.params7]
    rw [this] at ht
    simp only [List.mem_cons, List.not_mem_nil, or_false] at ht
    rcases ht with rfl | rfl
    · exact ⟨by kernel_rfl, of_decide_eq_true (by kernel_rfl)⟩
    · exact ⟨by kernel_rfl, of_decide_eq_true (by kernel_rfl)⟩
  · exact FnExactGroundStep_spec (Pg.rep hr0) hr1 w0
theorem FnExactGroundStep.k0 : (Rows.fnExactGroundStepRow.wf (OpenSpec.ofChange Rows.fnExactGroundStepSpec)) = true := by kernel_rfl
theorem FnExactGroundStep.k1 : (laidOutB Tryz.pinned.checked.prog) = true := by kernel_rfl
theorem FnExactGroundStep.k2 : (mapsRowed Tryz.pinned.checked.prog) = true := by kernel_rfl
theorem FnExactGroundStep.k3 : (Tryz.f7.params.all (Tryz.pinned.checked.prog.readableRec ·)) = true := by kernel_rfl
theorem FnExactGroundStep.k4 : (namedTie Tryz.pinned.checked.prog Rows.fnExactGroundStepRow.named Rows.fnExactGroundStepSpec.vars) = true := by kernel_rfl
theorem FnExactGroundStep.k5 : (Rows.fnExactGroundStepRow.stops == []) = true := by kernel_rfl
theorem FnExactGroundStep.k6 : (Tryz.pinned.checked.prog.stops == []) = true := by kernel_rfl
theorem FnExactGroundStep.k7 : (Rows.fnExactGroundStepRow.knobs == []) = true := by kernel_rfl
theorem FnExactGroundStep.k8 : (Tryz.pinned.checked.prog.stopKnobs == []) = true := by kernel_rfl
theorem FnExactGroundStep.k9 : (Rows.fnExactGroundStepRow.inPlace == Tryz.pinned.checked.prog.inPlace 7) = true := by kernel_rfl
theorem FnExactGroundStep.k10 : (Rows.fnExactGroundStepRow.unfollowed == Tryz.pinned.checked.prog.unfollowed 7) = true := by kernel_rfl
theorem FnExactGroundStep.k11 : (Rows.fnExactGroundStepRow.recurses == Tryz.pinned.checked.prog.recurses 7) = true := by kernel_rfl
theorem FnExactGroundStep.k12 : (Rows.fnExactGroundStepRow.named == Tryz.pinned.checked.prog.varsNamed 7) = true := by kernel_rfl
theorem FnExactGroundStep.k13 : (Rows.fnExactGroundStepRow.maps == (Tryz.f7.params.toList ++ Rows.fnExactGroundStepSpec.plain.varTypes Tryz.pinned.checked.prog).any (Tryz.pinned.checked.prog.mapsRec ·)) = true := by kernel_rfl
theorem FnExactGroundStep.k14 : (Rows.fnExactGroundStepRow.ifaces == (Tryz.f7.params.toList ++ Rows.fnExactGroundStepSpec.plain.varTypes Tryz.pinned.checked.prog).any (Tryz.pinned.checked.prog.ifacesRec ·)) = true := by kernel_rfl
theorem FnExactGroundStep.k15 : (Rows.fnExactGroundStepRow.mapsOut == Tryz.pinned.checked.prog.mapsAmong Tryz.f7.resultTypes.toList) = true := by kernel_rfl
theorem FnExactGroundStep.k16 : (Rows.fnExactGroundStepRow.loops == (Tryz.f7.params.toList ++ Rows.fnExactGroundStepSpec.plain.varTypes Tryz.pinned.checked.prog).any (Tryz.pinned.checked.prog.loopsFrom ·)) = true := by kernel_rfl
theorem FnExactGroundStep.k17 : (Rows.fnExactGroundStepRow.wideKeys == (Tryz.f7.params.toList ++ Rows.fnExactGroundStepSpec.plain.varTypes Tryz.pinned.checked.prog ++ Tryz.f7.resultTypes.toList).any (Tryz.pinned.checked.prog.wideKeysFrom ·)) = true := by kernel_rfl
theorem FnExactGroundStep.k18 : (Rows.fnExactGroundStepSpec.vars.all (Tryz.pinned.checked.prog.varReadable ·)) = true := by kernel_rfl
theorem FnExactGroundStep.k19 : (Tryz.f7.resultTypes.all (fun t => Tryz.pinned.checked.prog.readableRec t && decide (t < Tryz.pinned.checked.prog.types.size))) = true := by kernel_rfl
theorem FnExactGroundStep.k20 : (Rows.fnExactGroundStepRow.ifacesOut == Tryz.f7.resultTypes.toList.any (Tryz.pinned.checked.prog.ifacesRec ·)) = true := by kernel_rfl
theorem FnExactGroundStep.k21 : (Rows.fnExactGroundStepRow.loopsOut == Tryz.f7.resultTypes.toList.any (Tryz.pinned.checked.prog.loopsFrom ·)) = true := by kernel_rfl
theorem FnExactGroundStep.k22 : (Rows.fnExactGroundStepRow.plainKeys == Tryz.pinned.checked.prog.plainKeys) = true := by kernel_rfl
theorem FnExactGroundStep.k23 : (Rows.fnExactGroundStepRow.shortTexts.isNone) = true := by kernel_rfl
theorem FnExactGroundStep.k24 : (Tryz.pinned.checked.prog.stopsHeard) = true := by kernel_rfl
theorem FnExactGroundStep.k25 : (Tryz.pinned.checked.prog.mayEnter) = true := by kernel_rfl
theorem FnExactGroundStep.k26 : (Rows.fnExactGroundStepRow.lifted == Tryz.pinned.checked.prog.liftsFinal) = true := by kernel_rfl
theorem FnExactGroundStep.k27 : (Tryz.pinned.checked.prog.make == some Rows.fnExactGroundStepRow.make) = true := by kernel_rfl
theorem FnExactGroundStep.k28 : (Rows.fnExactGroundStepRow.kinds == (if Rows.fnExactGroundStepRow.domain.isEmpty then [] else Tryz.f7.params.toList.map fun t => match Tryz.pinned.checked.prog.underlying t with | some (.int k) => some k | _ => none)) = true := by kernel_rfl
theorem FnExactGroundStep.k29 : (Rows.fnExactGroundStepRow.pinned == Rows.fnExactGroundStepRow.pinnedBy) = true := by kernel_rfl
theorem FnExactGroundStep.k30 : (Rows.fnExactGroundStepRow.veiled == (Tryz.f7.params.toList ++ Rows.fnExactGroundStepSpec.plain.varTypes Tryz.pinned.checked.prog ++ Tryz.f7.resultTypes.toList).any (Tryz.pinned.checked.prog.veiledRec ·)) = true := by kernel_rfl
theorem FnExactGroundStep.k31 : (Rows.fnExactGroundStepRow.veiledFits Tryz.pinned.checked.prog Tryz.f7.params.toList (Tryz.f7.params.toList ++ Rows.fnExactGroundStepSpec.plain.varTypes Tryz.pinned.checked.prog ++ Tryz.f7.resultTypes.toList)) = true := by kernel_rfl
theorem FnExactGroundStep.and2 {a b : Bool} (h1 : a = true) (h2 : b = true) : (a && b) = true := by rw [h1, h2]; rfl
theorem FnExactGroundStep.joined {P : Program} {f : FuncId} {fn : Func} {s : ChangeSpec} {c : OpenClaim} (h0 : (c.wf (OpenSpec.ofChange s)) = true) (h1 : (laidOutB P) = true) (h2 : (mapsRowed P) = true) (h3 : (fn.params.all (P.readableRec ·)) = true) (h4 : (namedTie P c.named s.vars) = true) (h5 : (c.stops == []) = true) (h6 : (P.stops == []) = true) (h7 : (c.knobs == []) = true) (h8 : (P.stopKnobs == []) = true) (h9 : (c.inPlace == P.inPlace f) = true) (h10 : (c.unfollowed == P.unfollowed f) = true) (h11 : (c.recurses == P.recurses f) = true) (h12 : (c.named == P.varsNamed f) = true) (h13 : (c.maps == (fn.params.toList ++ s.plain.varTypes P).any (P.mapsRec ·)) = true) (h14 : (c.ifaces == (fn.params.toList ++ s.plain.varTypes P).any (P.ifacesRec ·)) = true) (h15 : (c.mapsOut == P.mapsAmong fn.resultTypes.toList) = true) (h16 : (c.loops == (fn.params.toList ++ s.plain.varTypes P).any (P.loopsFrom ·)) = true) (h17 : (c.wideKeys == (fn.params.toList ++ s.plain.varTypes P ++ fn.resultTypes.toList).any (P.wideKeysFrom ·)) = true) (h18 : (s.vars.all (P.varReadable ·)) = true) (h19 : (fn.resultTypes.all (fun t => P.readableRec t && decide (t < P.types.size))) = true) (h20 : (c.ifacesOut == fn.resultTypes.toList.any (P.ifacesRec ·)) = true) (h21 : (c.loopsOut == fn.resultTypes.toList.any (P.loopsFrom ·)) = true) (h22 : (c.plainKeys == P.plainKeys) = true) (h23 : (c.shortTexts.isNone) = true) (h24 : (P.stopsHeard) = true) (h25 : (P.mayEnter) = true) (h26 : (c.lifted == P.liftsFinal) = true) (h27 : (P.make == some c.make) = true) (h28 : (c.kinds == (if c.domain.isEmpty then [] else fn.params.toList.map fun t => match P.underlying t with | some (.int k) => some k | _ => none)) = true) (h29 : (c.pinned == c.pinnedBy) = true) (h30 : (c.veiled == (fn.params.toList ++ s.plain.varTypes P ++ fn.resultTypes.toList).any (P.veiledRec ·)) = true) (h31 : (c.veiledFits P fn.params.toList (fn.params.toList ++ s.plain.varTypes P ++ fn.resultTypes.toList)) = true) : joinedFacts P f fn s c = true := by
  unfold joinedFacts
  exact FnExactGroundStep.and2 (FnExactGroundStep.and2 (FnExactGroundStep.and2 (FnExactGroundStep.and2 (FnExactGroundStep.and2 (FnExactGroundStep.and2 (FnExactGroundStep.and2 (FnExactGroundStep.and2 (FnExactGroundStep.and2 (FnExactGroundStep.and2 (FnExactGroundStep.and2 (FnExactGroundStep.and2 (FnExactGroundStep.and2 (FnExactGroundStep.and2 (FnExactGroundStep.and2 (FnExactGroundStep.and2 (FnExactGroundStep.and2 (FnExactGroundStep.and2 (FnExactGroundStep.and2 (FnExactGroundStep.and2 (FnExactGroundStep.and2 (FnExactGroundStep.and2 (FnExactGroundStep.and2 (FnExactGroundStep.and2 (FnExactGroundStep.and2 (FnExactGroundStep.and2 (FnExactGroundStep.and2 (FnExactGroundStep.and2 (FnExactGroundStep.and2 (FnExactGroundStep.and2 (FnExactGroundStep.and2 (h0) h1) h2) h3) h4) h5) h6) h7) h8) h9) h10) h11) h12) h13) h14) h15) h16) h17) h18) h19) h20) h21) h22) h23) h24) h25) h26) h27) h28) h29) h30) h31
theorem FnExactGroundStep.closed : joinedFacts Tryz.pinned.checked.prog 7 Tryz.f7 Rows.fnExactGroundStepSpec Rows.fnExactGroundStepRow = true := FnExactGroundStep.joined (P := Tryz.pinned.checked.prog) (f := 7) (fn := Tryz.f7) (s := Rows.fnExactGroundStepSpec) (c := Rows.fnExactGroundStepRow) FnExactGroundStep.k0 FnExactGroundStep.k1 FnExactGroundStep.k2 FnExactGroundStep.k3 FnExactGroundStep.k4 FnExactGroundStep.k5 FnExactGroundStep.k6 FnExactGroundStep.k7 FnExactGroundStep.k8 FnExactGroundStep.k9 FnExactGroundStep.k10 FnExactGroundStep.k11 FnExactGroundStep.k12 FnExactGroundStep.k13 FnExactGroundStep.k14 FnExactGroundStep.k15 FnExactGroundStep.k16 FnExactGroundStep.k17 FnExactGroundStep.k18 FnExactGroundStep.k19 FnExactGroundStep.k20 FnExactGroundStep.k21 FnExactGroundStep.k22 FnExactGroundStep.k23 FnExactGroundStep.k24 FnExactGroundStep.k25 FnExactGroundStep.k26 FnExactGroundStep.k27 FnExactGroundStep.k28 FnExactGroundStep.k29 FnExactGroundStep.k30 FnExactGroundStep.k31
theorem FnExactGroundStep_holds : Rows.FnExactGroundStepSaid :=
  OpenClaim.holds_of_wide 7 Tryz.f7 rfl rfl rfl rfl rfl rfl rfl ⟨rfl, rfl, rfl, rfl, rfl⟩ rfl rfl rfl rfl rfl (by kernel_rfl) Tryz.func7 FnExactGroundStep.closed
    (of_decide_eq_true (by kernel_rfl)) (by unfold Func.isWrapper; first | (rw [if_pos (by decide +kernel)]; kernel_rfl) | (rw [if_neg (by decide +kernel)]; exact ⟨rfl, rfl⟩))
    (fun os started H enc _ => FnExactGroundStep.lifted os started H enc)
#print axioms FnExactGroundStep_holds
end Go.Proofs.YtcpooehlndhcbaaGreat
