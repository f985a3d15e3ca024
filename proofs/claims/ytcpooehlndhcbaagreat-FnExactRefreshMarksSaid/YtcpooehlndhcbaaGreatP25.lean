/- 'laws.FnExactRefreshMarks' returns true for every input, and each argument reads behind the call as it read before: no condition. -/
import Derived.Test.YtcpooehlndhcbaaGreatRows
import Derived.Test.YtcpooehlndhcbaaGreatM4
namespace Go.Proofs.YtcpooehlndhcbaaGreat
open Go.ChangeShapes Go.WideShapes Go.ChangeAt Go.RowKit Go.Vx
theorem FnExactRefreshMarks.own : ownKnob Tryz.prog.godebug = none := by kernel_rfl
theorem FnExactRefreshMarks.laidOut : laidOutB Tryz.prog = true := by kernel_rfl
set_option maxRecDepth 100000 in
theorem FnExactRefreshMarks.lifted (os : Os) (started : os.Started) (H : Type) (enc : TypeId × Value → H) :
    ReturnsInHanded {} Tryz.checked os 3 .any (Rows.fnExactRefreshMarksSpec.pre6 enc Tryz.prog Tryz.f3 Rows.fnExactRefreshMarksRow.domain false) (Rows.fnExactRefreshMarksSpec.post enc Tryz.prog Tryz.f3 false true false false) := by
  refine returnsInHanded_of_change (C := Tryz.checked) FnExactRefreshMarks.own started (by kernel_rfl) Tryz.func3
    (ChangeSpec.witness6 (enc := enc) (C := Tryz.checked) false ⟨#[], #[.slice none 0 0, .slice none 0 0], []⟩ 8 (by kernel_rfl) (by kernel_rfl) (by kernel_rfl) (by kernel_rfl)) ?_
  intro W base args ds gs before hval0 hW hcnd _
  have hval : ∀ (j : Nat) t v, Tryz.f3.params[j]? = some t → args[j]? = some v → Value.okWide Tryz.prog W .any base t v := hval0
  have hW' := hW
  obtain ⟨p, q, hA0, hV, rfl, hfz, hnd⟩ := hW
  have hA : DataW.TrodAll enc Tryz.prog W 0 (fun _ => true) true Tryz.f3.params.toList args.toList ds p := hA0
  rw [Tryz.params3] at hA hval
  obtain ⟨v0, v1, d0, d1, p0, p1, rfl, rfl, hp0, h0, h1⟩ := trodAll_two hA
  obtain ⟨e0, ⟨l0, rfl, w0⟩, hr0⟩ := read_cell (fun cs => okWide_slice Tryz.underlying22 cs) read_BindingS (hval 0 _ _ rfl rfl) h0
  obtain ⟨e1, ⟨l1, rfl, w1⟩, hr1⟩ := read_cell (fun cs => okWide_slice Tryz.underlying23 cs) read_MarkS (hval 1 _ _ rfl rfl) h1
  refine law_calls FnExactRefreshMarks.laidOut (fn := Tryz.f3) (tb := 4) ?_ (by kernel_rfl) und_bool rfl rfl hW' ⟨Tryz.f3, Tryz.func3, by kernel_rfl, by kernel_rfl⟩ ?_
  · intro t ht
    have : Tryz.f3.params.toList = [22, 23] := by rw [Tryz.params3]
    rw [this] at ht
    simp only [List.mem_cons, List.not_mem_nil, or_false] at ht
    rcases ht with rfl | rfl
    · exact ⟨by kernel_rfl, of_decide_eq_true (by kernel_rfl)⟩
    · exact ⟨by kernel_rfl, of_decide_eq_true (by kernel_rfl)⟩
  · exact FnExactRefreshMarks_spec hr0 hr1 w0 w1
theorem FnExactRefreshMarks.k0 : (Rows.fnExactRefreshMarksRow.wf (OpenSpec.ofChange Rows.fnExactRefreshMarksSpec)) = true := by kernel_rfl
theorem FnExactRefreshMarks.k1 : (laidOutB Tryz.pinned.checked.prog) = true := by kernel_rfl
theorem FnExactRefreshMarks.k2 : (mapsRowed Tryz.pinned.checked.prog) = true := by kernel_rfl
theorem FnExactRefreshMarks.k3 : (Tryz.f3.params.all (Tryz.pinned.checked.prog.readableRec ·)) = true := by kernel_rfl
theorem FnExactRefreshMarks.k4 : (namedTie Tryz.pinned.checked.prog Rows.fnExactRefreshMarksRow.named Rows.fnExactRefreshMarksSpec.vars) = true := by kernel_rfl
theorem FnExactRefreshMarks.k5 : (Rows.fnExactRefreshMarksRow.stops == []) = true := by kernel_rfl
theorem FnExactRefreshMarks.k6 : (Tryz.pinned.checked.prog.stops == []) = true := by kernel_rfl
theorem FnExactRefreshMarks.k7 : (Rows.fnExactRefreshMarksRow.knobs == []) = true := by kernel_rfl
theorem FnExactRefreshMarks.k8 : (Tryz.pinned.checked.prog.stopKnobs == []) = true := by kernel_rfl
theorem FnExactRefreshMarks.k9 : (Rows.fnExactRefreshMarksRow.inPlace == Tryz.pinned.checked.prog.inPlace 3) = true := by kernel_rfl
theorem FnExactRefreshMarks.k10 : (Rows.fnExactRefreshMarksRow.unfollowed == Tryz.pinned.checked.prog.unfollowed 3) = true := by kernel_rfl
theorem FnExactRefreshMarks.k11 : (Rows.fnExactRefreshMarksRow.recurses == Tryz.pinned.checked.prog.recurses 3) = true := by kernel_rfl
theorem FnExactRefreshMarks.k12 : (Rows.fnExactRefreshMarksRow.named == Tryz.pinned.checked.prog.varsNamed 3) = true := by kernel_rfl
theorem FnExactRefreshMarks.k13 : (Rows.fnExactRefreshMarksRow.maps == (Tryz.f3.params.toList ++ Rows.fnExactRefreshMarksSpec.plain.varTypes Tryz.pinned.checked.prog).any (Tryz.pinned.checked.prog.mapsRec ·)) = true := by kernel_rfl
theorem FnExactRefreshMarks.k14 : (Rows.fnExactRefreshMarksRow.ifaces == (Tryz.f3.params.toList ++ Rows.fnExactRefreshMarksSpec.plain.varTypes Tryz.pinned.checked.prog).any (Tryz.pinned.checked.prog.ifacesRec ·)) = true := by kernel_rfl
theorem FnExactRefreshMarks.k15 : (Rows.fnExactRefreshMarksRow.mapsOut == Tryz.pinned.checked.prog.mapsAmong Tryz.f3.resultTypes.toList) = true := by kernel_rfl
theorem FnExactRefreshMarks.k16 : (Rows.fnExactRefreshMarksRow.loops == (Tryz.f3.params.toList ++ Rows.fnExactRefreshMarksSpec.plain.varTypes Tryz.pinned.checked.prog).any (Tryz.pinned.checked.prog.loopsFrom ·)) = true := by kernel_rfl
theorem FnExactRefreshMarks.k17 : (Rows.fnExactRefreshMarksRow.wideKeys == (Tryz.f3.params.toList ++ Rows.fnExactRefreshMarksSpec.plain.varTypes Tryz.pinned.checked.prog ++ Tryz.f3.resultTypes.toList).any (Tryz.pinned.checked.prog.wideKeysFrom ·)) = true := by kernel_rfl
theorem FnExactRefreshMarks.k18 : (Rows.fnExactRefreshMarksSpec.vars.all (Tryz.pinned.checked.prog.varReadable ·)) = true := by kernel_rfl
theorem FnExactRefreshMarks.k19 : (Tryz.f3.resultTypes.all (fun t => Tryz.pinned.checked.prog.readableRec t && decide (t < Tryz.pinned.checked.prog.types.size))) = true := by kernel_rfl
theorem FnExactRefreshMarks.k20 : (Rows.fnExactRefreshMarksRow.ifacesOut == Tryz.f3.resultTypes.toList.any (Tryz.pinned.checked.prog.ifacesRec ·)) = true := by kernel_rfl
theorem FnExactRefreshMarks.k21 : (Rows.fnExactRefreshMarksRow.loopsOut == Tryz.f3.resultTypes.toList.any (Tryz.pinned.checked.prog.loopsFrom ·)) = true := by kernel_rfl
theorem FnExactRefreshMarks.k22 : (Rows.fnExactRefreshMarksRow.plainKeys == Tryz.pinned.checked.prog.plainKeys) = true := by kernel_rfl
theorem FnExactRefreshMarks.k23 : (Rows.fnExactRefreshMarksRow.shortTexts.isNone) = true := by kernel_rfl
theorem FnExactRefreshMarks.k24 : (Tryz.pinned.checked.prog.stopsHeard) = true := by kernel_rfl
theorem FnExactRefreshMarks.k25 : (Tryz.pinned.checked.prog.mayEnter) = true := by kernel_rfl
theorem FnExactRefreshMarks.k26 : (Rows.fnExactRefreshMarksRow.lifted == Tryz.pinned.checked.prog.liftsFinal) = true := by kernel_rfl
theorem FnExactRefreshMarks.k27 : (Tryz.pinned.checked.prog.make == some Rows.fnExactRefreshMarksRow.make) = true := by kernel_rfl
theorem FnExactRefreshMarks.k28 : (Rows.fnExactRefreshMarksRow.kinds == (if Rows.fnExactRefreshMarksRow.domain.isEmpty then [] else Tryz.f3.params.toList.map fun t => match Tryz.pinned.checked.prog.underlying t with | some (.int k) => some k | _ => none)) = true := by kernel_rfl
theorem FnExactRefreshMarks.k29 : (Rows.fnExactRefreshMarksRow.pinned == Rows.fnExactRefreshMarksRow.pinnedBy) = true := by kernel_rfl
theorem FnExactRefreshMarks.k30 : (Rows.fnExactRefreshMarksRow.veiled == (Tryz.f3.params.toList ++ Rows.fnExactRefreshMarksSpec.plain.varTypes Tryz.pinned.checked.prog ++ Tryz.f3.resultTypes.toList).any (Tryz.pinned.checked.prog.veiledRec ·)) = true := by kernel_rfl
theorem FnExactRefreshMarks.k31 : (Rows.fnExactRefreshMarksRow.veiledFits Tryz.pinned.checked.prog Tryz.f3.params.toList (Tryz.f3.params.toList ++ Rows.fnExactRefreshMarksSpec.plain.varTypes Tryz.pinned.checked.prog ++ Tryz.f3.resultTypes.toList)) = true := by kernel_rfl
theorem FnExactRefreshMarks.and2 {a b : Bool} (h1 : a = true) (h2 : b = true) : (a && b) = true := by rw [h1, h2]; rfl
theorem FnExactRefreshMarks.joined {P : Program} {f : FuncId} {fn : Func} {s : ChangeSpec} {c : OpenClaim} (h0 : (c.wf (OpenSpec.ofChange s)) = true) (h1 : (laidOutB P) = true) (h2 : (mapsRowed P) = true) (h3 : (fn.params.all (P.readableRec ·)) = true) (h4 : (namedTie P c.named s.vars) = true) (h5 : (c.stops == []) = true) (h6 : (P.stops == []) = true) (h7 : (c.knobs == []) = true) (h8 : (P.stopKnobs == []) = true) (h9 : (c.inPlace == P.inPlace f) = true) (h10 : (c.unfollowed == P.unfollowed f) = true) (h11 : (c.recurses == P.recurses f) = true) (h12 : (c.named == P.varsNamed f) = true) (h13 : (c.maps == (fn.params.toList ++ s.plain.varTypes P).any (P.mapsRec ·)) = true) (h14 : (c.ifaces == (fn.params.toList ++ s.plain.varTypes P).any (P.ifacesRec ·)) = true) (h15 : (c.mapsOut == P.mapsAmong fn.resultTypes.toList) = true) (h16 : (c.loops == (fn.params.toList ++ s.plain.varTypes P).any (P.loopsFrom ·)) = true) (h17 : (c.wideKeys == (fn.params.toList ++ s.plain.varTypes P ++ fn.resultTypes.toList).any (P.wideKeysFrom ·)) = true) (h18 : (s.vars.all (P.varReadable ·)) = true) (h19 : (fn.resultTypes.all (fun t => P.readableRec t && decide (t < P.types.size))) = true) (h20 : (c.ifacesOut == fn.resultTypes.toList.any (P.ifacesRec ·)) = true) (h21 : (c.loopsOut == fn.resultTypes.toList.any (P.loopsFrom ·)) = true) (h22 : (c.plainKeys == P.plainKeys) = true) (h23 : (c.shortTexts.isNone) = true) (h24 : (P.stopsHeard) = true) (h25 : (P.mayEnter) = true) (h26 : (c.lifted == P.liftsFinal) = true) (h27 : (P.make == some c.make) = true) (h28 : (c.kinds == (if c.domain.isEmpty then [] else fn.params.toList.map fun t => match P.underlying t with | some (.int k) => some k | _ => none)) = true) (h29 : (c.pinned == c.pinnedBy) = true) (h30 : (c.veiled == (fn.params.toList ++ s.plain.varTypes P ++ fn.resultTypes.toList).any (P.veiledRec ·)) = true) (h31 : (c.veiledFits P fn.params.toList (fn.params.toList ++ s.plain.varTypes P ++ fn.resultTypes.toList)) = true) : joinedFacts P f fn s c = true := by
  unfold joinedFacts
  exact FnExactRefreshMarks.and2 (FnExactRefreshMarks.and2 (FnExactRefreshMarks.and2 (FnExactRefreshMarks.and2 (FnExactRefreshMarks.and2 (FnExactRefreshMarks.and2 (FnExactRefreshMarks.and2 (FnExactRefreshMarks.and2 (FnExactRefreshMarks.and2 (FnExactRefreshMarks.and2 (FnExactRefreshMarks.and2 (FnExactRefreshMarks.and2 (FnExactRefreshMarks.and2 (FnExactRefreshMarks.and2 (FnExactRefreshMarks.and2 (FnExactRefreshMarks.and2 (FnExactRefreshMarks.and2 (FnExactRefreshMarks.and2 (FnExactRefreshMarks.and2 (FnExactRefreshMarks.and2 (FnExactRefreshMarks.and2 (FnExactRefreshMarks.and2 (FnExactRefreshMarks.and2 (FnExactRefreshMarks.and2 (FnExactRefreshMarks.and2 (FnExactRefreshMarks.and2 (FnExactRefreshMarks.and2 (FnExactRefreshMarks.and2 (FnExactRefreshMarks.and2 (FnExactRefreshMarks.and2 (FnExactRefreshMarks.and2 (h0) h1) h2) h3) h4) h5) h6) h7) h8) h9) h10) h11) h12) h13) h14) h15) h16) h17) h18) h19) h20) h21) h22) h23) h24) h25) h26) h27) h28) h29) h30) h31
theorem FnExactRefreshMarks.closed : joinedFacts Tryz.pinned.checked.prog 3 Tryz.f3 Rows.fnExactRefreshMarksSpec Rows.fnExactRefreshMarksRow = true := FnExactRefreshMarks.joined (P := Tryz.pinned.checked.prog) (f := 3) (fn := Tryz.f3) (s := Rows.fnExactRefreshMarksSpec) (c := Rows.fnExactRefreshMarksRow) FnExactRefreshMarks.k0 FnExactRefreshMarks.k1 FnExactRefreshMarks.k2 FnExactRefreshMarks.k3 FnExactRefreshMarks.k4 FnExactRefreshMarks.k5 FnExactRefreshMarks.k6 FnExactRefreshMarks.k7 FnExactRefreshMarks.k8 FnExactRefreshMarks.k9 FnExactRefreshMarks.k10 FnExactRefreshMarks.k11 FnExactRefreshMarks.k12 FnExactRefreshMarks.k13 FnExactRefreshMarks.k14 FnExactRefreshMarks.k15 FnExactRefreshMarks.k16 FnExactRefreshMarks.k17 FnExactRefreshMarks.k18 FnExactRefreshMarks.k19 FnExactRefreshMarks.k20 FnExactRefreshMarks.k21 FnExactRefreshMarks.k22 FnExactRefreshMarks.k23 FnExactRefreshMarks.k24 FnExactRefreshMarks.k25 FnExactRefreshMarks.k26 FnExactRefreshMarks.k27 FnExactRefreshMarks.k28 FnExactRefreshMarks.k29 FnExactRefreshMarks.k30 FnExactRefreshMarks.k31
theorem FnExactRefreshMarks_holds : Rows.FnExactRefreshMarksSaid :=
  OpenClaim.holds_of_wide 3 Tryz.f3 rfl rfl rfl rfl rfl rfl rfl ⟨rfl, rfl, rfl, rfl, rfl⟩ rfl rfl rfl rfl rfl (by kernel_rfl) Tryz.func3 FnExactRefreshMarks.closed
    (of_decide_eq_true (by kernel_rfl)) (by unfold Func.isWrapper; first | (rw [if_pos (by decide +kernel)]; kernel_rfl) | (rw [if_neg (by decide +kernel)]; exact ⟨rfl, rfl⟩))
    (fun os started H enc _ => FnExactRefreshMarks.lifted os started H enc)
#print axioms FnExactRefreshMarks_holds
end Go.Proofs.YtcpooehlndhcbaaGreat
