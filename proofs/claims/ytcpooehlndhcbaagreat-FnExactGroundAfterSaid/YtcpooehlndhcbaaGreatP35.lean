/- 'laws.FnExactGroundAfter' returns true for every input, and each argument reads behind the call as it read before: no condition. -/
import Derived.Test.YtcpooehlndhcbaaGreatRows
import Derived.Test.YtcpooehlndhcbaaGreatM5
namespace Go.Proofs.YtcpooehlndhcbaaGreat
open Go.ChangeShapes Go.WideShapes Go.ChangeAt Go.RowKit Go.Vx
theorem FnExactGroundAfter.own : ownKnob Tryz.prog.godebug = none := by kernel_rfl
theorem FnExactGroundAfter.laidOut : laidOutB Tryz.prog = true := by kernel_rfl
set_option maxRecDepth 100000 in
theorem FnExactGroundAfter.lifted (os : Os) (started : os.Started) (H : Type) (enc : TypeId × Value → H) :
    ReturnsInHanded {} Tryz.checked os 11 .any (Rows.fnExactGroundAfterSpec.pre6 enc Tryz.prog Tryz.f11 Rows.fnExactGroundAfterRow.domain false) (Rows.fnExactGroundAfterSpec.post enc Tryz.prog Tryz.f11 false true false false) := by
  refine returnsInHanded_of_change (C := Tryz.checked) FnExactGroundAfter.own started (by kernel_rfl) Tryz.func11
    (ChangeSpec.witness6 (enc := enc) (C := Tryz.checked) false ⟨#[], #[.agg #[.slice none 0 0], .string ⟨#[]⟩, .slice none 0 0], []⟩ 8 (by kernel_rfl) (by kernel_rfl) (by kernel_rfl) (by kernel_rfl)) ?_
  intro W base args ds gs before hval0 hW hcnd _
  have hval : ∀ (j : Nat) t v, Tryz.f11.params[j]? = some t → args[j]? = some v → Value.okWide Tryz.prog W .any base t v := hval0
  have hW' := hW
  obtain ⟨p, q, hA0, hV, rfl, hfz, hnd⟩ := hW
  have hA : DataW.TrodAll enc Tryz.prog W 0 (fun _ => true) true Tryz.f11.params.toList args.toList ds p := hA0
  rw [Tryz.params11] at hA hval
  obtain ⟨v0, v1, v2, d0, d1, d2, p0, p1, p2, rfl, rfl, hp0, h0, h1, h2⟩ := trodAll_three hA
  obtain ⟨e0, ⟨g0, rfl, w0⟩, cs0, rfl, hr0⟩ := read_struct Tryz.underlying63 read_Program (hval 0 _ _ rfl rfl) h0
  obtain ⟨e1, ⟨n1, rfl, w1⟩, hr1⟩ := read_cell (fun cs => okWide_string Tryz.underlying9 cs) (reads_str Tryz.underlying9) (hval 1 _ _ rfl rfl) h1
  obtain ⟨e2, ⟨l2, rfl⟩, hr2⟩ := read_cell (fun cs => okWide_slice Tryz.underlying74 cs) read_IntS (hval 2 _ _ rfl rfl) h2
  refine law_calls FnExactGroundAfter.laidOut (fn := Tryz.f11) (tb := 4) ?_ (by kernel_rfl) und_bool rfl rfl hW' ⟨Tryz.f11, Tryz.func11, by kernel_rfl, by kernel_rfl⟩ ?_
  · intro t ht
    have : Tryz.f11.params.toList = [63, 9, 74] := by rw [Tryz.params11]
    rw [this] at ht
    simp only [List.mem_cons, List.not_mem_nil, or_false] at ht
    rcases ht with rfl | rfl | rfl
    · exact ⟨by kernel_rfl, of_decide_eq_true (by kernel_rfl)⟩
    · exact ⟨by kernel_rfl, of_decide_eq_true (by kernel_rfl)⟩
    · exact ⟨by kernel_rfl, of_decide_eq_true (by kernel_rfl)⟩
  · exact by
      have e1 : [v1] = [Value.string n1] := hr1
      cases e1
      exact FnExactGroundAfter_spec (Pg.rep hr0) hr2 w0
theorem FnExactGroundAfter.k0 : (Rows.fnExactGroundAfterRow.wf (OpenSpec.ofChange Rows.fnExactGroundAfterSpec)) = true := by kernel_rfl
theorem FnExactGroundAfter.k1 : (laidOutB Tryz.pinned.checked.prog) = true := by kernel_rfl
theorem FnExactGroundAfter.k2 : (mapsRowed Tryz.pinned.checked.prog) = true := by kernel_rfl
theorem FnExactGroundAfter.k3 : (Tryz.f11.params.all (Tryz.pinned.checked.prog.readableRec ·)) = true := by kernel_rfl
theorem FnExactGroundAfter.k4 : (namedTie Tryz.pinned.checked.prog Rows.fnExactGroundAfterRow.named Rows.fnExactGroundAfterSpec.vars) = true := by kernel_rfl
theorem FnExactGroundAfter.k5 : (Rows.fnExactGroundAfterRow.stops == []) = true := by kernel_rfl
theorem FnExactGroundAfter.k6 : (Tryz.pinned.checked.prog.stops == []) = true := by kernel_rfl
theorem FnExactGroundAfter.k7 : (Rows.fnExactGroundAfterRow.knobs == []) = true := by kernel_rfl
theorem FnExactGroundAfter.k8 : (Tryz.pinned.checked.prog.stopKnobs == []) = true := by kernel_rfl
theorem FnExactGroundAfter.k9 : (Rows.fnExactGroundAfterRow.inPlace == Tryz.pinned.checked.prog.inPlace 11) = true := by kernel_rfl
theorem FnExactGroundAfter.k10 : (Rows.fnExactGroundAfterRow.unfollowed == Tryz.pinned.checked.prog.unfollowed 11) = true := by kernel_rfl
theorem FnExactGroundAfter.k11 : (Rows.fnExactGroundAfterRow.recurses == Tryz.pinned.checked.prog.recurses 11) = true := by kernel_rfl
theorem FnExactGroundAfter.k12 : (Rows.fnExactGroundAfterRow.named == Tryz.pinned.checked.prog.varsNamed 11) = true := by kernel_rfl
theorem FnExactGroundAfter.k13 : (Rows.fnExactGroundAfterRow.maps == (Tryz.f11.params.toList ++ Rows.fnExactGroundAfterSpec.plain.varTypes Tryz.pinned.checked.prog).any (Tryz.pinned.checked.prog.mapsRec ·)) = true := by kernel_rfl
theorem FnExactGroundAfter.k14 : (Rows.fnExactGroundAfterRow.ifaces == (Tryz.f11.params.toList ++ Rows.fnExactGroundAfterSpec.plain.varTypes Tryz.pinned.checked.prog).any (Tryz.pinned.checked.prog.ifacesRec ·)) = true := by kernel_rfl
theorem FnExactGroundAfter.k15 : (Rows.fnExactGroundAfterRow.mapsOut == Tryz.pinned.checked.prog.mapsAmong Tryz.f11.resultTypes.toList) = true := by kernel_rfl
theorem FnExactGroundAfter.k16 : (Rows.fnExactGroundAfterRow.loops == (Tryz.f11.params.toList ++ Rows.fnExactGroundAfterSpec.plain.varTypes Tryz.pinned.checked.prog).any (Tryz.pinned.checked.prog.loopsFrom ·)) = true := by kernel_rfl
theorem FnExactGroundAfter.k17 : (Rows.fnExactGroundAfterRow.wideKeys == (Tryz.f11.params.toList ++ Rows.fnExactGroundAfterSpec.plain.varTypes Tryz.pinned.checked.prog ++ Tryz.f11.resultTypes.toList).any (Tryz.pinned.checked.prog.wideKeysFrom ·)) = true := by kernel_rfl
theorem FnExactGroundAfter.k18 : (Rows.fnExactGroundAfterSpec.vars.all (Tryz.pinned.checked.prog.varReadable ·)) = true := by kernel_rfl
theorem FnExactGroundAfter.k19 : (Tryz.f11.resultTypes.all (fun t => Tryz.pinned.checked.prog.readableRec t && decide (t < Tryz.pinned.checked.prog.types.size))) = true := by kernel_rfl
theorem FnExactGroundAfter.k20 : (Rows.fnExactGroundAfterRow.ifacesOut == Tryz.f11.resultTypes.toList.any (Tryz.pinned.checked.prog.ifacesRec ·)) = true := by kernel_rfl
theorem FnExactGroundAfter.k21 : (Rows.fnExactGroundAfterRow.loopsOut == Tryz.f11.resultTypes.toList.any (Tryz.pinned.checked.prog.loopsFrom ·)) = true := by kernel_rfl
theorem FnExactGroundAfter.k22 : (Rows.fnExactGroundAfterRow.plainKeys == Tryz.pinned.checked.prog.plainKeys) = true := by kernel_rfl
theorem FnExactGroundAfter.k23 : (Rows.fnExactGroundAfterRow.shortTexts.isNone) = true := by kernel_rfl
theorem FnExactGroundAfter.k24 : (Tryz.pinned.checked.prog.stopsHeard) = true := by kernel_rfl
theorem FnExactGroundAfter.k25 : (Tryz.pinned.checked.prog.mayEnter) = true := by kernel_rfl
theorem FnExactGroundAfter.k26 : (Rows.fnExactGroundAfterRow.lifted == Tryz.pinned.checked.prog.liftsFinal) = true := by kernel_rfl
theorem FnExactGroundAfter.k27 : (Tryz.pinned.checked.prog.make == some Rows.fnExactGroundAfterRow.make) = true := by kernel_rfl
theorem FnExactGroundAfter.k28 : (Rows.fnExactGroundAfterRow.kinds == (if Rows.fnExactGroundAfterRow.domain.isEmpty then [] else Tryz.f11.params.toList.map fun t => match Tryz.pinned.checked.prog.underlying t with | some (.int k) => some k | _ => none)) = true := by kernel_rfl
theorem FnExactGroundAfter.k29 : (Rows.fnExactGroundAfterRow.pinned == Rows.fnExactGroundAfterRow.pinnedBy) = true := by kernel_rfl
theorem FnExactGroundAfter.k30 : (Rows.fnExactGroundAfterRow.veiled == (Tryz.f11.params.toList ++ Rows.fnExactGroundAfterSpec.plain.varTypes Tryz.pinned.checked.prog ++ Tryz.f11.resultTypes.toList).any (Tryz.pinned.checked.prog.veiledRec ·)) = true := by kernel_rfl
theorem FnExactGroundAfter.k31 : (Rows.fnExactGroundAfterRow.veiledFits Tryz.pinned.checked.prog Tryz.f11.params.toList (Tryz.f11.params.toList ++ Rows.fnExactGroundAfterSpec.plain.varTypes Tryz.pinned.checked.prog ++ Tryz.f11.resultTypes.toList)) = true := by kernel_rfl
theorem FnExactGroundAfter.and2 {a b : Bool} (h1 : a = true) (h2 : b = true) : (a && b) = true := by rw [h1, h2]; rfl
theorem FnExactGroundAfter.joined {P : Program} {f : FuncId} {fn : Func} {s : ChangeSpec} {c : OpenClaim} (h0 : (c.wf (OpenSpec.ofChange s)) = true) (h1 : (laidOutB P) = true) (h2 : (mapsRowed P) = true) (h3 : (fn.params.all (P.readableRec ·)) = true) (h4 : (namedTie P c.named s.vars) = true) (h5 : (c.stops == []) = true) (h6 : (P.stops == []) = true) (h7 : (c.knobs == []) = true) (h8 : (P.stopKnobs == []) = true) (h9 : (c.inPlace == P.inPlace f) = true) (h10 : (c.unfollowed == P.unfollowed f) = true) (h11 : (c.recurses == P.recurses f) = true) (h12 : (c.named == P.varsNamed f) = true) (h13 : (c.maps == (fn.params.toList ++ s.plain.varTypes P).any (P.mapsRec ·)) = true) (h14 : (c.ifaces == (fn.params.toList ++ s.plain.varTypes P).any (P.ifacesRec ·)) = true) (h15 : (c.mapsOut == P.mapsAmong fn.resultTypes.toList) = true) (h16 : (c.loops == (fn.params.toList ++ s.plain.varTypes P).any (P.loopsFrom ·)) = true) (h17 : (c.wideKeys == (fn.params.toList ++ s.plain.varTypes P ++ fn.resultTypes.toList).any (P.wideKeysFrom ·)) = true) (h18 : (s.vars.all (P.varReadable ·)) = true) (h19 : (fn.resultTypes.all (fun t => P.readableRec t && decide (t < P.types.size))) = true) (h20 : (c.ifacesOut == fn.resultTypes.toList.any (P.ifacesRec ·)) = true) (h21 : (c.loopsOut == fn.resultTypes.toList.any (P.loopsFrom ·)) = true) (h22 : (c.plainKeys == P.plainKeys) = true) (h23 : (c.shortTexts.isNone) = true) (h24 : (P.stopsHeard) = true) (h25 : (P.mayEnter) = true) (h26 : (c.lifted == P.liftsFinal) = true) (h27 : (P.make == some c.make) = true) (h28 : (c.kinds == (if c.domain.isEmpty then [] else fn.params.toList.map fun t => match P.underlying t with | some (.int k) => some k | _ => none)) = true) (h29 : (c.pinned == c.pinnedBy) = true) (h30 : (c.veiled == (fn.params.toList ++ s.plain.varTypes P ++ fn.resultTypes.toList).any (P.veiledRec ·)) = true) (h31 : (c.veiledFits P fn.params.toList (fn.params.toList ++ s.plain.varTypes P ++ fn.resultTypes.toList)) = true) : joinedFacts P f fn s c = true := by
  unfold joinedFacts
  exact FnExactGroundAfter.and2 (FnExactGroundAfter.and2 (FnExactGroundAfter.and2 (FnExactGroundAfter.and2 (FnExactGroundAfter.and2 (FnExactGroundAfter.and2 (FnExactGroundAfter.and2 (FnExactGroundAfter.and2 (FnExactGroundAfter.and2 (FnExactGroundAfter.and2 (FnExactGroundAfter.and2 (FnExactGroundAfter.and2 (FnExactGroundAfter.and2 (FnExactGroundAfter.and2 (FnExactGroundAfter.and2 (FnExactGroundAfter.and2 (FnExactGroundAfter.and2 (FnExactGroundAfter.and2 (FnExactGroundAfter.and2 (FnExactGroundAfter.and2 (FnExactGroundAfter.and2 (FnExactGroundAfter.and2 (FnExactGroundAfter.and2 (FnExactGroundAfter.and2 (FnExactGroundAfter.and2 (FnExactGroundAfter.and2 (FnExactGroundAfter.and2 (FnExactGroundAfter.and2 (FnExactGroundAfter.and2 (FnExactGroundAfter.and2 (FnExactGroundAfter.and2 (h0) h1) h2) h3) h4) h5) h6) h7) h8) h9) h10) h11) h12) h13) h14) h15) h16) h17) h18) h19) h20) h21) h22) h23) h24) h25) h26) h27) h28) h29) h30) h31
theorem FnExactGroundAfter.closed : joinedFacts Tryz.pinned.checked.prog 11 Tryz.f11 Rows.fnExactGroundAfterSpec Rows.fnExactGroundAfterRow = true := FnExactGroundAfter.joined (P := Tryz.pinned.checked.prog) (f := 11) (fn := Tryz.f11) (s := Rows.fnExactGroundAfterSpec) (c := Rows.fnExactGroundAfterRow) FnExactGroundAfter.k0 FnExactGroundAfter.k1 FnExactGroundAfter.k2 FnExactGroundAfter.k3 FnExactGroundAfter.k4 FnExactGroundAfter.k5 FnExactGroundAfter.k6 FnExactGroundAfter.k7 FnExactGroundAfter.k8 FnExactGroundAfter.k9 FnExactGroundAfter.k10 FnExactGroundAfter.k11 FnExactGroundAfter.k12 FnExactGroundAfter.k13 FnExactGroundAfter.k14 FnExactGroundAfter.k15 FnExactGroundAfter.k16 FnExactGroundAfter.k17 FnExactGroundAfter.k18 FnExactGroundAfter.k19 FnExactGroundAfter.k20 FnExactGroundAfter.k21 FnExactGroundAfter.k22 FnExactGroundAfter.k23 FnExactGroundAfter.k24 FnExactGroundAfter.k25 FnExactGroundAfter.k26 FnExactGroundAfter.k27 FnExactGroundAfter.k28 FnExactGroundAfter.k29 FnExactGroundAfter.k30 FnExactGroundAfter.k31
theorem FnExactGroundAfter_holds : Rows.FnExactGroundAfterSaid :=
  OpenClaim.holds_of_wide 11 Tryz.f11 rfl rfl rfl rfl rfl rfl rfl ⟨rfl, rfl, rfl, rfl, rfl⟩ rfl rfl rfl rfl rfl (by kernel_rfl) Tryz.func11 FnExactGroundAfter.closed
    (of_decide_eq_true (by kernel_rfl)) (by unfold Func.isWrapper; first | (rw [if_pos (by decide +kernel)]; kernel_rfl) | (rw [if_neg (by decide +kernel)]; exact ⟨rfl, rfl⟩))
    (fun os started H enc _ => FnExactGroundAfter.lifted os started H enc)
#print axioms FnExactGroundAfter_holds
end Go.Proofs.YtcpooehlndhcbaaGreat
