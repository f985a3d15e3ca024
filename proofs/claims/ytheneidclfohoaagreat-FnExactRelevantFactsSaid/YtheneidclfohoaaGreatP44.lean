/- 'laws.FnExactRelevantFacts' returns true for every input, and each argument reads behind the call as it read before: no condition. -/
import Derived.Test.YtheneidclfohoaaGreatRows
import Derived.Test.YtheneidclfohoaaGreatE1
namespace Go.Proofs.YtheneidclfohoaaGreat
open Go.ChangeShapes Go.WideShapes Go.ChangeAt Go.RowKit Go.Vx
theorem FnExactRelevantFacts.own : ownKnob Tryz.prog.godebug = none := by kernel_rfl
theorem FnExactRelevantFacts.laidOut : laidOutB Tryz.prog = true := by kernel_rfl
set_option maxRecDepth 100000 in
theorem FnExactRelevantFacts.lifted (os : Os) (started : os.Started) (H : Type) (enc : TypeId × Value → H) :
  ReturnsInHanded {} Tryz.checked os 7 .any (Rows.fnExactRelevantFactsSpec.pre6 enc Tryz.prog Tryz.f7 Rows.fnExactRelevantFactsRow.domain false) (Rows.fnExactRelevantFactsSpec.post enc Tryz.prog Tryz.f7 false true false false) := by
 refine returnsInHanded_of_change (C := Tryz.checked) FnExactRelevantFacts.own started (by kernel_rfl) Tryz.func7
  (ChangeSpec.witness6 (enc := enc) (C := Tryz.checked) false ⟨#[], #[.agg #[.slice none 0 0], .slice none 0 0, .agg #[.string ⟨#[]⟩, .slice none 0 0]], []⟩ 8 (by kernel_rfl) (by kernel_rfl) (by kernel_rfl) (by kernel_rfl)) ?_
 intro W base args ds gs before hval0 hW hcnd _
 have hval : ∀ (j : Nat) t v, Tryz.f7.params[j]? = some t → args[j]? = some v → Value.okWide Tryz.prog W .any base t v := hval0
 have hW' := hW
 obtain ⟨p, q, hA0, hV, rfl, hfz, hnd⟩ := hW
 have hA : DataW.TrodAll enc Tryz.prog W 0 (fun _ => true) true Tryz.f7.params.toList args.toList ds p := hA0
 rw [Tryz.params7] at hA hval
 obtain ⟨v0, v1, v2, d0, d1, d2, p0, p1, p2, rfl, rfl, hp0, h0, h1, h2⟩ := trodAll_three hA
 obtain ⟨e0, ⟨g0, rfl, w0⟩, cs0, rfl, hr0⟩ := read_struct Tryz.underlying24 read_Program (hval 0 _ _ rfl rfl) h0
 obtain ⟨e1, ⟨l1, rfl, w1⟩, hr1⟩ := read_cell (fun cs => okWide_slice Tryz.underlying25 cs) read_TermS (hval 1 _ _ rfl rfl) h1
 obtain ⟨e2, ⟨f2, rfl, w2⟩, cs2, rfl, hr2⟩ := read_struct Tryz.underlying63 read_Fact (hval 2 _ _ rfl rfl) h2
 refine law_calls FnExactRelevantFacts.laidOut (fn := Tryz.f7) (tb := 4) ?_ (by kernel_rfl) und_bool rfl rfl hW' ⟨Tryz.f7, Tryz.func7, by kernel_rfl, by kernel_rfl⟩ ?_
 ·intro t ht
  have : Tryz.f7.params.toList = [24, 25, 63] := by rw [Tryz.params7]
  rw [this] at ht
  simp only [List.mem_cons, List.not_mem_nil, or_false] at ht
  rcases ht with rfl | rfl | rfl
  ·exact ⟨by kernel_rfl, of_decide_eq_true (by kernel_rfl)⟩
  ·exact ⟨by kernel_rfl, of_decide_eq_true (by kernel_rfl)⟩
  ·exact ⟨by kernel_rfl, of_decide_eq_true (by kernel_rfl)⟩
 ·exact FnExactRelevantFacts_spec (Pg.rep hr0) hr1 (Fc.rep hr2) w0 w1 w2
theorem FnExactRelevantFacts.k0 : (Rows.fnExactRelevantFactsRow.wf (OpenSpec.ofChange Rows.fnExactRelevantFactsSpec)) = true := by kernel_rfl
theorem FnExactRelevantFacts.k1 : (laidOutB Tryz.pinned.checked.prog) = true := by kernel_rfl
theorem FnExactRelevantFacts.k2 : (mapsRowed Tryz.pinned.checked.prog) = true := by kernel_rfl
theorem FnExactRelevantFacts.k3 : (Tryz.f7.params.all (Tryz.pinned.checked.prog.readableRec ·)) = true := by kernel_rfl
theorem FnExactRelevantFacts.k4 : (namedTie Tryz.pinned.checked.prog Rows.fnExactRelevantFactsRow.named Rows.fnExactRelevantFactsSpec.vars) = true := by kernel_rfl
theorem FnExactRelevantFacts.k5 : (Rows.fnExactRelevantFactsRow.stops == []) = true := by kernel_rfl
theorem FnExactRelevantFacts.k6 : (Tryz.pinned.checked.prog.stops == []) = true := by kernel_rfl
theorem FnExactRelevantFacts.k7 : (Rows.fnExactRelevantFactsRow.knobs == []) = true := by kernel_rfl
theorem FnExactRelevantFacts.k8 : (Tryz.pinned.checked.prog.stopKnobs == []) = true := by kernel_rfl
theorem FnExactRelevantFacts.k9 : (Rows.fnExactRelevantFactsRow.inPlace == Tryz.pinned.checked.prog.inPlace 7) = true := by kernel_rfl
theorem FnExactRelevantFacts.k10 : (Rows.fnExactRelevantFactsRow.unfollowed == Tryz.pinned.checked.prog.unfollowed 7) = true := by kernel_rfl
theorem FnExactRelevantFacts.k11 : (Rows.fnExactRelevantFactsRow.recurses == Tryz.pinned.checked.prog.recurses 7) = true := by kernel_rfl
theorem FnExactRelevantFacts.k12 : (Rows.fnExactRelevantFactsRow.named == Tryz.pinned.checked.prog.varsNamed 7) = true := by kernel_rfl
theorem FnExactRelevantFacts.k13 : (Rows.fnExactRelevantFactsRow.maps == (Tryz.f7.params.toList ++ Rows.fnExactRelevantFactsSpec.plain.varTypes Tryz.pinned.checked.prog).any (Tryz.pinned.checked.prog.mapsRec ·)) = true := by kernel_rfl
theorem FnExactRelevantFacts.k14 : (Rows.fnExactRelevantFactsRow.ifaces == (Tryz.f7.params.toList ++ Rows.fnExactRelevantFactsSpec.plain.varTypes Tryz.pinned.checked.prog).any (Tryz.pinned.checked.prog.ifacesRec ·)) = true := by kernel_rfl
theorem FnExactRelevantFacts.k15 : (Rows.fnExactRelevantFactsRow.mapsOut == Tryz.pinned.checked.prog.mapsAmong Tryz.f7.resultTypes.toList) = true := by kernel_rfl
theorem FnExactRelevantFacts.k16 : (Rows.fnExactRelevantFactsRow.loops == (Tryz.f7.params.toList ++ Rows.fnExactRelevantFactsSpec.plain.varTypes Tryz.pinned.checked.prog).any (Tryz.pinned.checked.prog.loopsFrom ·)) = true := by kernel_rfl
theorem FnExactRelevantFacts.k17 : (Rows.fnExactRelevantFactsRow.wideKeys == (Tryz.f7.params.toList ++ Rows.fnExactRelevantFactsSpec.plain.varTypes Tryz.pinned.checked.prog ++ Tryz.f7.resultTypes.toList).any (Tryz.pinned.checked.prog.wideKeysFrom ·)) = true := by kernel_rfl
theorem FnExactRelevantFacts.k18 : (Rows.fnExactRelevantFactsSpec.vars.all (Tryz.pinned.checked.prog.varReadable ·)) = true := by kernel_rfl
theorem FnExactRelevantFacts.k19 : (Tryz.f7.resultTypes.all (fun t => Tryz.pinned.checked.prog.readableRec t && decide (t < Tryz.pinned.checked.prog.types.size))) = true := by kernel_rfl
theorem FnExactRelevantFacts.k20 : (Rows.fnExactRelevantFactsRow.ifacesOut == Tryz.f7.resultTypes.toList.any (Tryz.pinned.checked.prog.ifacesRec ·)) = true := by kernel_rfl
theorem FnExactRelevantFacts.k21 : (Rows.fnExactRelevantFactsRow.loopsOut == Tryz.f7.resultTypes.toList.any (Tryz.pinned.checked.prog.loopsFrom ·)) = true := by kernel_rfl
theorem FnExactRelevantFacts.k22 : (Rows.fnExactRelevantFactsRow.plainKeys == Tryz.pinned.checked.prog.plainKeys) = true := by kernel_rfl
theorem FnExactRelevantFacts.k23 : (Rows.fnExactRelevantFactsRow.shortTexts.isNone) = true := by kernel_rfl
theorem FnExactRelevantFacts.k24 : (Tryz.pinned.checked.prog.stopsHeard) = true := by kernel_rfl
theorem FnExactRelevantFacts.k25 : (Tryz.pinned.checked.prog.mayEnter) = true := by kernel_rfl
theorem FnExactRelevantFacts.k26 : (Rows.fnExactRelevantFactsRow.lifted == Tryz.pinned.checked.prog.liftsFinal) = true := by kernel_rfl
theorem FnExactRelevantFacts.k27 : (Tryz.pinned.checked.prog.make == some Rows.fnExactRelevantFactsRow.make) = true := by kernel_rfl
theorem FnExactRelevantFacts.k28 : (Rows.fnExactRelevantFactsRow.kinds == (if Rows.fnExactRelevantFactsRow.domain.isEmpty then [] else Tryz.f7.params.toList.map fun t => match Tryz.pinned.checked.prog.underlying t with | some (.int k) => some k | _ => none)) = true := by kernel_rfl
theorem FnExactRelevantFacts.k29 : (Rows.fnExactRelevantFactsRow.pinned == Rows.fnExactRelevantFactsRow.pinnedBy) = true := by kernel_rfl
theorem FnExactRelevantFacts.k30 : (Rows.fnExactRelevantFactsRow.veiled == (Tryz.f7.params.toList ++ Rows.fnExactRelevantFactsSpec.plain.varTypes Tryz.pinned.checked.prog ++ Tryz.f7.resultTypes.toList).any (Tryz.pinned.checked.prog.veiledRec ·)) = true := by kernel_rfl
theorem FnExactRelevantFacts.k31 : (Rows.fnExactRelevantFactsRow.veiledFits Tryz.pinned.checked.prog Tryz.f7.params.toList (Tryz.f7.params.toList ++ Rows.fnExactRelevantFactsSpec.plain.varTypes Tryz.pinned.checked.prog ++ Tryz.f7.resultTypes.toList)) = true := by kernel_rfl
theorem FnExactRelevantFacts.and2 {a b : Bool} (h1 : a = true) (h2 : b = true) : (a && b) = true := by rw [h1, h2]; rfl
theorem FnExactRelevantFacts.joined {P : Program} {f : FuncId} {fn : Func} {s : ChangeSpec} {c : OpenClaim} (h0 : (c.wf (OpenSpec.ofChange s)) = true) (h1 : (laidOutB P) = true) (h2 : (mapsRowed P) = true) (h3 : (fn.params.all (P.readableRec ·)) = true) (h4 : (namedTie P c.named s.vars) = true) (h5 : (c.stops == []) = true) (h6 : (P.stops == []) = true) (h7 : (c.knobs == []) = true) (h8 : (P.stopKnobs == []) = true) (h9 : (c.inPlace == P.inPlace f) = true) (h10 : (c.unfollowed == P.unfollowed f) = true) (h11 : (c.recurses == P.recurses f) = true) (h12 : (c.named == P.varsNamed f) = true) (h13 : (c.maps == (fn.params.toList ++ s.plain.varTypes P).any (P.mapsRec ·)) = true) (h14 : (c.ifaces == (fn.params.toList ++ s.plain.varTypes P).any (P.ifacesRec ·)) = true) (h15 : (c.mapsOut == P.mapsAmong fn.resultTypes.toList) = true) (h16 : (c.loops == (fn.params.toList ++ s.plain.varTypes P).any (P.loopsFrom ·)) = true) (h17 : (c.wideKeys == (fn.params.toList ++ s.plain.varTypes P ++ fn.resultTypes.toList).any (P.wideKeysFrom ·)) = true) (h18 : (s.vars.all (P.varReadable ·)) = true) (h19 : (fn.resultTypes.all (fun t => P.readableRec t && decide (t < P.types.size))) = true) (h20 : (c.ifacesOut == fn.resultTypes.toList.any (P.ifacesRec ·)) = true) (h21 : (c.loopsOut == fn.resultTypes.toList.any (P.loopsFrom ·)) = true) (h22 : (c.plainKeys == P.plainKeys) = true) (h23 : (c.shortTexts.isNone) = true) (h24 : (P.stopsHeard) = true) (h25 : (P.mayEnter) = true) (h26 : (c.lifted == P.liftsFinal) = true) (h27 : (P.make == some c.make) = true) (h28 : (c.kinds == (if c.domain.isEmpty then [] else fn.params.toList.map fun t => match P.underlying t with | some (.int k) => some k | _ => none)) = true) (h29 : (c.pinned == c.pinnedBy) = true) (h30 : (c.veiled == (fn.params.toList ++ s.plain.varTypes P ++ fn.resultTypes.toList).any (P.veiledRec ·)) = true) (h31 : (c.veiledFits P fn.params.toList (fn.params.toList ++ s.plain.varTypes P ++ fn.resultTypes.toList)) = true) : joinedFacts P f fn s c = true := by
 unfold joinedFacts
 exact FnExactRelevantFacts.and2 (FnExactRelevantFacts.and2 (FnExactRelevantFacts.and2 (FnExactRelevantFacts.and2 (FnExactRelevantFacts.and2 (FnExactRelevantFacts.and2 (FnExactRelevantFacts.and2 (FnExactRelevantFacts.and2 (FnExactRelevantFacts.and2 (FnExactRelevantFacts.and2 (FnExactRelevantFacts.and2 (FnExactRelevantFacts.and2 (FnExactRelevantFacts.and2 (FnExactRelevantFacts.and2 (FnExactRelevantFacts.and2 (FnExactRelevantFacts.and2 (FnExactRelevantFacts.and2 (FnExactRelevantFacts.and2 (FnExactRelevantFacts.and2 (FnExactRelevantFacts.and2 (FnExactRelevantFacts.and2 (FnExactRelevantFacts.and2 (FnExactRelevantFacts.and2 (FnExactRelevantFacts.and2 (FnExactRelevantFacts.and2 (FnExactRelevantFacts.and2 (FnExactRelevantFacts.and2 (FnExactRelevantFacts.and2 (FnExactRelevantFacts.and2 (FnExactRelevantFacts.and2 (FnExactRelevantFacts.and2 (h0) h1) h2) h3) h4) h5) h6) h7) h8) h9) h10) h11) h12) h13) h14) h15) h16) h17) h18) h19) h20) h21) h22) h23) h24) h25) h26) h27) h28) h29) h30) h31
theorem FnExactRelevantFacts.closed : joinedFacts Tryz.pinned.checked.prog 7 Tryz.f7 Rows.fnExactRelevantFactsSpec Rows.fnExactRelevantFactsRow = true := FnExactRelevantFacts.joined (P := Tryz.pinned.checked.prog) (f := 7) (fn := Tryz.f7) (s := Rows.fnExactRelevantFactsSpec) (c := Rows.fnExactRelevantFactsRow) FnExactRelevantFacts.k0 FnExactRelevantFacts.k1 FnExactRelevantFacts.k2 FnExactRelevantFacts.k3 FnExactRelevantFacts.k4 FnExactRelevantFacts.k5 FnExactRelevantFacts.k6 FnExactRelevantFacts.k7 FnExactRelevantFacts.k8 FnExactRelevantFacts.k9 FnExactRelevantFacts.k10 FnExactRelevantFacts.k11 FnExactRelevantFacts.k12 FnExactRelevantFacts.k13 FnExactRelevantFacts.k14 FnExactRelevantFacts.k15 FnExactRelevantFacts.k16 FnExactRelevantFacts.k17 FnExactRelevantFacts.k18 FnExactRelevantFacts.k19 FnExactRelevantFacts.k20 FnExactRelevantFacts.k21 FnExactRelevantFacts.k22 FnExactRelevantFacts.k23 FnExactRelevantFacts.k24 FnExactRelevantFacts.k25 FnExactRelevantFacts.k26 FnExactRelevantFacts.k27 FnExactRelevantFacts.k28 FnExactRelevantFacts.k29 FnExactRelevantFacts.k30 FnExactRelevantFacts.k31
theorem FnExactRelevantFacts_holds : Rows.FnExactRelevantFactsSaid :=
 OpenClaim.holds_of_wide 7 Tryz.f7 rfl rfl rfl rfl rfl rfl rfl ⟨rfl, rfl, rfl, rfl, rfl⟩ rfl rfl rfl rfl rfl (by kernel_rfl) Tryz.func7 FnExactRelevantFacts.closed
  (of_decide_eq_true (by kernel_rfl)) (by unfold Func.isWrapper; first | (rw [if_pos (by decide +kernel)]; kernel_rfl) | (rw [if_neg (by decide +kernel)]; exact ⟨rfl, rfl⟩))
  (fun os started H enc _ => FnExactRelevantFacts.lifted os started H enc)
#print axioms FnExactRelevantFacts_holds
end Go.Proofs.YtheneidclfohoaaGreat
