/- 'laws.FnExactIsStable' returns true for every input, and each argument reads behind the call as it read before: no condition. -/
import Derived.Test.YtheneidclfohoaaGreatRows
import Derived.Test.YtheneidclfohoaaGreatE1
namespace Go.Proofs.YtheneidclfohoaaGreat
open Go.ChangeShapes Go.WideShapes Go.ChangeAt Go.RowKit Go.Vx
theorem FnExactIsStable.own : ownKnob Tryz.prog.godebug = none := by kernel_rfl
theorem FnExactIsStable.laidOut : laidOutB Tryz.prog = true := by kernel_rfl
set_option maxRecDepth 100000 in
theorem FnExactIsStable.lifted (os : Os) (started : os.Started) (H : Type) (enc : TypeId × Value → H) :
  ReturnsInHanded {} Tryz.checked os 5 .any (Rows.fnExactIsStableSpec.pre6 enc Tryz.prog Tryz.f5 Rows.fnExactIsStableRow.domain false) (Rows.fnExactIsStableSpec.post enc Tryz.prog Tryz.f5 false true false false) := by
 refine returnsInHanded_of_change (C := Tryz.checked) FnExactIsStable.own started (by kernel_rfl) Tryz.func5
  (ChangeSpec.witness6 (enc := enc) (C := Tryz.checked) false ⟨#[], #[.agg #[.slice none 0 0], .slice none 0 0, .slice none 0 0], []⟩ 8 (by kernel_rfl) (by kernel_rfl) (by kernel_rfl) (by kernel_rfl)) ?_
 intro W base args ds gs before hval0 hW hcnd _
 have hval : ∀ (j : Nat) t v, Tryz.f5.params[j]? = some t → args[j]? = some v → Value.okWide Tryz.prog W .any base t v := hval0
 have hW' := hW
 obtain ⟨p, q, hA0, hV, rfl, hfz, hnd⟩ := hW
 have hA : DataW.TrodAll enc Tryz.prog W 0 (fun _ => true) true Tryz.f5.params.toList args.toList ds p := hA0
 rw [Tryz.params5] at hA hval
 obtain ⟨v0, v1, v2, d0, d1, d2, p0, p1, p2, rfl, rfl, hp0, h0, h1, h2⟩ := trodAll_three hA
 obtain ⟨e0, ⟨g0, rfl, w0⟩, cs0, rfl, hr0⟩ := read_struct Tryz.underlying24 read_Program (hval 0 _ _ rfl rfl) h0
 obtain ⟨e1, ⟨l1, rfl, w1⟩, hr1⟩ := read_cell (fun cs => okWide_slice Tryz.underlying25 cs) read_TermS (hval 1 _ _ rfl rfl) h1
 obtain ⟨e2, ⟨l2, rfl, w2⟩, hr2⟩ := read_cell (fun cs => okWide_slice Tryz.underlying47 cs) read_FactS (hval 2 _ _ rfl rfl) h2
 refine law_calls FnExactIsStable.laidOut (fn := Tryz.f5) (tb := 4) ?_ (by kernel_rfl) und_bool rfl rfl hW' ⟨Tryz.f5, Tryz.func5, by kernel_rfl, by kernel_rfl⟩ ?_
 ·intro t ht
  have : Tryz.f5.params.toList = [24, 25, 47] := by rw [Tryz.params5]
  rw [this] at ht
  simp only [List.mem_cons, List.not_mem_nil, or_false] at ht
  rcases ht with rfl | rfl | rfl
  ·exact ⟨by kernel_rfl, of_decide_eq_true (by kernel_rfl)⟩
  ·exact ⟨by kernel_rfl, of_decide_eq_true (by kernel_rfl)⟩
  ·exact ⟨by kernel_rfl, of_decide_eq_true (by kernel_rfl)⟩
 ·exact FnExactIsStable_spec (Pg.rep hr0) hr1 hr2 w0 w1 w2
theorem FnExactIsStable.k0 : (Rows.fnExactIsStableRow.wf (OpenSpec.ofChange Rows.fnExactIsStableSpec)) = true := by kernel_rfl
theorem FnExactIsStable.k1 : (laidOutB Tryz.pinned.checked.prog) = true := by kernel_rfl
theorem FnExactIsStable.k2 : (mapsRowed Tryz.pinned.checked.prog) = true := by kernel_rfl
theorem FnExactIsStable.k3 : (Tryz.f5.params.all (Tryz.pinned.checked.prog.readableRec ·)) = true := by kernel_rfl
theorem FnExactIsStable.k4 : (namedTie Tryz.pinned.checked.prog Rows.fnExactIsStableRow.named Rows.fnExactIsStableSpec.vars) = true := by kernel_rfl
theorem FnExactIsStable.k5 : (Rows.fnExactIsStableRow.stops == []) = true := by kernel_rfl
theorem FnExactIsStable.k6 : (Tryz.pinned.checked.prog.stops == []) = true := by kernel_rfl
theorem FnExactIsStable.k7 : (Rows.fnExactIsStableRow.knobs == []) = true := by kernel_rfl
theorem FnExactIsStable.k8 : (Tryz.pinned.checked.prog.stopKnobs == []) = true := by kernel_rfl
theorem FnExactIsStable.k9 : (Rows.fnExactIsStableRow.inPlace == Tryz.pinned.checked.prog.inPlace 5) = true := by kernel_rfl
theorem FnExactIsStable.k10 : (Rows.fnExactIsStableRow.unfollowed == Tryz.pinned.checked.prog.unfollowed 5) = true := by kernel_rfl
theorem FnExactIsStable.k11 : (Rows.fnExactIsStableRow.recurses == Tryz.pinned.checked.prog.recurses 5) = true := by kernel_rfl
theorem FnExactIsStable.k12 : (Rows.fnExactIsStableRow.named == Tryz.pinned.checked.prog.varsNamed 5) = true := by kernel_rfl
theorem FnExactIsStable.k13 : (Rows.fnExactIsStableRow.maps == (Tryz.f5.params.toList ++ Rows.fnExactIsStableSpec.plain.varTypes Tryz.pinned.checked.prog).any (Tryz.pinned.checked.prog.mapsRec ·)) = true := by kernel_rfl
theorem FnExactIsStable.k14 : (Rows.fnExactIsStableRow.ifaces == (Tryz.f5.params.toList ++ Rows.fnExactIsStableSpec.plain.varTypes Tryz.pinned.checked.prog).any (Tryz.pinned.checked.prog.ifacesRec ·)) = true := by kernel_rfl
theorem FnExactIsStable.k15 : (Rows.fnExactIsStableRow.mapsOut == Tryz.pinned.checked.prog.mapsAmong Tryz.f5.resultTypes.toList) = true := by kernel_rfl
theorem FnExactIsStable.k16 : (Rows.fnExactIsStableRow.loops == (Tryz.f5.params.toList ++ Rows.fnExactIsStableSpec.plain.varTypes Tryz.pinned.checked.prog).any (Tryz.pinned.checked.prog.loopsFrom ·)) = true := by kernel_rfl
theorem FnExactIsStable.k17 : (Rows.fnExactIsStableRow.wideKeys == (Tryz.f5.params.toList ++ Rows.fnExactIsStableSpec.plain.varTypes Tryz.pinned.checked.prog ++ Tryz.f5.resultTypes.toList).any (Tryz.pinned.checked.prog.wideKeysFrom ·)) = true := by kernel_rfl
theorem FnExactIsStable.k18 : (Rows.fnExactIsStableSpec.vars.all (Tryz.pinned.checked.prog.varReadable ·)) = true := by kernel_rfl
theorem FnExactIsStable.k19 : (Tryz.f5.resultTypes.all (fun t => Tryz.pinned.checked.prog.readableRec t && decide (t < Tryz.pinned.checked.prog.types.size))) = true := by kernel_rfl
theorem FnExactIsStable.k20 : (Rows.fnExactIsStableRow.ifacesOut == Tryz.f5.resultTypes.toList.any (Tryz.pinned.checked.prog.ifacesRec ·)) = true := by kernel_rfl
theorem FnExactIsStable.k21 : (Rows.fnExactIsStableRow.loopsOut == Tryz.f5.resultTypes.toList.any (Tryz.pinned.checked.prog.loopsFrom ·)) = true := by kernel_rfl
theorem FnExactIsStable.k22 : (Rows.fnExactIsStableRow.plainKeys == Tryz.pinned.checked.prog.plainKeys) = true := by kernel_rfl
theorem FnExactIsStable.k23 : (Rows.fnExactIsStableRow.shortTexts.isNone) = true := by kernel_rfl
theorem FnExactIsStable.k24 : (Tryz.pinned.checked.prog.stopsHeard) = true := by kernel_rfl
theorem FnExactIsStable.k25 : (Tryz.pinned.checked.prog.mayEnter) = true := by kernel_rfl
theorem FnExactIsStable.k26 : (Rows.fnExactIsStableRow.lifted == Tryz.pinned.checked.prog.liftsFinal) = true := by kernel_rfl
theorem FnExactIsStable.k27 : (Tryz.pinned.checked.prog.make == some Rows.fnExactIsStableRow.make) = true := by kernel_rfl
theorem FnExactIsStable.k28 : (Rows.fnExactIsStableRow.kinds == (if Rows.fnExactIsStableRow.domain.isEmpty then [] else Tryz.f5.params.toList.map fun t => match Tryz.pinned.checked.prog.underlying t with | some (.int k) => some k | _ => none)) = true := by kernel_rfl
theorem FnExactIsStable.k29 : (Rows.fnExactIsStableRow.pinned == Rows.fnExactIsStableRow.pinnedBy) = true := by kernel_rfl
theorem FnExactIsStable.k30 : (Rows.fnExactIsStableRow.veiled == (Tryz.f5.params.toList ++ Rows.fnExactIsStableSpec.plain.varTypes Tryz.pinned.checked.prog ++ Tryz.f5.resultTypes.toList).any (Tryz.pinned.checked.prog.veiledRec ·)) = true := by kernel_rfl
theorem FnExactIsStable.k31 : (Rows.fnExactIsStableRow.veiledFits Tryz.pinned.checked.prog Tryz.f5.params.toList (Tryz.f5.params.toList ++ Rows.fnExactIsStableSpec.plain.varTypes Tryz.pinned.checked.prog ++ Tryz.f5.resultTypes.toList)) = true := by kernel_rfl
theorem FnExactIsStable.and2 {a b : Bool} (h1 : a = true) (h2 : b = true) : (a && b) = true := by rw [h1, h2]; rfl
theorem FnExactIsStable.joined {P : Program} {f : FuncId} {fn : Func} {s : ChangeSpec} {c : OpenClaim} (h0 : (c.wf (OpenSpec.ofChange s)) = true) (h1 : (laidOutB P) = true) (h2 : (mapsRowed P) = true) (h3 : (fn.params.all (P.readableRec ·)) = true) (h4 : (namedTie P c.named s.vars) = true) (h5 : (c.stops == []) = true) (h6 : (P.stops == []) = true) (h7 : (c.knobs == []) = true) (h8 : (P.stopKnobs == []) = true) (h9 : (c.inPlace == P.inPlace f) = true) (h10 : (c.unfollowed == P.unfollowed f) = true) (h11 : (c.recurses == P.recurses f) = true) (h12 : (c.named == P.varsNamed f) = true) (h13 : (c.maps == (fn.params.toList ++ s.plain.varTypes P).any (P.mapsRec ·)) = true) (h14 : (c.ifaces == (fn.params.toList ++ s.plain.varTypes P).any (P.ifacesRec ·)) = true) (h15 : (c.mapsOut == P.mapsAmong fn.resultTypes.toList) = true) (h16 : (c.loops == (fn.params.toList ++ s.plain.varTypes P).any (P.loopsFrom ·)) = true) (h17 : (c.wideKeys == (fn.params.toList ++ s.plain.varTypes P ++ fn.resultTypes.toList).any (P.wideKeysFrom ·)) = true) (h18 : (s.vars.all (P.varReadable ·)) = true) (h19 : (fn.resultTypes.all (fun t => P.readableRec t && decide (t < P.types.size))) = true) (h20 : (c.ifacesOut == fn.resultTypes.toList.any (P.ifacesRec ·)) = true) (h21 : (c.loopsOut == fn.resultTypes.toList.any (P.loopsFrom ·)) = true) (h22 : (c.plainKeys == P.plainKeys) = true) (h23 : (c.shortTexts.isNone) = true) (h24 : (P.stopsHeard) = true) (h25 : (P.mayEnter) = true) (h26 : (c.lifted == P.liftsFinal) = true) (h27 : (P.make == some c.make) = true) (h28 : (c.kinds == (if c.domain.isEmpty then [] else fn.params.toList.map fun t => match P.underlying t with | some (.int k) => some k | _ => none)) = true) (h29 : (c.pinned == c.pinnedBy) = true) (h30 : (c.veiled == (fn.params.toList ++ s.plain.varTypes P ++ fn.resultTypes.toList).any (P.veiledRec ·)) = true) (h31 : (c.veiledFits P fn.params.toList (fn.params.toList ++ s.plain.varTypes P ++ fn.resultTypes.toList)) = true) : joinedFacts P f fn s c = true := by
 unfold joinedFacts
 exact FnExactIsStable.and2 (FnExactIsStable.and2 (FnExactIsStable.and2 (FnExactIsStable.and2 (FnExactIsStable.and2 (FnExactIsStable.and2 (FnExactIsStable.and2 (FnExactIsStable.and2 (FnExactIsStable.and2 (FnExactIsStable.and2 (FnExactIsStable.and2 (FnExactIsStable.and2 (FnExactIsStable.and2 (FnExactIsStable.and2 (FnExactIsStable.and2 (FnExactIsStable.and2 (FnExactIsStable.and2 (FnExactIsStable.and2 (FnExactIsStable.and2 (FnExactIsStable.and2 (FnExactIsStable.and2 (FnExactIsStable.and2 (FnExactIsStable.and2 (FnExactIsStable.and2 (FnExactIsStable.and2 (FnExactIsStable.and2 (FnExactIsStable.and2 (FnExactIsStable.and2 (FnExactIsStable.and2 (FnExactIsStable.and2 (FnExactIsStable.and2 (h0) h1) h2) h3) h4) h5) h6) h7) h8) h9) h10) h11) h12) h13) h14) h15) h16) h17) h18) h19) h20) h21) h22) h23) h24) h25) h26) h27) h28) h29) h30) h31
theorem FnExactIsStable.closed : joinedFacts Tryz.pinned.checked.prog 5 Tryz.f5 Rows.fnExactIsStableSpec Rows.fnExactIsStableRow = true := FnExactIsStable.joined (P := Tryz.pinned.checked.prog) (f := 5) (fn := Tryz.f5) (s := Rows.fnExactIsStableSpec) (c := Rows.fnExactIsStableRow) FnExactIsStable.k0 FnExactIsStable.k1 FnExactIsStable.k2 FnExactIsStable.k3 FnExactIsStable.k4 FnExactIsStable.k5 FnExactIsStable.k6 FnExactIsStable.k7 FnExactIsStable.k8 FnExactIsStable.k9 FnExactIsStable.k10 FnExactIsStable.k11 FnExactIsStable.k12 FnExactIsStable.k13 FnExactIsStable.k14 FnExactIsStable.k15 FnExactIsStable.k16 FnExactIsStable.k17 FnExactIsStable.k18 FnExactIsStable.k19 FnExactIsStable.k20 FnExactIsStable.k21 FnExactIsStable.k22 FnExactIsStable.k23 FnExactIsStable.k24 FnExactIsStable.k25 FnExactIsStable.k26 FnExactIsStable.k27 FnExactIsStable.k28 FnExactIsStable.k29 FnExactIsStable.k30 FnExactIsStable.k31
theorem FnExactIsStable_holds : Rows.FnExactIsStableSaid :=
 OpenClaim.holds_of_wide 5 Tryz.f5 rfl rfl rfl rfl rfl rfl rfl ⟨rfl, rfl, rfl, rfl, rfl⟩ rfl rfl rfl rfl rfl (by kernel_rfl) Tryz.func5 FnExactIsStable.closed
  (of_decide_eq_true (by kernel_rfl)) (by unfold Func.isWrapper; first | (rw [if_pos (by decide +kernel)]; kernel_rfl) | (rw [if_neg (by decide +kernel)]; exact ⟨rfl, rfl⟩))
  (fun os started H enc _ => FnExactIsStable.lifted os started H enc)
#print axioms FnExactIsStable_holds
end Go.Proofs.YtheneidclfohoaaGreat
