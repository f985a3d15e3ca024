/- 'laws.FnExactOverdeleted' returns true for every input, and each argument reads behind the call as it read before: no condition. -/
import Derived.Test.YtheneidclfohoaaGreatRows
import Derived.Test.YtheneidclfohoaaGreatE1
namespace Go.Proofs.YtheneidclfohoaaGreat
open Go.ChangeShapes Go.WideShapes Go.ChangeAt Go.RowKit Go.Vx
theorem FnExactOverdeleted.own : ownKnob Tryz.prog.godebug = none := by kernel_rfl
theorem FnExactOverdeleted.laidOut : laidOutB Tryz.prog = true := by kernel_rfl
set_option maxRecDepth 100000 in
theorem FnExactOverdeleted.lifted (os : Os) (started : os.Started) (H : Type) (enc : TypeId × Value → H) :
  ReturnsInHanded {} Tryz.checked os 11 .any (Rows.fnExactOverdeletedSpec.pre6 enc Tryz.prog Tryz.f11 Rows.fnExactOverdeletedRow.domain false) (Rows.fnExactOverdeletedSpec.post enc Tryz.prog Tryz.f11 false true false false) := by
 refine returnsInHanded_of_change (C := Tryz.checked) FnExactOverdeleted.own started (by kernel_rfl) Tryz.func11
  (ChangeSpec.witness6 (enc := enc) (C := Tryz.checked) false ⟨#[], #[.agg #[.slice none 0 0], .slice none 0 0, .slice none 0 0, .agg #[.string ⟨#[]⟩, .slice none 0 0]], []⟩ 8 (by kernel_rfl) (by kernel_rfl) (by kernel_rfl) (by kernel_rfl)) ?_
 intro W base args ds gs before hval0 hW hcnd _
 have hval : ∀ (j : Nat) t v, Tryz.f11.params[j]? = some t → args[j]? = some v → Value.okWide Tryz.prog W .any base t v := hval0
 have hW' := hW
 obtain ⟨p, q, hA0, hV, rfl, hfz, hnd⟩ := hW
 have hA : DataW.TrodAll enc Tryz.prog W 0 (fun _ => true) true Tryz.f11.params.toList args.toList ds p := hA0
 rw [Tryz.params11] at hA hval
 obtain ⟨v0, v1, v2, v3, d0, d1, d2, d3, p0, p1, p2, p3, rfl, rfl, hp0, h0, h1, h2, h3⟩ := trodAll_four hA
 obtain ⟨e0, ⟨g0, rfl, w0⟩, cs0, rfl, hr0⟩ := read_struct Tryz.underlying24 read_Program (hval 0 _ _ rfl rfl) h0
 obtain ⟨e1, ⟨l1, rfl, w1⟩, hr1⟩ := read_cell (fun cs => okWide_slice Tryz.underlying25 cs) read_TermS (hval 1 _ _ rfl rfl) h1
 obtain ⟨e2, ⟨l2, rfl, w2⟩, hr2⟩ := read_cell (fun cs => okWide_slice Tryz.underlying47 cs) read_FactS (hval 2 _ _ rfl rfl) h2
 obtain ⟨e3, ⟨f3, rfl, w3⟩, cs3, rfl, hr3⟩ := read_struct Tryz.underlying63 read_Fact (hval 3 _ _ rfl rfl) h3
 refine law_calls FnExactOverdeleted.laidOut (fn := Tryz.f11) (tb := 4) ?_ (by kernel_rfl) und_bool rfl rfl hW' ⟨Tryz.f11, Tryz.func11, by kernel_rfl, by kernel_rfl⟩ ?_
 ·intro t ht
  have : Tryz.f11.params.toList = [24, 25, 47, 63] := by rw [Tryz.params11]
  rw [this] at ht
  simp only [List.mem_cons, List.not_mem_nil, or_false] at ht
  rcases ht with rfl | rfl | rfl | rfl
  ·exact ⟨by kernel_rfl, of_decide_eq_true (by kernel_rfl)⟩
  ·exact ⟨by kernel_rfl, of_decide_eq_true (by kernel_rfl)⟩
  ·exact ⟨by kernel_rfl, of_decide_eq_true (by kernel_rfl)⟩
  ·exact ⟨by kernel_rfl, of_decide_eq_true (by kernel_rfl)⟩
 ·exact FnExactOverdeleted_spec (Pg.rep hr0) hr1 hr2 (Fc.rep hr3) w0 w1 w2 w3
theorem FnExactOverdeleted.k0 : (Rows.fnExactOverdeletedRow.wf (OpenSpec.ofChange Rows.fnExactOverdeletedSpec)) = true := by kernel_rfl
theorem FnExactOverdeleted.k1 : (laidOutB Tryz.pinned.checked.prog) = true := by kernel_rfl
theorem FnExactOverdeleted.k2 : (mapsRowed Tryz.pinned.checked.prog) = true := by kernel_rfl
theorem FnExactOverdeleted.k3 : (Tryz.f11.params.all (Tryz.pinned.checked.prog.readableRec ·)) = true := by kernel_rfl
theorem FnExactOverdeleted.k4 : (namedTie Tryz.pinned.checked.prog Rows.fnExactOverdeletedRow.named Rows.fnExactOverdeletedSpec.vars) = true := by kernel_rfl
theorem FnExactOverdeleted.k5 : (Rows.fnExactOverdeletedRow.stops == []) = true := by kernel_rfl
theorem FnExactOverdeleted.k6 : (Tryz.pinned.checked.prog.stops == []) = true := by kernel_rfl
theorem FnExactOverdeleted.k7 : (Rows.fnExactOverdeletedRow.knobs == []) = true := by kernel_rfl
theorem FnExactOverdeleted.k8 : (Tryz.pinned.checked.prog.stopKnobs == []) = true := by kernel_rfl
theorem FnExactOverdeleted.k9 : (Rows.fnExactOverdeletedRow.inPlace == Tryz.pinned.checked.prog.inPlace 11) = true := by kernel_rfl
theorem FnExactOverdeleted.k10 : (Rows.fnExactOverdeletedRow.unfollowed == Tryz.pinned.checked.prog.unfollowed 11) = true := by kernel_rfl
theorem FnExactOverdeleted.k11 : (Rows.fnExactOverdeletedRow.recurses == Tryz.pinned.checked.prog.recurses 11) = true := by kernel_rfl
theorem FnExactOverdeleted.k12 : (Rows.fnExactOverdeletedRow.named == Tryz.pinned.checked.prog.varsNamed 11) = true := by kernel_rfl
theorem FnExactOverdeleted.k13 : (Rows.fnExactOverdeletedRow.maps == (Tryz.f11.params.toList ++ Rows.fnExactOverdeletedSpec.plain.varTypes Tryz.pinned.checked.prog).any (Tryz.pinned.checked.prog.mapsRec ·)) = true := by kernel_rfl
theorem FnExactOverdeleted.k14 : (Rows.fnExactOverdeletedRow.ifaces == (Tryz.f11.params.toList ++ Rows.fnExactOverdeletedSpec.plain.varTypes Tryz.pinned.checked.prog).any (Tryz.pinned.checked.prog.ifacesRec ·)) = true := by kernel_rfl
theorem FnExactOverdeleted.k15 : (Rows.fnExactOverdeletedRow.mapsOut == Tryz.pinned.checked.prog.mapsAmong Tryz.f11.resultTypes.toList) = true := by kernel_rfl
theorem FnExactOverdeleted.k16 : (Rows.fnExactOverdeletedRow.loops == (Tryz.f11.params.toList ++ Rows.fnExactOverdeletedSpec.plain.varTypes Tryz.pinned.checked.prog).any (Tryz.pinned.checked.prog.loopsFrom ·)) = true := by kernel_rfl
theorem FnExactOverdeleted.k17 : (Rows.fnExactOverdeletedRow.wideKeys == (Tryz.f11.params.toList ++ Rows.fnExactOverdeletedSpec.plain.varTypes Tryz.pinned.checked.prog ++ Tryz.f11.resultTypes.toList).any (Tryz.pinned.checked.prog.wideKeysFrom ·)) = true := by kernel_rfl
theorem FnExactOverdeleted.k18 : (Rows.fnExactOverdeletedSpec.vars.all (Tryz.pinned.checked.prog.varReadable ·)) = true := by kernel_rfl
theorem FnExactOverdeleted.k19 : (Tryz.f11.resultTypes.all (fun t => Tryz.pinned.checked.prog.readableRec t && decide (t < Tryz.pinned.checked.prog.types.size))) = true := by kernel_rfl
theorem FnExactOverdeleted.k20 : (Rows.fnExactOverdeletedRow.ifacesOut == Tryz.f11.resultTypes.toList.any (Tryz.pinned.checked.prog.ifacesRec ·)) = true := by kernel_rfl
theorem FnExactOverdeleted.k21 : (Rows.fnExactOverdeletedRow.loopsOut == Tryz.f11.resultTypes.toList.any (Tryz.pinned.checked.prog.loopsFrom ·)) = true := by kernel_rfl
theorem FnExactOverdeleted.k22 : (Rows.fnExactOverdeletedRow.plainKeys == Tryz.pinned.checked.prog.plainKeys) = true := by kernel_rfl
theorem FnExactOverdeleted.k23 : (Rows.fnExactOverdeletedRow.shortTexts.isNone) = true := by kernel_rfl
theorem FnExactOverdeleted.k24 : (Tryz.pinned.checked.prog.stopsHeard) = true := by kernel_rfl
theorem FnExactOverdeleted.k25 : (Tryz.pinned.checked.prog.mayEnter) = true := by kernel_rfl
theorem FnExactOverdeleted.k26 : (Rows.fnExactOverdeletedRow.lifted == Tryz.pinned.checked.prog.liftsFinal) = true := by kernel_rfl
theorem FnExactOverdeleted.k27 : (Tryz.pinned.checked.prog.make == some Rows.fnExactOverdeletedRow.make) = true := by kernel_rfl
theorem FnExactOverdeleted.k28 : (Rows.fnExactOverdeletedRow.kinds == (if Rows.fnExactOverdeletedRow.domain.isEmpty then [] else Tryz.f11.params.toList.map fun t => match Tryz.pinned.checked.prog.underlying t with | some (.int k) => some k | _ => none)) = true := by kernel_rfl
theorem FnExactOverdeleted.k29 : (Rows.fnExactOverdeletedRow.pinned == Rows.fnExactOverdeletedRow.pinnedBy) = true := by kernel_rfl
theorem FnExactOverdeleted.k30 : (Rows.fnExactOverdeletedRow.veiled == (Tryz.f11.params.toList ++ Rows.fnExactOverdeletedSpec.plain.varTypes Tryz.pinned.checked.prog ++ Tryz.f11.resultTypes.toList).any (Tryz.pinned.checked.prog.veiledRec ·)) = true := by kernel_rfl
theorem FnExactOverdeleted.k31 : (Rows.fnExactOverdeletedRow.veiledFits Tryz.pinned.checked.prog Tryz.f11.params.toList (Tryz.f11.params.toList ++ Rows.fnExactOverdeletedSpec.plain.varTypes Tryz.pinned.checked.prog ++ Tryz.f11.resultTypes.toList)) = true := by kernel_rfl
theorem FnExactOverdeleted.and2 {a b : Bool} (h1 : a = true) (h2 : b = true) : (a && b) = true := by rw [h1, h2]; rfl
theorem FnExactOverdeleted.joined {P : Program} {f : FuncId} {fn : Func} {s : ChangeSpec} {c : OpenClaim} (h0 : (c.wf (OpenSpec.ofChange s)) = true) (h1 : (laidOutB P) = true) (h2 : (mapsRowed P) = true) (h3 : (fn.params.all (P.readableRec ·)) = true) (h4 : (namedTie P c.named s.vars) = true) (h5 : (c.stops == []) = true) (h6 : (P.stops == []) = true) (h7 : (c.knobs == []) = true) (h8 : (P.stopKnobs == []) = true) (h9 : (c.inPlace == P.inPlace f) = true) (h10 : (c.unfollowed == P.unfollowed f) = true) (h11 : (c.recurses == P.recurses f) = true) (h12 : (c.named == P.varsNamed f) = true) (h13 : (c.maps == (fn.params.toList ++ s.plain.varTypes P).any (P.mapsRec ·)) = true) (h14 : (c.ifaces == (fn.params.toList ++ s.plain.varTypes P).any (P.ifacesRec ·)) = true) (h15 : (c.mapsOut == P.mapsAmong fn.resultTypes.toList) = true) (h16 : (c.loops == (fn.params.toList ++ s.plain.varTypes P).any (P.loopsFrom ·)) = true) (h17 : (c.wideKeys == (fn.params.toList ++ s.plain.varTypes P ++ fn.resultTypes.toList).any (P.wideKeysFrom ·)) = true) (h18 : (s.vars.all (P.varReadable ·)) = true) (h19 : (fn.resultTypes.all (fun t => P.readableRec t && decide (t < P.types.size))) = true) (h20 : (c.ifacesOut == fn.resultTypes.toList.any (P.ifacesRec ·)) = true) (h21 : (c.loopsOut == fn.resultTypes.toList.any (P.loopsFrom ·)) = true) (h22 : (c.plainKeys == P.plainKeys) = true) (h23 : (c.shortTexts.isNone) = true) (h24 : (P.stopsHeard) = true) (h25 : (P.mayEnter) = true) (h26 : (c.lifted == P.liftsFinal) = true) (h27 : (P.make == some c.make) = true) (h28 : (c.kinds == (if c.domain.isEmpty then [] else fn.params.toList.map fun t => match P.underlying t with | some (.int k) => some k | _ => none)) = true) (h29 : (c.pinned == c.pinnedBy) = true) (h30 : (c.veiled == (fn.params.toList ++ s.plain.varTypes P ++ fn.resultTypes.toList).any (P.veiledRec ·)) = true) (h31 : (c.veiledFits P fn.params.toList (fn.params.toList ++ s.plain.varTypes P ++ fn.resultTypes.toList)) = true) : joinedFacts P f fn s c = true := by
 unfold joinedFacts
 exact FnExactOverdeleted.and2 (FnExactOverdeleted.and2 (FnExactOverdeleted.and2 (FnExactOverdeleted.and2 (FnExactOverdeleted.and2 (FnExactOverdeleted.and2 (FnExactOverdeleted.and2 (FnExactOverdeleted.and2 (FnExactOverdeleted.and2 (FnExactOverdeleted.and2 (FnExactOverdeleted.and2 (FnExactOverdeleted.and2 (FnExactOverdeleted.and2 (FnExactOverdeleted.and2 (FnExactOverdeleted.and2 (FnExactOverdeleted.and2 (FnExactOverdeleted.and2 (FnExactOverdeleted.and2 (FnExactOverdeleted.and2 (FnExactOverdeleted.and2 (FnExactOverdeleted.and2 (FnExactOverdeleted.and2 (FnExactOverdeleted.and2 (FnExactOverdeleted.and2 (FnExactOverdeleted.and2 (FnExactOverdeleted.and2 (FnExactOverdeleted.and2 (FnExactOverdeleted.and2 (FnExactOverdeleted.and2 (FnExactOverdeleted.and2 (FnExactOverdeleted.and2 (h0) h1) h2) h3) h4) h5) h6) h7) h8) h9) h10) h11) h12) h13) h14) h15) h16) h17) h18) h19) h20) h21) h22) h23) h24) h25) h26) h27) h28) h29) h30) h31
theorem FnExactOverdeleted.closed : joinedFacts Tryz.pinned.checked.prog 11 Tryz.f11 Rows.fnExactOverdeletedSpec Rows.fnExactOverdeletedRow = true := FnExactOverdeleted.joined (P := Tryz.pinned.checked.prog) (f := 11) (fn := Tryz.f11) (s := Rows.fnExactOverdeletedSpec) (c := Rows.fnExactOverdeletedRow) FnExactOverdeleted.k0 FnExactOverdeleted.k1 FnExactOverdeleted.k2 FnExactOverdeleted.k3 FnExactOverdeleted.k4 FnExactOverdeleted.k5 FnExactOverdeleted.k6 FnExactOverdeleted.k7 FnExactOverdeleted.k8 FnExactOverdeleted.k9 FnExactOverdeleted.k10 FnExactOverdeleted.k11 FnExactOverdeleted.k12 FnExactOverdeleted.k13 FnExactOverdeleted.k14 FnExactOverdeleted.k15 FnExactOverdeleted.k16 FnExactOverdeleted.k17 FnExactOverdeleted.k18 FnExactOverdeleted.k19 FnExactOverdeleted.k20 FnExactOverdeleted.k21 FnExactOverdeleted.k22 FnExactOverdeleted.k23 FnExactOverdeleted.k24 FnExactOverdeleted.k25 FnExactOverdeleted.k26 FnExactOverdeleted.k27 FnExactOverdeleted.k28 FnExactOverdeleted.k29 FnExactOverdeleted.k30 FnExactOverdeleted.k31
theorem FnExactOverdeleted_holds : Rows.FnExactOverdeletedSaid :=
 OpenClaim.holds_of_wide 11 Tryz.f11 rfl rfl rfl rfl rfl rfl rfl ⟨rfl, rfl, rfl, rfl, rfl⟩ rfl rfl rfl rfl rfl (by kernel_rfl) Tryz.func11 FnExactOverdeleted.closed
  (of_decide_eq_true (by kernel_rfl)) (by unfold Func.isWrapper; first | (rw [if_pos (by decide +kernel)]; kernel_rfl) | (rw [if_neg (by decide +kernel)]; exact ⟨rfl, rfl⟩))
  (fun os started H enc _ => FnExactOverdeleted.lifted os started H enc)
#print axioms FnExactOverdeleted_holds
end Go.Proofs.YtheneidclfohoaaGreat
