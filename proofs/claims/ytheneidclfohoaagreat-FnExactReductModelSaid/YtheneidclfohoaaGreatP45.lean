/- 'laws.FnExactReductModel' returns true for every input, and each argument reads behind the call as it read before: no condition. -/
import Derived.Test.YtheneidclfohoaaGreatRows
import Derived.Test.YtheneidclfohoaaGreatE1
namespace Go.Proofs.YtheneidclfohoaaGreat
open Go.ChangeShapes Go.WideShapes Go.ChangeAt Go.RowKit Go.Vx
theorem FnExactReductModel.own : ownKnob Tryz.prog.godebug = none := by kernel_rfl
theorem FnExactReductModel.laidOut : laidOutB Tryz.prog = true := by kernel_rfl
set_option maxRecDepth 100000 in
theorem FnExactReductModel.lifted (os : Os) (started : os.Started) (H : Type) (enc : TypeId × Value → H) :
  ReturnsInHanded {} Tryz.checked os 8 .any (Rows.fnExactReductModelSpec.pre6 enc Tryz.prog Tryz.f8 Rows.fnExactReductModelRow.domain false) (Rows.fnExactReductModelSpec.post enc Tryz.prog Tryz.f8 false true false false) := by
 refine returnsInHanded_of_change (C := Tryz.checked) FnExactReductModel.own started (by kernel_rfl) Tryz.func8
  (ChangeSpec.witness6 (enc := enc) (C := Tryz.checked) false ⟨#[], #[.agg #[.slice none 0 0], .slice none 0 0, .slice none 0 0], []⟩ 8 (by kernel_rfl) (by kernel_rfl) (by kernel_rfl) (by kernel_rfl)) ?_
 intro W base args ds gs before hval0 hW hcnd _
 have hval : ∀ (j : Nat) t v, Tryz.f8.params[j]? = some t → args[j]? = some v → Value.okWide Tryz.prog W .any base t v := hval0
 have hW' := hW
 obtain ⟨p, q, hA0, hV, rfl, hfz, hnd⟩ := hW
 have hA : DataW.TrodAll enc Tryz.prog W 0 (fun _ => true) true Tryz.f8.params.toList args.toList ds p := hA0
 rw [Tryz.params8] at hA hval
 obtain ⟨v0, v1, v2, d0, d1, d2, p0, p1, p2, rfl, rfl, hp0, h0, h1, h2⟩ := trodAll_three hA
 obtain ⟨e0, ⟨g0, rfl, w0⟩, cs0, rfl, hr0⟩ := read_struct Tryz.underlying24 read_Program (hval 0 _ _ rfl rfl) h0
 obtain ⟨e1, ⟨l1, rfl, w1⟩, hr1⟩ := read_cell (fun cs => okWide_slice Tryz.underlying25 cs) read_TermS (hval 1 _ _ rfl rfl) h1
 obtain ⟨e2, ⟨l2, rfl, w2⟩, hr2⟩ := read_cell (fun cs => okWide_slice Tryz.underlying47 cs) read_FactS (hval 2 _ _ rfl rfl) h2
 refine law_calls FnExactReductModel.laidOut (fn := Tryz.f8) (tb := 4) ?_ (by kernel_rfl) und_bool rfl rfl hW' ⟨Tryz.f8, Tryz.func8, by kernel_rfl, by kernel_rfl⟩ ?_
 ·intro t ht
  have : Tryz.f8.params.toList = [24, 25, 47] := by rw [Tryz.params8]
  rw [this] at ht
  simp only [List.mem_cons, List.not_mem_nil, or_false] at ht
  rcases ht with rfl | rfl | rfl
  ·exact ⟨by kernel_rfl, of_decide_eq_true (by kernel_rfl)⟩
  ·exact ⟨by kernel_rfl, of_decide_eq_true (by kernel_rfl)⟩
  ·exact ⟨by kernel_rfl, of_decide_eq_true (by kernel_rfl)⟩
 ·exact FnExactReductModel_spec (Pg.rep hr0) hr1 hr2 w0 w1 w2
theorem FnExactReductModel.k0 : (Rows.fnExactReductModelRow.wf (OpenSpec.ofChange Rows.fnExactReductModelSpec)) = true := by kernel_rfl
theorem FnExactReductModel.k1 : (laidOutB Tryz.pinned.checked.prog) = true := by kernel_rfl
theorem FnExactReductModel.k2 : (mapsRowed Tryz.pinned.checked.prog) = true := by kernel_rfl
theorem FnExactReductModel.k3 : (Tryz.f8.params.all (Tryz.pinned.checked.prog.readableRec ·)) = true := by kernel_rfl
theorem FnExactReductModel.k4 : (namedTie Tryz.pinned.checked.prog Rows.fnExactReductModelRow.named Rows.fnExactReductModelSpec.vars) = true := by kernel_rfl
theorem FnExactReductModel.k5 : (Rows.fnExactReductModelRow.stops == []) = true := by kernel_rfl
theorem FnExactReductModel.k6 : (Tryz.pinned.checked.prog.stops == []) = true := by kernel_rfl
theorem FnExactReductModel.k7 : (Rows.fnExactReductModelRow.knobs == []) = true := by kernel_rfl
theorem FnExactReductModel.k8 : (Tryz.pinned.checked.prog.stopKnobs == []) = true := by kernel_rfl
theorem FnExactReductModel.k9 : (Rows.fnExactReductModelRow.inPlace == Tryz.pinned.checked.prog.inPlace 8) = true := by kernel_rfl
theorem FnExactReductModel.k10 : (Rows.fnExactReductModelRow.unfollowed == Tryz.pinned.checked.prog.unfollowed 8) = true := by kernel_rfl
theorem FnExactReductModel.k11 : (Rows.fnExactReductModelRow.recurses == Tryz.pinned.checked.prog.recurses 8) = true := by kernel_rfl
theorem FnExactReductModel.k12 : (Rows.fnExactReductModelRow.named == Tryz.pinned.checked.prog.varsNamed 8) = true := by kernel_rfl
theorem FnExactReductModel.k13 : (Rows.fnExactReductModelRow.maps == (Tryz.f8.params.toList ++ Rows.fnExactReductModelSpec.plain.varTypes Tryz.pinned.checked.prog).any (Tryz.pinned.checked.prog.mapsRec ·)) = true := by kernel_rfl
theorem FnExactReductModel.k14 : (Rows.fnExactReductModelRow.ifaces == (Tryz.f8.params.toList ++ Rows.fnExactReductModelSpec.plain.varTypes Tryz.pinned.checked.prog).any (Tryz.pinned.checked.prog.ifacesRec ·)) = true := by kernel_rfl
theorem FnExactReductModel.k15 : (Rows.fnExactReductModelRow.mapsOut == Tryz.pinned.checked.prog.mapsAmong Tryz.f8.resultTypes.toList) = true := by kernel_rfl
theorem FnExactReductModel.k16 : (Rows.fnExactReductModelRow.loops == (Tryz.f8.params.toList ++ Rows.fnExactReductModelSpec.plain.varTypes Tryz.pinned.checked.prog).any (Tryz.pinned.checked.prog.loopsFrom ·)) = true := by kernel_rfl
theorem FnExactReductModel.k17 : (Rows.fnExactReductModelRow.wideKeys == (Tryz.f8.params.toList ++ Rows.fnExactReductModelSpec.plain.varTypes Tryz.pinned.checked.prog ++ Tryz.f8.resultTypes.toList).any (Tryz.pinned.checked.prog.wideKeysFrom ·)) = true := by kernel_rfl
theorem FnExactReductModel.k18 : (Rows.fnExactReductModelSpec.vars.all (Tryz.pinned.checked.prog.varReadable ·)) = true := by kernel_rfl
theorem FnExactReductModel.k19 : (Tryz.f8.resultTypes.all (fun t => Tryz.pinned.checked.prog.readableRec t && decide (t < Tryz.pinned.checked.prog.types.size))) = true := by kernel_rfl
theorem FnExactReductModel.k20 : (Rows.fnExactReductModelRow.ifacesOut == Tryz.f8.resultTypes.toList.any (Tryz.pinned.checked.prog.ifacesRec ·)) = true := by kernel_rfl
theorem FnExactReductModel.k21 : (Rows.fnExactReductModelRow.loopsOut == Tryz.f8.resultTypes.toList.any (Tryz.pinned.checked.prog.loopsFrom ·)) = true := by kernel_rfl
theorem FnExactReductModel.k22 : (Rows.fnExactReductModelRow.plainKeys == Tryz.pinned.checked.prog.plainKeys) = true := by kernel_rfl
theorem FnExactReductModel.k23 : (Rows.fnExactReductModelRow.shortTexts.isNone) = true := by kernel_rfl
theorem FnExactReductModel.k24 : (Tryz.pinned.checked.prog.stopsHeard) = true := by kernel_rfl
theorem FnExactReductModel.k25 : (Tryz.pinned.checked.prog.mayEnter) = true := by kernel_rfl
theorem FnExactReductModel.k26 : (Rows.fnExactReductModelRow.lifted == Tryz.pinned.checked.prog.liftsFinal) = true := by kernel_rfl
theorem FnExactReductModel.k27 : (Tryz.pinned.checked.prog.make == some Rows.fnExactReductModelRow.make) = true := by kernel_rfl
theorem FnExactReductModel.k28 : (Rows.fnExactReductModelRow.kinds == (if Rows.fnExactReductModelRow.domain.isEmpty then [] else Tryz.f8.params.toList.map fun t => match Tryz.pinned.checked.prog.underlying t with | some (.int k) => some k | _ => none)) = true := by kernel_rfl
theorem FnExactReductModel.k29 : (Rows.fnExactReductModelRow.pinned == Rows.fnExactReductModelRow.pinnedBy) = true := by kernel_rfl
theorem FnExactReductModel.k30 : (Rows.fnExactReductModelRow.veiled == (Tryz.f8.params.toList ++ Rows.fnExactReductModelSpec.plain.varTypes Tryz.pinned.checked.prog ++ Tryz.f8.resultTypes.toList).any (Tryz.pinned.checked.prog.veiledRec ·)) = true := by kernel_rfl
theorem FnExactReductModel.k31 : (Rows.fnExactReductModelRow.veiledFits Tryz.pinned.checked.prog Tryz.f8.params.toList (Tryz.f8.params.toList ++ Rows.fnExactReductModelSpec.plain.varTypes Tryz.pinned.checked.prog ++ Tryz.f8.resultTypes.toList)) = true := by kernel_rfl
theorem FnExactReductModel.and2 {a b : Bool} (h1 : a = true) (h2 : b = true) : (a && b) = true := by rw [h1, h2]; rfl
theorem FnExactReductModel.joined {P : Program} {f : FuncId} {fn : Func} {s : ChangeSpec} {c : OpenClaim} (h0 : (c.wf (OpenSpec.ofChange s)) = true) (h1 : (laidOutB P) = true) (h2 : (mapsRowed P) = true) (h3 : (fn.params.all (P.readableRec ·)) = true) (h4 : (namedTie P c.named s.vars) = true) (h5 : (c.stops == []) = true) (h6 : (P.stops == []) = true) (h7 : (c.knobs == []) = true) (h8 : (P.stopKnobs == []) = true) (h9 : (c.inPlace == P.inPlace f) = true) (h10 : (c.unfollowed == P.unfollowed f) = true) (h11 : (c.recurses == P.recurses f) = true) (h12 : (c.named == P.varsNamed f) = true) (h13 : (c.maps == (fn.params.toList ++ s.plain.varTypes P).any (P.mapsRec ·)) = true) (h14 : (c.ifaces == (fn.params.toList ++ s.plain.varTypes P).any (P.ifacesRec ·)) = true) (h15 : (c.mapsOut == P.mapsAmong fn.resultTypes.toList) = true) (h16 : (c.loops == (fn.params.toList ++ s.plain.varTypes P).any (P.loopsFrom ·)) = true) (h17 : (c.wideKeys == (fn.params.toList ++ s.plain.varTypes P ++ fn.resultTypes.toList).any (P.wideKeysFrom ·)) = true) (h18 : (s.vars.all (P.varReadable ·)) = true) (h19 : (fn.resultTypes.all (fun t => P.readableRec t && decide (t < P.types.size))) = true) (h20 : (c.ifacesOut == fn.resultTypes.toList.any (P.ifacesRec ·)) = true) (h21 : (c.loopsOut == fn.resultTypes.toList.any (P.loopsFrom ·)) = true) (h22 : (c.plainKeys == P.plainKeys) = true) (h23 : (c.shortTexts.isNone) = true) (h24 : (P.stopsHeard) = true) (h25 : (P.mayEnter) = true) (h26 : (c.lifted == P.liftsFinal) = true) (h27 : (P.make == some c.make) = true) (h28 : (c.kinds == (if c.domain.isEmpty then [] else fn.params.toList.map fun t => match P.underlying t with | some (.int k) => some k | _ => none)) = true) (h29 : (c.pinned == c.pinnedBy) = true) (h30 : (c.veiled == (fn.params.toList ++ s.plain.varTypes P ++ fn.resultTypes.toList).any (P.veiledRec ·)) = true) (h31 : (c.veiledFits P fn.params.toList (fn.params.toList ++ s.plain.varTypes P ++ fn.resultTypes.toList)) = true) : joinedFacts P f fn s c = true := by
 unfold joinedFacts
 exact FnExactReductModel.and2 (FnExactReductModel.and2 (FnExactReductModel.and2 (FnExactReductModel.and2 (FnExactReductModel.and2 (FnExactReductModel.and2 (FnExactReductModel.and2 (FnExactReductModel.and2 (FnExactReductModel.and2 (FnExactReductModel.and2 (FnExactReductModel.and2 (FnExactReductModel.and2 (FnExactReductModel.and2 (FnExactReductModel.and2 (FnExactReductModel.and2 (FnExactReductModel.and2 (FnExactReductModel.and2 (FnExactReductModel.and2 (FnExactReductModel.and2 (FnExactReductModel.and2 (FnExactReductModel.and2 (FnExactReductModel.and2 (FnExactReductModel.and2 (FnExactReductModel.and2 (FnExactReductModel.and2 (FnExactReductModel.and2 (FnExactReductModel.and2 (FnExactReductModel.and2 (FnExactReductModel.and2 (FnExactReductModel.and2 (FnExactReductModel.and2 (h0) h1) h2) h3) h4) h5) h6) h7) h8) h9) h10) h11) h12) h13) h14) h15) h16) h17) h18) h19) h20) h21) h22) h23) h24) h25) h26) h27) h28) h29) h30) h31
theorem FnExactReductModel.closed : joinedFacts Tryz.pinned.checked.prog 8 Tryz.f8 Rows.fnExactReductModelSpec Rows.fnExactReductModelRow = true := FnExactReductModel.joined (P := Tryz.pinned.checked.prog) (f := 8) (fn := Tryz.f8) (s := Rows.fnExactReductModelSpec) (c := Rows.fnExactReductModelRow) FnExactReductModel.k0 FnExactReductModel.k1 FnExactReductModel.k2 FnExactReductModel.k3 FnExactReductModel.k4 FnExactReductModel.k5 FnExactReductModel.k6 FnExactReductModel.k7 FnExactReductModel.k8 FnExactReductModel.k9 FnExactReductModel.k10 FnExactReductModel.k11 FnExactReductModel.k12 FnExactReductModel.k13 FnExactReductModel.k14 FnExactReductModel.k15 FnExactReductModel.k16 FnExactReductModel.k17 FnExactReductModel.k18 FnExactReductModel.k19 FnExactReductModel.k20 FnExactReductModel.k21 FnExactReductModel.k22 FnExactReductModel.k23 FnExactReductModel.k24 FnExactReductModel.k25 FnExactReductModel.k26 FnExactReductModel.k27 FnExactReductModel.k28 FnExactReductModel.k29 FnExactReductModel.k30 FnExactReductModel.k31
theorem FnExactReductModel_holds : Rows.FnExactReductModelSaid :=
 OpenClaim.holds_of_wide 8 Tryz.f8 rfl rfl rfl rfl rfl rfl rfl ⟨rfl, rfl, rfl, rfl, rfl⟩ rfl rfl rfl rfl rfl (by kernel_rfl) Tryz.func8 FnExactReductModel.closed
  (of_decide_eq_true (by kernel_rfl)) (by unfold Func.isWrapper; first | (rw [if_pos (by decide +kernel)]; kernel_rfl) | (rw [if_neg (by decide +kernel)]; exact ⟨rfl, rfl⟩))
  (fun os started H enc _ => FnExactReductModel.lifted os started H enc)
#print axioms FnExactReductModel_holds
end Go.Proofs.YtheneidclfohoaaGreat
