/- 'laws.FnExactBaseModel' returns true for every input, and each argument reads behind the call as it read before: no condition. -/
import Derived.Test.YtheneidclfohoaaGreatRows
import Derived.Test.YtheneidclfohoaaGreatE1
namespace Go.Proofs.YtheneidclfohoaaGreat
open Go.ChangeShapes Go.WideShapes Go.ChangeAt Go.RowKit Go.Vx
theorem FnExactBaseModel.own : ownKnob Tryz.prog.godebug = none := by kernel_rfl
theorem FnExactBaseModel.laidOut : laidOutB Tryz.prog = true := by kernel_rfl
set_option maxRecDepth 100000 in
theorem FnExactBaseModel.lifted (os : Os) (started : os.Started) (H : Type) (enc : TypeId × Value → H) :
  ReturnsInHanded {} Tryz.checked os 12 .any (Rows.fnExactBaseModelSpec.pre6 enc Tryz.prog Tryz.f12 Rows.fnExactBaseModelRow.domain false) (Rows.fnExactBaseModelSpec.post enc Tryz.prog Tryz.f12 false true false false) := by
 refine returnsInHanded_of_change (C := Tryz.checked) FnExactBaseModel.own started (by kernel_rfl) Tryz.func12
  (ChangeSpec.witness6 (enc := enc) (C := Tryz.checked) false ⟨#[], #[.agg #[.slice none 0 0], .slice none 0 0, .slice none 0 0], []⟩ 8 (by kernel_rfl) (by kernel_rfl) (by kernel_rfl) (by kernel_rfl)) ?_
 intro W base args ds gs before hval0 hW hcnd _
 have hval : ∀ (j : Nat) t v, Tryz.f12.params[j]? = some t → args[j]? = some v → Value.okWide Tryz.prog W .any base t v := hval0
 have hW' := hW
 obtain ⟨p, q, hA0, hV, rfl, hfz, hnd⟩ := hW
 have hA : DataW.TrodAll enc Tryz.prog W 0 (fun _ => true) true Tryz.f12.params.toList args.toList ds p := hA0
 rw [Tryz.params12] at hA hval
 obtain ⟨v0, v1, v2, d0, d1, d2, p0, p1, p2, rfl, rfl, hp0, h0, h1, h2⟩ := trodAll_three hA
 obtain ⟨e0, ⟨g0, rfl, w0⟩, cs0, rfl, hr0⟩ := read_struct Tryz.underlying24 read_Program (hval 0 _ _ rfl rfl) h0
 obtain ⟨e1, ⟨l1, rfl, w1⟩, hr1⟩ := read_cell (fun cs => okWide_slice Tryz.underlying25 cs) read_TermS (hval 1 _ _ rfl rfl) h1
 obtain ⟨e2, ⟨l2, rfl, w2⟩, hr2⟩ := read_cell (fun cs => okWide_slice Tryz.underlying47 cs) read_FactS (hval 2 _ _ rfl rfl) h2
 refine law_calls FnExactBaseModel.laidOut (fn := Tryz.f12) (tb := 4) ?_ (by kernel_rfl) und_bool rfl rfl hW' ⟨Tryz.f12, Tryz.func12, by kernel_rfl, by kernel_rfl⟩ ?_
 ·intro t ht
  have : Tryz.f12.params.toList = [24, 25, 47] := by rw [Tryz.params12]
  rw [this] at ht
  simp only [List.mem_cons, List.not_mem_nil, or_false] at ht
  rcases ht with rfl | rfl | rfl
  ·exact ⟨by kernel_rfl, of_decide_eq_true (by kernel_rfl)⟩
  ·exact ⟨by kernel_rfl, of_decide_eq_true (by kernel_rfl)⟩
  ·exact ⟨by kernel_rfl, of_decide_eq_true (by kernel_rfl)⟩
 ·exact FnExactBaseModel_spec (Pg.rep hr0) hr1 hr2 w0 w1 w2
theorem FnExactBaseModel.k0 : (Rows.fnExactBaseModelRow.wf (OpenSpec.ofChange Rows.fnExactBaseModelSpec)) = true := by kernel_rfl
theorem FnExactBaseModel.k1 : (laidOutB Tryz.pinned.checked.prog) = true := by kernel_rfl
theorem FnExactBaseModel.k2 : (mapsRowed Tryz.pinned.checked.prog) = true := by kernel_rfl
theorem FnExactBaseModel.k3 : (Tryz.f12.params.all (Tryz.pinned.checked.prog.readableRec ·)) = true := by kernel_rfl
theorem FnExactBaseModel.k4 : (namedTie Tryz.pinned.checked.prog Rows.fnExactBaseModelRow.named Rows.fnExactBaseModelSpec.vars) = true := by kernel_rfl
theorem FnExactBaseModel.k5 : (Rows.fnExactBaseModelRow.stops == []) = true := by kernel_rfl
theorem FnExactBaseModel.k6 : (Tryz.pinned.checked.prog.stops == []) = true := by kernel_rfl
theorem FnExactBaseModel.k7 : (Rows.fnExactBaseModelRow.knobs == []) = true := by kernel_rfl
theorem FnExactBaseModel.k8 : (Tryz.pinned.checked.prog.stopKnobs == []) = true := by kernel_rfl
theorem FnExactBaseModel.k9 : (Rows.fnExactBaseModelRow.inPlace == Tryz.pinned.checked.prog.inPlace 12) = true := by kernel_rfl
theorem FnExactBaseModel.k10 : (Rows.fnExactBaseModelRow.unfollowed == Tryz.pinned.checked.prog.unfollowed 12) = true := by kernel_rfl
theorem FnExactBaseModel.k11 : (Rows.fnExactBaseModelRow.recurses == Tryz.pinned.checked.prog.recurses 12) = true := by kernel_rfl
theorem FnExactBaseModel.k12 : (Rows.fnExactBaseModelRow.named == Tryz.pinned.checked.prog.varsNamed 12) = true := by kernel_rfl
theorem FnExactBaseModel.k13 : (Rows.fnExactBaseModelRow.maps == (Tryz.f12.params.toList ++ Rows.fnExactBaseModelSpec.plain.varTypes Tryz.pinned.checked.prog).any (Tryz.pinned.checked.prog.mapsRec ·)) = true := by kernel_rfl
theorem FnExactBaseModel.k14 : (Rows.fnExactBaseModelRow.ifaces == (Tryz.f12.params.toList ++ Rows.fnExactBaseModelSpec.plain.varTypes Tryz.pinned.checked.prog).any (Tryz.pinned.checked.prog.ifacesRec ·)) = true := by kernel_rfl
theorem FnExactBaseModel.k15 : (Rows.fnExactBaseModelRow.mapsOut == Tryz.pinned.checked.prog.mapsAmong Tryz.f12.resultTypes.toList) = true := by kernel_rfl
theorem FnExactBaseModel.k16 : (Rows.fnExactBaseModelRow.loops == (Tryz.f12.params.toList ++ Rows.fnExactBaseModelSpec.plain.varTypes Tryz.pinned.checked.prog).any (Tryz.pinned.checked.prog.loopsFrom ·)) = true := by kernel_rfl
theorem FnExactBaseModel.k17 : (Rows.fnExactBaseModelRow.wideKeys == (Tryz.f12.params.toList ++ Rows.fnExactBaseModelSpec.plain.varTypes Tryz.pinned.checked.prog ++ Tryz.f12.resultTypes.toList).any (Tryz.pinned.checked.prog.wideKeysFrom ·)) = true := by kernel_rfl
theorem FnExactBaseModel.k18 : (Rows.fnExactBaseModelSpec.vars.all (Tryz.pinned.checked.prog.varReadable ·)) = true := by kernel_rfl
theorem FnExactBaseModel.k19 : (Tryz.f12.resultTypes.all (fun t => Tryz.pinned.checked.prog.readableRec t && decide (t < Tryz.pinned.checked.prog.types.size))) = true := by kernel_rfl
theorem FnExactBaseModel.k20 : (Rows.fnExactBaseModelRow.ifacesOut == Tryz.f12.resultTypes.toList.any (Tryz.pinned.checked.prog.ifacesRec ·)) = true := by kernel_rfl
theorem FnExactBaseModel.k21 : (Rows.fnExactBaseModelRow.loopsOut == Tryz.f12.resultTypes.toList.any (Tryz.pinned.checked.prog.loopsFrom ·)) = true := by kernel_rfl
theorem FnExactBaseModel.k22 : (Rows.fnExactBaseModelRow.plainKeys == Tryz.pinned.checked.prog.plainKeys) = true := by kernel_rfl
theorem FnExactBaseModel.k23 : (Rows.fnExactBaseModelRow.shortTexts.isNone) = true := by kernel_rfl
theorem FnExactBaseModel.k24 : (Tryz.pinned.checked.prog.stopsHeard) = true := by kernel_rfl
theorem FnExactBaseModel.k25 : (Tryz.pinned.checked.prog.mayEnter) = true := by kernel_rfl
theorem FnExactBaseModel.k26 : (Rows.fnExactBaseModelRow.lifted == Tryz.pinned.checked.prog.liftsFinal) = true := by kernel_rfl
theorem FnExactBaseModel.k27 : (Tryz.pinned.checked.prog.make == some Rows.fnExactBaseModelRow.make) = true := by kernel_rfl
theorem FnExactBaseModel.k28 : (Rows.fnExactBaseModelRow.kinds == (if Rows.fnExactBaseModelRow.domain.isEmpty then [] else Tryz.f12.params.toList.map fun t => match Tryz.pinned.checked.prog.underlying t with | some (.int k) => some k | _ => none)) = true := by kernel_rfl
theorem FnExactBaseModel.k29 : (Rows.fnExactBaseModelRow.pinned == Rows.fnExactBaseModelRow.pinnedBy) = true := by kernel_rfl
theorem FnExactBaseModel.k30 : (Rows.fnExactBaseModelRow.veiled == (Tryz.f12.params.toList ++ Rows.fnExactBaseModelSpec.plain.varTypes Tryz.pinned.checked.prog ++ Tryz.f12.resultTypes.toList).any (Tryz.pinned.checked.prog.veiledRec ·)) = true := by kernel_rfl
theorem FnExactBaseModel.k31 : (Rows.fnExactBaseModelRow.veiledFits Tryz.pinned.checked.prog Tryz.f12.params.toList (Tryz.f12.params.toList ++ Rows.fnExactBaseModelSpec.plain.varTypes Tryz.pinned.checked.prog ++ Tryz.f12.resultTypes.toList)) = true := by kernel_rfl
theorem FnExactBaseModel.and2 {a b : Bool} (h1 : a = true) (h2 : b = true) : (a && b) = true := by rw [h1, h2]; rfl
theorem FnExactBaseModel.joined {P : Program} {f : FuncId} {fn : Func} {s : ChangeSpec} {c : OpenClaim} (h0 : (c.wf (OpenSpec.ofChange s)) = true) (h1 : (laidOutB P) = true) (h2 : (mapsRowed P) = true) (h3 : (fn.params.all (P.readableRec ·)) = true) (h4 : (namedTie P c.named s.vars) = true) (h5 : (c.stops == []) = true) (h6 : (P.stops == []) = true) (h7 : (c.knobs == []) = true) (h8 : (P.stopKnobs == []) = true) (h9 : (c.inPlace == P.inPlace f) = true) (h10 : (c.unfollowed == P.unfollowed f) = true) (h11 : (c.recurses == P.recurses f) = true) (h12 : (c.named == P.varsNamed f) = true) (h13 : (c.maps == (fn.params.toList ++ s.plain.varTypes P).any (P.mapsRec ·)) = true) (h14 : (c.ifaces == (fn.params.toList ++ s.plain.varTypes P).any (P.ifacesRec ·)) = true) (h15 : (c.mapsOut == P.mapsAmong fn.resultTypes.toList) = true) (h16 : (c.loops == (fn.params.toList ++ s.plain.varTypes P).any (P.loopsFrom ·)) = true) (h17 : (c.wideKeys == (fn.params.toList ++ s.plain.varTypes P ++ fn.resultTypes.toList).any (P.wideKeysFrom ·)) = true) (h18 : (s.vars.all (P.varReadable ·)) = true) (h19 : (fn.resultTypes.all (fun t => P.readableRec t && decide (t < P.types.size))) = true) (h20 : (c.ifacesOut == fn.resultTypes.toList.any (P.ifacesRec ·)) = true) (h21 : (c.loopsOut == fn.resultTypes.toList.any (P.loopsFrom ·)) = true) (h22 : (c.plainKeys == P.plainKeys) = true) (h23 : (c.shortTexts.isNone) = true) (h24 : (P.stopsHeard) = true) (h25 : (P.mayEnter) = true) (h26 : (c.lifted == P.liftsFinal) = true) (h27 : (P.make == some c.make) = true) (h28 : (c.kinds == (if c.domain.isEmpty then [] else fn.params.toList.map fun t => match P.underlying t with | some (.int k) => some k | _ => none)) = true) (h29 : (c.pinned == c.pinnedBy) = true) (h30 : (c.veiled == (fn.params.toList ++ s.plain.varTypes P ++ fn.resultTypes.toList).any (P.veiledRec ·)) = true) (h31 : (c.veiledFits P fn.params.toList (fn.params.toList ++ s.plain.varTypes P ++ fn.resultTypes.toList)) = true) : joinedFacts P f fn s c = true := by
 unfold joinedFacts
 exact FnExactBaseModel.and2 (FnExactBaseModel.and2 (FnExactBaseModel.and2 (FnExactBaseModel.and2 (FnExactBaseModel.and2 (FnExactBaseModel.and2 (FnExactBaseModel.and2 (FnExactBaseModel.and2 (FnExactBaseModel.and2 (FnExactBaseModel.and2 (FnExactBaseModel.and2 (FnExactBaseModel.and2 (FnExactBaseModel.and2 (FnExactBaseModel.and2 (FnExactBaseModel.and2 (FnExactBaseModel.and2 (FnExactBaseModel.and2 (FnExactBaseModel.and2 (FnExactBaseModel.and2 (FnExactBaseModel.and2 (FnExactBaseModel.and2 (FnExactBaseModel.and2 (FnExactBaseModel.and2 (FnExactBaseModel.and2 (FnExactBaseModel.and2 (FnExactBaseModel.and2 (FnExactBaseModel.and2 (FnExactBaseModel.and2 (FnExactBaseModel.and2 (FnExactBaseModel.and2 (FnExactBaseModel.and2 (h0) h1) h2) h3) h4) h5) h6) h7) h8) h9) h10) h11) h12) h13) h14) h15) h16) h17) h18) h19) h20) h21) h22) h23) h24) h25) h26) h27) h28) h29) h30) h31
theorem FnExactBaseModel.closed : joinedFacts Tryz.pinned.checked.prog 12 Tryz.f12 Rows.fnExactBaseModelSpec Rows.fnExactBaseModelRow = true := FnExactBaseModel.joined (P := Tryz.pinned.checked.prog) (f := 12) (fn := Tryz.f12) (s := Rows.fnExactBaseModelSpec) (c := Rows.fnExactBaseModelRow) FnExactBaseModel.k0 FnExactBaseModel.k1 FnExactBaseModel.k2 FnExactBaseModel.k3 FnExactBaseModel.k4 FnExactBaseModel.k5 FnExactBaseModel.k6 FnExactBaseModel.k7 FnExactBaseModel.k8 FnExactBaseModel.k9 FnExactBaseModel.k10 FnExactBaseModel.k11 FnExactBaseModel.k12 FnExactBaseModel.k13 FnExactBaseModel.k14 FnExactBaseModel.k15 FnExactBaseModel.k16 FnExactBaseModel.k17 FnExactBaseModel.k18 FnExactBaseModel.k19 FnExactBaseModel.k20 FnExactBaseModel.k21 FnExactBaseModel.k22 FnExactBaseModel.k23 FnExactBaseModel.k24 FnExactBaseModel.k25 FnExactBaseModel.k26 FnExactBaseModel.k27 FnExactBaseModel.k28 FnExactBaseModel.k29 FnExactBaseModel.k30 FnExactBaseModel.k31
theorem FnExactBaseModel_holds : Rows.FnExactBaseModelSaid :=
 OpenClaim.holds_of_wide 12 Tryz.f12 rfl rfl rfl rfl rfl rfl rfl ⟨rfl, rfl, rfl, rfl, rfl⟩ rfl rfl rfl rfl rfl (by kernel_rfl) Tryz.func12 FnExactBaseModel.closed
  (of_decide_eq_true (by kernel_rfl)) (by unfold Func.isWrapper; first | (rw [if_pos (by decide +kernel)]; kernel_rfl) | (rw [if_neg (by decide +kernel)]; exact ⟨rfl, rfl⟩))
  (fun os started H enc _ => FnExactBaseModel.lifted os started H enc)
#print axioms FnExactBaseModel_holds
end Go.Proofs.YtheneidclfohoaaGreat
