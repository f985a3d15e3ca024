/- 'laws.FnExactStratifiedModel' returns true for every input, and each argument reads behind the call as it read before: no condition. -/
import Derived.Test.YtheneidclfohoaaGreatRows
import Derived.Test.YtheneidclfohoaaGreatE1
namespace Go.Proofs.YtheneidclfohoaaGreat
open Go.ChangeShapes Go.WideShapes Go.ChangeAt Go.RowKit Go.Vx
theorem FnExactStratifiedModel.own : ownKnob Tryz.prog.godebug = none := by kernel_rfl
theorem FnExactStratifiedModel.laidOut : laidOutB Tryz.prog = true := by kernel_rfl
set_option maxRecDepth 100000 in
theorem FnExactStratifiedModel.lifted (os : Os) (started : os.Started) (H : Type) (enc : TypeId × Value → H) :
  ReturnsInHanded {} Tryz.checked os 9 .any (Rows.fnExactStratifiedModelSpec.pre6 enc Tryz.prog Tryz.f9 Rows.fnExactStratifiedModelRow.domain false) (Rows.fnExactStratifiedModelSpec.post enc Tryz.prog Tryz.f9 false true false false) := by
 refine returnsInHanded_of_change (C := Tryz.checked) FnExactStratifiedModel.own started (by kernel_rfl) Tryz.func9
  (ChangeSpec.witness6 (enc := enc) (C := Tryz.checked) false ⟨#[], #[.agg #[.slice none 0 0], .slice none 0 0], []⟩ 8 (by kernel_rfl) (by kernel_rfl) (by kernel_rfl) (by kernel_rfl)) ?_
 intro W base args ds gs before hval0 hW hcnd _
 have hval : ∀ (j : Nat) t v, Tryz.f9.params[j]? = some t → args[j]? = some v → Value.okWide Tryz.prog W .any base t v := hval0
 have hW' := hW
 obtain ⟨p, q, hA0, hV, rfl, hfz, hnd⟩ := hW
 have hA : DataW.TrodAll enc Tryz.prog W 0 (fun _ => true) true Tryz.f9.params.toList args.toList ds p := hA0
 rw [Tryz.params9] at hA hval
 obtain ⟨v0, v1, d0, d1, p0, p1, rfl, rfl, hp0, h0, h1⟩ := trodAll_two hA
 obtain ⟨e0, ⟨g0, rfl, w0⟩, cs0, rfl, hr0⟩ := read_struct Tryz.underlying24 read_Program (hval 0 _ _ rfl rfl) h0
 obtain ⟨e1, ⟨l1, rfl, w1⟩, hr1⟩ := read_cell (fun cs => okWide_slice Tryz.underlying25 cs) read_TermS (hval 1 _ _ rfl rfl) h1
 refine law_calls FnExactStratifiedModel.laidOut (fn := Tryz.f9) (tb := 4) ?_ (by kernel_rfl) und_bool rfl rfl hW' ⟨Tryz.f9, Tryz.func9, by kernel_rfl, by kernel_rfl⟩ ?_
 ·intro t ht
  have : Tryz.f9.params.toList = [24, 25] := by rw [Tryz.params9]
  rw [this] at ht
  simp only [List.mem_cons, List.not_mem_nil, or_false] at ht
  rcases ht with rfl | rfl
  ·exact ⟨by kernel_rfl, of_decide_eq_true (by kernel_rfl)⟩
  ·exact ⟨by kernel_rfl, of_decide_eq_true (by kernel_rfl)⟩
 ·exact FnExactStratifiedModel_spec (Pg.rep hr0) hr1 w0 w1
theorem FnExactStratifiedModel.k0 : (Rows.fnExactStratifiedModelRow.wf (OpenSpec.ofChange Rows.fnExactStratifiedModelSpec)) = true := by kernel_rfl
theorem FnExactStratifiedModel.k1 : (laidOutB Tryz.pinned.checked.prog) = true := by kernel_rfl
theorem FnExactStratifiedModel.k2 : (mapsRowed Tryz.pinned.checked.prog) = true := by kernel_rfl
theorem FnExactStratifiedModel.k3 : (Tryz.f9.params.all (Tryz.pinned.checked.prog.readableRec ·)) = true := by kernel_rfl
theorem FnExactStratifiedModel.k4 : (namedTie Tryz.pinned.checked.prog Rows.fnExactStratifiedModelRow.named Rows.fnExactStratifiedModelSpec.vars) = true := by kernel_rfl
theorem FnExactStratifiedModel.k5 : (Rows.fnExactStratifiedModelRow.stops == []) = true := by kernel_rfl
theorem FnExactStratifiedModel.k6 : (Tryz.pinned.checked.prog.stops == []) = true := by kernel_rfl
theorem FnExactStratifiedModel.k7 : (Rows.fnExactStratifiedModelRow.knobs == []) = true := by kernel_rfl
theorem FnExactStratifiedModel.k8 : (Tryz.pinned.checked.prog.stopKnobs == []) = true := by kernel_rfl
theorem FnExactStratifiedModel.k9 : (Rows.fnExactStratifiedModelRow.inPlace == Tryz.pinned.checked.prog.inPlace 9) = true := by kernel_rfl
theorem FnExactStratifiedModel.k10 : (Rows.fnExactStratifiedModelRow.unfollowed == Tryz.pinned.checked.prog.unfollowed 9) = true := by kernel_rfl
theorem FnExactStratifiedModel.k11 : (Rows.fnExactStratifiedModelRow.recurses == Tryz.pinned.checked.prog.recurses 9) = true := by kernel_rfl
theorem FnExactStratifiedModel.k12 : (Rows.fnExactStratifiedModelRow.named == Tryz.pinned.checked.prog.varsNamed 9) = true := by kernel_rfl
theorem FnExactStratifiedModel.k13 : (Rows.fnExactStratifiedModelRow.maps == (Tryz.f9.params.toList ++ Rows.fnExactStratifiedModelSpec.plain.varTypes Tryz.pinned.checked.prog).any (Tryz.pinned.checked.prog.mapsRec ·)) = true := by kernel_rfl
theorem FnExactStratifiedModel.k14 : (Rows.fnExactStratifiedModelRow.ifaces == (Tryz.f9.params.toList ++ Rows.fnExactStratifiedModelSpec.plain.varTypes Tryz.pinned.checked.prog).any (Tryz.pinned.checked.prog.ifacesRec ·)) = true := by kernel_rfl
theorem FnExactStratifiedModel.k15 : (Rows.fnExactStratifiedModelRow.mapsOut == Tryz.pinned.checked.prog.mapsAmong Tryz.f9.resultTypes.toList) = true := by kernel_rfl
theorem FnExactStratifiedModel.k16 : (Rows.fnExactStratifiedModelRow.loops == (Tryz.f9.params.toList ++ Rows.fnExactStratifiedModelSpec.plain.varTypes Tryz.pinned.checked.prog).any (Tryz.pinned.checked.prog.loopsFrom ·)) = true := by kernel_rfl
theorem FnExactStratifiedModel.k17 : (Rows.fnExactStratifiedModelRow.wideKeys == (Tryz.f9.params.toList ++ Rows.fnExactStratifiedModelSpec.plain.varTypes Tryz.pinned.checked.prog ++ Tryz.f9.resultTypes.toList).any (Tryz.pinned.checked.prog.wideKeysFrom ·)) = true := by kernel_rfl
theorem FnExactStratifiedModel.k18 : (Rows.fnExactStratifiedModelSpec.vars.all (Tryz.pinned.checked.prog.varReadable ·)) = true := by kernel_rfl
theorem FnExactStratifiedModel.k19 : (Tryz.f9.resultTypes.all (fun t => Tryz.pinned.checked.prog.readableRec t && decide (t < Tryz.pinned.checked.prog.types.size))) = true := by kernel_rfl
theorem FnExactStratifiedModel.k20 : (Rows.fnExactStratifiedModelRow.ifacesOut == Tryz.f9.resultTypes.toList.any (Tryz.pinned.checked.prog.ifacesRec ·)) = true := by kernel_rfl
theorem FnExactStratifiedModel.k21 : (Rows.fnExactStratifiedModelRow.loopsOut == Tryz.f9.resultTypes.toList.any (Tryz.pinned.checked.prog.loopsFrom ·)) = true := by kernel_rfl
theorem FnExactStratifiedModel.k22 : (Rows.fnExactStratifiedModelRow.plainKeys == Tryz.pinned.checked.prog.plainKeys) = true := by kernel_rfl
theorem FnExactStratifiedModel.k23 : (Rows.fnExactStratifiedModelRow.shortTexts.isNone) = true := by kernel_rfl
theorem FnExactStratifiedModel.k24 : (Tryz.pinned.checked.prog.stopsHeard) = true := by kernel_rfl
theorem FnExactStratifiedModel.k25 : (Tryz.pinned.checked.prog.mayEnter) = true := by kernel_rfl
theorem FnExactStratifiedModel.k26 : (Rows.fnExactStratifiedModelRow.lifted == Tryz.pinned.checked.prog.liftsFinal) = true := by kernel_rfl
theorem FnExactStratifiedModel.k27 : (Tryz.pinned.checked.prog.make == some Rows.fnExactStratifiedModelRow.make) = true := by kernel_rfl
theorem FnExactStratifiedModel.k28 : (Rows.fnExactStratifiedModelRow.kinds == (if Rows.fnExactStratifiedModelRow.domain.isEmpty then [] else Tryz.f9.params.toList.map fun t => match Tryz.pinned.checked.prog.underlying t with | some (.int k) => some k | _ => none)) = true := by kernel_rfl
theorem FnExactStratifiedModel.k29 : (Rows.fnExactStratifiedModelRow.pinned == Rows.fnExactStratifiedModelRow.pinnedBy) = true := by kernel_rfl
theorem FnExactStratifiedModel.k30 : (Rows.fnExactStratifiedModelRow.veiled == (Tryz.f9.params.toList ++ Rows.fnExactStratifiedModelSpec.plain.varTypes Tryz.pinned.checked.prog ++ Tryz.f9.resultTypes.toList).any (Tryz.pinned.checked.prog.veiledRec ·)) = true := by kernel_rfl
theorem FnExactStratifiedModel.k31 : (Rows.fnExactStratifiedModelRow.veiledFits Tryz.pinned.checked.prog Tryz.f9.params.toList (Tryz.f9.params.toList ++ Rows.fnExactStratifiedModelSpec.plain.varTypes Tryz.pinned.checked.prog ++ Tryz.f9.resultTypes.toList)) = true := by kernel_rfl
theorem FnExactStratifiedModel.and2 {a b : Bool} (h1 : a = true) (h2 : b = true) : (a && b) = true := by rw [h1, h2]; rfl
theorem FnExactStratifiedModel.joined {P : Program} {f : FuncId} {fn : Func} {s : ChangeSpec} {c : OpenClaim} (h0 : (c.wf (OpenSpec.ofChange s)) = true) (h1 : (laidOutB P) = true) (h2 : (mapsRowed P) = true) (h3 : (fn.params.all (P.readableRec ·)) = true) (h4 : (namedTie P c.named s.vars) = true) (h5 : (c.stops == []) = true) (h6 : (P.stops == []) = true) (h7 : (c.knobs == []) = true) (h8 : (P.stopKnobs == []) = true) (h9 : (c.inPlace == P.inPlace f) = true) (h10 : (c.unfollowed == P.unfollowed f) = true) (h11 : (c.recurses == P.recurses f) = true) (h12 : (c.named == P.varsNamed f) = true) (h13 : (c.maps == (fn.params.toList ++ s.plain.varTypes P).any (P.mapsRec ·)) = true) (h14 : (c.ifaces == (fn.params.toList ++ s.plain.varTypes P).any (P.ifacesRec ·)) = true) (h15 : (c.mapsOut == P.mapsAmong fn.resultTypes.toList) = true) (h16 : (c.loops == (fn.params.toList ++ s.plain.varTypes P).any (P.loopsFrom ·)) = true) (h17 : (c.wideKeys == (fn.params.toList ++ s.plain.varTypes P ++ fn.resultTypes.toList).any (P.wideKeysFrom ·)) = true) (h18 : (s.vars.all (P.varReadable ·)) = true) (h19 : (fn.resultTypes.all (fun t => P.readableRec t && decide (t < P.types.size))) = true) (h20 : (c.ifacesOut == fn.resultTypes.toList.any (P.ifacesRec ·)) = true) (h21 : (c.loopsOut == fn.resultTypes.toList.any (P.loopsFrom ·)) = true) (h22 : (c.plainKeys == P.plainKeys) = true) (h23 : (c.shortTexts.isNone) = true) (h24 : (P.stopsHeard) = true) (h25 : (P.mayEnter) = true) (h26 : (c.lifted == P.liftsFinal) = true) (h27 : (P.make == some c.make) = true) (h28 : (c.kinds == (if c.domain.isEmpty then [] else fn.params.toList.map fun t => match P.underlying t with | some (.int k) => some k | _ => none)) = true) (h29 : (c.pinned == c.pinnedBy) = true) (h30 : (c.veiled == (fn.params.toList ++ s.plain.varTypes P ++ fn.resultTypes.toList).any (P.veiledRec ·)) = true) (h31 : (c.veiledFits P fn.params.toList (fn.params.toList ++ s.plain.varTypes P ++ fn.resultTypes.toList)) = true) : joinedFacts P f fn s c = true := by
 unfold joinedFacts
 exact FnExactStratifiedModel.and2 (FnExactStratifiedModel.and2 (FnExactStratifiedModel.and2 (FnExactStratifiedModel.and2 (FnExactStratifiedModel.and2 (FnExactStratifiedModel.and2 (FnExactStratifiedModel.and2 (FnExactStratifiedModel.and2 (FnExactStratifiedModel.and2 (FnExactStratifiedModel.and2 (FnExactStratifiedModel.and2 (FnExactStratifiedModel.and2 (FnExactStratifiedModel.and2 (FnExactStratifiedModel.and2 (FnExactStratifiedModel.and2 (FnExactStratifiedModel.and2 (FnExactStratifiedModel.and2 (FnExactStratifiedModel.and2 (FnExactStratifiedModel.and2 (FnExactStratifiedModel.and2 (FnExactStratifiedModel.and2 (FnExactStratifiedModel.and2 (FnExactStratifiedModel.and2 (FnExactStratifiedModel.and2 (FnExactStratifiedModel.and2 (FnExactStratifiedModel.and2 (FnExactStratifiedModel.and2 (FnExactStratifiedModel.and2 (FnExactStratifiedModel.and2 (FnExactStratifiedModel.and2 (FnExactStratifiedModel.and2 (h0) h1) h2) h3) h4) h5) h6) h7) h8) h9) h10) h11) h12) h13) h14) h15) h16) h17) h18) h19) h20) h21) h22) h23) h24) h25) h26) h27) h28) h29) h30) h31
theorem FnExactStratifiedModel.closed : joinedFacts Tryz.pinned.checked.prog 9 Tryz.f9 Rows.fnExactStratifiedModelSpec Rows.fnExactStratifiedModelRow = true := FnExactStratifiedModel.joined (P := Tryz.pinned.checked.prog) (f := 9) (fn := Tryz.f9) (s := Rows.fnExactStratifiedModelSpec) (c := Rows.fnExactStratifiedModelRow) FnExactStratifiedModel.k0 FnExactStratifiedModel.k1 FnExactStratifiedModel.k2 FnExactStratifiedModel.k3 FnExactStratifiedModel.k4 FnExactStratifiedModel.k5 FnExactStratifiedModel.k6 FnExactStratifiedModel.k7 FnExactStratifiedModel.k8 FnExactStratifiedModel.k9 FnExactStratifiedModel.k10 FnExactStratifiedModel.k11 FnExactStratifiedModel.k12 FnExactStratifiedModel.k13 FnExactStratifiedModel.k14 FnExactStratifiedModel.k15 FnExactStratifiedModel.k16 FnExactStratifiedModel.k17 FnExactStratifiedModel.k18 FnExactStratifiedModel.k19 FnExactStratifiedModel.k20 FnExactStratifiedModel.k21 FnExactStratifiedModel.k22 FnExactStratifiedModel.k23 FnExactStratifiedModel.k24 FnExactStratifiedModel.k25 FnExactStratifiedModel.k26 FnExactStratifiedModel.k27 FnExactStratifiedModel.k28 FnExactStratifiedModel.k29 FnExactStratifiedModel.k30 FnExactStratifiedModel.k31
theorem FnExactStratifiedModel_holds : Rows.FnExactStratifiedModelSaid :=
 OpenClaim.holds_of_wide 9 Tryz.f9 rfl rfl rfl rfl rfl rfl rfl ⟨rfl, rfl, rfl, rfl, rfl⟩ rfl rfl rfl rfl rfl (by kernel_rfl) Tryz.func9 FnExactStratifiedModel.closed
  (of_decide_eq_true (by kernel_rfl)) (by unfold Func.isWrapper; first | (rw [if_pos (by decide +kernel)]; kernel_rfl) | (rw [if_neg (by decide +kernel)]; exact ⟨rfl, rfl⟩))
  (fun os started H enc _ => FnExactStratifiedModel.lifted os started H enc)
#print axioms FnExactStratifiedModel_holds
end Go.Proofs.YtheneidclfohoaaGreat
