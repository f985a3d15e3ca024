/- 'laws.FnExactSimplifyProgram' returns true for every input, and each argument reads behind the call as it read before: no condition. -/
import Derived.Test.YtdkmmcmnffflaaaGreatRows
import Derived.Test.YtdkmmcmnffflaaaGreatE1
namespace Go.Proofs.YtdkmmcmnffflaaaGreat
open Go.ChangeShapes Go.WideShapes Go.ChangeAt Go.RowKit Go.Vx
theorem FnExactSimplifyProgram.own : ownKnob Tryz.prog.godebug = none := by kernel_rfl
theorem FnExactSimplifyProgram.laidOut : laidOutB Tryz.prog = true := by kernel_rfl
set_option maxRecDepth 100000 in
theorem FnExactSimplifyProgram.lifted (os : Os) (started : os.Started) (H : Type) (enc : TypeId × Value → H) :
  ReturnsInHanded {} Tryz.checked os 6 .any (Rows.fnExactSimplifyProgramSpec.pre6 enc Tryz.prog Tryz.f6 Rows.fnExactSimplifyProgramRow.domain false) (Rows.fnExactSimplifyProgramSpec.post enc Tryz.prog Tryz.f6 false true false false) := by
 refine returnsInHanded_of_change (C := Tryz.checked) FnExactSimplifyProgram.own started (by kernel_rfl) Tryz.func6
  (ChangeSpec.witness6 (enc := enc) (C := Tryz.checked) false ⟨#[], #[.agg #[.slice none 0 0]], []⟩ 8 (by kernel_rfl) (by kernel_rfl) (by kernel_rfl) (by kernel_rfl)) ?_
 intro W base args ds gs before hval0 hW hcnd _
 have hval : ∀ (j : Nat) t v, Tryz.f6.params[j]? = some t → args[j]? = some v → Value.okWide Tryz.prog W .any base t v := hval0
 have hW' := hW
 obtain ⟨p, q, hA0, hV, rfl, hfz, hnd⟩ := hW
 have hA : DataW.TrodAll enc Tryz.prog W 0 (fun _ => true) true Tryz.f6.params.toList args.toList ds p := hA0
 rw [Tryz.params6] at hA hval
 obtain ⟨v0, d0, rfl, rfl, h0⟩ := trodAll_one hA
 obtain ⟨e0, ⟨g0, rfl, w0⟩, cs0, rfl, hr0⟩ := read_struct Tryz.underlying38 read_Program (hval 0 _ _ rfl rfl) h0
 refine law_calls FnExactSimplifyProgram.laidOut (fn := Tryz.f6) (tb := 4) ?_ (by kernel_rfl) und_bool rfl rfl hW' ⟨Tryz.f6, Tryz.func6, by kernel_rfl, by kernel_rfl⟩ ?_
 ·intro t ht
  have : Tryz.f6.params.toList = [38] := by rw [Tryz.params6]
  rw [this] at ht
  simp only [List.mem_cons, List.not_mem_nil, or_false] at ht
  subst ht
  exact ⟨by kernel_rfl, of_decide_eq_true (by kernel_rfl)⟩
 ·exact FnExactSimplifyProgram_spec (Pg.rep hr0) w0
theorem FnExactSimplifyProgram.k0 : (Rows.fnExactSimplifyProgramRow.wf (OpenSpec.ofChange Rows.fnExactSimplifyProgramSpec)) = true := by kernel_rfl
theorem FnExactSimplifyProgram.k1 : (laidOutB Tryz.pinned.checked.prog) = true := by kernel_rfl
theorem FnExactSimplifyProgram.k2 : (mapsRowed Tryz.pinned.checked.prog) = true := by kernel_rfl
theorem FnExactSimplifyProgram.k3 : (Tryz.f6.params.all (Tryz.pinned.checked.prog.readableRec ·)) = true := by kernel_rfl
theorem FnExactSimplifyProgram.k4 : (namedTie Tryz.pinned.checked.prog Rows.fnExactSimplifyProgramRow.named Rows.fnExactSimplifyProgramSpec.vars) = true := by kernel_rfl
theorem FnExactSimplifyProgram.k5 : (Rows.fnExactSimplifyProgramRow.stops == []) = true := by kernel_rfl
theorem FnExactSimplifyProgram.k6 : (Tryz.pinned.checked.prog.stops == []) = true := by kernel_rfl
theorem FnExactSimplifyProgram.k7 : (Rows.fnExactSimplifyProgramRow.knobs == []) = true := by kernel_rfl
theorem FnExactSimplifyProgram.k8 : (Tryz.pinned.checked.prog.stopKnobs == []) = true := by kernel_rfl
theorem FnExactSimplifyProgram.k9 : (Rows.fnExactSimplifyProgramRow.inPlace == Tryz.pinned.checked.prog.inPlace 6) = true := by kernel_rfl
theorem FnExactSimplifyProgram.k10 : (Rows.fnExactSimplifyProgramRow.unfollowed == Tryz.pinned.checked.prog.unfollowed 6) = true := by kernel_rfl
theorem FnExactSimplifyProgram.k11 : (Rows.fnExactSimplifyProgramRow.recurses == Tryz.pinned.checked.prog.recurses 6) = true := by kernel_rfl
theorem FnExactSimplifyProgram.k12 : (Rows.fnExactSimplifyProgramRow.named == Tryz.pinned.checked.prog.varsNamed 6) = true := by kernel_rfl
theorem FnExactSimplifyProgram.k13 : (Rows.fnExactSimplifyProgramRow.maps == (Tryz.f6.params.toList ++ Rows.fnExactSimplifyProgramSpec.plain.varTypes Tryz.pinned.checked.prog).any (Tryz.pinned.checked.prog.mapsRec ·)) = true := by kernel_rfl
theorem FnExactSimplifyProgram.k14 : (Rows.fnExactSimplifyProgramRow.ifaces == (Tryz.f6.params.toList ++ Rows.fnExactSimplifyProgramSpec.plain.varTypes Tryz.pinned.checked.prog).any (Tryz.pinned.checked.prog.ifacesRec ·)) = true := by kernel_rfl
theorem FnExactSimplifyProgram.k15 : (Rows.fnExactSimplifyProgramRow.mapsOut == Tryz.pinned.checked.prog.mapsAmong Tryz.f6.resultTypes.toList) = true := by kernel_rfl
theorem FnExactSimplifyProgram.k16 : (Rows.fnExactSimplifyProgramRow.loops == (Tryz.f6.params.toList ++ Rows.fnExactSimplifyProgramSpec.plain.varTypes Tryz.pinned.checked.prog).any (Tryz.pinned.checked.prog.loopsFrom ·)) = true := by kernel_rfl
theorem FnExactSimplifyProgram.k17 : (Rows.fnExactSimplifyProgramRow.wideKeys == (Tryz.f6.params.toList ++ Rows.fnExactSimplifyProgramSpec.plain.varTypes Tryz.pinned.checked.prog ++ Tryz.f6.resultTypes.toList).any (Tryz.pinned.checked.prog.wideKeysFrom ·)) = true := by kernel_rfl
theorem FnExactSimplifyProgram.k18 : (Rows.fnExactSimplifyProgramSpec.vars.all (Tryz.pinned.checked.prog.varReadable ·)) = true := by kernel_rfl
theorem FnExactSimplifyProgram.k19 : (Tryz.f6.resultTypes.all (fun t => Tryz.pinned.checked.prog.readableRec t && decide (t < Tryz.pinned.checked.prog.types.size))) = true := by kernel_rfl
theorem FnExactSimplifyProgram.k20 : (Rows.fnExactSimplifyProgramRow.ifacesOut == Tryz.f6.resultTypes.toList.any (Tryz.pinned.checked.prog.ifacesRec ·)) = true := by kernel_rfl
theorem FnExactSimplifyProgram.k21 : (Rows.fnExactSimplifyProgramRow.loopsOut == Tryz.f6.resultTypes.toList.any (Tryz.pinned.checked.prog.loopsFrom ·)) = true := by kernel_rfl
theorem FnExactSimplifyProgram.k22 : (Rows.fnExactSimplifyProgramRow.plainKeys == Tryz.pinned.checked.prog.plainKeys) = true := by kernel_rfl
theorem FnExactSimplifyProgram.k23 : (Rows.fnExactSimplifyProgramRow.shortTexts.isNone) = true := by kernel_rfl
theorem FnExactSimplifyProgram.k24 : (Tryz.pinned.checked.prog.stopsHeard) = true := by kernel_rfl
theorem FnExactSimplifyProgram.k25 : (Tryz.pinned.checked.prog.mayEnter) = true := by kernel_rfl
theorem FnExactSimplifyProgram.k26 : (Rows.fnExactSimplifyProgramRow.lifted == Tryz.pinned.checked.prog.liftsFinal) = true := by kernel_rfl
theorem FnExactSimplifyProgram.k27 : (Tryz.pinned.checked.prog.make == some Rows.fnExactSimplifyProgramRow.make) = true := by kernel_rfl
theorem FnExactSimplifyProgram.k28 : (Rows.fnExactSimplifyProgramRow.kinds == (if Rows.fnExactSimplifyProgramRow.domain.isEmpty then [] else Tryz.f6.params.toList.map fun t => match Tryz.pinned.checked.prog.underlying t with | some (.int k) => some k | _ => none)) = true := by kernel_rfl
theorem FnExactSimplifyProgram.k29 : (Rows.fnExactSimplifyProgramRow.pinned == Rows.fnExactSimplifyProgramRow.pinnedBy) = true := by kernel_rfl
theorem FnExactSimplifyProgram.k30 : (Rows.fnExactSimplifyProgramRow.veiled == (Tryz.f6.params.toList ++ Rows.fnExactSimplifyProgramSpec.plain.varTypes Tryz.pinned.checked.prog ++ Tryz.f6.resultTypes.toList).any (Tryz.pinned.checked.prog.veiledRec ·)) = true := by kernel_rfl
theorem FnExactSimplifyProgram.k31 : (Rows.fnExactSimplifyProgramRow.veiledFits Tryz.pinned.checked.prog Tryz.f6.params.toList (Tryz.f6.params.toList ++ Rows.fnExactSimplifyProgramSpec.plain.varTypes Tryz.pinned.checked.prog ++ Tryz.f6.resultTypes.toList)) = true := by kernel_rfl
theorem FnExactSimplifyProgram.and2 {a b : Bool} (h1 : a = true) (h2 : b = true) : (a && b) = true := by rw [h1, h2]; rfl
theorem FnExactSimplifyProgram.joined {P : Program} {f : FuncId} {fn : Func} {s : ChangeSpec} {c : OpenClaim} (h0 : (c.wf (OpenSpec.ofChange s)) = true) (h1 : (laidOutB P) = true) (h2 : (mapsRowed P) = true) (h3 : (fn.params.all (P.readableRec ·)) = true) (h4 : (namedTie P c.named s.vars) = true) (h5 : (c.stops == []) = true) (h6 : (P.stops == []) = true) (h7 : (c.knobs == []) = true) (h8 : (P.stopKnobs == []) = true) (h9 : (c.inPlace == P.inPlace f) = true) (h10 : (c.unfollowed == P.unfollowed f) = true) (h11 : (c.recurses == P.recurses f) = true) (h12 : (c.named == P.varsNamed f) = true) (h13 : (c.maps == (fn.params.toList ++ s.plain.varTypes P).any (P.mapsRec ·)) = true) (h14 : (c.ifaces == (fn.params.toList ++ s.plain.varTypes P).any (P.ifacesRec ·)) = true) (h15 : (c.mapsOut == P.mapsAmong fn.resultTypes.toList) = true) (h16 : (c.loops == (fn.params.toList ++ s.plain.varTypes P).any (P.loopsFrom ·)) = true) (h17 : (c.wideKeys == (fn.params.toList ++ s.plain.varTypes P ++ fn.resultTypes.toList).any (P.wideKeysFrom ·)) = true) (h18 : (s.vars.all (P.varReadable ·)) = true) (h19 : (fn.resultTypes.all (fun t => P.readableRec t && decide (t < P.types.size))) = true) (h20 : (c.ifacesOut == fn.resultTypes.toList.any (P.ifacesRec ·)) = true) (h21 : (c.loopsOut == fn.resultTypes.toList.any (P.loopsFrom ·)) = true) (h22 : (c.plainKeys == P.plainKeys) = true) (h23 : (c.shortTexts.isNone) = true) (h24 : (P.stopsHeard) = true) (h25 : (P.mayEnter) = true) (h26 : (c.lifted == P.liftsFinal) = true) (h27 : (P.make == some c.make) = true) (h28 : (c.kinds == (if c.domain.isEmpty then [] else fn.params.toList.map fun t => match P.underlying t with | some (.int k) => some k | _ => none)) = true) (h29 : (c.pinned == c.pinnedBy) = true) (h30 : (c.veiled == (fn.params.toList ++ s.plain.varTypes P ++ fn.resultTypes.toList).any (P.veiledRec ·)) = true) (h31 : (c.veiledFits P fn.params.toList (fn.params.toList ++ s.plain.varTypes P ++ fn.resultTypes.toList)) = true) : joinedFacts P f fn s c = true := by
 unfold joinedFacts
 exact FnExactSimplifyProgram.and2 (FnExactSimplifyProgram.and2 (FnExactSimplifyProgram.and2 (FnExactSimplifyProgram.and2 (FnExactSimplifyProgram.and2 (FnExactSimplifyProgram.and2 (FnExactSimplifyProgram.and2 (FnExactSimplifyProgram.and2 (FnExactSimplifyProgram.and2 (FnExactSimplifyProgram.and2 (FnExactSimplifyProgram.and2 (FnExactSimplifyProgram.and2 (FnExactSimplifyProgram.and2 (FnExactSimplifyProgram.and2 (FnExactSimplifyProgram.and2 (FnExactSimplifyProgram.and2 (FnExactSimplifyProgram.and2 (FnExactSimplifyProgram.and2 (FnExactSimplifyProgram.and2 (FnExactSimplifyProgram.and2 (FnExactSimplifyProgram.and2 (FnExactSimplifyProgram.and2 (FnExactSimplifyProgram.and2 (FnExactSimplifyProgram.and2 (FnExactSimplifyProgram.and2 (FnExactSimplifyProgram.and2 (FnExactSimplifyProgram.and2 (FnExactSimplifyProgram.and2 (FnExactSimplifyProgram.and2 (FnExactSimplifyProgram.and2 (FnExactSimplifyProgram.and2 (h0) h1) h2) h3) h4) h5) h6) h7) h8) h9) h10) h11) h12) h13) h14) h15) h16) h17) h18) h19) h20) h21) h22) h23) h24) h25) h26) h27) h28) h29) h30) h31
theorem FnExactSimplifyProgram.closed : joinedFacts Tryz.pinned.checked.prog 6 Tryz.f6 Rows.fnExactSimplifyProgramSpec Rows.fnExactSimplifyProgramRow = true := FnExactSimplifyProgram.joined (P := Tryz.pinned.checked.prog) (f := 6) (fn := Tryz.f6) (s := Rows.fnExactSimplifyProgramSpec) (c := Rows.fnExactSimplifyProgramRow) FnExactSimplifyProgram.k0 FnExactSimplifyProgram.k1 FnExactSimplifyProgram.k2 FnExactSimplifyProgram.k3 FnExactSimplifyProgram.k4 FnExactSimplifyProgram.k5 FnExactSimplifyProgram.k6 FnExactSimplifyProgram.k7 FnExactSimplifyProgram.k8 FnExactSimplifyProgram.k9 FnExactSimplifyProgram.k10 FnExactSimplifyProgram.k11 FnExactSimplifyProgram.k12 FnExactSimplifyProgram.k13 FnExactSimplifyProgram.k14 FnExactSimplifyProgram.k15 FnExactSimplifyProgram.k16 FnExactSimplifyProgram.k17 FnExactSimplifyProgram.k18 FnExactSimplifyProgram.k19 FnExactSimplifyProgram.k20 FnExactSimplifyProgram.k21 FnExactSimplifyProgram.k22 FnExactSimplifyProgram.k23 FnExactSimplifyProgram.k24 FnExactSimplifyProgram.k25 FnExactSimplifyProgram.k26 FnExactSimplifyProgram.k27 FnExactSimplifyProgram.k28 FnExactSimplifyProgram.k29 FnExactSimplifyProgram.k30 FnExactSimplifyProgram.k31
theorem FnExactSimplifyProgram_holds : Rows.FnExactSimplifyProgramSaid :=
 OpenClaim.holds_of_wide 6 Tryz.f6 rfl rfl rfl rfl rfl rfl rfl ⟨rfl, rfl, rfl, rfl, rfl⟩ rfl rfl rfl rfl rfl (by kernel_rfl) Tryz.func6 FnExactSimplifyProgram.closed
  (of_decide_eq_true (by kernel_rfl)) (by unfold Func.isWrapper; first | (rw [if_pos (by decide +kernel)]; kernel_rfl) | (rw [if_neg (by decide +kernel)]; exact ⟨rfl, rfl⟩))
  (fun os started H enc _ => FnExactSimplifyProgram.lifted os started H enc)
#print axioms FnExactSimplifyProgram_holds
end Go.Proofs.YtdkmmcmnffflaaaGreat
