/- 'laws.FnExactWellFounded' returns true for every input, and each argument reads behind the call as it read before: no condition. -/
import Derived.Test.YtheneidclfohoaaGreatRows
import Derived.Test.YtheneidclfohoaaGreatE1
namespace Go.Proofs.YtheneidclfohoaaGreat
open Go.ChangeShapes Go.WideShapes Go.ChangeAt Go.RowKit Go.Vx
theorem FnExactWellFounded.own : ownKnob Tryz.prog.godebug = none := by kernel_rfl
theorem FnExactWellFounded.laidOut : laidOutB Tryz.prog = true := by kernel_rfl
set_option maxRecDepth 100000 in
theorem FnExactWellFounded.lifted (os : Os) (started : os.Started) (H : Type) (enc : TypeId × Value → H) :
  ReturnsInHanded {} Tryz.checked os 6 .any (Rows.fnExactWellFoundedSpec.pre6 enc Tryz.prog Tryz.f6 Rows.fnExactWellFoundedRow.domain false) (Rows.fnExactWellFoundedSpec.post enc Tryz.prog Tryz.f6 false true false false) := by
 refine returnsInHanded_of_change (C := Tryz.checked) FnExactWellFounded.own started (by kernel_rfl) Tryz.func6
  (ChangeSpec.witness6 (enc := enc) (C := Tryz.checked) false ⟨#[], #[.agg #[.slice none 0 0], .slice none 0 0], []⟩ 8 (by kernel_rfl) (by kernel_rfl) (by kernel_rfl) (by kernel_rfl)) ?_
 intro W base args ds gs before hval0 hW hcnd _
 have hval : ∀ (j : Nat) t v, Tryz.f6.params[j]? = some t → args[j]? = some v → Value.okWide Tryz.prog W .any base t v := hval0
 have hW' := hW
 obtain ⟨p, q, hA0, hV, rfl, hfz, hnd⟩ := hW
 have hA : DataW.TrodAll enc Tryz.prog W 0 (fun _ => true) true Tryz.f6.params.toList args.toList ds p := hA0
 rw [Tryz.params6] at hA hval
 obtain ⟨v0, v1, d0, d1, p0, p1, rfl, rfl, hp0, h0, h1⟩ := trodAll_two hA
 obtain ⟨e0, ⟨g0, rfl, w0⟩, cs0, rfl, hr0⟩ := read_struct Tryz.underlying24 read_Program (hval 0 _ _ rfl rfl) h0
 obtain ⟨e1, ⟨l1, rfl, w1⟩, hr1⟩ := read_cell (fun cs => okWide_slice Tryz.underlying25 cs) read_TermS (hval 1 _ _ rfl rfl) h1
 refine law_calls FnExactWellFounded.laidOut (fn := Tryz.f6) (tb := 4) ?_ (by kernel_rfl) und_bool rfl rfl hW' ⟨Tryz.f6, Tryz.func6, by kernel_rfl, by kernel_rfl⟩ ?_
 ·intro t ht
  have : Tryz.f6.params.toList = [24, 25] := by rw [Tryz.params6]
  rw [this] at ht
  simp only [List.mem_cons, List.not_mem_nil, or_false] at ht
  rcases ht with rfl | rfl
  ·exact ⟨by kernel_rfl, of_decide_eq_true (by kernel_rfl)⟩
  ·exact ⟨by kernel_rfl, of_decide_eq_true (by kernel_rfl)⟩
 ·exact FnExactWellFounded_spec (Pg.rep hr0) hr1 w0 w1
theorem FnExactWellFounded.k0 : (Rows.fnExactWellFoundedRow.wf (OpenSpec.ofChange Rows.fnExactWellFoundedSpec)) = true := by kernel_rfl
theorem FnExactWellFounded.k1 : (laidOutB Tryz.pinned.checked.prog) = true := by kernel_rfl
theorem FnExactWellFounded.k2 : (mapsRowed Tryz.pinned.checked.prog) = true := by kernel_rfl
theorem FnExactWellFounded.k3 : (Tryz.f6.params.all (Tryz.pinned.checked.prog.readableRec ·)) = true := by kernel_rfl
theorem FnExactWellFounded.k4 : (namedTie Tryz.pinned.checked.prog Rows.fnExactWellFoundedRow.named Rows.fnExactWellFoundedSpec.vars) = true := by kernel_rfl
theorem FnExactWellFounded.k5 : (Rows.fnExactWellFoundedRow.stops == []) = true := by kernel_rfl
theorem FnExactWellFounded.k6 : (Tryz.pinned.checked.prog.stops == []) = true := by kernel_rfl
theorem FnExactWellFounded.k7 : (Rows.fnExactWellFoundedRow.knobs == []) = true := by kernel_rfl
theorem FnExactWellFounded.k8 : (Tryz.pinned.checked.prog.stopKnobs == []) = true := by kernel_rfl
theorem FnExactWellFounded.k9 : (Rows.fnExactWellFoundedRow.inPlace == Tryz.pinned.checked.prog.inPlace 6) = true := by kernel_rfl
theorem FnExactWellFounded.k10 : (Rows.fnExactWellFoundedRow.unfollowed == Tryz.pinned.checked.prog.unfollowed 6) = true := by kernel_rfl
theorem FnExactWellFounded.k11 : (Rows.fnExactWellFoundedRow.recurses == Tryz.pinned.checked.prog.recurses 6) = true := by kernel_rfl
theorem FnExactWellFounded.k12 : (Rows.fnExactWellFoundedRow.named == Tryz.pinned.checked.prog.varsNamed 6) = true := by kernel_rfl
theorem FnExactWellFounded.k13 : (Rows.fnExactWellFoundedRow.maps == (Tryz.f6.params.toList ++ Rows.fnExactWellFoundedSpec.plain.varTypes Tryz.pinned.checked.prog).any (Tryz.pinned.checked.prog.mapsRec ·)) = true := by kernel_rfl
theorem FnExactWellFounded.k14 : (Rows.fnExactWellFoundedRow.ifaces == (Tryz.f6.params.toList ++ Rows.fnExactWellFoundedSpec.plain.varTypes Tryz.pinned.checked.prog).any (Tryz.pinned.checked.prog.ifacesRec ·)) = true := by kernel_rfl
theorem FnExactWellFounded.k15 : (Rows.fnExactWellFoundedRow.mapsOut == Tryz.pinned.checked.prog.mapsAmong Tryz.f6.resultTypes.toList) = true := by kernel_rfl
theorem FnExactWellFounded.k16 : (Rows.fnExactWellFoundedRow.loops == (Tryz.f6.params.toList ++ Rows.fnExactWellFoundedSpec.plain.varTypes Tryz.pinned.checked.prog).any (Tryz.pinned.checked.prog.loopsFrom ·)) = true := by kernel_rfl
theorem FnExactWellFounded.k17 : (Rows.fnExactWellFoundedRow.wideKeys == (Tryz.f6.params.toList ++ Rows.fnExactWellFoundedSpec.plain.varTypes Tryz.pinned.checked.prog ++ Tryz.f6.resultTypes.toList).any (Tryz.pinned.checked.prog.wideKeysFrom ·)) = true := by kernel_rfl
theorem FnExactWellFounded.k18 : (Rows.fnExactWellFoundedSpec.vars.all (Tryz.pinned.checked.prog.varReadable ·)) = true := by kernel_rfl
theorem FnExactWellFounded.k19 : (Tryz.f6.resultTypes.all (fun t => Tryz.pinned.checked.prog.readableRec t && decide (t < Tryz.pinned.checked.prog.types.size))) = true := by kernel_rfl
theorem FnExactWellFounded.k20 : (Rows.fnExactWellFoundedRow.ifacesOut == Tryz.f6.resultTypes.toList.any (Tryz.pinned.checked.prog.ifacesRec ·)) = true := by kernel_rfl
theorem FnExactWellFounded.k21 : (Rows.fnExactWellFoundedRow.loopsOut == Tryz.f6.resultTypes.toList.any (Tryz.pinned.checked.prog.loopsFrom ·)) = true := by kernel_rfl
theorem FnExactWellFounded.k22 : (Rows.fnExactWellFoundedRow.plainKeys == Tryz.pinned.checked.prog.plainKeys) = true := by kernel_rfl
theorem FnExactWellFounded.k23 : (Rows.fnExactWellFoundedRow.shortTexts.isNone) = true := by kernel_rfl
theorem FnExactWellFounded.k24 : (Tryz.pinned.checked.prog.stopsHeard) = true := by kernel_rfl
theorem FnExactWellFounded.k25 : (Tryz.pinned.checked.prog.mayEnter) = true := by kernel_rfl
theorem FnExactWellFounded.k26 : (Rows.fnExactWellFoundedRow.lifted == Tryz.pinned.checked.prog.liftsFinal) = true := by kernel_rfl
theorem FnExactWellFounded.k27 : (Tryz.pinned.checked.prog.make == some Rows.fnExactWellFoundedRow.make) = true := by kernel_rfl
theorem FnExactWellFounded.k28 : (Rows.fnExactWellFoundedRow.kinds == (if Rows.fnExactWellFoundedRow.domain.isEmpty then [] else Tryz.f6.params.toList.map fun t => match Tryz.pinned.checked.prog.underlying t with | some (.int k) => some k | _ => none)) = true := by kernel_rfl
theorem FnExactWellFounded.k29 : (Rows.fnExactWellFoundedRow.pinned == Rows.fnExactWellFoundedRow.pinnedBy) = true := by kernel_rfl
theorem FnExactWellFounded.k30 : (Rows.fnExactWellFoundedRow.veiled == (Tryz.f6.params.toList ++ Rows.fnExactWellFoundedSpec.plain.varTypes Tryz.pinned.checked.prog ++ Tryz.f6.resultTypes.toList).any (Tryz.pinned.checked.prog.veiledRec ·)) = true := by kernel_rfl
theorem FnExactWellFounded.k31 : (Rows.fnExactWellFoundedRow.veiledFits Tryz.pinned.checked.prog Tryz.f6.params.toList (Tryz.f6.params.toList ++ Rows.fnExactWellFoundedSpec.plain.varTypes Tryz.pinned.checked.prog ++ Tryz.f6.resultTypes.toList)) = true := by kernel_rfl
theorem FnExactWellFounded.and2 {a b : Bool} (h1 : a = true) (h2 : b = true) : (a && b) = true := by rw [h1, h2]; rfl
theorem FnExactWellFounded.joined {P : Program} {f : FuncId} {fn : Func} {s : ChangeSpec} {c : OpenClaim} (h0 : (c.wf (OpenSpec.ofChange s)) = true) (h1 : (laidOutB P) = true) (h2 : (mapsRowed P) = true) (h3 : (fn.params.all (P.readableRec ·)) = true) (h4 : (namedTie P c.named s.vars) = true) (h5 : (c.stops == []) = true) (h6 : (P.stops == []) = true) (h7 : (c.knobs == []) = true) (h8 : (P.stopKnobs == []) = true) (h9 : (c.inPlace == P.inPlace f) = true) (h10 : (c.unfollowed == P.unfollowed f) = true) (h11 : (c.recurses == P.recurses f) = true) (h12 : (c.named == P.varsNamed f) = true) (h13 : (c.maps == (fn.params.toList ++ s.plain.varTypes P).any (P.mapsRec ·)) = true) (h14 : (c.ifaces == (fn.params.toList ++ s.plain.varTypes P).any (P.ifacesRec ·)) = true) (h15 : (c.mapsOut == P.mapsAmong fn.resultTypes.toList) = true) (h16 : (c.loops == (fn.params.toList ++ s.plain.varTypes P).any (P.loopsFrom ·)) = true) (h17 : (c.wideKeys == (fn.params.toList ++ s.plain.varTypes P ++ fn.resultTypes.toList).any (P.wideKeysFrom ·)) = true) (h18 : (s.vars.all (P.varReadable ·)) = true) (h19 : (fn.resultTypes.all (fun t => P.readableRec t && decide (t < P.types.size))) = true) (h20 : (c.ifacesOut == fn.resultTypes.toList.any (P.ifacesRec ·)) = true) (h21 : (c.loopsOut == fn.resultTypes.toList.any (P.loopsFrom ·)) = true) (h22 : (c.plainKeys == P.plainKeys) = true) (h23 : (c.shortTexts.isNone) = true) (h24 : (P.stopsHeard) = true) (h25 : (P.mayEnter) = true) (h26 : (c.lifted == P.liftsFinal) = true) (h27 : (P.make == some c.make) = true) (h28 : (c.kinds == (if c.domain.isEmpty then [] else fn.params.toList.map fun t => match P.underlying t with | some (.int k) => some k | _ => none)) = true) (h29 : (c.pinned == c.pinnedBy) = true) (h30 : (c.veiled == (fn.params.toList ++ s.plain.varTypes P ++ fn.resultTypes.toList).any (P.veiledRec ·)) = true) (h31 : (c.veiledFits P fn.params.toList (fn.params.toList ++ s.plain.varTypes P ++ fn.resultTypes.toList)) = true) : joinedFacts P f fn s c = true := by
 unfold joinedFacts
 exact FnExactWellFounded.and2 (FnExactWellFounded.and2 (FnExactWellFounded.and2 (FnExactWellFounded.and2 (FnExactWellFounded.and2 (FnExactWellFounded.and2 (FnExactWellFounded.and2 (FnExactWellFounded.and2 (FnExactWellFounded.and2 (FnExactWellFounded.and2 (FnExactWellFounded.and2 (FnExactWellFounded.and2 (FnExactWellFounded.and2 (FnExactWellFounded.and2 (FnExactWellFounded.and2 (FnExactWellFounded.and2 (FnExactWellFounded.and2 (FnExactWellFounded.and2 (FnExactWellFounded.and2 (FnExactWellFounded.and2 (FnExactWellFounded.and2 (FnExactWellFounded.and2 (FnExactWellFounded.and2 (FnExactWellFounded.and2 (FnExactWellFounded.and2 (FnExactWellFounded.and2 (FnExactWellFounded.and2 (FnExactWellFounded.and2 (FnExactWellFounded.and2 (FnExactWellFounded.and2 (FnExactWellFounded.and2 (h0) h1) h2) h3) h4) h5) h6) h7) h8) h9) h10) h11) h12) h13) h14) h15) h16) h17) h18) h19) h20) h21) h22) h23) h24) h25) h26) h27) h28) h29) h30) h31
theorem FnExactWellFounded.closed : joinedFacts Tryz.pinned.checked.prog 6 Tryz.f6 Rows.fnExactWellFoundedSpec Rows.fnExactWellFoundedRow = true := FnExactWellFounded.joined (P := Tryz.pinned.checked.prog) (f := 6) (fn := Tryz.f6) (s := Rows.fnExactWellFoundedSpec) (c := Rows.fnExactWellFoundedRow) FnExactWellFounded.k0 FnExactWellFounded.k1 FnExactWellFounded.k2 FnExactWellFounded.k3 FnExactWellFounded.k4 FnExactWellFounded.k5 FnExactWellFounded.k6 FnExactWellFounded.k7 FnExactWellFounded.k8 FnExactWellFounded.k9 FnExactWellFounded.k10 FnExactWellFounded.k11 FnExactWellFounded.k12 FnExactWellFounded.k13 FnExactWellFounded.k14 FnExactWellFounded.k15 FnExactWellFounded.k16 FnExactWellFounded.k17 FnExactWellFounded.k18 FnExactWellFounded.k19 FnExactWellFounded.k20 FnExactWellFounded.k21 FnExactWellFounded.k22 FnExactWellFounded.k23 FnExactWellFounded.k24 FnExactWellFounded.k25 FnExactWellFounded.k26 FnExactWellFounded.k27 FnExactWellFounded.k28 FnExactWellFounded.k29 FnExactWellFounded.k30 FnExactWellFounded.k31
theorem FnExactWellFounded_holds : Rows.FnExactWellFoundedSaid :=
 OpenClaim.holds_of_wide 6 Tryz.f6 rfl rfl rfl rfl rfl rfl rfl ⟨rfl, rfl, rfl, rfl, rfl⟩ rfl rfl rfl rfl rfl (by kernel_rfl) Tryz.func6 FnExactWellFounded.closed
  (of_decide_eq_true (by kernel_rfl)) (by unfold Func.isWrapper; first | (rw [if_pos (by decide +kernel)]; kernel_rfl) | (rw [if_neg (by decide +kernel)]; exact ⟨rfl, rfl⟩))
  (fun os started H enc _ => FnExactWellFounded.lifted os started H enc)
#print axioms FnExactWellFounded_holds
end Go.Proofs.YtheneidclfohoaaGreat
