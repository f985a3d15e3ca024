/- 'laws.FnExactRemoveFact' returns true for every input, and each argument reads behind the call as it read before: no condition. -/
import Derived.Test.YtheneidclfohoaaGreatRows
import Derived.Test.YtheneidclfohoaaGreatE1
namespace Go.Proofs.YtheneidclfohoaaGreat
open Go.ChangeShapes Go.WideShapes Go.ChangeAt Go.RowKit Go.Vx
theorem FnExactRemoveFact.own : ownKnob Tryz.prog.godebug = none := by kernel_rfl
theorem FnExactRemoveFact.laidOut : laidOutB Tryz.prog = true := by kernel_rfl
set_option maxRecDepth 100000 in
theorem FnExactRemoveFact.lifted (os : Os) (started : os.Started) (H : Type) (enc : TypeId × Value → H) :
  ReturnsInHanded {} Tryz.checked os 14 .any (Rows.fnExactRemoveFactSpec.pre6 enc Tryz.prog Tryz.f14 Rows.fnExactRemoveFactRow.domain false) (Rows.fnExactRemoveFactSpec.post enc Tryz.prog Tryz.f14 false true false false) := by
 refine returnsInHanded_of_change (C := Tryz.checked) FnExactRemoveFact.own started (by kernel_rfl) Tryz.func14
  (ChangeSpec.witness6 (enc := enc) (C := Tryz.checked) false ⟨#[], #[.agg #[.slice none 0 0], .slice none 0 0, .slice none 0 0, .slice none 0 0, .agg #[.string ⟨#[]⟩, .slice none 0 0]], []⟩ 8 (by kernel_rfl) (by kernel_rfl) (by kernel_rfl) (by kernel_rfl)) ?_
 intro W base args ds gs before hval0 hW hcnd _
 have hval : ∀ (j : Nat) t v, Tryz.f14.params[j]? = some t → args[j]? = some v → Value.okWide Tryz.prog W .any base t v := hval0
 have hW' := hW
 obtain ⟨p, q, hA0, hV, rfl, hfz, hnd⟩ := hW
 have hA : DataW.TrodAll enc Tryz.prog W 0 (fun _ => true) true Tryz.f14.params.toList args.toList ds p := hA0
 rw [Tryz.params14] at hA hval
 obtain ⟨v0, v1, v2, v3, v4, d0, d1, d2, d3, d4, p0, p1, p2, p3, p4, rfl, rfl, hp0, h0, h1, h2, h3, h4⟩ := trodAll_five hA
 obtain ⟨e0, ⟨g0, rfl, w0⟩, cs0, rfl, hr0⟩ := read_struct Tryz.underlying24 read_Program (hval 0 _ _ rfl rfl) h0
 obtain ⟨e1, ⟨l1, rfl, w1⟩, hr1⟩ := read_cell (fun cs => okWide_slice Tryz.underlying25 cs) read_TermS (hval 1 _ _ rfl rfl) h1
 obtain ⟨e2, ⟨l2, rfl, w2⟩, hr2⟩ := read_cell (fun cs => okWide_slice Tryz.underlying47 cs) read_FactS (hval 2 _ _ rfl rfl) h2
 obtain ⟨e3, ⟨l3, rfl, w3⟩, hr3⟩ := read_cell (fun cs => okWide_slice Tryz.underlying47 cs) read_FactS (hval 3 _ _ rfl rfl) h3
 obtain ⟨e4, ⟨f4, rfl, w4⟩, cs4, rfl, hr4⟩ := read_struct Tryz.underlying63 read_Fact (hval 4 _ _ rfl rfl) h4
 refine law_calls FnExactRemoveFact.laidOut (fn := Tryz.f14) (tb := 4) ?_ (by kernel_rfl) und_bool rfl rfl hW' ⟨Tryz.f14, Tryz.func14, by kernel_rfl, by kernel_rfl⟩ ?_
 ·intro t ht
  have : Tryz.f14.params.toList = [24, 25, 47, 47, 63] := by rw [Tryz.params14]
  rw [this] at ht
  simp only [List.mem_cons, List.not_mem_nil, or_false] at ht
  rcases ht with rfl | rfl | rfl | rfl | rfl
  ·exact ⟨by kernel_rfl, of_decide_eq_true (by kernel_rfl)⟩
  ·exact ⟨by kernel_rfl, of_decide_eq_true (by kernel_rfl)⟩
  ·exact ⟨by kernel_rfl, of_decide_eq_true (by kernel_rfl)⟩
  ·exact ⟨by kernel_rfl, of_decide_eq_true (by kernel_rfl)⟩
  ·exact ⟨by kernel_rfl, of_decide_eq_true (by kernel_rfl)⟩
 ·exact FnExactRemoveFact_spec (Pg.rep hr0) hr1 hr2 hr3 (Fc.rep hr4) w0 w1 w2 w3 w4
theorem FnExactRemoveFact.k0 : (Rows.fnExactRemoveFactRow.wf (OpenSpec.ofChange Rows.fnExactRemoveFactSpec)) = true := by kernel_rfl
theorem FnExactRemoveFact.k1 : (laidOutB Tryz.pinned.checked.prog) = true := by kernel_rfl
theorem FnExactRemoveFact.k2 : (mapsRowed Tryz.pinned.checked.prog) = true := by kernel_rfl
theorem FnExactRemoveFact.k3 : (Tryz.f14.params.all (Tryz.pinned.checked.prog.readableRec ·)) = true := by kernel_rfl
theorem FnExactRemoveFact.k4 : (namedTie Tryz.pinned.checked.prog Rows.fnExactRemoveFactRow.named Rows.fnExactRemoveFactSpec.vars) = true := by kernel_rfl
theorem FnExactRemoveFact.k5 : (Rows.fnExactRemoveFactRow.stops == []) = true := by kernel_rfl
theorem FnExactRemoveFact.k6 : (Tryz.pinned.checked.prog.stops == []) = true := by kernel_rfl
theorem FnExactRemoveFact.k7 : (Rows.fnExactRemoveFactRow.knobs == []) = true := by kernel_rfl
theorem FnExactRemoveFact.k8 : (Tryz.pinned.checked.prog.stopKnobs == []) = true := by kernel_rfl
theorem FnExactRemoveFact.k9 : (Rows.fnExactRemoveFactRow.inPlace == Tryz.pinned.checked.prog.inPlace 14) = true := by kernel_rfl
theorem FnExactRemoveFact.k10 : (Rows.fnExactRemoveFactRow.unfollowed == Tryz.pinned.checked.prog.unfollowed 14) = true := by kernel_rfl
theorem FnExactRemoveFact.k11 : (Rows.fnExactRemoveFactRow.recurses == Tryz.pinned.checked.prog.recurses 14) = true := by kernel_rfl
theorem FnExactRemoveFact.k12 : (Rows.fnExactRemoveFactRow.named == Tryz.pinned.checked.prog.varsNamed 14) = true := by kernel_rfl
theorem FnExactRemoveFact.k13 : (Rows.fnExactRemoveFactRow.maps == (Tryz.f14.params.toList ++ Rows.fnExactRemoveFactSpec.plain.varTypes Tryz.pinned.checked.prog).any (Tryz.pinned.checked.prog.mapsRec ·)) = true := by kernel_rfl
theorem FnExactRemoveFact.k14 : (Rows.fnExactRemoveFactRow.ifaces == (Tryz.f14.params.toList ++ Rows.fnExactRemoveFactSpec.plain.varTypes Tryz.pinned.checked.prog).any (Tryz.pinned.checked.prog.ifacesRec ·)) = true := by kernel_rfl
theorem FnExactRemoveFact.k15 : (Rows.fnExactRemoveFactRow.mapsOut == Tryz.pinned.checked.prog.mapsAmong Tryz.f14.resultTypes.toList) = true := by kernel_rfl
theorem FnExactRemoveFact.k16 : (Rows.fnExactRemoveFactRow.loops == (Tryz.f14.params.toList ++ Rows.fnExactRemoveFactSpec.plain.varTypes Tryz.pinned.checked.prog).any (Tryz.pinned.checked.prog.loopsFrom ·)) = true := by kernel_rfl
theorem FnExactRemoveFact.k17 : (Rows.fnExactRemoveFactRow.wideKeys == (Tryz.f14.params.toList ++ Rows.fnExactRemoveFactSpec.plain.varTypes Tryz.pinned.checked.prog ++ Tryz.f14.resultTypes.toList).any (Tryz.pinned.checked.prog.wideKeysFrom ·)) = true := by kernel_rfl
theorem FnExactRemoveFact.k18 : (Rows.fnExactRemoveFactSpec.vars.all (Tryz.pinned.checked.prog.varReadable ·)) = true := by kernel_rfl
theorem FnExactRemoveFact.k19 : (Tryz.f14.resultTypes.all (fun t => Tryz.pinned.checked.prog.readableRec t && decide (t < Tryz.pinned.checked.prog.types.size))) = true := by kernel_rfl
theorem FnExactRemoveFact.k20 : (Rows.fnExactRemoveFactRow.ifacesOut == Tryz.f14.resultTypes.toList.any (Tryz.pinned.checked.prog.ifacesRec ·)) = true := by kernel_rfl
theorem FnExactRemoveFact.k21 : (Rows.fnExactRemoveFactRow.loopsOut == Tryz.f14.resultTypes.toList.any (Tryz.pinned.checked.prog.loopsFrom ·)) = true := by kernel_rfl
theorem FnExactRemoveFact.k22 : (Rows.fnExactRemoveFactRow.plainKeys == Tryz.pinned.checked.prog.plainKeys) = true := by kernel_rfl
theorem FnExactRemoveFact.k23 : (Rows.fnExactRemoveFactRow.shortTexts.isNone) = true := by kernel_rfl
theorem FnExactRemoveFact.k24 : (Tryz.pinned.checked.prog.stopsHeard) = true := by kernel_rfl
theorem FnExactRemoveFact.k25 : (Tryz.pinned.checked.prog.mayEnter) = true := by kernel_rfl
theorem FnExactRemoveFact.k26 : (Rows.fnExactRemoveFactRow.lifted == Tryz.pinned.checked.prog.liftsFinal) = true := by kernel_rfl
theorem FnExactRemoveFact.k27 : (Tryz.pinned.checked.prog.make == some Rows.fnExactRemoveFactRow.make) = true := by kernel_rfl
theorem FnExactRemoveFact.k28 : (Rows.fnExactRemoveFactRow.kinds == (if Rows.fnExactRemoveFactRow.domain.isEmpty then [] else Tryz.f14.params.toList.map fun t => match Tryz.pinned.checked.prog.underlying t with | some (.int k) => some k | _ => none)) = true := by kernel_rfl
theorem FnExactRemoveFact.k29 : (Rows.fnExactRemoveFactRow.pinned == Rows.fnExactRemoveFactRow.pinnedBy) = true := by kernel_rfl
theorem FnExactRemoveFact.k30 : (Rows.fnExactRemoveFactRow.veiled == (Tryz.f14.params.toList ++ Rows.fnExactRemoveFactSpec.plain.varTypes Tryz.pinned.checked.prog ++ Tryz.f14.resultTypes.toList).any (Tryz.pinned.checked.prog.veiledRec ·)) = true := by kernel_rfl
theorem FnExactRemoveFact.k31 : (Rows.fnExactRemoveFactRow.veiledFits Tryz.pinned.checked.prog Tryz.f14.params.toList (Tryz.f14.params.toList ++ Rows.fnExactRemoveFactSpec.plain.varTypes Tryz.pinned.checked.prog ++ Tryz.f14.resultTypes.toList)) = true := by kernel_rfl
theorem FnExactRemoveFact.and2 {a b : Bool} (h1 : a = true) (h2 : b = true) : (a && b) = true := by rw [h1, h2]; rfl
theorem FnExactRemoveFact.joined {P : Program} {f : FuncId} {fn : Func} {s : ChangeSpec} {c : OpenClaim} (h0 : (c.wf (OpenSpec.ofChange s)) = true) (h1 : (laidOutB P) = true) (h2 : (mapsRowed P) = true) (h3 : (fn.params.all (P.readableRec ·)) = true) (h4 : (namedTie P c.named s.vars) = true) (h5 : (c.stops == []) = true) (h6 : (P.stops == []) = true) (h7 : (c.knobs == []) = true) (h8 : (P.stopKnobs == []) = true) (h9 : (c.inPlace == P.inPlace f) = true) (h10 : (c.unfollowed == P.unfollowed f) = true) (h11 : (c.recurses == P.recurses f) = true) (h12 : (c.named == P.varsNamed f) = true) (h13 : (c.maps == (fn.params.toList ++ s.plain.varTypes P).any (P.mapsRec ·)) = true) (h14 : (c.ifaces == (fn.params.toList ++ s.plain.varTypes P).any (P.ifacesRec ·)) = true) (h15 : (c.mapsOut == P.mapsAmong fn.resultTypes.toList) = true) (h16 : (c.loops == (fn.params.toList ++ s.plain.varTypes P).any (P.loopsFrom ·)) = true) (h17 : (c.wideKeys == (fn.params.toList ++ s.plain.varTypes P ++ fn.resultTypes.toList).any (P.wideKeysFrom ·)) = true) (h18 : (s.vars.all (P.varReadable ·)) = true) (h19 : (fn.resultTypes.all (fun t => P.readableRec t && decide (t < P.types.size))) = true) (h20 : (c.ifacesOut == fn.resultTypes.toList.any (P.ifacesRec ·)) = true) (h21 : (c.loopsOut == fn.resultTypes.toList.any (P.loopsFrom ·)) = true) (h22 : (c.plainKeys == P.plainKeys) = true) (h23 : (c.shortTexts.isNone) = true) (h24 : (P.stopsHeard) = true) (h25 : (P.mayEnter) = true) (h26 : (c.lifted == P.liftsFinal) = true) (h27 : (P.make == some c.make) = true) (h28 : (c.kinds == (if c.domain.isEmpty then [] else fn.params.toList.map fun t => match P.underlying t with | some (.int k) => some k | _ => none)) = true) (h29 : (c.pinned == c.pinnedBy) = true) (h30 : (c.veiled == (fn.params.toList ++ s.plain.varTypes P ++ fn.resultTypes.toList).any (P.veiledRec ·)) = true) (h31 : (c.veiledFits P fn.params.toList (fn.params.toList ++ s.plain.varTypes P ++ fn.resultTypes.toList)) = true) : joinedFacts P f fn s c = true := by
 unfold joinedFacts
 exact FnExactRemoveFact.and2 (FnExactRemoveFact.and2 (FnExactRemoveFact.and2 (FnExactRemoveFact.and2 (FnExactRemoveFact.and2 (FnExactRemoveFact.and2 (FnExactRemoveFact.and2 (FnExactRemoveFact.and2 (FnExactRemoveFact.and2 (FnExactRemoveFact.and2 (FnExactRemoveFact.and2 (FnExactRemoveFact.and2 (FnExactRemoveFact.and2 (FnExactRemoveFact.and2 (FnExactRemoveFact.and2 (FnExactRemoveFact.and2 (FnExactRemoveFact.and2 (FnExactRemoveFact.and2 (FnExactRemoveFact.and2 (FnExactRemoveFact.and2 (FnExactRemoveFact.and2 (FnExactRemoveFact.and2 (FnExactRemoveFact.and2 (FnExactRemoveFact.and2 (FnExactRemoveFact.and2 (FnExactRemoveFact.and2 (FnExactRemoveFact.and2 (FnExactRemoveFact.and2 (FnExactRemoveFact.and2 (FnExactRemoveFact.and2 (FnExactRemoveFact.and2 (h0) h1) h2) h3) h4) h5) h6) h7) h8) h9) h10) h11) h12) h13) h14) h15) h16) h17) h18) h19) h20) h21) h22) h23) h24) h25) h26) h27) h28) h29) h30) h31
theorem FnExactRemoveFact.closed : joinedFacts Tryz.pinned.checked.prog 14 Tryz.f14 Rows.fnExactRemoveFactSpec Rows.fnExactRemoveFactRow = true := FnExactRemoveFact.joined (P := Tryz.pinned.checked.prog) (f := 14) (fn := Tryz.f14) (s := Rows.fnExactRemoveFactSpec) (c := Rows.fnExactRemoveFactRow) FnExactRemoveFact.k0 FnExactRemoveFact.k1 FnExactRemoveFact.k2 FnExactRemoveFact.k3 FnExactRemoveFact.k4 FnExactRemoveFact.k5 FnExactRemoveFact.k6 FnExactRemoveFact.k7 FnExactRemoveFact.k8 FnExactRemoveFact.k9 FnExactRemoveFact.k10 FnExactRemoveFact.k11 FnExactRemoveFact.k12 FnExactRemoveFact.k13 FnExactRemoveFact.k14 FnExactRemoveFact.k15 FnExactRemoveFact.k16 FnExactRemoveFact.k17 FnExactRemoveFact.k18 FnExactRemoveFact.k19 FnExactRemoveFact.k20 FnExactRemoveFact.k21 FnExactRemoveFact.k22 FnExactRemoveFact.k23 FnExactRemoveFact.k24 FnExactRemoveFact.k25 FnExactRemoveFact.k26 FnExactRemoveFact.k27 FnExactRemoveFact.k28 FnExactRemoveFact.k29 FnExactRemoveFact.k30 FnExactRemoveFact.k31
theorem FnExactRemoveFact_holds : Rows.FnExactRemoveFactSaid :=
 OpenClaim.holds_of_wide 14 Tryz.f14 rfl rfl rfl rfl rfl rfl rfl ⟨rfl, rfl, rfl, rfl, rfl⟩ rfl rfl rfl rfl rfl (by kernel_rfl) Tryz.func14 FnExactRemoveFact.closed
  (of_decide_eq_true (by kernel_rfl)) (by unfold Func.isWrapper; first | (rw [if_pos (by decide +kernel)]; kernel_rfl) | (rw [if_neg (by decide +kernel)]; exact ⟨rfl, rfl⟩))
  (fun os started H enc _ => FnExactRemoveFact.lifted os started H enc)
#print axioms FnExactRemoveFact_holds
end Go.Proofs.YtheneidclfohoaaGreat
