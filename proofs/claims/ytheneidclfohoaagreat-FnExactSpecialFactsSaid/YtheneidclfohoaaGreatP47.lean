/- 'laws.FnExactSpecialFacts' returns true for every input, and each argument reads behind the call as it read before: no condition. -/
import Derived.Test.YtheneidclfohoaaGreatRows
import Derived.Test.YtheneidclfohoaaGreatE1
namespace Go.Proofs.YtheneidclfohoaaGreat
open Go.ChangeShapes Go.WideShapes Go.ChangeAt Go.RowKit Go.Vx
theorem FnExactSpecialFacts.own : ownKnob Tryz.prog.godebug = none := by kernel_rfl
theorem FnExactSpecialFacts.laidOut : laidOutB Tryz.prog = true := by kernel_rfl
set_option maxRecDepth 100000 in
theorem FnExactSpecialFacts.lifted (os : Os) (started : os.Started) (H : Type) (enc : TypeId × Value → H) :
  ReturnsInHanded {} Tryz.checked os 10 .any (Rows.fnExactSpecialFactsSpec.pre6 enc Tryz.prog Tryz.f10 Rows.fnExactSpecialFactsRow.domain false) (Rows.fnExactSpecialFactsSpec.post enc Tryz.prog Tryz.f10 false true false false) := by
 refine returnsInHanded_of_change (C := Tryz.checked) FnExactSpecialFacts.own started (by kernel_rfl) Tryz.func10
  (ChangeSpec.witness6 (enc := enc) (C := Tryz.checked) false ⟨#[], #[.agg #[.slice none 0 0], .slice none 0 0, .string ⟨#[]⟩, .int .i64 0, .agg #[.int .i64 0, .int .i64 0, .string ⟨#[]⟩, .slice none 0 0]], []⟩ 8 (by kernel_rfl) (by kernel_rfl) (by kernel_rfl) (by kernel_rfl)) ?_
 intro W base args ds gs before hval0 hW hcnd _
 have hval : ∀ (j : Nat) t v, Tryz.f10.params[j]? = some t → args[j]? = some v → Value.okWide Tryz.prog W .any base t v := hval0
 have hW' := hW
 obtain ⟨p, q, hA0, hV, rfl, hfz, hnd⟩ := hW
 have hA : DataW.TrodAll enc Tryz.prog W 0 (fun _ => true) true Tryz.f10.params.toList args.toList ds p := hA0
 rw [Tryz.params10] at hA hval
 obtain ⟨v0, v1, v2, v3, v4, d0, d1, d2, d3, d4, p0, p1, p2, p3, p4, rfl, rfl, hp0, h0, h1, h2, h3, h4⟩ := trodAll_five hA
 obtain ⟨e0, ⟨g0, rfl, w0⟩, cs0, rfl, hr0⟩ := read_struct Tryz.underlying24 read_Program (hval 0 _ _ rfl rfl) h0
 obtain ⟨e1, ⟨l1, rfl, w1⟩, hr1⟩ := read_cell (fun cs => okWide_slice Tryz.underlying25 cs) read_TermS (hval 1 _ _ rfl rfl) h1
 obtain ⟨e2, ⟨n2, rfl, w2⟩, hr2⟩ := read_cell (fun cs => okWide_string Tryz.underlying9 cs) (reads_str Tryz.underlying9) (hval 2 _ _ rfl rfl) h2
 obtain ⟨e3, ⟨n3, rfl, w3⟩, hr3⟩ := read_cell (fun cs => okWide_int Tryz.underlying3 cs) (reads_int Tryz.underlying3) (hval 3 _ _ rfl rfl) h3
 obtain ⟨e4, ⟨t4, rfl, w4⟩, cs4, rfl, hr4⟩ := read_struct Tryz.underlying27 read_Term (hval 4 _ _ rfl rfl) h4
 refine law_calls FnExactSpecialFacts.laidOut (fn := Tryz.f10) (tb := 4) ?_ (by kernel_rfl) und_bool rfl rfl hW' ⟨Tryz.f10, Tryz.func10, by kernel_rfl, by kernel_rfl⟩ ?_
 ·intro t ht
  have : Tryz.f10.params.toList = [24, 25, 9, 3, 27] := by rw [Tryz.params10]
  rw [this] at ht
  simp only [List.mem_cons, List.not_mem_nil, or_false] at ht
  rcases ht with rfl | rfl | rfl | rfl | rfl
  ·exact ⟨by kernel_rfl, of_decide_eq_true (by kernel_rfl)⟩
  ·exact ⟨by kernel_rfl, of_decide_eq_true (by kernel_rfl)⟩
  ·exact ⟨by kernel_rfl, of_decide_eq_true (by kernel_rfl)⟩
  ·exact ⟨by kernel_rfl, of_decide_eq_true (by kernel_rfl)⟩
  ·exact ⟨by kernel_rfl, of_decide_eq_true (by kernel_rfl)⟩
 ·exact by
   have e2 : [v2] = [Value.string n2] := hr2
   cases e2
   have e3 : [v3] = [Value.int .i64 n3] := hr3
   cases e3
   exact FnExactSpecialFacts_spec (Pg.rep hr0) hr1 (Tm.rep hr4) w0 w1 w4
theorem FnExactSpecialFacts.k0 : (Rows.fnExactSpecialFactsRow.wf (OpenSpec.ofChange Rows.fnExactSpecialFactsSpec)) = true := by kernel_rfl
theorem FnExactSpecialFacts.k1 : (laidOutB Tryz.pinned.checked.prog) = true := by kernel_rfl
theorem FnExactSpecialFacts.k2 : (mapsRowed Tryz.pinned.checked.prog) = true := by kernel_rfl
theorem FnExactSpecialFacts.k3 : (Tryz.f10.params.all (Tryz.pinned.checked.prog.readableRec ·)) = true := by kernel_rfl
theorem FnExactSpecialFacts.k4 : (namedTie Tryz.pinned.checked.prog Rows.fnExactSpecialFactsRow.named Rows.fnExactSpecialFactsSpec.vars) = true := by kernel_rfl
theorem FnExactSpecialFacts.k5 : (Rows.fnExactSpecialFactsRow.stops == []) = true := by kernel_rfl
theorem FnExactSpecialFacts.k6 : (Tryz.pinned.checked.prog.stops == []) = true := by kernel_rfl
theorem FnExactSpecialFacts.k7 : (Rows.fnExactSpecialFactsRow.knobs == []) = true := by kernel_rfl
theorem FnExactSpecialFacts.k8 : (Tryz.pinned.checked.prog.stopKnobs == []) = true := by kernel_rfl
theorem FnExactSpecialFacts.k9 : (Rows.fnExactSpecialFactsRow.inPlace == Tryz.pinned.checked.prog.inPlace 10) = true := by kernel_rfl
theorem FnExactSpecialFacts.k10 : (Rows.fnExactSpecialFactsRow.unfollowed == Tryz.pinned.checked.prog.unfollowed 10) = true := by kernel_rfl
theorem FnExactSpecialFacts.k11 : (Rows.fnExactSpecialFactsRow.recurses == Tryz.pinned.checked.prog.recurses 10) = true := by kernel_rfl
theorem FnExactSpecialFacts.k12 : (Rows.fnExactSpecialFactsRow.named == Tryz.pinned.checked.prog.varsNamed 10) = true := by kernel_rfl
theorem FnExactSpecialFacts.k13 : (Rows.fnExactSpecialFactsRow.maps == (Tryz.f10.params.toList ++ Rows.fnExactSpecialFactsSpec.plain.varTypes Tryz.pinned.checked.prog).any (Tryz.pinned.checked.prog.mapsRec ·)) = true := by kernel_rfl
theorem FnExactSpecialFacts.k14 : (Rows.fnExactSpecialFactsRow.ifaces == (Tryz.f10.params.toList ++ Rows.fnExactSpecialFactsSpec.plain.varTypes Tryz.pinned.checked.prog).any (Tryz.pinned.checked.prog.ifacesRec ·)) = true := by kernel_rfl
theorem FnExactSpecialFacts.k15 : (Rows.fnExactSpecialFactsRow.mapsOut == Tryz.pinned.checked.prog.mapsAmong Tryz.f10.resultTypes.toList) = true := by kernel_rfl
theorem FnExactSpecialFacts.k16 : (Rows.fnExactSpecialFactsRow.loops == (Tryz.f10.params.toList ++ Rows.fnExactSpecialFactsSpec.plain.varTypes Tryz.pinned.checked.prog).any (Tryz.pinned.checked.prog.loopsFrom ·)) = true := by kernel_rfl
theorem FnExactSpecialFacts.k17 : (Rows.fnExactSpecialFactsRow.wideKeys == (Tryz.f10.params.toList ++ Rows.fnExactSpecialFactsSpec.plain.varTypes Tryz.pinned.checked.prog ++ Tryz.f10.resultTypes.toList).any (Tryz.pinned.checked.prog.wideKeysFrom ·)) = true := by kernel_rfl
theorem FnExactSpecialFacts.k18 : (Rows.fnExactSpecialFactsSpec.vars.all (Tryz.pinned.checked.prog.varReadable ·)) = true := by kernel_rfl
theorem FnExactSpecialFacts.k19 : (Tryz.f10.resultTypes.all (fun t => Tryz.pinned.checked.prog.readableRec t && decide (t < Tryz.pinned.checked.prog.types.size))) = true := by kernel_rfl
theorem FnExactSpecialFacts.k20 : (Rows.fnExactSpecialFactsRow.ifacesOut == Tryz.f10.resultTypes.toList.any (Tryz.pinned.checked.prog.ifacesRec ·)) = true := by kernel_rfl
theorem FnExactSpecialFacts.k21 : (Rows.fnExactSpecialFactsRow.loopsOut == Tryz.f10.resultTypes.toList.any (Tryz.pinned.checked.prog.loopsFrom ·)) = true := by kernel_rfl
theorem FnExactSpecialFacts.k22 : (Rows.fnExactSpecialFactsRow.plainKeys == Tryz.pinned.checked.prog.plainKeys) = true := by kernel_rfl
theorem FnExactSpecialFacts.k23 : (Rows.fnExactSpecialFactsRow.shortTexts.isNone) = true := by kernel_rfl
theorem FnExactSpecialFacts.k24 : (Tryz.pinned.checked.prog.stopsHeard) = true := by kernel_rfl
theorem FnExactSpecialFacts.k25 : (Tryz.pinned.checked.prog.mayEnter) = true := by kernel_rfl
theorem FnExactSpecialFacts.k26 : (Rows.fnExactSpecialFactsRow.lifted == Tryz.pinned.checked.prog.liftsFinal) = true := by kernel_rfl
theorem FnExactSpecialFacts.k27 : (Tryz.pinned.checked.prog.make == some Rows.fnExactSpecialFactsRow.make) = true := by kernel_rfl
theorem FnExactSpecialFacts.k28 : (Rows.fnExactSpecialFactsRow.kinds == (if Rows.fnExactSpecialFactsRow.domain.isEmpty then [] else Tryz.f10.params.toList.map fun t => match Tryz.pinned.checked.prog.underlying t with | some (.int k) => some k | _ => none)) = true := by kernel_rfl
theorem FnExactSpecialFacts.k29 : (Rows.fnExactSpecialFactsRow.pinned == Rows.fnExactSpecialFactsRow.pinnedBy) = true := by kernel_rfl
theorem FnExactSpecialFacts.k30 : (Rows.fnExactSpecialFactsRow.veiled == (Tryz.f10.params.toList ++ Rows.fnExactSpecialFactsSpec.plain.varTypes Tryz.pinned.checked.prog ++ Tryz.f10.resultTypes.toList).any (Tryz.pinned.checked.prog.veiledRec ·)) = true := by kernel_rfl
theorem FnExactSpecialFacts.k31 : (Rows.fnExactSpecialFactsRow.veiledFits Tryz.pinned.checked.prog Tryz.f10.params.toList (Tryz.f10.params.toList ++ Rows.fnExactSpecialFactsSpec.plain.varTypes Tryz.pinned.checked.prog ++ Tryz.f10.resultTypes.toList)) = true := by kernel_rfl
theorem FnExactSpecialFacts.and2 {a b : Bool} (h1 : a = true) (h2 : b = true) : (a && b) = true := by rw [h1, h2]; rfl
theorem FnExactSpecialFacts.joined {P : Program} {f : FuncId} {fn : Func} {s : ChangeSpec} {c : OpenClaim} (h0 : (c.wf (OpenSpec.ofChange s)) = true) (h1 : (laidOutB P) = true) (h2 : (mapsRowed P) = true) (h3 : (fn.params.all (P.readableRec ·)) = true) (h4 : (namedTie P c.named s.vars) = true) (h5 : (c.stops == []) = true) (h6 : (P.stops == []) = true) (h7 : (c.knobs == []) = true) (h8 : (P.stopKnobs == []) = true) (h9 : (c.inPlace == P.inPlace f) = true) (h10 : (c.unfollowed == P.unfollowed f) = true) (h11 : (c.recurses == P.recurses f) = true) (h12 : (c.named == P.varsNamed f) = true) (h13 : (c.maps == (fn.params.toList ++ s.plain.varTypes P).any (P.mapsRec ·)) = true) (h14 : (c.ifaces == (fn.params.toList ++ s.plain.varTypes P).any (P.ifacesRec ·)) = true) (h15 : (c.mapsOut == P.mapsAmong fn.resultTypes.toList) = true) (h16 : (c.loops == (fn.params.toList ++ s.plain.varTypes P).any (P.loopsFrom ·)) = true) (h17 : (c.wideKeys == (fn.params.toList ++ s.plain.varTypes P ++ fn.resultTypes.toList).any (P.wideKeysFrom ·)) = true) (h18 : (s.vars.all (P.varReadable ·)) = true) (h19 : (fn.resultTypes.all (fun t => P.readableRec t && decide (t < P.types.size))) = true) (h20 : (c.ifacesOut == fn.resultTypes.toList.any (P.ifacesRec ·)) = true) (h21 : (c.loopsOut == fn.resultTypes.toList.any (P.loopsFrom ·)) = true) (h22 : (c.plainKeys == P.plainKeys) = true) (h23 : (c.shortTexts.isNone) = true) (h24 : (P.stopsHeard) = true) (h25 : (P.mayEnter) = true) (h26 : (c.lifted == P.liftsFinal) = true) (h27 : (P.make == some c.make) = true) (h28 : (c.kinds == (if c.domain.isEmpty then [] else fn.params.toList.map fun t => match P.underlying t with | some (.int k) => some k | _ => none)) = true) (h29 : (c.pinned == c.pinnedBy) = true) (h30 : (c.veiled == (fn.params.toList ++ s.plain.varTypes P ++ fn.resultTypes.toList).any (P.veiledRec ·)) = true) (h31 : (c.veiledFits P fn.params.toList (fn.params.toList ++ s.plain.varTypes P ++ fn.resultTypes.toList)) = true) : joinedFacts P f fn s c = true := by
 unfold joinedFacts
 exact FnExactSpecialFacts.and2 (FnExactSpecialFacts.and2 (FnExactSpecialFacts.and2 (FnExactSpecialFacts.and2 (FnExactSpecialFacts.and2 (FnExactSpecialFacts.and2 (FnExactSpecialFacts.and2 (FnExactSpecialFacts.and2 (FnExactSpecialFacts.and2 (FnExactSpecialFacts.and2 (FnExactSpecialFacts.and2 (FnExactSpecialFacts.and2 (FnExactSpecialFacts.and2 (FnExactSpecialFacts.and2 (FnExactSpecialFacts.and2 (FnExactSpecialFacts.and2 (FnExactSpecialFacts.and2 (FnExactSpecialFacts.and2 (FnExactSpecialFacts.and2 (FnExactSpecialFacts.and2 (FnExactSpecialFacts.and2 (FnExactSpecialFacts.and2 (FnExactSpecialFacts.and2 (FnExactSpecialFacts.and2 (FnExactSpecialFacts.and2 (FnExactSpecialFacts.and2 (FnExactSpecialFacts.and2 (FnExactSpecialFacts.and2 (FnExactSpecialFacts.and2 (FnExactSpecialFacts.and2 (FnExactSpecialFacts.and2 (h0) h1) h2) h3) h4) h5) h6) h7) h8) h9) h10) h11) h12) h13) h14) h15) h16) h17) h18) h19) h20) h21) h22) h23) h24) h25) h26) h27) h28) h29) h30) h31
theorem FnExactSpecialFacts.closed : joinedFacts Tryz.pinned.checked.prog 10 Tryz.f10 Rows.fnExactSpecialFactsSpec Rows.fnExactSpecialFactsRow = true := FnExactSpecialFacts.joined (P := Tryz.pinned.checked.prog) (f := 10) (fn := Tryz.f10) (s := Rows.fnExactSpecialFactsSpec) (c := Rows.fnExactSpecialFactsRow) FnExactSpecialFacts.k0 FnExactSpecialFacts.k1 FnExactSpecialFacts.k2 FnExactSpecialFacts.k3 FnExactSpecialFacts.k4 FnExactSpecialFacts.k5 FnExactSpecialFacts.k6 FnExactSpecialFacts.k7 FnExactSpecialFacts.k8 FnExactSpecialFacts.k9 FnExactSpecialFacts.k10 FnExactSpecialFacts.k11 FnExactSpecialFacts.k12 FnExactSpecialFacts.k13 FnExactSpecialFacts.k14 FnExactSpecialFacts.k15 FnExactSpecialFacts.k16 FnExactSpecialFacts.k17 FnExactSpecialFacts.k18 FnExactSpecialFacts.k19 FnExactSpecialFacts.k20 FnExactSpecialFacts.k21 FnExactSpecialFacts.k22 FnExactSpecialFacts.k23 FnExactSpecialFacts.k24 FnExactSpecialFacts.k25 FnExactSpecialFacts.k26 FnExactSpecialFacts.k27 FnExactSpecialFacts.k28 FnExactSpecialFacts.k29 FnExactSpecialFacts.k30 FnExactSpecialFacts.k31
theorem FnExactSpecialFacts_holds : Rows.FnExactSpecialFactsSaid :=
 OpenClaim.holds_of_wide 10 Tryz.f10 rfl rfl rfl rfl rfl rfl rfl ⟨rfl, rfl, rfl, rfl, rfl⟩ rfl rfl rfl rfl rfl (by kernel_rfl) Tryz.func10 FnExactSpecialFacts.closed
  (of_decide_eq_true (by kernel_rfl)) (by unfold Func.isWrapper; first | (rw [if_pos (by decide +kernel)]; kernel_rfl) | (rw [if_neg (by decide +kernel)]; exact ⟨rfl, rfl⟩))
  (fun os started H enc _ => FnExactSpecialFacts.lifted os started H enc)
#print axioms FnExactSpecialFacts_holds
end Go.Proofs.YtheneidclfohoaaGreat
