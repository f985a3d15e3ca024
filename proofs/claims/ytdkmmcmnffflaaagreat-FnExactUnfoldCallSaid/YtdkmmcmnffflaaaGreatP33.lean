/- 'laws.FnExactUnfoldCall' returns true for every input, and each argument reads behind the call as it read before: no condition. -/
import Derived.Test.YtdkmmcmnffflaaaGreatRows
import Derived.Test.YtdkmmcmnffflaaaGreatE1
namespace Go.Proofs.YtdkmmcmnffflaaaGreat
open Go.ChangeShapes Go.WideShapes Go.ChangeAt Go.RowKit Go.Vx
theorem FnExactUnfoldCall.own : ownKnob Tryz.prog.godebug = none := by kernel_rfl
theorem FnExactUnfoldCall.laidOut : laidOutB Tryz.prog = true := by kernel_rfl
set_option maxRecDepth 100000 in
theorem FnExactUnfoldCall.lifted (os : Os) (started : os.Started) (H : Type) (enc : TypeId × Value → H) :
  ReturnsInHanded {} Tryz.checked os 5 .any (Rows.fnExactUnfoldCallSpec.pre6 enc Tryz.prog Tryz.f5 Rows.fnExactUnfoldCallRow.domain false) (Rows.fnExactUnfoldCallSpec.post enc Tryz.prog Tryz.f5 false true false false) := by
 refine returnsInHanded_of_change (C := Tryz.checked) FnExactUnfoldCall.own started (by kernel_rfl) Tryz.func5
  (ChangeSpec.witness6 (enc := enc) (C := Tryz.checked) false ⟨#[], #[.agg #[.slice none 0 0], .string ⟨#[]⟩, .int .i64 0, .int .i64 0], []⟩ 8 (by kernel_rfl) (by kernel_rfl) (by kernel_rfl) (by kernel_rfl)) ?_
 intro W base args ds gs before hval0 hW hcnd _
 have hval : ∀ (j : Nat) t v, Tryz.f5.params[j]? = some t → args[j]? = some v → Value.okWide Tryz.prog W .any base t v := hval0
 have hW' := hW
 obtain ⟨p, q, hA0, hV, rfl, hfz, hnd⟩ := hW
 have hA : DataW.TrodAll enc Tryz.prog W 0 (fun _ => true) true Tryz.f5.params.toList args.toList ds p := hA0
 rw [Tryz.params5] at hA hval
 obtain ⟨v0, v1, v2, v3, d0, d1, d2, d3, p0, p1, p2, p3, rfl, rfl, hp0, h0, h1, h2, h3⟩ := trodAll_four hA
 obtain ⟨e0, ⟨g0, rfl, w0⟩, cs0, rfl, hr0⟩ := read_struct Tryz.underlying38 read_Program (hval 0 _ _ rfl rfl) h0
 obtain ⟨e1, ⟨n1, rfl, w1⟩, hr1⟩ := read_cell (fun cs => okWide_string Tryz.underlying9 cs) (reads_str Tryz.underlying9) (hval 1 _ _ rfl rfl) h1
 obtain ⟨e2, ⟨n2, rfl, w2⟩, hr2⟩ := read_cell (fun cs => okWide_int Tryz.underlying3 cs) (reads_int Tryz.underlying3) (hval 2 _ _ rfl rfl) h2
 obtain ⟨e3, ⟨n3, rfl, w3⟩, hr3⟩ := read_cell (fun cs => okWide_int Tryz.underlying3 cs) (reads_int Tryz.underlying3) (hval 3 _ _ rfl rfl) h3
 refine law_calls FnExactUnfoldCall.laidOut (fn := Tryz.f5) (tb := 4) ?_ (by kernel_rfl) und_bool rfl rfl hW' ⟨Tryz.f5, Tryz.func5, by kernel_rfl, by kernel_rfl⟩ ?_
 ·intro t ht
  have : Tryz.f5.params.toList = [38, 9, 3, 3] := by rw [Tryz.params5]
  rw [this] at ht
  simp only [List.mem_cons, List.not_mem_nil, or_false] at ht
  rcases ht with rfl | rfl | rfl | rfl
  ·exact ⟨by kernel_rfl, of_decide_eq_true (by kernel_rfl)⟩
  ·exact ⟨by kernel_rfl, of_decide_eq_true (by kernel_rfl)⟩
  ·exact ⟨by kernel_rfl, of_decide_eq_true (by kernel_rfl)⟩
  ·exact ⟨by kernel_rfl, of_decide_eq_true (by kernel_rfl)⟩
 ·exact by
   have e1 : [v1] = [Value.string n1] := hr1
   cases e1
   have e2 : [v2] = [Value.int .i64 n2] := hr2
   cases e2
   have e3 : [v3] = [Value.int .i64 n3] := hr3
   cases e3
   exact FnExactUnfoldCall_spec w2 w3 (Pg.rep hr0) w0
theorem FnExactUnfoldCall.k0 : (Rows.fnExactUnfoldCallRow.wf (OpenSpec.ofChange Rows.fnExactUnfoldCallSpec)) = true := by kernel_rfl
theorem FnExactUnfoldCall.k1 : (laidOutB Tryz.pinned.checked.prog) = true := by kernel_rfl
theorem FnExactUnfoldCall.k2 : (mapsRowed Tryz.pinned.checked.prog) = true := by kernel_rfl
theorem FnExactUnfoldCall.k3 : (Tryz.f5.params.all (Tryz.pinned.checked.prog.readableRec ·)) = true := by kernel_rfl
theorem FnExactUnfoldCall.k4 : (namedTie Tryz.pinned.checked.prog Rows.fnExactUnfoldCallRow.named Rows.fnExactUnfoldCallSpec.vars) = true := by kernel_rfl
theorem FnExactUnfoldCall.k5 : (Rows.fnExactUnfoldCallRow.stops == []) = true := by kernel_rfl
theorem FnExactUnfoldCall.k6 : (Tryz.pinned.checked.prog.stops == []) = true := by kernel_rfl
theorem FnExactUnfoldCall.k7 : (Rows.fnExactUnfoldCallRow.knobs == []) = true := by kernel_rfl
theorem FnExactUnfoldCall.k8 : (Tryz.pinned.checked.prog.stopKnobs == []) = true := by kernel_rfl
theorem FnExactUnfoldCall.k9 : (Rows.fnExactUnfoldCallRow.inPlace == Tryz.pinned.checked.prog.inPlace 5) = true := by kernel_rfl
theorem FnExactUnfoldCall.k10 : (Rows.fnExactUnfoldCallRow.unfollowed == Tryz.pinned.checked.prog.unfollowed 5) = true := by kernel_rfl
theorem FnExactUnfoldCall.k11 : (Rows.fnExactUnfoldCallRow.recurses == Tryz.pinned.checked.prog.recurses 5) = true := by kernel_rfl
theorem FnExactUnfoldCall.k12 : (Rows.fnExactUnfoldCallRow.named == Tryz.pinned.checked.prog.varsNamed 5) = true := by kernel_rfl
theorem FnExactUnfoldCall.k13 : (Rows.fnExactUnfoldCallRow.maps == (Tryz.f5.params.toList ++ Rows.fnExactUnfoldCallSpec.plain.varTypes Tryz.pinned.checked.prog).any (Tryz.pinned.checked.prog.mapsRec ·)) = true := by kernel_rfl
theorem FnExactUnfoldCall.k14 : (Rows.fnExactUnfoldCallRow.ifaces == (Tryz.f5.params.toList ++ Rows.fnExactUnfoldCallSpec.plain.varTypes Tryz.pinned.checked.prog).any (Tryz.pinned.checked.prog.ifacesRec ·)) = true := by kernel_rfl
theorem FnExactUnfoldCall.k15 : (Rows.fnExactUnfoldCallRow.mapsOut == Tryz.pinned.checked.prog.mapsAmong Tryz.f5.resultTypes.toList) = true := by kernel_rfl
theorem FnExactUnfoldCall.k16 : (Rows.fnExactUnfoldCallRow.loops == (Tryz.f5.params.toList ++ Rows.fnExactUnfoldCallSpec.plain.varTypes Tryz.pinned.checked.prog).any (Tryz.pinned.checked.prog.loopsFrom ·)) = true := by kernel_rfl
theorem FnExactUnfoldCall.k17 : (Rows.fnExactUnfoldCallRow.wideKeys == (Tryz.f5.params.toList ++ Rows.fnExactUnfoldCallSpec.plain.varTypes Tryz.pinned.checked.prog ++ Tryz.f5.resultTypes.toList).any (Tryz.pinned.checked.prog.wideKeysFrom ·)) = true := by kernel_rfl
theorem FnExactUnfoldCall.k18 : (Rows.fnExactUnfoldCallSpec.vars.all (Tryz.pinned.checked.prog.varReadable ·)) = true := by kernel_rfl
theorem FnExactUnfoldCall.k19 : (Tryz.f5.resultTypes.all (fun t => Tryz.pinned.checked.prog.readableRec t && decide (t < Tryz.pinned.checked.prog.types.size))) = true := by kernel_rfl
theorem FnExactUnfoldCall.k20 : (Rows.fnExactUnfoldCallRow.ifacesOut == Tryz.f5.resultTypes.toList.any (Tryz.pinned.checked.prog.ifacesRec ·)) = true := by kernel_rfl
theorem FnExactUnfoldCall.k21 : (Rows.fnExactUnfoldCallRow.loopsOut == Tryz.f5.resultTypes.toList.any (Tryz.pinned.checked.prog.loopsFrom ·)) = true := by kernel_rfl
theorem FnExactUnfoldCall.k22 : (Rows.fnExactUnfoldCallRow.plainKeys == Tryz.pinned.checked.prog.plainKeys) = true := by kernel_rfl
theorem FnExactUnfoldCall.k23 : (Rows.fnExactUnfoldCallRow.shortTexts.isNone) = true := by kernel_rfl
theorem FnExactUnfoldCall.k24 : (Tryz.pinned.checked.prog.stopsHeard) = true := by kernel_rfl
theorem FnExactUnfoldCall.k25 : (Tryz.pinned.checked.prog.mayEnter) = true := by kernel_rfl
theorem FnExactUnfoldCall.k26 : (Rows.fnExactUnfoldCallRow.lifted == Tryz.pinned.checked.prog.liftsFinal) = true := by kernel_rfl
theorem FnExactUnfoldCall.k27 : (Tryz.pinned.checked.prog.make == some Rows.fnExactUnfoldCallRow.make) = true := by kernel_rfl
theorem FnExactUnfoldCall.k28 : (Rows.fnExactUnfoldCallRow.kinds == (if Rows.fnExactUnfoldCallRow.domain.isEmpty then [] else Tryz.f5.params.toList.map fun t => match Tryz.pinned.checked.prog.underlying t with | some (.int k) => some k | _ => none)) = true := by kernel_rfl
theorem FnExactUnfoldCall.k29 : (Rows.fnExactUnfoldCallRow.pinned == Rows.fnExactUnfoldCallRow.pinnedBy) = true := by kernel_rfl
theorem FnExactUnfoldCall.k30 : (Rows.fnExactUnfoldCallRow.veiled == (Tryz.f5.params.toList ++ Rows.fnExactUnfoldCallSpec.plain.varTypes Tryz.pinned.checked.prog ++ Tryz.f5.resultTypes.toList).any (Tryz.pinned.checked.prog.veiledRec ·)) = true := by kernel_rfl
theorem FnExactUnfoldCall.k31 : (Rows.fnExactUnfoldCallRow.veiledFits Tryz.pinned.checked.prog Tryz.f5.params.toList (Tryz.f5.params.toList ++ Rows.fnExactUnfoldCallSpec.plain.varTypes Tryz.pinned.checked.prog ++ Tryz.f5.resultTypes.toList)) = true := by kernel_rfl
theorem FnExactUnfoldCall.and2 {a b : Bool} (h1 : a = true) (h2 : b = true) : (a && b) = true := by rw [h1, h2]; rfl
theorem FnExactUnfoldCall.joined {P : Program} {f : FuncId} {fn : Func} {s : ChangeSpec} {c : OpenClaim} (h0 : (c.wf (OpenSpec.ofChange s)) = true) (h1 : (laidOutB P) = true) (h2 : (mapsRowed P) = true) (h3 : (fn.params.all (P.readableRec ·)) = true) (h4 : (namedTie P c.named s.vars) = true) (h5 : (c.stops == []) = true) (h6 : (P.stops == []) = true) (h7 : (c.knobs == []) = true) (h8 : (P.stopKnobs == []) = true) (h9 : (c.inPlace == P.inPlace f) = true) (h10 : (c.unfollowed == P.unfollowed f) = true) (h11 : (c.recurses == P.recurses f) = true) (h12 : (c.named == P.varsNamed f) = true) (h13 : (c.maps == (fn.params.toList ++ s.plain.varTypes P).any (P.mapsRec ·)) = true) (h14 : (c.ifaces == (fn.params.toList ++ s.plain.varTypes P).any (P.ifacesRec ·)) = true) (h15 : (c.mapsOut == P.mapsAmong fn.resultTypes.toList) = true) (h16 : (c.loops == (fn.params.toList ++ s.plain.varTypes P).any (P.loopsFrom ·)) = true) (h17 : (c.wideKeys == (fn.params.toList ++ s.plain.varTypes P ++ fn.resultTypes.toList).any (P.wideKeysFrom ·)) = true) (h18 : (s.vars.all (P.varReadable ·)) = true) (h19 : (fn.resultTypes.all (fun t => P.readableRec t && decide (t < P.types.size))) = true) (h20 : (c.ifacesOut == fn.resultTypes.toList.any (P.ifacesRec ·)) = true) (h21 : (c.loopsOut == fn.resultTypes.toList.any (P.loopsFrom ·)) = true) (h22 : (c.plainKeys == P.plainKeys) = true) (h23 : (c.shortTexts.isNone) = true) (h24 : (P.stopsHeard) = true) (h25 : (P.mayEnter) = true) (h26 : (c.lifted == P.liftsFinal) = true) (h27 : (P.make == some c.make) = true) (h28 : (c.kinds == (if c.domain.isEmpty then [] else fn.params.toList.map fun t => match P.underlying t with | some (.int k) => some k | _ => none)) = true) (h29 : (c.pinned == c.pinnedBy) = true) (h30 : (c.veiled == (fn.params.toList ++ s.plain.varTypes P ++ fn.resultTypes.toList).any (P.veiledRec ·)) = true) (h31 : (c.veiledFits P fn.params.toList (fn.params.toList ++ s.plain.varTypes P ++ fn.resultTypes.toList)) = true) : joinedFacts P f fn s c = true := by
 unfold joinedFacts
 exact FnExactUnfoldCall.and2 (FnExactUnfoldCall.and2 (FnExactUnfoldCall.and2 (FnExactUnfoldCall.and2 (FnExactUnfoldCall.and2 (FnExactUnfoldCall.and2 (FnExactUnfoldCall.and2 (FnExactUnfoldCall.and2 (FnExactUnfoldCall.and2 (FnExactUnfoldCall.and2 (FnExactUnfoldCall.and2 (FnExactUnfoldCall.and2 (FnExactUnfoldCall.and2 (FnExactUnfoldCall.and2 (FnExactUnfoldCall.and2 (FnExactUnfoldCall.and2 (FnExactUnfoldCall.and2 (FnExactUnfoldCall.and2 (FnExactUnfoldCall.and2 (FnExactUnfoldCall.and2 (FnExactUnfoldCall.and2 (FnExactUnfoldCall.and2 (FnExactUnfoldCall.and2 (FnExactUnfoldCall.and2 (FnExactUnfoldCall.and2 (FnExactUnfoldCall.and2 (FnExactUnfoldCall.and2 (FnExactUnfoldCall.and2 (FnExactUnfoldCall.and2 (FnExactUnfoldCall.and2 (FnExactUnfoldCall.and2 (h0) h1) h2) h3) h4) h5) h6) h7) h8) h9) h10) h11) h12) h13) h14) h15) h16) h17) h18) h19) h20) h21) h22) h23) h24) h25) h26) h27) h28) h29) h30) h31
theorem FnExactUnfoldCall.closed : joinedFacts Tryz.pinned.checked.prog 5 Tryz.f5 Rows.fnExactUnfoldCallSpec Rows.fnExactUnfoldCallRow = true := FnExactUnfoldCall.joined (P := Tryz.pinned.checked.prog) (f := 5) (fn := Tryz.f5) (s := Rows.fnExactUnfoldCallSpec) (c := Rows.fnExactUnfoldCallRow) FnExactUnfoldCall.k0 FnExactUnfoldCall.k1 FnExactUnfoldCall.k2 FnExactUnfoldCall.k3 FnExactUnfoldCall.k4 FnExactUnfoldCall.k5 FnExactUnfoldCall.k6 FnExactUnfoldCall.k7 FnExactUnfoldCall.k8 FnExactUnfoldCall.k9 FnExactUnfoldCall.k10 FnExactUnfoldCall.k11 FnExactUnfoldCall.k12 FnExactUnfoldCall.k13 FnExactUnfoldCall.k14 FnExactUnfoldCall.k15 FnExactUnfoldCall.k16 FnExactUnfoldCall.k17 FnExactUnfoldCall.k18 FnExactUnfoldCall.k19 FnExactUnfoldCall.k20 FnExactUnfoldCall.k21 FnExactUnfoldCall.k22 FnExactUnfoldCall.k23 FnExactUnfoldCall.k24 FnExactUnfoldCall.k25 FnExactUnfoldCall.k26 FnExactUnfoldCall.k27 FnExactUnfoldCall.k28 FnExactUnfoldCall.k29 FnExactUnfoldCall.k30 FnExactUnfoldCall.k31
theorem FnExactUnfoldCall_holds : Rows.FnExactUnfoldCallSaid :=
 OpenClaim.holds_of_wide 5 Tryz.f5 rfl rfl rfl rfl rfl rfl rfl ⟨rfl, rfl, rfl, rfl, rfl⟩ rfl rfl rfl rfl rfl (by kernel_rfl) Tryz.func5 FnExactUnfoldCall.closed
  (of_decide_eq_true (by kernel_rfl)) (by unfold Func.isWrapper; first | (rw [if_pos (by decide +kernel)]; kernel_rfl) | (rw [if_neg (by decide +kernel)]; exact ⟨rfl, rfl⟩))
  (fun os started H enc _ => FnExactUnfoldCall.lifted os started H enc)
#print axioms FnExactUnfoldCall_holds
end Go.Proofs.YtdkmmcmnffflaaaGreat
