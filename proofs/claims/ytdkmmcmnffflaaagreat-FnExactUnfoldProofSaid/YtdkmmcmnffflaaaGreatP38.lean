/- 'laws.FnExactUnfoldProof' returns true for every input, and each argument reads behind the call as it read before: no condition. -/
import Derived.Test.YtdkmmcmnffflaaaGreatRows
import Derived.Test.YtdkmmcmnffflaaaGreatE2
namespace Go.Proofs.YtdkmmcmnffflaaaGreat
open Go.ChangeShapes Go.WideShapes Go.ChangeAt Go.RowKit Go.Vx
theorem FnExactUnfoldProof.own : ownKnob Tryz.prog.godebug = none := by kernel_rfl
theorem FnExactUnfoldProof.laidOut : laidOutB Tryz.prog = true := by kernel_rfl
set_option maxRecDepth 100000 in
theorem FnExactUnfoldProof.lifted (os : Os) (started : os.Started) (H : Type) (enc : TypeId × Value → H) :
  ReturnsInHanded {} Tryz.checked os 7 .any (Rows.fnExactUnfoldProofSpec.pre6 enc Tryz.prog Tryz.f7 Rows.fnExactUnfoldProofRow.domain false) (Rows.fnExactUnfoldProofSpec.post enc Tryz.prog Tryz.f7 false true false false) := by
 refine returnsInHanded_of_change (C := Tryz.checked) FnExactUnfoldProof.own started (by kernel_rfl) Tryz.func7
  (ChangeSpec.witness6 (enc := enc) (C := Tryz.checked) false ⟨#[], #[.agg #[.slice none 0 0], .string ⟨#[]⟩, .int .i64 0, .int .i64 0, .agg #[.string ⟨#[]⟩, .int .i64 0, .slice none 0 0, .slice none 0 0]], []⟩ 8 (by kernel_rfl) (by kernel_rfl) (by kernel_rfl) (by kernel_rfl)) ?_
 intro W base args ds gs before hval0 hW hcnd _
 have hval : ∀ (j : Nat) t v, Tryz.f7.params[j]? = some t → args[j]? = some v → Value.okWide Tryz.prog W .any base t v := hval0
 have hW' := hW
 obtain ⟨p, q, hA0, hV, rfl, hfz, hnd⟩ := hW
 have hA : DataW.TrodAll enc Tryz.prog W 0 (fun _ => true) true Tryz.f7.params.toList args.toList ds p := hA0
 rw [Tryz.params7] at hA hval
 obtain ⟨v0, v1, v2, v3, v4, d0, d1, d2, d3, d4, p0, p1, p2, p3, p4, rfl, rfl, hp0, h0, h1, h2, h3, h4⟩ := trodAll_five hA
 obtain ⟨e0, ⟨g0, rfl, w0⟩, cs0, rfl, hr0⟩ := read_struct Tryz.underlying38 read_Program (hval 0 _ _ rfl rfl) h0
 obtain ⟨e1, ⟨n1, rfl, w1⟩, hr1⟩ := read_cell (fun cs => okWide_string Tryz.underlying9 cs) (reads_str Tryz.underlying9) (hval 1 _ _ rfl rfl) h1
 obtain ⟨e2, ⟨n2, rfl, w2⟩, hr2⟩ := read_cell (fun cs => okWide_int Tryz.underlying3 cs) (reads_int Tryz.underlying3) (hval 2 _ _ rfl rfl) h2
 obtain ⟨e3, ⟨n3, rfl, w3⟩, hr3⟩ := read_cell (fun cs => okWide_int Tryz.underlying3 cs) (reads_int Tryz.underlying3) (hval 3 _ _ rfl rfl) h3
 obtain ⟨e4, ⟨g4, rfl, w4⟩, cs4, rfl, hr4⟩ := read_struct Tryz.underlying63 read_Proof (hval 4 _ _ rfl rfl) h4
 refine law_calls FnExactUnfoldProof.laidOut (fn := Tryz.f7) (tb := 4) ?_ (by kernel_rfl) und_bool rfl rfl hW' ⟨Tryz.f7, Tryz.func7, by kernel_rfl, by kernel_rfl⟩ ?_
 ·intro t ht
  have : Tryz.f7.params.toList = [38, 9, 3, 3, 63] := by rw [Tryz.params7]
  rw [this] at ht
  simp only [List.mem_cons, List.not_mem_nil, or_false] at ht
  rcases ht with rfl | rfl | rfl | rfl | rfl
  ·exact ⟨by kernel_rfl, of_decide_eq_true (by kernel_rfl)⟩
  ·exact ⟨by kernel_rfl, of_decide_eq_true (by kernel_rfl)⟩
  ·exact ⟨by kernel_rfl, of_decide_eq_true (by kernel_rfl)⟩
  ·exact ⟨by kernel_rfl, of_decide_eq_true (by kernel_rfl)⟩
  ·exact ⟨by kernel_rfl, of_decide_eq_true (by kernel_rfl)⟩
 ·exact by
   have e1 : [v1] = [Value.string n1] := hr1
   cases e1
   have e2 : [v2] = [Value.int .i64 n2] := hr2
   cases e2
   have e3 : [v3] = [Value.int .i64 n3] := hr3
   cases e3
   exact FnExactUnfoldProof_spec w2 w3 (Pg.rep hr0) (Pf.rep hr4) w0 w4
theorem FnExactUnfoldProof.k0 : (Rows.fnExactUnfoldProofRow.wf (OpenSpec.ofChange Rows.fnExactUnfoldProofSpec)) = true := by kernel_rfl
theorem FnExactUnfoldProof.k1 : (laidOutB Tryz.pinned.checked.prog) = true := by kernel_rfl
theorem FnExactUnfoldProof.k2 : (mapsRowed Tryz.pinned.checked.prog) = true := by kernel_rfl
theorem FnExactUnfoldProof.k3 : (Tryz.f7.params.all (Tryz.pinned.checked.prog.readableRec ·)) = true := by kernel_rfl
theorem FnExactUnfoldProof.k4 : (namedTie Tryz.pinned.checked.prog Rows.fnExactUnfoldProofRow.named Rows.fnExactUnfoldProofSpec.vars) = true := by kernel_rfl
theorem FnExactUnfoldProof.k5 : (Rows.fnExactUnfoldProofRow.stops == []) = true := by kernel_rfl
theorem FnExactUnfoldProof.k6 : (Tryz.pinned.checked.prog.stops == []) = true := by kernel_rfl
theorem FnExactUnfoldProof.k7 : (Rows.fnExactUnfoldProofRow.knobs == []) = true := by kernel_rfl
theorem FnExactUnfoldProof.k8 : (Tryz.pinned.checked.prog.stopKnobs == []) = true := by kernel_rfl
theorem FnExactUnfoldProof.k9 : (Rows.fnExactUnfoldProofRow.inPlace == Tryz.pinned.checked.prog.inPlace 7) = true := by kernel_rfl
theorem FnExactUnfoldProof.k10 : (Rows.fnExactUnfoldProofRow.unfollowed == Tryz.pinned.checked.prog.unfollowed 7) = true := by kernel_rfl
theorem FnExactUnfoldProof.k11 : (Rows.fnExactUnfoldProofRow.recurses == Tryz.pinned.checked.prog.recurses 7) = true := by kernel_rfl
theorem FnExactUnfoldProof.k12 : (Rows.fnExactUnfoldProofRow.named == Tryz.pinned.checked.prog.varsNamed 7) = true := by kernel_rfl
theorem FnExactUnfoldProof.k13 : (Rows.fnExactUnfoldProofRow.maps == (Tryz.f7.params.toList ++ Rows.fnExactUnfoldProofSpec.plain.varTypes Tryz.pinned.checked.prog).any (Tryz.pinned.checked.prog.mapsRec ·)) = true := by kernel_rfl
theorem FnExactUnfoldProof.k14 : (Rows.fnExactUnfoldProofRow.ifaces == (Tryz.f7.params.toList ++ Rows.fnExactUnfoldProofSpec.plain.varTypes Tryz.pinned.checked.prog).any (Tryz.pinned.checked.prog.ifacesRec ·)) = true := by kernel_rfl
theorem FnExactUnfoldProof.k15 : (Rows.fnExactUnfoldProofRow.mapsOut == Tryz.pinned.checked.prog.mapsAmong Tryz.f7.resultTypes.toList) = true := by kernel_rfl
theorem FnExactUnfoldProof.k16 : (Rows.fnExactUnfoldProofRow.loops == (Tryz.f7.params.toList ++ Rows.fnExactUnfoldProofSpec.plain.varTypes Tryz.pinned.checked.prog).any (Tryz.pinned.checked.prog.loopsFrom ·)) = true := by kernel_rfl
theorem FnExactUnfoldProof.k17 : (Rows.fnExactUnfoldProofRow.wideKeys == (Tryz.f7.params.toList ++ Rows.fnExactUnfoldProofSpec.plain.varTypes Tryz.pinned.checked.prog ++ Tryz.f7.resultTypes.toList).any (Tryz.pinned.checked.prog.wideKeysFrom ·)) = true := by kernel_rfl
theorem FnExactUnfoldProof.k18 : (Rows.fnExactUnfoldProofSpec.vars.all (Tryz.pinned.checked.prog.varReadable ·)) = true := by kernel_rfl
theorem FnExactUnfoldProof.k19 : (Tryz.f7.resultTypes.all (fun t => Tryz.pinned.checked.prog.readableRec t && decide (t < Tryz.pinned.checked.prog.types.size))) = true := by kernel_rfl
theorem FnExactUnfoldProof.k20 : (Rows.fnExactUnfoldProofRow.ifacesOut == Tryz.f7.resultTypes.toList.any (Tryz.pinned.checked.prog.ifacesRec ·)) = true := by kernel_rfl
theorem FnExactUnfoldProof.k21 : (Rows.fnExactUnfoldProofRow.loopsOut == Tryz.f7.resultTypes.toList.any (Tryz.pinned.checked.prog.loopsFrom ·)) = true := by kernel_rfl
theorem FnExactUnfoldProof.k22 : (Rows.fnExactUnfoldProofRow.plainKeys == Tryz.pinned.checked.prog.plainKeys) = true := by kernel_rfl
theorem FnExactUnfoldProof.k23 : (Rows.fnExactUnfoldProofRow.shortTexts.isNone) = true := by kernel_rfl
theorem FnExactUnfoldProof.k24 : (Tryz.pinned.checked.prog.stopsHeard) = true := by kernel_rfl
theorem FnExactUnfoldProof.k25 : (Tryz.pinned.checked.prog.mayEnter) = true := by kernel_rfl
theorem FnExactUnfoldProof.k26 : (Rows.fnExactUnfoldProofRow.lifted == Tryz.pinned.checked.prog.liftsFinal) = true := by kernel_rfl
theorem FnExactUnfoldProof.k27 : (Tryz.pinned.checked.prog.make == some Rows.fnExactUnfoldProofRow.make) = true := by kernel_rfl
theorem FnExactUnfoldProof.k28 : (Rows.fnExactUnfoldProofRow.kinds == (if Rows.fnExactUnfoldProofRow.domain.isEmpty then [] else Tryz.f7.params.toList.map fun t => match Tryz.pinned.checked.prog.underlying t with | some (.int k) => some k | _ => none)) = true := by kernel_rfl
theorem FnExactUnfoldProof.k29 : (Rows.fnExactUnfoldProofRow.pinned == Rows.fnExactUnfoldProofRow.pinnedBy) = true := by kernel_rfl
theorem FnExactUnfoldProof.k30 : (Rows.fnExactUnfoldProofRow.veiled == (Tryz.f7.params.toList ++ Rows.fnExactUnfoldProofSpec.plain.varTypes Tryz.pinned.checked.prog ++ Tryz.f7.resultTypes.toList).any (Tryz.pinned.checked.prog.veiledRec ·)) = true := by kernel_rfl
theorem FnExactUnfoldProof.k31 : (Rows.fnExactUnfoldProofRow.veiledFits Tryz.pinned.checked.prog Tryz.f7.params.toList (Tryz.f7.params.toList ++ Rows.fnExactUnfoldProofSpec.plain.varTypes Tryz.pinned.checked.prog ++ Tryz.f7.resultTypes.toList)) = true := by kernel_rfl
theorem FnExactUnfoldProof.and2 {a b : Bool} (h1 : a = true) (h2 : b = true) : (a && b) = true := by rw [h1, h2]; rfl
theorem FnExactUnfoldProof.joined {P : Program} {f : FuncId} {fn : Func} {s : ChangeSpec} {c : OpenClaim} (h0 : (c.wf (OpenSpec.ofChange s)) = true) (h1 : (laidOutB P) = true) (h2 : (mapsRowed P) = true) (h3 : (fn.params.all (P.readableRec ·)) = true) (h4 : (namedTie P c.named s.vars) = true) (h5 : (c.stops == []) = true) (h6 : (P.stops == []) = true) (h7 : (c.knobs == []) = true) (h8 : (P.stopKnobs == []) = true) (h9 : (c.inPlace == P.inPlace f) = true) (h10 : (c.unfollowed == P.unfollowed f) = true) (h11 : (c.recurses == P.recurses f) = true) (h12 : (c.named == P.varsNamed f) = true) (h13 : (c.maps == (fn.params.toList ++ s.plain.varTypes P).any (P.mapsRec ·)) = true) (h14 : (c.ifaces == (fn.params.toList ++ s.plain.varTypes P).any (P.ifacesRec ·)) = true) (h15 : (c.mapsOut == P.mapsAmong fn.resultTypes.toList) = true) (h16 : (c.loops == (fn.params.toList ++ s.plain.varTypes P).any (P.loopsFrom ·)) = true) (h17 : (c.wideKeys == (fn.params.toList ++ s.plain.varTypes P ++ fn.resultTypes.toList).any (P.wideKeysFrom ·)) = true) (h18 : (s.vars.all (P.varReadable ·)) = true) (h19 : (fn.resultTypes.all (fun t => P.readableRec t && decide (t < P.types.size))) = true) (h20 : (c.ifacesOut == fn.resultTypes.toList.any (P.ifacesRec ·)) = true) (h21 : (c.loopsOut == fn.resultTypes.toList.any (P.loopsFrom ·)) = true) (h22 : (c.plainKeys == P.plainKeys) = true) (h23 : (c.shortTexts.isNone) = true) (h24 : (P.stopsHeard) = true) (h25 : (P.mayEnter) = true) (h26 : (c.lifted == P.liftsFinal) = true) (h27 : (P.make == some c.make) = true) (h28 : (c.kinds == (if c.domain.isEmpty then [] else fn.params.toList.map fun t => match P.underlying t with | some (.int k) => some k | _ => none)) = true) (h29 : (c.pinned == c.pinnedBy) = true) (h30 : (c.veiled == (fn.params.toList ++ s.plain.varTypes P ++ fn.resultTypes.toList).any (P.veiledRec ·)) = true) (h31 : (c.veiledFits P fn.params.toList (fn.params.toList ++ s.plain.varTypes P ++ fn.resultTypes.toList)) = true) : joinedFacts P f fn s c = true := by
 unfold joinedFacts
 exact FnExactUnfoldProof.and2 (FnExactUnfoldProof.and2 (FnExactUnfoldProof.and2 (FnExactUnfoldProof.and2 (FnExactUnfoldProof.and2 (FnExactUnfoldProof.and2 (FnExactUnfoldProof.and2 (FnExactUnfoldProof.and2 (FnExactUnfoldProof.and2 (FnExactUnfoldProof.and2 (FnExactUnfoldProof.and2 (FnExactUnfoldProof.and2 (FnExactUnfoldProof.and2 (FnExactUnfoldProof.and2 (FnExactUnfoldProof.and2 (FnExactUnfoldProof.and2 (FnExactUnfoldProof.and2 (FnExactUnfoldProof.and2 (FnExactUnfoldProof.and2 (FnExactUnfoldProof.and2 (FnExactUnfoldProof.and2 (FnExactUnfoldProof.and2 (FnExactUnfoldProof.and2 (FnExactUnfoldProof.and2 (FnExactUnfoldProof.and2 (FnExactUnfoldProof.and2 (FnExactUnfoldProof.and2 (FnExactUnfoldProof.and2 (FnExactUnfoldProof.and2 (FnExactUnfoldProof.and2 (FnExactUnfoldProof.and2 (h0) h1) h2) h3) h4) h5) h6) h7) h8) h9) h10) h11) h12) h13) h14) h15) h16) h17) h18) h19) h20) h21) h22) h23) h24) h25) h26) h27) h28) h29) h30) h31
theorem FnExactUnfoldProof.closed : joinedFacts Tryz.pinned.checked.prog 7 Tryz.f7 Rows.fnExactUnfoldProofSpec Rows.fnExactUnfoldProofRow = true := FnExactUnfoldProof.joined (P := Tryz.pinned.checked.prog) (f := 7) (fn := Tryz.f7) (s := Rows.fnExactUnfoldProofSpec) (c := Rows.fnExactUnfoldProofRow) FnExactUnfoldProof.k0 FnExactUnfoldProof.k1 FnExactUnfoldProof.k2 FnExactUnfoldProof.k3 FnExactUnfoldProof.k4 FnExactUnfoldProof.k5 FnExactUnfoldProof.k6 FnExactUnfoldProof.k7 FnExactUnfoldProof.k8 FnExactUnfoldProof.k9 FnExactUnfoldProof.k10 FnExactUnfoldProof.k11 FnExactUnfoldProof.k12 FnExactUnfoldProof.k13 FnExactUnfoldProof.k14 FnExactUnfoldProof.k15 FnExactUnfoldProof.k16 FnExactUnfoldProof.k17 FnExactUnfoldProof.k18 FnExactUnfoldProof.k19 FnExactUnfoldProof.k20 FnExactUnfoldProof.k21 FnExactUnfoldProof.k22 FnExactUnfoldProof.k23 FnExactUnfoldProof.k24 FnExactUnfoldProof.k25 FnExactUnfoldProof.k26 FnExactUnfoldProof.k27 FnExactUnfoldProof.k28 FnExactUnfoldProof.k29 FnExactUnfoldProof.k30 FnExactUnfoldProof.k31
theorem FnExactUnfoldProof_holds : Rows.FnExactUnfoldProofSaid :=
 OpenClaim.holds_of_wide 7 Tryz.f7 rfl rfl rfl rfl rfl rfl rfl ⟨rfl, rfl, rfl, rfl, rfl⟩ rfl rfl rfl rfl rfl (by kernel_rfl) Tryz.func7 FnExactUnfoldProof.closed
  (of_decide_eq_true (by kernel_rfl)) (by unfold Func.isWrapper; first | (rw [if_pos (by decide +kernel)]; kernel_rfl) | (rw [if_neg (by decide +kernel)]; exact ⟨rfl, rfl⟩))
  (fun os started H enc _ => FnExactUnfoldProof.lifted os started H enc)
#print axioms FnExactUnfoldProof_holds
end Go.Proofs.YtdkmmcmnffflaaaGreat
