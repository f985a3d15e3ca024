/- 'laws.FnExactGroundRows' returns true for every input, and each argument reads behind the call as it read before: no condition. -/
import Derived.Test.YtcpooehlndhcbaaGreatRows
import Derived.Test.YtcpooehlndhcbaaGreatM4
namespace Go.Proofs.YtcpooehlndhcbaaGreat
open Go.ChangeShapes Go.WideShapes Go.ChangeAt Go.RowKit Go.Vx
theorem FnExactGroundRows.own : ownKnob Tryz.prog.godebug = none := by kernel_rfl
theorem FnExactGroundRows.laidOut : laidOutB Tryz.prog = true := by kernel_rfl
set_option maxRecDepth 100000 in
theorem FnExactGroundRows.lifted (os : Os) (started : os.Started) (H : Type) (enc : TypeId × Value → H) :
    ReturnsInHanded {} Tryz.checked os 8 .any (Rows.fnExactGroundRowsSpec.pre6 enc Tryz.prog Tryz.f8 Rows.fnExactGroundRowsRow.domain false) (Rows.fnExactGroundRowsSpec.post enc Tryz.prog Tryz.f8 false true false false) := by
  refine returnsInHanded_of_change (C := Tryz.checked) FnExactGroundRows.own started (by kernel_rfl) Tryz.func8
    (ChangeSpec.witness6 (enc := enc) (C := Tryz.checked) false ⟨#[], #[.agg #[.slice none 0 0]], []⟩ 8 (by kernel_rfl) (by kernel_rfl) (by kernel_rfl) (by kernel_rfl)) ?_
  intro W base args ds gs before hval0 hW hcnd _
  have hval : ∀ (j : Nat) t v, Tryz.f8.params[j]? = some t → args[j]? = some v → Value.okWide Tryz.prog W .any base t v := hval0
  have hW' := hW
  obtain ⟨p, q, hA0, hV, rfl, hfz, hnd⟩ := hW
  have hA : DataW.TrodAll enc Tryz.prog W 0 (fun _ => true) true Tryz.f8.params.toList args.toList ds p := hA0
  rw [Tryz.params8] at hA hval
  obtain ⟨v0, d0, rfl, rfl, h0⟩ := trodAll_one hA
  obtain ⟨e0, ⟨g0, rfl, w0⟩, cs0, rfl, hr0⟩ := read_struct Tryz.underlying63 read_Program (hval 0 _ _ rfl rfl) h0
  refine law_calls FnExactGroundRows.laidOut (fn := Tryz.f8) (tb := 4) ?_ (by kernel_rfl) und_bool rfl rfl hW' ⟨Tryz.f8, Tryz.func8, by kernel_rfl, by kernel_rfl⟩ ?_
  · intro t ht
    have : Tryz.f8.params.toList = [63] := by rw [Tryz.params8]
    rw [this] at ht
    simp only [List.mem_cons, List.not_mem_nil, or_false] at ht
    subst ht
    exact ⟨by kernel_rfl, of_decide_eq_true (by kernel_rfl)⟩
  · exact FnExactGroundRows_spec (Pg.rep hr0) w0
theorem FnExactGroundRows.k0 : (Rows.fnExactGroundRowsRow.wf (OpenSpec.ofChange Rows.fnExactGroundRowsSpec)) = true := by kernel_rfl
theorem FnExactGroundRows.k1 : (laidOutB Tryz.pinned.checked.prog) = true := by kernel_rfl
theorem FnExactGroundRows.k2 : (mapsRowed Tryz.pinned.checked.prog) = true := by kernel_rfl
theorem FnExactGroundRows.k3 : (Tryz.f8.params.all (Tryz.pinned.checked.prog.readableRec ·)) = true := by kernel_rfl
theorem FnExactGroundRows.k4 : (namedTie Tryz.pinned.checked.prog Rows.fnExactGroundRowsRow.named Rows.fnExactGroundRowsSpec.vars) = true := by kernel_rfl
theorem FnExactGroundRows.k5 : (Rows.fnExactGroundRowsRow.stops == []) = true := by kernel_rfl
theorem FnExactGroundRows.k6 : (Tryz.pinned.checked.prog.stops == []) = true := by kernel_rfl
theorem FnExactGroundRows.k7 : (Rows.fnExactGroundRowsRow.knobs == []) = true := by kernel_rfl
theorem FnExactGroundRows.k8 : (Tryz.pinned.checked.prog.stopKnobs == []) = true := by kernel_rfl
theorem FnExactGroundRows.k9 : (Rows.fnExactGroundRowsRow.inPlace == Tryz.pinned.checked.prog.inPlace 8) = true := by kernel_rfl
theorem FnExactGroundRows.k10 : (Rows.fnExactGroundRowsRow.unfollowed == Tryz.pinned.checked.prog.unfollowed 8) = true := by kernel_rfl
theorem FnExactGroundRows.k11 : (Rows.fnExactGroundRowsRow.recurses == Tryz.pinned.checked.prog.recurses 8) = true := by kernel_rfl
theorem FnExactGroundRows.k12 : (Rows.fnExactGroundRowsRow.named == Tryz.pinned.checked.prog.varsNamed 8) = true := by kernel_rfl
theorem FnExactGroundRows.k13 : (Rows.fnExactGroundRowsRow.maps == (Tryz.f8.params.toList ++ Rows.fnExactGroundRowsSpec.plain.varTypes Tryz.pinned.checked.prog).any (Tryz.pinned.checked.prog.mapsRec ·)) = true := by kernel_rfl
theorem FnExactGroundRows.k14 : (Rows.fnExactGroundRowsRow.ifaces == (Tryz.f8.params.toList ++ Rows.fnExactGroundRowsSpec.plain.varTypes Tryz.pinned.checked.prog).any (Tryz.pinned.checked.prog.ifacesRec ·)) = true := by kernel_rfl
theorem FnExactGroundRows.k15 : (Rows.fnExactGroundRowsRow.mapsOut == Tryz.pinned.checked.prog.mapsAmong Tryz.f8.resultTypes.toList) = true := by kernel_rfl
theorem FnExactGroundRows.k16 : (Rows.fnExactGroundRowsRow.loops == (Tryz.f8.params.toList ++ Rows.fnExactGroundRowsSpec.plain.varTypes Tryz.pinned.checked.prog).any (Tryz.pinned.checked.prog.loopsFrom ·)) = true := by kernel_rfl
theorem FnExactGroundRows.k17 : (Rows.fnExactGroundRowsRow.wideKeys == (Tryz.f8.params.toList ++ Rows.fnExactGroundRowsSpec.plain.varTypes Tryz.pinned.checked.prog ++ Tryz.f8.resultTypes.toList).any (Tryz.pinned.checked.prog.wideKeysFrom ·)) = true := by kernel_rfl
theorem FnExactGroundRows.k18 : (Rows.fnExactGroundRowsSpec.vars.all (Tryz.pinned.checked.prog.varReadable ·)) = true := by kernel_rfl
theorem FnExactGroundRows.k19 : (Tryz.f8.resultTypes.all (fun t => Tryz.pinned.checked.prog.readableRec t && decide (t < Tryz.pinned.checked.prog.types.size))) = true := by kernel_rfl
theorem FnExactGroundRows.k20 : (Rows.fnExactGroundRowsRow.ifacesOut == Tryz.f8.resultTypes.toList.any (Tryz.pinned.checked.prog.ifacesRec ·)) = true := by kernel_rfl
theorem FnExactGroundRows.k21 : (Rows.fnExactGroundRowsRow.loopsOut == Tryz.f8.resultTypes.toList.any (Tryz.pinned.checked.prog.loopsFrom ·)) = true := by kernel_rfl
theorem FnExactGroundRows.k22 : (Rows.fnExactGroundRowsRow.plainKeys == Tryz.pinned.checked.prog.plainKeys) = true := by kernel_rfl
theorem FnExactGroundRows.k23 : (Rows.fnExactGroundRowsRow.shortTexts.isNone) = true := by kernel_rfl
theorem FnExactGroundRows.k24 : (Tryz.pinned.checked.prog.stopsHeard) = true := by kernel_rfl
theorem FnExactGroundRows.k25 : (Tryz.pinned.checked.prog.mayEnter) = true := by kernel_rfl
theorem FnExactGroundRows.k26 : (Rows.fnExactGroundRowsRow.lifted == Tryz.pinned.checked.prog.liftsFinal) = true := by kernel_rfl
theorem FnExactGroundRows.k27 : (Tryz.pinned.checked.prog.make == some Rows.fnExactGroundRowsRow.make) = true := by kernel_rfl
theorem FnExactGroundRows.k28 : (Rows.fnExactGroundRowsRow.kinds == (if Rows.fnExactGroundRowsRow.domain.isEmpty then [] else Tryz.f8.params.toList.map fun t => match Tryz.pinned.checked.prog.underlying t with | some (.int k) => some k | _ => none)) = true := by kernel_rfl
theorem FnExactGroundRows.k29 : (Rows.fnExactGroundRowsRow.pinned == Rows.fnExactGroundRowsRow.pinnedBy) = true := by kernel_rfl
theorem FnExactGroundRows.k30 : (Rows.fnExactGroundRowsRow.veiled == (Tryz.f8.params.toList ++ Rows.fnExactGroundRowsSpec.plain.varTypes Tryz.pinned.checked.prog ++ Tryz.f8.resultTypes.toList).any (Tryz.pinned.checked.prog.veiledRec ·)) = true := by kernel_rfl
theorem FnExactGroundRows.k31 : (Rows.fnExactGroundRowsRow.veiledFits Tryz.pinned.checked.prog Tryz.f8.params.toList (Tryz.f8.params.toList ++ Rows.fnExactGroundRowsSpec.plain.varTypes Tryz.pinned.checked.prog ++ Tryz.f8.resultTypes.toList)) = true := by kernel_rfl
theorem FnExactGroundRows.and2 {a b : Bool} (h1 : a = true) (h2 : b = true) : (a && b) = true := by rw [h1, h2]; rfl
theorem FnExactGroundRows.joined {P : Program} {f : FuncId} {fn : Func} {s : ChangeSpec} {c : OpenClaim} (h0 : (c.wf (OpenSpec.ofChange s)) = true) (h1 : (laidOutB P) = true) (h2 : (mapsRowed P) = true) (h3 : (fn.params.all (P.readableRec ·)) = true) (h4 : (namedTie P c.named s.vars) = true) (h5 : (c.stops == []) = true) (h6 : (P.stops == []) = true) (h7 : (c.knobs == []) = true) (h8 : (P.stopKnobs == []) = true) (h9 : (c.inPlace == P.inPlace f) = true) (h10 : (c.unfollowed == P.unfollowed f) = true) (h11 : (c.recurses == P.recurses f) = true) (h12 : (c.named == P.varsNamed f) = true) (h13 : (c.maps == (fn.params.toList ++ s.plain.varTypes P).any (P.mapsRec ·)) = true) (h14 : (c.ifaces == (fn.params.toList ++ s.plain.varTypes P).any (P.ifacesRec ·)) = true) (h15 : (c.mapsOut == P.mapsAmong fn.resultTypes.toList) = true) (h16 : (c.loops == (fn.params.toList ++ s.plain.varTypes P).any (P.loopsFrom ·)) = true) (h17 : (c.wideKeys == (fn.params.toList ++ s.plain.varTypes P ++ fn.resultTypes.toList).any (P.wideKeysFrom ·)) = true) (h18 : (s.vars.all (P.varReadable ·)) = true) (h19 : (fn.resultTypes.all (fun t => P.readableRec t && decide (t < P.types.size))) = true) (h20 : (c.ifacesOut == fn.resultTypes.toList.any (P.ifacesRec ·)) = true) (h21 : (c.loopsOut == fn.resultTypes.toList.any (P.loopsFrom ·)) = true) (h22 : (c.plainKeys == P.plainKeys) = true) (h23 : (c.shortTexts.isNone) = true) (h24 : (P.stopsHeard) = true) (h25 : (P.mayEnter) = true) (h26 : (c.lifted == P.liftsFinal) = true) (h27 : (P.make == some c.make) = true) (h28 : (c.kinds == (if c.domain.isEmpty then [] else fn.params.toList.map fun t => match P.underlying t with | some (.int k) => some k | _ => none)) = true) (h29 : (c.pinned == c.pinnedBy) = true) (h30 : (c.veiled == (fn.params.toList ++ s.plain.varTypes P ++ fn.resultTypes.toList).any (P.veiledRec ·)) = true) (h31 : (c.veiledFits P fn.params.toList (fn.params.toList ++ s.plain.varTypes P ++ fn.resultTypes.toList)) = true) : joinedFacts P f fn s c = true := by
  unfold joinedFacts
  exact FnExactGroundRows.and2 (FnExactGroundRows.and2 (FnExactGroundRows.and2 (FnExactGroundRows.and2 (FnExactGroundRows.and2 (FnExactGroundRows.and2 (FnExactGroundRows.and2 (FnExactGroundRows.and2 (FnExactGroundRows.and2 (FnExactGroundRows.and2 (FnExactGroundRows.and2 (FnExactGroundRows.and2 (FnExactGroundRows.and2 (FnExactGroundRows.and2 (FnExactGroundRows.and2 (FnExactGroundRows.and2 (FnExactGroundRows.and2 (FnExactGroundRows.and2 (FnExactGroundRows.and2 (FnExactGroundRows.and2 (FnExactGroundRows.and2 (FnExactGroundRows.and2 (FnExactGroundRows.and2 (FnExactGroundRows.and2 (FnExactGroundRows.and2 (FnExactGroundRows.and2 (FnExactGroundRows.and2 (FnExactGroundRows.and2 (FnExactGroundRows.and2 (FnExactGroundRows.and2 (FnExactGroundRows.and2 (h0) h1) h2) h3) h4) h5) h6) h7) h8) h9) h10) h11) h12) h13) h14) h15) h16) h17) h18) h19) h20) h21) h22) h23) h24) h25) h26) h27) h28) h29) h30) h31
theorem FnExactGroundRows.closed : joinedFacts Tryz.pinned.checked.prog 8 Tryz.f8 Rows.fnExactGroundRowsSpec Rows.fnExactGroundRowsRow = true := FnExactGroundRows.joined (P := Tryz.pinned.checked.prog) (f := 8) (fn := Tryz.f8) (s := Rows.fnExactGroundRowsSpec) (c := Rows.fnExactGroundRowsRow) FnExactGroundRows.k0 FnExactGroundRows.k1 FnExactGroundRows.k2 FnExactGroundRows.k3 FnExactGroundRows.k4 FnExactGroundRows.k5 FnExactGroundRows.k6 FnExactGroundRows.k7 FnExactGroundRows.k8 FnExactGroundRows.k9 FnExactGroundRows.k10 FnExactGroundRows.k11 FnExactGroundRows.k12 FnExactGroundRows.k13 FnExactGroundRows.k14 FnExactGroundRows.k15 FnExactGroundRows.k16 FnExactGroundRows.k17 FnExactGroundRows.k18 FnExactGroundRows.k19 FnExactGroundRows.k20 FnExactGroundRows.k21 FnExactGroundRows.k22 FnExactGroundRows.k23 FnExactGroundRows.k24 FnExactGroundRows.k25 FnExactGroundRows.k26 FnExactGroundRows.k27 FnExactGroundRows.k28 FnExactGroundRows.k29 FnExactGroundRows.k30 FnExactGroundRows.k31
theorem FnExactGroundRows_holds : Rows.FnExactGroundRowsSaid :=
  OpenClaim.holds_of_wide 8 Tryz.f8 rfl rfl rfl rfl rfl rfl rfl ⟨rfl, rfl, rfl, rfl, rfl⟩ rfl rfl rfl rfl rfl (by kernel_rfl) Tryz.func8 FnExactGroundRows.closed
    (of_decide_eq_true (by kernel_rfl)) (by unfold Func.isWrapper; first | (rw [if_pos (by decide +kernel)]; kernel_rfl) | (rw [if_neg (by decide +kernel)]; exact ⟨rfl, rfl⟩))
    (fun os started H enc _ => FnExactGroundRows.lifted os started H enc)
#print axioms FnExactGroundRows_holds
end Go.Proofs.YtcpooehlndhcbaaGreat
