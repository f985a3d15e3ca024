/- 'laws.FnExactTablesOk' returns true for every input, and each argument reads behind the call as it read before: no condition. -/
import Derived.Test.YtcpooehlndhcbaaGreatRows
import Derived.Test.YtcpooehlndhcbaaGreatM5
namespace Go.Proofs.YtcpooehlndhcbaaGreat
open Go.ChangeShapes Go.WideShapes Go.ChangeAt Go.RowKit Go.Vx
theorem FnExactTablesOk.own : ownKnob Tryz.prog.godebug = none := by kernel_rfl
theorem FnExactTablesOk.laidOut : laidOutB Tryz.prog = true := by kernel_rfl
set_option maxRecDepth 100000 in
theorem FnExactTablesOk.lifted (os : Os) (started : os.Started) (H : Type) (enc : TypeId × Value → H) :
    ReturnsInHanded {} Tryz.checked os 10 .any (Rows.fnExactTablesOkSpec.pre6 enc Tryz.prog Tryz.f10 Rows.fnExactTablesOkRow.domain false) (Rows.fnExactTablesOkSpec.post enc Tryz.prog Tryz.f10 false true false false) := by
  refine returnsInHanded_of_change (C := Tryz.checked) FnExactTablesOk.own started (by kernel_rfl) Tryz.func10
    (ChangeSpec.witness6 (enc := enc) (C := Tryz.checked) false ⟨#[], #[.agg #[.slice none 0 0], .slice none 0 0], []⟩ 8 (by kernel_rfl) (by kernel_rfl) (by kernel_rfl) (by kernel_rfl)) ?_
  intro W base args ds gs before hval0 hW hcnd _
  have hval : ∀ (j : Nat) t v, Tryz.f10.params[j]? = some t → args[j]? = some v → Value.okWide Tryz.prog W .any base t v := hval0
  have hW' := hW
  obtain ⟨p, q, hA0, hV, rfl, hfz, hnd⟩ := hW
  have hA : DataW.TrodAll enc Tryz.prog W 0 (fun _ => true) true Tryz.f10.params.toList args.toList ds p := hA0
  rw [Tryz.params10] at hA hval
  obtain ⟨v0, v1, d0, d1, p0, p1, rfl, rfl, hp0, h0, h1⟩ := trodAll_two hA
  obtain ⟨e0, ⟨g0, rfl, w0⟩, cs0, rfl, hr0⟩ := read_struct Tryz.underlying63 read_Program (hval 0 _ _ rfl rfl) h0
  obtain ⟨e1, ⟨l1, rfl, w1⟩, hr1⟩ := read_cell (fun cs => okWide_slice Tryz.underlying85 cs) read_TableS (hval 1 _ _ rfl rfl) h1
  refine law_calls FnExactTablesOk.laidOut (fn := Tryz.f10) (tb := 4) ?_ (by kernel_rfl) und_bool rfl rfl hW' ⟨Tryz.f10, Tryz.func10, by kernel_rfl, by kernel_rfl⟩ ?_
  · intro t ht
    have : Tryz.f10.params.toList = [63, 85] := by rw [Tryz.params10]
    rw [this] at ht
    simp only [List.mem_cons, List.not_mem_nil, or_false] at ht
    rcases ht with rfl | rfl
    · exact ⟨by kernel_rfl, of_decide_eq_true (by kernel_rfl)⟩
    · exact ⟨by kernel_rfl, of_decide_eq_true (by kernel_rfl)⟩
  · exact FnExactTablesOk_spec (Pg.rep hr0) hr1 w0 w1
theorem FnExactTablesOk.k0 : (Rows.fnExactTablesOkRow.wf (OpenSpec.ofChange Rows.fnExactTablesOkSpec)) = true := by kernel_rfl
theorem FnExactTablesOk.k1 : (laidOutB Tryz.pinned.checked.prog) = true := by kernel_rfl
theorem FnExactTablesOk.k2 : (mapsRowed Tryz.pinned.checked.prog) = true := by kernel_rfl
theorem FnExactTablesOk.k3 : (Tryz.f10.params.all (Tryz.pinned.checked.prog.readableRec ·)) = true := by kernel_rfl
theorem FnExactTablesOk.k4 : (namedTie Tryz.pinned.checked.prog Rows.fnExactTablesOkRow.named Rows.fnExactTablesOkSpec.vars) = true := by kernel_rfl
theorem FnExactTablesOk.k5 : (Rows.fnExactTablesOkRow.stops == []) = true := by kernel_rfl
theorem FnExactTablesOk.k6 : (Tryz.pinned.checked.prog.stops == []) = true := by kernel_rfl
theorem FnExactTablesOk.k7 : (Rows.fnExactTablesOkRow.knobs == []) = true := by kernel_rfl
theorem FnExactTablesOk.k8 : (Tryz.pinned.checked.prog.stopKnobs == []) = true := by kernel_rfl
theorem FnExactTablesOk.k9 : (Rows.fnExactTablesOkRow.inPlace == Tryz.pinned.checked.prog.inPlace 10) = true := by kernel_rfl
theorem FnExactTablesOk.k10 : (Rows.fnExactTablesOkRow.unfollowed == Tryz.pinned.checked.prog.unfollowed 10) = true := by kernel_rfl
theorem FnExactTablesOk.k11 : (Rows.fnExactTablesOkRow.recurses == Tryz.pinned.checked.prog.recurses 10) = true := by kernel_rfl
theorem FnExactTablesOk.k12 : (Rows.fnExactTablesOkRow.named == Tryz.pinned.checked.prog.varsNamed 10) = true := by kernel_rfl
theorem FnExactTablesOk.k13 : (Rows.fnExactTablesOkRow.maps == (Tryz.f10.params.toList ++ Rows.fnExactTablesOkSpec.plain.varTypes Tryz.pinned.checked.prog).any (Tryz.pinned.checked.prog.mapsRec ·)) = true := by kernel_rfl
theorem FnExactTablesOk.k14 : (Rows.fnExactTablesOkRow.ifaces == (Tryz.f10.params.toList ++ Rows.fnExactTablesOkSpec.plain.varTypes Tryz.pinned.checked.prog).any (Tryz.pinned.checked.prog.ifacesRec ·)) = true := by kernel_rfl
theorem FnExactTablesOk.k15 : (Rows.fnExactTablesOkRow.mapsOut == Tryz.pinned.checked.prog.mapsAmong Tryz.f10.resultTypes.toList) = true := by kernel_rfl
theorem FnExactTablesOk.k16 : (Rows.fnExactTablesOkRow.loops == (Tryz.f10.params.toList ++ Rows.fnExactTablesOkSpec.plain.varTypes Tryz.pinned.checked.prog).any (Tryz.pinned.checked.prog.loopsFrom ·)) = true := by kernel_rfl
theorem FnExactTablesOk.k17 : (Rows.fnExactTablesOkRow.wideKeys == (Tryz.f10.params.toList ++ Rows.fnExactTablesOkSpec.plain.varTypes Tryz.pinned.checked.prog ++ Tryz.f10.resultTypes.toList).any (Tryz.pinned.checked.prog.wideKeysFrom ·)) = true := by kernel_rfl
theorem FnExactTablesOk.k18 : (Rows.fnExactTablesOkSpec.vars.all (Tryz.pinned.checked.prog.varReadable ·)) = true := by kernel_rfl
theorem FnExactTablesOk.k19 : (Tryz.f10.resultTypes.all (fun t => Tryz.pinned.checked.prog.readableRec t && decide (t < Tryz.pinned.checked.prog.types.size))) = true := by kernel_rfl
theorem FnExactTablesOk.k20 : (Rows.fnExactTablesOkRow.ifacesOut == Tryz.f10.resultTypes.toList.any (Tryz.pinned.checked.prog.ifacesRec ·)) = true := by kernel_rfl
theorem FnExactTablesOk.k21 : (Rows.fnExactTablesOkRow.loopsOut == Tryz.f10.resultTypes.toList.any (Tryz.pinned.checked.prog.loopsFrom ·)) = true := by kernel_rfl
theorem FnExactTablesOk.k22 : (Rows.fnExactTablesOkRow.plainKeys == Tryz.pinned.checked.prog.plainKeys) = true := by kernel_rfl
theorem FnExactTablesOk.k23 : (Rows.fnExactTablesOkRow.shortTexts.isNone) = true := by kernel_rfl
theorem FnExactTablesOk.k24 : (Tryz.pinned.checked.prog.stopsHeard) = true := by kernel_rfl
theorem FnExactTablesOk.k25 : (Tryz.pinned.checked.prog.mayEnter) = true := by kernel_rfl
theorem FnExactTablesOk.k26 : (Rows.fnExactTablesOkRow.lifted == Tryz.pinned.checked.prog.liftsFinal) = true := by kernel_rfl
theorem FnExactTablesOk.k27 : (Tryz.pinned.checked.prog.make == some Rows.fnExactTablesOkRow.make) = true := by kernel_rfl
theorem FnExactTablesOk.k28 : (Rows.fnExactTablesOkRow.kinds == (if Rows.fnExactTablesOkRow.domain.isEmpty then [] else Tryz.f10.params.toList.map fun t => match Tryz.pinned.checked.prog.underlying t with | some (.int k) => some k | _ => none)) = true := by kernel_rfl
theorem FnExactTablesOk.k29 : (Rows.fnExactTablesOkRow.pinned == Rows.fnExactTablesOkRow.pinnedBy) = true := by kernel_rfl
theorem FnExactTablesOk.k30 : (Rows.fnExactTablesOkRow.veiled == (Tryz.f10.params.toList ++ Rows.fnExactTablesOkSpec.plain.varTypes Tryz.pinned.checked.prog ++ Tryz.f10.resultTypes.toList).any (Tryz.pinned.checked.prog.veiledRec ·)) = true := by kernel_rfl
theorem FnExactTablesOk.k31 : (Rows.fnExactTablesOkRow.veiledFits Tryz.pinned.checked.prog Tryz.f10.params.toList (Tryz.f10.params.toList ++ Rows.fnExactTablesOkSpec.plain.varTypes Tryz.pinned.checked.prog ++ Tryz.f10.resultTypes.toList)) = true := by kernel_rfl
theorem FnExactTablesOk.and2 {a b : Bool} (h1 : a = true) (h2 : b = true) : (a && b) = true := by rw [h1, h2]; rfl
theorem FnExactTablesOk.joined {P : Program} {f : FuncId} {fn : Func} {s : ChangeSpec} {c : OpenClaim} (h0 : (c.wf (OpenSpec.ofChange s)) = true) (h1 : (laidOutB P) = true) (h2 : (mapsRowed P) = true) (h3 : (fn.params.all (P.readableRec ·)) = true) (h4 : (namedTie P c.named s.vars) = true) (h5 : (c.stops == []) = true) (h6 : (P.stops == []) = true) (h7 : (c.knobs == []) = true) (h8 : (P.stopKnobs == []) = true) (h9 : (c.inPlace == P.inPlace f) = true) (h10 : (c.unfollowed == P.unfollowed f) = true) (h11 : (c.recurses == P.recurses f) = true) (h12 : (c.named == P.varsNamed f) = true) (h13 : (c.maps == (fn.params.toList ++ s.plain.varTypes P).any (P.mapsRec ·)) = true) (h14 : (c.ifaces == (fn.params.toList ++ s.plain.varTypes P).any (P.ifacesRec ·)) = true) (h15 : (c.mapsOut == P.mapsAmong fn.resultTypes.toList) = true) (h16 : (c.loops == (fn.params.toList ++ s.plain.varTypes P).any (P.loopsFrom ·)) = true) (h17 : (c.wideKeys == (fn.params.toList ++ s.plain.varTypes P ++ fn.resultTypes.toList).any (P.wideKeysFrom ·)) = true) (h18 : (s.vars.all (P.varReadable ·)) = true) (h19 : (fn.resultTypes.all (fun t => P.readableRec t && decide (t < P.types.size))) = true) (h20 : (c.ifacesOut == fn.resultTypes.toList.any (P.ifacesRec ·)) = true) (h21 : (c.loopsOut == fn.resultTypes.toList.any (P.loopsFrom ·)) = true) (h22 : (c.plainKeys == P.plainKeys) = true) (h23 : (c.shortTexts.isNone) = true) (h24 : (P.stopsHeard) = true) (h25 : (P.mayEnter) = true) (h26 : (c.lifted == P.liftsFinal) = true) (h27 : (P.make == some c.make) = true) (h28 : (c.kinds == (if c.domain.isEmpty then [] else fn.params.toList.map fun t => match P.underlying t with | some (.int k) => some k | _ => none)) = true) (h29 : (c.pinned == c.pinnedBy) = true) (h30 : (c.veiled == (fn.params.toList ++ s.plain.varTypes P ++ fn.resultTypes.toList).any (P.veiledRec ·)) = true) (h31 : (c.veiledFits P fn.params.toList (fn.params.toList ++ s.plain.varTypes P ++ fn.resultTypes.toList)) = true) : joinedFacts P f fn s c = true := by
  unfold joinedFacts
  exact FnExactTablesOk.and2 (FnExactTablesOk.and2 (FnExactTablesOk.and2 (FnExactTablesOk.and2 (FnExactTablesOk.and2 (FnExactTablesOk.and2 (FnExactTablesOk.and2 (FnExactTablesOk.and2 (FnExactTablesOk.and2 (FnExactTablesOk.and2 (FnExactTablesOk.and2 (FnExactTablesOk.and2 (FnExactTablesOk.and2 (FnExactTablesOk.and2 (FnExactTablesOk.and2 (FnExactTablesOk.and2 (FnExactTablesOk.and2 (FnExactTablesOk.and2 (FnExactTablesOk.and2 (FnExactTablesOk.and2 (FnExactTablesOk.and2 (FnExactTablesOk.and2 (FnExactTablesOk.and2 (FnExactTablesOk.and2 (FnExactTablesOk.and2 (FnExactTablesOk.and2 (FnExactTablesOk.and2 (FnExactTablesOk.and2 (FnExactTablesOk.and2 (FnExactTablesOk.and2 (FnExactTablesOk.and2 (h0) h1) h2) h3) h4) h5) h6) h7) h8) h9) h10) h11) h12) h13) h14) h15) h16) h17) h18) h19) h20) h21) h22) h23) h24) h25) h26) h27) h28) h29) h30) h31
theorem FnExactTablesOk.closed : joinedFacts Tryz.pinned.checked.prog 10 Tryz.f10 Rows.fnExactTablesOkSpec Rows.fnExactTablesOkRow = true := FnExactTablesOk.joined (P := Tryz.pinned.checked.prog) (f := 10) (fn := Tryz.f10) (s := Rows.fnExactTablesOkSpec) (c := Rows.fnExactTablesOkRow) FnExactTablesOk.k0 FnExactTablesOk.k1 FnExactTablesOk.k2 FnExactTablesOk.k3 FnExactTablesOk.k4 FnExactTablesOk.k5 FnExactTablesOk.k6 FnExactTablesOk.k7 FnExactTablesOk.k8 FnExactTablesOk.k9 FnExactTablesOk.k10 FnExactTablesOk.k11 FnExactTablesOk.k12 FnExactTablesOk.k13 FnExactTablesOk.k14 FnExactTablesOk.k15 FnExactTablesOk.k16 FnExactTablesOk.k17 FnExactTablesOk.k18 FnExactTablesOk.k19 FnExactTablesOk.k20 FnExactTablesOk.k21 FnExactTablesOk.k22 FnExactTablesOk.k23 FnExactTablesOk.k24 FnExactTablesOk.k25 FnExactTablesOk.k26 FnExactTablesOk.k27 FnExactTablesOk.k28 FnExactTablesOk.k29 FnExactTablesOk.k30 FnExactTablesOk.k31
theorem FnExactTablesOk_holds : Rows.FnExactTablesOkSaid :=
  OpenClaim.holds_of_wide 10 Tryz.f10 rfl rfl rfl rfl rfl rfl rfl ⟨rfl, rfl, rfl, rfl, rfl⟩ rfl rfl rfl rfl rfl (by kernel_rfl) Tryz.func10 FnExactTablesOk.closed
    (of_decide_eq_true (by kernel_rfl)) (by unfold Func.isWrapper; first | (rw [if_pos (by decide +kernel)]; kernel_rfl) | (rw [if_neg (by decide +kernel)]; exact ⟨rfl, rfl⟩))
    (fun os started H enc _ => FnExactTablesOk.lifted os started H enc)
#print axioms FnExactTablesOk_holds
end Go.Proofs.YtcpooehlndhcbaaGreat
