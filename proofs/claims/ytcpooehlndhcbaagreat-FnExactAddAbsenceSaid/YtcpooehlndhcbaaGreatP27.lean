/- 'laws.FnExactAddAbsence' returns true for every input, and each argument reads behind the call as it read before: no condition. -/
import Derived.Test.YtcpooehlndhcbaaGreatRows
import Derived.Test.YtcpooehlndhcbaaGreatM4
namespace Go.Proofs.YtcpooehlndhcbaaGreat
open Go.ChangeShapes Go.WideShapes Go.ChangeAt Go.RowKit Go.Vx
theorem FnExactAddAbsence.own : ownKnob Tryz.prog.godebug = none := by kernel_rfl
theorem FnExactAddAbsence.laidOut : laidOutB Tryz.prog = true := by kernel_rfl
set_option maxRecDepth 100000 in
theorem FnExactAddAbsence.lifted (os : Os) (started : os.Started) (H : Type) (enc : TypeId × Value → H) :
    ReturnsInHanded {} Tryz.checked os 4 .any (Rows.fnExactAddAbsenceSpec.pre6 enc Tryz.prog Tryz.f4 Rows.fnExactAddAbsenceRow.domain false) (Rows.fnExactAddAbsenceSpec.post enc Tryz.prog Tryz.f4 false true false false) := by
  refine returnsInHanded_of_change (C := Tryz.checked) FnExactAddAbsence.own started (by kernel_rfl) Tryz.func4
    (ChangeSpec.witness6 (enc := enc) (C := Tryz.checked) false ⟨#[], #[.slice none 0 0, .slice none 0 0, .agg #[.int .i64 0, .int .i64 0, .string ⟨#[]⟩, .slice none 0 0], .string ⟨#[]⟩], []⟩ 8 (by kernel_rfl) (by kernel_rfl) (by kernel_rfl) (by kernel_rfl)) ?_
  intro W base args ds gs before hval0 hW hcnd _
  have hval : ∀ (j : Nat) t v, Tryz.f4.params[j]? = some t → args[j]? = some v → Value.okWide Tryz.prog W .any base t v := hval0
  have hW' := hW
  obtain ⟨p, q, hA0, hV, rfl, hfz, hnd⟩ := hW
  have hA : DataW.TrodAll enc Tryz.prog W 0 (fun _ => true) true Tryz.f4.params.toList args.toList ds p := hA0
  rw [Tryz.params4] at hA hval
  obtain ⟨v0, v1, v2, v3, d0, d1, d2, d3, p0, p1, p2, p3, rfl, rfl, hp0, h0, h1, h2, h3⟩ := trodAll_four hA
  obtain ⟨e0, ⟨l0, rfl, w0⟩, hr0⟩ := read_cell (fun cs => okWide_slice Tryz.underlying22 cs) read_BindingS (hval 0 _ _ rfl rfl) h0
  obtain ⟨e1, ⟨l1, rfl, w1⟩, hr1⟩ := read_cell (fun cs => okWide_slice Tryz.underlying23 cs) read_MarkS (hval 1 _ _ rfl rfl) h1
  obtain ⟨e2, ⟨t2, rfl, w2⟩, cs2, rfl, hr2⟩ := read_struct Tryz.underlying39 read_Term (hval 2 _ _ rfl rfl) h2
  obtain ⟨e3, ⟨n3, rfl, w3⟩, hr3⟩ := read_cell (fun cs => okWide_string Tryz.underlying9 cs) (reads_str Tryz.underlying9) (hval 3 _ _ rfl rfl) h3
  refine law_calls FnExactAddAbsence.laidOut (fn := Tryz.f4) (tb := 4) ?_ (by kernel_rfl) und_bool rfl rfl hW' ⟨Tryz.f4, Tryz.func4, by kernel_rfl, by kernel_rfl⟩ ?_
  · intro t ht
    have : Tryz.f4.params.toList = [22, 23, 39, 9] := by rw [Tryz.params4]
    rw [this] at ht
    simp only [List.mem_cons, List.not_mem_nil, or_false] at ht
    rcases ht with rfl | rfl | rfl | rfl
    · exact ⟨by kernel_rfl, of_decide_eq_true (by kernel_rfl)⟩
    · exact ⟨by kernel_rfl, of_decide_eq_true (by kernel_rfl)⟩
    · exact ⟨by kernel_rfl, of_decide_eq_true (by kernel_rfl)⟩
    · exact ⟨by kernel_rfl, of_decide_eq_true (by kernel_rfl)⟩
  · exact by
      have e3 : [v3] = [Value.string n3] := hr3
      cases e3
      exact FnExactAddAbsence_spec hr0 hr1 (Tm.rep hr2) w0 w1 w2
theorem FnExactAddAbsence.k0 : (Rows.fnExactAddAbsenceRow.wf (OpenSpec.ofChange Rows.fnExactAddAbsenceSpec)) = true := by kernel_rfl
theorem FnExactAddAbsence.k1 : (laidOutB Tryz.pinned.checked.prog) = true := by kernel_rfl
theorem FnExactAddAbsence.k2 : (mapsRowed Tryz.pinned.checked.prog) = true := by kernel_rfl
theorem FnExactAddAbsence.k3 : (Tryz.f4.params.all (Tryz.pinned.checked.prog.readableRec ·)) = true := by kernel_rfl
theorem FnExactAddAbsence.k4 : (namedTie Tryz.pinned.checked.prog Rows.fnExactAddAbsenceRow.named Rows.fnExactAddAbsenceSpec.vars) = true := by kernel_rfl
theorem FnExactAddAbsence.k5 : (Rows.fnExactAddAbsenceRow.stops == []) = true := by kernel_rfl
theorem FnExactAddAbsence.k6 : (Tryz.pinned.checked.prog.stops == []) = true := by kernel_rfl
theorem FnExactAddAbsence.k7 : (Rows.fnExactAddAbsenceRow.knobs == []) = true := by kernel_rfl
theorem FnExactAddAbsence.k8 : (Tryz.pinned.checked.prog.stopKnobs == []) = true := by kernel_rfl
theorem FnExactAddAbsence.k9 : (Rows.fnExactAddAbsenceRow.inPlace == Tryz.pinned.checked.prog.inPlace 4) = true := by kernel_rfl
theorem FnExactAddAbsence.k10 : (Rows.fnExactAddAbsenceRow.unfollowed == Tryz.pinned.checked.prog.unfollowed 4) = true := by kernel_rfl
theorem FnExactAddAbsence.k11 : (Rows.fnExactAddAbsenceRow.recurses == Tryz.pinned.checked.prog.recurses 4) = true := by kernel_rfl
theorem FnExactAddAbsence.k12 : (Rows.fnExactAddAbsenceRow.named == Tryz.pinned.checked.prog.varsNamed 4) = true := by kernel_rfl
theorem FnExactAddAbsence.k13 : (Rows.fnExactAddAbsenceRow.maps == (Tryz.f4.params.toList ++ Rows.fnExactAddAbsenceSpec.plain.varTypes Tryz.pinned.checked.prog).any (Tryz.pinned.checked.prog.mapsRec ·)) = true := by kernel_rfl
theorem FnExactAddAbsence.k14 : (Rows.fnExactAddAbsenceRow.ifaces == (Tryz.f4.params.toList ++ Rows.fnExactAddAbsenceSpec.plain.varTypes Tryz.pinned.checked.prog).any (Tryz.pinned.checked.prog.ifacesRec ·)) = true := by kernel_rfl
theorem FnExactAddAbsence.k15 : (Rows.fnExactAddAbsenceRow.mapsOut == Tryz.pinned.checked.prog.mapsAmong Tryz.f4.resultTypes.toList) = true := by kernel_rfl
theorem FnExactAddAbsence.k16 : (Rows.fnExactAddAbsenceRow.loops == (Tryz.f4.params.toList ++ Rows.fnExactAddAbsenceSpec.plain.varTypes Tryz.pinned.checked.prog).any (Tryz.pinned.checked.prog.loopsFrom ·)) = true := by kernel_rfl
theorem FnExactAddAbsence.k17 : (Rows.fnExactAddAbsenceRow.wideKeys == (Tryz.f4.params.toList ++ Rows.fnExactAddAbsenceSpec.plain.varTypes Tryz.pinned.checked.prog ++ Tryz.f4.resultTypes.toList).any (Tryz.pinned.checked.prog.wideKeysFrom ·)) = true := by kernel_rfl
theorem FnExactAddAbsence.k18 : (Rows.fnExactAddAbsenceSpec.vars.all (Tryz.pinned.checked.prog.varReadable ·)) = true := by kernel_rfl
theorem FnExactAddAbsence.k19 : (Tryz.f4.resultTypes.all (fun t => Tryz.pinned.checked.prog.readableRec t && decide (t < Tryz.pinned.checked.prog.types.size))) = true := by kernel_rfl
theorem FnExactAddAbsence.k20 : (Rows.fnExactAddAbsenceRow.ifacesOut == Tryz.f4.resultTypes.toList.any (Tryz.pinned.checked.prog.ifacesRec ·)) = true := by kernel_rfl
theorem FnExactAddAbsence.k21 : (Rows.fnExactAddAbsenceRow.loopsOut == Tryz.f4.resultTypes.toList.any (Tryz.pinned.checked.prog.loopsFrom ·)) = true := by kernel_rfl
theorem FnExactAddAbsence.k22 : (Rows.fnExactAddAbsenceRow.plainKeys == Tryz.pinned.checked.prog.plainKeys) = true := by kernel_rfl
theorem FnExactAddAbsence.k23 : (Rows.fnExactAddAbsenceRow.shortTexts.isNone) = true := by kernel_rfl
theorem FnExactAddAbsence.k24 : (Tryz.pinned.checked.prog.stopsHeard) = true := by kernel_rfl
theorem FnExactAddAbsence.k25 : (Tryz.pinned.checked.prog.mayEnter) = true := by kernel_rfl
theorem FnExactAddAbsence.k26 : (Rows.fnExactAddAbsenceRow.lifted == Tryz.pinned.checked.prog.liftsFinal) = true := by kernel_rfl
theorem FnExactAddAbsence.k27 : (Tryz.pinned.checked.prog.make == some Rows.fnExactAddAbsenceRow.make) = true := by kernel_rfl
theorem FnExactAddAbsence.k28 : (Rows.fnExactAddAbsenceRow.kinds == (if Rows.fnExactAddAbsenceRow.domain.isEmpty then [] else Tryz.f4.params.toList.map fun t => match Tryz.pinned.checked.prog.underlying t with | some (.int k) => some k | _ => none)) = true := by kernel_rfl
theorem FnExactAddAbsence.k29 : (Rows.fnExactAddAbsenceRow.pinned == Rows.fnExactAddAbsenceRow.pinnedBy) = true := by kernel_rfl
theorem FnExactAddAbsence.k30 : (Rows.fnExactAddAbsenceRow.veiled == (Tryz.f4.params.toList ++ Rows.fnExactAddAbsenceSpec.plain.varTypes Tryz.pinned.checked.prog ++ Tryz.f4.resultTypes.toList).any (Tryz.pinned.checked.prog.veiledRec ·)) = true := by kernel_rfl
theorem FnExactAddAbsence.k31 : (Rows.fnExactAddAbsenceRow.veiledFits Tryz.pinned.checked.prog Tryz.f4.params.toList (Tryz.f4.params.toList ++ Rows.fnExactAddAbsenceSpec.plain.varTypes Tryz.pinned.checked.prog ++ Tryz.f4.resultTypes.toList)) = true := by kernel_rfl
theorem FnExactAddAbsence.and2 {a b : Bool} (h1 : a = true) (h2 : b = true) : (a && b) = true := by rw [h1, h2]; rfl
theorem FnExactAddAbsence.joined {P : Program} {f : FuncId} {fn : Func} {s : ChangeSpec} {c : OpenClaim} (h0 : (c.wf (OpenSpec.ofChange s)) = true) (h1 : (laidOutB P) = true) (h2 : (mapsRowed P) = true) (h3 : (fn.params.all (P.readableRec ·)) = true) (h4 : (namedTie P c.named s.vars) = true) (h5 : (c.stops == []) = true) (h6 : (P.stops == []) = true) (h7 : (c.knobs == []) = true) (h8 : (P.stopKnobs == []) = true) (h9 : (c.inPlace == P.inPlace f) = true) (h10 : (c.unfollowed == P.unfollowed f) = true) (h11 : (c.recurses == P.recurses f) = true) (h12 : (c.named == P.varsNamed f) = true) (h13 : (c.maps == (fn.params.toList ++ s.plain.varTypes P).any (P.mapsRec ·)) = true) (h14 : (c.ifaces == (fn.params.toList ++ s.plain.varTypes P).any (P.ifacesRec ·)) = true) (h15 : (c.mapsOut == P.mapsAmong fn.resultTypes.toList) = true) (h16 : (c.loops == (fn.params.toList ++ s.plain.varTypes P).any (P.loopsFrom ·)) = true) (h17 : (c.wideKeys == (fn.params.toList ++ s.plain.varTypes P ++ fn.resultTypes.toList).any (P.wideKeysFrom ·)) = true) (h18 : (s.vars.all (P.varReadable ·)) = true) (h19 : (fn.resultTypes.all (fun t => P.readableRec t && decide (t < P.types.size))) = true) (h20 : (c.ifacesOut == fn.resultTypes.toList.any (P.ifacesRec ·)) = true) (h21 : (c.loopsOut == fn.resultTypes.toList.any (P.loopsFrom ·)) = true) (h22 : (c.plainKeys == P.plainKeys) = true) (h23 : (c.shortTexts.isNone) = true) (h24 : (P.stopsHeard) = true) (h25 : (P.mayEnter) = true) (h26 : (c.lifted == P.liftsFinal) = true) (h27 : (P.make == some c.make) = true) (h28 : (c.kinds == (if c.domain.isEmpty then [] else fn.params.toList.map fun t => match P.underlying t with | some (.int k) => some k | _ => none)) = true) (h29 : (c.pinned == c.pinnedBy) = true) (h30 : (c.veiled == (fn.params.toList ++ s.plain.varTypes P ++ fn.resultTypes.toList).any (P.veiledRec ·)) = true) (h31 : (c.veiledFits P fn.params.toList (fn.params.toList ++ s.plain.varTypes P ++ fn.resultTypes.toList)) = true) : joinedFacts P f fn s c = true := by
  unfold joinedFacts
  exact FnExactAddAbsence.and2 (FnExactAddAbsence.and2 (FnExactAddAbsence.and2 (FnExactAddAbsence.and2 (FnExactAddAbsence.and2 (FnExactAddAbsence.and2 (FnExactAddAbsence.and2 (FnExactAddAbsence.and2 (FnExactAddAbsence.and2 (FnExactAddAbsence.and2 (FnExactAddAbsence.and2 (FnExactAddAbsence.and2 (FnExactAddAbsence.and2 (FnExactAddAbsence.and2 (FnExactAddAbsence.and2 (FnExactAddAbsence.and2 (FnExactAddAbsence.and2 (FnExactAddAbsence.and2 (FnExactAddAbsence.and2 (FnExactAddAbsence.and2 (FnExactAddAbsence.and2 (FnExactAddAbsence.and2 (FnExactAddAbsence.and2 (FnExactAddAbsence.and2 (FnExactAddAbsence.and2 (FnExactAddAbsence.and2 (FnExactAddAbsence.and2 (FnExactAddAbsence.and2 (FnExactAddAbsence.and2 (FnExactAddAbsence.and2 (FnExactAddAbsence.and2 (h0) h1) h2) h3) h4) h5) h6) h7) h8) h9) h10) h11) h12) h13) h14) h15) h16) h17) h18) h19) h20) h21) h22) h23) h24) h25) h26) h27) h28) h29) h30) h31
theorem FnExactAddAbsence.closed : joinedFacts Tryz.pinned.checked.prog 4 Tryz.f4 Rows.fnExactAddAbsenceSpec Rows.fnExactAddAbsenceRow = true := FnExactAddAbsence.joined (P := Tryz.pinned.checked.prog) (f := 4) (fn := Tryz.f4) (s := Rows.fnExactAddAbsenceSpec) (c := Rows.fnExactAddAbsenceRow) FnExactAddAbsence.k0 FnExactAddAbsence.k1 FnExactAddAbsence.k2 FnExactAddAbsence.k3 FnExactAddAbsence.k4 FnExactAddAbsence.k5 FnExactAddAbsence.k6 FnExactAddAbsence.k7 FnExactAddAbsence.k8 FnExactAddAbsence.k9 FnExactAddAbsence.k10 FnExactAddAbsence.k11 FnExactAddAbsence.k12 FnExactAddAbsence.k13 FnExactAddAbsence.k14 FnExactAddAbsence.k15 FnExactAddAbsence.k16 FnExactAddAbsence.k17 FnExactAddAbsence.k18 FnExactAddAbsence.k19 FnExactAddAbsence.k20 FnExactAddAbsence.k21 FnExactAddAbsence.k22 FnExactAddAbsence.k23 FnExactAddAbsence.k24 FnExactAddAbsence.k25 FnExactAddAbsence.k26 FnExactAddAbsence.k27 FnExactAddAbsence.k28 FnExactAddAbsence.k29 FnExactAddAbsence.k30 FnExactAddAbsence.k31
theorem FnExactAddAbsence_holds : Rows.FnExactAddAbsenceSaid :=
  OpenClaim.holds_of_wide 4 Tryz.f4 rfl rfl rfl rfl rfl rfl rfl ⟨rfl, rfl, rfl, rfl, rfl⟩ rfl rfl rfl rfl rfl (by kernel_rfl) Tryz.func4 FnExactAddAbsence.closed
    (of_decide_eq_true (by kernel_rfl)) (by unfold Func.isWrapper; first | (rw [if_pos (by decide +kernel)]; kernel_rfl) | (rw [if_neg (by decide +kernel)]; exact ⟨rfl, rfl⟩))
    (fun os started H enc _ => FnExactAddAbsence.lifted os started H enc)
#print axioms FnExactAddAbsence_holds
end Go.Proofs.YtcpooehlndhcbaaGreat
