/- 'laws.FnAbsence' returns true for every input, and each argument reads behind the call as it read before: no condition. -/
import Derived.Test.YteomklpfifepdaaRows
import Derived.Test.YteomklpfifepdaaE2
namespace Go.Proofs.Yteomklpfifepdaa
open Go.ChangeShapes Go.WideShapes Go.ChangeAt Go.RowKit Go.Vx
theorem FnAbsence.own : ownKnob Try.prog.godebug = none := by kernel_rfl
theorem FnAbsence.laidOut : laidOutB Try.prog = true := by kernel_rfl
set_option maxRecDepth 100000 in
theorem FnAbsence.lifted (os : Os) (started : os.Started) (H : Type) (enc : TypeId × Value → H) :
  ReturnsInHanded {} Try.checked os 7 .any (Rows.fnAbsenceSpec.pre6 enc Try.prog Try.f7 Rows.fnAbsenceRow.domain false) (Rows.fnAbsenceSpec.post enc Try.prog Try.f7 false true false false) := by
 refine returnsInHanded_of_change (C := Try.checked) FnAbsence.own started (by kernel_rfl) Try.func7
  (ChangeSpec.witness6 (enc := enc) (C := Try.checked) false ⟨#[], #[.slice none 0 0], []⟩ 8 (by kernel_rfl) (by kernel_rfl) (by kernel_rfl) (by kernel_rfl)) ?_
 intro W base args ds gs before hval0 hW hcnd _
 have hval : ∀ (j : Nat) t v, Try.f7.params[j]? = some t → args[j]? = some v → Value.okWide Try.prog W .any base t v := hval0
 have hW' := hW
 obtain ⟨p, q, hA0, hV, rfl, hfz, hnd⟩ := hW
 have hA : DataW.TrodAll enc Try.prog W 0 (fun _ => true) true Try.f7.params.toList args.toList ds p := hA0
 rw [Try.params7] at hA hval
 obtain ⟨v0, d0, rfl, rfl, h0⟩ := trodAll_one hA
 obtain ⟨base0, n0, cap0, rfl, hr0⟩ := read_bytes Try.underlying22 Try.underlying5 (cellsOf_tt ti5) (hval 0 _ _ rfl rfl) h0
 refine law_calls FnAbsence.laidOut (fn := Try.f7) (tb := 4) ?_ (by kernel_rfl) und_bool rfl rfl hW' ⟨Try.f7, Try.func7, by kernel_rfl, by kernel_rfl⟩ ?_
 ·intro t ht
  have : Try.f7.params.toList = [22] := by rw [Try.params7]
  rw [this] at ht
  simp only [List.mem_cons, List.not_mem_nil, or_false] at ht
  subst ht
  exact ⟨by kernel_rfl, of_decide_eq_true (by kernel_rfl)⟩
 ·exact FnAbsence_spec hr0
theorem FnAbsence.k0 : (Rows.fnAbsenceRow.wf (OpenSpec.ofChange Rows.fnAbsenceSpec)) = true := by kernel_rfl
theorem FnAbsence.k1 : (laidOutB Try.pinned.checked.prog) = true := by kernel_rfl
theorem FnAbsence.k2 : (mapsRowed Try.pinned.checked.prog) = true := by kernel_rfl
theorem FnAbsence.k3 : (Try.f7.params.all (Try.pinned.checked.prog.readableRec ·)) = true := by kernel_rfl
theorem FnAbsence.k4 : (namedTie Try.pinned.checked.prog Rows.fnAbsenceRow.named Rows.fnAbsenceSpec.vars) = true := by kernel_rfl
theorem FnAbsence.k5 : (Rows.fnAbsenceRow.stops == []) = true := by kernel_rfl
theorem FnAbsence.k6 : (Try.pinned.checked.prog.stops == []) = true := by kernel_rfl
theorem FnAbsence.k7 : (Rows.fnAbsenceRow.knobs == []) = true := by kernel_rfl
theorem FnAbsence.k8 : (Try.pinned.checked.prog.stopKnobs == []) = true := by kernel_rfl
theorem FnAbsence.k9 : (Rows.fnAbsenceRow.inPlace == Try.pinned.checked.prog.inPlace 7) = true := by kernel_rfl
theorem FnAbsence.k10 : (Rows.fnAbsenceRow.unfollowed == Try.pinned.checked.prog.unfollowed 7) = true := by kernel_rfl
theorem FnAbsence.k11 : (Rows.fnAbsenceRow.recurses == Try.pinned.checked.prog.recurses 7) = true := by kernel_rfl
theorem FnAbsence.k12 : (Rows.fnAbsenceRow.named == Try.pinned.checked.prog.varsNamed 7) = true := by kernel_rfl
theorem FnAbsence.k13 : (Rows.fnAbsenceRow.maps == (Try.f7.params.toList ++ Rows.fnAbsenceSpec.plain.varTypes Try.pinned.checked.prog).any (Try.pinned.checked.prog.mapsRec ·)) = true := by kernel_rfl
theorem FnAbsence.k14 : (Rows.fnAbsenceRow.ifaces == (Try.f7.params.toList ++ Rows.fnAbsenceSpec.plain.varTypes Try.pinned.checked.prog).any (Try.pinned.checked.prog.ifacesRec ·)) = true := by kernel_rfl
theorem FnAbsence.k15 : (Rows.fnAbsenceRow.mapsOut == Try.pinned.checked.prog.mapsAmong Try.f7.resultTypes.toList) = true := by kernel_rfl
theorem FnAbsence.k16 : (Rows.fnAbsenceRow.loops == (Try.f7.params.toList ++ Rows.fnAbsenceSpec.plain.varTypes Try.pinned.checked.prog).any (Try.pinned.checked.prog.loopsFrom ·)) = true := by kernel_rfl
theorem FnAbsence.k17 : (Rows.fnAbsenceRow.wideKeys == (Try.f7.params.toList ++ Rows.fnAbsenceSpec.plain.varTypes Try.pinned.checked.prog ++ Try.f7.resultTypes.toList).any (Try.pinned.checked.prog.wideKeysFrom ·)) = true := by kernel_rfl
theorem FnAbsence.k18 : (Rows.fnAbsenceSpec.vars.all (Try.pinned.checked.prog.varReadable ·)) = true := by kernel_rfl
theorem FnAbsence.k19 : (Try.f7.resultTypes.all (fun t => Try.pinned.checked.prog.readableRec t && decide (t < Try.pinned.checked.prog.types.size))) = true := by kernel_rfl
theorem FnAbsence.k20 : (Rows.fnAbsenceRow.ifacesOut == Try.f7.resultTypes.toList.any (Try.pinned.checked.prog.ifacesRec ·)) = true := by kernel_rfl
theorem FnAbsence.k21 : (Rows.fnAbsenceRow.loopsOut == Try.f7.resultTypes.toList.any (Try.pinned.checked.prog.loopsFrom ·)) = true := by kernel_rfl
theorem FnAbsence.k22 : (Rows.fnAbsenceRow.plainKeys == Try.pinned.checked.prog.plainKeys) = true := by kernel_rfl
theorem FnAbsence.k23 : (Rows.fnAbsenceRow.shortTexts.isNone) = true := by kernel_rfl
theorem FnAbsence.k24 : (Try.pinned.checked.prog.stopsHeard) = true := by kernel_rfl
theorem FnAbsence.k25 : (Try.pinned.checked.prog.mayEnter) = true := by kernel_rfl
theorem FnAbsence.k26 : (Rows.fnAbsenceRow.lifted == Try.pinned.checked.prog.liftsFinal) = true := by kernel_rfl
theorem FnAbsence.k27 : (Try.pinned.checked.prog.make == some Rows.fnAbsenceRow.make) = true := by kernel_rfl
theorem FnAbsence.k28 : (Rows.fnAbsenceRow.kinds == (if Rows.fnAbsenceRow.domain.isEmpty then [] else Try.f7.params.toList.map fun t => match Try.pinned.checked.prog.underlying t with | some (.int k) => some k | _ => none)) = true := by kernel_rfl
theorem FnAbsence.k29 : (Rows.fnAbsenceRow.pinned == Rows.fnAbsenceRow.pinnedBy) = true := by kernel_rfl
theorem FnAbsence.k30 : (Rows.fnAbsenceRow.veiled == (Try.f7.params.toList ++ Rows.fnAbsenceSpec.plain.varTypes Try.pinned.checked.prog ++ Try.f7.resultTypes.toList).any (Try.pinned.checked.prog.veiledRec ·)) = true := by kernel_rfl
theorem FnAbsence.k31 : (Rows.fnAbsenceRow.veiledFits Try.pinned.checked.prog Try.f7.params.toList (Try.f7.params.toList ++ Rows.fnAbsenceSpec.plain.varTypes Try.pinned.checked.prog ++ Try.f7.resultTypes.toList)) = true := by kernel_rfl
theorem FnAbsence.and2 {a b : Bool} (h1 : a = true) (h2 : b = true) : (a && b) = true := by rw [h1, h2]; rfl
theorem FnAbsence.joined {P : Program} {f : FuncId} {fn : Func} {s : ChangeSpec} {c : OpenClaim} (h0 : (c.wf (OpenSpec.ofChange s)) = true) (h1 : (laidOutB P) = true) (h2 : (mapsRowed P) = true) (h3 : (fn.params.all (P.readableRec ·)) = true) (h4 : (namedTie P c.named s.vars) = true) (h5 : (c.stops == []) = true) (h6 : (P.stops == []) = true) (h7 : (c.knobs == []) = true) (h8 : (P.stopKnobs == []) = true) (h9 : (c.inPlace == P.inPlace f) = true) (h10 : (c.unfollowed == P.unfollowed f) = true) (h11 : (c.recurses == P.recurses f) = true) (h12 : (c.named == P.varsNamed f) = true) (h13 : (c.maps == (fn.params.toList ++ s.plain.varTypes P).any (P.mapsRec ·)) = true) (h14 : (c.ifaces == (fn.params.toList ++ s.plain.varTypes P).any (P.ifacesRec ·)) = true) (h15 : (c.mapsOut == P.mapsAmong fn.resultTypes.toList) = true) (h16 : (c.loops == (fn.params.toList ++ s.plain.varTypes P).any (P.loopsFrom ·)) = true) (h17 : (c.wideKeys == (fn.params.toList ++ s.plain.varTypes P ++ fn.resultTypes.toList).any (P.wideKeysFrom ·)) = true) (h18 : (s.vars.all (P.varReadable ·)) = true) (h19 : (fn.resultTypes.all (fun t => P.readableRec t && decide (t < P.types.size))) = true) (h20 : (c.ifacesOut == fn.resultTypes.toList.any (P.ifacesRec ·)) = true) (h21 : (c.loopsOut == fn.resultTypes.toList.any (P.loopsFrom ·)) = true) (h22 : (c.plainKeys == P.plainKeys) = true) (h23 : (c.shortTexts.isNone) = true) (h24 : (P.stopsHeard) = true) (h25 : (P.mayEnter) = true) (h26 : (c.lifted == P.liftsFinal) = true) (h27 : (P.make == some c.make) = true) (h28 : (c.kinds == (if c.domain.isEmpty then [] else fn.params.toList.map fun t => match P.underlying t with | some (.int k) => some k | _ => none)) = true) (h29 : (c.pinned == c.pinnedBy) = true) (h30 : (c.veiled == (fn.params.toList ++ s.plain.varTypes P ++ fn.resultTypes.toList).any (P.veiledRec ·)) = true) (h31 : (c.veiledFits P fn.params.toList (fn.params.toList ++ s.plain.varTypes P ++ fn.resultTypes.toList)) = true) : joinedFacts P f fn s c = true := by
 unfold joinedFacts
 exact FnAbsence.and2 (FnAbsence.and2 (FnAbsence.and2 (FnAbsence.and2 (FnAbsence.and2 (FnAbsence.and2 (FnAbsence.and2 (FnAbsence.and2 (FnAbsence.and2 (FnAbsence.and2 (FnAbsence.and2 (FnAbsence.and2 (FnAbsence.and2 (FnAbsence.and2 (FnAbsence.and2 (FnAbsence.and2 (FnAbsence.and2 (FnAbsence.and2 (FnAbsence.and2 (FnAbsence.and2 (FnAbsence.and2 (FnAbsence.and2 (FnAbsence.and2 (FnAbsence.and2 (FnAbsence.and2 (FnAbsence.and2 (FnAbsence.and2 (FnAbsence.and2 (FnAbsence.and2 (FnAbsence.and2 (FnAbsence.and2 (h0) h1) h2) h3) h4) h5) h6) h7) h8) h9) h10) h11) h12) h13) h14) h15) h16) h17) h18) h19) h20) h21) h22) h23) h24) h25) h26) h27) h28) h29) h30) h31
theorem FnAbsence.closed : joinedFacts Try.pinned.checked.prog 7 Try.f7 Rows.fnAbsenceSpec Rows.fnAbsenceRow = true := FnAbsence.joined (P := Try.pinned.checked.prog) (f := 7) (fn := Try.f7) (s := Rows.fnAbsenceSpec) (c := Rows.fnAbsenceRow) FnAbsence.k0 FnAbsence.k1 FnAbsence.k2 FnAbsence.k3 FnAbsence.k4 FnAbsence.k5 FnAbsence.k6 FnAbsence.k7 FnAbsence.k8 FnAbsence.k9 FnAbsence.k10 FnAbsence.k11 FnAbsence.k12 FnAbsence.k13 FnAbsence.k14 FnAbsence.k15 FnAbsence.k16 FnAbsence.k17 FnAbsence.k18 FnAbsence.k19 FnAbsence.k20 FnAbsence.k21 FnAbsence.k22 FnAbsence.k23 FnAbsence.k24 FnAbsence.k25 FnAbsence.k26 FnAbsence.k27 FnAbsence.k28 FnAbsence.k29 FnAbsence.k30 FnAbsence.k31
theorem FnAbsence_holds : Rows.FnAbsenceSaid :=
 OpenClaim.holds_of_wide 7 Try.f7 rfl rfl rfl rfl rfl rfl rfl ⟨rfl, rfl, rfl, rfl, rfl⟩ rfl rfl rfl rfl rfl (by kernel_rfl) Try.func7 FnAbsence.closed
  (of_decide_eq_true (by kernel_rfl)) (by unfold Func.isWrapper; first | (rw [if_pos (by decide +kernel)]; kernel_rfl) | (rw [if_neg (by decide +kernel)]; exact ⟨rfl, rfl⟩))
  (fun os started H enc _ => FnAbsence.lifted os started H enc)
#print axioms FnAbsence_holds
end Go.Proofs.Yteomklpfifepdaa
