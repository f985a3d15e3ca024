/- 'laws.FnDisequality' returns true for every input, and each argument reads behind the call as it read before: no condition. -/
import Derived.Test.YteomklpfifepdaaRows
import Derived.Test.YteomklpfifepdaaE1
namespace Go.Proofs.Yteomklpfifepdaa
open Go.ChangeShapes Go.WideShapes Go.ChangeAt Go.RowKit Go.Vx
theorem FnDisequality.own : ownKnob Try.prog.godebug = none := by kernel_rfl
theorem FnDisequality.laidOut : laidOutB Try.prog = true := by kernel_rfl
set_option maxRecDepth 100000 in
theorem FnDisequality.lifted (os : Os) (started : os.Started) (H : Type) (enc : TypeId × Value → H) :
  ReturnsInHanded {} Try.checked os 9 .any (Rows.fnDisequalitySpec.pre6 enc Try.prog Try.f9 Rows.fnDisequalityRow.domain false) (Rows.fnDisequalitySpec.post enc Try.prog Try.f9 false true false false) := by
 refine returnsInHanded_of_change (C := Try.checked) FnDisequality.own started (by kernel_rfl) Try.func9
  (ChangeSpec.witness6 (enc := enc) (C := Try.checked) false ⟨#[], #[.slice none 0 0], []⟩ 8 (by kernel_rfl) (by kernel_rfl) (by kernel_rfl) (by kernel_rfl)) ?_
 intro W base args ds gs before hval0 hW hcnd _
 have hval : ∀ (j : Nat) t v, Try.f9.params[j]? = some t → args[j]? = some v → Value.okWide Try.prog W .any base t v := hval0
 have hW' := hW
 obtain ⟨p, q, hA0, hV, rfl, hfz, hnd⟩ := hW
 have hA : DataW.TrodAll enc Try.prog W 0 (fun _ => true) true Try.f9.params.toList args.toList ds p := hA0
 rw [Try.params9] at hA hval
 obtain ⟨v0, d0, rfl, rfl, h0⟩ := trodAll_one hA
 obtain ⟨base0, n0, cap0, rfl, hr0⟩ := read_bytes Try.underlying22 Try.underlying5 (cellsOf_tt ti5) (hval 0 _ _ rfl rfl) h0
 refine law_calls FnDisequality.laidOut (fn := Try.f9) (tb := 4) ?_ (by kernel_rfl) und_bool rfl rfl hW' ⟨Try.f9, Try.func9, by kernel_rfl, by kernel_rfl⟩ ?_
 ·intro t ht
  have : Try.f9.params.toList = [22] := by rw [Try.params9]
  rw [this] at ht
  simp only [List.mem_cons, List.not_mem_nil, or_false] at ht
  subst ht
  exact ⟨by kernel_rfl, of_decide_eq_true (by kernel_rfl)⟩
 ·exact FnDisequality_spec hr0
theorem FnDisequality.k0 : (Rows.fnDisequalityRow.wf (OpenSpec.ofChange Rows.fnDisequalitySpec)) = true := by kernel_rfl
theorem FnDisequality.k1 : (laidOutB Try.pinned.checked.prog) = true := by kernel_rfl
theorem FnDisequality.k2 : (mapsRowed Try.pinned.checked.prog) = true := by kernel_rfl
theorem FnDisequality.k3 : (Try.f9.params.all (Try.pinned.checked.prog.readableRec ·)) = true := by kernel_rfl
theorem FnDisequality.k4 : (namedTie Try.pinned.checked.prog Rows.fnDisequalityRow.named Rows.fnDisequalitySpec.vars) = true := by kernel_rfl
theorem FnDisequality.k5 : (Rows.fnDisequalityRow.stops == []) = true := by kernel_rfl
theorem FnDisequality.k6 : (Try.pinned.checked.prog.stops == []) = true := by kernel_rfl
theorem FnDisequality.k7 : (Rows.fnDisequalityRow.knobs == []) = true := by kernel_rfl
theorem FnDisequality.k8 : (Try.pinned.checked.prog.stopKnobs == []) = true := by kernel_rfl
theorem FnDisequality.k9 : (Rows.fnDisequalityRow.inPlace == Try.pinned.checked.prog.inPlace 9) = true := by kernel_rfl
theorem FnDisequality.k10 : (Rows.fnDisequalityRow.unfollowed == Try.pinned.checked.prog.unfollowed 9) = true := by kernel_rfl
theorem FnDisequality.k11 : (Rows.fnDisequalityRow.recurses == Try.pinned.checked.prog.recurses 9) = true := by kernel_rfl
theorem FnDisequality.k12 : (Rows.fnDisequalityRow.named == Try.pinned.checked.prog.varsNamed 9) = true := by kernel_rfl
theorem FnDisequality.k13 : (Rows.fnDisequalityRow.maps == (Try.f9.params.toList ++ Rows.fnDisequalitySpec.plain.varTypes Try.pinned.checked.prog).any (Try.pinned.checked.prog.mapsRec ·)) = true := by kernel_rfl
theorem FnDisequality.k14 : (Rows.fnDisequalityRow.ifaces == (Try.f9.params.toList ++ Rows.fnDisequalitySpec.plain.varTypes Try.pinned.checked.prog).any (Try.pinned.checked.prog.ifacesRec ·)) = true := by kernel_rfl
theorem FnDisequality.k15 : (Rows.fnDisequalityRow.mapsOut == Try.pinned.checked.prog.mapsAmong Try.f9.resultTypes.toList) = true := by kernel_rfl
theorem FnDisequality.k16 : (Rows.fnDisequalityRow.loops == (Try.f9.params.toList ++ Rows.fnDisequalitySpec.plain.varTypes Try.pinned.checked.prog).any (Try.pinned.checked.prog.loopsFrom ·)) = true := by kernel_rfl
theorem FnDisequality.k17 : (Rows.fnDisequalityRow.wideKeys == (Try.f9.params.toList ++ Rows.fnDisequalitySpec.plain.varTypes Try.pinned.checked.prog ++ Try.f9.resultTypes.toList).any (Try.pinned.checked.prog.wideKeysFrom ·)) = true := by kernel_rfl
theorem FnDisequality.k18 : (Rows.fnDisequalitySpec.vars.all (Try.pinned.checked.prog.varReadable ·)) = true := by kernel_rfl
theorem FnDisequality.k19 : (Try.f9.resultTypes.all (fun t => Try.pinned.checked.prog.readableRec t && decide (t < Try.pinned.checked.prog.types.size))) = true := by kernel_rfl
theorem FnDisequality.k20 : (Rows.fnDisequalityRow.ifacesOut == Try.f9.resultTypes.toList.any (Try.pinned.checked.prog.ifacesRec ·)) = true := by kernel_rfl
theorem FnDisequality.k21 : (Rows.fnDisequalityRow.loopsOut == Try.f9.resultTypes.toList.any (Try.pinned.checked.prog.loopsFrom ·)) = true := by kernel_rfl
theorem FnDisequality.k22 : (Rows.fnDisequalityRow.plainKeys == Try.pinned.checked.prog.plainKeys) = true := by kernel_rfl
theorem FnDisequality.k23 : (Rows.fnDisequalityRow.shortTexts.isNone) = true := by kernel_rfl
theorem FnDisequality.k24 : (Try.pinned.checked.prog.stopsHeard) = true := by kernel_rfl
theorem FnDisequality.k25 : (Try.pinned.checked.prog.mayEnter) = true := by kernel_rfl
theorem FnDisequality.k26 : (Rows.fnDisequalityRow.lifted == Try.pinned.checked.prog.liftsFinal) = true := by kernel_rfl
theorem FnDisequality.k27 : (Try.pinned.checked.prog.make == some Rows.fnDisequalityRow.make) = true := by kernel_rfl
theorem FnDisequality.k28 : (Rows.fnDisequalityRow.kinds == (if Rows.fnDisequalityRow.domain.isEmpty then [] else Try.f9.params.toList.map fun t => match Try.pinned.checked.prog.underlying t with | some (.int k) => some k | _ => none)) = true := by kernel_rfl
theorem FnDisequality.k29 : (Rows.fnDisequalityRow.pinned == Rows.fnDisequalityRow.pinnedBy) = true := by kernel_rfl
theorem FnDisequality.k30 : (Rows.fnDisequalityRow.veiled == (Try.f9.params.toList ++ Rows.fnDisequalitySpec.plain.varTypes Try.pinned.checked.prog ++ Try.f9.resultTypes.toList).any (Try.pinned.checked.prog.veiledRec ·)) = true := by kernel_rfl
theorem FnDisequality.k31 : (Rows.fnDisequalityRow.veiledFits Try.pinned.checked.prog Try.f9.params.toList (Try.f9.params.toList ++ Rows.fnDisequalitySpec.plain.varTypes Try.pinned.checked.prog ++ Try.f9.resultTypes.toList)) = true := by kernel_rfl
theorem FnDisequality.and2 {a b : Bool} (h1 : a = true) (h2 : b = true) : (a && b) = true := by rw [h1, h2]; rfl
theorem FnDisequality.joined {P : Program} {f : FuncId} {fn : Func} {s : ChangeSpec} {c : OpenClaim} (h0 : (c.wf (OpenSpec.ofChange s)) = true) (h1 : (laidOutB P) = true) (h2 : (mapsRowed P) = true) (h3 : (fn.params.all (P.readableRec ·)) = true) (h4 : (namedTie P c.named s.vars) = true) (h5 : (c.stops == []) = true) (h6 : (P.stops == []) = true) (h7 : (c.knobs == []) = true) (h8 : (P.stopKnobs == []) = true) (h9 : (c.inPlace == P.inPlace f) = true) (h10 : (c.unfollowed == P.unfollowed f) = true) (h11 : (c.recurses == P.recurses f) = true) (h12 : (c.named == P.varsNamed f) = true) (h13 : (c.maps == (fn.params.toList ++ s.plain.varTypes P).any (P.mapsRec ·)) = true) (h14 : (c.ifaces == (fn.params.toList ++ s.plain.varTypes P).any (P.ifacesRec ·)) = true) (h15 : (c.mapsOut == P.mapsAmong fn.resultTypes.toList) = true) (h16 : (c.loops == (fn.params.toList ++ s.plain.varTypes P).any (P.loopsFrom ·)) = true) (h17 : (c.wideKeys == (fn.params.toList ++ s.plain.varTypes P ++ fn.resultTypes.toList).any (P.wideKeysFrom ·)) = true) (h18 : (s.vars.all (P.varReadable ·)) = true) (h19 : (fn.resultTypes.all (fun t => P.readableRec t && decide (t < P.types.size))) = true) (h20 : (c.ifacesOut == fn.resultTypes.toList.any (P.ifacesRec ·)) = true) (h21 : (c.loopsOut == fn.resultTypes.toList.any (P.loopsFrom ·)) = true) (h22 : (c.plainKeys == P.plainKeys) = true) (h23 : (c.shortTexts.isNone) = true) (h24 : (P.stopsHeard) = true) (h25 : (P.mayEnter) = true) (h26 : (c.lifted == P.liftsFinal) = true) (h27 : (P.make == some c.make) = true) (h28 : (c.kinds == (if c.domain.isEmpty then [] else fn.params.toList.map fun t => match P.underlying t with | some (.int k) => some k | _ => none)) = true) (h29 : (c.pinned == c.pinnedBy) = true) (h30 : (c.veiled == (fn.params.toList ++ s.plain.varTypes P ++ fn.resultTypes.toList).any (P.veiledRec ·)) = true) (h31 : (c.veiledFits P fn.params.toList (fn.params.toList ++ s.plain.varTypes P ++ fn.resultTypes.toList)) = true) : joinedFacts P f fn s c = true := by
 unfold joinedFacts
 exact FnDisequality.and2 (FnDisequality.and2 (FnDisequality.and2 (FnDisequality.and2 (FnDisequality.and2 (FnDisequality.and2 (FnDisequality.and2 (FnDisequality.and2 (FnDisequality.and2 (FnDisequality.and2 (FnDisequality.and2 (FnDisequality.and2 (FnDisequality.and2 (FnDisequality.and2 (FnDisequality.and2 (FnDisequality.and2 (FnDisequality.and2 (FnDisequality.and2 (FnDisequality.and2 (FnDisequality.and2 (FnDisequality.and2 (FnDisequality.and2 (FnDisequality.and2 (FnDisequality.and2 (FnDisequality.and2 (FnDisequality.and2 (FnDisequality.and2 (FnDisequality.and2 (FnDisequality.and2 (FnDisequality.and2 (FnDisequality.and2 (h0) h1) h2) h3) h4) h5) h6) h7) h8) h9) h10) h11) h12) h13) h14) h15) h16) h17) h18) h19) h20) h21) h22) h23) h24) h25) h26) h27) h28) h29) h30) h31
theorem FnDisequality.closed : joinedFacts Try.pinned.checked.prog 9 Try.f9 Rows.fnDisequalitySpec Rows.fnDisequalityRow = true := FnDisequality.joined (P := Try.pinned.checked.prog) (f := 9) (fn := Try.f9) (s := Rows.fnDisequalitySpec) (c := Rows.fnDisequalityRow) FnDisequality.k0 FnDisequality.k1 FnDisequality.k2 FnDisequality.k3 FnDisequality.k4 FnDisequality.k5 FnDisequality.k6 FnDisequality.k7 FnDisequality.k8 FnDisequality.k9 FnDisequality.k10 FnDisequality.k11 FnDisequality.k12 FnDisequality.k13 FnDisequality.k14 FnDisequality.k15 FnDisequality.k16 FnDisequality.k17 FnDisequality.k18 FnDisequality.k19 FnDisequality.k20 FnDisequality.k21 FnDisequality.k22 FnDisequality.k23 FnDisequality.k24 FnDisequality.k25 FnDisequality.k26 FnDisequality.k27 FnDisequality.k28 FnDisequality.k29 FnDisequality.k30 FnDisequality.k31
theorem FnDisequality_holds : Rows.FnDisequalitySaid :=
 OpenClaim.holds_of_wide 9 Try.f9 rfl rfl rfl rfl rfl rfl rfl ⟨rfl, rfl, rfl, rfl, rfl⟩ rfl rfl rfl rfl rfl (by kernel_rfl) Try.func9 FnDisequality.closed
  (of_decide_eq_true (by kernel_rfl)) (by unfold Func.isWrapper; first | (rw [if_pos (by decide +kernel)]; kernel_rfl) | (rw [if_neg (by decide +kernel)]; exact ⟨rfl, rfl⟩))
  (fun os started H enc _ => FnDisequality.lifted os started H enc)
#print axioms FnDisequality_holds
end Go.Proofs.Yteomklpfifepdaa
