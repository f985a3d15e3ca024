/- 'laws.FnUnifier' returns true for every input, and each argument reads behind the call as it read before: no condition. -/
import Derived.Test.YteomklpfifepdaaRows
import Derived.Test.YteomklpfifepdaaE1
namespace Go.Proofs.Yteomklpfifepdaa
open Go.ChangeShapes Go.WideShapes Go.ChangeAt Go.RowKit Go.Vx
theorem FnUnifier.own : ownKnob Try.prog.godebug = none := by kernel_rfl
theorem FnUnifier.laidOut : laidOutB Try.prog = true := by kernel_rfl
set_option maxRecDepth 100000 in
theorem FnUnifier.lifted (os : Os) (started : os.Started) (H : Type) (enc : TypeId × Value → H) :
  ReturnsInHanded {} Try.checked os 3 .any (Rows.fnUnifierSpec.pre6 enc Try.prog Try.f3 Rows.fnUnifierRow.domain false) (Rows.fnUnifierSpec.post enc Try.prog Try.f3 false true false false) := by
 refine returnsInHanded_of_change (C := Try.checked) FnUnifier.own started (by kernel_rfl) Try.func3
  (ChangeSpec.witness6 (enc := enc) (C := Try.checked) false ⟨#[], #[.slice none 0 0], []⟩ 8 (by kernel_rfl) (by kernel_rfl) (by kernel_rfl) (by kernel_rfl)) ?_
 intro W base args ds gs before hval0 hW hcnd _
 have hval : ∀ (j : Nat) t v, Try.f3.params[j]? = some t → args[j]? = some v → Value.okWide Try.prog W .any base t v := hval0
 have hW' := hW
 obtain ⟨p, q, hA0, hV, rfl, hfz, hnd⟩ := hW
 have hA : DataW.TrodAll enc Try.prog W 0 (fun _ => true) true Try.f3.params.toList args.toList ds p := hA0
 rw [Try.params3] at hA hval
 obtain ⟨v0, d0, rfl, rfl, h0⟩ := trodAll_one hA
 obtain ⟨base0, n0, cap0, rfl, hr0⟩ := read_bytes Try.underlying22 Try.underlying5 (cellsOf_tt ti5) (hval 0 _ _ rfl rfl) h0
 refine law_calls FnUnifier.laidOut (fn := Try.f3) (tb := 4) ?_ (by kernel_rfl) und_bool rfl rfl hW' ⟨Try.f3, Try.func3, by kernel_rfl, by kernel_rfl⟩ ?_
 ·intro t ht
  have : Try.f3.params.toList = [22] := by rw [Try.params3]
  rw [this] at ht
  simp only [List.mem_cons, List.not_mem_nil, or_false] at ht
  subst ht
  exact ⟨by kernel_rfl, of_decide_eq_true (by kernel_rfl)⟩
 ·exact FnUnifier_spec hr0
theorem FnUnifier.k0 : (Rows.fnUnifierRow.wf (OpenSpec.ofChange Rows.fnUnifierSpec)) = true := by kernel_rfl
theorem FnUnifier.k1 : (laidOutB Try.pinned.checked.prog) = true := by kernel_rfl
theorem FnUnifier.k2 : (mapsRowed Try.pinned.checked.prog) = true := by kernel_rfl
theorem FnUnifier.k3 : (Try.f3.params.all (Try.pinned.checked.prog.readableRec ·)) = true := by kernel_rfl
theorem FnUnifier.k4 : (namedTie Try.pinned.checked.prog Rows.fnUnifierRow.named Rows.fnUnifierSpec.vars) = true := by kernel_rfl
theorem FnUnifier.k5 : (Rows.fnUnifierRow.stops == []) = true := by kernel_rfl
theorem FnUnifier.k6 : (Try.pinned.checked.prog.stops == []) = true := by kernel_rfl
theorem FnUnifier.k7 : (Rows.fnUnifierRow.knobs == []) = true := by kernel_rfl
theorem FnUnifier.k8 : (Try.pinned.checked.prog.stopKnobs == []) = true := by kernel_rfl
theorem FnUnifier.k9 : (Rows.fnUnifierRow.inPlace == Try.pinned.checked.prog.inPlace 3) = true := by kernel_rfl
theorem FnUnifier.k10 : (Rows.fnUnifierRow.unfollowed == Try.pinned.checked.prog.unfollowed 3) = true := by kernel_rfl
theorem FnUnifier.k11 : (Rows.fnUnifierRow.recurses == Try.pinned.checked.prog.recurses 3) = true := by kernel_rfl
theorem FnUnifier.k12 : (Rows.fnUnifierRow.named == Try.pinned.checked.prog.varsNamed 3) = true := by kernel_rfl
theorem FnUnifier.k13 : (Rows.fnUnifierRow.maps == (Try.f3.params.toList ++ Rows.fnUnifierSpec.plain.varTypes Try.pinned.checked.prog).any (Try.pinned.checked.prog.mapsRec ·)) = true := by kernel_rfl
theorem FnUnifier.k14 : (Rows.fnUnifierRow.ifaces == (Try.f3.params.toList ++ Rows.fnUnifierSpec.plain.varTypes Try.pinned.checked.prog).any (Try.pinned.checked.prog.ifacesRec ·)) = true := by kernel_rfl
theorem FnUnifier.k15 : (Rows.fnUnifierRow.mapsOut == Try.pinned.checked.prog.mapsAmong Try.f3.resultTypes.toList) = true := by kernel_rfl
theorem FnUnifier.k16 : (Rows.fnUnifierRow.loops == (Try.f3.params.toList ++ Rows.fnUnifierSpec.plain.varTypes Try.pinned.checked.prog).any (Try.pinned.checked.prog.loopsFrom ·)) = true := by kernel_rfl
theorem FnUnifier.k17 : (Rows.fnUnifierRow.wideKeys == (Try.f3.params.toList ++ Rows.fnUnifierSpec.plain.varTypes Try.pinned.checked.prog ++ Try.f3.resultTypes.toList).any (Try.pinned.checked.prog.wideKeysFrom ·)) = true := by kernel_rfl
theorem FnUnifier.k18 : (Rows.fnUnifierSpec.vars.all (Try.pinned.checked.prog.varReadable ·)) = true := by kernel_rfl
theorem FnUnifier.k19 : (Try.f3.resultTypes.all (fun t => Try.pinned.checked.prog.readableRec t && decide (t < Try.pinned.checked.prog.types.size))) = true := by kernel_rfl
theorem FnUnifier.k20 : (Rows.fnUnifierRow.ifacesOut == Try.f3.resultTypes.toList.any (Try.pinned.checked.prog.ifacesRec ·)) = true := by kernel_rfl
theorem FnUnifier.k21 : (Rows.fnUnifierRow.loopsOut == Try.f3.resultTypes.toList.any (Try.pinned.checked.prog.loopsFrom ·)) = true := by kernel_rfl
theorem FnUnifier.k22 : (Rows.fnUnifierRow.plainKeys == Try.pinned.checked.prog.plainKeys) = true := by kernel_rfl
theorem FnUnifier.k23 : (Rows.fnUnifierRow.shortTexts.isNone) = true := by kernel_rfl
theorem FnUnifier.k24 : (Try.pinned.checked.prog.stopsHeard) = true := by kernel_rfl
theorem FnUnifier.k25 : (Try.pinned.checked.prog.mayEnter) = true := by kernel_rfl
theorem FnUnifier.k26 : (Rows.fnUnifierRow.lifted == Try.pinned.checked.prog.liftsFinal) = true := by kernel_rfl
theorem FnUnifier.k27 : (Try.pinned.checked.prog.make == some Rows.fnUnifierRow.make) = true := by kernel_rfl
theorem FnUnifier.k28 : (Rows.fnUnifierRow.kinds == (if Rows.fnUnifierRow.domain.isEmpty then [] else Try.f3.params.toList.map fun t => match Try.pinned.checked.prog.underlying t with | some (.int k) => some k | _ => none)) = true := by kernel_rfl
theorem FnUnifier.k29 : (Rows.fnUnifierRow.pinned == Rows.fnUnifierRow.pinnedBy) = true := by kernel_rfl
theorem FnUnifier.k30 : (Rows.fnUnifierRow.veiled == (Try.f3.params.toList ++ Rows.fnUnifierSpec.plain.varTypes Try.pinned.checked.prog ++ Try.f3.resultTypes.toList).any (Try.pinned.checked.prog.veiledRec ·)) = true := by kernel_rfl
theorem FnUnifier.k31 : (Rows.fnUnifierRow.veiledFits Try.pinned.checked.prog Try.f3.params.toList (Try.f3.params.toList ++ Rows.fnUnifierSpec.plain.varTypes Try.pinned.checked.prog ++ Try.f3.resultTypes.toList)) = true := by kernel_rfl
theorem FnUnifier.and2 {a b : Bool} (h1 : a = true) (h2 : b = true) : (a && b) = true := by rw [h1, h2]; rfl
theorem FnUnifier.joined {P : Program} {f : FuncId} {fn : Func} {s : ChangeSpec} {c : OpenClaim} (h0 : (c.wf (OpenSpec.ofChange s)) = true) (h1 : (laidOutB P) = true) (h2 : (mapsRowed P) = true) (h3 : (fn.params.all (P.readableRec ·)) = true) (h4 : (namedTie P c.named s.vars) = true) (h5 : (c.stops == []) = true) (h6 : (P.stops == []) = true) (h7 : (c.knobs == []) = true) (h8 : (P.stopKnobs == []) = true) (h9 : (c.inPlace == P.inPlace f) = true) (h10 : (c.unfollowed == P.unfollowed f) = true) (h11 : (c.recurses == P.recurses f) = true) (h12 : (c.named == P.varsNamed f) = true) (h13 : (c.maps == (fn.params.toList ++ s.plain.varTypes P).any (P.mapsRec ·)) = true) (h14 : (c.ifaces == (fn.params.toList ++ s.plain.varTypes P).any (P.ifacesRec ·)) = true) (h15 : (c.mapsOut == P.mapsAmong fn.resultTypes.toList) = true) (h16 : (c.loops == (fn.params.toList ++ s.plain.varTypes P).any (P.loopsFrom ·)) = true) (h17 : (c.wideKeys == (fn.params.toList ++ s.plain.varTypes P ++ fn.resultTypes.toList).any (P.wideKeysFrom ·)) = true) (h18 : (s.vars.all (P.varReadable ·)) = true) (h19 : (fn.resultTypes.all (fun t => P.readableRec t && decide (t < P.types.size))) = true) (h20 : (c.ifacesOut == fn.resultTypes.toList.any (P.ifacesRec ·)) = true) (h21 : (c.loopsOut == fn.resultTypes.toList.any (P.loopsFrom ·)) = true) (h22 : (c.plainKeys == P.plainKeys) = true) (h23 : (c.shortTexts.isNone) = true) (h24 : (P.stopsHeard) = true) (h25 : (P.mayEnter) = true) (h26 : (c.lifted == P.liftsFinal) = true) (h27 : (P.make == some c.make) = true) (h28 : (c.kinds == (if c.domain.isEmpty then [] else fn.params.toList.map fun t => match P.underlying t with | some (.int k) => some k | _ => none)) = true) (h29 : (c.pinned == c.pinnedBy) = true) (h30 : (c.veiled == (fn.params.toList ++ s.plain.varTypes P ++ fn.resultTypes.toList).any (P.veiledRec ·)) = true) (h31 : (c.veiledFits P fn.params.toList (fn.params.toList ++ s.plain.varTypes P ++ fn.resultTypes.toList)) = true) : joinedFacts P f fn s c = true := by
 unfold joinedFacts
 exact FnUnifier.and2 (FnUnifier.and2 (FnUnifier.and2 (FnUnifier.and2 (FnUnifier.and2 (FnUnifier.and2 (FnUnifier.and2 (FnUnifier.and2 (FnUnifier.and2 (FnUnifier.and2 (FnUnifier.and2 (FnUnifier.and2 (FnUnifier.and2 (FnUnifier.and2 (FnUnifier.and2 (FnUnifier.and2 (FnUnifier.and2 (FnUnifier.and2 (FnUnifier.and2 (FnUnifier.and2 (FnUnifier.and2 (FnUnifier.and2 (FnUnifier.and2 (FnUnifier.and2 (FnUnifier.and2 (FnUnifier.and2 (FnUnifier.and2 (FnUnifier.and2 (FnUnifier.and2 (FnUnifier.and2 (FnUnifier.and2 (h0) h1) h2) h3) h4) h5) h6) h7) h8) h9) h10) h11) h12) h13) h14) h15) h16) h17) h18) h19) h20) h21) h22) h23) h24) h25) h26) h27) h28) h29) h30) h31
theorem FnUnifier.closed : joinedFacts Try.pinned.checked.prog 3 Try.f3 Rows.fnUnifierSpec Rows.fnUnifierRow = true := FnUnifier.joined (P := Try.pinned.checked.prog) (f := 3) (fn := Try.f3) (s := Rows.fnUnifierSpec) (c := Rows.fnUnifierRow) FnUnifier.k0 FnUnifier.k1 FnUnifier.k2 FnUnifier.k3 FnUnifier.k4 FnUnifier.k5 FnUnifier.k6 FnUnifier.k7 FnUnifier.k8 FnUnifier.k9 FnUnifier.k10 FnUnifier.k11 FnUnifier.k12 FnUnifier.k13 FnUnifier.k14 FnUnifier.k15 FnUnifier.k16 FnUnifier.k17 FnUnifier.k18 FnUnifier.k19 FnUnifier.k20 FnUnifier.k21 FnUnifier.k22 FnUnifier.k23 FnUnifier.k24 FnUnifier.k25 FnUnifier.k26 FnUnifier.k27 FnUnifier.k28 FnUnifier.k29 FnUnifier.k30 FnUnifier.k31
theorem FnUnifier_holds : Rows.FnUnifierSaid :=
 OpenClaim.holds_of_wide 3 Try.f3 rfl rfl rfl rfl rfl rfl rfl ⟨rfl, rfl, rfl, rfl, rfl⟩ rfl rfl rfl rfl rfl (by kernel_rfl) Try.func3 FnUnifier.closed
  (of_decide_eq_true (by kernel_rfl)) (by unfold Func.isWrapper; first | (rw [if_pos (by decide +kernel)]; kernel_rfl) | (rw [if_neg (by decide +kernel)]; exact ⟨rfl, rfl⟩))
  (fun os started H enc _ => FnUnifier.lifted os started H enc)
#print axioms FnUnifier_holds
end Go.Proofs.Yteomklpfifepdaa
