/- 'laws.FnKinds' returns true for every input, and each argument reads behind the call as it read before: no condition. -/
import Derived.Test.YteomklpfifepdaaRows
import Derived.Test.YteomklpfifepdaaE1
namespace Go.Proofs.Yteomklpfifepdaa
open Go.ChangeShapes Go.WideShapes Go.ChangeAt Go.RowKit Go.Vx
theorem FnKinds.own : ownKnob Try.prog.godebug = none := by kernel_rfl
theorem FnKinds.laidOut : laidOutB Try.prog = true := by kernel_rfl
set_option maxRecDepth 100000 in
theorem FnKinds.lifted (os : Os) (started : os.Started) (H : Type) (enc : TypeId × Value → H) :
  ReturnsInHanded {} Try.checked os 5 .any (Rows.fnKindsSpec.pre6 enc Try.prog Try.f5 Rows.fnKindsRow.domain false) (Rows.fnKindsSpec.post enc Try.prog Try.f5 false true false false) := by
 refine returnsInHanded_of_change (C := Try.checked) FnKinds.own started (by kernel_rfl) Try.func5
  (ChangeSpec.witness6 (enc := enc) (C := Try.checked) false ⟨#[], #[.slice none 0 0], []⟩ 8 (by kernel_rfl) (by kernel_rfl) (by kernel_rfl) (by kernel_rfl)) ?_
 intro W base args ds gs before hval0 hW hcnd _
 have hval : ∀ (j : Nat) t v, Try.f5.params[j]? = some t → args[j]? = some v → Value.okWide Try.prog W .any base t v := hval0
 have hW' := hW
 obtain ⟨p, q, hA0, hV, rfl, hfz, hnd⟩ := hW
 have hA : DataW.TrodAll enc Try.prog W 0 (fun _ => true) true Try.f5.params.toList args.toList ds p := hA0
 rw [Try.params5] at hA hval
 obtain ⟨v0, d0, rfl, rfl, h0⟩ := trodAll_one hA
 obtain ⟨base0, n0, cap0, rfl, hr0⟩ := read_bytes Try.underlying22 Try.underlying5 (cellsOf_tt ti5) (hval 0 _ _ rfl rfl) h0
 refine law_calls FnKinds.laidOut (fn := Try.f5) (tb := 4) ?_ (by kernel_rfl) und_bool rfl rfl hW' ⟨Try.f5, Try.func5, by kernel_rfl, by kernel_rfl⟩ ?_
 ·intro t ht
  have : Try.f5.params.toList = [22] := by rw [Try.params5]
  rw [this] at ht
  simp only [List.mem_cons, List.not_mem_nil, or_false] at ht
  subst ht
  exact ⟨by kernel_rfl, of_decide_eq_true (by kernel_rfl)⟩
 ·exact FnKinds_spec hr0
theorem FnKinds.k0 : (Rows.fnKindsRow.wf (OpenSpec.ofChange Rows.fnKindsSpec)) = true := by kernel_rfl
theorem FnKinds.k1 : (laidOutB Try.pinned.checked.prog) = true := by kernel_rfl
theorem FnKinds.k2 : (mapsRowed Try.pinned.checked.prog) = true := by kernel_rfl
theorem FnKinds.k3 : (Try.f5.params.all (Try.pinned.checked.prog.readableRec ·)) = true := by kernel_rfl
theorem FnKinds.k4 : (namedTie Try.pinned.checked.prog Rows.fnKindsRow.named Rows.fnKindsSpec.vars) = true := by kernel_rfl
theorem FnKinds.k5 : (Rows.fnKindsRow.stops == []) = true := by kernel_rfl
theorem FnKinds.k6 : (Try.pinned.checked.prog.stops == []) = true := by kernel_rfl
theorem FnKinds.k7 : (Rows.fnKindsRow.knobs == []) = true := by kernel_rfl
theorem FnKinds.k8 : (Try.pinned.checked.prog.stopKnobs == []) = true := by kernel_rfl
theorem FnKinds.k9 : (Rows.fnKindsRow.inPlace == Try.pinned.checked.prog.inPlace 5) = true := by kernel_rfl
theorem FnKinds.k10 : (Rows.fnKindsRow.unfollowed == Try.pinned.checked.prog.unfollowed 5) = true := by kernel_rfl
theorem FnKinds.k11 : (Rows.fnKindsRow.recurses == Try.pinned.checked.prog.recurses 5) = true := by kernel_rfl
theorem FnKinds.k12 : (Rows.fnKindsRow.named == Try.pinned.checked.prog.varsNamed 5) = true := by kernel_rfl
theorem FnKinds.k13 : (Rows.fnKindsRow.maps == (Try.f5.params.toList ++ Rows.fnKindsSpec.plain.varTypes Try.pinned.checked.prog).any (Try.pinned.checked.prog.mapsRec ·)) = true := by kernel_rfl
theorem FnKinds.k14 : (Rows.fnKindsRow.ifaces == (Try.f5.params.toList ++ Rows.fnKindsSpec.plain.varTypes Try.pinned.checked.prog).any (Try.pinned.checked.prog.ifacesRec ·)) = true := by kernel_rfl
theorem FnKinds.k15 : (Rows.fnKindsRow.mapsOut == Try.pinned.checked.prog.mapsAmong Try.f5.resultTypes.toList) = true := by kernel_rfl
theorem FnKinds.k16 : (Rows.fnKindsRow.loops == (Try.f5.params.toList ++ Rows.fnKindsSpec.plain.varTypes Try.pinned.checked.prog).any (Try.pinned.checked.prog.loopsFrom ·)) = true := by kernel_rfl
theorem FnKinds.k17 : (Rows.fnKindsRow.wideKeys == (Try.f5.params.toList ++ Rows.fnKindsSpec.plain.varTypes Try.pinned.checked.prog ++ Try.f5.resultTypes.toList).any (Try.pinned.checked.prog.wideKeysFrom ·)) = true := by kernel_rfl
theorem FnKinds.k18 : (Rows.fnKindsSpec.vars.all (Try.pinned.checked.prog.varReadable ·)) = true := by kernel_rfl
theorem FnKinds.k19 : (Try.f5.resultTypes.all (fun t => Try.pinned.checked.prog.readableRec t && decide (t < Try.pinned.checked.prog.types.size))) = true := by kernel_rfl
theorem FnKinds.k20 : (Rows.fnKindsRow.ifacesOut == Try.f5.resultTypes.toList.any (Try.pinned.checked.prog.ifacesRec ·)) = true := by kernel_rfl
theorem FnKinds.k21 : (Rows.fnKindsRow.loopsOut == Try.f5.resultTypes.toList.any (Try.pinned.checked.prog.loopsFrom ·)) = true := by kernel_rfl
theorem FnKinds.k22 : (Rows.fnKindsRow.plainKeys == Try.pinned.checked.prog.plainKeys) = true := by kernel_rfl
theorem FnKinds.k23 : (Rows.fnKindsRow.shortTexts.isNone) = true := by kernel_rfl
theorem FnKinds.k24 : (Try.pinned.checked.prog.stopsHeard) = true := by kernel_rfl
theorem FnKinds.k25 : (Try.pinned.checked.prog.mayEnter) = true := by kernel_rfl
theorem FnKinds.k26 : (Rows.fnKindsRow.lifted == Try.pinned.checked.prog.liftsFinal) = true := by kernel_rfl
theorem FnKinds.k27 : (Try.pinned.checked.prog.make == some Rows.fnKindsRow.make) = true := by kernel_rfl
theorem FnKinds.k28 : (Rows.fnKindsRow.kinds == (if Rows.fnKindsRow.domain.isEmpty then [] else Try.f5.params.toList.map fun t => match Try.pinned.checked.prog.underlying t with | some (.int k) => some k | _ => none)) = true := by kernel_rfl
theorem FnKinds.k29 : (Rows.fnKindsRow.pinned == Rows.fnKindsRow.pinnedBy) = true := by kernel_rfl
theorem FnKinds.k30 : (Rows.fnKindsRow.veiled == (Try.f5.params.toList ++ Rows.fnKindsSpec.plain.varTypes Try.pinned.checked.prog ++ Try.f5.resultTypes.toList).any (Try.pinned.checked.prog.veiledRec ·)) = true := by kernel_rfl
theorem FnKinds.k31 : (Rows.fnKindsRow.veiledFits Try.pinned.checked.prog Try.f5.params.toList (Try.f5.params.toList ++ Rows.fnKindsSpec.plain.varTypes Try.pinned.checked.prog ++ Try.f5.resultTypes.toList)) = true := by kernel_rfl
theorem FnKinds.and2 {a b : Bool} (h1 : a = true) (h2 : b = true) : (a && b) = true := by rw [h1, h2]; rfl
theorem FnKinds.joined {P : Program} {f : FuncId} {fn : Func} {s : ChangeSpec} {c : OpenClaim} (h0 : (c.wf (OpenSpec.ofChange s)) = true) (h1 : (laidOutB P) = true) (h2 : (mapsRowed P) = true) (h3 : (fn.params.all (P.readableRec ·)) = true) (h4 : (namedTie P c.named s.vars) = true) (h5 : (c.stops == []) = true) (h6 : (P.stops == []) = true) (h7 : (c.knobs == []) = true) (h8 : (P.stopKnobs == []) = true) (h9 : (c.inPlace == P.inPlace f) = true) (h10 : (c.unfollowed == P.unfollowed f) = true) (h11 : (c.recurses == P.recurses f) = true) (h12 : (c.named == P.varsNamed f) = true) (h13 : (c.maps == (fn.params.toList ++ s.plain.varTypes P).any (P.mapsRec ·)) = true) (h14 : (c.ifaces == (fn.params.toList ++ s.plain.varTypes P).any (P.ifacesRec ·)) = true) (h15 : (c.mapsOut == P.mapsAmong fn.resultTypes.toList) = true) (h16 : (c.loops == (fn.params.toList ++ s.plain.varTypes P).any (P.loopsFrom ·)) = true) (h17 : (c.wideKeys == (fn.params.toList ++ s.plain.varTypes P ++ fn.resultTypes.toList).any (P.wideKeysFrom ·)) = true) (h18 : (s.vars.all (P.varReadable ·)) = true) (h19 : (fn.resultTypes.all (fun t => P.readableRec t && decide (t < P.types.size))) = true) (h20 : (c.ifacesOut == fn.resultTypes.toList.any (P.ifacesRec ·)) = true) (h21 : (c.loopsOut == fn.resultTypes.toList.any (P.loopsFrom ·)) = true) (h22 : (c.plainKeys == P.plainKeys) = true) (h23 : (c.shortTexts.isNone) = true) (h24 : (P.stopsHeard) = true) (h25 : (P.mayEnter) = true) (h26 : (c.lifted == P.liftsFinal) = true) (h27 : (P.make == some c.make) = true) (h28 : (c.kinds == (if c.domain.isEmpty then [] else fn.params.toList.map fun t => match P.underlying t with | some (.int k) => some k | _ => none)) = true) (h29 : (c.pinned == c.pinnedBy) = true) (h30 : (c.veiled == (fn.params.toList ++ s.plain.varTypes P ++ fn.resultTypes.toList).any (P.veiledRec ·)) = true) (h31 : (c.veiledFits P fn.params.toList (fn.params.toList ++ s.plain.varTypes P ++ fn.resultTypes.toList)) = true) : joinedFacts P f fn s c = true := by
 unfold joinedFacts
 exact FnKinds.and2 (FnKinds.and2 (FnKinds.and2 (FnKinds.and2 (FnKinds.and2 (FnKinds.and2 (FnKinds.and2 (FnKinds.and2 (FnKinds.and2 (FnKinds.and2 (FnKinds.and2 (FnKinds.and2 (FnKinds.and2 (FnKinds.and2 (FnKinds.and2 (FnKinds.and2 (FnKinds.and2 (FnKinds.and2 (FnKinds.and2 (FnKinds.and2 (FnKinds.and2 (FnKinds.and2 (FnKinds.and2 (FnKinds.and2 (FnKinds.and2 (FnKinds.and2 (FnKinds.and2 (FnKinds.and2 (FnKinds.and2 (FnKinds.and2 (FnKinds.and2 (h0) h1) h2) h3) h4) h5) h6) h7) h8) h9) h10) h11) h12) h13) h14) h15) h16) h17) h18) h19) h20) h21) h22) h23) h24) h25) h26) h27) h28) h29) h30) h31
theorem FnKinds.closed : joinedFacts Try.pinned.checked.prog 5 Try.f5 Rows.fnKindsSpec Rows.fnKindsRow = true := FnKinds.joined (P := Try.pinned.checked.prog) (f := 5) (fn := Try.f5) (s := Rows.fnKindsSpec) (c := Rows.fnKindsRow) FnKinds.k0 FnKinds.k1 FnKinds.k2 FnKinds.k3 FnKinds.k4 FnKinds.k5 FnKinds.k6 FnKinds.k7 FnKinds.k8 FnKinds.k9 FnKinds.k10 FnKinds.k11 FnKinds.k12 FnKinds.k13 FnKinds.k14 FnKinds.k15 FnKinds.k16 FnKinds.k17 FnKinds.k18 FnKinds.k19 FnKinds.k20 FnKinds.k21 FnKinds.k22 FnKinds.k23 FnKinds.k24 FnKinds.k25 FnKinds.k26 FnKinds.k27 FnKinds.k28 FnKinds.k29 FnKinds.k30 FnKinds.k31
theorem FnKinds_holds : Rows.FnKindsSaid :=
 OpenClaim.holds_of_wide 5 Try.f5 rfl rfl rfl rfl rfl rfl rfl ⟨rfl, rfl, rfl, rfl, rfl⟩ rfl rfl rfl rfl rfl (by kernel_rfl) Try.func5 FnKinds.closed
  (of_decide_eq_true (by kernel_rfl)) (by unfold Func.isWrapper; first | (rw [if_pos (by decide +kernel)]; kernel_rfl) | (rw [if_neg (by decide +kernel)]; exact ⟨rfl, rfl⟩))
  (fun os started H enc _ => FnKinds.lifted os started H enc)
#print axioms FnKinds_holds
end Go.Proofs.Yteomklpfifepdaa
