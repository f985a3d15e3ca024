/- 'laws.FnMinimal' returns true for every input, and each argument reads behind the call as it read before: no condition. -/
import Derived.Test.YteomklpfifepdaaRows
import Derived.Test.YteomklpfifepdaaE1
namespace Go.Proofs.Yteomklpfifepdaa
open Go.ChangeShapes Go.WideShapes Go.ChangeAt Go.RowKit Go.Vx
theorem FnMinimal.own : ownKnob Try.prog.godebug = none := by kernel_rfl
theorem FnMinimal.laidOut : laidOutB Try.prog = true := by kernel_rfl
set_option maxRecDepth 100000 in
theorem FnMinimal.lifted (os : Os) (started : os.Started) (H : Type) (enc : TypeId × Value → H) :
  ReturnsInHanded {} Try.checked os 4 .any (Rows.fnMinimalSpec.pre6 enc Try.prog Try.f4 Rows.fnMinimalRow.domain false) (Rows.fnMinimalSpec.post enc Try.prog Try.f4 false true false false) := by
 refine returnsInHanded_of_change (C := Try.checked) FnMinimal.own started (by kernel_rfl) Try.func4
  (ChangeSpec.witness6 (enc := enc) (C := Try.checked) false ⟨#[], #[.slice none 0 0], []⟩ 8 (by kernel_rfl) (by kernel_rfl) (by kernel_rfl) (by kernel_rfl)) ?_
 intro W base args ds gs before hval0 hW hcnd _
 have hval : ∀ (j : Nat) t v, Try.f4.params[j]? = some t → args[j]? = some v → Value.okWide Try.prog W .any base t v := hval0
 have hW' := hW
 obtain ⟨p, q, hA0, hV, rfl, hfz, hnd⟩ := hW
 have hA : DataW.TrodAll enc Try.prog W 0 (fun _ => true) true Try.f4.params.toList args.toList ds p := hA0
 rw [Try.params4] at hA hval
 obtain ⟨v0, d0, rfl, rfl, h0⟩ := trodAll_one hA
 obtain ⟨base0, n0, cap0, rfl, hr0⟩ := read_bytes Try.underlying22 Try.underlying5 (cellsOf_tt ti5) (hval 0 _ _ rfl rfl) h0
 refine law_calls FnMinimal.laidOut (fn := Try.f4) (tb := 4) ?_ (by kernel_rfl) und_bool rfl rfl hW' ⟨Try.f4, Try.func4, by kernel_rfl, by kernel_rfl⟩ ?_
 ·intro t ht
  have : Try.f4.params.toList = [22] := by rw [Try.params4]
  rw [this] at ht
  simp only [List.mem_cons, List.not_mem_nil, or_false] at ht
  subst ht
  exact ⟨by kernel_rfl, of_decide_eq_true (by kernel_rfl)⟩
 ·exact FnMinimal_spec hr0
theorem FnMinimal.k0 : (Rows.fnMinimalRow.wf (OpenSpec.ofChange Rows.fnMinimalSpec)) = true := by kernel_rfl
theorem FnMinimal.k1 : (laidOutB Try.pinned.checked.prog) = true := by kernel_rfl
theorem FnMinimal.k2 : (mapsRowed Try.pinned.checked.prog) = true := by kernel_rfl
theorem FnMinimal.k3 : (Try.f4.params.all (Try.pinned.checked.prog.readableRec ·)) = true := by kernel_rfl
theorem FnMinimal.k4 : (namedTie Try.pinned.checked.prog Rows.fnMinimalRow.named Rows.fnMinimalSpec.vars) = true := by kernel_rfl
theorem FnMinimal.k5 : (Rows.fnMinimalRow.stops == []) = true := by kernel_rfl
theorem FnMinimal.k6 : (Try.pinned.checked.prog.stops == []) = true := by kernel_rfl
theorem FnMinimal.k7 : (Rows.fnMinimalRow.knobs == []) = true := by kernel_rfl
theorem FnMinimal.k8 : (Try.pinned.checked.prog.stopKnobs == []) = true := by kernel_rfl
theorem FnMinimal.k9 : (Rows.fnMinimalRow.inPlace == Try.pinned.checked.prog.inPlace 4) = true := by kernel_rfl
theorem FnMinimal.k10 : (Rows.fnMinimalRow.unfollowed == Try.pinned.checked.prog.unfollowed 4) = true := by kernel_rfl
theorem FnMinimal.k11 : (Rows.fnMinimalRow.recurses == Try.pinned.checked.prog.recurses 4) = true := by kernel_rfl
theorem FnMinimal.k12 : (Rows.fnMinimalRow.named == Try.pinned.checked.prog.varsNamed 4) = true := by kernel_rfl
theorem FnMinimal.k13 : (Rows.fnMinimalRow.maps == (Try.f4.params.toList ++ Rows.fnMinimalSpec.plain.varTypes Try.pinned.checked.prog).any (Try.pinned.checked.prog.mapsRec ·)) = true := by kernel_rfl
theorem FnMinimal.k14 : (Rows.fnMinimalRow.ifaces == (Try.f4.params.toList ++ Rows.fnMinimalSpec.plain.varTypes Try.pinned.checked.prog).any (Try.pinned.checked.prog.ifacesRec ·)) = true := by kernel_rfl
theorem FnMinimal.k15 : (Rows.fnMinimalRow.mapsOut == Try.pinned.checked.prog.mapsAmong Try.f4.resultTypes.toList) = true := by kernel_rfl
theorem FnMinimal.k16 : (Rows.fnMinimalRow.loops == (Try.f4.params.toList ++ Rows.fnMinimalSpec.plain.varTypes Try.pinned.checked.prog).any (Try.pinned.checked.prog.loopsFrom ·)) = true := by kernel_rfl
theorem FnMinimal.k17 : (Rows.fnMinimalRow.wideKeys == (Try.f4.params.toList ++ Rows.fnMinimalSpec.plain.varTypes Try.pinned.checked.prog ++ Try.f4.resultTypes.toList).any (Try.pinned.checked.prog.wideKeysFrom ·)) = true := by kernel_rfl
theorem FnMinimal.k18 : (Rows.fnMinimalSpec.vars.all (Try.pinned.checked.prog.varReadable ·)) = true := by kernel_rfl
theorem FnMinimal.k19 : (Try.f4.resultTypes.all (fun t => Try.pinned.checked.prog.readableRec t && decide (t < Try.pinned.checked.prog.types.size))) = true := by kernel_rfl
theorem FnMinimal.k20 : (Rows.fnMinimalRow.ifacesOut == Try.f4.resultTypes.toList.any (Try.pinned.checked.prog.ifacesRec ·)) = true := by kernel_rfl
theorem FnMinimal.k21 : (Rows.fnMinimalRow.loopsOut == Try.f4.resultTypes.toList.any (Try.pinned.checked.prog.loopsFrom ·)) = true := by kernel_rfl
theorem FnMinimal.k22 : (Rows.fnMinimalRow.plainKeys == Try.pinned.checked.prog.plainKeys) = true := by kernel_rfl
theorem FnMinimal.k23 : (Rows.fnMinimalRow.shortTexts.isNone) = true := by kernel_rfl
theorem FnMinimal.k24 : (Try.pinned.checked.prog.stopsHeard) = true := by kernel_rfl
theorem FnMinimal.k25 : (Try.pinned.checked.prog.mayEnter) = true := by kernel_rfl
theorem FnMinimal.k26 : (Rows.fnMinimalRow.lifted == Try.pinned.checked.prog.liftsFinal) = true := by kernel_rfl
theorem FnMinimal.k27 : (Try.pinned.checked.prog.make == some Rows.fnMinimalRow.make) = true := by kernel_rfl
theorem FnMinimal.k28 : (Rows.fnMinimalRow.kinds == (if Rows.fnMinimalRow.domain.isEmpty then [] else Try.f4.params.toList.map fun t => match Try.pinned.checked.prog.underlying t with | some (.int k) => some k | _ => none)) = true := by kernel_rfl
theorem FnMinimal.k29 : (Rows.fnMinimalRow.pinned == Rows.fnMinimalRow.pinnedBy) = true := by kernel_rfl
theorem FnMinimal.k30 : (Rows.fnMinimalRow.veiled == (Try.f4.params.toList ++ Rows.fnMinimalSpec.plain.varTypes Try.pinned.checked.prog ++ Try.f4.resultTypes.toList).any (Try.pinned.checked.prog.veiledRec ·)) = true := by kernel_rfl
theorem FnMinimal.k31 : (Rows.fnMinimalRow.veiledFits Try.pinned.checked.prog Try.f4.params.toList (Try.f4.params.toList ++ Rows.fnMinimalSpec.plain.varTypes Try.pinned.checked.prog ++ Try.f4.resultTypes.toList)) = true := by kernel_rfl
theorem FnMinimal.and2 {a b : Bool} (h1 : a = true) (h2 : b = true) : (a && b) = true := by rw [h1, h2]; rfl
theorem FnMinimal.joined {P : Program} {f : FuncId} {fn : Func} {s : ChangeSpec} {c : OpenClaim} (h0 : (c.wf (OpenSpec.ofChange s)) = true) (h1 : (laidOutB P) = true) (h2 : (mapsRowed P) = true) (h3 : (fn.params.all (P.readableRec ·)) = true) (h4 : (namedTie P c.named s.vars) = true) (h5 : (c.stops == []) = true) (h6 : (P.stops == []) = true) (h7 : (c.knobs == []) = true) (h8 : (P.stopKnobs == []) = true) (h9 : (c.inPlace == P.inPlace f) = true) (h10 : (c.unfollowed == P.unfollowed f) = true) (h11 : (c.recurses == P.recurses f) = true) (h12 : (c.named == P.varsNamed f) = true) (h13 : (c.maps == (fn.params.toList ++ s.plain.varTypes P).any (P.mapsRec ·)) = true) (h14 : (c.ifaces == (fn.params.toList ++ s.plain.varTypes P).any (P.ifacesRec ·)) = true) (h15 : (c.mapsOut == P.mapsAmong fn.resultTypes.toList) = true) (h16 : (c.loops == (fn.params.toList ++ s.plain.varTypes P).any (P.loopsFrom ·)) = true) (h17 : (c.wideKeys == (fn.params.toList ++ s.plain.varTypes P ++ fn.resultTypes.toList).any (P.wideKeysFrom ·)) = true) (h18 : (s.vars.all (P.varReadable ·)) = true) (h19 : (fn.resultTypes.all (fun t => P.readableRec t && decide (t < P.types.size))) = true) (h20 : (c.ifacesOut == fn.resultTypes.toList.any (P.ifacesRec ·)) = true) (h21 : (c.loopsOut == fn.resultTypes.toList.any (P.loopsFrom ·)) = true) (h22 : (c.plainKeys == P.plainKeys) = true) (h23 : (c.shortTexts.isNone) = true) (h24 : (P.stopsHeard) = true) (h25 : (P.mayEnter) = true) (h26 : (c.lifted == P.liftsFinal) = true) (h27 : (P.make == some c.make) = true) (h28 : (c.kinds == (if c.domain.isEmpty then [] else fn.params.toList.map fun t => match P.underlying t with | some (.int k) => some k | _ => none)) = true) (h29 : (c.pinned == c.pinnedBy) = true) (h30 : (c.veiled == (fn.params.toList ++ s.plain.varTypes P ++ fn.resultTypes.toList).any (P.veiledRec ·)) = true) (h31 : (c.veiledFits P fn.params.toList (fn.params.toList ++ s.plain.varTypes P ++ fn.resultTypes.toList)) = true) : joinedFacts P f fn s c = true := by
 unfold joinedFacts
 exact FnMinimal.and2 (FnMinimal.and2 (FnMinimal.and2 (FnMinimal.and2 (FnMinimal.and2 (FnMinimal.and2 (FnMinimal.and2 (FnMinimal.and2 (FnMinimal.and2 (FnMinimal.and2 (FnMinimal.and2 (FnMinimal.and2 (FnMinimal.and2 (FnMinimal.and2 (FnMinimal.and2 (FnMinimal.and2 (FnMinimal.and2 (FnMinimal.and2 (FnMinimal.and2 (FnMinimal.and2 (FnMinimal.and2 (FnMinimal.and2 (FnMinimal.and2 (FnMinimal.and2 (FnMinimal.and2 (FnMinimal.and2 (FnMinimal.and2 (FnMinimal.and2 (FnMinimal.and2 (FnMinimal.and2 (FnMinimal.and2 (h0) h1) h2) h3) h4) h5) h6) h7) h8) h9) h10) h11) h12) h13) h14) h15) h16) h17) h18) h19) h20) h21) h22) h23) h24) h25) h26) h27) h28) h29) h30) h31
theorem FnMinimal.closed : joinedFacts Try.pinned.checked.prog 4 Try.f4 Rows.fnMinimalSpec Rows.fnMinimalRow = true := FnMinimal.joined (P := Try.pinned.checked.prog) (f := 4) (fn := Try.f4) (s := Rows.fnMinimalSpec) (c := Rows.fnMinimalRow) FnMinimal.k0 FnMinimal.k1 FnMinimal.k2 FnMinimal.k3 FnMinimal.k4 FnMinimal.k5 FnMinimal.k6 FnMinimal.k7 FnMinimal.k8 FnMinimal.k9 FnMinimal.k10 FnMinimal.k11 FnMinimal.k12 FnMinimal.k13 FnMinimal.k14 FnMinimal.k15 FnMinimal.k16 FnMinimal.k17 FnMinimal.k18 FnMinimal.k19 FnMinimal.k20 FnMinimal.k21 FnMinimal.k22 FnMinimal.k23 FnMinimal.k24 FnMinimal.k25 FnMinimal.k26 FnMinimal.k27 FnMinimal.k28 FnMinimal.k29 FnMinimal.k30 FnMinimal.k31
theorem FnMinimal_holds : Rows.FnMinimalSaid :=
 OpenClaim.holds_of_wide 4 Try.f4 rfl rfl rfl rfl rfl rfl rfl ⟨rfl, rfl, rfl, rfl, rfl⟩ rfl rfl rfl rfl rfl (by kernel_rfl) Try.func4 FnMinimal.closed
  (of_decide_eq_true (by kernel_rfl)) (by unfold Func.isWrapper; first | (rw [if_pos (by decide +kernel)]; kernel_rfl) | (rw [if_neg (by decide +kernel)]; exact ⟨rfl, rfl⟩))
  (fun os started H enc _ => FnMinimal.lifted os started H enc)
#print axioms FnMinimal_holds
end Go.Proofs.Yteomklpfifepdaa
