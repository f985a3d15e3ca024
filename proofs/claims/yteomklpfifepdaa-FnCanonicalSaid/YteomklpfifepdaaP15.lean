/- 'laws.FnCanonical' returns true for every input, and each argument reads behind the call as it read before: no condition. -/
import Derived.Test.YteomklpfifepdaaRows
import Derived.Test.YteomklpfifepdaaE2
namespace Go.Proofs.Yteomklpfifepdaa
open Go.ChangeShapes Go.WideShapes Go.ChangeAt Go.RowKit Go.Vx
theorem FnCanonical.own : ownKnob Try.prog.godebug = none := by kernel_rfl
theorem FnCanonical.laidOut : laidOutB Try.prog = true := by kernel_rfl
set_option maxRecDepth 100000 in
theorem FnCanonical.lifted (os : Os) (started : os.Started) (H : Type) (enc : TypeId × Value → H) :
  ReturnsInHanded {} Try.checked os 6 .any (Rows.fnCanonicalSpec.pre6 enc Try.prog Try.f6 Rows.fnCanonicalRow.domain false) (Rows.fnCanonicalSpec.post enc Try.prog Try.f6 false true false false) := by
 refine returnsInHanded_of_change (C := Try.checked) FnCanonical.own started (by kernel_rfl) Try.func6
  (ChangeSpec.witness6 (enc := enc) (C := Try.checked) false ⟨#[], #[.slice none 0 0], []⟩ 8 (by kernel_rfl) (by kernel_rfl) (by kernel_rfl) (by kernel_rfl)) ?_
 intro W base args ds gs before hval0 hW hcnd _
 have hval : ∀ (j : Nat) t v, Try.f6.params[j]? = some t → args[j]? = some v → Value.okWide Try.prog W .any base t v := hval0
 have hW' := hW
 obtain ⟨p, q, hA0, hV, rfl, hfz, hnd⟩ := hW
 have hA : DataW.TrodAll enc Try.prog W 0 (fun _ => true) true Try.f6.params.toList args.toList ds p := hA0
 rw [Try.params6] at hA hval
 obtain ⟨v0, d0, rfl, rfl, h0⟩ := trodAll_one hA
 obtain ⟨base0, n0, cap0, rfl, hr0⟩ := read_bytes Try.underlying22 Try.underlying5 (cellsOf_tt ti5) (hval 0 _ _ rfl rfl) h0
 refine law_calls FnCanonical.laidOut (fn := Try.f6) (tb := 4) ?_ (by kernel_rfl) und_bool rfl rfl hW' ⟨Try.f6, Try.func6, by kernel_rfl, by kernel_rfl⟩ ?_
 ·intro t ht
  have : Try.f6.params.toList = [22] := by rw [Try.params6]
  rw [this] at ht
  simp only [List.mem_cons, List.not_mem_nil, or_false] at ht
  subst ht
  exact ⟨by kernel_rfl, of_decide_eq_true (by kernel_rfl)⟩
 ·exact FnCanonical_spec hr0
theorem FnCanonical.k0 : (Rows.fnCanonicalRow.wf (OpenSpec.ofChange Rows.fnCanonicalSpec)) = true := by kernel_rfl
theorem FnCanonical.k1 : (laidOutB Try.pinned.checked.prog) = true := by kernel_rfl
theorem FnCanonical.k2 : (mapsRowed Try.pinned.checked.prog) = true := by kernel_rfl
theorem FnCanonical.k3 : (Try.f6.params.all (Try.pinned.checked.prog.readableRec ·)) = true := by kernel_rfl
theorem FnCanonical.k4 : (namedTie Try.pinned.checked.prog Rows.fnCanonicalRow.named Rows.fnCanonicalSpec.vars) = true := by kernel_rfl
theorem FnCanonical.k5 : (Rows.fnCanonicalRow.stops == []) = true := by kernel_rfl
theorem FnCanonical.k6 : (Try.pinned.checked.prog.stops == []) = true := by kernel_rfl
theorem FnCanonical.k7 : (Rows.fnCanonicalRow.knobs == []) = true := by kernel_rfl
theorem FnCanonical.k8 : (Try.pinned.checked.prog.stopKnobs == []) = true := by kernel_rfl
theorem FnCanonical.k9 : (Rows.fnCanonicalRow.inPlace == Try.pinned.checked.prog.inPlace 6) = true := by kernel_rfl
theorem FnCanonical.k10 : (Rows.fnCanonicalRow.unfollowed == Try.pinned.checked.prog.unfollowed 6) = true := by kernel_rfl
theorem FnCanonical.k11 : (Rows.fnCanonicalRow.recurses == Try.pinned.checked.prog.recurses 6) = true := by kernel_rfl
theorem FnCanonical.k12 : (Rows.fnCanonicalRow.named == Try.pinned.checked.prog.varsNamed 6) = true := by kernel_rfl
theorem FnCanonical.k13 : (Rows.fnCanonicalRow.maps == (Try.f6.params.toList ++ Rows.fnCanonicalSpec.plain.varTypes Try.pinned.checked.prog).any (Try.pinned.checked.prog.mapsRec ·)) = true := by kernel_rfl
theorem FnCanonical.k14 : (Rows.fnCanonicalRow.ifaces == (Try.f6.params.toList ++ Rows.fnCanonicalSpec.plain.varTypes Try.pinned.checked.prog).any (Try.pinned.checked.prog.ifacesRec ·)) = true := by kernel_rfl
theorem FnCanonical.k15 : (Rows.fnCanonicalRow.mapsOut == Try.pinned.checked.prog.mapsAmong Try.f6.resultTypes.toList) = true := by kernel_rfl
theorem FnCanonical.k16 : (Rows.fnCanonicalRow.loops == (Try.f6.params.toList ++ Rows.fnCanonicalSpec.plain.varTypes Try.pinned.checked.prog).any (Try.pinned.checked.prog.loopsFrom ·)) = true := by kernel_rfl
theorem FnCanonical.k17 : (Rows.fnCanonicalRow.wideKeys == (Try.f6.params.toList ++ Rows.fnCanonicalSpec.plain.varTypes Try.pinned.checked.prog ++ Try.f6.resultTypes.toList).any (Try.pinned.checked.prog.wideKeysFrom ·)) = true := by kernel_rfl
theorem FnCanonical.k18 : (Rows.fnCanonicalSpec.vars.all (Try.pinned.checked.prog.varReadable ·)) = true := by kernel_rfl
theorem FnCanonical.k19 : (Try.f6.resultTypes.all (fun t => Try.pinned.checked.prog.readableRec t && decide (t < Try.pinned.checked.prog.types.size))) = true := by kernel_rfl
theorem FnCanonical.k20 : (Rows.fnCanonicalRow.ifacesOut == Try.f6.resultTypes.toList.any (Try.pinned.checked.prog.ifacesRec ·)) = true := by kernel_rfl
theorem FnCanonical.k21 : (Rows.fnCanonicalRow.loopsOut == Try.f6.resultTypes.toList.any (Try.pinned.checked.prog.loopsFrom ·)) = true := by kernel_rfl
theorem FnCanonical.k22 : (Rows.fnCanonicalRow.plainKeys == Try.pinned.checked.prog.plainKeys) = true := by kernel_rfl
theorem FnCanonical.k23 : (Rows.fnCanonicalRow.shortTexts.isNone) = true := by kernel_rfl
theorem FnCanonical.k24 : (Try.pinned.checked.prog.stopsHeard) = true := by kernel_rfl
theorem FnCanonical.k25 : (Try.pinned.checked.prog.mayEnter) = true := by kernel_rfl
theorem FnCanonical.k26 : (Rows.fnCanonicalRow.lifted == Try.pinned.checked.prog.liftsFinal) = true := by kernel_rfl
theorem FnCanonical.k27 : (Try.pinned.checked.prog.make == some Rows.fnCanonicalRow.make) = true := by kernel_rfl
theorem FnCanonical.k28 : (Rows.fnCanonicalRow.kinds == (if Rows.fnCanonicalRow.domain.isEmpty then [] else Try.f6.params.toList.map fun t => match Try.pinned.checked.prog.underlying t with | some (.int k) => some k | _ => none)) = true := by kernel_rfl
theorem FnCanonical.k29 : (Rows.fnCanonicalRow.pinned == Rows.fnCanonicalRow.pinnedBy) = true := by kernel_rfl
theorem FnCanonical.k30 : (Rows.fnCanonicalRow.veiled == (Try.f6.params.toList ++ Rows.fnCanonicalSpec.plain.varTypes Try.pinned.checked.prog ++ Try.f6.resultTypes.toList).any (Try.pinned.checked.prog.veiledRec ·)) = true := by kernel_rfl
theorem FnCanonical.k31 : (Rows.fnCanonicalRow.veiledFits Try.pinned.checked.prog Try.f6.params.toList (Try.f6.params.toList ++ Rows.fnCanonicalSpec.plain.varTypes Try.pinned.checked.prog ++ Try.f6.resultTypes.toList)) = true := by kernel_rfl
theorem FnCanonical.and2 {a b : Bool} (h1 : a = true) (h2 : b = true) : (a && b) = true := by rw [h1, h2]; rfl
theorem FnCanonical.joined {P : Program} {f : FuncId} {fn : Func} {s : ChangeSpec} {c : OpenClaim} (h0 : (c.wf (OpenSpec.ofChange s)) = true) (h1 : (laidOutB P) = true) (h2 : (mapsRowed P) = true) (h3 : (fn.params.all (P.readableRec ·)) = true) (h4 : (namedTie P c.named s.vars) = true) (h5 : (c.stops == []) = true) (h6 : (P.stops == []) = true) (h7 : (c.knobs == []) = true) (h8 : (P.stopKnobs == []) = true) (h9 : (c.inPlace == P.inPlace f) = true) (h10 : (c.unfollowed == P.unfollowed f) = true) (h11 : (c.recurses == P.recurses f) = true) (h12 : (c.named == P.varsNamed f) = true) (h13 : (c.maps == (fn.params.toList ++ s.plain.varTypes P).any (P.mapsRec ·)) = true) (h14 : (c.ifaces == (fn.params.toList ++ s.plain.varTypes P).any (P.ifacesRec ·)) = true) (h15 : (c.mapsOut == P.mapsAmong fn.resultTypes.toList) = true) (h16 : (c.loops == (fn.params.toList ++ s.plain.varTypes P).any (P.loopsFrom ·)) = true) (h17 : (c.wideKeys == (fn.params.toList ++ s.plain.varTypes P ++ fn.resultTypes.toList).any (P.wideKeysFrom ·)) = true) (h18 : (s.vars.all (P.varReadable ·)) = true) (h19 : (fn.resultTypes.all (fun t => P.readableRec t && decide (t < P.types.size))) = true) (h20 : (c.ifacesOut == fn.resultTypes.toList.any (P.ifacesRec ·)) = true) (h21 : (c.loopsOut == fn.resultTypes.toList.any (P.loopsFrom ·)) = true) (h22 : (c.plainKeys == P.plainKeys) = true) (h23 : (c.shortTexts.isNone) = true) (h24 : (P.stopsHeard) = true) (h25 : (P.mayEnter) = true) (h26 : (c.lifted == P.liftsFinal) = true) (h27 : (P.make == some c.make) = true) (h28 : (c.kinds == (if c.domain.isEmpty then [] else fn.params.toList.map fun t => match P.underlying t with | some (.int k) => some k | _ => none)) = true) (h29 : (c.pinned == c.pinnedBy) = true) (h30 : (c.veiled == (fn.params.toList ++ s.plain.varTypes P ++ fn.resultTypes.toList).any (P.veiledRec ·)) = true) (h31 : (c.veiledFits P fn.params.toList (fn.params.toList ++ s.plain.varTypes P ++ fn.resultTypes.toList)) = true) : joinedFacts P f fn s c = true := by
 unfold joinedFacts
 exact FnCanonical.and2 (FnCanonical.and2 (FnCanonical.and2 (FnCanonical.and2 (FnCanonical.and2 (FnCanonical.and2 (FnCanonical.and2 (FnCanonical.and2 (FnCanonical.and2 (FnCanonical.and2 (FnCanonical.and2 (FnCanonical.and2 (FnCanonical.and2 (FnCanonical.and2 (FnCanonical.and2 (FnCanonical.and2 (FnCanonical.and2 (FnCanonical.and2 (FnCanonical.and2 (FnCanonical.and2 (FnCanonical.and2 (FnCanonical.and2 (FnCanonical.and2 (FnCanonical.and2 (FnCanonical.and2 (FnCanonical.and2 (FnCanonical.and2 (FnCanonical.and2 (FnCanonical.and2 (FnCanonical.and2 (FnCanonical.and2 (h0) h1) h2) h3) h4) h5) h6) h7) h8) h9) h10) h11) h12) h13) h14) h15) h16) h17) h18) h19) h20) h21) h22) h23) h24) h25) h26) h27) h28) h29) h30) h31
theorem FnCanonical.closed : joinedFacts Try.pinned.checked.prog 6 Try.f6 Rows.fnCanonicalSpec Rows.fnCanonicalRow = true := FnCanonical.joined (P := Try.pinned.checked.prog) (f := 6) (fn := Try.f6) (s := Rows.fnCanonicalSpec) (c := Rows.fnCanonicalRow) FnCanonical.k0 FnCanonical.k1 FnCanonical.k2 FnCanonical.k3 FnCanonical.k4 FnCanonical.k5 FnCanonical.k6 FnCanonical.k7 FnCanonical.k8 FnCanonical.k9 FnCanonical.k10 FnCanonical.k11 FnCanonical.k12 FnCanonical.k13 FnCanonical.k14 FnCanonical.k15 FnCanonical.k16 FnCanonical.k17 FnCanonical.k18 FnCanonical.k19 FnCanonical.k20 FnCanonical.k21 FnCanonical.k22 FnCanonical.k23 FnCanonical.k24 FnCanonical.k25 FnCanonical.k26 FnCanonical.k27 FnCanonical.k28 FnCanonical.k29 FnCanonical.k30 FnCanonical.k31
theorem FnCanonical_holds : Rows.FnCanonicalSaid :=
 OpenClaim.holds_of_wide 6 Try.f6 rfl rfl rfl rfl rfl rfl rfl ⟨rfl, rfl, rfl, rfl, rfl⟩ rfl rfl rfl rfl rfl (by kernel_rfl) Try.func6 FnCanonical.closed
  (of_decide_eq_true (by kernel_rfl)) (by unfold Func.isWrapper; first | (rw [if_pos (by decide +kernel)]; kernel_rfl) | (rw [if_neg (by decide +kernel)]; exact ⟨rfl, rfl⟩))
  (fun os started H enc _ => FnCanonical.lifted os started H enc)
#print axioms FnCanonical_holds
end Go.Proofs.Yteomklpfifepdaa
