/- 'laws.FnJoin' returns true for every input, and each argument reads behind the call as it read before: no condition. -/
import Derived.Test.YteomklpfifepdaaRows
import Derived.Test.YteomklpfifepdaaE1
namespace Go.Proofs.Yteomklpfifepdaa
open Go.ChangeShapes Go.WideShapes Go.ChangeAt Go.RowKit Go.Vx
theorem FnJoin.own : ownKnob Try.prog.godebug = none := by kernel_rfl
theorem FnJoin.laidOut : laidOutB Try.prog = true := by kernel_rfl
set_option maxRecDepth 100000 in
theorem FnJoin.lifted (os : Os) (started : os.Started) (H : Type) (enc : TypeId × Value → H) :
  ReturnsInHanded {} Try.checked os 8 .any (Rows.fnJoinSpec.pre6 enc Try.prog Try.f8 Rows.fnJoinRow.domain false) (Rows.fnJoinSpec.post enc Try.prog Try.f8 false true false false) := by
 refine returnsInHanded_of_change (C := Try.checked) FnJoin.own started (by kernel_rfl) Try.func8
  (ChangeSpec.witness6 (enc := enc) (C := Try.checked) false ⟨#[], #[.slice none 0 0], []⟩ 8 (by kernel_rfl) (by kernel_rfl) (by kernel_rfl) (by kernel_rfl)) ?_
 intro W base args ds gs before hval0 hW hcnd _
 have hval : ∀ (j : Nat) t v, Try.f8.params[j]? = some t → args[j]? = some v → Value.okWide Try.prog W .any base t v := hval0
 have hW' := hW
 obtain ⟨p, q, hA0, hV, rfl, hfz, hnd⟩ := hW
 have hA : DataW.TrodAll enc Try.prog W 0 (fun _ => true) true Try.f8.params.toList args.toList ds p := hA0
 rw [Try.params8] at hA hval
 obtain ⟨v0, d0, rfl, rfl, h0⟩ := trodAll_one hA
 obtain ⟨base0, n0, cap0, rfl, hr0⟩ := read_bytes Try.underlying22 Try.underlying5 (cellsOf_tt ti5) (hval 0 _ _ rfl rfl) h0
 refine law_calls FnJoin.laidOut (fn := Try.f8) (tb := 4) ?_ (by kernel_rfl) und_bool rfl rfl hW' ⟨Try.f8, Try.func8, by kernel_rfl, by kernel_rfl⟩ ?_
 ·intro t ht
  have : Try.f8.params.toList = [22] := by rw [Try.params8]
  rw [this] at ht
  simp only [List.mem_cons, List.not_mem_nil, or_false] at ht
  subst ht
  exact ⟨by kernel_rfl, of_decide_eq_true (by kernel_rfl)⟩
 ·exact FnJoin_spec hr0
theorem FnJoin.k0 : (Rows.fnJoinRow.wf (OpenSpec.ofChange Rows.fnJoinSpec)) = true := by kernel_rfl
theorem FnJoin.k1 : (laidOutB Try.pinned.checked.prog) = true := by kernel_rfl
theorem FnJoin.k2 : (mapsRowed Try.pinned.checked.prog) = true := by kernel_rfl
theorem FnJoin.k3 : (Try.f8.params.all (Try.pinned.checked.prog.readableRec ·)) = true := by kernel_rfl
theorem FnJoin.k4 : (namedTie Try.pinned.checked.prog Rows.fnJoinRow.named Rows.fnJoinSpec.vars) = true := by kernel_rfl
theorem FnJoin.k5 : (Rows.fnJoinRow.stops == []) = true := by kernel_rfl
theorem FnJoin.k6 : (Try.pinned.checked.prog.stops == []) = true := by kernel_rfl
theorem FnJoin.k7 : (Rows.fnJoinRow.knobs == []) = true := by kernel_rfl
theorem FnJoin.k8 : (Try.pinned.checked.prog.stopKnobs == []) = true := by kernel_rfl
theorem FnJoin.k9 : (Rows.fnJoinRow.inPlace == Try.pinned.checked.prog.inPlace 8) = true := by kernel_rfl
theorem FnJoin.k10 : (Rows.fnJoinRow.unfollowed == Try.pinned.checked.prog.unfollowed 8) = true := by kernel_rfl
theorem FnJoin.k11 : (Rows.fnJoinRow.recurses == Try.pinned.checked.prog.recurses 8) = true := by kernel_rfl
theorem FnJoin.k12 : (Rows.fnJoinRow.named == Try.pinned.checked.prog.varsNamed 8) = true := by kernel_rfl
theorem FnJoin.k13 : (Rows.fnJoinRow.maps == (Try.f8.params.toList ++ Rows.fnJoinSpec.plain.varTypes Try.pinned.checked.prog).any (Try.pinned.checked.prog.mapsRec ·)) = true := by kernel_rfl
theorem FnJoin.k14 : (Rows.fnJoinRow.ifaces == (Try.f8.params.toList ++ Rows.fnJoinSpec.plain.varTypes Try.pinned.checked.prog).any (Try.pinned.checked.prog.ifacesRec ·)) = true := by kernel_rfl
theorem FnJoin.k15 : (Rows.fnJoinRow.mapsOut == Try.pinned.checked.prog.mapsAmong Try.f8.resultTypes.toList) = true := by kernel_rfl
theorem FnJoin.k16 : (Rows.fnJoinRow.loops == (Try.f8.params.toList ++ Rows.fnJoinSpec.plain.varTypes Try.pinned.checked.prog).any (Try.pinned.checked.prog.loopsFrom ·)) = true := by kernel_rfl
theorem FnJoin.k17 : (Rows.fnJoinRow.wideKeys == (Try.f8.params.toList ++ Rows.fnJoinSpec.plain.varTypes Try.pinned.checked.prog ++ Try.f8.resultTypes.toList).any (Try.pinned.checked.prog.wideKeysFrom ·)) = true := by kernel_rfl
theorem FnJoin.k18 : (Rows.fnJoinSpec.vars.all (Try.pinned.checked.prog.varReadable ·)) = true := by kernel_rfl
theorem FnJoin.k19 : (Try.f8.resultTypes.all (fun t => Try.pinned.checked.prog.readableRec t && decide (t < Try.pinned.checked.prog.types.size))) = true := by kernel_rfl
theorem FnJoin.k20 : (Rows.fnJoinRow.ifacesOut == Try.f8.resultTypes.toList.any (Try.pinned.checked.prog.ifacesRec ·)) = true := by kernel_rfl
theorem FnJoin.k21 : (Rows.fnJoinRow.loopsOut == Try.f8.resultTypes.toList.any (Try.pinned.checked.prog.loopsFrom ·)) = true := by kernel_rfl
theorem FnJoin.k22 : (Rows.fnJoinRow.plainKeys == Try.pinned.checked.prog.plainKeys) = true := by kernel_rfl
theorem FnJoin.k23 : (Rows.fnJoinRow.shortTexts.isNone) = true := by kernel_rfl
theorem FnJoin.k24 : (Try.pinned.checked.prog.stopsHeard) = true := by kernel_rfl
theorem FnJoin.k25 : (Try.pinned.checked.prog.mayEnter) = true := by kernel_rfl
theorem FnJoin.k26 : (Rows.fnJoinRow.lifted == Try.pinned.checked.prog.liftsFinal) = true := by kernel_rfl
theorem FnJoin.k27 : (Try.pinned.checked.prog.make == some Rows.fnJoinRow.make) = true := by kernel_rfl
theorem FnJoin.k28 : (Rows.fnJoinRow.kinds == (if Rows.fnJoinRow.domain.isEmpty then [] else Try.f8.params.toList.map fun t => match Try.pinned.checked.prog.underlying t with | some (.int k) => some k | _ => none)) = true := by kernel_rfl
theorem FnJoin.k29 : (Rows.fnJoinRow.pinned == Rows.fnJoinRow.pinnedBy) = true := by kernel_rfl
theorem FnJoin.k30 : (Rows.fnJoinRow.veiled == (Try.f8.params.toList ++ Rows.fnJoinSpec.plain.varTypes Try.pinned.checked.prog ++ Try.f8.resultTypes.toList).any (Try.pinned.checked.prog.veiledRec ·)) = true := by kernel_rfl
theorem FnJoin.k31 : (Rows.fnJoinRow.veiledFits Try.pinned.checked.prog Try.f8.params.toList (Try.f8.params.toList ++ Rows.fnJoinSpec.plain.varTypes Try.pinned.checked.prog ++ Try.f8.resultTypes.toList)) = true := by kernel_rfl
theorem FnJoin.and2 {a b : Bool} (h1 : a = true) (h2 : b = true) : (a && b) = true := by rw [h1, h2]; rfl
theorem FnJoin.joined {P : Program} {f : FuncId} {fn : Func} {s : ChangeSpec} {c : OpenClaim} (h0 : (c.wf (OpenSpec.ofChange s)) = true) (h1 : (laidOutB P) = true) (h2 : (mapsRowed P) = true) (h3 : (fn.params.all (P.readableRec ·)) = true) (h4 : (namedTie P c.named s.vars) = true) (h5 : (c.stops == []) = true) (h6 : (P.stops == []) = true) (h7 : (c.knobs == []) = true) (h8 : (P.stopKnobs == []) = true) (h9 : (c.inPlace == P.inPlace f) = true) (h10 : (c.unfollowed == P.unfollowed f) = true) (h11 : (c.recurses == P.recurses f) = true) (h12 : (c.named == P.varsNamed f) = true) (h13 : (c.maps == (fn.params.toList ++ s.plain.varTypes P).any (P.mapsRec ·)) = true) (h14 : (c.ifaces == (fn.params.toList ++ s.plain.varTypes P).any (P.ifacesRec ·)) = true) (h15 : (c.mapsOut == P.mapsAmong fn.resultTypes.toList) = true) (h16 : (c.loops == (fn.params.toList ++ s.plain.varTypes P).any (P.loopsFrom ·)) = true) (h17 : (c.wideKeys == (fn.params.toList ++ s.plain.varTypes P ++ fn.resultTypes.toList).any (P.wideKeysFrom ·)) = true) (h18 : (s.vars.all (P.varReadable ·)) = true) (h19 : (fn.resultTypes.all (fun t => P.readableRec t && decide (t < P.types.size))) = true) (h20 : (c.ifacesOut == fn.resultTypes.toList.any (P.ifacesRec ·)) = true) (h21 : (c.loopsOut == fn.resultTypes.toList.any (P.loopsFrom ·)) = true) (h22 : (c.plainKeys == P.plainKeys) = true) (h23 : (c.shortTexts.isNone) = true) (h24 : (P.stopsHeard) = true) (h25 : (P.mayEnter) = true) (h26 : (c.lifted == P.liftsFinal) = true) (h27 : (P.make == some c.make) = true) (h28 : (c.kinds == (if c.domain.isEmpty then [] else fn.params.toList.map fun t => match P.underlying t with | some (.int k) => some k | _ => none)) = true) (h29 : (c.pinned == c.pinnedBy) = true) (h30 : (c.veiled == (fn.params.toList ++ s.plain.varTypes P ++ fn.resultTypes.toList).any (P.veiledRec ·)) = true) (h31 : (c.veiledFits P fn.params.toList (fn.params.toList ++ s.plain.varTypes P ++ fn.resultTypes.toList)) = true) : joinedFacts P f fn s c = true := by
 unfold joinedFacts
 exact FnJoin.and2 (FnJoin.and2 (FnJoin.and2 (FnJoin.and2 (FnJoin.and2 (FnJoin.and2 (FnJoin.and2 (FnJoin.and2 (FnJoin.and2 (FnJoin.and2 (FnJoin.and2 (FnJoin.and2 (FnJoin.and2 (FnJoin.and2 (FnJoin.and2 (FnJoin.and2 (FnJoin.and2 (FnJoin.and2 (FnJoin.and2 (FnJoin.and2 (FnJoin.and2 (FnJoin.and2 (FnJoin.and2 (FnJoin.and2 (FnJoin.and2 (FnJoin.and2 (FnJoin.and2 (FnJoin.and2 (FnJoin.and2 (FnJoin.and2 (FnJoin.and2 (h0) h1) h2) h3) h4) h5) h6) h7) h8) h9) h10) h11) h12) h13) h14) h15) h16) h17) h18) h19) h20) h21) h22) h23) h24) h25) h26) h27) h28) h29) h30) h31
theorem FnJoin.closed : joinedFacts Try.pinned.checked.prog 8 Try.f8 Rows.fnJoinSpec Rows.fnJoinRow = true := FnJoin.joined (P := Try.pinned.checked.prog) (f := 8) (fn := Try.f8) (s := Rows.fnJoinSpec) (c := Rows.fnJoinRow) FnJoin.k0 FnJoin.k1 FnJoin.k2 FnJoin.k3 FnJoin.k4 FnJoin.k5 FnJoin.k6 FnJoin.k7 FnJoin.k8 FnJoin.k9 FnJoin.k10 FnJoin.k11 FnJoin.k12 FnJoin.k13 FnJoin.k14 FnJoin.k15 FnJoin.k16 FnJoin.k17 FnJoin.k18 FnJoin.k19 FnJoin.k20 FnJoin.k21 FnJoin.k22 FnJoin.k23 FnJoin.k24 FnJoin.k25 FnJoin.k26 FnJoin.k27 FnJoin.k28 FnJoin.k29 FnJoin.k30 FnJoin.k31
theorem FnJoin_holds : Rows.FnJoinSaid :=
 OpenClaim.holds_of_wide 8 Try.f8 rfl rfl rfl rfl rfl rfl rfl ⟨rfl, rfl, rfl, rfl, rfl⟩ rfl rfl rfl rfl rfl (by kernel_rfl) Try.func8 FnJoin.closed
  (of_decide_eq_true (by kernel_rfl)) (by unfold Func.isWrapper; first | (rw [if_pos (by decide +kernel)]; kernel_rfl) | (rw [if_neg (by decide +kernel)]; exact ⟨rfl, rfl⟩))
  (fun os started H enc _ => FnJoin.lifted os started H enc)
#print axioms FnJoin_holds
end Go.Proofs.Yteomklpfifepdaa
