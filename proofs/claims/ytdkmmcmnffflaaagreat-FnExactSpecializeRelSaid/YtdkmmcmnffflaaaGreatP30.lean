/- 'laws.FnExactSpecializeRel' returns true for every input, and each argument reads behind the call as it read before: no condition. -/
import Derived.Test.YtdkmmcmnffflaaaGreatRows
import Derived.Test.YtdkmmcmnffflaaaGreatE1
namespace Go.Proofs.YtdkmmcmnffflaaaGreat
open Go.ChangeShapes Go.WideShapes Go.ChangeAt Go.RowKit Go.Vx
theorem FnExactSpecializeRel.own : ownKnob Tryz.prog.godebug = none := by kernel_rfl
theorem FnExactSpecializeRel.laidOut : laidOutB Tryz.prog = true := by kernel_rfl
set_option maxRecDepth 100000 in
theorem FnExactSpecializeRel.lifted (os : Os) (started : os.Started) (H : Type) (enc : TypeId × Value → H) :
  ReturnsInHanded {} Tryz.checked os 4 .any (Rows.fnExactSpecializeRelSpec.pre6 enc Tryz.prog Tryz.f4 Rows.fnExactSpecializeRelRow.domain false) (Rows.fnExactSpecializeRelSpec.post enc Tryz.prog Tryz.f4 false true false false) := by
 refine returnsInHanded_of_change (C := Tryz.checked) FnExactSpecializeRel.own started (by kernel_rfl) Tryz.func4
  (ChangeSpec.witness6 (enc := enc) (C := Tryz.checked) false ⟨#[], #[.agg #[.slice none 0 0], .string ⟨#[]⟩, .int .i64 0, .agg #[.int .i64 0, .int .i64 0, .string ⟨#[]⟩, .slice none 0 0], .string ⟨#[]⟩], []⟩ 8 (by kernel_rfl) (by kernel_rfl) (by kernel_rfl) (by kernel_rfl)) ?_
 intro W base args ds gs before hval0 hW hcnd _
 have hval : ∀ (j : Nat) t v, Tryz.f4.params[j]? = some t → args[j]? = some v → Value.okWide Tryz.prog W .any base t v := hval0
 have hW' := hW
 obtain ⟨p, q, hA0, hV, rfl, hfz, hnd⟩ := hW
 have hA : DataW.TrodAll enc Tryz.prog W 0 (fun _ => true) true Tryz.f4.params.toList args.toList ds p := hA0
 rw [Tryz.params4] at hA hval
 obtain ⟨v0, v1, v2, v3, v4, d0, d1, d2, d3, d4, p0, p1, p2, p3, p4, rfl, rfl, hp0, h0, h1, h2, h3, h4⟩ := trodAll_five hA
 obtain ⟨e0, ⟨g0, rfl, w0⟩, cs0, rfl, hr0⟩ := read_struct Tryz.underlying38 read_Program (hval 0 _ _ rfl rfl) h0
 obtain ⟨e1, ⟨n1, rfl, w1⟩, hr1⟩ := read_cell (fun cs => okWide_string Tryz.underlying9 cs) (reads_str Tryz.underlying9) (hval 1 _ _ rfl rfl) h1
 obtain ⟨e2, ⟨n2, rfl, w2⟩, hr2⟩ := read_cell (fun cs => okWide_int Tryz.underlying3 cs) (reads_int Tryz.underlying3) (hval 2 _ _ rfl rfl) h2
 obtain ⟨e3, ⟨t3, rfl, w3⟩, cs3, rfl, hr3⟩ := read_struct Tryz.underlying40 read_Term (hval 3 _ _ rfl rfl) h3
 obtain ⟨e4, ⟨n4, rfl, w4⟩, hr4⟩ := read_cell (fun cs => okWide_string Tryz.underlying9 cs) (reads_str Tryz.underlying9) (hval 4 _ _ rfl rfl) h4
 refine law_calls FnExactSpecializeRel.laidOut (fn := Tryz.f4) (tb := 4) ?_ (by kernel_rfl) und_bool rfl rfl hW' ⟨Tryz.f4, Tryz.func4, by kernel_rfl, by kernel_rfl⟩ ?_
 ·intro t ht
  have : Tryz.f4.params.toList = [38, 9, 3, 40, 9] := by rw [Tryz.params4]
  rw [this] at ht
  simp only [List.mem_cons, List.not_mem_nil, or_false] at ht
  rcases ht with rfl | rfl | rfl | rfl | rfl
  ·exact ⟨by kernel_rfl, of_decide_eq_true (by kernel_rfl)⟩
  ·exact ⟨by kernel_rfl, of_decide_eq_true (by kernel_rfl)⟩
  ·exact ⟨by kernel_rfl, of_decide_eq_true (by kernel_rfl)⟩
  ·exact ⟨by kernel_rfl, of_decide_eq_true (by kernel_rfl)⟩
  ·exact ⟨by kernel_rfl, of_decide_eq_true (by kernel_rfl)⟩
 ·exact by
   have e1 : [v1] = [Value.string n1] := hr1
   cases e1
   have e2 : [v2] = [Value.int .i64 n2] := hr2
   cases e2
   have e4 : [v4] = [Value.string n4] := hr4
   cases e4
   exact FnExactSpecializeRel_spec (Pg.rep hr0) (Tm.rep hr3) w0 w3
theorem FnExactSpecializeRel.k0 : (Rows.fnExactSpecializeRelRow.wf (OpenSpec.ofChange Rows.fnExactSpecializeRelSpec)) = true := by kernel_rfl
theorem FnExactSpecializeRel.k1 : (laidOutB Tryz.pinned.checked.prog) = true := by kernel_rfl
theorem FnExactSpecializeRel.k2 : (mapsRowed Tryz.pinned.checked.prog) = true := by kernel_rfl
theorem FnExactSpecializeRel.k3 : (Tryz.f4.params.all (Tryz.pinned.checked.prog.readableRec ·)) = true := by kernel_rfl
theorem FnExactSpecializeRel.k4 : (namedTie Tryz.pinned.checked.prog Rows.fnExactSpecializeRelRow.named Rows.fnExactSpecializeRelSpec.vars) = true := by kernel_rfl
theorem FnExactSpecializeRel.k5 : (Rows.fnExactSpecializeRelRow.stops == []) = true := by kernel_rfl
theorem FnExactSpecializeRel.k6 : (Tryz.pinned.checked.prog.stops == []) = true := by kernel_rfl
theorem FnExactSpecializeRel.k7 : (Rows.fnExactSpecializeRelRow.knobs == []) = true := by kernel_rfl
theorem FnExactSpecializeRel.k8 : (Tryz.pinned.checked.prog.stopKnobs == []) = true := by kernel_rfl
theorem FnExactSpecializeRel.k9 : (Rows.fnExactSpecializeRelRow.inPlace == Tryz.pinned.checked.prog.inPlace 4) = true := by kernel_rfl
theorem FnExactSpecializeRel.k10 : (Rows.fnExactSpecializeRelRow.unfollowed == Tryz.pinned.checked.prog.unfollowed 4) = true := by kernel_rfl
theorem FnExactSpecializeRel.k11 : (Rows.fnExactSpecializeRelRow.recurses == Tryz.pinned.checked.prog.recurses 4) = true := by kernel_rfl
theorem FnExactSpecializeRel.k12 : (Rows.fnExactSpecializeRelRow.named == Tryz.pinned.checked.prog.varsNamed 4) = true := by kernel_rfl
theorem FnExactSpecializeRel.k13 : (Rows.fnExactSpecializeRelRow.maps == (Tryz.f4.params.toList ++ Rows.fnExactSpecializeRelSpec.plain.varTypes Tryz.pinned.checked.prog).any (Tryz.pinned.checked.prog.mapsRec ·)) = true := by kernel_rfl
theorem FnExactSpecializeRel.k14 : (Rows.fnExactSpecializeRelRow.ifaces == (Tryz.f4.params.toList ++ Rows.fnExactSpecializeRelSpec.plain.varTypes Tryz.pinned.checked.prog).any (Tryz.pinned.checked.prog.ifacesRec ·)) = true := by kernel_rfl
theorem FnExactSpecializeRel.k15 : (Rows.fnExactSpecializeRelRow.mapsOut == Tryz.pinned.checked.prog.mapsAmong Tryz.f4.resultTypes.toList) = true := by kernel_rfl
theorem FnExactSpecializeRel.k16 : (Rows.fnExactSpecializeRelRow.loops == (Tryz.f4.params.toList ++ Rows.fnExactSpecializeRelSpec.plain.varTypes Tryz.pinned.checked.prog).any (Tryz.pinned.checked.prog.loopsFrom ·)) = true := by kernel_rfl
theorem FnExactSpecializeRel.k17 : (Rows.fnExactSpecializeRelRow.wideKeys == (Tryz.f4.params.toList ++ Rows.fnExactSpecializeRelSpec.plain.varTypes Tryz.pinned.checked.prog ++ Tryz.f4.resultTypes.toList).any (Tryz.pinned.checked.prog.wideKeysFrom ·)) = true := by kernel_rfl
theorem FnExactSpecializeRel.k18 : (Rows.fnExactSpecializeRelSpec.vars.all (Tryz.pinned.checked.prog.varReadable ·)) = true := by kernel_rfl
theorem FnExactSpecializeRel.k19 : (Tryz.f4.resultTypes.all (fun t => Tryz.pinned.checked.prog.readableRec t && decide (t < Tryz.pinned.checked.prog.types.size))) = true := by kernel_rfl
theorem FnExactSpecializeRel.k20 : (Rows.fnExactSpecializeRelRow.ifacesOut == Tryz.f4.resultTypes.toList.any (Tryz.pinned.checked.prog.ifacesRec ·)) = true := by kernel_rfl
theorem FnExactSpecializeRel.k21 : (Rows.fnExactSpecializeRelRow.loopsOut == Tryz.f4.resultTypes.toList.any (Tryz.pinned.checked.prog.loopsFrom ·)) = true := by kernel_rfl
theorem FnExactSpecializeRel.k22 : (Rows.fnExactSpecializeRelRow.plainKeys == Tryz.pinned.checked.prog.plainKeys) = true := by kernel_rfl
theorem FnExactSpecializeRel.k23 : (Rows.fnExactSpecializeRelRow.shortTexts.isNone) = true := by kernel_rfl
theorem FnExactSpecializeRel.k24 : (Tryz.pinned.checked.prog.stopsHeard) = true := by kernel_rfl
theorem FnExactSpecializeRel.k25 : (Tryz.pinned.checked.prog.mayEnter) = true := by kernel_rfl
theorem FnExactSpecializeRel.k26 : (Rows.fnExactSpecializeRelRow.lifted == Tryz.pinned.checked.prog.liftsFinal) = true := by kernel_rfl
theorem FnExactSpecializeRel.k27 : (Tryz.pinned.checked.prog.make == some Rows.fnExactSpecializeRelRow.make) = true := by kernel_rfl
theorem FnExactSpecializeRel.k28 : (Rows.fnExactSpecializeRelRow.kinds == (if Rows.fnExactSpecializeRelRow.domain.isEmpty then [] else Tryz.f4.params.toList.map fun t => match Tryz.pinned.checked.prog.underlying t with | some (.int k) => some k | _ => none)) = true := by kernel_rfl
theorem FnExactSpecializeRel.k29 : (Rows.fnExactSpecializeRelRow.pinned == Rows.fnExactSpecializeRelRow.pinnedBy) = true := by kernel_rfl
theorem FnExactSpecializeRel.k30 : (Rows.fnExactSpecializeRelRow.veiled == (Tryz.f4.params.toList ++ Rows.fnExactSpecializeRelSpec.plain.varTypes Tryz.pinned.checked.prog ++ Tryz.f4.resultTypes.toList).any (Tryz.pinned.checked.prog.veiledRec ·)) = true := by kernel_rfl
theorem FnExactSpecializeRel.k31 : (Rows.fnExactSpecializeRelRow.veiledFits Tryz.pinned.checked.prog Tryz.f4.params.toList (Tryz.f4.params.toList ++ Rows.fnExactSpecializeRelSpec.plain.varTypes Tryz.pinned.checked.prog ++ Tryz.f4.resultTypes.toList)) = true := by kernel_rfl
theorem FnExactSpecializeRel.and2 {a b : Bool} (h1 : a = true) (h2 : b = true) : (a && b) = true := by rw [h1, h2]; rfl
theorem FnExactSpecializeRel.joined {P : Program} {f : FuncId} {fn : Func} {s : ChangeSpec} {c : OpenClaim} (h0 : (c.wf (OpenSpec.ofChange s)) = true) (h1 : (laidOutB P) = true) (h2 : (mapsRowed P) = true) (h3 : (fn.params.all (P.readableRec ·)) = true) (h4 : (namedTie P c.named s.vars) = true) (h5 : (c.stops == []) = true) (h6 : (P.stops == []) = true) (h7 : (c.knobs == []) = true) (h8 : (P.stopKnobs == []) = true) (h9 : (c.inPlace == P.inPlace f) = true) (h10 : (c.unfollowed == P.unfollowed f) = true) (h11 : (c.recurses == P.recurses f) = true) (h12 : (c.named == P.varsNamed f) = true) (h13 : (c.maps == (fn.params.toList ++ s.plain.varTypes P).any (P.mapsRec ·)) = true) (h14 : (c.ifaces == (fn.params.toList ++ s.plain.varTypes P).any (P.ifacesRec ·)) = true) (h15 : (c.mapsOut == P.mapsAmong fn.resultTypes.toList) = true) (h16 : (c.loops == (fn.params.toList ++ s.plain.varTypes P).any (P.loopsFrom ·)) = true) (h17 : (c.wideKeys == (fn.params.toList ++ s.plain.varTypes P ++ fn.resultTypes.toList).any (P.wideKeysFrom ·)) = true) (h18 : (s.vars.all (P.varReadable ·)) = true) (h19 : (fn.resultTypes.all (fun t => P.readableRec t && decide (t < P.types.size))) = true) (h20 : (c.ifacesOut == fn.resultTypes.toList.any (P.ifacesRec ·)) = true) (h21 : (c.loopsOut == fn.resultTypes.toList.any (P.loopsFrom ·)) = true) (h22 : (c.plainKeys == P.plainKeys) = true) (h23 : (c.shortTexts.isNone) = true) (h24 : (P.stopsHeard) = true) (h25 : (P.mayEnter) = true) (h26 : (c.lifted == P.liftsFinal) = true) (h27 : (P.make == some c.make) = true) (h28 : (c.kinds == (if c.domain.isEmpty then [] else fn.params.toList.map fun t => match P.underlying t with | some (.int k) => some k | _ => none)) = true) (h29 : (c.pinned == c.pinnedBy) = true) (h30 : (c.veiled == (fn.params.toList ++ s.plain.varTypes P ++ fn.resultTypes.toList).any (P.veiledRec ·)) = true) (h31 : (c.veiledFits P fn.params.toList (fn.params.toList ++ s.plain.varTypes P ++ fn.resultTypes.toList)) = true) : joinedFacts P f fn s c = true := by
 unfold joinedFacts
 exact FnExactSpecializeRel.and2 (FnExactSpecializeRel.and2 (FnExactSpecializeRel.and2 (FnExactSpecializeRel.and2 (FnExactSpecializeRel.and2 (FnExactSpecializeRel.and2 (FnExactSpecializeRel.and2 (FnExactSpecializeRel.and2 (FnExactSpecializeRel.and2 (FnExactSpecializeRel.and2 (FnExactSpecializeRel.and2 (FnExactSpecializeRel.and2 (FnExactSpecializeRel.and2 (FnExactSpecializeRel.and2 (FnExactSpecializeRel.and2 (FnExactSpecializeRel.and2 (FnExactSpecializeRel.and2 (FnExactSpecializeRel.and2 (FnExactSpecializeRel.and2 (FnExactSpecializeRel.and2 (FnExactSpecializeRel.and2 (FnExactSpecializeRel.and2 (FnExactSpecializeRel.and2 (FnExactSpecializeRel.and2 (FnExactSpecializeRel.and2 (FnExactSpecializeRel.and2 (FnExactSpecializeRel.and2 (FnExactSpecializeRel.and2 (FnExactSpecializeRel.and2 (FnExactSpecializeRel.and2 (FnExactSpecializeRel.and2 (h0) h1) h2) h3) h4) h5) h6) h7) h8) h9) h10) h11) h12) h13) h14) h15) h16) h17) h18) h19) h20) h21) h22) h23) h24) h25) h26) h27) h28) h29) h30) h31
theorem FnExactSpecializeRel.closed : joinedFacts Tryz.pinned.checked.prog 4 Tryz.f4 Rows.fnExactSpecializeRelSpec Rows.fnExactSpecializeRelRow = true := FnExactSpecializeRel.joined (P := Tryz.pinned.checked.prog) (f := 4) (fn := Tryz.f4) (s := Rows.fnExactSpecializeRelSpec) (c := Rows.fnExactSpecializeRelRow) FnExactSpecializeRel.k0 FnExactSpecializeRel.k1 FnExactSpecializeRel.k2 FnExactSpecializeRel.k3 FnExactSpecializeRel.k4 FnExactSpecializeRel.k5 FnExactSpecializeRel.k6 FnExactSpecializeRel.k7 FnExactSpecializeRel.k8 FnExactSpecializeRel.k9 FnExactSpecializeRel.k10 FnExactSpecializeRel.k11 FnExactSpecializeRel.k12 FnExactSpecializeRel.k13 FnExactSpecializeRel.k14 FnExactSpecializeRel.k15 FnExactSpecializeRel.k16 FnExactSpecializeRel.k17 FnExactSpecializeRel.k18 FnExactSpecializeRel.k19 FnExactSpecializeRel.k20 FnExactSpecializeRel.k21 FnExactSpecializeRel.k22 FnExactSpecializeRel.k23 FnExactSpecializeRel.k24 FnExactSpecializeRel.k25 FnExactSpecializeRel.k26 FnExactSpecializeRel.k27 FnExactSpecializeRel.k28 FnExactSpecializeRel.k29 FnExactSpecializeRel.k30 FnExactSpecializeRel.k31
theorem FnExactSpecializeRel_holds : Rows.FnExactSpecializeRelSaid :=
 OpenClaim.holds_of_wide 4 Tryz.f4 rfl rfl rfl rfl rfl rfl rfl ⟨rfl, rfl, rfl, rfl, rfl⟩ rfl rfl rfl rfl rfl (by kernel_rfl) Tryz.func4 FnExactSpecializeRel.closed
  (of_decide_eq_true (by kernel_rfl)) (by unfold Func.isWrapper; first | (rw [if_pos (by decide +kernel)]; kernel_rfl) | (rw [if_neg (by decide +kernel)]; exact ⟨rfl, rfl⟩))
  (fun os started H enc _ => FnExactSpecializeRel.lifted os started H enc)
#print axioms FnExactSpecializeRel_holds
end Go.Proofs.YtdkmmcmnffflaaaGreat
