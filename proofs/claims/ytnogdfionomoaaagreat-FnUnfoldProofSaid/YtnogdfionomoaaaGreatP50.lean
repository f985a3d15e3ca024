/- 'laws.FnUnfoldProof' returns true for every input, and each argument reads behind the call as it read before: no condition. -/
import Derived.Test.YtnogdfionomoaaaGreatRows
import Derived.Test.YtnogdfionomoaaaGreatE5
namespace Go.Proofs.YtnogdfionomoaaaGreat
open Go.ChangeShapes Go.WideShapes Go.ChangeAt Go.RowKit Go.Vx
theorem FnUnfoldProof.own:ownKnob Tryz.prog.godebug=none:=by kernel_rfl
theorem FnUnfoldProof.laidOut:laidOutB Tryz.prog=true:=by kernel_rfl
set_option maxRecDepth 100000 in
theorem FnUnfoldProof.lifted(os:Os)(started:os.Started)(H:Type)(enc:TypeId×Value→H):
  ReturnsInHanded {} Tryz.checked os 9 .any (Rows.fnUnfoldProofSpec.pre6 enc Tryz.prog Tryz.f9 Rows.fnUnfoldProofRow.domain false) (Rows.fnUnfoldProofSpec.post enc Tryz.prog Tryz.f9 false true false false):=by
 refine returnsInHanded_of_change (C:=Tryz.checked) FnUnfoldProof.own started (by kernel_rfl) Tryz.func9
  (ChangeSpec.witness6 (enc:=enc) (C:=Tryz.checked) false ⟨#[],#[.slice none 0 0],[]⟩ 8 (by kernel_rfl) (by kernel_rfl) (by kernel_rfl) (by kernel_rfl)) ?_
 intro W base args ds gs before hval0 hW hcnd _
 have hval:∀(j:Nat) t v,Tryz.f9.params[j]? =some t→args[j]? =some v→Value.okWide Tryz.prog W .any base t v:=hval0
 have hW':=hW
 obtain⟨p,q,hA0,hV,rfl,hfz,hnd⟩:=hW
 have hA:DataW.TrodAll enc Tryz.prog W 0 (fun _=>true) true Tryz.f9.params.toList args.toList ds p:=hA0
 rw[Tryz.params9]at hA hval
 obtain⟨v0,d0,rfl,rfl,h0⟩:=trodAll_one hA
 obtain⟨base0,n0,cap0,rfl,hr0⟩:=qEj Tryz.underlying22 Tryz.underlying5 (qDx ti5) (hval 0 _ _ rfl rfl) h0
 refine qGx FnUnfoldProof.laidOut (fn:=Tryz.f9) (tb:=4) ?_ (by kernel_rfl) qLc rfl rfl hW' ⟨Tryz.f9,Tryz.func9,by kernel_rfl,by kernel_rfl⟩ ?_
 ·intro t ht
  have:Tryz.f9.params.toList=[22]:=by rw[Tryz.params9]
  rw[this]at ht
  simp only[List.mem_cons,List.not_mem_nil,or_false]at ht
  subst ht
  exact⟨by kernel_rfl,of_decide_eq_true (by kernel_rfl)⟩
 ·exact qDr hr0
theorem FnUnfoldProof.k0:(Rows.fnUnfoldProofRow.wf (OpenSpec.ofChange Rows.fnUnfoldProofSpec))=true:=by kernel_rfl
theorem FnUnfoldProof.k1:(laidOutB Tryz.pinned.checked.prog)=true:=by kernel_rfl
theorem FnUnfoldProof.k2:(mapsRowed Tryz.pinned.checked.prog)=true:=by kernel_rfl
theorem FnUnfoldProof.k3:(Tryz.f9.params.all (Tryz.pinned.checked.prog.readableRec ·))=true:=by kernel_rfl
theorem FnUnfoldProof.k4:(namedTie Tryz.pinned.checked.prog Rows.fnUnfoldProofRow.named Rows.fnUnfoldProofSpec.vars)=true:=by kernel_rfl
theorem FnUnfoldProof.k5:(Rows.fnUnfoldProofRow.stops==[])=true:=by kernel_rfl
theorem FnUnfoldProof.k6:(Tryz.pinned.checked.prog.stops==[])=true:=by kernel_rfl
theorem FnUnfoldProof.k7:(Rows.fnUnfoldProofRow.knobs==[])=true:=by kernel_rfl
theorem FnUnfoldProof.k8:(Tryz.pinned.checked.prog.stopKnobs==[])=true:=by kernel_rfl
theorem FnUnfoldProof.k9:(Rows.fnUnfoldProofRow.inPlace==Tryz.pinned.checked.prog.inPlace 9)=true:=by kernel_rfl
theorem FnUnfoldProof.k10:(Rows.fnUnfoldProofRow.unfollowed==Tryz.pinned.checked.prog.unfollowed 9)=true:=by kernel_rfl
theorem FnUnfoldProof.k11:(Rows.fnUnfoldProofRow.recurses==Tryz.pinned.checked.prog.recurses 9)=true:=by kernel_rfl
theorem FnUnfoldProof.k12:(Rows.fnUnfoldProofRow.named==Tryz.pinned.checked.prog.varsNamed 9)=true:=by kernel_rfl
theorem FnUnfoldProof.k13:(Rows.fnUnfoldProofRow.maps==(Tryz.f9.params.toList++Rows.fnUnfoldProofSpec.plain.varTypes Tryz.pinned.checked.prog).any (Tryz.pinned.checked.prog.mapsRec ·))=true:=by kernel_rfl
theorem FnUnfoldProof.k14:(Rows.fnUnfoldProofRow.ifaces==(Tryz.f9.params.toList++Rows.fnUnfoldProofSpec.plain.varTypes Tryz.pinned.checked.prog).any (Tryz.pinned.checked.prog.ifacesRec ·))=true:=by kernel_rfl
theorem FnUnfoldProof.k15:(Rows.fnUnfoldProofRow.mapsOut==Tryz.pinned.checked.prog.mapsAmong Tryz.f9.resultTypes.toList)=true:=by kernel_rfl
theorem FnUnfoldProof.k16:(Rows.fnUnfoldProofRow.loops==(Tryz.f9.params.toList++Rows.fnUnfoldProofSpec.plain.varTypes Tryz.pinned.checked.prog).any (Tryz.pinned.checked.prog.loopsFrom ·))=true:=by kernel_rfl
theorem FnUnfoldProof.k17:(Rows.fnUnfoldProofRow.wideKeys==(Tryz.f9.params.toList++Rows.fnUnfoldProofSpec.plain.varTypes Tryz.pinned.checked.prog++Tryz.f9.resultTypes.toList).any (Tryz.pinned.checked.prog.wideKeysFrom ·))=true:=by kernel_rfl
theorem FnUnfoldProof.k18:(Rows.fnUnfoldProofSpec.vars.all (Tryz.pinned.checked.prog.varReadable ·))=true:=by kernel_rfl
theorem FnUnfoldProof.k19:(Tryz.f9.resultTypes.all (fun t=>Tryz.pinned.checked.prog.readableRec t&&decide (t<Tryz.pinned.checked.prog.types.size)))=true:=by kernel_rfl
theorem FnUnfoldProof.k20:(Rows.fnUnfoldProofRow.ifacesOut==Tryz.f9.resultTypes.toList.any (Tryz.pinned.checked.prog.ifacesRec ·))=true:=by kernel_rfl
theorem FnUnfoldProof.k21:(Rows.fnUnfoldProofRow.loopsOut==Tryz.f9.resultTypes.toList.any (Tryz.pinned.checked.prog.loopsFrom ·))=true:=by kernel_rfl
theorem FnUnfoldProof.k22:(Rows.fnUnfoldProofRow.plainKeys==Tryz.pinned.checked.prog.plainKeys)=true:=by kernel_rfl
theorem FnUnfoldProof.k23:(Rows.fnUnfoldProofRow.shortTexts.isNone)=true:=by kernel_rfl
theorem FnUnfoldProof.k24:(Tryz.pinned.checked.prog.stopsHeard)=true:=by kernel_rfl
theorem FnUnfoldProof.k25:(Tryz.pinned.checked.prog.mayEnter)=true:=by kernel_rfl
theorem FnUnfoldProof.k26:(Rows.fnUnfoldProofRow.lifted==Tryz.pinned.checked.prog.liftsFinal)=true:=by kernel_rfl
theorem FnUnfoldProof.k27:(Tryz.pinned.checked.prog.make==some Rows.fnUnfoldProofRow.make)=true:=by kernel_rfl
theorem FnUnfoldProof.k28:(Rows.fnUnfoldProofRow.kinds==(if Rows.fnUnfoldProofRow.domain.isEmpty then []else Tryz.f9.params.toList.map fun t=>match Tryz.pinned.checked.prog.underlying t with|some (.int k)=>some k|_=>none))=true:=by kernel_rfl
theorem FnUnfoldProof.k29:(Rows.fnUnfoldProofRow.pinned==Rows.fnUnfoldProofRow.pinnedBy)=true:=by kernel_rfl
theorem FnUnfoldProof.k30:(Rows.fnUnfoldProofRow.veiled==(Tryz.f9.params.toList++Rows.fnUnfoldProofSpec.plain.varTypes Tryz.pinned.checked.prog++Tryz.f9.resultTypes.toList).any (Tryz.pinned.checked.prog.veiledRec ·))=true:=by kernel_rfl
theorem FnUnfoldProof.k31:(Rows.fnUnfoldProofRow.veiledFits Tryz.pinned.checked.prog Tryz.f9.params.toList (Tryz.f9.params.toList++Rows.fnUnfoldProofSpec.plain.varTypes Tryz.pinned.checked.prog++Tryz.f9.resultTypes.toList))=true:=by kernel_rfl
theorem FnUnfoldProof.and2{a b:Bool}(h1:a=true)(h2:b=true):(a&&b)=true:=by rw[h1,h2];rfl
theorem FnUnfoldProof.joined{P:Program}{f:FuncId}{fn:Func}{s:ChangeSpec}{c:OpenClaim}(h0:(c.wf (OpenSpec.ofChange s))=true)(h1:(laidOutB P)=true)(h2:(mapsRowed P)=true)(h3:(fn.params.all (P.readableRec ·))=true)(h4:(namedTie P c.named s.vars)=true)(h5:(c.stops==[])=true)(h6:(P.stops==[])=true)(h7:(c.knobs==[])=true)(h8:(P.stopKnobs==[])=true)(h9:(c.inPlace==P.inPlace f)=true)(h10:(c.unfollowed==P.unfollowed f)=true)(h11:(c.recurses==P.recurses f)=true)(h12:(c.named==P.varsNamed f)=true)(h13:(c.maps==(fn.params.toList++s.plain.varTypes P).any (P.mapsRec ·))=true)(h14:(c.ifaces==(fn.params.toList++s.plain.varTypes P).any (P.ifacesRec ·))=true)(h15:(c.mapsOut==P.mapsAmong fn.resultTypes.toList)=true)(h16:(c.loops==(fn.params.toList++s.plain.varTypes P).any (P.loopsFrom ·))=true)(h17:(c.wideKeys==(fn.params.toList++s.plain.varTypes P++fn.resultTypes.toList).any (P.wideKeysFrom ·))=true)(h18:(s.vars.all (P.varReadable ·))=true)(h19:(fn.resultTypes.all (fun t=>P.readableRec t&&decide (t<P.types.size)))=true)(h20:(c.ifacesOut==fn.resultTypes.toList.any (P.ifacesRec ·))=true)(h21:(c.loopsOut==fn.resultTypes.toList.any (P.loopsFrom ·))=true)(h22:(c.plainKeys==P.plainKeys)=true)(h23:(c.shortTexts.isNone)=true)(h24:(P.stopsHeard)=true)(h25:(P.mayEnter)=true)(h26:(c.lifted==P.liftsFinal)=true)(h27:(P.make==some c.make)=true)(h28:(c.kinds==(if c.domain.isEmpty then []else fn.params.toList.map fun t=>match P.underlying t with|some (.int k)=>some k|_=>none))=true)(h29:(c.pinned==c.pinnedBy)=true)(h30:(c.veiled==(fn.params.toList++s.plain.varTypes P++fn.resultTypes.toList).any (P.veiledRec ·))=true)(h31:(c.veiledFits P fn.params.toList (fn.params.toList++s.plain.varTypes P++fn.resultTypes.toList))=true):joinedFacts P f fn s c=true:=by
 unfold joinedFacts
 exact FnUnfoldProof.and2 (FnUnfoldProof.and2 (FnUnfoldProof.and2 (FnUnfoldProof.and2 (FnUnfoldProof.and2 (FnUnfoldProof.and2 (FnUnfoldProof.and2 (FnUnfoldProof.and2 (FnUnfoldProof.and2 (FnUnfoldProof.and2 (FnUnfoldProof.and2 (FnUnfoldProof.and2 (FnUnfoldProof.and2 (FnUnfoldProof.and2 (FnUnfoldProof.and2 (FnUnfoldProof.and2 (FnUnfoldProof.and2 (FnUnfoldProof.and2 (FnUnfoldProof.and2 (FnUnfoldProof.and2 (FnUnfoldProof.and2 (FnUnfoldProof.and2 (FnUnfoldProof.and2 (FnUnfoldProof.and2 (FnUnfoldProof.and2 (FnUnfoldProof.and2 (FnUnfoldProof.and2 (FnUnfoldProof.and2 (FnUnfoldProof.and2 (FnUnfoldProof.and2 (FnUnfoldProof.and2 (h0) h1) h2) h3) h4) h5) h6) h7) h8) h9) h10) h11) h12) h13) h14) h15) h16) h17) h18) h19) h20) h21) h22) h23) h24) h25) h26) h27) h28) h29) h30) h31
theorem FnUnfoldProof.closed:joinedFacts Tryz.pinned.checked.prog 9 Tryz.f9 Rows.fnUnfoldProofSpec Rows.fnUnfoldProofRow=true:=FnUnfoldProof.joined (P:=Tryz.pinned.checked.prog) (f:=9) (fn:=Tryz.f9) (s:=Rows.fnUnfoldProofSpec) (c:=Rows.fnUnfoldProofRow) FnUnfoldProof.k0 FnUnfoldProof.k1 FnUnfoldProof.k2 FnUnfoldProof.k3 FnUnfoldProof.k4 FnUnfoldProof.k5 FnUnfoldProof.k6 FnUnfoldProof.k7 FnUnfoldProof.k8 FnUnfoldProof.k9 FnUnfoldProof.k10 FnUnfoldProof.k11 FnUnfoldProof.k12 FnUnfoldProof.k13 FnUnfoldProof.k14 FnUnfoldProof.k15 FnUnfoldProof.k16 FnUnfoldProof.k17 FnUnfoldProof.k18 FnUnfoldProof.k19 FnUnfoldProof.k20 FnUnfoldProof.k21 FnUnfoldProof.k22 FnUnfoldProof.k23 FnUnfoldProof.k24 FnUnfoldProof.k25 FnUnfoldProof.k26 FnUnfoldProof.k27 FnUnfoldProof.k28 FnUnfoldProof.k29 FnUnfoldProof.k30 FnUnfoldProof.k31
theorem FnUnfoldProof_holds:Rows.FnUnfoldProofSaid:=
 OpenClaim.holds_of_wide 9 Tryz.f9 rfl rfl rfl rfl rfl rfl rfl ⟨rfl,rfl,rfl,rfl,rfl⟩ rfl rfl rfl rfl rfl (by kernel_rfl) Tryz.func9 FnUnfoldProof.closed
  (of_decide_eq_true (by kernel_rfl)) (by unfold Func.isWrapper;first|(rw[if_pos (by decide+kernel)];kernel_rfl)|(rw[if_neg (by decide+kernel)];exact⟨rfl,rfl⟩))
  (fun os started H enc _=>FnUnfoldProof.lifted os started H enc)
#print axioms FnUnfoldProof_holds
end Go.Proofs.YtnogdfionomoaaaGreat
