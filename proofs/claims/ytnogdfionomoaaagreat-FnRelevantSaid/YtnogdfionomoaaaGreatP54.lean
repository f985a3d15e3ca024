/- 'laws.FnRelevant' returns true for every input, and each argument reads behind the call as it read before: no condition. -/
import Derived.Test.YtnogdfionomoaaaGreatRows
import Derived.Test.YtnogdfionomoaaaGreatE4
namespace Go.Proofs.YtnogdfionomoaaaGreat
open Go.ChangeShapes Go.WideShapes Go.ChangeAt Go.RowKit Go.Vx
theorem FnRelevant.own:ownKnob Tryz.prog.godebug=none:=by kernel_rfl
theorem FnRelevant.laidOut:laidOutB Tryz.prog=true:=by kernel_rfl
set_option maxRecDepth 100000 in
theorem FnRelevant.lifted(os:Os)(started:os.Started)(H:Type)(enc:TypeId×Value→H):
  ReturnsInHanded {} Tryz.checked os 7 .any (Rows.fnRelevantSpec.pre6 enc Tryz.prog Tryz.f7 Rows.fnRelevantRow.domain false) (Rows.fnRelevantSpec.post enc Tryz.prog Tryz.f7 false true false false):=by
 refine returnsInHanded_of_change (C:=Tryz.checked) FnRelevant.own started (by kernel_rfl) Tryz.func7
  (ChangeSpec.witness6 (enc:=enc) (C:=Tryz.checked) false ⟨#[],#[.slice none 0 0],[]⟩ 8 (by kernel_rfl) (by kernel_rfl) (by kernel_rfl) (by kernel_rfl)) ?_
 intro W base args ds gs before hval0 hW hcnd _
 have hval:∀(j:Nat) t v,Tryz.f7.params[j]? =some t→args[j]? =some v→Value.okWide Tryz.prog W .any base t v:=hval0
 have hW':=hW
 obtain⟨p,q,hA0,hV,rfl,hfz,hnd⟩:=hW
 have hA:DataW.TrodAll enc Tryz.prog W 0 (fun _=>true) true Tryz.f7.params.toList args.toList ds p:=hA0
 rw[Tryz.params7]at hA hval
 obtain⟨v0,d0,rfl,rfl,h0⟩:=trodAll_one hA
 obtain⟨base0,n0,cap0,rfl,hr0⟩:=qEj Tryz.underlying22 Tryz.underlying5 (qDx ti5) (hval 0 _ _ rfl rfl) h0
 refine qGx FnRelevant.laidOut (fn:=Tryz.f7) (tb:=4) ?_ (by kernel_rfl) qLc rfl rfl hW' ⟨Tryz.f7,Tryz.func7,by kernel_rfl,by kernel_rfl⟩ ?_
 ·intro t ht
  have:Tryz.f7.params.toList=[22]:=by rw[Tryz.params7]
  rw[this]at ht
  simp only[List.mem_cons,List.not_mem_nil,or_false]at ht
  subst ht
  exact⟨by kernel_rfl,of_decide_eq_true (by kernel_rfl)⟩
 ·exact qIo hr0
theorem FnRelevant.k0:(Rows.fnRelevantRow.wf (OpenSpec.ofChange Rows.fnRelevantSpec))=true:=by kernel_rfl
theorem FnRelevant.k1:(laidOutB Tryz.pinned.checked.prog)=true:=by kernel_rfl
theorem FnRelevant.k2:(mapsRowed Tryz.pinned.checked.prog)=true:=by kernel_rfl
theorem FnRelevant.k3:(Tryz.f7.params.all (Tryz.pinned.checked.prog.readableRec ·))=true:=by kernel_rfl
theorem FnRelevant.k4:(namedTie Tryz.pinned.checked.prog Rows.fnRelevantRow.named Rows.fnRelevantSpec.vars)=true:=by kernel_rfl
theorem FnRelevant.k5:(Rows.fnRelevantRow.stops==[])=true:=by kernel_rfl
theorem FnRelevant.k6:(Tryz.pinned.checked.prog.stops==[])=true:=by kernel_rfl
theorem FnRelevant.k7:(Rows.fnRelevantRow.knobs==[])=true:=by kernel_rfl
theorem FnRelevant.k8:(Tryz.pinned.checked.prog.stopKnobs==[])=true:=by kernel_rfl
theorem FnRelevant.k9:(Rows.fnRelevantRow.inPlace==Tryz.pinned.checked.prog.inPlace 7)=true:=by kernel_rfl
theorem FnRelevant.k10:(Rows.fnRelevantRow.unfollowed==Tryz.pinned.checked.prog.unfollowed 7)=true:=by kernel_rfl
theorem FnRelevant.k11:(Rows.fnRelevantRow.recurses==Tryz.pinned.checked.prog.recurses 7)=true:=by kernel_rfl
theorem FnRelevant.k12:(Rows.fnRelevantRow.named==Tryz.pinned.checked.prog.varsNamed 7)=true:=by kernel_rfl
theorem FnRelevant.k13:(Rows.fnRelevantRow.maps==(Tryz.f7.params.toList++Rows.fnRelevantSpec.plain.varTypes Tryz.pinned.checked.prog).any (Tryz.pinned.checked.prog.mapsRec ·))=true:=by kernel_rfl
theorem FnRelevant.k14:(Rows.fnRelevantRow.ifaces==(Tryz.f7.params.toList++Rows.fnRelevantSpec.plain.varTypes Tryz.pinned.checked.prog).any (Tryz.pinned.checked.prog.ifacesRec ·))=true:=by kernel_rfl
theorem FnRelevant.k15:(Rows.fnRelevantRow.mapsOut==Tryz.pinned.checked.prog.mapsAmong Tryz.f7.resultTypes.toList)=true:=by kernel_rfl
theorem FnRelevant.k16:(Rows.fnRelevantRow.loops==(Tryz.f7.params.toList++Rows.fnRelevantSpec.plain.varTypes Tryz.pinned.checked.prog).any (Tryz.pinned.checked.prog.loopsFrom ·))=true:=by kernel_rfl
theorem FnRelevant.k17:(Rows.fnRelevantRow.wideKeys==(Tryz.f7.params.toList++Rows.fnRelevantSpec.plain.varTypes Tryz.pinned.checked.prog++Tryz.f7.resultTypes.toList).any (Tryz.pinned.checked.prog.wideKeysFrom ·))=true:=by kernel_rfl
theorem FnRelevant.k18:(Rows.fnRelevantSpec.vars.all (Tryz.pinned.checked.prog.varReadable ·))=true:=by kernel_rfl
theorem FnRelevant.k19:(Tryz.f7.resultTypes.all (fun t=>Tryz.pinned.checked.prog.readableRec t&&decide (t<Tryz.pinned.checked.prog.types.size)))=true:=by kernel_rfl
theorem FnRelevant.k20:(Rows.fnRelevantRow.ifacesOut==Tryz.f7.resultTypes.toList.any (Tryz.pinned.checked.prog.ifacesRec ·))=true:=by kernel_rfl
theorem FnRelevant.k21:(Rows.fnRelevantRow.loopsOut==Tryz.f7.resultTypes.toList.any (Tryz.pinned.checked.prog.loopsFrom ·))=true:=by kernel_rfl
theorem FnRelevant.k22:(Rows.fnRelevantRow.plainKeys==Tryz.pinned.checked.prog.plainKeys)=true:=by kernel_rfl
theorem FnRelevant.k23:(Rows.fnRelevantRow.shortTexts.isNone)=true:=by kernel_rfl
theorem FnRelevant.k24:(Tryz.pinned.checked.prog.stopsHeard)=true:=by kernel_rfl
theorem FnRelevant.k25:(Tryz.pinned.checked.prog.mayEnter)=true:=by kernel_rfl
theorem FnRelevant.k26:(Rows.fnRelevantRow.lifted==Tryz.pinned.checked.prog.liftsFinal)=true:=by kernel_rfl
theorem FnRelevant.k27:(Tryz.pinned.checked.prog.make==some Rows.fnRelevantRow.make)=true:=by kernel_rfl
theorem FnRelevant.k28:(Rows.fnRelevantRow.kinds==(if Rows.fnRelevantRow.domain.isEmpty then []else Tryz.f7.params.toList.map fun t=>match Tryz.pinned.checked.prog.underlying t with|some (.int k)=>some k|_=>none))=true:=by kernel_rfl
theorem FnRelevant.k29:(Rows.fnRelevantRow.pinned==Rows.fnRelevantRow.pinnedBy)=true:=by kernel_rfl
theorem FnRelevant.k30:(Rows.fnRelevantRow.veiled==(Tryz.f7.params.toList++Rows.fnRelevantSpec.plain.varTypes Tryz.pinned.checked.prog++Tryz.f7.resultTypes.toList).any (Tryz.pinned.checked.prog.veiledRec ·))=true:=by kernel_rfl
theorem FnRelevant.k31:(Rows.fnRelevantRow.veiledFits Tryz.pinned.checked.prog Tryz.f7.params.toList (Tryz.f7.params.toList++Rows.fnRelevantSpec.plain.varTypes Tryz.pinned.checked.prog++Tryz.f7.resultTypes.toList))=true:=by kernel_rfl
theorem FnRelevant.and2{a b:Bool}(h1:a=true)(h2:b=true):(a&&b)=true:=by rw[h1,h2];rfl
theorem FnRelevant.joined{P:Program}{f:FuncId}{fn:Func}{s:ChangeSpec}{c:OpenClaim}(h0:(c.wf (OpenSpec.ofChange s))=true)(h1:(laidOutB P)=true)(h2:(mapsRowed P)=true)(h3:(fn.params.all (P.readableRec ·))=true)(h4:(namedTie P c.named s.vars)=true)(h5:(c.stops==[])=true)(h6:(P.stops==[])=true)(h7:(c.knobs==[])=true)(h8:(P.stopKnobs==[])=true)(h9:(c.inPlace==P.inPlace f)=true)(h10:(c.unfollowed==P.unfollowed f)=true)(h11:(c.recurses==P.recurses f)=true)(h12:(c.named==P.varsNamed f)=true)(h13:(c.maps==(fn.params.toList++s.plain.varTypes P).any (P.mapsRec ·))=true)(h14:(c.ifaces==(fn.params.toList++s.plain.varTypes P).any (P.ifacesRec ·))=true)(h15:(c.mapsOut==P.mapsAmong fn.resultTypes.toList)=true)(h16:(c.loops==(fn.params.toList++s.plain.varTypes P).any (P.loopsFrom ·))=true)(h17:(c.wideKeys==(fn.params.toList++s.plain.varTypes P++fn.resultTypes.toList).any (P.wideKeysFrom ·))=true)(h18:(s.vars.all (P.varReadable ·))=true)(h19:(fn.resultTypes.all (fun t=>P.readableRec t&&decide (t<P.types.size)))=true)(h20:(c.ifacesOut==fn.resultTypes.toList.any (P.ifacesRec ·))=true)(h21:(c.loopsOut==fn.resultTypes.toList.any (P.loopsFrom ·))=true)(h22:(c.plainKeys==P.plainKeys)=true)(h23:(c.shortTexts.isNone)=true)(h24:(P.stopsHeard)=true)(h25:(P.mayEnter)=true)(h26:(c.lifted==P.liftsFinal)=true)(h27:(P.make==some c.make)=true)(h28:(c.kinds==(if c.domain.isEmpty then []else fn.params.toList.map fun t=>match P.underlying t with|some (.int k)=>some k|_=>none))=true)(h29:(c.pinned==c.pinnedBy)=true)(h30:(c.veiled==(fn.params.toList++s.plain.varTypes P++fn.resultTypes.toList).any (P.veiledRec ·))=true)(h31:(c.veiledFits P fn.params.toList (fn.params.toList++s.plain.varTypes P++fn.resultTypes.toList))=true):joinedFacts P f fn s c=true:=by
 unfold joinedFacts
 exact FnRelevant.and2 (FnRelevant.and2 (FnRelevant.and2 (FnRelevant.and2 (FnRelevant.and2 (FnRelevant.and2 (FnRelevant.and2 (FnRelevant.and2 (FnRelevant.and2 (FnRelevant.and2 (FnRelevant.and2 (FnRelevant.and2 (FnRelevant.and2 (FnRelevant.and2 (FnRelevant.and2 (FnRelevant.and2 (FnRelevant.and2 (FnRelevant.and2 (FnRelevant.and2 (FnRelevant.and2 (FnRelevant.and2 (FnRelevant.and2 (FnRelevant.and2 (FnRelevant.and2 (FnRelevant.and2 (FnRelevant.and2 (FnRelevant.and2 (FnRelevant.and2 (FnRelevant.and2 (FnRelevant.and2 (FnRelevant.and2 (h0) h1) h2) h3) h4) h5) h6) h7) h8) h9) h10) h11) h12) h13) h14) h15) h16) h17) h18) h19) h20) h21) h22) h23) h24) h25) h26) h27) h28) h29) h30) h31
theorem FnRelevant.closed:joinedFacts Tryz.pinned.checked.prog 7 Tryz.f7 Rows.fnRelevantSpec Rows.fnRelevantRow=true:=FnRelevant.joined (P:=Tryz.pinned.checked.prog) (f:=7) (fn:=Tryz.f7) (s:=Rows.fnRelevantSpec) (c:=Rows.fnRelevantRow) FnRelevant.k0 FnRelevant.k1 FnRelevant.k2 FnRelevant.k3 FnRelevant.k4 FnRelevant.k5 FnRelevant.k6 FnRelevant.k7 FnRelevant.k8 FnRelevant.k9 FnRelevant.k10 FnRelevant.k11 FnRelevant.k12 FnRelevant.k13 FnRelevant.k14 FnRelevant.k15 FnRelevant.k16 FnRelevant.k17 FnRelevant.k18 FnRelevant.k19 FnRelevant.k20 FnRelevant.k21 FnRelevant.k22 FnRelevant.k23 FnRelevant.k24 FnRelevant.k25 FnRelevant.k26 FnRelevant.k27 FnRelevant.k28 FnRelevant.k29 FnRelevant.k30 FnRelevant.k31
theorem FnRelevant_holds:Rows.FnRelevantSaid:=
 OpenClaim.holds_of_wide 7 Tryz.f7 rfl rfl rfl rfl rfl rfl rfl ⟨rfl,rfl,rfl,rfl,rfl⟩ rfl rfl rfl rfl rfl (by kernel_rfl) Tryz.func7 FnRelevant.closed
  (of_decide_eq_true (by kernel_rfl)) (by unfold Func.isWrapper;first|(rw[if_pos (by decide+kernel)];kernel_rfl)|(rw[if_neg (by decide+kernel)];exact⟨rfl,rfl⟩))
  (fun os started H enc _=>FnRelevant.lifted os started H enc)
#print axioms FnRelevant_holds
end Go.Proofs.YtnogdfionomoaaaGreat
