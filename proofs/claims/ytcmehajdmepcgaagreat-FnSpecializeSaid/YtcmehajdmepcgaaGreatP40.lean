/- 'laws.FnSpecialize' returns true for every input, and each argument reads behind the call as it read before: no condition. -/
import Derived.Test.YtcmehajdmepcgaaGreatRows
import Derived.Test.YtcmehajdmepcgaaGreatE1
namespace Go.Proofs.YtcmehajdmepcgaaGreat
open Go.ChangeShapes Go.WideShapes Go.ChangeAt Go.RowKit Go.Vx
theorem FnSpecialize.own:ownKnob Tryz.prog.godebug=none:=by kernel_rfl
theorem FnSpecialize.laidOut:laidOutB Tryz.prog=true:=by kernel_rfl
set_option maxRecDepth 100000 in
theorem FnSpecialize.lifted(os:Os)(started:os.Started)(H:Type)(enc:TypeId×Value→H):
  ReturnsInHanded {} Tryz.checked os 3 .any (Rows.fnSpecializeSpec.pre6 enc Tryz.prog Tryz.f3 Rows.fnSpecializeRow.domain false) (Rows.fnSpecializeSpec.post enc Tryz.prog Tryz.f3 false true false false):=by
 refine returnsInHanded_of_change (C:=Tryz.checked) FnSpecialize.own started (by kernel_rfl) Tryz.func3
  (ChangeSpec.witness6 (enc:=enc) (C:=Tryz.checked) false ⟨#[],#[.slice none 0 0],[]⟩ 8 (by kernel_rfl) (by kernel_rfl) (by kernel_rfl) (by kernel_rfl)) ?_
 intro W base args ds gs before hval0 hW hcnd _
 have hval:∀(j:Nat) t v,Tryz.f3.params[j]? =some t→args[j]? =some v→Value.okWide Tryz.prog W .any base t v:=hval0
 have hW':=hW
 obtain⟨p,q,hA0,hV,rfl,hfz,hnd⟩:=hW
 have hA:DataW.TrodAll enc Tryz.prog W 0 (fun _=>true) true Tryz.f3.params.toList args.toList ds p:=hA0
 rw[Tryz.params3]at hA hval
 obtain⟨v0,d0,rfl,rfl,h0⟩:=trodAll_one hA
 obtain⟨base0,n0,cap0,rfl,hr0⟩:=qFq Tryz.underlying22 Tryz.underlying5 (qHl ti5) (hval 0 _ _ rfl rfl) h0
 refine qKs FnSpecialize.laidOut (fn:=Tryz.f3) (tb:=4) ?_ (by kernel_rfl) qOa rfl rfl hW' ⟨Tryz.f3,Tryz.func3,by kernel_rfl,by kernel_rfl⟩ ?_
 ·intro t ht
  have:Tryz.f3.params.toList=[22]:=by rw[Tryz.params3]
  rw[this]at ht
  simp only[List.mem_cons,List.not_mem_nil,or_false]at ht
  subst ht
  exact⟨by kernel_rfl,of_decide_eq_true (by kernel_rfl)⟩
 ·exact pT hr0
theorem FnSpecialize.k0:(Rows.fnSpecializeRow.wf (OpenSpec.ofChange Rows.fnSpecializeSpec))=true:=by kernel_rfl
theorem FnSpecialize.k1:(laidOutB Tryz.pinned.checked.prog)=true:=by kernel_rfl
theorem FnSpecialize.k2:(mapsRowed Tryz.pinned.checked.prog)=true:=by kernel_rfl
theorem FnSpecialize.k3:(Tryz.f3.params.all (Tryz.pinned.checked.prog.readableRec ·))=true:=by kernel_rfl
theorem FnSpecialize.k4:(namedTie Tryz.pinned.checked.prog Rows.fnSpecializeRow.named Rows.fnSpecializeSpec.vars)=true:=by kernel_rfl
theorem FnSpecialize.k5:(Rows.fnSpecializeRow.stops==[])=true:=by kernel_rfl
theorem FnSpecialize.k6:(Tryz.pinned.checked.prog.stops==[])=true:=by kernel_rfl
theorem FnSpecialize.k7:(Rows.fnSpecializeRow.knobs==[])=true:=by kernel_rfl
theorem FnSpecialize.k8:(Tryz.pinned.checked.prog.stopKnobs==[])=true:=by kernel_rfl
theorem FnSpecialize.k9:(Rows.fnSpecializeRow.inPlace==Tryz.pinned.checked.prog.inPlace 3)=true:=by kernel_rfl
theorem FnSpecialize.k10:(Rows.fnSpecializeRow.unfollowed==Tryz.pinned.checked.prog.unfollowed 3)=true:=by kernel_rfl
theorem FnSpecialize.k11:(Rows.fnSpecializeRow.recurses==Tryz.pinned.checked.prog.recurses 3)=true:=by kernel_rfl
theorem FnSpecialize.k12:(Rows.fnSpecializeRow.named==Tryz.pinned.checked.prog.varsNamed 3)=true:=by kernel_rfl
theorem FnSpecialize.k13:(Rows.fnSpecializeRow.maps==(Tryz.f3.params.toList++Rows.fnSpecializeSpec.plain.varTypes Tryz.pinned.checked.prog).any (Tryz.pinned.checked.prog.mapsRec ·))=true:=by kernel_rfl
theorem FnSpecialize.k14:(Rows.fnSpecializeRow.ifaces==(Tryz.f3.params.toList++Rows.fnSpecializeSpec.plain.varTypes Tryz.pinned.checked.prog).any (Tryz.pinned.checked.prog.ifacesRec ·))=true:=by kernel_rfl
theorem FnSpecialize.k15:(Rows.fnSpecializeRow.mapsOut==Tryz.pinned.checked.prog.mapsAmong Tryz.f3.resultTypes.toList)=true:=by kernel_rfl
theorem FnSpecialize.k16:(Rows.fnSpecializeRow.loops==(Tryz.f3.params.toList++Rows.fnSpecializeSpec.plain.varTypes Tryz.pinned.checked.prog).any (Tryz.pinned.checked.prog.loopsFrom ·))=true:=by kernel_rfl
theorem FnSpecialize.k17:(Rows.fnSpecializeRow.wideKeys==(Tryz.f3.params.toList++Rows.fnSpecializeSpec.plain.varTypes Tryz.pinned.checked.prog++Tryz.f3.resultTypes.toList).any (Tryz.pinned.checked.prog.wideKeysFrom ·))=true:=by kernel_rfl
theorem FnSpecialize.k18:(Rows.fnSpecializeSpec.vars.all (Tryz.pinned.checked.prog.varReadable ·))=true:=by kernel_rfl
theorem FnSpecialize.k19:(Tryz.f3.resultTypes.all (fun t=>Tryz.pinned.checked.prog.readableRec t&&decide (t<Tryz.pinned.checked.prog.types.size)))=true:=by kernel_rfl
theorem FnSpecialize.k20:(Rows.fnSpecializeRow.ifacesOut==Tryz.f3.resultTypes.toList.any (Tryz.pinned.checked.prog.ifacesRec ·))=true:=by kernel_rfl
theorem FnSpecialize.k21:(Rows.fnSpecializeRow.loopsOut==Tryz.f3.resultTypes.toList.any (Tryz.pinned.checked.prog.loopsFrom ·))=true:=by kernel_rfl
theorem FnSpecialize.k22:(Rows.fnSpecializeRow.plainKeys==Tryz.pinned.checked.prog.plainKeys)=true:=by kernel_rfl
theorem FnSpecialize.k23:(Rows.fnSpecializeRow.shortTexts.isNone)=true:=by kernel_rfl
theorem FnSpecialize.k24:(Tryz.pinned.checked.prog.stopsHeard)=true:=by kernel_rfl
theorem FnSpecialize.k25:(Tryz.pinned.checked.prog.mayEnter)=true:=by kernel_rfl
theorem FnSpecialize.k26:(Rows.fnSpecializeRow.lifted==Tryz.pinned.checked.prog.liftsFinal)=true:=by kernel_rfl
theorem FnSpecialize.k27:(Tryz.pinned.checked.prog.make==some Rows.fnSpecializeRow.make)=true:=by kernel_rfl
theorem FnSpecialize.k28:(Rows.fnSpecializeRow.kinds==(if Rows.fnSpecializeRow.domain.isEmpty then []else Tryz.f3.params.toList.map fun t=>match Tryz.pinned.checked.prog.underlying t with|some (.int k)=>some k|_=>none))=true:=by kernel_rfl
theorem FnSpecialize.k29:(Rows.fnSpecializeRow.pinned==Rows.fnSpecializeRow.pinnedBy)=true:=by kernel_rfl
theorem FnSpecialize.k30:(Rows.fnSpecializeRow.veiled==(Tryz.f3.params.toList++Rows.fnSpecializeSpec.plain.varTypes Tryz.pinned.checked.prog++Tryz.f3.resultTypes.toList).any (Tryz.pinned.checked.prog.veiledRec ·))=true:=by kernel_rfl
theorem FnSpecialize.k31:(Rows.fnSpecializeRow.veiledFits Tryz.pinned.checked.prog Tryz.f3.params.toList (Tryz.f3.params.toList++Rows.fnSpecializeSpec.plain.varTypes Tryz.pinned.checked.prog++Tryz.f3.resultTypes.toList))=true:=by kernel_rfl
theorem FnSpecialize.and2{a b:Bool}(h1:a=true)(h2:b=true):(a&&b)=true:=by rw[h1,h2];rfl
theorem FnSpecialize.joined{P:Program}{f:FuncId}{fn:Func}{s:ChangeSpec}{c:OpenClaim}(h0:(c.wf (OpenSpec.ofChange s))=true)(h1:(laidOutB P)=true)(h2:(mapsRowed P)=true)(h3:(fn.params.all (P.readableRec ·))=true)(h4:(namedTie P c.named s.vars)=true)(h5:(c.stops==[])=true)(h6:(P.stops==[])=true)(h7:(c.knobs==[])=true)(h8:(P.stopKnobs==[])=true)(h9:(c.inPlace==P.inPlace f)=true)(h10:(c.unfollowed==P.unfollowed f)=true)(h11:(c.recurses==P.recurses f)=true)(h12:(c.named==P.varsNamed f)=true)(h13:(c.maps==(fn.params.toList++s.plain.varTypes P).any (P.mapsRec ·))=true)(h14:(c.ifaces==(fn.params.toList++s.plain.varTypes P).any (P.ifacesRec ·))=true)(h15:(c.mapsOut==P.mapsAmong fn.resultTypes.toList)=true)(h16:(c.loops==(fn.params.toList++s.plain.varTypes P).any (P.loopsFrom ·))=true)(h17:(c.wideKeys==(fn.params.toList++s.plain.varTypes P++fn.resultTypes.toList).any (P.wideKeysFrom ·))=true)(h18:(s.vars.all (P.varReadable ·))=true)(h19:(fn.resultTypes.all (fun t=>P.readableRec t&&decide (t<P.types.size)))=true)(h20:(c.ifacesOut==fn.resultTypes.toList.any (P.ifacesRec ·))=true)(h21:(c.loopsOut==fn.resultTypes.toList.any (P.loopsFrom ·))=true)(h22:(c.plainKeys==P.plainKeys)=true)(h23:(c.shortTexts.isNone)=true)(h24:(P.stopsHeard)=true)(h25:(P.mayEnter)=true)(h26:(c.lifted==P.liftsFinal)=true)(h27:(P.make==some c.make)=true)(h28:(c.kinds==(if c.domain.isEmpty then []else fn.params.toList.map fun t=>match P.underlying t with|some (.int k)=>some k|_=>none))=true)(h29:(c.pinned==c.pinnedBy)=true)(h30:(c.veiled==(fn.params.toList++s.plain.varTypes P++fn.resultTypes.toList).any (P.veiledRec ·))=true)(h31:(c.veiledFits P fn.params.toList (fn.params.toList++s.plain.varTypes P++fn.resultTypes.toList))=true):joinedFacts P f fn s c=true:=by
 unfold joinedFacts
 exact FnSpecialize.and2 (FnSpecialize.and2 (FnSpecialize.and2 (FnSpecialize.and2 (FnSpecialize.and2 (FnSpecialize.and2 (FnSpecialize.and2 (FnSpecialize.and2 (FnSpecialize.and2 (FnSpecialize.and2 (FnSpecialize.and2 (FnSpecialize.and2 (FnSpecialize.and2 (FnSpecialize.and2 (FnSpecialize.and2 (FnSpecialize.and2 (FnSpecialize.and2 (FnSpecialize.and2 (FnSpecialize.and2 (FnSpecialize.and2 (FnSpecialize.and2 (FnSpecialize.and2 (FnSpecialize.and2 (FnSpecialize.and2 (FnSpecialize.and2 (FnSpecialize.and2 (FnSpecialize.and2 (FnSpecialize.and2 (FnSpecialize.and2 (FnSpecialize.and2 (FnSpecialize.and2 (h0) h1) h2) h3) h4) h5) h6) h7) h8) h9) h10) h11) h12) h13) h14) h15) h16) h17) h18) h19) h20) h21) h22) h23) h24) h25) h26) h27) h28) h29) h30) h31
theorem FnSpecialize.closed:joinedFacts Tryz.pinned.checked.prog 3 Tryz.f3 Rows.fnSpecializeSpec Rows.fnSpecializeRow=true:=FnSpecialize.joined (P:=Tryz.pinned.checked.prog) (f:=3) (fn:=Tryz.f3) (s:=Rows.fnSpecializeSpec) (c:=Rows.fnSpecializeRow) FnSpecialize.k0 FnSpecialize.k1 FnSpecialize.k2 FnSpecialize.k3 FnSpecialize.k4 FnSpecialize.k5 FnSpecialize.k6 FnSpecialize.k7 FnSpecialize.k8 FnSpecialize.k9 FnSpecialize.k10 FnSpecialize.k11 FnSpecialize.k12 FnSpecialize.k13 FnSpecialize.k14 FnSpecialize.k15 FnSpecialize.k16 FnSpecialize.k17 FnSpecialize.k18 FnSpecialize.k19 FnSpecialize.k20 FnSpecialize.k21 FnSpecialize.k22 FnSpecialize.k23 FnSpecialize.k24 FnSpecialize.k25 FnSpecialize.k26 FnSpecialize.k27 FnSpecialize.k28 FnSpecialize.k29 FnSpecialize.k30 FnSpecialize.k31
theorem FnSpecialize_holds:Rows.FnSpecializeSaid:=
 OpenClaim.holds_of_wide 3 Tryz.f3 rfl rfl rfl rfl rfl rfl rfl ⟨rfl,rfl,rfl,rfl,rfl⟩ rfl rfl rfl rfl rfl (by kernel_rfl) Tryz.func3 FnSpecialize.closed
  (of_decide_eq_true (by kernel_rfl)) (by unfold Func.isWrapper;first|(rw[if_pos (by decide+kernel)];kernel_rfl)|(rw[if_neg (by decide+kernel)];exact⟨rfl,rfl⟩))
  (fun os started H enc _=>FnSpecialize.lifted os started H enc)
#print axioms FnSpecialize_holds
end Go.Proofs.YtcmehajdmepcgaaGreat
