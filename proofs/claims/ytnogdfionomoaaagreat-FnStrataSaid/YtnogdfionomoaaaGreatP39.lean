/- 'laws.FnStrata' returns true for every input, and each argument reads behind the call as it read before: no condition. -/
import Derived.Test.YtnogdfionomoaaaGreatRows
import Derived.Test.YtnogdfionomoaaaGreatE1
namespace Go.Proofs.YtnogdfionomoaaaGreat
open Go.ChangeShapes Go.WideShapes Go.ChangeAt Go.RowKit Go.Vx
theorem FnStrata.own:ownKnob Tryz.prog.godebug=none:=by kernel_rfl
theorem FnStrata.laidOut:laidOutB Tryz.prog=true:=by kernel_rfl
set_option maxRecDepth 100000 in
theorem FnStrata.lifted(os:Os)(started:os.Started)(H:Type)(enc:TypeId×Value→H):
  ReturnsInHanded {} Tryz.checked os 6 .any (Rows.fnStrataSpec.pre6 enc Tryz.prog Tryz.f6 Rows.fnStrataRow.domain false) (Rows.fnStrataSpec.post enc Tryz.prog Tryz.f6 false true false false):=by
 refine returnsInHanded_of_change (C:=Tryz.checked) FnStrata.own started (by kernel_rfl) Tryz.func6
  (ChangeSpec.witness6 (enc:=enc) (C:=Tryz.checked) false ⟨#[],#[.slice none 0 0],[]⟩ 8 (by kernel_rfl) (by kernel_rfl) (by kernel_rfl) (by kernel_rfl)) ?_
 intro W base args ds gs before hval0 hW hcnd _
 have hval:∀(j:Nat) t v,Tryz.f6.params[j]? =some t→args[j]? =some v→Value.okWide Tryz.prog W .any base t v:=hval0
 have hW':=hW
 obtain⟨p,q,hA0,hV,rfl,hfz,hnd⟩:=hW
 have hA:DataW.TrodAll enc Tryz.prog W 0 (fun _=>true) true Tryz.f6.params.toList args.toList ds p:=hA0
 rw[Tryz.params6]at hA hval
 obtain⟨v0,d0,rfl,rfl,h0⟩:=trodAll_one hA
 obtain⟨base0,n0,cap0,rfl,hr0⟩:=qB Tryz.underlying22 Tryz.underlying5 (oY ti5) (hval 0 _ _ rfl rfl) h0
 refine sG FnStrata.laidOut (fn:=Tryz.f6) (tb:=4) ?_ (by kernel_rfl) vN rfl rfl hW' ⟨Tryz.f6,Tryz.func6,by kernel_rfl,by kernel_rfl⟩ ?_
 ·intro t ht
  have:Tryz.f6.params.toList=[22]:=by rw[Tryz.params6]
  rw[this]at ht
  simp only[List.mem_cons,List.not_mem_nil,or_false]at ht
  subst ht
  exact⟨by kernel_rfl,of_decide_eq_true (by kernel_rfl)⟩
 ·exact qBj hr0
theorem FnStrata.k0:(Rows.fnStrataRow.wf (OpenSpec.ofChange Rows.fnStrataSpec))=true:=by kernel_rfl
theorem FnStrata.k1:(laidOutB Tryz.pinned.checked.prog)=true:=by kernel_rfl
theorem FnStrata.k2:(mapsRowed Tryz.pinned.checked.prog)=true:=by kernel_rfl
theorem FnStrata.k3:(Tryz.f6.params.all (Tryz.pinned.checked.prog.readableRec ·))=true:=by kernel_rfl
theorem FnStrata.k4:(namedTie Tryz.pinned.checked.prog Rows.fnStrataRow.named Rows.fnStrataSpec.vars)=true:=by kernel_rfl
theorem FnStrata.k5:(Rows.fnStrataRow.stops==[])=true:=by kernel_rfl
theorem FnStrata.k6:(Tryz.pinned.checked.prog.stops==[])=true:=by kernel_rfl
theorem FnStrata.k7:(Rows.fnStrataRow.knobs==[])=true:=by kernel_rfl
theorem FnStrata.k8:(Tryz.pinned.checked.prog.stopKnobs==[])=true:=by kernel_rfl
theorem FnStrata.k9:(Rows.fnStrataRow.inPlace==Tryz.pinned.checked.prog.inPlace 6)=true:=by kernel_rfl
theorem FnStrata.k10:(Rows.fnStrataRow.unfollowed==Tryz.pinned.checked.prog.unfollowed 6)=true:=by kernel_rfl
theorem FnStrata.k11:(Rows.fnStrataRow.recurses==Tryz.pinned.checked.prog.recurses 6)=true:=by kernel_rfl
theorem FnStrata.k12:(Rows.fnStrataRow.named==Tryz.pinned.checked.prog.varsNamed 6)=true:=by kernel_rfl
theorem FnStrata.k13:(Rows.fnStrataRow.maps==(Tryz.f6.params.toList++Rows.fnStrataSpec.plain.varTypes Tryz.pinned.checked.prog).any (Tryz.pinned.checked.prog.mapsRec ·))=true:=by kernel_rfl
theorem FnStrata.k14:(Rows.fnStrataRow.ifaces==(Tryz.f6.params.toList++Rows.fnStrataSpec.plain.varTypes Tryz.pinned.checked.prog).any (Tryz.pinned.checked.prog.ifacesRec ·))=true:=by kernel_rfl
theorem FnStrata.k15:(Rows.fnStrataRow.mapsOut==Tryz.pinned.checked.prog.mapsAmong Tryz.f6.resultTypes.toList)=true:=by kernel_rfl
theorem FnStrata.k16:(Rows.fnStrataRow.loops==(Tryz.f6.params.toList++Rows.fnStrataSpec.plain.varTypes Tryz.pinned.checked.prog).any (Tryz.pinned.checked.prog.loopsFrom ·))=true:=by kernel_rfl
theorem FnStrata.k17:(Rows.fnStrataRow.wideKeys==(Tryz.f6.params.toList++Rows.fnStrataSpec.plain.varTypes Tryz.pinned.checked.prog++Tryz.f6.resultTypes.toList).any (Tryz.pinned.checked.prog.wideKeysFrom ·))=true:=by kernel_rfl
theorem FnStrata.k18:(Rows.fnStrataSpec.vars.all (Tryz.pinned.checked.prog.varReadable ·))=true:=by kernel_rfl
theorem FnStrata.k19:(Tryz.f6.resultTypes.all (fun t=>Tryz.pinned.checked.prog.readableRec t&&decide (t<Tryz.pinned.checked.prog.types.size)))=true:=by kernel_rfl
theorem FnStrata.k20:(Rows.fnStrataRow.ifacesOut==Tryz.f6.resultTypes.toList.any (Tryz.pinned.checked.prog.ifacesRec ·))=true:=by kernel_rfl
theorem FnStrata.k21:(Rows.fnStrataRow.loopsOut==Tryz.f6.resultTypes.toList.any (Tryz.pinned.checked.prog.loopsFrom ·))=true:=by kernel_rfl
theorem FnStrata.k22:(Rows.fnStrataRow.plainKeys==Tryz.pinned.checked.prog.plainKeys)=true:=by kernel_rfl
theorem FnStrata.k23:(Rows.fnStrataRow.shortTexts.isNone)=true:=by kernel_rfl
theorem FnStrata.k24:(Tryz.pinned.checked.prog.stopsHeard)=true:=by kernel_rfl
theorem FnStrata.k25:(Tryz.pinned.checked.prog.mayEnter)=true:=by kernel_rfl
theorem FnStrata.k26:(Rows.fnStrataRow.lifted==Tryz.pinned.checked.prog.liftsFinal)=true:=by kernel_rfl
theorem FnStrata.k27:(Tryz.pinned.checked.prog.make==some Rows.fnStrataRow.make)=true:=by kernel_rfl
theorem FnStrata.k28:(Rows.fnStrataRow.kinds==(if Rows.fnStrataRow.domain.isEmpty then []else Tryz.f6.params.toList.map fun t=>match Tryz.pinned.checked.prog.underlying t with|some (.int k)=>some k|_=>none))=true:=by kernel_rfl
theorem FnStrata.k29:(Rows.fnStrataRow.pinned==Rows.fnStrataRow.pinnedBy)=true:=by kernel_rfl
theorem FnStrata.k30:(Rows.fnStrataRow.veiled==(Tryz.f6.params.toList++Rows.fnStrataSpec.plain.varTypes Tryz.pinned.checked.prog++Tryz.f6.resultTypes.toList).any (Tryz.pinned.checked.prog.veiledRec ·))=true:=by kernel_rfl
theorem FnStrata.k31:(Rows.fnStrataRow.veiledFits Tryz.pinned.checked.prog Tryz.f6.params.toList (Tryz.f6.params.toList++Rows.fnStrataSpec.plain.varTypes Tryz.pinned.checked.prog++Tryz.f6.resultTypes.toList))=true:=by kernel_rfl
theorem FnStrata.and2{a b:Bool}(h1:a=true)(h2:b=true):(a&&b)=true:=by rw[h1,h2];rfl
theorem FnStrata.joined{P:Program}{f:FuncId}{fn:Func}{s:ChangeSpec}{c:OpenClaim}(h0:(c.wf (OpenSpec.ofChange s))=true)(h1:(laidOutB P)=true)(h2:(mapsRowed P)=true)(h3:(fn.params.all (P.readableRec ·))=true)(h4:(namedTie P c.named s.vars)=true)(h5:(c.stops==[])=true)(h6:(P.stops==[])=true)(h7:(c.knobs==[])=true)(h8:(P.stopKnobs==[])=true)(h9:(c.inPlace==P.inPlace f)=true)(h10:(c.unfollowed==P.unfollowed f)=true)(h11:(c.recurses==P.recurses f)=true)(h12:(c.named==P.varsNamed f)=true)(h13:(c.maps==(fn.params.toList++s.plain.varTypes P).any (P.mapsRec ·))=true)(h14:(c.ifaces==(fn.params.toList++s.plain.varTypes P).any (P.ifacesRec ·))=true)(h15:(c.mapsOut==P.mapsAmong fn.resultTypes.toList)=true)(h16:(c.loops==(fn.params.toList++s.plain.varTypes P).any (P.loopsFrom ·))=true)(h17:(c.wideKeys==(fn.params.toList++s.plain.varTypes P++fn.resultTypes.toList).any (P.wideKeysFrom ·))=true)(h18:(s.vars.all (P.varReadable ·))=true)(h19:(fn.resultTypes.all (fun t=>P.readableRec t&&decide (t<P.types.size)))=true)(h20:(c.ifacesOut==fn.resultTypes.toList.any (P.ifacesRec ·))=true)(h21:(c.loopsOut==fn.resultTypes.toList.any (P.loopsFrom ·))=true)(h22:(c.plainKeys==P.plainKeys)=true)(h23:(c.shortTexts.isNone)=true)(h24:(P.stopsHeard)=true)(h25:(P.mayEnter)=true)(h26:(c.lifted==P.liftsFinal)=true)(h27:(P.make==some c.make)=true)(h28:(c.kinds==(if c.domain.isEmpty then []else fn.params.toList.map fun t=>match P.underlying t with|some (.int k)=>some k|_=>none))=true)(h29:(c.pinned==c.pinnedBy)=true)(h30:(c.veiled==(fn.params.toList++s.plain.varTypes P++fn.resultTypes.toList).any (P.veiledRec ·))=true)(h31:(c.veiledFits P fn.params.toList (fn.params.toList++s.plain.varTypes P++fn.resultTypes.toList))=true):joinedFacts P f fn s c=true:=by
 unfold joinedFacts
 exact FnStrata.and2 (FnStrata.and2 (FnStrata.and2 (FnStrata.and2 (FnStrata.and2 (FnStrata.and2 (FnStrata.and2 (FnStrata.and2 (FnStrata.and2 (FnStrata.and2 (FnStrata.and2 (FnStrata.and2 (FnStrata.and2 (FnStrata.and2 (FnStrata.and2 (FnStrata.and2 (FnStrata.and2 (FnStrata.and2 (FnStrata.and2 (FnStrata.and2 (FnStrata.and2 (FnStrata.and2 (FnStrata.and2 (FnStrata.and2 (FnStrata.and2 (FnStrata.and2 (FnStrata.and2 (FnStrata.and2 (FnStrata.and2 (FnStrata.and2 (FnStrata.and2 (h0) h1) h2) h3) h4) h5) h6) h7) h8) h9) h10) h11) h12) h13) h14) h15) h16) h17) h18) h19) h20) h21) h22) h23) h24) h25) h26) h27) h28) h29) h30) h31
theorem FnStrata.closed:joinedFacts Tryz.pinned.checked.prog 6 Tryz.f6 Rows.fnStrataSpec Rows.fnStrataRow=true:=FnStrata.joined (P:=Tryz.pinned.checked.prog) (f:=6) (fn:=Tryz.f6) (s:=Rows.fnStrataSpec) (c:=Rows.fnStrataRow) FnStrata.k0 FnStrata.k1 FnStrata.k2 FnStrata.k3 FnStrata.k4 FnStrata.k5 FnStrata.k6 FnStrata.k7 FnStrata.k8 FnStrata.k9 FnStrata.k10 FnStrata.k11 FnStrata.k12 FnStrata.k13 FnStrata.k14 FnStrata.k15 FnStrata.k16 FnStrata.k17 FnStrata.k18 FnStrata.k19 FnStrata.k20 FnStrata.k21 FnStrata.k22 FnStrata.k23 FnStrata.k24 FnStrata.k25 FnStrata.k26 FnStrata.k27 FnStrata.k28 FnStrata.k29 FnStrata.k30 FnStrata.k31
theorem FnStrata_holds:Rows.FnStrataSaid:=
 OpenClaim.holds_of_wide 6 Tryz.f6 rfl rfl rfl rfl rfl rfl rfl ⟨rfl,rfl,rfl,rfl,rfl⟩ rfl rfl rfl rfl rfl (by kernel_rfl) Tryz.func6 FnStrata.closed
  (of_decide_eq_true (by kernel_rfl)) (by unfold Func.isWrapper;first|(rw[if_pos (by decide+kernel)];kernel_rfl)|(rw[if_neg (by decide+kernel)];exact⟨rfl,rfl⟩))
  (fun os started H enc _=>FnStrata.lifted os started H enc)
#print axioms FnStrata_holds
end Go.Proofs.YtnogdfionomoaaaGreat
