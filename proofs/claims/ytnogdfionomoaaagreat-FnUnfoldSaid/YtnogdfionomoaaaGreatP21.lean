/- 'laws.FnUnfold' returns true for every input, and each argument reads behind the call as it read before: no condition. -/
import Derived.Test.YtnogdfionomoaaaGreatRows
import Derived.Test.YtnogdfionomoaaaGreatE4
namespace Go.Proofs.YtnogdfionomoaaaGreat
open Go.ChangeShapes Go.WideShapes Go.ChangeAt Go.RowKit Go.Vx
theorem FnUnfold.own:ownKnob Tryz.prog.godebug=none:=by kernel_rfl
theorem FnUnfold.laidOut:laidOutB Tryz.prog=true:=by kernel_rfl
set_option maxRecDepth 100000 in
theorem FnUnfold.lifted(os:Os)(started:os.Started)(H:Type)(enc:TypeId×Value→H):
  ReturnsInHanded {} Tryz.checked os 8 .any (Rows.fnUnfoldSpec.pre6 enc Tryz.prog Tryz.f8 Rows.fnUnfoldRow.domain false) (Rows.fnUnfoldSpec.post enc Tryz.prog Tryz.f8 false true false false):=by
 refine returnsInHanded_of_change (C:=Tryz.checked) FnUnfold.own started (by kernel_rfl) Tryz.func8
  (ChangeSpec.witness6 (enc:=enc) (C:=Tryz.checked) false ⟨#[],#[.slice none 0 0],[]⟩ 8 (by kernel_rfl) (by kernel_rfl) (by kernel_rfl) (by kernel_rfl)) ?_
 intro W base args ds gs before hval0 hW hcnd _
 have hval:∀(j:Nat) t v,Tryz.f8.params[j]? =some t→args[j]? =some v→Value.okWide Tryz.prog W .any base t v:=hval0
 have hW':=hW
 obtain⟨p,q,hA0,hV,rfl,hfz,hnd⟩:=hW
 have hA:DataW.TrodAll enc Tryz.prog W 0 (fun _=>true) true Tryz.f8.params.toList args.toList ds p:=hA0
 rw[Tryz.params8]at hA hval
 obtain⟨v0,d0,rfl,rfl,h0⟩:=trodAll_one hA
 obtain⟨base0,n0,cap0,rfl,hr0⟩:=qEj Tryz.underlying22 Tryz.underlying5 (qDx ti5) (hval 0 _ _ rfl rfl) h0
 refine qGx FnUnfold.laidOut (fn:=Tryz.f8) (tb:=4) ?_ (by kernel_rfl) qLc rfl rfl hW' ⟨Tryz.f8,Tryz.func8,by kernel_rfl,by kernel_rfl⟩ ?_
 ·intro t ht
  have:Tryz.f8.params.toList=[22]:=by rw[Tryz.params8]
  rw[this]at ht
  simp only[List.mem_cons,List.not_mem_nil,or_false]at ht
  subst ht
  exact⟨by kernel_rfl,of_decide_eq_true (by kernel_rfl)⟩
 ·exact qLj hr0
theorem FnUnfold.k0:(Rows.fnUnfoldRow.wf (OpenSpec.ofChange Rows.fnUnfoldSpec))=true:=by kernel_rfl
theorem FnUnfold.k1:(laidOutB Tryz.pinned.checked.prog)=true:=by kernel_rfl
theorem FnUnfold.k2:(mapsRowed Tryz.pinned.checked.prog)=true:=by kernel_rfl
theorem FnUnfold.k3:(Tryz.f8.params.all (Tryz.pinned.checked.prog.readableRec ·))=true:=by kernel_rfl
theorem FnUnfold.k4:(namedTie Tryz.pinned.checked.prog Rows.fnUnfoldRow.named Rows.fnUnfoldSpec.vars)=true:=by kernel_rfl
theorem FnUnfold.k5:(Rows.fnUnfoldRow.stops==[])=true:=by kernel_rfl
theorem FnUnfold.k6:(Tryz.pinned.checked.prog.stops==[])=true:=by kernel_rfl
theorem FnUnfold.k7:(Rows.fnUnfoldRow.knobs==[])=true:=by kernel_rfl
theorem FnUnfold.k8:(Tryz.pinned.checked.prog.stopKnobs==[])=true:=by kernel_rfl
theorem FnUnfold.k9:(Rows.fnUnfoldRow.inPlace==Tryz.pinned.checked.prog.inPlace 8)=true:=by kernel_rfl
theorem FnUnfold.k10:(Rows.fnUnfoldRow.unfollowed==Tryz.pinned.checked.prog.unfollowed 8)=true:=by kernel_rfl
theorem FnUnfold.k11:(Rows.fnUnfoldRow.recurses==Tryz.pinned.checked.prog.recurses 8)=true:=by kernel_rfl
theorem FnUnfold.k12:(Rows.fnUnfoldRow.named==Tryz.pinned.checked.prog.varsNamed 8)=true:=by kernel_rfl
theorem FnUnfold.k13:(Rows.fnUnfoldRow.maps==(Tryz.f8.params.toList++Rows.fnUnfoldSpec.plain.varTypes Tryz.pinned.checked.prog).any (Tryz.pinned.checked.prog.mapsRec ·))=true:=by kernel_rfl
theorem FnUnfold.k14:(Rows.fnUnfoldRow.ifaces==(Tryz.f8.params.toList++Rows.fnUnfoldSpec.plain.varTypes Tryz.pinned.checked.prog).any (Tryz.pinned.checked.prog.ifacesRec ·))=true:=by kernel_rfl
theorem FnUnfold.k15:(Rows.fnUnfoldRow.mapsOut==Tryz.pinned.checked.prog.mapsAmong Tryz.f8.resultTypes.toList)=true:=by kernel_rfl
theorem FnUnfold.k16:(Rows.fnUnfoldRow.loops==(Tryz.f8.params.toList++Rows.fnUnfoldSpec.plain.varTypes Tryz.pinned.checked.prog).any (Tryz.pinned.checked.prog.loopsFrom ·))=true:=by kernel_rfl
theorem FnUnfold.k17:(Rows.fnUnfoldRow.wideKeys==(Tryz.f8.params.toList++Rows.fnUnfoldSpec.plain.varTypes Tryz.pinned.checked.prog++Tryz.f8.resultTypes.toList).any (Tryz.pinned.checked.prog.wideKeysFrom ·))=true:=by kernel_rfl
theorem FnUnfold.k18:(Rows.fnUnfoldSpec.vars.all (Tryz.pinned.checked.prog.varReadable ·))=true:=by kernel_rfl
theorem FnUnfold.k19:(Tryz.f8.resultTypes.all (fun t=>Tryz.pinned.checked.prog.readableRec t&&decide (t<Tryz.pinned.checked.prog.types.size)))=true:=by kernel_rfl
theorem FnUnfold.k20:(Rows.fnUnfoldRow.ifacesOut==Tryz.f8.resultTypes.toList.any (Tryz.pinned.checked.prog.ifacesRec ·))=true:=by kernel_rfl
theorem FnUnfold.k21:(Rows.fnUnfoldRow.loopsOut==Tryz.f8.resultTypes.toList.any (Tryz.pinned.checked.prog.loopsFrom ·))=true:=by kernel_rfl
theorem FnUnfold.k22:(Rows.fnUnfoldRow.plainKeys==Tryz.pinned.checked.prog.plainKeys)=true:=by kernel_rfl
theorem FnUnfold.k23:(Rows.fnUnfoldRow.shortTexts.isNone)=true:=by kernel_rfl
theorem FnUnfold.k24:(Tryz.pinned.checked.prog.stopsHeard)=true:=by kernel_rfl
theorem FnUnfold.k25:(Tryz.pinned.checked.prog.mayEnter)=true:=by kernel_rfl
theorem FnUnfold.k26:(Rows.fnUnfoldRow.lifted==Tryz.pinned.checked.prog.liftsFinal)=true:=by kernel_rfl
theorem FnUnfold.k27:(Tryz.pinned.checked.prog.make==some Rows.fnUnfoldRow.make)=true:=by kernel_rfl
theorem FnUnfold.k28:(Rows.fnUnfoldRow.kinds==(if Rows.fnUnfoldRow.domain.isEmpty then []else Tryz.f8.params.toList.map fun t=>match Tryz.pinned.checked.prog.underlying t with|some (.int k)=>some k|_=>none))=true:=by kernel_rfl
theorem FnUnfold.k29:(Rows.fnUnfoldRow.pinned==Rows.fnUnfoldRow.pinnedBy)=true:=by kernel_rfl
theorem FnUnfold.k30:(Rows.fnUnfoldRow.veiled==(Tryz.f8.params.toList++Rows.fnUnfoldSpec.plain.varTypes Tryz.pinned.checked.prog++Tryz.f8.resultTypes.toList).any (Tryz.pinned.checked.prog.veiledRec ·))=true:=by kernel_rfl
theorem FnUnfold.k31:(Rows.fnUnfoldRow.veiledFits Tryz.pinned.checked.prog Tryz.f8.params.toList (Tryz.f8.params.toList++Rows.fnUnfoldSpec.plain.varTypes Tryz.pinned.checked.prog++Tryz.f8.resultTypes.toList))=true:=by kernel_rfl
theorem FnUnfold.and2{a b:Bool}(h1:a=true)(h2:b=true):(a&&b)=true:=by rw[h1,h2];rfl
theorem FnUnfold.joined{P:Program}{f:FuncId}{fn:Func}{s:ChangeSpec}{c:OpenClaim}(h0:(c.wf (OpenSpec.ofChange s))=true)(h1:(laidOutB P)=true)(h2:(mapsRowed P)=true)(h3:(fn.params.all (P.readableRec ·))=true)(h4:(namedTie P c.named s.vars)=true)(h5:(c.stops==[])=true)(h6:(P.stops==[])=true)(h7:(c.knobs==[])=true)(h8:(P.stopKnobs==[])=true)(h9:(c.inPlace==P.inPlace f)=true)(h10:(c.unfollowed==P.unfollowed f)=true)(h11:(c.recurses==P.recurses f)=true)(h12:(c.named==P.varsNamed f)=true)(h13:(c.maps==(fn.params.toList++s.plain.varTypes P).any (P.mapsRec ·))=true)(h14:(c.ifaces==(fn.params.toList++s.plain.varTypes P).any (P.ifacesRec ·))=true)(h15:(c.mapsOut==P.mapsAmong fn.resultTypes.toList)=true)(h16:(c.loops==(fn.params.toList++s.plain.varTypes P).any (P.loopsFrom ·))=true)(h17:(c.wideKeys==(fn.params.toList++s.plain.varTypes P++fn.resultTypes.toList).any (P.wideKeysFrom ·))=true)(h18:(s.vars.all (P.varReadable ·))=true)(h19:(fn.resultTypes.all (fun t=>P.readableRec t&&decide (t<P.types.size)))=true)(h20:(c.ifacesOut==fn.resultTypes.toList.any (P.ifacesRec ·))=true)(h21:(c.loopsOut==fn.resultTypes.toList.any (P.loopsFrom ·))=true)(h22:(c.plainKeys==P.plainKeys)=true)(h23:(c.shortTexts.isNone)=true)(h24:(P.stopsHeard)=true)(h25:(P.mayEnter)=true)(h26:(c.lifted==P.liftsFinal)=true)(h27:(P.make==some c.make)=true)(h28:(c.kinds==(if c.domain.isEmpty then []else fn.params.toList.map fun t=>match P.underlying t with|some (.int k)=>some k|_=>none))=true)(h29:(c.pinned==c.pinnedBy)=true)(h30:(c.veiled==(fn.params.toList++s.plain.varTypes P++fn.resultTypes.toList).any (P.veiledRec ·))=true)(h31:(c.veiledFits P fn.params.toList (fn.params.toList++s.plain.varTypes P++fn.resultTypes.toList))=true):joinedFacts P f fn s c=true:=by
 unfold joinedFacts
 exact FnUnfold.and2 (FnUnfold.and2 (FnUnfold.and2 (FnUnfold.and2 (FnUnfold.and2 (FnUnfold.and2 (FnUnfold.and2 (FnUnfold.and2 (FnUnfold.and2 (FnUnfold.and2 (FnUnfold.and2 (FnUnfold.and2 (FnUnfold.and2 (FnUnfold.and2 (FnUnfold.and2 (FnUnfold.and2 (FnUnfold.and2 (FnUnfold.and2 (FnUnfold.and2 (FnUnfold.and2 (FnUnfold.and2 (FnUnfold.and2 (FnUnfold.and2 (FnUnfold.and2 (FnUnfold.and2 (FnUnfold.and2 (FnUnfold.and2 (FnUnfold.and2 (FnUnfold.and2 (FnUnfold.and2 (FnUnfold.and2 (h0) h1) h2) h3) h4) h5) h6) h7) h8) h9) h10) h11) h12) h13) h14) h15) h16) h17) h18) h19) h20) h21) h22) h23) h24) h25) h26) h27) h28) h29) h30) h31
theorem FnUnfold.closed:joinedFacts Tryz.pinned.checked.prog 8 Tryz.f8 Rows.fnUnfoldSpec Rows.fnUnfoldRow=true:=FnUnfold.joined (P:=Tryz.pinned.checked.prog) (f:=8) (fn:=Tryz.f8) (s:=Rows.fnUnfoldSpec) (c:=Rows.fnUnfoldRow) FnUnfold.k0 FnUnfold.k1 FnUnfold.k2 FnUnfold.k3 FnUnfold.k4 FnUnfold.k5 FnUnfold.k6 FnUnfold.k7 FnUnfold.k8 FnUnfold.k9 FnUnfold.k10 FnUnfold.k11 FnUnfold.k12 FnUnfold.k13 FnUnfold.k14 FnUnfold.k15 FnUnfold.k16 FnUnfold.k17 FnUnfold.k18 FnUnfold.k19 FnUnfold.k20 FnUnfold.k21 FnUnfold.k22 FnUnfold.k23 FnUnfold.k24 FnUnfold.k25 FnUnfold.k26 FnUnfold.k27 FnUnfold.k28 FnUnfold.k29 FnUnfold.k30 FnUnfold.k31
theorem FnUnfold_holds:Rows.FnUnfoldSaid:=
 OpenClaim.holds_of_wide 8 Tryz.f8 rfl rfl rfl rfl rfl rfl rfl ⟨rfl,rfl,rfl,rfl,rfl⟩ rfl rfl rfl rfl rfl (by kernel_rfl) Tryz.func8 FnUnfold.closed
  (of_decide_eq_true (by kernel_rfl)) (by unfold Func.isWrapper;first|(rw[if_pos (by decide+kernel)];kernel_rfl)|(rw[if_neg (by decide+kernel)];exact⟨rfl,rfl⟩))
  (fun os started H enc _=>FnUnfold.lifted os started H enc)
#print axioms FnUnfold_holds
end Go.Proofs.YtnogdfionomoaaaGreat
