/- 'laws.FnUpdates' returns true for every input, and each argument reads behind the call as it read before: no condition. -/
import Derived.Test.YtnogdfionomoaaaGreatRows
import Derived.Test.YtnogdfionomoaaaGreatE2
namespace Go.Proofs.YtnogdfionomoaaaGreat
open Go.ChangeShapes Go.WideShapes Go.ChangeAt Go.RowKit Go.Vx
theorem FnUpdates.own:ownKnob Tryz.prog.godebug=none:=by kernel_rfl
theorem FnUpdates.laidOut:laidOutB Tryz.prog=true:=by kernel_rfl
set_option maxRecDepth 100000 in
theorem FnUpdates.lifted(os:Os)(started:os.Started)(H:Type)(enc:TypeId×Value→H):
  ReturnsInHanded {} Tryz.checked os 5 .any (Rows.fnUpdatesSpec.pre6 enc Tryz.prog Tryz.f5 Rows.fnUpdatesRow.domain false) (Rows.fnUpdatesSpec.post enc Tryz.prog Tryz.f5 false true false false):=by
 refine returnsInHanded_of_change (C:=Tryz.checked) FnUpdates.own started (by kernel_rfl) Tryz.func5
  (ChangeSpec.witness6 (enc:=enc) (C:=Tryz.checked) false ⟨#[],#[.slice none 0 0],[]⟩ 8 (by kernel_rfl) (by kernel_rfl) (by kernel_rfl) (by kernel_rfl)) ?_
 intro W base args ds gs before hval0 hW hcnd _
 have hval:∀(j:Nat) t v,Tryz.f5.params[j]? =some t→args[j]? =some v→Value.okWide Tryz.prog W .any base t v:=hval0
 have hW':=hW
 obtain⟨p,q,hA0,hV,rfl,hfz,hnd⟩:=hW
 have hA:DataW.TrodAll enc Tryz.prog W 0 (fun _=>true) true Tryz.f5.params.toList args.toList ds p:=hA0
 rw[Tryz.params5]at hA hval
 obtain⟨v0,d0,rfl,rfl,h0⟩:=trodAll_one hA
 obtain⟨base0,n0,cap0,rfl,hr0⟩:=qB Tryz.underlying22 Tryz.underlying5 (oY ti5) (hval 0 _ _ rfl rfl) h0
 refine sG FnUpdates.laidOut (fn:=Tryz.f5) (tb:=4) ?_ (by kernel_rfl) vN rfl rfl hW' ⟨Tryz.f5,Tryz.func5,by kernel_rfl,by kernel_rfl⟩ ?_
 ·intro t ht
  have:Tryz.f5.params.toList=[22]:=by rw[Tryz.params5]
  rw[this]at ht
  simp only[List.mem_cons,List.not_mem_nil,or_false]at ht
  subst ht
  exact⟨by kernel_rfl,of_decide_eq_true (by kernel_rfl)⟩
 ·exact yN hr0
theorem FnUpdates.k0:(Rows.fnUpdatesRow.wf (OpenSpec.ofChange Rows.fnUpdatesSpec))=true:=by kernel_rfl
theorem FnUpdates.k1:(laidOutB Tryz.pinned.checked.prog)=true:=by kernel_rfl
theorem FnUpdates.k2:(mapsRowed Tryz.pinned.checked.prog)=true:=by kernel_rfl
theorem FnUpdates.k3:(Tryz.f5.params.all (Tryz.pinned.checked.prog.readableRec ·))=true:=by kernel_rfl
theorem FnUpdates.k4:(namedTie Tryz.pinned.checked.prog Rows.fnUpdatesRow.named Rows.fnUpdatesSpec.vars)=true:=by kernel_rfl
theorem FnUpdates.k5:(Rows.fnUpdatesRow.stops==[])=true:=by kernel_rfl
theorem FnUpdates.k6:(Tryz.pinned.checked.prog.stops==[])=true:=by kernel_rfl
theorem FnUpdates.k7:(Rows.fnUpdatesRow.knobs==[])=true:=by kernel_rfl
theorem FnUpdates.k8:(Tryz.pinned.checked.prog.stopKnobs==[])=true:=by kernel_rfl
theorem FnUpdates.k9:(Rows.fnUpdatesRow.inPlace==Tryz.pinned.checked.prog.inPlace 5)=true:=by kernel_rfl
theorem FnUpdates.k10:(Rows.fnUpdatesRow.unfollowed==Tryz.pinned.checked.prog.unfollowed 5)=true:=by kernel_rfl
theorem FnUpdates.k11:(Rows.fnUpdatesRow.recurses==Tryz.pinned.checked.prog.recurses 5)=true:=by kernel_rfl
theorem FnUpdates.k12:(Rows.fnUpdatesRow.named==Tryz.pinned.checked.prog.varsNamed 5)=true:=by kernel_rfl
theorem FnUpdates.k13:(Rows.fnUpdatesRow.maps==(Tryz.f5.params.toList++Rows.fnUpdatesSpec.plain.varTypes Tryz.pinned.checked.prog).any (Tryz.pinned.checked.prog.mapsRec ·))=true:=by kernel_rfl
theorem FnUpdates.k14:(Rows.fnUpdatesRow.ifaces==(Tryz.f5.params.toList++Rows.fnUpdatesSpec.plain.varTypes Tryz.pinned.checked.prog).any (Tryz.pinned.checked.prog.ifacesRec ·))=true:=by kernel_rfl
theorem FnUpdates.k15:(Rows.fnUpdatesRow.mapsOut==Tryz.pinned.checked.prog.mapsAmong Tryz.f5.resultTypes.toList)=true:=by kernel_rfl
theorem FnUpdates.k16:(Rows.fnUpdatesRow.loops==(Tryz.f5.params.toList++Rows.fnUpdatesSpec.plain.varTypes Tryz.pinned.checked.prog).any (Tryz.pinned.checked.prog.loopsFrom ·))=true:=by kernel_rfl
theorem FnUpdates.k17:(Rows.fnUpdatesRow.wideKeys==(Tryz.f5.params.toList++Rows.fnUpdatesSpec.plain.varTypes Tryz.pinned.checked.prog++Tryz.f5.resultTypes.toList).any (Tryz.pinned.checked.prog.wideKeysFrom ·))=true:=by kernel_rfl
theorem FnUpdates.k18:(Rows.fnUpdatesSpec.vars.all (Tryz.pinned.checked.prog.varReadable ·))=true:=by kernel_rfl
theorem FnUpdates.k19:(Tryz.f5.resultTypes.all (fun t=>Tryz.pinned.checked.prog.readableRec t&&decide (t<Tryz.pinned.checked.prog.types.size)))=true:=by kernel_rfl
theorem FnUpdates.k20:(Rows.fnUpdatesRow.ifacesOut==Tryz.f5.resultTypes.toList.any (Tryz.pinned.checked.prog.ifacesRec ·))=true:=by kernel_rfl
theorem FnUpdates.k21:(Rows.fnUpdatesRow.loopsOut==Tryz.f5.resultTypes.toList.any (Tryz.pinned.checked.prog.loopsFrom ·))=true:=by kernel_rfl
theorem FnUpdates.k22:(Rows.fnUpdatesRow.plainKeys==Tryz.pinned.checked.prog.plainKeys)=true:=by kernel_rfl
theorem FnUpdates.k23:(Rows.fnUpdatesRow.shortTexts.isNone)=true:=by kernel_rfl
theorem FnUpdates.k24:(Tryz.pinned.checked.prog.stopsHeard)=true:=by kernel_rfl
theorem FnUpdates.k25:(Tryz.pinned.checked.prog.mayEnter)=true:=by kernel_rfl
theorem FnUpdates.k26:(Rows.fnUpdatesRow.lifted==Tryz.pinned.checked.prog.liftsFinal)=true:=by kernel_rfl
theorem FnUpdates.k27:(Tryz.pinned.checked.prog.make==some Rows.fnUpdatesRow.make)=true:=by kernel_rfl
theorem FnUpdates.k28:(Rows.fnUpdatesRow.kinds==(if Rows.fnUpdatesRow.domain.isEmpty then []else Tryz.f5.params.toList.map fun t=>match Tryz.pinned.checked.prog.underlying t with|some (.int k)=>some k|_=>none))=true:=by kernel_rfl
theorem FnUpdates.k29:(Rows.fnUpdatesRow.pinned==Rows.fnUpdatesRow.pinnedBy)=true:=by kernel_rfl
theorem FnUpdates.k30:(Rows.fnUpdatesRow.veiled==(Tryz.f5.params.toList++Rows.fnUpdatesSpec.plain.varTypes Tryz.pinned.checked.prog++Tryz.f5.resultTypes.toList).any (Tryz.pinned.checked.prog.veiledRec ·))=true:=by kernel_rfl
theorem FnUpdates.k31:(Rows.fnUpdatesRow.veiledFits Tryz.pinned.checked.prog Tryz.f5.params.toList (Tryz.f5.params.toList++Rows.fnUpdatesSpec.plain.varTypes Tryz.pinned.checked.prog++Tryz.f5.resultTypes.toList))=true:=by kernel_rfl
theorem FnUpdates.and2{a b:Bool}(h1:a=true)(h2:b=true):(a&&b)=true:=by rw[h1,h2];rfl
theorem FnUpdates.joined{P:Program}{f:FuncId}{fn:Func}{s:ChangeSpec}{c:OpenClaim}(h0:(c.wf (OpenSpec.ofChange s))=true)(h1:(laidOutB P)=true)(h2:(mapsRowed P)=true)(h3:(fn.params.all (P.readableRec ·))=true)(h4:(namedTie P c.named s.vars)=true)(h5:(c.stops==[])=true)(h6:(P.stops==[])=true)(h7:(c.knobs==[])=true)(h8:(P.stopKnobs==[])=true)(h9:(c.inPlace==P.inPlace f)=true)(h10:(c.unfollowed==P.unfollowed f)=true)(h11:(c.recurses==P.recurses f)=true)(h12:(c.named==P.varsNamed f)=true)(h13:(c.maps==(fn.params.toList++s.plain.varTypes P).any (P.mapsRec ·))=true)(h14:(c.ifaces==(fn.params.toList++s.plain.varTypes P).any (P.ifacesRec ·))=true)(h15:(c.mapsOut==P.mapsAmong fn.resultTypes.toList)=true)(h16:(c.loops==(fn.params.toList++s.plain.varTypes P).any (P.loopsFrom ·))=true)(h17:(c.wideKeys==(fn.params.toList++s.plain.varTypes P++fn.resultTypes.toList).any (P.wideKeysFrom ·))=true)(h18:(s.vars.all (P.varReadable ·))=true)(h19:(fn.resultTypes.all (fun t=>P.readableRec t&&decide (t<P.types.size)))=true)(h20:(c.ifacesOut==fn.resultTypes.toList.any (P.ifacesRec ·))=true)(h21:(c.loopsOut==fn.resultTypes.toList.any (P.loopsFrom ·))=true)(h22:(c.plainKeys==P.plainKeys)=true)(h23:(c.shortTexts.isNone)=true)(h24:(P.stopsHeard)=true)(h25:(P.mayEnter)=true)(h26:(c.lifted==P.liftsFinal)=true)(h27:(P.make==some c.make)=true)(h28:(c.kinds==(if c.domain.isEmpty then []else fn.params.toList.map fun t=>match P.underlying t with|some (.int k)=>some k|_=>none))=true)(h29:(c.pinned==c.pinnedBy)=true)(h30:(c.veiled==(fn.params.toList++s.plain.varTypes P++fn.resultTypes.toList).any (P.veiledRec ·))=true)(h31:(c.veiledFits P fn.params.toList (fn.params.toList++s.plain.varTypes P++fn.resultTypes.toList))=true):joinedFacts P f fn s c=true:=by
 unfold joinedFacts
 exact FnUpdates.and2 (FnUpdates.and2 (FnUpdates.and2 (FnUpdates.and2 (FnUpdates.and2 (FnUpdates.and2 (FnUpdates.and2 (FnUpdates.and2 (FnUpdates.and2 (FnUpdates.and2 (FnUpdates.and2 (FnUpdates.and2 (FnUpdates.and2 (FnUpdates.and2 (FnUpdates.and2 (FnUpdates.and2 (FnUpdates.and2 (FnUpdates.and2 (FnUpdates.and2 (FnUpdates.and2 (FnUpdates.and2 (FnUpdates.and2 (FnUpdates.and2 (FnUpdates.and2 (FnUpdates.and2 (FnUpdates.and2 (FnUpdates.and2 (FnUpdates.and2 (FnUpdates.and2 (FnUpdates.and2 (FnUpdates.and2 (h0) h1) h2) h3) h4) h5) h6) h7) h8) h9) h10) h11) h12) h13) h14) h15) h16) h17) h18) h19) h20) h21) h22) h23) h24) h25) h26) h27) h28) h29) h30) h31
theorem FnUpdates.closed:joinedFacts Tryz.pinned.checked.prog 5 Tryz.f5 Rows.fnUpdatesSpec Rows.fnUpdatesRow=true:=FnUpdates.joined (P:=Tryz.pinned.checked.prog) (f:=5) (fn:=Tryz.f5) (s:=Rows.fnUpdatesSpec) (c:=Rows.fnUpdatesRow) FnUpdates.k0 FnUpdates.k1 FnUpdates.k2 FnUpdates.k3 FnUpdates.k4 FnUpdates.k5 FnUpdates.k6 FnUpdates.k7 FnUpdates.k8 FnUpdates.k9 FnUpdates.k10 FnUpdates.k11 FnUpdates.k12 FnUpdates.k13 FnUpdates.k14 FnUpdates.k15 FnUpdates.k16 FnUpdates.k17 FnUpdates.k18 FnUpdates.k19 FnUpdates.k20 FnUpdates.k21 FnUpdates.k22 FnUpdates.k23 FnUpdates.k24 FnUpdates.k25 FnUpdates.k26 FnUpdates.k27 FnUpdates.k28 FnUpdates.k29 FnUpdates.k30 FnUpdates.k31
theorem FnUpdates_holds:Rows.FnUpdatesSaid:=
 OpenClaim.holds_of_wide 5 Tryz.f5 rfl rfl rfl rfl rfl rfl rfl ⟨rfl,rfl,rfl,rfl,rfl⟩ rfl rfl rfl rfl rfl (by kernel_rfl) Tryz.func5 FnUpdates.closed
  (of_decide_eq_true (by kernel_rfl)) (by unfold Func.isWrapper;first|(rw[if_pos (by decide+kernel)];kernel_rfl)|(rw[if_neg (by decide+kernel)];exact⟨rfl,rfl⟩))
  (fun os started H enc _=>FnUpdates.lifted os started H enc)
#print axioms FnUpdates_holds
end Go.Proofs.YtnogdfionomoaaaGreat
