/- 'laws.FnLeast' returns true for every input, and each argument reads behind the call as it read before: no condition. -/
import Derived.Test.YtnogdfionomoaaaGreatRows
import Derived.Test.YtnogdfionomoaaaGreatE1
namespace Go.Proofs.YtnogdfionomoaaaGreat
open Go.ChangeShapes Go.WideShapes Go.ChangeAt Go.RowKit Go.Vx
theorem FnLeast.own:ownKnob Tryz.prog.godebug=none:=by kernel_rfl
theorem FnLeast.laidOut:laidOutB Tryz.prog=true:=by kernel_rfl
set_option maxRecDepth 100000 in
theorem FnLeast.lifted(os:Os)(started:os.Started)(H:Type)(enc:TypeId×Value→H):
  ReturnsInHanded {} Tryz.checked os 3 .any (Rows.fnLeastSpec.pre6 enc Tryz.prog Tryz.f3 Rows.fnLeastRow.domain false) (Rows.fnLeastSpec.post enc Tryz.prog Tryz.f3 false true false false):=by
 refine returnsInHanded_of_change (C:=Tryz.checked) FnLeast.own started (by kernel_rfl) Tryz.func3
  (ChangeSpec.witness6 (enc:=enc) (C:=Tryz.checked) false ⟨#[],#[.slice none 0 0],[]⟩ 8 (by kernel_rfl) (by kernel_rfl) (by kernel_rfl) (by kernel_rfl)) ?_
 intro W base args ds gs before hval0 hW hcnd _
 have hval:∀(j:Nat) t v,Tryz.f3.params[j]? =some t→args[j]? =some v→Value.okWide Tryz.prog W .any base t v:=hval0
 have hW':=hW
 obtain⟨p,q,hA0,hV,rfl,hfz,hnd⟩:=hW
 have hA:DataW.TrodAll enc Tryz.prog W 0 (fun _=>true) true Tryz.f3.params.toList args.toList ds p:=hA0
 rw[Tryz.params3]at hA hval
 obtain⟨v0,d0,rfl,rfl,h0⟩:=trodAll_one hA
 obtain⟨base0,n0,cap0,rfl,hr0⟩:=qB Tryz.underlying22 Tryz.underlying5 (oY ti5) (hval 0 _ _ rfl rfl) h0
 refine sG FnLeast.laidOut (fn:=Tryz.f3) (tb:=4) ?_ (by kernel_rfl) vN rfl rfl hW' ⟨Tryz.f3,Tryz.func3,by kernel_rfl,by kernel_rfl⟩ ?_
 ·intro t ht
  have:Tryz.f3.params.toList=[22]:=by rw[Tryz.params3]
  rw[this]at ht
  simp only[List.mem_cons,List.not_mem_nil,or_false]at ht
  subst ht
  exact⟨by kernel_rfl,of_decide_eq_true (by kernel_rfl)⟩
 ·exact qEx hr0
theorem FnLeast.k0:(Rows.fnLeastRow.wf (OpenSpec.ofChange Rows.fnLeastSpec))=true:=by kernel_rfl
theorem FnLeast.k1:(laidOutB Tryz.pinned.checked.prog)=true:=by kernel_rfl
theorem FnLeast.k2:(mapsRowed Tryz.pinned.checked.prog)=true:=by kernel_rfl
theorem FnLeast.k3:(Tryz.f3.params.all (Tryz.pinned.checked.prog.readableRec ·))=true:=by kernel_rfl
theorem FnLeast.k4:(namedTie Tryz.pinned.checked.prog Rows.fnLeastRow.named Rows.fnLeastSpec.vars)=true:=by kernel_rfl
theorem FnLeast.k5:(Rows.fnLeastRow.stops==[])=true:=by kernel_rfl
theorem FnLeast.k6:(Tryz.pinned.checked.prog.stops==[])=true:=by kernel_rfl
theorem FnLeast.k7:(Rows.fnLeastRow.knobs==[])=true:=by kernel_rfl
theorem FnLeast.k8:(Tryz.pinned.checked.prog.stopKnobs==[])=true:=by kernel_rfl
theorem FnLeast.k9:(Rows.fnLeastRow.inPlace==Tryz.pinned.checked.prog.inPlace 3)=true:=by kernel_rfl
theorem FnLeast.k10:(Rows.fnLeastRow.unfollowed==Tryz.pinned.checked.prog.unfollowed 3)=true:=by kernel_rfl
theorem FnLeast.k11:(Rows.fnLeastRow.recurses==Tryz.pinned.checked.prog.recurses 3)=true:=by kernel_rfl
theorem FnLeast.k12:(Rows.fnLeastRow.named==Tryz.pinned.checked.prog.varsNamed 3)=true:=by kernel_rfl
theorem FnLeast.k13:(Rows.fnLeastRow.maps==(Tryz.f3.params.toList++Rows.fnLeastSpec.plain.varTypes Tryz.pinned.checked.prog).any (Tryz.pinned.checked.prog.mapsRec ·))=true:=by kernel_rfl
theorem FnLeast.k14:(Rows.fnLeastRow.ifaces==(Tryz.f3.params.toList++Rows.fnLeastSpec.plain.varTypes Tryz.pinned.checked.prog).any (Tryz.pinned.checked.prog.ifacesRec ·))=true:=by kernel_rfl
theorem FnLeast.k15:(Rows.fnLeastRow.mapsOut==Tryz.pinned.checked.prog.mapsAmong Tryz.f3.resultTypes.toList)=true:=by kernel_rfl
theorem FnLeast.k16:(Rows.fnLeastRow.loops==(Tryz.f3.params.toList++Rows.fnLeastSpec.plain.varTypes Tryz.pinned.checked.prog).any (Tryz.pinned.checked.prog.loopsFrom ·))=true:=by kernel_rfl
theorem FnLeast.k17:(Rows.fnLeastRow.wideKeys==(Tryz.f3.params.toList++Rows.fnLeastSpec.plain.varTypes Tryz.pinned.checked.prog++Tryz.f3.resultTypes.toList).any (Tryz.pinned.checked.prog.wideKeysFrom ·))=true:=by kernel_rfl
theorem FnLeast.k18:(Rows.fnLeastSpec.vars.all (Tryz.pinned.checked.prog.varReadable ·))=true:=by kernel_rfl
theorem FnLeast.k19:(Tryz.f3.resultTypes.all (fun t=>Tryz.pinned.checked.prog.readableRec t&&decide (t<Tryz.pinned.checked.prog.types.size)))=true:=by kernel_rfl
theorem FnLeast.k20:(Rows.fnLeastRow.ifacesOut==Tryz.f3.resultTypes.toList.any (Tryz.pinned.checked.prog.ifacesRec ·))=true:=by kernel_rfl
theorem FnLeast.k21:(Rows.fnLeastRow.loopsOut==Tryz.f3.resultTypes.toList.any (Tryz.pinned.checked.prog.loopsFrom ·))=true:=by kernel_rfl
theorem FnLeast.k22:(Rows.fnLeastRow.plainKeys==Tryz.pinned.checked.prog.plainKeys)=true:=by kernel_rfl
theorem FnLeast.k23:(Rows.fnLeastRow.shortTexts.isNone)=true:=by kernel_rfl
theorem FnLeast.k24:(Tryz.pinned.checked.prog.stopsHeard)=true:=by kernel_rfl
theorem FnLeast.k25:(Tryz.pinned.checked.prog.mayEnter)=true:=by kernel_rfl
theorem FnLeast.k26:(Rows.fnLeastRow.lifted==Tryz.pinned.checked.prog.liftsFinal)=true:=by kernel_rfl
theorem FnLeast.k27:(Tryz.pinned.checked.prog.make==some Rows.fnLeastRow.make)=true:=by kernel_rfl
theorem FnLeast.k28:(Rows.fnLeastRow.kinds==(if Rows.fnLeastRow.domain.isEmpty then []else Tryz.f3.params.toList.map fun t=>match Tryz.pinned.checked.prog.underlying t with|some (.int k)=>some k|_=>none))=true:=by kernel_rfl
theorem FnLeast.k29:(Rows.fnLeastRow.pinned==Rows.fnLeastRow.pinnedBy)=true:=by kernel_rfl
theorem FnLeast.k30:(Rows.fnLeastRow.veiled==(Tryz.f3.params.toList++Rows.fnLeastSpec.plain.varTypes Tryz.pinned.checked.prog++Tryz.f3.resultTypes.toList).any (Tryz.pinned.checked.prog.veiledRec ·))=true:=by kernel_rfl
theorem FnLeast.k31:(Rows.fnLeastRow.veiledFits Tryz.pinned.checked.prog Tryz.f3.params.toList (Tryz.f3.params.toList++Rows.fnLeastSpec.plain.varTypes Tryz.pinned.checked.prog++Tryz.f3.resultTypes.toList))=true:=by kernel_rfl
theorem FnLeast.and2{a b:Bool}(h1:a=true)(h2:b=true):(a&&b)=true:=by rw[h1,h2];rfl
theorem FnLeast.joined{P:Program}{f:FuncId}{fn:Func}{s:ChangeSpec}{c:OpenClaim}(h0:(c.wf (OpenSpec.ofChange s))=true)(h1:(laidOutB P)=true)(h2:(mapsRowed P)=true)(h3:(fn.params.all (P.readableRec ·))=true)(h4:(namedTie P c.named s.vars)=true)(h5:(c.stops==[])=true)(h6:(P.stops==[])=true)(h7:(c.knobs==[])=true)(h8:(P.stopKnobs==[])=true)(h9:(c.inPlace==P.inPlace f)=true)(h10:(c.unfollowed==P.unfollowed f)=true)(h11:(c.recurses==P.recurses f)=true)(h12:(c.named==P.varsNamed f)=true)(h13:(c.maps==(fn.params.toList++s.plain.varTypes P).any (P.mapsRec ·))=true)(h14:(c.ifaces==(fn.params.toList++s.plain.varTypes P).any (P.ifacesRec ·))=true)(h15:(c.mapsOut==P.mapsAmong fn.resultTypes.toList)=true)(h16:(c.loops==(fn.params.toList++s.plain.varTypes P).any (P.loopsFrom ·))=true)(h17:(c.wideKeys==(fn.params.toList++s.plain.varTypes P++fn.resultTypes.toList).any (P.wideKeysFrom ·))=true)(h18:(s.vars.all (P.varReadable ·))=true)(h19:(fn.resultTypes.all (fun t=>P.readableRec t&&decide (t<P.types.size)))=true)(h20:(c.ifacesOut==fn.resultTypes.toList.any (P.ifacesRec ·))=true)(h21:(c.loopsOut==fn.resultTypes.toList.any (P.loopsFrom ·))=true)(h22:(c.plainKeys==P.plainKeys)=true)(h23:(c.shortTexts.isNone)=true)(h24:(P.stopsHeard)=true)(h25:(P.mayEnter)=true)(h26:(c.lifted==P.liftsFinal)=true)(h27:(P.make==some c.make)=true)(h28:(c.kinds==(if c.domain.isEmpty then []else fn.params.toList.map fun t=>match P.underlying t with|some (.int k)=>some k|_=>none))=true)(h29:(c.pinned==c.pinnedBy)=true)(h30:(c.veiled==(fn.params.toList++s.plain.varTypes P++fn.resultTypes.toList).any (P.veiledRec ·))=true)(h31:(c.veiledFits P fn.params.toList (fn.params.toList++s.plain.varTypes P++fn.resultTypes.toList))=true):joinedFacts P f fn s c=true:=by
 unfold joinedFacts
 exact FnLeast.and2 (FnLeast.and2 (FnLeast.and2 (FnLeast.and2 (FnLeast.and2 (FnLeast.and2 (FnLeast.and2 (FnLeast.and2 (FnLeast.and2 (FnLeast.and2 (FnLeast.and2 (FnLeast.and2 (FnLeast.and2 (FnLeast.and2 (FnLeast.and2 (FnLeast.and2 (FnLeast.and2 (FnLeast.and2 (FnLeast.and2 (FnLeast.and2 (FnLeast.and2 (FnLeast.and2 (FnLeast.and2 (FnLeast.and2 (FnLeast.and2 (FnLeast.and2 (FnLeast.and2 (FnLeast.and2 (FnLeast.and2 (FnLeast.and2 (FnLeast.and2 (h0) h1) h2) h3) h4) h5) h6) h7) h8) h9) h10) h11) h12) h13) h14) h15) h16) h17) h18) h19) h20) h21) h22) h23) h24) h25) h26) h27) h28) h29) h30) h31
theorem FnLeast.closed:joinedFacts Tryz.pinned.checked.prog 3 Tryz.f3 Rows.fnLeastSpec Rows.fnLeastRow=true:=FnLeast.joined (P:=Tryz.pinned.checked.prog) (f:=3) (fn:=Tryz.f3) (s:=Rows.fnLeastSpec) (c:=Rows.fnLeastRow) FnLeast.k0 FnLeast.k1 FnLeast.k2 FnLeast.k3 FnLeast.k4 FnLeast.k5 FnLeast.k6 FnLeast.k7 FnLeast.k8 FnLeast.k9 FnLeast.k10 FnLeast.k11 FnLeast.k12 FnLeast.k13 FnLeast.k14 FnLeast.k15 FnLeast.k16 FnLeast.k17 FnLeast.k18 FnLeast.k19 FnLeast.k20 FnLeast.k21 FnLeast.k22 FnLeast.k23 FnLeast.k24 FnLeast.k25 FnLeast.k26 FnLeast.k27 FnLeast.k28 FnLeast.k29 FnLeast.k30 FnLeast.k31
theorem FnLeast_holds:Rows.FnLeastSaid:=
 OpenClaim.holds_of_wide 3 Tryz.f3 rfl rfl rfl rfl rfl rfl rfl ⟨rfl,rfl,rfl,rfl,rfl⟩ rfl rfl rfl rfl rfl (by kernel_rfl) Tryz.func3 FnLeast.closed
  (of_decide_eq_true (by kernel_rfl)) (by unfold Func.isWrapper;first|(rw[if_pos (by decide+kernel)];kernel_rfl)|(rw[if_neg (by decide+kernel)];exact⟨rfl,rfl⟩))
  (fun os started H enc _=>FnLeast.lifted os started H enc)
#print axioms FnLeast_holds
end Go.Proofs.YtnogdfionomoaaaGreat
