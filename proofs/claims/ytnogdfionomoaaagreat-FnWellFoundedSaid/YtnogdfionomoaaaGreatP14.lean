/- 'laws.FnWellFounded' returns true for every input, and each argument reads behind the call as it read before: no condition. -/
import Derived.Test.YtnogdfionomoaaaGreatRows
import Derived.Test.YtnogdfionomoaaaGreatE1
namespace Go.Proofs.YtnogdfionomoaaaGreat
open Go.ChangeShapes Go.WideShapes Go.ChangeAt Go.RowKit Go.Vx
theorem FnWellFounded.own:ownKnob Tryz.prog.godebug=none:=by kernel_rfl
theorem FnWellFounded.laidOut:laidOutB Tryz.prog=true:=by kernel_rfl
set_option maxRecDepth 100000 in
theorem FnWellFounded.lifted(os:Os)(started:os.Started)(H:Type)(enc:TypeId×Value→H):
  ReturnsInHanded {} Tryz.checked os 4 .any (Rows.fnWellFoundedSpec.pre6 enc Tryz.prog Tryz.f4 Rows.fnWellFoundedRow.domain false) (Rows.fnWellFoundedSpec.post enc Tryz.prog Tryz.f4 false true false false):=by
 refine returnsInHanded_of_change (C:=Tryz.checked) FnWellFounded.own started (by kernel_rfl) Tryz.func4
  (ChangeSpec.witness6 (enc:=enc) (C:=Tryz.checked) false ⟨#[],#[.slice none 0 0],[]⟩ 8 (by kernel_rfl) (by kernel_rfl) (by kernel_rfl) (by kernel_rfl)) ?_
 intro W base args ds gs before hval0 hW hcnd _
 have hval:∀(j:Nat) t v,Tryz.f4.params[j]? =some t→args[j]? =some v→Value.okWide Tryz.prog W .any base t v:=hval0
 have hW':=hW
 obtain⟨p,q,hA0,hV,rfl,hfz,hnd⟩:=hW
 have hA:DataW.TrodAll enc Tryz.prog W 0 (fun _=>true) true Tryz.f4.params.toList args.toList ds p:=hA0
 rw[Tryz.params4]at hA hval
 obtain⟨v0,d0,rfl,rfl,h0⟩:=trodAll_one hA
 obtain⟨base0,n0,cap0,rfl,hr0⟩:=qB Tryz.underlying22 Tryz.underlying5 (oY ti5) (hval 0 _ _ rfl rfl) h0
 refine sG FnWellFounded.laidOut (fn:=Tryz.f4) (tb:=4) ?_ (by kernel_rfl) vN rfl rfl hW' ⟨Tryz.f4,Tryz.func4,by kernel_rfl,by kernel_rfl⟩ ?_
 ·intro t ht
  have:Tryz.f4.params.toList=[22]:=by rw[Tryz.params4]
  rw[this]at ht
  simp only[List.mem_cons,List.not_mem_nil,or_false]at ht
  subst ht
  exact⟨by kernel_rfl,of_decide_eq_true (by kernel_rfl)⟩
 ·exact tM hr0
theorem FnWellFounded.k0:(Rows.fnWellFoundedRow.wf (OpenSpec.ofChange Rows.fnWellFoundedSpec))=true:=by kernel_rfl
theorem FnWellFounded.k1:(laidOutB Tryz.pinned.checked.prog)=true:=by kernel_rfl
theorem FnWellFounded.k2:(mapsRowed Tryz.pinned.checked.prog)=true:=by kernel_rfl
theorem FnWellFounded.k3:(Tryz.f4.params.all (Tryz.pinned.checked.prog.readableRec ·))=true:=by kernel_rfl
theorem FnWellFounded.k4:(namedTie Tryz.pinned.checked.prog Rows.fnWellFoundedRow.named Rows.fnWellFoundedSpec.vars)=true:=by kernel_rfl
theorem FnWellFounded.k5:(Rows.fnWellFoundedRow.stops==[])=true:=by kernel_rfl
theorem FnWellFounded.k6:(Tryz.pinned.checked.prog.stops==[])=true:=by kernel_rfl
theorem FnWellFounded.k7:(Rows.fnWellFoundedRow.knobs==[])=true:=by kernel_rfl
theorem FnWellFounded.k8:(Tryz.pinned.checked.prog.stopKnobs==[])=true:=by kernel_rfl
theorem FnWellFounded.k9:(Rows.fnWellFoundedRow.inPlace==Tryz.pinned.checked.prog.inPlace 4)=true:=by kernel_rfl
theorem FnWellFounded.k10:(Rows.fnWellFoundedRow.unfollowed==Tryz.pinned.checked.prog.unfollowed 4)=true:=by kernel_rfl
theorem FnWellFounded.k11:(Rows.fnWellFoundedRow.recurses==Tryz.pinned.checked.prog.recurses 4)=true:=by kernel_rfl
theorem FnWellFounded.k12:(Rows.fnWellFoundedRow.named==Tryz.pinned.checked.prog.varsNamed 4)=true:=by kernel_rfl
theorem FnWellFounded.k13:(Rows.fnWellFoundedRow.maps==(Tryz.f4.params.toList++Rows.fnWellFoundedSpec.plain.varTypes Tryz.pinned.checked.prog).any (Tryz.pinned.checked.prog.mapsRec ·))=true:=by kernel_rfl
theorem FnWellFounded.k14:(Rows.fnWellFoundedRow.ifaces==(Tryz.f4.params.toList++Rows.fnWellFoundedSpec.plain.varTypes Tryz.pinned.checked.prog).any (Tryz.pinned.checked.prog.ifacesRec ·))=true:=by kernel_rfl
theorem FnWellFounded.k15:(Rows.fnWellFoundedRow.mapsOut==Tryz.pinned.checked.prog.mapsAmong Tryz.f4.resultTypes.toList)=true:=by kernel_rfl
theorem FnWellFounded.k16:(Rows.fnWellFoundedRow.loops==(Tryz.f4.params.toList++Rows.fnWellFoundedSpec.plain.varTypes Tryz.pinned.checked.prog).any (Tryz.pinned.checked.prog.loopsFrom ·))=true:=by kernel_rfl
theorem FnWellFounded.k17:(Rows.fnWellFoundedRow.wideKeys==(Tryz.f4.params.toList++Rows.fnWellFoundedSpec.plain.varTypes Tryz.pinned.checked.prog++Tryz.f4.resultTypes.toList).any (Tryz.pinned.checked.prog.wideKeysFrom ·))=true:=by kernel_rfl
theorem FnWellFounded.k18:(Rows.fnWellFoundedSpec.vars.all (Tryz.pinned.checked.prog.varReadable ·))=true:=by kernel_rfl
theorem FnWellFounded.k19:(Tryz.f4.resultTypes.all (fun t=>Tryz.pinned.checked.prog.readableRec t&&decide (t<Tryz.pinned.checked.prog.types.size)))=true:=by kernel_rfl
theorem FnWellFounded.k20:(Rows.fnWellFoundedRow.ifacesOut==Tryz.f4.resultTypes.toList.any (Tryz.pinned.checked.prog.ifacesRec ·))=true:=by kernel_rfl
theorem FnWellFounded.k21:(Rows.fnWellFoundedRow.loopsOut==Tryz.f4.resultTypes.toList.any (Tryz.pinned.checked.prog.loopsFrom ·))=true:=by kernel_rfl
theorem FnWellFounded.k22:(Rows.fnWellFoundedRow.plainKeys==Tryz.pinned.checked.prog.plainKeys)=true:=by kernel_rfl
theorem FnWellFounded.k23:(Rows.fnWellFoundedRow.shortTexts.isNone)=true:=by kernel_rfl
theorem FnWellFounded.k24:(Tryz.pinned.checked.prog.stopsHeard)=true:=by kernel_rfl
theorem FnWellFounded.k25:(Tryz.pinned.checked.prog.mayEnter)=true:=by kernel_rfl
theorem FnWellFounded.k26:(Rows.fnWellFoundedRow.lifted==Tryz.pinned.checked.prog.liftsFinal)=true:=by kernel_rfl
theorem FnWellFounded.k27:(Tryz.pinned.checked.prog.make==some Rows.fnWellFoundedRow.make)=true:=by kernel_rfl
theorem FnWellFounded.k28:(Rows.fnWellFoundedRow.kinds==(if Rows.fnWellFoundedRow.domain.isEmpty then []else Tryz.f4.params.toList.map fun t=>match Tryz.pinned.checked.prog.underlying t with|some (.int k)=>some k|_=>none))=true:=by kernel_rfl
theorem FnWellFounded.k29:(Rows.fnWellFoundedRow.pinned==Rows.fnWellFoundedRow.pinnedBy)=true:=by kernel_rfl
theorem FnWellFounded.k30:(Rows.fnWellFoundedRow.veiled==(Tryz.f4.params.toList++Rows.fnWellFoundedSpec.plain.varTypes Tryz.pinned.checked.prog++Tryz.f4.resultTypes.toList).any (Tryz.pinned.checked.prog.veiledRec ·))=true:=by kernel_rfl
theorem FnWellFounded.k31:(Rows.fnWellFoundedRow.veiledFits Tryz.pinned.checked.prog Tryz.f4.params.toList (Tryz.f4.params.toList++Rows.fnWellFoundedSpec.plain.varTypes Tryz.pinned.checked.prog++Tryz.f4.resultTypes.toList))=true:=by kernel_rfl
theorem FnWellFounded.and2{a b:Bool}(h1:a=true)(h2:b=true):(a&&b)=true:=by rw[h1,h2];rfl
theorem FnWellFounded.joined{P:Program}{f:FuncId}{fn:Func}{s:ChangeSpec}{c:OpenClaim}(h0:(c.wf (OpenSpec.ofChange s))=true)(h1:(laidOutB P)=true)(h2:(mapsRowed P)=true)(h3:(fn.params.all (P.readableRec ·))=true)(h4:(namedTie P c.named s.vars)=true)(h5:(c.stops==[])=true)(h6:(P.stops==[])=true)(h7:(c.knobs==[])=true)(h8:(P.stopKnobs==[])=true)(h9:(c.inPlace==P.inPlace f)=true)(h10:(c.unfollowed==P.unfollowed f)=true)(h11:(c.recurses==P.recurses f)=true)(h12:(c.named==P.varsNamed f)=true)(h13:(c.maps==(fn.params.toList++s.plain.varTypes P).any (P.mapsRec ·))=true)(h14:(c.ifaces==(fn.params.toList++s.plain.varTypes P).any (P.ifacesRec ·))=true)(h15:(c.mapsOut==P.mapsAmong fn.resultTypes.toList)=true)(h16:(c.loops==(fn.params.toList++s.plain.varTypes P).any (P.loopsFrom ·))=true)(h17:(c.wideKeys==(fn.params.toList++s.plain.varTypes P++fn.resultTypes.toList).any (P.wideKeysFrom ·))=true)(h18:(s.vars.all (P.varReadable ·))=true)(h19:(fn.resultTypes.all (fun t=>P.readableRec t&&decide (t<P.types.size)))=true)(h20:(c.ifacesOut==fn.resultTypes.toList.any (P.ifacesRec ·))=true)(h21:(c.loopsOut==fn.resultTypes.toList.any (P.loopsFrom ·))=true)(h22:(c.plainKeys==P.plainKeys)=true)(h23:(c.shortTexts.isNone)=true)(h24:(P.stopsHeard)=true)(h25:(P.mayEnter)=true)(h26:(c.lifted==P.liftsFinal)=true)(h27:(P.make==some c.make)=true)(h28:(c.kinds==(if c.domain.isEmpty then []else fn.params.toList.map fun t=>match P.underlying t with|some (.int k)=>some k|_=>none))=true)(h29:(c.pinned==c.pinnedBy)=true)(h30:(c.veiled==(fn.params.toList++s.plain.varTypes P++fn.resultTypes.toList).any (P.veiledRec ·))=true)(h31:(c.veiledFits P fn.params.toList (fn.params.toList++s.plain.varTypes P++fn.resultTypes.toList))=true):joinedFacts P f fn s c=true:=by
 unfold joinedFacts
 exact FnWellFounded.and2 (FnWellFounded.and2 (FnWellFounded.and2 (FnWellFounded.and2 (FnWellFounded.and2 (FnWellFounded.and2 (FnWellFounded.and2 (FnWellFounded.and2 (FnWellFounded.and2 (FnWellFounded.and2 (FnWellFounded.and2 (FnWellFounded.and2 (FnWellFounded.and2 (FnWellFounded.and2 (FnWellFounded.and2 (FnWellFounded.and2 (FnWellFounded.and2 (FnWellFounded.and2 (FnWellFounded.and2 (FnWellFounded.and2 (FnWellFounded.and2 (FnWellFounded.and2 (FnWellFounded.and2 (FnWellFounded.and2 (FnWellFounded.and2 (FnWellFounded.and2 (FnWellFounded.and2 (FnWellFounded.and2 (FnWellFounded.and2 (FnWellFounded.and2 (FnWellFounded.and2 (h0) h1) h2) h3) h4) h5) h6) h7) h8) h9) h10) h11) h12) h13) h14) h15) h16) h17) h18) h19) h20) h21) h22) h23) h24) h25) h26) h27) h28) h29) h30) h31
theorem FnWellFounded.closed:joinedFacts Tryz.pinned.checked.prog 4 Tryz.f4 Rows.fnWellFoundedSpec Rows.fnWellFoundedRow=true:=FnWellFounded.joined (P:=Tryz.pinned.checked.prog) (f:=4) (fn:=Tryz.f4) (s:=Rows.fnWellFoundedSpec) (c:=Rows.fnWellFoundedRow) FnWellFounded.k0 FnWellFounded.k1 FnWellFounded.k2 FnWellFounded.k3 FnWellFounded.k4 FnWellFounded.k5 FnWellFounded.k6 FnWellFounded.k7 FnWellFounded.k8 FnWellFounded.k9 FnWellFounded.k10 FnWellFounded.k11 FnWellFounded.k12 FnWellFounded.k13 FnWellFounded.k14 FnWellFounded.k15 FnWellFounded.k16 FnWellFounded.k17 FnWellFounded.k18 FnWellFounded.k19 FnWellFounded.k20 FnWellFounded.k21 FnWellFounded.k22 FnWellFounded.k23 FnWellFounded.k24 FnWellFounded.k25 FnWellFounded.k26 FnWellFounded.k27 FnWellFounded.k28 FnWellFounded.k29 FnWellFounded.k30 FnWellFounded.k31
theorem FnWellFounded_holds:Rows.FnWellFoundedSaid:=
 OpenClaim.holds_of_wide 4 Tryz.f4 rfl rfl rfl rfl rfl rfl rfl ⟨rfl,rfl,rfl,rfl,rfl⟩ rfl rfl rfl rfl rfl (by kernel_rfl) Tryz.func4 FnWellFounded.closed
  (of_decide_eq_true (by kernel_rfl)) (by unfold Func.isWrapper;first|(rw[if_pos (by decide+kernel)];kernel_rfl)|(rw[if_neg (by decide+kernel)];exact⟨rfl,rfl⟩))
  (fun os started H enc _=>FnWellFounded.lifted os started H enc)
#print axioms FnWellFounded_holds
end Go.Proofs.YtnogdfionomoaaaGreat
