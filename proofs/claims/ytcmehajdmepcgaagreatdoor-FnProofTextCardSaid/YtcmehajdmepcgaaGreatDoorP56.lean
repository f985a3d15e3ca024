/- 'laws.FnProofText' returns true for every input, and each argument reads behind the call as it read before: no condition. -/
import Derived.LaidMore
import Derived.Deep.DeepLaidRun
import Derived.MakeChecks
import Derived.SevenTiedAt
import Derived.Test.YtcmehajdmepcgaaGreatDoorRows
import Derived.Test.YtcmehajdmepcgaaGreatDoorCards
import Derived.Test.YtcmehajdmepcgaaGreatDoorTie
import Derived.Test.YtcmehajdmepcgaaGreatDoorE2
namespace Go.Proofs.YtcmehajdmepcgaaGreatDoor
open Go.ChangeShapes Go.WideShapes Go.ChangeAt Go.RowKit Go.Vx
theorem FnProofText.own:ownKnob Tryz.prog.godebug=none:=by kernel_rfl
theorem FnProofText.laidOut:laidOutB Tryz.prog=true:=by kernel_rfl
theorem FnProofText.door_met(os:Os)(args:Array Value):laidMetH Tryz.prog Rows.fnProofTextRow.laid ((World.doorLaid Tryz.prog 62 os).forCall (fun _ _=>0) ⟨#[],args,[]⟩).memory:=by
 rw[MakeChecks.laidMetH_plain _ _ _ (by kernel_rfl)]
 exact laidMet_of_run3 8 (by kernel_rfl) (by kernel_rfl) (by kernel_rfl)
set_option maxRecDepth 100000 in
theorem FnProofText.lifted(os:Os)(started:os.Started)(H:Type)(enc:TypeId×Value→H):
  ReturnsInHanded {} Tryz.checked os 3 .any (fun w args=>(Rows.fnProofTextSpec.pre enc Tryz.prog Tryz.f3 [] false w args∧laidMetH Tryz.prog Rows.fnProofTextRow.laid w)∧sizedMet enc Tryz.prog Tryz.f3 (OpenSpec.ofChange Rows.fnProofTextSpec) false w args)
   (Rows.fnProofTextSpec.post enc Tryz.prog Tryz.f3 false true false false):=by
 refine returnsInHanded_of_change_and (C:=Tryz.checked) (X:=fun w _=>laidMetH Tryz.prog Rows.fnProofTextRow.laid w) (fun _ _ _ hh h=>h.of_heap hh) FnProofText.own started (by kernel_rfl) Tryz.func3
  (ChangeSpec.witness_shaped (enc:=enc) (C:=Tryz.checked) (os:=os) (X:=fun w _=>laidMetH Tryz.prog Rows.fnProofTextRow.laid w) false (World.doorLaid Tryz.prog 62 os) #[.slice none 0 0] 8 rfl (World.shaped_of_RefB (by kernel_rfl) (by kernel_rfl)) (by kernel_rfl) (by kernel_rfl) (by kernel_rfl) (FnProofText.door_met os _)) ?_
 intro W base args ds gs before hval0 hW _ _ _ _
 have hval:∀(j:Nat) t v,Tryz.f3.params[j]? =some t→args[j]? =some v→Value.okWide Tryz.prog W .any base t v:=hval0
 have hW':=hW
 obtain⟨p,q,hA0,hV,rfl,hfz,hnd⟩:=hW
 have hA:DataW.TrodAll enc Tryz.prog W 0 (fun _=>true) true Tryz.f3.params.toList args.toList ds p:=hA0
 rw[Tryz.params3]at hA hval
 obtain⟨v0,d0,rfl,rfl,h0⟩:=trodAll_one hA
 obtain⟨base0,n0,cap0,rfl,hr0⟩:=qGe Tryz.underlying22 Tryz.underlying5 (qFz ti5) (hval 0 _ _ rfl rfl) h0
 refine qJj FnProofText.laidOut (fn:=Tryz.f3) (tb:=4) ?_ (by kernel_rfl) qMd rfl rfl hW' ⟨Tryz.f3,Tryz.func3,by kernel_rfl,by kernel_rfl⟩ ?_
 ·intro t ht
  have:Tryz.f3.params.toList=[22]:=by rw[Tryz.params3]
  rw[this]at ht
  simp only[List.mem_cons,List.not_mem_nil,or_false]at ht
  subst ht
  exact⟨by kernel_rfl,of_decide_eq_true (by kernel_rfl)⟩
 ·exact qW hr0
theorem FnProofText.k0:(Rows.fnProofTextRow.wf (OpenSpec.ofChange Rows.fnProofTextSpec))=true:=by kernel_rfl
theorem FnProofText.k1:(laidOutB Tryz.pinned.checked.prog)=true:=by kernel_rfl
theorem FnProofText.k2:(mapsRowed Tryz.pinned.checked.prog)=true:=by kernel_rfl
theorem FnProofText.k3:(Tryz.f3.params.all (Tryz.pinned.checked.prog.readableRec ·))=true:=by kernel_rfl
theorem FnProofText.k4:(namedTie Tryz.pinned.checked.prog Rows.fnProofTextRow.named Rows.fnProofTextSpec.vars)=true:=by kernel_rfl
theorem FnProofText.k5:(Rows.fnProofTextRow.stops==[])=true:=by kernel_rfl
theorem FnProofText.k6:(Tryz.pinned.checked.prog.stops==[])=true:=by kernel_rfl
theorem FnProofText.k7:(Rows.fnProofTextRow.knobs==[])=true:=by kernel_rfl
theorem FnProofText.k8:(Tryz.pinned.checked.prog.stopKnobs==[])=true:=by kernel_rfl
theorem FnProofText.k9:(Rows.fnProofTextRow.inPlace==Tryz.pinned.checked.prog.inPlace 3)=true:=by kernel_rfl
theorem FnProofText.k10:(Rows.fnProofTextRow.unfollowed==Tryz.pinned.checked.prog.unfollowed 3)=true:=by kernel_rfl
theorem FnProofText.k11:(Rows.fnProofTextRow.recurses==Tryz.pinned.checked.prog.recurses 3)=true:=by kernel_rfl
theorem FnProofText.k12:(Rows.fnProofTextRow.named==Tryz.pinned.checked.prog.varsNamed 3)=true:=by kernel_rfl
theorem FnProofText.k13:(Rows.fnProofTextRow.maps==(Tryz.f3.params.toList++Rows.fnProofTextSpec.plain.varTypes Tryz.pinned.checked.prog).any (Tryz.pinned.checked.prog.mapsRec ·))=true:=by kernel_rfl
theorem FnProofText.k14:(Rows.fnProofTextRow.ifaces==(Tryz.f3.params.toList++Rows.fnProofTextSpec.plain.varTypes Tryz.pinned.checked.prog).any (Tryz.pinned.checked.prog.ifacesRec ·))=true:=by kernel_rfl
theorem FnProofText.k15:(Rows.fnProofTextRow.mapsOut==Tryz.pinned.checked.prog.mapsAmong Tryz.f3.resultTypes.toList)=true:=by kernel_rfl
theorem FnProofText.k16:(Rows.fnProofTextRow.loops==(Tryz.f3.params.toList++Rows.fnProofTextSpec.plain.varTypes Tryz.pinned.checked.prog).any (Tryz.pinned.checked.prog.loopsFrom ·))=true:=by kernel_rfl
theorem FnProofText.k17:(Rows.fnProofTextRow.wideKeys==(Tryz.f3.params.toList++Rows.fnProofTextSpec.plain.varTypes Tryz.pinned.checked.prog++Tryz.f3.resultTypes.toList).any (Tryz.pinned.checked.prog.wideKeysFrom ·))=true:=by kernel_rfl
theorem FnProofText.k18:(Rows.fnProofTextSpec.vars.all (Tryz.pinned.checked.prog.varReadable ·))=true:=by kernel_rfl
theorem FnProofText.k19:(Tryz.f3.resultTypes.all (fun t=>Tryz.pinned.checked.prog.readableRec t&&decide (t<Tryz.pinned.checked.prog.types.size)))=true:=by kernel_rfl
theorem FnProofText.k20:(Rows.fnProofTextRow.ifacesOut==Tryz.f3.resultTypes.toList.any (Tryz.pinned.checked.prog.ifacesRec ·))=true:=by kernel_rfl
theorem FnProofText.k21:(Rows.fnProofTextRow.loopsOut==Tryz.f3.resultTypes.toList.any (Tryz.pinned.checked.prog.loopsFrom ·))=true:=by kernel_rfl
theorem FnProofText.k22:(Rows.fnProofTextRow.plainKeys==Tryz.pinned.checked.prog.plainKeys)=true:=by kernel_rfl
theorem FnProofText.k23:(Rows.fnProofTextRow.shortTexts.isNone)=true:=by kernel_rfl
theorem FnProofText.k24:(Tryz.pinned.checked.prog.stopsHeard)=true:=by kernel_rfl
theorem FnProofText.k25:(Tryz.pinned.checked.prog.mayEnter)=true:=by kernel_rfl
theorem FnProofText.k26:(Rows.fnProofTextRow.lifted==Tryz.pinned.checked.prog.liftsFinal)=true:=by kernel_rfl
theorem FnProofText.k27:(Tryz.pinned.checked.prog.make==some Rows.fnProofTextRow.make)=true:=by kernel_rfl
theorem FnProofText.k28:(Rows.fnProofTextRow.kinds==(if Rows.fnProofTextRow.domain.isEmpty then []else Tryz.f3.params.toList.map fun t=>match Tryz.pinned.checked.prog.underlying t with|some (.int k)=>some k|_=>none))=true:=by kernel_rfl
theorem FnProofText.k29:(Rows.fnProofTextRow.pinned==Rows.fnProofTextRow.pinnedBy)=true:=by kernel_rfl
theorem FnProofText.k30:(Rows.fnProofTextRow.veiled==(Tryz.f3.params.toList++Rows.fnProofTextSpec.plain.varTypes Tryz.pinned.checked.prog++Tryz.f3.resultTypes.toList).any (Tryz.pinned.checked.prog.veiledRec ·))=true:=by kernel_rfl
theorem FnProofText.k31:(Rows.fnProofTextRow.veiledFits Tryz.pinned.checked.prog Tryz.f3.params.toList (Tryz.f3.params.toList++Rows.fnProofTextSpec.plain.varTypes Tryz.pinned.checked.prog++Tryz.f3.resultTypes.toList))=true:=by kernel_rfl
theorem FnProofText.and2{a b:Bool}(h1:a=true)(h2:b=true):(a&&b)=true:=by rw[h1,h2];rfl
theorem FnProofText.joined{P:Program}{f:FuncId}{fn:Func}{s:ChangeSpec}{c:OpenClaim}(h0:(c.wf (OpenSpec.ofChange s))=true)(h1:(laidOutB P)=true)(h2:(mapsRowed P)=true)(h3:(fn.params.all (P.readableRec ·))=true)(h4:(namedTie P c.named s.vars)=true)(h5:(c.stops==[])=true)(h6:(P.stops==[])=true)(h7:(c.knobs==[])=true)(h8:(P.stopKnobs==[])=true)(h9:(c.inPlace==P.inPlace f)=true)(h10:(c.unfollowed==P.unfollowed f)=true)(h11:(c.recurses==P.recurses f)=true)(h12:(c.named==P.varsNamed f)=true)(h13:(c.maps==(fn.params.toList++s.plain.varTypes P).any (P.mapsRec ·))=true)(h14:(c.ifaces==(fn.params.toList++s.plain.varTypes P).any (P.ifacesRec ·))=true)(h15:(c.mapsOut==P.mapsAmong fn.resultTypes.toList)=true)(h16:(c.loops==(fn.params.toList++s.plain.varTypes P).any (P.loopsFrom ·))=true)(h17:(c.wideKeys==(fn.params.toList++s.plain.varTypes P++fn.resultTypes.toList).any (P.wideKeysFrom ·))=true)(h18:(s.vars.all (P.varReadable ·))=true)(h19:(fn.resultTypes.all (fun t=>P.readableRec t&&decide (t<P.types.size)))=true)(h20:(c.ifacesOut==fn.resultTypes.toList.any (P.ifacesRec ·))=true)(h21:(c.loopsOut==fn.resultTypes.toList.any (P.loopsFrom ·))=true)(h22:(c.plainKeys==P.plainKeys)=true)(h23:(c.shortTexts.isNone)=true)(h24:(P.stopsHeard)=true)(h25:(P.mayEnter)=true)(h26:(c.lifted==P.liftsFinal)=true)(h27:(P.make==some c.make)=true)(h28:(c.kinds==(if c.domain.isEmpty then []else fn.params.toList.map fun t=>match P.underlying t with|some (.int k)=>some k|_=>none))=true)(h29:(c.pinned==c.pinnedBy)=true)(h30:(c.veiled==(fn.params.toList++s.plain.varTypes P++fn.resultTypes.toList).any (P.veiledRec ·))=true)(h31:(c.veiledFits P fn.params.toList (fn.params.toList++s.plain.varTypes P++fn.resultTypes.toList))=true):joinedFacts P f fn s c=true:=by
 unfold joinedFacts
 exact FnProofText.and2 (FnProofText.and2 (FnProofText.and2 (FnProofText.and2 (FnProofText.and2 (FnProofText.and2 (FnProofText.and2 (FnProofText.and2 (FnProofText.and2 (FnProofText.and2 (FnProofText.and2 (FnProofText.and2 (FnProofText.and2 (FnProofText.and2 (FnProofText.and2 (FnProofText.and2 (FnProofText.and2 (FnProofText.and2 (FnProofText.and2 (FnProofText.and2 (FnProofText.and2 (FnProofText.and2 (FnProofText.and2 (FnProofText.and2 (FnProofText.and2 (FnProofText.and2 (FnProofText.and2 (FnProofText.and2 (FnProofText.and2 (FnProofText.and2 (FnProofText.and2 (h0) h1) h2) h3) h4) h5) h6) h7) h8) h9) h10) h11) h12) h13) h14) h15) h16) h17) h18) h19) h20) h21) h22) h23) h24) h25) h26) h27) h28) h29) h30) h31
theorem FnProofText.closed:joinedFacts Tryz.pinned.checked.prog 3 Tryz.f3 Rows.fnProofTextSpec Rows.fnProofTextRow=true:=FnProofText.joined (P:=Tryz.pinned.checked.prog) (f:=3) (fn:=Tryz.f3) (s:=Rows.fnProofTextSpec) (c:=Rows.fnProofTextRow) FnProofText.k0 FnProofText.k1 FnProofText.k2 FnProofText.k3 FnProofText.k4 FnProofText.k5 FnProofText.k6 FnProofText.k7 FnProofText.k8 FnProofText.k9 FnProofText.k10 FnProofText.k11 FnProofText.k12 FnProofText.k13 FnProofText.k14 FnProofText.k15 FnProofText.k16 FnProofText.k17 FnProofText.k18 FnProofText.k19 FnProofText.k20 FnProofText.k21 FnProofText.k22 FnProofText.k23 FnProofText.k24 FnProofText.k25 FnProofText.k26 FnProofText.k27 FnProofText.k28 FnProofText.k29 FnProofText.k30 FnProofText.k31
theorem FnProofText_holds:Rows.FnProofTextSaid:=
 OpenClaim.holds_of_wide 3 Tryz.f3 rfl rfl rfl rfl rfl rfl rfl ⟨rfl,rfl,rfl,rfl,rfl⟩ rfl rfl rfl rfl rfl (by kernel_rfl) Tryz.func3 FnProofText.closed
  (of_decide_eq_true (by kernel_rfl)) (by unfold Func.isWrapper;first|(rw[if_pos (by decide+kernel)];kernel_rfl)|(rw[if_neg (by decide+kernel)];exact⟨rfl,rfl⟩))
  (fun os started H enc _=>FnProofText.lifted os started H enc)
theorem FnProofText.plain(f:FuncId)(fn:Func)(hf:Tryz.pinned.checked.prog.funcNamed "loop.example/g03210/laws.FnProofText" =some f)(hfn:Tryz.pinned.checked.prog.funcs[f]? =some fn):
  true=Tryz.pinned.checked.prog.looks []∧∀(j:Nat) t,fn.params[j]? =some t→Tryz.pinned.checked.prog.wantsStandIn t=false:=by
 obtain rfl:f=3:=Option.some.inj ((show Tryz.prog.funcNamed "loop.example/g03210/laws.FnProofText" =some 3 by kernel_rfl).symm.trans hf) |>.symm
 obtain rfl:fn=Tryz.f3:=(Option.some.inj (Tryz.func3.symm.trans hfn)).symm
 refine⟨by kernel_rfl,fun j t ht=>?_⟩
 rw[Tryz.params3]at ht
 obtain rfl:t=22:=by simpa using Array.mem_of_getElem? ht
 exact(show Tryz.prog.wantsStandIn 22=false by kernel_rfl)
theorem FnProofTextCard_holds:Rows.FnProofTextCardSaid:=
 Claim7.holds_tied_plain_at .later [] _ _ _ _ FnProofText_holds (fun _ h=>by cases h) (by kernel_rfl) (fun _ h=>by cases h) fnProofText_row_tie rfl ⟨rfl,rfl⟩ (by kernel_rfl) rfl FnProofText.plain (by kernel_rfl)
#print axioms FnProofTextCard_holds
end Go.Proofs.YtcmehajdmepcgaaGreatDoor
