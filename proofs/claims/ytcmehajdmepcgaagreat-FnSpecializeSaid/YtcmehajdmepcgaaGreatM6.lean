/- Texts of the proof, part M6. -/
import Derived.Test.YtcmehajdmepcgaaGreatM5
namespace Go.Vx
open Go.Proofs Classical
section
variable {μ:Mem}
structure Uni (most:Nat) (xs:List T):Prop where
 asc:AscT xs
 pos:1≤xs.length
 max:xs.length≤most
 drawn:∀t∈xs,Drawn 2 0 t
theorem Uni.ok{most:Nat}{xs:List T}(h:Uni most xs)(hm:most≤8):UnivOk (xs.map T.tm) where
 pos:=by rw[List.length_map];exact h.pos
 max:=by rw[List.length_map];exact Nat.le_trans h.max hm
 gnd:=fun t ht=>by
  have w_:=List.mem_map.1 ht
  obtain⟨x,hx,rfl⟩:=w_
  have hd:=h.drawn x hx
  refine⟨(hd.ok (by decide)).tm,?_⟩
  rw[T.toT_tm]
  rcases hvs:x.vars with _|⟨a,l⟩
  ·rfl
  ·have := hd.low a (sH (by rw [hvs]; simp))
   omega
 asc:=fun i x y hx hy=>by
  rw[List.getElem?_map]at hx hy
  have w_:=Option.map_eq_some_iff.1 hx
  obtain⟨a,ha,rfl⟩:=w_
  have w_:=Option.map_eq_some_iff.1 hy
  obtain⟨b,hb,rfl⟩:=w_
  rw[T.toT_tm,T.toT_tm]
  exact h.asc i a b ha hb
set_option maxHeartbeats 1000000 in
theorem qY{h:Mem}{r:Nat}(hc:Cur μ h r h)(most:Nat)(hm:1≤most)(hm8:most≤8):
  SpecH Tryz.prog 21 [.pointer (some ⟨r,0,none⟩),.int .i64 most] μ h fun v μ' _=>∃xs,Uni most xs∧RepV μ' (.sl 4 ((xs.map T.tm).map Tm.d)) v:=by
 refine SpecH.mk [] Tryz.func21 (by kernel_rfl) ?_
 intro r7
 refine bD [0] fun μ0 hle0 hno0 hat0=>rT (aH (hc.mono hle0) most) fun v μ1 h1 hle1 hap1 hR=>?_
 obtain⟨e,hc1,k0,rfl,-,hk0,-⟩:=hR
 obtain rfl:=e.symm
 have hk0:=hk0 (by omega)
 have hr0:RepV μ0 (.sl 4 ((([]:List T).map T.tm).map Tm.d)) (.slice (some ⟨r7,0,none⟩) 0 0):=Rows.sl hat0 Rows.nil (Nat.zero_le _)
 refine aC (by omega) (by omega) ?_
 refine lIn (fun z:Nat×Nat×List T×(Option Addr×Nat)×Mem×Mem=>z.1+z.2.1=1+k0∧(z.1=0→z.2.2.1=[]∧z.2.2.2.1=(some ⟨r7,0,none⟩,0))∧(0<z.1→1≤z.2.2.1.length)∧z.2.2.1.length≤z.1∧RepV z.2.2.2.2.1 (.sl 4 ((z.2.2.1.map T.tm).map Tm.d)) (.slice z.2.2.2.1.1 z.2.2.1.length z.2.2.2.1.2)∧AscT z.2.2.1∧(∀t∈z.2.2.1,Drawn 2 0 t)∧Cur z.2.2.2.2.1 h r z.2.2.2.2.2)
  (fun(i,k,xs,(b,c),μ',h')=>⟨[(0,.val (.pointer (some ⟨r,0,none⟩))),(5,match i with|0=> .row 0 (some r7) 0 0|_+1=> .val (.slice b xs.length c)),(6,.val (.int .i64 k))],[],1,μ',h'⟩) (fun z=>z.2.1)
  (0,1+k0,[],(some ⟨r7,0,none⟩,0),μ0,h1) ⟨by dsimp only;omega,fun _=>⟨rfl,rfl⟩,fun h=>absurd h (by dsimp only;omega),Nat.zero_le _,hr0,(fun _ _ _ h=>nomatch h),(fun _ h=>nomatch h),hc1⟩ (fun(i,_,_,(_,_),_,_)=>match i with|0=>⟨rfl,rfl⟩|_+1=>⟨rfl,rfl⟩) ⟨⟨rfl,rfl,by show some (SV.val (.int .i64 _))=some (SV.val (.int .i64 _));congr 3,trivial⟩,trivial,rfl,rfl⟩ ?_
 clear hc1 hap1
 rintro⟨i,k,xs,⟨b,c⟩,μ1,h1⟩ ⟨hik,hz,hpos,hxl,hr,hasc,hdr,hc1⟩
 dsimp only at hik hz hpos hxl hr hasc hdr hc1
 match i with
 |0=>
  have w_:=hz rfl
  obtain⟨rfl,e⟩:=w_
  obtain⟨rfl,rfl⟩:=Prod.mk.inj e
  refine ifd (fun hlt=>?_) (fun hlt=>absurd hlt (by omega))
  refine cOw (aH hc1.at 2) fun v μ2 h2 hle2 hap2 hR=>?_
  obtain⟨e,hc2,k2,rfl,-,hk22,-⟩:=hR
  obtain rfl:=e.symm
  have hk22:=hk22 (by decide)
  have drawn:∃size:Nat,size≤1000∧1+2*(k2:Int)=(size:Int)∧lvB size≤2:=by
   have w_:k2=0∨k2=1:=by omega
   rcases w_ with rfl|rfl
   ·exact⟨1,by decide,rfl,by rw[lvB,if_neg (by decide)];decide⟩
   ·exact⟨3,by decide,rfl,by rw[qIn];decide⟩
  obtain⟨size,hs1,hs2,hs3⟩:=drawn
  refine aC (by omega) (by omega) (aC (by omega) (by omega) ?_)
  rw[hs2]
  refine cOw (dV 0 (by decide) size hs1 (hc1.trans hc2).at) fun v μ3 h3 hle3 hap3 hR=>?_
  obtain⟨hc3,t,hrt,hdt⟩:=hR
  refine cPl (lL (hr.mono hle3) hrt hasc (by omega)) fun v4 μ4 hle4 hR4=>?_
  obtain⟨ys,hry,hya,hym,hy1,hyl⟩:=hR4
  have w_:=Rep.sl hry
  obtain⟨by_,cy,rfl,-⟩:=w_
  rw[List.length_map,List.length_map]at hry ⊢
  refine aC (by omega) (by omega) ⟨(0+1,k-1,ys,(by_,cy),μ4,h3),⟨by dsimp only;omega,(fun e=>by simp at e),fun _=>hy1,by dsimp only;omega,hry,hya,fun y hy=>?_,((hc1.trans hc2).trans hc3).mono hle4⟩,by dsimp only;omega,⟨⟨rfl,rfl,?_,trivial⟩,trivial,rfl,rfl⟩⟩
  ·rcases hym y hy with rfl | hy
   ·exact hdt.mono hs3
   ·exact hdr y hy
  ·show some (SV.val (.int .i64 _)) = some (SV.val (.int .i64 _))
   congr 3;omega
 |i+1=>
  refine ifd (fun hlt=>?_) (fun hlt=>?_)
  ·refine cOw (aH hc1.at 2) fun v μ2 h2 hle2 hap2 hR => ?_
   obtain⟨e,hc2,k2,rfl,-,hk22,-⟩:=hR
   obtain rfl:=e.symm
   have hk22:=hk22 (by decide)
   have drawn:∃size:Nat,size≤1000∧1+2*(k2:Int)=(size:Int)∧lvB size≤2:=by
    have w_:k2=0∨k2=1:=by omega
    rcases w_ with rfl|rfl
    ·exact⟨1,by decide,rfl,by rw[lvB,if_neg (by decide)];decide⟩
    ·exact⟨3,by decide,rfl,by rw[qIn];decide⟩
   obtain⟨size,hs1,hs2,hs3⟩:=drawn
   refine aC (by omega) (by omega) (aC (by omega) (by omega) ?_)
   rw[hs2]
   refine cOw (dV 0 (by decide) size hs1 (hc1.trans hc2).at) fun v μ3 h3 hle3 hap3 hR=>?_
   obtain⟨hc3,t,hrt,hdt⟩:=hR
   refine cPl (lL (hr.mono hle3) hrt hasc (by omega)) fun v4 μ4 hle4 hR4=>?_
   obtain⟨ys,hry,hya,hym,hy1,hyl⟩:=hR4
   have w_:=Rep.sl hry
   obtain⟨by_,cy,rfl,-⟩:=w_
   rw[List.length_map,List.length_map]at hry ⊢
   refine aC (by omega) (by omega) ⟨((i+1)+1,k-1,ys,(by_,cy),μ4,h3),⟨by dsimp only;omega,(fun e=>by simp at e),fun _=>hy1,by dsimp only;omega,hry,hya,fun y hy=>?_,((hc1.trans hc2).trans hc3).mono hle4⟩,by dsimp only;omega,⟨⟨rfl,rfl,?_,trivial⟩,trivial,rfl,rfl⟩⟩
   ·rcases hym y hy with rfl | hy
    ·exact hdt.mono hs3
    ·exact hdr y hy
   ·show some (SV.val (.int .i64 _)) = some (SV.val (.int .i64 _))
    congr 3;omega
  ·exact rPl ⟨xs,⟨hasc,hpos (by omega),by omega,hdr⟩,hr⟩
theorem qO{base:Option Addr}{n cap:Nat}(hb:Bytes μ base n)(m:Int)(hm:m≤1000000)(most:Nat)(hm1:1≤most)(h8:most≤8):
  Spec Tryz.prog 5 [.slice base n cap,.int .i64 m,.int .i64 most] μ fun v μ'=>∃xs,Uni most xs∧RepV μ' (.sl 4 ((xs.map T.tm).map Tm.d)) v:=by
 refine Spec.mk Tryz.func5 (by kernel_rfl) ?_
 refine cOw (iT hb m hm) fun v μ1 h1 hle1 hap1 hR=>?_
 obtain⟨e,r,rfl,ho,hc1⟩:=hR
 obtain rfl:=e.symm
 refine cOw (qY hc1.at most hm1 h8) fun v μ2 h2 hle2 hap2 hR=>?_
 exact rPl hR
end
end Go.Vx
namespace Go.Vx
open Go.Proofs Classical
theorem F.eq_of{a b:F}(h1:a.rel=b.rel)(h2:a.args=b.args):a=b:=by
 cases a;cases b;cases h1;cases h2;rfl
section
variable {μ:Mem}
theorem F.invV{f:F}{v:Value}(h:RepV μ f.fc.d v):∃p:Fc.P,v= .agg #[.string f.rel,.slice p.1 f.args.length p.2]∧Sl μ 4 p.1 f.args.length ((f.args.map T.tm).map Tm.d):=by
 have w_:=Fc.inv h
 obtain⟨p,rfl,hA⟩:=w_
 have e:f.fc.args.length=f.args.length:=List.length_map _
 rw[e]
 refine⟨p,rfl,?_⟩
 have hA:Sl μ 4 p.1 f.fc.args.length (f.fc.args.map Tm.d):=hA
 rw[e]at hA
 exact hA
theorem F.elemV{l:List F}{base:Option Addr}{n:Nat}(h:Sl μ 2 base n ((l.map F.fc).map Fc.d)){i:Nat}{x:F}(hx:l[i]? =some x):∃ad,∃p:Fc.P,ElemAt μ base n 2 i ad [.string x.rel,.slice p.1 x.args.length p.2]∧RepV μ x.fc.d (.agg #[.string x.rel,.slice p.1 x.args.length p.2]):=by
 have w_:=Fc.elem h (i:=i) (x:=x.fc) (by rw[List.getElem?_map,hx];rfl)
 obtain⟨ad,p,h1,h2⟩:=w_
 have e:x.fc.cs p=[.string x.rel,.slice p.1 x.args.length p.2]:=by
  have e:x.fc.args.length=x.args.length:=List.length_map _
  show [Value.string x.rel,.slice p.1 x.fc.args.length p.2]=_
  rw[e]
 rw[e]at h1 h2
 exact⟨ad,p,h1,h2⟩
theorem qLi{f g:F}{v w:Value}(hv:RepV μ f.fc.d v)(hw:RepV μ g.fc.d w):aP Tryz.prog 44 [v,w] μ (.bool (decide (f=g))):=by
 have w_:=F.invV hv
 obtain⟨p,rfl,hp⟩:=w_
 have w_:=F.invV hw
 obtain⟨q,rfl,hq⟩:=w_
 refine Spec.mk Tryz.func44 (by kernel_rfl) ?_
 intro r2 r3
 refine ifd (fun h=>?_) (fun h=>?_)
 ·refine cGv (qKm hp hq) (rGv ?_ rfl)
  congr 1
  rw[Bool.eq_iff_iff,decide_eq_true_eq,decide_eq_true_eq]
  exact⟨fun e=>F.eq_of h e,fun e=>by rw[e]⟩
 ·refine rGv ?_ rfl
  rw[decide_eq_false fun e=>h (by rw[e])]
theorem qJa{l:List F}{f:F}{base:Option Addr}{cap:Nat}{w:Value}(hl:Sl μ 2 base l.length ((l.map F.fc).map Fc.d))(hw:RepV μ f.fc.d w):aP Tryz.prog 12 [.slice base l.length cap,w] μ (.bool (decide (f∈l))):=by
 have hmx:=aJ hl.max
 have w_:=F.invV hw
 obtain⟨q,rfl,hq⟩:=w_
 refine Spec.mk Tryz.func12 (by kernel_rfl) ?_
 intro r3
 refine lIn (fun i:Nat=>i≤l.length∧∀(j:Nat) x,j<i→l[j]? =some x→x≠f) (fun i=>⟨[(3,.loc 0 r3 0),(7,.val (.slice base l.length cap)),(8,.val (.int .i64 l.length)),(9,.val (.int .i64 i))],[(0,some (.cells r3 [.val (.string f.rel),.val (.slice q.1 f.args.length q.2)] 46))],1,μ,Mem.nil⟩) (fun i=>l.length-i)
  0 ⟨Nat.zero_le _,fun j x hj=>by omega⟩ (fun _=>⟨rfl,rfl⟩) ⟨⟨rfl,rfl,rfl,rfl,trivial⟩,⟨rfl,trivial⟩,rfl,rfl⟩ ?_
 rintro i ⟨hi,hall⟩
 refine ifd (fun hlt=>?_) (fun hlt=>?_)
 ·have w_ := aSo (l := l) (i := i) (by omega)
  obtain⟨x,hx⟩:=w_
  have w_:=F.elemV hl hx
  obtain⟨ad,p,hel,hrx⟩:=w_
  refine eIn hel ?_
  intro r6
  refine cGv (qLi hrx hw) ?_
  refine iIn (fun h=>?_) (fun h=>?_)
  ·have h : x = f := of_decide_eq_true h
   refine rGv ?_ rfl
   rw[decide_eq_true (by rw[←h];exact List.mem_of_getElem? hx)]
  ·have h : x ≠ f := of_decide_eq_false h
   refine aC (by omega) (by omega) ⟨i+1,⟨by omega,fun j y hj hy=>?_⟩,by omega,⟨⟨rfl,rfl,rfl,rfl,trivial⟩,⟨rfl,trivial⟩,rfl,rfl⟩⟩
   by_cases e:j=i
   ·subst e;rw[hx]at hy;cases hy;exact h
   ·exact hall j y (by omega) hy
 ·refine rGv ?_ rfl
  rw[decide_eq_false]
  intro hm
  have w_:=List.getElem?_of_mem hm
  obtain⟨j,hj⟩:=w_
  exact hall j f (by have:=(List.getElem?_eq_some_iff.1 hj).1;omega) hj rfl
end
end Go.Vx
