/- Texts of the proof, part E2. -/
import Derived.Test.YtnogdfionomoaaaGreatE1
namespace Go.Vx
open Go.Proofs Classical
section
variable {μ:Mem}
set_option maxHeartbeats 4000000 in
theorem yN{base:Option Addr}{n cap:Nat}(hb:Bytes μ base n):
  Spec Tryz.prog 5 [.slice base n cap] μ fun r _=>r= .bool true:=by
 refine Spec.mk Tryz.func5 (by kernel_rfl) ?_
 refine ifd (fun h=>rPl rfl) (fun h=>?_)
 refine cPl (gX hb 0 (by decide) 1 (.inl rfl)) fun v1 μ1 hle1 hR=>?_
 obtain⟨p,hp,hrp⟩:=hR
 have w_:=Pg.invV hrp
 obtain⟨q,rfl⟩:=w_
 intro r3
 refine cPl (gD (hb.mono hle1) 60 (by decide) 2 (by decide) (by decide)) fun v2 μ2 hle2 hR=>?_
 obtain⟨U,hU,hrU⟩:=hR
 have w_:=Rep.sl hrU
 obtain⟨ub,uc,rfl,hus⟩:=w_
 rw[List.length_map,List.length_map]at hus ⊢
 have hus0:Sl μ2 4 ub (U.map T.tm).length ((U.map T.tm).map Tm.d):=by rw[List.length_map];exact hus
 have huo:=hU.ok (by decide)
 have hgr:bK p U=some (aN p U):=mA hp.small2 hU.max
 have hgo:aJ p (U.map T.tm)=some (aN p U):=by rw[aJ,if_pos ⟨hp.ok,huo⟩,bW];exact hgr
 have hU1:0<U.length:=hU.pos
 have hgk:=bI hgo
 have hrp2:=hrp.mono hle2
 have hpos:=hp.pos (by decide)
 have hwu:D.wds ((U.map T.tm).map Tm.d):=jS fun a ha=>by
  have:=(huo.gnd _ (List.mem_map_of_mem ha)).1.toT.1.1
  rwa [T.toT_tm]at this
 refine cPl (gG ((hb.mono hle1).mono hle2) 80 (by decide) hrp2 hus hp.ok hp.ne huo hU.max) fun v3 μ3 hle3 hR3=>?_
 obtain⟨L,hL,hLl,hrL⟩:=hR3
 have w_:=FsV.sl hrL
 obtain⟨fb,fc,rfl,-,hsL3⟩:=w_
 refine cPl (fZ (hrp2.mono hle3) (hus.mono hle3) hp.ok hp.ne huo hU.max) fun v4 μ4 hle4 hR4=>?_
 obtain⟨A,tv4,rfl,hA,hA1,hA2,hrA⟩:=hR4
 have w_:=FsV.sl hrA
 obtain⟨ab,ac,rfl,-,hsA⟩:=w_
 have hle24:=hle3.trans hle4
 have hsL:=hsL3.mono hle4
 have hrL4:=hrL.mono hle4
 refine cPl (qEz ((hb.mono hle1).mono (hle2.trans hle24)) 100 (by decide)) fun v5 μ5 hle5 hR5=>?_
 obtain⟨e5,k,rfl,hk⟩:=hR5
 obtain rfl:=e5.symm
 refine aE (by omega) ?_
 have hkl:=Nat.mod_lt k (show 0<A.length by omega)
 have e1:(k:Int).tmod (A.length:Int)=((k % A.length:Nat):Int):=by rw[Int.ofNat_tmod]
 refine nEq e1 ?_
 have w_:=aSo (l:=A) (i:=k % A.length) hkl
 obtain⟨f,hf⟩:=w_
 have hfA:=mAt hf
 have w_:=F.elemV hsA hf
 obtain⟨ad,pf,hel,hrf⟩:=w_
 refine eIn hel ?_
 intro r8
 have hff:=hA.fit f hfA
 have hLf:FsU p U (aX L f):=hL.ins hff (hA.uni f hfA)
 have hfin:f∈aX L f:=mem_insF.2 (.inl rfl)
 have hMF:=hL.lfp hU1 hgk.2
 have hXF:=hLf.lfp hU1 hgk.2
 have hbm:=kX hL hpos hgo
 have hbx:=kX hLf hpos hgo
 have hadd:=qQp hpos hgo hL hA hfA
 have hrem:=qSj hpos hgo hLf hfin
 have hfX:f∈lfp (aN p U) (aX L f):=mW hfin
 have hovM:=qPm hpos hgo hXF hfX
 have hMX:∀g∈lfp (aN p U) L,g∈lfp (aN p U) (aX L f):=qGe fun g hg=>mW (mem_insF.2 (.inr hg))
 have hBX:∀g∈lfp (aN p U) ((aX L f).filter fun x=>decide (x≠f)),g∈lfp (aN p U) (aX L f):=qGe fun g hg=>mW (List.mem_filter.1 hg).1
 have hsame:f∉L→lfp (aN p U) ((aX L f).filter fun x=>decide (x≠f))=lfp (aN p U) L:=fun h=>by rw[rem_ins hL.asc h]
 have hor:=fun g (hg:g∈lfp (aN p U) (aX L f))=>gone_or hg
 have hfG:f∈mZ (aN p U) (lfp (aN p U) (aX L f)) [f]:=mem_overF.2 (.self (by simp))
 have hMl:=(gJ hbm).2.2.1
 have hXl:=(gJ hbx).2.2.1
 have hil:=cC L f
 have hfail:=qQq hp.ok huo hU.max hL hA hfA
 have hold:f∈L→aX L f=L:=jV hL.asc
 rw[List.length_map]at hMl hXl
 generalize lfp (aN p U) ((aX L f).filter fun x=>decide (x≠f))=BK at*
 generalize mZ (aN p U) (lfp (aN p U) (aX L f)) [f]=G at*
 generalize lfp (aN p U) (aX L f)=X at*
 generalize lfp (aN p U) L=M at*
 have hbs:=bG (μ:=μ4) (l:=L.map F.fc) (fb:=fb) (fc:=fc) (uc:=uc) (hrp2.mono hle24) (hus0.mono hle24) (by rw[List.length_map];exact hrL4) (by rw[List.length_map];omega)
 rw[List.length_map,List.length_map,hbm]at hbs
 refine cPl hbs fun v6 μ6 hle6 hR6=>?_
 obtain⟨tv6,rfl,hR6⟩:=hR6
 have w_:=FsV.sl (L:=M) hR6.rep
 obtain⟨b6,c6,rfl,-,hs6⟩:=w_
 have has:=uV (μ:=μ6) (l:=L.map F.fc) (m:=M.map F.fc) (f:=f.fc) (fb:=fb) (fc:=fc) (mb:=b6) (mc:=c6) (uc:=uc) (hrp2.mono (hle24.trans hle6)) (hus0.mono (hle24.trans hle6)) (by rw[List.length_map];exact hrL4.mono hle6) (by rw[List.length_map];omega) (by rw[List.length_map];exact hs6) (hrf.mono hle6)
 rw[List.length_map,List.length_map,List.length_map,hadd]at has
 refine cPl has fun v7 μ7 hle7 hR7=>?_
 obtain⟨tv7,rfl,hR7⟩:=hR7
 have w_:=FsV.sl (L:=X) hR7.rep
 obtain⟨b7,c7,rfl,-,hs7⟩:=w_
 have hb40:∀k:Nat,k≤100000000→k*40≤140737488355328:=fun k hk=>by omega
 have hle47:=hle6.trans hle7
 intro r60
 have w_:=Rep.srcAll (hrL4.mono hle47)
 obtain⟨ys,hys,hyl,hys2⟩:=w_
 refine aG ys hys2 ?_
 refine gIn ?_ ?_ fun b1 c1 _=>?_
 ·exact hb40 _ (by omega)
 ·exact Nat.le_trans (m:=100000000) (by omega) (by decide)
 rw[List.nil_append]
 refine cGv (iE (hsL.mono hle47) (hrf.mono hle47)) ?_
 refine aK (fun hfL=>?_) (fun hfL=>?_)
 ·have e := hsame hfL
  subst e
  refine cPl (qBo (hrp2.mono (hle24.trans hle47)) hp.ok) fun va μa hla hRa=>?_
  have w_:=Pg.invV hRa
  obtain⟨qa,ea⟩:=w_
  have ea:va= .slice qa.1 (qZ p).rels.length qa.2:=congrArg (fun v=>match v with|Value.agg a=>a.toList.headD (.bool true)|_=> .bool true) ea
  subst ea
  have hafs:=vI (μ:=μa) (p:=qZ p) (l:=L.map F.fc) (m:=L.map F.fc) (f:=f.fc) (fb:=fb) (fc:=fc) (mb:=fb) (mc:=fc) (uc:=uc) hRa (zK hp.ok).wd (hus0.mono ((hle24.trans hle47).trans hla)) hwu (by rw[List.length_map];exact hrL4.mono (hle47.trans hla)) (zM hp.ok hL.fit.lift) (by rw[List.length_map];omega) (by rw[List.length_map];exact hsL.mono (hle47.trans hla)) (zM hp.ok hL.fit.lift) (hrf.mono (hle47.trans hla)) (hff.wd hp.ok)
  rw[List.length_map,List.length_map,hfail]at hafs
  refine cPl hafs fun vb μb hlb hRb=>?_
  obtain⟨tvb,rfl,hRb⟩:=hRb
  have w_:=FsV.sl (L:=aX L f) hRb
  obtain⟨bb,cb,rfl,-,-⟩:=w_
  have hlab:=hla.trans hlb
  have hrs:=lB (μ:=μb) (l:=(aX L f).map F.fc) (m:=X.map F.fc) (f:=f.fc) (fb:=bb) (fc:=cb) (mb:=b7) (mc:=c7) (uc:=uc) (hrp2.mono ((hle24.trans hle47).trans hlab)) (hus0.mono ((hle24.trans hle47).trans hlab)) (by rw[List.length_map];exact hRb) (by rw[List.length_map];omega) (by rw[List.length_map];exact hs7.mono hlab) (hrf.mono (hle47.trans hlab))
  rw[List.length_map,List.length_map,List.length_map]at hrs
  refine cPl hrs fun v9 μ9 hle9 hR9=>?_
  rw[hrem]at hR9
  obtain⟨tv9,rfl,hR9⟩:=hR9
  have w_:=FsV.sl hR9.rep
  obtain⟨b9,c9,rfl,-,hs9⟩:=w_
  refine iIn (fun h=>nomatch h) (fun _=>?_)
  refine iIn (fun h=>nomatch h) (fun _=>?_)
  refine iIn (fun h=>nomatch h) (fun _=>?_)
  have hle79:=hlab.trans hle9
  refine cGv (iE (hs7.mono hle79) (hrf.mono ((hle6.trans hle7).trans hle79))) ?_
  refine aK (fun h=>absurd hfX h) (fun _=>?_)
  refine cGv (cK (hs6.mono (hle7.trans hle79)) (hs7.mono hle79)) ?_
  refine aK (fun h=>absurd hMX h) (fun _=>?_)
  refine cGv (cK hs9 (hs7.mono hle79)) ?_
  refine aK (fun h=>absurd hBX h) (fun _=>?_)
  have hle49:=((hle5.trans hle6).trans hle7).trans hle79
  refine cGv (iE (hsL.mono hle49) (hrf.mono ((hle6.trans hle7).trans hle79))) ?_
  have hover:=kG (μ:=μ9) (m:=X.map F.fc) (f:=f.fc) (mb:=b7) (mc:=c7) (uc:=uc) (hrp2.mono (hle24.trans hle49)) (hus0.mono (hle24.trans hle49)) (by rw[List.length_map];exact hs7.mono hle79) (by rw[List.length_map];omega) (hrf.mono ((hle6.trans hle7).trans hle79))
  rw[List.length_map,List.length_map,hovM]at hover
  refine aK (fun _=>?_) (fun h=>absurd h hfL)
  refine aK (fun h=>absurd rfl h) (fun _=>?_)
  refine cGv (cK hs9 (hs6.mono (hle7.trans hle79))) ?_
  refine aK (fun h=>absurd (fun f hf=>hf) h) (fun _=>?_)
  refine cPl hover fun v10 μ10 hle10 hR10=>?_
  have w_:=FsV.sl (L:=G) hR10.rep
  obtain⟨b10,c10,rfl,-,hs10⟩:=w_
  have hle910:=hle79.trans hle10
  refine lIn (fun i:Nat=>i≤X.length) (fun i=>⟨[(8,.loc 1 r8 0),(14,.val (.slice b9 BK.length c9)),(16,.val (.slice b10 G.length c10)),(137,.val (.slice b7 X.length c7)),(138,.val (.int .i64 X.length)),(139,.val (.int .i64 i))],[(1,some (.cells r8 [.val (.string f.rel),.val (.slice pf.1 f.args.length pf.2)] 41))],2,μ10,Mem.nil⟩) (fun i=>X.length-i)
   0 (Nat.zero_le _) (fun _=>⟨rfl,rfl⟩) ⟨⟨rfl,rfl,rfl,rfl,rfl,rfl,trivial⟩,⟨rfl,trivial⟩,rfl,rfl⟩ ?_
  intro i hi
  refine ifd (fun hlt=>?_) (fun hlt=>?_)
  ·have w_ := aSo (l := X) (i := i) (by omega)
   obtain⟨g,hg⟩:=w_
   have w_:=F.elemV (hs7.mono hle910) hg
   obtain⟨ad,p2,hel,hrg⟩:=w_
   refine eIn hel ?_
   intro r18
   refine cGv (iE hs10 hrg) ?_
   refine aK (fun hng=>?_) (fun _=>?_)
   ·refine cGv (iE (hs9.mono hle10) hrg) ?_
    refine aK (fun hnb=>absurd (hor g (mAt hg)) fun k=>k.elim hng hnb) (fun _=>?_)
    exact aB (by omega) (by omega) ⟨i+1,by omega,by omega,⟨⟨rfl,rfl,rfl,rfl,rfl,rfl,trivial⟩,⟨rfl,trivial⟩,rfl,rfl⟩⟩
   ·exact aB (by omega) (by omega) ⟨i+1,by omega,by omega,⟨⟨rfl,rfl,rfl,rfl,rfl,rfl,trivial⟩,⟨rfl,trivial⟩,rfl,rfl⟩⟩
  ·refine cGv (iE hs10 (hrf.mono ((hle6.trans hle7).trans hle910))) ?_
   refine rPl ?_
   rw[decide_eq_true hfG]
 ·refine aW [2] fun μa hla hnoa hata => ?_
  have e:=hold hfL
  have hpr:FsV μa L (.slice (b1.map fun r=>⟨r,0,none⟩) ys.length c1):=Rows.sl hata (hys.mono hla) (Nat.le_trans (m:=100000000) (by omega) (by decide))
  rw[hyl]at hpr ⊢
  have hrs:=lB (μ:=μa) (l:=(aX L f).map F.fc) (m:=X.map F.fc) (f:=f.fc) (fb:=b1.map fun r=>⟨r,0,none⟩) (fc:=c1) (mb:=b7) (mc:=c7) (uc:=uc) (hrp2.mono ((hle24.trans hle47).trans hla)) (hus0.mono ((hle24.trans hle47).trans hla)) (by rw[List.length_map,e];exact hpr) (by rw[List.length_map];omega) (by rw[List.length_map];exact hs7.mono hla) (hrf.mono (hle47.trans hla))
  rw[List.length_map,List.length_map,List.length_map]at hrs
  rw[show(aX L f).length=L.length by rw[e]]at hrs
  refine bH hrs fun v9 μ9 hle9 hR9=>?_
  rw[hrem]at hR9
  obtain⟨tv9,rfl,hR9⟩:=hR9
  have w_:=FsV.sl hR9.rep
  obtain⟨b9,c9,rfl,-,hs9⟩:=w_
  refine iIn (fun h=>nomatch h) (fun _=>?_)
  refine iIn (fun h=>nomatch h) (fun _=>?_)
  refine iIn (fun h=>nomatch h) (fun _=>?_)
  have hle79:=hla.trans hle9
  refine cGv (iE (hs7.mono hle79) (hrf.mono ((hle6.trans hle7).trans hle79))) ?_
  refine aK (fun h=>absurd hfX h) (fun _=>?_)
  refine cGv (cK (hs6.mono (hle7.trans hle79)) (hs7.mono hle79)) ?_
  refine aK (fun h=>absurd hMX h) (fun _=>?_)
  refine cGv (cK hs9 (hs7.mono hle79)) ?_
  refine aK (fun h=>absurd hBX h) (fun _=>?_)
  have hle49:=((hle5.trans hle6).trans hle7).trans hle79
  refine cGv (iE (hsL.mono hle49) (hrf.mono ((hle6.trans hle7).trans hle79))) ?_
  have hover:=kG (μ:=μ9) (m:=X.map F.fc) (f:=f.fc) (mb:=b7) (mc:=c7) (uc:=uc) (hrp2.mono (hle24.trans hle49)) (hus0.mono (hle24.trans hle49)) (by rw[List.length_map];exact hs7.mono hle79) (by rw[List.length_map];omega) (hrf.mono ((hle6.trans hle7).trans hle79))
  rw[List.length_map,List.length_map,hovM]at hover
  refine aK (fun h=>absurd hfL h) (fun _=>?_)
  refine cPl hover fun v10 μ10 hle10 hR10=>?_
  have w_:=FsV.sl (L:=G) hR10.rep
  obtain⟨b10,c10,rfl,-,hs10⟩:=w_
  have hle910:=hle79.trans hle10
  refine lIn (fun i:Nat=>i≤X.length) (fun i=>⟨[(8,.loc 1 r8 0),(14,.val (.slice b9 BK.length c9)),(16,.val (.slice b10 G.length c10)),(137,.val (.slice b7 X.length c7)),(138,.val (.int .i64 X.length)),(139,.val (.int .i64 i))],[(1,some (.cells r8 [.val (.string f.rel),.val (.slice pf.1 f.args.length pf.2)] 41))],2,μ10,Mem.nil⟩) (fun i=>X.length-i)
   0 (Nat.zero_le _) (fun _=>⟨rfl,rfl⟩) ⟨⟨rfl,rfl,rfl,rfl,rfl,rfl,trivial⟩,⟨rfl,trivial⟩,rfl,rfl⟩ ?_
  intro i hi
  refine ifd (fun hlt=>?_) (fun hlt=>?_)
  ·have w_ := aSo (l := X) (i := i) (by omega)
   obtain⟨g,hg⟩:=w_
   have w_:=F.elemV (hs7.mono hle910) hg
   obtain⟨ad,p2,hel,hrg⟩:=w_
   refine eIn hel ?_
   intro r18
   refine cGv (iE hs10 hrg) ?_
   refine aK (fun hng=>?_) (fun _=>?_)
   ·refine cGv (iE (hs9.mono hle10) hrg) ?_
    refine aK (fun hnb=>absurd (hor g (mAt hg)) fun k=>k.elim hng hnb) (fun _=>?_)
    exact aB (by omega) (by omega) ⟨i+1,by omega,by omega,⟨⟨rfl,rfl,rfl,rfl,rfl,rfl,trivial⟩,⟨rfl,trivial⟩,rfl,rfl⟩⟩
   ·exact aB (by omega) (by omega) ⟨i+1,by omega,by omega,⟨⟨rfl,rfl,rfl,rfl,rfl,rfl,trivial⟩,⟨rfl,trivial⟩,rfl,rfl⟩⟩
  ·refine cGv (iE hs10 (hrf.mono ((hle6.trans hle7).trans hle910))) ?_
   refine rPl ?_
   rw[decide_eq_true hfG]
end
end Go.Vx
