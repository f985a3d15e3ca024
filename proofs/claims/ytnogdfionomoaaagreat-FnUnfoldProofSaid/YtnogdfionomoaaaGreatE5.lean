/- Texts of the proof, part E5. -/
import Derived.Test.YtnogdfionomoaaaGreatE4
namespace Go.Vx
open Go.Proofs Classical
theorem turned{p:Pg}{nm:ByteArray}{cl ca:Int}{z:UnfD×List (List Gl)}(hpos:p.Pos)(h:UnfZ p nm cl ca z){x:Pf}(hc:x.cnt≤200)(hx:OkP p x):∃y,qOq p nm cl ca x=some y∧((z.1.pg p z.2).Ok∧y.cnt≤200∧OkP (z.1.pg p z.2) y)∧dM (z.1.pg p z.2) y=dM p x∧y.cnt≤x.cnt∧y.ht≤x.ht:=by
 have h1:=qOp hpos h.1 h.2 x.cnt x (Nat.le_refl _) hx
 have h2:=qEr (nm:=nm) (cl:=cl) (ca:=ca) (count:=z.2.length) (more:=(z.1.q.arity+z.1.q.locals).toNat) x.cnt x (Nat.le_refl _)
 exact⟨_,by rw[qDc h,if_pos ⟨hpos.1,hc,hx⟩],⟨h.2.2.2,by omega,h1.1⟩,h1.2,h2.1,h2.2⟩
section
variable {μ:Mem}
theorem qMg{P:Prop}[Decidable P]{f:F}{v:Value}(h:if P then RepV μ f.fc.d v else v= .agg #[.string ⟨#[]⟩,.slice none 0 0]):∃s b n c,v= .agg #[.string s,.slice b n c]:=by
 split at h
 ·have w_ := F.invV h
  obtain⟨p,rfl,_⟩:=w_
  exact⟨_,_,_,_,rfl⟩
 ·exact⟨_,_,_,_,h⟩
set_option maxHeartbeats 4000000 in
theorem qDr{base:Option Addr}{n cap:Nat}(hb:Bytes μ base n):
  Spec Tryz.prog 9 [.slice base n cap] μ fun r _=>r= .bool true:=by
 refine Spec.mk Tryz.func9 (by kernel_rfl) ?_
 refine ifd (fun h=>rPl rfl) (fun h=>?_)
 refine cPl (kV hb 0 (by decide) 1 (.inl rfl)) fun v1 μ1 hle1 hR=>?_
 obtain⟨p,hp,hrp⟩:=hR
 have w_:=Pg.inv hrp
 obtain⟨q,rfl,hrl⟩:=w_
 intro r3
 refine cPl (kD (hb.mono hle1) 60 (by decide) 2 (by decide) (by decide)) fun v2 μ2 hle2 hR=>?_
 obtain⟨U,hU,hrU⟩:=hR
 have w_:=Rep.sl hrU
 obtain⟨ub,uc,rfl,hus⟩:=w_
 rw[List.length_map,List.length_map]at hus ⊢
 have huo:=hU.ok (by decide)
 have hrp2:=hrp.mono hle2
 have hpos:=hp.pos (by decide)
 refine cPl (uU ((hb.mono hle1).mono hle2) 80 (by decide) hrp2 hus hp.ok huo) fun v3 μ3 hle3 hR3=>?_
 obtain⟨x,hrx,hxu⟩:=hR3
 have w_:=Pf.invV hrx
 obtain⟨px,rfl⟩:=w_
 intro r5
 have hle13:=hle2.trans hle3
 have hb3:=(hb.mono hle1).mono hle13
 refine cPl (oO hb3 100 0 2 (by decide) (by decide) (by decide) (by decide)) fun v4 μ4 hle4 hR4=>?_
 obtain⟨e,cl,rfl,hcl0,hcl2⟩:=hR4
 obtain rfl:=e.symm
 refine cPl (oO hb3 101 0 9 (by decide) (by decide) (by decide) (by decide)) fun v5 μ5 hle5 hR5=>?_
 obtain⟨e,k,rfl,hk0,hk9⟩:=hR5
 obtain rfl:=e.symm
 have hne:0<p.rels.length:=List.length_pos_iff.2 hp.ne
 have hp8:=hp.ok.1
 refine aC (by omega) ?_
 have hkn:k=((k.toNat:Nat):Int):=by omega
 have e1:k.tmod (p.rels.length:Int)=((k.toNat % p.rels.length:Nat):Int):=by
  conv=>lhs;rw[hkn]
  rw[Int.ofNat_tmod]
 refine nEq e1 ?_
 have w_:=aSo (l:=p.rels) (i:=k.toNat % p.rels.length) (Nat.mod_lt _ hne)
 obtain⟨rl,hrl2⟩:=w_
 have w_:=Rl.elem (hrl.mono hle13) hrl2
 obtain⟨ad,q2,hel,_⟩:=w_
 refine eIn hel ?_
 refine cPl (nA (nm:=rl.name) (clause:=cl) (call:=0) (hrp.mono hle13) ⟨by decide,by decide⟩) fun v6 μ6 hle6 hR6=>?_
 have hle16:=hle13.trans hle6
 rcases qAm p rl.name cl 0 with⟨hn1,hn2⟩|⟨z,hz,hzs⟩
 ·rw [hn1] at hR6
  have hR6:v6= .tuple #[.agg #[.slice none 0 0],.bool false]:=hR6
  subst hR6
  intro r8
  refine cPl (rT (nm:=rl.name) (cl:=cl) (ca:=0) (hrp.mono hle16) (hrx.mono hle6) ⟨by decide,by decide⟩) fun v7 μ7 hle7 hR7=>?_
  rw[hn2]at hR7
  have hR7:v7= .tuple #[zPf,.bool false]:=hR7
  subst hR7
  intro r10
  refine cPl (oG (hrp.mono (hle16.trans hle7)) (hrx.mono (hle6.trans hle7))) fun v8 μ8 hle8 hR8=>?_
  obtain⟨fv,rfl,hfv⟩:=hR8
  have w_:=qMg hfv
  obtain⟨fs,fb,fn,fc,rfl⟩:=w_
  intro r12
  refine cPl (kO (nm:=rl.name) (clause:=cl) (call:=0) (hrp.mono ((hle16.trans hle7).trans hle8)) hp.ok.wd ⟨by omega,by omega⟩) fun v9 μ9 hle9 hR9=>?_
  rw[hn1]at hR9
  have hR9:v9= .tuple #[.agg #[.slice none 0 0],.bool false]:=hR9
  subst hR9
  intro r14
  refine iIn (fun h=>nomatch h) (fun _=>?_)
  refine iIn (fun h=>nomatch h) (fun _=>?_)
  refine iIn (fun h=>nomatch h) (fun _=>?_)
  refine iIn (fun _=>rPl rfl) (fun h=>nomatch h)
 ·rw [hzs] at hR6
  obtain⟨tv6,rfl,hR6⟩:=hR6
  have hrq:=hR6.rep
  have w_:=Pg.invV hrq
  obtain⟨qq,rfl⟩:=w_
  intro r8
  refine cPl (rT (nm:=rl.name) (cl:=cl) (ca:=0) (hrp.mono hle16) (hrx.mono hle6) ⟨by decide,by decide⟩) fun v7 μ7 hle7 hR7=>?_
  have hc6:=oG (μ:=μ7) (hrp.mono (hle16.trans hle7)) (hrx.mono (hle6.trans hle7))
  have hd6:=fun μ (hl:μ7.Le μ)=>kO (μ:=μ) (nm:=rl.name) (clause:=cl) (call:=0) (hrp.mono ((hle16.trans hle7).trans hl)) hp.ok.wd ⟨by omega,by omega⟩
  by_cases hgood:p.Ok∧x.cnt≤200∧OkP p x
  ·have w_ := turned hpos hz hgood.2.1 hgood.2.2
   obtain⟨y,hy1,hy2,hy3,hy4,hy5⟩:=w_
   rw[hy1]at hR7
   obtain⟨tv7,rfl,hR7⟩:=hR7
   have hry:=hR7.rep
   have w_:=Pf.invV hry
   obtain⟨py,rfl⟩:=w_
   intro r10
   refine cPl hc6 fun v8 μ8 hle8 hR8=>?_
   obtain⟨fv,rfl,hfv⟩:=hR8
   rw[if_pos hgood]at hfv
   rw[decide_eq_true hgood]
   have w_:=F.invV hfv
   obtain⟨pf,rfl,_⟩:=w_
   intro r12
   refine cPl (hd6 _ hle8) fun v9 μ9 hle9 hR9=>?_
   rw[hzs]at hR9
   obtain⟨tv9,rfl,hR9⟩:=hR9
   have w_:=Pg.invV hR9
   obtain⟨q9,rfl⟩:=w_
   intro r14
   refine iIn (fun h=>nomatch h) (fun _=>?_)
   refine iIn (fun _=>?_) (fun h=>nomatch h)
   refine iIn (fun h=>nomatch h) (fun _=>?_)
   refine iIn (fun h=>nomatch h) (fun _=>?_)
   have hle79:=hle8.trans hle9
   refine cPl (oG ((hrq.mono hle7).mono hle79) (hry.mono hle79)) fun v10 μ10 hle10 hR10=>?_
   obtain⟨fv2,rfl,hfv2⟩:=hR10
   rw[if_pos hy2]at hfv2
   rw[decide_eq_true hy2]
   have w_:=F.invV hfv2
   obtain⟨pf2,rfl,_⟩:=w_
   intro r16
   have hle7a:=hle79.trans hle10
   have hrx7:=(hrx.mono hle6).mono hle7
   refine iIn (fun _=>?_) (fun h=>nomatch h)
   refine cGv (yN (hfv.mono (hle9.trans hle10)) hfv2) ?_
   refine iIn (fun _=>?_) (fun h=>absurd hy3.symm (of_decide_eq_false h))
   refine cPl (yC (hry.mono hle7a)) fun v11 μ11 hle11 hR11=>?_
   obtain⟨rfl,e11⟩:=hR11
   obtain rfl:=e11.symm
   refine cPl (yC (hrx7.mono hle7a)) fun v12 μ12 hle12 hR12=>?_
   obtain⟨rfl,e12⟩:=hR12
   obtain rfl:=e12.symm
   rw[if_pos hy2.2.1,if_pos hgood.2.1]
   refine ifd (fun _=>?_) (fun h=>absurd (show(y.ht:Int)≤x.ht by omega) h)
   refine cPl (oH (hry.mono hle7a)) fun v13 μ13 hle13' hR13=>?_
   obtain⟨rfl,e13⟩:=hR13
   obtain rfl:=e13.symm
   refine cPl (oH (hrx7.mono hle7a)) fun v14 μ14 hle14 hR14=>?_
   obtain⟨rfl,e14⟩:=hR14
   obtain rfl:=e14.symm
   refine rPl ?_
   rw[Pf.size,Pf.size,if_pos hy2.2.1,if_pos hgood.2.1,decide_eq_true (by omega)]
  ·rw [qDc hz, if_neg hgood] at hR7
   have hR7:v7= .tuple #[zPf,.bool false]:=hR7
   subst hR7
   intro r10
   refine cPl hc6 fun v8 μ8 hle8 hR8=>?_
   obtain⟨fv,rfl,hfv⟩:=hR8
   rw[decide_eq_false hgood]
   have w_:=qMg hfv
   obtain⟨fs,fb,fn,fc,rfl⟩:=w_
   intro r12
   refine cPl (hd6 _ hle8) fun v9 μ9 hle9 hR9=>?_
   rw[hzs]at hR9
   obtain⟨tv9,rfl,hR9⟩:=hR9
   have w_:=Pg.invV hR9
   obtain⟨q9,rfl⟩:=w_
   intro r14
   refine iIn (fun h=>nomatch h) (fun _=>?_)
   refine iIn (fun _=>?_) (fun h=>nomatch h)
   refine iIn (fun h=>nomatch h) (fun _=>?_)
   exact iIn (fun _=>rPl rfl) (fun h=>nomatch h)
end
end Go.Vx
