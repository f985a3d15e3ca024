/- Texts of the proof, part M3. -/
import Derived.Test.YtnogdfionomoaaaGreatM2
namespace Go.Vx
open Go.Proofs Classical
section
variable {μ:Mem}
theorem F.inv{f:F}{v:Value}(h:RepV μ f.fc.d v):∃p:Fc.P,v= .agg #[.string f.rel,.slice p.1 f.args.length p.2]∧Sl μ 4 p.1 f.args.length ((f.args.map T.tm).map Tm.d):=by
 have w_:=Fc.inv h
 obtain⟨p,rfl,hA⟩:=w_
 have e:f.fc.args.length=f.args.length:=List.length_map ..
 have hA:Sl μ 4 p.1 f.fc.args.length ((f.args.map T.tm).map Tm.d):=hA
 rw[e]at hA ⊢
 exact⟨p,rfl,hA⟩
def F.cs(f:F)(p:Fc.P):List Value:=[.string f.rel,.slice p.1 f.args.length p.2]
theorem F.elem{l:List F}{base:Option Addr}{n:Nat}(h:Sl μ 2 base n ((l.map F.fc).map Fc.d)){i:Nat}{f:F}(hf:l[i]? =some f):∃ad,∃p:Fc.P,ElemAt μ base n 2 i ad (f.cs p)∧RepV μ f.fc.d (.agg (f.cs p).toArray)∧Sl μ 4 p.1 f.args.length ((f.args.map T.tm).map Tm.d):=by
 have w_:=Fc.elemA h (i:=i) (x:=f.fc) (by simp[hf])
 obtain⟨ad,p,h1,h2,h3⟩:=w_
 have e:f.fc.cs p=f.cs p:=by
  show [_,Value.slice p.1 (f.args.map T.tm).length p.2]=_
  rw[List.length_map];rfl
 rw[e]at h1 h2
 have h3:Sl μ 4 p.1 (f.args.map T.tm).length ((f.args.map T.tm).map Tm.d):=h3
 rw[List.length_map]at h3
 exact⟨ad,p,h1,h2,h3⟩
theorem F.mkV{f:F}{b:Option Addr}{c:Nat}(h:RepV μ (.sl 4 ((f.args.map T.tm).map Tm.d)) (.slice b f.args.length c)):RepV μ f.fc.d (.agg #[.string f.rel,.slice b f.args.length c]):=by
 rw[Fc.d_eq]
 exact⟨_,rfl,RepS.str (RepS.last h)⟩
end
end Go.Vx
namespace Go.Vx
open Go.Proofs Classical
def GndT(t:Tm):Prop:=t.Ok∧t.toT.vars=[]
structure UnivOk (l:List Tm):Prop where
 pos:1≤l.length
 max:l.length≤8
 gnd:∀t∈l,GndT t
 asc:∀(i:Nat) x y,l[i]? =some x→l[i+1]? =some y→x.toT.cmp y.toT<0
theorem UnivOk.lift{l:List Tm}(h:UnivOk l):∃U:List T,l=U.map T.tm∧(∀x∈U,x.ok∧x.vars=[])∧U.length=l.length:=by
 have w_:=fD fun t ht=>(h.gnd t ht).1
 obtain⟨U,rfl,hU⟩:=w_
 refine⟨U,rfl,fun x hx=>⟨hU x hx,?_⟩,by rw[List.length_map]⟩
 have:=(h.gnd x.tm (List.mem_map_of_mem hx)).2
 rwa [T.toT_tm]at this
def qRy(p:Pg)(f:Fc):Prop:=∃(k:Nat) (r:Rl),relAt p f.rel=(k:Int)∧p.rels[k]? =some r∧r.arity=(f.args.length:Int)
def FactFits(p:Pg)(f:Fc):Prop:=qRy p f∧∀t∈f.args,GndT t
section
variable {μ:Mem}
def UnivTo(l:List Tm)(i:Nat):Prop:=∀j,j<i→(∀t,l[j]? =some t→GndT t)∧∀k x y,k+1=j→l[k]? =some x→l[j]? =some y→x.toT.cmp y.toT<0
theorem UnivTo.all{l:List Tm}(h:UnivTo l l.length)(h1:1≤l.length)(h8:l.length≤8):UnivOk l where
 pos:=h1
 max:=h8
 gnd t ht:=by
  have w_:=List.mem_iff_getElem?.1 ht
  obtain⟨j,hj⟩:=w_
  exact(h j (List.getElem?_eq_some_iff.1 hj).1).1 t hj
 asc i x y hx hy:=(h (i+1) (List.getElem?_eq_some_iff.1 hy).1).2 i x y rfl hx hy
end
end Go.Vx
namespace Go.Vx
open Go.Proofs Classical
section
variable {μ:Mem}
theorem F.fc_args(f:F):f.fc.args=f.args.map T.tm:=rfl
structure SimpleLen (k:Int) (n:Nat):Prop where
 two:k=2∨k=3∨k=6→n=2
 one:k=4∨k=5→n=1
end
end Go.Vx
namespace Go.Vx
open Go.Proofs Classical
def Ru.rd(r:Ru):RuD:=⟨r.head.rel,r.head.args.map T.tm,r.clause,r.vals.map T.tm,r.pos.map F.fc,r.neg.map F.fc⟩
structure ClG (g:Gl):Prop where
 sh:g.Sh
 one:g.kind≠7∧g.kind≠8
def okS(vs:List T)(g:Gl):Prop:=g.kind≠9→g.kind≠10→dV g.kind (g.terms.map fun t=>t.toT.subst (bT vs))
theorem Gl.kid_at{g:Gl}(h:g.goals.length=1):g.goals[0]? =some g.kid:=by
 rw[Gl.kid,List.getD_eq_getElem?_getD]
 have w_:=aSo (l:=g.goals) (i:=0) (by omega)
 obtain⟨x,hx⟩:=w_
 rw[hx];rfl
section
variable {μ:Mem}
end
end Go.Vx
namespace Go.Vx
open Go.Proofs Classical
theorem ClG.of{p:Pg}(hp:p.Ok){i:Nat}{r:Rl}(hi:p.rels[i]? =some r){L:List (List Gl)}(hL:r.body.cl=some L){c:List Gl}(hc:c∈L){g:Gl}(hg:g∈c):ClG g:=by
 have w_:=Gl.cl_all r.body hL c hc g hg
 obtain⟨h1,h2⟩:=w_
 exact⟨(hp.2 i r hi).body.all _ g h1,h2.2.2.1,h2.2.2.2⟩
theorem Gl.Sh.lens4{g:Gl}(h:g.Sh):g.terms.length≤4:=by
 have T:=h.top
 have e9:=T.ln9;have e2:=T.ln2;have e1:=T.ln1;have e0:=T.ln0;have k0:=T.k0;have k1:=T.k1
 omega
section
variable {μ:Mem}
theorem Ru.inv{r:Ru}{v:Value}(h:RepV μ r.rd.d v):∃p:RuD.P,v= .agg #[.string r.head.rel,.slice p.1.1 r.head.args.length p.1.2,.int .i64 r.clause,.slice p.2.1.1 r.vals.length p.2.1.2,.slice p.2.2.1.1 r.pos.length p.2.2.1.2,.slice p.2.2.2.1 r.neg.length p.2.2.2.2]∧
  Sl μ 4 p.1.1 r.head.args.length ((r.head.args.map T.tm).map Tm.d)∧Sl μ 4 p.2.1.1 r.vals.length ((r.vals.map T.tm).map Tm.d)∧Sl μ 2 p.2.2.1.1 r.pos.length ((r.pos.map F.fc).map Fc.d)∧Sl μ 2 p.2.2.2.1 r.neg.length ((r.neg.map F.fc).map Fc.d):=by
 have w_:=RuD.inv h
 obtain⟨p,rfl,h1,h2,h3,h4⟩:=w_
 have e1:r.rd.hargs.length=r.head.args.length:=List.length_map ..
 have e2:r.rd.vals.length=r.vals.length:=List.length_map ..
 have e3:r.rd.pos.length=r.pos.length:=List.length_map ..
 have e4:r.rd.neg.length=r.neg.length:=List.length_map ..
 rw[e1]at h1;rw[e2]at h2;rw[e3]at h3;rw[e4]at h4
 rw[e1,e2,e3,e4]
 exact⟨p,rfl,h1,h2,h3,h4⟩
end
end Go.Vx
namespace Go.Vx
open Go.Proofs Classical
theorem Gl.all_trans:∀(b:Gl) {g x:Gl},g∈b.all→x∈g.all→x∈b.all:=
 Gl.ind fun b ih g x hg hx=>by
  rw[Gl.all_eq]at hg
  rcases List.mem_cons.1 hg with rfl|hg
  ·exact hx
  ·have w_ := List.mem_flatMap.1 hg
   obtain⟨y,hy,hg⟩:=w_
   rw[Gl.all_eq]
   exact List.mem_cons_of_mem _ (List.mem_flatMap.2 ⟨y,hy,ih y hy hg hx⟩)
structure ClV (n:Nat) (g:Gl) (xs:List T):Prop where
 terms:g.terms=xs.map T.tm
 len:xs.length≤4
 low:∀x∈xs,∀m∈x.vars,0≤m∧m<(n:Int)
theorem ClV.mk1{r:Rl}{p:Pg}{i:Nat}(h:RelOk p i r){g:Gl}(hg:g∈r.body.all){n:Nat}(hn:r.arity+r.locals=(n:Int)):∃xs,ClV n g xs:=by
 have hS:=h.body.all _ g hg
 have w_:=fD hS.top.tm
 obtain⟨xs,hxs,hok⟩:=w_
 refine⟨xs,hxs,by have:=hS.lens4;rw[hxs,List.length_map]at this;exact this,fun x hx m hm=>?_⟩
 have hv:m∈r.body.vars:=by
  rw[Gl.vars]
  refine List.mem_flatMap.2 ⟨g,hg,List.mem_flatMap.2 ⟨x,?_,hm⟩⟩
  rw[hxs,gO];exact hx
 have h1:=h.vars m hv
 have h2:=Gl.vars_range h.body m hv
 omega
theorem ClV.of{p:Pg}(hp:p.Ok){i:Nat}{r:Rl}(hi:p.rels[i]? =some r){L:List (List Gl)}(hL:r.body.cl=some L){c:List Gl}(hc:c∈L){g:Gl}(hg:g∈c){n:Nat}(hn:r.arity+r.locals=(n:Int)):
  (∃xs,ClV n g xs)∧(g.kind=10→∃xs,ClV n g.kid xs):=by
 have w_:=Gl.cl_all r.body hL c hc g hg
 obtain⟨h1,h2⟩:=w_
 have hrel:=hp.2 i r hi
 refine⟨ClV.mk1 hrel h1 hn,fun h10=>ClV.mk1 hrel (Gl.all_trans _ h1 ?_) hn⟩
 have hk:=Gl.kid_at ((hrel.body.all _ g h1).top.gl1 h10)
 rw[Gl.all_eq]
 refine List.mem_cons_of_mem _ (List.mem_flatMap.2 ⟨_,mAt hk,?_⟩)
 rw[Gl.all_eq];simp
section
variable {μ:Mem}
theorem Rows.atI{es:Nat}:∀{ds:List D} {xs:List Value},Rows μ es ds xs→∀{i:Nat} {d:D} {v:Value},ds[i]? =some d→xs[i]? =some v→RepV μ d v
 |_,_,.nil,i,d,v,h,_=>by simp at h
 |_,_,.cons h1 _ h,0,d,v,e1,e2=>by cases e1;cases e2;exact h1
 |_,_,.cons _ _ h,i+1,d,v,e1,e2=>Rows.atI h (i:=i) (by simpa using e1) (by simpa using e2)
end
end Go.Vx
namespace Go.Vx
open Go.Proofs Classical
def qSq(n:Int):Prop:=n≠10∧¬(3≤n∧n≤6)
def Gl.Pure(g:Gl):Prop:=∀x∈g.all,qSq x.kind
def Pg.Pure(p:Pg):Prop:=p.Ok∧∀r∈p.rels,r.body.Pure
section
variable {μ:Mem}
end
end Go.Vx
namespace Go.Vx
open Go.Proofs Classical
theorem RowO.cell{h:Mem}{r cap:Nat}{ty:TypeId}{es:Nat}{xs:List Value}{k j:Nat}{x u:Value}(hr:RowO h r cap ty es xs)(hx:xs[k]? =some x)(hu:(aD x)[j]? =some u):h.cell ⟨r,k*es+j,none⟩=some u:=by
 obtain⟨cs,hc,h1,h2,h3,h4,h5⟩:=hr
 obtain⟨A,B,rfl,hA⟩:∃A B,xs=A++x::B∧A.length=k:=⟨xs.take k,xs.drop (k+1),by
  rw[←(List.getElem?_eq_some_iff.1 hx).2]
  rw[List.getElem_cons_drop,List.take_append_drop],by rw[List.length_take];have:=(List.getElem?_eq_some_iff.1 hx).1;omega⟩
 subst hA
 have fA:(A.flatMap aD).length=A.length*es:=eP A fun y hy=>(h3 y (by simp[hy])).1
 have hj:=(List.getElem?_eq_some_iff.1 hu).1
 obtain⟨rest,hrest⟩:∃rest,cs=A.flatMap aD++(aD x++rest):=⟨B.flatMap aD++cs.drop ((A++x::B).length*es),by
  have h6:=List.take_append_drop ((A++x::B).length*es) cs
  rw[h5]at h6
  refine h6.symm.trans ?_
  simp⟩
 have e:cs[A.length*es+j]? =some u:=by
  rw[hrest,List.getElem?_append_right (by omega),fA,show A.length*es+j-A.length*es=j by omega,List.getElem?_append_left hj,hu]
 simp[Mem.cell,hc,e]
end Go.Vx
namespace Go.Vx
open Go.Proofs Classical
theorem qR(L:List F):Asc3 dC (lI L):=uL _ _
theorem qBa(L:List F):(lI L).length≤L.length:=qCs _ _
noncomputable def fC(rs:List Ru)(pos neg:List F)(i:Nat):List F:=((rs.take i).filter fun r=>decide (uB pos neg r)).map Ru.head
theorem zS(rs:List Ru)(pos neg:List F):lI (fC rs pos neg rs.length)=fY rs pos neg:=by rw[fC,List.take_length,fY]
theorem zT(rs:List Ru)(pos neg:List F)(i:Nat):(fC rs pos neg i).length≤i:=by
 rw[fC,List.length_map]
 exact Nat.le_trans (List.length_filter_le _ _) (List.length_take_le _ _)
theorem qTz(rs:List Ru)(pos neg:List F):(fY rs pos neg).length≤rs.length:=by
 rw[←zS]
 exact Nat.le_trans (qBa _) (zT _ _ _ _)
theorem mF(rs:List Ru)(pos neg:List F):Asc3 dC (fY rs pos neg):=qR _
theorem qRp{rs:List Ru}{pos pos' neg:List F}(h:∀f∈pos,f∈pos'){f:F}(hf:f∈fY rs pos neg):f∈fY rs pos' neg:=by
 rw[qCy]at hf ⊢
 obtain⟨r,h1,h2,h3⟩:=hf
 exact⟨r,h1,⟨fun x hx=>h x (h2.1 x hx),h2.2⟩,h3⟩
structure RedI (rs:List Ru) (S out:List F):Prop where
 asc:Asc3 dC out
 der:∀f∈out,Der (qDe rs S) [] f
 sub:∀f∈out,f∈fY rs out S
section
variable {rs:List Ru} {S out:List F}
theorem RedI.nil(rs:List Ru)(S:List F):RedI rs S []:=⟨List.Pairwise.nil,(fun _ h=>nomatch h),(fun _ h=>nomatch h)⟩
theorem RedI.next(h:RedI rs S out):RedI rs S (fY rs out S):=by
 refine⟨mF _ _ _,fun f hf=>?_,fun f hf=>qRp h.sub hf⟩
 rw[qCy]at hf
 obtain⟨r,h1,h2,rfl⟩:=hf
 exact .rule (mem_unlessR.2 ⟨h1,h2.2⟩) fun x hx=>h.der x (h2.1 x hx)
theorem RedI.done(h:RedI rs S out)(e:(fY rs out S).length=out.length):out=lfp (qDe rs S) []:=by
 have e2:=yF cmpF_ord h.asc (mF rs out S) h.sub e
 refine lfp_eq h.asc (fun _ h=>nomatch h) h.der fun r hr hp=>?_
 rw[e2,qCy]
 rw[mem_unlessR]at hr
 exact⟨r,hr.1,⟨hp,hr.2⟩,rfl⟩
theorem RedI.len(h:RedI rs S out):out.length≤rs.length:=Nat.le_trans (kS (h.asc.nodup cmpF_ord) h.sub) (qTz _ _ _)
end
section
variable {rs:List Ru} {base out:List F}
end
noncomputable def stF(rs:List Ru):Nat→List F
 |0=>[]
 |n+1=>fY rs (stF rs n) []
theorem fL(rs:List Ru):∀n,RedI rs [] (stF rs n)
 |0=>RedI.nil _ _
 |n+1=>(fL rs n).next
theorem qQr(rs:List Ru):qDe rs []=rs:=by
 rw[qDe]
 exact List.filter_eq_self.2 fun r _=>by simp
def LastSt(rs:List Ru)(n:Nat):Prop:=fY rs (stF rs n) []=stF rs n∧∀m,m<n→fY rs (stF rs m) []≠stF rs m
theorem LastSt.eq{rs:List Ru}{n:Nat}(h:LastSt rs n):stF rs n=lfp rs []:=by
 have:=(fL rs n).done (by rw[h.1])
 rwa [qQr]at this
section
variable {rs:List Ru} {model B out:List F}
end
end Go.Vx
namespace Go.Vx
open Go.Proofs Classical
abbrev FsV(μ:Mem)(L:List F)(v:Value):Prop:=RepV μ (.sl 2 ((L.map F.fc).map Fc.d)) v
abbrev RsV(μ:Mem)(rs:List Ru)(v:Value):Prop:=RepV μ (.sl 6 ((rs.map Ru.rd).map RuD.d)) v
section
variable {μ:Mem}
theorem FsV.sl{L:List F}{v:Value}(h:FsV μ L v):∃b c,v= .slice b L.length c∧L.length≤c∧Sl μ 2 b L.length ((L.map F.fc).map Fc.d):=by
 have w_:=Rep.sl h
 obtain⟨b,c,rfl,hs⟩:=w_
 have hl:=Rep.lens h
 simp only[List.length_map]at hs hl ⊢
 exact⟨b,c,rfl,hl,hs⟩
theorem RsV.sl{L:List Ru}{v:Value}(h:RsV μ L v):∃b c,v= .slice b L.length c∧Sl μ 6 b L.length ((L.map Ru.rd).map RuD.d):=by
 have w_:=Rep.sl h
 obtain⟨b,c,rfl,hs⟩:=w_
 simp only[List.length_map]at hs ⊢
 exact⟨b,c,rfl,hs⟩
theorem FsV.nil(b:Option Addr)(c:Nat):FsV μ [] (.slice b 0 c):=⟨b,c,rfl,⟨Nat.zero_le _,Nat.zero_le _⟩,(fun _ h=>nomatch h),.inl rfl⟩
def Ru.cs(r:Ru)(p:RuD.P):List Value:=[.string r.head.rel,.slice p.1.1 r.head.args.length p.1.2,.int .i64 r.clause,.slice p.2.1.1 r.vals.length p.2.1.2,.slice p.2.2.1.1 r.pos.length p.2.2.1.2,.slice p.2.2.2.1 r.neg.length p.2.2.2.2]
structure Ru.At (μ:Mem) (r:Ru) (p:RuD.P):Prop where
 head:RepV μ r.head.fc.d (.agg #[.string r.head.rel,.slice p.1.1 r.head.args.length p.1.2])
 pos:Sl μ 2 p.2.2.1.1 r.pos.length ((r.pos.map F.fc).map Fc.d)
 neg:Sl μ 2 p.2.2.2.1 r.neg.length ((r.neg.map F.fc).map Fc.d)
theorem Ru.at{r:Ru}{p:RuD.P}(h:RepV μ r.rd.d (.agg (r.cs p).toArray)):r.At μ p:=by
 have h0:=h
 rw[RuD.d_eq]at h
 obtain⟨cs,e,h⟩:=h
 have e:=(Value.agg.inj e)
 have e:cs=r.cs p:=by
  have:=congrArg Array.toList e
  simpa using this.symm
 subst e
 have w_:=Ru.inv h0
 obtain⟨q,e,h1,h2,h3,h4⟩:=w_
 have e:=Value.agg.inj e
 have e:r.cs p=r.cs q:=by simpa[Ru.cs]using congrArg Array.toList e
 simp only[Ru.cs,List.cons.injEq,Value.slice.injEq,true_and,and_true]at e
 obtain⟨⟨e1,e2⟩,⟨e3,e4⟩,⟨e5,e6⟩,e7,e8⟩:=e
 refine⟨?_,by rw[e5];exact h3,by rw[e7];exact h4⟩
 obtain⟨c1,c2,k1,k2,k3⟩:=h
 obtain⟨d1,d2,m1,m2,m3⟩:=k3
 have l1:c1=[.string r.head.rel]:=k2
 subst l1
 obtain⟨b,c,l2,l3⟩:=m2
 subst l2
 subst m1
 simp only[Ru.cs,List.cons_append,List.nil_append,List.cons.injEq,true_and]at k1
 obtain⟨k1,_⟩:=k1
 refine F.mkV ?_
 rw[k1]
 exact⟨b,c,rfl,l3⟩
theorem Ru.elem{l:List Ru}{base:Option Addr}{n:Nat}(h:Sl μ 6 base n ((l.map Ru.rd).map RuD.d)){i:Nat}{r:Ru}(hr:l[i]? =some r):∃ad,∃p:RuD.P,ElemAt μ base n 6 i ad (r.cs p)∧RepV μ r.rd.d (.agg (r.cs p).toArray)∧r.At μ p:=by
 have w_:=RuD.elem h (i:=i) (x:=r.rd) (by simp[hr])
 obtain⟨ad,p,h1,h2⟩:=w_
 have e:r.rd.cs p=r.cs p:=by
  show [_,Value.slice p.1.1 (r.head.args.map T.tm).length p.1.2,_,Value.slice p.2.1.1 (r.vals.map T.tm).length p.2.1.2,Value.slice p.2.2.1.1 (r.pos.map F.fc).length p.2.2.1.2,Value.slice p.2.2.2.1 (r.neg.map F.fc).length p.2.2.2.2]=_
  simp only[List.length_map];rfl
 rw[e]at h1 h2
 exact⟨ad,p,h1,h2,Ru.at h2⟩
end
end Go.Vx
namespace Go.Vx
open Go.Proofs Classical
open Go.Sort
noncomputable instance:Inhabited F:=⟨⟨⟨#[]⟩,[]⟩⟩
section
variable {μ h0:Mem} {r:Nat} {ty:TypeId} {rest:List Value}
end
section
variable {μ:Mem}
end
end Go.Vx
namespace Go.Vx
open Go.Proofs Classical
structure RuOk (p:Pg) (r:Ru):Prop where
 head:FactFits p r.head.fc
 hlen:r.head.args.length≤4
 plen:∀f∈r.pos,f.args.length≤4
 pcnt:r.pos.length≤60
 pok:∀f∈r.pos,∀a∈f.args,a.ok
theorem FactFits.len{p:Pg}(hp:p.Ok){f:Fc}(h:FactFits p f):f.args.length≤4:=by
 obtain⟨⟨k,r,h1,h2,h3⟩,_⟩:=h
 have:=(hp.2 k r h2).ar4
 omega
def FsOk(p:Pg)(L:List F):Prop:=∀f∈L,FactFits p f.fc
theorem FsOk.len{p:Pg}(hp:p.Ok){L:List F}(h:FsOk p L):∀f∈L,f.args.length≤4:=fun f hf=>by
 have:=(h f hf).len hp
 rwa [F.fc_args,List.length_map]at this
section
variable {μ:Mem}
end
end Go.Vx
namespace Go.Vx
open Go.Proofs Classical
theorem Rows.val{μ:Mem}{es:Nat}{ds:List D}{ys:List Value}(h:Rows μ es ds ys){i:Nat}{d:D}(hd:ds[i]? =some d):∃v,ys[i]? =some v∧RepV μ d v:=by
 have hl:=(List.getElem?_eq_some_iff.1 hd).1
 have w_:=aSo (l:=ys) (i:=i) (by have:=h.len;omega)
 obtain⟨v,hv⟩:=w_
 exact⟨v,hv,h.atI hd hv⟩
section
variable {μ:Mem}
end
end Go.Vx
namespace Go.Vx
open Go.Proofs Classical
abbrev NmV(μ:Mem)(l:List ByteArray)(v:Value):Prop:=RepV μ (.sl 1 (l.map D.s)) v
theorem Nm.rows{μ:Mem}:∀l:List ByteArray,Rows μ 1 (l.map D.s) (l.map Value.string)
 |[]=> .nil
 |s::l=> .cons (show RepV μ (D.s s) (.string s)from rfl) rfl (Nm.rows l)
theorem Nm.elem{μ:Mem}{l:List ByteArray}{b:Option Addr}{n i:Nat}{s:ByteArray}(h:Sl μ 1 b n (l.map D.s))(hs:l[i]? =some s):∃ad,ElemAt μ b n 1 i ad [.string s]:=by
 have w_:=h.get i (D.s s) (by simp[hs])
 obtain⟨ad,cs,h1,h2⟩:=w_
 have h2:cs=[.string s]:=h2
 subst h2
 exact⟨ad,h1⟩
theorem NmV.sl{μ:Mem}{l:List ByteArray}{v:Value}(h:NmV μ l v):∃b c,v= .slice b l.length c∧Sl μ 1 b l.length (l.map D.s):=by
 have w_:=Rep.sl h
 obtain⟨b,c,rfl,hs⟩:=w_
 rw[List.length_map]at hs
 exact⟨b,c,by rw[List.length_map],hs⟩
set_option maxHeartbeats 2000000 in
section
variable {μ:Mem}
end
end Go.Vx
namespace Go.Vx
open Go.Proofs Classical
theorem T.occ_vars{n:Int}:∀{x:T},x.occ n↔n∈x.vars
 | .var m=>by
  show m=n↔n∈[m]
  rw[List.mem_singleton];exact eq_comm
 | .pair a b=>by
  show a.occ n∨b.occ n↔n∈a.vars++b.vars
  rw[List.mem_append,T.occ_vars (x:=a),T.occ_vars (x:=b)]
 | .nil=>⟨fun h=>h.elim,fun h=>by simp[T.vars]at h⟩
 | .sym _=>⟨fun h=>h.elim,fun h=>by simp[T.vars]at h⟩
 | .num _=>⟨fun h=>h.elim,fun h=>by simp[T.vars]at h⟩
def T.lvs:T→Nat
 | .pair a b=>a.lvs+b.lvs
 |_=>1
theorem T.size_lvs:∀t:T,t.size+1=2*t.lvs
 | .pair a b=>by
  have h1:=a.size_lvs
  have h2:=b.size_lvs
  simp only[T.size,T.lvs];omega
 | .nil=>rfl
 | .var _=>rfl
 | .sym _=>rfl
 | .num _=>rfl
theorem xB{t:T}{n:Int}(h:n∈t.vars):t.occ n:=T.occ_vars.2 h
structure Drawn (k:Nat) (vars:Int) (t:T):Prop where
 good:t.good
 low:∀n,t.occ n→0≤n∧n<vars
 lvs:t.lvs≤k
theorem Drawn.pair{k l:Nat}{vars:Int}{a b:T}(h:Drawn k vars a)(h2:Drawn l vars b):Drawn (k+l) vars (.pair a b):=
 ⟨⟨h.good,h2.good⟩,fun n hn=>hn.elim (h.low n) (h2.low n),by have:=h.lvs;have:=h2.lvs;simp only[T.lvs];omega⟩
theorem Drawn.mono{k l:Nat}{vars:Int}{a:T}(h:Drawn k vars a)(hl:k≤l):Drawn l vars a:=⟨h.good,h.low,Nat.le_trans h.lvs hl⟩
theorem Drawn.size{k:Nat}{vars:Int}{a:T}(h:Drawn k vars a):a.size≤2*k:=by
 have h1:=a.size_lvs
 have h2:=h.lvs
 omega
theorem Drawn.ok{k:Nat}{vars:Int}{a:T}(h:Drawn k vars a)(hk:k≤2500):a.ok:=⟨h.good,by have:=h.size;omega⟩
end Go.Vx
namespace Go.Vx
open Go.Proofs Classical
mutual
def Pf.cnt:Pf→Nat
 | .mk _ _ _ l=>1+Pf.cnts l
def Pf.cnts:List Pf→Nat
 |[]=>0
 |t::r=>t.cnt+Pf.cnts r
end
section
variable {μ:Mem}
end
end Go.Vx
namespace Go.Vx
open Go.Proofs Classical
section
variable {μ:Mem}
end
noncomputable def Pf.vs(x:Pf):List T:=x.values.map Tm.toT
structure NodeAt (p:Pg) (x:Pf) (r:Rl) (c:List Gl):Prop where
 rel:∃k:Nat,relAt p x.rel=k∧p.rels[k]? =some r
 len:(x.values.length:Int)=r.arity+r.locals
 gnd:∀t∈x.values,GndT t
 cls:∃(L:List (List Gl)) (i:Nat),r.body.cl=some L∧x.clause=i∧L[i]? =some c
 ok:∀g∈c,okS x.vs g
 neg:iU x.vs c=[]
 pos:(bQ x.vs c).length=x.kids.length
noncomputable def dM(p:Pg)(x:Pf):F:=⟨x.rel,x.vs.take ((p.rels[(relAt p x.rel).toNat]?.getD (.mk ⟨#[]⟩ 0 0 (.mk 0 ⟨#[]⟩ [] []))).arity.toNat)⟩
inductive OkP (p:Pg):Pf→Prop
 |mk {x:Pf} (r:Rl) (c:List Gl) (h:NodeAt p x r c) (kids:∀y∈x.kids,OkP p y) (hd:∀(i:Nat) (y:Pf),x.kids[i]? =some y→(bQ x.vs c)[i]? =some (dM p y)):OkP p x
end Go.Vx
namespace Go.Vx
open Go.Proofs Classical
open Go.ChangeShapes Go.WideShapes Go.ChangeAt Go.RowKit
structure Bytes (μ:Mem) (base:Option Addr) (n:Nat):Prop where
 max:n≤maxLen
 get:∀i:Nat,i<n→∃(a:Addr) (b:Int),ElemAt μ base n 1 (i:Int) a [.int .u8 b]
theorem Bytes.mono{μ μ':Mem}{base:Option Addr}{n:Nat}(h:Bytes μ base n)(hle:μ.Le μ'):Bytes μ' base n:=
 ⟨h.max, fun i hi => by
  have w_:=h.get i hi
  obtain⟨a,b,e⟩:=w_
  exact⟨a,b,e.mono hle⟩⟩
theorem qEj{P:Program}{H:Type}{enc:TypeId×Value→H}{w:World}{sp:Nat→Bool}{hd:Bool}{b:Nat}{t e:TypeId}{v:Value}{x:DataW H}{p:List MemPlace}(ht:P.underlying t=some (.slice e))(he:P.underlying e=some (.int .u8))(hc:P.cellsOf e=1)
  (hv:Value.okWide P w .any b t v) (h:DataW.Trod enc P w 0 sp hd t v x p):∃base n cap,v= .slice base n cap∧Bytes (qWb w) base n:=by
 obtain⟨fuel,h⟩:=h
 have hcs:∀cs,v≠.agg cs:=fun cs k=>qOd ht cs (k ▸ hv)
 rcases DataW.trod_slice ht h with⟨h1,_⟩|⟨a,len,cap,elems,rest,m,hm,h1,_,_,_,h2,h3,h4,_⟩
 ·cases v with
  |agg cs=>exact absurd rfl (hcs cs)
  |_=>
   have h1:=List.cons.inj h1
   rw[h1.1]
   exact⟨none,0,0,rfl,⟨Nat.zero_le _,fun i hi=>absurd hi (Nat.not_lt_zero _)⟩⟩
 ·have hsl:v= .slice (some a) len cap:=by
   cases v with
   |agg cs=>exact absurd rfl (hcs cs)
   |_=>
    have h1:=List.cons.inj h1
    exact h1.1
  subst hsl
  refine⟨some a,len,cap,rfl,⟨by omega,fun i hi=>?_⟩⟩
  have:=h4 i hi
  rw[List.getElem?_eq_getElem (by omega)]at this
  obtain⟨cs',k1,k2⟩:=Option.bind_eq_some_iff.1 this
  obtain⟨n,rfl,_,_⟩:=DataW.trod_int he k2
  rw[hc]at k1
  obtain⟨g1,g2⟩:=cells?_at k1
  exact⟨a.add (i*1),n,⟨by omega,by omega,⟨a,rfl,by simp⟩,rfl,fun j u hj=>g2 j u hj⟩⟩
def sV(base:Option Addr)(n cap:Nat)(i h:Int):Obj:= .cells #[.slice base n cap,.int .i64 i,.int .i64 h] 168 (0,0)
def CurO(μ:Mem)(o:Obj):Prop:=∃base n cap,∃(i:Nat) (hh:Int),o=sV base n cap i hh∧Bytes μ base n∧i≤n
theorem CurO.mono{μ μ':Mem}{o:Obj}(h:CurO μ o)(hle:μ.Le μ'):CurO μ' o:=by
 obtain⟨base,n,cap,i,hh,e,k1,k2⟩:=h
 exact⟨base,n,cap,i,hh,e,k1.mono hle,k2⟩
structure Cur (μ h:Mem) (r:Nat) (h':Mem):Prop where
 ex:∃o,CurO μ o∧h'=h.set r o
theorem Mem.set_self{h:Mem}{r:Nat}{o:Obj}(e:h r=some o):h.set r o=h:=funext fun b=>by
 by_cases k:b=r
 ·subst k;rw[Mem.set_at,e]
 ·rw[Mem.set_ne k]
theorem Cur.at{μ h h':Mem}{r:Nat}(k:Cur μ h r h'):Cur μ h' r h':=by
 obtain⟨o,h1,h2⟩:=k.ex
 subst h2
 exact⟨o,h1,(Mem.set_self (Mem.set_at _ _ _)).symm⟩
theorem Cur.trans{μ μ' h h' h'':Mem}{r:Nat}(k:Cur μ h r h')(k2:Cur μ' h' r h''):Cur μ' h r h'':=by
 obtain⟨o,h1,rfl⟩:=k.ex
 obtain⟨o',h3,rfl⟩:=k2.ex
 exact⟨o',h3,Mem.set_set _ _ _ _⟩
theorem Cur.mono{μ μ' h h':Mem}{r:Nat}(k:Cur μ h r h')(hle:μ.Le μ'):Cur μ' h r h':=by
 obtain⟨o,h1,h2⟩:=k.ex
 exact⟨o,h1.mono hle,h2⟩
section
variable {μ:Mem}
end
end Go.Vx
namespace Go.Vx
open Go.Proofs Classical
theorem kZ{b:UInt8}(h:97≤b.toNat∧b.toNat≤122):jZ ⟨#[b]⟩:=by
 refine⟨by show 1≤1;decide,by show 1≤12;decide,fun i c hc=>?_⟩
 have hi:=(List.getElem?_eq_some_iff.1 hc).1
 have hi:i<1:=hi
 obtain rfl:i=0:=by omega
 cases hc
 exact .inl h
section
variable {μ:Mem}
end
end Go.Vx
namespace Go.Vx
open Go.Proofs Classical
abbrev Bs:=List UInt8
def mkS(l:Bs):ByteArray:=⟨l.toArray⟩
def lsS(s:ByteArray):Bs:=s.data.toList
theorem bA{a b:Bs}(h:mkS a=mkS b):a=b:=by
 have:=congrArg lsS h
 exact this
def cX(b:UInt8):Bool:=b==32||b==10||b==40||b==41||b==59
def cQ:Nat→Bs→List Bs
 |0,_=>[]
 |_+1,[]=>[]
 |n+1,b::r=>
  if b==59 then cQ n (r.dropWhile fun c=>c !=10)
  else if !cX b then(b::r.takeWhile fun c=> !cX c)::cQ n (r.dropWhile fun c=> !cX c)
  else if b==40||b==41 then [b]::cQ n r
  else cQ n r
def uZ(k:Nat):Bs:=[63,UInt8.ofNat (48+k)]
def fR(names:List Bs)(t:Bs):List Bs:=if names.idxOf t<names.length then names else names++[t]
def cA:List Bs→List Bs→List Bs×List Bs
 |[],names=>([],names)
 |t::r,names=>
  if t.head? ==some 63 then((uZ (names.idxOf t)::(cA r (fR names t)).1),(cA r (fR names t)).2)
  else(t::(cA r names).1,(cA r names).2)
def nmB:Bool→Bs→Bool
 |_,[]=>true
 |first,b::r=>((97≤b&&b≤122)||(!first&&((48≤b&&b≤57)||b==45)))&&nmB false r
def wX(t:Bs):Bool:=1≤t.length&&t.length≤12&&nmB true t
def yG(t:Bs):Option T:=
 if wX t then some (.sym (mkS t))else match t with
  |[63,d]=>if 48≤d&&d≤57 then some (.var (d.toNat-48:Nat))else none
  |_=>none
def pG:List T→T→T
 |[],tl=>tl
 |x::r,tl=> .pair x (pG r tl)
mutual
def rdT:Nat→List Bs→Option (T×List Bs)
 |0,_=>none
 |_+1,[]=>none
 |n+1,t::r=>
  if t==[41]||t==[46]then none
  else if t==[40]then(match rdN n r with
   |some (items,c::r1)=>
    if c==[41]then some (pG items .nil,r1)
    else if c==[46]&& !items.isEmpty then(match rdT n r1 with
     |some (tl,d::r2)=>if d==[41]then some (pG items tl,r2)else none
     |_=>none)
    else none
   |_=>none)
  else(yG t).map fun x=>(x,r)
def rdN:Nat→List Bs→Option (List T×List Bs)
 |0,_=>none
 |_+1,[]=>some ([],[])
 |n+1,t::r=>
  if t==[41]||t==[46]then some ([],t::r)
  else(match rdT n (t::r)with
   |some (x,r1)=>(rdN n r1).map fun q=>(x::q.1,q.2)
   |none=>none)
end
def rdA:Nat→List Bs→Option (List T×List Bs)
 |0,_=>none
 |_+1,[]=>none
 |n+1,t::r=>
  if t==[41]then some ([],t::r)
  else(match rdT n (t::r)with
   |some (x,r1)=>(rdA n r1).map fun q=>(x::q.1,q.2)
   |none=>none)
def heads:List Bs:=[[116,114,117,101],[102,97,105,108],[61],[47,61],[115,121,109,98,111,108],[110,117,109,98,101,114],[97,98,115,101,110,116],[97,110,100],[111,114],[],[110,111,116]]
def cV(w:Bs):Int×Bs:=if heads.idxOf w<11 then((heads.idxOf w:Nat),[])else(9,w)
mutual
def rdG:Nat→List Bs→Option (Gl×List Bs)
 |0,_=>none
 |n+1,t::w::r=>
  if t==[40]&&1<(cV w).1 then
   if(cV w).1==7||(cV w).1==8||(cV w).1==10 then(match qCd n r with
    |some (gs,c::r1)=>if c==[41]then some (.mk (cV w).1 (mkS (cV w).2) [] gs,r1)else none
    |_=>none)
   else(match rdA n r with
    |some (ts,c::r1)=>if c==[41]then some (.mk (cV w).1 (mkS (cV w).2) (ts.map T.tm) [],r1)else none
    |_=>none)
  else none
 |_+1,_=>none
def qCd:Nat→List Bs→Option (List Gl×List Bs)
 |0,_=>none
 |_+1,[]=>none
 |n+1,t::r=>
  if t==[41]then some ([],t::r)
  else(match rdG n (t::r)with
   |some (x,r1)=>(qCd n r1).map fun q=>(x::q.1,q.2)
   |none=>none)
end
def arF:Nat→List Bs→Nat×List Bs
 |k,[]=>(k,[])
 |k,t::r=>if t==uZ k then arF (k+1) r else(k,t::r)
def qLw(t:Bs):Bool:= !t.isEmpty&&(t.head? !=some 63||wX t.tail)
def wN(all:List Bs):Bool:=all.all qLw&&decide ((cA all []).2.length≤9)
def qGs(all:List Bs):Option Rl:=
 if wN all then match (cA all []).1 with
 |_::d::o::name::rest=>
  if d==[100,101,102,105,110,101]&&o==[40]&&decide ((arF 0 rest).1≤8)then(match (arF 0 rest).2 with
   | c :: r2 => if c == [41] then (match rdG all.length r2 with
     |some (g,[_])=>some ⟨mkS name,(arF 0 rest).1,(cA all []).2.length-(arF 0 rest).1,g⟩
     |_=>none)else none
   |[]=>none)
  else none
 |_=>none
 else none
def cE(d:Int)(t:Bs):Int:=if t==[40]then d+1 else if t==[41]then d-1 else d
def rS:List Bs→List Bs→Int→Option (List Rl)
 |[],[],_=>some []
 |[],_::_,_=>none
 |t::r,cur,d=>
  if 0<cE d t then rS r (cur++[t]) (cE d t)
  else(match qGs (cur++[t])with
   |some x=>(rS r [] (cE d t)).map (x::·)
   |none=>none)
def qEh(s:Bs):Option Pg:=(rS (cQ s.length s) [] 0).map Pg.mk
mutual
def Gl.cb:Gl→Nat
 | .mk k _ _ gs=>if k=8 then max 1 (Gl.cbOr gs)else if k=7 then Gl.cbAnd gs else 1
def Gl.cbOr:List Gl→Nat
 |[]=>0
 |g::r=>g.cb+Gl.cbOr r
def Gl.cbAnd:List Gl→Nat
 |[]=>1
 |g::r=>g.cb*Gl.cbAnd r
end
def qEm(m:Nat):List Rl→Nat
 |[]=>0
 |r::l=>r.body.cb*m ^ (r.arity+r.locals).toNat+qEm m l
def lE(m:Nat)(p:Pg):Bool:=p.rels.all (fun r=>decide (r.body.cb≤64∧m ^ (r.arity+r.locals).toNat≤4096))&&decide (qEm m p.rels≤2000)
abbrev Sig:=List (ByteArray×Int)
structure Dr (sg:Sig) (n:Int) (mode:Int) (m b:Nat) (g:Gl):Prop where
 sh:g.Sh
 cnt:g.cnt≤m
 cb:g.cb≤b
 vars:∀v∈g.vars,v<n
 calls:∀x∈g.all,x.kind=9→(x.name,(x.terms.length:Int))∈sg
 pos:mode≤1→g.Pos
theorem Dr.mono{sg:Sig}{n mode:Int}{m b m' b':Nat}{g:Gl}(h:Dr sg n mode m b g)(hm:m≤m')(hb:b≤b'):Dr sg n mode m' b' g:=
 ⟨h.sh,Nat.le_trans h.cnt hm,Nat.le_trans h.cb hb,h.vars,h.calls,h.pos⟩
theorem qCx{g:Gl}{v:Int}(h:v∈g.vars):v∈g.tvars∨∃x∈g.goals,v∈x.vars:=by
 unfold Gl.vars at h
 rw[Gl.all_eq,List.flatMap_cons]at h
 rcases List.mem_append.1 h with h|h
 ·exact .inl h
 ·have w_ := List.mem_flatMap.1 h
  obtain⟨y,hy,hv⟩:=w_
  have w_:=List.mem_flatMap.1 hy
  obtain⟨x,hx,hy⟩:=w_
  exact .inr ⟨x,hx,List.mem_flatMap.2 ⟨y,hy,hv⟩⟩
theorem qFw{g x:Gl}(h:x∈g.all):x=g∨∃y∈g.goals,x∈y.all:=by
 rw[Gl.all_eq]at h
 rcases List.mem_cons.1 h with h|h
 ·exact .inl h
 ·exact .inr (List.mem_flatMap.1 h)
theorem qDz{sg:Sig}{n mode:Int}{m b:Nat}{k:Int}{gs:List Gl}(h:∀g∈gs,Dr sg n mode m b g)(h9:k≠9)(h10:mode≤1→k≠10):
  (∀v∈(Gl.mk k ⟨#[]⟩ [] gs).vars,v<n)∧(∀x∈(Gl.mk k ⟨#[]⟩ [] gs).all,x.kind=9→(x.name,(x.terms.length:Int))∈sg)∧(mode≤1→(Gl.mk k ⟨#[]⟩ [] gs).Pos):=by
 refine⟨fun v hv=>?_,fun x hx hx9=>?_,fun hm=>(Gl.pos_eq _).2 ⟨h10 hm,fun x hx=>(h x hx).pos hm⟩⟩
 ·rcases qCx hv with hv | ⟨x, hx, hv⟩
  ·cases hv
  ·exact(h x hx).vars v hv
 ·rcases qFw hx with rfl | ⟨y, hy, hx⟩
  ·exact absurd hx9 h9
  ·exact(h y hy).calls x hx hx9
theorem Dr.neg{sg:Sig}{n mode:Int}{m b:Nat}{g:Gl}(h:Dr sg n mode m b g)(h9:g.kind=9)(hm:1<mode):Dr sg n mode (1+m) 1 (.mk 10 ⟨#[]⟩ [] [g]):=by
 have hg:∀x∈[g],Dr sg n mode m b x:=fun x hx=>by rw[List.mem_singleton.1 hx];exact h
 have w_:=qDz (k:=10) hg (by decide) (fun h=>absurd h (by omega))
 obtain⟨h1,h2,h3⟩:=w_
 refine⟨.mk ?_ fun x hx=>(hg x hx).sh,?_,?_,h1,h2,h3⟩
 ·exact {
      tm:=fun t ht=>by cases ht
      k0:=by show(0:Int)≤10;decide
      k1:=by show(10:Int)≤10;decide
      nm:=fun _=>rfl
      rel:=fun h=>by have h:(10:Int)=9:=h;omega
      ln9:=fun _=>Nat.zero_le _
      ln2:=fun h=>by have h:(10:Int)=2∨(10:Int)=3∨(10:Int)=6:=h;omega
      ln1:=fun h=>by have h:(10:Int)=4∨(10:Int)=5:=h;omega
      ln0:=fun _=>rfl
      gl:=by show 1≤8;decide
      gl0:=fun h=>by have h:(10:Int)<7∨(10:Int)=9:=h;omega
      gl1:=fun _=>rfl
      sy:=fun h=>by have h:(10:Int)=6:=h;omega
      cl:=fun _ x hx=>by cases hx;exact h9}
 ·rw [Gl.cnt, Gl.cnts, Gl.cnts]
  have:=h.cnt
  omega
 ·rw [Gl.cb, if_neg (by decide), if_neg (by decide)]
  exact Nat.le_refl _
def nmI(i:Nat):ByteArray:=mkS [UInt8.ofNat (112+i)]
def qKu(l:List Rl):Sig:=l.map fun r=>(r.name,r.arity)
structure DrP (mode:Int) (l:List Rl):Prop where
 ne:1≤l.length
 le:l.length≤3
 nm:∀(i:Nat) r,l[i]? =some r→r.name=nmI i
 ar:∀r∈l,1≤r.arity∧r.arity≤2
 lo:∀r∈l,0≤r.locals∧r.locals≤1
 body:∀r∈l,Dr (qKu l) (r.arity+r.locals) mode 40 3 r.body
theorem nmI_inj{i j:Nat}(hi:i<3)(hj:j<3)(h:nmI i=nmI j):i=j:=by
 have h:=bA h
 have w_:i=0∨i=1∨i=2:=by omega
 have hw_:j=0∨j=1∨j=2:=by omega
 rcases w_ with rfl|rfl|rfl<;>rcases hw_ with rfl|rfl|rfl<;>first|rfl|(revert h;decide)
theorem qIt{i:Nat}(hi:i<3):iJ (nmI i):=by
 have w_:i=0∨i=1∨i=2:=by omega
 rcases w_ with rfl|rfl|rfl<;>
 ·refine ⟨?_, kZ (by decide)⟩
  intro h
  simp only[rsv,List.mem_cons,List.not_mem_nil,or_false]at h
  rcases h with h|h|h|h|h|h|h|h|h<;>exact absurd (congrArg lsS h) (by decide)
theorem qKo:∀(l:List Rl) (k i:Nat) (r:Rl),l[i]? =some r→(∀(j:Nat) x,j<i→l[j]? =some x→x.name≠r.name)→dJ l k r.name=((k+i:Nat):Int)
 |[],_,i,_,h,_=>by simp at h
 |x::l,k,0,r,h,_=>by
  cases h
  rw[dJ,if_pos rfl]
  rfl
 |x::l,k,i+1,r,h,hne=>by
  rw[dJ,if_neg (hne 0 x (by omega) rfl),qKo l (k+1) i r (by simpa using h) (fun j y hj hy=>hne (j+1) y (by omega) (by simpa using hy))]
  congr 1
  omega
theorem DrP.at_{mode:Int}{l:List Rl}(h:DrP mode l){i:Nat}{r:Rl}(hr:l[i]? =some r):relAt ⟨l⟩ r.name=(i:Int):=by
 have h3:=h.le
 have hi:=(List.getElem?_eq_some_iff.1 hr).1
 have:=qKo l 0 i r hr fun j x hj hx e=>by
  rw[h.nm j x hx,h.nm i r hr]at e
  have:=nmI_inj (by omega) (by omega) e
  omega
 rw[relAt,this,Nat.zero_add]
theorem DrP.ok{mode:Int}{l:List Rl}(h:DrP mode l):(⟨l⟩:Pg).Ok:=by
 have h3:=h.le
 refine⟨by show l.length≤8;omega,fun i r hr=>?_⟩
 have hr:l[i]? =some r:=hr
 have hm:=List.mem_of_getElem? hr
 have hi:=(List.getElem?_eq_some_iff.1 hr).1
 have ha:=h.ar r hm
 have hl:=h.lo r hm
 have hb:=h.body r hm
 refine⟨h.at_ hr,by rw[h.nm i r hr];exact qIt (by omega),by omega,by omega,hl.1,by omega,hb.sh,Nat.le_trans hb.cnt (by decide),hb.vars,FitAll.of fun x hx h9=>?_⟩
 have w_:=List.mem_map.1 (hb.calls x hx h9)
 obtain⟨s,hs,e⟩:=w_
 have w_:=List.getElem?_of_mem hs
 obtain⟨j,hj⟩:=w_
 have e1:s.name=x.name:=congrArg Prod.fst e
 have e2:s.arity=(x.terms.length:Int):=congrArg Prod.snd e
 exact⟨j,s,by rw[←e1];exact h.at_ hj,hj,e2⟩
theorem DrP.pos{mode:Int}{l:List Rl}(h:DrP mode l)(hm:mode≤1):(⟨l⟩:Pg).Pos:=⟨h.ok,fun r hr=>(h.body r hr).pos hm⟩
structure MkP (mode:Int) (p:Pg):Prop where
 ok:p.Ok
 small3:lE 3 p=true
 small2:lE 2 p=true
 pos:mode≤1→p.Pos
 ne:p.rels≠[]
 ar:∀r∈p.rels,1≤r.arity
end Go.Vx
namespace Go.Vx
open Go.Proofs Classical
structure LibOk (s:Bs) (p:Pg):Prop where
 parse:qEh s=some p
 len:s.length≤400
 bytes:∀b∈s,b.toNat≠59∧(b.toNat=10∨(32≤b.toNat∧b.toNat≤126))
 wd:p.d.wd
 small3:lE 3 p=true
 small2:lE 2 p=true
 ne:p.rels≠[]
 ar:∀r∈p.rels,1≤r.arity
section
variable {μ:Mem}
end
end Go.Vx
namespace Go.Vx
open Go.Proofs Classical
def RelV(sg:ByteArray×Int)(x:Value):Prop:=∃(lo k:Int) (s:ByteArray) (b1:Option Addr) (n1 c1:Nat) (b2:Option Addr) (n2 c2:Nat),x= .agg #[.string sg.1,.int .i64 sg.2,.int .i64 lo,.int .i64 k,.string s,.slice b1 n1 c1,.slice b2 n2 c2]
structure RelsO (h:Mem) (rb cap:Nat) (sg:Sig) (xs:List Value):Prop where
 row:RowO h rb cap 63 7 xs
 len:xs.length=sg.length
 at_:∀(i:Nat) q,sg[i]? =some q→∃x,xs[i]? =some x∧RelV q x
structure SigOk (sg:Sig):Prop where
 pos:1≤sg.length
 max:sg.length≤3
 nm:∀q∈sg,iJ q.1
 ar:∀q∈sg,0≤q.2∧q.2≤4
section
variable {μ:Mem}
end
end Go.Vx
namespace Go.Vx
open Go.Proofs Classical
abbrev Tr:=ByteArray×Int×Int
def sgT(qs:List Tr):Sig:=qs.map fun q=>(q.1,q.2.1)
theorem Cur.other{μ h:Mem}{r rb:Nat}{o':Obj}(hc:Cur μ h r h)(hne:rb≠r):Cur μ (h.set rb o') r (h.set rb o'):=by
 obtain⟨o,h1,h2⟩:=hc.ex
 refine⟨o,h1,(Mem.set_self ?_).symm⟩
 rw[Mem.set_ne (Ne.symm hne),h2,Mem.set_at]
structure Trs (qs:List Tr):Prop where
 nm:∀(j:Nat) q,qs[j]? =some q→q.1=nmI j
 ar:∀q∈qs,1≤q.2.1∧q.2.1≤2
 lo:∀q∈qs,0≤q.2.2∧q.2.2≤1
theorem eD{g h:Mem}{r:Nat}{o:Obj}(k:g.Le h)(hr:g r=none):g.Le (h.set r o):=fun b x hb=>by
 have e:b≠r:=fun e=>by rw[e,hr]at hb;cases hb
 rw[Mem.set_ne e]
 exact k b x hb
theorem jC{g h:Mem}{r:Nat}(k:g.Le h)(hr:h r=none):g r=none:=by
 cases e:g r with
 |none=>rfl
 |some o=>rw[k r o e]at hr;cases hr
theorem kW{μ g h:Mem}(k:Apart μ h)(hl:g.Le h):Apart μ g:=fun b hb=>jC hl (k b hb)
theorem qFo{μ μ' g g':Mem}(hl:μ.Le μ')(hg:g.Le g')(ha:Apart μ' g'):(μ.join g).Le (μ'.join g'):=fun b o hb=>by
 rw[Mem.join_get]at hb ⊢
 cases e:μ b with
 |some x=>
  rw[e]at hb
  rw[hl b x e]
  exact hb
 |none=>
  rw[e]at hb
  have hb':=hg b o hb
  cases e2:μ' b with
  |none=>exact hb'
  |some x=>
   have:=ha b (by rw[e2];simp)
   rw[this]at hb'
   cases hb'
theorem qQl{α:Type}:∀(xs:List α) (i:Nat) (x:α),i<xs.length→(xs.set i x).take (i+1)=xs.take i++[x]
 |a::r,0,x,_=>by simp
 |a::r,i+1,x,h=>by
  have:=qQl r i x (by simpa using h)
  simp[this]
structure DrI (μ1:Mem) (qs:List Tr) (ys:List Value) (r rb c:Nat) (mode:Int) (i:Nat) (ls:List Rl) (xs:List Value) (μ' h':Mem):Prop where
 hi:i≤ys.length
 hle:μ1.Le μ'
 hll:ls.length=i
 hc:Cur μ' h' r h'
 hx0:i=0→xs=ys
 hpos:0<i→rb≠r∧RelsO h' rb c (sgT qs) xs∧Apart μ' h'
 hxl:xs.length=ys.length
 hxy:∀j,i≤j→xs[j]? =ys[j]?
 hB:∃hB:Mem,hB.Le h'∧hB r=none∧hB rb=none∧Rows (μ'.join hB) 7 (ls.map Rl.d) (xs.take i)
 hg:∀(j:Nat) l q,ls[j]? =some l→qs[j]? =some q→l.name=q.1∧l.arity=q.2.1∧l.locals=q.2.2∧Dr (sgT qs) (q.2.1+q.2.2) mode 40 3 l.body
theorem DrI.next{μ1 μ2 μ6 h2 h6 hB hB':Mem}{qs:List Tr}{ys xs:List Value}{r rb c i n:Nat}{mode:Int}{ls:List Rl}{q:Tr}{g:Gl}{o:Obj}{k:Int}{s:ByteArray}{b1:Option Addr}{n1 c1:Nat}{b2:Option Addr}{n2 c2:Nat}
  (D:DrI μ1 qs ys r rb c mode i ls xs μ2 h2) (hlt:i<ys.length) (hq:qs[i]? =some q) (hn:q.2.1+q.2.2=(n:Int)) (hne:rb≠r) (hle26:μ2.Le μ6) (hcz:Cur μ6 h6 r h6) (hRO6:RelsO h6 rb c (sgT qs) xs) (hap6:Apart μ6 h6) (hBB:hB.Le hB') (hB6:hB'.Le h6) (hBn:hB' r=none∧hB' rb=none) (hrows:Rows (μ2.join hB) 7 (ls.map Rl.d) (xs.take i))
  (hrow2:RowO (h6.set rb o) rb c 63 7 (xs.set i (.agg #[.string q.1,.int .i64 q.2.1,.int .i64 q.2.2,.int .i64 k,.string s,.slice b1 n1 c1,.slice b2 n2 c2]))) (hrep:RepV (μ6.join hB') g.d (.agg #[.int .i64 k,.string s,.slice b1 n1 c1,.slice b2 n2 c2])) (hdr:Dr (sgT qs) n mode 40 3 g):
  DrI μ1 qs ys r rb c mode (i+1) (ls++[⟨q.1,q.2.1,q.2.2,g⟩]) (xs.set i (.agg #[.string q.1,.int .i64 q.2.1,.int .i64 q.2.2,.int .i64 k,.string s,.slice b1 n1 c1,.slice b2 n2 c2])) μ6 (h6.set rb o) where
 hi:=hlt
 hle:=D.hle.trans hle26
 hll:=by simp only[List.length_append,List.length_singleton];rw[D.hll]
 hc:=hcz.other hne
 hx0:=fun e=>absurd e (by omega)
 hpos:=fun _=>⟨hne,⟨hrow2,by rw[List.length_set];exact hRO6.len,fun j q' hq'=>by
  by_cases ej:j=i
  ·subst ej
   refine⟨_,List.getElem?_set_self (by rw[D.hxl];exact hlt),?_⟩
   rw[sgT,List.getElem?_map,hq]at hq'
   cases hq'
   exact⟨_,_,_,_,_,_,_,_,_,rfl⟩
  ·have w_ := hRO6.at_ j q' hq'
   obtain⟨x,hx,hV⟩:=w_
   exact⟨x,by rw[List.getElem?_set_ne (Ne.symm ej)];exact hx,hV⟩⟩,hap6.set (kA hRO6.row hap6 (.inl rfl))⟩
 hxl:=by rw[List.length_set];exact D.hxl
 hxy:=fun j hj=>by
  rw[List.getElem?_set_ne (by omega)]
  exact D.hxy j (by omega)
 hB:=by
  refine⟨hB',eD hB6 hBn.2,hBn.1,hBn.2,?_⟩
  rw[qQl _ _ _ (by rw[D.hxl];exact hlt),List.map_append]
  refine(hrows.mono (qFo hle26 hBB (kW hap6 hB6))).append (Rows.one (d:=(Rl.mk q.1 q.2.1 q.2.2 g).d) ?_ (Rl.d_n _))
  have:=hrep.cells
  rw[Rl.d_eq]
  exact⟨_,rfl,RepS.str (RepS.int (RepS.int (RepS.last this)))⟩
 hg:=fun j l q' hl hq'=>by
  rw[List.getElem?_append]at hl
  split at hl
  ·exact D.hg j l q' hl hq'
  ·rename_i hj
   have hll:=D.hll
   have w_:=List.getElem?_eq_some_iff.1 hl
   obtain⟨h1',h2'⟩:=w_
   rw[List.length_singleton]at h1'
   have ej:j-ls.length=0:=by omega
   rw[ej]at hl
   cases hl
   have ej:j=i:=by omega
   subst ej
   rw[hq]at hq'
   cases hq'
   exact⟨rfl,rfl,rfl,by rw[hn];exact hdr⟩
section
variable {μ:Mem}
end
end Go.Vx
namespace Go.Vx
open Go.Proofs Classical
theorem Pg.Pure.pos{p:Pg}(h:p.Pure):p.Pos:=⟨h.1,fun r hr x hx=>(h.2 r hr x hx).1⟩
section
variable {μ:Mem}
end
end Go.Vx
namespace Go.Vx
open Go.Proofs Classical
def AscT(l:List T):Prop:=∀(i:Nat) x y,l[i]? =some x→l[i+1]? =some y→x.cmp y<0
theorem AscT.ins{l:List T}{t:T}{k:Nat}(h:AscT l)(hk:k≤l.length)(h1:∀x,l[k]? =some x→t.cmp x<0)(h2:∀j x,j+1=k→l[j]? =some x→x.cmp t<0):AscT (l.take k++t::l.drop k):=by
 intro i x y hx hy
 have hlen:(l.take k).length=k:=by rw[List.length_take];omega
 rw[List.getElem?_append]at hx hy
 rw[hlen]at hx hy
 by_cases a:i+1<k
 ·rw [if_pos (by omega), List.getElem?_take, if_pos (by omega)] at hx
  rw[if_pos a,List.getElem?_take,if_pos a]at hy
  exact h i x y hx hy
 ·rw [if_neg a] at hy
  by_cases b:i<k
  ·have e : i + 1 = k := by omega
   rw[if_pos b,List.getElem?_take,if_pos b]at hx
   rw[e,Nat.sub_self]at hy
   cases hy
   exact h2 i x e hx
  ·rw [if_neg b] at hx
   by_cases c:i=k
   ·subst c
    rw[Nat.sub_self]at hx
    rw[show i+1-i=0+1 from by omega,List.getElem?_cons_succ,List.getElem?_drop,Nat.add_zero]at hy
    cases hx
    exact h1 y hy
   ·rw [show i - k = (i - k - 1) + 1 from by omega, List.getElem?_cons_succ, List.getElem?_drop, show k + (i - k - 1) = i - 1 from by omega] at hx
    rw[show i+1-k=(i-k)+1 from by omega,List.getElem?_cons_succ,List.getElem?_drop,show k+(i-k)=(i-1)+1 from by omega]at hy
    exact h (i-1) x y hx hy
section
variable {μ:Mem}
end
end Go.Vx
namespace Go.Vx
open Go.Proofs Classical
section
variable {μ:Mem}
structure Uni (most:Nat) (xs:List T):Prop where
 asc:AscT xs
 pos:1≤xs.length
 max:xs.length≤most
 drawn:∀t∈xs,Drawn 2 0 t
theorem Uni.ok{most:Nat}{xs:List T}(h:Uni most xs)(hm:most≤8):UnivOk (xs.map T.tm) where
 pos:=by rw[List.length_map];exact h.pos
 max:=by rw[List.length_map];exact Nat.le_trans h.max hm
 gnd:=fun t ht=>by
  have w_:=List.mem_map.1 ht
  obtain⟨x,hx,rfl⟩:=w_
  have hd:=h.drawn x hx
  refine⟨(hd.ok (by decide)).tm,?_⟩
  rw[T.toT_tm]
  rcases hvs:x.vars with _|⟨a,l⟩
  ·rfl
  ·have := hd.low a (xB (by rw [hvs]; simp))
   omega
 asc:=fun i x y hx hy=>by
  rw[List.getElem?_map]at hx hy
  have w_:=Option.map_eq_some_iff.1 hx
  obtain⟨a,ha,rfl⟩:=w_
  have w_:=Option.map_eq_some_iff.1 hy
  obtain⟨b,hb,rfl⟩:=w_
  rw[T.toT_tm,T.toT_tm]
  exact h.asc i a b ha hb
end
end Go.Vx
namespace Go.Vx
open Go.Proofs Classical
theorem Gl.Sh_wd{g:Gl}(h:g.Sh):g.d.wd:=by
 revert h
 refine Gl.ind (q:=fun g=>g.Sh→g.d.wd) (fun g ih h=>?_) g
 have w_:=fD h.top.tm
 obtain⟨xs,hxs,hok⟩:=w_
 have hk0:=h.top.k0
 have hk1:=h.top.k1
 have hnm:g.name.size≤maxLen:=by
  by_cases h9:g.kind=9
  ·exact Nat.le_trans (h.top.rel h9).2.2.1 (by decide)
  ·rw[h.top.nm h9];exact Nat.zero_le _
 rw[Gl.d_eq,hxs]
 refine⟨⟨by omega,by omega⟩,hnm,mU fun x hx=>(hok x hx).1,D.wds_of fun d hd=>?_,trivial⟩
 have w_:=List.mem_map.1 hd
 obtain⟨y,hy,rfl⟩:=w_
 exact ih y hy (h.sub y hy)
theorem Pg.Ok.wd{p:Pg}(hp:p.Ok):p.d.wd:=by
 rw[Pg.d_eq]
 refine⟨D.wds_of fun d hd=>?_,trivial⟩
 have w_:=List.mem_map.1 hd
 obtain⟨r,hr,rfl⟩:=w_
 have w_:=List.getElem?_of_mem hr
 obtain⟨i,hi⟩:=w_
 have h:=hp.2 i r hi
 have:=h.ar0
 have:=h.ar4
 have:=h.lo0
 have:=h.lo8
 rw[Rl.d_eq]
 exact⟨Nat.le_trans h.name.2.2.1 (by decide),⟨by omega,by omega⟩,⟨by omega,by omega⟩,Gl.Sh_wd h.body,trivial⟩
structure IsRule (p:Pg) (U:List T) (ru:Ru) (r:Rl) (L:List (List Gl)) (i:Nat) (c:List Gl) (vs:List T):Prop where
 rel:r∈p.rels
 cl:r.body.cl=some L
 at_:L[i]? =some c
 len:vs.length=(r.arity+r.locals).toNat
 uni:∀v∈vs,v∈U
 ok:∀g∈c,okG U vs g
 eq:ru=dZ r i c vs
end Go.Vx
