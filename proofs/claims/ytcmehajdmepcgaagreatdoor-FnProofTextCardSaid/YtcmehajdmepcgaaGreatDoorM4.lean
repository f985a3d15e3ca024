/- Texts of the proof, part M4. -/
import Derived.Test.YtcmehajdmepcgaaGreatDoorM3
namespace Go.Vx
open Go.Proofs Classical
structure RuOk (p:Pg) (r:Ru):Prop where
 head:FactFits p r.head.fc
 hlen:r.head.args.length≤4
 plen:∀f∈r.pos,f.args.length≤4
 pcnt:r.pos.length≤60
 pok:∀f∈r.pos,∀a∈f.args,a.ok
theorem oP{p:Pg}{u:List Tm}{rs:List Ru}(h:dP p u=some rs):rs.length≤2000∧∀r∈rs,RuOk p r:=by
 have hok:=qAd h
 rw[dP,if_pos hok,iS]at h
 split at h
 ·rename_i hw
  cases h
  refine⟨hw.2,fun r hr=>?_⟩
  have w_:=List.mem_flatMap.1 hr
  obtain⟨rel,hrel,hr⟩:=w_
  have w_:=List.mem_iff_getElem?.1 hrel
  obtain⟨k,hk⟩:=w_
  have hro:=hok.1.2 k rel hk
  rw[gK]at hr
  split at hr
  ·simp at hr
  ·rename_i L hL
   rw[cM,List.mem_flatMap]at hr
   obtain⟨i,hi,hr⟩:=hr
   rw[List.mem_range]at hi
   have w_:=aSo (l:=L) (i:=i) hi
   obtain⟨c,hc⟩:=w_
   have ec:L.getD i []=c:=by rw[List.getD_eq_getElem?_getD,hc];rfl
   rw[ec,cX,List.mem_filterMap]at hr
   obtain⟨w,-,hr⟩:=hr
   rw[jL]at hr
   split at hr
   ·rename_i hokg
    cases hr
    have hG:∀g∈c,ClG g:=fun g hg=>ClG.of hok.1 hk hL (mAt hc) hg
    have w_:=hok.2.lift
    obtain⟨U,hU,hUg,hUl⟩:=w_
    have e1:u.map Tm.toT=U:=by rw[hU,mT]
    rw[e1]
    have h1:=hok.2.pos
    have har0:=hro.ar0
    have har4:=hro.ar4
    have hlo0:=hro.lo0
    have hlen:((eM U (rel.arity+rel.locals).toNat w).take rel.arity.toNat).length=rel.arity.toNat:=by
     rw[List.length_take,jR];omega
    refine⟨⟨⟨k,rel,hro.at_,hk,?_⟩,fun t ht=>?_⟩,?_,qEo hG,Nat.le_trans qIq (Nat.le_trans ((Gl.cl_bnd _ hL).1 c (mAt hc)) hro.size),fun f hf a ha=>(hUg a ((okG_iff.1 (by rw[e1]at hokg;exact hokg)).2.1 f hf a ha)).1⟩
    ·show rel.arity = (((eM U (rel.arity + rel.locals).toNat w).take rel.arity.toNat).map T.tm).length
     rw[List.length_map,hlen];omega
    ·have w_ := List.mem_map.1 ht
     obtain⟨x,hx,rfl⟩:=w_
     have hx:=vJ U (by omega) _ _ x (List.mem_of_mem_take hx)
     exact⟨T.ok.tm (hUg x hx).1,by rw[T.toT_tm];exact(hUg x hx).2⟩
    ·show ((eM U (rel.arity + rel.locals).toNat w).take rel.arity.toNat).length ≤ 4
     rw[hlen];omega
   ·cases hr
 ·cases h
theorem FactFits.len{p:Pg}(hp:p.Ok){f:Fc}(h:FactFits p f):f.args.length≤4:=by
 obtain⟨⟨k,r,h1,h2,h3⟩,_⟩:=h
 have:=(hp.2 k r h2).ar4
 omega
theorem FactFits.wd{p:Pg}(hp:p.Ok){f:Fc}(h:FactFits p f):f.d.wd:=by
 have hl:=h.lift
 obtain⟨⟨k,r,h1,h2,h3⟩,_⟩:=h
 have w_:=jU (p:=p) (s:=f.rel) (by omega)
 obtain⟨k',r',e1,e2,e3⟩:=w_
 have hn:=(hp.2 k' r' e2).name
 rw[e3]at hn
 rw[Fc.d_eq]
 refine⟨Nat.le_trans hn.2.2.1 (by decide),?_,trivial⟩
 have e:f.args=f.f.args.map T.tm:=(congrArg Fc.args hl.1).symm
 rw[e]
 exact kG fun a ha=>(hl.2 a ha).1.1
def FsOk(p:Pg)(L:List F):Prop:=∀f∈L,FactFits p f.fc
theorem FsOk.len{p:Pg}(hp:p.Ok){L:List F}(h:FsOk p L):∀f∈L,f.args.length≤4:=fun f hf=>by
 have:=(h f hf).len hp
 rwa [F.fc_args,List.length_map]at this
theorem lfp_ok{p:Pg}{rs:List Ru}{base:List F}(hr:∀r∈rs,RuOk p r)(hb:FsOk p base):FsOk p (lfp rs base):=fun f hf=>by
 cases mem_lfp.1 hf with
 |base h=>exact hb _ h
 |rule h _=>exact(hr _ h).head
section
variable {μ:Mem}
end
end Go.Vx
namespace Go.Vx
open Go.Proofs Classical
def fsD(L:List F):D:= .sl 2 ((L.map F.fc).map Fc.d)
noncomputable def stD(rs:List Ru)(n:Nat):List D:=(List.range (n+1)).map fun i=>fsD (stF rs i)
theorem qLp(rs:List Ru)(n:Nat):stD rs (n+1)=stD rs n++[fsD (stF rs (n+1))]:=by
 rw[stD,List.range_succ,List.map_append];rfl
theorem qBd(rs:List Ru)(n:Nat):(stD rs n).length=n+1:=by rw[stD,List.length_map,List.length_range]
theorem qCm(rs:List Ru)(n:Nat):(stD rs n)[n]? =some (fsD (stF rs n)):=by
 rw[stD,List.getElem?_map,List.getElem?_range (by omega)];rfl
theorem Rows.val{μ:Mem}{es:Nat}{ds:List D}{ys:List Value}(h:Rows μ es ds ys){i:Nat}{d:D}(hd:ds[i]? =some d):∃v,ys[i]? =some v∧RepV μ d v:=by
 have hl:=(List.getElem?_eq_some_iff.1 hd).1
 have w_:=aSo (l:=ys) (i:=i) (by have:=h.len;omega)
 obtain⟨v,hv⟩:=w_
 exact⟨v,hv,h.atI hd hv⟩
noncomputable def lO(p:Pg)(u:List Tm):Option (List F):=(fJ p u).map fun rs=>lfp rs []
noncomputable def optSt(P:List F→Value→Prop)(o:Option (List F))(v:Value):Prop:=match o with
 |none=>v= .tuple #[.slice none 0 0,.int .i64 0,.bool false]
 |some y=>∃tv,∃n:Nat,v= .tuple #[tv,.int .i64 n,.bool true]∧P y tv
theorem zV{p:Pg}{u:List Tm}{y:List F}(h:lO p u=some y):p.Ok∧FsOk p y∧y.length≤2000∧Asc3 fN y:=by
 cases hP:fJ p u with
 |none=>rw[lO,hP]at h;cases h
 |some rs=>
  rw[lO,hP]at h
  cases h
  rw[fJ]at hP
  split at hP
  ·rename_i hpos
   have w_:=oP hP
   obtain⟨h1,h2⟩:=w_
   refine⟨hpos.1,lfp_ok h2 (fun _ h=>nomatch h),?_,qIi _ _⟩
   have:=lfp_len rs []
   simp only[List.length_nil]at this
   show(lfp rs []).length≤2000
   omega
  ·cases hP
section
variable {μ:Mem}
set_option maxHeartbeats 1000000 in
theorem wB{rs:List Ru}{b3:Option Addr}{c3:Nat}(hr:Sl μ 6 b3 rs.length ((rs.map Ru.rd).map RuD.d))(hn:rs.length≤2000):
  Spec Tryz.prog 80 [.slice b3 rs.length c3] μ fun v μ'=>∃n,LastSt rs n∧RepV μ' (.sl 1 (stD rs n)) v:=by
 refine Spec.mk Tryz.func80 (by kernel_rfl) ?_
 intro r6 μ1 hle1 hno1 hat1 r7
 refine lIn (fun z:Nat×Option Nat×Nat×List Value×Mem=>(∀m,m<z.1→eI rs (stF rs m) []≠stF rs m)∧μ.Le z.2.2.2.2∧Rows z.2.2.2.2 1 (stD rs z.1) z.2.2.2.1)
  (fun(_,bo,co,ys,μ')=>⟨[(0,.val (.slice b3 rs.length c3)),(3,.row 1 bo ys.length co)],[(1,some (.row bo co 49 1 ys))],2,μ',Mem.nil⟩) (fun z=>rs.length+1-z.1)
  (0,some r7,1,_,μ1) ⟨(fun m h=>by omega),hle1,Rows.one (d:=fsD []) (Rows.sl (μ:=μ1) (ds:=[]) hat1 .nil (Nat.zero_le _)) rfl⟩ (fun(_,_,_,_,_)=>⟨rfl,rfl⟩) ⟨⟨rfl,rfl,trivial⟩,⟨rfl,trivial⟩,rfl,rfl⟩ ?_
 rintro⟨n,bo,co,ys,μ'⟩ ⟨hne,hle,hrows⟩
 dsimp only at hne hle hrows
 have hyl:=hrows.len
 rw[qBd]at hyl
 have hsl:=vG hne
 have hrl:=(fY rs n).len
 have w_:=hrows.val (qCm rs n)
 obtain⟨w,hw,hwr⟩:=w_
 have hwr:FsV μ' (stF rs n) w:=hwr
 have w_:=FsV.sl hwr
 obtain⟨b5,c5,rfl,-,hso⟩:=w_
 refine aC (by omega) (by omega) ?_
 refine bK n (by omega) (by omega) (bL _ hw ?_)
 refine cPl (qAo (neg:=[]) (b2:=none) (c2:=0) (hr.mono hle) (by omega) hso slF_nil) fun v4 μ4 hle4 hR4=>?_
 have w_:=FsV.sl hR4
 obtain⟨b6,c6,rfl,-,-⟩:=w_
 refine ifd (fun he=>?_) (fun he=>?_)
 ·refine rFz [1] fun μ5 hle5 hno5 hat5 => .inl ⟨n, ⟨(wA cmpF_ord (fY rs n).asc (kD rs _ _) (fY rs n).sub (by omega)).symm, hne⟩, ?_⟩
  exact Rows.sl hat5 (hrows.mono (hle4.trans hle5)) (Nat.le_trans (m:=100000) (by omega) (by decide))
 ·intro r25
  refine gIn ?_ ?_ fun b' c' _=>?_
  ·show(ys.length+1)*24≤_;omega
  ·exact Nat.le_trans (m:=100000) (show ys.length+1≤_ by omega) (by decide)
  have hne':∀m,m<n+1→eI rs (stF rs m) []≠stF rs m:=fun m hm=>by
   rcases Nat.lt_or_ge m n with k|k
   ·exact hne m k
   ·obtain rfl : m = n := by omega
    intro e
    rw[e]at he
    exact he rfl
  have hs2:=vG hne'
  have hr2:=(fY rs (n+1)).len
  refine⟨(n+1,b',c',_,μ4),⟨hne',hle.trans hle4,?_⟩,by dsimp only;omega,⟨⟨rfl,rfl,trivial⟩,⟨rfl,trivial⟩,rfl,rfl⟩⟩
  dsimp only
  rw[qLp]
  exact(hrows.mono hle4).append (Rows.one (d:=fsD (stF rs (n+1))) hR4 rfl)
set_option maxHeartbeats 1000000 in
theorem qLt{rs:List Ru}{n:Nat}{b:Option Addr}(h:Sl μ 1 b (n+1) (stD rs n)):∃ad,∃q:Option Addr×Nat,ElemAt μ b (n+1) 1 n ad [.slice q.1 (stF rs n).length q.2]∧FsV μ (stF rs n) (.slice q.1 (stF rs n).length q.2):=by
 have w_:=h.get n (fsD (stF rs n)) (qCm rs n)
 obtain⟨ad,cs,h1,h2⟩:=w_
 have h3:Rep μ (fsD (stF rs n)) cs:=h2
 have hl:=Rep.len _ _ h3
 match cs,hl with
 |[v],_=>
  have h4:FsV μ (stF rs n) v:=h3
  have w_:=FsV.sl h4
  obtain⟨b5,c5,rfl,-,_⟩:=w_
  exact⟨ad,(b5,c5),h1,h4⟩
theorem qIj{rs:List Ru}{n:Nat}{v:Value}(h:RepV μ (.sl 1 (stD rs n)) v):∃b c,v= .slice b (n+1) c∧Sl μ 1 b (n+1) (stD rs n):=by
 have w_:=Rep.sl h
 obtain⟨b,c,rfl,hs⟩:=w_
 have hs2:=hs.1
 rw[qBd]at hs hs2
 exact⟨b,c,by rw[qBd],hs⟩
theorem sN{p:Pg}{u:List Tm}{v:Value}{ub:Option Addr}{uc:Nat}(hp:RepV μ p.d v)(hw:p.d.wd)(hu:Sl μ 4 ub u.length (u.map Tm.d))(hwu:D.wds (u.map Tm.d)):
  Spec Tryz.prog 41 [v,.slice ub u.length uc] μ fun v μ'=>match fJ p u with
   |none=>v= .tuple #[.slice none 0 0,.slice none 0 0,.bool false]
   |some rs=>∃t1 t2,v= .tuple #[t1,t2,.bool true]∧RsV μ' rs t1∧∃n,LastSt rs n∧RepV μ' (.sl 1 (stD rs n)) t2:=by
 have hp0:=hp
 have w_:=Pg.inv hp
 obtain⟨q,rfl,hrl⟩:=w_
 refine Spec.mk Tryz.func41 (by kernel_rfl) ?_
 intro r2
 refine cPl (gA hp0 hw) fun v1 μ1 hle1 hR=>?_
 obtain rfl:=hR
 refine aL (fun h=>rPl (by rw[fJ,if_neg h])) (fun hpos=>?_)
 refine cPl (lN (hp0.mono hle1) hw (hu.mono hle1) hwu) fun v2 μ2 hle2 hR=>?_
 rw[fJ,if_pos hpos]
 cases hL:dP p u with
 |none=>
  rw[hL]at hR
  obtain rfl:=hR
  exact iIn (fun _=>rPl rfl) (fun h=>nomatch h)
 |some rs=>
 rw[hL]at hR
 obtain⟨tv,rfl,hR⟩:=hR
 have hR:RsV μ2 rs tv:=hR
 have w_:=RsV.sl hR
 obtain⟨b1,c1,rfl,hrs⟩:=w_
 refine iIn (fun h=>nomatch h) (fun _=>?_)
 refine cPl (wB hrs (oP hL).1) fun v3 μ3 hle3 hR3=>?_
 exact rPl ⟨_,_,rfl,RepV.mono hle3 hR,hR3⟩
theorem lW{p:Pg}{u:List Tm}{v:Value}{ub:Option Addr}{uc:Nat}(hp:RepV μ p.d v)(hw:p.d.wd)(hu:Sl μ 4 ub u.length (u.map Tm.d))(hwu:D.wds (u.map Tm.d)):
  Spec Tryz.prog 20 [v,.slice ub u.length uc] μ fun v μ'=>optSt (fun y tv=>FsV μ' y tv) (lO p u) v:=by
 have hp0:=hp
 have w_:=Pg.inv hp
 obtain⟨q,rfl,hrl⟩:=w_
 refine Spec.mk Tryz.func20 (by kernel_rfl) ?_
 intro r2
 refine cPl (sN hp0 hw hu hwu) fun v1 μ1 hle1 hR=>?_
 cases hP:fJ p u with
 |none=>
  rw[hP]at hR
  obtain rfl:=hR
  refine iIn (fun _=>rPl (by rw[lO,hP];rfl)) (fun h=>nomatch h)
 |some rs=>
 rw[hP]at hR
 obtain⟨t1,t2,rfl,hR1,n,hlast,hR2⟩:=hR
 have hL:lO p u=some (lfp rs []):=by rw[lO,hP];rfl
 have hk:=zV hL
 have w_:=qIj hR2
 obtain⟨b2,c2,rfl,hs2⟩:=w_
 have hsl:=vG hlast.2
 rw[←hlast.eq]at hL hk
 refine iIn (fun h=>nomatch h) (fun _=>?_)
 refine aC (by omega) (by omega) ?_
 have w_:=qLt hs2
 obtain⟨ad,q2,hel,hfs⟩:=w_
 rw[show(((n+1:Nat):Int)-1)=(n:Int) by omega]
 refine eIn hel ?_
 have w_:=FsV.sl hfs
 obtain⟨b4,c4,e,-,hs4⟩:=w_
 have w_:=Value.slice.inj e
 obtain⟨e1,_,e3⟩:=w_
 rw[←e1]at hs4
 refine cPl (lA hs4 (by omega) fun f hf=>Nat.le_trans (hk.2.1.len hk.1 f hf) (by decide)) fun v4 μ4 hle4 hR4=>?_
 refine aC (by omega) (by omega) ?_
 refine rPl ?_
 rw[hL]
 exact⟨_,n,by rw[show(((n+1:Nat):Int)-1)=(n:Int) by omega],hR4⟩
end
end Go.Vx
namespace Go.Vx
open Go.Proofs Classical
abbrev NmV(μ:Mem)(l:List ByteArray)(v:Value):Prop:=RepV μ (.sl 1 (l.map D.s)) v
theorem Nm.rows{μ:Mem}:∀l:List ByteArray,Rows μ 1 (l.map D.s) (l.map Value.string)
 |[]=> .nil
 |s::l=> .cons (show RepV μ (D.s s) (.string s)from rfl) rfl (Nm.rows l)
theorem Nm.elem{μ:Mem}{l:List ByteArray}{b:Option Addr}{n i:Nat}{s:ByteArray}(h:Sl μ 1 b n (l.map D.s))(hs:l[i]? =some s):∃ad,ElemAt μ b n 1 i ad [.string s]:=by
 have w_:=h.get i (D.s s) (by simp[hs])
 obtain⟨ad,cs,h1,h2⟩:=w_
 have h2:cs=[.string s]:=h2
 subst h2
 exact⟨ad,h1⟩
theorem NmV.sl{μ:Mem}{l:List ByteArray}{v:Value}(h:NmV μ l v):∃b c,v= .slice b l.length c∧Sl μ 1 b l.length (l.map D.s):=by
 have w_:=Rep.sl h
 obtain⟨b,c,rfl,hs⟩:=w_
 rw[List.length_map]at hs
 exact⟨b,c,by rw[List.length_map],hs⟩
set_option maxHeartbeats 2000000 in
section
variable {μ:Mem}
end
end Go.Vx
namespace Go.Vx
open Go.Proofs Classical
theorem T.occ_vars{n:Int}:∀{x:T},x.occ n↔n∈x.vars
 | .var m=>by
  show m=n↔n∈[m]
  rw[List.mem_singleton];exact eq_comm
 | .pair a b=>by
  show a.occ n∨b.occ n↔n∈a.vars++b.vars
  rw[List.mem_append,T.occ_vars (x:=a),T.occ_vars (x:=b)]
 | .nil=>⟨fun h=>h.elim,fun h=>by simp[T.vars]at h⟩
 | .sym _=>⟨fun h=>h.elim,fun h=>by simp[T.vars]at h⟩
 | .num _=>⟨fun h=>h.elim,fun h=>by simp[T.vars]at h⟩
def T.lvs:T→Nat
 | .pair a b=>a.lvs+b.lvs
 |_=>1
theorem T.size_lvs:∀t:T,t.size+1=2*t.lvs
 | .pair a b=>by
  have h1:=a.size_lvs
  have h2:=b.size_lvs
  simp only[T.size,T.lvs];omega
 | .nil=>rfl
 | .var _=>rfl
 | .sym _=>rfl
 | .num _=>rfl
theorem sQ{t:T}{n:Int}(h:n∈t.vars):t.occ n:=T.occ_vars.2 h
def T.nums:T→Prop
 | .num n=>0≤n∧n<100
 | .pair a b=>a.nums∧b.nums
 |_=>True
structure Drawn (k:Nat) (vars:Int) (t:T):Prop where
 good:t.good
 low:∀n,t.occ n→0≤n∧n<vars
 lvs:t.lvs≤k
 nums:t.nums
theorem Drawn.pair{k l:Nat}{vars:Int}{a b:T}(h:Drawn k vars a)(h2:Drawn l vars b):Drawn (k+l) vars (.pair a b):=
 ⟨⟨h.good,h2.good⟩,fun n hn=>hn.elim (h.low n) (h2.low n),by have:=h.lvs;have:=h2.lvs;simp only[T.lvs];omega,⟨h.nums,h2.nums⟩⟩
theorem Drawn.mono{k l:Nat}{vars:Int}{a:T}(h:Drawn k vars a)(hl:k≤l):Drawn l vars a:=⟨h.good,h.low,Nat.le_trans h.lvs hl,h.nums⟩
theorem Drawn.size{k:Nat}{vars:Int}{a:T}(h:Drawn k vars a):a.size≤2*k:=by
 have h1:=a.size_lvs
 have h2:=h.lvs
 omega
theorem Drawn.ok{k:Nat}{vars:Int}{a:T}(h:Drawn k vars a)(hk:k≤2500):a.ok:=⟨h.good,by have:=h.size;omega⟩
def lvB(n:Nat):Nat:=if 2<n then 2*lvB (n / 2)else 1
termination_by n
decreasing_by omega
theorem lvB_4:lvB 4=2:=by rw[lvB,if_pos (by decide),lvB,if_neg (by decide)]
theorem qIk:lvB 3=2:=by rw[lvB,if_pos (by decide),lvB,if_neg (by decide)]
theorem nF:∀n,1≤lvB n:=fun n=>by
 induction n using Nat.strongRecOn with
 |ind n ih=>
  rw[lvB]
  split
  ·have:=ih (n / 2) (by omega);omega
  ·exact Nat.le_refl _
end Go.Vx
namespace Go.Vx
open Go.Proofs Classical
mutual
def Pf.cnt:Pf→Nat
 | .mk _ _ _ l=>1+Pf.cnts l
def Pf.cnts:List Pf→Nat
 |[]=>0
 |t::r=>t.cnt+Pf.cnts r
end
theorem Pf.cnt_eq1(g:Pf):g.cnt=1+Pf.cnts g.kids:=by cases g;rfl
theorem Pf.cnt_pos(g:Pf):1≤g.cnt:=by rw[Pf.cnt_eq1];omega
theorem Pf.cnts_append:∀(a c:List Pf),Pf.cnts (a++c)=Pf.cnts a+Pf.cnts c
 |[],c=>by simp[Pf.cnts]
 |d::r,c=>by simp[Pf.cnts,Pf.cnts_append r c,Nat.add_assoc]
theorem Pf.cnts_take{xs:List Pf}{j:Nat}{x:Pf}(h:xs[j]? =some x):Pf.cnts (xs.take (j+1))=Pf.cnts (xs.take j)+x.cnt:=by
 rw[List.take_add_one,h,Option.toList_some,Pf.cnts_append];simp[Pf.cnts]
theorem Pf.cnts_le(xs:List Pf)(j:Nat):Pf.cnts (xs.take j)≤Pf.cnts xs:=by
 have:=Pf.cnts_append (xs.take j) (xs.drop j)
 rw[List.take_append_drop]at this;omega
section
variable {μ:Mem}
theorem nS:∀(g:Pf) {v:Value} {most:Int},RepV μ g.d v→ -1000000000000≤most→most≤1000000000000→aQ Tryz.prog 60 [v,.int .i64 most] μ (.int .i64 (bX g.cnt most)):=
 Pf.ind fun g ih v most hv h1 h2=>by
  have w_:=Pf.inv hv
  obtain⟨p,rfl,-,hsl⟩:=w_
  have hn:=aI hsl.max
  have hge:=Pf.cnt_eq1 g
  generalize hl:g.kids=l at*
  refine Spec.mk Tryz.func60 (by kernel_rfl) ?_
  intro r
  refine lIn (fun i:Nat=>i≤l.length) (fun i=>⟨[(1,.val (.int .i64 most)),(5,.val (.int .i64 (bX (1+Pf.cnts (l.take i):Nat) most))),(9,.val (.slice p.2.1 l.length p.2.2)),(10,.val (.int .i64 l.length)),(11,.val (.int .i64 i))],[],1,μ,Mem.nil⟩) (fun i=>l.length-i)
   0 (by omega) (fun i=>⟨rfl,rfl⟩) ⟨⟨rfl,by show some (SV.val (.int .i64 _))=some (SV.val (.int .i64 _));congr 3;simp[Pf.cnts,bX];omega,rfl,rfl,rfl,trivial⟩,trivial,rfl,rfl⟩ ?_
  intro i hi
  refine ifd (fun h=>?_) (fun h=>?_)
  ·have w_ := aSo (l := l) (i := i) (by omega)
   obtain⟨t,ht⟩:=w_
   have hc:=Pf.cnts_take ht
   have hc':=Pf.cnts_le l (i+1)
   have w_:=Pf.elem hsl ht
   obtain⟨ad,p,hel,hr⟩:=w_
   refine eIn hel ?_
   intro r2
   refine ifd (fun h=>rGv ?_ rfl) (fun h=>?_)
   ·simp only [bX] at h ⊢
    congr 1;omega
   ·have hb : bX (1 + Pf.cnts (l.take i) : Nat) most ≤ 1000000000001 ∧ 1 ≤ bX (1 + Pf.cnts (l.take i) : Nat) most := by unfold bX; omega
    refine aC (by omega) (by omega) ?_
    refine cGv (ih t (mAt ht) hr (by omega) (by omega)) ?_
    refine nEq (x:=bX (1+Pf.cnts (l.take (i+1)):Nat) most) ?_ ?_
    ·have hb2:bX (t.cnt:Int) (most-bX (1+Pf.cnts (l.take i):Nat) most)≤1000000000001∧1≤bX (t.cnt:Int) (most-bX (1+Pf.cnts (l.take i):Nat) most):=by
      have:=t.cnt_pos
      unfold bX at hb h ⊢
      omega
     rw[aA (by omega) (by omega),hc]
     unfold bX at h ⊢;omega
    ·exact aC (by omega) (by omega) ⟨i+1,by omega,by omega,⟨⟨rfl,rfl,rfl,rfl,rfl,trivial⟩,trivial,rfl,rfl⟩⟩
  ·obtain rfl : i = l.length := by omega
   rw[List.take_length]
   exact rGv (by rw[hge]) rfl
noncomputable def Pf.size(x:Pf):Int:=if x.cnt≤200 then x.cnt else 0
end
end Go.Vx
namespace Go.Vx
open Go.Proofs Classical
section
variable {μ:Mem}
theorem RepS.take:∀(ds:List D) (a:Nat) {cs:List Value},RepS μ ds cs→∃c1 c2,cs=c1++c2∧RepS μ (ds.take a) c1
 |[],a,cs,_=>⟨[],cs,rfl,by rw[List.take_nil];exact rfl⟩
 |d::r,0,cs,_=>⟨[],cs,rfl,rfl⟩
 |d::r,a+1,cs,h=>by
  obtain⟨c1,c2,e,h1,h2⟩:=h
  have w_:=RepS.take r a h2
  obtain⟨c3,c4,e2,h3⟩:=w_
  exact⟨c1++c3,c4,by rw[e,e2,List.append_assoc],c1,c3,rfl,h1,h3⟩
theorem Rep.cut{es n c a:Nat}{base:Option Addr}{xs:List D}(h:RepV μ (.sl es xs) (.slice base n c))(ha:a≤n):RepV μ (.sl es (xs.take a)) (.slice (if c=0 then base else base.map (·.add (0*es))) (a-0) (c-0)):=by
 have e:(if c=0 then base else base.map (·.add (0*es)))=base:=by
  split
  ·rfl
  ·cases base<;>simp[Addr.add]
 rw[e,Nat.sub_zero,Nat.sub_zero]
 obtain⟨b2,c2,e2,hl,hn,hor⟩:=h
 have e3:=(List.cons.inj e2).1
 cases e3
 have hta:(xs.take a).length=a:=by rw[List.length_take];omega
 refine⟨base,c,by rw[hta],⟨by rw[hta];exact Nat.le_trans ha hl.le,by rw[hta];exact Nat.le_trans ha hl.max⟩,fun x hx=>hn x (List.mem_of_mem_take hx),?_⟩
 rcases hor with h|⟨a0,flat,h1,h2,h3⟩
 ·exact .inl (by rw[h,List.take_nil])
 ·have w_ := RepS.take xs a h3
  obtain⟨c1,c2,e4,h4⟩:=w_
  exact .inr ⟨a0,c1,h1,fun j v hj=>h2 j v (by rw[e4,List.getElem?_append_left (List.getElem?_eq_some_iff.1 hj).1];exact hj),h4⟩
end
noncomputable def Pf.vs(x:Pf):List T:=x.values.map Tm.toT
structure NodeAt (p:Pg) (x:Pf) (r:Rl) (c:List Gl):Prop where
 rel:∃k:Nat,dA p x.rel=k∧p.rels[k]? =some r
 len:(x.values.length:Int)=r.arity+r.locals
 gnd:∀t∈x.values,sU t
 cls:∃(L:List (List Gl)) (i:Nat),r.body.cl=some L∧x.clause=i∧L[i]? =some c
 ok:∀g∈c,okS x.vs g
 neg:iO x.vs c=[]
 pos:(dD x.vs c).length=x.kids.length
noncomputable def nT(p:Pg)(x:Pf):F:=⟨x.rel,x.vs.take ((p.rels[(dA p x.rel).toNat]?.getD (.mk ⟨#[]⟩ 0 0 (.mk 0 ⟨#[]⟩ [] []))).arity.toNat)⟩
inductive OkP (p:Pg):Pf→Prop
 |mk {x:Pf} (r:Rl) (c:List Gl) (h:NodeAt p x r c) (kids:∀y∈x.kids,OkP p y) (hd:∀(i:Nat) (y:Pf),x.kids[i]? =some y→(dD x.vs c)[i]? =some (nT p y)):OkP p x
theorem OkP.inv{p:Pg}{x:Pf}(h:OkP p x):∃r c,NodeAt p x r c∧(∀y∈x.kids,OkP p y)∧∀(i:Nat) (y:Pf),x.kids[i]? =some y→(dD x.vs c)[i]? =some (nT p y):=by
 cases h with
 |mk r c h1 h2 h3=>exact⟨r,c,h1,h2,h3⟩
end Go.Vx
namespace Go.Vx
open Go.Proofs Classical
section
variable {μ:Mem}
theorem row_own{P:Program}{f:FuncId}{args:List Value}{Q:Mem→List Value→Prop}(hQ:∀μ1 μ2 us,μ1.Le μ2→Q μ1 us→Q μ2 us)
  (h0:Spec P f args μ fun v μ'=>∃(r c:Nat) (us:List Value) (μ1:Mem),v= .slice (some ⟨r,0,none⟩) us.length c∧μ.Le μ1∧μ1.Le μ'∧Q μ1 us∧μ1 r=none∧us.length≤10000000∧RowAt μ' (some r) c 4 us):
  SpecH P f args μ Mem.nil fun v μ2 H2=>∃(r c:Nat) (ty:TypeId) (us:List Value),v= .slice (some ⟨r,0,none⟩) us.length c∧RowO H2 r c ty 4 us∧Q μ2 us:=by
 have e0:μ.join Mem.nil=μ:=funext fun b=>by rw[Mem.join_get];cases μ b<;>rfl
 generalize hR0:(fun v μ'=>∃(r c:Nat) (us:List Value) (μ1:Mem),v=Value.slice (some ⟨r,0,none⟩) us.length c∧μ.Le μ1∧μ1.Le μ'∧Q μ1 us∧μ1 r=none∧us.length≤10000000∧RowAt μ' (some r) c 4 us)=R0 at h0
 have h:Spec P f args (μ.join Mem.nil) R0:=by rw[e0];exact h0
 refine(Spec.lendOwn (H:=Mem.nil) (R':=fun v g μ1=>∃(r c:Nat) (ty:TypeId) (us:List Value),v= .slice (some ⟨r,0,none⟩) us.length c∧RowO g r c ty 4 us∧Q (μ1.sub g) us) (fun b _=>rfl) h fun v μ1 hle hR=>?_).weaken fun v μ2 H2 _ _ hR=>?_
 ·rw [e0]
  rw[←hR0]at hR
  obtain⟨r,c,us,μ0,rfl,hl0,hl1,hgr,hr0,hn,hrow⟩:=hR
  obtain⟨h2,h3,arr,ty,h4,h5,h6⟩:=hrow
  refine⟨Mem.nil.set r (.cells arr ty (0,0)),fun x o hx=>?_,fun x hx=>?_,r,c,ty,us,rfl,⟨arr.toList,Mem.set_at _ _ _,h2,Nat.le_trans hn (by decide),h3,by simpa using h5,h6⟩,?_⟩
  ·by_cases e : x = r
   ·subst e;rw[Mem.set_at]at hx;rw[h4];exact hx
   ·rw[Mem.set_ne e]at hx;cases hx
  ·by_cases e : x = r
   ·subst e
    exact hl0.none hr0
   ·rw[Mem.set_ne e]at hx;exact absurd rfl hx
  ·refine hQ μ0 _ us (Mem.le_sub hl1 (fun b hb => ?_)) hgr
   by_cases e:b=r
   ·subst e
    exact absurd hr0 hb
   ·rw[Mem.set_ne e];rfl
 ·obtain ⟨g, μ1, ⟨r, c, ty, us, rfl, ⟨cs, q1, q2⟩, hgr⟩, _, hp, rfl⟩ := hR
  exact⟨r,c,ty,us,rfl,⟨cs,hp.right _ _ q1,q2⟩,hgr⟩
theorem vL{xs:List T}{base:Option Addr}{cap:Nat}(hsl:Sl μ 4 base xs.length ((xs.map T.tm).map Tm.d))(hn:xs.length≤1000000):
  Spec Tryz.prog 81 [.slice base xs.length cap] μ fun v μ'=>∃(r c:Nat) (us:List Value) (μ1:Mem),v= .slice (some ⟨r,0,none⟩) us.length c∧μ.Le μ1∧μ1.Le μ'∧Rows μ1 4 ((xs.map T.tm).map Tm.d) us∧μ1 r=none∧us.length≤10000000∧RowAt μ' (some r) c 4 us:=by
 refine Spec.mk Tryz.func81 (by kernel_rfl) ?_
 intro r6
 refine lIn (fun p:Nat×Option Nat×Nat×List Value×Mem=>p.1≤xs.length∧μ.Le p.2.2.2.2∧Rows p.2.2.2.2 4 (((xs.take p.1).map T.tm).map Tm.d) p.2.2.2.1∧p.2.1≠none)
  (fun(i,b,c,ys,μ')=>⟨[(3,.row 0 b ys.length c),(7,.val (.slice base xs.length cap)),(8,.val (.int .i64 xs.length)),(9,.val (.int .i64 i))],[(0,some (.row b c 57 4 ys))],1,μ',Mem.nil⟩) (fun p=>xs.length-p.1)
  (0,some r6,0,[],μ) ⟨by simp,Mem.Le.refl _,.nil,by simp⟩ (fun(_,_,_,_,_)=>⟨rfl,rfl⟩) ⟨⟨rfl,rfl,rfl,rfl,trivial⟩,⟨rfl,trivial⟩,rfl,rfl⟩ ?_
 rintro⟨i,b,c,ys,μ'⟩ ⟨hi,hle,hrows,hbn⟩
 dsimp only at hi hle hrows hbn
 have hlen:=hrows.len
 simp only[List.length_map,List.length_take]at hlen
 refine ifd (fun h=>?_) (fun h=>?_)
 ·have w_ := aSo (l := xs) (i := i) (by omega)
  obtain⟨x,hx'⟩:=w_
  have w_:=T.elemL (hsl.mono hle) hx'
  obtain⟨ad,p,hel,hto⟩:=w_
  refine eIn hel ?_
  intro r
  refine cPl (pY _ hto) fun v4 μ4 hle4 hR4=>?_
  have w_:=Tm.invV hR4
  obtain⟨q,rfl⟩:=w_
  intro r5
  refine gIn ?_ ?_ fun b' c' hb'=>?_
  ·show(ys.length+1)*56≤_;omega
  ·exact Nat.le_trans (m:=100000000) (show ys.length+1≤_ by omega) (by decide)
  refine aC (by omega) (by omega) ⟨(i+1,b',c',_,μ4),⟨by dsimp only;omega,hle.trans hle4,?_,fun e=>by have:=hb' e;simp at this⟩,by dsimp only;omega,⟨⟨rfl,rfl,rfl,rfl,trivial⟩,⟨rfl,trivial⟩,rfl,rfl⟩⟩
  dsimp only
  rw[List.take_add_one,hx',Option.toList_some]
  simp only[List.map_append,List.map_cons,List.map_nil]
  exact(hrows.mono hle4).append (Rows.one hR4 (Tm.d_n _))
 ·obtain rfl : i = xs.length := by omega
  rw[List.take_length]at hrows
  cases b with
  |none=>exact absurd rfl hbn
  |some r=>
  refine rFz [0] fun μ2 hle2 hno hrow=> .inl ?_
  exact⟨r,c,ys,μ',rfl,hle,hle2,hrows,hno r rfl,by omega,hrow⟩
theorem vW{xs:List T}{base:Option Addr}{cap:Nat}(hsl:Sl μ 4 base xs.length ((xs.map T.tm).map Tm.d))(hn:xs.length≤1000000):
  SpecH Tryz.prog 81 [.slice base xs.length cap] μ Mem.nil fun v μ2 H2=>∃(r c:Nat) (ty:TypeId) (us:List Value),v= .slice (some ⟨r,0,none⟩) us.length c∧RowO H2 r c ty 4 us∧Rows μ2 4 ((xs.map T.tm).map Tm.d) us:=
 row_own (fun _ _ _ h k=>k.mono h) (vL hsl hn)
end
end Go.Vx
namespace Go.Vx
open Go.Proofs Classical
open Go.ChangeShapes Go.WideShapes Go.ChangeAt Go.RowKit
structure Bytes (μ:Mem) (base:Option Addr) (n:Nat):Prop where
 max:n≤maxLen
 get:∀i:Nat,i<n→∃(a:Addr) (b:Int),ElemAt μ base n 1 (i:Int) a [.int .u8 b]
theorem Bytes.mono{μ μ':Mem}{base:Option Addr}{n:Nat}(h:Bytes μ base n)(hle:μ.Le μ'):Bytes μ' base n:=
 ⟨h.max, fun i hi => by
  have w_:=h.get i hi
  obtain⟨a,b,e⟩:=w_
  exact⟨a,b,e.mono hle⟩⟩
theorem qGe{P:Program}{H:Type}{enc:TypeId×Value→H}{w:World}{sp:Nat→Bool}{hd:Bool}{b:Nat}{t e:TypeId}{v:Value}{x:DataW H}{p:List MemPlace}(ht:P.underlying t=some (.slice e))(he:P.underlying e=some (.int .u8))(hc:P.cellsOf e=1)
  (hv:Value.okWide P w .any b t v) (h:DataW.Trod enc P w 0 sp hd t v x p):∃base n cap,v= .slice base n cap∧Bytes (qNx w) base n:=by
 obtain⟨fuel,h⟩:=h
 have hcs:∀cs,v≠.agg cs:=fun cs k=>qAu ht cs (k ▸ hv)
 rcases DataW.trod_slice ht h with⟨h1,_⟩|⟨a,len,cap,elems,rest,m,hm,h1,_,_,_,h2,h3,h4,_⟩
 ·cases v with
  |agg cs=>exact absurd rfl (hcs cs)
  |_=>
   have h1:=List.cons.inj h1
   rw[h1.1]
   exact⟨none,0,0,rfl,⟨Nat.zero_le _,fun i hi=>absurd hi (Nat.not_lt_zero _)⟩⟩
 ·have hsl:v= .slice (some a) len cap:=by
   cases v with
   |agg cs=>exact absurd rfl (hcs cs)
   |_=>
    have h1:=List.cons.inj h1
    exact h1.1
  subst hsl
  refine⟨some a,len,cap,rfl,⟨by omega,fun i hi=>?_⟩⟩
  have:=h4 i hi
  rw[List.getElem?_eq_getElem (by omega)]at this
  obtain⟨cs',k1,k2⟩:=Option.bind_eq_some_iff.1 this
  obtain⟨n,rfl,_,_⟩:=DataW.trod_int he k2
  rw[hc]at k1
  obtain⟨g1,g2⟩:=cells?_at k1
  exact⟨a.add (i*1),n,⟨by omega,by omega,⟨a,rfl,by simp⟩,rfl,fun j u hj=>g2 j u hj⟩⟩
theorem qMn(x:Int):∃k:Nat,bits .and .i64 x 255=(k:Int)∧k<256:=by
 have e:(BitVec.ofInt 64 x &&& BitVec.ofInt 64 255).toNat≤255:=by
  rw[BitVec.toNat_and]
  have:(BitVec.ofInt 64 255).toNat=255:=by decide
  rw[this]
  exact Nat.and_le_right
 refine⟨(BitVec.ofInt 64 x &&& BitVec.ofInt 64 255).toNat,?_,by omega⟩
 show IntKind.i64.wrap ((BitVec.ofInt 64 x &&& BitVec.ofInt 64 255).toNat:Nat)=_
 exact aA (by omega) (by omega)
def qFu(base:Option Addr)(n cap:Nat)(i h:Int):Obj:= .cells #[.slice base n cap,.int .i64 i,.int .i64 h] 119 (0,0)
def CurO(μ:Mem)(o:Obj):Prop:=∃base n cap,∃(i:Nat) (hh:Int),o=qFu base n cap i hh∧Bytes μ base n∧i≤n
theorem CurO.mono{μ μ':Mem}{o:Obj}(h:CurO μ o)(hle:μ.Le μ'):CurO μ' o:=by
 obtain⟨base,n,cap,i,hh,e,k1,k2⟩:=h
 exact⟨base,n,cap,i,hh,e,k1.mono hle,k2⟩
structure Cur (μ h:Mem) (r:Nat) (h':Mem):Prop where
 ex:∃o,CurO μ o∧h'=h.set r o
theorem Mem.set_self{h:Mem}{r:Nat}{o:Obj}(e:h r=some o):h.set r o=h:=funext fun b=>by
 by_cases k:b=r
 ·subst k;rw[Mem.set_at,e]
 ·rw[Mem.set_ne k]
theorem Cur.at{μ h h':Mem}{r:Nat}(k:Cur μ h r h'):Cur μ h' r h':=by
 obtain⟨o,h1,h2⟩:=k.ex
 subst h2
 exact⟨o,h1,(Mem.set_self (Mem.set_at _ _ _)).symm⟩
theorem Cur.trans{μ μ' h h' h'':Mem}{r:Nat}(k:Cur μ h r h')(k2:Cur μ' h' r h''):Cur μ' h r h'':=by
 obtain⟨o,h1,rfl⟩:=k.ex
 obtain⟨o',h3,rfl⟩:=k2.ex
 exact⟨o',h3,Mem.set_set _ _ _ _⟩
theorem Cur.mono{μ μ' h h':Mem}{r:Nat}(k:Cur μ h r h')(hle:μ.Le μ'):Cur μ' h r h':=by
 obtain⟨o,h1,h2⟩:=k.ex
 exact⟨o,h1.mono hle,h2⟩
section
variable {μ:Mem}
theorem pO{h:Mem}{r:Nat}(hc:Cur μ h r h):
  SpecH Tryz.prog 33 [.pointer (some ⟨r,0,none⟩)] μ h fun v μ' h'=>μ'=μ∧Cur μ h r h'∧∃k:Nat,v= .int .i64 k∧k<256:=by
 obtain⟨o,⟨base,n,cap,i,hh,rfl,hb,hi⟩,e⟩:=hc.ex
 have hr:h r=some (qFu base n cap i hh):=by rw[e,Mem.set_at]
 clear e hc
 refine SpecH.mk [] Tryz.func33 (by kernel_rfl) ?_
 refine oIn [.int .i64 hh] rfl (bJ hr rfl) ?_
 refine aS fun x1 _=>?_
 refine aS fun x2 _=>?_
 refine sIn [.slice base n cap,.int .i64 i,.int .i64 hh] 119 hr rfl (by show 2+1≤3;decide) ?_
 have h1:(h.set r (qFu base n cap i x2)) r=some (qFu base n cap i x2):=Mem.set_at _ _ _
 refine oIn [.int .i64 x2] rfl (bJ h1 rfl) ?_
 refine aD (by decide) ?_
 refine aS fun x3 _=>?_
 refine oIn [.int .i64 x2] rfl (bJ h1 rfl) ?_
 refine aD (by decide) ?_
 refine aS fun x4 _=>?_
 refine aS fun x5 _=>?_
 have w_:=qMn x5
 obtain⟨k,ek,hk⟩:=w_
 refine nEq ek ?_
 refine oIn [.int .i64 (i:Int)] rfl (bJ h1 rfl) ?_
 refine oIn [.slice base n cap] rfl (bJ h1 rfl) ?_
 refine ifd (fun hlt=>?_) (fun hlt=>?_)
 ·have w_ := hb.get i (by omega)
  obtain⟨a,b,hel⟩:=w_
  refine oIn [.slice base n cap] rfl (bJ h1 rfl) ?_
  refine oIn [.int .i64 (i:Int)] rfl (bJ h1 rfl) ?_
  refine eIn hel ?_
  refine aS fun x6 _=>?_
  refine aS fun x7 _=>?_
  have w_:=qMn x7
  obtain⟨k2,ek2,hk2⟩:=w_
  refine nEq ek2 ?_
  refine oIn [.int .i64 (i:Int)] rfl (bJ h1 rfl) ?_
  have:=aI hb.max
  refine aC (by omega) (by omega) ?_
  refine sIn [.slice base n cap,.int .i64 i,.int .i64 x2] 119 h1 rfl (by show 1+1≤3;decide) ?_
  refine rPl ⟨rfl,⟨qFu base n cap ((i+1:Nat):Int) x2,⟨base,n,cap,i+1,x2,rfl,hb,by omega⟩,?_⟩,k2,rfl,hk2⟩
  show(h.set r (qFu base n cap i x2)).set r _=_
  rw[Mem.set_set]
  rfl
 ·exact rPl ⟨rfl,⟨qFu base n cap i x2,⟨base,n,cap,i,x2,rfl,hb,hi⟩,rfl⟩,k,rfl,hk⟩
theorem qEb{h:Mem}{base:Option Addr}{n cap:Nat}(hb:Bytes μ base n):
  SpecH Tryz.prog 32 [.slice base n cap] μ h fun v μ' h'=>μ'=μ∧∃r,v= .pointer (some ⟨r,0,none⟩)∧h r=none∧Cur μ h r h':=by
 have hmax:=aI hb.max
 refine SpecH.mk [31] Tryz.func32 (by kernel_rfl) ?_
 refine aS fun x0 _=>?_
 refine lIn (fun p:Nat×Int=>p.1≤n∧p.1≤4000) (fun(i,x)=>⟨[(0,.val (.slice base n cap)),(3,.val (.int .i64 x)),(4,.val (.int .i64 i))],[],0,μ,h⟩) (fun p=>n-p.1)
  (0,x0) ⟨Nat.zero_le _,Nat.zero_le _⟩ (fun(_,_)=>⟨rfl,rfl⟩) ⟨⟨rfl,rfl,rfl,trivial⟩,trivial,rfl,rfl⟩ ?_
 rintro⟨i,x⟩ ⟨hi,hi2⟩
 dsimp only at hi hi2
 refine ifd (fun hlt=>?_) (fun hlt=>?_)
 ·refine ifd (fun hlt2 => ?_) (fun hlt2 => ?_)
  ·have w_ := hb.get i (by omega)
   obtain⟨a,b,hel⟩:=w_
   refine aS fun x1 _=>?_
   refine eIn hel ?_
   refine aS fun x2 _=>?_
   refine aS fun x3 _=>?_
   refine aS fun x4 _=>?_
   refine aS fun x5 _=>?_
   refine aC (by omega) (by omega) ⟨(i+1,x5),⟨by dsimp only;omega,by dsimp only;omega⟩,by dsimp only;omega,⟨⟨rfl,rfl,rfl,trivial⟩,trivial,rfl,rfl⟩⟩
  ·intro r hm ho
   exact rPl ⟨rfl,r,rfl,ho,⟨_,⟨base,n,cap,0,x,rfl,hb,Nat.zero_le _⟩,rfl⟩⟩
 ·intro r hm ho
  exact rPl ⟨rfl,r,rfl,ho,⟨_,⟨base,n,cap,0,x,rfl,hb,Nat.zero_le _⟩,rfl⟩⟩
theorem aJ{h:Mem}{r:Nat}(hc:Cur μ h r h)(n:Int):
  SpecH Tryz.prog 22 [.pointer (some ⟨r,0,none⟩),.int .i64 n] μ h fun v μ' h'=>μ'=μ∧Cur μ h r h'∧∃k:Nat,v= .int .i64 k∧k<256∧(0<n→(k:Int)<n)∧(n≤0→k=0):=by
 refine SpecH.mk [] Tryz.func22 (by kernel_rfl) ?_
 refine ifd (fun hn=>?_) (fun hn=>?_)
 ·exact rPl ⟨rfl,hc,0,rfl,by decide,fun h=>absurd hn (by omega),fun _=>rfl⟩
 ·refine cOw (pO hc) fun v μ1 h1 hle1 hap1 hR => ?_
  obtain⟨e,hc1,k,rfl,hk⟩:=hR
  obtain rfl:=e.symm
  refine aD (by omega) ?_
  have e1:(k:Int).tmod n=((k % n.toNat:Nat):Int):=by
   have hn2:n=((n.toNat:Nat):Int):=by omega
   conv=>lhs;rw[hn2]
   rw[Int.ofNat_tmod]
  have hlt:=Nat.mod_lt k (show 0<n.toNat by omega)
  have hle:=Nat.mod_le k n.toNat
  refine nEq e1 ?_
  exact rPl ⟨rfl,hc1,_,rfl,by omega,fun _=>by omega,fun h=>absurd h (by omega)⟩
theorem eV{h:Mem}{r:Nat}(hc:Cur μ h r h)(n:Int):
  SpecH Tryz.prog 15 [.pointer (some ⟨r,0,none⟩),.int .i64 n] μ h fun v μ' h'=>μ'=μ∧Cur μ h r h'∧∃b:Bool,v= .bool b:=by
 refine SpecH.mk [] Tryz.func15 (by kernel_rfl) ?_
 refine cOw (aJ hc n) fun v μ1 h1 hle1 hap1 hR=>?_
 obtain⟨e,hc1,k,rfl,hk⟩:=hR
 obtain rfl:=e.symm
 exact rPl ⟨rfl,hc1,_,rfl⟩
theorem mJ{h:Mem}{base:Option Addr}{n cap:Nat}(hb:Bytes μ base n)(m:Int)(hm:m≤1000000):
  SpecH Tryz.prog 11 [.slice base n cap,.int .i64 m] μ h fun v μ' h'=>μ'=μ∧∃r,v= .pointer (some ⟨r,0,none⟩)∧h r=none∧Cur μ h r h':=by
 refine SpecH.mk [] Tryz.func11 (by kernel_rfl) ?_
 refine cOw (qEb hb) fun v μ1 h1 hle1 hap1 hR=>?_
 obtain⟨e,r,rfl,ho,hc1⟩:=hR
 obtain rfl:=e.symm
 refine lIn (fun p:Int×Mem=>0≤p.1∧Cur μ h r p.2) (fun(i,h')=>⟨[(1,.val (.int .i64 m)),(5,.val (.pointer (some ⟨r,0,none⟩))),(6,.val (.int .i64 i))],[],0,μ,h'⟩) (fun p=>(m-p.1).toNat)
  (0,h1) ⟨Int.le_refl 0,hc1⟩ (fun(_,_)=>⟨rfl,rfl⟩) ⟨⟨rfl,rfl,rfl,trivial⟩,trivial,rfl,rfl⟩ ?_
 clear hc1 hap1
 rintro⟨i,h2⟩ ⟨hi,hc2⟩
 dsimp only at hi hc2
 refine ifd (fun hlt=>?_) (fun hlt=>?_)
 ·refine cOw (pO hc2.at) fun v μ2 h3 hle2 hap2 hR => ?_
  obtain⟨e,hc3,k,rfl,hk⟩:=hR
  obtain rfl:=e.symm
  refine aC (by omega) (by omega) ⟨(i+1,h3),⟨by dsimp only;omega,hc2.trans hc3⟩,by dsimp only;omega,⟨⟨rfl,rfl,rfl,trivial⟩,trivial,rfl,rfl⟩⟩
 ·exact rPl ⟨rfl,r,rfl,ho,hc2⟩
end
end Go.Vx
namespace Go.Vx
open Go.Proofs Classical
theorem mF{b:UInt8}(h:97≤b.toNat∧b.toNat≤122):gS ⟨#[b]⟩:=by
 refine⟨by show 1≤1;decide,by show 1≤12;decide,fun i c hc=>?_⟩
 have hi:=(List.getElem?_eq_some_iff.1 hc).1
 have hi:i<1:=hi
 obtain rfl:i=0:=by omega
 cases hc
 exact .inl h
theorem Drawn.atom{t:T}(hg:t.good)(hl:t.lvs=1)(ho:∀n,¬t.occ n)(hm:t.nums)(vars:Int):Drawn 1 vars t:=⟨hg,fun n hn=>absurd hn (ho n),by omega,hm⟩
theorem Drawn.wide{k:Nat}{v w:Int}{t:T}(h:Drawn k v t)(hw:v≤w):Drawn k w t:=⟨h.good,fun n hn=>by have:=h.low n hn;omega,h.lvs,h.nums⟩
section
variable {μ:Mem}
theorem qEt(n:Int):Spec Tryz.prog 120 [.int .i64 n] μ fun v μ'=>RepV μ' (T.num n).tm.d v:=by
 refine Spec.mk Tryz.func120 (by kernel_rfl) ?_
 intro r1
 refine rPl ?_
 rw[T.tm,Tm.d_mk]
 exact⟨_,rfl,RepS.int (RepS.int (RepS.str (RepS.last (Rep.nilSl 4))))⟩
theorem gG(s:ByteArray):Spec Tryz.prog 119 [.string s] μ fun v μ'=>RepV μ' (T.sym s).tm.d v:=by
 refine Spec.mk Tryz.func119 (by kernel_rfl) ?_
 intro r1
 refine rPl ?_
 rw[T.tm,Tm.d_mk]
 exact⟨_,rfl,RepS.int (RepS.int (RepS.str (RepS.last (Rep.nilSl 4))))⟩
def qId(h:Mem)(r k:Nat)(vars:Int)(v:Value)(μ' h':Mem):Prop:=Cur μ' h r h'∧∃t:T,RepV μ' t.tm.d v∧Drawn k vars t
theorem gP{h:Mem}{r:Nat}(hc:Cur μ h r h):SpecH Tryz.prog 78 [.pointer (some ⟨r,0,none⟩)] μ h fun v μ' h'=>qId h r 1 0 v μ' h':=by
 refine SpecH.mk [] Tryz.func78 (by kernel_rfl) ?_
 intro r1
 refine cOw (aJ hc 7) fun v μ1 h1 hle1 hap1 hR=>?_
 obtain⟨e,hc1,k,rfl,hk,hk7,_⟩:=hR
 obtain rfl:=e.symm
 have hk7:=hk7 (by decide)
 refine ifd (fun h2=>?_) (fun h2=>?_)
 ·refine cPl (qEt k) fun v μ2 hle2 hR => ?_
  have w_:=Tm.invV hR
  obtain⟨p,rfl⟩:=w_
  exact rPl ⟨hc1.mono hle2,.num k,hR,Drawn.atom (t:= .num k) (by show -1000000000≤(k:Int)∧(k:Int)≤1000000000;omega) rfl (fun _ h=>h) (by show 0≤(k:Int)∧(k:Int)<100;omega) 0⟩
 ·refine ifd (fun h5 => ?_) (fun h5 => ?_)
  ·intro r2
   refine aC (by omega) (by omega) ?_
   have w_:k=2∨k=3∨k=4:=by omega
   rcases w_ with rfl|rfl|rfl
   ·refine bK 0 rfl (by decide) ?_
    refine bL (.string ⟨#[97]⟩) rfl ?_
    refine cPl (gG ⟨#[97]⟩) fun v μ2 hle2 hR=>?_
    have w_:=Tm.invV hR
    obtain⟨p,rfl⟩:=w_
    exact rPl ⟨hc1.mono hle2,.sym ⟨#[97]⟩,hR,Drawn.atom (t:= .sym ⟨#[97]⟩) (mF (by decide)) rfl (fun _ h=>h) trivial 0⟩
   ·refine bK 1 rfl (by decide) ?_
    refine bL (.string ⟨#[98]⟩) rfl ?_
    refine cPl (gG ⟨#[98]⟩) fun v μ2 hle2 hR=>?_
    have w_:=Tm.invV hR
    obtain⟨p,rfl⟩:=w_
    exact rPl ⟨hc1.mono hle2,.sym ⟨#[98]⟩,hR,Drawn.atom (t:= .sym ⟨#[98]⟩) (mF (by decide)) rfl (fun _ h=>h) trivial 0⟩
   ·refine bK 2 rfl (by decide) ?_
    refine bL (.string ⟨#[99]⟩) rfl ?_
    refine cPl (gG ⟨#[99]⟩) fun v μ2 hle2 hR=>?_
    have w_:=Tm.invV hR
    obtain⟨p,rfl⟩:=w_
    exact rPl ⟨hc1.mono hle2,.sym ⟨#[99]⟩,hR,Drawn.atom (t:= .sym ⟨#[99]⟩) (mF (by decide)) rfl (fun _ h=>h) trivial 0⟩
  ·refine rPl ⟨hc1, .nil, ?_, Drawn.atom (t := .nil) trivial rfl (fun _ h => h) trivial 0⟩
   rw[T.tm,Tm.d_mk]
   exact⟨_,rfl,RepS.int (RepS.int (RepS.str (RepS.last (Rep.nilSl 4))))⟩
theorem dR(vars:Nat)(hv:vars≤1000):∀(size:Nat) {μ h:Mem} {r:Nat},size≤1000→Cur μ h r h→SpecH Tryz.prog 40 [.pointer (some ⟨r,0,none⟩),.int .i64 size,.int .i64 vars] μ h fun v μ' h'=>qId h r (lvB size) vars v μ' h':=fun size=>by
 induction size using Nat.strongRecOn with
 |ind size ih=>
  intro μ h r hs hc
  refine SpecH.mk [] Tryz.func40 (by kernel_rfl) ?_
  intro r1
  refine cOw (aJ hc 8) fun v μ1 h1 hle1 hap1 hR=>?_
  obtain⟨e,hc1,k,rfl,hk,hk8,_⟩:=hR
  obtain rfl:=e.symm
  have hk8:=hk8 (by decide)
  refine ifd (fun h2=>?_) (fun h2=>?_)
  ·refine ifd (fun h3 => ?_) (fun h3 => ?_)
   ·have hq:IntKind.i64.wrap ((size:Int).tdiv 2)=((size / 2:Nat):Int):=by
     rw[Int.tdiv_eq_ediv_of_nonneg (by omega),aA (by omega) (by omega)];omega
    refine aD (by decide) (nEq hq ?_)
    refine cOw (ih (size / 2) (by omega) (by omega) hc1.at) fun v μ2 h4 hle2 hap2 hR=>?_
    obtain⟨hc2,a,ha,hda⟩:=hR
    have w_:=Tm.invV ha
    obtain⟨p,rfl⟩:=w_
    intro r2
    refine aD (by decide) (nEq hq ?_)
    refine cOw (ih (size / 2) (by omega) (by omega) hc2.at) fun v μ3 h5 hle3 hap3 hR=>?_
    obtain⟨hc3,b,hb,hdb⟩:=hR
    refine cPl (lB (ha.mono hle3) hb) fun v μ4 hle4 hR=>?_
    have w_:=Tm.invV hR
    obtain⟨p,rfl⟩:=w_
    refine rPl ⟨(hc1.trans (hc2.trans hc3)).mono hle4,.pair a b,hR,?_⟩
    have h2:2<size:=by omega
    rw[lvB,if_pos h2,Nat.two_mul]
    exact hda.pair hdb
   ·refine ifd (fun h6 => ?_) (fun h6 => ?_)
    ·refine aD (by decide) ?_
     refine aS fun x _=>?_
     refine ifd (fun h7=>?_) (fun h7=>?_)
     ·refine cOw (aJ hc1.at vars) fun v μ2 h4 hle2 hap2 hR => ?_
      obtain⟨e,hc2,j,rfl,hj,hj2,_⟩:=hR
      obtain rfl:=e.symm
      have hj2:=hj2 (by omega)
      refine cGv (sK _) ?_
      refine rPl ⟨hc1.trans hc2,.var j,tU _,⟨by show 0≤(j:Int)∧(j:Int)≤100000;omega,fun n hn=>?_,nF _,trivial⟩⟩
      have hn:(j:Int)=n:=hn
      omega
     ·refine cOw (gP hc1.at) fun v μ2 h4 hle2 hap2 hR => ?_
      obtain⟨hc2,a,ha,hda⟩:=hR
      have w_:=Tm.invV ha
      obtain⟨p,rfl⟩:=w_
      exact rPl ⟨hc1.trans hc2,a,ha,(hda.wide (by omega)).mono (nF _)⟩
    ·refine cOw (gP hc1.at) fun v μ2 h4 hle2 hap2 hR => ?_
     obtain⟨hc2,a,ha,hda⟩:=hR
     have w_:=Tm.invV ha
     obtain⟨p,rfl⟩:=w_
     exact rPl ⟨hc1.trans hc2,a,ha,(hda.wide (by omega)).mono (nF _)⟩
  ·refine ifd (fun h6 => ?_) (fun h6 => ?_)
   ·refine aD (by decide) ?_
    refine aS fun x _=>?_
    refine ifd (fun h7=>?_) (fun h7=>?_)
    ·refine cOw (aJ hc1.at vars) fun v μ2 h4 hle2 hap2 hR => ?_
     obtain⟨e,hc2,j,rfl,hj,hj2,_⟩:=hR
     obtain rfl:=e.symm
     have hj2:=hj2 (by omega)
     refine cGv (sK _) ?_
     refine rPl ⟨hc1.trans hc2,.var j,tU _,⟨by show 0≤(j:Int)∧(j:Int)≤100000;omega,fun n hn=>?_,nF _,trivial⟩⟩
     have hn:(j:Int)=n:=hn
     omega
    ·refine cOw (gP hc1.at) fun v μ2 h4 hle2 hap2 hR => ?_
     obtain⟨hc2,a,ha,hda⟩:=hR
     have w_:=Tm.invV ha
     obtain⟨p,rfl⟩:=w_
     exact rPl ⟨hc1.trans hc2,a,ha,(hda.wide (by omega)).mono (nF _)⟩
   ·refine cOw (gP hc1.at) fun v μ2 h4 hle2 hap2 hR => ?_
    obtain⟨hc2,a,ha,hda⟩:=hR
    have w_:=Tm.invV ha
    obtain⟨p,rfl⟩:=w_
    exact rPl ⟨hc1.trans hc2,a,ha,(hda.wide (by omega)).mono (nF _)⟩
end
end Go.Vx
namespace Go.Vx
open Go.Proofs Classical
abbrev Bs:=List UInt8
def mkS(l:Bs):ByteArray:=⟨l.toArray⟩
def lsS(s:ByteArray):Bs:=s.data.toList
theorem qIe(s:ByteArray):mkS (lsS s)=s:=rfl
theorem bA{a b:Bs}(h:mkS a=mkS b):a=b:=by
 have:=congrArg lsS h
 exact this
def bQ(b:UInt8):Bool:=b==32||b==10||b==40||b==41||b==59
def bZ:Nat→Bs→List Bs
 |0,_=>[]
 |_+1,[]=>[]
 |n+1,b::r=>
  if b==59 then bZ n (r.dropWhile fun c=>c !=10)
  else if !bQ b then(b::r.takeWhile fun c=> !bQ c)::bZ n (r.dropWhile fun c=> !bQ c)
  else if b==40||b==41 then [b]::bZ n r
  else bZ n r
def qAt(k:Nat):Bs:=[63,UInt8.ofNat (48+k)]
def iQ(names:List Bs)(t:Bs):List Bs:=if names.idxOf t<names.length then names else names++[t]
def cH:List Bs→List Bs→List Bs×List Bs
 |[],names=>([],names)
 |t::r,names=>
  if t.head? ==some 63 then((qAt (names.idxOf t)::(cH r (iQ names t)).1),(cH r (iQ names t)).2)
  else(t::(cH r names).1,(cH r names).2)
def nmB:Bool→Bs→Bool
 |_,[]=>true
 |first,b::r=>((97≤b&&b≤122)||(!first&&((48≤b&&b≤57)||b==45)))&&nmB false r
def zI(t:Bs):Bool:=1≤t.length&&t.length≤12&&nmB true t
def qDi(t:Bs):Option T:=
 if zI t then some (.sym (mkS t))else match t with
  |[63,d]=>if 48≤d&&d≤57 then some (.var (d.toNat-48:Nat))else none
  |_=>none
def qA:List T→T→T
 |[],tl=>tl
 |x::r,tl=> .pair x (qA r tl)
mutual
def rdT:Nat→List Bs→Option (T×List Bs)
 |0,_=>none
 |_+1,[]=>none
 |n+1,t::r=>
  if t==[41]||t==[46]then none
  else if t==[40]then(match rdN n r with
   |some (items,c::r1)=>
    if c==[41]then some (qA items .nil,r1)
    else if c==[46]&& !items.isEmpty then(match rdT n r1 with
     |some (tl,d::r2)=>if d==[41]then some (qA items tl,r2)else none
     |_=>none)
    else none
   |_=>none)
  else(qDi t).map fun x=>(x,r)
def rdN:Nat→List Bs→Option (List T×List Bs)
 |0,_=>none
 |_+1,[]=>some ([],[])
 |n+1,t::r=>
  if t==[41]||t==[46]then some ([],t::r)
  else(match rdT n (t::r)with
   |some (x,r1)=>(rdN n r1).map fun q=>(x::q.1,q.2)
   |none=>none)
end
def rdA:Nat→List Bs→Option (List T×List Bs)
 |0,_=>none
 |_+1,[]=>none
 |n+1,t::r=>
  if t==[41]then some ([],t::r)
  else(match rdT n (t::r)with
   |some (x,r1)=>(rdA n r1).map fun q=>(x::q.1,q.2)
   |none=>none)
def heads:List Bs:=[[116,114,117,101],[102,97,105,108],[61],[47,61],[115,121,109,98,111,108],[110,117,109,98,101,114],[97,98,115,101,110,116],[97,110,100],[111,114],[],[110,111,116]]
def cT(w:Bs):Int×Bs:=if heads.idxOf w<11 then((heads.idxOf w:Nat),[])else(9,w)
mutual
def rdG:Nat→List Bs→Option (Gl×List Bs)
 |0,_=>none
 |n+1,t::w::r=>
  if t==[40]&&1<(cT w).1 then
   if(cT w).1==7||(cT w).1==8||(cT w).1==10 then(match qGx n r with
    |some (gs,c::r1)=>if c==[41]then some (.mk (cT w).1 (mkS (cT w).2) [] gs,r1)else none
    |_=>none)
   else(match rdA n r with
    |some (ts,c::r1)=>if c==[41]then some (.mk (cT w).1 (mkS (cT w).2) (ts.map T.tm) [],r1)else none
    |_=>none)
  else none
 |_+1,_=>none
def qGx:Nat→List Bs→Option (List Gl×List Bs)
 |0,_=>none
 |_+1,[]=>none
 |n+1,t::r=>
  if t==[41]then some ([],t::r)
  else(match rdG n (t::r)with
   |some (x,r1)=>(qGx n r1).map fun q=>(x::q.1,q.2)
   |none=>none)
end
def arF:Nat→List Bs→Nat×List Bs
 |k,[]=>(k,[])
 |k,t::r=>if t==qAt k then arF (k+1) r else(k,t::r)
def tokB(t:Bs):Bool:= !t.isEmpty&&(t.head? !=some 63||zI t.tail)
def qEw(all:List Bs):Bool:=all.all tokB&&decide ((cH all []).2.length≤9)
def qMm(all:List Bs):Option Rl:=
 if qEw all then match (cH all []).1 with
 |_::d::o::name::rest=>
  if d==[100,101,102,105,110,101]&&o==[40]&&decide ((arF 0 rest).1≤8)then(match (arF 0 rest).2 with
   | c :: r2 => if c == [41] then (match rdG all.length r2 with
     |some (g,[_])=>some ⟨mkS name,(arF 0 rest).1,(cH all []).2.length-(arF 0 rest).1,g⟩
     |_=>none)else none
   |[]=>none)
  else none
 |_=>none
 else none
def cN(d:Int)(t:Bs):Int:=if t==[40]then d+1 else if t==[41]then d-1 else d
def rS:List Bs→List Bs→Int→Option (List Rl)
 |[],[],_=>some []
 |[],_::_,_=>none
 |t::r,cur,d=>
  if 0<cN d t then rS r (cur++[t]) (cN d t)
  else(match qMm (cur++[t])with
   |some x=>(rS r [] (cN d t)).map (x::·)
   |none=>none)
def qFs(s:Bs):Option Pg:=(rS (bZ s.length s) [] 0).map Pg.mk
mutual
def Gl.cb:Gl→Nat
 | .mk k _ _ gs=>if k=8 then max 1 (Gl.cbOr gs)else if k=7 then Gl.cbAnd gs else 1
def Gl.cbOr:List Gl→Nat
 |[]=>0
 |g::r=>g.cb+Gl.cbOr r
def Gl.cbAnd:List Gl→Nat
 |[]=>1
 |g::r=>g.cb*Gl.cbAnd r
end
def qGy(m:Nat):List Rl→Nat
 |[]=>0
 |r::l=>r.body.cb*m ^ (r.arity+r.locals).toNat+qGy m l
def mR(m:Nat)(p:Pg):Bool:=p.rels.all (fun r=>decide (r.body.cb≤64∧m ^ (r.arity+r.locals).toNat≤4096))&&decide (qGy m p.rels≤2000)
theorem bR(l:Bs)(i j:Nat):(mkS l).extract i j=mkS ((l.drop i).take (j-i)):=by
 have e:((mkS l).extract i j).data=((l.drop i).take (j-i)).toArray:=by
  rw[ByteArray.data_extract]
  simp[mkS,List.extract_eq_take_drop]
 cases h:(mkS l).extract i j
 rw[h]at e
 simp only at e
 rw[e]
 rfl
theorem cD(l:Bs):(mkS l).size=l.length:=by simp[mkS,ByteArray.size]
theorem bE(a b:Bs):mkS a++mkS b=mkS (a++b):=qKd a b
theorem iL(b:UInt8):bQ b=decide (b.toNat=32∨b.toNat=10∨b.toNat=40∨b.toNat=41∨b.toNat=59):=by
 rw[Bool.eq_iff_iff]
 simp[bQ,←UInt8.toNat_inj,or_assoc]
theorem tw{α:Type}{p:α→Bool}:∀(m:List α) (n:Nat),n≤m.length→(∀(k:Nat) b,k<n→m[k]? =some b→p b=true)→(∀b,m[n]? =some b→p b=false)→m.takeWhile p=m.take n∧m.dropWhile p=m.drop n
 |[],n,_,_,_=>by simp
 |b::r,0,_,_,h=>by
  have:=h b rfl
  simp[this]
 |b::r,n+1,hn,h,h'=>by
  have hb:=h 0 b (by omega) rfl
  have w_:=tw r n (by simpa using hn) (fun k c hk hc=>h (k+1) c (by omega) (by simpa using hc)) (fun c hc=>h' c (by simpa using hc))
  obtain⟨h1,h2⟩:=w_
  simp[hb,h1,h2]
theorem dV:∀(n m:Nat) (l:Bs),l.length≤n→l.length≤m→bZ n l=bZ m l
 |0,m,l,h,_=>by
  have:l=[]:=List.length_eq_zero_iff.1 (by omega)
  subst this
  cases m<;>rfl
 |n+1,0,l,_,h=>by
  have:l=[]:=List.length_eq_zero_iff.1 (by omega)
  subst this
  rfl
 |n+1,m+1,[],_,_=>rfl
 |n+1,m+1,b::r,h,h'=>by
  have h1:r.length≤n:=by simpa using h
  have h2:r.length≤m:=by simpa using h'
  have hd:∀p:UInt8→Bool,(r.dropWhile p).length≤r.length:=fun p=>(List.dropWhile_sublist p).length_le
  rw[bZ,bZ,dV n m r h1 h2,dV n m _ (Nat.le_trans (hd _) h1) (Nat.le_trans (hd _) h2),dV n m _ (Nat.le_trans (hd _) h1) (Nat.le_trans (hd _) h2)]
theorem yQ{N:Nat}{b:UInt8}{r:Bs}(hN:(b::r).length≤N)(h:bQ b=false):bZ N (b::r)=(b::r.takeWhile fun c=> !bQ c)::bZ N (r.dropWhile fun c=> !bQ c):=by
 cases N with
 |zero=>simp at hN
 |succ N=>
  have h59:(b==59)=false:=by
   cases e:b==59
   ·rfl
   ·simp[bQ,e]at h
  have hl:(r.dropWhile fun c=> !bQ c).length≤N:=Nat.le_trans (List.dropWhile_sublist _).length_le (by simpa using hN)
  rw[bZ,if_neg (by simp[h59]),if_pos (by simp[h]),dV (N+1) N _ (by omega) hl]
theorem lR{N:Nat}{b:UInt8}{r:Bs}(hN:(b::r).length≤N)(h:b.toNat=40∨b.toNat=41):bZ N (b::r)=[b]::bZ N r:=by
 cases N with
 |zero=>simp at hN
 |succ N=>
  have hl:r.length≤N:=by simpa using hN
  have hb:b=40∨b=41:=h.imp (fun e=>UInt8.toNat_inj.1 e) fun e=>UInt8.toNat_inj.1 e
  rw[dV (N+1) N r (by omega) hl]
  rcases hb with rfl|rfl<;>rfl
theorem qAl{N:Nat}{b:UInt8}{r:Bs}(hN:(b::r).length≤N)(h:b.toNat=32∨b.toNat=10):bZ N (b::r)=bZ N r:=by
 cases N with
 |zero=>simp at hN
 |succ N=>
  have hl:r.length≤N:=by simpa using hN
  have hb:b=32∨b=10:=h.imp (fun e=>UInt8.toNat_inj.1 e) fun e=>UInt8.toNat_inj.1 e
  rw[dV (N+1) N r (by omega) hl]
  rcases hb with rfl|rfl<;>rfl
theorem bB{α:Type}{l:List α}{i:Nat}{b:α}(h:l[i]? =some b):l.drop i=b::l.drop (i+1):=by
 have w_:=List.getElem?_eq_some_iff.1 h
 obtain⟨h1,h2⟩:=w_
 rw[List.drop_eq_getElem_cons h1,h2]
theorem jS{l:Bs}{N i j:Nat}{b:UInt8}(hN:l.length≤N)(hb:l[i]? =some b)(h:bQ b=false)(hij:i<j)(hj:j≤l.length)(hin:∀(k:Nat) b,i<k→k<j→l[k]? =some b→bQ b=false)(hout:∀b,l[j]? =some b→bQ b=true):
  bZ N (l.drop i)=(l.drop i).take (j-i)::bZ N (l.drop j):=by
 have hdl:(l.drop i).length≤N:=by rw[List.length_drop];omega
 rw[bB hb]at hdl ⊢
 have w_:=tw (p:=fun c=> !bQ c) (l.drop (i+1)) (j-(i+1)) (by rw[List.length_drop];omega)
  (fun k c hk hc => by
   rw[List.getElem?_drop]at hc
   simp[hin _ c (by omega) (by omega) hc])
  (fun c hc => by
   rw[List.getElem?_drop,show i+1+(j-(i+1))=j from by omega]at hc
   simp[hout c hc])
 obtain⟨h1,h2⟩:=w_
 rw[yQ hdl h,h1,h2,List.drop_drop,show i+1+(j-(i+1))=j from by omega]
 congr 1
 rw[show j-i=(j-(i+1))+1 from by omega,List.take_succ_cons]
theorem mV(t:Bs):zI t=decide (gS (mkS t)):=by
 have key:∀(t:Bs) (f:Bool),nmB f t=true↔∀(i:Nat) b,t[i]? =some b→qBu (f&&i==0) b:=by
  intro t
  induction t with
  |nil=>intro f;simp[nmB]
  |cons c r ih=>
   intro f
   rw[nmB,Bool.and_eq_true,ih false]
   constructor
   ·rintro ⟨h1, h2⟩ i b hb
    cases i with
    |zero=>
     simp only[List.getElem?_cons_zero,Option.some.injEq]at hb
     subst hb
     simp only[Bool.or_eq_true,Bool.and_eq_true,decide_eq_true_eq,beq_iff_eq,Bool.not_eq_true',UInt8.le_iff_toNat_le]at h1
     rcases h1 with h1|⟨h0,h1⟩
     ·exact .inl h1
     ·refine .inr ⟨by simp [h0], ?_⟩
      rcases h1 with h1|h1
      ·exact .inl h1
      ·rw[h1];exact .inr rfl
    |succ i=>
     simp only[List.getElem?_cons_succ]at hb
     have:=h2 i b hb
     simpa using this
   ·intro h
    refine⟨?_,fun i b hb=>?_⟩
    ·have := h 0 c rfl
     simp only[Bool.or_eq_true,Bool.and_eq_true,decide_eq_true_eq,beq_iff_eq,Bool.not_eq_true',UInt8.le_iff_toNat_le]
     rcases this with k|⟨k0,k⟩
     ·exact .inl k
     ·refine .inr ⟨by simpa using k0, ?_⟩
      rcases k with k|k
      ·exact .inl k
      ·exact .inr (UInt8.toNat_inj.1 k)
    ·have := h (i + 1) b (by simpa using hb)
     simpa using this
 rw[Bool.eq_iff_iff,zI,Bool.and_eq_true,Bool.and_eq_true,key t true]
 simp only[decide_eq_true_eq]
 constructor
 ·rintro ⟨⟨h1, h2⟩, h3⟩
  exact⟨by rw[cD];exact h1,by rw[cD];exact h2,fun i b hb=>by simpa using h3 i b hb⟩
 ·rintro ⟨h1, h2, h3⟩
  rw[cD]at h1 h2
  exact⟨⟨h1,h2⟩,fun i b hb=>by simpa using h3 i b hb⟩
theorem vA:∀(l names:List Bs),(cH l names).1.length=l.length
 |[],_=>rfl
 |t::r,names=>by
  rw[cH]
  split
  ·simp[vA r]
  ·simp[vA r]
theorem addN_le(names:List Bs)(t:Bs):names.length≤(iQ names t).length:=by
 rw[iQ];split
 ·exact Nat.le_refl _
 ·simp
theorem eK:∀(l names:List Bs),names.length≤(cH l names).2.length
 |[],_=>Nat.le_refl _
 |t::r,names=>by
  rw[cH]
  split
  ·exact Nat.le_trans (addN_le names t) (eK r _)
  ·exact eK r _
theorem qNq{names:List Bs}{t:Bs}{k:Nat}(hk:k≤names.length)(h:∀(j:Nat) x,j<k→names[j]? =some x→x≠t)(h2:∀x,names[k]? =some x→x=t):names.idxOf t=k:=by
 induction names generalizing k with
 |nil=>simp at hk;subst hk;rfl
 |cons x r ih=>
  rw[List.idxOf_cons]
  cases k with
  |zero=>simp[h2 x rfl]
  |succ k=>
   have hx:=h 0 x (by omega) rfl
   rw[ih (k:=k) (by simpa using hk) (fun j y hj hy=>h (j+1) y (by omega) (by simpa using hy)) (fun y hy=>h2 y (by simpa using hy))]
   rw[beq_false_of_ne hx]
   rfl
abbrev Sig:=List (ByteArray×Int)
structure Dr (sg:Sig) (n:Int) (mode:Int) (m b:Nat) (g:Gl):Prop where
 sh:g.Sh
 cnt:g.cnt≤m
 cb:g.cb≤b
 vars:∀v∈g.vars,v<n
 calls:∀x∈g.all,x.kind=9→(x.name,(x.terms.length:Int))∈sg
 pos:mode≤1→g.Pos
 tsz:∀x∈g.all,∀s∈x.terms,s.cnt≤500
theorem Dr.mono{sg:Sig}{n mode:Int}{m b m' b':Nat}{g:Gl}(h:Dr sg n mode m b g)(hm:m≤m')(hb:b≤b'):Dr sg n mode m' b' g:=
 ⟨h.sh,Nat.le_trans h.cnt hm,Nat.le_trans h.cb hb,h.vars,h.calls,h.pos,h.tsz⟩
theorem zC{g:Gl}{v:Int}(h:v∈g.vars):v∈g.tvars∨∃x∈g.goals,v∈x.vars:=by
 unfold Gl.vars at h
 rw[Gl.all_eq,List.flatMap_cons]at h
 rcases List.mem_append.1 h with h|h
 ·exact .inl h
 ·have w_ := List.mem_flatMap.1 h
  obtain⟨y,hy,hv⟩:=w_
  have w_:=List.mem_flatMap.1 hy
  obtain⟨x,hx,hy⟩:=w_
  exact .inr ⟨x,hx,List.mem_flatMap.2 ⟨y,hy,hv⟩⟩
theorem qG{g x:Gl}(h:x∈g.all):x=g∨∃y∈g.goals,x∈y.all:=by
 rw[Gl.all_eq]at h
 rcases List.mem_cons.1 h with h|h
 ·exact .inl h
 ·exact .inr (List.mem_flatMap.1 h)
theorem qJy{ts:List T}{n:Int}(h:∀t∈ts,∀v,t.occ v→0≤v∧v<n){k:Int}{s:ByteArray}{gs:List Gl}:∀v∈(Gl.mk k s (ts.map T.tm) gs).tvars,v<n:=fun v hv=>by
 unfold Gl.tvars at hv
 have e:((Gl.mk k s (ts.map T.tm) gs).terms.map Tm.toT)=ts:=toTs_tm'
 rw[e]at hv
 have w_:=List.mem_flatMap.1 hv
 obtain⟨t,ht,hv⟩:=w_
 exact(h t ht v (sQ hv)).2
theorem Dr.leaf{sg:Sig}{n mode:Int}{k:Int}{s:ByteArray}{ts:List T}(top:TopOk (.mk k s (ts.map T.tm) []))(hk:k≠10)(h7:k≠7)(h8:k≠8)(ht:∀t∈ts,∀v,t.occ v→0≤v∧v<n)(hc:k=9→(s,(ts.length:Int))∈sg)(hz:∀t∈ts,t.size≤500):Dr sg n mode 1 1 (.mk k s (ts.map T.tm) []) where
 tsz:=fun x hx u hu=>by
  rcases qG hx with rfl|⟨y,hy,_⟩
  ·have w_ := List.mem_map.1 (show u ∈ ts.map T.tm from hu)
   obtain⟨t,ht,rfl⟩:=w_
   rw[T.cnt_tm];exact hz t ht
  ·cases hy
 sh:= .mk top fun x hx=>by cases hx
 cnt:=Nat.le_refl _
 cb:=by rw[Gl.cb,if_neg h8,if_neg h7];exact Nat.le_refl _
 vars:=fun v hv=>by
  rcases zC hv with hv|⟨x,hx,_⟩
  ·exact qJy ht v hv
  ·cases hx
 calls:=fun x hx h9=>by
  rcases qG hx with rfl|⟨y,hy,_⟩
  ·have := hc h9
   show(s,((ts.map T.tm).length:Int))∈sg
   rw[List.length_map]
   exact this
  ·cases hy
 pos:=fun _=>(Gl.pos_eq _).2 ⟨hk,fun x hx=>by cases hx⟩
theorem qAj{sg:Sig}{n mode:Int}{m b:Nat}:∀{gs:List Gl},(∀g∈gs,Dr sg n mode m b g)→Gl.cnts gs≤gs.length*m
 |[],_=>Nat.zero_le _
 |g::r,h=>by
  have h1:=(h g (by simp)).cnt
  have h2:=qAj (gs:=r) fun x hx=>h x (by simp[hx])
  rw[Gl.cnts,List.length_cons,Nat.succ_mul]
  omega
theorem qLm{sg:Sig}{n mode:Int}{m:Nat}:∀{gs:List Gl},(∀g∈gs,Dr sg n mode m 1 g)→Gl.cbAnd gs≤1
 |[],_=>Nat.le_refl _
 |g::r,h=>by
  have h1:=(h g (by simp)).cb
  have h2:=qLm (gs:=r) fun x hx=>h x (by simp[hx])
  rw[Gl.cbAnd]
  exact Nat.mul_le_mul h1 h2
theorem dr_or{sg:Sig}{n mode:Int}{m:Nat}:∀{gs:List Gl},(∀g∈gs,Dr sg n mode m 1 g)→Gl.cbOr gs≤gs.length
 |[],_=>Nat.le_refl _
 |g::r,h=>by
  have h1:=(h g (by simp)).cb
  have h2:=dr_or (gs:=r) fun x hx=>h x (by simp[hx])
  rw[Gl.cbOr,List.length_cons]
  omega
theorem qFl{sg:Sig}{n mode:Int}{m b:Nat}{k:Int}{gs:List Gl}(h:∀g∈gs,Dr sg n mode m b g)(h9:k≠9)(h10:mode≤1→k≠10):
  (∀v∈(Gl.mk k ⟨#[]⟩ [] gs).vars,v<n)∧(∀x∈(Gl.mk k ⟨#[]⟩ [] gs).all,x.kind=9→(x.name,(x.terms.length:Int))∈sg)∧(mode≤1→(Gl.mk k ⟨#[]⟩ [] gs).Pos)∧∀x∈(Gl.mk k ⟨#[]⟩ [] gs).all,∀s∈x.terms,s.cnt≤500:=by
 refine⟨fun v hv=>?_,fun x hx hx9=>?_,fun hm=>(Gl.pos_eq _).2 ⟨h10 hm,fun x hx=>(h x hx).pos hm⟩,fun x hx s hs=>?_⟩
 ·rcases zC hv with hv | ⟨x, hx, hv⟩
  ·cases hv
  ·exact(h x hx).vars v hv
 ·rcases qG hx with rfl | ⟨y, hy, hx⟩
  ·exact absurd hx9 h9
  ·exact(h y hy).calls x hx hx9
 ·rcases qG hx with rfl | ⟨y, hy, hx⟩
  ·cases hs
  ·exact(h y hy).tsz x hx s hs
theorem qHl{k:Int}{gs:List Gl}(hk:k=7∨k=8)(hl:gs.length≤8):TopOk (.mk k ⟨#[]⟩ [] gs) where
 tm:=fun t ht=>by cases ht
 k0:=by show 0≤k;omega
 k1:=by show k≤10;omega
 nm:=fun _=>rfl
 rel:=fun h=>by have h:k=9:=h;omega
 ln9:=fun _=>Nat.zero_le _
 ln2:=fun h=>by have h:k=2∨k=3∨k=6:=h;omega
 ln1:=fun h=>by have h:k=4∨k=5:=h;omega
 ln0:=fun _=>rfl
 gl:=hl
 gl0:=fun h=>by have h:k<7∨k=9:=h;omega
 gl1:=fun h=>by have h:k=10:=h;omega
 sy:=fun h=>by have h:k=6:=h;omega
 cl:=fun h=>by have h:k=10:=h;omega
theorem Dr.conj{sg:Sig}{n mode:Int}{m:Nat}{gs:List Gl}(h:∀g∈gs,Dr sg n mode m 1 g)(hl:gs.length≤8):Dr sg n mode (1+gs.length*m) 1 (.mk 7 ⟨#[]⟩ [] gs):=by
 have w_:=qFl (k:=7) h (by decide) (fun _=>by decide)
 obtain⟨h1,h2,h3,h4⟩:=w_
 refine⟨.mk (qHl (.inl rfl) hl) fun x hx=>(h x hx).sh,?_,?_,h1,h2,h3,h4⟩
 ·rw [Gl.cnt]
  have:=qAj h
  omega
 ·rw [Gl.cb, if_neg (by decide), if_pos rfl]
  exact qLm h
theorem Dr.disj{sg:Sig}{n mode:Int}{m:Nat}{gs:List Gl}(h:∀g∈gs,Dr sg n mode m 1 g)(hl:gs.length≤8)(h0:gs≠[]):Dr sg n mode (1+gs.length*m) gs.length (.mk 8 ⟨#[]⟩ [] gs):=by
 have w_:=qFl (k:=8) h (by decide) (fun _=>by decide)
 obtain⟨h1,h2,h3,h4⟩:=w_
 refine⟨.mk (qHl (.inr rfl) hl) fun x hx=>(h x hx).sh,?_,?_,h1,h2,h3,h4⟩
 ·rw [Gl.cnt]
  have:=qAj h
  omega
 ·rw [Gl.cb, if_pos rfl]
  have:=dr_or h
  have:=List.length_pos_iff.2 h0
  omega
theorem Dr.neg{sg:Sig}{n mode:Int}{m b:Nat}{g:Gl}(h:Dr sg n mode m b g)(h9:g.kind=9)(hm:1<mode):Dr sg n mode (1+m) 1 (.mk 10 ⟨#[]⟩ [] [g]):=by
 have hg:∀x∈[g],Dr sg n mode m b x:=fun x hx=>by rw[List.mem_singleton.1 hx];exact h
 have w_:=qFl (k:=10) hg (by decide) (fun h=>absurd h (by omega))
 obtain⟨h1,h2,h3,h4⟩:=w_
 refine⟨.mk ?_ fun x hx=>(hg x hx).sh,?_,?_,h1,h2,h3,h4⟩
 ·exact {
      tm:=fun t ht=>by cases ht
      k0:=by show(0:Int)≤10;decide
      k1:=by show(10:Int)≤10;decide
      nm:=fun _=>rfl
      rel:=fun h=>by have h:(10:Int)=9:=h;omega
      ln9:=fun _=>Nat.zero_le _
      ln2:=fun h=>by have h:(10:Int)=2∨(10:Int)=3∨(10:Int)=6:=h;omega
      ln1:=fun h=>by have h:(10:Int)=4∨(10:Int)=5:=h;omega
      ln0:=fun _=>rfl
      gl:=by show 1≤8;decide
      gl0:=fun h=>by have h:(10:Int)<7∨(10:Int)=9:=h;omega
      gl1:=fun _=>rfl
      sy:=fun h=>by have h:(10:Int)=6:=h;omega
      cl:=fun _ x hx=>by cases hx;exact h9}
 ·rw [Gl.cnt, Gl.cnts, Gl.cnts]
  have:=h.cnt
  omega
 ·rw [Gl.cb, if_neg (by decide), if_neg (by decide)]
  exact Nat.le_refl _
def nmI(i:Nat):ByteArray:=mkS [UInt8.ofNat (112+i)]
def qLx(l:List Rl):Sig:=l.map fun r=>(r.name,r.arity)
structure DrP (mode:Int) (l:List Rl):Prop where
 ne:1≤l.length
 le:l.length≤3
 nm:∀(i:Nat) r,l[i]? =some r→r.name=nmI i
 ar:∀r∈l,1≤r.arity∧r.arity≤2
 lo:∀r∈l,0≤r.locals∧r.locals≤1
 body:∀r∈l,Dr (qLx l) (r.arity+r.locals) mode 40 3 r.body
theorem nmI_inj{i j:Nat}(hi:i<3)(hj:j<3)(h:nmI i=nmI j):i=j:=by
 have h:=bA h
 have w_:i=0∨i=1∨i=2:=by omega
 have hw_:j=0∨j=1∨j=2:=by omega
 rcases w_ with rfl|rfl|rfl<;>rcases hw_ with rfl|rfl|rfl<;>first|rfl|(revert h;decide)
theorem qHu{i:Nat}(hi:i<3):iT (nmI i):=by
 have w_:i=0∨i=1∨i=2:=by omega
 rcases w_ with rfl|rfl|rfl<;>
 ·refine ⟨?_, mF (by decide)⟩
  intro h
  simp only[rsv,List.mem_cons,List.not_mem_nil,or_false]at h
  rcases h with h|h|h|h|h|h|h|h|h<;>exact absurd (congrArg lsS h) (by decide)
theorem tY:∀(l:List Rl) (k i:Nat) (r:Rl),l[i]? =some r→(∀(j:Nat) x,j<i→l[j]? =some x→x.name≠r.name)→dQ l k r.name=((k+i:Nat):Int)
 |[],_,i,_,h,_=>by simp at h
 |x::l,k,0,r,h,_=>by
  cases h
  rw[dQ,if_pos rfl]
  rfl
 |x::l,k,i+1,r,h,hne=>by
  rw[dQ,if_neg (hne 0 x (by omega) rfl),tY l (k+1) i r (by simpa using h) (fun j y hj hy=>hne (j+1) y (by omega) (by simpa using hy))]
  congr 1
  omega
theorem DrP.at_{mode:Int}{l:List Rl}(h:DrP mode l){i:Nat}{r:Rl}(hr:l[i]? =some r):dA ⟨l⟩ r.name=(i:Int):=by
 have h3:=h.le
 have hi:=(List.getElem?_eq_some_iff.1 hr).1
 have:=tY l 0 i r hr fun j x hj hx e=>by
  rw[h.nm j x hx,h.nm i r hr]at e
  have:=nmI_inj (by omega) (by omega) e
  omega
 rw[dA,this,Nat.zero_add]
theorem DrP.ok{mode:Int}{l:List Rl}(h:DrP mode l):(⟨l⟩:Pg).Ok:=by
 have h3:=h.le
 refine⟨by show l.length≤8;omega,fun i r hr=>?_⟩
 have hr:l[i]? =some r:=hr
 have hm:=List.mem_of_getElem? hr
 have hi:=(List.getElem?_eq_some_iff.1 hr).1
 have ha:=h.ar r hm
 have hl:=h.lo r hm
 have hb:=h.body r hm
 refine⟨h.at_ hr,by rw[h.nm i r hr];exact qHu (by omega),by omega,by omega,hl.1,by omega,hb.sh,Nat.le_trans hb.cnt (by decide),hb.vars,FitAll.of fun x hx h9=>?_⟩
 have w_:=List.mem_map.1 (hb.calls x hx h9)
 obtain⟨s,hs,e⟩:=w_
 have w_:=List.getElem?_of_mem hs
 obtain⟨j,hj⟩:=w_
 have e1:s.name=x.name:=congrArg Prod.fst e
 have e2:s.arity=(x.terms.length:Int):=congrArg Prod.snd e
 exact⟨j,s,by rw[←e1];exact h.at_ hj,hj,e2⟩
theorem qBw{m B:Nat}:∀l:List Rl,(∀r∈l,r.body.cb*m ^ (r.arity+r.locals).toNat≤B)→qGy m l≤l.length*B
 |[],_=>Nat.zero_le _
 |r::l,h=>by
  have h1:=h r (by simp)
  have h2:=qBw l fun x hx=>h x (by simp[hx])
  rw[qGy,List.length_cons,Nat.succ_mul]
  omega
theorem DrP.small{mode:Int}{l:List Rl}(h:DrP mode l){m:Nat}(hm:m≤3)(hm1:1≤m):mR m ⟨l⟩=true:=by
 have key:∀r∈l,r.body.cb≤3∧m ^ (r.arity+r.locals).toNat≤27:=fun r hr=>by
  refine⟨(h.body r hr).cb,?_⟩
  have h1:=h.ar r hr
  have h2:=h.lo r hr
  calc m ^ (r.arity+r.locals).toNat≤m ^ 3:=Nat.pow_le_pow_right hm1 (by omega)
   _≤3 ^ 3:=Nat.pow_le_pow_left hm 3
 have h3:=h.le
 rw[mR,Bool.and_eq_true,List.all_eq_true,decide_eq_true_eq]
 refine⟨fun r hr=>?_,?_⟩
 ·have := key r hr
  exact decide_eq_true ⟨by omega,by omega⟩
 ·have := qBw (m := m) (B := 81) l fun r hr => Nat.mul_le_mul (key r hr).1 (key r hr).2
  show qGy m l≤2000
  have:l.length*81≤3*81:=Nat.mul_le_mul_right _ h3
  omega
theorem DrP.pos{mode:Int}{l:List Rl}(h:DrP mode l)(hm:mode≤1):(⟨l⟩:Pg).Pos:=⟨h.ok,fun r hr=>(h.body r hr).pos hm⟩
def qMt(n:Int):Tm→Bool
 | .mk k m _ _=>decide (k=1)&&decide (m=n)
def qHy(g:Gl):Bool:=decide (g.kind≠0∧g.kind≠1∧g.kind≠7∧g.kind≠8)
def appB:Gl→Bool
 | .mk k0 _ _ [.mk k1 _ _ [g1,.mk k2 _ [a,b] _],.mk k3 _ _ [g2,g3,g4]]=>decide (k0=8∧k1=7∧k2=2∧k3=7)&&qMt 1 a&&qMt 2 b&&qHy g1&&qHy g2&&qHy g3&&qHy g4
 |_=>false
def appR(l:List Rl):Bool:=match l with
 |[A,M]=>decide (A.arity=3∧A.locals=3∧A.body.cb=2)&&appB A.body&&decide (M.body.cb≤64∧M.body.cb*3 ^ (M.arity+M.locals).toNat≤400)
 |_=>false
def qIb(p:Pg):Bool:=appR p.rels||p.rels.all fun r=>decide (r.body.cb≤64∧qGy 3 p.rels+r.body.cb*3 ^ (r.arity-1+r.locals).toNat≤2000)
def qLa:ByteArray:=mkS [115,112,101,99,105,97,108]
structure MkP (mode:Int) (p:Pg):Prop where
 seven:p.rels.length≤7
 new:∀r∈p.rels,r.name≠qLa
 room:qIb p=true
 tsz:∀r∈p.rels,∀x∈r.body.all,∀s∈x.terms,s.cnt≤500
 ok:p.Ok
 small3:mR 3 p=true
 small2:mR 2 p=true
 pos:mode≤1→p.Pos
 ne:p.rels≠[]
 ar:∀r∈p.rels,1≤r.arity
theorem DrP.prom{mode:Int}{l:List Rl}(h:DrP mode l):MkP mode ⟨l⟩ where
 seven:=Nat.le_trans h.le (by decide)
 new:=fun r hr e=>by
  have w_:=List.getElem?_of_mem hr
  obtain⟨i,hi⟩:=w_
  have hl:=(List.getElem?_eq_some_iff.1 hi).1
  have h3:=h.le
  rw[h.nm i r hi]at e
  have e:=bA e
  have:=congrArg List.length e
  cases this
 room:=by
  rw[qIb,Bool.or_eq_true]
  refine .inr (List.all_eq_true.2 fun r hr=>decide_eq_true ?_)
  have h3:=h.le
  have key:∀r∈l,r.body.cb≤3∧3 ^ (r.arity+r.locals).toNat≤3 ^ 3:=fun r hr=>by
   have h1:=h.ar r hr
   have h2:=h.lo r hr
   exact⟨(h.body r hr).cb,Nat.pow_le_pow_right (by decide) (by omega)⟩
  have h4:=qBw (m:=3) (B:=81) l fun r hr=>Nat.mul_le_mul (key r hr).1 (key r hr).2
  have h5:=h.ar r hr
  have h6:=h.lo r hr
  have h7:r.body.cb*3 ^ (r.arity-1+r.locals).toNat≤3*3 ^ 3:=Nat.mul_le_mul (key r hr).1 (Nat.pow_le_pow_right (by decide) (by omega))
  have:l.length*81≤3*81:=Nat.mul_le_mul_right _ h3
  refine⟨by have:=(key r hr).1;omega,?_⟩
  show qGy 3 l+_≤2000
  omega
 tsz:=fun r hr=>(h.body r hr).tsz
 ok:=h.ok
 small3:=h.small (by decide) (by decide)
 small2:=h.small (by decide) (by decide)
 pos:=h.pos
 ne:=fun e=>by
  have h1:=h.ne
  have e:l=[]:=e
  rw[e]at h1
  exact absurd h1 (by decide)
 ar:=fun r hr=>(h.ar r hr).1
end Go.Vx
namespace Go.Vx
open Go.Proofs Classical
def gR(l:List Bs):List Value:=(l.map mkS).map Value.string
theorem gH(l:List Bs):(gR l).length=l.length:=by rw[gR,List.length_map,List.length_map]
theorem bO(l:List Bs)(t:Bs):gR (l++[t])=gR l++[.string (mkS t)]:=by simp[gR]
section
variable {μ:Mem}
theorem nW(b:UInt8):aQ Tryz.prog 67 [.int .u8 (b.toNat:Int)] μ (.bool (bQ b)):=by
 refine Spec.mk Tryz.func67 (by kernel_rfl) ?_
 rw[iL]
 repeat' (first
  |refine ifd (fun h=>?_) (fun h=>?_)
  |refine iIn (fun h=>?_) (fun h=>?_))
 all_goals
  refine rGv ?_ rfl
  refine congrArg Value.bool ?_
  first
   |(symm;exact decide_eq_true (by omega))
   |(rw[Bool.eq_iff_iff];simp only[decide_eq_true_eq];omega)
theorem cI{k:Nat}(hk:k≤9):aQ Tryz.prog 69 [.int .i64 k] μ (.string (mkS [UInt8.ofNat (48+k)])):=by
 refine Spec.mk Tryz.func69 (by kernel_rfl) ?_
 refine ifd (fun h=>absurd h (by omega)) (fun _=>?_)
 refine lIn (fun _:Unit=>True) (fun _=>⟨[(0,.val (.int .i64 k)),(3,.val (.string ⟨#[]⟩))],[],0,μ,Mem.nil⟩) (fun _=>0) () trivial (fun _=>⟨rfl,rfl⟩) ⟨⟨rfl,rfl,trivial⟩,trivial,rfl,rfl⟩ ?_
 rintro- -
 refine ifd (fun h=>absurd h (by omega)) (fun _=>?_)
 refine aC (by omega) (by omega) (nEq (wrap8 (by omega) (by omega)) ?_)
 intro r
 have hb:(UInt8.ofNat (48+k)).toNat=48+k:=by rw[UInt8.toNat_ofNat'];omega
 refine bW [UInt8.ofNat (48+k)] (by simp only[List.map_cons,List.map_nil,hb];congr 2) ?_
 refine aD (by show 1+0≤_;decide) ?_
 refine rGv ?_ rfl
 exact congrArg Value.string (bE [_] [])
theorem vM{k:Nat}(hk:k≤9):aQ Tryz.prog 116 [.string (mkS [UInt8.ofNat (48+k)])] μ (.tuple #[.int .i64 k,.bool true]):=by
 have hb:(UInt8.ofNat (48+k)).toNat=48+k:=by rw[UInt8.toNat_ofNat'];omega
 have h0:(mkS [UInt8.ofNat (48+k)]).data.toList[0]? =some (UInt8.ofNat (48+k)):=rfl
 have hsz:(mkS [UInt8.ofNat (48+k)]).size=1:=rfl
 refine Spec.mk Tryz.func116 (by kernel_rfl) ?_
 refine ifd (fun _=>?_) (fun h=>absurd h (by omega))
 refine aK 0 _ rfl h0 ?_
 refine iIn (fun h=>absurd (of_decide_eq_true h) (by omega)) (fun hm=>?_)
 refine ifd (fun h=>absurd h (by omega)) (fun _=>?_)
 refine iIn (fun h=>absurd (of_decide_eq_true h) (by omega)) (fun _=>?_)
 refine lIn (fun i:Nat=>i≤1) (fun i=>⟨[(0,.val (.string (mkS [UInt8.ofNat (48+k)]))),(4,.val (.bool (decide (((UInt8.ofNat (48+k)).toNat:Int)=45)))),(5,.val (.string (mkS [UInt8.ofNat (48+k)]))),(6,.val (.int .i64 (if i=0 then 0 else -(k:Int)))),(7,.val (.int .i64 i))],[],0,μ,Mem.nil⟩) (fun i=>1-i)
  0 (by omega) (fun _=>⟨rfl,rfl⟩) ⟨⟨rfl,rfl,rfl,rfl,rfl,trivial⟩,trivial,rfl,rfl⟩ ?_
 intro i hi
 refine ifd (fun h=>?_) (fun h=>?_)
 ·obtain rfl : i = 0 := by omega
  refine aK 0 _ rfl h0 ?_
  refine aC (by omega) (by omega) (aC (by omega) (by omega) ?_)
  refine cGv (bU _ _ _ _) ?_
  refine iIn (fun h=>?_) (fun _=>?_)
  ·rw [decide_eq_true ⟨by omega, by omega⟩] at h
   cases h
  ·have hd : ((UInt8.ofNat (48 + k)).toNat : Int) - 48 = k := by omega
   rw[hd]
   refine aC (by omega) (by omega) ?_
   refine aD (by decide) ?_
   refine nEq (x:=if k=9 then -922337203685477579 else -922337203685477580) ?_ ?_
   ·have w_ : k = 0 ∨ k = 1 ∨ k = 2 ∨ k = 3 ∨ k = 4 ∨ k = 5 ∨ k = 6 ∨ k = 7 ∨ k = 8 ∨ k = 9 := by omega
    rcases w_ with rfl|rfl|rfl|rfl|rfl|rfl|rfl|rfl|rfl|rfl<;>rfl
   refine iIn (fun h=>absurd (of_decide_eq_true h) (by rw[if_pos rfl];split<;>omega)) (fun _=>?_)
   rw[if_pos rfl]
   refine aC (by omega) (by omega) (aC (by omega) (by omega) ?_)
   refine aC (by omega) (by omega) ⟨1,by omega,by omega,⟨⟨rfl,rfl,rfl,?_,rfl,trivial⟩,trivial,rfl,rfl⟩⟩
   show some (SV.val (.int .i64 _))=some (SV.val (.int .i64 _))
   congr 3
   simp
 ·obtain rfl : i = 1 := by omega
  refine iIn (fun h=>?_) (fun h=>?_)
  ·refine ifd (fun h => absurd h (by rw [if_neg (by decide)]; omega)) (fun _ => ?_)
   refine nEq (x:=(k:Int)) (by show IntKind.i64.wrap (0- -(k:Int))=(k:Int);rw[show(0:Int)- -(k:Int)=k from by omega];exact aA (by omega) (by omega)) ?_
   refine cGv (cI hk) ?_
   refine aL (fun h=>absurd rfl h) (fun _=>?_)
   exact rGv rfl rfl
  ·rw [hm] at h
   cases h
theorem xI{t:Bs}(h:zI t=true):aQ Tryz.prog 116 [.string (mkS t)] μ (.tuple #[.int .i64 0,.bool false]):=by
 rw[mV,decide_eq_true_eq]at h
 obtain⟨h1,h2,h3⟩:=h
 have w_:=mS (s:=mkS t) (i:=0) (by omega)
 obtain⟨b0,hb0⟩:=w_
 have hc:97≤b0.toNat∧b0.toNat≤122:=(h3 0 b0 hb0).elim id fun k=>by have:=k.1;simp at this
 refine Spec.mk Tryz.func116 (by kernel_rfl) ?_
 refine ifd (fun _=>?_) (fun h=>absurd h (by omega))
 refine aK 0 _ rfl hb0 ?_
 refine iIn (fun h=>absurd (of_decide_eq_true h) (by omega)) (fun hm=>?_)
 refine ifd (fun h=>absurd h (by omega)) (fun _=>?_)
 refine iIn (fun h=>absurd (of_decide_eq_true h) (by omega)) (fun _=>?_)
 refine lIn (fun i:Nat=>i=0) (fun i=>⟨[(0,.val (.string (mkS t))),(4,.val (.bool (decide ((b0.toNat:Int)=45)))),(5,.val (.string (mkS t))),(6,.val (.int .i64 0)),(7,.val (.int .i64 i))],[],0,μ,Mem.nil⟩) (fun i=>0)
  0 rfl (fun _=>⟨rfl,rfl⟩) ⟨⟨rfl,rfl,rfl,rfl,rfl,trivial⟩,trivial,rfl,rfl⟩ ?_
 rintro i rfl
 refine ifd (fun _=>?_) (fun h=>absurd h (by omega))
 refine aK 0 _ rfl hb0 ?_
 refine aC (by omega) (by omega) (aC (by omega) (by omega) ?_)
 refine cGv (bU _ _ _ _) ?_
 refine iIn (fun _=>rGv rfl rfl) (fun h=>?_)
 rw[decide_eq_false (by omega)]at h
 cases h
set_option maxHeartbeats 1000000 in
theorem qDu{s:Bs}(hl:s.length≤400)(hb:∀b∈s,b.toNat≠59∧(b.toNat=10∨(32≤b.toNat∧b.toNat≤126))):
  Spec Tryz.prog 34 [.string (mkS s)] μ fun v μ'=>∃tv,v= .tuple #[tv,.bool true]∧NmV μ' ((bZ s.length s).map mkS) tv:=by
 have hsz:(mkS s).size=s.length:=cD s
 have at_:∀(i:Nat) b,s[i]? =some b→(mkS s).data.toList[i]? =some b:=fun i b h=>h
 refine Spec.mk Tryz.func34 (by kernel_rfl) ?_
 refine ifd (fun h=>absurd h (by omega)) (fun _=>?_)
 intro r0
 refine lIn (fun z:Nat×List Bs×List Value×Option Nat×Nat=>z.1≤s.length∧z.2.1.length≤z.1∧z.2.2.1=gR z.2.1∧z.2.1++bZ s.length (s.drop z.1)=bZ s.length s)
  (fun(i,_,ys,b,c)=>⟨[(0,.val (.string (mkS s))),(4,.row 0 b ys.length c),(5,.val (.int .i64 i))],[(0,some (.row b c 9 1 ys))],1,μ,Mem.nil⟩) (fun z=>s.length-z.1)
  (0,[],[],some r0,0) ⟨Nat.zero_le _,Nat.zero_le _,rfl,rfl⟩ (fun(_,_,_,_,_)=>⟨rfl,rfl⟩) ⟨⟨rfl,rfl,rfl,trivial⟩,⟨rfl,trivial⟩,rfl,rfl⟩ ?_
 rintro⟨i,L,ys,b,c⟩ ⟨hi,hLi,hys,hT⟩
 dsimp only at hi hLi hys hT
 have hyl:ys.length=L.length:=by rw[hys,gH]
 refine ifd (fun hlt=>?_) (fun hlt=>?_)
 ·obtain ⟨ch, hch⟩ : ∃ ch, s[i]? = some ch := ⟨_, List.getElem?_eq_getElem (by omega)⟩
  have hc:=hb ch (List.mem_of_getElem? hch)
  have hdl:(ch::s.drop (i+1)).length≤s.length:=by simp only[List.length_cons,List.length_drop];omega
  rw[bB hch]at hT
  refine aC (by omega) (by omega) ?_
  refine aK i ch rfl (at_ _ _ hch) ?_
  refine ifd (fun h=>absurd h (by omega)) (fun _=>?_)
  refine aK i ch rfl (at_ _ _ hch) ?_
  refine cGv (nW ch) ?_
  refine iIn (fun hbk=>?_) (fun hbk=>?_)
  ·have hbk : bQ ch = false := by simpa using hbk
   rw[←bB hch]at hT
   refine lIn (fun j:Nat=>i<j∧j≤s.length∧∀(k:Nat) b,i<k→k<j→s[k]? =some b→bQ b=false)
    (fun j=>⟨[(0,.val (.string (mkS s))),(4,.row 0 b ys.length c),(5,.val (.int .i64 i)),(6,.val (.int .i64 j))],[(0,some (.row b c 9 1 ys))],1,μ,Mem.nil⟩) (fun j=>s.length-j)
    (i+1) ⟨by omega,by omega,fun k b h1 h2=>by omega⟩ (fun _=>⟨rfl,rfl⟩) ⟨⟨rfl,rfl,rfl,rfl,trivial⟩,⟨rfl,trivial⟩,rfl,rfl⟩ ?_
   rintro j ⟨hij,hj,hin⟩
   refine ifd (fun hjl=>?_) (fun hjl=>?_)
   ·obtain ⟨cj, hcj⟩ : ∃ cj, s[j]? = some cj := ⟨_, List.getElem?_eq_getElem (by omega)⟩
    refine aK j cj rfl (at_ _ _ hcj) ?_
    refine cGv (nW cj) ?_
    refine iIn (fun hbj=>?_) (fun hbj=>?_)
    ·have hbj : bQ cj = false := by simpa using hbj
     refine aC (by omega) (by omega) ⟨j+1,⟨by omega,by omega,fun k b h1 h2 hk=>?_⟩,by omega,⟨⟨rfl,rfl,rfl,rfl,trivial⟩,⟨rfl,trivial⟩,rfl,rfl⟩⟩
     by_cases e:k=j
     ·subst e;rw[hcj]at hk;cases hk;exact hbj
     ·exact hin k b h1 (by omega) hk
    ·have hbj : bQ cj = true := by simpa using hbj
     refine aE i j rfl rfl (by omega) (by omega) ?_
     intro r1
     refine gIn ?_ ?_ fun b' c' hb'=>?_
     ·show(ys.length+1)*16≤_;omega
     ·exact Nat.le_trans (m:=100000000) (show ys.length+1≤_ by omega) (by decide)
     refine⟨(j,L++[(s.drop i).take (j-i)],_,b',c'),⟨by dsimp only;omega,by simp only[List.length_append,List.length_cons,List.length_nil];omega,?_,?_⟩,by dsimp only;omega,⟨⟨rfl,rfl,rfl,trivial⟩,⟨rfl,trivial⟩,rfl,rfl⟩⟩
     ·dsimp only
      rw[bO,hys,bR]
     ·dsimp only
      rw[List.append_assoc,List.singleton_append]
      (rw[←hT,jS (Nat.le_refl _) hch hbk hij hj hin fun b hb=>by rw[hcj]at hb;cases hb;exact hbj])
   ·refine aE i j rfl rfl (by omega) (by omega) ?_
    intro r1
    refine gIn ?_ ?_ fun b' c' hb'=>?_
    ·show(ys.length+1)*16≤_;omega
    ·exact Nat.le_trans (m:=100000000) (show ys.length+1≤_ by omega) (by decide)
    refine⟨(j,L++[(s.drop i).take (j-i)],_,b',c'),⟨by dsimp only;omega,by simp only[List.length_append,List.length_cons,List.length_nil];omega,?_,?_⟩,by dsimp only;omega,⟨⟨rfl,rfl,rfl,trivial⟩,⟨rfl,trivial⟩,rfl,rfl⟩⟩
    ·dsimp only
     rw[bO,hys,bR]
    ·dsimp only
     rw[List.append_assoc,List.singleton_append]
     (rw[←hT,jS (Nat.le_refl _) hch hbk hij hj hin fun b hb=>by have:=(List.getElem?_eq_some_iff.1 hb).1;omega])
  ·have hbk : bQ ch = true := by simpa using hbk
   rw[iL]at hbk
   have hbk:=of_decide_eq_true hbk
   refine aK i ch rfl (at_ _ _ hch) ?_
   refine ifd (fun h40=>?_) (fun h40=>?_)
   ·refine aE i (i + 1) rfl rfl (by omega) (by omega) ?_
    intro r1
    refine gIn ?_ ?_ fun b' c' hb'=>?_
    ·show(ys.length+1)*16≤_;omega
    ·exact Nat.le_trans (m:=100000000) (show ys.length+1≤_ by omega) (by decide)
    refine⟨((i+1),L++[(s.drop i).take ((i+1)-i)],_,b',c'),⟨by dsimp only;omega,by simp only[List.length_append,List.length_cons,List.length_nil];omega,?_,?_⟩,by dsimp only;omega,⟨⟨rfl,rfl,rfl,trivial⟩,⟨rfl,trivial⟩,rfl,rfl⟩⟩
    ·dsimp only
     rw[bO,hys,bR]
    ·dsimp only
     rw[List.append_assoc,List.singleton_append]
     (rw[←hT,lR hdl (by omega)];simp[hch,List.take_one])
   ·refine aK i ch rfl (at_ _ _ hch) ?_
    refine iIn (fun h41=>?_) (fun h41=>?_)
    ·have h41 := of_decide_eq_true h41
     refine aE i (i+1) rfl rfl (by omega) (by omega) ?_
     intro r1
     refine gIn ?_ ?_ fun b' c' hb'=>?_
     ·show(ys.length+1)*16≤_;omega
     ·exact Nat.le_trans (m:=100000000) (show ys.length+1≤_ by omega) (by decide)
     refine⟨((i+1),L++[(s.drop i).take ((i+1)-i)],_,b',c'),⟨by dsimp only;omega,by simp only[List.length_append,List.length_cons,List.length_nil];omega,?_,?_⟩,by dsimp only;omega,⟨⟨rfl,rfl,rfl,trivial⟩,⟨rfl,trivial⟩,rfl,rfl⟩⟩
     ·dsimp only
      rw[bO,hys,bR]
     ·dsimp only
      rw[List.append_assoc,List.singleton_append]
      (rw[←hT,lR hdl (by omega)];simp[hch,List.take_one])
    ·have h41 := of_decide_eq_false h41
     refine⟨(i+1,L,ys,b,c),⟨by dsimp only;omega,by dsimp only;omega,hys,?_⟩,by dsimp only;omega,⟨⟨rfl,rfl,rfl,trivial⟩,⟨rfl,trivial⟩,rfl,rfl⟩⟩
     dsimp only
     rw[←hT,qAl hdl (by omega)]
 ·have e:bZ s.length (s.drop i)=[]:=by
   rw[List.drop_eq_nil_of_le (by omega)]
   cases s.length<;>rfl
  rw[e,List.append_nil]at hT
  refine lIn (fun k:Nat=>k≤s.length) (fun k=>⟨[(0,.val (.string (mkS s))),(4,.row 0 b ys.length c),(7,.val (.int .i64 k))],[(0,some (.row b c 9 1 ys))],1,μ,Mem.nil⟩) (fun k=>s.length-k)
   0 (Nat.zero_le _) (fun _=>⟨rfl,rfl⟩) ⟨⟨rfl,rfl,rfl,trivial⟩,⟨rfl,trivial⟩,rfl,rfl⟩ ?_
  intro k hk
  refine ifd (fun hks=>?_) (fun hks=>?_)
  ·obtain ⟨ck, hck⟩ : ∃ ck, s[k]? = some ck := ⟨_, List.getElem?_eq_getElem (by omega)⟩
   have hc:=hb ck (List.mem_of_getElem? hck)
   have next:∀K,K=k+1→K≤s.length:=fun K e=>by omega
   refine aK k ck rfl (at_ _ _ hck) ?_
   refine aL (fun h10=>?_) (fun h10=>?_)
   ·refine aK k ck rfl (at_ _ _ hck) ?_
    refine aC (by omega) (by omega) ?_
    refine cGv (bU _ _ _ _) ?_
    refine iIn (fun h=>?_) (fun h=>?_)
    ·rw [decide_eq_true ⟨by omega, by omega⟩] at h
     cases h
    ·exact aC (by omega) (by omega) ⟨k+1,by omega,by omega,⟨⟨rfl,rfl,rfl,trivial⟩,⟨rfl,trivial⟩,rfl,rfl⟩⟩
   ·exact aC (by omega) (by omega) ⟨k+1,by omega,by omega,⟨⟨rfl,rfl,rfl,trivial⟩,⟨rfl,trivial⟩,rfl,rfl⟩⟩
  ·refine ifd (fun h => absurd h (by omega)) (fun _ => ?_)
   refine rFz [0] fun μ4 hle4 hno hat=> .inl ⟨_,rfl,?_⟩
   rw[hys,gR]at hat ⊢
   rw[←hT]
   exact Rows.sl hat (Nm.rows (L.map mkS)) (by rw[List.length_map,List.length_map];exact Nat.le_trans (m:=1000) (by omega) (by decide))
end
end Go.Vx
namespace Go.Vx
open Go.Proofs Classical
theorem qNi{l:List Bs}(h:qEw l=true){t:Bs}(ht:t∈l):tokB t=true:=by
 rw[qEw,Bool.and_eq_true,List.all_eq_true]at h
 exact h.1 t ht
theorem qDe{l:List Bs}(h:qEw l=true):(cH l []).2.length≤9:=by
 rw[qEw,Bool.and_eq_true]at h
 exact of_decide_eq_true h.2
theorem qMb{t:Bs}(h:tokB t=true):∃b r,t=b::r∧(b.toNat=63→zI r=true):=by
 cases t with
 |nil=>cases h
 |cons b r=>
  refine⟨b,r,rfl,fun hb=>?_⟩
  have e:b=63:=UInt8.toNat_inj.1 hb
  subst e
  rw[tokB,Bool.and_eq_true,Bool.or_eq_true]at h
  rcases h.2 with h|h
  ·cases h
  ·exact h
theorem gC{r:Bs}{l names:List Bs}{b:UInt8}(hb:b.toNat=63):cH ((b::r)::l) names=(qAt (names.idxOf (b::r))::(cH l (iQ names (b::r))).1,(cH l (iQ names (b::r))).2):=by
 have e:b=63:=UInt8.toNat_inj.1 hb
 subst e
 rw[cH,if_pos (by simp)]
theorem qLl{r:Bs}{l names:List Bs}{b:UInt8}(hb:b.toNat≠63):cH ((b::r)::l) names=((b::r)::(cH l names).1,(cH l names).2):=by
 have e:b≠63:=fun e=>hb (by rw[e];rfl)
 rw[cH,if_neg (by simpa using e)]
section
variable {μ:Mem}
set_option maxHeartbeats 1000000 in
theorem uL{l:List Bs}{base:Option Addr}{cap:Nat}(hs:Sl μ 1 base l.length ((l.map mkS).map D.s))(hl:l.length≤400)(hB:qEw l=true):
  Spec Tryz.prog 68 [.slice base l.length cap] μ fun w μ'=>∃tv,w= .tuple #[tv,.int .i64 ((cH l []).2.length:Nat),.bool true]∧NmV μ' ((cH l []).1.map mkS) tv:=by
 have hcount:=qDe hB
 refine Spec.mk Tryz.func68 (by kernel_rfl) ?_
 intro r0
 intro r1
 refine lIn (fun z:Nat×List Bs×List Bs×(List Value×Option Nat×Nat)×(List Value×Option Nat×Nat)=>z.1≤l.length∧z.2.2.2.1.1=gR z.2.1∧z.2.2.2.2.1=gR z.2.2.1∧z.2.2.1.length=z.1∧cH l []=(z.2.2.1++(cH (l.drop z.1) z.2.1).1,(cH (l.drop z.1) z.2.1).2))
  (fun(i,_,_,(ys1,b1,c1),(ys2,b2,c2))=>⟨[(5,.row 0 b1 ys1.length c1),(6,.row 1 b2 ys2.length c2),(14,.val (.slice base l.length cap)),(15,.val (.int .i64 l.length)),(16,.val (.int .i64 i))],[(1,some (.row b2 c2 9 1 ys2)),(0,some (.row b1 c1 9 1 ys1))],2,μ,Mem.nil⟩) (fun z=>l.length-z.1)
  (0,[],[],([],some r0,0),([],some r1,0)) ⟨Nat.zero_le _,rfl,rfl,rfl,rfl⟩ (fun(_,_,_,(_,_,_),(_,_,_))=>⟨rfl,rfl⟩) ⟨⟨rfl,rfl,rfl,rfl,rfl,trivial⟩,⟨rfl,rfl,trivial⟩,rfl,rfl⟩ ?_
 rintro⟨i,names,out,⟨ys1,b1,c1⟩,⟨ys2,b2,c2⟩⟩ ⟨hi,hy1,hy2,ho,hN⟩
 dsimp only at hi hy1 hy2 ho hN
 have hl1:ys1.length=names.length:=by rw[hy1,gH]
 have hl2:ys2.length=out.length:=by rw[hy2,gH]
 refine ifd (fun hlt=>?_) (fun hlt=>?_)
 ·obtain ⟨t, ht⟩ : ∃ t, l[i]? = some t := ⟨_, List.getElem?_eq_getElem (by omega)⟩
  have w_:=qMb (qNi hB (List.mem_of_getElem? ht))
  obtain⟨b0,rt,rfl,hnm⟩:=w_
  have w_:=Nm.elem (s:=mkS (b0::rt)) hs (i:=i) (by rw[List.getElem?_map,ht];rfl)
  obtain⟨ad,hel⟩:=w_
  have hnl:names.length≤9:=by
   have:=eK (l.drop i) names
   have e:(cH (l.drop i) names).2=(cH l []).2:=by rw[hN]
   rw[e]at this
   omega
  refine eIn hel ?_
  refine aK 0 b0 rfl rfl ?_
  refine aL (fun hb63=>?_) (fun hb63=>?_)
  ·have hb63 : b0.toNat ≠ 63 := by omega
   intro r3
   refine gIn ?_ ?_ fun b4 c4 hb4=>?_
   ·show(ys2.length+1)*16≤_;omega
   ·exact Nat.le_trans (m:=100000000) (show ys2.length+1≤_ by omega) (by decide)
   refine aC (by omega) (by omega) ⟨(i+1,names,out++[b0::rt],(ys1,b1,c1),(_,b4,c4)),⟨by dsimp only;omega,hy1,by dsimp only;rw[bO,hy2],by simp[ho],?_⟩,by dsimp only;omega,⟨⟨rfl,rfl,rfl,rfl,rfl,trivial⟩,⟨rfl,rfl,trivial⟩,rfl,rfl⟩⟩
   dsimp only
   rw[hN,bB ht,qLl hb63]
   simp
  ·have hb63 : b0.toNat = 63 := by omega
   have hrn:=hnm hb63
   have hex:(mkS (b0::rt)).extract 1 (mkS (b0::rt)).size=mkS rt:=by
    rw[bR,cD];simp
   have hp:∀μ,aQ Tryz.prog 116 [.string ((mkS (b0::rt)).extract 1 (mkS (b0::rt)).size)] μ (.tuple #[.int .i64 0,.bool false]):=fun μ=>by
    rw[hex];exact xI hrn
   rw[mV,decide_eq_true_eq]at hrn
   have hq:∀μ,aQ Tryz.prog 103 [.string ((mkS (b0::rt)).extract 1 (mkS (b0::rt)).size)] μ (.bool true):=fun μ=>by
    rw[hex]
    have:=dW (mkS rt) (Nat.le_trans hrn.2.1 (by decide)) μ
    rwa [decide_eq_true hrn]at this
   have hsz:(mkS (b0::rt)).size=rt.length+1:=cD _
   refine aE 1 (mkS (b0::rt)).size rfl rfl (by omega) (Int.le_refl _) ?_
   refine cGv (hp _) ?_
   refine aE 1 (mkS (b0::rt)).size rfl rfl (by omega) (Int.le_refl _) ?_
   refine cGv (hq _) ?_
   refine iIn (fun h=>nomatch h) (fun _=>?_)
   refine lIn (fun k:Nat=>k≤names.length∧∀(j:Nat) x,j<k→names[j]? =some x→x≠b0::rt)
    (fun k=>⟨[(5,.row 0 b1 ys1.length c1),(6,.row 1 b2 ys2.length c2),(8,.val (.string (mkS (b0::rt)))),(11,.val (.int .i64 k)),(14,.val (.slice base l.length cap)),(15,.val (.int .i64 l.length)),(16,.val (.int .i64 i))],[(1,some (.row b2 c2 9 1 ys2)),(0,some (.row b1 c1 9 1 ys1))],2,μ,Mem.nil⟩) (fun k=>names.length-k)
    0 ⟨Nat.zero_le _,fun j x hj=>by omega⟩ (fun _=>⟨rfl,rfl⟩) ⟨⟨rfl,rfl,rfl,rfl,rfl,rfl,rfl,trivial⟩,⟨rfl,rfl,trivial⟩,rfl,rfl⟩ ?_
   rintro k ⟨hk,hall⟩
   refine ifd (fun hkn=>?_) (fun hkn=>?_)
   ·obtain ⟨x, hx⟩ : ∃ x, names[k]? = some x := ⟨_, List.getElem?_eq_getElem (by omega)⟩
    refine bK k rfl (by omega) (bL (.string (mkS x)) (by rw[hy1,gR,List.getElem?_map,List.getElem?_map,hx];rfl) ?_)
    refine iIn (fun hne=>?_) (fun hne=>?_)
    ·have hne : mkS x ≠ mkS (b0 :: rt) := by simpa using hne
     refine aC (by omega) (by omega) ⟨k+1,⟨by omega,fun j y hj hy=>?_⟩,by omega,⟨⟨rfl,rfl,rfl,rfl,rfl,rfl,rfl,trivial⟩,⟨rfl,rfl,trivial⟩,rfl,rfl⟩⟩
     by_cases e:j=k
     ·subst e; rw [hx] at hy; cases hy
      exact fun e=>hne (by rw[e])
     ·exact hall j y (by omega) hy
    ·have hne : mkS x = mkS (b0 :: rt) := by simpa using hne
     have hxe:x=b0::rt:=bA hne
     have hix:names.idxOf (b0::rt)=k:=qNq hk hall (fun y hy=>by rw[hx]at hy;cases hy;exact hxe)
     refine ifd (fun hkl=>?_) (fun hkl=>?_)
     ·have hadd : iQ names (b0 :: rt) = names ++ [b0 :: rt] := by rw [iQ, if_neg (by rw [hix]; omega)]
      have hcnt:=eK (l.drop (i+1)) (iQ names (b0::rt))
      have hcn2:(cH (l.drop (i+1)) (iQ names (b0::rt))).2=(cH l []).2:=by rw[hN,bB ht,gC hb63]
      rw[hcn2,hadd,List.length_append,List.length_singleton]at hcnt
      intro r4
      refine gIn ?_ ?_ fun b3 c3 hb3=>?_
      ·show(ys1.length+1)*16≤_;omega
      ·exact Nat.le_trans (m:=100000000) (show ys1.length+1≤_ by omega) (by decide)
      refine cGv (cI (k:=k) (by omega)) ?_
      refine aD (by show 1+1≤_;decide) ?_
      intro r6
      refine gIn ?_ ?_ fun b4 c4 hb4=>?_
      ·show(ys2.length+1)*16≤_;omega
      ·exact Nat.le_trans (m:=100000000) (show ys2.length+1≤_ by omega) (by decide)
      refine aC (by omega) (by omega) ⟨(i+1,names++[b0::rt],out++[qAt k],(_,b3,c3),(_,b4,c4)),⟨by dsimp only;omega,(by dsimp only;rw[bO,hy1]),?_,by simp[ho],?_⟩,by dsimp only;omega,⟨⟨rfl,rfl,rfl,rfl,rfl,trivial⟩,⟨rfl,rfl,trivial⟩,rfl,rfl⟩⟩
      ·dsimp only
       rw[bO,hy2]
       exact congrArg (fun x=>gR out++[Value.string x]) (bE [63] [_])
      ·dsimp only
       rw[hN,bB ht,gC hb63,hix,hadd]
       simp
     ·have hadd : iQ names (b0 :: rt) = names := by rw [iQ, if_pos (by rw [hix]; omega)]
      have hcnt:=eK (l.drop (i+1)) (iQ names (b0::rt))
      have hcn2:(cH (l.drop (i+1)) (iQ names (b0::rt))).2=(cH l []).2:=by rw[hN,bB ht,gC hb63]
      rw[hcn2,hadd]at hcnt
      refine cGv (cI (k:=k) (by omega)) ?_
      refine aD (by show 1+1≤_;decide) ?_
      intro r6
      refine gIn ?_ ?_ fun b4 c4 hb4=>?_
      ·show(ys2.length+1)*16≤_;omega
      ·exact Nat.le_trans (m:=100000000) (show ys2.length+1≤_ by omega) (by decide)
      refine aC (by omega) (by omega) ⟨(i+1,names,out++[qAt k],(ys1,b1,c1),(_,b4,c4)),⟨by dsimp only;omega,hy1,?_,by simp[ho],?_⟩,by dsimp only;omega,⟨⟨rfl,rfl,rfl,rfl,rfl,trivial⟩,⟨rfl,rfl,trivial⟩,rfl,rfl⟩⟩
      ·dsimp only
       rw[bO,hy2]
       exact congrArg (fun x=>gR out++[Value.string x]) (bE [63] [_])
      ·dsimp only
       rw[hN,bB ht,gC hb63,hix,hadd]
       simp
   ·have hix : names.idxOf (b0 :: rt) = k := qNq hk hall (fun y hy => by have := (List.getElem?_eq_some_iff.1 hy).1; omega)
    refine ifd (fun hkl=>?_) (fun hkl=>?_)
    ·have hadd : iQ names (b0 :: rt) = names ++ [b0 :: rt] := by rw [iQ, if_neg (by rw [hix]; omega)]
     have hcnt:=eK (l.drop (i+1)) (iQ names (b0::rt))
     have hcn2:(cH (l.drop (i+1)) (iQ names (b0::rt))).2=(cH l []).2:=by rw[hN,bB ht,gC hb63]
     rw[hcn2,hadd,List.length_append,List.length_singleton]at hcnt
     intro r4
     refine gIn ?_ ?_ fun b3 c3 hb3=>?_
     ·show(ys1.length+1)*16≤_;omega
     ·exact Nat.le_trans (m:=100000000) (show ys1.length+1≤_ by omega) (by decide)
     refine cGv (cI (k:=k) (by omega)) ?_
     refine aD (by show 1+1≤_;decide) ?_
     intro r6
     refine gIn ?_ ?_ fun b4 c4 hb4=>?_
     ·show(ys2.length+1)*16≤_;omega
     ·exact Nat.le_trans (m:=100000000) (show ys2.length+1≤_ by omega) (by decide)
     refine aC (by omega) (by omega) ⟨(i+1,names++[b0::rt],out++[qAt k],(_,b3,c3),(_,b4,c4)),⟨by dsimp only;omega,(by dsimp only;rw[bO,hy1]),?_,by simp[ho],?_⟩,by dsimp only;omega,⟨⟨rfl,rfl,rfl,rfl,rfl,trivial⟩,⟨rfl,rfl,trivial⟩,rfl,rfl⟩⟩
     ·dsimp only
      rw[bO,hy2]
      exact congrArg (fun x=>gR out++[Value.string x]) (bE [63] [_])
     ·dsimp only
      rw[hN,bB ht,gC hb63,hix,hadd]
      simp
    ·have hadd : iQ names (b0 :: rt) = names := by rw [iQ, if_pos (by rw [hix]; omega)]
     have hcnt:=eK (l.drop (i+1)) (iQ names (b0::rt))
     have hcn2:(cH (l.drop (i+1)) (iQ names (b0::rt))).2=(cH l []).2:=by rw[hN,bB ht,gC hb63]
     rw[hcn2,hadd]at hcnt
     refine cGv (cI (k:=k) (by omega)) ?_
     refine aD (by show 1+1≤_;decide) ?_
     intro r6
     refine gIn ?_ ?_ fun b4 c4 hb4=>?_
     ·show(ys2.length+1)*16≤_;omega
     ·exact Nat.le_trans (m:=100000000) (show ys2.length+1≤_ by omega) (by decide)
     refine aC (by omega) (by omega) ⟨(i+1,names,out++[qAt k],(ys1,b1,c1),(_,b4,c4)),⟨by dsimp only;omega,hy1,?_,by simp[ho],?_⟩,by dsimp only;omega,⟨⟨rfl,rfl,rfl,rfl,rfl,trivial⟩,⟨rfl,rfl,trivial⟩,rfl,rfl⟩⟩
     ·dsimp only
      rw[bO,hy2]
      exact congrArg (fun x=>gR out++[Value.string x]) (bE [63] [_])
     ·dsimp only
      rw[hN,bB ht,gC hb63,hix,hadd]
      simp
 ·have e : l.drop i = [] := List.drop_eq_nil_of_le (by omega)
  rw[e]at hN
  have hN:cH l []=(out,names):=by rw[hN,cH,List.append_nil]
  refine rFz [1] fun μ4 hle4 hno hat=> .inl ⟨.slice (b2.map fun r=>⟨r,0,none⟩) ys2.length c2,?_,?_⟩
  ·show Value.tuple #[_, .int .i64 (ys1.length : Nat), .bool true] = _
   rw[hN,hl1]
  ·rw [hN]
   rw[hy2,gR]at hat ⊢
   exact Rows.sl hat (Nm.rows (out.map mkS)) (by rw[List.length_map,List.length_map];exact Nat.le_trans (m:=1000) (by omega) (by decide))
end
end Go.Vx
namespace Go.Vx
open Go.Proofs Classical
section
variable {μ:Mem}
theorem gQ{ts:List T}{tl:T}{base:Option Addr}{cap:Nat}{vt:Value}(hsl:Sl μ 4 base ts.length ((ts.map T.tm).map Tm.d))(hn:ts.length≤100000)(ht:RepV μ tl.tm.d vt):
  Spec Tryz.prog 156 [.slice base ts.length cap,vt] μ fun v μ'=>RepV μ' (qA ts tl).tm.d v:=by
 have w_:=Tm.invV ht
 obtain⟨q,rfl⟩:=w_
 refine Spec.mk Tryz.func156 (by kernel_rfl) ?_
 intro r3 r4
 refine aC (by omega) (by omega) ?_
 refine lIn (fun z:Nat×T×(Option Addr×Nat)×Mem=>z.1≤ts.length∧μ.Le z.2.2.2∧z.2.1=qA (ts.drop z.1) tl∧RepV z.2.2.2 z.2.1.tm.d (.agg #[.int .i64 z.2.1.tm.kind,.int .i64 z.2.1.tm.num,.string z.2.1.tm.name,.slice z.2.2.1.1 z.2.1.tm.args.length z.2.2.1.2]))
  (fun (j, x, p, μ') => ⟨[(0, .val (.slice base ts.length cap)), (3, .loc 0 r3 0), (4, .loc 1 r4 0), (5, .val (.int .i64 ((j : Int) - 1)))],
   [(0,some (.cells r3 [.val (.int .i64 x.tm.kind),.val (.int .i64 x.tm.num),.val (.string x.tm.name),.val (.slice p.1 x.tm.args.length p.2)] 57)),(1,some (.cells r4 [.val (.int .i64 0),.val (.int .i64 0),.val (.string ⟨#[]⟩),.val (.slice none 0 0)] 57))],2,μ',Mem.nil⟩) (fun z=>z.1)
  (ts.length,tl,q,μ) ⟨Nat.le_refl _,Mem.Le.refl _,by dsimp only;rw[List.drop_length,qA],ht⟩ (fun(_,_,(_,_),_)=>⟨rfl,rfl⟩) ⟨⟨rfl,rfl,rfl,rfl,trivial⟩,⟨rfl,rfl,trivial⟩,rfl,rfl⟩ ?_
 rintro⟨j,x,⟨p1,p2⟩,μ1⟩ ⟨hj,hle,hx,hr⟩
 dsimp only at hj hle hx hr
 refine ifd (fun hlt=>?_) (fun hlt=>?_)
 ·obtain ⟨i, rfl⟩ : ∃ i, j = i + 1 := ⟨j - 1, by omega⟩
  have w_:=aSo (l:=ts) (i:=i) (by omega)
  obtain⟨t,ht'⟩:=w_
  have w_:=T.elemL (hsl.mono hle) ht'
  obtain⟨ad,p,hel,hrt⟩:=w_
  have ei:((i+1:Nat):Int)-1=(i:Int):=by omega
  rw[ei]
  refine eIn hel ?_
  refine cPl (lB hrt hr) fun v μ2 hle2 hR=>?_
  have w_:=Tm.invV hR
  obtain⟨q2,rfl⟩:=w_
  refine aC (by omega) (by omega) ⟨(i,.pair t x,q2,μ2),⟨by dsimp only;omega,hle.trans hle2,?_,hR⟩,by dsimp only;omega,⟨⟨rfl,rfl,rfl,rfl,trivial⟩,⟨rfl,rfl,trivial⟩,rfl,rfl⟩⟩
  dsimp only
  rw[bB ht',qA,hx]
 ·obtain rfl : j = 0 := by omega
  rw[List.drop_zero]at hx
  refine rPl ?_
  rw[←hx]
  exact hr
theorem qBh{t:Bs}{x:T}(h:qDi t=some x)(hl:t.length≤400):Spec Tryz.prog 155 [.string (mkS t)] μ fun w μ'=>∃tv,w= .tuple #[tv,.bool true]∧RepV μ' x.tm.d tv:=by
 have hsz:(mkS t).size=t.length:=cD t
 refine Spec.mk Tryz.func155 (by kernel_rfl) ?_
 intro r2
 refine cGv (dW (mkS t) (by rw[hsz];exact Nat.le_trans hl (by decide)) _) ?_
 refine ifd (fun hn=>?_) (fun hn=>?_)
 ·unfold qDi at h
  rw[if_pos (by rw[mV];exact decide_eq_true hn)]at h
  cases h
  refine cPl (gG (mkS t)) fun v μ2 hle2 hR=>?_
  have w_:=Tm.invV hR
  obtain⟨p,rfl⟩:=w_
  exact rPl ⟨_,rfl,hR⟩
 ·unfold qDi at h
  rw[if_neg (by rw[mV];simpa using hn)]at h
  obtain⟨d,k,rfl,hd,hk,rfl⟩:∃(d:UInt8) (k:Nat),t=[63,d]∧d.toNat=48+k∧k≤9∧x= .var k:=by
   split at h
   ·rename_i d
    split at h
    ·rename_i hd
     cases h
     simp only[Bool.and_eq_true,decide_eq_true_eq]at hd
     have h1:=UInt8.le_iff_toNat_le.1 hd.1
     have h2:=UInt8.le_iff_toNat_le.1 hd.2
     have e1:(48:UInt8).toNat=48:=rfl
     have e2:(57:UInt8).toNat=57:=rfl
     exact⟨d,d.toNat-48,rfl,by omega,by omega,rfl⟩
    ·cases h
   ·cases h
  have hde:d=UInt8.ofNat (48+k):=by
   apply UInt8.toNat_inj.1
   rw[hd,UInt8.toNat_ofNat']
   omega
  subst hde
  have hex:(mkS [63,UInt8.ofNat (48+k)]).extract 1 (mkS [63,UInt8.ofNat (48+k)]).size=mkS [UInt8.ofNat (48+k)]:=by
   rw[bR,cD];rfl
  have hp:∀μ,aQ Tryz.prog 116 [.string ((mkS [63,UInt8.ofNat (48+k)]).extract 1 (mkS [63,UInt8.ofNat (48+k)]).size)] μ (.tuple #[.int .i64 k,.bool true]):=fun μ=>by
   rw[hex];exact vM hk
  have hs2:(mkS [63,UInt8.ofNat (48+k)]).size=2:=cD _
  intro r4
  refine ifd (fun _=>?_) (fun h=>absurd h (by omega))
  refine aK 0 63 rfl rfl ?_
  refine iIn (fun _=>?_) (fun h=>absurd h (by decide))
  refine aE 1 (mkS [63,UInt8.ofNat (48+k)]).size rfl rfl (by omega) (Int.le_refl _) ?_
  refine cGv (hp _) ?_
  refine iIn (fun h=>nomatch h) (fun _=>?_)
  have hrep:RepV μ (T.var k).tm.d (varV k):=tU _
  refine cGv (oB (T.var k).tm hrep (qMr ⟨by omega,by omega⟩)) ?_
  have hsh:(T.var (k:Int)).tm.Sh:=⟨.var k,⟨by omega,by omega⟩,rfl⟩
  refine iIn (fun h=>?_) (fun _=>?_)
  ·rw [decide_eq_true hsh] at h
   cases h
  ·exact rPl ⟨_,rfl,hrep⟩
def ReadT(L:List Bs)(i:Nat)(x:T)(rest:List Bs)(w:Value)(μ':Mem):Prop:=∃tv,∃j:Nat,w= .tuple #[tv,.int .i64 j,.bool true]∧RepV μ' x.tm.d tv∧rest=L.drop j∧i<j∧j≤L.length
theorem gE{α:Type}{l:List α}{i:Nat}{t:α}{r:List α}(h:l.drop i=t::r):l[i]? =some t∧r=l.drop (i+1)∧i<l.length:=by
 have hi:i<l.length:=by
  rcases Nat.lt_or_ge i l.length with k|k
  ·exact k
  ·rw[List.drop_eq_nil_of_le k]at h;cases h
 rw[List.drop_eq_getElem_cons hi]at h
 have h1:=List.cons.inj h
 exact⟨by rw[List.getElem?_eq_getElem hi,h1.1],h1.2.symm,hi⟩
theorem qLq{n:Nat}{l:List Bs}{more:List T}{c:Bs}{r1:List Bs}(h:rdN n l=some (more,c::r1)):∃t r,∃m,n=m+1∧l=t::r∧((more=[]∧(t=[41]∨t=[46])∧c=t∧r1=r)∨(t≠[41]∧t≠[46]∧∃x r',∃more',rdT m (t::r)=some (x,r')∧rdN m r'=some (more',c::r1)∧more=x::more')):=by
 match n,l,h with
 |m+1,t::r,h=>
  refine⟨t,r,m,rfl,rfl,?_⟩
  rw[rdN]at h
  by_cases hc:(t==[41]||t==[46])=true
  ·rw [if_pos hc] at h
   cases h
   simp only[Bool.or_eq_true,beq_iff_eq]at hc
   exact .inl ⟨rfl,hc,rfl,rfl⟩
  ·rw [if_neg hc] at h
   simp only[Bool.or_eq_true,beq_iff_eq,not_or]at hc
   refine .inr ⟨hc.1,hc.2,?_⟩
   split at h
   ·rename_i x r' he
    have w_:=Option.map_eq_some_iff.1 h
    obtain⟨⟨a,b⟩,h1,h2⟩:=w_
    cases h2
    exact⟨x,r',a,he,h1,rfl⟩
   ·cases h
theorem qMj{n:Nat}{l:List Bs}{x:T}{rest:List Bs}(h:rdT n l=some (x,rest)):∃t r,∃m,n=m+1∧l=t::r∧t≠[41]∧t≠[46]∧
  ((t≠[40]∧qDi t=some x∧rest=r)∨(t=[40]∧∃items c r1,rdN m r=some (items,c::r1)∧((c=[41]∧x=qA items .nil∧rest=r1)∨(c=[46]∧items≠[]∧∃tl r2,rdT m r1=some (tl,[41]::r2)∧x=qA items tl∧rest=r2)))):=by
 match n,l,h with
 |m+1,t::r,h=>
  refine⟨t,r,m,rfl,rfl,?_⟩
  rw[rdT]at h
  by_cases hc:(t==[41]||t==[46])=true
  ·rw [if_pos hc] at h
   cases h
  ·rw [if_neg hc] at h
   simp only[Bool.or_eq_true,beq_iff_eq,not_or]at hc
   refine⟨hc.1,hc.2,?_⟩
   by_cases h40:t=[40]
   ·subst h40
    rw[if_pos (show(([40]:Bs)==[40])=true by decide)]at h
    refine .inr ⟨rfl,?_⟩
    split at h
    ·rename_i items c r1 he
     refine⟨items,c,r1,he,?_⟩
     by_cases h41:c=[41]
     ·subst h41
      rw[if_pos (show(([41]:Bs)==[41])=true by decide)]at h
      cases h
      exact .inl ⟨rfl,rfl,rfl⟩
     ·rw [if_neg (by simpa using h41)] at h
      by_cases h46:(c==[46]&& !items.isEmpty)=true
      ·rw [if_pos h46] at h
       simp only[Bool.and_eq_true,beq_iff_eq,Bool.not_eq_true',List.isEmpty_eq_false_iff]at h46
       refine .inr ⟨h46.1,h46.2,?_⟩
       split at h
       ·rename_i tl d r2 he2
        by_cases hd:d=[41]
        ·subst hd
         rw[if_pos (show(([41]:Bs)==[41])=true by decide)]at h
         cases h
         exact⟨tl,_,he2,rfl,rfl⟩
        ·rw [if_neg (by simpa using hd)] at h
         cases h
       ·cases h
      ·rw [if_neg h46] at h
       cases h
    ·cases h
   ·rw [if_neg (by simpa using h40)] at h
    have w_:=Option.map_eq_some_iff.1 h
    obtain⟨a,h1,h2⟩:=w_
    cases h2
    exact .inl ⟨h40,h1,rfl⟩
end
end Go.Vx
namespace Go.Vx
open Go.Proofs Classical
theorem Nm.tok{μ:Mem}{L:List Bs}{base:Option Addr}(hs:Sl μ 1 base L.length ((L.map mkS).map D.s)){i:Nat}{t:Bs}(ht:L[i]? =some t):∃ad,ElemAt μ base L.length 1 (i:Int) ad [.string (mkS t)]:=
 Nm.elem hs (by rw[List.getElem?_map,ht];rfl)
theorem nd{p:Prop}[Decidable p](h:(!decide p)=true):¬p:=of_decide_eq_false (by simpa only[Bool.not_eq_true']using h)
theorem nd'{p:Prop}[Decidable p](h:(!decide p)=false):p:=of_decide_eq_true (by simpa only[Bool.not_eq_false']using h)
theorem qCi{μ:Mem}:RepV μ T.nil.tm.d (.agg #[.int .i64 0,.int .i64 0,.string ⟨#[]⟩,.slice none 0 0]):=by
 rw[T.tm,Tm.d_mk]
 exact⟨_,rfl,RepS.int (RepS.int (RepS.str (RepS.last (Rep.nilSl 4))))⟩
set_option maxHeartbeats 2000000 in
theorem qAr {L : List Bs} (hL : L.length ≤ 400) (hlen : ∀ t ∈ L, t.length ≤ 400) {base : Option Addr} {cap : Nat} : ∀ (n : Nat) {μ : Mem} {i : Nat} {x : T} {rest : List Bs}, Sl μ 1 base L.length ((L.map mkS).map D.s) → rdT n (L.drop i) = some (x, rest) →
  Spec Tryz.prog 118 [.slice base L.length cap,.int .i64 i] μ fun w μ'=>ReadT L i x rest w μ':=fun n=>by
 induction n using Nat.strongRecOn with
 |ind n ih=>
 intro μ i x rest hs h
 have w_:=qMj h
 obtain⟨t,r,m,rfl,hd,hn41,hn46,hcase⟩:=w_
 have w_:=gE hd
 obtain⟨ht,hr0,hil⟩:=w_
 have w_:=Nm.tok hs ht
 obtain⟨ad,hel⟩:=w_
 refine Spec.mk Tryz.func118 (by kernel_rfl) ?_
 intro r4
 refine ifd (fun h=>absurd h (by omega)) (fun _=>?_)
 refine eIn hel ?_
 refine ifd (fun h=>absurd (bA h) hn41) (fun _=>?_)
 refine eIn hel ?_
 refine iIn (fun h=>absurd (bA (of_decide_eq_true h)) hn46) (fun _=>?_)
 refine eIn hel ?_
 refine aL (fun h40=>?_) (fun h40=>?_)
 ·rcases hcase with ⟨_, hat, hrest⟩ | ⟨e40, _⟩
  ·refine eIn hel ?_
   refine cPl (qBh hat (hlen t (List.mem_of_getElem? ht))) fun v μ1 hle1 hR=>?_
   obtain⟨tv,rfl,hr⟩:=hR
   have w_:=Tm.invV hr
   obtain⟨q,rfl⟩:=w_
   intro r7
   refine aC (by omega) (by omega) ?_
   exact rPl ⟨_,i+1,rfl,hr,by rw[hrest];exact hr0,by omega,by omega⟩
  ·exact absurd (congrArg mkS e40) h40
 ·have h40 : t = [40] := bA h40
  rcases hcase with⟨n40,_⟩|⟨_,items,c0,r1,hN0,hfin⟩
  ·exact absurd h40 n40
  rw[hr0]at hN0
  intro r9
  refine aC (by omega) (by omega) ?_
  refine lIn (fun z:Nat×List T×Nat×List T×(List Value×Option Nat×Nat)×Mem=>i<z.1∧z.1≤L.length∧z.2.2.1≤m∧rdN z.2.2.1 (L.drop z.1)=some (z.2.2.2.1,c0::r1)∧items=z.2.1++z.2.2.2.1∧Rows z.2.2.2.2.2 4 ((z.2.1.map T.tm).map Tm.d) z.2.2.2.2.1.1∧μ.Le z.2.2.2.2.2∧z.2.1.length≤z.1)
   (fun(i1,_,_,_,(ys,b,c),μ1)=>⟨[(0,.val (.slice base L.length cap)),(1,.val (.int .i64 i1)),(4,.loc 0 r4 0),(9,.row 1 b ys.length c)],[(1,some (.row b c 57 4 ys)),(0,some (.cells r4 [.val (.int .i64 0),.val (.int .i64 0),.val (.string ⟨#[]⟩),.val (.slice none 0 0)] 57))],2,μ1,Mem.nil⟩) (fun z=>L.length-z.1)
   (i+1,[],m,items,([],some r9,0),μ) ⟨by dsimp only;omega,by dsimp only;omega,Nat.le_refl _,hN0,rfl,.nil,Mem.Le.refl _,Nat.zero_le _⟩ (fun(_,_,_,_,(_,_,_),_)=>⟨rfl,rfl⟩) ⟨⟨rfl,rfl,rfl,rfl,trivial⟩,⟨rfl,rfl,trivial⟩,rfl,rfl⟩ ?_
  rintro⟨i1,D,m1,more,⟨ys,b,c⟩,μ1⟩ ⟨hi1,hi1l,hm1,hN,hit,hrows,hle,hDl⟩
  dsimp only at hi1 hi1l hm1 hN hit hrows hle hDl
  have hyl:=hrows.len
  rw[List.length_map,List.length_map]at hyl
  have hyl:=hyl.symm
  have w_:=qLq hN
  obtain⟨t1,rr,m2,rfl,hd1,hcs⟩:=w_
  have w_:=gE hd1
  obtain⟨ht1,hrr,hi1lt⟩:=w_
  have w_:=Nm.tok (hs.mono hle) ht1
  obtain⟨ad1,hel1⟩:=w_
  refine ifd (fun _=>?_) (fun h=>absurd h (by omega))
  refine eIn hel1 ?_
  rcases hcs with⟨hm0,htc,hct,hr1⟩|⟨hn1,hn2,x',r',more',hT,hN',hmore⟩
  ·replace hct := hct.symm
   subst hct
   have he1:r1=L.drop (i1+1):=by rw[hr1,hrr]
   refine aL (fun h41=>?_) (fun h41=>?_)
   ·refine eIn hel1 ?_
    have e46:t1=[46]:=htc.resolve_left fun e=>h41 (congrArg mkS e)
    refine iIn (fun h=>?_) (fun h=>?_)
    ·subst e46
     exact absurd rfl (nd h)
    ·clear h
     intro r13
     refine ifd (fun _=>?_) (fun h=>absurd h (by omega))
     have w_:=Nm.tok (hs.mono hle) ht1
     obtain⟨ad2,hel2⟩:=w_
     refine eIn hel2 ?_
     refine iIn (fun h46=>?_) (fun h46=>?_)
     ·have h46 : t1 = [46] := bA (of_decide_eq_true h46)
      rcases hfin with⟨e41,_⟩|⟨_,hne,tl,r2,htl,hx,hrest⟩
      ·rw[e41]at h46;cases h46
      refine aC (by omega) (by omega) ?_
      rw[he1]at htl
      refine cPl (ih m (by omega) (hs.mono hle) htl) fun v2 μ2 hle2 hR2=>?_
      obtain⟨tv2,j2,rfl,hr2,hj2,hij2,hjl2⟩:=hR2
      have w_:=Tm.invV hr2
      obtain⟨q2,rfl⟩:=w_
      intro r14
      refine iIn (fun h=>nomatch h) (fun _=>?_)
      have w_:=gE hj2.symm
      obtain⟨hj41,hj2e,hj2l⟩:=w_
      have hDne:D.length≠0:=fun e=>hne (by rw[hit,hm0,List.append_nil];exact List.eq_nil_of_length_eq_zero e)
      refine iIn (fun h=>absurd (of_decide_eq_true h) (by omega)) (fun _=>?_)
      refine ifd (fun h=>absurd h (by omega)) (fun _=>?_)
      have w_:=Nm.tok ((hs.mono hle).mono hle2) hj41
      obtain⟨ad3,hel3⟩:=w_
      refine eIn hel3 ?_
      refine iIn (fun h=>absurd rfl (nd h)) (fun _=>?_)
      refine bF [1] fun μ4 hle4 hno4 hat4=>?_
      have hsl4:Sl μ4 4 (b.map fun r=>(⟨r,0,none⟩:Addr)) D.length ((D.map T.tm).map Tm.d):=by
       have k:=Rows.sl hat4 (hrows.mono (hle2.trans hle4)) (Nat.le_trans (m:=1000) (by omega) (by decide))
       have w_:=Rep.sl k
       obtain⟨bz,cz,ez,hsz⟩:=w_
       have w_:=Value.slice.inj ez
       obtain⟨e1,e2,_⟩:=w_
       rw[List.length_map,List.length_map]at hsz
       rwa [←e1]at hsz
      rw[hyl]
      refine cE (gQ (tl:=tl) hsl4 (by omega) (hr2.mono hle4)) fun v5 μ5 hle5 hR5=>?_
      have w_:=Tm.invV hR5
      obtain⟨q5,rfl⟩:=w_
      refine aC (by omega) (by omega) ?_
      refine rPl ⟨_,j2+1,rfl,?_,?_,by omega,by omega⟩
      ·(rw[hx,hit,hm0,List.append_nil];exact hR5)
      ·(rw[hrest];exact hj2e)
     ·have h46 : t1 ≠ [46] := fun e => by rw [e] at h46; exact absurd (of_decide_eq_false h46) (fun h => h rfl)
      have h41:t1=[41]:=htc.resolve_right h46
      rcases hfin with⟨_,hx,hrest⟩|⟨e46,_⟩
      ·refine ifd (fun h => absurd h (by omega)) (fun _ => ?_)
       refine eIn hel2 ?_
       subst h41
       refine iIn (fun h=>absurd rfl (nd h)) (fun _=>?_)
       refine bF [1] fun μ4 hle4 hno4 hat4=>?_
       have hsl4:Sl μ4 4 (b.map fun r=>(⟨r,0,none⟩:Addr)) D.length ((D.map T.tm).map Tm.d):=by
        have k:=Rows.sl hat4 (hrows.mono (hle4)) (Nat.le_trans (m:=1000) (by omega) (by decide))
        have w_:=Rep.sl k
        obtain⟨bz,cz,ez,hsz⟩:=w_
        have w_:=Value.slice.inj ez
        obtain⟨e1,e2,_⟩:=w_
        rw[List.length_map,List.length_map]at hsz
        rwa [←e1]at hsz
       rw[hyl]
       refine cE (gQ (tl:= .nil) hsl4 (by omega) (qCi)) fun v5 μ5 hle5 hR5=>?_
       have w_:=Tm.invV hR5
       obtain⟨q5,rfl⟩:=w_
       refine aC (by omega) (by omega) ?_
       refine rPl ⟨_,i1+1,rfl,?_,?_,by omega,by omega⟩
       ·(rw[hx,hit,hm0,List.append_nil];exact hR5)
       ·(rw[hrest];exact he1)
      ·exact absurd e46 h46
   ·intro r13
    refine ifd (fun _=>?_) (fun h=>absurd h (by omega))
    have w_:=Nm.tok (hs.mono hle) ht1
    obtain⟨ad2,hel2⟩:=w_
    refine eIn hel2 ?_
    refine iIn (fun h46=>?_) (fun h46=>?_)
    ·have h46 : t1 = [46] := bA (of_decide_eq_true h46)
     rcases hfin with⟨e41,_⟩|⟨_,hne,tl,r2,htl,hx,hrest⟩
     ·rw[e41]at h46;cases h46
     refine aC (by omega) (by omega) ?_
     rw[he1]at htl
     refine cPl (ih m (by omega) (hs.mono hle) htl) fun v2 μ2 hle2 hR2=>?_
     obtain⟨tv2,j2,rfl,hr2,hj2,hij2,hjl2⟩:=hR2
     have w_:=Tm.invV hr2
     obtain⟨q2,rfl⟩:=w_
     intro r14
     refine iIn (fun h=>nomatch h) (fun _=>?_)
     have w_:=gE hj2.symm
     obtain⟨hj41,hj2e,hj2l⟩:=w_
     have hDne:D.length≠0:=fun e=>hne (by rw[hit,hm0,List.append_nil];exact List.eq_nil_of_length_eq_zero e)
     refine iIn (fun h=>absurd (of_decide_eq_true h) (by omega)) (fun _=>?_)
     refine ifd (fun h=>absurd h (by omega)) (fun _=>?_)
     have w_:=Nm.tok ((hs.mono hle).mono hle2) hj41
     obtain⟨ad3,hel3⟩:=w_
     refine eIn hel3 ?_
     refine iIn (fun h=>absurd rfl (nd h)) (fun _=>?_)
     refine bF [1] fun μ4 hle4 hno4 hat4=>?_
     have hsl4:Sl μ4 4 (b.map fun r=>(⟨r,0,none⟩:Addr)) D.length ((D.map T.tm).map Tm.d):=by
      have k:=Rows.sl hat4 (hrows.mono (hle2.trans hle4)) (Nat.le_trans (m:=1000) (by omega) (by decide))
      have w_:=Rep.sl k
      obtain⟨bz,cz,ez,hsz⟩:=w_
      have w_:=Value.slice.inj ez
      obtain⟨e1,e2,_⟩:=w_
      rw[List.length_map,List.length_map]at hsz
      rwa [←e1]at hsz
     rw[hyl]
     refine cE (gQ (tl:=tl) hsl4 (by omega) (hr2.mono hle4)) fun v5 μ5 hle5 hR5=>?_
     have w_:=Tm.invV hR5
     obtain⟨q5,rfl⟩:=w_
     refine aC (by omega) (by omega) ?_
     refine rPl ⟨_,j2+1,rfl,?_,?_,by omega,by omega⟩
     ·(rw[hx,hit,hm0,List.append_nil];exact hR5)
     ·(rw[hrest];exact hj2e)
    ·have h46 : t1 ≠ [46] := fun e => by rw [e] at h46; exact absurd (of_decide_eq_false h46) (fun h => h rfl)
     have h41:t1=[41]:=htc.resolve_right h46
     rcases hfin with⟨_,hx,hrest⟩|⟨e46,_⟩
     ·refine ifd (fun h => absurd h (by omega)) (fun _ => ?_)
      refine eIn hel2 ?_
      subst h41
      refine iIn (fun h=>absurd rfl (nd h)) (fun _=>?_)
      refine bF [1] fun μ4 hle4 hno4 hat4=>?_
      have hsl4:Sl μ4 4 (b.map fun r=>(⟨r,0,none⟩:Addr)) D.length ((D.map T.tm).map Tm.d):=by
       have k:=Rows.sl hat4 (hrows.mono (hle4)) (Nat.le_trans (m:=1000) (by omega) (by decide))
       have w_:=Rep.sl k
       obtain⟨bz,cz,ez,hsz⟩:=w_
       have w_:=Value.slice.inj ez
       obtain⟨e1,e2,_⟩:=w_
       rw[List.length_map,List.length_map]at hsz
       rwa [←e1]at hsz
      rw[hyl]
      refine cE (gQ (tl:= .nil) hsl4 (by omega) (qCi)) fun v5 μ5 hle5 hR5=>?_
      have w_:=Tm.invV hR5
      obtain⟨q5,rfl⟩:=w_
      refine aC (by omega) (by omega) ?_
      refine rPl ⟨_,i1+1,rfl,?_,?_,by omega,by omega⟩
      ·(rw[hx,hit,hm0,List.append_nil];exact hR5)
      ·(rw[hrest];exact he1)
     ·exact absurd e46 h46
  ·refine aL (fun h41 => ?_) (fun h41 => absurd (bA h41) hn1)
   refine eIn hel1 ?_
   refine iIn (fun h=>?_) (fun h=>?_)
   ·rw [← hd1] at hT
    refine cPl (ih m2 (by omega) (hs.mono hle) hT) fun v2 μ2 hle2 hR2=>?_
    obtain⟨tv2,j2,rfl,hr2,hj2,hij2,hjl2⟩:=hR2
    have w_:=Tm.invV hr2
    obtain⟨q2,rfl⟩:=w_
    intro r10
    refine iIn (fun h=>nomatch h) (fun _=>?_)
    intro r11
    refine gIn ?_ ?_ fun b' c' hb'=>?_
    ·show(ys.length+1)*56≤_;omega
    ·exact Nat.le_trans (m:=100000000) (show ys.length+1≤_ by omega) (by decide)
    refine⟨(j2,D++[x'],m2,more',(_,b',c'),μ2),⟨by dsimp only;omega,hjl2,by dsimp only;omega,by rw[←hj2];exact hN',by rw[hit,hmore,List.append_assoc];rfl,?_,hle.trans hle2,by simp only[List.length_append,List.length_singleton];omega⟩,by dsimp only;omega,⟨⟨rfl,rfl,rfl,rfl,trivial⟩,⟨rfl,rfl,trivial⟩,rfl,rfl⟩⟩
    dsimp only
    rw[List.map_append,List.map_append]
    exact(hrows.mono hle2).append (Rows.one hr2 (Tm.d_n _))
   ·exact absurd (bA (nd' h)) hn2
theorem cQ{μ:Mem}{k:Int}{s:ByteArray}{ts:List Tm}{gs:List Gl}{vt vg:Value}(ht:RepV μ (.sl 4 (ts.map Tm.d)) vt)(hg:RepV μ (.sl 4 (gs.map Gl.d)) vg)(_h1:vt.oneCell'=true:=by rfl)(_h2:vg.oneCell'=true:=by rfl):
    RepV μ (Gl.mk k s ts gs).d (.agg #[.int .i64 k,.string s,vt,vg]):=by
  rw[Gl.d_eq]
  exact⟨_,rfl,RepS.int (RepS.str ⟨[_],[_],rfl,ht,RepS.last hg⟩)⟩
theorem qNb {n : Nat} {l : List Bs} {more : List T} {r1 : List Bs} (h : rdA n l = some (more, [41] :: r1)) : ∃ t r, ∃ m, n = m + 1 ∧ l = t :: r ∧ ((more = [] ∧ t = [41] ∧ r1 = r) ∨ (t ≠ [41] ∧ ∃ x r', ∃ more', rdT m (t :: r) = some (x, r') ∧ rdA m r' = some (more', [41] :: r1) ∧ more = x :: more')) := by
  match n,l,h with
  | m + 1, t :: r, h =>
    refine⟨t,r,m,rfl,rfl,?_⟩
    rw[rdA]at h
    by_cases hc:(t==[41])=true
    · rw [if_pos hc] at h
      cases h
      exact .inl ⟨rfl,rfl,rfl⟩
    · rw [if_neg hc] at h
      refine .inr ⟨by simpa using hc,?_⟩
      split at h
      · rename_i x r' he
        have w_:=Option.map_eq_some_iff.1 h
        obtain⟨⟨a,b⟩,h1,h2⟩:=w_
        cases h2
        exact⟨x,r',a,he,h1,rfl⟩
      · cases h
theorem qJe {n : Nat} {l : List Bs} {more : List Gl} {r1 : List Bs} (h : qGx n l = some (more, [41] :: r1)) : ∃ t r, ∃ m, n = m + 1 ∧ l = t :: r ∧ ((more = [] ∧ t = [41] ∧ r1 = r) ∨ (t ≠ [41] ∧ ∃ x r', ∃ more', rdG m (t :: r) = some (x, r') ∧ qGx m r' = some (more', [41] :: r1) ∧ more = x :: more')) := by
  match n,l,h with
  | m + 1, t :: r, h =>
    refine⟨t,r,m,rfl,rfl,?_⟩
    rw[qGx]at h
    by_cases hc:(t==[41])=true
    · rw [if_pos hc] at h
      cases h
      exact .inl ⟨rfl,rfl,rfl⟩
    · rw [if_neg hc] at h
      refine .inr ⟨by simpa using hc,?_⟩
      split at h
      · rename_i x r' he
        have w_:=Option.map_eq_some_iff.1 h
        obtain⟨⟨a,b⟩,h1,h2⟩:=w_
        cases h2
        exact⟨x,r',a,he,h1,rfl⟩
      · cases h
theorem qEq {n : Nat} {l : List Bs} {g : Gl} {rest : List Bs} (h : rdG n l = some (g, rest)) : ∃ w r, ∃ m, n = m + 1 ∧ l = [40] :: w :: r ∧ 1 < (cT w).1 ∧
    ((((cT w).1 = 7 ∨ (cT w).1 = 8 ∨ (cT w).1 = 10) ∧ ∃ gs, qGx m r = some (gs, [41] :: rest) ∧ g = .mk (cT w).1 (mkS (cT w).2) [] gs) ∨
     ((cT w).1≠7∧(cT w).1≠8∧(cT w).1≠10∧∃ts,rdA m r=some (ts,[41]::rest)∧g= .mk (cT w).1 (mkS (cT w).2) (ts.map T.tm) [])):=by
  match n,l,h with
  | m + 1, t :: w :: r, h =>
    rw[rdG]at h
    by_cases hc:(t==[40]&&decide (1<(cT w).1))=true
    · rw [if_pos (by simpa using hc)] at h
      simp only[Bool.and_eq_true,beq_iff_eq,decide_eq_true_eq]at hc
      obtain⟨rfl,h1⟩:=hc
      refine⟨w,r,m,rfl,rfl,h1,?_⟩
      by_cases hk:((cT w).1==7||(cT w).1==8||(cT w).1==10)=true
      · rw [if_pos hk] at h
        simp only[Bool.or_eq_true,beq_iff_eq]at hk
        refine .inl ⟨by omega,?_⟩
        split at h
        · rename_i gs c r1 he
          by_cases hd:(c==[41])=true
          · rw [if_pos hd] at h
            have hd:c=[41]:=by simpa using hd
            subst hd
            cases h
            exact⟨gs,he,rfl⟩
          · rw[if_neg hd]at h;cases h
        · cases h
      · rw [if_neg hk] at h
        simp only[Bool.or_eq_true,beq_iff_eq,not_or]at hk
        refine .inr ⟨hk.1.1,hk.1.2,hk.2,?_⟩
        split at h
        · rename_i ts c r1 he
          by_cases hd:(c==[41])=true
          · rw [if_pos hd] at h
            have hd:c=[41]:=by simpa using hd
            subst hd
            cases h
            exact⟨ts,he,rfl⟩
          · rw[if_neg hd]at h;cases h
        · cases h
    · rw[if_neg (by simpa using hc)]at h;cases h
def kQ(w:Bs)(k:Nat):Int×Bs:=if heads.idxOf w<k then((heads.idxOf w:Nat),[])else(9,w)
theorem qJi(w:Bs):kQ w 11=cT w:=rfl
theorem qMh:∀k,(h:k<11)→heads.idxOf (heads[k]'h)=k:=by decide
theorem qHg{w:Bs}{k:Nat}(hk:k<11)(h:heads[k]? =some w):kQ w (k+1)=(((k:Nat):Int),([]:Bs)):=by
  have w_:=List.getElem?_eq_some_iff.1 h
  obtain⟨h1,h2⟩:=w_
  have e:heads.idxOf w=k:=by rw[←h2];exact qMh k hk
  rw[kQ,e,if_pos (by omega)]
theorem qDd{w x:Bs}{k:Nat}(h:heads[k]? =some x)(hx:x≠w):kQ w (k+1)=kQ w k:=by
  have e:heads.idxOf w≠k:=fun e=>by
    have w_:=List.getElem?_eq_some_iff.1 h
    obtain⟨h1,h2⟩:=w_
    have hlt:heads.idxOf w<heads.length:=by omega
    have:=List.getElem_idxOf hlt
    subst e
    exact hx (h2.symm.trans this)
  rw[kQ,kQ]
  by_cases h1:heads.idxOf w<k
  · rw[if_pos h1,if_pos (by omega)]
  · rw[if_neg h1,if_neg (by omega)]
def ReadG(L:List Bs)(i:Nat)(g:Gl)(rest:List Bs)(w:Value)(μ':Mem):Prop:=∃tv,∃j:Nat,w= .tuple #[tv,.int .i64 j,.bool true]∧RepV μ' g.d tv∧rest=L.drop j∧i<j∧j≤L.length
theorem wY{μ:Mem}:Spec Tryz.prog 117 [] μ fun v μ'=>NmV μ' (heads.map mkS) v:=by
  refine Spec.mk Tryz.func117 (by kernel_rfl) ?_
  intro r
  refine rFz [0] fun μ4 hle4 hno hat=> .inl ?_
  exact Rows.sl hat (Nm.rows (heads.map mkS)) (by decide)
set_option maxHeartbeats 2000000 in
theorem qAb {L : List Bs} (hL : L.length ≤ 400) (hlen : ∀ t ∈ L, t.length ≤ 400) {base : Option Addr} {cap : Nat} : ∀ (n : Nat) {μ : Mem} {i : Nat} {g : Gl} {rest : List Bs}, Sl μ 1 base L.length ((L.map mkS).map D.s) → rdG n (L.drop i) = some (g, rest) →
    Spec Tryz.prog 70 [.slice base L.length cap,.int .i64 i] μ fun w μ'=>ReadG L i g rest w μ':=fun n=>by
  induction n using Nat.strongRecOn with
  |ind n ih=>
  intro μ i g rest hs h
  have w_:=qEq h
  obtain⟨w,r,m,rfl,hd,h1k,hcase⟩:=w_
  have w_:=gE hd
  obtain⟨ht,hr0,hil⟩:=w_
  have w_:=gE hr0.symm
  obtain⟨hw,hr,hil2⟩:=w_
  have w_:=Nm.tok hs ht
  obtain⟨ad,hel⟩:=w_
  have w_:=Nm.tok hs hw
  obtain⟨adw,helw⟩:=w_
  refine Spec.mk Tryz.func70 (by kernel_rfl) ?_
  intro r4
  refine ifd (fun _=>?_) (fun h=>absurd h (by omega))
  refine eIn hel ?_
  refine iIn (fun h=>absurd (bA (a:=[40]) (b:=[116,114,117,101]) (of_decide_eq_true h)) (by decide)) (fun _=>?_)
  refine ifd (fun _=>?_) (fun h=>absurd h (by omega))
  refine eIn hel ?_
  refine iIn (fun h=>absurd (bA (a:=[40]) (b:=[102,97,105,108]) (of_decide_eq_true h)) (by decide)) (fun _=>?_)
  refine aC (by omega) (by omega) ?_
  refine ifd (fun h=>absurd h (by omega)) (fun _=>?_)
  refine eIn hel ?_
  refine iIn (fun h=>absurd rfl (nd h)) (fun _=>?_)
  refine aC (by omega) (by omega) ?_
  refine eIn helw ?_
  intro r7
  refine cPl wY fun v1 μ1 hle1 hR1=>?_
  have w_:=NmV.sl hR1
  obtain⟨hb,hc,rfl,hhs⟩:=w_
  have hlh:(heads.map mkS).length=11:=by rw[List.length_map];rfl
  rw[hlh]at hhs ⊢
  refine lIn (fun k:Nat=>k≤11) (fun k=>⟨[(0,.val (.slice base L.length cap)),(1,.val (.int .i64 i)),(4,.loc 0 r4 0),(7,.loc 1 r7 0),(63,.val (.slice hb 11 hc)),(64,.val (.int .i64 11)),(65,.val (.int .i64 k))],
      [(1,some (.cells r7 [.val (.int .i64 (kQ w k).1),.val (.string (mkS (kQ w k).2)),.val (.slice none 0 0),.val (.slice none 0 0)] 73)),(0,some (.cells r4 [.val (.int .i64 0),.val (.string ⟨#[]⟩),.val (.slice none 0 0),.val (.slice none 0 0)] 73))],2,μ1,Mem.nil⟩) (fun k=>11-k)
    0 (by omega) (fun _=>⟨rfl,rfl⟩) ⟨⟨rfl,rfl,rfl,rfl,rfl,rfl,rfl,trivial⟩,⟨rfl,rfl,trivial⟩,rfl,rfl⟩ ?_
  intro k hk
  refine ifd (fun hlt=>?_) (fun hlt=>?_)
  · have hk11 : k < 11 := by omega
    obtain⟨x,hx⟩:∃x,heads[k]? =some x:=⟨_,List.getElem?_eq_getElem (show k<11 from hk11)⟩
    have w_:=Nm.elem (s:=mkS x) hhs (i:=k) (by rw[List.getElem?_map,hx];rfl)
    obtain⟨adh,helh⟩:=w_
    refine eIn helh ?_
    refine aC (by omega) (by omega) ?_
    refine eIn (helw.mono hle1) ?_
    refine ifd (fun he=>?_) (fun he=>?_)
    · have he : x = w := bA he
      subst he
      refine aC (by omega) (by omega) ⟨k+1,by omega,by omega,⟨⟨rfl,rfl,rfl,rfl,rfl,rfl,rfl,trivial⟩,⟨?_,rfl,trivial⟩,rfl,rfl⟩⟩
      rw[qHg hk11 hx]
      rfl
    · have he : x ≠ w := fun e => he (congrArg mkS e)
      refine aC (by omega) (by omega) ⟨k+1,by omega,by omega,⟨⟨rfl,rfl,rfl,rfl,rfl,rfl,rfl,trivial⟩,⟨?_,rfl,trivial⟩,rfl,rfl⟩⟩
      rw[qDd hx he]
      rfl
  obtain rfl:k=11:=by omega
  rw[qJi]
  generalize hkk:cT w=hg at*
  obtain⟨kk,nm⟩:=hg
  dsimp only at h1k hcase ⊢
  have hks:kk≤10:=by
    have:(cT w).1≤10:=by
      rw[cT];split
      · dsimp only;omega
      · dsimp only;omega
    rw[hkk]at this
    exact this
  refine aC (by omega) (by omega) ?_
  rcases hcase with⟨hk3,gs,hrd,hge⟩|⟨hk7,hk8,hk10,ts,hrd,hge⟩
  · rw [hr] at hrd
    refine bS (fun z:Nat×List Gl×Nat×List Gl×(List Value×Option Nat×Nat)×Mem=>i<z.1∧z.1≤L.length∧z.2.2.1≤m∧qGx z.2.2.1 (L.drop z.1)=some (z.2.2.2.1,[41]::rest)∧gs=z.2.1++z.2.2.2.1∧Rows z.2.2.2.2.2 4 (z.2.1.map Gl.d) z.2.2.2.2.1.1∧μ.Le z.2.2.2.2.2∧z.2.1.length≤z.1)
      (fun(i1,_,_,_,(ys,b,c),μ1)=>⟨[(0,.val (.slice base L.length cap)),(1,.val (.int .i64 i1)),(4,.loc 0 r4 0),(7,.loc 1 r7 0)],
        [(0,some (.cells r4 [.val (.int .i64 0),.val (.string ⟨#[]⟩),.val (.slice none 0 0),.val (.slice none 0 0)] 73)),(1,some (.cells r7 [.val (.int .i64 kk),.val (.string (mkS nm)),.val (.slice none 0 0),.row 2 b ys.length c] 73)),(2,some (.row b c 73 4 ys))],3,μ1,Mem.nil⟩) (fun z=>L.length-z.1)
      (i+2,[],m,gs,([],none,0),μ1) ⟨by dsimp only;omega,by dsimp only;omega,Nat.le_refl _,hrd,rfl,.nil,hle1,Nat.zero_le _⟩ (fun(_,_,_,_,(_,_,_),_)=>⟨rfl,rfl⟩)
      ⟨⟨⟨_,rfl,.inl rfl⟩,⟨_,rfl,.inl rfl⟩,⟨_,rfl,.inl rfl⟩,⟨_,rfl,.inl rfl⟩,trivial⟩,⟨.inl rfl,.inr (.inr ⟨_,_,_,_,rfl,rfl,.inl rfl,.inl rfl,.inl rfl,.inr ⟨2,rfl,rfl,Nat.le_refl _⟩,trivial⟩),.inr (.inl ⟨_,_,rfl,Nat.le_refl _⟩),trivial⟩,rfl,rfl⟩ ?_
    rintro⟨i1,Dn,m1,more,⟨ys,b,c⟩,μ2⟩ ⟨hi1,hi1l,hm1,hN,hit,hrows,hle,hDl⟩
    dsimp only at hi1 hi1l hm1 hN hit hrows hle hDl
    have hyl:=hrows.len
    rw[List.length_map]at hyl
    have w_:=qJe hN
    obtain⟨t1,rr,m2,rfl,hd1,hcs⟩:=w_
    have w_:=gE hd1
    obtain⟨ht1,hrr,hi1lt⟩:=w_
    have w_:=Nm.tok (hs.mono hle) ht1
    obtain⟨ad1,hel1⟩:=w_
    refine ifd (fun _=>?_) (fun h=>absurd h (by omega))
    refine eIn hel1 ?_
    rcases hcs with⟨hm0,h41,hr1⟩|⟨hn1,x',r',more',hT,hN',hmore⟩
    · subst h41
      refine iIn (fun h=>absurd rfl (nd h)) (fun _=>?_)
      refine aC (by omega) (by omega) ?_
      refine ifd (fun _=>?_) (fun h=>absurd h (by omega))
      refine rFz [2] fun μ4 hle4 hno hat=> .inl ⟨.agg #[.int .i64 kk,.string (mkS nm),.slice none 0 0,.slice (b.map fun r=>⟨r,0,none⟩) ys.length c],i1+1,?_,?_,?_,by omega,by omega⟩
      · show Value.tuple #[_, _, .bool (decide ((1 : Int) < kk))] = _
        rw[decide_eq_true h1k]
        rfl
      · rw [hge, hit, hm0, List.append_nil]
        exact cQ (ts:=[]) (Rep.nilSl 4) (Rows.sl hat (hrows.mono hle4) (Nat.le_trans (m:=1000) (by omega) (by decide)))
      · rw[hr1,hrr]
    · refine iIn (fun _ => ?_) (fun h => absurd (bA (nd' h)) hn1)
      refine ifd (fun _=>?_) (fun h7=>?_)
      · rw [← hd1] at hT
        refine cPl (ih m2 (by omega) (hs.mono hle) hT) fun v2 μ3 hle2 hR2=>?_
        obtain⟨tv2,j2,rfl,hr2,hj2,hij2,hjl2⟩:=hR2
        have w_:=Gl.invV hr2
        obtain⟨q2,rfl⟩:=w_
        intro r10
        refine iIn (fun h=>nomatch h) (fun _=>?_)
        intro r11
        refine gIn ?_ ?_ fun b' c' hb'=>?_
        · show(ys.length+1)*72≤_;omega
        · exact Nat.le_trans (m:=100000000) (show ys.length+1≤_ by omega) (by decide)
        refine⟨(j2,Dn++[x'],m2,more',(_,b',c'),μ3),⟨by dsimp only;omega,hjl2,by dsimp only;omega,by rw[←hj2];exact hN',by rw[hit,hmore,List.append_assoc];rfl,?_,hle.trans hle2,by simp only[List.length_append,List.length_singleton];omega⟩,by dsimp only;omega,⟨⟨rfl,rfl,rfl,rfl,trivial⟩,⟨rfl,rfl,rfl,trivial⟩,rfl,rfl⟩⟩
        dsimp only
        rw[List.map_append]
        exact(hrows.mono hle2).append (Rows.one hr2 (Gl.d_n _))
      · refine ifd (fun _ => ?_) (fun h8 => ?_)
        · rw [← hd1] at hT
          refine cPl (ih m2 (by omega) (hs.mono hle) hT) fun v2 μ3 hle2 hR2=>?_
          obtain⟨tv2,j2,rfl,hr2,hj2,hij2,hjl2⟩:=hR2
          have w_:=Gl.invV hr2
          obtain⟨q2,rfl⟩:=w_
          intro r10
          refine iIn (fun h=>nomatch h) (fun _=>?_)
          intro r11
          refine gIn ?_ ?_ fun b' c' hb'=>?_
          · show(ys.length+1)*72≤_;omega
          · exact Nat.le_trans (m:=100000000) (show ys.length+1≤_ by omega) (by decide)
          refine⟨(j2,Dn++[x'],m2,more',(_,b',c'),μ3),⟨by dsimp only;omega,hjl2,by dsimp only;omega,by rw[←hj2];exact hN',by rw[hit,hmore,List.append_assoc];rfl,?_,hle.trans hle2,by simp only[List.length_append,List.length_singleton];omega⟩,by dsimp only;omega,⟨⟨rfl,rfl,rfl,rfl,trivial⟩,⟨rfl,rfl,rfl,trivial⟩,rfl,rfl⟩⟩
          dsimp only
          rw[List.map_append]
          exact(hrows.mono hle2).append (Rows.one hr2 (Gl.d_n _))
        · refine iIn (fun _ => ?_) (fun h10 => absurd (hk3.resolve_left h7 |>.resolve_left h8) (of_decide_eq_false h10))
          · rw [← hd1] at hT
            refine cPl (ih m2 (by omega) (hs.mono hle) hT) fun v2 μ3 hle2 hR2=>?_
            obtain⟨tv2,j2,rfl,hr2,hj2,hij2,hjl2⟩:=hR2
            have w_:=Gl.invV hr2
            obtain⟨q2,rfl⟩:=w_
            intro r10
            refine iIn (fun h=>nomatch h) (fun _=>?_)
            intro r11
            refine gIn ?_ ?_ fun b' c' hb'=>?_
            · show(ys.length+1)*72≤_;omega
            · exact Nat.le_trans (m:=100000000) (show ys.length+1≤_ by omega) (by decide)
            refine⟨(j2,Dn++[x'],m2,more',(_,b',c'),μ3),⟨by dsimp only;omega,hjl2,by dsimp only;omega,by rw[←hj2];exact hN',by rw[hit,hmore,List.append_assoc];rfl,?_,hle.trans hle2,by simp only[List.length_append,List.length_singleton];omega⟩,by dsimp only;omega,⟨⟨rfl,rfl,rfl,rfl,trivial⟩,⟨rfl,rfl,rfl,trivial⟩,rfl,rfl⟩⟩
            dsimp only
            rw[List.map_append]
            exact(hrows.mono hle2).append (Rows.one hr2 (Gl.d_n _))
  · rw [hr] at hrd
    refine bS (fun z:Nat×List T×Nat×List T×(List Value×Option Nat×Nat)×Mem=>i<z.1∧z.1≤L.length∧z.2.2.1≤m∧rdA z.2.2.1 (L.drop z.1)=some (z.2.2.2.1,[41]::rest)∧ts=z.2.1++z.2.2.2.1∧Rows z.2.2.2.2.2 4 ((z.2.1.map T.tm).map Tm.d) z.2.2.2.2.1.1∧μ.Le z.2.2.2.2.2∧z.2.1.length≤z.1)
      (fun(i1,_,_,_,(ys,b,c),μ1)=>⟨[(0,.val (.slice base L.length cap)),(1,.val (.int .i64 i1)),(4,.loc 0 r4 0),(7,.loc 1 r7 0)],
        [(0,some (.cells r4 [.val (.int .i64 0),.val (.string ⟨#[]⟩),.val (.slice none 0 0),.val (.slice none 0 0)] 73)),(1,some (.cells r7 [.val (.int .i64 kk),.val (.string (mkS nm)),.row 2 b ys.length c,.val (.slice none 0 0)] 73)),(2,some (.row b c 57 4 ys))],3,μ1,Mem.nil⟩) (fun z=>L.length-z.1)
      (i+2,[],m,ts,([],none,0),μ1) ⟨by dsimp only;omega,by dsimp only;omega,Nat.le_refl _,hrd,rfl,.nil,hle1,Nat.zero_le _⟩ (fun(_,_,_,_,(_,_,_),_)=>⟨rfl,rfl⟩)
      ⟨⟨⟨_,rfl,.inl rfl⟩,⟨_,rfl,.inl rfl⟩,⟨_,rfl,.inl rfl⟩,⟨_,rfl,.inl rfl⟩,trivial⟩,⟨.inl rfl,.inr (.inr ⟨_,_,_,_,rfl,rfl,.inl rfl,.inl rfl,.inr ⟨2,rfl,rfl,Nat.le_refl _⟩,.inl rfl,trivial⟩),.inr (.inl ⟨_,_,rfl,Nat.le_refl _⟩),trivial⟩,rfl,rfl⟩ ?_
    rintro⟨i1,Dn,m1,more,⟨ys,b,c⟩,μ2⟩ ⟨hi1,hi1l,hm1,hN,hit,hrows,hle,hDl⟩
    dsimp only at hi1 hi1l hm1 hN hit hrows hle hDl
    have hyl:=hrows.len
    rw[List.length_map,List.length_map]at hyl
    have w_:=qNb hN
    obtain⟨t1,rr,m2,rfl,hd1,hcs⟩:=w_
    have w_:=gE hd1
    obtain⟨ht1,hrr,hi1lt⟩:=w_
    have w_:=Nm.tok (hs.mono hle) ht1
    obtain⟨ad1,hel1⟩:=w_
    refine ifd (fun _=>?_) (fun h=>absurd h (by omega))
    refine eIn hel1 ?_
    rcases hcs with⟨hm0,h41,hr1⟩|⟨hn1,x',r',more',hT,hN',hmore⟩
    · subst h41
      refine iIn (fun h=>absurd rfl (nd h)) (fun _=>?_)
      refine aC (by omega) (by omega) ?_
      refine ifd (fun _=>?_) (fun h=>absurd h (by omega))
      refine rFz [2] fun μ4 hle4 hno hat=> .inl ⟨.agg #[.int .i64 kk,.string (mkS nm),.slice (b.map fun r=>⟨r,0,none⟩) ys.length c,.slice none 0 0],i1+1,?_,?_,?_,by omega,by omega⟩
      · show Value.tuple #[_, _, .bool (decide ((1 : Int) < kk))] = _
        rw[decide_eq_true h1k]
        rfl
      · rw [hge, hit, hm0, List.append_nil]
        exact cQ (gs:=[]) (Rows.sl hat (hrows.mono hle4) (Nat.le_trans (m:=1000) (by omega) (by decide))) (Rep.nilSl 4)
      · rw[hr1,hrr]
    · refine iIn (fun _ => ?_) (fun h => absurd (bA (nd' h)) hn1)
      refine ifd (fun h=>absurd h hk7) (fun _=>?_)
      refine ifd (fun h=>absurd h hk8) (fun _=>?_)
      refine iIn (fun h=>absurd (of_decide_eq_true h) hk10) (fun _=>?_)
      rw[←hd1]at hT
      refine cPl (qAr hL hlen m2 (hs.mono hle) hT) fun v2 μ3 hle2 hR2=>?_
      obtain⟨tv2,j2,rfl,hr2,hj2,hij2,hjl2⟩:=hR2
      have w_:=Tm.invV hr2
      obtain⟨q2,rfl⟩:=w_
      intro r10
      refine iIn (fun h=>nomatch h) (fun _=>?_)
      intro r11
      refine gIn ?_ ?_ fun b' c' hb'=>?_
      · show(ys.length+1)*56≤_;omega
      · exact Nat.le_trans (m:=100000000) (show ys.length+1≤_ by omega) (by decide)
      refine⟨(j2,Dn++[x'],m2,more',(_,b',c'),μ3),⟨by dsimp only;omega,hjl2,by dsimp only;omega,by rw[←hj2];exact hN',by rw[hit,hmore,List.append_assoc];rfl,?_,hle.trans hle2,by simp only[List.length_append,List.length_singleton];omega⟩,by dsimp only;omega,⟨⟨rfl,rfl,rfl,rfl,trivial⟩,⟨rfl,rfl,rfl,trivial⟩,rfl,rfl⟩⟩
      dsimp only
      rw[List.map_append,List.map_append]
      exact(hrows.mono hle2).append (Rows.one hr2 (Tm.d_n _))
theorem Sl.mid{μ:Mem}{es n c l h:Nat}{base:Option Addr}{xs:List D}(k:Sl μ es base n xs)(hl:l≤h)(hh:h≤n)(hc:n≤c):Sl μ es (if c=l then base else base.map (·.add (l*es))) (h-l) ((xs.drop l).take (h-l)):=by
 have k1:=k.tailL (i:=l) (c:=c) (by omega) hc
 have k2:=k1.headL (c:=0) (i:=h-l) (by omega)
 rw[if_pos rfl,Nat.sub_zero]at k2
 exact k2
theorem oH:∀(l names:List Bs),(∀t∈l,t.length≤400)→∀t∈(cH l names).1,t.length≤400
 |[],_,_,_,h=>nomatch h
 | x :: r, names, hl, t, h => by
  rw[cH]at h
  split at h
  ·rcases List.mem_cons.1 h with rfl | h
   ·show 2≤400;decide
   ·exact oH r _ (fun y hy=>hl y (List.mem_cons_of_mem _ hy)) t h
  ·rcases List.mem_cons.1 h with rfl | h
   ·exact hl _ (by simp)
   ·exact oH r _ (fun y hy=>hl y (List.mem_cons_of_mem _ hy)) t h
theorem qLu:∀(l:List Bs) (k:Nat),k≤(arF k l).1
 |[],_=>Nat.le_refl _
 |t::r,k=>by
  rw[arF]
  split
  ·have:=qLu r (k+1);omega
  ·exact Nat.le_refl _
theorem qIg:∀(l:List Bs) (k:Nat),(arF k l).2.length≤l.length
 |[],_=>Nat.le_refl _
 |t::r,k=>by
  rw[arF]
  split
  ·have:=qIg r (k+1);rw[List.length_cons];omega
  ·exact Nat.le_refl _
theorem qJn{all:List Bs}{x:Rl}(h:qMm all=some x):qEw all=true∧∃d name rest r2 g z,(cH all []).1=d::[100,101,102,105,110,101]::[40]::name::rest∧(arF 0 rest).1≤8∧(arF 0 rest).2=[41]::r2∧rdG all.length r2=some (g,[z])∧
  x=⟨mkS name,(arF 0 rest).1,((cH all []).2.length:Int)-(arF 0 rest).1,g⟩:=by
 unfold qMm at h
 by_cases hB:qEw all=true
 ·rw [if_pos hB] at h
  refine⟨hB,?_⟩
  split at h
  ·rename_i d0 d o name rest he
   by_cases hc:(d==[100,101,102,105,110,101]&&o==[40]&&decide ((arF 0 rest).1≤8))=true
   ·rw [if_pos hc] at h
    simp only[Bool.and_eq_true,beq_iff_eq,decide_eq_true_eq]at hc
    obtain⟨⟨rfl,rfl⟩,h8⟩:=hc
    split at h
    ·rename_i c r2 he2
     by_cases h41:(c==[41])=true
     ·rw [if_pos h41] at h
      have h41:c=[41]:=by simpa using h41
      subst h41
      split at h
      ·rename_i g z he3
       cases h
       exact⟨d0,name,rest,r2,g,z,he,h8,he2,he3,rfl⟩
      ·cases h
     ·rw[if_neg h41]at h;cases h
    ·cases h
   ·rw[if_neg hc]at h;cases h
  ·cases h
 ·rw[if_neg hB]at h;cases h
set_option maxHeartbeats 1000000 in
theorem iE{μ:Mem}{all:List Bs}{base:Option Addr}{cap:Nat}(hs:Sl μ 1 base all.length ((all.map mkS).map D.s))(hl:all.length≤400)(hlen:∀t∈all,t.length≤400){x:Rl}(h:qMm all=some x):
  Spec Tryz.prog 35 [.slice base all.length cap] μ fun w μ'=>∃tv,w= .tuple #[tv,.bool true]∧RepV μ' x.d tv:=by
 have w_:=qJn h
 obtain⟨hB,d0,name,rest,r2,g,z,hN,h8,har,hrd,hx⟩:=w_
 have hcnt:=qDe hB
 have hLs:=oH all [] hlen
 have hLl:(cH all []).1.length≤400:=by rw[vA];exact hl
 refine Spec.mk Tryz.func35 (by kernel_rfl) ?_
 intro r2_
 refine cPl (uL hs hl hB) fun v1 μ1 hle1 hR1=>?_
 obtain⟨tv1,rfl,hR1⟩:=hR1
 have w_:=NmV.sl hR1
 obtain⟨b1,c1,rfl,hs1⟩:=w_
 generalize hL:(cH all []).1=L at*
 rw[List.length_map]at hs1 ⊢
 have hLlen:L.length=rest.length+4:=by rw[hN];rfl
 have hrl:3≤rest.length:=by
  have h1:=qIg rest 0
  have w_:=qEq hrd
  obtain⟨w,r,m,_,e,_⟩:=w_
  rw[har,e]at h1
  simp only[List.length_cons]at h1
  omega
 have w_:=Nm.tok hs1 (i:=1) (t:=[100,101,102,105,110,101]) (by rw[hN];rfl)
 obtain⟨ad1,hel1⟩:=w_
 have w_:=Nm.tok hs1 (i:=2) (t:=[40]) (by rw[hN];rfl)
 obtain⟨ad2,hel2⟩:=w_
 have w_:=Nm.tok hs1 (i:=3) (t:=name) (by rw[hN];rfl)
 obtain⟨ad3,hel3⟩:=w_
 refine iIn (fun h=>nomatch h) (fun _=>?_)
 refine ifd (fun h=>absurd h (by omega)) (fun _=>?_)
 refine eIn hel1 ?_
 refine iIn (fun h=>absurd rfl (nd h)) (fun _=>?_)
 refine eIn hel2 ?_
 refine iIn (fun h=>absurd rfl (nd h)) (fun _=>?_)
 refine eIn hel3 ?_
 intro r7
 refine lIn (fun k:Nat=>4+k≤L.length∧arF 0 rest=arF k (L.drop (4+k)))
  (fun k => ⟨[(2, .loc 0 r2_ 0), (4, .val (.slice b1 L.length c1)), (5, .val (.int .i64 ((cH all []).2.length : Nat))), (7, .loc 1 r7 0), (8, .val (.int .i64 ((4 + k : Nat) : Int)))],
   [(1,some (.cells r7 [.val (.string (mkS name)),.val (.int .i64 k),.val (.int .i64 0),.val (.int .i64 0),.val (.string ⟨#[]⟩),.val (.slice none 0 0),.val (.slice none 0 0)] 75)),(0,some (.cells r2_ [.val (.string ⟨#[]⟩),.val (.int .i64 0),.val (.int .i64 0),.val (.int .i64 0),.val (.string ⟨#[]⟩),.val (.slice none 0 0),.val (.slice none 0 0)] 75))],2,μ1,Mem.nil⟩) (fun k=>L.length-k)
  0 ⟨by omega,by rw[hN];rfl⟩ (fun _=>⟨rfl,rfl⟩) ⟨⟨rfl,rfl,rfl,rfl,rfl,trivial⟩,⟨rfl,rfl,trivial⟩,rfl,rfl⟩ ?_
 rintro k ⟨hk,hka⟩
 have hlt:4+k<L.length:=by
  rcases Nat.lt_or_ge (4+k) L.length with h|h
  ·exact h
  ·rw [List.drop_eq_nil_of_le h, arF] at hka
   rw[hka]at har;cases har
 have hk8:k≤8:=by
  have:=qLu (L.drop (4+k)) k
  rw[←hka]at this
  omega
 obtain⟨t,ht⟩:∃t,L[4+k]? =some t:=⟨_,List.getElem?_eq_getElem hlt⟩
 have w_:=Nm.tok hs1 ht
 obtain⟨adk,helk⟩:=w_
 rw[bB ht,arF]at hka
 refine ifd (fun _=>?_) (fun h=>absurd h (by omega))
 refine eIn helk ?_
 refine cGv (cI (k:=k) (by omega)) ?_
 refine aD (by show 1+1≤_;decide) ?_
 refine iIn (fun he=>?_) (fun he=>?_)
 ·have he : t = qAt k := bA ((of_decide_eq_true he).trans (bE [63] [_]))
  rw[if_pos (by simpa using he)]at hka
  exact aC (by omega) (by omega) (aC (by omega) (by omega) ⟨k+1,⟨by omega,hka⟩,by omega,⟨⟨rfl,rfl,rfl,rfl,rfl,trivial⟩,⟨rfl,rfl,trivial⟩,rfl,rfl⟩⟩)
 ·have he : t ≠ qAt k := fun e => of_decide_eq_false he ((congrArg mkS e).trans (bE [63] [_]).symm)
  rw[if_neg (by simpa using he)]at hka
  have hk1:(arF 0 rest).1=k:=by rw[hka]
  have e2:t::L.drop (4+k+1)=[41]::r2:=by rw[←har,hka]
  have e3:=List.cons.inj e2
  obtain rfl:=e3.1
  have hr2:r2=L.drop (4+k+1):=e3.2.symm
  refine ifd (fun h=>absurd h (by omega)) (fun _=>?_)
  refine eIn helk ?_
  refine iIn (fun h=>absurd rfl (nd h)) (fun _=>?_)
  refine aC (by omega) (by omega) ?_
  rw[hr2]at hrd
  refine cPl (qAb hLl hLs all.length hs1 hrd) fun v2 μ2 hle2 hR2=>?_
  obtain⟨tv2,j2,rfl,hg,hj2,hij2,hjl2⟩:=hR2
  have w_:=Gl.invV hg
  obtain⟨q2,rfl⟩:=w_
  have hjL:j2+1=L.length:=by
   have:=congrArg List.length hj2
   rw[List.length_drop]at this
   simp only[List.length_cons,List.length_nil]at this
   omega
  intro r9
  refine aC (by omega) (by omega) ?_
  refine iIn (fun _=>?_) (fun h=>nomatch h)
  refine aC (by omega) (by omega) ?_
  refine rPl ⟨.agg #[.string (mkS name),.int .i64 k,.int .i64 (((cH all []).2.length:Nat)-(k:Int)),.int .i64 g.kind,.string g.name,.slice q2.1.1 g.terms.length q2.1.2,.slice q2.2.1 g.goals.length q2.2.2],?_,?_⟩
  ·show Value.tuple #[_, .bool (decide ((j2 : Int) = (L.length : Int) - 1))] = _
   rw[decide_eq_true (by omega)]
  ·rw [hx, Rl.d_eq, hk1]
   have:=hg.cells
   exact⟨_,rfl,RepS.str (RepS.int (RepS.int (RepS.last this)))⟩
theorem qD:∀(n:Nat) (l:Bs),(bZ n l).length≤l.length∧∀t∈bZ n l,t.length≤l.length
 |0,_=>⟨Nat.zero_le _,fun _ h=>nomatch h⟩
 |_+1,[]=>⟨Nat.zero_le _,fun _ h=>nomatch h⟩
 | n + 1, b :: r => by
  have hd:∀p:UInt8→Bool,(r.dropWhile p).length≤r.length:=fun p=>(List.dropWhile_sublist p).length_le
  have ht:∀p:UInt8→Bool,(r.takeWhile p).length≤r.length:=fun p=>(List.takeWhile_sublist p).length_le
  have h1:=qD n r
  rw[bZ]
  split
  ·have h2 := qD n (r.dropWhile fun c => c != 10)
   have h3:=hd fun c=>c !=10
   refine⟨by rw[List.length_cons];omega,fun t h=>?_⟩
   have:=h2.2 t h
   rw[List.length_cons];omega
  ·split
   ·have h2 := qD n (r.dropWhile fun c => !bQ c)
    have h3:=hd fun c=> !bQ c
    have h4:=ht fun c=> !bQ c
    refine⟨by rw[List.length_cons,List.length_cons];omega,fun t h=>?_⟩
    rcases List.mem_cons.1 h with rfl|h
    ·rw[List.length_cons,List.length_cons];omega
    ·have := h2.2 t h
     rw[List.length_cons];omega
   ·split
    ·refine ⟨by rw [List.length_cons, List.length_cons]; omega, fun t h => ?_⟩
     rcases List.mem_cons.1 h with rfl|h
     ·simp only[List.length_cons,List.length_nil];omega
     ·have := h1.2 t h
      rw[List.length_cons];omega
    ·refine ⟨by rw [List.length_cons]; omega, fun t h => ?_⟩
     have:=h1.2 t h
     rw[List.length_cons];omega
theorem qGa{t:Bs}{r cur:List Bs}{d:Int}{l:List Rl}(h:rS (t::r) cur d=some l):(0<cN d t∧rS r (cur++[t]) (cN d t)=some l)∨(¬0<cN d t∧∃x l',qMm (cur++[t])=some x∧rS r [] (cN d t)=some l'∧l=x::l'):=by
 rw[rS]at h
 by_cases hd:0<cN d t
 ·rw[if_pos hd]at h;exact .inl ⟨hd,h⟩
 ·rw [if_neg hd] at h
  refine .inr ⟨hd,?_⟩
  split at h
  ·rename_i x he
   have w_:=Option.map_eq_some_iff.1 h
   obtain⟨l',h1,h2⟩:=w_
   exact⟨x,l',he,h1,h2.symm⟩
  ·cases h
theorem qJf(d:Int)(t:Bs):d-1≤cN d t∧cN d t≤d+1:=by
 unfold cN;split
 ·omega
 ·split<;>omega
theorem qHs{μ:Mem}:RepV μ (Pg.mk []).d (.agg #[.slice none 0 0]):=⟨_,rfl,RepS.last (Rep.nilSl 7)⟩
set_option maxHeartbeats 2000000 in
theorem pM{μ:Mem}{s:Bs}{p:Pg}(h:qFs s=some p)(hl:s.length≤400)(hb:∀b∈s,b.toNat≠59∧(b.toNat=10∨(32≤b.toNat∧b.toNat≤126)))(hw:p.d.wd):
  Spec Tryz.prog 12 [.string (mkS s)] μ fun w μ'=>∃(q:Pg) (tv:Value) (b:Bool),w= .tuple #[tv,.bool b]∧RepV μ' q.d tv∧(b=true→q=p∧p.Ok):=by
 have w_:=Option.map_eq_some_iff.1 h
 obtain⟨rels,hrels,rfl⟩:=w_
 refine Spec.mk Tryz.func12 (by kernel_rfl) ?_
 intro r2
 refine cPl (qDu hl hb) fun v1 μ1 hle1 hR1=>?_
 obtain⟨tv1,rfl,hR1⟩:=hR1
 have htl:=qD s.length s
 generalize hLe:bZ s.length s=L at*
 have w_:=Rep.slC hR1
 obtain⟨tb,tc,rfl,hs,hcap⟩:=w_
 rw[List.length_map,List.length_map]at hs hcap ⊢
 have hLl:L.length≤400:=by omega
 have hLs:∀t∈L,t.length≤400:=fun t ht=>by have:=htl.2 t ht;omega
 refine iIn (fun h=>nomatch h) (fun _=>?_)
 intro r6
 refine bS (fun z:Nat×Nat×Int×List Rl×List Rl×(List Value×Option Nat×Nat)×Mem=>z.1≤L.length∧z.2.1≤z.1∧ -(z.1:Int)≤z.2.2.1∧z.2.2.1≤z.1∧rS (L.drop z.1) ((L.drop z.2.1).take (z.1-z.2.1)) z.2.2.1=some z.2.2.2.2.1∧rels=z.2.2.2.1++z.2.2.2.2.1∧Rows z.2.2.2.2.2.2 7 (z.2.2.2.1.map Rl.d) z.2.2.2.2.2.1.1∧μ1.Le z.2.2.2.2.2.2∧z.2.2.2.1.length≤z.1)
  (fun (i, from_, d, _, _, (ys, b, c), μ2) => ⟨[(2, .loc 0 r2 0), (4, .val (.slice tb L.length tc)), (6, .loc 1 r6 0), (7, .val (.int .i64 from_)), (8, .val (.int .i64 d)), (22, .val (.slice tb L.length tc)), (23, .val (.int .i64 L.length)), (24, .val (.int .i64 i))],
   [(0,some (.cells r2 [.val (.slice none 0 0)] 25)),(1,some (.cells r6 [.row 2 b ys.length c] 25)),(2,some (.row b c 75 7 ys))],3,μ2,Mem.nil⟩) (fun z=>L.length-z.1)
  (0,0,0,[],rels,([],none,0),μ1) ⟨Nat.zero_le _,Nat.zero_le _,Int.le_refl 0,Int.le_refl 0,hrels,rfl,.nil,Mem.Le.refl _,Nat.zero_le _⟩ (fun(_,_,_,_,_,(_,_,_),_)=>⟨rfl,rfl⟩)
  ⟨⟨⟨_,rfl,.inl rfl⟩,⟨_,rfl,.inl rfl⟩,⟨_,rfl,.inl rfl⟩,⟨_,rfl,.inl rfl⟩,⟨_,rfl,.inl rfl⟩,⟨_,rfl,.inl rfl⟩,⟨_,rfl,.inl rfl⟩,⟨_,rfl,.inl rfl⟩,trivial⟩,⟨.inl rfl,.inr (.inr ⟨_,_,_,_,rfl,rfl,.inr ⟨2,rfl,rfl,Nat.le_refl _⟩,trivial⟩),.inr (.inl ⟨_,_,rfl,Nat.le_refl _⟩),trivial⟩,rfl,rfl⟩ ?_
 rintro⟨i,from_,d,done,more,⟨ys,b,c⟩,μ2⟩ ⟨hi,hf,hd1,hd2,hD,hrl,hrows,hle,hdl⟩
 dsimp only at hi hf hd1 hd2 hD hrl hrows hle hdl
 have hyl:=hrows.len
 rw[List.length_map]at hyl
 refine ifd (fun hlt=>?_) (fun hlt=>?_)
 ·obtain ⟨t, ht⟩ : ∃ t, L[i]? = some t := ⟨_, List.getElem?_eq_getElem (by omega)⟩
  have w_:=Nm.tok (hs.mono hle) ht
  obtain⟨ad,hel⟩:=w_
  rw[bB ht]at hD
  have hst:=qGa hD
  have hdle:=qJf d t
  refine eIn hel ?_
  refine ifd (fun h40=>?_) (fun h40=>?_)
  ·have h40 : t = [40] := bA h40
   have hdd:cN d t=d+1:=by rw[h40];rfl
   refine aC (by omega) (by omega) ?_
   refine ifd (fun h41=>absurd (bA (b:=[41]) h41) (by rw[h40];decide)) (fun _=>?_)
   refine iIn (fun hpos=>?_) (fun hpos=>?_)
   ·have hpos := of_decide_eq_true hpos
    rcases hst with⟨_,hnext⟩|⟨hneg,_⟩
    ·refine aC (by omega) (by omega) ⟨(i + 1, from_, cN d t, done, more, (ys, b, c), μ2), ⟨by dsimp only; omega, by dsimp only; omega, by dsimp only; omega, by dsimp only; omega, ?_, hrl, hrows, hle, by dsimp only; omega⟩, by dsimp only; omega, ⟨⟨rfl, rfl, rfl, rfl, (by rw [hdd]; rfl), rfl, rfl, rfl, trivial⟩, ⟨rfl, rfl, rfl, trivial⟩, rfl, rfl⟩⟩
     dsimp only
     rw[show i+1-from_=(i-from_)+1 from by omega,List.take_add_one,List.getElem?_drop,show from_+(i-from_)=i from by omega,ht]
     exact hnext
    ·exact absurd (by rw[hdd];exact hpos) hneg
   ·have hpos := of_decide_eq_false hpos
    rcases hst with⟨hp,_⟩|⟨_,x,l',hdef,hnext,hmore⟩
    ·exact absurd (by rw[←hdd];exact hp) hpos
    ·have hcur : (L.drop from_).take (i - from_) ++ [t] = (L.drop from_).take (i + 1 - from_) := by
      rw[show i+1-from_=(i-from_)+1 from by omega,List.take_add_one,List.getElem?_drop,show from_+(i-from_)=i from by omega,ht]
      rfl
     rw[hcur]at hdef
     have hclen:((L.drop from_).take (i+1-from_)).length=i+1-from_:=by
      rw[List.length_take,List.length_drop];omega
     have hmid:=(hs.mono hle).mid (c:=tc) (l:=from_) (h:=i+1) (by omega) (by omega) hcap
     have hmid':Sl μ2 1 (if tc=from_ then tb else tb.map (·.add (from_*1))) ((L.drop from_).take (i+1-from_)).length ((((L.drop from_).take (i+1-from_)).map mkS).map D.s):=by
      rw[hclen,List.map_take,List.map_take,List.map_drop,List.map_drop]
      exact hmid
     have hdefS:=iE (cap:=tc-from_) hmid' (by omega) (fun t ht=>hLs t (List.mem_of_mem_drop (List.mem_of_mem_take ht))) hdef
     rw[hclen]at hdefS
     refine aC (by omega) (by omega) ?_
     refine aE from_ (i+1) rfl rfl (by omega) (by omega) ?_
     refine cPl hdefS fun v3 μ3 hle3 hR3=>?_
     obtain⟨tv3,rfl,hrx⟩:=hR3
     have w_:=Rl.invV hrx
     obtain⟨q3,rfl⟩:=w_
     intro r11
     refine iIn (fun h=>nomatch h) (fun _=>?_)
     intro r12
     refine gIn ?_ ?_ fun b' c' hb'=>?_
     ·show(ys.length+1)*104≤_;omega
     ·exact Nat.le_trans (m:=100000000) (show ys.length+1≤_ by omega) (by decide)
     refine aC (by omega) (by omega) (aC (by omega) (by omega) ⟨(i+1,i+1,cN d t,done++[x],l',(_,b',c'),μ3),⟨by dsimp only;omega,by dsimp only;omega,by dsimp only;omega,by dsimp only;omega,?_,?_,?_,hle.trans hle3,by simp only[List.length_append,List.length_singleton];omega⟩,by dsimp only;omega,⟨⟨rfl,rfl,rfl,rfl,(by rw[hdd];rfl),rfl,rfl,rfl,trivial⟩,⟨rfl,rfl,rfl,trivial⟩,rfl,rfl⟩⟩)
     ·dsimp only
      rw[Nat.sub_self,List.take_zero]
      exact hnext
     ·dsimp only
      rw[hrl,hmore,List.append_assoc];rfl
     ·dsimp only
      rw[List.map_append]
      exact(hrows.mono hle3).append (Rows.one hrx (Rl.d_n _))
  ·have h40 : t ≠ [40] := fun e => h40 (congrArg mkS e)
   refine ifd (fun h41=>?_) (fun h41=>?_)
   ·have h41 : t = [41] := bA h41
    have hdd:cN d t=d-1:=by rw[h41];rfl
    refine aC (by omega) (by omega) ?_
    refine iIn (fun hpos=>?_) (fun hpos=>?_)
    ·have hpos := of_decide_eq_true hpos
     rcases hst with⟨_,hnext⟩|⟨hneg,_⟩
     ·refine aC (by omega) (by omega) ⟨(i + 1, from_, cN d t, done, more, (ys, b, c), μ2), ⟨by dsimp only; omega, by dsimp only; omega, by dsimp only; omega, by dsimp only; omega, ?_, hrl, hrows, hle, by dsimp only; omega⟩, by dsimp only; omega, ⟨⟨rfl, rfl, rfl, rfl, (by rw [hdd]; rfl), rfl, rfl, rfl, trivial⟩, ⟨rfl, rfl, rfl, trivial⟩, rfl, rfl⟩⟩
      dsimp only
      rw[show i+1-from_=(i-from_)+1 from by omega,List.take_add_one,List.getElem?_drop,show from_+(i-from_)=i from by omega,ht]
      exact hnext
     ·exact absurd (by rw[hdd];exact hpos) hneg
    ·have hpos := of_decide_eq_false hpos
     rcases hst with⟨hp,_⟩|⟨_,x,l',hdef,hnext,hmore⟩
     ·exact absurd (by rw[←hdd];exact hp) hpos
     ·have hcur : (L.drop from_).take (i - from_) ++ [t] = (L.drop from_).take (i + 1 - from_) := by
       rw[show i+1-from_=(i-from_)+1 from by omega,List.take_add_one,List.getElem?_drop,show from_+(i-from_)=i from by omega,ht]
       rfl
      rw[hcur]at hdef
      have hclen:((L.drop from_).take (i+1-from_)).length=i+1-from_:=by
       rw[List.length_take,List.length_drop];omega
      have hmid:=(hs.mono hle).mid (c:=tc) (l:=from_) (h:=i+1) (by omega) (by omega) hcap
      have hmid':Sl μ2 1 (if tc=from_ then tb else tb.map (·.add (from_*1))) ((L.drop from_).take (i+1-from_)).length ((((L.drop from_).take (i+1-from_)).map mkS).map D.s):=by
       rw[hclen,List.map_take,List.map_take,List.map_drop,List.map_drop]
       exact hmid
      have hdefS:=iE (cap:=tc-from_) hmid' (by omega) (fun t ht=>hLs t (List.mem_of_mem_drop (List.mem_of_mem_take ht))) hdef
      rw[hclen]at hdefS
      refine aC (by omega) (by omega) ?_
      refine aE from_ (i+1) rfl rfl (by omega) (by omega) ?_
      refine cPl hdefS fun v3 μ3 hle3 hR3=>?_
      obtain⟨tv3,rfl,hrx⟩:=hR3
      have w_:=Rl.invV hrx
      obtain⟨q3,rfl⟩:=w_
      intro r11
      refine iIn (fun h=>nomatch h) (fun _=>?_)
      intro r12
      refine gIn ?_ ?_ fun b' c' hb'=>?_
      ·show(ys.length+1)*104≤_;omega
      ·exact Nat.le_trans (m:=100000000) (show ys.length+1≤_ by omega) (by decide)
      refine aC (by omega) (by omega) (aC (by omega) (by omega) ⟨(i+1,i+1,cN d t,done++[x],l',(_,b',c'),μ3),⟨by dsimp only;omega,by dsimp only;omega,by dsimp only;omega,by dsimp only;omega,?_,?_,?_,hle.trans hle3,by simp only[List.length_append,List.length_singleton];omega⟩,by dsimp only;omega,⟨⟨rfl,rfl,rfl,rfl,(by rw[hdd];rfl),rfl,rfl,rfl,trivial⟩,⟨rfl,rfl,rfl,trivial⟩,rfl,rfl⟩⟩)
      ·dsimp only
       rw[Nat.sub_self,List.take_zero]
       exact hnext
      ·dsimp only
       rw[hrl,hmore,List.append_assoc];rfl
      ·dsimp only
       rw[List.map_append]
       exact(hrows.mono hle3).append (Rows.one hrx (Rl.d_n _))
   ·have h41 : t ≠ [41] := fun e => h41 (congrArg mkS e)
    have hdd:cN d t=d:=by rw[cN,if_neg (by simpa using h40),if_neg (by simpa using h41)]
    refine iIn (fun hpos=>?_) (fun hpos=>?_)
    ·have hpos := of_decide_eq_true hpos
     rcases hst with⟨_,hnext⟩|⟨hneg,_⟩
     ·refine aC (by omega) (by omega) ⟨(i + 1, from_, cN d t, done, more, (ys, b, c), μ2), ⟨by dsimp only; omega, by dsimp only; omega, by dsimp only; omega, by dsimp only; omega, ?_, hrl, hrows, hle, by dsimp only; omega⟩, by dsimp only; omega, ⟨⟨rfl, rfl, rfl, rfl, (by rw [hdd]; rfl), rfl, rfl, rfl, trivial⟩, ⟨rfl, rfl, rfl, trivial⟩, rfl, rfl⟩⟩
      dsimp only
      rw[show i+1-from_=(i-from_)+1 from by omega,List.take_add_one,List.getElem?_drop,show from_+(i-from_)=i from by omega,ht]
      exact hnext
     ·exact absurd (by rw[hdd];exact hpos) hneg
    ·have hpos := of_decide_eq_false hpos
     rcases hst with⟨hp,_⟩|⟨_,x,l',hdef,hnext,hmore⟩
     ·exact absurd (by rw[←hdd];exact hp) hpos
     ·have hcur : (L.drop from_).take (i - from_) ++ [t] = (L.drop from_).take (i + 1 - from_) := by
       rw[show i+1-from_=(i-from_)+1 from by omega,List.take_add_one,List.getElem?_drop,show from_+(i-from_)=i from by omega,ht]
       rfl
      rw[hcur]at hdef
      have hclen:((L.drop from_).take (i+1-from_)).length=i+1-from_:=by
       rw[List.length_take,List.length_drop];omega
      have hmid:=(hs.mono hle).mid (c:=tc) (l:=from_) (h:=i+1) (by omega) (by omega) hcap
      have hmid':Sl μ2 1 (if tc=from_ then tb else tb.map (·.add (from_*1))) ((L.drop from_).take (i+1-from_)).length ((((L.drop from_).take (i+1-from_)).map mkS).map D.s):=by
       rw[hclen,List.map_take,List.map_take,List.map_drop,List.map_drop]
       exact hmid
      have hdefS:=iE (cap:=tc-from_) hmid' (by omega) (fun t ht=>hLs t (List.mem_of_mem_drop (List.mem_of_mem_take ht))) hdef
      rw[hclen]at hdefS
      refine aC (by omega) (by omega) ?_
      refine aE from_ (i+1) rfl rfl (by omega) (by omega) ?_
      refine cPl hdefS fun v3 μ3 hle3 hR3=>?_
      obtain⟨tv3,rfl,hrx⟩:=hR3
      have w_:=Rl.invV hrx
      obtain⟨q3,rfl⟩:=w_
      intro r11
      refine iIn (fun h=>nomatch h) (fun _=>?_)
      intro r12
      refine gIn ?_ ?_ fun b' c' hb'=>?_
      ·show(ys.length+1)*104≤_;omega
      ·exact Nat.le_trans (m:=100000000) (show ys.length+1≤_ by omega) (by decide)
      refine aC (by omega) (by omega) (aC (by omega) (by omega) ⟨(i+1,i+1,cN d t,done++[x],l',(_,b',c'),μ3),⟨by dsimp only;omega,by dsimp only;omega,by dsimp only;omega,by dsimp only;omega,?_,?_,?_,hle.trans hle3,by simp only[List.length_append,List.length_singleton];omega⟩,by dsimp only;omega,⟨⟨rfl,rfl,rfl,rfl,(by rw[hdd];rfl),rfl,rfl,rfl,trivial⟩,⟨rfl,rfl,rfl,trivial⟩,rfl,rfl⟩⟩)
      ·dsimp only
       rw[Nat.sub_self,List.take_zero]
       exact hnext
      ·dsimp only
       rw[hrl,hmore,List.append_assoc];rfl
      ·dsimp only
       rw[List.map_append]
       exact(hrows.mono hle3).append (Rows.one hrx (Rl.d_n _))
 ·obtain rfl : i = L.length := by omega
  have hmore:more=[]:=by
   rw[List.drop_length]at hD
   generalize (L.drop from_).take (L.length-from_)=cur at hD
   cases cur with
   |nil=>cases hD;rfl
   |cons a b=>cases hD
  rw[hmore,List.append_nil]at hrl
  refine iIn (fun hd0=>?_) (fun hd0=>?_)
  ·exact rPl ⟨⟨[]⟩,_,false,rfl,qHs,fun h=>nomatch h⟩
  ·refine bF [2] fun μ4 hle4 hno4 hat4 => ?_
   have hrep:RepV μ4 (Pg.mk rels).d (.agg #[.slice (b.map fun r=>⟨r,0,none⟩) ys.length c]):=by
    rw[hrl]
    exact⟨_,rfl,RepS.last (Rows.sl hat4 (hrows.mono hle4) (Nat.le_trans (m:=1000) (by omega) (by decide)))⟩
   refine cE (bP hrep hw) fun v5 μ5 hle5 hR5=>?_
   have hR5:v5= .bool (decide (Pg.mk rels).Ok):=hR5
   subst hR5
   refine iIn (fun hok=>?_) (fun hok=>?_)
   ·exact rPl ⟨⟨[]⟩,_,false,rfl,qHs,fun h=>nomatch h⟩
   ·exact rPl ⟨⟨rels⟩,_,true,rfl,hrep.mono hle5,fun _=>⟨rfl,nd' hok⟩⟩
end Go.Vx
namespace Go.Vx
open Go.Proofs Classical
mutual
def D.wdB:D→Bool
 | .i n=>decide (-9223372036854775808≤n∧n≤9223372036854775807)
 | .b _=>true
 | .s x=>decide (x.size≤1000)
 | .st fs=>D.wdsB fs
 | .sl _ xs=>D.wdsB xs
def D.wdsB:List D→Bool
 |[]=>true
 |d::r=>d.wdB&&D.wdsB r
end
mutual
theorem D.wd_ofB:∀d:D,d.wdB=true→d.wd
 | .i n,h=>by
  have:=of_decide_eq_true h
  show InR n
  unfold InR
  omega
 | .b _,_=>trivial
 | .s x,h=>Nat.le_trans (of_decide_eq_true h) (by decide)
 | .st fs,h=>D.wds_ofB fs h
 | .sl _ xs,h=>D.wds_ofB xs h
theorem D.wds_ofB:∀l:List D,D.wdsB l=true→D.wds l
 |[],_=>trivial
 |d::r,h=>by
  rw[D.wdsB,Bool.and_eq_true]at h
  exact⟨D.wd_ofB d h.1,D.wds_ofB r h.2⟩
end
def qKq(s:Bs):Bool:=decide (s.length≤400)&&s.all (fun b=>decide (b.toNat≠59∧(b.toNat=10∨(32≤b.toNat∧b.toNat≤126))))&&(match qFs s with
 |some p=>p.d.wdB&&mR 3 p&&mR 2 p&& !p.rels.isEmpty&&p.rels.all (fun r=>decide (1≤r.arity))&&decide (p.rels.length≤7)&&qIb p&&p.rels.all (fun r=>decide (r.name.data.toList≠[115,112,101,99,105,97,108])&&r.body.all.all fun x=>x.terms.all fun s=>decide (s.cnt≤500))
 |none=>false)
structure LibOk (s:Bs) (p:Pg):Prop where
 parse:qFs s=some p
 len:s.length≤400
 bytes:∀b∈s,b.toNat≠59∧(b.toNat=10∨(32≤b.toNat∧b.toNat≤126))
 wd:p.d.wd
 small3:mR 3 p=true
 small2:mR 2 p=true
 ne:p.rels≠[]
 ar:∀r∈p.rels,1≤r.arity
 seven:p.rels.length≤7
 room:qIb p=true
 more:∀r∈p.rels,r.name≠qLa∧∀x∈r.body.all,∀s∈x.terms,s.cnt≤500
theorem pA{s:Bs}(h:qKq s=true):∃p,LibOk s p:=by
 unfold qKq at h
 rw[Bool.and_eq_true,Bool.and_eq_true,List.all_eq_true]at h
 obtain⟨⟨h1,h2⟩,h3⟩:=h
 split at h3
 ·rename_i p hp
  simp only[Bool.and_eq_true]at h3
  obtain⟨⟨⟨⟨⟨⟨⟨h4,h5⟩,h6⟩,h7⟩,h8⟩,h9⟩,h15⟩,h10⟩:=h3
  refine⟨p,hp,of_decide_eq_true h1,fun b hb=>of_decide_eq_true (h2 b hb),D.wd_ofB _ h4,h5,h6,fun e=>?_,fun r hr=>of_decide_eq_true (List.all_eq_true.1 h8 r hr),of_decide_eq_true h9,h15,fun r hr=>?_⟩
  ·rw [e] at h7
   cases h7
  ·have h11 := List.all_eq_true.1 h10 r hr
   simp only[Bool.and_eq_true]at h11
   obtain⟨h12,h14⟩:=h11
   exact⟨fun e=>of_decide_eq_true h12 (by rw[e];rfl),fun x hx s hs=>of_decide_eq_true (List.all_eq_true.1 (List.all_eq_true.1 h14 x hx) s hs)⟩
 ·cases h3
def qEy:Bs:=[108,105,115,116,115]
def yT:Bs:=[40,100,101,102,105,110,101,32,40,97,112,112,101,110,100,32,63,97,32,63,98,32,63,99,41,32,40,111,114,32,40,97,110,100,32,40,61,32,63,97,32,40,41,41,32,40,61,32,63,98,32,63,99,41,41,32,40,97,110,100,32,40,61,32,63,97,32,40,63,120,32,46,32,63,121,41,41,32,40,61,32,63,99,32,40,63,120,32,46,32,63,122,41,41,32,40,97,112,112,101,110,100,32,63,121,32,63,98,32,63,122,41,41,41,41]
def qAa:Bs:=[40,100,101,102,105,110,101,32,40,109,101,109,98,101,114,32,63,120,32,63,108,41,32,40,111,114,32,40,61,32,63,108,32,40,63,120,32,46,32,63,114,41,41,32,40,97,110,100,32,40,61,32,63,108,32,40,63,121,32,46,32,63,114,41,41,32,40,109,101,109,98,101,114,32,63,120,32,63,114,41,41,41,41]
def lib0:Bs:=yT++[10]++(qAa++[10])
theorem lib0_ok:qKq lib0=true:=by decide+kernel
def qHw:Bs:=[103,114,97,112,104]
def yU:Bs:=[40,100,101,102,105,110,101,32,40,101,100,103,101,32,63,97,32,63,98,41,32,40,111,114,32,40,97,110,100,32,40,61,32,63,97,32,97,41,32,40,61,32,63,98,32,98,41,41,32,40,97,110,100,32,40,61,32,63,97,32,98,41,32,40,61,32,63,98,32,99,41,41,32,40,97,110,100,32,40,61,32,63,97,32,99,41,32,40,61,32,63,98,32,97,41,41,41,41]
def xU:Bs:=[40,100,101,102,105,110,101,32,40,112,97,116,104,32,63,97,32,63,98,41,32,40,111,114,32,40,101,100,103,101,32,63,97,32,63,98,41,32,40,97,110,100,32,40,112,97,116,104,32,63,97,32,63,99,41,32,40,101,100,103,101,32,63,99,32,63,98,41,41,41,41]
def lib1:Bs:=yU++[10]++(xU++[10])
theorem lib1_ok:qKq lib1=true:=by decide+kernel
def qLk:Bs:=[115,101,116,115]
def zK:Bs:=[40,100,101,102,105,110,101,32,40,111,117,116,115,105,100,101,32,63,120,32,63,108,41,32,40,111,114,32,40,61,32,63,108,32,40,41,41,32,40,97,110,100,32,40,61,32,63,108,32,40,63,121,32,46,32,63,114,41,41,32,40,47,61,32,63,120,32,63,121,41,32,40,111,117,116,115,105,100,101,32,63,120,32,63,114,41,41,41,41]
def zR:Bs:=[40,100,101,102,105,110,101,32,40,100,105,115,116,105,110,99,116,32,63,108,41,32,40,111,114,32,40,61,32,63,108,32,40,41,41,32,40,97,110,100,32,40,61,32,63,108,32,40,63,120,32,46,32,63,114,41,41,32,40,111,117,116,115,105,100,101,32,63,120,32,63,114,41,32,40,100,105,115,116,105,110,99,116,32,63,114,41,41,41,41]
def lib2:Bs:=zK++[10]++(zR++[10])
theorem lib2_ok:qKq lib2=true:=by decide+kernel
def libN3:Bs:=[103,97,109,101,115]
def zS:Bs:=[40,100,101,102,105,110,101,32,40,109,111,118,101,32,63,97,32,63,98,41,32,40,111,114,32,40,97,110,100,32,40,61,32,63,97,32,97,41,32,40,61,32,63,98,32,98,41,41,32,40,97,110,100,32,40,61,32,63,97,32,98,41,32,40,61,32,63,98,32,97,41,41,32,40,97,110,100,32,40,61,32,63,97,32,98,41,32,40,61,32,63,98,32,99,41,41,41,41]
def zT:Bs:=[40,100,101,102,105,110,101,32,40,119,105,110,32,63,97,41,32,40,97,110,100,32,40,109,111,118,101,32,63,97,32,63,98,41,32,40,110,111,116,32,40,119,105,110,32,63,98,41,41,41,41]
def lib3:Bs:=zS++[10]++(zT++[10])
theorem lib3_ok:qKq lib3=true:=by decide+kernel
def libNames:List Bs:=[qEy,qHw,qLk,libN3]
section
variable {μ:Mem}
theorem nM(a b:Bs)(i:Nat):([a,b].take i).flatMap (·++[10])=if i=0 then []else if i=1 then a++[10]else a++[10]++(b++[10]):=by
 match i with
 |0=>rfl
 |1=>simp
 |i+2=>simp
set_option maxRecDepth 20000 in
theorem xR:aQ Tryz.prog 13 [.string (mkS qEy)] μ (.string (mkS lib0)):=by
 refine Spec.mk Tryz.func13 (by kernel_rfl) ?_
 intro r0
 refine ifd (fun _=>?_) (fun h=>absurd rfl h)
 intro r1
 refine lIn (fun i:Nat=>i≤2) (fun i=>⟨[(4,.val (.string (mkS (([yT,qAa].take i).flatMap (·++[10]))))),(21,.row 1 (some r1) 2 2),(22,.val (.int .i64 2)),(23,.val (.int .i64 i))],[(1,some (.row (some r1) 2 9 1 [.string (mkS yT),.string (mkS qAa)]))],2,μ,Mem.nil⟩) (fun i=>2-i)
  0 (by omega) (fun _=>⟨rfl,rfl⟩) ⟨⟨rfl,rfl,rfl,rfl,trivial⟩,⟨rfl,trivial⟩,rfl,rfl⟩ ?_
 intro i hi
 refine ifd (fun hlt=>?_) (fun hlt=>?_)
 ·have w_ : i = 0 ∨ i = 1 := by omega
  rcases w_ with rfl|rfl
  ·refine bK 0 rfl (by decide) (bL (.string (mkS yT)) rfl ?_)
   refine aD (by decide+kernel) ?_
   intro r2
   refine bW [10] rfl ?_
   refine aD (by decide+kernel) ?_
   refine aC (by decide) (by decide) ⟨1,by decide,by decide,⟨⟨?_,rfl,rfl,rfl,trivial⟩,⟨rfl,trivial⟩,rfl,rfl⟩⟩
   exact congrArg (fun s=>some (SV.val (.string s))) (show mkS []++mkS yT++mkS [10]=_ by rw[bE,bE,nM];rfl)
  ·refine bK 1 rfl (by decide) (bL (.string (mkS qAa)) rfl ?_)
   refine aD (by decide+kernel) ?_
   intro r2
   refine bW [10] rfl ?_
   refine aD (by decide+kernel) ?_
   refine aC (by decide) (by decide) ⟨2,by decide,by decide,⟨⟨?_,rfl,rfl,rfl,trivial⟩,⟨rfl,trivial⟩,rfl,rfl⟩⟩
   exact congrArg (fun s=>some (SV.val (.string s))) (show mkS (([yT,qAa].take 1).flatMap (·++[10]))++mkS qAa++mkS [10]=_ by rw[bE,bE,nM,nM];simp)
 ·obtain rfl : i = 2 := by omega
  exact rGv (congrArg (fun s=>Value.string (mkS s)) (nM _ _ 2)) rfl
set_option maxRecDepth 20000 in
theorem wT:aQ Tryz.prog 13 [.string (mkS qHw)] μ (.string (mkS lib1)):=by
 refine Spec.mk Tryz.func13 (by kernel_rfl) ?_
 intro r0
 refine ifd (fun h=>absurd (bA (b:=qEy) h) (by decide)) (fun _=>?_)
 refine ifd (fun _=>?_) (fun h=>absurd rfl h)
 intro r1
 refine lIn (fun i:Nat=>i≤2) (fun i=>⟨[(4,.val (.string (mkS (([yU,xU].take i).flatMap (·++[10]))))),(21,.row 1 (some r1) 2 2),(22,.val (.int .i64 2)),(23,.val (.int .i64 i))],[(1,some (.row (some r1) 2 9 1 [.string (mkS yU),.string (mkS xU)]))],2,μ,Mem.nil⟩) (fun i=>2-i)
  0 (by omega) (fun _=>⟨rfl,rfl⟩) ⟨⟨rfl,rfl,rfl,rfl,trivial⟩,⟨rfl,trivial⟩,rfl,rfl⟩ ?_
 intro i hi
 refine ifd (fun hlt=>?_) (fun hlt=>?_)
 ·have w_ : i = 0 ∨ i = 1 := by omega
  rcases w_ with rfl|rfl
  ·refine bK 0 rfl (by decide) (bL (.string (mkS yU)) rfl ?_)
   refine aD (by decide+kernel) ?_
   intro r2
   refine bW [10] rfl ?_
   refine aD (by decide+kernel) ?_
   refine aC (by decide) (by decide) ⟨1,by decide,by decide,⟨⟨?_,rfl,rfl,rfl,trivial⟩,⟨rfl,trivial⟩,rfl,rfl⟩⟩
   exact congrArg (fun s=>some (SV.val (.string s))) (show mkS []++mkS yU++mkS [10]=_ by rw[bE,bE,nM];rfl)
  ·refine bK 1 rfl (by decide) (bL (.string (mkS xU)) rfl ?_)
   refine aD (by decide+kernel) ?_
   intro r2
   refine bW [10] rfl ?_
   refine aD (by decide+kernel) ?_
   refine aC (by decide) (by decide) ⟨2,by decide,by decide,⟨⟨?_,rfl,rfl,rfl,trivial⟩,⟨rfl,trivial⟩,rfl,rfl⟩⟩
   exact congrArg (fun s=>some (SV.val (.string s))) (show mkS (([yU,xU].take 1).flatMap (·++[10]))++mkS xU++mkS [10]=_ by rw[bE,bE,nM,nM];simp)
 ·obtain rfl : i = 2 := by omega
  exact rGv (congrArg (fun s=>Value.string (mkS s)) (nM _ _ 2)) rfl
set_option maxRecDepth 20000 in
theorem wS:aQ Tryz.prog 13 [.string (mkS qLk)] μ (.string (mkS lib2)):=by
 refine Spec.mk Tryz.func13 (by kernel_rfl) ?_
 intro r0
 refine ifd (fun h=>absurd (bA (b:=qEy) h) (by decide)) (fun _=>?_)
 refine ifd (fun h=>absurd (bA (b:=qHw) h) (by decide)) (fun _=>?_)
 refine ifd (fun _=>?_) (fun h=>absurd rfl h)
 intro r1
 refine lIn (fun i:Nat=>i≤2) (fun i=>⟨[(4,.val (.string (mkS (([zK,zR].take i).flatMap (·++[10]))))),(21,.row 1 (some r1) 2 2),(22,.val (.int .i64 2)),(23,.val (.int .i64 i))],[(1,some (.row (some r1) 2 9 1 [.string (mkS zK),.string (mkS zR)]))],2,μ,Mem.nil⟩) (fun i=>2-i)
  0 (by omega) (fun _=>⟨rfl,rfl⟩) ⟨⟨rfl,rfl,rfl,rfl,trivial⟩,⟨rfl,trivial⟩,rfl,rfl⟩ ?_
 intro i hi
 refine ifd (fun hlt=>?_) (fun hlt=>?_)
 ·have w_ : i = 0 ∨ i = 1 := by omega
  rcases w_ with rfl|rfl
  ·refine bK 0 rfl (by decide) (bL (.string (mkS zK)) rfl ?_)
   refine aD (by decide+kernel) ?_
   intro r2
   refine bW [10] rfl ?_
   refine aD (by decide+kernel) ?_
   refine aC (by decide) (by decide) ⟨1,by decide,by decide,⟨⟨?_,rfl,rfl,rfl,trivial⟩,⟨rfl,trivial⟩,rfl,rfl⟩⟩
   exact congrArg (fun s=>some (SV.val (.string s))) (show mkS []++mkS zK++mkS [10]=_ by rw[bE,bE,nM];rfl)
  ·refine bK 1 rfl (by decide) (bL (.string (mkS zR)) rfl ?_)
   refine aD (by decide+kernel) ?_
   intro r2
   refine bW [10] rfl ?_
   refine aD (by decide+kernel) ?_
   refine aC (by decide) (by decide) ⟨2,by decide,by decide,⟨⟨?_,rfl,rfl,rfl,trivial⟩,⟨rfl,trivial⟩,rfl,rfl⟩⟩
   exact congrArg (fun s=>some (SV.val (.string s))) (show mkS (([zK,zR].take 1).flatMap (·++[10]))++mkS zR++mkS [10]=_ by rw[bE,bE,nM,nM];simp)
 ·obtain rfl : i = 2 := by omega
  exact rGv (congrArg (fun s=>Value.string (mkS s)) (nM _ _ 2)) rfl
set_option maxRecDepth 20000 in
theorem wX:aQ Tryz.prog 13 [.string (mkS libN3)] μ (.string (mkS lib3)):=by
 refine Spec.mk Tryz.func13 (by kernel_rfl) ?_
 intro r0
 refine ifd (fun h=>absurd (bA (b:=qEy) h) (by decide)) (fun _=>?_)
 refine ifd (fun h=>absurd (bA (b:=qHw) h) (by decide)) (fun _=>?_)
 refine ifd (fun h=>absurd (bA (b:=qLk) h) (by decide)) (fun _=>?_)
 refine ifd (fun _=>?_) (fun h=>absurd rfl h)
 intro r1
 refine lIn (fun i:Nat=>i≤2) (fun i=>⟨[(4,.val (.string (mkS (([zS,zT].take i).flatMap (·++[10]))))),(21,.row 1 (some r1) 2 2),(22,.val (.int .i64 2)),(23,.val (.int .i64 i))],[(1,some (.row (some r1) 2 9 1 [.string (mkS zS),.string (mkS zT)]))],2,μ,Mem.nil⟩) (fun i=>2-i)
  0 (by omega) (fun _=>⟨rfl,rfl⟩) ⟨⟨rfl,rfl,rfl,rfl,trivial⟩,⟨rfl,trivial⟩,rfl,rfl⟩ ?_
 intro i hi
 refine ifd (fun hlt=>?_) (fun hlt=>?_)
 ·have w_ : i = 0 ∨ i = 1 := by omega
  rcases w_ with rfl|rfl
  ·refine bK 0 rfl (by decide) (bL (.string (mkS zS)) rfl ?_)
   refine aD (by decide+kernel) ?_
   intro r2
   refine bW [10] rfl ?_
   refine aD (by decide+kernel) ?_
   refine aC (by decide) (by decide) ⟨1,by decide,by decide,⟨⟨?_,rfl,rfl,rfl,trivial⟩,⟨rfl,trivial⟩,rfl,rfl⟩⟩
   exact congrArg (fun s=>some (SV.val (.string s))) (show mkS []++mkS zS++mkS [10]=_ by rw[bE,bE,nM];rfl)
  ·refine bK 1 rfl (by decide) (bL (.string (mkS zT)) rfl ?_)
   refine aD (by decide+kernel) ?_
   intro r2
   refine bW [10] rfl ?_
   refine aD (by decide+kernel) ?_
   refine aC (by decide) (by decide) ⟨2,by decide,by decide,⟨⟨?_,rfl,rfl,rfl,trivial⟩,⟨rfl,trivial⟩,rfl,rfl⟩⟩
   exact congrArg (fun s=>some (SV.val (.string s))) (show mkS (([zS,zT].take 1).flatMap (·++[10]))++mkS zT++mkS [10]=_ by rw[bE,bE,nM,nM];simp)
 ·obtain rfl : i = 2 := by omega
  exact rGv (congrArg (fun s=>Value.string (mkS s)) (nM _ _ 2)) rfl
end
end Go.Vx
namespace Go.Vx
open Go.Proofs Classical
section
variable {μ:Mem}
theorem qEz{h:Mem}{r:Nat}(hc:Cur μ h r h){L:List Bs}{base:Option Addr}{cap:Nat}(hs:Sl μ 1 base L.length ((L.map mkS).map D.s))(h1:1≤L.length)(h2:L.length≤200):
  SpecH Tryz.prog 36 [.pointer (some ⟨r,0,none⟩),.slice base L.length cap] μ h fun v μ' h'=>μ'=μ∧Cur μ h r h'∧∃s∈L,v= .string (mkS s):=by
 refine SpecH.mk [] Tryz.func36 (by kernel_rfl) ?_
 refine cOw (aJ hc L.length) fun v μ1 h1 hle1 hap1 hR=>?_
 obtain⟨e,hc1,k,rfl,hk,hk2,_⟩:=hR
 obtain rfl:=e.symm
 have hk2:=hk2 (by omega)
 obtain⟨t,ht⟩:∃t,L[k]? =some t:=⟨_,List.getElem?_eq_getElem (by omega)⟩
 have w_:=Nm.tok hs ht
 obtain⟨ad,hel⟩:=w_
 refine eIn hel ?_
 exact rPl ⟨rfl,hc1,t,List.mem_of_getElem? ht,rfl⟩
theorem qBj{h:Mem}{r:Nat}(hc:Cur μ h r h):
  SpecH Tryz.prog 14 [.pointer (some ⟨r,0,none⟩)] μ h fun v μ' h'=>Cur μ' h r h'∧∃s∈libNames,v= .string (mkS s):=by
 refine SpecH.mk [] Tryz.func14 (by kernel_rfl) ?_
 intro r0
 refine bF [0] fun μ4 hle4 hno4 hat4=>?_
 have k:=Rows.sl hat4 (Nm.rows (libNames.map mkS)) (by decide)
 have w_:=Rep.sl k
 obtain⟨bz,cz,ez,hsz⟩:=w_
 have w_:=Value.slice.inj ez
 obtain⟨e1,e2,_⟩:=w_
 rw[List.length_map,List.length_map,←e1]at hsz
 refine .inr ⟨_,qEz (L:=libNames) (hc.mono hle4) hsz (by decide) (by decide),fun v μ5 h5 hle5 hap5 hR=>?_⟩
 obtain⟨rfl,hc5,s,hs,rfl⟩:=hR
 exact rPl ⟨hc5,s,hs,rfl⟩
theorem qBm{s:Bs}(hs:s∈libNames):∃t p,LibOk t p∧aQ Tryz.prog 13 [.string (mkS s)] μ (.string (mkS t)):=by
 simp only[libNames,List.mem_cons,List.not_mem_nil,or_false]at hs
 rcases hs with rfl|rfl|rfl|rfl
 ·have w_:=pA lib0_ok;obtain⟨p,hp⟩:=w_;exact⟨_,p,hp,xR⟩
 ·have w_:=pA lib1_ok;obtain⟨p,hp⟩:=w_;exact⟨_,p,hp,wT⟩
 ·have w_:=pA lib2_ok;obtain⟨p,hp⟩:=w_;exact⟨_,p,hp,wS⟩
 ·have w_:=pA lib3_ok;obtain⟨p,hp⟩:=w_;exact⟨_,p,hp,wX⟩
end
end Go.Vx
namespace Go.Vx
open Go.Proofs Classical
theorem iC{k:Int}{ts:List T}(h0:0≤k)(h6:k≤6)(l2:k=2∨k=3∨k=6→ts.length=2)(l1:k=4∨k=5→ts.length=1)(l0:k=0∨k=1→ts.length=0)(hs:k=6→∀a,(ts.map T.tm)[0]? =some a→a.kind=2)(hok:∀t∈ts,t.ok):TopOk (.mk k ⟨#[]⟩ (ts.map T.tm) []) where
 tm:=fun t ht=>by
  have w_:=List.mem_map.1 ht
  obtain⟨x,hx,rfl⟩:=w_
  exact(hok x hx).tm
 k0:=h0
 k1:=by show k≤10;omega
 nm:=fun _=>rfl
 rel:=fun h=>by have h:k=9:=h;omega
 ln9:=fun h=>by have h:k=9:=h;omega
 ln2:=fun h=>by show(ts.map T.tm).length=2;rw[List.length_map];exact l2 h
 ln1:=fun h=>by show(ts.map T.tm).length=1;rw[List.length_map];exact l1 h
 ln0:=fun h=>by
  show(ts.map T.tm).length=0
  have h:k=0∨k=1∨k=7∨k=8∨k=10:=h
  rw[List.length_map];exact l0 (by omega)
 gl:=Nat.zero_le _
 gl0:=fun _=>rfl
 gl1:=fun h=>by have h:k=10:=h;omega
 sy:=hs
 cl:=fun h=>by have h:k=10:=h;omega
def qNs(h:Mem)(r n:Nat)(v:Value)(μ' h':Mem):Prop:=Cur μ' h r h'∧∃g:Gl,RepV μ' g.d v∧∀sg mode,Dr sg n mode 1 1 g
theorem fR{k:Int}{ts:List T}{n:Nat}(top:TopOk (.mk k ⟨#[]⟩ (ts.map T.tm) []))(hk:k≤6)(ht:∀t∈ts,∀v,t.occ v→0≤v∧v<(n:Int))(hz:∀t∈ts,t.size≤500):∀sg mode,Dr sg n mode 1 1 (.mk k ⟨#[]⟩ (ts.map T.tm) []):=fun sg mode=>
 Dr.leaf top (by omega) (by omega) (by omega) ht (fun h=>by omega) hz
section
variable {μ:Mem}
set_option maxHeartbeats 1000000 in
theorem uA{h:Mem}{r:Nat}(hc:Cur μ h r h)(n:Nat)(hn:n≤8)(pure:Bool):
  SpecH Tryz.prog 72 [.pointer (some ⟨r,0,none⟩),.int .i64 n,.bool pure] μ h fun v μ' h'=>qNs h r n v μ' h':=by
 have hB1:lvB 1=1:=by rw[lvB,if_neg (by decide)]
 refine SpecH.mk [] Tryz.func72 (by kernel_rfl) ?_
 intro r6
 refine cOw (dR n (by omega) 1 (by decide) hc) fun v μ1 h1 hle1 hap1 hR=>?_
 obtain⟨hc1,ta,hra,hda⟩:=hR
 rw[hB1]at hda
 have w_:=Tm.invV hra
 obtain⟨pa,rfl⟩:=w_
 intro r7
 refine cOw (dR n (by omega) 4 (by decide) hc1.at) fun v μ2 h2 hle2 hap2 hR=>?_
 obtain⟨hc2,tb,hrb,hdb⟩:=hR
 rw[lvB_4]at hdb
 have w_:=Tm.invV hrb
 obtain⟨pb,rfl⟩:=w_
 intro r8
 refine cOw (aJ hc2.at 16) fun v μ3 h3 hle3 hap3 hR=>?_
 obtain⟨e,hc3,k,rfl,hk,hk16,_⟩:=hR
 obtain rfl:=e.symm
 have hk16:=hk16 (by decide)
 have hc3:=(hc1.trans hc2).trans hc3
 refine iIn (fun hp=>?_) (fun hp=>?_)
 ·intro rs
  refine bF [3] fun μ4 hle4 hno4 hat4=>?_
  refine cE (cA (k:=2) (a:=(some ⟨rs,0,none⟩,2,2)) (b:=(none,0,0))) fun v8 μ8 hle8 hR8=>?_
  obtain⟨rfl,rfl⟩:=hR8
  refine rPl ⟨(hc3.mono hle4),.mk 2 ⟨#[]⟩ ([ta,tb].map T.tm) [],cQ (Rows.sl hat4 (.cons (hra.mono ((hle2.trans hle3).trans hle4)) (Tm.d_n _) (Rows.one (hrb.mono (hle3.trans hle4)) (Tm.d_n _))) (by show 2≤_;decide)) (Rep.nilSl 4),fR (iC (by decide) (by decide) (fun _=>rfl) (fun h=>absurd h (by decide)) (fun h=>absurd h (by decide)) (fun h=>absurd h (by decide)) (fun t ht=>?_)) (by decide) (fun t ht=>?_) (fun t ht=>?_)⟩
  ·rcases List.mem_cons.1 ht with rfl | ht
   ·exact hda.ok (by omega)
   ·rw[List.mem_singleton.1 ht];exact hdb.ok (by omega)
  ·rcases List.mem_cons.1 ht with rfl | ht
   ·exact hda.low
   ·rw[List.mem_singleton.1 ht];exact hdb.low
  ·rcases List.mem_cons.1 ht with rfl | ht
   ·exact Nat.le_trans hda.size (by omega)
   ·rw[List.mem_singleton.1 ht];exact Nat.le_trans hdb.size (by omega)
 refine iIn (fun hp=>?_) (fun hp=>?_)
 ·intro rs
  refine bF [3] fun μ4 hle4 hno4 hat4=>?_
  refine cE (cA (k:=2) (a:=(some ⟨rs,0,none⟩,2,2)) (b:=(none,0,0))) fun v8 μ8 hle8 hR8=>?_
  obtain⟨rfl,rfl⟩:=hR8
  refine rPl ⟨(hc3.mono hle4),.mk 2 ⟨#[]⟩ ([ta,tb].map T.tm) [],cQ (Rows.sl hat4 (.cons (hra.mono ((hle2.trans hle3).trans hle4)) (Tm.d_n _) (Rows.one (hrb.mono (hle3.trans hle4)) (Tm.d_n _))) (by show 2≤_;decide)) (Rep.nilSl 4),fR (iC (by decide) (by decide) (fun _=>rfl) (fun h=>absurd h (by decide)) (fun h=>absurd h (by decide)) (fun h=>absurd h (by decide)) (fun t ht=>?_)) (by decide) (fun t ht=>?_) (fun t ht=>?_)⟩
  ·rcases List.mem_cons.1 ht with rfl | ht
   ·exact hda.ok (by omega)
   ·rw[List.mem_singleton.1 ht];exact hdb.ok (by omega)
  ·rcases List.mem_cons.1 ht with rfl | ht
   ·exact hda.low
   ·rw[List.mem_singleton.1 ht];exact hdb.low
  ·rcases List.mem_cons.1 ht with rfl | ht
   ·exact Nat.le_trans hda.size (by omega)
   ·rw[List.mem_singleton.1 ht];exact Nat.le_trans hdb.size (by omega)
 refine ifd (fun h9=>?_) (fun h9=>?_)
 ·intro rs
  refine bF [3] fun μ4 hle4 hno4 hat4=>?_
  refine cE (cA (k:=4) (a:=(some ⟨rs,0,none⟩,1,1)) (b:=(none,0,0))) fun v8 μ8 hle8 hR8=>?_
  obtain⟨rfl,rfl⟩:=hR8
  refine rPl ⟨(hc3.mono hle4),.mk 4 ⟨#[]⟩ ([ta].map T.tm) [],cQ (Rows.sl hat4 (Rows.one (hra.mono ((hle2.trans hle3).trans hle4)) (Tm.d_n _)) (by show 1≤_;decide)) (Rep.nilSl 4),fR (iC (by decide) (by decide) (fun h=>absurd h (by decide)) (fun _=>rfl) (fun h=>absurd h (by decide)) (fun h=>absurd h (by decide)) (fun t ht=>?_)) (by decide) (fun t ht=>?_) (fun t ht=>?_)⟩
  ·rw[List.mem_singleton.1 ht];exact hda.ok (by omega)
  ·rw[List.mem_singleton.1 ht];exact hda.low
  ·rw[List.mem_singleton.1 ht];exact Nat.le_trans hda.size (by omega)
 refine ifd (fun h10=>?_) (fun h10=>?_)
 ·intro rs
  refine bF [3] fun μ4 hle4 hno4 hat4=>?_
  refine cE (cA (k:=5) (a:=(some ⟨rs,0,none⟩,1,1)) (b:=(none,0,0))) fun v8 μ8 hle8 hR8=>?_
  obtain⟨rfl,rfl⟩:=hR8
  refine rPl ⟨(hc3.mono hle4),.mk 5 ⟨#[]⟩ ([ta].map T.tm) [],cQ (Rows.sl hat4 (Rows.one (hra.mono ((hle2.trans hle3).trans hle4)) (Tm.d_n _)) (by show 1≤_;decide)) (Rep.nilSl 4),fR (iC (by decide) (by decide) (fun h=>absurd h (by decide)) (fun _=>rfl) (fun h=>absurd h (by decide)) (fun h=>absurd h (by decide)) (fun t ht=>?_)) (by decide) (fun t ht=>?_) (fun t ht=>?_)⟩
  ·rw[List.mem_singleton.1 ht];exact hda.ok (by omega)
  ·rw[List.mem_singleton.1 ht];exact hda.low
  ·rw[List.mem_singleton.1 ht];exact Nat.le_trans hda.size (by omega)
 refine ifd (fun h11=>?_) (fun h11=>?_)
 ·refine cPl (gG ⟨#[97]⟩) fun v μs hles hRs => ?_
  have w_:=Tm.invV hRs
  obtain⟨ps,rfl⟩:=w_
  intro rs
  refine bF [3] fun μ4 hle4 hno4 hat4=>?_
  refine cE (cA (k:=6) (a:=(some ⟨rs,0,none⟩,2,2)) (b:=(none,0,0))) fun v8 μ8 hle8 hR8=>?_
  obtain⟨rfl,rfl⟩:=hR8
  refine rPl ⟨(hc3.mono hles).mono hle4,.mk 6 ⟨#[]⟩ ([T.sym ⟨#[97]⟩,tb].map T.tm) [],cQ (Rows.sl hat4 (.cons (hRs.mono hle4) (Tm.d_n _) (Rows.one (((hrb.mono hle3).mono hles).mono hle4) (Tm.d_n _))) (by show 2≤_;decide)) (Rep.nilSl 4),fR (iC (by decide) (by decide) (fun _=>rfl) (fun h=>absurd h (by decide)) (fun h=>absurd h (by decide)) (fun _ a ha=>by cases ha;rfl) (fun t ht=>?_)) (by decide) (fun t ht=>?_) (fun t ht=>?_)⟩
  ·rcases List.mem_cons.1 ht with rfl | ht
   ·exact⟨mF (by decide),by decide⟩
   ·rw[List.mem_singleton.1 ht];exact hdb.ok (by omega)
  ·rcases List.mem_cons.1 ht with rfl | ht
   ·exact fun v hv=>absurd hv (fun h=>h)
   ·rw[List.mem_singleton.1 ht];exact hdb.low
  ·rcases List.mem_cons.1 ht with rfl | ht
   ·exact show 1≤500 by decide
   ·rw[List.mem_singleton.1 ht];exact Nat.le_trans hdb.size (by omega)
 refine ifd (fun h12=>?_) (fun h12=>?_)
 ·refine cOw (aJ hc3.at 8) fun v μ4 h4 hle4 hap4 hR => ?_
  obtain⟨e4,hc4,k4,rfl,hk4,hk48,_⟩:=hR
  obtain rfl:=e4.symm
  have hk48:=hk48 (by decide)
  refine aD (by decide) ?_
  refine nEq (x:=((k4 / 7:Nat):Int)) (by show IntKind.i64.wrap (Int.tdiv (k4:Int) 7)=_;rw[Int.tdiv_eq_ediv_of_nonneg (by omega),aA (by omega) (by omega)];simp) ?_
  have w_:k4 / 7=0∨k4 / 7=1:=by omega
  rcases w_ with e7|e7
  all_goals
   rw[e7]
   refine cGv (cA (a:=(none,0,0)) (b:=(none,0,0))) ?_
   refine rPl ⟨hc3.trans hc4,.mk _ ⟨#[]⟩ ([].map T.tm) [],cQ (Rep.nilSl 4) (Rep.nilSl 4),fR (iC (by decide) (by decide) (fun h=>absurd h (by decide)) (fun h=>absurd h (by decide)) (fun _=>rfl) (fun h=>absurd h (by decide)) (fun t ht=>by cases ht)) (by decide) (fun t ht=>by cases ht) (fun t ht=>by cases ht)⟩
 ·intro rs
  refine bF [3] fun μ4 hle4 hno4 hat4=>?_
  refine cE (cA (k:=3) (a:=(some ⟨rs,0,none⟩,2,2)) (b:=(none,0,0))) fun v8 μ8 hle8 hR8=>?_
  obtain⟨rfl,rfl⟩:=hR8
  refine rPl ⟨(hc3.mono hle4),.mk 3 ⟨#[]⟩ ([ta,tb].map T.tm) [],cQ (Rows.sl hat4 (.cons (hra.mono ((hle2.trans hle3).trans hle4)) (Tm.d_n _) (Rows.one (hrb.mono (hle3.trans hle4)) (Tm.d_n _))) (by show 2≤_;decide)) (Rep.nilSl 4),fR (iC (by decide) (by decide) (fun _=>rfl) (fun h=>absurd h (by decide)) (fun h=>absurd h (by decide)) (fun h=>absurd h (by decide)) (fun t ht=>?_)) (by decide) (fun t ht=>?_) (fun t ht=>?_)⟩
  ·rcases List.mem_cons.1 ht with rfl | ht
   ·exact hda.ok (by omega)
   ·rw[List.mem_singleton.1 ht];exact hdb.ok (by omega)
  ·rcases List.mem_cons.1 ht with rfl | ht
   ·exact hda.low
   ·rw[List.mem_singleton.1 ht];exact hdb.low
  ·rcases List.mem_cons.1 ht with rfl | ht
   ·exact Nat.le_trans hda.size (by omega)
   ·rw[List.mem_singleton.1 ht];exact Nat.le_trans hdb.size (by omega)
end
end Go.Vx
namespace Go.Vx
open Go.Proofs Classical
theorem RowO.ownA{h:Mem}{r cap:Nat}{ty:TypeId}{es:Nat}{xs:List Value}{k:Nat}{x:Value}(hr:RowO h r cap ty es xs)(hx:xs[k]? =some x){ad:Addr}(ha:ad=⟨r,k*es,none⟩):∀i v,(aB x)[i]? =some v→h.cell (ad.add i)=some v:=fun i v hi=>by
 subst ha
 rw[Addr.add_lit']
 exact hr.cell hx hi
def RelV(sg:ByteArray×Int)(x:Value):Prop:=∃(lo k:Int) (s:ByteArray) (b1:Option Addr) (n1 c1:Nat) (b2:Option Addr) (n2 c2:Nat),x= .agg #[.string sg.1,.int .i64 sg.2,.int .i64 lo,.int .i64 k,.string s,.slice b1 n1 c1,.slice b2 n2 c2]
structure RelsO (h:Mem) (rb cap:Nat) (sg:Sig) (xs:List Value):Prop where
 row:RowO h rb cap 75 7 xs
 len:xs.length=sg.length
 at_:∀(i:Nat) q,sg[i]? =some q→∃x,xs[i]? =some x∧RelV q x
theorem RelsO.cur{μ h h':Mem}{r rb cap:Nat}{sg:Sig}{xs:List Value}(k:RelsO h rb cap sg xs)(hne:rb≠r)(hc:Cur μ h r h'):RelsO h' rb cap sg xs:=by
 obtain⟨o,_,rfl⟩:=hc.ex
 exact⟨k.row.set_ne hne,k.len,k.at_⟩
structure SigOk (sg:Sig):Prop where
 pos:1≤sg.length
 max:sg.length≤3
 nm:∀q∈sg,iT q.1
 ar:∀q∈sg,0≤q.2∧q.2≤4
theorem qFe{s:ByteArray}{ts:List T}(hs:iT s)(hl:ts.length≤4)(hok:∀t∈ts,t.ok):TopOk (.mk 9 s (ts.map T.tm) []) where
 tm:=fun t ht=>by
  have w_:=List.mem_map.1 ht
  obtain⟨x,hx,rfl⟩:=w_
  exact(hok x hx).tm
 k0:=by show(0:Int)≤9;decide
 k1:=by show(9:Int)≤10;decide
 nm:=fun h=>absurd rfl h
 rel:=fun _=>hs
 ln9:=fun _=>by show(ts.map T.tm).length≤4;rw[List.length_map];exact hl
 ln2:=fun h=>by have h:(9:Int)=2∨(9:Int)=3∨(9:Int)=6:=h;omega
 ln1:=fun h=>by have h:(9:Int)=4∨(9:Int)=5:=h;omega
 ln0:=fun h=>by have h:(9:Int)=0∨(9:Int)=1∨(9:Int)=7∨(9:Int)=8∨(9:Int)=10:=h;omega
 gl:=Nat.zero_le _
 gl0:=fun _=>rfl
 gl1:=fun h=>by have h:(9:Int)=10:=h;omega
 sy:=fun h=>by have h:(9:Int)=6:=h;omega
 cl:=fun h=>by have h:(9:Int)=10:=h;omega
def qNg(sg:Sig)(n:Nat)(mode:Int)(calls:Nat)(h:Mem)(r:Nat)(v:Value)(μ' h':Mem):Prop:=Cur μ' h r h'∧∃gs:List Gl,gs.length≤2+calls∧(∀g∈gs,Dr sg n mode 2 1 g)∧RepV μ' (Gl.mk 7 ⟨#[]⟩ [] gs).d v
section
variable {μ:Mem}
set_option maxHeartbeats 2000000 in
theorem fG{h:Mem}{r rb cap:Nat}{sg:Sig}{xs:List Value}(hc:Cur μ h r h)(hrel:RelsO h rb cap sg xs)(hne:rb≠r)(hsg:SigOk sg)(n:Nat)(hn:n≤8)(calls:Nat)(hcalls:calls≤2)(mode:Int):
  SpecH Tryz.prog 38 [.pointer (some ⟨r,0,none⟩),.slice (some ⟨rb,0,none⟩) sg.length cap,.int .i64 n,.int .i64 calls,.int .i64 mode] μ h fun v μ' h'=>qNg sg n mode calls h r v μ' h':=by
 refine SpecH.mk [] Tryz.func38 (by kernel_rfl) ?_
 intro r10 r11
 refine cOw (aJ hc 2) fun v μ1 h1 hle1 hap1 hR=>?_
 obtain⟨e,hc1,k0,rfl,hk0,hk2,_⟩:=hR
 obtain rfl:=e.symm
 have hk2:=hk2 (by decide)
 refine aC (by omega) (by omega) ?_
 rw[show(1:Int)+(k0:Int)=((1+k0:Nat):Int)from by omega]
 refine bS (fun z:Nat×List Gl×(List Value×Option Nat×Nat)×Mem×Mem=>z.1≤2∧z.2.1.length+z.1≤2∧(∀g∈z.2.1,Dr sg n mode 2 1 g)∧Rows z.2.2.2.1 4 (z.2.1.map Gl.d) z.2.2.1.1∧μ.Le z.2.2.2.1∧Cur z.2.2.2.1 h r z.2.2.2.2)
  (fun (k, _, (ys, b, c), μ', h') => ⟨[(0, .val (.pointer (some ⟨r, 0, none⟩))), (1, .val (.slice (some ⟨rb, 0, none⟩) sg.length cap)), (2, .val (.int .i64 n)), (3, .val (.int .i64 calls)), (4, .val (.int .i64 mode)), (10, .loc 0 r10 0), (11, .loc 1 r11 0), (12, .val (.int .i64 k))],
   [(0,some (.cells r10 [.val (.int .i64 0),.val (.string ⟨#[]⟩),.val (.slice none 0 0),.val (.slice none 0 0)] 73)),(1,some (.cells r11 [.val (.int .i64 7),.val (.string ⟨#[]⟩),.val (.slice none 0 0),.row 2 b ys.length c] 73)),(2,some (.row b c 73 4 ys))],3,μ',h'⟩) (fun z=>z.1)
  (1+k0,[],([],none,0),μ,h1) ⟨by dsimp only;omega,by simp only[List.length_nil];omega,(fun _ hg=>nomatch hg),Rows.nil,Mem.Le.refl _,hc1⟩ (fun(_,_,(_,_,_),_,_)=>⟨rfl,rfl⟩)
  ⟨⟨⟨_,rfl,.inl rfl⟩,⟨_,rfl,.inl rfl⟩,⟨_,rfl,.inl rfl⟩,⟨_,rfl,.inl rfl⟩,⟨_,rfl,.inl rfl⟩,⟨_,rfl,.inl rfl⟩,⟨_,rfl,.inl rfl⟩,⟨_,rfl,.inl rfl⟩,trivial⟩,⟨.inl rfl,.inr (.inr ⟨_,_,_,_,rfl,rfl,.inl rfl,.inl rfl,.inl rfl,.inr ⟨2,rfl,rfl,Nat.le_refl _⟩,trivial⟩),.inr (.inl ⟨_,_,rfl,Nat.le_refl _⟩),trivial⟩,rfl,rfl⟩ ?_
 clear hc1 hap1
 rintro⟨k,gs,⟨ys,b,c⟩,μ1,h1⟩ ⟨hk,hkl,hgs,hrows,hle,hc1⟩
 dsimp only at hk hkl hgs hrows hle hc1
 have hyl:=hrows.len
 rw[List.length_map]at hyl
 refine ifd (fun hlt=>?_) (fun hlt=>?_)
 ·refine cOw (uA hc1.at n hn (decide (mode = 0))) fun v μ2 h2 hle2 hap2 hR => ?_
  obtain⟨hc2,g,hrg,hdg⟩:=hR
  have w_:=Gl.invV hrg
  obtain⟨q,rfl⟩:=w_
  intro rg
  refine gIn ?_ ?_ fun b' c' hb'=>?_
  ·show(ys.length+1)*72≤_;omega
  ·exact Nat.le_trans (m:=100000000) (show ys.length+1≤_ by omega) (by decide)
  refine aC (by omega) (by omega) ⟨(k-1,gs++[g],(_,b',c'),μ2,h2),⟨by dsimp only;omega,by simp only[List.length_append,List.length_singleton];omega,?_,?_,hle.trans hle2,hc1.trans hc2⟩,by dsimp only;omega,⟨⟨rfl,rfl,rfl,rfl,rfl,rfl,rfl,?_,trivial⟩,⟨rfl,rfl,rfl,trivial⟩,rfl,rfl⟩⟩
  ·intro x hx
   rcases List.mem_append.1 hx with hx|hx
   ·exact hgs x hx
   ·rw[List.mem_singleton.1 hx];exact(hdg sg mode).mono (by decide) (by decide)
  ·dsimp only
   rw[List.map_append]
   exact(hrows.mono hle2).append (Rows.one hrg (Gl.d_n _))
  ·show some (SV.val (.int .i64 _)) = some (SV.val (.int .i64 _))
   congr 3;omega
 refine lIn (fun z:Nat×Nat×List Gl×(List Value×Option Nat×Nat)×(List Value×Option Nat×Nat)×Mem×Mem=>z.2.1≤calls∧(z.1=0∨(z.1=1∧z.2.1≤1)∨(z.1=2∧z.2.1=0))∧z.2.2.1.length+z.2.1≤2+calls∧(∀g∈z.2.2.1,Dr sg n mode 2 1 g)∧(∀μ9,z.2.2.2.2.2.1.Le μ9→(z.1≠0→RowAt μ9 z.2.2.2.2.1.2.1 z.2.2.2.2.1.2.2 4 z.2.2.2.2.1.1)→Rows μ9 4 (z.2.2.1.map Gl.d) z.2.2.2.1.1)∧z.2.2.2.1.1.length=z.2.2.1.length∧μ.Le z.2.2.2.2.2.1∧Cur z.2.2.2.2.2.1 h r z.2.2.2.2.2.2)
  (fun (pend, k, _, (ys, b, c), (ys5, b5, c5), μ', h') => ⟨[(0, .val (.pointer (some ⟨r, 0, none⟩))), (1, .val (.slice (some ⟨rb, 0, none⟩) sg.length cap)), (2, .val (.int .i64 n)), (3, .val (.int .i64 k)), (4, .val (.int .i64 mode)), (10, .loc 0 r10 0), (11, .loc 1 r11 0)],
   (0,some (.cells r10 [.val (.int .i64 0),.val (.string ⟨#[]⟩),.val (.slice none 0 0),.val (.slice none 0 0)] 73))::(1,some (.cells r11 [.val (.int .i64 7),.val (.string ⟨#[]⟩),.val (.slice none 0 0),.row 2 b ys.length c] 73))::(2,some (.row b c 73 4 ys))::
   (match pend with|0=>[]|1=>[(5,some (.row b5 c5 57 4 ys5))]|_=>[(8,some (.row b5 c5 57 4 ys5))]),(match pend with|0=>3|1=>6|_=>9),μ',h'⟩) (fun z=>z.2.1)
  (0,calls,gs,(ys,b,c),([],none,0),μ1,h1) ⟨Nat.le_refl _,.inl rfl,by dsimp only;omega,hgs,fun μ9 hle9 _=>hrows.mono hle9,hyl.symm,hle,hc1⟩ (fun(pend,_,_,(_,_,_),(_,_,_),_,_)=>match pend with|0=>⟨rfl,rfl⟩|1=>⟨rfl,rfl⟩|_+2=>⟨rfl,rfl⟩) ⟨⟨rfl,rfl,rfl,rfl,rfl,rfl,rfl,trivial⟩,⟨rfl,rfl,rfl,trivial⟩,rfl,rfl⟩ ?_
 clear hk hkl hgs hrows hle hc1 hyl hlt
 rintro⟨pend,k,gs,⟨ys,b,c⟩,⟨ysp,bp,cp⟩,μ1,h1⟩ ⟨hk,hpend,hkl,hgs,hP,hyl,hle,hc1⟩
 dsimp only at hk hpend hkl hgs hP hyl hle hc1
 have hsl:=hsg.max
 have hsp:=hsg.pos
 rcases hpend with rfl|⟨rfl,hk1⟩|⟨rfl,hk0⟩
 ·have hrows := hP μ1 (Mem.Le.refl _) (fun h => absurd rfl h)
  refine ifd (fun hlt=>?_) (fun hlt=>?_)
  ·refine cOw (aJ hc1.at sg.length) fun v μ2 h2 hle2 hap2 hR => ?_
   obtain⟨e,hc2,j,rfl,hj,hj2,_⟩:=hR
   obtain rfl:=e.symm
   have hj2:=hj2 (by omega)
   have hc2:=hc1.trans hc2
   have hrel2:=hrel.cur hne hc2
   obtain⟨q,hq⟩:∃q,sg[j]? =some q:=⟨_,List.getElem?_eq_getElem (by omega)⟩
   have w_:=hrel2.at_ j q hq
   obtain⟨x,hx,lo,kk,s,b1,n1,c1,b2,n2,c2,rfl⟩:=w_
   have hqm:=List.mem_of_getElem? hq
   have har:=hsg.ar q hqm
   refine qLi j rfl (by omega) ?_
   refine oIn [.string q.1,.int .i64 q.2,.int .i64 lo,.int .i64 kk,.string s,.slice b1 n1 c1,.slice b2 n2 c2] rfl (hrel2.row.ownA hx rfl) ?_
   intro r13 r14
   refine bS (fun z:Nat×List T×(List Value×Option Nat×Nat)×Mem×Mem=>(z.1:Int)≤q.2∧z.2.1.length=z.1∧(∀t∈z.2.1,Drawn 2 n t)∧Rows z.2.2.2.1 4 ((z.2.1.map T.tm).map Tm.d) z.2.2.1.1∧μ1.Le z.2.2.2.1∧Cur z.2.2.2.1 h r z.2.2.2.2)
    (fun (j', _, (ys5, b5, c5), μ', h') => ⟨[(0, .val (.pointer (some ⟨r, 0, none⟩))), (1, .val (.slice (some ⟨rb, 0, none⟩) sg.length cap)), (2, .val (.int .i64 n)), (3, .val (.int .i64 k)), (4, .val (.int .i64 mode)), (10, .loc 0 r10 0), (11, .loc 1 r11 0), (13, .loc 3 r13 0), (14, .loc 4 r14 0), (15, .val (.int .i64 j'))],
     [(0,some (.cells r10 [.val (.int .i64 0),.val (.string ⟨#[]⟩),.val (.slice none 0 0),.val (.slice none 0 0)] 73)),(1,some (.cells r11 [.val (.int .i64 7),.val (.string ⟨#[]⟩),.val (.slice none 0 0),.row 2 b ys.length c] 73)),(2,some (.row b c 73 4 ys)),
     (3,some (.cells r13 [.val (.string q.1),.val (.int .i64 q.2),.val (.int .i64 lo),.val (.int .i64 kk),.val (.string s),.val (.slice b1 n1 c1),.val (.slice b2 n2 c2)] 75)),(4,some (.cells r14 [.val (.int .i64 9),.val (.string q.1),.row 5 b5 ys5.length c5,.val (.slice none 0 0)] 73)),(5,some (.row b5 c5 57 4 ys5))],6,μ',h'⟩) (fun z=>4-z.1)
    (0,[],([],none,0),μ1,h2) ⟨har.1,rfl,(fun _ hg=>nomatch hg),Rows.nil,Mem.Le.refl _,hc2⟩ (fun(_,_,(_,_,_),_,_)=>⟨rfl,rfl⟩)
    ⟨⟨⟨_,rfl,.inl rfl⟩,⟨_,rfl,.inl rfl⟩,⟨_,rfl,.inl rfl⟩,⟨_,rfl,.inl rfl⟩,⟨_,rfl,.inl rfl⟩,⟨_,rfl,.inl rfl⟩,⟨_,rfl,.inl rfl⟩,⟨_,rfl,.inl rfl⟩,⟨_,rfl,.inl rfl⟩,⟨_,rfl,.inl rfl⟩,trivial⟩,⟨.inl rfl,.inl rfl,.inl rfl,.inl rfl,.inr (.inr ⟨_,_,_,_,rfl,rfl,.inl rfl,.inl rfl,.inr ⟨5,rfl,rfl,Nat.le_refl _⟩,.inl rfl,trivial⟩),.inr (.inl ⟨_,_,rfl,Nat.le_refl _⟩),trivial⟩,rfl,rfl⟩ ?_
   clear hc2 hrel2 hap2 hx
   rintro⟨j',ts,⟨ys5,b5,c5⟩,μ3,h3⟩ ⟨hj',htl,hts,hrows5,hle3,hc3⟩
   dsimp only at hj' htl hts hrows5 hle3 hc3
   have hyl5:=hrows5.len
   rw[List.length_map,List.length_map]at hyl5
   refine ifd (fun hja=>?_) (fun hja=>?_)
   ·refine iIn (fun _ => ?_) (fun h => absurd (of_decide_eq_false h) (fun h => h (by omega)))
    refine cOw (aJ hc3.at 4) fun v μ4 h4 hle4 hap4 hR=>?_
    obtain⟨e,hc4,k4,rfl,hk4,hk44,_⟩:=hR
    obtain rfl:=e.symm
    have hk44:=hk44 (by decide)
    refine aD (by decide) ?_
    refine nEq (x:=((k4 / 3:Nat):Int)) (by show IntKind.i64.wrap (Int.tdiv (k4:Int) 3)=_;rw[Int.tdiv_eq_ediv_of_nonneg (by omega),aA (by omega) (by omega)];simp) ?_
    have drawn:∃size:Nat,size≤1000∧1+((k4 / 3:Nat):Int)*2=(size:Int)∧lvB size≤2:=by
     have w_:k4 / 3=0∨k4 / 3=1:=by omega
     rcases w_ with e|e
     ·exact⟨1,by decide,by rw[e];rfl,by rw[lvB,if_neg (by decide)];decide⟩
     ·exact⟨3,by decide,by rw[e];rfl,by rw[qIk];decide⟩
    obtain⟨size,hs1,hs2,hs3⟩:=drawn
    refine aC (by omega) (by omega) (aC (by omega) (by omega) ?_)
    rw[hs2]
    refine cOw (dR n (by omega) size hs1 (hc3.trans hc4).at) fun v μ5 h5 hle5 hap5 hR=>?_
    obtain⟨hc5,t,hrt,hdt⟩:=hR
    have w_:=Tm.invV hrt
    obtain⟨pt,rfl⟩:=w_
    intro rt
    refine gIn ?_ ?_ fun b' c' hb'=>?_
    ·show(ys5.length+1)*56≤_;omega
    ·exact Nat.le_trans (m:=100000000) (show ys5.length+1≤_ by omega) (by decide)
    refine aC (by omega) (by omega) ⟨(j'+1,ts++[t],(_,b',c'),μ5,h5),⟨by dsimp only;omega,by simp only[List.length_append,List.length_singleton];omega,?_,?_,hle3.trans hle5,(hc3.trans hc4).trans hc5⟩,by dsimp only;omega,⟨⟨rfl,rfl,rfl,rfl,rfl,rfl,rfl,rfl,rfl,rfl,trivial⟩,⟨rfl,rfl,rfl,rfl,rfl,rfl,trivial⟩,rfl,rfl⟩⟩
    ·intro x hx
     rcases List.mem_append.1 hx with hx|hx
     ·exact hts x hx
     ·rw[List.mem_singleton.1 hx];exact hdt.mono hs3
    ·dsimp only
     rw[List.map_append,List.map_append]
     exact(hrows5.mono hle5).append (Rows.one hrt (Tm.d_n _))
   ·have hlen : (ts.length : Int) = q.2 := by omega
    have hdr:Dr sg n mode 1 1 (.mk 9 q.1 (ts.map T.tm) []):=Dr.leaf (qFe (hsg.nm q hqm) (by omega) fun t ht=>(hts t ht).ok (by omega)) (by decide) (by decide) (by decide) (fun t ht=>(hts t ht).low) (fun _=>by rw[hlen];exact hqm) (fun t ht=>Nat.le_trans (hts t ht).size (by omega))
    have fin:∀{μ6:Mem},μ3.Le μ6→RowAt μ6 b5 c5 4 ys5→RepV μ6 (Gl.mk 9 q.1 (ts.map T.tm) []).d (.agg #[.int .i64 9,.string q.1,.slice (b5.map fun r=>⟨r,0,none⟩) ys5.length c5,.slice none 0 0]):=fun hle6 hat=>
     cQ (Rows.sl hat (hrows5.mono hle6) (Nat.le_trans (m:=1000) (by omega) (by decide))) (Rep.nilSl 4)
    refine ifd (fun hm2=>?_) (fun hm2=>?_)
    ·refine cOw (eV hc3.at 3) fun v μ4 h4 hle4 hap4 hR => ?_
     obtain⟨e,hc4,w,rfl⟩:=hR
     obtain rfl:=e.symm
     have hc4:=hc3.trans hc4
     refine rJ [5] fun μ6 hle6 hno6 hat6=>⟨fun hb=>?_,fun hb=>?_⟩
     ·intro rs
      refine bF [6] fun μ7 hle7 hno7 hat7=>?_
      refine cE (cA (k:=10) (a:=(none,0,0)) (b:=(some ⟨rs,0,none⟩,1,1))) fun v8 μ8 hle8 hR8=>?_
      obtain⟨rfl,rfl⟩:=hR8
      have hrep:=cQ (k:=10) (s:=⟨#[]⟩) (ts:=[]) (gs:=[.mk 9 q.1 (ts.map T.tm) []]) (Rep.nilSl 4) (Rows.sl hat7 (Rows.one ((fin hle6 hat6).mono hle7) (Gl.d_n _)) (by show 1≤_;decide))
      intro rg
      refine gIn ?_ ?_ fun b' c' hb'=>?_
      ·show(ys.length+1)*72≤_;omega
      ·exact Nat.le_trans (m:=100000000) (show ys.length+1≤_ by omega) (by decide)
      refine aC (by omega) (by omega) ⟨(0,k-1,gs++[(.mk 10 ⟨#[]⟩ [] [.mk 9 q.1 (ts.map T.tm) []])],(_,b',c'),([],none,0),_,_),⟨by dsimp only;omega,by dsimp only;omega,by simp only[List.length_append,List.length_singleton];omega,?_,?_,by simp only[List.length_append,List.length_singleton];omega,hle.trans (((hle3.trans hle6).trans hle7)),((hc4.mono hle6).mono hle7)⟩,by dsimp only;omega,⟨⟨rfl,rfl,rfl,?_,rfl,rfl,rfl,trivial⟩,⟨rfl,rfl,rfl,trivial⟩,rfl,rfl⟩⟩
      ·intro x hx
       rcases List.mem_append.1 hx with hx|hx
       ·exact hgs x hx
       ·rw[List.mem_singleton.1 hx];exact(hdr.neg rfl (by omega))
      ·intro μ9 hle9 hat9
       dsimp only at hle9 hat9 ⊢
       rw[List.map_append]
       exact(hrows.mono ((((hle3.trans hle6).trans hle7)).trans hle9)).append (Rows.one ((hrep.mono hle9)) (Gl.d_n _))
      ·show some (SV.val (.int .i64 _)) = some (SV.val (.int .i64 _))
       congr 3;omega
     ·intro rg
      refine gIn ?_ ?_ fun b' c' hb'=>?_
      ·show(ys.length+1)*72≤_;omega
      ·exact Nat.le_trans (m:=100000000) (show ys.length+1≤_ by omega) (by decide)
      refine aC (by omega) (by omega) ⟨(0,k-1,gs++[(.mk 9 q.1 (ts.map T.tm) [])],(_,b',c'),([],none,0),_,_),⟨by dsimp only;omega,by dsimp only;omega,by simp only[List.length_append,List.length_singleton];omega,?_,?_,by simp only[List.length_append,List.length_singleton];omega,hle.trans ((hle3.trans hle6)),(hc4.mono hle6)⟩,by dsimp only;omega,⟨⟨rfl,rfl,rfl,?_,rfl,rfl,rfl,trivial⟩,⟨rfl,rfl,rfl,trivial⟩,rfl,rfl⟩⟩
      ·intro x hx
       rcases List.mem_append.1 hx with hx|hx
       ·exact hgs x hx
       ·rw[List.mem_singleton.1 hx];exact(hdr.mono (by decide) (by decide))
      ·intro μ9 hle9 hat9
       dsimp only at hle9 hat9 ⊢
       rw[List.map_append]
       exact(hrows.mono (((hle3.trans hle6)).trans hle9)).append (Rows.one (((fin hle6 hat6).mono hle9)) (Gl.d_n _))
      ·show some (SV.val (.int .i64 _)) = some (SV.val (.int .i64 _))
       congr 3;omega
    ·intro rg
     refine gIn ?_ ?_ fun b' c' hb'=>?_
     ·show(ys.length+1)*72≤_;omega
     ·exact Nat.le_trans (m:=100000000) (show ys.length+1≤_ by omega) (by decide)
     refine aC (by omega) (by omega) ⟨(1,k-1,gs++[(.mk 9 q.1 (ts.map T.tm) [])],(_,b',c'),(ys5,b5,c5),_,_),⟨by dsimp only;omega,by dsimp only;omega,by simp only[List.length_append,List.length_singleton];omega,?_,?_,by simp only[List.length_append,List.length_singleton];omega,hle.trans (hle3),hc3⟩,by dsimp only;omega,⟨⟨rfl,rfl,rfl,?_,rfl,rfl,rfl,trivial⟩,⟨rfl,rfl,rfl,rfl,trivial⟩,rfl,rfl⟩⟩
     ·intro x hx
      rcases List.mem_append.1 hx with hx|hx
      ·exact hgs x hx
      ·rw[List.mem_singleton.1 hx];exact(hdr.mono (by decide) (by decide))
     ·intro μ9 hle9 hat9
      dsimp only at hle9 hat9 ⊢
      rw[List.map_append]
      exact(hrows.mono ((hle3).trans hle9)).append (Rows.one ((fin hle9 (hat9 (by decide)))) (Gl.d_n _))
     ·show some (SV.val (.int .i64 _)) = some (SV.val (.int .i64 _))
      congr 3;omega
  ·refine rFz [2] fun μ4 hle4 hno4 hat4 => .inl ⟨(hc1).mono hle4, gs, by omega, hgs, ?_⟩
   exact cQ (ts:=[]) (Rep.nilSl 4) (Rows.sl hat4 (hrows.mono hle4) (Nat.le_trans (m:=1000) (by omega) (by decide)))
 ·refine rJ [5] fun μ0 hle0 hno0 hat0 => ?_
  have hrows:=hP μ0 hle0 (fun _=>hat0)
  have hle:=hle.trans hle0
  have hc1:=hc1.mono hle0
  refine⟨fun hlt=>?_,fun hlt=>?_⟩
  ·have hlt := of_decide_eq_true hlt
   refine cOw (aJ hc1.at sg.length) fun v μ2 h2 hle2 hap2 hR=>?_
   obtain⟨e,hc2,j,rfl,hj,hj2,_⟩:=hR
   obtain rfl:=e.symm
   have hj2:=hj2 (by omega)
   have hc2:=hc1.trans hc2
   have hrel2:=hrel.cur hne hc2
   obtain⟨q,hq⟩:∃q,sg[j]? =some q:=⟨_,List.getElem?_eq_getElem (by omega)⟩
   have w_:=hrel2.at_ j q hq
   obtain⟨x,hx,lo,kk,s,b1,n1,c1,b2,n2,c2,rfl⟩:=w_
   have hqm:=List.mem_of_getElem? hq
   have har:=hsg.ar q hqm
   refine qLi j rfl (by omega) ?_
   refine oIn [.string q.1,.int .i64 q.2,.int .i64 lo,.int .i64 kk,.string s,.slice b1 n1 c1,.slice b2 n2 c2] rfl (hrel2.row.ownA hx rfl) ?_
   intro r13 r14
   refine bS (fun z:Nat×List T×(List Value×Option Nat×Nat)×Mem×Mem=>(z.1:Int)≤q.2∧z.2.1.length=z.1∧(∀t∈z.2.1,Drawn 2 n t)∧Rows z.2.2.2.1 4 ((z.2.1.map T.tm).map Tm.d) z.2.2.1.1∧μ0.Le z.2.2.2.1∧Cur z.2.2.2.1 h r z.2.2.2.2)
    (fun (j', _, (ys5, b5, c5), μ', h') => ⟨[(0, .val (.pointer (some ⟨r, 0, none⟩))), (1, .val (.slice (some ⟨rb, 0, none⟩) sg.length cap)), (2, .val (.int .i64 n)), (3, .val (.int .i64 k)), (4, .val (.int .i64 mode)), (10, .loc 0 r10 0), (11, .loc 1 r11 0), (13, .loc 6 r13 0), (14, .loc 7 r14 0), (15, .val (.int .i64 j'))],
     [(0,some (.cells r10 [.val (.int .i64 0),.val (.string ⟨#[]⟩),.val (.slice none 0 0),.val (.slice none 0 0)] 73)),(1,some (.cells r11 [.val (.int .i64 7),.val (.string ⟨#[]⟩),.val (.slice none 0 0),.row 2 b ys.length c] 73)),(2,some (.row b c 73 4 ys)),
     (6,some (.cells r13 [.val (.string q.1),.val (.int .i64 q.2),.val (.int .i64 lo),.val (.int .i64 kk),.val (.string s),.val (.slice b1 n1 c1),.val (.slice b2 n2 c2)] 75)),(7,some (.cells r14 [.val (.int .i64 9),.val (.string q.1),.row 8 b5 ys5.length c5,.val (.slice none 0 0)] 73)),(8,some (.row b5 c5 57 4 ys5))],9,μ',h'⟩) (fun z=>4-z.1)
    (0,[],([],none,0),μ0,h2) ⟨har.1,rfl,(fun _ hg=>nomatch hg),Rows.nil,Mem.Le.refl _,hc2⟩ (fun(_,_,(_,_,_),_,_)=>⟨rfl,rfl⟩)
    ⟨⟨⟨_,rfl,.inl rfl⟩,⟨_,rfl,.inl rfl⟩,⟨_,rfl,.inl rfl⟩,⟨_,rfl,.inl rfl⟩,⟨_,rfl,.inl rfl⟩,⟨_,rfl,.inl rfl⟩,⟨_,rfl,.inl rfl⟩,⟨_,rfl,.inl rfl⟩,⟨_,rfl,.inl rfl⟩,⟨_,rfl,.inl rfl⟩,trivial⟩,⟨.inl rfl,.inl rfl,.inl rfl,.inl rfl,.inr (.inr ⟨_,_,_,_,rfl,rfl,.inl rfl,.inl rfl,.inr ⟨8,rfl,rfl,Nat.le_refl _⟩,.inl rfl,trivial⟩),.inr (.inl ⟨_,_,rfl,Nat.le_refl _⟩),trivial⟩,rfl,rfl⟩ ?_
   clear hc2 hrel2 hap2 hx
   rintro⟨j',ts,⟨ys5,b5,c5⟩,μ3,h3⟩ ⟨hj',htl,hts,hrows5,hle3,hc3⟩
   dsimp only at hj' htl hts hrows5 hle3 hc3
   have hyl5:=hrows5.len
   rw[List.length_map,List.length_map]at hyl5
   refine ifd (fun hja=>?_) (fun hja=>?_)
   ·refine iIn (fun _ => ?_) (fun h => absurd (of_decide_eq_false h) (fun h => h (by omega)))
    refine cOw (aJ hc3.at 4) fun v μ4 h4 hle4 hap4 hR=>?_
    obtain⟨e,hc4,k4,rfl,hk4,hk44,_⟩:=hR
    obtain rfl:=e.symm
    have hk44:=hk44 (by decide)
    refine aD (by decide) ?_
    refine nEq (x:=((k4 / 3:Nat):Int)) (by show IntKind.i64.wrap (Int.tdiv (k4:Int) 3)=_;rw[Int.tdiv_eq_ediv_of_nonneg (by omega),aA (by omega) (by omega)];simp) ?_
    have drawn:∃size:Nat,size≤1000∧1+((k4 / 3:Nat):Int)*2=(size:Int)∧lvB size≤2:=by
     have w_:k4 / 3=0∨k4 / 3=1:=by omega
     rcases w_ with e|e
     ·exact⟨1,by decide,by rw[e];rfl,by rw[lvB,if_neg (by decide)];decide⟩
     ·exact⟨3,by decide,by rw[e];rfl,by rw[qIk];decide⟩
    obtain⟨size,hs1,hs2,hs3⟩:=drawn
    refine aC (by omega) (by omega) (aC (by omega) (by omega) ?_)
    rw[hs2]
    refine cOw (dR n (by omega) size hs1 (hc3.trans hc4).at) fun v μ5 h5 hle5 hap5 hR=>?_
    obtain⟨hc5,t,hrt,hdt⟩:=hR
    have w_:=Tm.invV hrt
    obtain⟨pt,rfl⟩:=w_
    intro rt
    refine gIn ?_ ?_ fun b' c' hb'=>?_
    ·show(ys5.length+1)*56≤_;omega
    ·exact Nat.le_trans (m:=100000000) (show ys5.length+1≤_ by omega) (by decide)
    refine aC (by omega) (by omega) ⟨(j'+1,ts++[t],(_,b',c'),μ5,h5),⟨by dsimp only;omega,by simp only[List.length_append,List.length_singleton];omega,?_,?_,hle3.trans hle5,(hc3.trans hc4).trans hc5⟩,by dsimp only;omega,⟨⟨rfl,rfl,rfl,rfl,rfl,rfl,rfl,rfl,rfl,rfl,trivial⟩,⟨rfl,rfl,rfl,rfl,rfl,rfl,trivial⟩,rfl,rfl⟩⟩
    ·intro x hx
     rcases List.mem_append.1 hx with hx|hx
     ·exact hts x hx
     ·rw[List.mem_singleton.1 hx];exact hdt.mono hs3
    ·dsimp only
     rw[List.map_append,List.map_append]
     exact(hrows5.mono hle5).append (Rows.one hrt (Tm.d_n _))
   ·have hlen : (ts.length : Int) = q.2 := by omega
    have hdr:Dr sg n mode 1 1 (.mk 9 q.1 (ts.map T.tm) []):=Dr.leaf (qFe (hsg.nm q hqm) (by omega) fun t ht=>(hts t ht).ok (by omega)) (by decide) (by decide) (by decide) (fun t ht=>(hts t ht).low) (fun _=>by rw[hlen];exact hqm) (fun t ht=>Nat.le_trans (hts t ht).size (by omega))
    have fin:∀{μ6:Mem},μ3.Le μ6→RowAt μ6 b5 c5 4 ys5→RepV μ6 (Gl.mk 9 q.1 (ts.map T.tm) []).d (.agg #[.int .i64 9,.string q.1,.slice (b5.map fun r=>⟨r,0,none⟩) ys5.length c5,.slice none 0 0]):=fun hle6 hat=>
     cQ (Rows.sl hat (hrows5.mono hle6) (Nat.le_trans (m:=1000) (by omega) (by decide))) (Rep.nilSl 4)
    refine ifd (fun hm2=>?_) (fun hm2=>?_)
    ·refine cOw (eV hc3.at 3) fun v μ4 h4 hle4 hap4 hR => ?_
     obtain⟨e,hc4,w,rfl⟩:=hR
     obtain rfl:=e.symm
     have hc4:=hc3.trans hc4
     refine rJ [8] fun μ6 hle6 hno6 hat6=>⟨fun hb=>?_,fun hb=>?_⟩
     ·intro rs
      refine bF [9] fun μ7 hle7 hno7 hat7=>?_
      refine cE (cA (k:=10) (a:=(none,0,0)) (b:=(some ⟨rs,0,none⟩,1,1))) fun v8 μ8 hle8 hR8=>?_
      obtain⟨rfl,rfl⟩:=hR8
      have hrep:=cQ (k:=10) (s:=⟨#[]⟩) (ts:=[]) (gs:=[.mk 9 q.1 (ts.map T.tm) []]) (Rep.nilSl 4) (Rows.sl hat7 (Rows.one ((fin hle6 hat6).mono hle7) (Gl.d_n _)) (by show 1≤_;decide))
      intro rg
      refine gIn ?_ ?_ fun b' c' hb'=>?_
      ·show(ys.length+1)*72≤_;omega
      ·exact Nat.le_trans (m:=100000000) (show ys.length+1≤_ by omega) (by decide)
      refine aC (by omega) (by omega) ⟨(0,k-1,gs++[(.mk 10 ⟨#[]⟩ [] [.mk 9 q.1 (ts.map T.tm) []])],(_,b',c'),([],none,0),_,_),⟨by dsimp only;omega,by dsimp only;omega,by simp only[List.length_append,List.length_singleton];omega,?_,?_,by simp only[List.length_append,List.length_singleton];omega,hle.trans (((hle3.trans hle6).trans hle7)),((hc4.mono hle6).mono hle7)⟩,by dsimp only;omega,⟨⟨rfl,rfl,rfl,?_,rfl,rfl,rfl,trivial⟩,⟨rfl,rfl,rfl,trivial⟩,rfl,rfl⟩⟩
      ·intro x hx
       rcases List.mem_append.1 hx with hx|hx
       ·exact hgs x hx
       ·rw[List.mem_singleton.1 hx];exact(hdr.neg rfl (by omega))
      ·intro μ9 hle9 hat9
       dsimp only at hle9 hat9 ⊢
       rw[List.map_append]
       exact(hrows.mono ((((hle3.trans hle6).trans hle7)).trans hle9)).append (Rows.one ((hrep.mono hle9)) (Gl.d_n _))
      ·show some (SV.val (.int .i64 _)) = some (SV.val (.int .i64 _))
       congr 3;omega
     ·intro rg
      refine gIn ?_ ?_ fun b' c' hb'=>?_
      ·show(ys.length+1)*72≤_;omega
      ·exact Nat.le_trans (m:=100000000) (show ys.length+1≤_ by omega) (by decide)
      refine aC (by omega) (by omega) ⟨(0,k-1,gs++[(.mk 9 q.1 (ts.map T.tm) [])],(_,b',c'),([],none,0),_,_),⟨by dsimp only;omega,by dsimp only;omega,by simp only[List.length_append,List.length_singleton];omega,?_,?_,by simp only[List.length_append,List.length_singleton];omega,hle.trans ((hle3.trans hle6)),(hc4.mono hle6)⟩,by dsimp only;omega,⟨⟨rfl,rfl,rfl,?_,rfl,rfl,rfl,trivial⟩,⟨rfl,rfl,rfl,trivial⟩,rfl,rfl⟩⟩
      ·intro x hx
       rcases List.mem_append.1 hx with hx|hx
       ·exact hgs x hx
       ·rw[List.mem_singleton.1 hx];exact(hdr.mono (by decide) (by decide))
      ·intro μ9 hle9 hat9
       dsimp only at hle9 hat9 ⊢
       rw[List.map_append]
       exact(hrows.mono (((hle3.trans hle6)).trans hle9)).append (Rows.one (((fin hle6 hat6).mono hle9)) (Gl.d_n _))
      ·show some (SV.val (.int .i64 _)) = some (SV.val (.int .i64 _))
       congr 3;omega
    ·intro rg
     refine gIn ?_ ?_ fun b' c' hb'=>?_
     ·show(ys.length+1)*72≤_;omega
     ·exact Nat.le_trans (m:=100000000) (show ys.length+1≤_ by omega) (by decide)
     refine aC (by omega) (by omega) ⟨(2,k-1,gs++[(.mk 9 q.1 (ts.map T.tm) [])],(_,b',c'),(ys5,b5,c5),_,_),⟨by dsimp only;omega,by dsimp only;omega,by simp only[List.length_append,List.length_singleton];omega,?_,?_,by simp only[List.length_append,List.length_singleton];omega,hle.trans (hle3),hc3⟩,by dsimp only;omega,⟨⟨rfl,rfl,rfl,?_,rfl,rfl,rfl,trivial⟩,⟨rfl,rfl,rfl,rfl,trivial⟩,rfl,rfl⟩⟩
     ·intro x hx
      rcases List.mem_append.1 hx with hx|hx
      ·exact hgs x hx
      ·rw[List.mem_singleton.1 hx];exact(hdr.mono (by decide) (by decide))
     ·intro μ9 hle9 hat9
      dsimp only at hle9 hat9 ⊢
      rw[List.map_append]
      exact(hrows.mono ((hle3).trans hle9)).append (Rows.one ((fin hle9 (hat9 (by decide)))) (Gl.d_n _))
     ·show some (SV.val (.int .i64 _)) = some (SV.val (.int .i64 _))
      congr 3;omega
  ·refine rFz [2] fun μ4 hle4 hno4 hat4 => .inl ⟨(hc1).mono hle4, gs, by omega, hgs, ?_⟩
   exact cQ (ts:=[]) (Rep.nilSl 4) (Rows.sl hat4 (hrows.mono hle4) (Nat.le_trans (m:=1000) (by omega) (by decide)))
 ·refine rJ [8] fun μ0 hle0 hno0 hat0 => ?_
  have hrows:=hP μ0 hle0 (fun _=>hat0)
  have hle:=hle.trans hle0
  have hc1:=hc1.mono hle0
  refine⟨fun hlt=>absurd (of_decide_eq_true hlt) (by omega),fun hlt=>?_⟩
  ·refine rFz [2] fun μ4 hle4 hno4 hat4 => .inl ⟨(hc1).mono hle4, gs, by omega, hgs, ?_⟩
   exact cQ (ts:=[]) (Rep.nilSl 4) (Rows.sl hat4 (hrows.mono hle4) (Nat.le_trans (m:=1000) (by omega) (by decide)))
end
end Go.Vx
namespace Go.Vx
open Go.Proofs Classical
abbrev Tr:=ByteArray×Int×Int
def qU(q:Tr):Value:= .agg #[.string q.1,.int .i64 q.2.1,.int .i64 q.2.2,.int .i64 0,.string ⟨#[]⟩,.slice none 0 0,.slice none 0 0]
def sgT(qs:List Tr):Sig:=qs.map fun q=>(q.1,q.2.1)
theorem Cur.other{μ h:Mem}{r rb:Nat}{o':Obj}(hc:Cur μ h r h)(hne:rb≠r):Cur μ (h.set rb o') r (h.set rb o'):=by
 obtain⟨o,h1,h2⟩:=hc.ex
 refine⟨o,h1,(Mem.set_self ?_).symm⟩
 rw[Mem.set_ne (Ne.symm hne),h2,Mem.set_at]
theorem Cur.ne{μ h:Mem}{r rb:Nat}(hc:Cur μ h r h)(hn:h rb=none):rb≠r:=fun e=>by
 obtain⟨o,_,h2⟩:=hc.ex
 rw[h2,e,Mem.set_at]at hn
 cases hn
theorem RowGiven.rowO{h h':Mem}{rb cap:Nat}{ty:TypeId}{es:Nat}{xs:List Value}(k:RowGiven h h' (some rb) cap ty es xs):h rb=none∧RowO h' rb cap ty es xs∧∃o,h'=h.set rb o:=by
 obtain⟨h1,h2,h3,h4,cs,rfl,h5,h6⟩:=k
 exact⟨h1,⟨cs,Mem.set_at _ _ _,h2,h3,h4,h5,h6⟩,_,rfl⟩
structure Trs (qs:List Tr):Prop where
 nm:∀(j:Nat) q,qs[j]? =some q→q.1=nmI j
 ar:∀q∈qs,1≤q.2.1∧q.2.1≤2
 lo:∀q∈qs,0≤q.2.2∧q.2.2≤1
theorem Trs.sig{qs:List Tr}(h:Trs qs)(h1:1≤qs.length)(h3:qs.length≤3):SigOk (sgT qs) where
 pos:=by rw[sgT,List.length_map];exact h1
 max:=by rw[sgT,List.length_map];exact h3
 nm:=fun q hq=>by
  have w_:=List.mem_map.1 hq
  obtain⟨t,ht,rfl⟩:=w_
  have w_:=List.getElem?_of_mem ht
  obtain⟨j,hj⟩:=w_
  have:=(List.getElem?_eq_some_iff.1 hj).1
  rw[h.nm j t hj]
  exact qHu (by omega)
 ar:=fun q hq=>by
  have w_:=List.mem_map.1 hq
  obtain⟨t,ht,rfl⟩:=w_
  have:=h.ar t ht
  exact⟨by dsimp only;omega,by dsimp only;omega⟩
theorem relZ_V(q:Tr):RelV (q.1,q.2.1) (qU q):=⟨q.2.2,0,⟨#[]⟩,none,0,0,none,0,0,rfl⟩
theorem jA{μ h h':Mem}{r r5 cap:Nat}{ty:TypeId}{es:Nat}{xs:List Value}(k:RowO h r5 cap ty es xs)(hne:r5≠r)(hc:Cur μ h r h'):RowO h' r5 cap ty es xs:=by
 obtain⟨o,_,rfl⟩:=hc.ex
 exact k.set_ne hne
theorem fM{g h:Mem}{r:Nat}{o:Obj}(k:g.Le h)(hr:g r=none):g.Le (h.set r o):=fun b x hb=>by
 have e:b≠r:=fun e=>by rw[e,hr]at hb;cases hb
 rw[Mem.set_ne e]
 exact k b x hb
theorem mN{μ g h h':Mem}{r:Nat}(k:g.Le h)(hr:g r=none)(hc:Cur μ h r h'):g.Le h':=by
 obtain⟨o,_,rfl⟩:=hc.ex
 exact fM k hr
theorem kN{g h:Mem}{r:Nat}(k:g.Le h)(hr:h r=none):g r=none:=by
 cases e:g r with
 |none=>rfl
 |some o=>rw[k r o e]at hr;cases hr
theorem lQ{μ g h:Mem}(k:Apart μ h)(hl:g.Le h):Apart μ g:=fun b hb=>kN hl (k b hb)
theorem qEx{μ μ' g g':Mem}(hl:μ.Le μ')(hg:g.Le g')(ha:Apart μ' g'):(μ.join g).Le (μ'.join g'):=fun b o hb=>by
 rw[Mem.join_get]at hb ⊢
 cases e:μ b with
 |some x=>
  rw[e]at hb
  rw[hl b x e]
  exact hb
 |none=>
  rw[e]at hb
  have hb':=hg b o hb
  cases e2:μ' b with
  |none=>exact hb'
  |some x=>
   have:=ha b (by rw[e2];simp)
   rw[this]at hb'
   cases hb'
theorem RowO.alone{h g:Mem}{r cap:Nat}{ty:TypeId}{es:Nat}{xs:List Value}(k:RowO h r cap ty es xs):∃o,h r=some o∧RowO (g.set r o) r cap ty es xs:=by
 obtain⟨cs,h1,h2⟩:=k
 exact⟨_,h1,cs,Mem.set_at _ _ _,h2⟩
theorem qEg{α:Type}:∀(xs:List α) (i:Nat) (x:α),i<xs.length→(xs.set i x).take (i+1)=xs.take i++[x]
 |a::r,0,x,_=>by simp
 |a::r,i+1,x,h=>by
  have:=qEg r i x (by simpa using h)
  simp[this]
structure DrI (μ1:Mem) (qs:List Tr) (ys:List Value) (r rb c:Nat) (mode:Int) (i:Nat) (ls:List Rl) (xs:List Value) (μ' h':Mem):Prop where
 hi:i≤ys.length
 hle:μ1.Le μ'
 hll:ls.length=i
 hc:Cur μ' h' r h'
 hx0:i=0→xs=ys
 hpos:0<i→rb≠r∧RelsO h' rb c (sgT qs) xs∧Apart μ' h'
 hxl:xs.length=ys.length
 hxy:∀j,i≤j→xs[j]? =ys[j]?
 hB:∃hB:Mem,hB.Le h'∧hB r=none∧hB rb=none∧Rows (μ'.join hB) 7 (ls.map Rl.d) (xs.take i)
 hg:∀(j:Nat) l q,ls[j]? =some l→qs[j]? =some q→l.name=q.1∧l.arity=q.2.1∧l.locals=q.2.2∧Dr (sgT qs) (q.2.1+q.2.2) mode 40 3 l.body
theorem DrI.next{μ1 μ2 μ6 h2 h6 hB hB':Mem}{qs:List Tr}{ys xs:List Value}{r rb c i n:Nat}{mode:Int}{ls:List Rl}{q:Tr}{g:Gl}{o:Obj}{k:Int}{s:ByteArray}{b1:Option Addr}{n1 c1:Nat}{b2:Option Addr}{n2 c2:Nat}
  (D:DrI μ1 qs ys r rb c mode i ls xs μ2 h2) (hlt:i<ys.length) (hq:qs[i]? =some q) (hn:q.2.1+q.2.2=(n:Int)) (hne:rb≠r) (hle26:μ2.Le μ6) (hcz:Cur μ6 h6 r h6) (hRO6:RelsO h6 rb c (sgT qs) xs) (hap6:Apart μ6 h6) (hBB:hB.Le hB') (hB6:hB'.Le h6) (hBn:hB' r=none∧hB' rb=none) (hrows:Rows (μ2.join hB) 7 (ls.map Rl.d) (xs.take i))
  (hrow2:RowO (h6.set rb o) rb c 75 7 (xs.set i (.agg #[.string q.1,.int .i64 q.2.1,.int .i64 q.2.2,.int .i64 k,.string s,.slice b1 n1 c1,.slice b2 n2 c2]))) (hrep:RepV (μ6.join hB') g.d (.agg #[.int .i64 k,.string s,.slice b1 n1 c1,.slice b2 n2 c2])) (hdr:Dr (sgT qs) n mode 40 3 g):
  DrI μ1 qs ys r rb c mode (i+1) (ls++[⟨q.1,q.2.1,q.2.2,g⟩]) (xs.set i (.agg #[.string q.1,.int .i64 q.2.1,.int .i64 q.2.2,.int .i64 k,.string s,.slice b1 n1 c1,.slice b2 n2 c2])) μ6 (h6.set rb o) where
 hi:=hlt
 hle:=D.hle.trans hle26
 hll:=by simp only[List.length_append,List.length_singleton];rw[D.hll]
 hc:=hcz.other hne
 hx0:=fun e=>absurd e (by omega)
 hpos:=fun _=>⟨hne,⟨hrow2,by rw[List.length_set];exact hRO6.len,fun j q' hq'=>by
  by_cases ej:j=i
  ·subst ej
   refine⟨_,List.getElem?_set_self (by rw[D.hxl];exact hlt),?_⟩
   rw[sgT,List.getElem?_map,hq]at hq'
   cases hq'
   exact⟨_,_,_,_,_,_,_,_,_,rfl⟩
  ·have w_ := hRO6.at_ j q' hq'
   obtain⟨x,hx,hV⟩:=w_
   exact⟨x,by rw[List.getElem?_set_ne (Ne.symm ej)];exact hx,hV⟩⟩,hap6.set (qAc hRO6.row hap6 (.inl rfl))⟩
 hxl:=by rw[List.length_set];exact D.hxl
 hxy:=fun j hj=>by
  rw[List.getElem?_set_ne (by omega)]
  exact D.hxy j (by omega)
 hB:=by
  refine⟨hB',fM hB6 hBn.2,hBn.1,hBn.2,?_⟩
  rw[qEg _ _ _ (by rw[D.hxl];exact hlt),List.map_append]
  refine(hrows.mono (qEx hle26 hBB (lQ hap6 hB6))).append (Rows.one (d:=(Rl.mk q.1 q.2.1 q.2.2 g).d) ?_ (Rl.d_n _))
  have:=hrep.cells
  rw[Rl.d_eq]
  exact⟨_,rfl,RepS.str (RepS.int (RepS.int (RepS.last this)))⟩
 hg:=fun j l q' hl hq'=>by
  rw[List.getElem?_append]at hl
  split at hl
  ·exact D.hg j l q' hl hq'
  ·rename_i hj
   have hll:=D.hll
   have w_:=List.getElem?_eq_some_iff.1 hl
   obtain⟨h1',h2'⟩:=w_
   rw[List.length_singleton]at h1'
   have ej:j-ls.length=0:=by omega
   rw[ej]at hl
   cases hl
   have ej:j=i:=by omega
   subst ej
   rw[hq]at hq'
   cases hq'
   exact⟨rfl,rfl,rfl,by rw[hn];exact hdr⟩
section
variable {μ:Mem}
set_option maxHeartbeats 2000000 in
theorem lE{h:Mem}{r:Nat}(hc:Cur μ h r h)(mode:Int):
  SpecH Tryz.prog 18 [.pointer (some ⟨r,0,none⟩),.int .i64 mode] μ h fun v μ' _=>∃l,DrP mode l∧RepV μ' (Pg.mk l).d v:=by
 refine SpecH.mk [56] Tryz.func18 (by kernel_rfl) ?_
 intro r4 r5_ rn
 refine bF [2] fun μ0 hle0 hno0 hat0=>qN (aJ (hc.mono hle0) 3) fun v μ1 h1 hle1 hap1 hR=>?_
 obtain⟨e,hc1,k0,rfl,-,hk3,-⟩:=hR
 obtain rfl:=e.symm
 have hk3:=hk3 (by decide)
 have kn:=Rows.sl hat0 (Nm.rows ([[112],[113],[114]].map mkS)) (by decide)
 have w_:=Rep.sl kn
 obtain⟨bz,cz,ez,hsz⟩:=w_
 have w_:=Value.slice.inj ez
 obtain⟨e1,e2,_⟩:=w_
 rw[List.length_map,List.length_map,←e1]at hsz
 have hsz:Sl μ0 1 (some ⟨rn,0,none⟩) 3 (([[112],[113],[114]].map mkS).map D.s):=hsz
 have hhd:=hsz.headL (c:=3) (i:=1+k0) (by omega)
 rw[←List.map_take]at hhd
 refine aC (by omega) (by omega) ?_
 refine aE 0 (1+k0) rfl (by omega) (by omega) (by omega) ?_
 refine bS (fun z:Nat×List Tr×(List Value×Option Nat×Nat)×Mem×Mem=>z.1≤1+k0∧z.2.1.length=z.1∧Trs z.2.1∧z.2.2.1.1=z.2.1.map qU∧(z.2.2.1.2.1=none→z.2.2.1.1=[])∧μ0.Le z.2.2.2.1∧Cur z.2.2.2.1 h r z.2.2.2.2)
  (fun (i, _, (ys, b, c), μ', h') => ⟨[(0, .val (.pointer (some ⟨r, 0, none⟩))), (1, .val (.int .i64 mode)), (4, .loc 0 r4 0), (5, .loc 1 r5_ 0), (18, .val (.slice (if 3 = 0 then some ⟨rn, 0, none⟩ else (some (⟨rn, 0, none⟩ : Addr)).map (·.add (0 * 1))) (1 + k0 - 0) 3)), (19, .val (.int .i64 ((1 + k0 - 0 : Nat) : Int))), (20, .val (.int .i64 i))],
   [(0,some (.cells r4 [.val (.slice none 0 0)] 25)),(1,some (.cells r5_ [.row 3 b ys.length c] 25)),(3,some (.row b c 75 7 ys))],4,μ',h'⟩) (fun z=>1+k0-z.1)
  (0,[],([],none,0),μ0,h1) ⟨Nat.zero_le _,rfl,⟨(fun _ _ h=>nomatch h),(fun _ h=>nomatch h),(fun _ h=>nomatch h)⟩,rfl,fun _=>rfl,Mem.Le.refl _,hc1⟩ (fun(_,_,(_,_,_),_,_)=>⟨rfl,rfl⟩)
  ⟨⟨⟨_,rfl,.inl rfl⟩,⟨_,rfl,.inl rfl⟩,⟨_,rfl,.inl rfl⟩,⟨_,rfl,.inl rfl⟩,⟨_,rfl,.inl rfl⟩,⟨_,rfl,.inl rfl⟩,⟨_,rfl,.inl rfl⟩,trivial⟩,⟨.inl rfl,.inr (.inr ⟨_,_,_,_,rfl,rfl,.inr ⟨3,rfl,rfl,Nat.le_refl _⟩,trivial⟩),.inr (.inl ⟨_,_,rfl,Nat.le_refl _⟩),trivial⟩,rfl,rfl⟩ ?_
 clear hc1 hap1
 rintro⟨i,qs,⟨ys,b,c⟩,μ1,h1⟩ ⟨hi,hql,hT,hys,hbn,hle,hc1⟩
 dsimp only at hi hql hT hys hbn hle hc1
 have hyl:ys.length=qs.length:=by rw[hys,List.length_map]
 refine ifd (fun hlt=>?_) (fun hlt=>?_)
 ·have hi3 : i < 3 := by omega
  have w_:i=0∨i=1∨i=2:=by omega
  have hnm:=Nm.elem (s:=nmI i) (hhd.mono hle) (i:=i) (by
   rw[List.getElem?_take,if_pos (by omega)]
   rcases w_ with rfl|rfl|rfl<;>rfl)
  obtain⟨ad,hel⟩:=hnm
  refine eIn hel ?_
  refine cOw (aJ hc1.at 2) fun v μ2 h2 hle2 hap2 hR=>?_
  obtain⟨e,hc2,ka,rfl,-,hka,-⟩:=hR
  obtain rfl:=e.symm
  have hka:=hka (by decide)
  refine aC (by omega) (by omega) ?_
  refine cOw (aJ (hc1.trans hc2).at 2) fun v μ2 h3 hle3 hap3 hR=>?_
  obtain⟨e,hc3,kl,rfl,-,hkl,-⟩:=hR
  obtain rfl:=e.symm
  have hkl:=hkl (by decide)
  intro rs
  refine gIn ?_ ?_ fun b' c' hb'=>?_
  ·show(ys.length+1)*104≤_;omega
  ·exact Nat.le_trans (m:=100000000) (show ys.length+1≤_ by omega) (by decide)
  refine aC (by omega) (by omega) ⟨(i+1,qs++[(nmI i,1+(ka:Int),(kl:Int))],(_,b',c'),μ1,h3),⟨by dsimp only;omega,by simp only[List.length_append,List.length_singleton];omega,⟨fun j q hq=>?_,fun q hq=>?_,fun q hq=>?_⟩,?_,fun e=>absurd (hb' e) (by simp),hle,(hc1.trans hc2).trans hc3⟩,by dsimp only;omega,⟨⟨rfl,rfl,rfl,rfl,rfl,rfl,rfl,trivial⟩,⟨rfl,rfl,rfl,trivial⟩,rfl,rfl⟩⟩
  ·dsimp only at hq
   rw[List.getElem?_append]at hq
   split at hq
   ·exact hT.nm j q hq
   ·rename_i hj
    have w_:=List.getElem?_eq_some_iff.1 hq
    obtain⟨h1',h2'⟩:=w_
    rw[List.length_singleton]at h1'
    have ej:j-qs.length=0:=by omega
    rw[ej]at hq
    cases hq
    have:j=i:=by omega
    rw[this]
  ·rcases List.mem_append.1 hq with hq | hq
   ·exact hT.ar q hq
   ·rw[List.mem_singleton.1 hq];dsimp only;omega
  ·rcases List.mem_append.1 hq with hq | hq
   ·exact hT.lo q hq
   ·rw[List.mem_singleton.1 hq];dsimp only;omega
  ·dsimp only
   rw[hys,List.map_append]
   rfl
 ·obtain⟨rb,rfl⟩:∃rb,b=some rb:=by
   cases b with
   |none=>
    have:=hbn rfl
    rw[this]at hyl
    simp only[List.length_nil]at hyl
    omega
   |some rb=>exact⟨rb,rfl⟩
  have hsig:=hT.sig (by omega) (by omega)
  have hys3:ys.length≤3:=by omega
  have hys1:1≤ys.length:=by omega
  have hsl:(sgT qs).length=ys.length:=by rw[sgT,List.length_map,hyl]
  refine lIn (fun z:Nat×List Rl×List Value×Mem×Mem=>DrI μ1 qs ys r rb c mode z.1 z.2.1 z.2.2.1 z.2.2.2.1 z.2.2.2.2)
   (fun (i, _, _, μ', h') => ⟨[(0, .val (.pointer (some ⟨r, 0, none⟩))), (1, .val (.int .i64 mode)), (4, .loc 0 r4 0), (5, .loc 1 r5_ 0), (38, .row 3 (some rb) ys.length c), (39, .val (.int .i64 ys.length)), (40, .val (.int .i64 i))],
    (0,some (.cells r4 [.val (.slice none 0 0)] 25))::(1,some (.cells r5_ [.row 3 (some rb) ys.length c] 25))::(match i with|0=>[(3,some (.row (some rb) c 75 7 ys))]|_+1=>[]),4,μ',h'⟩) (fun z=>ys.length-z.1)
   (0,[],ys,μ1,h1) ⟨Nat.zero_le _,Mem.Le.refl _,rfl,hc1.at,fun _=>rfl,fun h=>absurd h (by omega),rfl,fun _ _=>rfl,⟨Mem.nil,(fun _ _ h=>nomatch h),rfl,rfl,Rows.nil⟩,fun _ _ _ h=>nomatch h⟩ (fun(i,_,_,_,_)=>match i with|0=>⟨rfl,rfl⟩|_+1=>⟨rfl,rfl⟩)
   ⟨⟨rfl,rfl,rfl,rfl,rfl,rfl,rfl,trivial⟩,⟨rfl,rfl,rfl,trivial⟩,rfl,rfl⟩ ?_
  clear hi hlt
  rintro⟨i,ls,xs,μ2,h2⟩ hDI
  dsimp only at hDI
  obtain⟨hi,hle1,hll,hc2,hx0,hpos,hxl,hxy,⟨hB,hBl,hBr,hBrb,hrows⟩,hgood⟩:=id hDI
  have hle:=hle1
  refine ifd (fun hlt=>?_) (fun hlt=>?_)
  ·obtain ⟨q, hq⟩ : ∃ q, qs[i]? = some q := ⟨_, List.getElem?_eq_getElem (by omega)⟩
   have hqm:=List.mem_of_getElem? hq
   have hqa:=hT.ar q hqm
   have hqo:=hT.lo q hqm
   have hxi:xs[i]? =some (qU q):=by rw[hxy i (Nat.le_refl _),hys,List.getElem?_map,hq];rfl
   obtain⟨n,hn⟩:∃n:Nat,q.2.1+q.2.2=(n:Int):=⟨(q.2.1+q.2.2).toNat,by omega⟩
   match i with
   |0=>
    have hxe:=hx0 rfl
    have hxi0:ys[0]? =some (qU q):=by rw[←hxe];exact hxi
    refine bK 0 rfl (by omega) (bL (qU q) hxi0 ?_)
    intro r9
    refine aC (by omega) (by omega) ?_
    rw[hn]
    refine tQ [] [3] (fun h=>nomatch h) fun h3 hno hgv=>?_
    have w_:=hgv.rowO
    obtain⟨hrbn,hrow,o,rfl⟩:=w_
    have hne:=hc2.ne hrbn
    have hRO:RelsO (h2.set rb o) rb c (sgT qs) xs:=by
     rw[hxe]
     exact⟨hrow,by rw[hsl],fun j q' hq'=>by
     rw[sgT,List.getElem?_map]at hq'
     have w_:=Option.map_eq_some_iff.1 hq'
     obtain⟨q2,h1',rfl⟩:=w_
     exact⟨qU q2,by rw[hys,List.getElem?_map,h1'];rfl,relZ_V q2⟩⟩
    have hcl:=fG (hc2.other hne (o':=o)) hRO hne hsig n (by omega) 0 (by decide) mode
    rw[hsl]at hcl
    refine qN hcl fun v μ3 h3 hle3 hap3 hR=>?_
    obtain⟨hc3,gs0,hgl,hgd,hgr⟩:=hR
    have w_:=Gl.invV hgr
    obtain⟨p0,rfl⟩:=w_
    have hRO3:=hRO.cur hne hc3
    have hBl3:hB.Le h3:=by
     have w_:=hc3.ex
     obtain⟨o3,_,e3⟩:=w_
     rw[e3]
     exact fM (fM hBl hBrb) hBr
    have hc3:=hc3.at
    have hd0:=(Dr.conj hgd (by omega)).mono (m':=9) (b':=1) (by omega) (Nat.le_refl _)
    intro rs hms hos
    have hos:h3 rs=none:=hos
    have hr5:rs≠r:=hc3.ne hos
    have hr5b:rs≠rb:=fun e=>by
     have w_:=hRO3.row.obj
     obtain⟨cs,hcs⟩:=w_
     rw[e,hcs]at hos
     cases hos
    have hrow0:RowO (h3.set rs (.cells [Value.int .i64 7,.string ⟨#[]⟩,.slice p0.1.1 0 p0.1.2,.slice p0.2.1 gs0.length p0.2.2].toArray 73 (0,0))) rs 1 73 4 [.agg #[.int .i64 7,.string ⟨#[]⟩,.slice p0.1.1 0 p0.1.2,.slice p0.2.1 gs0.length p0.2.2]]:=
     ⟨_,Mem.set_at _ _ _,Nat.le_refl _,by show 1≤_;decide,fun x hx=>by rw[List.mem_singleton.1 hx];exact⟨rfl,by simp[aB,Value.oneCell']⟩,rfl,by simp[aB]⟩
    intro r11
    refine cOw (aJ (hc3.other hr5) 3) fun v μ4 h4 hle4 hap4 hR=>?_
    obtain⟨e,hc4,k3,rfl,-,hk33,-⟩:=hR
    obtain rfl:=e.symm
    have hk33:=hk33 (by decide)
    have hRO4:RelsO h4 rb c (sgT qs) xs:=RelsO.cur ⟨hRO3.row.set_ne hr5b.symm,hRO3.len,hRO3.at_⟩ hne hc4
    have hrow0:=jA hrow0 hr5 hc4
    have hBl4:hB.Le h4:=mN (fM hBl3 (kN hBl3 hos)) hBr hc4
    refine lIn (fun z:Nat×List Gl×List Value×(Nat×Nat)×Mem×Mem=>z.1≤2∧z.2.1.length+z.1≤3∧z.2.1≠[]∧(∀g∈z.2.1,Dr (sgT qs) n mode 9 1 g)∧RowO z.2.2.2.2.2 z.2.2.2.1.1 z.2.2.2.1.2 73 4 z.2.2.1∧Rows z.2.2.2.2.1 4 (z.2.1.map Gl.d) z.2.2.1∧μ3.Le z.2.2.2.2.1∧Cur z.2.2.2.2.1 z.2.2.2.2.2 r z.2.2.2.2.2∧Apart z.2.2.2.2.1 z.2.2.2.2.2∧z.2.2.2.1.1≠r∧z.2.2.2.1.1≠rb∧RelsO z.2.2.2.2.2 rb c (sgT qs) xs∧hB.Le z.2.2.2.2.2∧hB z.2.2.2.1.1=none)
     (fun (k, _, us, (r5, c5), μ', h') => ⟨[(0, .val (.pointer (some ⟨r, 0, none⟩))), (1, .val (.int .i64 mode)), (4, .loc 0 r4 0), (5, .loc 1 r5_ 0), (8, .val (.int .i64 ((0 : Nat) : Int))), (10, .val (.int .i64 n)), (11, .loc 5 r11 0), (12, .val (.int .i64 k)), (38, .row 3 (some rb) ys.length c), (39, .val (.int .i64 ys.length)), (40, .val (.int .i64 ((0 : Nat) : Int)))],
      [(0,some (.cells r4 [.val (.slice none 0 0)] 25)),(1,some (.cells r5_ [.row 3 (some rb) ys.length c] 25)),(5,some (.cells r11 [.val (.int .i64 8),.val (.string ⟨#[]⟩),.val (.slice none 0 0),.val (.slice (some ⟨r5,0,none⟩) us.length c5)] 73))],6,μ',h'⟩) (fun z=>z.1)
     (k3,[.mk 7 ⟨#[]⟩ [] gs0],[.agg #[.int .i64 7,.string ⟨#[]⟩,.slice p0.1.1 0 p0.1.2,.slice p0.2.1 gs0.length p0.2.2]],(rs,1),μ3,h4) ⟨by dsimp only;omega,by simp only[List.length_singleton];omega,(fun e=>nomatch e),(fun g hg=>by rw[List.mem_singleton.1 hg];exact hd0),hrow0,Rows.one hgr (Gl.d_n _),Mem.Le.refl _,hc4.at,hap4,hr5,hr5b,hRO4,hBl4,kN hBl3 hos⟩ (fun(_,_,_,(_,_),_,_)=>⟨rfl,rfl⟩)
     ⟨⟨rfl,rfl,rfl,rfl,rfl,rfl,rfl,rfl,rfl,rfl,rfl,trivial⟩,⟨rfl,rfl,rfl,trivial⟩,rfl,rfl⟩ ?_
    clear hc4 hap4 hRO4 hBl4 hrow0 hr5 hr5b
    rintro⟨k,gs,us,⟨r5,c5⟩,μ6,h6⟩ ⟨hk,hkl,hgne,hgs,hrow6,hrow5,hle6,hc6,hap6,hr5,hr5b,hRO6,hBl6,hB5⟩
    dsimp only at hk hkl hgne hgs hrow6 hrow5 hle6 hc6 hap6 hr5 hr5b hRO6 hBl6 hB5
    have hul:=hrow5.len
    rw[List.length_map]at hul
    refine ifd (fun hkp=>?_) (fun hkz=>?_)
    ·refine cOw (aJ hc6 5) fun v μ7 h7 hle7 hap7 hR => ?_
     obtain⟨e,hc7,k5,rfl,-,hk55,-⟩:=hR
     obtain rfl:=e.symm
     have hk55:=hk55 (by decide)
     have hrow7:=jA hrow6 hr5 hc7
     have hRO7:=hRO6.cur hne hc7
     have hBl7:=mN hBl6 hBr hc7
     refine aD (by decide) ?_
     refine nEq (x:=((k5 / 2:Nat):Int)) (by show IntKind.i64.wrap (Int.tdiv (k5:Int) 2)=_;rw[Int.tdiv_eq_ediv_of_nonneg (by omega),aA (by omega) (by omega)];simp) ?_
     have hcl5:=fG hc7.at hRO7 hne hsig n (by omega) (k5 / 2) (by omega) mode
     rw[hsl]at hcl5
     refine cOw hcl5 fun v μ8 h8 hle8 hap8 hR=>?_
     obtain⟨hc8,gs8,hgl8,hgd8,hgr8⟩:=hR
     have w_:=Gl.invV hgr8
     obtain⟨p8,rfl⟩:=w_
     have hd8:=(Dr.conj hgd8 (by omega)).mono (m':=9) (b':=1) (by omega) (Nat.le_refl _)
     have hrow8:=jA hrow7 hr5 hc8
     have hRO8:=hRO7.cur hne hc8
     have hBl8:=mN hBl7 hBr hc8
     have hc8:=hc8.at
     intro rg
     refine nG us rfl hrow8 ?_ ?_ fun r9' c9 o9 hrow9 hor=>?_
     ·show(us.length+1)*72≤_;omega
     ·exact Nat.le_trans (m:=100000000) (show us.length+1≤_ by omega) (by decide)
     have hn1:r9'≠r:=hor.elim (fun e=>by rw[e];exact hr5) fun e=>hc8.ne e.1
     have hn2:r9'≠rb:=hor.elim (fun e=>by rw[e];exact hr5b) fun e e2=>by
      have w_:=hRO8.row.obj
      obtain⟨cs,hcs⟩:=w_
      have e1:h8 r9'=none:=e.1
      rw[e2,hcs]at e1
      cases e1
     have hn3:hB r9'=none:=hor.elim (fun e=>by rw[e];exact hB5) fun e=>kN hBl8 e.1
     refine aC (by omega) (by omega) ⟨(k-1,gs++[.mk 7 ⟨#[]⟩ [] gs8],_,(r9',c9),μ8,_),⟨by dsimp only;omega,by simp only[List.length_append,List.length_singleton];omega,by simp,?_,hrow9,?_,hle6.trans hle8,hc8.other hn1,hap8.set (qAc hrow8 hap8 hor),hn1,hn2,⟨hRO8.row.set_ne hn2.symm,hRO8.len,hRO8.at_⟩,fM hBl8 hn3,hn3⟩,by dsimp only;omega,⟨⟨rfl,rfl,rfl,rfl,rfl,rfl,rfl,?_,rfl,rfl,rfl,trivial⟩,⟨rfl,rfl,?_,trivial⟩,rfl,rfl⟩⟩
     ·intro x hx
      rcases List.mem_append.1 hx with hx|hx
      ·exact hgs x hx
      ·rw[List.mem_singleton.1 hx];exact hd8
     ·dsimp only
      rw[List.map_append]
      exact(hrow5.mono hle8).append (Rows.one hgr8 (Gl.d_n _))
     ·show some (SV.val (.int .i64 _)) = some (SV.val (.int .i64 _))
      congr 3;omega
     ·rw[List.length_append];rfl
    ·have hle26 : μ2.Le μ6 := hle3.trans hle6
     refine ifd (fun h1=>?_) (fun h1=>?_)
     ·refine cOw (eV hc6 2) fun v μ7 h7 hle7 hap7 hR => ?_
      obtain⟨e,hc7,w,rfl⟩:=hR
      obtain rfl:=e.symm
      have hrow6:=jA hrow6 hr5 hc7
      have hRO6:=hRO6.cur hne hc7
      have hBl6:=mN hBl6 hBr hc7
      have hcz:=hc7.at
      have hap6:=hap7
      refine iIn (fun hw=>?_) (fun hw=>?_)
      ·obtain ⟨g0, hg0⟩ : ∃ g0, gs[0]? = some g0 := ⟨_, List.getElem?_eq_getElem (List.length_pos_iff.2 hgne)⟩
       obtain⟨u0,hu0,hru0⟩:∃u0,us[0]? =some u0∧RepV μ6 g0.d u0:=by
        cases hrow5g:gs with
        |nil=>exact absurd hrow5g hgne
        |cons a rr=>
         rw[hrow5g]at hrow5 hg0
         cases hg0
         cases hrow5 with
         |cons ha hb' hc'=>exact⟨_,rfl,ha⟩
       have w_:=Gl.invV hru0
       obtain⟨p5,rfl⟩:=w_
       have hdg:=(hgs g0 (List.mem_of_getElem? hg0)).mono (m':=40) (b':=3) (by decide) (by decide)
       refine qLi 0 rfl (by omega) ?_
       refine oIn _ rfl (hrow6.ownA hu0 rfl) ?_
       refine cS ⟨rb,0,none⟩ rfl (by omega) (by omega) ?_
       refine iU (k:=0) (j:=3) (x:=qU q) (.agg #[.string q.1,.int .i64 q.2.1,.int .i64 q.2.2,.int .i64 g0.kind,.string g0.name,.slice p5.1.1 g0.terms.length p5.1.2,.slice p5.2.1 g0.goals.length p5.2.2]) hRO6.row hxi (by simp[Addr.add_lit']) rfl (show 3+4≤7 by decide) (by simp[Value.oneCell']) fun o hrow2=>?_
       exact aC (by omega) (by omega) ⟨(0+1,ls++[⟨q.1,q.2.1,q.2.2,g0⟩],xs.set (0) (.agg #[.string q.1,.int .i64 q.2.1,.int .i64 q.2.2,.int .i64 g0.kind,.string g0.name,.slice p5.1.1 g0.terms.length p5.1.2,.slice p5.2.1 g0.goals.length p5.2.2]),_,_),hDI.next (by omega) hq hn hne hle26 hcz hRO6 hap6 ((Mem.Le.refl hB)) (hBl6) ((And.intro hBr hBrb)) hrows hrow2 ((hru0.mono (Mem.le_join μ6 hB))) (hdg),by dsimp only;omega,⟨⟨rfl,rfl,rfl,rfl,rfl,rfl,rfl,trivial⟩,⟨rfl,rfl,trivial⟩,rfl,rfl⟩⟩
      ·have w_ := RowO.alone (g := hB) hrow6
       obtain⟨o6,ho6,hrowB⟩:=w_
       have hB6:(hB.set r5 o6).Le h7:=fun b x hb=>by
        by_cases e:b=r5
        ·subst e;rw[Mem.set_at]at hb;cases hb;exact ho6
        ·rw[Mem.set_ne e]at hb;exact hBl6 b x hb
       have hBB:hB.Le (hB.set r5 o6):=fM (Mem.Le.refl _) hB5
       have hBn:(hB.set r5 o6) r=none∧(hB.set r5 o6) rb=none:=⟨by rw[Mem.set_ne (Ne.symm hr5)];exact hBr,by rw[Mem.set_ne (Ne.symm hr5b)];exact hBrb⟩
       have hgoal:RepV (μ6.join (hB.set r5 o6)) (Gl.mk 8 ⟨#[]⟩ [] gs).d (.agg #[.int .i64 8,.string ⟨#[]⟩,.slice none 0 0,.slice (some ⟨r5,0,none⟩) us.length c5]):=cQ (ts:=[]) (Rep.nilSl 4) (hrowB.rep (Mem.le_join_right (lQ hap6 hB6)) (hrow5.mono (Mem.le_join _ _)))
       have hdr:Dr (sgT qs) n mode 40 3 (.mk 8 ⟨#[]⟩ [] gs):=(Dr.disj hgs (by omega) hgne).mono (by omega) (by omega)
       refine cS ⟨rb,0,none⟩ rfl (by omega) (by omega) ?_
       refine iU (k:=0) (j:=3) (x:=qU q) (.agg #[.string q.1,.int .i64 q.2.1,.int .i64 q.2.2,.int .i64 8,.string ⟨#[]⟩,.slice none 0 0,.slice (some ⟨r5,0,none⟩) us.length c5]) hRO6.row hxi (by simp[Addr.add_lit']) rfl (show 3+4≤7 by decide) (by simp[Value.oneCell']) fun o hrow2=>?_
       exact aC (by omega) (by omega) ⟨(0+1,ls++[⟨q.1,q.2.1,q.2.2,(Gl.mk 8 ⟨#[]⟩ [] gs)⟩],xs.set (0) (.agg #[.string q.1,.int .i64 q.2.1,.int .i64 q.2.2,.int .i64 8,.string ⟨#[]⟩,.slice none 0 0,.slice (some ⟨r5,0,none⟩) us.length c5]),_,_),hDI.next (by omega) hq hn hne hle26 hcz hRO6 hap6 (hBB) (hB6) (hBn) hrows hrow2 (hgoal) (hdr),by dsimp only;omega,⟨⟨rfl,rfl,rfl,rfl,rfl,rfl,rfl,trivial⟩,⟨rfl,rfl,trivial⟩,rfl,rfl⟩⟩
     ·have hcz := hc6
      have w_:=RowO.alone (g:=hB) hrow6
      obtain⟨o6,ho6,hrowB⟩:=w_
      have hB6:(hB.set r5 o6).Le h6:=fun b x hb=>by
       by_cases e:b=r5
       ·subst e;rw[Mem.set_at]at hb;cases hb;exact ho6
       ·rw[Mem.set_ne e]at hb;exact hBl6 b x hb
      have hBB:hB.Le (hB.set r5 o6):=fM (Mem.Le.refl _) hB5
      have hBn:(hB.set r5 o6) r=none∧(hB.set r5 o6) rb=none:=⟨by rw[Mem.set_ne (Ne.symm hr5)];exact hBr,by rw[Mem.set_ne (Ne.symm hr5b)];exact hBrb⟩
      have hgoal:RepV (μ6.join (hB.set r5 o6)) (Gl.mk 8 ⟨#[]⟩ [] gs).d (.agg #[.int .i64 8,.string ⟨#[]⟩,.slice none 0 0,.slice (some ⟨r5,0,none⟩) us.length c5]):=cQ (ts:=[]) (Rep.nilSl 4) (hrowB.rep (Mem.le_join_right (lQ hap6 hB6)) (hrow5.mono (Mem.le_join _ _)))
      have hdr:Dr (sgT qs) n mode 40 3 (.mk 8 ⟨#[]⟩ [] gs):=(Dr.disj hgs (by omega) hgne).mono (by omega) (by omega)
      refine cS ⟨rb,0,none⟩ rfl (by omega) (by omega) ?_
      refine iU (k:=0) (j:=3) (x:=qU q) (.agg #[.string q.1,.int .i64 q.2.1,.int .i64 q.2.2,.int .i64 8,.string ⟨#[]⟩,.slice none 0 0,.slice (some ⟨r5,0,none⟩) us.length c5]) hRO6.row hxi (by simp[Addr.add_lit']) rfl (show 3+4≤7 by decide) (by simp[Value.oneCell']) fun o hrow2=>?_
      exact aC (by omega) (by omega) ⟨(0+1,ls++[⟨q.1,q.2.1,q.2.2,(Gl.mk 8 ⟨#[]⟩ [] gs)⟩],xs.set (0) (.agg #[.string q.1,.int .i64 q.2.1,.int .i64 q.2.2,.int .i64 8,.string ⟨#[]⟩,.slice none 0 0,.slice (some ⟨r5,0,none⟩) us.length c5]),_,_),hDI.next (by omega) hq hn hne hle26 hcz hRO6 hap6 (hBB) (hB6) (hBn) hrows hrow2 (hgoal) (hdr),by dsimp only;omega,⟨⟨rfl,rfl,rfl,rfl,rfl,rfl,rfl,trivial⟩,⟨rfl,rfl,trivial⟩,rfl,rfl⟩⟩
   |i+1=>
    have w_:=hpos (by omega)
    obtain⟨hne,hRO,hap2⟩:=w_
    refine qLi (i+1) rfl (by omega) ?_
    refine oIn (aB (qU q)) rfl (hRO.row.ownA hxi rfl) ?_
    intro r9
    refine aC (by omega) (by omega) ?_
    rw[hn]
    have hcl:=fG hc2 hRO hne hsig n (by omega) 0 (by decide) mode
    rw[hsl]at hcl
    refine cOw hcl fun v μ3 h3 hle3 hap3 hR=>?_
    obtain⟨hc3,gs0,hgl,hgd,hgr⟩:=hR
    have w_:=Gl.invV hgr
    obtain⟨p0,rfl⟩:=w_
    have hRO3:=hRO.cur hne hc3
    have hBl3:hB.Le h3:=by
     have w_:=hc3.ex
     obtain⟨o3,_,e3⟩:=w_
     rw[e3]
     exact fM hBl hBr
    have hc3:=hc3.at
    have hd0:=(Dr.conj hgd (by omega)).mono (m':=9) (b':=1) (by omega) (Nat.le_refl _)
    intro rs hms hos
    have hos:h3 rs=none:=hos
    have hr5:rs≠r:=hc3.ne hos
    have hr5b:rs≠rb:=fun e=>by
     have w_:=hRO3.row.obj
     obtain⟨cs,hcs⟩:=w_
     rw[e,hcs]at hos
     cases hos
    have hrow0:RowO (h3.set rs (.cells [Value.int .i64 7,.string ⟨#[]⟩,.slice p0.1.1 0 p0.1.2,.slice p0.2.1 gs0.length p0.2.2].toArray 73 (0,0))) rs 1 73 4 [.agg #[.int .i64 7,.string ⟨#[]⟩,.slice p0.1.1 0 p0.1.2,.slice p0.2.1 gs0.length p0.2.2]]:=
     ⟨_,Mem.set_at _ _ _,Nat.le_refl _,by show 1≤_;decide,fun x hx=>by rw[List.mem_singleton.1 hx];exact⟨rfl,by simp[aB,Value.oneCell']⟩,rfl,by simp[aB]⟩
    intro r11
    refine cOw (aJ (hc3.other hr5) 3) fun v μ4 h4 hle4 hap4 hR=>?_
    obtain⟨e,hc4,k3,rfl,-,hk33,-⟩:=hR
    obtain rfl:=e.symm
    have hk33:=hk33 (by decide)
    have hRO4:RelsO h4 rb c (sgT qs) xs:=RelsO.cur ⟨hRO3.row.set_ne hr5b.symm,hRO3.len,hRO3.at_⟩ hne hc4
    have hrow0:=jA hrow0 hr5 hc4
    have hBl4:hB.Le h4:=mN (fM hBl3 (kN hBl3 hos)) hBr hc4
    refine lIn (fun z:Nat×List Gl×List Value×(Nat×Nat)×Mem×Mem=>z.1≤2∧z.2.1.length+z.1≤3∧z.2.1≠[]∧(∀g∈z.2.1,Dr (sgT qs) n mode 9 1 g)∧RowO z.2.2.2.2.2 z.2.2.2.1.1 z.2.2.2.1.2 73 4 z.2.2.1∧Rows z.2.2.2.2.1 4 (z.2.1.map Gl.d) z.2.2.1∧μ3.Le z.2.2.2.2.1∧Cur z.2.2.2.2.1 z.2.2.2.2.2 r z.2.2.2.2.2∧Apart z.2.2.2.2.1 z.2.2.2.2.2∧z.2.2.2.1.1≠r∧z.2.2.2.1.1≠rb∧RelsO z.2.2.2.2.2 rb c (sgT qs) xs∧hB.Le z.2.2.2.2.2∧hB z.2.2.2.1.1=none)
     (fun (k, _, us, (r5, c5), μ', h') => ⟨[(0, .val (.pointer (some ⟨r, 0, none⟩))), (1, .val (.int .i64 mode)), (4, .loc 0 r4 0), (5, .loc 1 r5_ 0), (8, .val (.int .i64 (((i + 1) : Nat) : Int))), (10, .val (.int .i64 n)), (11, .loc 5 r11 0), (12, .val (.int .i64 k)), (38, .row 3 (some rb) ys.length c), (39, .val (.int .i64 ys.length)), (40, .val (.int .i64 (((i + 1) : Nat) : Int)))],
      [(0,some (.cells r4 [.val (.slice none 0 0)] 25)),(1,some (.cells r5_ [.row 3 (some rb) ys.length c] 25)),(5,some (.cells r11 [.val (.int .i64 8),.val (.string ⟨#[]⟩),.val (.slice none 0 0),.val (.slice (some ⟨r5,0,none⟩) us.length c5)] 73))],6,μ',h'⟩) (fun z=>z.1)
     (k3,[.mk 7 ⟨#[]⟩ [] gs0],[.agg #[.int .i64 7,.string ⟨#[]⟩,.slice p0.1.1 0 p0.1.2,.slice p0.2.1 gs0.length p0.2.2]],(rs,1),μ3,h4) ⟨by dsimp only;omega,by simp only[List.length_singleton];omega,(fun e=>nomatch e),(fun g hg=>by rw[List.mem_singleton.1 hg];exact hd0),hrow0,Rows.one hgr (Gl.d_n _),Mem.Le.refl _,hc4.at,hap4,hr5,hr5b,hRO4,hBl4,kN hBl3 hos⟩ (fun(_,_,_,(_,_),_,_)=>⟨rfl,rfl⟩)
     ⟨⟨rfl,rfl,rfl,rfl,rfl,rfl,rfl,rfl,rfl,rfl,rfl,trivial⟩,⟨rfl,rfl,rfl,trivial⟩,rfl,rfl⟩ ?_
    clear hc4 hap4 hRO4 hBl4 hrow0 hr5 hr5b
    rintro⟨k,gs,us,⟨r5,c5⟩,μ6,h6⟩ ⟨hk,hkl,hgne,hgs,hrow6,hrow5,hle6,hc6,hap6,hr5,hr5b,hRO6,hBl6,hB5⟩
    dsimp only at hk hkl hgne hgs hrow6 hrow5 hle6 hc6 hap6 hr5 hr5b hRO6 hBl6 hB5
    have hul:=hrow5.len
    rw[List.length_map]at hul
    refine ifd (fun hkp=>?_) (fun hkz=>?_)
    ·refine cOw (aJ hc6 5) fun v μ7 h7 hle7 hap7 hR => ?_
     obtain⟨e,hc7,k5,rfl,-,hk55,-⟩:=hR
     obtain rfl:=e.symm
     have hk55:=hk55 (by decide)
     have hrow7:=jA hrow6 hr5 hc7
     have hRO7:=hRO6.cur hne hc7
     have hBl7:=mN hBl6 hBr hc7
     refine aD (by decide) ?_
     refine nEq (x:=((k5 / 2:Nat):Int)) (by show IntKind.i64.wrap (Int.tdiv (k5:Int) 2)=_;rw[Int.tdiv_eq_ediv_of_nonneg (by omega),aA (by omega) (by omega)];simp) ?_
     have hcl5:=fG hc7.at hRO7 hne hsig n (by omega) (k5 / 2) (by omega) mode
     rw[hsl]at hcl5
     refine cOw hcl5 fun v μ8 h8 hle8 hap8 hR=>?_
     obtain⟨hc8,gs8,hgl8,hgd8,hgr8⟩:=hR
     have w_:=Gl.invV hgr8
     obtain⟨p8,rfl⟩:=w_
     have hd8:=(Dr.conj hgd8 (by omega)).mono (m':=9) (b':=1) (by omega) (Nat.le_refl _)
     have hrow8:=jA hrow7 hr5 hc8
     have hRO8:=hRO7.cur hne hc8
     have hBl8:=mN hBl7 hBr hc8
     have hc8:=hc8.at
     intro rg
     refine nG us rfl hrow8 ?_ ?_ fun r9' c9 o9 hrow9 hor=>?_
     ·show(us.length+1)*72≤_;omega
     ·exact Nat.le_trans (m:=100000000) (show us.length+1≤_ by omega) (by decide)
     have hn1:r9'≠r:=hor.elim (fun e=>by rw[e];exact hr5) fun e=>hc8.ne e.1
     have hn2:r9'≠rb:=hor.elim (fun e=>by rw[e];exact hr5b) fun e e2=>by
      have w_:=hRO8.row.obj
      obtain⟨cs,hcs⟩:=w_
      have e1:h8 r9'=none:=e.1
      rw[e2,hcs]at e1
      cases e1
     have hn3:hB r9'=none:=hor.elim (fun e=>by rw[e];exact hB5) fun e=>kN hBl8 e.1
     refine aC (by omega) (by omega) ⟨(k-1,gs++[.mk 7 ⟨#[]⟩ [] gs8],_,(r9',c9),μ8,_),⟨by dsimp only;omega,by simp only[List.length_append,List.length_singleton];omega,by simp,?_,hrow9,?_,hle6.trans hle8,hc8.other hn1,hap8.set (qAc hrow8 hap8 hor),hn1,hn2,⟨hRO8.row.set_ne hn2.symm,hRO8.len,hRO8.at_⟩,fM hBl8 hn3,hn3⟩,by dsimp only;omega,⟨⟨rfl,rfl,rfl,rfl,rfl,rfl,rfl,?_,rfl,rfl,rfl,trivial⟩,⟨rfl,rfl,?_,trivial⟩,rfl,rfl⟩⟩
     ·intro x hx
      rcases List.mem_append.1 hx with hx|hx
      ·exact hgs x hx
      ·rw[List.mem_singleton.1 hx];exact hd8
     ·dsimp only
      rw[List.map_append]
      exact(hrow5.mono hle8).append (Rows.one hgr8 (Gl.d_n _))
     ·show some (SV.val (.int .i64 _)) = some (SV.val (.int .i64 _))
      congr 3;omega
     ·rw[List.length_append];rfl
    ·have hle26 : μ2.Le μ6 := hle3.trans hle6
     refine ifd (fun h1=>?_) (fun h1=>?_)
     ·refine cOw (eV hc6 2) fun v μ7 h7 hle7 hap7 hR => ?_
      obtain⟨e,hc7,w,rfl⟩:=hR
      obtain rfl:=e.symm
      have hrow6:=jA hrow6 hr5 hc7
      have hRO6:=hRO6.cur hne hc7
      have hBl6:=mN hBl6 hBr hc7
      have hcz:=hc7.at
      have hap6:=hap7
      refine iIn (fun hw=>?_) (fun hw=>?_)
      ·obtain ⟨g0, hg0⟩ : ∃ g0, gs[0]? = some g0 := ⟨_, List.getElem?_eq_getElem (List.length_pos_iff.2 hgne)⟩
       obtain⟨u0,hu0,hru0⟩:∃u0,us[0]? =some u0∧RepV μ6 g0.d u0:=by
        cases hrow5g:gs with
        |nil=>exact absurd hrow5g hgne
        |cons a rr=>
         rw[hrow5g]at hrow5 hg0
         cases hg0
         cases hrow5 with
         |cons ha hb' hc'=>exact⟨_,rfl,ha⟩
       have w_:=Gl.invV hru0
       obtain⟨p5,rfl⟩:=w_
       have hdg:=(hgs g0 (List.mem_of_getElem? hg0)).mono (m':=40) (b':=3) (by decide) (by decide)
       refine qLi 0 rfl (by omega) ?_
       refine oIn _ rfl (hrow6.ownA hu0 rfl) ?_
       refine cS ⟨rb,0,none⟩ rfl (by omega) (by omega) ?_
       refine iU (k:=(i+1)) (j:=3) (x:=qU q) (.agg #[.string q.1,.int .i64 q.2.1,.int .i64 q.2.2,.int .i64 g0.kind,.string g0.name,.slice p5.1.1 g0.terms.length p5.1.2,.slice p5.2.1 g0.goals.length p5.2.2]) hRO6.row hxi (by simp[Addr.add_lit']) rfl (show 3+4≤7 by decide) (by simp[Value.oneCell']) fun o hrow2=>?_
       exact aC (by omega) (by omega) ⟨((i+1)+1,ls++[⟨q.1,q.2.1,q.2.2,g0⟩],xs.set ((i+1)) (.agg #[.string q.1,.int .i64 q.2.1,.int .i64 q.2.2,.int .i64 g0.kind,.string g0.name,.slice p5.1.1 g0.terms.length p5.1.2,.slice p5.2.1 g0.goals.length p5.2.2]),_,_),hDI.next (by omega) hq hn hne hle26 hcz hRO6 hap6 ((Mem.Le.refl hB)) (hBl6) ((And.intro hBr hBrb)) hrows hrow2 ((hru0.mono (Mem.le_join μ6 hB))) (hdg),by dsimp only;omega,⟨⟨rfl,rfl,rfl,rfl,rfl,rfl,rfl,trivial⟩,⟨rfl,rfl,trivial⟩,rfl,rfl⟩⟩
      ·have w_ := RowO.alone (g := hB) hrow6
       obtain⟨o6,ho6,hrowB⟩:=w_
       have hB6:(hB.set r5 o6).Le h7:=fun b x hb=>by
        by_cases e:b=r5
        ·subst e;rw[Mem.set_at]at hb;cases hb;exact ho6
        ·rw[Mem.set_ne e]at hb;exact hBl6 b x hb
       have hBB:hB.Le (hB.set r5 o6):=fM (Mem.Le.refl _) hB5
       have hBn:(hB.set r5 o6) r=none∧(hB.set r5 o6) rb=none:=⟨by rw[Mem.set_ne (Ne.symm hr5)];exact hBr,by rw[Mem.set_ne (Ne.symm hr5b)];exact hBrb⟩
       have hgoal:RepV (μ6.join (hB.set r5 o6)) (Gl.mk 8 ⟨#[]⟩ [] gs).d (.agg #[.int .i64 8,.string ⟨#[]⟩,.slice none 0 0,.slice (some ⟨r5,0,none⟩) us.length c5]):=cQ (ts:=[]) (Rep.nilSl 4) (hrowB.rep (Mem.le_join_right (lQ hap6 hB6)) (hrow5.mono (Mem.le_join _ _)))
       have hdr:Dr (sgT qs) n mode 40 3 (.mk 8 ⟨#[]⟩ [] gs):=(Dr.disj hgs (by omega) hgne).mono (by omega) (by omega)
       refine cS ⟨rb,0,none⟩ rfl (by omega) (by omega) ?_
       refine iU (k:=(i+1)) (j:=3) (x:=qU q) (.agg #[.string q.1,.int .i64 q.2.1,.int .i64 q.2.2,.int .i64 8,.string ⟨#[]⟩,.slice none 0 0,.slice (some ⟨r5,0,none⟩) us.length c5]) hRO6.row hxi (by simp[Addr.add_lit']) rfl (show 3+4≤7 by decide) (by simp[Value.oneCell']) fun o hrow2=>?_
       exact aC (by omega) (by omega) ⟨((i+1)+1,ls++[⟨q.1,q.2.1,q.2.2,(Gl.mk 8 ⟨#[]⟩ [] gs)⟩],xs.set ((i+1)) (.agg #[.string q.1,.int .i64 q.2.1,.int .i64 q.2.2,.int .i64 8,.string ⟨#[]⟩,.slice none 0 0,.slice (some ⟨r5,0,none⟩) us.length c5]),_,_),hDI.next (by omega) hq hn hne hle26 hcz hRO6 hap6 (hBB) (hB6) (hBn) hrows hrow2 (hgoal) (hdr),by dsimp only;omega,⟨⟨rfl,rfl,rfl,rfl,rfl,rfl,rfl,trivial⟩,⟨rfl,rfl,trivial⟩,rfl,rfl⟩⟩
     ·have hcz := hc6
      have w_:=RowO.alone (g:=hB) hrow6
      obtain⟨o6,ho6,hrowB⟩:=w_
      have hB6:(hB.set r5 o6).Le h6:=fun b x hb=>by
       by_cases e:b=r5
       ·subst e;rw[Mem.set_at]at hb;cases hb;exact ho6
       ·rw[Mem.set_ne e]at hb;exact hBl6 b x hb
      have hBB:hB.Le (hB.set r5 o6):=fM (Mem.Le.refl _) hB5
      have hBn:(hB.set r5 o6) r=none∧(hB.set r5 o6) rb=none:=⟨by rw[Mem.set_ne (Ne.symm hr5)];exact hBr,by rw[Mem.set_ne (Ne.symm hr5b)];exact hBrb⟩
      have hgoal:RepV (μ6.join (hB.set r5 o6)) (Gl.mk 8 ⟨#[]⟩ [] gs).d (.agg #[.int .i64 8,.string ⟨#[]⟩,.slice none 0 0,.slice (some ⟨r5,0,none⟩) us.length c5]):=cQ (ts:=[]) (Rep.nilSl 4) (hrowB.rep (Mem.le_join_right (lQ hap6 hB6)) (hrow5.mono (Mem.le_join _ _)))
      have hdr:Dr (sgT qs) n mode 40 3 (.mk 8 ⟨#[]⟩ [] gs):=(Dr.disj hgs (by omega) hgne).mono (by omega) (by omega)
      refine cS ⟨rb,0,none⟩ rfl (by omega) (by omega) ?_
      refine iU (k:=(i+1)) (j:=3) (x:=qU q) (.agg #[.string q.1,.int .i64 q.2.1,.int .i64 q.2.2,.int .i64 8,.string ⟨#[]⟩,.slice none 0 0,.slice (some ⟨r5,0,none⟩) us.length c5]) hRO6.row hxi (by simp[Addr.add_lit']) rfl (show 3+4≤7 by decide) (by simp[Value.oneCell']) fun o hrow2=>?_
      exact aC (by omega) (by omega) ⟨((i+1)+1,ls++[⟨q.1,q.2.1,q.2.2,(Gl.mk 8 ⟨#[]⟩ [] gs)⟩],xs.set ((i+1)) (.agg #[.string q.1,.int .i64 q.2.1,.int .i64 q.2.2,.int .i64 8,.string ⟨#[]⟩,.slice none 0 0,.slice (some ⟨r5,0,none⟩) us.length c5]),_,_),hDI.next (by omega) hq hn hne hle26 hcz hRO6 hap6 (hBB) (hB6) (hBn) hrows hrow2 (hgoal) (hdr),by dsimp only;omega,⟨⟨rfl,rfl,rfl,rfl,rfl,rfl,rfl,trivial⟩,⟨rfl,rfl,trivial⟩,rfl,rfl⟩⟩
  ·have hie : i = ys.length := by omega
   obtain⟨i',rfl⟩:∃i',i=i'+1:=⟨i-1,by omega⟩
   have w_:=hpos (by omega)
   obtain⟨hne,hRO,hap2⟩:=w_
   have hql2:qs.length=ls.length:=by omega
   have at_:∀(j:Nat) l,ls[j]? =some l→∃q,qs[j]? =some q:=fun j l hl=>⟨_,List.getElem?_eq_getElem (by have:=(List.getElem?_eq_some_iff.1 hl).1;omega)⟩
   have hsg:qLx ls=sgT qs:=by
    apply List.ext_getElem?
    intro j
    rw[qLx,sgT,List.getElem?_map,List.getElem?_map]
    cases hl:ls[j]? with
    |none=>
     have:qs[j]? =none:=List.getElem?_eq_none (by have:=List.getElem?_eq_none_iff.1 hl;omega)
     rw[this];rfl
    |some l=>
     have w_:=at_ j l hl
     obtain⟨q,hq⟩:=w_
     have w_:=hgood j l q hl hq
     obtain⟨a,b,_,_⟩:=w_
     rw[hq]
     simp[a,b]
   refine dZ h2 Mem.nil (Parts.nil_right h2) ⟨ls,⟨by omega,by omega,fun j l hl=>?_,fun l hl=>?_,fun l hl=>?_,fun l hl=>?_⟩,?_⟩
   ·have w_ := at_ j l hl
    obtain⟨q,hq⟩:=w_
    rw[(hgood j l q hl hq).1,hT.nm j q hq]
   ·have w_ := List.getElem?_of_mem hl
    obtain⟨j,hj⟩:=w_
    have w_:=at_ j l hj
    obtain⟨q,hq⟩:=w_
    rw[(hgood j l q hj hq).2.1]
    exact hT.ar q (List.mem_of_getElem? hq)
   ·have w_ := List.getElem?_of_mem hl
    obtain⟨j,hj⟩:=w_
    have w_:=at_ j l hj
    obtain⟨q,hq⟩:=w_
    rw[(hgood j l q hj hq).2.2.1]
    exact hT.lo q (List.mem_of_getElem? hq)
   ·have w_ := List.getElem?_of_mem hl
    obtain⟨j,hj⟩:=w_
    have w_:=at_ j l hj
    obtain⟨q,hq⟩:=w_
    have w_:=hgood j l q hj hq
    obtain⟨_,e2,e3,e4⟩:=w_
    rw[hsg,e2,e3]
    exact e4
   ·rw [hie, ← hxl, List.take_length] at hrows
    have k:=hRO.row.rep (Mem.le_join_right hap2) (hrows.mono (qEx (Mem.Le.refl _) hBl hap2))
    rw[hxl]at k
    exact⟨_,rfl,RepS.last k⟩
end
end Go.Vx
namespace Go.Vx
open Go.Proofs Classical
theorem Pg.Pure.pos{p:Pg}(h:p.Pure):p.Pos:=⟨h.1,fun r hr x hx=>(h.2 r hr x hx).1⟩
theorem LibOk.prom{s:Bs}{p:Pg}(h:LibOk s p)(hok:p.Ok){mode:Int}(hpos:mode≤1→p.Pos):MkP mode p:=⟨h.seven,fun r hr=>(h.more r hr).1,h.room,fun r hr=>(h.more r hr).2,hok,h.small3,h.small2,hpos,h.ne,h.ar⟩
section
variable {μ:Mem}
set_option maxHeartbeats 1000000 in
theorem rD{base:Option Addr}{n cap:Nat}(hb:Bytes μ base n)(m:Int)(hm:m≤1000000)(mode:Int)(hmode:mode=1∨mode=2):
  Spec Tryz.prog 4 [.slice base n cap,.int .i64 m,.int .i64 mode] μ fun v μ'=>∃p,MkP mode p∧RepV μ' p.d v:=by
 refine Spec.mk Tryz.func4 (by kernel_rfl) ?_
 intro r6
 refine cOw (mJ hb m hm) fun v μ1 h1 hle1 hap1 hR=>?_
 obtain⟨e,r,rfl,ho,hc1⟩:=hR
 obtain rfl:=e.symm
 refine cOw (qBj hc1.at) fun v μ2 h2 hle2 hap2 hR=>?_
 obtain⟨hc2,s,hs,rfl⟩:=hR
 have w_:=qBm (μ:=μ2) hs
 obtain⟨t,p,hp,hG⟩:=w_
 refine cGv hG ?_
 refine cPl (pM hp.parse hp.len hp.bytes hp.wd) fun v μ3 hle3 hR=>?_
 obtain⟨q,tv,b,rfl,hrq,hqp⟩:=hR
 have w_:=Pg.invV hrq
 obtain⟨pq,rfl⟩:=w_
 intro r8
 have hc3:=hc2.mono hle3
 refine iIn (fun hb1=>?_) (fun hb1=>?_)
 ·have w_ := hqp hb1
  obtain⟨rfl,hok⟩:=w_
  refine cOw (eV hc3.at 8) fun v μ4 h4 hle4 hap4 hR=>?_
  obtain⟨e,hc4,w,rfl⟩:=hR
  obtain rfl:=e.symm
  refine iIn (fun hw=>?_) (fun hw=>?_)
  ·refine ifd (fun hm2 => ?_) (fun hm2 => ?_)
   ·exact rPl ⟨_,hp.prom hok (fun h=>absurd h (by omega)),hrq⟩
   ·refine ifd (fun hm1 => ?_) (fun hm1 => absurd hm1 (by omega))
    refine cPl (gA hrq hp.wd) fun v μ5 hle5 hR=>?_
    have hR:v= .bool (decide q.Pos):=hR
    subst hR
    refine iIn (fun hpos=>?_) (fun hpos=>?_)
    ·exact rPl ⟨_,hp.prom hok (fun _=>of_decide_eq_true hpos),hrq.mono hle5⟩
    ·refine cPl (qY (hrq.mono hle5) hp.wd) fun v μ6 hle6 hR => ?_
     have hR:v= .bool (decide q.Pure):=hR
     subst hR
     refine iIn (fun hpu=>?_) (fun hpu=>?_)
     ·exact rPl ⟨_,hp.prom hok (fun _=>Pg.Pure.pos (of_decide_eq_true hpu)),(hrq.mono hle5).mono hle6⟩
     ·refine cOw (lE ((((hc3.trans hc4).mono hle5).mono hle6)).at mode) fun v μd hd hled hapd hR => ?_
      obtain⟨l,hl,hrl⟩:=hR
      have w_:=Pg.invV hrl
      obtain⟨pd,rfl⟩:=w_
      exact rPl ⟨_,hl.prom,hrl⟩
  ·refine cOw (lE ((hc3.trans hc4)).at mode) fun v μd hd hled hapd hR => ?_
   obtain⟨l,hl,hrl⟩:=hR
   have w_:=Pg.invV hrl
   obtain⟨pd,rfl⟩:=w_
   exact rPl ⟨_,hl.prom,hrl⟩
 ·refine cOw (lE (hc3).at mode) fun v μd hd hled hapd hR => ?_
  obtain⟨l,hl,hrl⟩:=hR
  have w_:=Pg.invV hrl
  obtain⟨pd,rfl⟩:=w_
  exact rPl ⟨_,hl.prom,hrl⟩
end
end Go.Vx
