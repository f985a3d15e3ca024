/- Texts of the proof, part E3. -/
import Derived.Test.YtnogdfionomoaaaGreatE2
namespace Go.Vx
open Go.Proofs Classical
theorem qVm{U vs:List T}{g:Gl}(h:g.kind=9):okG U vs g↔∀a∈(cJ vs g).args,a∈U:=by rw[okG,if_pos h]
theorem qRr{U vs:List T}{g:Gl}(h:g.kind=10):okG U vs g↔∀a∈(cJ vs g.kid).args,a∈U:=by rw[okG,if_neg (by omega),if_pos h]
theorem qBy{U vs xs:List T}{g:Gl}(h9:g.kind≠9)(h10:g.kind≠10)(hx:g.terms=xs.map T.tm):okG U vs g↔dV g.kind (xs.map (T.subst (bT vs))):=by
 rw[okG,if_neg h9,if_neg h10,hx,List.map_map]
 have e:(List.map ((fun t=>T.subst (bT vs) t.toT) ∘ T.tm) xs)=xs.map (T.subst (bT vs)):=List.map_congr_left fun x _=>by simp[T.toT_tm]
 rw[e]
def qJj(L:List (List Gl)):D:= .sl 1 (L.map csD)
theorem qRa(L:List (List Gl)):(qJj L).n=1:=rfl
noncomputable def qGq(r:Rl):List (List Gl):=r.body.cl.getD []
section
variable {μ:Mem}
structure Fill (μ:Mem) (vs:List T) (n k:Nat) (xs:List Value):Prop where
 len:xs.length=n
 done:∀(j:Nat) x,j<k→vs[j]? =some x→∃v,xs[j]? =some v∧RepV μ x.tm.d v
 rest:∀j,k≤j→j<n→xs[j]? =some (.agg #[.int .i64 0,.int .i64 0,.string ⟨#[]⟩,.slice none 0 0])
theorem Fill.start{vs:List T}{n:Nat}:Fill μ vs n 0 (List.replicate n (.agg #[.int .i64 0,.int .i64 0,.string ⟨#[]⟩,.slice none 0 0])):=
 ⟨by simp,fun j x h=>by omega,fun j _ h=>by simp[h]⟩
theorem Fill.step{vs:List T}{n k:Nat}{xs:List Value}(h:Fill μ vs n k xs){x:T}{v:Value}(hx:vs[k]? =some x)(hv:RepV μ x.tm.d v)(hk:k<n):Fill μ vs n (k+1) (xs.set k v):=by
 refine⟨by rw[List.length_set];exact h.len,fun j y hj hy=>?_,fun j hj hn=>?_⟩
 ·by_cases e : j = k
  ·subst e
   rw[hx]at hy;cases hy
   exact⟨v,by rw[List.getElem?_set_self (by rw[h.len];exact hk)],hv⟩
  ·have w_ := h.done j y (by omega) hy
   obtain⟨w,h1,h2⟩:=w_
   exact⟨w,by rw[List.getElem?_set_ne (Ne.symm e)];exact h1,h2⟩
 ·rw[List.getElem?_set_ne (by omega)];exact h.rest j (by omega) hn
theorem RowAt.up{μ':Mem}{b:Option Nat}{k es:Nat}{ys:List Value}(h:RowAt μ b k es ys)(hle:μ.Le μ'):RowAt μ' b k es ys:=by
 cases b with
 |none=>exact h
 |some r=>
  obtain⟨h1,h2,arr,ty,h3,h4⟩:=h
  exact⟨h1,h2,arr,ty,hle _ _ h3,h4⟩
theorem Rows.of_at{es:Nat}:∀{ds:List D} {xs:List Value},ds.length=xs.length→(∀(j:Nat) d v,ds[j]? =some d→xs[j]? =some v→RepV μ d v∧d.n=es)→Rows μ es ds xs
 |[],[],_,_=> .nil
 |[],_::_,h,_=>by simp at h
 |_::_,[],h,_=>by simp at h
 |d::ds,x::xs,h,k=> .cons (k 0 d x rfl rfl).1 (k 0 d x rfl rfl).2 (Rows.of_at (by simpa using h) fun j d v h1 h2=>k (j+1) d v (by simpa using h1) (by simpa using h2))
theorem Fill.all{vs:List T}{n:Nat}{xs:List Value}(h:Fill μ vs n n xs)(hl:vs.length=n):Rows μ 4 ((vs.map T.tm).map Tm.d) xs:=
 Rows.of_at (by simp[h.len,hl]) fun j d v h1 h2=>by
  simp only[List.getElem?_map,Option.map_eq_some_iff]at h1
  obtain⟨t,⟨x,hx,rfl⟩,rfl⟩:=h1
  obtain⟨w,h3,h4⟩:=h.done j x (by have:=(List.getElem?_eq_some_iff.1 hx).1;omega) hx
  rw[h2]at h3
  cases h3
  exact⟨h4,Tm.d_n _⟩
set_option maxHeartbeats 16000000 in
set_option maxRecDepth 20000 in
theorem rW{p:Pg}{U:List T}{v:Value}{ub:Option Addr}{uc:Nat}(hp:RepV μ p.d v)(hok:p.Ok)(hu:Sl μ 4 ub U.length ((U.map T.tm).map Tm.d))(hU1:1≤U.length)(hU8:U.length≤8):
  Spec Tryz.prog 130 [v,.slice ub U.length uc] μ fun v μ'=>qDo (fun y tv=>RepV μ' (.sl 6 ((y.map Ru.rd).map RuD.d)) tv) (cI p U) v:=by
 have hp0:=hp
 have w_:=Pg.inv hp
 obtain⟨q,rfl,hrl⟩:=w_
 have hn:=hok.1
 refine Spec.mk Tryz.func130 (by kernel_rfl) ?_
 intro r2 r28
 refine lIn (fun z:Nat×Option Nat×Nat×List Value×Mem=>z.1≤p.rels.length∧μ.Le z.2.2.2.2∧Rows z.2.2.2.2 1 (((p.rels.take z.1).map qGq).map qJj) z.2.2.2.1∧∀r∈p.rels.take z.1,r.body.cl≠none∧U.length ^ (r.arity+r.locals).toNat≤4096)
  (fun(i,b,c,ys,μ')=>⟨[(1,.val (.slice ub U.length uc)),(2,.loc 0 r2 0),(6,.row 1 b ys.length c),(30,.val (.slice q.1 p.rels.length q.2)),(31,.val (.int .i64 p.rels.length)),(32,.val (.int .i64 i))],[(0,some (.cells r2 [.val (.slice q.1 p.rels.length q.2)] 25)),(1,some (.row b c 118 1 ys))],2,μ',Mem.nil⟩) (fun z=>p.rels.length-z.1)
  (0,some r28,0,[],μ) ⟨Nat.zero_le _,Mem.Le.refl _,.nil,by simp⟩ (fun(_,_,_,_,_)=>⟨rfl,rfl⟩) ⟨⟨rfl,rfl,rfl,rfl,rfl,rfl,trivial⟩,⟨rfl,rfl,trivial⟩,rfl,rfl⟩ ?_
 rintro⟨i,b,c,ys,μ'⟩ ⟨hi,hle,hbod,hways⟩
 dsimp only at hi hle hbod hways
 have hbl:=hbod.len
 simp only[List.length_map,List.length_take]at hbl
 refine ifd (fun hlt=>?_) (fun hlt=>?_)
 ·have w_ := aSo (l := p.rels) (i := i) (by omega)
  obtain⟨r,hr⟩:=w_
  have w_:=Rl.elemA (hrl.mono hle) hr
  obtain⟨ad,q2,hel,hrv,hb⟩:=w_
  have hb:RepV μ' r.body.d (.agg (r.body.cs q2).toArray):=hb
  have hrok:=hok.2 i r hr
  have w_:=Int.eq_ofNat_of_zero_le hrok.ar0
  obtain⟨a,ha⟩:=w_
  have w_:=Int.eq_ofNat_of_zero_le hrok.lo0
  obtain⟨lo,hlo⟩:=w_
  have har4:=hrok.ar4
  have hlo8:=hrok.lo8
  have hsz:=hrok.size
  have hnn:(r.arity+r.locals).toNat=a+lo:=by omega
  refine eIn hel ?_
  intro r8
  refine cPl (gF r.body hb hrok.body (by omega)) fun v3 μ3 hle3 hR3=>?_
  cases hL:r.body.cl with
  |none=>
   rw[hL]at hR3
   obtain rfl:=hR3
   refine iIn (fun _=>rPl ?_) (fun h=>nomatch h)
   rw[cI,if_neg fun k=>(k.1 r (mAt hr)).1 hL];rfl
  |some L=>
  rw[hL]at hR3
  obtain⟨tv,rfl,hLr⟩:=hR3
  obtain⟨pv,rfl⟩:=hLr.inv
  refine iIn (fun h=>nomatch h) (fun _=>?_)
  refine nEq (x:=((a+lo:Nat):Int)) (by rw[aA (by omega) (by omega)];omega) ?_
  refine cPl (zI (size:=U.length) (n:=a+lo) (most:=4096) hU1 hU8 (by omega) (by omega) (by omega)) fun v4 μ4 hle4 hR4=>?_
  obtain⟨⟨W,rfl,hW1,hW2⟩,e4⟩:=hR4
  obtain rfl:=e4.symm
  refine ifd (fun hbig=>rPl ?_) (fun hsmall=>?_)
  ·rw[cI,if_neg fun k=>by
    have h1:=(k.1 r (mAt hr)).2
    rw[hnn]at h1
    have:=hW1 h1
    omega];rfl
  have hWle:U.length ^ (a+lo)≤4096:=Nat.le_of_not_lt fun h=>by have:=hW2 h;omega
  intro r57
  refine gIn ?_ ?_ fun b' c' _=>?_
  ·show(ys.length+1)*24≤_;omega
  ·exact Nat.le_trans (m:=1000) (show ys.length+1≤_ by omega) (by decide)
  have hLr2:RepV μ3 (qJj L) (.slice pv.1 L.length pv.2):=hLr
  have hcl:qGq r=L:=by rw[qGq,hL];rfl
  refine aB (by omega) (by omega) ⟨(i+1,b',c',_,μ3),⟨by dsimp only;omega,hle.trans hle3,?_,?_⟩,by dsimp only;omega,⟨⟨rfl,rfl,rfl,rfl,rfl,rfl,trivial⟩,⟨rfl,rfl,trivial⟩,rfl,rfl⟩⟩
  ·dsimp only
   rw[List.take_add_one,hr,Option.toList_some,List.map_append,List.map_append]
   refine(hbod.mono hle3).append (Rows.one (d:=qJj (qGq r)) ?_ (qRa _))
   rw[hcl];exact hLr2
  ·dsimp only
   intro x hx
   rw[List.take_add_one,hr,Option.toList_some]at hx
   rcases List.mem_append.1 hx with hx|hx
   ·exact hways x hx
   ·rw [List.mem_singleton.1 hx, hL, hnn]
    exact⟨(fun h=>nomatch h),hWle⟩
 obtain rfl:i=p.rels.length:=by omega
 rw[List.take_length]at hbod hways
 clear hlt hi
 intro r60
 refine lIn (fun z:Nat×Option Nat×Nat×List Value×Mem=>z.1≤p.rels.length∧μ'.Le z.2.2.2.2∧Rows z.2.2.2.2 6 ((((p.rels.take z.1).flatMap (cD U)).map Ru.rd).map RuD.d) z.2.2.2.1∧((p.rels.take z.1).flatMap (cD U)).length≤2000)
  (fun(i,ob,oc,os,μ2)=>⟨[(1,.val (.slice ub U.length uc)),(6,.row 1 b ys.length c),(11,.row 2 ob os.length oc),(62,.val (.slice q.1 p.rels.length q.2)),(63,.val (.int .i64 p.rels.length)),(64,.val (.int .i64 i))],[(1,some (.row b c 118 1 ys)),(2,some (.row ob oc 106 6 os))],3,μ2,Mem.nil⟩) (fun z=>p.rels.length-z.1)
  (0,some r60,0,[],μ') ⟨Nat.zero_le _,Mem.Le.refl _,.nil,by simp⟩ (fun(_,_,_,_,_)=>⟨rfl,rfl⟩) ⟨⟨rfl,rfl,rfl,rfl,rfl,rfl,trivial⟩,⟨rfl,rfl,trivial⟩,rfl,rfl⟩ ?_
 rintro⟨i,ob,oc,os,μ2⟩ ⟨hi,hle2,hrows,hroom⟩
 dsimp only at hi hle2 hrows hroom
 have hol:=hrows.len
 simp only[List.length_map]at hol
 refine ifd (fun hlt=>?_) (fun hlt=>?_)
 rotate_left
 ·obtain rfl : i = p.rels.length := by omega
  rw[List.take_length]at hrows hroom hol
  have hall:(p.rels.flatMap (cD U))=cC p U:=rfl
  rw[hall]at hrows hroom hol
  rw[cI,if_pos ⟨hways,hroom⟩]
  refine rFz [2] fun μ3 hle3 hno hat=> .inl ⟨_,rfl,?_⟩
  exact Rows.sl hat (hrows.mono hle3) (Nat.le_trans (m:=100000) (by omega) (by decide))
 have w_:=aSo (l:=p.rels) (i:=i) (by omega)
 obtain⟨r,hr⟩:=w_
 have w_:=Rl.elemA ((hrl.mono hle).mono hle2) hr
 obtain⟨ad,q2,hel,hrv,_⟩:=w_
 have hrok:=hok.2 i r hr
 have w_:=Int.eq_ofNat_of_zero_le hrok.ar0
 obtain⟨a,ha⟩:=w_
 have w_:=Int.eq_ofNat_of_zero_le hrok.lo0
 obtain⟨lo,hlo⟩:=w_
 have har4:=hrok.ar4
 have hlo8:=hrok.lo8
 have hsz:=hrok.size
 have hnn:(r.arity+r.locals).toNat=a+lo:=by omega
 have w_:=Option.ne_none_iff_exists'.1 (hways r (mAt hr)).1
 obtain⟨L,hL⟩:=w_
 have hWle:=(hways r (mAt hr)).2
 rw[hnn]at hWle
 have hclr:qGq r=L:=by rw[qGq,hL];rfl
 have hLb:=Gl.cl_bnd r.body hL
 have w_:=aSo (l:=ys) (i:=i) (by omega)
 obtain⟨vL,hvL⟩:=w_
 have hLrep:=Rows.atI hbod (i:=i) (d:=qJj L) (by simp[hr,hclr]) hvL
 have w_:=Rep.sl (xs:=L.map csD) hLrep
 obtain⟨bL,cL,rfl,_⟩:=w_
 rw[List.length_map]at hvL hLrep
 have hLs:Sl μ' 1 bL L.length (L.map csD):=(Cls.sl hLrep).1
 obtain⟨pv,hpv⟩:∃pv:Option Addr×Nat,pv=(bL,cL):=⟨_,rfl⟩
 rw[show bL=pv.1 by rw[hpv]]at hvL hLs
 rw[show cL=pv.2 by rw[hpv]]at hvL
 clear hpv hLrep
 refine eIn hel ?_
 intro r13
 refine nEq (x:=((a+lo:Nat):Int)) (by rw[aA (by omega) (by omega)];omega) ?_
 refine cPl (zI (size:=U.length) (n:=a+lo) (most:=4096) hU1 hU8 (by omega) (by omega) (by omega)) fun v4 μ4 hle4 hR4=>?_
 obtain⟨⟨W,rfl,hW1,_⟩,e4⟩:=hR4
 obtain rfl:=e4.symm
 have w_:=hW1 hWle
 obtain rfl:=w_
 refine aX i rfl (by omega) ?_
 refine aW _ hvL ?_
 generalize hpre:(p.rels.take i).flatMap (cD U)=pre at*
 have hP:∀k w cl,L[k]? =some cl→w≤U.length ^ (a+lo)→2000<(pre++aY U r L k++bI U r k cl w).length→∀μx:Mem,qDo (fun y tv=>RepV μx (.sl 6 ((y.map Ru.rd).map RuD.d)) tv) (cI p U) (.tuple #[.slice none 0 0,.bool false]):=fun k w cl hcl hw hbig μx=>by
  rw[cI,if_neg fun kk=>?_];rfl
  have h1:(cC p U).length≥((p.rels.take (i+1)).flatMap (cD U)).length:=by
   conv=>lhs;rw[cC,←List.take_append_drop (i+1) p.rels]
   rw[List.flatMap_append,List.length_append];omega
  have h2:cD U r=aY U r L L.length:=by rw[cD,hL]
  have h3:∀m,k+1+m≤L.length→(aY U r L (k+1)).length≤(aY U r L (k+1+m)).length:=fun m=>by
   induction m with
   |zero=>intro _;exact Nat.le_refl _
   |succ m ih=>
    intro hm
    have w_:=aSo (l:=L) (i:=k+1+m) (by omega)
    obtain⟨c2,hc2⟩:=w_
    rw[show k+1+(m+1)=k+1+m+1 by omega,jH hc2,List.length_append]
    have:=ih (by omega)
    omega
  have hkl:=(List.getElem?_eq_some_iff.1 hcl).1
  have h4:=h3 (L.length-(k+1)) (by omega)
  rw[show k+1+(L.length-(k+1))=L.length by omega,jH hcl,hnn]at h4
  have w_:=iB (U:=U) (r:=r) (i:=k) (c:=cl) (w:=w) (U.length ^ (a+lo)-w)
  obtain⟨X,hX⟩:=w_
  rw[show w+(U.length ^ (a+lo)-w)=U.length ^ (a+lo) by omega]at hX
  rw[hX]at h4
  rw[jI hr,hpre,h2,List.length_append]at h1
  simp only[List.length_append]at h4 hbig
  have:=kk.2
  omega
 refine lIn (fun z:Nat×Option Nat×Nat×List Value×Mem=>z.1≤L.length∧μ2.Le z.2.2.2.2∧Rows z.2.2.2.2 6 (((pre++aY U r L z.1).map Ru.rd).map RuD.d) z.2.2.2.1∧(pre++aY U r L z.1).length≤2000)
  (fun(k,ob,oc,os,μ5)=>⟨[(1,.val (.slice ub U.length uc)),(6,.row 1 b ys.length c),(11,.row 2 ob os.length oc),(13,.loc 3 r13 0),(14,.val (.int .i64 ((a+lo:Nat):Int))),(15,.val (.int .i64 ((U.length ^ (a+lo):Nat):Int))),(62,.val (.slice q.1 p.rels.length q.2)),(63,.val (.int .i64 p.rels.length)),(64,.val (.int .i64 i)),(81,.val (.slice pv.1 L.length pv.2)),(82,.val (.int .i64 L.length)),(83,.val (.int .i64 k))],[(1,some (.row b c 118 1 ys)),(2,some (.row ob oc 106 6 os)),(3,some (.cells r13 [.val (.string r.name),.val (.int .i64 r.arity),.val (.int .i64 r.locals),.val (.int .i64 r.body.kind),.val (.string r.body.name),.val (.slice q2.1.1 r.body.terms.length q2.1.2),.val (.slice q2.2.1 r.body.goals.length q2.2.2)] 63))],4,μ5,Mem.nil⟩) (fun z=>L.length-z.1)
  (0,ob,oc,os,μ2) ⟨Nat.zero_le _,Mem.Le.refl _,by simpa[aY]using hrows,by simpa[aY]using hroom⟩ (fun(_,_,_,_,_)=>⟨rfl,rfl⟩) ⟨⟨rfl,rfl,rfl,rfl,rfl,rfl,rfl,rfl,rfl,rfl,rfl,rfl,trivial⟩,⟨rfl,rfl,rfl,trivial⟩,rfl,rfl⟩ ?_
 clear hrows hroom hol
 rintro⟨k,ob,oc,os,μ5⟩ ⟨hk,hle5,hrows,hroom⟩
 dsimp only at hk hle5 hrows hroom
 refine ifd (fun hltk=>?_) (fun hltk=>?_)
 rotate_left
 ·obtain rfl : k = L.length := by omega
  have e:cD U r=aY U r L L.length:=by rw[cD,hL]
  refine aB (by omega) (by omega) ⟨(i+1,ob,oc,os,μ5),⟨by dsimp only;omega,hle2.trans hle5,?_,?_⟩,by dsimp only;omega,⟨⟨rfl,rfl,rfl,rfl,rfl,rfl,trivial⟩,⟨rfl,rfl,trivial⟩,rfl,rfl⟩⟩
  ·dsimp only
   rw[jI hr,hpre,e];exact hrows
  ·dsimp only
   rw[jI hr,hpre,e];exact hroom
 have w_:=aSo (l:=L) (i:=k) (by omega)
 obtain⟨cl,hcl⟩:=w_
 have w_:=cF ((hLs.mono hle2).mono hle5) hcl
 obtain⟨adc,pc,helc,hrc⟩:=w_
 have hcs:Sl μ5 4 pc.1 cl.length (cl.map Gl.d):=by
  have w_:=Rep.sl (xs:=cl.map Gl.d) hrc
  obtain⟨b',c',e1,hs⟩:=w_
  have w_:=Value.slice.inj e1
  obtain⟨rfl,_,_⟩:=w_
  simpa using hs
 have hcb:=hLb.1 cl (mAt hcl)
 have hsucc:=jH (U:=U) (r:=r) hcl
 rw[hnn]at hsucc
 refine eIn helc ?_
 refine lFz (fun z:Nat×Option Nat×Nat×List Value×Mem=>z.1≤U.length ^ (a+lo)∧μ5.Le z.2.2.2.2∧Rows z.2.2.2.2 6 (((pre++aY U r L k++bI U r k cl z.1).map Ru.rd).map RuD.d) z.2.2.2.1∧(pre++aY U r L k++bI U r k cl z.1).length≤2000)
  (fun(w,ob,oc,os,μ6)=>⟨[(1,.val (.slice ub U.length uc)),(6,.row 1 b ys.length c),(11,.row 2 ob os.length oc),(13,.loc 3 r13 0),(14,.val (.int .i64 ((a+lo:Nat):Int))),(15,.val (.int .i64 ((U.length ^ (a+lo):Nat):Int))),(16,.val (.int .i64 k)),(17,.val (.slice pc.1 cl.length pc.2)),(18,.val (.int .i64 (w:Nat))),(62,.val (.slice q.1 p.rels.length q.2)),(63,.val (.int .i64 p.rels.length)),(64,.val (.int .i64 i)),(81,.val (.slice pv.1 L.length pv.2)),(82,.val (.int .i64 L.length)),(83,.val (.int .i64 k))],[(1,some (.row b c 118 1 ys)),(2,some (.row ob oc 106 6 os)),(3,some (.cells r13 [.val (.string r.name),.val (.int .i64 r.arity),.val (.int .i64 r.locals),.val (.int .i64 r.body.kind),.val (.string r.body.name),.val (.slice q2.1.1 r.body.terms.length q2.1.2),.val (.slice q2.2.1 r.body.goals.length q2.2.2)] 63))],4,μ6,Mem.nil⟩) (fun z=>U.length ^ (a+lo)-z.1) []
  (fun(_,_,_,_,_)=>⟨rfl,rfl⟩) ⟨(0,ob,oc,os,μ5),⟨Nat.zero_le _,Mem.Le.refl _,by simpa[bI]using hrows,by simpa[bI]using hroom⟩,⟨⟨rfl,rfl,rfl,rfl,rfl,rfl,rfl,rfl,rfl,rfl,rfl,rfl,rfl,rfl,rfl,trivial⟩,⟨rfl,rfl,rfl,trivial⟩,rfl,rfl⟩⟩ ?_
 clear hrows hroom
 rintro⟨w,ob,oc,os,μ6⟩ ⟨hw6,hle6,hrows,hroom⟩
 dsimp only at hw6 hle6 hrows hroom
 have hol:=hrows.len
 simp only[List.length_map]at hol
 refine ifd (fun hltw=>?_) (fun hltw=>?_)
 rotate_left
 ·obtain rfl : w = U.length ^ (a + lo) := by omega
  refine aB (by omega) (by omega) ⟨(k+1,ob,oc,os,μ6),⟨by dsimp only;omega,hle5.trans hle6,?_,?_⟩,by dsimp only;omega,⟨⟨rfl,rfl,rfl,rfl,rfl,rfl,rfl,rfl,rfl,rfl,rfl,rfl,trivial⟩,⟨rfl,rfl,rfl,trivial⟩,rfl,rfl⟩⟩
  ·dsimp only
   rw[hsucc,←List.append_assoc];exact hrows
  ·dsimp only
   rw[hsucc,←List.append_assoc];exact hroom
 have hdl:=gG U (a+lo) w
 generalize hvs:dR U (a+lo) w=vs at*
 have hu6:=((((hu.mono hle).mono hle2).mono hle5).mono hle6)
 refine qEd (a+lo) rfl rfl (by simp only;omega) (Nat.le_trans (m:=1000) (by omega) (by decide)) ?_
 intro r94
 refine lIn (fun z:Nat×List Value=>z.1≤a+lo∧Fill μ6 vs (a+lo) z.1 z.2)
  (fun(j,xs)=>⟨[(1,.val (.slice ub U.length uc)),(6,.row 1 b ys.length c),(11,.row 2 ob os.length oc),(13,.loc 3 r13 0),(14,.val (.int .i64 ((a+lo:Nat):Int))),(15,.val (.int .i64 ((U.length ^ (a+lo):Nat):Int))),(16,.val (.int .i64 k)),(17,.val (.slice pc.1 cl.length pc.2)),(18,.val (.int .i64 (w:Nat))),(19,.row 4 (some r94) (a+lo) (a+lo)),(20,.val (.int .i64 ((w / U.length ^ j:Nat):Int))),(21,.val (.int .i64 j)),(62,.val (.slice q.1 p.rels.length q.2)),(63,.val (.int .i64 p.rels.length)),(64,.val (.int .i64 i)),(81,.val (.slice pv.1 L.length pv.2)),(82,.val (.int .i64 L.length)),(83,.val (.int .i64 k))],[(1,some (.row b c 118 1 ys)),(2,some (.row ob oc 106 6 os)),(3,some (.cells r13 [.val (.string r.name),.val (.int .i64 r.arity),.val (.int .i64 r.locals),.val (.int .i64 r.body.kind),.val (.string r.body.name),.val (.slice q2.1.1 r.body.terms.length q2.1.2),.val (.slice q2.2.1 r.body.goals.length q2.2.2)] 63)),(4,some (.row (some r94) (a+lo) 75 4 xs))],5,μ6,Mem.nil⟩) (fun z=>a+lo-z.1)
  (0,_) ⟨Nat.zero_le _,Fill.start⟩ (fun(_,_)=>⟨rfl,rfl⟩) ⟨⟨rfl,rfl,rfl,rfl,rfl,rfl,rfl,rfl,rfl,rfl,by rw[Nat.pow_zero,Nat.div_one];rfl,rfl,rfl,rfl,rfl,rfl,rfl,rfl,trivial⟩,⟨rfl,rfl,rfl,rfl,trivial⟩,rfl,rfl⟩ ?_
 rintro⟨j,xs⟩ ⟨hj,hfill⟩
 dsimp only at hj hfill
 have hxl:=hfill.len
 have hdw:w / U.length ^ j≤w:=Nat.div_le_self _ _
 refine ifd (fun hltj=>?_) (fun hltj=>?_)
 ·refine aC (by omega) ?_
  refine nEq (x:=((w / U.length ^ j % U.length:Nat):Int)) rfl ?_
  have w_:=uO hu6 (by omega) (w / U.length ^ j)
  obtain⟨ad2,p2,hel2,hr2⟩:=w_
  refine eIn hel2 ?_
  refine aX j rfl (by omega) ?_
  refine aW _ (hfill.rest j (by omega) (by omega)) ?_
  refine aC (by omega) ?_
  refine nEq (x:=((w / U.length ^ (j+1):Nat):Int)) ?_ ?_
  ·have e : w / U.length ^ (j + 1) = w / U.length ^ j / U.length := by rw [Nat.pow_succ, Nat.div_div_eq_div_mul]
   rw[e]
   have hd2:w / U.length ^ j / U.length≤w / U.length ^ j:=Nat.div_le_self _ _
   show IntKind.i64.wrap ((w / U.length ^ j / U.length:Nat):Int)=_
   generalize w / U.length ^ j / U.length=m at hd2 ⊢
   exact aA (by omega) (by omega)
  have hg:=qT U j (a+lo) w (by omega)
  rw[hvs]at hg
  exact aB (by omega) (by omega) ⟨(j+1,_),⟨by dsimp only;omega,hfill.step hg hr2 (by omega)⟩,by dsimp only;omega,⟨⟨rfl,rfl,rfl,rfl,rfl,rfl,rfl,rfl,rfl,rfl,rfl,rfl,rfl,rfl,rfl,rfl,rfl,rfl,trivial⟩,⟨rfl,rfl,rfl,rfl,trivial⟩,rfl,rfl⟩⟩
 obtain rfl:j=a+lo:=by omega
 have hvrows:=hfill.all hdl
 refine aG 0 a rfl ha (Nat.zero_le _) (by omega) ?_
 intro r22
 refine uQ (fun z:Nat×Bool×(Option Nat×Nat×List Value)×(Option Nat×Nat×List Value)×Mem=>z.1≤cl.length∧μ6.Le z.2.2.2.2∧RowAt z.2.2.2.2 (some r94) (a+lo) 4 xs∧Rows z.2.2.2.2 2 (((bQ vs (cl.take z.1)).map F.fc).map Fc.d) z.2.2.1.2.2∧Rows z.2.2.2.2 2 (((iU vs (cl.take z.1)).map F.fc).map Fc.d) z.2.2.2.1.2.2∧(z.2.1=true↔∀g∈cl.take z.1,okG U vs g))
  (fun(m,f,(pb,pc2,ps),(nb,nc,ns),μ7)=>⟨[(1,.val (.slice ub U.length uc)),(6,.row 1 b ys.length c),(11,.row 2 ob os.length oc),(13,.loc 3 r13 0),(14,.val (.int .i64 ((a+lo:Nat):Int))),(15,.val (.int .i64 ((U.length ^ (a+lo):Nat):Int))),(16,.val (.int .i64 k)),(17,.val (.slice pc.1 cl.length pc.2)),(18,.val (.int .i64 (w:Nat))),(19,.val (.slice (some ⟨r94,0,none⟩) (a+lo) (a+lo))),(22,.loc 5 r22 0),(23,.val (.bool f)),(62,.val (.slice q.1 p.rels.length q.2)),(63,.val (.int .i64 p.rels.length)),(64,.val (.int .i64 i)),(81,.val (.slice pv.1 L.length pv.2)),(82,.val (.int .i64 L.length)),(83,.val (.int .i64 k)),(125,.val (.slice pc.1 cl.length pc.2)),(126,.val (.int .i64 cl.length)),(127,.val (.int .i64 m))],[(1,some (.row b c 118 1 ys)),(2,some (.row ob oc 106 6 os)),(3,some (.cells r13 [.val (.string r.name),.val (.int .i64 r.arity),.val (.int .i64 r.locals),.val (.int .i64 r.body.kind),.val (.string r.body.name),.val (.slice q2.1.1 r.body.terms.length q2.1.2),.val (.slice q2.2.1 r.body.goals.length q2.2.2)] 63)),(5,some (.cells r22 [.val (.string r.name),.val (.slice (if a+lo=0 then((some r94).map fun r=>(⟨r,0,none⟩:Addr))else((some r94).map fun r=>(⟨r,0,none⟩:Addr)).map (·.add (0*4))) (a-0) (a+lo-0)),.val (.int .i64 k),.val (.slice (some ⟨r94,0,none⟩) (a+lo) (a+lo)),.row 6 pb ps.length pc2,.row 7 nb ns.length nc] 106)),(6,some (.row pb pc2 41 2 ps)),(7,some (.row nb nc 41 2 ns))],8,μ7,Mem.nil⟩) (fun z=>cl.length-z.1) [4]
  (fun(_,_,(_,_,_),(_,_,_),_)=>⟨rfl,rfl⟩) ?_ ?_
 ·intro μv hlev hnov hatv
  refine⟨(0,true,(none,0,[]),(none,0,[]),μv),⟨Nat.zero_le _,hlev,hatv,.nil,.nil,by simp⟩,?_⟩
  exact⟨⟨⟨_,rfl,.inl rfl⟩,⟨_,rfl,.inl rfl⟩,⟨_,rfl,.inl rfl⟩,⟨_,rfl,.inl rfl⟩,⟨_,rfl,.inl rfl⟩,⟨_,rfl,.inl rfl⟩,⟨_,rfl,.inl rfl⟩,⟨_,rfl,.inl rfl⟩,⟨_,rfl,.inl rfl⟩,⟨_,rfl,.inl rfl⟩,⟨_,rfl,.inl rfl⟩,⟨_,rfl,.inl rfl⟩,⟨_,rfl,.inl rfl⟩,⟨_,rfl,.inl rfl⟩,⟨_,rfl,.inl rfl⟩,⟨_,rfl,.inl rfl⟩,⟨_,rfl,.inl rfl⟩,⟨_,rfl,.inl rfl⟩,⟨_,rfl,.inl rfl⟩,⟨_,rfl,.inl rfl⟩,⟨_,rfl,.inl rfl⟩,trivial⟩,⟨.inl rfl,.inl rfl,.inl rfl,.inr (.inr ⟨_,_,_,_,rfl,rfl,.inl rfl,.inl rfl,.inl rfl,.inl rfl,.inr ⟨6,rfl,rfl,Nat.le_refl _⟩,.inr ⟨7,rfl,rfl,Nat.le_succ 6⟩,trivial⟩),.inr (.inl ⟨_,_,rfl,Nat.le_refl _⟩),.inr (.inl ⟨_,_,rfl,Nat.le_succ 6⟩),trivial⟩,rfl,rfl⟩
 rintro⟨m,f,⟨pb,pc2,ps⟩,⟨nb,nc,ns⟩,μ7⟩ ⟨hm,hle7,hat7,hps,hns,hf⟩
 dsimp only at hm hle7 hat7 hps hns hf
 have hpl:=hps.len
 have hnl:=hns.len
 have hpf:=uJ (vs:=vs) (c:=cl.take m)
 have hnf:=qCz (vs:=vs) (c:=cl.take m)
 rw[List.length_take]at hpf hnf
 simp only[List.length_map]at hpl hnl
 have hnext:=kN U r k cl w
 have skipE:¬(∀g∈cl,okG U vs g)→bI U r k cl (w+1)=bI U r k cl w:=fun h=>by rw[hnext,dY,hnn,hvs,if_neg h,Option.toList_none,List.append_nil]
 have skip:¬(∀g∈cl,okG U vs g)→∀μ8,μ7.Le μ8→Rows μ8 6 (((pre++aY U r L k++bI U r k cl (w+1)).map Ru.rd).map RuD.d) os:=fun h μ8 h8=>by
  rw[skipE h];exact(hrows.mono hle7).mono h8
 have skipL:¬(∀g∈cl,okG U vs g)→(pre++aY U r L k++bI U r k cl (w+1)).length≤2000:=fun h=>by rw[skipE h];exact hroom
 refine ifd (fun hltm=>?_) (fun hltm=>?_)
 rotate_left
 ·obtain rfl : m = cl.length := by omega
  rw[List.take_length]at hf hps hns
  refine iIn (fun hb=>?_) (fun hb=>?_)
  ·have hOk := hf.1 hb
   have hat1:dY U r k cl w=some (dZ r k cl vs):=by rw[dY,hnn,hvs,if_pos hOk]
   intro r177
   refine gIn ?_ ?_ fun b' c' _=>?_
   ·show(os.length+1)*120≤_;omega
   ·exact Nat.le_trans (m:=100000) (show os.length+1≤_ by omega) (by decide)
   have hnew:(pre++aY U r L k++bI U r k cl (w+1)).length=os.length+1:=by
    rw[hnext,hat1,Option.toList_some,←List.append_assoc,List.length_append,List.length_singleton];omega
   refine ifd (fun hbig=>?_) (fun hbig=>?_)
   ·rw [List.length_append, List.length_singleton] at hbig
    exact rPl (hP k (w+1) cl hcl (by omega) (by omega) _)
   rw[List.length_append,List.length_singleton]at hbig
   refine aB (by omega) (by omega) ⟨[6,7],fun μ8 hle8 hno8 hat8 μ9 hle9 hno9 hat9=>⟨(w+1,b',c',_,μ9),⟨by dsimp only;omega,((hle6.trans hle7).trans hle8).trans hle9,?_,by dsimp only;omega⟩,by dsimp only;omega,⟨⟨rfl,rfl,rfl,rfl,rfl,rfl,rfl,rfl,rfl,rfl,rfl,rfl,rfl,rfl,rfl,trivial⟩,⟨rfl,rfl,rfl,trivial⟩,rfl,rfl⟩⟩⟩
   dsimp only
   rw[hnext,hat1,Option.toList_some,←List.append_assoc,List.map_append,List.map_append]
   refine(((hrows.mono hle7).mono hle8).mono hle9).append (Rows.one ?_ (RuD.d_n _))
   have hmax:(1000:Nat)≤maxLen:=by decide
   have hvr:=(hvrows.mono hle7)
   have k1:=qGw hat7 hvr (a:=a) (by omega) (by omega)
   have k2:=Rows.sl hat7 hvr (Nat.le_trans (m:=1000) (by omega) hmax)
   have k3:=Rows.sl hat8 (hps.mono hle8) (Nat.le_trans (m:=1000) (by omega) hmax)
   have k4:=Rows.sl hat9 ((hns.mono hle8).mono hle9) (Nat.le_trans (m:=1000) (by omega) hmax)
   rw[hxl]at k2
   rw[RuD.d_eq]
   have ea:r.arity.toNat=a:=by omega
   show RepV μ9 (.st [.s r.name,.sl 4 (((vs.take r.arity.toNat).map T.tm).map Tm.d),.i (k:Int),.sl 4 ((vs.map T.tm).map Tm.d),.sl 2 (((bQ vs cl).map F.fc).map Fc.d),.sl 2 (((iU vs cl).map F.fc).map Fc.d)]) _
   rw[ea]
   exact⟨_,rfl,RepS.str (RepS.cons1 ((k1.mono hle8).mono hle9) (RepS.int (RepS.cons1 ((k2.mono hle8).mono hle9) (RepS.cons1 (k3.mono hle9) (RepS.last k4)))))⟩
  ·have hno : ¬ ∀ g ∈ cl, okG U vs g := fun h => by rw [hf.2 h] at hb; cases hb
   refine ifd (fun h=>by omega) (fun _=>?_)
   exact aB (by omega) (by omega) ⟨[],(w+1,ob,oc,os,μ7),⟨by dsimp only;omega,hle6.trans hle7,skip hno μ7 (Mem.Le.refl _),skipL hno⟩,by dsimp only;omega,⟨⟨rfl,rfl,rfl,rfl,rfl,rfl,rfl,rfl,rfl,rfl,rfl,rfl,rfl,rfl,rfl,trivial⟩,⟨rfl,rfl,rfl,trivial⟩,rfl,rfl⟩⟩
 have w_:=aSo (l:=cl) (i:=m) (by omega)
 obtain⟨g,hg⟩:=w_
 have w_:=Gl.elem (((hcs.mono hle6).mono hle7)) hg
 obtain⟨adg,pg,helg,hrg⟩:=w_
 have hG:=ClG.of hok hr hL (mAt hcl) (mAt hg)
 have w_:=ClV.of hok hr hL (mAt hcl) (mAt hg) (n:=a+lo) (by omega)
 obtain⟨⟨gx,hgx⟩,hkx⟩:=w_
 refine eIn helg ?_
 intro r25
 refine iIn (fun hb=>?_) (fun hb=>?_)
 ·have hb : f = false := by simpa using hb
  subst hb
  have hno:¬∀g∈cl,okG U vs g:=fun h=>by
   have:=hf.2 fun x hx=>h x (List.mem_of_mem_take hx)
   cases this
  refine iIn (fun h=>nomatch h) (fun _=>?_)
  refine ifd (fun h=>by omega) (fun _=>?_)
  exact aB (by omega) (by omega) ⟨[],(w+1,ob,oc,os,μ7),⟨by dsimp only;omega,hle6.trans hle7,skip hno μ7 (Mem.Le.refl _),skipL hno⟩,by dsimp only;omega,⟨⟨rfl,rfl,rfl,rfl,rfl,rfl,rfl,rfl,rfl,rfl,rfl,rfl,rfl,rfl,rfl,trivial⟩,⟨rfl,rfl,rfl,trivial⟩,rfl,rfl⟩⟩
 have hb:f=true:=by simpa using hb
 have hf1:=hf.1 hb
 have hall:∀bb:Bool,(bb=true↔okG U vs g)→(bb=true↔∀x∈cl.take (m+1),okG U vs x):=fun bb h=>by
  rw[h,List.take_add_one,hg,Option.toList_some]
  constructor
  ·intro k x hx
   rcases List.mem_append.1 hx with hx|hx
   ·exact hf1 x hx
   ·rw[List.mem_singleton.1 hx];exact k
  ·exact fun k=>k g (by simp)
 have hvsl:Sl μ7 4 (some ⟨r94,0,none⟩) vs.length ((vs.map T.tm).map Tm.d):=by
  have k2:=Rows.sl hat7 (hvrows.mono hle7) (Nat.le_trans (m:=1000) (by omega) (by decide))
  have w_:=Rep.sl k2
  obtain⟨bz,cz,ez,hs⟩:=w_
  have w_:=Value.slice.inj ez
  obtain⟨e1,e2,_⟩:=w_
  rw[←e1]at hs
  simpa using hs
 have hu7:=hu6.mono hle7
 refine ifd (fun h9=>?_) (fun h9=>?_)
 ·have hcall := kR (vc := a + lo) hvsl hrg hgx.terms hgx.len (fun x hx n hn => by have := hgx.low x hx n hn; omega)
  rw[hdl]at hcall
  refine cPl hcall fun v8 μ8 hle8 hR8=>?_
  have w_:=F.inv (f:=cJ vs g) hR8
  obtain⟨pf,rfl,hfs⟩:=w_
  intro r26
  refine cGv (kC (U:=U) (l:=(cJ vs g).args) (hu7.mono hle8) hfs) ?_
  intro r150
  refine gIn ?_ ?_ fun b' c' _=>?_
  ·show(ps.length+1)*40≤_;omega
  ·exact Nat.le_trans (m:=100000) (show ps.length+1≤_ by omega) (by decide)
  refine aB (by omega) (by omega) ⟨[],(m+1,decide (∀a∈(cJ vs g).args,a∈U),(b',c',_),(nb,nc,ns),μ8),⟨by dsimp only;omega,hle7.trans hle8,RowAt.up hat7 hle8,?_,?_,hall _ (by rw[decide_eq_true_eq,qVm h9])⟩,by dsimp only;omega,⟨⟨rfl,rfl,rfl,rfl,rfl,rfl,rfl,rfl,rfl,rfl,rfl,rfl,rfl,rfl,rfl,rfl,rfl,rfl,rfl,rfl,rfl,trivial⟩,⟨rfl,rfl,rfl,rfl,rfl,rfl,trivial⟩,rfl,rfl⟩⟩
  ·dsimp only
   rw[fZ hg,if_pos h9]
   simp only[List.map_append,List.map_cons,List.map_nil]
   exact(hps.mono hle8).append (Rows.one hR8 (Fc.d_n _))
  ·dsimp only
   rw[iP hg,if_neg (by omega),List.append_nil]
   exact hns.mono hle8
 refine ifd (fun h10=>?_) (fun h10=>?_)
 ·have hgl := hG.sh.top.gl1 h10
  have w_:=hkx h10
  obtain⟨kx,hkx⟩:=w_
  have w_:=Gl.inv hrg
  obtain⟨q1,e1,_,hgs⟩:=w_
  have w_:=Gl.elem hgs (Gl.kid_at hgl)
  obtain⟨ad2,pk,hel2,hrk⟩:=w_
  have hp:q1=pg:=by
   have h2:=congrArg (fun v=>match v with|Value.agg a=>(a[2]?,a[3]?)|_=>(none,none)) e1
   simp[Gl.cs]at h2
   exact Prod.ext (Prod.ext h2.1.1.symm h2.1.2.symm) (Prod.ext h2.2.1.symm h2.2.2.symm)
  subst hp
  refine eIn hel2 ?_
  have hcall:=kR (vc:=a+lo) hvsl hrk hkx.terms hkx.len (fun x hx n hn=>by have:=hkx.low x hx n hn;omega)
  rw[hdl]at hcall
  refine cPl hcall fun v8 μ8 hle8 hR8=>?_
  have w_:=F.inv (f:=cJ vs g.kid) hR8
  obtain⟨pf,rfl,hfs⟩:=w_
  intro r27
  refine cGv (kC (U:=U) (l:=(cJ vs g.kid).args) (hu7.mono hle8) hfs) ?_
  intro r170
  refine gIn ?_ ?_ fun b' c' _=>?_
  ·show(ns.length+1)*40≤_;omega
  ·exact Nat.le_trans (m:=100000) (show ns.length+1≤_ by omega) (by decide)
  refine aB (by omega) (by omega) ⟨[],(m+1,decide (∀a∈(cJ vs g.kid).args,a∈U),(pb,pc2,ps),(b',c',_),μ8),⟨by dsimp only;omega,hle7.trans hle8,RowAt.up hat7 hle8,?_,?_,hall _ (by rw[decide_eq_true_eq,qRr h10])⟩,by dsimp only;omega,⟨⟨rfl,rfl,rfl,rfl,rfl,rfl,rfl,rfl,rfl,rfl,rfl,rfl,rfl,rfl,rfl,rfl,rfl,rfl,rfl,rfl,rfl,trivial⟩,⟨rfl,rfl,rfl,rfl,rfl,rfl,trivial⟩,rfl,rfl⟩⟩
  ·dsimp only
   rw[fZ hg,if_neg h9,List.append_nil]
   exact hps.mono hle8
  ·dsimp only
   rw[iP hg,if_pos h10]
   simp only[List.map_append,List.map_cons,List.map_nil]
   exact(hns.mono hle8).append (Rows.one hR8 (Fc.d_n _))
 have htrue:=pN (vc:=a+lo) hvsl hrg hgx.terms hgx.len (fun x hx n hn=>by have:=hgx.low x hx n hn;omega) (by have:=hG.simple;rwa [hgx.terms,List.length_map]at this)
 rw[hdl]at htrue
 refine cPl htrue fun v8 μ8 hle8 hR8=>?_
 obtain rfl:=hR8
 refine aB (by omega) (by omega) ⟨[],(m+1,decide (dV g.kind (gx.map (T.subst (bT vs)))),(pb,pc2,ps),(nb,nc,ns),μ8),⟨by dsimp only;omega,hle7.trans hle8,RowAt.up hat7 hle8,?_,?_,hall _ (by rw[decide_eq_true_eq,qBy h9 h10 hgx.terms])⟩,by dsimp only;omega,⟨⟨rfl,rfl,rfl,rfl,rfl,rfl,rfl,rfl,rfl,rfl,rfl,rfl,rfl,rfl,rfl,rfl,rfl,rfl,rfl,rfl,rfl,trivial⟩,⟨rfl,rfl,rfl,rfl,rfl,rfl,trivial⟩,rfl,rfl⟩⟩
 ·dsimp only
  rw[fZ hg,if_neg h9,List.append_nil]
  exact hps.mono hle8
 ·dsimp only
  rw[iP hg,if_neg h10,List.append_nil]
  exact hns.mono hle8
end
end Go.Vx
namespace Go.Vx
open Go.Proofs Classical
noncomputable def bH(p:Pg)(u:List Tm):Option (List Ru):=if p.Pos then bX p u else none
theorem kI{p:Pg}{u:List Tm}{y:List Ru}(h:bX p u=some y):p.Ok∧UnivOk u:=by
 unfold bX at h
 split at h
 ·assumption
 ·cases h
section
variable {μ:Mem}
theorem lT{p:Pg}{u:List Tm}{v:Value}{ub:Option Addr}{uc:Nat}(hp:RepV μ p.d v)(hu:Sl μ 4 ub u.length (u.map Tm.d)):
  Spec Tryz.prog 57 [v,.slice ub u.length uc] μ fun v μ'=>qDo (fun y tv=>RepV μ' (.sl 6 ((y.map Ru.rd).map RuD.d)) tv) (bH p u) v:=by
 have hp0:=hp
 have w_:=Pg.inv hp
 obtain⟨q,rfl,hrl⟩:=w_
 refine Spec.mk Tryz.func57 (by kernel_rfl) ?_
 intro r2
 refine cPl (mZ hp0) fun v1 μ1 hle1 hR=>?_
 obtain rfl:=hR
 refine aL (fun h=>rPl (by rw[bH,if_neg h];rfl)) (fun hpos=>?_)
 refine cGv (nB (hu.mono hle1)) ?_
 refine aL (fun h=>rPl (by rw[bH,if_pos hpos,bX,if_neg fun k=>h k.2];rfl)) (fun huok=>?_)
 have w_:=huok.lift
 obtain⟨U,rfl,hUg,hUl⟩:=w_
 have hgo:bH p (U.map T.tm)=cI p U:=by rw[bH,if_pos hpos,bX,if_pos ⟨hpos.1,huok⟩,gO]
 rw[hgo]
 have h1:=huok.pos
 have h8:=huok.max
 rw[List.length_map]at h1 h8 hu ⊢
 refine cPl (rW (hp0.mono hle1) hpos.1 (hu.mono hle1) h1 h8) fun v2 μ2 hle2 hR=>?_
 cases hL:cI p U with
 |none=>
  rw[hL]at hR
  obtain rfl:=hR
  exact rPl rfl
 |some y=>
  rw[hL]at hR
  obtain⟨tv,rfl,hR⟩:=hR
  exact rPl ⟨tv,rfl,hR⟩
end
end Go.Vx
namespace Go.Vx
open Go.Proofs Classical
theorem Gl.pure_eq(g:Gl):g.Pure↔qSq g.kind∧∀x∈g.goals,x.Pure:=by
 unfold Gl.Pure
 rw[Gl.all_eq]
 constructor
 ·exact fun h=>⟨h g (by simp),fun x hx y hy=>h y (List.mem_cons_of_mem _ (List.mem_flatMap.2 ⟨x,hx,hy⟩))⟩
 ·rintro ⟨h1, h2⟩ x hx
  rcases List.mem_cons.1 hx with rfl|hx
  ·exact h1
  ·have w_ := List.mem_flatMap.1 hx
   obtain⟨y,hy,hx⟩:=w_
   exact h2 y hy x hx
section
variable {μ:Mem}
theorem isN{p q:Prop}[Decidable p](h:¬p↔q):Value.bool (!decide p)= .bool (decide q):=by
 by_cases k:p
 ·rw[decide_eq_true k,decide_eq_false fun hq=>h.2 hq k];rfl
 ·rw[decide_eq_false k,decide_eq_true (h.1 k)];rfl
theorem pD:∀(g:Gl) {v:Value},RepV μ g.d v→aM Tryz.prog 187 [v,.bool true] μ (.bool (decide g.Pure)):=
 Gl.ind fun g ih v hv=>by
  have w_:=Gl.inv hv
  obtain⟨p,rfl,hts,hgs⟩:=w_
  have hn:=aH hgs.max
  refine Spec.mk Tryz.func187 (by kernel_rfl) ?_
  intro r
  refine lIn (fun i:Nat=>i≤g.goals.length∧∀(j:Nat) x,j<i→g.goals[j]? =some x→x.Pure)
   (fun i=>⟨[(1,.val (.bool true)),(2,.loc 0 r 0),(8,.val (.slice p.2.1 g.goals.length p.2.2)),(9,.val (.int .i64 g.goals.length)),(10,.val (.int .i64 i))],[(0,some (.cells r [.val (.int .i64 g.kind),.val (.string g.name),.val (.slice p.1.1 g.terms.length p.1.2),.val (.slice p.2.1 g.goals.length p.2.2)] 61))],1,μ,Mem.nil⟩) (fun i=>g.goals.length-i)
   0 ⟨Nat.zero_le _,fun j x h=>by omega⟩ (fun _=>⟨rfl,rfl⟩) ⟨⟨rfl,rfl,rfl,rfl,rfl,trivial⟩,⟨rfl,trivial⟩,rfl,rfl⟩ ?_
  rintro i ⟨hi,hall⟩
  refine ifd (fun hlt=>?_) (fun hlt=>?_)
  ·have w_ := aSo (l := g.goals) (i := i) (by omega)
   obtain⟨t,ht⟩:=w_
   have w_:=Gl.elem hgs ht
   obtain⟨ad,p3,hel,hr⟩:=w_
   refine eIn hel ?_
   intro r2
   refine cGv (ih t (mAt ht) hr) ?_
   refine aL (fun h=>rGv ?_ rfl) (fun h=>?_)
   ·rw[decide_eq_false fun k=>h (((Gl.pure_eq g).1 k).2 t (mAt ht))]
   ·refine aB (by omega) (by omega) ⟨i + 1, ⟨by omega, fun j y hj hy => ?_⟩, by omega, ⟨⟨rfl, rfl, rfl, rfl, rfl, trivial⟩, ⟨rfl, trivial⟩, rfl, rfl⟩⟩
    rcases Nat.lt_or_ge j i with h6|h6
    ·exact hall j y h6 hy
    ·obtain rfl : j = i := by omega
     rw[ht]at hy;cases hy;exact h
  ·obtain rfl : i = g.goals.length := by omega
   have hsub:∀x∈g.goals,x.Pure:=fun x hx=>by
    have w_:=List.mem_iff_getElem?.1 hx
    obtain⟨j,hj⟩:=w_
    exact hall j x (List.getElem?_eq_some_iff.1 hj).1 hj
   refine aL (fun h=>?_) (fun h=>?_)
   ·refine iIn (fun _ => ?_) (fun h => nomatch h)
    refine cGv (bG _ _ _ _) ?_
    refine rGv ?_ rfl
    refine isN ?_
    rw[Gl.pure_eq]
    exact⟨fun k=>⟨⟨h,k⟩,hsub⟩,fun k=>k.1.2⟩
   ·exact rGv (by rw[decide_eq_false fun k=>((Gl.pure_eq g).1 k).1.1 h]) rfl
theorem rC{p:Pg}{v:Value}(hp:RepV μ p.d v)(hw:p.d.wd):Spec Tryz.prog 125 [v,.bool true] μ fun r _=>r= .bool (decide p.Pure):=by
 have w_:=Pg.inv hp
 obtain⟨q,rfl,hrl⟩:=w_
 refine Spec.mk Tryz.func125 (by kernel_rfl) ?_
 intro r1
 refine cPl (bD hp hw) fun v1 μ1 hle1 hR=>?_
 obtain rfl:=hR
 refine aL (fun h=>rPl (isF fun k=>h k.1)) (fun hok=>?_)
 have hn:=hok.1
 refine lIn (fun i:Nat=>i≤p.rels.length∧∀(j:Nat) x,j<i→p.rels[j]? =some x→x.body.Pure)
  (fun i=>⟨[(1,.val (.bool true)),(11,.val (.slice q.1 p.rels.length q.2)),(12,.val (.int .i64 p.rels.length)),(13,.val (.int .i64 i))],[],1,μ1,Mem.nil⟩) (fun i=>p.rels.length-i)
  0 ⟨Nat.zero_le _,fun j x h=>by omega⟩ (fun _=>⟨rfl,rfl⟩) ⟨⟨rfl,rfl,rfl,rfl,trivial⟩,trivial,rfl,rfl⟩ ?_
 rintro i ⟨hi,hall⟩
 refine ifd (fun hlt=>?_) (fun hlt=>?_)
 ·have w_ := aSo (l := p.rels) (i := i) (by omega)
  obtain⟨x,hx⟩:=w_
  have w_:=Rl.elemA (hrl.mono hle1) hx
  obtain⟨ad,q2,hel,hr,hb⟩:=w_
  have hb:RepV μ1 x.body.d (.agg (x.body.cs q2).toArray):=hb
  refine eIn hel ?_
  intro r2
  refine cGv (pD x.body hb) ?_
  refine aL (fun h=>rPl (isF fun k=>h (k.2 x (mAt hx)))) (fun h=>?_)
  refine aB (by omega) (by omega) ⟨i+1,⟨by omega,fun j y hj hy=>?_⟩,by omega,⟨⟨rfl,rfl,rfl,rfl,trivial⟩,trivial,rfl,rfl⟩⟩
  rcases Nat.lt_or_ge j i with h6|h6
  ·exact hall j y h6 hy
  ·obtain rfl : j = i := by omega
   rw[hx]at hy;cases hy;exact h
 ·obtain rfl : i = p.rels.length := by omega
  exact rPl (isT ⟨hok,fun x hx=>by
   have w_:=List.mem_iff_getElem?.1 hx
   obtain⟨j,hj⟩:=w_
   exact hall j x (List.getElem?_eq_some_iff.1 hj).1 hj⟩)
theorem lF{p:Pg}{v:Value}(hp:RepV μ p.d v)(hw:p.d.wd):Spec Tryz.prog 54 [v] μ fun r _=>r= .bool (decide p.Pure):=by
 have w_:=Pg.inv hp
 obtain⟨q,rfl,hrl⟩:=w_
 refine Spec.mk Tryz.func54 (by kernel_rfl) ?_
 intro r1
 refine cPl (rC hp hw) fun v1 μ1 hle1 hR=>?_
 obtain rfl:=hR
 exact rPl rfl
end
end Go.Vx
namespace Go.Vx
open Go.Proofs Classical
def Tm.Is(t:Tm):Prop:=∃x:T,t=x.tm
theorem qFv:∀{l:List Tm},(∀t∈l,t.Is)→∃xs:List T,l=xs.map T.tm
 |[],_=>⟨[],rfl⟩
 |t::l,h=>by
  have w_:=h t (by simp)
  obtain⟨x,rfl⟩:=w_
  have w_:=qFv (l:=l) fun t ht=>h t (by simp[ht])
  obtain⟨xs,rfl⟩:=w_
  exact⟨x::xs,rfl⟩
def Gl.Mild(g:Gl):Prop:=∀x∈g.all,(∀t∈x.terms,t.Is)∧x.terms.length≤100000∧x.goals.length≤100000
theorem Gl.Mild.top{g:Gl}(h:g.Mild):(∀t∈g.terms,t.Is)∧g.terms.length≤100000∧g.goals.length≤100000:=h g (by rw[Gl.all_eq];simp)
theorem Gl.Mild.sub{g:Gl}(h:g.Mild)(x:Gl)(hx:x∈g.goals):x.Mild:=fun y hy=>h y (by rw[Gl.all_eq];exact List.mem_cons_of_mem _ (List.mem_flatMap.2 ⟨x,hx,hy⟩))
theorem Gl.mild_mk{g:Gl}(h1:∀t∈g.terms,t.Is)(h2:g.terms.length≤100000)(h3:g.goals.length≤100000)(h4:∀x∈g.goals,x.Mild):g.Mild:=fun y hy=>by
 rw[Gl.all_eq]at hy
 rcases List.mem_cons.1 hy with rfl|hy
 ·exact⟨h1,h2,h3⟩
 ·have w_ := List.mem_flatMap.1 hy
  obtain⟨x,hx,hy⟩:=w_
  exact h4 x hx y hy
theorem Gl.Sh.mild:∀(g:Gl),g.Sh→g.Mild:=
 Gl.ind fun g ih hS=>by
  refine Gl.mild_mk (fun t ht=>by have w_:=(hS.top.tm t ht).lift;obtain⟨x,_,rfl⟩:=w_;exact⟨x,rfl⟩) ?_ (by have:=hS.top.gl;omega) fun x hx=>ih x hx (hS.sub x hx)
  have T:=hS.top
  have e9:=T.ln9;have e2:=T.ln2;have e1:=T.ln1;have e0:=T.ln0;have k0:=T.k0;have k1:=T.k1
  omega
section
variable {μ:Mem}
theorem jR{xs:List T}{base:Option Addr}{cap:Nat}(hsl:Sl μ 4 base xs.length ((xs.map T.tm).map Tm.d))(hn:xs.length≤1000000):
  Spec Tryz.prog 101 [.slice base xs.length cap] μ fun v μ'=>Fresh μ μ' (.sl 4 ((xs.map T.tm).map Tm.d)) v:=by
 refine Spec.mk Tryz.func101 (by kernel_rfl) ?_
 intro r6
 refine lIn (fun p:Nat×Option Nat×Nat×List Value×Mem=>p.1≤xs.length∧μ.Le p.2.2.2.2∧Grown 4 μ p.2.2.2.2 (((xs.take p.1).map T.tm).map Tm.d) p.2.2.2.1)
  (fun(i,b,c,ys,μ')=>⟨[(3,.row 0 b ys.length c),(7,.val (.slice base xs.length cap)),(8,.val (.int .i64 xs.length)),(9,.val (.int .i64 i))],[(0,some (.row b c 75 4 ys))],1,μ',Mem.nil⟩) (fun p=>xs.length-p.1)
  (0,some r6,0,[],μ) ⟨Nat.zero_le _,Mem.Le.refl _,Grown.nil _ _ _⟩ (fun(_,_,_,_,_)=>⟨rfl,rfl⟩) ⟨⟨rfl,rfl,rfl,rfl,trivial⟩,⟨rfl,trivial⟩,rfl,rfl⟩ ?_
 rintro⟨i,b,c,ys,μ'⟩ ⟨hi,hle,hrows⟩
 dsimp only at hi hle hrows
 have hlen:=hrows.len
 simp only[List.length_map,List.length_take]at hlen
 refine ifd (fun hlt=>?_) (fun hlt=>?_)
 ·have w_ := aSo (l := xs) (i := i) (by omega)
  obtain⟨x,hx⟩:=w_
  have w_:=T.elemL (hsl.mono hle) hx
  obtain⟨ad,p,hel,hr⟩:=w_
  refine eIn hel ?_
  intro r5
  refine cPl (fN x hr) fun v1 μ1 hle1 hR=>?_
  have w_:=Tm.invV hR.rep
  obtain⟨q,rfl⟩:=w_
  intro r16
  refine gIn ?_ ?_ fun b' c' _=>?_
  ·show(ys.length+1)*56≤_;omega
  ·exact Nat.le_trans (m:=100000000) (show ys.length+1≤_ by omega) (by decide)
  refine aB (by omega) (by omega) ⟨(i+1,b',c',_,μ1),⟨by dsimp only;omega,hle.trans hle1,?_⟩,by dsimp only;omega,⟨⟨rfl,rfl,rfl,rfl,trivial⟩,⟨rfl,trivial⟩,rfl,rfl⟩⟩
  dsimp only
  rw[List.take_add_one,hx,Option.toList_some]
  simp only[List.map_append,List.map_cons,List.map_nil]
  exact hrows.snoc hle hR hle1 (Tm.d_n _)
 ·obtain rfl : i = xs.length := by omega
  rw[List.take_length]at hrows
  refine rFz [0] fun μ2 hle2 hno hrow=> .inl ?_
  exact hrows.fresh hle hle2 hno hrow (Nat.le_trans (m:=1000000) (by omega) (by decide))
theorem xL:∀(g:Gl) {μ:Mem} {v:Value},RepV μ g.d v→g.Mild→Spec Tryz.prog 114 [v] μ fun v μ'=>Fresh μ μ' g.d v:=
 Gl.ind fun g ih μ v hv hS=>by
  have w_:=Gl.inv hv
  obtain⟨p,rfl,hts,hgs⟩:=w_
  have w_:=qFv hS.top.1
  obtain⟨xs,hxs⟩:=w_
  have hg8:=hS.top.2.2
  have hx4:xs.length≤100000:=by
   have h:=hS.top.2.1
   rwa [hxs,List.length_map]at h
  rw[hxs,List.length_map]at hts ⊢
  refine Spec.mk Tryz.func114 (by kernel_rfl) ?_
  intro r1 r2
  refine cPl (jR hts (by omega)) fun v1 μ1 hle1 hR1=>?_
  have w_:=Rep.sl hR1.rep
  obtain⟨bt,ct,rfl,_⟩:=w_
  rw[List.length_map,List.length_map]at hR1 ⊢
  intro r3
  have hgs1:=hgs.mono hle1
  refine aU (fun p:Nat×Option Nat×Nat×List Value×Mem=>p.1≤g.goals.length∧μ1.Le p.2.2.2.2∧Grown 4 μ1 p.2.2.2.2 ((g.goals.take p.1).map Gl.d) p.2.2.2.1)
   (fun (i, b, c, us, μ') => ⟨[(2, .loc 1 r2 0), (3, .loc 2 r3 0), (15, .val (.slice p.2.1 g.goals.length p.2.2)), (16, .val (.int .i64 g.goals.length)), (17, .val (.int .i64 i))],
    [(1,some (.cells r2 [.val (.int .i64 0),.val (.string ⟨#[]⟩),.val (.slice none 0 0),.val (.slice none 0 0)] 61)),(2,some (.cells r3 [.val (.int .i64 g.kind),.val (.string g.name),.val (.slice bt xs.length ct),.row 3 b us.length c] 61)),(3,some (.row b c 61 4 us))],4,μ',Mem.nil⟩) (fun p=>g.goals.length-p.1)
   (0,none,0,[],μ1) ⟨Nat.zero_le _,Mem.Le.refl _,Grown.nil _ _ _⟩ (fun(_,_,_,_,_)=>⟨rfl,rfl⟩) ⟨⟨⟨_,rfl,.inl rfl⟩,⟨_,rfl,.inl rfl⟩,⟨_,rfl,.inl rfl⟩,⟨_,rfl,.inl rfl⟩,⟨_,rfl,.inl rfl⟩,trivial⟩,⟨.inl rfl,.inr (.inr ⟨_,_,_,_,rfl,rfl,.inl rfl,.inl rfl,.inl rfl,.inr ⟨3,rfl,rfl,Nat.le_refl _⟩,trivial⟩),.inr (.inl ⟨_,_,rfl,Nat.le_refl _⟩),trivial⟩,rfl,rfl⟩ ?_
  rintro⟨i,b,c,us,μ'⟩ ⟨hi,hle,hrows⟩
  dsimp only at hi hle hrows
  have hlen:=hrows.len
  simp only[List.length_map,List.length_take]at hlen
  refine ifd (fun hlt=>?_) (fun hlt=>?_)
  ·have w_ := aSo (l := g.goals) (i := i) (by omega)
   obtain⟨x,hx⟩:=w_
   have w_:=Gl.elem (hgs1.mono hle) hx
   obtain⟨ad,p3,hel,hr⟩:=w_
   refine eIn hel ?_
   intro r5
   refine cPl (ih x (mAt hx) hr (hS.sub x (mAt hx))) fun v2 μ2 hle2 hR=>?_
   have w_:=Gl.invV hR.rep
   obtain⟨q,rfl⟩:=w_
   intro r25
   refine gIn ?_ ?_ fun b' c' _=>?_
   ·show(us.length+1)*72≤_;omega
   ·exact Nat.le_trans (m:=100000000) (show us.length+1≤_ by omega) (by decide)
   refine aB (by omega) (by omega) ⟨(i+1,b',c',_,μ2),⟨by dsimp only;omega,hle.trans hle2,?_⟩,by dsimp only;omega,⟨⟨rfl,rfl,rfl,rfl,rfl,trivial⟩,⟨rfl,rfl,rfl,trivial⟩,rfl,rfl⟩⟩
   dsimp only
   rw[List.take_add_one,hx,Option.toList_some]
   simp only[List.map_append,List.map_cons,List.map_nil]
   exact hrows.snoc hle hR hle2 (Gl.d_n _)
  ·obtain rfl : i = g.goals.length := by omega
   rw[List.take_length]at hrows
   refine rFz [3] fun μ2 hle2 hno hrow=> .inl ?_
   rw[Gl.d_eq,hxs]
   have k:=hrows.fresh hle hle2 hno hrow (Nat.le_trans (m:=1000000) (by omega) (by decide))
   exact FreshS.st (FreshS.int (FreshS.str (FreshS.cons hR1 hle1 (hle.trans hle2) (FreshS.cons k (hle.trans hle2) (Mem.Le.refl _) FreshS.nil))))
theorem oU(g:Gl){μ:Mem}{v:Value}(hv:RepV μ g.d v)(hS:g.Sh):Spec Tryz.prog 114 [v] μ fun v μ'=>Fresh μ μ' g.d v:=xL g hv (Gl.Sh.mild _ hS)
theorem tW{p:Pg}{v:Value}(hv:RepV μ p.d v)(hok:p.Ok):Spec Tryz.prog 113 [v] μ fun v μ'=>∃(b:Option Nat) (c:Nat) (us:List Value) (μ1:Mem),v= .agg #[.slice (b.map fun r=>⟨r,0,none⟩) us.length c]∧μ.Le μ1∧μ1.Le μ'∧Grown 7 μ μ1 (p.rels.map Rl.d) us∧(∀r,b=some r→μ1 r=none)∧RowAt μ' b c 7 us:=by
 obtain⟨q,rfl,hrl⟩:=Pg.inv hv
 have hn:=hok.1
 refine Spec.mk Tryz.func113 (by kernel_rfl) ?_
 intro r1 r2 r3
 refine aU (fun z:Nat×Option Nat×Nat×List Value×Mem=>z.1≤p.rels.length∧μ.Le z.2.2.2.2∧Grown 7 μ z.2.2.2.2 ((p.rels.take z.1).map Rl.d) z.2.2.2.1)
  (fun (i, b, c, us, μ') => ⟨[(2, .loc 1 r2 0), (3, .loc 2 r3 0), (8, .val (.slice q.1 p.rels.length q.2)), (9, .val (.int .i64 p.rels.length)), (10, .val (.int .i64 i))],
   [(1,some (.cells r2 [.val (.slice none 0 0)] 25)),(2,some (.cells r3 [.row 3 b us.length c] 25)),(3,some (.row b c 63 7 us))],4,μ',Mem.nil⟩) (fun z=>p.rels.length-z.1)
  (0,none,0,[],μ) ⟨Nat.zero_le _,Mem.Le.refl _,Grown.nil _ _ _⟩ (fun(_,_,_,_,_)=>⟨rfl,rfl⟩) ⟨⟨⟨_,rfl,.inl rfl⟩,⟨_,rfl,.inl rfl⟩,⟨_,rfl,.inl rfl⟩,⟨_,rfl,.inl rfl⟩,⟨_,rfl,.inl rfl⟩,trivial⟩,⟨.inl rfl,.inr (.inr ⟨_,_,_,_,rfl,rfl,.inr ⟨3,rfl,rfl,Nat.le_refl _⟩,trivial⟩),.inr (.inl ⟨_,_,rfl,Nat.le_refl _⟩),trivial⟩,rfl,rfl⟩ ?_
 rintro⟨i,b,c,us,μ'⟩ ⟨hi,hle,hrows⟩
 dsimp only at hi hle hrows
 have hlen:=hrows.len
 simp only[List.length_map,List.length_take]at hlen
 refine ifd (fun hlt=>?_) (fun hlt=>?_)
 ·have w_ := aSo (l := p.rels) (i := i) (by omega)
  obtain⟨x,hx⟩:=w_
  have w_:=Rl.elemA (hrl.mono hle) hx
  obtain⟨ad,q2,hel,hr,hb⟩:=w_
  have hb:RepV μ' x.body.d (.agg (x.body.cs q2).toArray):=hb
  refine eIn hel ?_
  intro r5
  refine cPl (oU x.body hb (hok.2 i x hx).body) fun v2 μ2 hle2 hR=>?_
  have w_:=Gl.invV hR.rep
  obtain⟨q3,rfl⟩:=w_
  intro r26
  refine gIn ?_ ?_ fun b' c' _=>?_
  ·show(us.length+1)*104≤_;omega
  ·exact Nat.le_trans (m:=100000000) (show us.length+1≤_ by omega) (by decide)
  refine aB (by omega) (by omega) ⟨(i+1,b',c',_,μ2),⟨by dsimp only;omega,hle.trans hle2,?_⟩,by dsimp only;omega,⟨⟨rfl,rfl,rfl,rfl,rfl,trivial⟩,⟨rfl,rfl,rfl,trivial⟩,rfl,rfl⟩⟩
  dsimp only
  rw[List.take_add_one,hx,Option.toList_some]
  simp only[List.map_append,List.map_cons,List.map_nil]
  refine hrows.snoc hle ?_ hle2 (Rl.d_n _)
  rw[Rl.d_eq]
  exact FreshS.st (FreshS.str (FreshS.int (FreshS.int (FreshS.cons hR hle2 (Mem.Le.refl _) FreshS.nil))))
 ·obtain rfl : i = p.rels.length := by omega
  rw[List.take_length]at hrows
  refine rFz [3] fun μ2 hle2 hno hrow=> .inl ?_
  exact⟨b,c,us,μ',rfl,hle,hle2,hrows,hno,hrow⟩
theorem tV{p:Pg}{v:Value}(hv:RepV μ p.d v)(hok:p.Ok)(hne:p.rels≠[]):SpecH Tryz.prog 113 [v] μ Mem.nil fun v μ2 H2=>∃(r c:Nat) (ty:TypeId) (us:List Value),v= .agg #[.slice (some ⟨r,0,none⟩) us.length c]∧RowO H2 r c ty 7 us∧Grown 7 μ μ2 (p.rels.map Rl.d) us:=by
 have e0:μ.join Mem.nil=μ:=funext fun b=>by rw[Mem.join_get];cases μ b<;>rfl
 have h0:=tW hv hok
 generalize hR0:(fun v μ'=>∃(b:Option Nat) (c:Nat) (us:List Value) (μ1:Mem),v=Value.agg #[.slice (b.map fun r=>⟨r,0,none⟩) us.length c]∧μ.Le μ1∧μ1.Le μ'∧Grown 7 μ μ1 (p.rels.map Rl.d) us∧(∀r,b=some r→μ1 r=none)∧RowAt μ' b c 7 us)=R0 at h0
 have h:Spec Tryz.prog 113 [v] (μ.join Mem.nil) R0:=by rw[e0];exact h0
 refine(Spec.lendOwn (H:=Mem.nil) (R':=fun v g μ1=>∃(r c:Nat) (ty:TypeId) (us:List Value),v= .agg #[.slice (some ⟨r,0,none⟩) us.length c]∧RowO g r c ty 7 us∧Grown 7 μ (μ1.sub g) (p.rels.map Rl.d) us) (fun b _=>rfl) h fun v μ1 hle hR=>?_).weaken fun v μ2 H2 _ _ hR=>?_
 ·rw [e0]
  rw[←hR0]at hR
  obtain⟨b,c,us,μ0,rfl,hl0,hl1,hgr,hno,hrow⟩:=hR
  have hl:=hgr.len
  rw[List.length_map]at hl
  cases b with
  |none=>
   have:us=[]:=hrow
   subst this
   exact absurd (List.eq_nil_of_length_eq_zero hl) hne
  |some r=>
   obtain⟨h2,h3,arr,ty,h4,h5,h6⟩:=hrow
   have hr0:=hno r rfl
   have hn:=hok.1
   refine⟨Mem.nil.set r (.cells arr ty (0,0)),fun x o hx=>?_,fun x hx=>?_,r,c,ty,us,rfl,⟨arr.toList,Mem.set_at _ _ _,h2,Nat.le_trans (m:=8) (by omega) (by decide),h3,by simpa using h5,h6⟩,?_⟩
   ·by_cases e : x = r
    ·subst e;rw[Mem.set_at]at hx;rw[h4];exact hx
    ·rw[Mem.set_ne e]at hx;cases hx
   ·by_cases e : x = r
    ·subst e
     cases e2:μ x with
     |none=>rfl
     |some o=>rw[hl0 x o e2]at hr0;cases hr0
    ·rw[Mem.set_ne e]at hx;exact absurd rfl hx
   ·obtain ⟨g, k1, k2, k3⟩ := hgr
    refine⟨g,k1,Mem.le_sub (k2.trans hl1) (fun b hb=>?_),k3⟩
    by_cases e:b=r
    ·subst e
     cases e2:g b with
     |none=>exact absurd e2 hb
     |some o=>rw[k2 b o e2]at hr0;cases hr0
    ·rw[Mem.set_ne e];rfl
 ·obtain ⟨g, μ1, ⟨r, c, ty, us, rfl, ⟨cs, q1, q2⟩, hgr⟩, _, hp, rfl⟩ := hR
  exact⟨r,c,ty,us,rfl,⟨cs,hp.right _ _ q1,q2⟩,hgr⟩
end
end Go.Vx
namespace Go.Vx
open Go.Proofs Classical
section
variable {μ:Mem}
theorem Gl.termsW{g:Gl}{a b ts gs:Value}(h:RepV μ g.d (.agg #[a,b,ts,gs])):RepV μ (.sl 4 (g.terms.map Tm.d)) ts:=by
 have h2:∃cs,Value.agg #[a,b,ts,gs]= .agg (List.toArray cs)∧Rep μ g.d cs:=by rw[Gl.d_eq]at h ⊢;exact h
 obtain⟨cs,e,h3⟩:=h2
 have e:cs=[a,b,ts,gs]:=by
  injection e with e
  have:=congrArg Array.toList e
  simpa using this.symm
 subst e
 rw[Gl.d_eq]at h3
 obtain⟨a0,t0,e0,h0,h3⟩:=h3
 have h0:a0=[.int .i64 g.kind]:=h0
 subst h0
 obtain⟨rfl,rfl⟩:=List.cons.inj e0
 obtain⟨a1,t1,e1,h1,h3⟩:=h3
 have h1:a1=[.string g.name]:=h1
 subst h1
 obtain⟨rfl,rfl⟩:=List.cons.inj e1
 obtain⟨a2,t2,e2,h2,h3⟩:=h3
 have w_:=gV (Rep.len _ _ h2)
 obtain⟨v2,rfl⟩:=w_
 obtain⟨rfl,_⟩:=List.cons.inj e2
 exact h2
set_option maxHeartbeats 1000000 in
end
end Go.Vx
namespace Go.Vx
open Go.Proofs Classical
theorem T.subst_congrD{f g:Int→Option T}:∀(x:T),(∀n∈x.vars,(f n).getD (.var n)=(g n).getD (.var n))→x.subst f=x.subst g
 | .nil,_=>rfl
 | .var n,h=>h n (by simp[T.vars])
 | .sym _,_=>rfl
 | .num _,_=>rfl
 | .pair a b,h=>by
  show T.pair (a.subst f) (b.subst f)=T.pair (a.subst g) (b.subst g)
  rw[T.subst_congrD a fun n hn=>h n (by simp[T.vars,hn]),T.subst_congrD b fun n hn=>h n (by simp[T.vars,hn])]
end Go.Vx
namespace Go.Vx
open Go.Proofs Classical
def qVn(P:Pg→Value→Prop)(o:Option Pg)(v:Value):Prop:=match o with
 |none=>v= .tuple #[.agg #[.slice none 0 0],.bool false]
 |some y=>∃tv,v= .tuple #[tv,.bool true]∧P y tv
section
variable {μ:Mem}
end
end Go.Vx
namespace Go.Vx
open Go.Proofs Classical
theorem Gl.wd_mk{g:Gl}(h1:InR g.kind)(h2:g.name.size≤maxLen)(h3:∀t∈g.terms,t.d.wd)(h4:∀x∈g.goals,x.d.wd):g.d.wd:=by
 rw[Gl.d_eq]
 refine⟨h1,h2,D.wds_of fun d hd=>?_,D.wds_of fun d hd=>?_,trivial⟩
 ·have w_ := List.mem_map.1 hd
  obtain⟨y,hy,rfl⟩:=w_
  exact h3 y hy
 ·have w_ := List.mem_map.1 hd
  obtain⟨y,hy,rfl⟩:=w_
  exact h4 y hy
theorem Gl.wd_at{g:Gl}(h:g.d.wd):InR g.kind∧g.name.size≤maxLen∧(∀t∈g.terms,t.d.wd)∧∀x∈g.goals,x.d.wd:=by
 rw[Gl.d_eq]at h
 exact⟨h.1,h.2.1,fun t ht=>D.wds_mem h.2.2.1 _ (List.mem_map_of_mem ht),fun t ht=>D.wds_mem h.2.2.2.1 _ (List.mem_map_of_mem ht)⟩
theorem Pg.repS{μ:Mem}{p:Pg}{v:Value}(h:RepV μ (.sl 7 (p.rels.map Rl.d)) v):RepV μ p.d (.agg #[v]):=by
 rw[Pg.d_eq]
 exact⟨_,rfl,RepS.last h⟩
section
variable {μ:Mem}
set_option maxHeartbeats 2000000 in
end
end Go.Vx
namespace Go.Vx
open Go.Proofs Classical
theorem Gl.all_self(g:Gl):g∈g.all:=by rw[Gl.all_eq];simp
theorem Gl.all_sub{g x y:Gl}(hx:x∈g.goals)(hy:y∈x.all):y∈g.all:=by
 rw[Gl.all_eq];exact List.mem_cons_of_mem _ (List.mem_flatMap.2 ⟨x,hx,hy⟩)
theorem Gl.all_wd:∀g:Gl,g.d.wd→∀x∈g.all,x.d.wd:=
 Gl.ind fun g ih h x hx=>by
  rw[Gl.all_eq]at hx
  rcases List.mem_cons.1 hx with rfl|hx
  ·exact h
  ·have w_ := List.mem_flatMap.1 hx
   obtain⟨y,hy,hx⟩:=w_
   exact ih y hy ((Gl.wd_at h).2.2.2 y hy) x hx
def Gl.Single(g:Gl):Prop:=g.Ok∧g.kind≠7∧g.kind≠8
def qGo(l:List (List Gl)):Prop:=l.length≤8∧∀c∈l,c.length≤8∧∀g∈c,g.Single
def cgA(c:List Gl):Gl:= .mk 7 ⟨#[]⟩ [] c
def cgG(l:List (List Gl)):Gl:= .mk 8 ⟨#[]⟩ [] (l.map cgA)
noncomputable def cgO(l:List (List Gl)):Option Gl:=if qGo l then some (cgG l)else none
def bK:List Gl→Nat→Option Nat
 |[],_=>none
 |g::r,0=>if g.kind=9 then some 0 else(bK r 0).map (·+1)
 |g::r,k+1=>if g.kind=9 then(bK r k).map (·+1)else(bK r (k+1)).map (·+1)
theorem gX:∀{l:List Gl} {k a:Nat},bK l k=some a→∃g,l[a]? =some g∧g.kind=9
 |[],_,_,h=>by cases h
 |g::r,0,a,h=>by
  rw[bK]at h
  split at h
  ·rename_i h9
   cases h;exact⟨g,rfl,h9⟩
  ·have w_ := Option.map_eq_some_iff.1 h
   obtain⟨b,hb,rfl⟩:=w_
   exact gX (l:=r) hb
 |g::r,k+1,a,h=>by
  rw[bK]at h
  split at h
  ·have w_ := Option.map_eq_some_iff.1 h
   obtain⟨b,hb,rfl⟩:=w_
   exact gX (l:=r) hb
  ·have w_ := Option.map_eq_some_iff.1 h
   obtain⟨b,hb,rfl⟩:=w_
   exact gX (l:=r) hb
def pS:Option Nat→Int
 |some a=>a
 |none=> -1
def eqG(n:Int)(i:Nat)(t:Tm):Gl:= .mk 2 ⟨#[]⟩ [(T.var (n+i)).tm,t] []
def kY(n:Int)(ts:List Tm):List Gl:=ts.mapIdx (eqG n)
theorem yM{n:Int}{ts:List Tm}{i:Nat}{t:Tm}(h:ts[i]? =some t):(kY n ts).take (i+1)=(kY n ts).take i++[eqG n i t]:=by
 rw[List.take_add_one,kY,List.getElem?_mapIdx,h];rfl
theorem iE(n:Int)(ts:List Tm):(kY n ts).length=ts.length:=by rw[kY,List.length_mapIdx]
noncomputable def gC(l:List Gl)(a:Nat)(g:Gl)(n:Int)(d:List Gl):List Gl:=l.take a++kY n g.terms++d.map (Gl.put (shF n))++l.drop (a+1)
noncomputable def qIs(cls:List (List Gl))(c:Nat)(l:List Gl)(a:Nat)(g:Gl)(n:Int)(ds:List (List Gl)):List (List Gl):=cls.take c++ds.map (gC l a g n)++cls.drop (c+1)
structure UnfD where
 k:Nat
 r:Rl
 cls:List (List Gl)
 c:Nat
 l:List Gl
 a:Nat
 g:Gl
 q:Rl
structure UnfAt (p:Pg) (nm:ByteArray) (clause call:Int) (x:UnfD):Prop where
 find:eF p nm=x.k
 rel:p.rels[x.k]? =some x.r
 cl:x.r.body.cl=some x.cls
 cc:clause=x.c
 cls:x.cls[x.c]? =some x.l
 call0:0≤call
 pos:bK x.l call.toNat=some x.a
 goal:x.l[x.a]? =some x.g
 called:∃j:Nat,relAt p x.g.name=j∧p.rels[j]? =some x.q
theorem UnfAt.uniq{p:Pg}{nm:ByteArray}{clause call:Int}{x y:UnfD}(h:UnfAt p nm clause call x)(h':UnfAt p nm clause call y):x=y:=by
 obtain⟨k,r,cls,c,l,a,g,q⟩:=x
 obtain⟨k',r',cls',c',l',a',g',q'⟩:=y
 obtain⟨h1,h2,h3,h4,h5,h6,h7,h8,j,h9,h10⟩:=h
 obtain⟨i1,i2,i3,i4,i5,i6,i7,i8,j',i9,i10⟩:=h'
 dsimp only at*
 obtain rfl:k=k':=by omega
 rw[h2]at i2;cases i2
 rw[h3]at i3;cases i3
 obtain rfl:c=c':=by omega
 rw[h5]at i5;cases i5
 rw[h7]at i7;cases i7
 rw[h8]at i8;cases i8
 obtain rfl:j=j':=by omega
 rw[h10]at i10;cases i10
 rfl
noncomputable def UnfD.ls(x:UnfD)(ds:List (List Gl)):List (List Gl):=qIs x.cls x.c x.l x.a x.g (x.r.arity+x.r.locals) ds
noncomputable def UnfD.pg(x:UnfD)(p:Pg)(ds:List (List Gl)):Pg:=⟨p.rels.set x.k ⟨x.r.name,x.r.arity,x.r.locals+x.q.arity+x.q.locals,cgG (x.ls ds)⟩⟩
def jX(p:Pg)(x:UnfD)(ds:List (List Gl)):Prop:=x.q.body.cl=some ds∧qGo (x.ls ds)∧(x.pg p ds).Ok
noncomputable def rR(p:Pg)(nm:ByteArray)(clause call:Int):Option (Pg×Nat):=
 if h:∃z:UnfD×List (List Gl),UnfAt p nm clause call z.1∧jX p z.1 z.2 then some (h.choose.1.pg p h.choose.2,h.choose.2.length)else none
theorem sJ{p:Pg}{nm:ByteArray}{clause call:Int}{x:UnfD}{ds:List (List Gl)}(h:UnfAt p nm clause call x)(h2:jX p x ds):rR p nm clause call=some (x.pg p ds,ds.length):=by
 have hx:∃z:UnfD×List (List Gl),UnfAt p nm clause call z.1∧jX p z.1 z.2:=⟨(x,ds),h,h2⟩
 have h3:=hx.choose_spec
 have e:hx.choose=(x,ds):=by
  have e1:=h3.1.uniq h
  have e2:=h3.2.1
  rw[e1,h2.1]at e2
  exact Prod.ext e1 (Option.some.inj e2).symm
 rw[rR,dif_pos hx,e]
theorem gB{p:Pg}{nm:ByteArray}{clause call:Int}(h:∀x,¬UnfAt p nm clause call x):rR p nm clause call=none:=by
 rw[rR,dif_neg fun k=>by obtain⟨⟨x,_⟩,hx,_⟩:=k;exact h x hx]
theorem lG{p:Pg}{nm:ByteArray}{clause call:Int}{x:UnfD}(h:UnfAt p nm clause call x)(h2:∀ds,¬jX p x ds):rR p nm clause call=none:=by
 rw[rR,dif_neg fun k=>by obtain⟨⟨y,ds⟩,hy,hd⟩:=k;exact h2 ds (h.uniq hy ▸ hd)]
end Go.Vx
namespace Go.Vx
open Go.Proofs Classical
section
variable {μ:Mem}
theorem vN{g:Gl}{v:Value}(hv:RepV μ g.d v)(hw:g.d.wd):aM Tryz.prog 172 [v] μ (.bool (decide g.Single)):=by
 have w_:=Gl.invV hv
 obtain⟨p,rfl⟩:=w_
 refine Spec.mk Tryz.func172 (by kernel_rfl) ?_
 intro r1
 refine cGv (cW g hv hw) ?_
 refine ifd (fun h1=>?_) (fun h1=>rGv (isF fun h=>h1 h.1) rfl)
 refine aL (fun h2=>?_) (fun h2=>rGv (isF fun h=>h.2.1 h2) rfl)
 refine rGv ?_ rfl
 show Value.bool _=Value.bool _
 congr 1
 by_cases e:g.kind=8
 ·rw[decide_eq_true e,decide_eq_false fun k:g.Single=>k.2.2 e];rfl
 ·rw[decide_eq_false e,decide_eq_true (show g.Single from⟨h1,h2,e⟩)];rfl
theorem bC{k:Int}{a b:Option Addr×Nat×Nat}:aM Tryz.prog 94 [.int .i64 k,.slice a.1 a.2.1 a.2.2,.slice b.1 b.2.1 b.2.2] μ (.agg #[.int .i64 k,.string ⟨#[]⟩,.slice a.1 a.2.1 a.2.2,.slice b.1 b.2.1 b.2.2]):=by
 refine Spec.mk Tryz.func94 (by kernel_rfl) ?_
 intro r6
 exact rGv rfl rfl
theorem qNl{c:List Gl}{v:Value}(h:RepV μ (csD c) v):RepV μ (cgA c).d (.agg #[.int .i64 7,.string ⟨#[]⟩,.slice none 0 0,v]):=by
 rw[Gl.d_eq]
 have hnil:RepV μ (.sl 4 (([]:List Tm).map Tm.d)) (.slice none 0 0):=⟨none,0,rfl,⟨Nat.zero_le _,Nat.zero_le _⟩,(fun _ h=>nomatch h),.inl rfl⟩
 exact⟨_,rfl,RepS.int (RepS.str (RepS.cons1 hnil (RepS.last h)))⟩
set_option maxHeartbeats 1000000 in
theorem nQ{l:List (List Gl)}{base:Option Addr}{cap:Nat}(hsl:Sl μ 1 base l.length (l.map csD))(hw:∀c∈l,∀g∈c,g.d.wd)(hb:l.length≤100000)(hb2:∀c∈l,c.length≤100000):
  Spec Tryz.prog 97 [.slice base l.length cap] μ fun v μ'=>qRs (fun y tv=>RepV μ' y.d tv) (cgO l) v:=by
 refine Spec.mk Tryz.func97 (by kernel_rfl) ?_
 intro r2 r4
 refine aU (fun z:Nat×Option Nat×Nat×List Value×Mem=>z.1≤l.length∧μ.Le z.2.2.2.2∧Rows z.2.2.2.2 4 (((l.take z.1).map cgA).map Gl.d) z.2.2.2.1∧(∀c∈l.take z.1,c.length≤8∧∀g∈c,g.Single)∧(z.1=0∨l.length≤8))
  (fun (i, b, c, us, μ') => ⟨[(0, .val (.slice base l.length cap)), (2, .loc 0 r2 0), (4, .loc 1 r4 0), (10, .val (.slice base l.length cap)), (11, .val (.int .i64 l.length)), (12, .val (.int .i64 i))],
   [(0,some (.cells r2 [.val (.int .i64 0),.val (.string ⟨#[]⟩),.val (.slice none 0 0),.val (.slice none 0 0)] 61)),(1,some (.cells r4 [.val (.int .i64 8),.val (.string ⟨#[]⟩),.val (.slice none 0 0),.row 2 b us.length c] 61)),(2,some (.row b c 61 4 us))],3,μ',Mem.nil⟩) (fun z=>l.length-z.1)
  (0,none,0,[],μ) ⟨Nat.zero_le _,Mem.Le.refl _,.nil,by simp,.inl rfl⟩ (fun(_,_,_,_,_)=>⟨rfl,rfl⟩) ⟨⟨⟨_,rfl,.inl rfl⟩,⟨_,rfl,.inl rfl⟩,⟨_,rfl,.inl rfl⟩,⟨_,rfl,.inl rfl⟩,⟨_,rfl,.inl rfl⟩,⟨_,rfl,.inl rfl⟩,trivial⟩,⟨.inl rfl,.inr (.inr ⟨_,_,_,_,rfl,rfl,.inl rfl,.inl rfl,.inl rfl,.inr ⟨2,rfl,rfl,Nat.le_refl _⟩,trivial⟩),.inr (.inl ⟨_,_,rfl,Nat.le_refl _⟩),trivial⟩,rfl,rfl⟩ ?_
 rintro⟨i,b,c,us,μ'⟩ ⟨hi,hle,hrows,hall,h8⟩
 dsimp only at hi hle hrows hall h8
 have hul:=hrows.len
 simp only[List.length_map,List.length_take]at hul
 refine ifd (fun hlt=>?_) (fun hlt=>?_)
 ·have w_ := aSo (l := l) (i := i) (by omega)
  obtain⟨x,hx⟩:=w_
  have hxm:=mAt hx
  have w_:=cF (hsl.mono hle) hx
  obtain⟨ad,px,hel,hrx⟩:=w_
  have hxl:=hb2 x hxm
  have hxs:Sl μ' 4 px.1 x.length (x.map Gl.d):=by
   have w_:=Rep.sl (xs:=x.map Gl.d) hrx
   obtain⟨b',c',e1,hs⟩:=w_
   have w_:=Value.slice.inj e1
   obtain⟨rfl,_,_⟩:=w_
   simpa using hs
  refine eIn hel ?_
  refine lIn (fun j:Nat=>j≤x.length∧∀g∈x.take j,g.Single)
   (fun j => ⟨[(0, .val (.slice base l.length cap)), (2, .loc 0 r2 0), (4, .loc 1 r4 0), (6, .val (.slice px.1 x.length px.2)), (10, .val (.slice base l.length cap)), (11, .val (.int .i64 l.length)), (12, .val (.int .i64 i)), (16, .val (.slice px.1 x.length px.2)), (17, .val (.int .i64 x.length)), (18, .val (.int .i64 j))],
    [(0,some (.cells r2 [.val (.int .i64 0),.val (.string ⟨#[]⟩),.val (.slice none 0 0),.val (.slice none 0 0)] 61)),(1,some (.cells r4 [.val (.int .i64 8),.val (.string ⟨#[]⟩),.val (.slice none 0 0),.row 2 b us.length c] 61)),(2,some (.row b c 61 4 us))],3,μ',Mem.nil⟩) (fun j=>x.length-j)
   0 ⟨Nat.zero_le _,by simp⟩ (fun _=>⟨rfl,rfl⟩) ⟨⟨rfl,rfl,rfl,rfl,rfl,rfl,rfl,rfl,rfl,rfl,trivial⟩,⟨rfl,rfl,rfl,trivial⟩,rfl,rfl⟩ ?_
  rintro j ⟨hj,hsing⟩
  refine ifd (fun hlt2=>?_) (fun hlt2=>?_)
  ·have w_ := aSo (l := x) (i := j) (by omega)
   obtain⟨y,hy⟩:=w_
   have w_:=Gl.elem hxs hy
   obtain⟨ad2,p2,hel2,hr2⟩:=w_
   refine eIn hel2 ?_
   intro r8
   refine cGv (vN hr2 (hw x hxm y (mAt hy))) ?_
   refine aL (fun hn=>?_) (fun hs=>?_)
   ·refine rPl ?_
    rw[cgO,if_neg fun k=>hn ((k.2 x hxm).2 y (mAt hy))]
    rfl
   refine aB (by omega) (by omega) ⟨j+1,⟨by omega,fun g hg=>?_⟩,by omega,⟨⟨rfl,rfl,rfl,rfl,rfl,rfl,rfl,rfl,rfl,rfl,trivial⟩,⟨rfl,rfl,rfl,trivial⟩,rfl,rfl⟩⟩
   rw[List.take_add_one,hy,Option.toList_some]at hg
   rcases List.mem_append.1 hg with hg|hg
   ·exact hsing g hg
   ·rw[List.mem_singleton.1 hg];exact hs
  ·obtain rfl : j = x.length := by omega
   rw[List.take_length]at hsing
   refine ifd (fun h88=>?_) (fun h88=>?_)
   ·refine rPl ?_
    rw[cgO,if_neg fun k=>by have:=(k.2 x hxm).1;omega]
    rfl
   refine ifd (fun h89=>?_) (fun h89=>?_)
   ·refine rPl ?_
    rw[cgO,if_neg fun k=>by have:=k.1;omega]
    rfl
   refine cPl (lQ hxs (by omega) (fun g hg=>(hsing g hg).1.1)) fun v3 μ3 hle3 hR3=>?_
   have w_:=sL hR3
   obtain⟨q3,rfl⟩:=w_
   refine cGv (bC (a:=(none,0,0)) (b:=(q3.1,x.length,q3.2))) ?_
   intro r41
   refine gIn ?_ ?_ fun b' c' _=>?_
   ·show(us.length+1)*72≤_;omega
   ·exact Nat.le_trans (m:=100000000) (show us.length+1≤_ by omega) (by decide)
   refine aB (by omega) (by omega) ⟨(i+1,b',c',_,μ3),⟨by dsimp only;omega,hle.trans hle3,?_,?_,by dsimp only;omega⟩,by dsimp only;omega,⟨⟨rfl,rfl,rfl,rfl,rfl,rfl,trivial⟩,⟨rfl,rfl,rfl,trivial⟩,rfl,rfl⟩⟩
   ·dsimp only
    rw[List.take_add_one,hx,Option.toList_some]
    simp only[List.map_append,List.map_cons,List.map_nil]
    exact(hrows.mono hle3).append (Rows.one (qNl hR3) (Gl.d_n _))
   ·dsimp only
    intro c hc
    rw[List.take_add_one,hx,Option.toList_some]at hc
    rcases List.mem_append.1 hc with hc|hc
    ·exact hall c hc
    ·rw[List.mem_singleton.1 hc];exact⟨by omega,hsing⟩
 ·obtain rfl : i = l.length := by omega
  rw[List.take_length]at hrows hall
  refine rFz [2] fun μ2 hle2 hno hrow=> .inl ?_
  rw[cgO,if_pos ⟨by omega,hall⟩]
  refine⟨_,rfl,?_⟩
  show RepV _ (cgG l).d _
  rw[cgG,Gl.d_eq]
  have hnil:RepV μ2 (.sl 4 (([]:List Tm).map Tm.d)) (.slice none 0 0):=⟨none,0,rfl,⟨Nat.zero_le _,Nat.zero_le _⟩,(fun _ h=>nomatch h),.inl rfl⟩
  exact⟨_,rfl,RepS.int (RepS.str (RepS.cons1 hnil (RepS.last (Rows.sl hrow (hrows.mono hle2) (Nat.le_trans (m:=100000000) (by omega) (by decide))))))⟩
set_option maxHeartbeats 1000000 in
theorem mY{l:List (List Gl)}{base:Option Addr}{cap:Nat}(hsl:Sl μ 1 base l.length (l.map csD))(hb:l.length≤100000)(hb2:∀c∈l,c.length≤100000):
  Spec Tryz.prog 165 [.slice base l.length cap] μ fun v μ'=>qRs (fun y tv=>Fresh μ μ' y.d tv) (cgO l) v:=by
 refine Spec.mk Tryz.func165 (by kernel_rfl) ?_
 intro r2
 refine ifd (fun h8=>?_) (fun h8=>?_)
 ·refine rPl ?_
  rw[cgO,if_neg fun k=>by have:=k.1;omega]
  rfl
 intro r4
 refine uQ (fun z:Nat×Option Nat×Nat×List Value×Mem=>z.1≤l.length∧μ.Le z.2.2.2.2∧Grown 4 μ z.2.2.2.2 (((l.take z.1).map cgA).map Gl.d) z.2.2.2.1∧(∀c∈l.take z.1,c.length≤8∧∀g∈c,g.Single))
  (fun (i, b, c, us, μ') => ⟨[(2, .loc 0 r2 0), (4, .loc 1 r4 0), (15, .val (.slice base l.length cap)), (16, .val (.int .i64 l.length)), (17, .val (.int .i64 i))],
   [(0,some (.cells r2 [.val (.int .i64 0),.val (.string ⟨#[]⟩),.val (.slice none 0 0),.val (.slice none 0 0)] 61)),(1,some (.cells r4 [.val (.int .i64 8),.val (.string ⟨#[]⟩),.val (.slice none 0 0),.row 2 b us.length c] 61)),(2,some (.row b c 61 4 us))],3,μ',Mem.nil⟩) (fun z=>l.length-z.1) [] (fun(_,_,_,_,_)=>⟨rfl,rfl⟩)
  ⟨(0,none,0,[],μ),⟨Nat.zero_le _,Mem.Le.refl _,Grown.nil _ _ _,by simp⟩,⟨⟨⟨_,rfl,.inl rfl⟩,⟨_,rfl,.inl rfl⟩,⟨_,rfl,.inl rfl⟩,⟨_,rfl,.inl rfl⟩,⟨_,rfl,.inl rfl⟩,trivial⟩,⟨.inl rfl,.inr (.inr ⟨_,_,_,_,rfl,rfl,.inl rfl,.inl rfl,.inl rfl,.inr ⟨2,rfl,rfl,Nat.le_refl _⟩,trivial⟩),.inr (.inl ⟨_,_,rfl,Nat.le_refl _⟩),trivial⟩,rfl,rfl⟩⟩ ?_
 rintro⟨i,b,c,us,μ'⟩ ⟨hi,hle,hrows,hall⟩
 dsimp only at hi hle hrows hall
 have hul:=hrows.len
 simp only[List.length_map,List.length_take]at hul
 refine ifd (fun hlt=>?_) (fun hlt=>?_)
 ·have w_ := aSo (l := l) (i := i) (by omega)
  obtain⟨x,hx⟩:=w_
  have hxm:=mAt hx
  have w_:=cF (hsl.mono hle) hx
  obtain⟨ad,px,hel,hrx⟩:=w_
  have hxl:=hb2 x hxm
  have hxs:Sl μ' 4 px.1 x.length (x.map Gl.d):=by
   have w_:=Rep.sl (xs:=x.map Gl.d) hrx
   obtain⟨b',c',e1,hs⟩:=w_
   have w_:=Value.slice.inj e1
   obtain⟨rfl,_,_⟩:=w_
   simpa using hs
  refine eIn hel ?_
  refine ifd (fun h88=>?_) (fun h88=>?_)
  ·refine rPl ?_
   rw[cgO,if_neg fun k=>by have:=(k.2 x hxm).1;omega]
   rfl
  intro r7
  refine aU (fun z:Nat×Option Nat×Nat×List Value×Mem=>z.1≤x.length∧μ'.Le z.2.2.2.2∧Grown 4 μ' z.2.2.2.2 ((x.take z.1).map Gl.d) z.2.2.2.1∧∀g∈x.take z.1,g.Single)
   (fun (j, b2, c2, ys, μ2) => ⟨[(2, .loc 0 r2 0), (4, .loc 1 r4 0), (7, .loc 3 r7 0), (15, .val (.slice base l.length cap)), (16, .val (.int .i64 l.length)), (17, .val (.int .i64 i)), (26, .val (.slice px.1 x.length px.2)), (27, .val (.int .i64 x.length)), (28, .val (.int .i64 j))],
    [(0,some (.cells r2 [.val (.int .i64 0),.val (.string ⟨#[]⟩),.val (.slice none 0 0),.val (.slice none 0 0)] 61)),(1,some (.cells r4 [.val (.int .i64 8),.val (.string ⟨#[]⟩),.val (.slice none 0 0),.row 2 b us.length c] 61)),(2,some (.row b c 61 4 us)),(3,some (.cells r7 [.val (.int .i64 7),.val (.string ⟨#[]⟩),.val (.slice none 0 0),.row 4 b2 ys.length c2] 61)),(4,some (.row b2 c2 61 4 ys))],5,μ2,Mem.nil⟩) (fun z=>x.length-z.1)
   (0,none,0,[],μ') ⟨Nat.zero_le _,Mem.Le.refl _,Grown.nil _ _ _,by simp⟩ (fun(_,_,_,_,_)=>⟨rfl,rfl⟩) ⟨⟨⟨_,rfl,.inl rfl⟩,⟨_,rfl,.inl rfl⟩,⟨_,rfl,.inl rfl⟩,⟨_,rfl,.inl rfl⟩,⟨_,rfl,.inl rfl⟩,⟨_,rfl,.inl rfl⟩,⟨_,rfl,.inl rfl⟩,⟨_,rfl,.inl rfl⟩,⟨_,rfl,.inl rfl⟩,trivial⟩,⟨.inl rfl,.inl rfl,.inl rfl,.inr (.inr ⟨_,_,_,_,rfl,rfl,.inl rfl,.inl rfl,.inl rfl,.inr ⟨4,rfl,rfl,Nat.le_refl _⟩,trivial⟩),.inr (.inl ⟨_,_,rfl,Nat.le_refl _⟩),trivial⟩,rfl,rfl⟩ ?_
  rintro⟨j,b2,c2,ys,μ2⟩ ⟨hj,hle2,hrows2,hsing⟩
  dsimp only at hj hle2 hrows2 hsing
  have hyl:=hrows2.len
  simp only[List.length_map,List.length_take]at hyl
  refine ifd (fun hlt2=>?_) (fun hlt2=>?_)
  ·have w_ := aSo (l := x) (i := j) (by omega)
   obtain⟨y,hy⟩:=w_
   have w_:=Gl.elem (hxs.mono hle2) hy
   obtain⟨ad2,p2,hel2,hr2⟩:=w_
   refine eIn hel2 ?_
   intro r9
   refine cGv (rY y hr2) ?_
   refine aL (fun hn=>?_) (fun hok=>?_)
   ·refine rPl ?_
    rw[cgO,if_neg fun k=>hn ((k.2 x hxm).2 y (mAt hy)).1]
    rfl
   refine ifd (fun h7=>?_) (fun h7=>?_)
   ·refine rPl ?_
    rw[cgO,if_neg fun k=>((k.2 x hxm).2 y (mAt hy)).2.1 h7]
    rfl
   refine ifd (fun h9=>?_) (fun h9=>?_)
   ·refine rPl ?_
    rw[cgO,if_neg fun k=>((k.2 x hxm).2 y (mAt hy)).2.2 h9]
    rfl
   refine cPl (oU y hr2 hok.1) fun v3 μ3 hle3 hR3=>?_
   have w_:=Gl.invV hR3.rep
   obtain⟨q3,rfl⟩:=w_
   intro r41
   refine gIn ?_ ?_ fun b' c' _=>?_
   ·show(ys.length+1)*72≤_;omega
   ·exact Nat.le_trans (m:=100000000) (show ys.length+1≤_ by omega) (by decide)
   refine aB (by omega) (by omega) ⟨(j+1,b',c',_,μ3),⟨by dsimp only;omega,hle2.trans hle3,?_,?_⟩,by dsimp only;omega,⟨⟨rfl,rfl,rfl,rfl,rfl,rfl,rfl,rfl,rfl,trivial⟩,⟨rfl,rfl,rfl,rfl,rfl,trivial⟩,rfl,rfl⟩⟩
   ·dsimp only
    rw[List.take_add_one,hy,Option.toList_some]
    simp only[List.map_append,List.map_cons,List.map_nil]
    exact hrows2.snoc hle2 hR3 hle3 (Gl.d_n _)
   ·dsimp only
    intro g hg
    rw[List.take_add_one,hy,Option.toList_some]at hg
    rcases List.mem_append.1 hg with hg|hg
    ·exact hsing g hg
    ·rw[List.mem_singleton.1 hg];exact⟨hok,h7,h9⟩
  ·obtain rfl : j = x.length := by omega
   rw[List.take_length]at hsing hrows2
   intro r57
   refine gIn ?_ ?_ fun b' c' _=>?_
   ·show(us.length+1)*72≤_;omega
   ·exact Nat.le_trans (m:=100000000) (show us.length+1≤_ by omega) (by decide)
   have hnil:Fresh μ' μ' (.sl 4 (([]:List Tm).map Tm.d)) (.slice none 0 0):=⟨Mem.nil,Own.nilSl 4,(fun _ _ h=>nomatch h),fun _ h=>absurd rfl h⟩
   refine aB (by omega) (by omega) ⟨[4],fun μ6 hle6 hno6 hat6=>?_⟩
   have hfr:=hrows2.fresh hle2 hle6 hno6 hat6 (Nat.le_trans (m:=1000000) (by omega) (by decide))
   have hA:Fresh μ' μ6 (cgA x).d (.agg #[.int .i64 7,.string ⟨#[]⟩,.slice none 0 0,.slice (b2.map fun r=>⟨r,0,none⟩) ys.length c2]):=by
    rw[cgA,Gl.d_eq]
    exact FreshS.st (FreshS.int (FreshS.str (FreshS.cons hnil (Mem.Le.refl _) (hle2.trans hle6) (FreshS.cons hfr (hle2.trans hle6) (Mem.Le.refl _) FreshS.nil))))
   refine⟨(i+1,b',c',_,μ6),⟨by dsimp only;omega,hle.trans (hle2.trans hle6),?_,?_⟩,by dsimp only;omega,⟨⟨rfl,rfl,rfl,rfl,rfl,trivial⟩,⟨rfl,rfl,rfl,trivial⟩,rfl,rfl⟩⟩
   ·dsimp only
    rw[List.take_add_one,hx,Option.toList_some]
    simp only[List.map_append,List.map_cons,List.map_nil]
    exact hrows.snoc hle hA (hle2.trans hle6) (Gl.d_n _)
   ·dsimp only
    intro c hc
    rw[List.take_add_one,hx,Option.toList_some]at hc
    rcases List.mem_append.1 hc with hc|hc
    ·exact hall c hc
    ·rw[List.mem_singleton.1 hc];exact⟨by omega,hsing⟩
 ·obtain rfl : i = l.length := by omega
  rw[List.take_length]at hrows hall
  refine rFz [2] fun μ2 hle2 hno hrow=> .inl ?_
  rw[cgO,if_pos ⟨by omega,hall⟩]
  refine⟨_,rfl,?_⟩
  show Fresh μ _ (cgG l).d _
  rw[cgG,Gl.d_eq]
  have k:=hrows.fresh hle hle2 hno hrow (Nat.le_trans (m:=1000000) (by omega) (by decide))
  have hnil:Fresh μ μ (.sl 4 (([]:List Tm).map Tm.d)) (.slice none 0 0):=⟨Mem.nil,Own.nilSl 4,(fun _ _ h=>nomatch h),fun _ h=>absurd rfl h⟩
  exact FreshS.st (FreshS.int (FreshS.str (FreshS.cons hnil (Mem.Le.refl _) (hle.trans hle2) (FreshS.cons k (hle.trans hle2) (Mem.Le.refl _) FreshS.nil))))
end
end Go.Vx
namespace Go.Vx
open Go.Proofs Classical
theorem Gl.withO_all{F:T→Option T}{f:Int→Option T}(h:∀x,F x=some (x.subst f)):∀g:Gl,g.withO F=some (g.put f):=
 Gl.ind fun g ih=>by
  rw[Gl.withO_eq,vR (h:=T.subst f) fun x _=>h x]
  dsimp only
  rw[vR (h:=Gl.put f) ih]
  dsimp only
  cases g with
  |mk k s ts gs=>
  rw[Gl.put,Gl.puts_map]
  show some (Gl.mk k s _ _)=some (Gl.mk k s _ _)
  rw[List.map_map,List.map_map];rfl
section
variable {μ:Mem}
theorem sE{c:List Gl}{base:Option Addr}{cap k:Nat}(hsl:Sl μ 4 base c.length (c.map Gl.d))(hb:c.length≤1000000)(hk:(k:Int)≤9223372036854775807):
  Spec Tryz.prog 162 [.slice base c.length cap,.int .i64 k] μ fun r μ'=>r= .int .i64 (pS (bK c k))∧μ'=μ:=by
 refine Spec.mk Tryz.func162 (by kernel_rfl) ?_
 refine lIn (fun z:Nat×Nat=>z.1≤c.length∧z.2≤k∧bK c k=(bK (c.drop z.1) z.2).map (·+z.1))
  (fun(i,j)=>⟨[(1,.val (.int .i64 j)),(7,.val (.slice base c.length cap)),(8,.val (.int .i64 c.length)),(9,.val (.int .i64 i))],[],0,μ,Mem.nil⟩) (fun z=>c.length-z.1)
  (0,k) ⟨Nat.zero_le _,Nat.le_refl _,by simp⟩ (fun(_,_)=>⟨rfl,rfl⟩) ⟨⟨rfl,rfl,rfl,rfl,trivial⟩,trivial,rfl,rfl⟩ ?_
 rintro⟨i,j⟩ ⟨hi,hjk,he⟩
 dsimp only at hi hjk he
 refine ifd (fun hlt=>?_) (fun hlt=>?_)
 ·have w_ := aSo (l := c) (i := i) (by omega)
  obtain⟨x,hx⟩:=w_
  have w_:=Gl.elem hsl hx
  obtain⟨ad,p,hel,hr⟩:=w_
  rw[bR hx]at he
  refine eIn hel ?_
  intro r6
  have hz:=hsl.max
  refine ifd (fun h9=>?_) (fun h9=>?_)
  ·refine ifd (fun h0 => ?_) (fun h0 => ?_)
   ·obtain rfl : j = 0 := by omega
    rw[bK,if_pos h9]at he
    exact rPl ⟨by rw[he];simp[pS],rfl⟩
   ·obtain ⟨j', rfl⟩ : ∃ m, j = m + 1 := ⟨j - 1, by omega⟩
    rw[bK,if_pos h9,Option.map_map]at he
    refine aB (by omega) (by omega) ?_
    refine aB (by omega) (by omega) ⟨(i+1,j'),⟨by dsimp only;omega,by dsimp only;omega,?_⟩,by dsimp only;omega,⟨⟨?_,rfl,rfl,rfl,trivial⟩,trivial,rfl,rfl⟩⟩
    ·dsimp only
     rw[he];congr 1;funext a;show a+1+i=a+(i+1);omega
    ·show some (SV.val (.int .i64 _)) = some (SV.val (.int .i64 _))
     congr 3;omega
  ·have he2:bK c k=((bK (c.drop (i+1)) j).map (·+1)).map (·+i):=by
    rw[he]
    cases j<;>rw[bK,if_neg h9]
   rw[Option.map_map]at he2
   refine aB (by omega) (by omega) ⟨(i+1,j),⟨by dsimp only;omega,hjk,?_⟩,by dsimp only;omega,⟨⟨rfl,rfl,rfl,rfl,trivial⟩,trivial,rfl,rfl⟩⟩
   dsimp only
   rw[he2];congr 1;funext a;show a+1+i=a+(i+1);omega
 ·obtain rfl : i = c.length := by omega
  rw[List.drop_length,bK]at he
  exact rPl ⟨by rw[he];rfl,rfl⟩
noncomputable def oQ(c:List Gl)(call:Int):Int:=if call<0 then -1 else pS (bK c call.toNat)
theorem qEc{c:List Gl}{base:Option Addr}{cap:Nat}{call:Int}(hsl:Sl μ 4 base c.length (c.map Gl.d))(hb:c.length≤1000000):
  Spec Tryz.prog 167 [.slice base c.length cap,.int .i64 call] μ fun r μ'=>r= .int .i64 (oQ c call)∧μ'=μ:=by
 refine Spec.mk Tryz.func167 (by kernel_rfl) ?_
 refine lIn (fun z:Nat×Nat=>z.1≤c.length∧z.2≤z.1∧(0≤call→(z.2:Int)≤call∧bK c call.toNat=(bK (c.drop z.1) (call.toNat-z.2)).map (·+z.1)))
  (fun(i,j)=>⟨[(1,.val (.int .i64 call)),(5,.val (.int .i64 j)),(8,.val (.slice base c.length cap)),(9,.val (.int .i64 c.length)),(10,.val (.int .i64 i))],[],0,μ,Mem.nil⟩) (fun z=>c.length-z.1)
  (0,0) ⟨Nat.zero_le _,Nat.le_refl _,fun h=>⟨h,by simp⟩⟩ (fun(_,_)=>⟨rfl,rfl⟩) ⟨⟨rfl,rfl,rfl,rfl,rfl,trivial⟩,trivial,rfl,rfl⟩ ?_
 rintro⟨i,j⟩ ⟨hi,hj,he⟩
 dsimp only at hi hj he
 refine ifd (fun hlt=>?_) (fun hlt=>?_)
 ·have w_ := aSo (l := c) (i := i) (by omega)
  obtain⟨x,hx⟩:=w_
  have w_:=Gl.elem hsl hx
  obtain⟨ad,p,hel,hr⟩:=w_
  rw[bR hx]at he
  refine eIn hel ?_
  intro r6
  refine ifd (fun h9=>?_) (fun h9=>?_)
  ·refine ifd (fun h0 => ?_) (fun h0 => ?_)
   ·have hc : 0 ≤ call := by omega
    have he:=(he hc).2
    rw[show call.toNat-j=0 by omega,bK,if_pos h9]at he
    exact rPl ⟨by rw[oQ,if_neg (by omega),he];simp[pS],rfl⟩
   ·refine aB (by omega) (by omega) ?_
    refine aB (by omega) (by omega) ⟨(i+1,j+1),⟨by dsimp only;omega,by dsimp only;omega,fun hc=>?_⟩,by dsimp only;omega,⟨⟨rfl,rfl,rfl,rfl,rfl,trivial⟩,trivial,rfl,rfl⟩⟩
    have he:=he hc
    refine⟨by dsimp only;omega,?_⟩
    have he:=he.2
    obtain⟨m,hm⟩:∃m,call.toNat-j=m+1:=⟨call.toNat-j-1,by omega⟩
    rw[hm,bK,if_pos h9,Option.map_map]at he
    dsimp only
    rw[he,show call.toNat-(j+1)=m by omega];congr 1;funext a;show a+1+i=a+(i+1);omega
  ·refine aB (by omega) (by omega) ⟨(i + 1, j), ⟨by dsimp only; omega, by dsimp only; omega, fun hc => ⟨(he hc).1, ?_⟩⟩, by dsimp only; omega, ⟨⟨rfl, rfl, rfl, rfl, rfl, trivial⟩, trivial, rfl, rfl⟩⟩
   have he2:bK c call.toNat=((bK (c.drop (i+1)) (call.toNat-j)).map (·+1)).map (·+i):=by
    rw[(he hc).2]
    cases (call.toNat-j)<;>rw[bK,if_neg h9]
   rw[Option.map_map]at he2
   dsimp only
   rw[he2];congr 1;funext a;show a+1+i=a+(i+1);omega
 ·obtain rfl : i = c.length := by omega
  refine rPl ⟨?_,rfl⟩
  rw[oQ]
  by_cases hc:call<0
  ·rw[if_pos hc]
  ·have he := (he (by omega)).2
   rw[List.drop_length,bK]at he
   rw[if_neg hc,he];rfl
theorem xR{n:Int}(hn:0≤n∧n≤1000):∀(x:T) {μ:Mem} {v:Value},x.good→RepV μ x.tm.d v→
  Spec Tryz.prog 171 [v,.int .i64 n] μ fun v μ'=>RepV μ' (x.subst (shF n)).tm.d v:=by
 intro x
 induction x with
 |var m=>
  intro μ v hg hv
  have hg:0≤m∧m≤100000:=hg
  have w_:=Tm.invV hv
  obtain⟨p,rfl⟩:=w_
  refine Spec.mk Tryz.func171 (by kernel_rfl) ?_
  intro r1 r2
  refine ifd (fun _=>?_) (fun h=>absurd rfl h)
  refine aB (show(-9223372036854775808:Int)≤m+n by omega) (show m+n<(9223372036854775808:Int) by omega) ?_
  refine cGv (gS _) ?_
  exact rPl (gP (m+n))
 |pair a b iha ihb=>
  intro μ v hg hv
  have w_:=Tm.inv hv
  obtain⟨base',cap',rfl,hsa⟩:=w_
  have w_:=T.parts hsa
  obtain⟨ad,ad',p,p',h1,h2,hra,hrb⟩:=w_
  refine Spec.mk Tryz.func171 (by kernel_rfl) ?_
  intro r1 r2
  refine ifd (fun h=>absurd h (by simp)) (fun _=>?_)
  refine ifd (fun _=>?_) (fun h=>absurd rfl h)
  refine eIn h1 ?_
  refine eIn h2 ?_
  refine cPl (iha hg.1 hra) fun v1 μ1 hle1 hR1=>?_
  refine cPl (ihb hg.2 (hrb.mono hle1)) fun v2 μ2 hle2 hR2=>?_
  refine cPl (fO (hR1.mono hle2) hR2) fun v3 μ3 hle3 hR3=>?_
  have w_:=Tm.invV hR3
  obtain⟨q,rfl⟩:=w_
  exact rPl hR3
 |_=>
  intro μ v hg hv
  have w_:=Tm.invV hv
  obtain⟨p,rfl⟩:=w_
  refine Spec.mk Tryz.func171 (by kernel_rfl) ?_
  intro r1 r2
  refine ifd (fun h=>absurd h (by simp[T.tm,Tm.kind])) (fun _=>?_)
  refine ifd (fun h=>absurd h (by simp[T.tm,Tm.kind])) (fun _=>?_)
  exact rPl hv
theorem xS{n:Int}(hn:0≤n∧n≤1000):∀(g:Gl) {μ:Mem} {v:Value},RepV μ g.d v→g.Sh→Spec Tryz.prog 96 [v,.int .i64 n] μ fun v μ'=>RepV μ' (g.put (shF n)).d v:=
 Gl.ind fun g ih μ v hv hS=>by
  have w_:=Gl.inv hv
  obtain⟨p,rfl,hts,hgs⟩:=w_
  have w_:=fD hS.top.tm
  obtain⟨xs,hxs,hok⟩:=w_
  have hg8:=hS.top.gl
  have hx4:xs.length≤4:=by
   have T:=hS.top
   have e9:=T.ln9;have e2:=T.ln2;have e1:=T.ln1;have e0:=T.ln0;have k0:=T.k0;have k1:=T.k1
   have:g.terms.length=xs.length:=by rw[hxs,List.length_map]
   omega
  have hput:(g.put (shF n)).d= .st [.i g.kind,.s g.name,.sl 4 (((xs.map (T.subst (shF n))).map T.tm).map Tm.d),.sl 4 ((g.goals.map (Gl.put (shF n))).map Gl.d)]:=by
   rw[Gl.d_eq,Gl.put_kind,Gl.put_name,Gl.put_goals,Gl.put_terms,hxs]
   simp[List.map_map,Function.comp_def,T.toT_tm]
  rw[hxs,List.length_map]at hts ⊢
  refine Spec.mk Tryz.func96 (by kernel_rfl) ?_
  intro r1 r2 r3
  refine aU (fun p:Nat×Option Nat×Nat×List Value×Mem=>p.1≤xs.length∧μ.Le p.2.2.2.2∧Rows p.2.2.2.2 4 ((((xs.take p.1).map (T.subst (shF n))).map T.tm).map Tm.d) p.2.2.2.1)
   (fun (i, b, c, ys, μ') => ⟨[(1, .val (.int .i64 n)), (2, .loc 0 r1 0), (4, .loc 1 r2 0), (5, .loc 2 r3 0), (16, .val (.slice p.1.1 xs.length p.1.2)), (17, .val (.int .i64 xs.length)), (18, .val (.int .i64 i))],
    [(0,some (.cells r1 [.val (.int .i64 g.kind),.val (.string g.name),.val (.slice p.1.1 xs.length p.1.2),.val (.slice p.2.1 g.goals.length p.2.2)] 61)),(1,some (.cells r2 [.val (.int .i64 0),.val (.string ⟨#[]⟩),.val (.slice none 0 0),.val (.slice none 0 0)] 61)),(2,some (.cells r3 [.val (.int .i64 g.kind),.val (.string g.name),.row 3 b ys.length c,.val (.slice none 0 0)] 61)),(3,some (.row b c 75 4 ys))],4,μ',Mem.nil⟩) (fun p=>xs.length-p.1)
   (0,none,0,[],μ) ⟨by simp,Mem.Le.refl _,.nil⟩ (fun(_,_,_,_,_)=>⟨rfl,rfl⟩) ⟨⟨⟨_,rfl,.inl rfl⟩,⟨_,rfl,.inl rfl⟩,⟨_,rfl,.inl rfl⟩,⟨_,rfl,.inl rfl⟩,⟨_,rfl,.inl rfl⟩,⟨_,rfl,.inl rfl⟩,⟨_,rfl,.inl rfl⟩,trivial⟩,⟨.inl rfl,.inl rfl,.inr (.inr ⟨_,_,_,_,rfl,rfl,.inl rfl,.inl rfl,.inr ⟨3,rfl,rfl,Nat.le_refl _⟩,.inl rfl,trivial⟩),.inr (.inl ⟨_,_,rfl,Nat.le_refl _⟩),trivial⟩,rfl,rfl⟩ ?_
  rintro⟨i,b,c,ys,μ'⟩ ⟨hi,hle,hrows⟩
  dsimp only at hi hle hrows
  have hlen:=hrows.len
  simp only[List.length_map,List.length_take]at hlen
  refine ifd (fun h=>?_) (fun h=>?_)
  ·have w_ := aSo (l := xs) (i := i) (by omega)
   obtain⟨t,ht⟩:=w_
   have ht':(xs.map T.tm)[i]? =some t.tm:=by simp[ht]
   have w_:=Tm.elem (hts.mono hle) ht'
   obtain⟨ad,p3,hel,hr⟩:=w_
   refine eIn hel ?_
   intro r4
   refine cPl (xR hn t (hok t (mAt ht)).1 hr) fun v' μ'' hle2 hR=>?_
   have w_:=Tm.invV hR
   obtain⟨q,rfl⟩:=w_
   intro r5
   refine gIn ?_ ?_ fun b' c' _=>?_
   ·show(ys.length+1)*56≤_;omega
   ·exact Nat.le_trans (m:=100000000) (show ys.length+1≤_ by omega) (by decide)
   refine aB (by omega) (by omega) ⟨(i+1,b',c',_,μ''),⟨by dsimp only;omega,hle.trans hle2,?_⟩,by dsimp only;omega,⟨⟨rfl,rfl,rfl,rfl,rfl,rfl,rfl,trivial⟩,⟨rfl,rfl,rfl,rfl,trivial⟩,rfl,rfl⟩⟩
   dsimp only
   rw[List.take_add_one,ht,Option.toList_some]
   simp only[List.map_append,List.map_cons,List.map_nil]
   exact(hrows.mono hle2).append (Rows.one hR (Tm.d_n _))
  ·obtain rfl : i = xs.length := by omega
   rw[List.take_length]at hrows
   have hgs1:=hgs.mono hle
   refine aU (fun p:Nat×Option Nat×Nat×List Value×Mem=>p.1≤g.goals.length∧μ'.Le p.2.2.2.2∧Rows p.2.2.2.2 4 (((g.goals.take p.1).map (Gl.put (shF n))).map Gl.d) p.2.2.2.1)
    (fun (i, b2, c2, zs, μ'') => ⟨[(1, .val (.int .i64 n)), (4, .loc 1 r2 0), (5, .loc 2 r3 0), (32, .val (.slice p.2.1 g.goals.length p.2.2)), (33, .val (.int .i64 g.goals.length)), (34, .val (.int .i64 i))],
     [(1,some (.cells r2 [.val (.int .i64 0),.val (.string ⟨#[]⟩),.val (.slice none 0 0),.val (.slice none 0 0)] 61)),(2,some (.cells r3 [.val (.int .i64 g.kind),.val (.string g.name),.row 3 b ys.length c,.row 4 b2 zs.length c2] 61)),(3,some (.row b c 75 4 ys)),(4,some (.row b2 c2 61 4 zs))],5,μ'',Mem.nil⟩) (fun p=>g.goals.length-p.1)
    (0,none,0,[],μ') ⟨by simp,Mem.Le.refl _,.nil⟩ (fun(_,_,_,_,_)=>⟨rfl,rfl⟩) ⟨⟨⟨_,rfl,.inl rfl⟩,⟨_,rfl,.inl rfl⟩,⟨_,rfl,.inl rfl⟩,⟨_,rfl,.inl rfl⟩,⟨_,rfl,.inl rfl⟩,⟨_,rfl,.inl rfl⟩,trivial⟩,⟨.inl rfl,.inr (.inr ⟨_,_,_,_,rfl,rfl,.inl rfl,.inl rfl,.inl rfl,.inr ⟨4,rfl,rfl,Nat.le_refl _⟩,trivial⟩),.inl rfl,.inr (.inl ⟨_,_,rfl,Nat.le_refl _⟩),trivial⟩,rfl,rfl⟩ ?_
   rintro⟨i,b2,c2,zs,μ''⟩ ⟨hi,hle3,hrows2⟩
   dsimp only at hi hle3 hrows2
   have hlen2:=hrows2.len
   simp only[List.length_map,List.length_take]at hlen2
   refine ifd (fun h=>?_) (fun h=>?_)
   ·have w_ := aSo (l := g.goals) (i := i) (by omega)
    obtain⟨t,ht⟩:=w_
    have w_:=Gl.elem (hgs1.mono hle3) ht
    obtain⟨ad,p3,hel,hr⟩:=w_
    refine eIn hel ?_
    intro r4
    refine cPl (ih t (mAt ht) hr (hS.sub t (mAt ht))) fun v' μ3 hle4 hR=>?_
    have w_:=Gl.invV hR
    obtain⟨q,rfl⟩:=w_
    intro r5
    refine gIn ?_ ?_ fun b' c' _=>?_
    ·show(zs.length+1)*72≤_;omega
    ·exact Nat.le_trans (m:=100000000) (show zs.length+1≤_ by omega) (by decide)
    refine aB (by omega) (by omega) ⟨(i+1,b',c',_,μ3),⟨by dsimp only;omega,hle3.trans hle4,?_⟩,by dsimp only;omega,⟨⟨rfl,rfl,rfl,rfl,rfl,rfl,trivial⟩,⟨rfl,rfl,rfl,rfl,trivial⟩,rfl,rfl⟩⟩
    dsimp only
    rw[List.take_add_one,ht,Option.toList_some]
    simp only[List.map_append,List.map_cons,List.map_nil]
    exact(hrows2.mono hle4).append (Rows.one hR (Gl.d_n _))
   ·obtain rfl : i = g.goals.length := by omega
    rw[List.take_length]at hrows2
    refine rFz [3,4] fun μ2 hle5 hno hrow=>fun μ3 hle6 hno2 hrow2=> .inl ?_
    rw[hput]
    exact⟨_,rfl,RepS.int (RepS.str (RepS.cons1 ((Rows.sl hrow (((hrows.mono hle3)).mono hle5) (Nat.le_trans (m:=100000000) (by omega) (by decide))).mono hle6) (RepS.last (Rows.sl hrow2 ((hrows2.mono hle5).mono hle6) (Nat.le_trans (m:=100000000) (by omega) (by decide))))))⟩
theorem wK{n:Int}{rn:Nat}(hn:0≤n∧n≤1000)(hat:μ rn=some (.cells #[.int .i64 n] 3 (0,0))):
  Maps 163 [.pointer (some ⟨rn,0,none⟩)] μ (fun x=>some (x.subst (shF n))):=fun μ' hle x v hx hv=>by
 have w_:=Tm.invV hv
 obtain⟨p,rfl⟩:=w_
 refine Spec.mk Tryz.func163 (by kernel_rfl) ?_
 intro r2 r3
 refine bN [.int .i64 n] rfl (bJ (hle _ _ hat)) ?_
 refine cPl (qAf hn x hx.1 hv) fun v2 μ2 hle2 hR=>?_
 have w_:=Tm.invV hR.rep
 obtain⟨q,rfl⟩:=w_
 exact rPl ⟨_,rfl,hR⟩
end
end Go.Vx
namespace Go.Vx
open Go.Proofs Classical
theorem RowO.cut{h:Mem}{r cap:Nat}{ty:TypeId}{es:Nat}{xs:List Value}{cs:List Value}{k j:Nat}{x x':Value}{vs:List Value}(h1:xs.length≤cap)(h2:xs.length≤maxLen)(h3:∀x∈xs,(aD x).length=es∧∀u∈aD x,u.oneCell'=true)(h4:cs.length=cap*es)(h5:cs.take (xs.length*es)=xs.flatMap aD)
  (hx:xs[k]? =some x) (hv:aD x'=(aD x).take j++vs++(aD x).drop (j+vs.length)) (hj:j+vs.length≤es) (ho:∀u∈vs,u.oneCell'=true):
  RowO (h.set r (.cells (List.toArray (cs.take (k*es+j)++vs++cs.drop (k*es+j+vs.length))) ty (0,0))) r cap ty es (xs.set k x'):=by
 have hk:=(List.getElem?_eq_some_iff.1 hx).1
 have hxm:=List.mem_of_getElem? hx
 have hxl:=(h3 x hxm).1
 obtain⟨A,B,rfl,hA⟩:∃A B,xs=A++x::B∧A.length=k:=⟨xs.take k,xs.drop (k+1),by
  rw[←(List.getElem?_eq_some_iff.1 hx).2]
  rw[List.getElem_cons_drop,List.take_append_drop],by rw[List.length_take];omega⟩
 subst hA
 have fA:(A.flatMap aD).length=A.length*es:=eP A fun y hy=>(h3 y (by simp[hy])).1
 have fB:(B.flatMap aD).length=B.length*es:=eP B fun y hy=>(h3 y (by simp[hy])).1
 obtain⟨rest,hrest⟩:∃rest,cs=A.flatMap aD++aD x++B.flatMap aD++rest:=⟨cs.drop ((A++x::B).length*es),by
  have h6:=List.take_append_drop ((A++x::B).length*es) cs
  rw[h5]at h6
  refine h6.symm.trans ?_
  simp⟩
 have e1:cs.take (A.length*es+j)=A.flatMap aD++(aD x).take j:=by
  rw[hrest,List.append_assoc,List.append_assoc,←fA,List.take_length_add_append,List.take_append_of_le_length (by omega)]
 have e2:cs.drop (A.length*es+j+vs.length)=(aD x).drop (j+vs.length)++B.flatMap aD++rest:=by
  rw[hrest,List.append_assoc,List.append_assoc,←fA,Nat.add_assoc,List.drop_length_add_append,List.drop_append_of_le_length (by omega),List.append_assoc]
 have e3:(A++x::B).set A.length x'=A++x'::B:=by simp
 rw[e3]
 have hx'l:(aD x').length=es:=by
  rw[hv];simp only[List.length_append,List.length_take,List.length_drop];omega
 refine⟨_,Mem.set_at _ _ _,by simpa using h1,by simpa using h2,fun y hy=>?_,?_,?_⟩
 ·rcases List.mem_append.1 hy with hy | hy
  ·exact h3 y (by simp[hy])
  rcases List.mem_cons.1 hy with rfl|hy
  ·refine ⟨hx'l, fun u hu => ?_⟩
   rw[hv]at hu
   simp only[List.mem_append]at hu
   rcases hu with(hu|hu)|hu
   ·exact(h3 x hxm).2 u (List.mem_of_mem_take hu)
   ·exact ho u hu
   ·exact(h3 x hxm).2 u (List.mem_of_mem_drop hu)
  ·exact h3 y (by simp[hy])
 ·have h4' := h4
  rw[hrest]at h4'
  rw[e1,e2]
  simp only[List.length_append,List.length_take,List.length_drop]at h4' ⊢
  omega
 ·rw [e1, e2]
  have:A.flatMap aD++(aD x).take j++vs++((aD x).drop (j+vs.length)++B.flatMap aD++rest)=(A++x'::B).flatMap aD++rest:=by
   simp[hv]
  rw[this]
  have hfl:((A++x'::B).flatMap aD).length=(A++x'::B).length*es:=eP _ fun y hy=>by
   rcases List.mem_append.1 hy with hy|hy
   ·exact(h3 y (by simp[hy])).1
   rcases List.mem_cons.1 hy with rfl|hy
   ·exact hx'l
   ·exact(h3 y (by simp[hy])).1
  rw[←hfl,List.take_left]
theorem hZ{μ μ':Mem}{base:Option Addr}{n es:Nat}{ys:List Value}(k:lW μ base n es ys)(h:μ.Le μ'):lW μ' base n es ys:=
 ⟨k.1,k.2.1,k.2.2.imp id fun⟨a,e,f⟩=>⟨a,e,fun j v hj=>h.cell (f j v hj)⟩⟩
theorem eO{h:Mem}{ad:Addr}{vs:List Value}{K:Mem→Prop}{r cap:Nat}{ty:TypeId}{es:Nat}{xs:List Value}{k j:Nat}{x:Value}(x':Value)(hr:RowO h r cap ty es xs)(hx:xs[k]? =some x)(ha:ad=⟨r,k*es+j,none⟩)(hv:aD x'=(aD x).take j++vs++(aD x).drop (j+vs.length))(hj:j+vs.length≤es)(ho:∀u∈vs,u.oneCell'=true)
  (hK:∀o,RowO (h.set r o) r cap ty es (xs.set k x')→K (h.set r o)):stoVC h ad vs K:=by
 subst ha
 obtain⟨cs,hc,h1,h2,h3,h4,h5⟩:=hr
 have hk:=(List.getElem?_eq_some_iff.1 hx).1
 refine sIn cs ty hc rfl ?_ (hK _ (RowO.cut h1 h2 h3 h4 h5 hx hv hj ho))
 show k*es+j+vs.length≤cs.length
 rw[h4]
 have:=Nat.mul_le_mul_right es (show k+1≤cap by omega)
 rw[Nat.succ_mul]at this
 omega
end Go.Vx
namespace Go.Vx
open Go.Proofs Classical
section
variable {X:Type} {es:Nat} {f:X→D}
theorem Prs.set{g':Mem}{p':X×Value}(h1:Own (f p'.1) g' (aD p'.2))(hn:(f p'.1).n=es)(hz:(aD p'.2).length=es∧∀u∈aD p'.2,u.oneCell'=true):∀{ps:List (X×Value)} {g:Mem} (k:Nat),Prs es f ps g→k<ps.length→Apart g g'→∃g2:Mem,Prs es f (ps.set k p') g2∧g2.Le (g.join g')
 |[],_,_,_,h,_=>absurd h (Nat.not_lt_zero _)
 |q::ps,g,0,h,_,ha=>by
  obtain⟨ga,gb,hpp,_,_,h3⟩:=h.uncons
  have ha2:Apart g' gb:=fun b hb=>by
   cases e:gb b with
   |none=>rfl
   |some o=>exact absurd (ha b (by rw[hpp.right b o e];simp)) hb
  refine⟨g'.join gb,Prs.cons (Parts.join ha2) h1 hn hz h3,eH (fun b o hb=>?_) (hpp.right.trans (Mem.le_join g g'))⟩
  rw[Mem.join_get]
  cases e:g b with
  |none=>exact hb
  |some o'=>have:=ha b (by rw[e];simp);rw[this]at hb;cases hb
 |q::ps,g,k+1,h,hk,ha=>by
  obtain⟨ga,gb,hpp,ho,hqn,h3⟩:=h.uncons
  have hab:Apart gb g':=fun b hb=>ha b (by
   cases e:gb b with
   |none=>exact absurd e hb
   |some o=>rw[hpp.right b o e];simp)
  obtain⟨g2,h4,h5⟩:=Prs.set h1 hn hz k h3 (Nat.lt_of_succ_lt_succ hk) hab
  have haa:Apart ga g2:=fun b hb=>by
   cases e:g2 b with
   |none=>rfl
   |some o=>
    have h6:=h5 b o e
    rw[Mem.join_get]at h6
    have hgb:=hpp.apart b hb
    rw[hgb]at h6
    have hg:g b≠none:=by
     cases e2:ga b with
     |none=>exact absurd e2 hb
     |some o2=>rw[hpp.left b o2 e2];simp
    have:=ha b hg
    rw[this]at h6;cases h6
  refine⟨ga.join g2,Prs.cons (Parts.join haa) ho hqn (h.size q (by simp)) h4,eH (hpp.left.trans (Mem.le_join g g')) (h5.trans ?_)⟩
  exact eH (hpp.right.trans (Mem.le_join g g')) (Mem.le_join_right ha)
end
theorem Grown.at{es:Nat}{μ μ1:Mem}{ds:List D}{us:List Value}(h:Grown es μ μ1 ds us)(hz:∀y∈us,(aD y).length=es∧∀u∈aD y,u.oneCell'=true){k:Nat}{d:D}{u:Value}(hd:ds[k]? =some d)(hu:us[k]? =some u):∃g':Mem,Own d g' (aD u):=by
 obtain⟨g,ho,_,_⟩:=h
 have w_:=Prs.zip (f:=id) (xs:=ds) (by simpa using ho) hz
 obtain⟨hP,-,-⟩:=w_
 obtain⟨g',_,h2⟩:=Prs.at hP (d,u) (List.mem_of_getElem? (i:=k) (by rw[List.getElem?_zip_eq_some];exact⟨hd,hu⟩))
 exact⟨g',h2⟩
theorem Grown.set{es:Nat}{μ μ1 μ2:Mem}{ds:List D}{us:List Value}{k:Nat}{d':D}{v':Value}(h:Grown es μ1 μ2 ds us)(hz:∀y∈us,(aD y).length=es∧∀u∈aD y,u.oneCell'=true)(hk:k<us.length)(hv:Fresh μ μ1 d' v')(h01:μ.Le μ1)(h12:μ1.Le μ2)(hn:d'.n=es)(hz':(aD v').length=es∧∀u∈aD v',u.oneCell'=true):Grown es μ μ2 (ds.set k d') (us.set k v'):=by
 obtain⟨g,ho,hg,hnew⟩:=h
 obtain⟨g',ho',hg',hnew'⟩:=hv
 have hl:=ho.len
 have hap:Apart g g':=fun b hb=>by
  have h1:=hnew b hb
  cases e:g' b with
  |none=>rfl
  |some o=>have:=hg' b o e;rw[h1]at this;cases this
 have w_:=Prs.zip (f:=id) (xs:=ds) (by simpa using ho) hz
 obtain⟨hP,e1,e2⟩:=w_
 obtain⟨g2,h2,h3⟩:=Prs.set (f:=id) (p':=(d',v')) ho'.cells hn hz' k hP (by rw[List.length_zip];omega) hap
 have h4:=h2.own
 rw[List.map_set,List.map_set,e2]at h4
 have e3:(ds.zip us).map (fun p=>id p.1)=ds:=e1
 rw[e3]at h4
 refine⟨g2,h4,fun b o hb=>?_,fun b hb=>?_⟩
 ·exact eH hg (hg'.trans h12) b o (h3 b o hb)
 ·cases e : g2 b with
  |none=>exact absurd e hb
  |some o=>
   have h5:=h3 b o e
   rw[Mem.join_get]at h5
   cases e6:g b with
   |some o2=>
    have h7:=hnew b (by rw[e6];simp)
    cases e8:μ b with
    |none=>rfl
    |some o3=>have:=h01 b o3 e8;rw[h7]at this;cases this
   |none=>
    rw[e6]at h5
    have h5:g' b=some o:=h5
    exact hnew' b (by rw[h5];simp)
end Go.Vx
namespace Go.Vx
open Go.Proofs Classical
def unfR(P:Pg→Value→Prop)(o:Option (Pg×Nat))(v:Value):Prop:=match o with
 |none=>v= .tuple #[.agg #[.slice none 0 0],.int .i64 0,.bool false]
 |some (y,n)=>∃tv,v= .tuple #[tv,.int .i64 n,.bool true]∧P y tv
theorem uX{μ:Mem}{c:List Gl}{p:Option Addr×Nat}(h:RepV μ (csD c) (.slice p.1 c.length p.2)):Sl μ 4 p.1 c.length (c.map Gl.d):=by
 have w_:=Rep.sl (xs:=c.map Gl.d) h
 obtain⟨b',c',e1,hs⟩:=w_
 have w_:=Value.slice.inj e1
 obtain⟨rfl,_,_⟩:=w_
 simpa using hs
theorem qFj{μ:Mem}{n:Int}{i:Nat}{t:Tm}{v:Value}(h:RepV μ (.sl 4 ([(T.var (n+i)).tm,t].map Tm.d)) v):RepV μ (eqG n i t).d (.agg #[.int .i64 2,.string ⟨#[]⟩,v,.slice none 0 0]):=by
 rw[eqG,Gl.d_eq]
 have hnil:RepV μ (.sl 4 (([]:List Gl).map Gl.d)) (.slice none 0 0):=⟨none,0,rfl,⟨Nat.zero_le _,Nat.zero_le _⟩,(fun _ h=>nomatch h),.inl rfl⟩
 exact⟨_,rfl,RepS.int (RepS.str (RepS.cons1 h (RepS.last hnil)))⟩
section
variable {μ:Mem}
set_option maxHeartbeats 4000000 in
set_option maxRecDepth 20000 in
theorem lN{p:Pg}{nm:ByteArray}{clause call:Int}{v:Value}(hp:RepV μ p.d v)(hcl:InR call):
  Spec Tryz.prog 90 [v,.string nm,.int .i64 clause,.int .i64 call] μ fun v μ'=>unfR (fun y tv=>Fresh μ μ' y.d tv) (rR p nm clause call) v:=by
 have hp0:=hp
 have w_:=Pg.inv hp
 obtain⟨q,rfl,hrl⟩:=w_
 refine Spec.mk Tryz.func90 (by kernel_rfl) ?_
 intro r4 r8
 refine cPl (qW hp0) fun v1 μ1 hle1 hR=>?_
 obtain rfl:=hR
 refine ifd (fun h=>?_) (fun h=>?_)
 ·refine rPl ?_
  rw[gB fun x hx=>by have:=hx.find;omega]
  rfl
 have w_:=Int.eq_ofNat_of_zero_le (show 0≤eF p nm by omega)
 obtain⟨k,hk⟩:=w_
 have hpo:p.Ok:=Classical.byContradiction fun e=>by rw[eF,if_neg e]at h;exact h (by decide)
 have hfind:eF p nm=relAt p nm:=by rw[eF,if_pos hpo]
 have w_:=gA (p:=p) (s:=nm) (by omega)
 obtain⟨k',r,hk',hr,-⟩:=w_
 obtain rfl:k=k':=by omega
 have hro:=hpo.2 _ r hr
 have har0:=hro.ar0
 have har4:=hro.ar4
 have hlo0:=hro.lo0
 have hlo8:=hro.lo8
 have w_:=Rl.elemA (hrl.mono hle1) hr
 obtain⟨adr,qr,helr,hrr,hbody⟩:=w_
 have hbody:RepV μ1 r.body.d (.agg (r.body.cs qr).toArray):=hbody
 have hX:∀x,UnfAt p nm clause call x→x.k=k∧x.r=r:=fun x hx=>by
  have h1:=hx.find
  have h2:x.k=k:=by omega
  have h3:=hx.rel
  rw[h2,hr]at h3
  exact⟨h2,(Option.some.inj h3).symm⟩
 rw[hk]
 refine eIn helr ?_
 refine cPl (gF r.body hbody hro.body (by have:=hro.size;omega)) fun v2 μ2 hle2 hR2=>?_
 obtain⟨o2,e⟩:∃o,r.body.cl=o:=⟨_,rfl⟩
 rw[e]at hR2
 match o2,e,hR2 with
 |none,e,hR2=>
  obtain rfl:=hR2
  refine iIn (fun _=>?_) (fun h=>nomatch h)
  refine rPl ?_
  rw[gB fun x hx=>by have h1:=hx.cl;rw[(hX x hx).2,e]at h1;cases h1]
  rfl
 |some cls,e,hR2=>
 obtain⟨tv,rfl,hLr⟩:=hR2
 obtain⟨pv,rfl⟩:=hLr.inv
 have hXc:∀x,UnfAt p nm clause call x→x.cls=cls:=fun x hx=>by
  have h1:=hx.cl
  rw[(hX x hx).2,e]at h1
  exact(Option.some.inj h1).symm
 refine iIn (fun h=>nomatch h) (fun _=>?_)
 refine ifd (fun h1=>?_) (fun h1=>?_)
 ·refine rPl ?_
  rw[gB fun x hx=>by have:=hx.cc;omega]
  rfl
 refine ifd (fun h2=>?_) (fun h2=>?_)
 ·refine rPl ?_
  rw[gB fun x hx=>by
   have h3:=hx.cc
   have h4:=(List.getElem?_eq_some_iff.1 hx.cls).1
   rw[hXc x hx]at h4;omega]
  rfl
 refine ifd (fun h3=>?_) (fun h3=>?_)
 ·refine rPl ?_
  rw[gB fun x hx=>by have:=hx.call0;omega]
  rfl
 have w_:=Int.eq_ofNat_of_zero_le (show 0≤clause by omega)
 obtain⟨c,rfl⟩:=w_
 have w_:=Int.eq_ofNat_of_zero_le (show 0≤call by omega)
 obtain⟨kc,rfl⟩:=w_
 have w_:=aSo (l:=cls) (i:=c) (by omega)
 obtain⟨l,hl⟩:=w_
 have hsl:=(Cls.sl hLr).1
 have w_:=cF hsl hl
 obtain⟨adl,pl,hell,hrll⟩:=w_
 have hls:=uX hrll
 have hbnd:=Gl.cl_bnd r.body e
 have hsz:=hro.size
 have hll:=hbnd.1 l (mAt hl)
 have hcll:=hbnd.2
 refine eIn hell ?_
 refine cPl (sE hls (by omega) (show(kc:Int)≤9223372036854775807 from hcl.2)) fun v3 μ3 hle3 hR3=>?_
 obtain⟨rfl,e3⟩:=hR3
 obtain rfl:=e3.symm
 obtain⟨oa,ea⟩:∃o,bK l kc=o:=⟨_,rfl⟩
 rw[ea]
 match oa,ea with
 |none,ea=>
  refine ifd (fun _=>?_) (fun h=>absurd (show pS none<0 by decide) h)
  refine rPl ?_
  rw[gB fun x hx=>by
   have h4:=hx.cls
   rw[hXc x hx,show x.c=c by have:=hx.cc;omega,hl]at h4
   have h5:=hx.pos
   rw[←Option.some.inj h4,Int.toNat_natCast,ea]at h5
   cases h5]
  rfl
 |some a,ea=>
 have w_:=gX ea
 obtain⟨g,hg,h9⟩:=w_
 rw[show pS (some a)=(a:Int)from rfl]
 refine ifd (fun h=>absurd h (by omega)) (fun _=>?_)
 have w_:=Gl.elem hls hg
 obtain⟨adg,pg,helg,hrg⟩:=w_
 have hal:=(List.getElem?_eq_some_iff.1 hg).1
 refine eIn hell ?_
 refine eIn helg ?_
 intro r15
 have hgm:g∈r.body.all:=(Gl.cl_all r.body e l (mAt hl) g (mAt hg)).1
 have w_:=hro.calls.all g hgm h9
 obtain⟨j,q2,hj,hq2,harq⟩:=w_
 refine cGv (dA (RepV.mono (hle1.trans hle2) hp0)) ?_
 rw[hj]
 have w_:=Rl.elemA (hrl.mono (hle1.trans hle2)) hq2
 obtain⟨adq,qq,helq,hrq,hbodyq⟩:=w_
 have hbodyq:RepV μ2 q2.body.d (.agg (q2.body.cs qq).toArray):=hbodyq
 have hqo:=hpo.2 _ q2 hq2
 refine eIn helq ?_
 intro r16
 refine cPl (gF q2.body hbodyq hqo.body (by have:=hqo.size;omega)) fun v4 μ4 hle4 hR4=>?_
 have hAt:UnfAt p nm c kc ⟨k,r,cls,c,l,a,g,q2⟩:=⟨hk,hr,e,rfl,hl,by omega,by rw[Int.toNat_natCast];exact ea,hg,j,hj,hq2⟩
 obtain⟨o4,e4⟩:∃o,q2.body.cl=o:=⟨_,rfl⟩
 rw[e4]at hR4
 match o4,e4,hR4 with
 |none,e4,hR4=>
  obtain rfl:=hR4
  refine iIn (fun _=>?_) (fun h=>nomatch h)
  refine rPl ?_
  rw[lG hAt fun ds hd=>by have h1:=hd.1;rw[show q2.body.cl=none from e4]at h1;cases h1]
  rfl
 |some ds,e4,hR4=>
 obtain⟨tv,rfl,hDr⟩:=hR4
 obtain⟨pd,rfl⟩:=hDr.inv
 refine iIn (fun h=>nomatch h) (fun _=>?_)
 have hle14:=hle2.trans hle4
 have helr4:=helr.mono hle14
 have hLr4:=RepV.mono hle4 hLr
 have hell4:=hell.mono hle4
 have hrll4:=RepV.mono hle4 hrll
 have hrg4:=RepV.mono hle4 hrg
 refine eIn helr4 ?_
 refine eIn helr4 ?_
 refine aB (by omega) (by omega) ?_
 intro r19
 have w_:=Rep.src hLr4
 obtain⟨vc,hvc,hvcl,hvcc,hvcs⟩:=w_
 have w_:=Rep.src (ds:=l.map Gl.d) hrll4
 obtain⟨vl,hvl,hvll,hvlc,hvls⟩:=w_
 have hcl:=(List.getElem?_eq_some_iff.1 hl).1
 have hgT:=Gl.termsW hrg4
 have hgts:Sl μ4 4 pg.1.1 g.terms.length (g.terms.map Tm.d):=by
  have w_:=Rep.sl (xs:=g.terms.map Tm.d) hgT
  obtain⟨b',c',e1,hs⟩:=w_
  have w_:=Value.slice.inj e1
  obtain⟨rfl,_,_⟩:=w_
  simpa using hs
 have hSg:g.Sh:=hro.body.all r.body g hgm
 have hg4:=hSg.lens
 obtain⟨N,hN⟩:∃N:Int,r.arity+r.locals=N:=⟨_,rfl⟩
 rw[hN]
 have hN0:0≤N∧N≤1000:=by omega
 have hDb:=Gl.cl_bnd q2.body e4
 have hqsz:=hqo.size
 have hDl:=hDb.1
 have hDm:=hDb.2
 intro r112
 refine aG 0 c rfl rfl (by omega) (by omega) ?_
 refine aJ _ (hvcs 0 c (by omega) (by omega)) ?_
 refine gIn ?_ ?_ fun b1 c1 _=>?_
 ·show(0+_)*24≤_;simp;omega
 ·exact Nat.le_trans (m:=2000000000) (by simp;omega) (by decide)
 have hx0:Rows μ4 1 ((cls.take c).map csD) (([]:List Value)++(vc.drop 0).take (c-0)):=by
  have:=(hvc.drop 0).take (c-0)
  simpa[List.map_take]using this
 refine lFz (fun z:Nat×Option Nat×Nat×List Value×Mem=>z.1≤ds.length∧μ4.Le z.2.2.2.2∧z.2.2.2.2 r19=some (.cells #[.int .i64 N] 3 (0,0))∧Rows z.2.2.2.2 1 ((cls.take c++(ds.take z.1).map (gC l a g N)).map csD) z.2.2.2.1)
  (fun (i, b, co, ys, μ') => ⟨[(2, .val (.int .i64 c)), (4, .loc 0 r4 0), (8, .loc 1 r8 0), (11, .val (.int .i64 k)), (12, .val (.slice pv.1 cls.length pv.2)), (14, .val (.int .i64 a)), (15, .loc 2 r15 0), (16, .loc 3 r16 0), (17, .val (.slice pd.1 ds.length pd.2)), (19, .val (.pointer (some ⟨r19, 0, none⟩))), (20, .row 5 b ys.length co), (117, .val (.slice pd.1 ds.length pd.2)), (118, .val (.int .i64 ds.length)), (119, .val (.int .i64 i))],
   [(0,some (.cells r4 [.val (.slice q.1 p.rels.length q.2)] 25)),(1,some (.cells r8 [.val (.slice none 0 0)] 25)),(2,some (.cells r15 (vals (g.cs pg)) 61)),(3,some (.cells r16 (vals (q2.cs qq)) 63)),(5,some (.row b co 59 1 ys))],6,μ',Mem.nil⟩) (fun z=>ds.length-z.1) [4] (fun(_,_,_,_,_)=>⟨rfl,rfl⟩)
  (fun μ5 hle5 hno5 hat5=>⟨(0,b1,c1,([]:List Value)++(vc.drop 0).take (c-0),μ5),⟨Nat.zero_le _,hle5,hat5,by simpa using hx0.mono hle5⟩,⟨rfl,rfl,rfl,rfl,rfl,rfl,rfl,rfl,rfl,rfl,rfl,rfl,rfl,rfl,trivial⟩,⟨rfl,rfl,rfl,rfl,rfl,trivial⟩,rfl,rfl⟩) ?_
 rintro⟨i,b,co,ys,μ5⟩ ⟨hi,hle5,hat5,hrows⟩
 dsimp only at hi hle5 hat5 hrows
 have hyl:=hrows.len
 simp only[List.length_map,List.length_append,List.length_take]at hyl
 refine ifd (fun hlt=>?_) (fun hlt=>?_)
 ·have w_ := aSo (l := ds) (i := i) (by omega)
  obtain⟨d,hd⟩:=w_
  have w_:=cF ((Cls.sl hDr).1.mono hle5) hd
  obtain⟨adi,pi,heli,hri⟩:=w_
  have hdl:=hDl d (mAt hd)
  have hds:=uX hri
  refine eIn heli ?_
  intro r123
  refine eIn (hell4.mono hle5) ?_
  refine aG 0 a rfl rfl (by omega) (by omega) ?_
  refine aJ _ (hZ (hvls 0 a (by omega) (by omega)) hle5) ?_
  refine gIn ?_ ?_ fun b2 c2 _=>?_
  ·show(0+_)*72≤_;simp;omega
  ·exact Nat.le_trans (m:=2000000000) (by simp;omega) (by decide)
  have hy0:Rows μ5 4 ((l.take a).map Gl.d) (([]:List Value)++(vl.drop 0).take (a-0)):=by
   have:=(hvl.drop 0).take (a-0)
   simpa[List.map_take]using this.mono hle5
  refine lFz (fun z:Nat×Option Nat×Nat×List Value×Mem=>z.1≤g.terms.length∧μ5.Le z.2.2.2.2∧Rows z.2.2.2.2 4 ((l.take a++(kY N g.terms).take z.1).map Gl.d) z.2.2.2.1)
   (fun (j, b', co', zs, μ') => ⟨[(2, .val (.int .i64 c)), (4, .loc 0 r4 0), (8, .loc 1 r8 0), (11, .val (.int .i64 k)), (12, .val (.slice pv.1 cls.length pv.2)), (14, .val (.int .i64 a)), (15, .loc 2 r15 0), (16, .loc 3 r16 0), (17, .val (.slice pd.1 ds.length pd.2)), (19, .val (.pointer (some ⟨r19, 0, none⟩))), (20, .row 5 b ys.length co), (117, .val (.slice pd.1 ds.length pd.2)), (118, .val (.int .i64 ds.length)), (119, .val (.int .i64 i)), (22, .val (.slice pi.1 d.length pi.2)), (23, .row 6 b' zs.length co'), (132, .val (.slice pg.1.1 g.terms.length pg.1.2)), (133, .val (.int .i64 g.terms.length)), (134, .val (.int .i64 j))],
    [(0,some (.cells r4 [.val (.slice q.1 p.rels.length q.2)] 25)),(1,some (.cells r8 [.val (.slice none 0 0)] 25)),(2,some (.cells r15 (vals (g.cs pg)) 61)),(3,some (.cells r16 (vals (q2.cs qq)) 63)),(5,some (.row b co 59 1 ys)),(6,some (.row b' co' 61 4 zs))],7,μ',Mem.nil⟩) (fun z=>g.terms.length-z.1) [] (fun(_,_,_,_,_)=>⟨rfl,rfl⟩)
   ⟨(0,b2,c2,([]:List Value)++(vl.drop 0).take (a-0),μ5),⟨Nat.zero_le _,Mem.Le.refl _,by simpa using hy0⟩,⟨⟨rfl,rfl,rfl,rfl,rfl,rfl,rfl,rfl,rfl,rfl,rfl,rfl,rfl,rfl,rfl,rfl,rfl,rfl,rfl,trivial⟩,⟨rfl,rfl,rfl,rfl,rfl,rfl,trivial⟩,rfl,rfl⟩⟩ ?_
  clear hy0
  rintro⟨j,b3,c3,zs,μ6⟩ ⟨hj,hle6,hrows3⟩
  dsimp only at hj hle6 hrows3
  have hzl:=hrows3.len
  simp only[List.length_map,List.length_append,List.length_take,iE]at hzl
  refine ifd (fun hlt3=>?_) (fun hlt3=>?_)
  ·have w_ := aSo (l := g.terms) (i := j) (by omega)
   obtain⟨t,ht⟩:=w_
   have w_:=Tm.elem (hgts.mono (hle5.trans hle6)) ht
   obtain⟨adt,pt,helt,hrt⟩:=w_
   refine eIn helt ?_
   intro r25
   refine bN [.int .i64 N] rfl (bJ (hle6 _ _ hat5)) ?_
   refine aB (by omega) (by omega) ?_
   refine cGv (pO _) ?_
   intro r145 r147
   refine gIn ?_ ?_ fun b4 c4 _=>?_
   ·show(zs.length+1)*72≤_;omega
   ·exact Nat.le_trans (m:=100000000) (show zs.length+1≤_ by omega) (by decide)
   refine aB (by omega) (by omega) ⟨[8],fun μ7 hle7 hno7 hat7=>?_⟩
   have hE:RepV μ7 (eqG N j t).d _:=qFj (Rows.sl hat7 (.cons (RepV.mono hle7 (gP (N+j))) (Tm.d_n _) (.cons (RepV.mono hle7 hrt) (Tm.d_n _) .nil)) (show 2≤maxLen by decide))
   refine⟨(j+1,b4,c4,_,μ7),⟨by dsimp only;omega,hle6.trans hle7,?_⟩,by dsimp only;omega,⟨⟨rfl,rfl,rfl,rfl,rfl,rfl,rfl,rfl,rfl,rfl,rfl,rfl,rfl,rfl,rfl,rfl,rfl,rfl,rfl,trivial⟩,⟨rfl,rfl,rfl,rfl,rfl,rfl,trivial⟩,rfl,rfl⟩⟩
   dsimp only
   rw[yM ht,←List.append_assoc,List.map_append (l₂:=[eqG N j t])]
   exact(hrows3.mono hle7).append (Rows.one hE (Gl.d_n _))
  obtain rfl:j=g.terms.length:=by omega
  rw[List.take_of_length_le (l:=kY N g.terms) (by rw[iE];omega)]at hrows3
  refine lIn (fun z:Nat×Option Nat×Nat×List Value×Mem=>z.1≤d.length∧μ6.Le z.2.2.2.2∧Rows z.2.2.2.2 4 ((l.take a++kY N g.terms++(d.take z.1).map (Gl.put (shF N))).map Gl.d) z.2.2.2.1)
   (fun (j, b', co', zs, μ') => ⟨[(2, .val (.int .i64 c)), (4, .loc 0 r4 0), (8, .loc 1 r8 0), (11, .val (.int .i64 k)), (12, .val (.slice pv.1 cls.length pv.2)), (14, .val (.int .i64 a)), (15, .loc 2 r15 0), (16, .loc 3 r16 0), (17, .val (.slice pd.1 ds.length pd.2)), (19, .val (.pointer (some ⟨r19, 0, none⟩))), (20, .row 5 b ys.length co), (117, .val (.slice pd.1 ds.length pd.2)), (118, .val (.int .i64 ds.length)), (119, .val (.int .i64 i)), (23, .row 6 b' zs.length co'), (150, .val (.slice pi.1 d.length pi.2)), (151, .val (.int .i64 d.length)), (152, .val (.int .i64 j))],
    [(0,some (.cells r4 [.val (.slice q.1 p.rels.length q.2)] 25)),(1,some (.cells r8 [.val (.slice none 0 0)] 25)),(2,some (.cells r15 (vals (g.cs pg)) 61)),(3,some (.cells r16 (vals (q2.cs qq)) 63)),(5,some (.row b co 59 1 ys)),(6,some (.row b' co' 61 4 zs))],7,μ',Mem.nil⟩) (fun z=>d.length-z.1)
   (0,b3,c3,zs,μ6) ⟨Nat.zero_le _,Mem.Le.refl _,by simpa using hrows3⟩ (fun(_,_,_,_,_)=>⟨rfl,rfl⟩) ⟨⟨rfl,rfl,rfl,rfl,rfl,rfl,rfl,rfl,rfl,rfl,rfl,rfl,rfl,rfl,rfl,rfl,rfl,rfl,trivial⟩,⟨rfl,rfl,rfl,rfl,rfl,rfl,trivial⟩,rfl,rfl⟩ ?_
  clear hrows3
  rintro⟨j,b5,c5,ws,μ7⟩ ⟨hj2,hle7,hrows4⟩
  dsimp only at hj2 hle7 hrows4
  have hwl:=hrows4.len
  simp only[List.length_map,List.length_append,List.length_take,iE]at hwl
  refine ifd (fun hlt4=>?_) (fun hlt4=>?_)
  ·have w_ := aSo (l := d) (i := j) (by omega)
   obtain⟨y,hy⟩:=w_
   have w_:=Gl.elem (hds.mono (hle6.trans hle7)) hy
   obtain⟨ady,py,hely,hry⟩:=w_
   refine eIn hely ?_
   intro r27
   have hyS:y.Sh:=hqo.body.all q2.body y (Gl.cl_all q2.body e4 d (mAt hd) y (mAt hy)).1
   refine cPl (xN y (wK hN0 ((hle6.trans hle7) _ _ hat5)) hry hyS) fun v8 μ8 hle8 hR8=>?_
   rw[Gl.withO_all (fun _=>rfl)]at hR8
   obtain⟨tv,rfl,htv⟩:=hR8
   have w_:=Gl.invV htv.rep
   obtain⟨q8,rfl⟩:=w_
   intro r28 r164
   refine gIn ?_ ?_ fun b4 c4 _=>?_
   ·show(ws.length+1)*72≤_;omega
   ·exact Nat.le_trans (m:=100000000) (show ws.length+1≤_ by omega) (by decide)
   refine aB (by omega) (by omega) ⟨(j+1,b4,c4,_,μ8),⟨by dsimp only;omega,hle7.trans hle8,?_⟩,by dsimp only;omega,⟨⟨rfl,rfl,rfl,rfl,rfl,rfl,rfl,rfl,rfl,rfl,rfl,rfl,rfl,rfl,rfl,rfl,rfl,rfl,trivial⟩,⟨rfl,rfl,rfl,rfl,rfl,rfl,trivial⟩,rfl,rfl⟩⟩
   dsimp only
   rw[List.take_add_one,hy,Option.toList_some,List.map_append (f:=Gl.put (shF N)),←List.append_assoc,List.map_append (f:=Gl.d)]
   exact(hrows4.mono hle8).append (Rows.one htv.rep (Gl.d_n _))
  obtain rfl:j=d.length:=by omega
  rw[List.take_length]at hrows4
  have hle57:=hle5.trans (hle6.trans hle7)
  refine eIn (hell4.mono hle57) ?_
  refine aB (by omega) (by omega) ?_
  refine aG (a+1) l.length rfl rfl (by omega) (by omega) ?_
  refine aJ _ (hZ (hvls (a+1) l.length (by omega) (Nat.le_refl _)) hle57) ?_
  refine gIn ?_ ?_ fun b6 c6 _=>?_
  ·show(ws.length+_)*72≤_;simp;omega
  ·exact Nat.le_trans (m:=2000000000) (by simp;omega) (by decide)
  have hz0:Rows μ7 4 ((gC l a g N d).map Gl.d) (ws++(vl.drop (a+1)).take (l.length-(a+1))):=by
   have h1:=((hvl.drop (a+1)).take (l.length-(a+1))).mono hle57
   have h2:=hrows4.append h1
   have e5:((l.map Gl.d).drop (a+1)).take (l.length-(a+1))=(l.drop (a+1)).map Gl.d:=by
    rw[List.take_of_length_le (by simp),List.map_drop]
   rw[e5,←List.map_append]at h2
   exact h2
  intro μ8 hle8 hno8 hat8 r177
  refine gIn ?_ ?_ fun b7 c7 _=>?_
  ·show(ys.length+1)*24≤_;omega
  ·exact Nat.le_trans (m:=100000000) (show ys.length+1≤_ by omega) (by decide)
  have hC:RepV μ8 (csD (gC l a g N d)) _:=Rows.sl hat8 (hz0.mono hle8) (Nat.le_trans (m:=2000000000) (by simp;omega) (by decide))
  refine aB (by omega) (by omega) ⟨[],⟨(i+1,b7,c7,_,μ8),⟨by dsimp only;omega,hle57.trans hle8,(hle6.trans (hle7.trans hle8)) _ _ hat5,?_⟩,by dsimp only;omega,⟨⟨rfl,rfl,rfl,rfl,rfl,rfl,rfl,rfl,rfl,rfl,rfl,rfl,rfl,rfl,trivial⟩,⟨rfl,rfl,rfl,rfl,rfl,trivial⟩,rfl,rfl⟩⟩⟩
  dsimp only
  rw[List.take_add_one,hd,Option.toList_some,List.map_append (f:=gC l a g N),←List.append_assoc,List.map_append (f:=csD)]
  exact(hrows.mono ((hle6.trans (hle7.trans hle8)))).append (Rows.one hC rfl)
 obtain rfl:i=ds.length:=by omega
 rw[List.take_length]at hrows
 refine aB (by omega) (by omega) ?_
 refine aG (c+1) cls.length rfl rfl (by omega) (by omega) ?_
 refine aJ _ (hZ (hvcs (c+1) cls.length (by omega) (Nat.le_refl _)) hle5) ?_
 refine gIn ?_ ?_ fun b8 c8 _=>?_
 ·show(ys.length+_)*24≤_;simp;omega
 ·exact Nat.le_trans (m:=2000000000) (by simp;omega) (by decide)
 obtain⟨X,hXe⟩:∃X:UnfD,X=⟨k,r,cls,c,l,a,g,q2⟩:=⟨_,rfl⟩
 rw[←hXe]at hAt
 have hLs:X.ls ds=cls.take c++ds.map (gC l a g N)++cls.drop (c+1):=by rw[hXe,←hN];rfl
 have hall0:Rows μ5 1 ((X.ls ds).map csD) (ys++(vc.drop (c+1)).take (cls.length-(c+1))):=by
  have h1:=((hvc.drop (c+1)).take (cls.length-(c+1))).mono hle5
  have h2:=hrows.append h1
  have e5:((cls.map csD).drop (c+1)).take (cls.length-(c+1))=(cls.drop (c+1)).map csD:=by
   rw[List.take_of_length_le (by simp),List.map_drop]
  rw[e5,←List.map_append,←hLs]at h2
  exact h2
 have hLl:(X.ls ds).length≤1000:=by
  rw[hLs];simp only[List.length_append,List.length_take,List.length_map,List.length_drop];omega
 have hLc:∀z∈X.ls ds,z.length≤1000:=fun z hz=>by
  rw[hLs]at hz
  rcases List.mem_append.1 hz with hz|hz
  ·rcases List.mem_append.1 hz with hz | hz
   ·have:=hbnd.1 z (List.mem_of_mem_take hz);omega
   ·have w_ := List.mem_map.1 hz
    obtain⟨d,hd,rfl⟩:=w_
    have:=hDl d hd
    rw[gC]
    simp only[List.length_append,List.length_take,List.length_map,List.length_drop,iE];omega
  ·have:=hbnd.1 z (List.mem_of_mem_drop hz);omega
 have hall0l:=hall0.len
 rw[List.length_map]at hall0l
 refine aS [5] ?_
 intro μ6 hle6 hno6 hat6
 have hLr6:Cls μ6 (X.ls ds) _:=Rows.sl hat6 (hall0.mono hle6) (Nat.le_trans (m:=2000000000) (by omega) (by decide))
 have hCG:=mY (cap:=c8) (Cls.sl hLr6).1 (by omega) (fun z hz=>by have:=hLc z hz;omega)
 rw[hall0l]at hCG
 refine bM hCG fun v7 μ7 hle7 hR7=>?_
 have hle07:=hle1.trans (hle14.trans (hle5.trans (hle6.trans hle7)))
 by_cases hok:qGo (X.ls ds)
 rotate_left
 ·rw [cgO, if_neg hok] at hR7
  obtain rfl:=hR7
  intro r30
  refine iIn (fun _=>?_) (fun h=>nomatch h)
  refine rPl ?_
  rw[lG hAt fun ds' hd=>by
   have h1:=hd.1
   rw[hXe]at h1
   rw[show q2.body.cl=some ds' from h1]at e4
   cases e4;exact hok hd.2.1]
  rfl
 rw[cgO,if_pos hok]at hR7
 obtain⟨tv,rfl,htv⟩:=hR7
 have w_:=Gl.invV htv.rep
 obtain⟨q7,rfl⟩:=w_
 intro r30
 refine iIn (fun h=>nomatch h) (fun _=>?_)
 have hne:p.rels≠[]:=fun e=>by rw[e]at hr;cases hr
 refine cOw (tV (RepV.mono hle07 hp0) hpo hne) fun v8 μ8 H8 hle8 hap8 hR8=>?_
 obtain⟨rb,rc,rty,us,rfl,hrow,hgr⟩:=hR8
 have hul:=hgr.len
 rw[List.length_map]at hul
 have hkl:=(List.getElem?_eq_some_iff.1 hr).1
 intro r32
 refine eIn (helr.mono (hle14.trans (hle5.trans (hle6.trans (hle7.trans hle8))))) ?_
 have hqlo0:=hqo.lo0
 have hqlo8:=hqo.lo8
 have hqar0:=hqo.ar0
 have hqar4:=hqo.ar4
 refine aB (by omega) (by omega) ?_
 refine aB (by omega) (by omega) ?_
 have w_:=aSo (l:=us) (i:=k) (by omega)
 obtain⟨u,hu⟩:=w_
 have hz:∀y∈us,(aD y).length=7∧∀u∈aD y,u.oneCell'=true:=by
  obtain⟨_,_,_,_,hz,_⟩:=hrow
  exact hz
 have w_:=hgr.at hz (k:=k) (show(p.rels.map Rl.d)[k]? =some r.d by simp[hr]) hu
 obtain⟨go,hgo⟩:=w_
 have w_:=Rl.ownR hgo
 obtain⟨pp,hpp,-⟩:=w_
 obtain⟨LL,hLL⟩:∃LL:Int,r.locals+q2.arity+q2.locals=LL:=⟨_,rfl⟩
 rw[hLL]
 refine cB ⟨rb,0,none⟩ rfl (by omega) (by omega) ?_
 refine eO (k:=k) (j:=2) (x:=u) (.agg #[.string r.name,.int .i64 r.arity,.int .i64 LL,.int .i64 r.body.kind,.string r.body.name,.slice pp.1.1 r.body.terms.length pp.1.2,.slice pp.2.1 r.body.goals.length pp.2.2]) hrow hu (by simp[Addr.add_lit']) (by rw[hpp];rfl) (show 2+1≤7 by decide) (by simp[Value.oneCell']) fun o1 hrow1=>?_
 have hap9:=hap8.set (o:=o1) (kA hrow hap8 (.inl rfl))
 have hu1:(us.set k (Value.agg #[.string r.name,.int .i64 r.arity,.int .i64 LL,.int .i64 r.body.kind,.string r.body.name,.slice pp.1.1 r.body.terms.length pp.1.2,.slice pp.2.1 r.body.goals.length pp.2.2]))[k]? =some _:=List.getElem?_set_self (by omega)
 refine cB ⟨rb,0,none⟩ rfl (by omega) (by omega) ?_
 refine eO (k:=k) (j:=3) (.agg (Value.string r.name:: .int .i64 r.arity:: .int .i64 LL::(cgG (X.ls ds)).cs q7).toArray) hrow1 hu1 (by simp[Addr.add_lit']) rfl (show 3+4≤7 by decide) (by simp[Value.oneCell']) fun o2 hrow2=>?_
 have hap10:=hap9.set (o:=o2) (kA hrow1 hap9 (.inl rfl))
 rw[List.set_set]at hrow2
 have hXpg:X.pg p ds=⟨p.rels.set k ⟨r.name,r.arity,LL,cgG (X.ls ds)⟩⟩:=by rw[UnfD.pg,hXe,←hLL]
 have hnew:Fresh μ μ7 (Rl.mk r.name r.arity LL (cgG (X.ls ds))).d (.agg (Value.string r.name:: .int .i64 r.arity:: .int .i64 LL::(cgG (X.ls ds)).cs q7).toArray):=by
  rw[Rl.d_eq]
  have h1:=FreshS.st (FreshS.str (n:=r.name) (FreshS.int (n:=r.arity) (FreshS.int (n:=LL) (FreshS.cons htv hle7 (Mem.Le.refl _) FreshS.nil))))
  exact h1.mono (hle1.trans (hle14.trans (hle5.trans hle6))) (Mem.Le.refl _)
 have hgr2:=hgr.set hz (k:=k) (by omega) hnew hle07 hle8 (Rl.d_n _) ⟨rfl,by simp[aD,Value.oneCell',Gl.cs]⟩
 rw[←List.map_set]at hgr2
 have hrow3:RowO ((H8.set rb o1).set rb o2) rb rc rty 7 (us.set k (.agg (Value.string r.name:: .int .i64 r.arity:: .int .i64 LL::(cgG (X.ls ds)).cs q7).toArray)):=hrow2
 have hap11:Apart μ8 ((H8.set rb o1).set rb o2):=hap10
 generalize hHH:(H8.set rb o1).set rb o2=HH at hrow3 hap11
 have hb9:∀μ',Apart μ' HH→μ' rb=none:=fun μ' k=>k.symm rb (by
  obtain⟨cs,hc,_⟩:=hrow3
  rw[hc];simp)
 have hF:∀μ',μ8.Le μ'→Apart μ' HH→Fresh μ (μ'.join HH) (X.pg p ds).d (.agg #[.slice (some ⟨rb,0,none⟩) us.length rc]):=fun μ' hl hA=>by
  have k:=(hgr2.mono hl).fresh (b:=some rb) (cap:=rc) ((hle07.trans hle8).trans hl) (Mem.le_join μ' HH) (fun r0 hr0=>by cases hr0;exact hb9 μ' hA) (hrow3.rowAt (Mem.le_join_right hA)) hrow3.len
  rw[List.length_set]at k
  rw[hXpg,Pg.d_eq]
  exact(FreshS.st (FreshS.cons k ((hle07.trans hle8).trans (hl.trans (Mem.le_join _ _))) (Mem.Le.refl _) FreshS.nil)).mono (Mem.Le.refl _) (Mem.Le.refl _)
 have hRP:=(hF μ8 (Mem.Le.refl _) hap11).rep
 refine cOw (SpecH.lend hap11 (dO hRP)) fun v9 μ9 H9 hle9 hap12 hR9=>?_
 obtain⟨rfl,μ10,rfl,hle10,e9⟩:=hR9
 refine aL (fun hbad=>?_) (fun hgood=>?_)
 ·refine rPl ?_
  rw[lG hAt fun ds' hd=>by
   have h1:=hd.1
   rw[hXe]at h1
   rw[show q2.body.cl=some ds' from h1]at e4
   cases e4;exact hbad hd.2.2]
  rfl
 ·refine cG _ Mem.nil (Parts.nil_right _) ?_
  have hcl:X.q.body.cl=some ds:=by rw[hXe];exact e4
  rw[sJ hAt ⟨hcl,hok,hgood⟩]
  exact⟨_,rfl,hF μ9 hle9 hap12⟩
end
end Go.Vx
namespace Go.Vx
open Go.Proofs Classical
structure FindAt (p:Pg) (nm:ByteArray) (clause:Int) (k:Nat) (r:Rl) (cls:List (List Gl)) (c:Nat) (l:List Gl):Prop where
 find:eF p nm=k
 rel:p.rels[k]? =some r
 cl:r.body.cl=some cls
 cc:clause=c
 cls:cls[c]? =some l
theorem lU{p:Pg}(hw:p.d.wd){i:Nat}{r:Rl}(h:p.rels[i]? =some r):r.d.wd∧r.body.d.wd:=by
 have h1:D.wds (p.rels.map Rl.d):=by rw[Pg.d_eq]at hw;exact hw.1
 have h2:=D.wds_mem h1 _ (List.mem_map_of_mem (mAt h))
 refine⟨h2,?_⟩
 rw[Rl.d_eq]at h2;exact h2.2.2.2.1
theorem Gl.eta(g:Gl):g= .mk g.kind g.name g.terms g.goals:=by cases g;rfl
theorem Gl.put_congr{f f':Int→Option T}:∀g:Gl,(∀x∈g.all,∀t∈x.terms,∀n∈t.toT.vars,f n=f' n)→g.put f=g.put f':=
 Gl.ind fun g ih h=>by
  rw[Gl.eta (g.put f),Gl.eta (g.put f'),Gl.put_kind,Gl.put_kind,Gl.put_name,Gl.put_name,Gl.put_terms,Gl.put_terms,Gl.put_goals,Gl.put_goals]
  congr 1
  ·exact List.map_congr_left fun t ht=>by
    rw[T.subst_congrD t.toT fun n hn=>by rw[h g (Gl.all_self g) t ht n hn]]
  ·exact List.map_congr_left fun x hx=>ih x hx fun y hy=>h y (Gl.all_sub hx hy)
theorem Gl.all_thru:∀(g:Gl) {x y:Gl},y∈g.all→x∈y.all→x∈g.all:=
 Gl.ind fun g ih x y hy hx=>by
  rw[Gl.all_eq]at hy
  rcases List.mem_cons.1 hy with rfl|hy
  ·exact hx
  ·have w_ := List.mem_flatMap.1 hy
   obtain⟨z,hz,hy⟩:=w_
   exact Gl.all_sub hz (ih z hz hy hx)
theorem qCb{p:Pg}{j:Nat}{q2:Rl}(hqo:RelOk p j q2){N:Int}(h0:0≤N)(h1:N≤1000){y:Gl}(hy:y∈q2.body.all):(y.put (shF N)).d.wd:=by
 have hl:=hqo.lo8
 have ha:=hqo.ar4
 have e:y.put (shF N)=y.put fun n=>if 0≤n∧n≤1000 then some (.var (n+N))else none:=Gl.put_congr y fun x hx t ht n hn=>by
  have hxm:=Gl.all_thru q2.body hy hx
  have hts:=(hqo.body.all q2.body x hxm).top.tm t ht
  have w_:=hts.lift
  obtain⟨z,hz,rfl⟩:=w_
  have h2:=hqo.vars n (List.mem_flatMap.2 ⟨x,hxm,by rw[Gl.tvars];exact List.mem_flatMap.2 ⟨_,List.mem_map_of_mem ht,hn⟩⟩)
  rw[T.toT_tm]at hn
  have h3:=(T.good_vars hz.1 n hn).1
  rw[shF,if_pos ⟨h3,by omega⟩]
 rw[e]
 refine Gl.put_Sh_wd (fun n z hz=>?_) (hqo.body.all q2.body y hy)
 split at hz
 ·cases hz
  show 0≤n+N∧n+N≤100000
  omega
 ·cases hz
theorem qRd{N:Int}(h0:0≤N)(h1:N≤1000){i:Nat}(hi:i≤1000){t:Tm}(ht:t.d.wd):(eqG N i t).d.wd:=by
 refine Gl.wd_mk ⟨show(-9223372036854775808:Int)≤2 by decide,show(2:Int)≤9223372036854775807 by decide⟩ (Nat.zero_le _) (fun x hx=>?_) fun x hx=>absurd hx List.not_mem_nil
 rcases List.mem_cons.1 (show x∈[(T.var (N+i)).tm,t]from hx)with rfl|hx
 ·exact T.good_wd (x:=T.var (N+i)) ⟨by omega,by omega⟩
 ·rw[List.mem_singleton.1 hx];exact ht
theorem qSi{p:Pg}{k j:Nat}{r q2:Rl}{cls ds L:List (List Gl)}{c a:Nat}{l:List Gl}{g:Gl}{N:Int}(hw:p.d.wd)(hr:p.rels[k]? =some r)(e:r.body.cl=some cls)(hl:cls[c]? =some l)(hg:l[a]? =some g)(_hq2:p.rels[j]? =some q2)(hqo:RelOk p j q2)(h0:0≤N)(h1:N≤1000)
  (hLs:L=cls.take c++ds.map (gC l a g N)++cls.drop (c+1)) (hD:∀d∈ds,∀y∈d,y∈q2.body.all) (hg4:g.terms.length≤1000):∀z∈L,∀y∈z,y.d.wd:=fun z hz y hy=>by
 have hbw:=Gl.all_wd r.body (lU hw hr).2
 have hcls:∀z∈cls,∀y∈z,y.d.wd:=fun z hz y hy=>hbw y (Gl.cl_all r.body e z hz y hy).1
 rw[hLs]at hz
 rcases List.mem_append.1 hz with hz|hz
 ·rcases List.mem_append.1 hz with hz | hz
  ·exact hcls z (List.mem_of_mem_take hz) y hy
  ·have w_ := List.mem_map.1 hz
   obtain⟨d,hd,rfl⟩:=w_
   rw[gC]at hy
   rcases List.mem_append.1 hy with hy|hy
   ·rcases List.mem_append.1 hy with hy | hy
    ·rcases List.mem_append.1 hy with hy | hy
     ·exact hcls l (mAt hl) y (List.mem_of_mem_take hy)
     ·have w_ := List.mem_iff_getElem?.1 hy
      obtain⟨i,hi⟩:=w_
      rw[kY,List.getElem?_mapIdx]at hi
      have w_:=Option.map_eq_some_iff.1 hi
      obtain⟨t,ht,rfl⟩:=w_
      have hil:=(List.getElem?_eq_some_iff.1 ht).1
      exact qRd h0 h1 (by omega) ((Gl.wd_at (hcls l (mAt hl) g (mAt hg))).2.2.1 t (mAt ht))
    ·have w_ := List.mem_map.1 hy
     obtain⟨y',hy',rfl⟩:=w_
     exact qCb hqo h0 h1 (hD d hd y' hy')
   ·exact hcls l (mAt hl) y (List.mem_of_mem_drop hy)
 ·exact hcls z (List.mem_of_mem_drop hz) y hy
section
variable {μ:Mem}
set_option maxHeartbeats 2000000 in
theorem zY{p:Pg}{nm:ByteArray}{clause call:Int}{v:Value}(hp:RepV μ p.d v)(hw:p.d.wd)(hc0:InR clause):
  Spec Tryz.prog 91 [v,.string nm,.int .i64 clause,.int .i64 call] μ fun v μ'=>(∃k r cls c l tv,FindAt p nm clause k r cls c l∧p.Ok∧v= .tuple #[tv,.int .i64 (oQ l call),.bool (decide (0≤oQ l call))]∧Cls μ' cls tv)∨((∀x,¬UnfAt p nm clause call x)∧v= .tuple #[.slice none 0 0,.int .i64 0,.bool false]):=by
 have hp0:=hp
 have w_:=Pg.inv hp
 obtain⟨q,rfl,hrl⟩:=w_
 refine Spec.mk Tryz.func91 (by kernel_rfl) ?_
 intro r4
 refine cPl (iR hp0 hw) fun v1 μ1 hle1 hR=>?_
 obtain rfl:=hR
 refine ifd (fun h=>?_) (fun h=>?_)
 ·refine rPl (.inr ⟨fun x hx=>by have:=hx.find;omega,rfl⟩)
 have w_:=Int.eq_ofNat_of_zero_le (show 0≤eF p nm by omega)
 obtain⟨k,hk⟩:=w_
 have hpo:p.Ok:=Classical.byContradiction fun e=>by rw[eF,if_neg e]at h;exact h (by decide)
 have hfind:eF p nm=relAt p nm:=by rw[eF,if_pos hpo]
 have w_:=gA (p:=p) (s:=nm) (by omega)
 obtain⟨k',r,hk',hr,-⟩:=w_
 obtain rfl:k=k':=by omega
 have hro:=hpo.2 _ r hr
 have w_:=Rl.elemA (hrl.mono hle1) hr
 obtain⟨adr,qr,helr,hrr,hbody⟩:=w_
 have hbody:RepV μ1 r.body.d (.agg (r.body.cs qr).toArray):=hbody
 have hX:∀x,UnfAt p nm clause call x→x.k=k∧x.r=r:=fun x hx=>by
  have h1:=hx.find
  have h2:x.k=k:=by omega
  have h3:=hx.rel
  rw[h2,hr]at h3
  exact⟨h2,(Option.some.inj h3).symm⟩
 rw[hk]
 refine eIn helr ?_
 refine cPl (gE hbody (lU hw hr).2 ⟨hro.body,by have:=hro.size;omega⟩) fun v2 μ2 hle2 hR2=>?_
 obtain⟨o2,e⟩:∃o,r.body.cl=o:=⟨_,rfl⟩
 rw[e]at hR2
 match o2,e,hR2 with
 |none,e,hR2=>
  obtain rfl:=hR2
  refine iIn (fun _=>?_) (fun h=>nomatch h)
  refine rPl (.inr ⟨fun x hx=>(by have h1:=hx.cl;rw[(hX x hx).2,e]at h1;cases h1),rfl⟩)
 |some cls,e,hR2=>
 obtain⟨tv,rfl,hLr⟩:=hR2
 obtain⟨pv,rfl⟩:=hLr.inv
 have hXc:∀x,UnfAt p nm clause call x→x.cls=cls:=fun x hx=>by
  have h1:=hx.cl
  rw[(hX x hx).2,e]at h1
  exact(Option.some.inj h1).symm
 refine iIn (fun h=>nomatch h) (fun _=>?_)
 have hcll:=(Gl.cl_bnd r.body e).2
 refine aB (by omega) (by omega) ?_
 refine cGv (bG _ _ _ _) ?_
 refine aL (fun h1=>?_) (fun h1=>?_)
 ·refine rPl (.inr ⟨fun x hx => ?_, rfl⟩)
  have h3:=hx.cc
  have h4:=(List.getElem?_eq_some_iff.1 hx.cls).1
  rw[hXc x hx]at h4;omega
 have w_:=Int.eq_ofNat_of_zero_le (show 0≤clause by omega)
 obtain⟨c,rfl⟩:=w_
 have w_:=aSo (l:=cls) (i:=c) (by omega)
 obtain⟨l,hl⟩:=w_
 have hsl:=(Cls.sl hLr).1
 have w_:=cF hsl hl
 obtain⟨adl,pl,hell,hrll⟩:=w_
 have hls:=uX hrll
 have hll:=(Gl.cl_bnd r.body e).1 l (mAt hl)
 have hsz:=hro.size
 refine eIn hell ?_
 refine cPl (qEc (call:=call) hls (by omega)) fun v3 μ3 hle3 hR3=>?_
 obtain⟨rfl,e3⟩:=hR3
 obtain rfl:=e3.symm
 exact rPl (.inl ⟨k,r,cls,c,l,_,⟨hk,hr,e,rfl,hl⟩,hpo,rfl,hLr⟩)
set_option maxHeartbeats 4000000 in
set_option maxRecDepth 20000 in
theorem kO{p:Pg}{nm:ByteArray}{clause call:Int}{v:Value}(hp:RepV μ p.d v)(hw:p.d.wd)(hc0:InR clause):
  Spec Tryz.prog 37 [v,.string nm,.int .i64 clause,.int .i64 call] μ fun v μ'=>qVn (fun y tv=>RepV μ' y.d tv) ((rR p nm clause call).map Prod.fst) v:=by
 have hp0:=hp
 have w_:=Pg.inv hp
 obtain⟨q,rfl,hrl⟩:=w_
 refine Spec.mk Tryz.func37 (by kernel_rfl) ?_
 intro r4 r8
 refine cPl (zY (call:=call) hp0 hw hc0) fun v1 μ1 hle1 hR=>?_
 rcases hR with⟨k,r,cls,c,l,tv,hF,hpo,rfl,hLr⟩|⟨hno,rfl⟩
 rotate_left
 ·refine iIn (fun _ => ?_) (fun h => nomatch h)
  refine rPl ?_
  rw[gB hno];rfl
 obtain⟨hk,hr,e,rfl,hl⟩:=hF
 obtain⟨pv,rfl⟩:=hLr.inv
 have hX:∀x,UnfAt p nm c call x→x.l=l:=fun x hx=>by
  have h1:=hx.find
  have h2:x.k=k:=by omega
  have h3:=hx.rel
  rw[h2,hr]at h3
  have h4:=hx.cl
  rw[←Option.some.inj h3,e]at h4
  have h5:=hx.cls
  rw[←Option.some.inj h4,show x.c=c by have:=hx.cc;omega,hl]at h5
  exact(Option.some.inj h5).symm
 refine aL (fun hneg=>?_) (fun hpos=>?_)
 ·refine rPl ?_
  rw[gB fun x hx=>by
   have h1:=hx.pos
   have h2:=hx.call0
   rw[hX x hx]at h1
   apply hneg
   rw[oQ,if_neg (by omega),h1]
   exact Int.natCast_nonneg _]
  rfl
 have hcall:0≤call:=by
  refine Classical.byContradiction fun h=>?_
  rw[oQ,if_pos (by omega)]at hpos
  exact absurd hpos (by decide)
 have w_:=Int.eq_ofNat_of_zero_le hcall
 obtain⟨kc,rfl⟩:=w_
 obtain⟨oa,ea⟩:∃o,bK l kc=o:=⟨_,rfl⟩
 have hcI:oQ l kc=pS oa:=by rw[oQ,if_neg (by omega),Int.toNat_natCast,ea]
 match oa,ea,hcI with
 |none,ea,hcI=>rw[hcI]at hpos;exact absurd hpos (by decide)
 |some a,ea,hcI=>
 rw[show oQ l kc=(a:Int)from hcI]
 have hro:=hpo.2 _ r hr
 have har0:=hro.ar0
 have har4:=hro.ar4
 have hlo0:=hro.lo0
 have hlo8:=hro.lo8
 have hfind:eF p nm=relAt p nm:=by rw[eF,if_pos hpo]
 refine cGv (dI (s:=nm) (hp0.mono hle1)) ?_
 rw[show relAt p nm=(k:Int) by omega]
 have hsl:=(Cls.sl hLr).1
 have w_:=cF hsl hl
 obtain⟨adl,pl,hell,hrll⟩:=w_
 have hls:=uX hrll
 have hbnd:=Gl.cl_bnd r.body e
 have hsz:=hro.size
 have hll:=hbnd.1 l (mAt hl)
 have hcll:=hbnd.2
 have hcl:=(List.getElem?_eq_some_iff.1 hl).1
 refine eIn hell ?_
 have w_:=gX ea
 obtain⟨g,hg,h9⟩:=w_
 have w_:=Gl.elem hls hg
 obtain⟨adg,pg,helg,hrg⟩:=w_
 have hal:=(List.getElem?_eq_some_iff.1 hg).1
 have hgm:g∈r.body.all:=(Gl.cl_all r.body e l (mAt hl) g (mAt hg)).1
 have w_:=hro.calls.all g hgm h9
 obtain⟨j,q2,hj,hq2,harq⟩:=w_
 refine eIn helg ?_
 refine cGv (dI (s:=g.name) (hp0.mono hle1)) ?_
 rw[hj]
 have w_:=Rl.elemA (hrl.mono hle1) hq2
 obtain⟨adq,qq,helq,hrq,hbodyq⟩:=w_
 have hbodyq:RepV μ1 q2.body.d (.agg (q2.body.cs qq).toArray):=hbodyq
 have hqo:=hpo.2 _ q2 hq2
 refine eIn helq ?_
 intro r15
 have w_:=Rl.elemA (hrl.mono hle1) hr
 obtain⟨adr,qr,helr,hrr,hbody⟩:=w_
 refine eIn helr ?_
 refine eIn helr ?_
 refine aB (by omega) (by omega) ?_
 obtain⟨N,hN⟩:∃N:Int,r.arity+r.locals=N:=⟨_,rfl⟩
 rw[hN]
 have hN0:0≤N∧N≤1000:=by omega
 have hAt:UnfAt p nm c kc ⟨k,r,cls,c,l,a,g,q2⟩:=⟨hk,hr,e,rfl,hl,by omega,by rw[Int.toNat_natCast];exact ea,hg,j,hj,hq2⟩
 refine cPl (gE hbodyq (lU hw hq2).2 ⟨hqo.body,by have:=hqo.size;omega⟩) fun v4 μ4 hle4 hR4=>?_
 obtain⟨ds,gd,tv,rfl,hDr,hgd,hDb⟩:∃ds gd tv,v4= .tuple #[tv,.bool gd]∧Cls μ4 ds tv∧((gd=true∧q2.body.cl=some ds)∨(gd=false∧q2.body.cl=none))∧((∀c∈ds,c.length≤60∧∀x∈c,x∈q2.body.all)∧ds.length≤64):=by
  have hqsz:=hqo.size
  cases e4:q2.body.cl with
  |none=>
   rw[e4]at hR4
   exact⟨[],false,_,hR4,⟨none,0,rfl,⟨Nat.zero_le _,Nat.zero_le _⟩,(fun _ h=>nomatch h),.inl rfl⟩,.inr ⟨rfl,rfl⟩,(fun c h=>absurd h (List.not_mem_nil)),Nat.zero_le _⟩
  |some ds=>
   rw[e4]at hR4
   obtain⟨tv,h1,h2⟩:=hR4
   have hb:=Gl.cl_bnd q2.body e4
   exact⟨ds,true,tv,h1,h2,.inl ⟨rfl,rfl⟩,fun c hc=>⟨by have:=hb.1 c hc;omega,fun x hx=>(Gl.cl_all q2.body e4 c hc x hx).1⟩,hb.2⟩
 obtain⟨pd,rfl⟩:=hDr.inv
 have hDm:=hDb.2
 have hLr4:=RepV.mono hle4 hLr
 have hell4:=hell.mono hle4
 have hrll4:=RepV.mono hle4 hrll
 have hrg4:=RepV.mono hle4 hrg
 have helg4:=helg.mono hle4
 have w_:=Rep.src hLr4
 obtain⟨vc,hvc,hvcl,hvcc,hvcs⟩:=w_
 have w_:=Rep.src (ds:=l.map Gl.d) hrll4
 obtain⟨vl,hvl,hvll,hvlc,hvls⟩:=w_
 have hgT:=Gl.termsW hrg4
 have hgts:Sl μ4 4 pg.1.1 g.terms.length (g.terms.map Tm.d):=by
  have w_:=Rep.sl (xs:=g.terms.map Tm.d) hgT
  obtain⟨b',c',e1,hs⟩:=w_
  have w_:=Value.slice.inj e1
  obtain⟨rfl,_,_⟩:=w_
  simpa using hs
 have hSg:g.Sh:=hro.body.all r.body g hgm
 have hg4:=hSg.lens
 intro r82
 refine aG 0 c rfl rfl (by omega) (by omega) ?_
 refine aJ _ (hvcs 0 c (by omega) (by omega)) ?_
 refine gIn ?_ ?_ fun b1 c1 _=>?_
 ·show(0+_)*24≤_;simp;omega
 ·exact Nat.le_trans (m:=2000000000) (by simp;omega) (by decide)
 have hx0:Rows μ4 1 ((cls.take c).map csD) (([]:List Value)++(vc.drop 0).take (c-0)):=by
  have:=(hvc.drop 0).take (c-0)
  simpa[List.map_take]using this
 refine lIn (fun z:Nat×Option Nat×Nat×List Value×Mem=>z.1≤ds.length∧μ4.Le z.2.2.2.2∧Rows z.2.2.2.2 1 ((cls.take c++(ds.take z.1).map (gC l a g N)).map csD) z.2.2.2.1)
  (fun (i, b, co, ys, μ') => ⟨[(2, .val (.int .i64 c)), (4, .loc 0 r4 0), (8, .loc 1 r8 0), (10, .val (.slice pv.1 cls.length pv.2)), (11, .val (.int .i64 a)), (13, .val (.int .i64 k)), (14, .val (.slice pl.1 l.length pl.2)), (15, .loc 2 r15 0), (16, .val (.int .i64 N)), (18, .val (.bool gd)), (19, .row 3 b ys.length co), (87, .val (.slice pd.1 ds.length pd.2)), (88, .val (.int .i64 ds.length)), (89, .val (.int .i64 i))],
   [(0,some (.cells r4 [.val (.slice q.1 p.rels.length q.2)] 25)),(1,some (.cells r8 [.val (.slice none 0 0)] 25)),(2,some (.cells r15 (vals (q2.cs qq)) 63)),(3,some (.row b co 59 1 ys))],4,μ',Mem.nil⟩) (fun z=>ds.length-z.1)
  (0,b1,c1,([]:List Value)++(vc.drop 0).take (c-0),μ4) ⟨Nat.zero_le _,Mem.Le.refl _,by simpa using hx0⟩ (fun(_,_,_,_,_)=>⟨rfl,rfl⟩) ⟨⟨rfl,rfl,rfl,rfl,rfl,rfl,rfl,rfl,rfl,rfl,rfl,rfl,rfl,rfl,trivial⟩,⟨rfl,rfl,rfl,rfl,trivial⟩,rfl,rfl⟩ ?_
 rintro⟨i,b,co,ys,μ5⟩ ⟨hi,hle5,hrows⟩
 dsimp only at hi hle5 hrows
 have hyl:=hrows.len
 simp only[List.length_map,List.length_append,List.length_take]at hyl
 refine ifd (fun hlt=>?_) (fun hlt=>?_)
 ·have w_ := aSo (l := ds) (i := i) (by omega)
  obtain⟨d,hd⟩:=w_
  have w_:=cF ((Cls.sl hDr).1.mono hle5) hd
  obtain⟨adi,pi,heli,hri⟩:=w_
  have hdl:=(hDb.1 d (mAt hd)).1
  have hds:=uX hri
  refine eIn heli ?_
  intro r93
  refine aG 0 a rfl rfl (by omega) (by omega) ?_
  refine aJ _ (hZ (hvls 0 a (by omega) (by omega)) hle5) ?_
  refine gIn ?_ ?_ fun b2 c2 _=>?_
  ·show(0+_)*72≤_;simp;omega
  ·exact Nat.le_trans (m:=2000000000) (by simp;omega) (by decide)
  have hy0:Rows μ5 4 ((l.take a).map Gl.d) (([]:List Value)++(vl.drop 0).take (a-0)):=by
   have:=(hvl.drop 0).take (a-0)
   simpa[List.map_take]using this.mono hle5
  refine eIn (helg4.mono hle5) ?_
  refine lIn (fun z:Nat×Option Nat×Nat×List Value×Mem=>z.1≤g.terms.length∧μ5.Le z.2.2.2.2∧Rows z.2.2.2.2 4 ((l.take a++(kY N g.terms).take z.1).map Gl.d) z.2.2.2.1)
   (fun (j, b', co', zs, μ') => ⟨[(2, .val (.int .i64 c)), (4, .loc 0 r4 0), (8, .loc 1 r8 0), (10, .val (.slice pv.1 cls.length pv.2)), (11, .val (.int .i64 a)), (13, .val (.int .i64 k)), (14, .val (.slice pl.1 l.length pl.2)), (15, .loc 2 r15 0), (16, .val (.int .i64 N)), (18, .val (.bool gd)), (19, .row 3 b ys.length co), (87, .val (.slice pd.1 ds.length pd.2)), (88, .val (.int .i64 ds.length)), (89, .val (.int .i64 i)), (21, .val (.slice pi.1 d.length pi.2)), (22, .row 4 b' zs.length co'), (102, .val (.slice pg.1.1 g.terms.length pg.1.2)), (103, .val (.int .i64 g.terms.length)), (104, .val (.int .i64 j))],
    [(0,some (.cells r4 [.val (.slice q.1 p.rels.length q.2)] 25)),(1,some (.cells r8 [.val (.slice none 0 0)] 25)),(2,some (.cells r15 (vals (q2.cs qq)) 63)),(3,some (.row b co 59 1 ys)),(4,some (.row b' co' 61 4 zs))],5,μ',Mem.nil⟩) (fun z=>g.terms.length-z.1)
   (0,b2,c2,([]:List Value)++(vl.drop 0).take (a-0),μ5) ⟨Nat.zero_le _,Mem.Le.refl _,by simpa using hy0⟩ (fun(_,_,_,_,_)=>⟨rfl,rfl⟩) ⟨⟨rfl,rfl,rfl,rfl,rfl,rfl,rfl,rfl,rfl,rfl,rfl,rfl,rfl,rfl,rfl,rfl,rfl,rfl,rfl,trivial⟩,⟨rfl,rfl,rfl,rfl,rfl,trivial⟩,rfl,rfl⟩ ?_
  clear hy0
  rintro⟨j,b3,c3,zs,μ6⟩ ⟨hj,hle6,hrows3⟩
  dsimp only at hj hle6 hrows3
  have hzl:=hrows3.len
  simp only[List.length_map,List.length_append,List.length_take,iE]at hzl
  refine ifd (fun hlt3=>?_) (fun hlt3=>?_)
  ·have w_ := aSo (l := g.terms) (i := j) (by omega)
   obtain⟨t,ht⟩:=w_
   have w_:=Tm.elem (hgts.mono (hle5.trans hle6)) ht
   obtain⟨adt,pt,helt,hrt⟩:=w_
   refine eIn helt ?_
   intro r24
   refine aB (by omega) (by omega) ?_
   refine cGv (gS _) ?_
   intro r115
   refine aS [6] ?_
   intro μ7 hle7 hno7 hat7
   refine bM (bC (a:=(some ⟨r115,0,none⟩,2,2)) (b:=(none,0,0))) fun v8 μ8 hle8 hR8=>?_
   obtain⟨rfl,e8⟩:=hR8
   obtain rfl:=e8.symm
   intro r117
   refine gIn ?_ ?_ fun b4 c4 _=>?_
   ·show(zs.length+1)*72≤_;omega
   ·exact Nat.le_trans (m:=100000000) (show zs.length+1≤_ by omega) (by decide)
   have hE:RepV μ7 (eqG N j t).d _:=qFj (Rows.sl hat7 (.cons (RepV.mono hle7 (gP (N+j))) (Tm.d_n _) (.cons (RepV.mono hle7 hrt) (Tm.d_n _) .nil)) (show 2≤maxLen by decide))
   refine aB (by omega) (by omega) ⟨(j+1,b4,c4,_,μ7),⟨by dsimp only;omega,hle6.trans hle7,?_⟩,by dsimp only;omega,⟨⟨rfl,rfl,rfl,rfl,rfl,rfl,rfl,rfl,rfl,rfl,rfl,rfl,rfl,rfl,rfl,rfl,rfl,rfl,rfl,trivial⟩,⟨rfl,rfl,rfl,rfl,rfl,trivial⟩,rfl,rfl⟩⟩
   dsimp only
   rw[yM ht,←List.append_assoc,List.map_append (l₂:=[eqG N j t])]
   exact(hrows3.mono hle7).append (Rows.one hE (Gl.d_n _))
  obtain rfl:j=g.terms.length:=by omega
  rw[List.take_of_length_le (l:=kY N g.terms) (by rw[iE];omega)]at hrows3
  refine lIn (fun z:Nat×Option Nat×Nat×List Value×Mem=>z.1≤d.length∧μ6.Le z.2.2.2.2∧Rows z.2.2.2.2 4 ((l.take a++kY N g.terms++(d.take z.1).map (Gl.put (shF N))).map Gl.d) z.2.2.2.1)
   (fun (j, b', co', zs, μ') => ⟨[(2, .val (.int .i64 c)), (4, .loc 0 r4 0), (8, .loc 1 r8 0), (10, .val (.slice pv.1 cls.length pv.2)), (11, .val (.int .i64 a)), (13, .val (.int .i64 k)), (14, .val (.slice pl.1 l.length pl.2)), (15, .loc 2 r15 0), (16, .val (.int .i64 N)), (18, .val (.bool gd)), (19, .row 3 b ys.length co), (87, .val (.slice pd.1 ds.length pd.2)), (88, .val (.int .i64 ds.length)), (89, .val (.int .i64 i)), (22, .row 4 b' zs.length co'), (120, .val (.slice pi.1 d.length pi.2)), (121, .val (.int .i64 d.length)), (122, .val (.int .i64 j))],
    [(0,some (.cells r4 [.val (.slice q.1 p.rels.length q.2)] 25)),(1,some (.cells r8 [.val (.slice none 0 0)] 25)),(2,some (.cells r15 (vals (q2.cs qq)) 63)),(3,some (.row b co 59 1 ys)),(4,some (.row b' co' 61 4 zs))],5,μ',Mem.nil⟩) (fun z=>d.length-z.1)
   (0,b3,c3,zs,μ6) ⟨Nat.zero_le _,Mem.Le.refl _,by simpa using hrows3⟩ (fun(_,_,_,_,_)=>⟨rfl,rfl⟩) ⟨⟨rfl,rfl,rfl,rfl,rfl,rfl,rfl,rfl,rfl,rfl,rfl,rfl,rfl,rfl,rfl,rfl,rfl,rfl,trivial⟩,⟨rfl,rfl,rfl,rfl,rfl,trivial⟩,rfl,rfl⟩ ?_
  clear hrows3
  rintro⟨j,b5,c5,ws,μ7⟩ ⟨hj2,hle7,hrows4⟩
  dsimp only at hj2 hle7 hrows4
  have hwl:=hrows4.len
  simp only[List.length_map,List.length_append,List.length_take,iE]at hwl
  refine ifd (fun hlt4=>?_) (fun hlt4=>?_)
  ·have w_ := aSo (l := d) (i := j) (by omega)
   obtain⟨y,hy⟩:=w_
   have w_:=Gl.elem (hds.mono (hle6.trans hle7)) hy
   obtain⟨ady,py,hely,hry⟩:=w_
   refine eIn hely ?_
   intro r26
   have hyS:y.Sh:=hqo.body.all q2.body y ((hDb.1 d (mAt hd)).2 y (mAt hy))
   refine cPl (xS hN0 y hry hyS) fun v8 μ8 hle8 hR8=>?_
   have w_:=Gl.invV hR8
   obtain⟨q8,rfl⟩:=w_
   intro r130
   refine gIn ?_ ?_ fun b4 c4 _=>?_
   ·show(ws.length+1)*72≤_;omega
   ·exact Nat.le_trans (m:=100000000) (show ws.length+1≤_ by omega) (by decide)
   refine aB (by omega) (by omega) ⟨(j+1,b4,c4,_,μ8),⟨by dsimp only;omega,hle7.trans hle8,?_⟩,by dsimp only;omega,⟨⟨rfl,rfl,rfl,rfl,rfl,rfl,rfl,rfl,rfl,rfl,rfl,rfl,rfl,rfl,rfl,rfl,rfl,rfl,trivial⟩,⟨rfl,rfl,rfl,rfl,rfl,trivial⟩,rfl,rfl⟩⟩
   dsimp only
   rw[List.take_add_one,hy,Option.toList_some,List.map_append (f:=Gl.put (shF N)),←List.append_assoc,List.map_append (f:=Gl.d)]
   exact(hrows4.mono hle8).append (Rows.one hR8 (Gl.d_n _))
  obtain rfl:j=d.length:=by omega
  rw[List.take_length]at hrows4
  have hle57:=hle5.trans (hle6.trans hle7)
  refine aB (by omega) (by omega) ?_
  refine aG (a+1) l.length rfl rfl (by omega) (by omega) ?_
  refine aJ _ (hZ (hvls (a+1) l.length (by omega) (Nat.le_refl _)) hle57) ?_
  refine gIn ?_ ?_ fun b6 c6 _=>?_
  ·show(ws.length+_)*72≤_;simp;omega
  ·exact Nat.le_trans (m:=2000000000) (by simp;omega) (by decide)
  have hz0:Rows μ7 4 ((gC l a g N d).map Gl.d) (ws++(vl.drop (a+1)).take (l.length-(a+1))):=by
   have h1:=((hvl.drop (a+1)).take (l.length-(a+1))).mono hle57
   have h2:=hrows4.append h1
   have e5:((l.map Gl.d).drop (a+1)).take (l.length-(a+1))=(l.drop (a+1)).map Gl.d:=by
    rw[List.take_of_length_le (by simp),List.map_drop]
   rw[e5,←List.map_append]at h2
   exact h2
  intro μ8 hle8 hno8 hat8 r140
  refine gIn ?_ ?_ fun b7 c7 _=>?_
  ·show(ys.length+1)*24≤_;omega
  ·exact Nat.le_trans (m:=100000000) (show ys.length+1≤_ by omega) (by decide)
  have hC:RepV μ8 (csD (gC l a g N d)) _:=Rows.sl hat8 (hz0.mono hle8) (Nat.le_trans (m:=2000000000) (by simp;omega) (by decide))
  refine aB (by omega) (by omega) ⟨(i+1,b7,c7,_,μ8),⟨by dsimp only;omega,hle57.trans hle8,?_⟩,by dsimp only;omega,⟨⟨rfl,rfl,rfl,rfl,rfl,rfl,rfl,rfl,rfl,rfl,rfl,rfl,rfl,rfl,trivial⟩,⟨rfl,rfl,rfl,rfl,trivial⟩,rfl,rfl⟩⟩
  dsimp only
  rw[List.take_add_one,hd,Option.toList_some,List.map_append (f:=gC l a g N),←List.append_assoc,List.map_append (f:=csD)]
  exact(hrows.mono ((hle6.trans (hle7.trans hle8)))).append (Rows.one hC rfl)
 obtain rfl:i=ds.length:=by omega
 rw[List.take_length]at hrows
 refine aB (by omega) (by omega) ?_
 refine aG (c+1) cls.length rfl rfl (by omega) (by omega) ?_
 refine aJ _ (hZ (hvcs (c+1) cls.length (by omega) (Nat.le_refl _)) hle5) ?_
 refine gIn ?_ ?_ fun b8 c8 _=>?_
 ·show(ys.length+_)*24≤_;simp;omega
 ·exact Nat.le_trans (m:=2000000000) (by simp;omega) (by decide)
 obtain⟨X,hXe⟩:∃X:UnfD,X=⟨k,r,cls,c,l,a,g,q2⟩:=⟨_,rfl⟩
 rw[←hXe]at hAt
 have hLs:X.ls ds=cls.take c++ds.map (gC l a g N)++cls.drop (c+1):=by rw[hXe,←hN];rfl
 have hall0:Rows μ5 1 ((X.ls ds).map csD) (ys++(vc.drop (c+1)).take (cls.length-(c+1))):=by
  have h1:=((hvc.drop (c+1)).take (cls.length-(c+1))).mono hle5
  have h2:=hrows.append h1
  have e5:((cls.map csD).drop (c+1)).take (cls.length-(c+1))=(cls.drop (c+1)).map csD:=by
   rw[List.take_of_length_le (by simp),List.map_drop]
  rw[e5,←List.map_append,←hLs]at h2
  exact h2
 have hLl:(X.ls ds).length≤1000:=by
  rw[hLs];simp only[List.length_append,List.length_take,List.length_map,List.length_drop];omega
 have hLc:∀z∈X.ls ds,z.length≤1000:=fun z hz=>by
  rw[hLs]at hz
  rcases List.mem_append.1 hz with hz|hz
  ·rcases List.mem_append.1 hz with hz | hz
   ·have:=hbnd.1 z (List.mem_of_mem_take hz);omega
   ·have w_ := List.mem_map.1 hz
    obtain⟨d,hd,rfl⟩:=w_
    have:=(hDb.1 d hd).1
    rw[gC]
    simp only[List.length_append,List.length_take,List.length_map,List.length_drop,iE];omega
  ·have:=hbnd.1 z (List.mem_of_mem_drop hz);omega
 have hLw:∀z∈X.ls ds,∀y∈z,y.d.wd:=qSi hw hr e hl hg hq2 hqo (by omega) (by omega) hLs (fun d hd y hy=>(hDb.1 d hd).2 y hy) (by omega)
 have hall0l:=hall0.len
 rw[List.length_map]at hall0l
 refine aS [3] ?_
 intro μ6 hle6 hno6 hat6
 have hLr6:Cls μ6 (X.ls ds) _:=Rows.sl hat6 (hall0.mono hle6) (Nat.le_trans (m:=2000000000) (by omega) (by decide))
 have hCG:=nQ (cap:=c8) (Cls.sl hLr6).1 hLw (by omega) (fun z hz=>by have:=hLc z hz;omega)
 rw[hall0l]at hCG
 refine bM hCG fun v7 μ7 hle7 hR7=>?_
 have hle17:=hle4.trans (hle5.trans (hle6.trans hle7))
 obtain⟨bg,fd,tv,rfl,hbg,hfd⟩:∃bg fd tv,v7= .tuple #[tv,.bool fd]∧RepV μ7 (Gl.d bg) tv∧((fd=true∧qGo (X.ls ds)∧bg=cgG (X.ls ds))∨(fd=false∧¬qGo (X.ls ds))):=by
  by_cases hok:qGo (X.ls ds)
  ·rw [cgO, if_pos hok] at hR7
   obtain⟨tv,h1,h2⟩:=hR7
   exact⟨_,true,tv,h1,h2,.inl ⟨rfl,hok,rfl⟩⟩
  ·rw [cgO, if_neg hok] at hR7
   exact⟨.mk 0 ⟨#[]⟩ [] [],false,_,hR7,zeroG_own.rep (fun _ _ h=>nomatch h),.inr ⟨rfl,hok⟩⟩
 have w_:=Gl.invV hbg
 obtain⟨q7,rfl⟩:=w_
 intro r27 r29
 obtain⟨LL,hLL⟩:∃LL:Int,r.locals+q2.arity+q2.locals=LL:=⟨_,rfl⟩
 have hqlo0:=hqo.lo0
 have hqlo8:=hqo.lo8
 have hqar0:=hqo.ar0
 have hqar4:=hqo.ar4
 have hp8:=hpo.1
 have hkl:=(List.getElem?_eq_some_iff.1 hr).1
 refine aU (fun z:Nat×Option Nat×Nat×List Value×Mem=>z.1≤p.rels.length∧μ7.Le z.2.2.2.2∧Rows z.2.2.2.2 7 (((p.rels.set k ⟨r.name,r.arity,LL,bg⟩).take z.1).map Rl.d) z.2.2.2.1)
  (fun (i, b, c, us, μ') => ⟨[(8, .loc 1 r8 0), (13, .val (.int .i64 k)), (15, .loc 2 r15 0), (18, .val (.bool gd)), (27, .loc 4 r27 0), (28, .val (.bool fd)), (29, .loc 5 r29 0), (156, .val (.slice q.1 p.rels.length q.2)), (157, .val (.int .i64 p.rels.length)), (158, .val (.int .i64 i))],
   [(1,some (.cells r8 [.val (.slice none 0 0)] 25)),(2,some (.cells r15 (vals (q2.cs qq)) 63)),(4,some (.cells r27 (vals (bg.cs q7)) 61)),(5,some (.cells r29 [.row 6 b us.length c] 25)),(6,some (.row b c 63 7 us))],7,μ',Mem.nil⟩) (fun z=>p.rels.length-z.1)
  (0,none,0,[],μ7) ⟨Nat.zero_le _,Mem.Le.refl _,.nil⟩ (fun(_,_,_,_,_)=>⟨rfl,rfl⟩) ⟨⟨⟨_,rfl,.inl rfl⟩,⟨_,rfl,.inl rfl⟩,⟨_,rfl,.inl rfl⟩,⟨_,rfl,.inl rfl⟩,⟨_,rfl,.inl rfl⟩,⟨_,rfl,.inl rfl⟩,⟨_,rfl,.inl rfl⟩,⟨_,rfl,.inl rfl⟩,⟨_,rfl,.inl rfl⟩,⟨_,rfl,.inl rfl⟩,trivial⟩,⟨.inl rfl,.inl rfl,.inl rfl,.inr (.inr ⟨_,_,_,_,rfl,rfl,.inr ⟨6,rfl,rfl,Nat.le_refl _⟩,trivial⟩),.inr (.inl ⟨_,_,rfl,Nat.le_refl _⟩),trivial⟩,rfl,rfl⟩ ?_
 rintro⟨i,b9,c9,us,μ8⟩ ⟨hi,hle8,hrows5⟩
 dsimp only at hi hle8 hrows5
 have hul:=hrows5.len
 simp only[List.length_map,List.length_take,List.length_set]at hul
 refine ifd (fun hlt=>?_) (fun hlt=>?_)
 ·have w_ := aSo (l := p.rels) (i := i) (by omega)
  obtain⟨x2,hx2⟩:=w_
  have w_:=Rl.elemA (hrl.mono (hle1.trans (hle17.trans hle8))) hx2
  obtain⟨ad,qx,hel,hr2,hb⟩:=w_
  have hb:RepV μ8 x2.body.d (.agg (x2.body.cs qx).toArray):=hb
  refine eIn hel ?_
  intro r31
  refine cPl (lP x2.body hb (hpo.2 i x2 hx2).body) fun v9 μ9 hle9 hR9=>?_
  have w_:=Gl.invV hR9
  obtain⟨q9,rfl⟩:=w_
  intro r32
  refine ifd (fun hik=>?_) (fun hik=>?_)
  ·obtain rfl : i = k := by omega
   rw[hr]at hx2
   cases hx2
   refine aB (by omega) (by omega) ?_
   refine aB (by omega) (by omega) ?_
   rw[hLL]
   intro r190
   refine gIn ?_ ?_ fun b' c' _=>?_
   ·show(us.length+1)*104≤_;omega
   ·exact Nat.le_trans (m:=100000000) (show us.length+1≤_ by omega) (by decide)
   refine aB (by omega) (by omega) ⟨(i+1,b',c',_,μ9),⟨by dsimp only;omega,hle8.trans hle9,?_⟩,by dsimp only;omega,⟨⟨rfl,rfl,rfl,rfl,rfl,rfl,rfl,rfl,rfl,rfl,trivial⟩,⟨rfl,rfl,rfl,rfl,rfl,trivial⟩,rfl,rfl⟩⟩
   dsimp only
   rw[List.take_add_one,List.getElem?_set_self (by omega),Option.toList_some]
   simp only[List.map_append,List.map_cons,List.map_nil]
   refine(hrows5.mono hle9).append (Rows.one ?_ (Rl.d_n _))
   rw[Rl.d_eq]
   exact⟨_,rfl,RepS.str (RepS.int (RepS.int (RepS.last (RepV.cells (RepV.mono (hle8.trans hle9) hbg)))))⟩
  ·intro r190
   refine gIn ?_ ?_ fun b' c' _=>?_
   ·show(us.length+1)*104≤_;omega
   ·exact Nat.le_trans (m:=100000000) (show us.length+1≤_ by omega) (by decide)
   refine aB (by omega) (by omega) ⟨(i+1,b',c',_,μ9),⟨by dsimp only;omega,hle8.trans hle9,?_⟩,by dsimp only;omega,⟨⟨rfl,rfl,rfl,rfl,rfl,rfl,rfl,rfl,rfl,rfl,trivial⟩,⟨rfl,rfl,rfl,rfl,rfl,trivial⟩,rfl,rfl⟩⟩
   dsimp only
   rw[List.take_add_one,List.getElem?_set_ne (by omega),hx2,Option.toList_some]
   simp only[List.map_append,List.map_cons,List.map_nil]
   refine(hrows5.mono hle9).append (Rows.one ?_ (Rl.d_n _))
   rw[Rl.d_eq]
   exact⟨_,rfl,RepS.str (RepS.int (RepS.int (RepS.last (RepV.cells hR9))))⟩
 obtain rfl:i=p.rels.length:=by omega
 rw[List.take_of_length_le (by rw[List.length_set];omega)]at hrows5
 have hqcl:X.q.body.cl=q2.body.cl:=by rw[hXe]
 rcases hgd with⟨rfl,e4⟩|⟨rfl,e4⟩
 rotate_left
 ·refine iIn (fun _ => ?_) (fun h => nomatch h)
  refine rPl ?_
  rw[lG hAt fun ds' hd=>by have h1:=hd.1;rw[hqcl,e4]at h1;cases h1]
  rfl
 refine iIn (fun h=>nomatch h) (fun _=>?_)
 have hds:∀ds',X.q.body.cl=some ds'→ds'=ds:=fun ds' h1=>by rw[hqcl,e4]at h1;exact(Option.some.inj h1).symm
 rcases hfd with⟨rfl,hok,rfl⟩|⟨rfl,hok⟩
 rotate_left
 ·refine iIn (fun _ => ?_) (fun h => nomatch h)
  refine rPl ?_
  rw[lG hAt fun ds' hd=>by have h1:=hds ds' hd.1;subst h1;exact hok hd.2.1]
  rfl
 refine iIn (fun h=>nomatch h) (fun _=>?_)
 have hXpg:X.pg p ds=⟨p.rels.set k ⟨r.name,r.arity,LL,cgG (X.ls ds)⟩⟩:=by rw[UnfD.pg,hXe,←hLL]
 have hwP:(X.pg p ds).d.wd:=by
  have hw1:D.wds (p.rels.map Rl.d):=by rw[Pg.d_eq]at hw;exact hw.1
  rw[hXpg,Pg.d_eq]
  refine⟨D.wds_of fun d hd=>?_,trivial⟩
  have w_:=List.mem_map.1 hd
  obtain⟨x,hx,rfl⟩:=w_
  rcases List.mem_or_eq_of_mem_set hx with hx|rfl
  ·exact D.wds_mem hw1 _ (List.mem_map_of_mem hx)
  ·have hrw := (lU hw hr).1
   rw[Rl.d_eq]at hrw ⊢
   refine⟨hrw.1,hrw.2.1,⟨show _≤LL by omega,show LL≤_ by omega⟩,?_,trivial⟩
   refine Gl.wd_mk ⟨show(-9223372036854775808:Int)≤8 by decide,show(8:Int)≤9223372036854775807 by decide⟩ (Nat.zero_le _) (fun x hx=>absurd hx List.not_mem_nil) fun x hx=>?_
   have w_:=List.mem_map.1 (show x∈(X.ls ds).map cgA from hx)
   obtain⟨z,hz,rfl⟩:=w_
   exact Gl.wd_mk ⟨show(-9223372036854775808:Int)≤7 by decide,show(7:Int)≤9223372036854775807 by decide⟩ (Nat.zero_le _) (fun x hx=>absurd hx List.not_mem_nil) fun x hx=>hLw z hz x hx
 refine aS [6] ?_
 intro μ9 hle9 hno9 hat9
 have hfin:=Pg.repS (p:=X.pg p ds) (by rw[hXpg];exact Rows.sl hat9 (hrows5.mono hle9) (Nat.le_trans (m:=100000000) (by omega) (by decide)))
 refine bM (bD hfin hwP) fun v10 μ10 hle10 hR10=>?_
 obtain rfl:=hR10
 refine aL (fun hbad=>?_) (fun hgood=>?_)
 ·refine rPl ?_
  rw[lG hAt fun ds' hd=>by have h1:=hds ds' hd.1;subst h1;exact hbad hd.2.2]
  rfl
 ·refine rPl ?_
  rw[sJ hAt ⟨by rw[hqcl,e4],hok,hgood⟩]
  exact⟨_,rfl,RepV.mono hle10 hfin⟩
theorem nA{p:Pg}{nm:ByteArray}{clause call:Int}{v:Value}(hp:RepV μ p.d v)(hcl:InR call):
  Spec Tryz.prog 36 [v,.string nm,.int .i64 clause,.int .i64 call] μ fun v μ'=>qVn (fun y tv=>Fresh μ μ' y.d tv) ((rR p nm clause call).map Prod.fst) v:=by
 have hp0:=hp
 have w_:=Pg.inv hp
 obtain⟨q,rfl,hrl⟩:=w_
 refine Spec.mk Tryz.func36 (by kernel_rfl) ?_
 intro r4 r8
 refine cPl (lN hp0 hcl) fun v1 μ1 hle1 hR=>?_
 cases e:rR p nm clause call with
 |none=>
  rw[e]at hR
  obtain rfl:=hR
  intro r10
  exact rPl rfl
 |some z=>
  rw[e]at hR
  obtain⟨tv,rfl,hR⟩:=hR
  have w_:=Pg.invV hR.rep
  obtain⟨q1,rfl⟩:=w_
  intro r10
  exact rPl ⟨_,rfl,hR⟩
end
end Go.Vx
namespace Go.Vx
open Go.Proofs Classical
theorem mC{L:List F}{x:F}:x∈lI L↔x∈L:=nY _ _ _
theorem sY{rs:List Ru}{pos neg:List F}{i:Nat}{r:Ru}(h:rs[i]? =some r):fC rs pos neg (i+1)=fC rs pos neg i++(if uB pos neg r then [r.head]else []):=by
 rw[fC,List.take_add_one,h,Option.toList_some,List.filter_append,List.map_append,←fC]
 congr 1
 by_cases k:uB pos neg r<;>simp[k]
theorem qFq(rs:List Ru)(base:List F):(lfp rs base).length≤base.length+rs.length:=by
 rw[lfp]
 refine Nat.le_trans (qCs _ _) (Nat.le_trans (List.length_filter_le _ _) ?_)
 rw[List.length_append,List.length_map]
 exact Nat.le_refl _
section
variable {rs:List Ru} {S out:List F}
theorem RedI.more(h:RedI rs S out)(e:(fY rs out S).length≠out.length):out.length<(fY rs out S).length:=yE cmpF_ord h.asc (mF _ _ _) h.sub e
end
section
variable {rs:List Ru} {base out:List F}
end
theorem nT{rs:List Ru}:∀{n:Nat},(∀m,m<n→fY rs (stF rs m) []≠stF rs m)→n≤(stF rs n).length
 |0,_=>Nat.zero_le _
 |n+1,h=>by
  have ih:=nT (n:=n) fun m hm=>h m (by omega)
  have h1:=(fL rs n).more fun e=>h n (by omega) (yF cmpF_ord (fL rs n).asc (mF rs _ _) (fL rs n).sub e).symm
  have h2:(stF rs (n+1)).length=(fY rs (stF rs n) []).length:=rfl
  omega
section
variable {rs:List Ru} {model B out:List F}
end
end Go.Vx
namespace Go.Vx
open Go.Proofs Classical
open Go.Sort
abbrev FE:=F×Value
theorem qSb:SlTy 29 41 Tryz.t29 Tryz.t41 25:=⟨by kernel_rfl,by kernel_rfl,by kernel_rfl,by kernel_rfl,fun _=>by kernel_rfl,by kernel_rfl⟩
noncomputable def ltF(a b:FE):Bool:=decide (dC a.1 b.1<0)
theorem qOn:SWO ltF:=⟨fun x=>cmpF_ord.swo.irrefl x.1,fun x y z=>cmpF_ord.swo.trans x.1 y.1 z.1,fun x y z=>cmpF_ord.swo.ntrans x.1 y.1 z.1⟩
theorem qCi{S:List F}(hS:∀(a b:Nat) x y,a<b→S[a]? =some x→S[b]? =some y→¬dC y x<0){i:Nat}{e y:F}(hi:S[i+1]? =some e)(hy:S[i]? =some y)(hne:dC y e≠0):∀x∈S.take (i+1),dC x e<0:=by
 have h1:dC y e<0:=cmpF_ord.ge_pos (hS i (i+1) y e (by omega) hy hi) (cmpF_ord.ne_comm hne)
 intro x hx
 have w_:=List.mem_iff_getElem?.1 hx
 obtain⟨t,ht⟩:=w_
 rw[List.getElem?_take]at ht
 split at ht
 ·rename_i hlt
  refine cmpF_ord.le_lt ?_ h1
  rcases Nat.lt_or_ge t i with k|k
  ·exact hS t i x y k ht hy
  ·obtain rfl : t = i := by omega
   rw[hy]at ht;cases ht
   exact cmpF_ord.irrefl _
 ·cases ht
def FElts(μ:Mem)(l:List FE):Prop:=∀p∈l,RepV μ p.1.fc.d p.2
section
variable {μ h0:Mem} {r:Nat} {ty:TypeId} {rest:List Value}
theorem FElts.mono{μ':Mem}{l:List FE}(h:FElts μ l)(hle:μ.Le μ'):FElts μ' l:=fun p hp=>RepV.mono hle (h p hp)
theorem FElts.perm{l m:List FE}(h:FElts μ l)(p:m.Perm l):FElts μ m:=fun q hq=>h q (p.mem_iff.1 hq)
theorem FElts.els{d:Array FE}(h:FElts μ d.toList):Els 2 (d.map Prod.snd):=fun x hx=>by
 simp only[Array.toList_map,List.mem_map]at hx
 obtain⟨p,hp,rfl⟩:=hx
 have w_:=F.inv (h p hp)
 obtain⟨q,e,_⟩:=w_
 rw[e]
 exact⟨rfl,fun u hu=>by simp only[aD,List.mem_cons,List.not_mem_nil,or_false]at hu;rcases hu with rfl|rfl<;>rfl⟩
theorem FElts.at{d:Array FE}{n:Nat}(h:FElts μ d.toList)(hn:d.size=n){i:Nat}(hi:i<n):∃p:Fc.P,d[i]!.2= .agg (d[i]!.1.cs p).toArray∧RepV μ d[i]!.1.fc.d (.agg (d[i]!.1.cs p).toArray):=by
 have hm:d[i]!∈d.toList:=by
  rw[getElem!_pos d i (by omega)]
  exact Array.getElem_mem_toList _
 have hv:=h _ hm
 have w_:=F.inv hv
 obtain⟨p,e,_⟩:=w_
 rw[e]at hv
 exact⟨p,e,hv⟩
theorem rdO{h:Mem}{b:Nat}{d:Array Value}{i:Nat}{x y:Value}{K:List Value→Prop}(hb:h b=some (.cells (List.toArray (d.toList.flatMap aD++rest)) ty (0,0)))(hE:Els 2 d)(hi:i<d.size)(e:d[i]! = .agg #[x,y])(k:K [x,y]):extVC μ h ⟨b,i*2,none⟩ 2 K:=by
 have hh:RowV h b ty rest d=h:=funext fun k=>by
  rw[RowV]
  by_cases e:k=b
  ·subst e;rw[Mem.set_at,hb]
  ·rw[Mem.set_ne e]
 refine oIn [x,y] rfl (fun j z hz=>?_) k
 rw[Addr.add_lit']
 rw[←hh]
 refine RowV.cell hE hi ?_
 rw[e]
 exact hz
theorem tZ{rs n cap i j:Nat}{d:Array FE}(hs:h0 rs=some (.cells #[.slice (some ⟨r,0,none⟩) n cap] 29 (0,0)))(hne:rs≠r)(hP:FElts μ d.toList)(hn:d.size=n)(hi:i<n)(hj:j<n):
  SpecH Tryz.prog 134 [.int .i64 i,.int .i64 j,.pointer (some ⟨rs,0,none⟩)] μ (RowV h0 r ty rest (d.map Prod.snd)) fun v μ' h'=>v= .bool (ltF d[i]! d[j]!)∧μ'=μ∧h'=RowV h0 r ty rest (d.map Prod.snd):=by
 have hrs:RowV h0 r ty rest (d.map Prod.snd) rs=some (.cells #[.slice (some ⟨r,0,none⟩) n cap] 29 (0,0)):=(Mem.set_ne hne).trans hs
 have hb:RowV h0 r ty rest (d.map Prod.snd) r=some (.cells (List.toArray ((d.map Prod.snd).toList.flatMap aD++rest)) ty (0,0)):=Mem.set_at _ _ _
 have w_:=hP.at hn hi
 obtain⟨p,e1,hs1⟩:=w_
 have w_:=hP.at hn hj
 obtain⟨q,e2,hs2⟩:=w_
 refine SpecH.mk [] Tryz.func134 (by kernel_rfl) ?_
 refine oIn [.slice (some ⟨r,0,none⟩) n cap] rfl (bJ hrs) ?_
 refine rX i rfl hi ?_
 refine rdO hb hP.els (by simpa[hn]using hi) ((oD (by omega)).trans e1) ?_
 refine oIn [.slice (some ⟨r,0,none⟩) n cap] rfl (bJ hrs) ?_
 refine rX j rfl hj ?_
 refine rdO hb hP.els (by simpa[hn]using hj) ((oD (by omega)).trans e2) ?_
 refine cGv (dD hs1 hs2) ?_
 exact rPl ⟨rfl,rfl,rfl⟩
end
def qQx(μ μ':Mem)(ys:List Value)(v:Value):Prop:=∃b c,∃g:Mem,v= .slice (some ⟨b,0,none⟩) ys.length c∧RowO g b c 41 2 ys∧g.Le μ'∧∀x,g x≠none→μ x=none
theorem qRf{d:Array FE}{n i:Nat}(hn:d.size=n)(hi:i<n):(d.toList.map Prod.fst)[i]? =some d[i]!.1:=by
 rw[List.getElem?_map,getElem!_pos d i (by omega),Array.getElem?_toList,Array.getElem?_eq_getElem (by omega)]
 rfl
section
variable {μ:Mem}
set_option maxHeartbeats 8000000 in
theorem wI{l:List FE}{base:Option Addr}{cap:Nat}(hsrc:lW μ base l.length 2 (l.map Prod.snd))(hE:FElts μ l)(hn:l.length≤100000000):
  Spec Tryz.prog 63 [.slice base l.length cap] μ fun v μ'=>∃l':List FE,(∃dl:List FE,dl.Perm l∧l'.Sublist dl)∧l'.map Prod.fst=lI (l.map Prod.fst)∧qQx μ μ' (l'.map Prod.snd) v:=by
 generalize hvs:l.map Prod.snd=vs at hsrc
 have hvl:vs.length=l.length:=by rw[←hvs,List.length_map]
 refine Spec.mkO [3,7,14] Tryz.func63 (by kernel_rfl) ?_
 intro r22 hm22 ho22
 refine aJ _ hsrc ?_
 refine fM [] rfl ⟨[],Mem.set_at _ _ _,by simp,by simp,by simp,rfl,rfl⟩ ?_ ?_ fun b c o hrow hor=>?_
 ·show(0+_)*40≤_;omega
 ·exact Nat.le_trans (m:=2000000000) (by omega) (by decide)
 generalize hH1:Mem.set (Mem.set _ r22 _) b o=H1
 have hB1:RowO H1 b c 41 2 vs:=by rw[←hH1];exact hrow
 have hap1:Apart μ H1:=by
  rw[←hH1]
  refine((eA μ).set hm22).set ?_
  rcases hor with rfl|h
  ·exact hm22
  ·exact h.2
 clear hrow hor hH1 hm22 ho22
 have hN:0+vs.length=l.length:=by omega
 rw[hN]
 intro r5 hm5 ho5
 refine sIn [.slice none 0 0] 29 (Mem.set_at _ _ _) rfl (Nat.le_refl _) ?_
 obtain⟨cs,hcell,hlen0,hcap,hone,hcs,htake⟩:=hB1
 obtain⟨rest,rfl⟩:∃rest,cs=vs.flatMap aD++rest:=by
  refine⟨cs.drop (vs.length*2),?_⟩
  conv=>lhs;rw[←List.take_append_drop (vs.length*2) cs,htake]
 have hne:r5≠b:=fun e=>by
  have h5:H1 r5=none:=ho5
  rw[e,hcell]at h5;cases h5
 obtain⟨h0,hh0,hsplit⟩:∃h0:Mem,h0 r5=some (.cells #[.slice (some ⟨b,0,none⟩) l.length c] 29 (0,0))∧((H1.set r5 (.cells #[.slice none 0 0] 29 (0,0))).set r5 (.cells #[.slice (some ⟨b,0,none⟩) l.length c] 29 (0,0)))=RowV h0 b 41 rest vs.toArray:=by
  refine⟨fun k=>if k=b then none else((H1.set r5 (.cells #[.slice none 0 0] 29 (0,0))).set r5 (.cells #[.slice (some ⟨b,0,none⟩) l.length c] 29 (0,0))) k,by simp only[if_neg hne];exact Mem.set_at _ _ _,funext fun k=>?_⟩
  rw[RowV]
  by_cases e:k=b
  ·subst e;rw[Mem.set_ne (Ne.symm hne),Mem.set_ne (Ne.symm hne),hcell,Mem.set_at]
  ·conv => rhs; rw [Mem.set_ne e]
   rw[if_neg e]
 have hap2:Apart μ (RowV h0 b 41 rest vs.toArray):=by
  rw[←hsplit]
  exact(hap1.set hm5).set hm5
 have ea:vs.toArray=l.toArray.map Prod.snd:=by simp[hvs]
 have hzn:l.toArray.size=l.length:=by simp
 have hspec:=tS (μ:=μ) (h0:=h0) (r:=b) (ty:=41) (rest:=rest) (cap:=c) (d0:=l.toArray) (lf:=134) (lb:=[.pointer (some ⟨r5,0,none⟩)]) (enc:=Prod.snd) qSb (ttok.get rfl) (fun h=>nomatch h) (FElts.els (μ:=μ) (by simpa using hE)) hzn (by omega) qOn
  fun {μ' d i j} hle' hV hi hj=>tZ hh0 hne (FElts.perm (FElts.mono (by simpa using hE) hle') (tJ hzn hV)) (hV.1.trans hzn) hi hj
 rw[←ea,←hsplit]at hspec
 refine oIn [.slice (some ⟨b,0,none⟩) l.length c] rfl (bJ (Mem.set_at _ _ _)) ?_
 refine cOw hspec fun v μ2 h2 hle2 hap3 hR=>?_
 obtain⟨rfl,d',p1,p2,rfl⟩:=hR
 have hdn:d'.size=l.length:=p1.1.trans hzn
 have hpd:d'.toList.Perm l:=by simpa using tJ hzn p1
 have hP2:FElts μ2 d'.toList:=FElts.perm (hE.mono hle2) hpd
 generalize hS:d'.toList.map Prod.fst=S
 have hSp:S.Perm (l.map Prod.fst):=by rw[←hS];exact hpd.map _
 have hSl:S.length=l.length:=by rw[hSp.length_eq,List.length_map]
 have hSat:∀i,i<l.length→S[i]? =some d'[i]!.1:=fun i hi=>by rw[←hS];exact qRf hdn hi
 have hSS:∀(a b:Nat) x y,a<b→S[a]? =some x→S[b]? =some y→¬dC y x<0:=fun a b' x y hab hx hy=>by
  have hb':=(List.getElem?_eq_some_iff.1 hy).1
  have h3:=p2 a b' (Nat.zero_le _) hab (by omega)
  have h4:=hSat a (by omega)
  have h5:=hSat b' (by omega)
  rw[hx]at h4;rw[hy]at h5
  cases h4;cases h5
  simpa[ltF]using h3
 have hrs:RowV h0 b 41 rest (d'.map Prod.snd) r5=some (.cells #[.slice (some ⟨b,0,none⟩) l.length c] 29 (0,0)):=(Mem.set_ne hne).trans hh0
 have hbb:RowV h0 b 41 rest (d'.map Prod.snd) b=some (.cells (List.toArray ((d'.map Prod.snd).toList.flatMap aD++rest)) 41 (0,0)):=Mem.set_at _ _ _
 clear hspec hsplit hcell hap2 ho5 hm5 hap1 p1 ea htake hcs hone hcap hlen0 hh0
 generalize hHH:RowV h0 b 41 rest (d'.map Prod.snd)=HH at*
 clear hHH
 intro r14 hm14 ho14
 have hr5:r5≠r14:=fun e=>by
  have h5:HH r14=none:=ho14
  rw[←e,hrs]at h5;cases h5
 have hrb:b≠r14:=fun e=>by
  have h5:HH r14=none:=ho14
  rw[←e,hbb]at h5;cases h5
 have hrs0:∀o,(HH.set r14 o) r5=some (.cells #[.slice (some ⟨b,0,none⟩) l.length c] 29 (0,0)):=fun o=>(Mem.set_ne hr5).trans hrs
 have hbb0:∀o,(HH.set r14 o) b=some (.cells (List.toArray ((d'.map Prod.snd).toList.flatMap aD++rest)) 41 (0,0)):=fun o=>(Mem.set_ne hrb).trans hbb
 refine oIn [.slice (some ⟨b,0,none⟩) l.length c] rfl (bJ (hrs0 _)) ?_
 refine lIn (fun p:Nat×Nat×Nat×List FE×Mem=>p.1≤l.length∧RowO p.2.2.2.2 p.2.1 p.2.2.1 41 2 (p.2.2.2.1.map Prod.snd)∧Apart μ2 p.2.2.2.2∧p.2.1≠r5∧p.2.1≠b∧p.2.2.2.2 r5=some (.cells #[.slice (some ⟨b,0,none⟩) l.length c] 29 (0,0))∧p.2.2.2.2 b=some (.cells (List.toArray ((d'.map Prod.snd).toList.flatMap aD++rest)) 41 (0,0))∧
   Asc3 dC (p.2.2.2.1.map Prod.fst)∧p.2.2.2.1.length≤p.1∧(∀x,x∈p.2.2.2.1.map Prod.fst↔x∈S.take p.1)∧p.2.2.2.1.Sublist (d'.toList.take p.1))
  (fun(i,b',c',acc,h)=>⟨[(3,.val (.pointer (some ⟨r5,0,none⟩))),(4,.val (.slice (some ⟨b',0,none⟩) acc.length c')),(15,.val (.slice (some ⟨b,0,none⟩) l.length c)),(16,.val (.int .i64 l.length)),(17,.val (.int .i64 i))],[],0,μ2,h⟩) (fun p=>l.length-p.1)
  (0,r14,0,[],_) ⟨Nat.zero_le _,⟨[],Mem.set_at _ _ _,by simp,by simp,by simp,rfl,rfl⟩,hap3.set hm14,hr5.symm,hrb.symm,hrs0 _,hbb0 _,List.Pairwise.nil,Nat.le_refl _,by simp,by simp⟩ (fun(_,_,_,_,_)=>⟨rfl,rfl⟩) ⟨⟨rfl,rfl,rfl,rfl,rfl,trivial⟩,trivial,rfl,rfl⟩ ?_
 clear hrs0 hbb0 hrs hbb hap3 ho14 hm14 hr5 hrb
 rintro⟨i,b',c',acc,h⟩ ⟨hi,hro,hap,hn5,hnb,hrs,hbb,hasc,hlen,hmem,hsub⟩
 dsimp only at hi hro hap hn5 hnb hrs hbb hasc hlen hmem hsub
 refine ifd (fun hlt=>?_) (fun hlt=>?_)
 rotate_left
 ·obtain rfl : i = l.length := by omega
  rw[←hSl,List.take_length]at hmem
  refine cG _ Mem.nil (Parts.nil_right _) ?_
  refine⟨acc,⟨d'.toList,hpd,hsub.trans (List.take_sublist _ _)⟩,Asc3.uniq cmpF_ord hasc (qR _) fun x=>by rw[hmem,mC,hSp.mem_iff],?_⟩
  have hro0:=hro
  obtain⟨cs,hcell,hrest⟩:=hro
  refine⟨b',c',Mem.nil.set b' (.cells cs.toArray 41 (0,0)),by rw[List.length_map],⟨cs,Mem.set_at _ _ _,hrest⟩,fun x o hx=>?_,fun x hx=>?_⟩
  ·by_cases e : x = b'
   ·subst e
    rw[Mem.set_at]at hx
    rw[←hx,←hcell]
    exact(Mem.le_join_right hap) _ _ hcell |>.trans hcell.symm
   ·rw[Mem.set_ne e]at hx;cases hx
  ·by_cases e : x = b'
   ·subst e
    have h6:μ2 x=none:=hap.symm x (by rw[hcell];simp)
    cases e2:μ x with
    |none=>rfl
    |some o=>have h7:μ2 x=some o:=hle2 x o e2;rw[h6]at h7;cases h7
   ·rw[Mem.set_ne e]at hx;exact absurd rfl hx
 have hlt:i<l.length:=by omega
 have w_:=hP2.at hdn hlt
 obtain⟨p,ee,hre⟩:=w_
 have hei:=hSat i hlt
 have hdi:d'.toList[i]? =some d'[i]!:=by rw[getElem!_pos d' i (by omega),Array.getElem?_toList,Array.getElem?_eq_getElem (by omega)]
 have htk:∀x,x∈S.take (i+1)↔x∈S.take i∨x=d'[i]!.1:=fun x=>by
  rw[List.take_add_one,hei,Option.toList_some,List.mem_append,List.mem_singleton]
 refine rX i rfl hlt ?_
 refine rdO hbb hP2.els (by simpa[hdn]using hlt) ((oD (by omega)).trans ee) ?_
 intro r6
 have hnext:(∀x∈S.take i,dC x d'[i]!.1<0)→Asc3 dC ((acc++[d'[i]!]).map Prod.fst)∧(∀x,x∈(acc++[d'[i]!]).map Prod.fst↔x∈S.take (i+1)):=fun hnew=>by
  rw[List.map_append,List.map_cons,List.map_nil]
  refine⟨?_,fun x=>?_⟩
  ·rw [Asc3, List.pairwise_append]
   exact⟨hasc,List.pairwise_singleton _ _,fun x hx y hy=>by rw[List.mem_singleton.1 hy];exact hnew x ((hmem x).1 hx)⟩
  ·rw[List.mem_append,List.mem_singleton,hmem,htk]
 refine ifd (fun h0=>?_) (fun h0=>?_)
 ·have hnew : ∀ x ∈ S.take i, dC x d'[i]!.1 < 0 := by rw [show i = 0 by omega]; simp
  intro r36
  refine fM _ (List.length_map ..) hro ?_ ?_ fun b9 c9 o hrow hor=>?_
  ·show(acc.length+1)*40≤_;omega
  ·exact Nat.le_trans (m:=2000000000) (show acc.length+1≤_ by omega) (by decide)
  have hn:=hnext hnew
  have h9:b9≠r5∧b9≠b:=by
   rcases hor with rfl|h9
   ·exact⟨hn5,hnb⟩
   ·have h91 : h b9 = none := h9.1
    refine⟨fun e=>?_,fun e=>?_⟩
    ·rw[e,hrs]at h91;cases h91
    ·rw[e,hbb]at h91;cases h91
  refine aB (by omega) (by omega) ⟨(i+1,b9,c9,acc++[d'[i]!],_),⟨by dsimp only;omega,?_,hap.set (kA hro hap hor),h9.1,h9.2,(Mem.set_ne h9.1.symm).trans hrs,(Mem.set_ne h9.2.symm).trans hbb,hn.1,by dsimp only;rw[List.length_append];simp;omega,hn.2,?_⟩,by dsimp only;omega,⟨⟨rfl,?_,rfl,rfl,rfl,trivial⟩,trivial,rfl,rfl⟩⟩
  ·dsimp only
   rw[List.map_append,List.map_cons,List.map_nil,ee]
   exact hrow
  ·dsimp only
   rw[List.take_add_one,hdi,Option.toList_some]
   exact hsub.append (List.Sublist.refl _)
  ·dsimp only;rw[List.length_append];rfl
 ·obtain ⟨i, rfl⟩ : ∃ k, i = k + 1 := ⟨i - 1, by omega⟩
  have hit2:i<l.length:=by omega
  have w_:=hP2.at hdn hit2
  obtain⟨q,eq,hsq⟩:=w_
  have hqi:=hSat i hit2
  refine oIn [.slice (some ⟨b,0,none⟩) l.length c] rfl (bJ hrs) ?_
  refine nEq (x:=(i:Int)) (by rw[aA (by omega) (by omega)];omega) ?_
  refine rX i rfl hit2 ?_
  refine rdO hbb hP2.els (by simpa[hdn]using hit2) ((oD (by omega)).trans eq) ?_
  refine cGv (dD hsq hre) ?_
  refine aL (fun hc=>?_) (fun hc=>?_)
  ·have hnew : ∀ x ∈ S.take (i + 1), dC x d'[i + 1]!.1 < 0 := qCi hSS hei hqi hc
   generalize i+1=i at*
   intro r36
   refine fM _ (List.length_map ..) hro ?_ ?_ fun b9 c9 o hrow hor=>?_
   ·show(acc.length+1)*40≤_;omega
   ·exact Nat.le_trans (m:=2000000000) (show acc.length+1≤_ by omega) (by decide)
   have hn:=hnext hnew
   have h9:b9≠r5∧b9≠b:=by
    rcases hor with rfl|h9
    ·exact⟨hn5,hnb⟩
    ·have h91 : h b9 = none := h9.1
     refine⟨fun e=>?_,fun e=>?_⟩
     ·rw[e,hrs]at h91;cases h91
     ·rw[e,hbb]at h91;cases h91
   refine aB (by omega) (by omega) ⟨(i+1,b9,c9,acc++[d'[i]!],_),⟨by dsimp only;omega,?_,hap.set (kA hro hap hor),h9.1,h9.2,(Mem.set_ne h9.1.symm).trans hrs,(Mem.set_ne h9.2.symm).trans hbb,hn.1,by dsimp only;rw[List.length_append];simp;omega,hn.2,?_⟩,by dsimp only;omega,⟨⟨rfl,?_,rfl,rfl,rfl,trivial⟩,trivial,rfl,rfl⟩⟩
   ·dsimp only
    rw[List.map_append,List.map_cons,List.map_nil,ee]
    exact hrow
   ·dsimp only
    rw[List.take_add_one,hdi,Option.toList_some]
    exact hsub.append (List.Sublist.refl _)
   ·dsimp only;rw[List.length_append];rfl
  ·refine aB (by omega) (by omega) ⟨(i + 1 + 1, b', c', acc, h), ⟨by dsimp only; omega, hro, hap, hn5, hnb, hrs, hbb, hasc, by dsimp only; omega, fun x => ?_, hsub.trans (by rw [List.take_add_one (i := i + 1)]; exact List.sublist_append_left _ _)⟩, by dsimp only; omega, ⟨⟨rfl, rfl, rfl, rfl, rfl, trivial⟩, trivial, rfl, rfl⟩⟩
   dsimp only
   rw[hmem,htk,←(cmpF_ord.zero _ _).1 hc,List.take_add_one,hqi]
   simp
theorem qJk{l l':List FE}(h:∃dl:List FE,dl.Perm l∧l'.Sublist dl):∀p∈l',p∈l:=fun p hp=>by
 obtain⟨dl,h1,h2⟩:=h
 exact h1.mem_iff.1 (h2.subset hp)
theorem FElts.zip:∀{L:List F} {vs:List Value},Rows μ 2 ((L.map F.fc).map Fc.d) vs→FElts μ (L.zip vs)
 |[],_,_=>fun p hp=>by simp at hp
 |x::L,_,.cons h _ r=>fun p hp=>by
  rcases List.mem_cons.1 hp with rfl|hp
  ·exact h
  ·exact FElts.zip r p hp
theorem FElts.rows:∀{l:List FE},FElts μ l→Rows μ 2 (((l.map Prod.fst).map F.fc).map Fc.d) (l.map Prod.snd)
 |[],_=> .nil
 |p::l,h=> .cons (h p (by simp)) (Fc.d_n _) (FElts.rows fun q hq=>h q (List.mem_cons_of_mem _ hq))
theorem qOv{L:List F}{vs:List Value}(h:L.length=vs.length):(L.zip vs).map Prod.fst=L:=List.map_fst_zip (by omega)
theorem qOw{L:List F}{vs:List Value}(h:L.length=vs.length):(L.zip vs).map Prod.snd=vs:=List.map_snd_zip (by omega)
theorem qKv{L:List F}{v:Value}(h:FsV μ L v)(hn:L.length≤100000000):
  Spec Tryz.prog 63 [v] μ fun v μ'=>FsV μ' (lI L) v:=by
 have w_:=FsV.sl h
 obtain⟨b,c,rfl,hlc,hs⟩:=w_
 have w_:=Rep.srcAll h
 obtain⟨vs,hrows,hvl,hsrc⟩:=w_
 have hE:=FElts.zip hrows
 have hl:(L.zip vs).length=L.length:=by rw[List.length_zip];omega
 have:=wI (l:=L.zip vs) (base:=b) (cap:=c) (by rw[hl,qOw (by omega)];exact hsrc) hE (by omega)
 rw[hl]at this
 refine this.weaken fun v μ' hle hR=>?_
 obtain⟨l',h1,h2,bb,cc,g,rfl,hro,hg,_⟩:=hR
 replace h1:=qJk h1
 have hE':FElts μ' l':=fun p hp=>RepV.mono hle (hE p (h1 p hp))
 rw[qOv (by omega)]at h2
 have:=hro.rep hg hE'.rows
 rw[h2]at this
 exact this
end
end Go.Vx
namespace Go.Vx
open Go.Proofs Classical
theorem qCr{L:List F}(h:Asc3 dC L){i j:Nat}{x y:F}(hij:i<j)(hx:L[i]? =some x)(hy:L[j]? =some y):dC x y<0:=by
 have w_:=List.getElem?_eq_some_iff.1 hx
 obtain⟨h1,rfl⟩:=w_
 have w_:=List.getElem?_eq_some_iff.1 hy
 obtain⟨h2,rfl⟩:=w_
 exact List.pairwise_iff_getElem.1 h i j h1 h2 hij
def qBc(L:List F)(f:F)(i:Int):Prop:=∃x,L[i.toNat]? =some x∧0≤dC x f
section
variable {μ:Mem}
theorem qEy{r:Nat}{x y:Value}{ty:TypeId}(h:μ r=some (.cells #[x,y] ty (0,0))):∀j v,[x,y][j]? =some v→μ.cell ((⟨r,0,none⟩:Addr).add j)=some v:=fun j v hj=>by
 match j,hj with
 |0,hj=>cases hj;simp[Mem.cell,Addr.add_lit',h]
 |1,hj=>cases hj;simp[Mem.cell,Addr.add_lit',h]
theorem xO{L:List F}{f:F}{b:Option Addr}{c i r1 r2:Nat}{p:Fc.P}(hs:Sl μ 2 b L.length ((L.map F.fc).map Fc.d))(hf:RepV μ f.fc.d (.agg #[.string f.rel,.slice p.1 f.args.length p.2]))
  (h1:μ r1=some (.cells #[.slice b L.length c] 29 (0,0))) (h2:μ r2=some (.cells #[.string f.rel,.slice p.1 f.args.length p.2] 41 (0,0))) (hi:i<L.length):
  aM Tryz.prog 136 [.int .i64 i,.pointer (some ⟨r1,0,none⟩),.pointer (some ⟨r2,0,none⟩)] μ (.bool (decide (qBc L f i))):=by
 have w_:=aSo (l:=L) (i:=i) hi
 obtain⟨x,hx⟩:=w_
 have w_:=F.elem hs hx
 obtain⟨ad,q,hel,hrx,_⟩:=w_
 refine Spec.mk Tryz.func136 (by kernel_rfl) ?_
 refine bN [.slice b L.length c] rfl (bJ h1) ?_
 refine eIn hel ?_
 refine bN [.string f.rel,.slice p.1 f.args.length p.2] rfl (qEy h2) ?_
 refine cGv (dD hrx hf) ?_
 refine rGv (isI ?_) rfl
 constructor
 ·intro h;exact⟨x,hx,h⟩
 ·rintro ⟨y, hy, h⟩
  have hy:L[i]? =some y:=hy
  rw[hx]at hy;cases hy;exact h
theorem uE{L:List F}{f:F}{b:Option Addr}{c:Nat}{w:Value}(hL:Asc3 dC L)(hn:L.length≤1000000000)(hs:Sl μ 2 b L.length ((L.map F.fc).map Fc.d))(hf:RepV μ f.fc.d w):
  aM Tryz.prog 64 [.slice b L.length c,w] μ (.bool (decide (f∈L))):=by
 have hf0:=hf
 have w_:=F.inv hf
 obtain⟨p,rfl,hfs⟩:=w_
 refine Spec.forget (Spec.mk Tryz.func64 (by kernel_rfl) ?_)
 intro r1 r2
 refine aS [0,1] ?_
 intro μ1 hle1 hno1 hat1 μ2 hle2 hno2 hat2
 have hs2:=(hs.mono hle1).mono hle2
 have hf2:=(hf0.mono hle1).mono hle2
 have e1:μ2 r1=some (.cells #[.slice b L.length c] 29 (0,0)):=hle2 _ _ hat1
 refine bM (qAv (p:=qBc L f) hn fun i hi=>xO hs2 hf2 e1 hat2 hi) fun v μ3 hle3 hR=>?_
 obtain⟨⟨i,rfl,g1,g2,g3⟩,rfl⟩:=hR
 have low:∀(j:Nat),j<i→L[j]?≠some f:=fun j hj hb=>by
  have w_:=aSo (l:=L) (i:=i-1) (by omega)
  obtain⟨y,hy⟩:=w_
  refine g3 (i-1) (by omega) ⟨y,hy,?_⟩
  rcases Nat.lt_or_ge j (i-1)with h|h
  ·have := qCr hL h hb hy
   have:=(cmpF_ord.anti f y).1 this
   omega
  ·obtain rfl : j = i - 1 := by omega
   rw[hb]at hy;cases hy
   have:=(cmpF_ord.zero f f).2 rfl
   omega
 have none:(∀x,L[i]? =some x→dC x f≠0)→f∉L:=fun h hm=>by
  have w_:=List.mem_iff_getElem?.1 hm
  obtain⟨j,hj⟩:=w_
  rcases Nat.lt_or_ge j i with h1|h1
  ·exact low j h1 hj
  ·have hjl := (List.getElem?_eq_some_iff.1 hj).1
   have w_:=aSo (l:=L) (i:=i) (by omega)
   obtain⟨x,hx⟩:=w_
   have w_:=g2 (by omega)
   obtain⟨x',hx',h2⟩:=w_
   have hx':L[i]? =some x':=hx'
   rw[hx]at hx';cases hx'
   have h4:=h x hx
   rcases Nat.eq_or_lt_of_le h1 with h3|h3
   ·subst h3;rw[hj]at hx;cases hx;exact h4 ((cmpF_ord.zero f f).2 rfl)
   ·have:=qCr hL h3 hx hj;omega
 refine bN [.slice b L.length c] rfl (bJ e1) ?_
 refine ifd (fun h=>?_) (fun h=>?_)
 ·have w_ := aSo (l := L) (i := i) (by omega)
  obtain⟨x,hx⟩:=w_
  have w_:=F.elem hs2 hx
  obtain⟨ad,q,hel,hrx,_⟩:=w_
  refine bN [.slice b L.length c] rfl (bJ e1) ?_
  refine eIn hel ?_
  refine bN [.string f.rel,.slice p.1 f.args.length p.2] rfl (qEy hat2) ?_
  refine cGv (dD hrx hf2) ?_
  refine rPl (isI ?_)
  constructor
  ·intro e;rw[←(cmpF_ord.zero _ _).1 e];exact mAt hx
  ·intro hm
   refine Classical.byContradiction fun k=>none (fun y hy=>?_) hm
   rw[hx]at hy;cases hy;exact k
 ·refine rPl (isF (none fun x hx => ?_))
  have:=(List.getElem?_eq_some_iff.1 hx).1
  omega
theorem qKs{L M:List F}{b b2:Option Addr}{c c2:Nat}(hs:Sl μ 2 b L.length ((L.map F.fc).map Fc.d))(hs2:Sl μ 2 b2 M.length ((M.map F.fc).map Fc.d)):
  aM Tryz.prog 67 [.slice b L.length c,.slice b2 M.length c2] μ (.bool (decide (L=M))):=by
 have hm1:=aH hs.max
 refine Spec.mk Tryz.func67 (by kernel_rfl) ?_
 refine aL (fun h=>rGv (isF fun k=>h (by rw[k])) rfl) (fun he=>?_)
 refine lIn (fun k:Nat=>k≤L.length∧∀j,j<k→L[j]? =M[j]?)
  (fun k=>⟨[(0,.val (.slice b L.length c)),(1,.val (.slice b2 M.length c2)),(12,.val (.int .i64 L.length)),(13,.val (.int .i64 k))],[],0,μ,Mem.nil⟩) (fun k=>L.length-k)
  0 ⟨Nat.zero_le _,fun j h=>by omega⟩ (fun _=>⟨rfl,rfl⟩) ⟨⟨rfl,rfl,rfl,rfl,trivial⟩,trivial,rfl,rfl⟩ ?_
 rintro k ⟨hk,hall⟩
 refine ifd (fun hlt=>?_) (fun hlt=>?_)
 ·have w_ := aSo (l := L) (i := k) (by omega)
  obtain⟨x,hx⟩:=w_
  have w_:=aSo (l:=M) (i:=k) (by omega)
  obtain⟨y,hy⟩:=w_
  have w_:=F.elem hs hx
  obtain⟨ad,q,hel,hrx,_⟩:=w_
  have w_:=F.elem hs2 hy
  obtain⟨ad2,q2,hel2,hry,_⟩:=w_
  refine eIn hel (eIn hel2 ?_)
  refine cGv (dD hrx hry) ?_
  refine aL (fun h=>rGv (isF fun e=>h ?_) rfl) (fun h=>?_)
  ·subst e
   rw[hx]at hy;cases hy
   exact(cmpF_ord.zero _ _).2 rfl
  ·refine aB (by omega) (by omega) ⟨k + 1, ⟨by omega, fun j hj => ?_⟩, by omega, ⟨⟨rfl, rfl, rfl, rfl, trivial⟩, trivial, rfl, rfl⟩⟩
   rcases Nat.lt_or_ge j k with h6|h6
   ·exact hall j h6
   ·obtain rfl : j = k := by omega
    rw[hx,hy,(cmpF_ord.zero _ _).1 h]
 ·obtain rfl : k = L.length := by omega
  refine rGv (isT (List.ext_getElem? fun j=>?_)) rfl
  rcases Nat.lt_or_ge j L.length with h6|h6
  ·exact hall j h6
  ·rw[List.getElem?_eq_none h6,List.getElem?_eq_none (by omega)]
end
theorem qPb{α:Type}{l:List α}{j:Nat}{x:α}{P:α→Prop}(h:l[j]? =some x):(∀y∈l.take (j+1),P y)↔(∀y∈l.take j,P y)∧P x:=by
 rw[List.take_add_one,h,Option.toList_some]
 constructor
 ·exact fun k=>⟨fun y hy=>k y (List.mem_append_left _ hy),k x (by simp)⟩
 ·rintro ⟨h1, h2⟩ y hy
  rcases List.mem_append.1 hy with k|k
  ·exact h1 y k
  ·rw[List.mem_singleton.1 k];exact h2
section
variable {μ:Mem}
set_option maxHeartbeats 1000000 in
theorem qFf{rs:List Ru}{S:List F}{b b3:Option Addr}{c c3:Nat}(hr:Sl μ 6 b3 rs.length ((rs.map Ru.rd).map RuD.d))(hn:rs.length≤10000000)(hS:Asc3 dC S)(hSn:S.length≤1000000000)(hs:Sl μ 2 b S.length ((S.map F.fc).map Fc.d)):
  Spec Tryz.prog 132 [.slice b3 rs.length c3,.slice b S.length c] μ fun r μ'=>FsV μ' (fY rs S S) r:=by
 refine Spec.mk Tryz.func132 (by kernel_rfl) ?_
 intro r13
 refine lIn (fun z:Nat×Option Nat×Nat×List Value=>z.1≤rs.length∧Rows μ 2 (((fC rs S S z.1).map F.fc).map Fc.d) z.2.2.2)
  (fun(i,bo,co,ys)=>⟨[(1,.val (.slice b S.length c)),(5,.row 0 bo ys.length co),(14,.val (.slice b3 rs.length c3)),(15,.val (.int .i64 rs.length)),(16,.val (.int .i64 i))],[(0,some (.row bo co 41 2 ys))],1,μ,Mem.nil⟩) (fun z=>rs.length-z.1)
  (0,some r13,0,[]) ⟨Nat.zero_le _,by simpa[fC]using .nil⟩ (fun(_,_,_,_)=>⟨rfl,rfl⟩) ⟨⟨rfl,rfl,rfl,rfl,rfl,trivial⟩,⟨rfl,trivial⟩,rfl,rfl⟩ ?_
 rintro⟨i,bo,co,ys⟩ ⟨hi,hrows⟩
 dsimp only at hi hrows
 have hyl:=hrows.len
 simp only[List.length_map]at hyl
 have hhl:=zT rs S S i
 refine ifd (fun hlt=>?_) (fun hlt=>?_)
 rotate_left
 ·obtain rfl : i = rs.length := by omega
  refine aS [0] ?_
  intro μ1 hle1 hno1 hat1
  have hrep:=Rows.sl hat1 (hrows.mono hle1) (Nat.le_trans (m:=100000000) (by omega) (by decide))
  refine bM (qKv hrep (by omega)) fun v μ2 hle2 hR=>?_
  rw[zS]at hR
  exact rPl hR
 have w_:=aSo (l:=rs) (i:=i) (by omega)
 obtain⟨r,hri⟩:=w_
 have w_:=Ru.elem hr hri
 obtain⟨ad,p,hel,hrv,hat⟩:=w_
 have hsucc:=sY (pos:=S) (neg:=S) hri
 refine eIn hel ?_
 intro r7
 have hmp:=aH hat.pos.max
 have hmn:=aH hat.neg.max
 refine lIn (fun z:Nat×Bool=>z.1≤r.pos.length∧(z.2=true↔∀f∈r.pos.take z.1,f∈S))
  (fun (j, fine) => ⟨[(1, .val (.slice b S.length c)), (5, .row 0 bo ys.length co), (7, .loc 1 r7 0), (8, .val (.bool fine)), (14, .val (.slice b3 rs.length c3)), (15, .val (.int .i64 rs.length)), (16, .val (.int .i64 i)), (21, .val (.slice p.2.2.1.1 r.pos.length p.2.2.1.2)), (22, .val (.int .i64 r.pos.length)), (23, .val (.int .i64 j))],
   [(0,some (.row bo co 41 2 ys)),(1,some (.cells r7 (vals (r.cs p)) 106))],2,μ,Mem.nil⟩) (fun z=>r.pos.length-z.1)
  (0,true) ⟨Nat.zero_le _,by simp⟩ (fun(_,_)=>⟨rfl,rfl⟩) ⟨⟨rfl,rfl,rfl,rfl,rfl,rfl,rfl,rfl,rfl,rfl,trivial⟩,⟨rfl,rfl,trivial⟩,rfl,rfl⟩ ?_
 rintro⟨j,fine⟩ ⟨hj,hfine⟩
 dsimp only at hj hfine
 refine ifd (fun hlt2=>?_) (fun hlt2=>?_)
 ·have w_ := aSo (l := r.pos) (i := j) (by omega)
  obtain⟨f,hf⟩:=w_
  have w_:=F.elem hat.pos hf
  obtain⟨ad2,p2,hel2,hrf,_⟩:=w_
  have hstep:=qPb (P:=fun f=>f∈S) hf
  refine eIn hel2 ?_
  intro r10
  refine iIn (fun hk=>?_) (fun hk=>?_)
  ·refine cGv (uE hS hSn hs hrf) ?_
   refine aB (by omega) (by omega) ⟨(j+1,decide (f∈S)),⟨by dsimp only;omega,?_⟩,by dsimp only;omega,⟨⟨rfl,rfl,rfl,rfl,rfl,rfl,rfl,rfl,rfl,rfl,trivial⟩,⟨rfl,rfl,trivial⟩,rfl,rfl⟩⟩
   dsimp only
   rw[hstep,←hfine,decide_eq_true_eq]
   exact⟨fun h=>⟨hk,h⟩,fun h=>h.2⟩
  ·refine aB (by omega) (by omega) ⟨(j + 1, false), ⟨by dsimp only; omega, ?_⟩, by dsimp only; omega, ⟨⟨rfl, rfl, rfl, rfl, rfl, rfl, rfl, rfl, rfl, rfl, trivial⟩, ⟨rfl, rfl, trivial⟩, rfl, rfl⟩⟩
   dsimp only
   rw[hstep,←hfine,hk]
   simp
 obtain rfl:j=r.pos.length:=by omega
 rw[List.take_length]at hfine
 refine lIn (fun z:Nat×Bool=>z.1≤r.neg.length∧(z.2=true↔(∀f∈r.pos,f∈S)∧∀f∈r.neg.take z.1,f∉S))
  (fun (j, fine) => ⟨[(1, .val (.slice b S.length c)), (5, .row 0 bo ys.length co), (7, .loc 1 r7 0), (8, .val (.bool fine)), (14, .val (.slice b3 rs.length c3)), (15, .val (.int .i64 rs.length)), (16, .val (.int .i64 i)), (35, .val (.slice p.2.2.2.1 r.neg.length p.2.2.2.2)), (36, .val (.int .i64 r.neg.length)), (37, .val (.int .i64 j))],
   [(0,some (.row bo co 41 2 ys)),(1,some (.cells r7 (vals (r.cs p)) 106))],2,μ,Mem.nil⟩) (fun z=>r.neg.length-z.1)
  (0,fine) ⟨Nat.zero_le _,by simpa using hfine⟩ (fun(_,_)=>⟨rfl,rfl⟩) ⟨⟨rfl,rfl,rfl,rfl,rfl,rfl,rfl,rfl,rfl,rfl,trivial⟩,⟨rfl,rfl,trivial⟩,rfl,rfl⟩ ?_
 clear hfine hlt2 hj
 rintro⟨j,fine⟩ ⟨hj,hfine⟩
 dsimp only at hj hfine
 refine ifd (fun hlt2=>?_) (fun hlt2=>?_)
 ·have w_ := aSo (l := r.neg) (i := j) (by omega)
  obtain⟨f,hf⟩:=w_
  have w_:=F.elem hat.neg hf
  obtain⟨ad2,p2,hel2,hrf,_⟩:=w_
  have hstep:=qPb (P:=fun f=>f∉S) hf
  refine eIn hel2 ?_
  intro r10
  refine iIn (fun hk=>?_) (fun hk=>?_)
  ·refine cGv (uE hS hSn hs hrf) ?_
   refine aB (by omega) (by omega) ⟨(j+1,!decide (f∈S)),⟨by dsimp only;omega,?_⟩,by dsimp only;omega,⟨⟨rfl,rfl,rfl,rfl,rfl,rfl,rfl,rfl,rfl,rfl,trivial⟩,⟨rfl,rfl,trivial⟩,rfl,rfl⟩⟩
   dsimp only
   rw[hstep,←and_assoc,←hfine,Bool.not_eq_true',decide_eq_false_iff_not]
   exact⟨fun h=>⟨hk,h⟩,fun h=>h.2⟩
  ·refine aB (by omega) (by omega) ⟨(j + 1, false), ⟨by dsimp only; omega, ?_⟩, by dsimp only; omega, ⟨⟨rfl, rfl, rfl, rfl, rfl, rfl, rfl, rfl, rfl, rfl, trivial⟩, ⟨rfl, rfl, trivial⟩, rfl, rfl⟩⟩
   dsimp only
   rw[hstep,←and_assoc,←hfine,hk]
   simp
 obtain rfl:j=r.neg.length:=by omega
 rw[List.take_length]at hfine
 replace hfine:fine=true↔uB S S r:=hfine
 refine iIn (fun hk=>?_) (fun hk=>?_)
 ·rw [if_pos (hfine.1 hk)] at hsucc
  intro r53
  refine gIn ?_ ?_ fun b' c' _=>?_
  ·show(ys.length+1)*40≤_;omega
  ·exact Nat.le_trans (m:=100000000) (show ys.length+1≤_ by omega) (by decide)
  refine aB (by omega) (by omega) ⟨(i+1,b',c',_),⟨by dsimp only;omega,?_⟩,by dsimp only;omega,⟨⟨rfl,rfl,rfl,rfl,rfl,trivial⟩,⟨rfl,trivial⟩,rfl,rfl⟩⟩
  dsimp only
  rw[hsucc]
  simp only[List.map_append,List.map_cons,List.map_nil]
  exact hrows.append (Rows.one hat.head (Fc.d_n _))
 ·rw [if_neg (fun k => by rw [hfine.2 k] at hk; cases hk), List.append_nil] at hsucc
  refine aB (by omega) (by omega) ⟨(i+1,bo,co,ys),⟨by dsimp only;omega,?_⟩,by dsimp only;omega,⟨⟨rfl,rfl,rfl,rfl,rfl,trivial⟩,⟨rfl,trivial⟩,rfl,rfl⟩⟩
  dsimp only
  rw[hsucc];exact hrows
end
end Go.Vx
namespace Go.Vx
open Go.Proofs Classical
theorem fQ{p:Pg}{u:List Tm}{rs:List Ru}(h:bX p u=some rs):rs.length≤2000∧∀r∈rs,RuOk p r:=by
 have hok:=kI h
 rw[bX,if_pos hok,cI]at h
 split at h
 ·rename_i hw
  cases h
  refine⟨hw.2,fun r hr=>?_⟩
  have w_:=List.mem_flatMap.1 hr
  obtain⟨rel,hrel,hr⟩:=w_
  have w_:=List.mem_iff_getElem?.1 hrel
  obtain⟨k,hk⟩:=w_
  have hro:=hok.1.2 k rel hk
  rw[cD]at hr
  split at hr
  ·simp at hr
  ·rename_i L hL
   rw[aY,List.mem_flatMap]at hr
   obtain⟨i,hi,hr⟩:=hr
   rw[List.mem_range]at hi
   have w_:=aSo (l:=L) (i:=i) hi
   obtain⟨c,hc⟩:=w_
   have ec:L.getD i []=c:=by rw[List.getD_eq_getElem?_getD,hc];rfl
   rw[ec,bI,List.mem_filterMap]at hr
   obtain⟨w,-,hr⟩:=hr
   rw[dY]at hr
   split at hr
   ·rename_i hokg
    cases hr
    have hG:∀g∈c,ClG g:=fun g hg=>ClG.of hok.1 hk hL (mAt hc) hg
    have w_:=hok.2.lift
    obtain⟨U,hU,hUg,hUl⟩:=w_
    have e1:u.map Tm.toT=U:=by rw[hU,gO]
    rw[e1]
    have h1:=hok.2.pos
    have har0:=hro.ar0
    have har4:=hro.ar4
    have hlo0:=hro.lo0
    have hlen:((dR U (rel.arity+rel.locals).toNat w).take rel.arity.toNat).length=rel.arity.toNat:=by
     rw[List.length_take,gG];omega
    refine⟨⟨⟨k,rel,hro.at_,hk,?_⟩,fun t ht=>?_⟩,?_,wB hG,Nat.le_trans uJ (Nat.le_trans ((Gl.cl_bnd _ hL).1 c (mAt hc)) hro.size),fun f hf a ha=>(hUg a ((okG_iff.1 (by rw[e1]at hokg;exact hokg)).2.1 f hf a ha)).1⟩
    ·show rel.arity = (((dR U (rel.arity + rel.locals).toNat w).take rel.arity.toNat).map T.tm).length
     rw[List.length_map,hlen];omega
    ·have w_ := List.mem_map.1 ht
     obtain⟨x,hx,rfl⟩:=w_
     have hx:=mR U (by omega) _ _ x (List.mem_of_mem_take hx)
     exact⟨T.ok.tm (hUg x hx).1,by rw[T.toT_tm];exact(hUg x hx).2⟩
    ·show ((dR U (rel.arity + rel.locals).toNat w).take rel.arity.toNat).length ≤ 4
     rw[hlen];omega
   ·cases hr
 ·cases h
theorem qGy{p:Pg}{rs:List Ru}{base:List F}(hr:∀r∈rs,RuOk p r)(hb:FsOk p base):FsOk p (lfp rs base):=fun f hf=>by
 cases mem_lfp.1 hf with
 |base h=>exact hb _ h
 |rule h _=>exact(hr _ h).head
def optFs(P:List F→Value→Prop)(o:Option (List F))(v:Value):Prop:=match o with
 |some y=>∃tv,v= .tuple #[tv,.bool true]∧P y tv
 |none=>v= .tuple #[.slice none 0 0,.bool false]
section
variable {μ:Mem}
theorem oT{f:F}{v:Value}(hf:RepV μ f.fc.d v)(hl:f.args.length≤1000000):Spec Tryz.prog 102 [v] μ fun v μ'=>Fresh μ μ' f.fc.d v:=by
 have w_:=F.inv hf
 obtain⟨p,rfl,hfs⟩:=w_
 refine Spec.mk Tryz.func102 (by kernel_rfl) ?_
 intro r1 r2
 refine cPl (jR hfs hl) fun v1 μ1 hle1 hR=>?_
 have w_:=Rep.sl hR.rep
 obtain⟨b,c,rfl,-⟩:=w_
 refine rPl ?_
 have:=(FreshS.str (n:=f.rel) (FreshS.cons hR hle1 (Mem.Le.refl _) FreshS.nil)).st
 exact this
theorem qS{L:List F}{v:Value}(h:FsV μ L v)(hn:L.length≤10000000)(hl:∀f∈L,f.args.length≤1000000):
  Spec Tryz.prog 59 [v] μ fun v μ'=>Fresh μ μ' (.sl 2 ((L.map F.fc).map Fc.d)) v:=by
 have w_:=FsV.sl h
 obtain⟨base,cap,rfl,-,hsl⟩:=w_
 refine Spec.mk Tryz.func59 (by kernel_rfl) ?_
 intro r6
 refine lIn (fun p:Nat×Option Nat×Nat×List Value×Mem=>p.1≤L.length∧μ.Le p.2.2.2.2∧Grown 2 μ p.2.2.2.2 (((L.take p.1).map F.fc).map Fc.d) p.2.2.2.1)
  (fun(i,b,c,ys,μ')=>⟨[(3,.row 0 b ys.length c),(7,.val (.slice base L.length cap)),(8,.val (.int .i64 L.length)),(9,.val (.int .i64 i))],[(0,some (.row b c 41 2 ys))],1,μ',Mem.nil⟩) (fun p=>L.length-p.1)
  (0,some r6,0,[],μ) ⟨Nat.zero_le _,Mem.Le.refl _,Grown.nil _ _ _⟩ (fun(_,_,_,_,_)=>⟨rfl,rfl⟩) ⟨⟨rfl,rfl,rfl,rfl,trivial⟩,⟨rfl,trivial⟩,rfl,rfl⟩ ?_
 rintro⟨i,b,c,ys,μ'⟩ ⟨hi,hle,hgr⟩
 dsimp only at hi hle hgr
 have hyl:=hgr.len
 simp only[List.length_map,List.length_take]at hyl
 refine ifd (fun hlt=>?_) (fun hlt=>?_)
 ·have w_ := aSo (l := L) (i := i) (by omega)
  obtain⟨f,hf⟩:=w_
  have w_:=F.elem (hsl.mono hle) hf
  obtain⟨ad,p,hel,hrf,_⟩:=w_
  refine eIn hel ?_
  intro r5
  refine cPl (oT hrf (hl f (mAt hf))) fun v1 μ1 hle1 hR=>?_
  have w_:=F.inv hR.rep
  obtain⟨q,rfl,_⟩:=w_
  intro r16
  refine gIn ?_ ?_ fun b' c' _=>?_
  ·show(ys.length+1)*40≤_;omega
  ·exact Nat.le_trans (m:=100000000) (show ys.length+1≤_ by omega) (by decide)
  refine aB (by omega) (by omega) ⟨(i+1,b',c',_,μ1),⟨by dsimp only;omega,hle.trans hle1,?_⟩,by dsimp only;omega,⟨⟨rfl,rfl,rfl,rfl,trivial⟩,⟨rfl,trivial⟩,rfl,rfl⟩⟩
  dsimp only
  rw[List.take_add_one,hf,Option.toList_some]
  simp only[List.map_append,List.map_cons,List.map_nil]
  exact hgr.snoc hle hR hle1 (Fc.d_n _)
 ·obtain rfl : i = L.length := by omega
  rw[List.take_length]at hgr
  refine rFz [0] fun μ2 hle2 hno hrow=> .inl ?_
  exact hgr.fresh hle hle2 hno hrow (Nat.le_trans (m:=100000000) (by omega) (by decide))
end
end Go.Vx
namespace Go.Vx
open Go.Proofs Classical
theorem qTf{p:Pg}{u:List Tm}{rs:List Ru}(hpos:p.Pos)(h:bX p u=some rs):∀r∈rs,r.neg=[]:=by
 have hok:=kI h
 rw[bX,if_pos hok,cI]at h
 split at h
 ·cases h
  intro r hr
  have w_:=List.mem_flatMap.1 hr
  obtain⟨rel,hrel,hr⟩:=w_
  rw[cD]at hr
  split at hr
  ·simp at hr
  ·rename_i L hL
   rw[aY,List.mem_flatMap]at hr
   obtain⟨i,hi,hr⟩:=hr
   rw[List.mem_range]at hi
   have w_:=aSo (l:=L) (i:=i) hi
   obtain⟨c,hc⟩:=w_
   have ec:L.getD i []=c:=by rw[List.getD_eq_getElem?_getD,hc];rfl
   rw[ec,bI,List.mem_filterMap]at hr
   obtain⟨w,-,hr⟩:=hr
   rw[dY]at hr
   split at hr
   ·cases hr
    show iU _ c=[]
    rw[iU,List.map_eq_nil_iff,List.filter_eq_nil_iff]
    intro g hg
    rw[decide_eq_true_eq]
    exact hpos.2 rel hrel g (Gl.cl_all _ hL c (mAt hc) g hg).1
   ·cases hr
 ·cases h
theorem qVl{rs:List Ru}(h:∀r∈rs,r.neg=[])(S neg:List F):fY rs S neg=fY rs S []:=by
 rw[fY,fY]
 refine congrArg (fun l=>lI (l.map Ru.head)) (List.filter_congr fun r hr=>decide_eq_decide.2 ?_)
 rw[uB,uB,h r hr]
 exact⟨fun k=>⟨k.1,fun _ hx=>nomatch hx⟩,fun k=>⟨k.1,fun _ hx=>nomatch hx⟩⟩
def fsD(L:List F):D:= .sl 2 ((L.map F.fc).map Fc.d)
noncomputable def stD(rs:List Ru)(n:Nat):List D:=(List.range (n+1)).map fun i=>fsD (stF rs i)
theorem qCl(rs:List Ru)(n:Nat):stD rs (n+1)=stD rs n++[fsD (stF rs (n+1))]:=by
 rw[stD,List.range_succ,List.map_append];rfl
theorem rP(rs:List Ru)(n:Nat):(stD rs n).length=n+1:=by rw[stD,List.length_map,List.length_range]
theorem tM(rs:List Ru)(n:Nat):(stD rs n)[n]? =some (fsD (stF rs n)):=by
 rw[stD,List.getElem?_map,List.getElem?_range (by omega)];rfl
noncomputable def gY(p:Pg)(u:List Tm):Option (List F):=(bH p u).map fun rs=>lfp rs []
noncomputable def qQd(P:List F→Value→Prop)(o:Option (List F))(v:Value):Prop:=match o with
 |none=>v= .tuple #[.slice none 0 0,.int .i64 0,.bool false]
 |some y=>∃tv,∃n:Nat,v= .tuple #[tv,.int .i64 n,.bool true]∧P y tv
theorem sC{p:Pg}{u:List Tm}{y:List F}(h:gY p u=some y):p.Ok∧FsOk p y∧y.length≤2000∧Asc3 dC y:=by
 cases hP:bH p u with
 |none=>rw[gY,hP]at h;cases h
 |some rs=>
  rw[gY,hP]at h
  cases h
  rw[bH]at hP
  split at hP
  ·rename_i hpos
   have w_:=fQ hP
   obtain⟨h1,h2⟩:=w_
   refine⟨hpos.1,qGy h2 (fun _ h=>nomatch h),?_,qCw _ _⟩
   have:=qFq rs []
   simp only[List.length_nil]at this
   show(lfp rs []).length≤2000
   omega
  ·cases hP
section
variable {μ:Mem}
set_option maxHeartbeats 1000000 in
theorem qIh{rs:List Ru}{b3:Option Addr}{c3:Nat}(hr:Sl μ 6 b3 rs.length ((rs.map Ru.rd).map RuD.d))(hn:rs.length≤2000)(hneg:∀r∈rs,r.neg=[]):
  Spec Tryz.prog 61 [.slice b3 rs.length c3] μ fun v μ'=>∃n,LastSt rs n∧RepV μ' (.sl 1 (stD rs n)) v:=by
 refine Spec.mk Tryz.func61 (by kernel_rfl) ?_
 intro r6 μ1 hle1 hno1 hat1 r7
 refine lIn (fun z:Nat×Option Nat×Nat×List Value×Mem=>(∀m,m<z.1→fY rs (stF rs m) []≠stF rs m)∧μ.Le z.2.2.2.2∧Rows z.2.2.2.2 1 (stD rs z.1) z.2.2.2.1)
  (fun(_,bo,co,ys,μ')=>⟨[(0,.val (.slice b3 rs.length c3)),(3,.row 1 bo ys.length co)],[(1,some (.row bo co 29 1 ys))],2,μ',Mem.nil⟩) (fun z=>rs.length+1-z.1)
  (0,some r7,1,_,μ1) ⟨(fun m h=>by omega),hle1,Rows.one (d:=fsD []) (Rows.sl (μ:=μ1) (ds:=[]) hat1 .nil (Nat.zero_le _)) rfl⟩ (fun(_,_,_,_,_)=>⟨rfl,rfl⟩) ⟨⟨rfl,rfl,trivial⟩,⟨rfl,trivial⟩,rfl,rfl⟩ ?_
 rintro⟨n,bo,co,ys,μ'⟩ ⟨hne,hle,hrows⟩
 dsimp only at hne hle hrows
 have hyl:=hrows.len
 rw[rP]at hyl
 have hsl:=nT hne
 have hrl:=(fL rs n).len
 have w_:=hrows.val (tM rs n)
 obtain⟨w,hw,hwr⟩:=w_
 have hwr:FsV μ' (stF rs n) w:=hwr
 have w_:=FsV.sl hwr
 obtain⟨b5,c5,rfl,-,hso⟩:=w_
 refine aB (by omega) (by omega) ?_
 refine aX n (by omega) (by omega) (aW _ hw ?_)
 refine cPl (qFf (hr.mono hle) (by omega) (fL rs n).asc (by omega) hso) fun v4 μ4 hle4 hR4=>?_
 rw[qVl hneg]at hR4
 have w_:=FsV.sl hR4
 obtain⟨b6,c6,rfl,-,hs6⟩:=w_
 refine aB (by omega) (by omega) ?_
 refine aX n (by omega) (by omega) (aW _ hw ?_)
 refine cGv (qKs hs6 (hso.mono hle4)) ?_
 refine ifd (fun he=>?_) (fun he=>?_)
 ·refine rFz [1] fun μ5 hle5 hno5 hat5 => .inl ⟨n, ⟨he, hne⟩, ?_⟩
  exact Rows.sl hat5 (hrows.mono (hle4.trans hle5)) (Nat.le_trans (m:=100000) (by omega) (by decide))
 ·intro r25
  refine gIn ?_ ?_ fun b' c' _=>?_
  ·show(ys.length+1)*24≤_;omega
  ·exact Nat.le_trans (m:=100000) (show ys.length+1≤_ by omega) (by decide)
  have hne':∀m,m<n+1→fY rs (stF rs m) []≠stF rs m:=fun m hm=>by
   rcases Nat.lt_or_ge m n with k|k
   ·exact hne m k
   ·obtain rfl : m = n := by omega
    exact he
  have hs2:=nT hne'
  have hr2:=(fL rs (n+1)).len
  refine⟨(n+1,b',c',_,μ4),⟨hne',hle.trans hle4,?_⟩,by dsimp only;omega,⟨⟨rfl,rfl,trivial⟩,⟨rfl,trivial⟩,rfl,rfl⟩⟩
  dsimp only
  rw[qCl]
  exact(hrows.mono hle4).append (Rows.one (d:=fsD (stF rs (n+1))) hR4 rfl)
theorem qCk{rs:List Ru}{n:Nat}{b:Option Addr}(h:Sl μ 1 b (n+1) (stD rs n)):∃ad,∃q:Option Addr×Nat,ElemAt μ b (n+1) 1 n ad [.slice q.1 (stF rs n).length q.2]∧FsV μ (stF rs n) (.slice q.1 (stF rs n).length q.2):=by
 have w_:=h.get n (fsD (stF rs n)) (tM rs n)
 obtain⟨ad,cs,h1,h2⟩:=w_
 have h3:Rep μ (fsD (stF rs n)) cs:=h2
 have hl:=Rep.len _ _ h3
 match cs,hl with
 |[v],_=>
  have h4:FsV μ (stF rs n) v:=h3
  have w_:=FsV.sl h4
  obtain⟨b5,c5,rfl,-,_⟩:=w_
  exact⟨ad,(b5,c5),h1,h4⟩
theorem xH{rs:List Ru}{n:Nat}{v:Value}(h:RepV μ (.sl 1 (stD rs n)) v):∃b c,v= .slice b (n+1) c∧Sl μ 1 b (n+1) (stD rs n):=by
 have w_:=Rep.sl h
 obtain⟨b,c,rfl,hs⟩:=w_
 have hs2:=hs.1
 rw[rP]at hs hs2
 exact⟨b,c,by rw[rP],hs⟩
theorem qBm{p:Pg}{u:List Tm}{v:Value}{ub:Option Addr}{uc:Nat}(hp:RepV μ p.d v)(hu:Sl μ 4 ub u.length (u.map Tm.d)):
  Spec Tryz.prog 15 [v,.slice ub u.length uc] μ fun v μ'=>qQd (fun y tv=>Fresh μ μ' (fsD y) tv) (gY p u) v:=by
 have hp0:=hp
 have w_:=Pg.inv hp
 obtain⟨q,rfl,hrl⟩:=w_
 refine Spec.mk Tryz.func15 (by kernel_rfl) ?_
 intro r2
 refine cPl (lT hp0 hu) fun v1 μ1 hle1 hR=>?_
 cases hP:bH p u with
 |none=>
  rw[hP]at hR
  obtain rfl:=hR
  refine iIn (fun _=>rPl (by rw[gY,hP];rfl)) (fun h=>nomatch h)
 |some rs=>
 rw[hP]at hR
 obtain⟨tv,rfl,hR⟩:=hR
 have hR:RsV μ1 rs tv:=hR
 have w_:=RsV.sl hR
 obtain⟨b1,c1,rfl,hrs⟩:=w_
 have hL:gY p u=some (lfp rs []):=by rw[gY,hP];rfl
 have hk:=sC hL
 have hpg:p.Pos∧bX p u=some rs:=by
  rw[bH]at hP
  split at hP
  ·rename_i k;exact⟨k,hP⟩
  ·cases hP
 refine iIn (fun h=>nomatch h) (fun _=>?_)
 refine cPl (qIh hrs (fQ hpg.2).1 (qTf hpg.1 hpg.2)) fun v2 μ2 hle2 hR2=>?_
 obtain⟨n,hlast,hR2⟩:=hR2
 have w_:=xH hR2
 obtain⟨b2,c2,rfl,hs2⟩:=w_
 have hsl:=nT hlast.2
 rw[←hlast.eq]at hL hk
 refine aB (by omega) (by omega) ?_
 have w_:=qCk hs2
 obtain⟨ad,q2,hel,hfs⟩:=w_
 rw[show(((n+1:Nat):Int)-1)=(n:Int) by omega]
 refine eIn hel ?_
 refine cPl (qS hfs (by omega) fun f hf=>Nat.le_trans (hk.2.1.len hk.1 f hf) (by decide)) fun v4 μ4 hle4 hR4=>?_
 refine aB (by omega) (by omega) ?_
 refine rPl ?_
 rw[hL]
 exact⟨_,n,by rw[show(((n+1:Nat):Int)-1)=(n:Int) by omega],hR4.mono (hle1.trans hle2) (Mem.Le.refl _)⟩
end
end Go.Vx
namespace Go.Vx
open Go.Proofs Classical
def lvB(n:Nat):Nat:=if 2<n then 2*lvB (n / 2)else 1
termination_by n
decreasing_by omega
theorem qPx:lvB 4=2:=by rw[lvB,if_pos (by decide),lvB,if_neg (by decide)]
theorem xA:lvB 3=2:=by rw[lvB,if_pos (by decide),lvB,if_neg (by decide)]
theorem iO:∀n,1≤lvB n:=fun n=>by
 induction n using Nat.strongRecOn with
 |ind n ih=>
  rw[lvB]
  split
  ·have:=ih (n / 2) (by omega);omega
  ·exact Nat.le_refl _
end Go.Vx
namespace Go.Vx
open Go.Proofs Classical
noncomputable def jY(f:Pf→Pf)(ca:Int)(xs:List Pf)(i:Nat):List Pf:=(List.range i).flatMap fun(j:Nat)=>match xs[j]? with|none=>[]|some y=>if(j:Int)=ca then y.kids.map f else [f y]
noncomputable def rU(ca:Int)(xs:List Pf)(i:Nat):List Tm:=if 0≤ca∧ca<i then(match xs[ca.toNat]? with|some y=>y.values|none=>[])else []
noncomputable def mH(cl ca:Int)(xs:List Pf)(b:Int)(i:Nat):Int:=if 0≤ca∧ca<i then(match xs[ca.toNat]? with|some y=>cl+y.clause|none=>b)else b
section
variable (nm:ByteArray) (cl ca:Int) (count more:Nat)
noncomputable def qDf(x:Pf):Int:=if x.rel=nm∧x.clause=cl then ca else -1
noncomputable def xJ(f:Pf→Pf)(x:Pf):Pf:=
 .mk x.rel (if x.rel=nm∧x.clause>cl then x.clause+count-1 else mH cl (qDf nm cl ca x) x.kids x.clause x.kids.length)
  (x.values++rU (qDf nm cl ca x) x.kids x.kids.length++if x.rel=nm∧x.clause≠cl then List.replicate more T.nil.tm else []) (jY f (qDf nm cl ca x) x.kids x.kids.length)
noncomputable def jL:Nat→Pf→Pf
 |0,x=>x
 |n+1,x=>xJ nm cl ca count more (jL n) x
end
end Go.Vx
namespace Go.Vx
open Go.Proofs Classical
def UnfZ(p:Pg)(nm:ByteArray)(cl ca:Int)(z:UnfD×List (List Gl)):Prop:=UnfAt p nm cl ca z.1∧jX p z.1 z.2
noncomputable def qOq(p:Pg)(nm:ByteArray)(cl ca:Int)(x:Pf):Option Pf:=
 if h:∃z,UnfZ p nm cl ca z then
  (if p.Ok∧x.cnt≤200∧OkP p x then some (jL nm cl ca h.choose.2.length (h.choose.1.q.arity+h.choose.1.q.locals).toNat x.cnt x)else none)
 else none
theorem qAm(p:Pg)(nm:ByteArray)(cl ca:Int):(rR p nm cl ca=none∧∀x,qOq p nm cl ca x=none)∨∃z,UnfZ p nm cl ca z∧rR p nm cl ca=some (z.1.pg p z.2,z.2.length):=by
 by_cases h:∃z,UnfZ p nm cl ca z
 ·obtain ⟨z, hz⟩ := h
  exact .inr ⟨z,hz,sJ hz.1 hz.2⟩
 ·exact .inl ⟨by rw[rR,dif_neg (show ¬∃z:UnfD×List (List Gl),UnfAt p nm cl ca z.1∧jX p z.1 z.2 from h)],fun x=>by rw[qOq,dif_neg h]⟩
section
variable {μ:Mem}
end
end Go.Vx
namespace Go.Vx
open Go.Proofs Classical
open Go.ChangeShapes Go.WideShapes Go.ChangeAt Go.RowKit
theorem xK(x:Int):∃k:Nat,bits .and .i64 x 255=(k:Int)∧k<256:=by
 have e:(BitVec.ofInt 64 x &&& BitVec.ofInt 64 255).toNat≤255:=by
  rw[BitVec.toNat_and]
  have:(BitVec.ofInt 64 255).toNat=255:=by decide
  rw[this]
  exact Nat.and_le_right
 refine⟨(BitVec.ofInt 64 x &&& BitVec.ofInt 64 255).toNat,?_,by omega⟩
 show IntKind.i64.wrap ((BitVec.ofInt 64 x &&& BitVec.ofInt 64 255).toNat:Nat)=_
 exact aA (by omega) (by omega)
section
variable {μ:Mem}
theorem kJ{h:Mem}{r:Nat}(hc:Cur μ h r h):
  SpecH Tryz.prog 75 [.pointer (some ⟨r,0,none⟩)] μ h fun v μ' h'=>μ'=μ∧Cur μ h r h'∧∃k:Nat,v= .int .i64 k∧k<256:=by
 obtain⟨o,⟨base,n,cap,i,hh,rfl,hb,hi⟩,e⟩:=hc.ex
 have hr:h r=some (sV base n cap i hh):=by rw[e,Mem.set_at]
 clear e hc
 refine SpecH.mk [] Tryz.func75 (by kernel_rfl) ?_
 refine oIn [.int .i64 hh] rfl (eZ hr rfl) ?_
 refine aO fun x1 _=>?_
 refine aO fun x2 _=>?_
 refine sIn [.slice base n cap,.int .i64 i,.int .i64 hh] 168 hr rfl (by show 2+1≤3;decide) ?_
 have h1:(h.set r (sV base n cap i x2)) r=some (sV base n cap i x2):=Mem.set_at _ _ _
 refine oIn [.int .i64 x2] rfl (eZ h1 rfl) ?_
 refine aC (by decide) ?_
 refine aO fun x3 _=>?_
 refine oIn [.int .i64 x2] rfl (eZ h1 rfl) ?_
 refine aC (by decide) ?_
 refine aO fun x4 _=>?_
 refine aO fun x5 _=>?_
 have w_:=xK x5
 obtain⟨k,ek,hk⟩:=w_
 refine nEq ek ?_
 refine oIn [.int .i64 (i:Int)] rfl (eZ h1 rfl) ?_
 refine oIn [.slice base n cap] rfl (eZ h1 rfl) ?_
 refine ifd (fun hlt=>?_) (fun hlt=>?_)
 ·have w_ := hb.get i (by omega)
  obtain⟨a,b,hel⟩:=w_
  refine oIn [.slice base n cap] rfl (eZ h1 rfl) ?_
  refine oIn [.int .i64 (i:Int)] rfl (eZ h1 rfl) ?_
  refine eIn hel ?_
  refine aO fun x6 _=>?_
  refine aO fun x7 _=>?_
  have w_:=xK x7
  obtain⟨k2,ek2,hk2⟩:=w_
  refine nEq ek2 ?_
  refine oIn [.int .i64 (i:Int)] rfl (eZ h1 rfl) ?_
  have:=aH hb.max
  refine aB (by omega) (by omega) ?_
  refine sIn [.slice base n cap,.int .i64 i,.int .i64 x2] 168 h1 rfl (by show 1+1≤3;decide) ?_
  refine rPl ⟨rfl,⟨sV base n cap ((i+1:Nat):Int) x2,⟨base,n,cap,i+1,x2,rfl,hb,by omega⟩,?_⟩,k2,rfl,hk2⟩
  show(h.set r (sV base n cap i x2)).set r _=_
  rw[Mem.set_set]
  rfl
 ·exact rPl ⟨rfl,⟨sV base n cap i x2,⟨base,n,cap,i,x2,rfl,hb,hi⟩,rfl⟩,k,rfl,hk⟩
theorem tB{h:Mem}{base:Option Addr}{n cap:Nat}(hb:Bytes μ base n):
  SpecH Tryz.prog 121 [.slice base n cap] μ h fun v μ' h'=>μ'=μ∧∃r,v= .pointer (some ⟨r,0,none⟩)∧h r=none∧Cur μ h r h':=by
 have hmax:=aH hb.max
 refine SpecH.mk [31] Tryz.func121 (by kernel_rfl) ?_
 refine aO fun x0 _=>?_
 refine lIn (fun p:Nat×Int=>p.1≤n∧p.1≤4000) (fun(i,x)=>⟨[(0,.val (.slice base n cap)),(3,.val (.int .i64 x)),(4,.val (.int .i64 i))],[],0,μ,h⟩) (fun p=>n-p.1)
  (0,x0) ⟨Nat.zero_le _,Nat.zero_le _⟩ (fun(_,_)=>⟨rfl,rfl⟩) ⟨⟨rfl,rfl,rfl,trivial⟩,trivial,rfl,rfl⟩ ?_
 rintro⟨i,x⟩ ⟨hi,hi2⟩
 dsimp only at hi hi2
 refine ifd (fun hlt=>?_) (fun hlt=>?_)
 ·refine ifd (fun hlt2 => ?_) (fun hlt2 => ?_)
  ·have w_ := hb.get i (by omega)
   obtain⟨a,b,hel⟩:=w_
   refine aO fun x1 _=>?_
   refine eIn hel ?_
   refine aO fun x2 _=>?_
   refine aO fun x3 _=>?_
   refine aO fun x4 _=>?_
   refine aO fun x5 _=>?_
   refine aB (by omega) (by omega) ⟨(i+1,x5),⟨by dsimp only;omega,by dsimp only;omega⟩,by dsimp only;omega,⟨⟨rfl,rfl,rfl,trivial⟩,trivial,rfl,rfl⟩⟩
  ·intro r hm ho
   exact rPl ⟨rfl,r,rfl,ho,⟨_,⟨base,n,cap,0,x,rfl,hb,Nat.zero_le _⟩,rfl⟩⟩
 ·intro r hm ho
  exact rPl ⟨rfl,r,rfl,ho,⟨_,⟨base,n,cap,0,x,rfl,hb,Nat.zero_le _⟩,rfl⟩⟩
theorem aI{h:Mem}{r:Nat}(hc:Cur μ h r h)(n:Int):
  SpecH Tryz.prog 87 [.pointer (some ⟨r,0,none⟩),.int .i64 n] μ h fun v μ' h'=>μ'=μ∧Cur μ h r h'∧∃k:Nat,v= .int .i64 k∧k<256∧(0<n→(k:Int)<n)∧(n≤0→k=0):=by
 refine SpecH.mk [] Tryz.func87 (by kernel_rfl) ?_
 refine ifd (fun hn=>?_) (fun hn=>?_)
 ·exact rPl ⟨rfl,hc,0,rfl,by decide,fun h=>absurd hn (by omega),fun _=>rfl⟩
 ·refine cOw (kJ hc) fun v μ1 h1 hle1 hap1 hR => ?_
  obtain⟨e,hc1,k,rfl,hk⟩:=hR
  obtain rfl:=e.symm
  refine aC (by omega) ?_
  have e1:(k:Int).tmod n=((k % n.toNat:Nat):Int):=by
   have hn2:n=((n.toNat:Nat):Int):=by omega
   conv=>lhs;rw[hn2]
   rw[Int.ofNat_tmod]
  have hlt:=Nat.mod_lt k (show 0<n.toNat by omega)
  have hle:=Nat.mod_le k n.toNat
  refine nEq e1 ?_
  exact rPl ⟨rfl,hc1,_,rfl,by omega,fun _=>by omega,fun h=>absurd h (by omega)⟩
theorem dF{h:Mem}{r:Nat}(hc:Cur μ h r h)(n:Int):
  SpecH Tryz.prog 52 [.pointer (some ⟨r,0,none⟩),.int .i64 n] μ h fun v μ' h'=>μ'=μ∧Cur μ h r h'∧∃b:Bool,v= .bool b:=by
 refine SpecH.mk [] Tryz.func52 (by kernel_rfl) ?_
 refine cOw (aI hc n) fun v μ1 h1 hle1 hap1 hR=>?_
 obtain⟨e,hc1,k,rfl,hk⟩:=hR
 obtain rfl:=e.symm
 exact rPl ⟨rfl,hc1,_,rfl⟩
theorem gU{h:Mem}{base:Option Addr}{n cap:Nat}(hb:Bytes μ base n)(m:Int)(hm:m≤1000000):
  SpecH Tryz.prog 48 [.slice base n cap,.int .i64 m] μ h fun v μ' h'=>μ'=μ∧∃r,v= .pointer (some ⟨r,0,none⟩)∧h r=none∧Cur μ h r h':=by
 refine SpecH.mk [] Tryz.func48 (by kernel_rfl) ?_
 refine cOw (tB hb) fun v μ1 h1 hle1 hap1 hR=>?_
 obtain⟨e,r,rfl,ho,hc1⟩:=hR
 obtain rfl:=e.symm
 refine lIn (fun p:Int×Mem=>0≤p.1∧Cur μ h r p.2) (fun(i,h')=>⟨[(1,.val (.int .i64 m)),(5,.val (.pointer (some ⟨r,0,none⟩))),(6,.val (.int .i64 i))],[],0,μ,h'⟩) (fun p=>(m-p.1).toNat)
  (0,h1) ⟨Int.le_refl 0,hc1⟩ (fun(_,_)=>⟨rfl,rfl⟩) ⟨⟨rfl,rfl,rfl,trivial⟩,trivial,rfl,rfl⟩ ?_
 clear hc1 hap1
 rintro⟨i,h2⟩ ⟨hi,hc2⟩
 dsimp only at hi hc2
 refine ifd (fun hlt=>?_) (fun hlt=>?_)
 ·refine cOw (kJ hc2.at) fun v μ2 h3 hle2 hap2 hR => ?_
  obtain⟨e,hc3,k,rfl,hk⟩:=hR
  obtain rfl:=e.symm
  refine aB (by omega) (by omega) ⟨(i+1,h3),⟨by dsimp only;omega,hc2.trans hc3⟩,by dsimp only;omega,⟨⟨rfl,rfl,rfl,trivial⟩,trivial,rfl,rfl⟩⟩
 ·exact rPl ⟨rfl,r,rfl,ho,hc2⟩
theorem oO{base:Option Addr}{n cap:Nat}(hb:Bytes μ base n)(m lo hi:Int)(hm:m≤1000000)(h0:0≤lo)(h1:lo≤hi)(h2:hi≤1000):
  Spec Tryz.prog 35 [.slice base n cap,.int .i64 m,.int .i64 lo,.int .i64 hi] μ fun v μ'=>μ'=μ∧∃k:Int,v= .int .i64 k∧lo≤k∧k≤hi:=by
 refine Spec.mk Tryz.func35 (by kernel_rfl) ?_
 refine cOw (gU hb m hm) fun v μ1 h1 hle1 hap1 hR=>?_
 obtain⟨e,r,rfl,ho,hc1⟩:=hR
 obtain rfl:=e.symm
 refine aB (by omega) (by omega) (aB (by omega) (by omega) ?_)
 refine cOw (aI hc1.at _) fun v μ1 h2 hle2 hap2 hR=>?_
 obtain⟨e,hc2,k,rfl,hk,hk2,_⟩:=hR
 obtain rfl:=e.symm
 have:=hk2 (by omega)
 refine aB (by omega) (by omega) ?_
 exact rPl ⟨rfl,_,rfl,by omega,by omega⟩
end
end Go.Vx
namespace Go.Vx
open Go.Proofs Classical
theorem Drawn.atom{t:T}(hg:t.good)(hl:t.lvs=1)(ho:∀n,¬t.occ n)(vars:Int):Drawn 1 vars t:=⟨hg,fun n hn=>absurd hn (ho n),by omega⟩
theorem Drawn.wide{k:Nat}{v w:Int}{t:T}(h:Drawn k v t)(hw:v≤w):Drawn k w t:=⟨h.good,fun n hn=>by have:=h.low n hn;omega,h.lvs⟩
section
variable {μ:Mem}
theorem tD(n:Int):Spec Tryz.prog 232 [.int .i64 n] μ fun v μ'=>RepV μ' (T.num n).tm.d v:=by
 refine Spec.mk Tryz.func232 (by kernel_rfl) ?_
 intro r1
 refine rPl ?_
 rw[T.tm,Tm.d_mk]
 exact⟨_,rfl,RepS.int (RepS.int (RepS.str (RepS.last (Rep.nilSl 4))))⟩
theorem dT(s:ByteArray):Spec Tryz.prog 231 [.string s] μ fun v μ'=>RepV μ' (T.sym s).tm.d v:=by
 refine Spec.mk Tryz.func231 (by kernel_rfl) ?_
 intro r1
 refine rPl ?_
 rw[T.tm,Tm.d_mk]
 exact⟨_,rfl,RepS.int (RepS.int (RepS.str (RepS.last (Rep.nilSl 4))))⟩
def wO(h:Mem)(r k:Nat)(vars:Int)(v:Value)(μ' h':Mem):Prop:=Cur μ' h r h'∧∃t:T,RepV μ' t.tm.d v∧Drawn k vars t
theorem eI{h:Mem}{r:Nat}(hc:Cur μ h r h):SpecH Tryz.prog 191 [.pointer (some ⟨r,0,none⟩)] μ h fun v μ' h'=>wO h r 1 0 v μ' h':=by
 refine SpecH.mk [] Tryz.func191 (by kernel_rfl) ?_
 intro r1
 refine cOw (aI hc 7) fun v μ1 h1 hle1 hap1 hR=>?_
 obtain⟨e,hc1,k,rfl,hk,hk7,_⟩:=hR
 obtain rfl:=e.symm
 have hk7:=hk7 (by decide)
 refine ifd (fun h2=>?_) (fun h2=>?_)
 ·refine cPl (tD k) fun v μ2 hle2 hR => ?_
  have w_:=Tm.invV hR
  obtain⟨p,rfl⟩:=w_
  exact rPl ⟨hc1.mono hle2,.num k,hR,Drawn.atom (t:= .num k) (by show -1000000000≤(k:Int)∧(k:Int)≤1000000000;omega) rfl (fun _ h=>h) 0⟩
 ·refine ifd (fun h5 => ?_) (fun h5 => ?_)
  ·intro r2
   refine aB (by omega) (by omega) ?_
   have w_:k=2∨k=3∨k=4:=by omega
   rcases w_ with rfl|rfl|rfl
   ·refine aX 0 rfl (by decide) ?_
    refine aW (.string ⟨#[97]⟩) rfl ?_
    refine cPl (dT ⟨#[97]⟩) fun v μ2 hle2 hR=>?_
    have w_:=Tm.invV hR
    obtain⟨p,rfl⟩:=w_
    exact rPl ⟨hc1.mono hle2,.sym ⟨#[97]⟩,hR,Drawn.atom (t:= .sym ⟨#[97]⟩) (kZ (by decide)) rfl (fun _ h=>h) 0⟩
   ·refine aX 1 rfl (by decide) ?_
    refine aW (.string ⟨#[98]⟩) rfl ?_
    refine cPl (dT ⟨#[98]⟩) fun v μ2 hle2 hR=>?_
    have w_:=Tm.invV hR
    obtain⟨p,rfl⟩:=w_
    exact rPl ⟨hc1.mono hle2,.sym ⟨#[98]⟩,hR,Drawn.atom (t:= .sym ⟨#[98]⟩) (kZ (by decide)) rfl (fun _ h=>h) 0⟩
   ·refine aX 2 rfl (by decide) ?_
    refine aW (.string ⟨#[99]⟩) rfl ?_
    refine cPl (dT ⟨#[99]⟩) fun v μ2 hle2 hR=>?_
    have w_:=Tm.invV hR
    obtain⟨p,rfl⟩:=w_
    exact rPl ⟨hc1.mono hle2,.sym ⟨#[99]⟩,hR,Drawn.atom (t:= .sym ⟨#[99]⟩) (kZ (by decide)) rfl (fun _ h=>h) 0⟩
  ·refine rPl ⟨hc1, .nil, ?_, Drawn.atom (t := .nil) trivial rfl (fun _ h => h) 0⟩
   rw[T.tm,Tm.d_mk]
   exact⟨_,rfl,RepS.int (RepS.int (RepS.str (RepS.last (Rep.nilSl 4))))⟩
theorem cN(vars:Nat)(hv:vars≤1000):∀(size:Nat) {μ h:Mem} {r:Nat},size≤1000→Cur μ h r h→SpecH Tryz.prog 128 [.pointer (some ⟨r,0,none⟩),.int .i64 size,.int .i64 vars] μ h fun v μ' h'=>wO h r (lvB size) vars v μ' h':=fun size=>by
 induction size using Nat.strongRecOn with
 |ind size ih=>
  intro μ h r hs hc
  refine SpecH.mk [] Tryz.func128 (by kernel_rfl) ?_
  intro r1
  refine cOw (aI hc 8) fun v μ1 h1 hle1 hap1 hR=>?_
  obtain⟨e,hc1,k,rfl,hk,hk8,_⟩:=hR
  obtain rfl:=e.symm
  have hk8:=hk8 (by decide)
  refine ifd (fun h2=>?_) (fun h2=>?_)
  ·refine ifd (fun h3 => ?_) (fun h3 => ?_)
   ·have hq:IntKind.i64.wrap ((size:Int).tdiv 2)=((size / 2:Nat):Int):=by
     rw[Int.tdiv_eq_ediv_of_nonneg (by omega),aA (by omega) (by omega)];omega
    refine aC (by decide) (nEq hq ?_)
    refine cOw (ih (size / 2) (by omega) (by omega) hc1.at) fun v μ2 h4 hle2 hap2 hR=>?_
    obtain⟨hc2,a,ha,hda⟩:=hR
    have w_:=Tm.invV ha
    obtain⟨p,rfl⟩:=w_
    intro r2
    refine aC (by decide) (nEq hq ?_)
    refine cOw (ih (size / 2) (by omega) (by omega) hc2.at) fun v μ3 h5 hle3 hap3 hR=>?_
    obtain⟨hc3,b,hb,hdb⟩:=hR
    refine cPl (fO (ha.mono hle3) hb) fun v μ4 hle4 hR=>?_
    have w_:=Tm.invV hR
    obtain⟨p,rfl⟩:=w_
    refine rPl ⟨(hc1.trans (hc2.trans hc3)).mono hle4,.pair a b,hR,?_⟩
    have h2:2<size:=by omega
    rw[lvB,if_pos h2,Nat.two_mul]
    exact hda.pair hdb
   ·refine ifd (fun h6 => ?_) (fun h6 => ?_)
    ·refine aC (by decide) ?_
     refine aO fun x _=>?_
     refine ifd (fun h7=>?_) (fun h7=>?_)
     ·refine cOw (aI hc1.at vars) fun v μ2 h4 hle2 hap2 hR => ?_
      obtain⟨e,hc2,j,rfl,hj,hj2,_⟩:=hR
      obtain rfl:=e.symm
      have hj2:=hj2 (by omega)
      refine cGv (gS _) ?_
      refine rPl ⟨hc1.trans hc2,.var j,gP _,⟨by show 0≤(j:Int)∧(j:Int)≤100000;omega,fun n hn=>?_,iO _⟩⟩
      have hn:(j:Int)=n:=hn
      omega
     ·refine cOw (eI hc1.at) fun v μ2 h4 hle2 hap2 hR => ?_
      obtain⟨hc2,a,ha,hda⟩:=hR
      have w_:=Tm.invV ha
      obtain⟨p,rfl⟩:=w_
      exact rPl ⟨hc1.trans hc2,a,ha,(hda.wide (by omega)).mono (iO _)⟩
    ·refine cOw (eI hc1.at) fun v μ2 h4 hle2 hap2 hR => ?_
     obtain⟨hc2,a,ha,hda⟩:=hR
     have w_:=Tm.invV ha
     obtain⟨p,rfl⟩:=w_
     exact rPl ⟨hc1.trans hc2,a,ha,(hda.wide (by omega)).mono (iO _)⟩
  ·refine ifd (fun h6 => ?_) (fun h6 => ?_)
   ·refine aC (by decide) ?_
    refine aO fun x _=>?_
    refine ifd (fun h7=>?_) (fun h7=>?_)
    ·refine cOw (aI hc1.at vars) fun v μ2 h4 hle2 hap2 hR => ?_
     obtain⟨e,hc2,j,rfl,hj,hj2,_⟩:=hR
     obtain rfl:=e.symm
     have hj2:=hj2 (by omega)
     refine cGv (gS _) ?_
     refine rPl ⟨hc1.trans hc2,.var j,gP _,⟨by show 0≤(j:Int)∧(j:Int)≤100000;omega,fun n hn=>?_,iO _⟩⟩
     have hn:(j:Int)=n:=hn
     omega
    ·refine cOw (eI hc1.at) fun v μ2 h4 hle2 hap2 hR => ?_
     obtain⟨hc2,a,ha,hda⟩:=hR
     have w_:=Tm.invV ha
     obtain⟨p,rfl⟩:=w_
     exact rPl ⟨hc1.trans hc2,a,ha,(hda.wide (by omega)).mono (iO _)⟩
   ·refine cOw (eI hc1.at) fun v μ2 h4 hle2 hap2 hR => ?_
    obtain⟨hc2,a,ha,hda⟩:=hR
    have w_:=Tm.invV ha
    obtain⟨p,rfl⟩:=w_
    exact rPl ⟨hc1.trans hc2,a,ha,(hda.wide (by omega)).mono (iO _)⟩
end
end Go.Vx
namespace Go.Vx
open Go.Proofs Classical
theorem T.ext_args{x y:T}(h1:x.tm.kind=y.tm.kind)(h2:x.tm.num=y.tm.num)(h3:x.tm.name=y.tm.name)(h4:x.args=y.args):x=y:=by
 cases x<;>cases y<;>simp_all [T.tm,Tm.kind,Tm.num,Tm.name,T.args]
theorem nK{α:Type}{l m:List α}(hl:l.length=m.length)(h:∀(j:Nat) x y,l[j]? =some x→m[j]? =some y→x=y):l=m:=
 List.ext_getElem? fun j=>by
  rcases Nat.lt_or_ge j l.length with k|k
  ·have w_ := aSo (l := l) (i := j) k
   obtain⟨x,hx⟩:=w_
   have w_:=aSo (l:=m) (i:=j) (by omega)
   obtain⟨y,hy⟩:=w_
   rw[hx,hy,h j x y hx hy]
  ·rw[List.getElem?_eq_none k,List.getElem?_eq_none (by omega)]
section
variable {μ:Mem}
theorem zA:∀(x y:T) {v w:Value},RepV μ x.tm.d v→RepV μ y.tm.d w→aM Tryz.prog 175 [v,w] μ (.bool (decide (x=y))):=
 T.ind fun x ih y v w hv hw=>by
  have w_:=T.inv hv
  obtain⟨base,cap,rfl,hsl⟩:=w_
  have w_:=T.inv hw
  obtain⟨base2,cap2,rfl,hsl2⟩:=w_
  have hn:=aH hsl.max
  refine Spec.mk Tryz.func175 (by kernel_rfl) ?_
  intro r1 r2
  refine aL (fun h1=>rGv (isF fun e=>h1 (by rw[e])) rfl) (fun h1=>?_)
  refine aL (fun h2=>rGv (isF fun e=>h2 (by rw[e])) rfl) (fun h2=>?_)
  refine aL (fun h3=>rGv (isF fun e=>h3 (by rw[e])) rfl) (fun h3=>?_)
  refine aL (fun h4=>rGv (isF fun e=>h4 (by rw[e])) rfl) (fun h4=>?_)
  have h4:x.args.length=y.args.length:=by omega
  refine lIn (fun i:Nat=>i≤x.args.length∧∀j a b,j<i→x.args[j]? =some a→y.args[j]? =some b→a=b)
   (fun i=>⟨[(3,.loc 1 r2 0),(36,.val (.slice base x.args.length cap)),(37,.val (.int .i64 x.args.length)),(38,.val (.int .i64 i))],[(1,some (.cells r2 [.val (.int .i64 y.tm.kind),.val (.int .i64 y.tm.num),.val (.string y.tm.name),.val (.slice base2 y.args.length cap2)] 75))],2,μ,Mem.nil⟩) (fun i=>x.args.length-i)
   0 ⟨Nat.zero_le _,fun j a b hj=>absurd hj (Nat.not_lt_zero _)⟩ (fun _=>⟨rfl,rfl⟩) ⟨⟨rfl,rfl,rfl,rfl,trivial⟩,⟨rfl,trivial⟩,rfl,rfl⟩ ?_
  rintro i ⟨hi,heq⟩
  refine ifd (fun h=>?_) (fun h=>?_)
  ·have w_ := aSo (l := x.args) (i := i) (by omega)
   obtain⟨a,ha⟩:=w_
   have w_:=aSo (l:=y.args) (i:=i) (by omega)
   obtain⟨b,hb⟩:=w_
   have w_:=T.arg hsl ha
   obtain⟨ad,p,hel,hto⟩:=w_
   have w_:=T.arg hsl2 hb
   obtain⟨ad2,p2,hel2,hto2⟩:=w_
   refine eIn hel ?_
   intro r3
   refine eIn hel2 ?_
   refine cGv (ih a (mAt ha) b hto hto2) ?_
   refine aL (fun h5=>rGv (isF fun e=>h5 ?_) rfl) (fun h5=>?_)
   ·subst e
    rw[ha]at hb
    exact Option.some.inj hb
   ·refine aB (by omega) (by omega) ⟨i + 1, ⟨by omega, fun j c d hj hc hd => ?_⟩, by omega, ⟨⟨rfl, rfl, rfl, rfl, trivial⟩, ⟨rfl, trivial⟩, rfl, rfl⟩⟩
    rcases Nat.lt_or_ge j i with h6|h6
    ·exact heq j c d h6 hc hd
    ·obtain rfl : j = i := by omega
     rw[ha]at hc
     rw[hb]at hd
     cases hc;cases hd
     exact h5
  ·obtain rfl : i = x.args.length := by omega
   refine rGv (isT (T.ext_args h1 h2 h3 (nK h4 fun j a b ha hb=>?_))) rfl
   exact heq j a b (List.getElem?_eq_some_iff.1 ha).1 ha hb
theorem yS{x y:List T}{base base2:Option Addr}{cap cap2:Nat}(hsl:Sl μ 4 base x.length ((x.map T.tm).map Tm.d))(hsl2:Sl μ 4 base2 y.length ((y.map T.tm).map Tm.d)):
  aM Tryz.prog 104 [.slice base x.length cap,.slice base2 y.length cap2] μ (.bool (decide (x=y))):=by
 have hn:=aH hsl.max
 refine Spec.mk Tryz.func104 (by kernel_rfl) ?_
 refine aL (fun h4=>rGv (isF fun e=>h4 (by rw[e])) rfl) (fun h4=>?_)
 have h4:x.length=y.length:=by omega
 refine lIn (fun i:Nat=>i≤x.length∧∀j a b,j<i→x[j]? =some a→y[j]? =some b→a=b)
  (fun i=>⟨[(1,.val (.slice base2 y.length cap2)),(12,.val (.slice base x.length cap)),(13,.val (.int .i64 x.length)),(14,.val (.int .i64 i))],[],0,μ,Mem.nil⟩) (fun i=>x.length-i)
  0 ⟨Nat.zero_le _,fun j a b hj=>absurd hj (Nat.not_lt_zero _)⟩ (fun _=>⟨rfl,rfl⟩) ⟨⟨rfl,rfl,rfl,rfl,trivial⟩,trivial,rfl,rfl⟩ ?_
 rintro i ⟨hi,heq⟩
 refine ifd (fun h=>?_) (fun h=>?_)
 rotate_left
 ·obtain rfl : i = x.length := by omega
  refine rGv (isT (nK h4 fun j a b ha hb=>?_)) rfl
  exact heq j a b (List.getElem?_eq_some_iff.1 ha).1 ha hb
 have w_:=aSo (l:=x) (i:=i) (by omega)
 obtain⟨a,ha⟩:=w_
 have w_:=aSo (l:=y) (i:=i) (by omega)
 obtain⟨b,hb⟩:=w_
 have w_:=Tm.elem (i:=i) (t:=a.tm) hsl (by simp[ha])
 obtain⟨ad,p,hel,hto⟩:=w_
 have w_:=Tm.elem (i:=i) (t:=b.tm) hsl2 (by simp[hb])
 obtain⟨ad2,p2,hel2,hto2⟩:=w_
 refine eIn hel ?_
 intro r3
 refine eIn hel2 ?_
 refine cGv (zA a b hto hto2) ?_
 refine aL (fun h5=>rGv (isF fun e=>h5 ?_) rfl) (fun h5=>?_)
 ·subst e
  rw[ha]at hb
  exact Option.some.inj hb
 ·refine aB (by omega) (by omega) ⟨i + 1, ⟨by omega, fun j c d hj hc hd => ?_⟩, by omega, ⟨⟨rfl, rfl, rfl, rfl, trivial⟩, trivial, rfl, rfl⟩⟩
  rcases Nat.lt_or_ge j i with h6|h6
  ·exact heq j c d h6 hc hd
  ·obtain rfl : j = i := by omega
   rw[ha]at hc
   rw[hb]at hd
   cases hc;cases hd
   exact h5
end
end Go.Vx
namespace Go.Vx
open Go.Proofs Classical
mutual
theorem Gl.cb_pos:∀g:Gl,1≤g.cb
 | .mk k s ts gs=>by
  rw[Gl.cb]
  split
  ·omega
  ·split
   ·exact Gl.cbAnd_pos gs
   ·exact Nat.le_refl _
theorem Gl.cbAnd_pos:∀l:List Gl,1≤Gl.cbAnd l
 |[]=>Nat.le_refl _
 |g::r=>by
  rw[Gl.cbAnd]
  exact Nat.mul_pos g.cb_pos (Gl.cbAnd_pos r)
end
mutual
theorem Gl.cl_cb:∀g:Gl,g.cb≤64→∃L,g.cl=some L∧L.length≤g.cb
 | .mk k s ts gs,h=>by
  rw[Gl.cb]at h ⊢
  rw[Gl.cl]
  by_cases h0:k=0
  ·subst h0;exact⟨_,rfl,by simp⟩
  rw[if_neg h0]
  by_cases h1:k=1
  ·subst h1;exact⟨_,rfl,by simp⟩
  rw[if_neg h1]
  by_cases h8:k=8
  ·rw [if_pos h8] at h ⊢
   rw[if_pos h8]
   have w_:=Gl.clOr_cb gs [] (by simp only[List.length_nil];omega)
   obtain⟨L,h2,h3⟩:=w_
   exact⟨L,h2,by simp only[List.length_nil]at h3;omega⟩
  rw[if_neg h8]at h ⊢
  rw[if_neg h8]
  by_cases h7:k=7
  ·rw [if_pos h7] at h ⊢
   rw[if_pos h7]
   have w_:=Gl.clAnd_cb gs [[]] 1 (Nat.le_refl _) (Nat.le_refl _) (by rw[Nat.one_mul];exact h)
   obtain⟨L,h2,h3⟩:=w_
   exact⟨L,h2,by rw[Nat.one_mul]at h3;exact h3⟩
  ·rw [if_neg h7, if_neg h7]
   exact⟨_,rfl,Nat.le_refl _⟩
theorem Gl.clOr_cb:∀(l:List Gl) (acc:List (List Gl)),acc.length+Gl.cbOr l≤64→∃L,Gl.clOr l acc=some L∧L.length≤acc.length+Gl.cbOr l
 |[],acc,_=>⟨acc,rfl,by rw[Gl.cbOr];omega⟩
 |g::r,acc,h=>by
  rw[Gl.cbOr]at h ⊢
  have w_:=Gl.cl_cb g (by omega)
  obtain⟨L,h1,h2⟩:=w_
  have hl:(acc++L).length≤acc.length+g.cb:=by rw[List.length_append];omega
  have w_:=Gl.clOr_cb r (acc++L) (by omega)
  obtain⟨M,h3,h4⟩:=w_
  refine⟨M,?_,by omega⟩
  rw[Gl.clOr,h1,Option.bind_some,if_pos (by omega)]
  exact h3
theorem Gl.clAnd_cb:∀(l:List Gl) (acc:List (List Gl)) (A:Nat),acc.length≤A→1≤A→A*Gl.cbAnd l≤64→∃L,Gl.clAnd l acc=some L∧L.length≤A*Gl.cbAnd l
 |[],acc,A,hA,_,_=>⟨acc,rfl,by rw[Gl.cbAnd];omega⟩
 |g::r,acc,A,hA,hA1,h=>by
  rw[Gl.cbAnd]at h ⊢
  have hr:=Gl.cbAnd_pos r
  have hgp:=g.cb_pos
  have hmul:A*(g.cb*Gl.cbAnd r)=A*g.cb*Gl.cbAnd r:=(Nat.mul_assoc _ _ _).symm
  rw[hmul]at h ⊢
  have h1:A*g.cb≤64:=Nat.le_trans (Nat.le_mul_of_pos_right _ hr) h
  have w_:=Gl.cl_cb g (Nat.le_trans (Nat.le_mul_of_pos_left _ hA1) h1)
  obtain⟨L,h2,h3⟩:=w_
  have hl:(cK acc L).length≤A*g.cb:=by rw[dW];exact Nat.mul_le_mul hA h3
  have w_:=Gl.clAnd_cb r (cK acc L) (A*g.cb) hl (Nat.mul_pos hA1 hgp) h
  obtain⟨M,h4,h5⟩:=w_
  refine⟨M,?_,h5⟩
  rw[Gl.clAnd,h2,Option.bind_some,if_pos (by omega)]
  exact h4
end
theorem qEo(U:List T)(r:Rl)(i:Nat)(c:List Gl)(w:Nat):(bI U r i c w).length≤w:=by
 have:=List.length_filterMap_le (dY U r i c) (List.range w)
 rw[List.length_range]at this
 exact this
theorem wF(U:List T)(r:Rl)(L:List (List Gl)):∀k,(aY U r L k).length≤k*U.length ^ (r.arity+r.locals).toNat
 |0=>by simp[aY]
 |k+1=>by
  have ih:=wF U r L k
  have h:=qEo U r k (L.getD k []) (U.length ^ (r.arity+r.locals).toNat)
  have e:aY U r L (k+1)=aY U r L k++bI U r k (L.getD k []) (U.length ^ (r.arity+r.locals).toNat):=by
   rw[aY,List.range_succ,List.flatMap_append];simp[aY]
  rw[e,List.length_append,Nat.succ_mul]
  omega
theorem qEn{U:List T}{m:Nat}(hU:U.length≤m){r:Rl}(h:r.body.cb≤64):(cD U r).length≤r.body.cb*m ^ (r.arity+r.locals).toNat:=by
 have w_:=Gl.cl_cb r.body h
 obtain⟨L,h1,h2⟩:=w_
 rw[cD,h1]
 refine Nat.le_trans (wF U r L L.length) ?_
 exact Nat.mul_le_mul h2 (Nat.pow_le_pow_left hU _)
theorem wG{U:List T}{m:Nat}(hU:U.length≤m):∀l:List Rl,(∀r∈l,r.body.cb≤64)→(l.flatMap (cD U)).length≤qEm m l
 |[],_=>Nat.le_refl _
 |r::l,h=>by
  rw[List.flatMap_cons,List.length_append,qEm]
  have h1:=qEn hU (h r (by simp))
  have h2:=wG hU l fun x hx=>h x (by simp[hx])
  omega
theorem qAg{p:Pg}{m:Nat}(h:lE m p=true){U:List T}(hU:U.length≤m):cI p U=some (cC p U):=by
 rw[lE,Bool.and_eq_true,List.all_eq_true,decide_eq_true_eq]at h
 have hc:∀r∈p.rels,r.body.cb≤64∧m ^ (r.arity+r.locals).toNat≤4096:=fun r hr=>of_decide_eq_true (h.1 r hr)
 refine if_pos ⟨fun r hr=>⟨fun e=>?_,Nat.le_trans (Nat.pow_le_pow_left hU _) (hc r hr).2⟩,Nat.le_trans (wG hU p.rels fun r hr=>(hc r hr).1) h.2⟩
 have w_:=Gl.cl_cb r.body (hc r hr).1
 obtain⟨L,h1,_⟩:=w_
 rw[h1]at e
 cases e
theorem cZ(l:Bs)(i j:Nat):(mkS l).extract i j=mkS ((l.drop i).take (j-i)):=by
 have e:((mkS l).extract i j).data=((l.drop i).take (j-i)).toArray:=by
  rw[ByteArray.data_extract]
  simp[mkS,List.extract_eq_take_drop]
 cases h:(mkS l).extract i j
 rw[h]at e
 simp only at e
 rw[e]
 rfl
theorem dK(l:Bs):(mkS l).size=l.length:=by simp[mkS,ByteArray.size]
theorem aZ(a b:Bs):mkS a++mkS b=mkS (a++b):=yH a b
theorem tA(b:UInt8):cX b=decide (b.toNat=32∨b.toNat=10∨b.toNat=40∨b.toNat=41∨b.toNat=59):=by
 rw[Bool.eq_iff_iff]
 simp[cX,←UInt8.toNat_inj,or_assoc]
theorem tw{α:Type}{p:α→Bool}:∀(m:List α) (n:Nat),n≤m.length→(∀(k:Nat) b,k<n→m[k]? =some b→p b=true)→(∀b,m[n]? =some b→p b=false)→m.takeWhile p=m.take n∧m.dropWhile p=m.drop n
 |[],n,_,_,_=>by simp
 |b::r,0,_,_,h=>by
  have:=h b rfl
  simp[this]
 |b::r,n+1,hn,h,h'=>by
  have hb:=h 0 b (by omega) rfl
  have w_:=tw r n (by simpa using hn) (fun k c hk hc=>h (k+1) c (by omega) (by simpa using hc)) (fun c hc=>h' c (by simpa using hc))
  obtain⟨h1,h2⟩:=w_
  simp[hb,h1,h2]
theorem eM:∀(n m:Nat) (l:Bs),l.length≤n→l.length≤m→cQ n l=cQ m l
 |0,m,l,h,_=>by
  have:l=[]:=List.length_eq_zero_iff.1 (by omega)
  subst this
  cases m<;>rfl
 |n+1,0,l,_,h=>by
  have:l=[]:=List.length_eq_zero_iff.1 (by omega)
  subst this
  rfl
 |n+1,m+1,[],_,_=>rfl
 |n+1,m+1,b::r,h,h'=>by
  have h1:r.length≤n:=by simpa using h
  have h2:r.length≤m:=by simpa using h'
  have hd:∀p:UInt8→Bool,(r.dropWhile p).length≤r.length:=fun p=>(List.dropWhile_sublist p).length_le
  rw[cQ,cQ,eM n m r h1 h2,eM n m _ (Nat.le_trans (hd _) h1) (Nat.le_trans (hd _) h2),eM n m _ (Nat.le_trans (hd _) h1) (Nat.le_trans (hd _) h2)]
theorem zE{N:Nat}{b:UInt8}{r:Bs}(hN:(b::r).length≤N)(h:cX b=false):cQ N (b::r)=(b::r.takeWhile fun c=> !cX c)::cQ N (r.dropWhile fun c=> !cX c):=by
 cases N with
 |zero=>simp at hN
 |succ N=>
  have h59:(b==59)=false:=by
   cases e:b==59
   ·rfl
   ·simp[cX,e]at h
  have hl:(r.dropWhile fun c=> !cX c).length≤N:=Nat.le_trans (List.dropWhile_sublist _).length_le (by simpa using hN)
  rw[cQ,if_neg (by simp[h59]),if_pos (by simp[h]),eM (N+1) N _ (by omega) hl]
theorem tO{N:Nat}{b:UInt8}{r:Bs}(hN:(b::r).length≤N)(h:b.toNat=40∨b.toNat=41):cQ N (b::r)=[b]::cQ N r:=by
 cases N with
 |zero=>simp at hN
 |succ N=>
  have hl:r.length≤N:=by simpa using hN
  have hb:b=40∨b=41:=h.imp (fun e=>UInt8.toNat_inj.1 e) fun e=>UInt8.toNat_inj.1 e
  rw[eM (N+1) N r (by omega) hl]
  rcases hb with rfl|rfl<;>rfl
theorem qGi{N:Nat}{b:UInt8}{r:Bs}(hN:(b::r).length≤N)(h:b.toNat=32∨b.toNat=10):cQ N (b::r)=cQ N r:=by
 cases N with
 |zero=>simp at hN
 |succ N=>
  have hl:r.length≤N:=by simpa using hN
  have hb:b=32∨b=10:=h.imp (fun e=>UInt8.toNat_inj.1 e) fun e=>UInt8.toNat_inj.1 e
  rw[eM (N+1) N r (by omega) hl]
  rcases hb with rfl|rfl<;>rfl
theorem bE{α:Type}{l:List α}{i:Nat}{b:α}(h:l[i]? =some b):l.drop i=b::l.drop (i+1):=by
 have w_:=List.getElem?_eq_some_iff.1 h
 obtain⟨h1,h2⟩:=w_
 rw[List.drop_eq_getElem_cons h1,h2]
theorem tN{l:Bs}{N i j:Nat}{b:UInt8}(hN:l.length≤N)(hb:l[i]? =some b)(h:cX b=false)(hij:i<j)(hj:j≤l.length)(hin:∀(k:Nat) b,i<k→k<j→l[k]? =some b→cX b=false)(hout:∀b,l[j]? =some b→cX b=true):
  cQ N (l.drop i)=(l.drop i).take (j-i)::cQ N (l.drop j):=by
 have hdl:(l.drop i).length≤N:=by rw[List.length_drop];omega
 rw[bE hb]at hdl ⊢
 have w_:=tw (p:=fun c=> !cX c) (l.drop (i+1)) (j-(i+1)) (by rw[List.length_drop];omega)
  (fun k c hk hc => by
   rw[List.getElem?_drop]at hc
   simp[hin _ c (by omega) (by omega) hc])
  (fun c hc => by
   rw[List.getElem?_drop,show i+1+(j-(i+1))=j from by omega]at hc
   simp[hout c hc])
 obtain⟨h1,h2⟩:=w_
 rw[zE hdl h,h1,h2,List.drop_drop,show i+1+(j-(i+1))=j from by omega]
 congr 1
 rw[show j-i=(j-(i+1))+1 from by omega,List.take_succ_cons]
theorem iN(t:Bs):wX t=decide (jZ (mkS t)):=by
 have key:∀(t:Bs) (f:Bool),nmB f t=true↔∀(i:Nat) b,t[i]? =some b→tR (f&&i==0) b:=by
  intro t
  induction t with
  |nil=>intro f;simp[nmB]
  |cons c r ih=>
   intro f
   rw[nmB,Bool.and_eq_true,ih false]
   constructor
   ·rintro ⟨h1, h2⟩ i b hb
    cases i with
    |zero=>
     simp only[List.getElem?_cons_zero,Option.some.injEq]at hb
     subst hb
     simp only[Bool.or_eq_true,Bool.and_eq_true,decide_eq_true_eq,beq_iff_eq,Bool.not_eq_true',UInt8.le_iff_toNat_le]at h1
     rcases h1 with h1|⟨h0,h1⟩
     ·exact .inl h1
     ·refine .inr ⟨by simp [h0], ?_⟩
      rcases h1 with h1|h1
      ·exact .inl h1
      ·rw[h1];exact .inr rfl
    |succ i=>
     simp only[List.getElem?_cons_succ]at hb
     have:=h2 i b hb
     simpa using this
   ·intro h
    refine⟨?_,fun i b hb=>?_⟩
    ·have := h 0 c rfl
     simp only[Bool.or_eq_true,Bool.and_eq_true,decide_eq_true_eq,beq_iff_eq,Bool.not_eq_true',UInt8.le_iff_toNat_le]
     rcases this with k|⟨k0,k⟩
     ·exact .inl k
     ·refine .inr ⟨by simpa using k0, ?_⟩
      rcases k with k|k
      ·exact .inl k
      ·exact .inr (UInt8.toNat_inj.1 k)
    ·have := h (i + 1) b (by simpa using hb)
     simpa using this
 rw[Bool.eq_iff_iff,wX,Bool.and_eq_true,Bool.and_eq_true,key t true]
 simp only[decide_eq_true_eq]
 constructor
 ·rintro ⟨⟨h1, h2⟩, h3⟩
  exact⟨by rw[dK];exact h1,by rw[dK];exact h2,fun i b hb=>by simpa using h3 i b hb⟩
 ·rintro ⟨h1, h2, h3⟩
  rw[dK]at h1 h2
  exact⟨⟨h1,h2⟩,fun i b hb=>by simpa using h3 i b hb⟩
theorem nL:∀(l names:List Bs),(cA l names).1.length=l.length
 |[],_=>rfl
 |t::r,names=>by
  rw[cA]
  split
  ·simp[nL r]
  ·simp[nL r]
theorem qEv(names:List Bs)(t:Bs):names.length≤(fR names t).length:=by
 rw[fR];split
 ·exact Nat.le_refl _
 ·simp
theorem cY:∀(l names:List Bs),names.length≤(cA l names).2.length
 |[],_=>Nat.le_refl _
 |t::r,names=>by
  rw[cA]
  split
  ·exact Nat.le_trans (qEv names t) (cY r _)
  ·exact cY r _
theorem qBl{names:List Bs}{t:Bs}{k:Nat}(hk:k≤names.length)(h:∀(j:Nat) x,j<k→names[j]? =some x→x≠t)(h2:∀x,names[k]? =some x→x=t):names.idxOf t=k:=by
 induction names generalizing k with
 |nil=>simp at hk;subst hk;rfl
 |cons x r ih=>
  rw[List.idxOf_cons]
  cases k with
  |zero=>simp[h2 x rfl]
  |succ k=>
   have hx:=h 0 x (by omega) rfl
   rw[ih (k:=k) (by simpa using hk) (fun j y hj hy=>h (j+1) y (by omega) (by simpa using hy)) (fun y hy=>h2 y (by simpa using hy))]
   rw[beq_false_of_ne hx]
   rfl
theorem zF{ts:List T}{n:Int}(h:∀t∈ts,∀v,t.occ v→0≤v∧v<n){k:Int}{s:ByteArray}{gs:List Gl}:∀v∈(Gl.mk k s (ts.map T.tm) gs).tvars,v<n:=fun v hv=>by
 unfold Gl.tvars at hv
 have e:((Gl.mk k s (ts.map T.tm) gs).terms.map Tm.toT)=ts:=toTs_tm'
 rw[e]at hv
 have w_:=List.mem_flatMap.1 hv
 obtain⟨t,ht,hv⟩:=w_
 exact(h t ht v (xB hv)).2
theorem Dr.leaf{sg:Sig}{n mode:Int}{k:Int}{s:ByteArray}{ts:List T}(top:TopOk (.mk k s (ts.map T.tm) []))(hk:k≠10)(h7:k≠7)(h8:k≠8)(ht:∀t∈ts,∀v,t.occ v→0≤v∧v<n)(hc:k=9→(s,(ts.length:Int))∈sg):Dr sg n mode 1 1 (.mk k s (ts.map T.tm) []) where
 sh:= .mk top fun x hx=>by cases hx
 cnt:=Nat.le_refl _
 cb:=by rw[Gl.cb,if_neg h8,if_neg h7];exact Nat.le_refl _
 vars:=fun v hv=>by
  rcases qCx hv with hv|⟨x,hx,_⟩
  ·exact zF ht v hv
  ·cases hx
 calls:=fun x hx h9=>by
  rcases qFw hx with rfl|⟨y,hy,_⟩
  ·have := hc h9
   show(s,((ts.map T.tm).length:Int))∈sg
   rw[List.length_map]
   exact this
  ·cases hy
 pos:=fun _=>(Gl.pos_eq _).2 ⟨hk,fun x hx=>by cases hx⟩
theorem qU{sg:Sig}{n mode:Int}{m b:Nat}:∀{gs:List Gl},(∀g∈gs,Dr sg n mode m b g)→Gl.cnts gs≤gs.length*m
 |[],_=>Nat.zero_le _
 |g::r,h=>by
  have h1:=(h g (by simp)).cnt
  have h2:=qU (gs:=r) fun x hx=>h x (by simp[hx])
  rw[Gl.cnts,List.length_cons,Nat.succ_mul]
  omega
theorem qBf{sg:Sig}{n mode:Int}{m:Nat}:∀{gs:List Gl},(∀g∈gs,Dr sg n mode m 1 g)→Gl.cbAnd gs≤1
 |[],_=>Nat.le_refl _
 |g::r,h=>by
  have h1:=(h g (by simp)).cb
  have h2:=qBf (gs:=r) fun x hx=>h x (by simp[hx])
  rw[Gl.cbAnd]
  exact Nat.mul_le_mul h1 h2
theorem qHq{sg:Sig}{n mode:Int}{m:Nat}:∀{gs:List Gl},(∀g∈gs,Dr sg n mode m 1 g)→Gl.cbOr gs≤gs.length
 |[],_=>Nat.le_refl _
 |g::r,h=>by
  have h1:=(h g (by simp)).cb
  have h2:=qHq (gs:=r) fun x hx=>h x (by simp[hx])
  rw[Gl.cbOr,List.length_cons]
  omega
theorem xI{k:Int}{gs:List Gl}(hk:k=7∨k=8)(hl:gs.length≤8):TopOk (.mk k ⟨#[]⟩ [] gs) where
 tm:=fun t ht=>by cases ht
 k0:=by show 0≤k;omega
 k1:=by show k≤10;omega
 nm:=fun _=>rfl
 rel:=fun h=>by have h:k=9:=h;omega
 ln9:=fun _=>Nat.zero_le _
 ln2:=fun h=>by have h:k=2∨k=3∨k=6:=h;omega
 ln1:=fun h=>by have h:k=4∨k=5:=h;omega
 ln0:=fun _=>rfl
 gl:=hl
 gl0:=fun h=>by have h:k<7∨k=9:=h;omega
 gl1:=fun h=>by have h:k=10:=h;omega
 sy:=fun h=>by have h:k=6:=h;omega
 cl:=fun h=>by have h:k=10:=h;omega
theorem Dr.conj{sg:Sig}{n mode:Int}{m:Nat}{gs:List Gl}(h:∀g∈gs,Dr sg n mode m 1 g)(hl:gs.length≤8):Dr sg n mode (1+gs.length*m) 1 (.mk 7 ⟨#[]⟩ [] gs):=by
 have w_:=qDz (k:=7) h (by decide) (fun _=>by decide)
 obtain⟨h1,h2,h3⟩:=w_
 refine⟨.mk (xI (.inl rfl) hl) fun x hx=>(h x hx).sh,?_,?_,h1,h2,h3⟩
 ·rw [Gl.cnt]
  have:=qU h
  omega
 ·rw [Gl.cb, if_neg (by decide), if_pos rfl]
  exact qBf h
theorem Dr.disj{sg:Sig}{n mode:Int}{m:Nat}{gs:List Gl}(h:∀g∈gs,Dr sg n mode m 1 g)(hl:gs.length≤8)(h0:gs≠[]):Dr sg n mode (1+gs.length*m) gs.length (.mk 8 ⟨#[]⟩ [] gs):=by
 have w_:=qDz (k:=8) h (by decide) (fun _=>by decide)
 obtain⟨h1,h2,h3⟩:=w_
 refine⟨.mk (xI (.inr rfl) hl) fun x hx=>(h x hx).sh,?_,?_,h1,h2,h3⟩
 ·rw [Gl.cnt]
  have:=qU h
  omega
 ·rw [Gl.cb, if_pos rfl]
  have:=qHq h
  have:=List.length_pos_iff.2 h0
  omega
theorem xE{m B:Nat}:∀l:List Rl,(∀r∈l,r.body.cb*m ^ (r.arity+r.locals).toNat≤B)→qEm m l≤l.length*B
 |[],_=>Nat.zero_le _
 |r::l,h=>by
  have h1:=h r (by simp)
  have h2:=xE l fun x hx=>h x (by simp[hx])
  rw[qEm,List.length_cons,Nat.succ_mul]
  omega
theorem DrP.small{mode:Int}{l:List Rl}(h:DrP mode l){m:Nat}(hm:m≤3)(hm1:1≤m):lE m ⟨l⟩=true:=by
 have key:∀r∈l,r.body.cb≤3∧m ^ (r.arity+r.locals).toNat≤27:=fun r hr=>by
  refine⟨(h.body r hr).cb,?_⟩
  have h1:=h.ar r hr
  have h2:=h.lo r hr
  calc m ^ (r.arity+r.locals).toNat≤m ^ 3:=Nat.pow_le_pow_right hm1 (by omega)
   _≤3 ^ 3:=Nat.pow_le_pow_left hm 3
 have h3:=h.le
 rw[lE,Bool.and_eq_true,List.all_eq_true,decide_eq_true_eq]
 refine⟨fun r hr=>?_,?_⟩
 ·have := key r hr
  exact decide_eq_true ⟨by omega,by omega⟩
 ·have := xE (m := m) (B := 81) l fun r hr => Nat.mul_le_mul (key r hr).1 (key r hr).2
  show qEm m l≤2000
  have:l.length*81≤3*81:=Nat.mul_le_mul_right _ h3
  omega
theorem DrP.prom{mode:Int}{l:List Rl}(h:DrP mode l):MkP mode ⟨l⟩:=
 ⟨h.ok, h.small (by decide) (by decide), h.small (by decide) (by decide), h.pos, fun e => by
  have h1:=h.ne
  have e:l=[]:=e
  rw[e]at h1
  exact absurd h1 (by decide),fun r hr=>(h.ar r hr).1⟩
end Go.Vx
namespace Go.Vx
open Go.Proofs Classical
def jW(l:List Bs):List Value:=(l.map mkS).map Value.string
theorem nU(l:List Bs):(jW l).length=l.length:=by rw[jW,List.length_map,List.length_map]
theorem cH(l:List Bs)(t:Bs):jW (l++[t])=jW l++[.string (mkS t)]:=by simp[jW]
section
variable {μ:Mem}
theorem jD(b:UInt8):aM Tryz.prog 183 [.int .u8 (b.toNat:Int)] μ (.bool (cX b)):=by
 refine Spec.mk Tryz.func183 (by kernel_rfl) ?_
 rw[tA]
 repeat' (first
  |refine ifd (fun h=>?_) (fun h=>?_)
  |refine iIn (fun h=>?_) (fun h=>?_))
 all_goals
  refine rGv ?_ rfl
  refine congrArg Value.bool ?_
  first
   |(symm;exact decide_eq_true (by omega))
   |(rw[Bool.eq_iff_iff];simp only[decide_eq_true_eq];omega)
theorem bU{k:Nat}(hk:k≤9):aM Tryz.prog 185 [.int .i64 k] μ (.string (mkS [UInt8.ofNat (48+k)])):=by
 refine Spec.mk Tryz.func185 (by kernel_rfl) ?_
 refine ifd (fun h=>absurd h (by omega)) (fun _=>?_)
 refine lIn (fun _:Unit=>True) (fun _=>⟨[(0,.val (.int .i64 k)),(3,.val (.string ⟨#[]⟩))],[],0,μ,Mem.nil⟩) (fun _=>0) () trivial (fun _=>⟨rfl,rfl⟩) ⟨⟨rfl,rfl,trivial⟩,trivial,rfl,rfl⟩ ?_
 rintro- -
 refine ifd (fun h=>absurd h (by omega)) (fun _=>?_)
 refine aB (by omega) (by omega) (nEq (qQv (by omega) (by omega)) ?_)
 intro r
 have hb:(UInt8.ofNat (48+k)).toNat=48+k:=by rw[UInt8.toNat_ofNat'];omega
 refine bW [UInt8.ofNat (48+k)] (by simp only[List.map_cons,List.map_nil,hb];congr 2) ?_
 refine aC (by show 1+0≤_;decide) ?_
 refine rGv ?_ rfl
 exact congrArg Value.string (aZ [_] [])
theorem mL{k:Nat}(hk:k≤9):aM Tryz.prog 228 [.string (mkS [UInt8.ofNat (48+k)])] μ (.tuple #[.int .i64 k,.bool true]):=by
 have hb:(UInt8.ofNat (48+k)).toNat=48+k:=by rw[UInt8.toNat_ofNat'];omega
 have h0:(mkS [UInt8.ofNat (48+k)]).data.toList[0]? =some (UInt8.ofNat (48+k)):=rfl
 have hsz:(mkS [UInt8.ofNat (48+k)]).size=1:=rfl
 refine Spec.mk Tryz.func228 (by kernel_rfl) ?_
 refine ifd (fun _=>?_) (fun h=>absurd h (by omega))
 refine aN 0 _ rfl h0 ?_
 refine iIn (fun h=>absurd (of_decide_eq_true h) (by omega)) (fun hm=>?_)
 refine ifd (fun h=>absurd h (by omega)) (fun _=>?_)
 refine iIn (fun h=>absurd (of_decide_eq_true h) (by omega)) (fun _=>?_)
 refine lIn (fun i:Nat=>i≤1) (fun i=>⟨[(0,.val (.string (mkS [UInt8.ofNat (48+k)]))),(4,.val (.bool (decide (((UInt8.ofNat (48+k)).toNat:Int)=45)))),(5,.val (.string (mkS [UInt8.ofNat (48+k)]))),(6,.val (.int .i64 (if i=0 then 0 else -(k:Int)))),(7,.val (.int .i64 i))],[],0,μ,Mem.nil⟩) (fun i=>1-i)
  0 (by omega) (fun _=>⟨rfl,rfl⟩) ⟨⟨rfl,rfl,rfl,rfl,rfl,trivial⟩,trivial,rfl,rfl⟩ ?_
 intro i hi
 refine ifd (fun h=>?_) (fun h=>?_)
 ·obtain rfl : i = 0 := by omega
  refine aN 0 _ rfl h0 ?_
  refine aB (by omega) (by omega) (aB (by omega) (by omega) ?_)
  refine cGv (bG _ _ _ _) ?_
  refine iIn (fun h=>?_) (fun _=>?_)
  ·rw [decide_eq_true ⟨by omega, by omega⟩] at h
   cases h
  ·have hd : ((UInt8.ofNat (48 + k)).toNat : Int) - 48 = k := by omega
   rw[hd]
   refine aB (by omega) (by omega) ?_
   refine aC (by decide) ?_
   refine nEq (x:=if k=9 then -922337203685477579 else -922337203685477580) ?_ ?_
   ·have w_ : k = 0 ∨ k = 1 ∨ k = 2 ∨ k = 3 ∨ k = 4 ∨ k = 5 ∨ k = 6 ∨ k = 7 ∨ k = 8 ∨ k = 9 := by omega
    rcases w_ with rfl|rfl|rfl|rfl|rfl|rfl|rfl|rfl|rfl|rfl<;>rfl
   refine iIn (fun h=>absurd (of_decide_eq_true h) (by rw[if_pos rfl];split<;>omega)) (fun _=>?_)
   rw[if_pos rfl]
   refine aB (by omega) (by omega) (aB (by omega) (by omega) ?_)
   refine aB (by omega) (by omega) ⟨1,by omega,by omega,⟨⟨rfl,rfl,rfl,?_,rfl,trivial⟩,trivial,rfl,rfl⟩⟩
   show some (SV.val (.int .i64 _))=some (SV.val (.int .i64 _))
   congr 3
   simp
 ·obtain rfl : i = 1 := by omega
  refine iIn (fun h=>?_) (fun h=>?_)
  ·refine ifd (fun h => absurd h (by rw [if_neg (by decide)]; omega)) (fun _ => ?_)
   refine nEq (x:=(k:Int)) (by show IntKind.i64.wrap (0- -(k:Int))=(k:Int);rw[show(0:Int)- -(k:Int)=k from by omega];exact aA (by omega) (by omega)) ?_
   refine cGv (bU hk) ?_
   refine aL (fun h=>absurd rfl h) (fun _=>?_)
   exact rGv rfl rfl
  ·rw [hm] at h
   cases h
theorem oP{t:Bs}(h:wX t=true):aM Tryz.prog 228 [.string (mkS t)] μ (.tuple #[.int .i64 0,.bool false]):=by
 rw[iN,decide_eq_true_eq]at h
 obtain⟨h1,h2,h3⟩:=h
 have w_:=iK (s:=mkS t) (i:=0) (by omega)
 obtain⟨b0,hb0⟩:=w_
 have hc:97≤b0.toNat∧b0.toNat≤122:=(h3 0 b0 hb0).elim id fun k=>by have:=k.1;simp at this
 refine Spec.mk Tryz.func228 (by kernel_rfl) ?_
 refine ifd (fun _=>?_) (fun h=>absurd h (by omega))
 refine aN 0 _ rfl hb0 ?_
 refine iIn (fun h=>absurd (of_decide_eq_true h) (by omega)) (fun hm=>?_)
 refine ifd (fun h=>absurd h (by omega)) (fun _=>?_)
 refine iIn (fun h=>absurd (of_decide_eq_true h) (by omega)) (fun _=>?_)
 refine lIn (fun i:Nat=>i=0) (fun i=>⟨[(0,.val (.string (mkS t))),(4,.val (.bool (decide ((b0.toNat:Int)=45)))),(5,.val (.string (mkS t))),(6,.val (.int .i64 0)),(7,.val (.int .i64 i))],[],0,μ,Mem.nil⟩) (fun i=>0)
  0 rfl (fun _=>⟨rfl,rfl⟩) ⟨⟨rfl,rfl,rfl,rfl,rfl,trivial⟩,trivial,rfl,rfl⟩ ?_
 rintro i rfl
 refine ifd (fun _=>?_) (fun h=>absurd h (by omega))
 refine aN 0 _ rfl hb0 ?_
 refine aB (by omega) (by omega) (aB (by omega) (by omega) ?_)
 refine cGv (bG _ _ _ _) ?_
 refine iIn (fun _=>rGv rfl rfl) (fun h=>?_)
 rw[decide_eq_false (by omega)]at h
 cases h
set_option maxHeartbeats 1000000 in
theorem sQ{s:Bs}(hl:s.length≤400)(hb:∀b∈s,b.toNat≠59∧(b.toNat=10∨(32≤b.toNat∧b.toNat≤126))):
  Spec Tryz.prog 122 [.string (mkS s)] μ fun v μ'=>∃tv,v= .tuple #[tv,.bool true]∧NmV μ' ((cQ s.length s).map mkS) tv:=by
 have hsz:(mkS s).size=s.length:=dK s
 have at_:∀(i:Nat) b,s[i]? =some b→(mkS s).data.toList[i]? =some b:=fun i b h=>h
 refine Spec.mk Tryz.func122 (by kernel_rfl) ?_
 refine ifd (fun h=>absurd h (by omega)) (fun _=>?_)
 intro r0
 refine lIn (fun z:Nat×List Bs×List Value×Option Nat×Nat=>z.1≤s.length∧z.2.1.length≤z.1∧z.2.2.1=jW z.2.1∧z.2.1++cQ s.length (s.drop z.1)=cQ s.length s)
  (fun(i,_,ys,b,c)=>⟨[(0,.val (.string (mkS s))),(4,.row 0 b ys.length c),(5,.val (.int .i64 i))],[(0,some (.row b c 9 1 ys))],1,μ,Mem.nil⟩) (fun z=>s.length-z.1)
  (0,[],[],some r0,0) ⟨Nat.zero_le _,Nat.zero_le _,rfl,rfl⟩ (fun(_,_,_,_,_)=>⟨rfl,rfl⟩) ⟨⟨rfl,rfl,rfl,trivial⟩,⟨rfl,trivial⟩,rfl,rfl⟩ ?_
 rintro⟨i,L,ys,b,c⟩ ⟨hi,hLi,hys,hT⟩
 dsimp only at hi hLi hys hT
 have hyl:ys.length=L.length:=by rw[hys,nU]
 refine ifd (fun hlt=>?_) (fun hlt=>?_)
 ·obtain ⟨ch, hch⟩ : ∃ ch, s[i]? = some ch := ⟨_, List.getElem?_eq_getElem (by omega)⟩
  have hc:=hb ch (List.mem_of_getElem? hch)
  have hdl:(ch::s.drop (i+1)).length≤s.length:=by simp only[List.length_cons,List.length_drop];omega
  rw[bE hch]at hT
  refine aB (by omega) (by omega) ?_
  refine aN i ch rfl (at_ _ _ hch) ?_
  refine ifd (fun h=>absurd h (by omega)) (fun _=>?_)
  refine aN i ch rfl (at_ _ _ hch) ?_
  refine cGv (jD ch) ?_
  refine iIn (fun hbk=>?_) (fun hbk=>?_)
  ·have hbk : cX ch = false := by simpa using hbk
   rw[←bE hch]at hT
   refine lIn (fun j:Nat=>i<j∧j≤s.length∧∀(k:Nat) b,i<k→k<j→s[k]? =some b→cX b=false)
    (fun j=>⟨[(0,.val (.string (mkS s))),(4,.row 0 b ys.length c),(5,.val (.int .i64 i)),(6,.val (.int .i64 j))],[(0,some (.row b c 9 1 ys))],1,μ,Mem.nil⟩) (fun j=>s.length-j)
    (i+1) ⟨by omega,by omega,fun k b h1 h2=>by omega⟩ (fun _=>⟨rfl,rfl⟩) ⟨⟨rfl,rfl,rfl,rfl,trivial⟩,⟨rfl,trivial⟩,rfl,rfl⟩ ?_
   rintro j ⟨hij,hj,hin⟩
   refine ifd (fun hjl=>?_) (fun hjl=>?_)
   ·obtain ⟨cj, hcj⟩ : ∃ cj, s[j]? = some cj := ⟨_, List.getElem?_eq_getElem (by omega)⟩
    refine aN j cj rfl (at_ _ _ hcj) ?_
    refine cGv (jD cj) ?_
    refine iIn (fun hbj=>?_) (fun hbj=>?_)
    ·have hbj : cX cj = false := by simpa using hbj
     refine aB (by omega) (by omega) ⟨j+1,⟨by omega,by omega,fun k b h1 h2 hk=>?_⟩,by omega,⟨⟨rfl,rfl,rfl,rfl,trivial⟩,⟨rfl,trivial⟩,rfl,rfl⟩⟩
     by_cases e:k=j
     ·subst e;rw[hcj]at hk;cases hk;exact hbj
     ·exact hin k b h1 (by omega) hk
    ·have hbj : cX cj = true := by simpa using hbj
     refine aG i j rfl rfl (by omega) (by omega) ?_
     intro r1
     refine gIn ?_ ?_ fun b' c' hb'=>?_
     ·show(ys.length+1)*16≤_;omega
     ·exact Nat.le_trans (m:=100000000) (show ys.length+1≤_ by omega) (by decide)
     refine⟨(j,L++[(s.drop i).take (j-i)],_,b',c'),⟨by dsimp only;omega,by simp only[List.length_append,List.length_cons,List.length_nil];omega,?_,?_⟩,by dsimp only;omega,⟨⟨rfl,rfl,rfl,trivial⟩,⟨rfl,trivial⟩,rfl,rfl⟩⟩
     ·dsimp only
      rw[cH,hys,cZ]
     ·dsimp only
      rw[List.append_assoc,List.singleton_append]
      (rw[←hT,tN (Nat.le_refl _) hch hbk hij hj hin fun b hb=>by rw[hcj]at hb;cases hb;exact hbj])
   ·refine aG i j rfl rfl (by omega) (by omega) ?_
    intro r1
    refine gIn ?_ ?_ fun b' c' hb'=>?_
    ·show(ys.length+1)*16≤_;omega
    ·exact Nat.le_trans (m:=100000000) (show ys.length+1≤_ by omega) (by decide)
    refine⟨(j,L++[(s.drop i).take (j-i)],_,b',c'),⟨by dsimp only;omega,by simp only[List.length_append,List.length_cons,List.length_nil];omega,?_,?_⟩,by dsimp only;omega,⟨⟨rfl,rfl,rfl,trivial⟩,⟨rfl,trivial⟩,rfl,rfl⟩⟩
    ·dsimp only
     rw[cH,hys,cZ]
    ·dsimp only
     rw[List.append_assoc,List.singleton_append]
     (rw[←hT,tN (Nat.le_refl _) hch hbk hij hj hin fun b hb=>by have:=(List.getElem?_eq_some_iff.1 hb).1;omega])
  ·have hbk : cX ch = true := by simpa using hbk
   rw[tA]at hbk
   have hbk:=of_decide_eq_true hbk
   refine aN i ch rfl (at_ _ _ hch) ?_
   refine ifd (fun h40=>?_) (fun h40=>?_)
   ·refine aG i (i + 1) rfl rfl (by omega) (by omega) ?_
    intro r1
    refine gIn ?_ ?_ fun b' c' hb'=>?_
    ·show(ys.length+1)*16≤_;omega
    ·exact Nat.le_trans (m:=100000000) (show ys.length+1≤_ by omega) (by decide)
    refine⟨((i+1),L++[(s.drop i).take ((i+1)-i)],_,b',c'),⟨by dsimp only;omega,by simp only[List.length_append,List.length_cons,List.length_nil];omega,?_,?_⟩,by dsimp only;omega,⟨⟨rfl,rfl,rfl,trivial⟩,⟨rfl,trivial⟩,rfl,rfl⟩⟩
    ·dsimp only
     rw[cH,hys,cZ]
    ·dsimp only
     rw[List.append_assoc,List.singleton_append]
     (rw[←hT,tO hdl (by omega)];simp[hch,List.take_one])
   ·refine aN i ch rfl (at_ _ _ hch) ?_
    refine iIn (fun h41=>?_) (fun h41=>?_)
    ·have h41 := of_decide_eq_true h41
     refine aG i (i+1) rfl rfl (by omega) (by omega) ?_
     intro r1
     refine gIn ?_ ?_ fun b' c' hb'=>?_
     ·show(ys.length+1)*16≤_;omega
     ·exact Nat.le_trans (m:=100000000) (show ys.length+1≤_ by omega) (by decide)
     refine⟨((i+1),L++[(s.drop i).take ((i+1)-i)],_,b',c'),⟨by dsimp only;omega,by simp only[List.length_append,List.length_cons,List.length_nil];omega,?_,?_⟩,by dsimp only;omega,⟨⟨rfl,rfl,rfl,trivial⟩,⟨rfl,trivial⟩,rfl,rfl⟩⟩
     ·dsimp only
      rw[cH,hys,cZ]
     ·dsimp only
      rw[List.append_assoc,List.singleton_append]
      (rw[←hT,tO hdl (by omega)];simp[hch,List.take_one])
    ·have h41 := of_decide_eq_false h41
     refine⟨(i+1,L,ys,b,c),⟨by dsimp only;omega,by dsimp only;omega,hys,?_⟩,by dsimp only;omega,⟨⟨rfl,rfl,rfl,trivial⟩,⟨rfl,trivial⟩,rfl,rfl⟩⟩
     dsimp only
     rw[←hT,qGi hdl (by omega)]
 ·have e:cQ s.length (s.drop i)=[]:=by
   rw[List.drop_eq_nil_of_le (by omega)]
   cases s.length<;>rfl
  rw[e,List.append_nil]at hT
  refine lIn (fun k:Nat=>k≤s.length) (fun k=>⟨[(0,.val (.string (mkS s))),(4,.row 0 b ys.length c),(7,.val (.int .i64 k))],[(0,some (.row b c 9 1 ys))],1,μ,Mem.nil⟩) (fun k=>s.length-k)
   0 (Nat.zero_le _) (fun _=>⟨rfl,rfl⟩) ⟨⟨rfl,rfl,rfl,trivial⟩,⟨rfl,trivial⟩,rfl,rfl⟩ ?_
  intro k hk
  refine ifd (fun hks=>?_) (fun hks=>?_)
  ·obtain ⟨ck, hck⟩ : ∃ ck, s[k]? = some ck := ⟨_, List.getElem?_eq_getElem (by omega)⟩
   have hc:=hb ck (List.mem_of_getElem? hck)
   have next:∀K,K=k+1→K≤s.length:=fun K e=>by omega
   refine aN k ck rfl (at_ _ _ hck) ?_
   refine aL (fun h10=>?_) (fun h10=>?_)
   ·refine aN k ck rfl (at_ _ _ hck) ?_
    refine aB (by omega) (by omega) ?_
    refine cGv (bG _ _ _ _) ?_
    refine iIn (fun h=>?_) (fun h=>?_)
    ·rw [decide_eq_true ⟨by omega, by omega⟩] at h
     cases h
    ·exact aB (by omega) (by omega) ⟨k+1,by omega,by omega,⟨⟨rfl,rfl,rfl,trivial⟩,⟨rfl,trivial⟩,rfl,rfl⟩⟩
   ·exact aB (by omega) (by omega) ⟨k+1,by omega,by omega,⟨⟨rfl,rfl,rfl,trivial⟩,⟨rfl,trivial⟩,rfl,rfl⟩⟩
  ·refine ifd (fun h => absurd h (by omega)) (fun _ => ?_)
   refine rFz [0] fun μ4 hle4 hno hat=> .inl ⟨_,rfl,?_⟩
   rw[hys,jW]at hat ⊢
   rw[←hT]
   exact Rows.sl hat (Nm.rows (L.map mkS)) (by rw[List.length_map,List.length_map];exact Nat.le_trans (m:=1000) (by omega) (by decide))
end
end Go.Vx
namespace Go.Vx
open Go.Proofs Classical
theorem qAx{l:List Bs}(h:wN l=true){t:Bs}(ht:t∈l):qLw t=true:=by
 rw[wN,Bool.and_eq_true,List.all_eq_true]at h
 exact h.1 t ht
theorem sS{l:List Bs}(h:wN l=true):(cA l []).2.length≤9:=by
 rw[wN,Bool.and_eq_true]at h
 exact of_decide_eq_true h.2
theorem qCn{t:Bs}(h:qLw t=true):∃b r,t=b::r∧(b.toNat=63→wX r=true):=by
 cases t with
 |nil=>cases h
 |cons b r=>
  refine⟨b,r,rfl,fun hb=>?_⟩
  have e:b=63:=UInt8.toNat_inj.1 hb
  subst e
  rw[qLw,Bool.and_eq_true,Bool.or_eq_true]at h
  rcases h.2 with h|h
  ·cases h
  ·exact h
theorem dU{r:Bs}{l names:List Bs}{b:UInt8}(hb:b.toNat=63):cA ((b::r)::l) names=(uZ (names.idxOf (b::r))::(cA l (fR names (b::r))).1,(cA l (fR names (b::r))).2):=by
 have e:b=63:=UInt8.toNat_inj.1 hb
 subst e
 rw[cA,if_pos (by simp)]
theorem qBx{r:Bs}{l names:List Bs}{b:UInt8}(hb:b.toNat≠63):cA ((b::r)::l) names=((b::r)::(cA l names).1,(cA l names).2):=by
 have e:b≠63:=fun e=>hb (by rw[e];rfl)
 rw[cA,if_neg (by simpa using e)]
section
variable {μ:Mem}
set_option maxHeartbeats 1000000 in
theorem nG{l:List Bs}{base:Option Addr}{cap:Nat}(hs:Sl μ 1 base l.length ((l.map mkS).map D.s))(hl:l.length≤400)(hB:wN l=true):
  Spec Tryz.prog 184 [.slice base l.length cap] μ fun w μ'=>∃tv,w= .tuple #[tv,.int .i64 ((cA l []).2.length:Nat),.bool true]∧NmV μ' ((cA l []).1.map mkS) tv:=by
 have hcount:=sS hB
 refine Spec.mk Tryz.func184 (by kernel_rfl) ?_
 intro r0
 intro r1
 refine lIn (fun z:Nat×List Bs×List Bs×(List Value×Option Nat×Nat)×(List Value×Option Nat×Nat)=>z.1≤l.length∧z.2.2.2.1.1=jW z.2.1∧z.2.2.2.2.1=jW z.2.2.1∧z.2.2.1.length=z.1∧cA l []=(z.2.2.1++(cA (l.drop z.1) z.2.1).1,(cA (l.drop z.1) z.2.1).2))
  (fun(i,_,_,(ys1,b1,c1),(ys2,b2,c2))=>⟨[(5,.row 0 b1 ys1.length c1),(6,.row 1 b2 ys2.length c2),(14,.val (.slice base l.length cap)),(15,.val (.int .i64 l.length)),(16,.val (.int .i64 i))],[(1,some (.row b2 c2 9 1 ys2)),(0,some (.row b1 c1 9 1 ys1))],2,μ,Mem.nil⟩) (fun z=>l.length-z.1)
  (0,[],[],([],some r0,0),([],some r1,0)) ⟨Nat.zero_le _,rfl,rfl,rfl,rfl⟩ (fun(_,_,_,(_,_,_),(_,_,_))=>⟨rfl,rfl⟩) ⟨⟨rfl,rfl,rfl,rfl,rfl,trivial⟩,⟨rfl,rfl,trivial⟩,rfl,rfl⟩ ?_
 rintro⟨i,names,out,⟨ys1,b1,c1⟩,⟨ys2,b2,c2⟩⟩ ⟨hi,hy1,hy2,ho,hN⟩
 dsimp only at hi hy1 hy2 ho hN
 have hl1:ys1.length=names.length:=by rw[hy1,nU]
 have hl2:ys2.length=out.length:=by rw[hy2,nU]
 refine ifd (fun hlt=>?_) (fun hlt=>?_)
 ·obtain ⟨t, ht⟩ : ∃ t, l[i]? = some t := ⟨_, List.getElem?_eq_getElem (by omega)⟩
  have w_:=qCn (qAx hB (List.mem_of_getElem? ht))
  obtain⟨b0,rt,rfl,hnm⟩:=w_
  have w_:=Nm.elem (s:=mkS (b0::rt)) hs (i:=i) (by rw[List.getElem?_map,ht];rfl)
  obtain⟨ad,hel⟩:=w_
  have hnl:names.length≤9:=by
   have:=cY (l.drop i) names
   have e:(cA (l.drop i) names).2=(cA l []).2:=by rw[hN]
   rw[e]at this
   omega
  refine eIn hel ?_
  refine aN 0 b0 rfl rfl ?_
  refine aL (fun hb63=>?_) (fun hb63=>?_)
  ·have hb63 : b0.toNat ≠ 63 := by omega
   intro r3
   refine gIn ?_ ?_ fun b4 c4 hb4=>?_
   ·show(ys2.length+1)*16≤_;omega
   ·exact Nat.le_trans (m:=100000000) (show ys2.length+1≤_ by omega) (by decide)
   refine aB (by omega) (by omega) ⟨(i+1,names,out++[b0::rt],(ys1,b1,c1),(_,b4,c4)),⟨by dsimp only;omega,hy1,by dsimp only;rw[cH,hy2],by simp[ho],?_⟩,by dsimp only;omega,⟨⟨rfl,rfl,rfl,rfl,rfl,trivial⟩,⟨rfl,rfl,trivial⟩,rfl,rfl⟩⟩
   dsimp only
   rw[hN,bE ht,qBx hb63]
   simp
  ·have hb63 : b0.toNat = 63 := by omega
   have hrn:=hnm hb63
   have hex:(mkS (b0::rt)).extract 1 (mkS (b0::rt)).size=mkS rt:=by
    rw[cZ,dK];simp
   have hp:∀μ,aM Tryz.prog 228 [.string ((mkS (b0::rt)).extract 1 (mkS (b0::rt)).size)] μ (.tuple #[.int .i64 0,.bool false]):=fun μ=>by
    rw[hex];exact oP hrn
   rw[iN,decide_eq_true_eq]at hrn
   have hq:∀μ,aM Tryz.prog 199 [.string ((mkS (b0::rt)).extract 1 (mkS (b0::rt)).size)] μ (.bool true):=fun μ=>by
    rw[hex]
    have:=cO (mkS rt) (Nat.le_trans hrn.2.1 (by decide)) μ
    rwa [decide_eq_true hrn]at this
   have hsz:(mkS (b0::rt)).size=rt.length+1:=dK _
   refine aG 1 (mkS (b0::rt)).size rfl rfl (by omega) (Int.le_refl _) ?_
   refine cGv (hp _) ?_
   refine aG 1 (mkS (b0::rt)).size rfl rfl (by omega) (Int.le_refl _) ?_
   refine cGv (hq _) ?_
   refine iIn (fun h=>nomatch h) (fun _=>?_)
   refine lIn (fun k:Nat=>k≤names.length∧∀(j:Nat) x,j<k→names[j]? =some x→x≠b0::rt)
    (fun k=>⟨[(5,.row 0 b1 ys1.length c1),(6,.row 1 b2 ys2.length c2),(8,.val (.string (mkS (b0::rt)))),(11,.val (.int .i64 k)),(14,.val (.slice base l.length cap)),(15,.val (.int .i64 l.length)),(16,.val (.int .i64 i))],[(1,some (.row b2 c2 9 1 ys2)),(0,some (.row b1 c1 9 1 ys1))],2,μ,Mem.nil⟩) (fun k=>names.length-k)
    0 ⟨Nat.zero_le _,fun j x hj=>by omega⟩ (fun _=>⟨rfl,rfl⟩) ⟨⟨rfl,rfl,rfl,rfl,rfl,rfl,rfl,trivial⟩,⟨rfl,rfl,trivial⟩,rfl,rfl⟩ ?_
   rintro k ⟨hk,hall⟩
   refine ifd (fun hkn=>?_) (fun hkn=>?_)
   ·obtain ⟨x, hx⟩ : ∃ x, names[k]? = some x := ⟨_, List.getElem?_eq_getElem (by omega)⟩
    refine aX k rfl (by omega) (aW (.string (mkS x)) (by rw[hy1,jW,List.getElem?_map,List.getElem?_map,hx];rfl) ?_)
    refine iIn (fun hne=>?_) (fun hne=>?_)
    ·have hne : mkS x ≠ mkS (b0 :: rt) := by simpa using hne
     refine aB (by omega) (by omega) ⟨k+1,⟨by omega,fun j y hj hy=>?_⟩,by omega,⟨⟨rfl,rfl,rfl,rfl,rfl,rfl,rfl,trivial⟩,⟨rfl,rfl,trivial⟩,rfl,rfl⟩⟩
     by_cases e:j=k
     ·subst e; rw [hx] at hy; cases hy
      exact fun e=>hne (by rw[e])
     ·exact hall j y (by omega) hy
    ·have hne : mkS x = mkS (b0 :: rt) := by simpa using hne
     have hxe:x=b0::rt:=bA hne
     have hix:names.idxOf (b0::rt)=k:=qBl hk hall (fun y hy=>by rw[hx]at hy;cases hy;exact hxe)
     refine ifd (fun hkl=>?_) (fun hkl=>?_)
     ·have hadd : fR names (b0 :: rt) = names ++ [b0 :: rt] := by rw [fR, if_neg (by rw [hix]; omega)]
      have hcnt:=cY (l.drop (i+1)) (fR names (b0::rt))
      have hcn2:(cA (l.drop (i+1)) (fR names (b0::rt))).2=(cA l []).2:=by rw[hN,bE ht,dU hb63]
      rw[hcn2,hadd,List.length_append,List.length_singleton]at hcnt
      intro r4
      refine gIn ?_ ?_ fun b3 c3 hb3=>?_
      ·show(ys1.length+1)*16≤_;omega
      ·exact Nat.le_trans (m:=100000000) (show ys1.length+1≤_ by omega) (by decide)
      refine cGv (bU (k:=k) (by omega)) ?_
      refine aC (by show 1+1≤_;decide) ?_
      intro r6
      refine gIn ?_ ?_ fun b4 c4 hb4=>?_
      ·show(ys2.length+1)*16≤_;omega
      ·exact Nat.le_trans (m:=100000000) (show ys2.length+1≤_ by omega) (by decide)
      refine aB (by omega) (by omega) ⟨(i+1,names++[b0::rt],out++[uZ k],(_,b3,c3),(_,b4,c4)),⟨by dsimp only;omega,(by dsimp only;rw[cH,hy1]),?_,by simp[ho],?_⟩,by dsimp only;omega,⟨⟨rfl,rfl,rfl,rfl,rfl,trivial⟩,⟨rfl,rfl,trivial⟩,rfl,rfl⟩⟩
      ·dsimp only
       rw[cH,hy2]
       exact congrArg (fun x=>jW out++[Value.string x]) (aZ [63] [_])
      ·dsimp only
       rw[hN,bE ht,dU hb63,hix,hadd]
       simp
     ·have hadd : fR names (b0 :: rt) = names := by rw [fR, if_pos (by rw [hix]; omega)]
      have hcnt:=cY (l.drop (i+1)) (fR names (b0::rt))
      have hcn2:(cA (l.drop (i+1)) (fR names (b0::rt))).2=(cA l []).2:=by rw[hN,bE ht,dU hb63]
      rw[hcn2,hadd]at hcnt
      refine cGv (bU (k:=k) (by omega)) ?_
      refine aC (by show 1+1≤_;decide) ?_
      intro r6
      refine gIn ?_ ?_ fun b4 c4 hb4=>?_
      ·show(ys2.length+1)*16≤_;omega
      ·exact Nat.le_trans (m:=100000000) (show ys2.length+1≤_ by omega) (by decide)
      refine aB (by omega) (by omega) ⟨(i+1,names,out++[uZ k],(ys1,b1,c1),(_,b4,c4)),⟨by dsimp only;omega,hy1,?_,by simp[ho],?_⟩,by dsimp only;omega,⟨⟨rfl,rfl,rfl,rfl,rfl,trivial⟩,⟨rfl,rfl,trivial⟩,rfl,rfl⟩⟩
      ·dsimp only
       rw[cH,hy2]
       exact congrArg (fun x=>jW out++[Value.string x]) (aZ [63] [_])
      ·dsimp only
       rw[hN,bE ht,dU hb63,hix,hadd]
       simp
   ·have hix : names.idxOf (b0 :: rt) = k := qBl hk hall (fun y hy => by have := (List.getElem?_eq_some_iff.1 hy).1; omega)
    refine ifd (fun hkl=>?_) (fun hkl=>?_)
    ·have hadd : fR names (b0 :: rt) = names ++ [b0 :: rt] := by rw [fR, if_neg (by rw [hix]; omega)]
     have hcnt:=cY (l.drop (i+1)) (fR names (b0::rt))
     have hcn2:(cA (l.drop (i+1)) (fR names (b0::rt))).2=(cA l []).2:=by rw[hN,bE ht,dU hb63]
     rw[hcn2,hadd,List.length_append,List.length_singleton]at hcnt
     intro r4
     refine gIn ?_ ?_ fun b3 c3 hb3=>?_
     ·show(ys1.length+1)*16≤_;omega
     ·exact Nat.le_trans (m:=100000000) (show ys1.length+1≤_ by omega) (by decide)
     refine cGv (bU (k:=k) (by omega)) ?_
     refine aC (by show 1+1≤_;decide) ?_
     intro r6
     refine gIn ?_ ?_ fun b4 c4 hb4=>?_
     ·show(ys2.length+1)*16≤_;omega
     ·exact Nat.le_trans (m:=100000000) (show ys2.length+1≤_ by omega) (by decide)
     refine aB (by omega) (by omega) ⟨(i+1,names++[b0::rt],out++[uZ k],(_,b3,c3),(_,b4,c4)),⟨by dsimp only;omega,(by dsimp only;rw[cH,hy1]),?_,by simp[ho],?_⟩,by dsimp only;omega,⟨⟨rfl,rfl,rfl,rfl,rfl,trivial⟩,⟨rfl,rfl,trivial⟩,rfl,rfl⟩⟩
     ·dsimp only
      rw[cH,hy2]
      exact congrArg (fun x=>jW out++[Value.string x]) (aZ [63] [_])
     ·dsimp only
      rw[hN,bE ht,dU hb63,hix,hadd]
      simp
    ·have hadd : fR names (b0 :: rt) = names := by rw [fR, if_pos (by rw [hix]; omega)]
     have hcnt:=cY (l.drop (i+1)) (fR names (b0::rt))
     have hcn2:(cA (l.drop (i+1)) (fR names (b0::rt))).2=(cA l []).2:=by rw[hN,bE ht,dU hb63]
     rw[hcn2,hadd]at hcnt
     refine cGv (bU (k:=k) (by omega)) ?_
     refine aC (by show 1+1≤_;decide) ?_
     intro r6
     refine gIn ?_ ?_ fun b4 c4 hb4=>?_
     ·show(ys2.length+1)*16≤_;omega
     ·exact Nat.le_trans (m:=100000000) (show ys2.length+1≤_ by omega) (by decide)
     refine aB (by omega) (by omega) ⟨(i+1,names,out++[uZ k],(ys1,b1,c1),(_,b4,c4)),⟨by dsimp only;omega,hy1,?_,by simp[ho],?_⟩,by dsimp only;omega,⟨⟨rfl,rfl,rfl,rfl,rfl,trivial⟩,⟨rfl,rfl,trivial⟩,rfl,rfl⟩⟩
     ·dsimp only
      rw[cH,hy2]
      exact congrArg (fun x=>jW out++[Value.string x]) (aZ [63] [_])
     ·dsimp only
      rw[hN,bE ht,dU hb63,hix,hadd]
      simp
 ·have e : l.drop i = [] := List.drop_eq_nil_of_le (by omega)
  rw[e]at hN
  have hN:cA l []=(out,names):=by rw[hN,cA,List.append_nil]
  refine rFz [1] fun μ4 hle4 hno hat=> .inl ⟨.slice (b2.map fun r=>⟨r,0,none⟩) ys2.length c2,?_,?_⟩
  ·show Value.tuple #[_, .int .i64 (ys1.length : Nat), .bool true] = _
   rw[hN,hl1]
  ·rw [hN]
   rw[hy2,jW]at hat ⊢
   exact Rows.sl hat (Nm.rows (out.map mkS)) (by rw[List.length_map,List.length_map];exact Nat.le_trans (m:=1000) (by omega) (by decide))
end
end Go.Vx
