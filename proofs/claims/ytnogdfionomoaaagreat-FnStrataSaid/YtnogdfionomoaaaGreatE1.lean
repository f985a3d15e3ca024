/- Texts of the proof, part E1. -/
import Derived.Test.YtnogdfionomoaaaGreatM6
namespace Go.Vx
section
variable {P:Program} {f:FuncId} {args:List Value} {μ H:Mem}
variable {dr:Bool} {s:St} {K:Value→St→Prop}
theorem cDa{R:Value→Mem→Prop}(hap:Apart s.mem s.own)(h:Spec P f args s.mem R)(k:∀v μ',s.mem.Le μ'→Apart μ' s.own→R v μ'→kS s μ' s.own fun s=>K v s):callVC dr P f args s K:=
 cOw (Spec.beside hap h) fun v μ' H' hle ha' ⟨h1,h2⟩=>by
  subst h1
  exact k v μ' hle ha' h2
end
end Go.Vx
namespace Go.Vx
open Go.Proofs
theorem qLa:Tryz.prog.underlying 4=some .bool:=ti4.kind
theorem qGs{P:Program}{t:TypeId}{i:TI}(h:TIok P t i):P.cellsOf t=i.size:=by
 obtain⟨inf,hin,hs,_⟩:=h.info'
 simp[Program.cellsOf,hin,hs]
end Go.Vx
namespace Go.Vx
open Go.Proofs Classical
theorem F.fc_f(f:F):f.fc.f=f:=by
 show F.mk f.rel ((f.args.map T.tm).map Tm.toT)=f
 rw[iQ]
section
variable {μ:Mem}
end
end Go.Vx
namespace Go.Vx
open Go.Proofs Classical
theorem F.fcs(L:List F):(L.map F.fc).map Fc.f=L:=by
 rw[List.map_map]
 conv=>rhs;rw[←List.map_id L]
 exact List.map_congr_left fun f _=>F.fc_f f
section
variable {μ:Mem}
end
end Go.Vx
namespace Go.Vx
open Go.Proofs Classical
section
variable {n:Nat} {A B:Nat→Nat→Prop}
theorem qJh{T:Nat→Nat}(h:Strat n A B T){i w:Nat}(_hi:i<n)(hw:w<kU n A B i):∃j,j<n∧kU n A B j=w:=Classical.byContradiction fun k=>by
 have hS:=kZ h
 have hne:∀j,j<n→kU n A B j≠w:=fun j hj e=>k ⟨j,hj,e⟩
 have h2:Strat n A B fun j=>if w<kU n A B j then kU n A B j-1 else kU n A B j:=by
  refine⟨fun a b ha hb e=>?_,fun a b ha hb e=>?_⟩
  ·have:=hS.pos a b ha hb e
   have:=hne a ha
   have:=hne b hb
   split<;>split<;>omega
  ·have:=hS.neg a b ha hb e
   have:=hne a ha
   have:=hne b hb
   split<;>split<;>omega
 have:=tB h2 i
 rw[if_pos hw]at this
 omega
theorem zS{T:Nat→Nat}(h:Strat n A B T){i:Nat}(hi:i<n):kU n A B i<n:=by
 have:=cM (a:=List.range (kU n A B i+1)) (b:=(List.range n).map (kU n A B)) List.nodup_range fun w hw=>by
  rw[List.mem_range]at hw
  rw[List.mem_map]
  rcases Nat.lt_or_ge w (kU n A B i)with e|e
  ·have w_:=qJh h hi e
   obtain⟨j,hj,e2⟩:=w_
   exact⟨j,List.mem_range.2 hj,e2⟩
  ·exact⟨i,List.mem_range.2 hi,by omega⟩
 simp only[List.length_range,List.length_map]at this
 omega
end
end Go.Vx
namespace Go.Vx
open Go.Proofs Classical
theorem Gl.callss_map(b:Bool):∀l:List Gl,Gl.callss b l=l.flatMap (Gl.calls b)
 |[]=>rfl
 |g::r=>by rw[Gl.callss,Gl.callss_map b r,List.flatMap_cons]
theorem Gl.calls_eq(b:Bool)(g:Gl):g.calls b=if g.kind=10 then(if b=true then mR g.goals else [])else(if g.kind=9∧b=false then [g.name]else [])++g.goals.flatMap (Gl.calls b):=by
 cases g
 rw[Gl.calls,Gl.callss_map];rfl
theorem qGq{α β:Type}{l:List α}{i:Nat}{x:α}(f:α→List β)(h:l[i]?=some x):(l.take (i+1)).flatMap f=(l.take i).flatMap f++f x:=by
 rw[List.take_add_one,h,Option.toList_some,List.flatMap_append,List.flatMap_cons,List.flatMap_nil,List.append_nil]
theorem Gl.cnt_kids(g:Gl):g.cnt=1+Gl.cnts g.goals:=by
 cases g;rw[Gl.cnt];rfl
theorem kO{α β:Type}{f:α→List β}{w:α→Nat}:∀{l:List α},(∀x∈l,(f x).length≤w x)→(l.flatMap f).length≤(l.map w).sum
 |[],_=>by simp
 |x::l,h=>by
  rw[List.flatMap_cons,List.length_append,List.map_cons,List.sum_cons]
  have:=h x (by simp)
  have:=kO (f:=f) (w:=w) fun y hy=>h y (List.mem_cons_of_mem x hy)
  omega
theorem Gl.cnts_sum:∀l:List Gl,Gl.cnts l=(l.map Gl.cnt).sum
 |[]=>by rw[Gl.cnts];rfl
 |g::l=>by rw[Gl.cnts,Gl.cnts_sum l,List.map_cons,List.sum_cons]
theorem Gl.calls_len(b:Bool):∀g:Gl,(g.calls b).length≤g.cnt:=Gl.ind fun g ih=>by
 rw[Gl.calls_eq,Gl.cnt_kids]
 split
 ·split
  ·cases h:g.goals<;>simp[mR]<;>omega
  ·simp
 ·have:=kO (f:=Gl.calls b) (w:=Gl.cnt) ih
  rw[List.length_append,Gl.cnts_sum]
  have h2:(if g.kind=9∧b=false then [g.name]else []).length≤1:=by split<;>simp
  omega
theorem Gl.calls_fit{p:Pg}(b:Bool):∀{g:Gl},g.Sh→FitAll p g→∀s∈g.calls b,∃j:Nat,bM p s=(j:Int)∧j<p.rels.length:=fun {g}=>by
 refine Gl.ind (q:=fun g=>g.Sh→FitAll p g→∀s∈g.calls b,∃j:Nat,bM p s=(j:Int)∧j<p.rels.length) (fun g ih hS hF s hs=>?_) g
 have one:∀{x:Gl},bT p x→x.kind=9→∃j:Nat,bM p x.name=(j:Int)∧j<p.rels.length:=fun hx k=>by
  have w_:=hx k
  obtain⟨i,r,h1,h2,_⟩:=w_
  exact⟨i,h1,(List.getElem?_eq_some_iff.1 h2).1⟩
 rw[Gl.calls_eq]at hs
 split at hs
 ·rename_i k
  split at hs
  ·cases e:g.goals with
   |nil=>rw[e]at hs;simp[mR]at hs
   |cons x l=>
    rw[e]at hs
    simp only[mR,List.mem_singleton]at hs
    subst hs
    exact one (hF.sub x (by rw[e];simp)).top (hS.top.cl k x (by rw[e];rfl))
  ·simp at hs
 ·rcases List.mem_append.1 hs with h|h
  ·split at h
   ·rename_i k
    rw[List.mem_singleton]at h
    subst h
    exact one hF.top k.1
   ·simp at h
  ·have w_:=List.mem_flatMap.1 h
   obtain⟨x,hx,h⟩:=w_
   exact ih x hx (hS.sub x hx) (hF.sub x hx) s h
theorem qEc{S:List Nat}:∀{i k v:Nat},S[i]?=some k→(S.set i v).sum+k=S.sum+v:=by
 induction S with
 |nil=>intro i k v h;simp at h
 |cons x S ih=>
  intro i k v h
  cases i with
  |zero=>
   simp only[List.getElem?_cons_zero,Option.some.injEq]at h
   subst h
   simp only[List.set_cons_zero,List.sum_cons];omega
  |succ i=>
   rw[List.getElem?_cons_succ]at h
   have:=ih (v:=v) h
   simp only[List.set_cons_succ,List.sum_cons];omega
theorem qGy{S:List Nat}{m:Nat}(h:∀k∈S,k≤m):S.sum≤S.length*m:=by
 induction S with
 |nil=>simp
 |cons x S ih=>
  rw[List.sum_cons,List.length_cons,Nat.succ_mul]
  have:=h x (by simp)
  have:=ih fun k hk=>h k (List.mem_cons_of_mem _ hk)
  omega
section
variable {p:Pg} {S:List Nat} {m:Nat}
theorem StI.raise(h:StI p S m){b:Bool}{i j x:Nat}(hi:i<p.rels.length)(hj:S[j]?=some x)(hc:dG b p i j)(hm:x+b.toNat≤m):StI p (S.set i (x+b.toNat)) m:=by
 have hjl:=(List.getElem?_eq_some_iff.1 hj).1
 refine⟨by rw[List.length_set];exact h.len,fun k hk=>?_,fun T hT a k hk=>?_⟩
 ·rcases List.mem_or_eq_of_mem_set hk with k1|rfl
  ·exact h.max k k1
  ·exact hm
 ·rw[List.getElem?_set]at hk
  split at hk
  ·rename_i e
   subst e
   split at hk
   ·cases hk
    have h1:=h.low T hT j x hj
    have hl:=h.len
    cases b with
    |false=>have:=hT.pos i j hi (by omega) hc;simp;omega
    |true=>have:=hT.neg i j hi (by omega) hc;simp;omega
   ·cases hk
  ·exact h.low T hT a k hk
theorem StI.bad(h:StI p S m)(_hok:p.Ok){i k:Nat}(hk:S[i]?=some k)(hb:p.rels.length≤k):cK p=none:=by
 rw[cK,if_neg]
 rintro⟨-,T,hT⟩
 have hi:=(List.getElem?_eq_some_iff.1 hk).1
 have h1:=h.low _ (kZ hT) i k hk
 have h2:=zS hT (i:=i) (by rw[←h.len];exact hi)
 omega
end
theorem qIw{p:Pg}{S0 S:List Nat}{ch:Bool}{C C':List Nat→Prop}{m m' i j x y:Nat}{b:Bool}(hI:StI p S m)(hP:PassI p S0 S ch C)(hi:S[i]?=some y)(hj:S[j]?=some x)(hc:dG b p i j)(hm:x+b.toNat≤m')(hmm:m≤m')
  (hC:C S0→S=S0→x+b.toNat≤y→C' S0):(y<x+b.toNat→StI p (S.set i (x+b.toNat)) m'∧PassI p S0 (S.set i (x+b.toNat)) true C')∧(¬y<x+b.toNat→StI p S m'∧PassI p S0 S ch C'):=by
 have hil:=(List.getElem?_eq_some_iff.1 hi).1
 have hI':StI p S m':=⟨hI.len,fun k hk=>Nat.le_trans (hI.max k hk) hmm,hI.low⟩
 refine⟨fun h=>⟨hI'.raise (by rw[←hI.len];exact hil) hj hc hm,(fun h=>nomatch h),?_,fun _=>?_⟩,fun h=>⟨hI',fun e=>?_,hP.more,hP.grew⟩⟩
 ·have:=qEc (v:=x+b.toNat) hi
  have:=hP.more
  omega
 ·have:=qEc (v:=x+b.toNat) hi
  have:=hP.more
  omega
 ·have w_:=hP.same e
  obtain⟨h1,h2⟩:=w_
  exact⟨h1,hC h2 h1 (by omega)⟩
end Go.Vx
namespace Go.Vx
open Go.Proofs Classical
set_option maxHeartbeats 2000000 in
section
variable {μ:Mem}
noncomputable def jO(b u:Bool)(g:Gl):List ByteArray:=if u=true then(if b=true then [g.name]else [])else g.calls b
set_option maxHeartbeats 2000000 in
theorem zU(b:Bool):∀(g:Gl) {μ:Mem} {v:Value} (u:Bool),RepV μ g.d v→g.Sh→g.cnt≤1000→(u=true→g.kind=9)→Spec Tryz.prog 81 [v,.bool b,.bool u] μ fun w μ'=>NmV μ' (jO b u g) w:=
 Gl.ind fun g ih μ v u hv hS hn hu=>by
  have w_:=Gl.inv hv
  obtain⟨p,rfl,hts,hgs⟩:=w_
  have hk:=Gl.cnt_kids g
  have hg8:=hS.top.gl
  refine Spec.mk Tryz.func81 (by kernel_rfl) ?_
  intro r3 r10
  refine ifd (fun h9=>?_) (fun h9=>?_)
  ·have h0:=hS.top.gl0 (.inr h9)
   have h00:g.goals=[]:=List.eq_nil_of_length_eq_zero h0
   have hL:jO b u g=if u=b then [g.name]else []:=by
    rw[jO,Gl.calls_eq,if_neg (show ¬g.kind=10 by omega),h00]
    cases u<;>cases b<;>simp[h9]
   refine iIn (fun e=>?_) (fun e=>?_)
   ·have e:u=b:=by simpa using e
    rw[hL,if_pos e]
    intro r22
    refine gIn (Nat.le_trans (m:=100) (by simp) (by decide)) (Nat.le_trans (m:=100) (by simp) (by decide)) fun b1 c1 hb1=>?_
    refine lIn (fun i:Nat=>i=0) (fun i=>⟨[(1,.val (.bool b)),(2,.val (.bool u)),(3,.loc 0 r3 0),(7,.row 1 (b1) (([]:List Value)++[Value.string g.name]).length (c1)),(25,.val (.slice p.2.1 g.goals.length p.2.2)),(26,.val (.int .i64 g.goals.length)),(27,.val (.int .i64 i))],
      [(0,some (.cells r3 [.val (.int .i64 g.kind),.val (.string g.name),.val (.slice p.1.1 g.terms.length p.1.2),.val (.slice p.2.1 g.goals.length p.2.2)] 61)),(1,some (.row (b1) (c1) 9 1 (([]:List Value)++[Value.string g.name])))],2,μ,Mem.nil⟩) (fun _=>0)
     0 rfl (fun _=>⟨rfl,rfl⟩) ⟨⟨rfl,rfl,rfl,rfl,rfl,rfl,rfl,trivial⟩,⟨rfl,rfl,trivial⟩,rfl,rfl⟩ ?_
    rintro i rfl
    refine ifd (fun hlt=>by omega) (fun _=>?_)
    refine rFz [1] fun μ2 hle2 hno2 hrow2=> .inl ?_
    exact Rows.sl hrow2 (Nm.rows [g.name]) (Nat.le_trans (m:=100) (by simp) (by decide))
   ·have e:¬u=b:=by simpa using e
    rw[hL,if_neg e]
    refine lIn (fun i:Nat=>i=0) (fun i=>⟨[(1,.val (.bool b)),(2,.val (.bool u)),(3,.loc 0 r3 0),(7,.row 1 ((some r10)) (([]:List Value)++[]).length (0)),(25,.val (.slice p.2.1 g.goals.length p.2.2)),(26,.val (.int .i64 g.goals.length)),(27,.val (.int .i64 i))],
      [(0,some (.cells r3 [.val (.int .i64 g.kind),.val (.string g.name),.val (.slice p.1.1 g.terms.length p.1.2),.val (.slice p.2.1 g.goals.length p.2.2)] 61)),(1,some (.row ((some r10)) (0) 9 1 (([]:List Value)++[])))],2,μ,Mem.nil⟩) (fun _=>0)
     0 rfl (fun _=>⟨rfl,rfl⟩) ⟨⟨rfl,rfl,rfl,rfl,rfl,rfl,rfl,trivial⟩,⟨rfl,rfl,trivial⟩,rfl,rfl⟩ ?_
    rintro i rfl
    refine ifd (fun hlt=>by omega) (fun _=>?_)
    refine rFz [1] fun μ2 hle2 hno2 hrow2=> .inl ?_
    exact Rows.sl hrow2 (Nm.rows []) (Nat.zero_le _)
  ·have hu:u=false:=by
    cases u with
    |false=>rfl
    |true=>exact absurd (hu rfl) h9
   subst hu
   refine lIn (fun z:Nat×Option Nat×Nat×List Value×Mem=>z.1≤g.goals.length∧μ.Le z.2.2.2.2∧z.2.2.2.1=((g.goals.take z.1).flatMap (jO b (decide (g.kind=10)))).map Value.string)
    (fun(i,bo,co,ys,μ')=>⟨[(1,.val (.bool b)),(2,.val (.bool false)),(3,.loc 0 r3 0),(7,.row 1 bo ys.length co),(25,.val (.slice p.2.1 g.goals.length p.2.2)),(26,.val (.int .i64 g.goals.length)),(27,.val (.int .i64 i))],
     [(0,some (.cells r3 [.val (.int .i64 g.kind),.val (.string g.name),.val (.slice p.1.1 g.terms.length p.1.2),.val (.slice p.2.1 g.goals.length p.2.2)] 61)),(1,some (.row bo co 9 1 ys))],2,μ',Mem.nil⟩) (fun z=>g.goals.length-z.1)
    (0,some r10,0,[],μ) ⟨Nat.zero_le _,Mem.Le.refl _,rfl⟩ (fun(_,_,_,_,_)=>⟨rfl,rfl⟩) ⟨⟨rfl,rfl,rfl,rfl,rfl,rfl,rfl,trivial⟩,⟨rfl,rfl,trivial⟩,rfl,rfl⟩ ?_
   rintro⟨i,bo,co,ys,μ'⟩ ⟨hi,hle,hys⟩
   dsimp only at hi hle hys
   have lenU:∀(y:Gl) (w:Bool),(jO b w y).length≤y.cnt:=fun y w=>by
    have h1:=Gl.calls_len b y
    have h2:=Gl.cnt_kids y
    rw[jO]
    split
    ·split<;>simp<;>omega
    ·exact h1
   have hx4:=kO (f:=jO b (decide (g.kind=10))) (w:=Gl.cnt) (l:=g.goals.take i) fun y _=>lenU y _
   rw[←Gl.cnts_sum]at hx4
   have hyl:ys.length≤1000:=by
    rw[hys,List.length_map]
    have:=Gl.cnts_le g.goals i
    omega
   refine ifd (fun hlt=>?_) (fun hlt=>?_)
   ·have w_:=aSo (l:=g.goals) (i:=i) (by omega)
    obtain⟨x,hx⟩:=w_
    have w_:=Gl.elem (hgs.mono hle) hx
    obtain⟨ad,q,hel,hr⟩:=w_
    have hx2:=Gl.cnts_take hx
    have hx3:=Gl.cnts_le g.goals (i+1)
    refine eIn hel ?_
    intro r9
    refine iIn (fun h=>nomatch h) (fun _=>?_)
    refine cPl (ih x (mAt hx) (decide (g.kind=10)) hr (hS.sub x (mAt hx)) (by omega) fun k=>?_) fun w μ1 hle1 hR=>?_
    ·have k:g.kind=10:=by simpa using k
     have hl1:=hS.top.gl1 k
     obtain rfl:i=0:=by omega
     exact hS.top.cl k x hx
    have w_:=NmV.sl hR
    obtain⟨b2,c2,rfl,_⟩:=w_
    have hl2:=lenU x (decide (g.kind=10))
    refine aY _ (Nm.src hR) ?_
    refine gIn ?_ ?_ fun b' c' _=>?_
    ·show(ys.length+_)*16≤_;rw[List.length_map];omega
    ·exact Nat.le_trans (m:=100000000) (by rw[List.length_map];omega) (by decide)
    refine aC (by omega) (by omega) ⟨(i+1,b',c',_,μ1),⟨by dsimp only;omega,hle.trans hle1,?_⟩,by dsimp only;omega,⟨⟨rfl,rfl,rfl,rfl,rfl,rfl,rfl,trivial⟩,⟨rfl,rfl,trivial⟩,rfl,rfl⟩⟩
    dsimp only
    rw[qGq _ hx,List.map_append,hys]
   ·obtain rfl:i=g.goals.length:=by omega
    rw[List.take_length]at hys
    have hfin:jO b false g=g.goals.flatMap (jO b (decide (g.kind=10))):=by
     show g.calls b=_
     rw[Gl.calls_eq]
     by_cases k:g.kind=10
     ·rw[if_pos k,decide_eq_true k]
      have hl1:=hS.top.gl1 k
      cases e:g.goals with
      |nil=>rw[e]at hl1;cases hl1
      |cons x l=>
       obtain rfl:l=[]:=by rw[e]at hl1;exact List.eq_nil_of_length_eq_zero (by simpa using hl1)
       rw[List.flatMap_cons,List.flatMap_nil,List.append_nil];rfl
     ·rw[if_neg k,decide_eq_false k,if_neg fun h=>h9 h.1];rfl
    rw[hfin]
    refine rFz [1] fun μ2 hle2 hno2 hrow2=> .inl ?_
    have h:=Nm.rows (μ:=μ2) (g.goals.flatMap (jO b (decide (g.kind=10))))
    rw[←hys]at h
    exact Rows.sl hrow2 h (Nat.le_trans hyl (by decide))
theorem qX{r:Nat}{S:List Nat}{i x:Nat}(h:S[i]?=some x):∀(j:Nat) (v:Value),[Value.int .i64 (x:Int)][j]?=some v→(Mem.nil.set r (.cells (List.toArray (S.map fun k:Nat=>Value.int .i64 (k:Int))) 3 (0,0))).cell ((⟨r,i*1,none⟩:Addr).add j)=some v:=fun j v hj=>by
 match j,hj with
 |0,hj=>
  cases hj
  rw[Addr.add_lit',Nat.mul_one,Nat.add_zero]
  simp only[Mem.cell,Mem.set_at]
  simp[h]
abbrev nK(r:Nat)(S:List Nat):Mem:=Mem.nil.set r (.cells (List.toArray (S.map fun k:Nat=>Value.int .i64 (k:Int))) 3 (0,0))
theorem qLb{r i w:Nat}{S:List Nat}(hil:i<S.length):(nK r S).set r (.cells (List.toArray ((S.map fun k:Nat=>Value.int .i64 (k:Int)).take (i*1)++[Value.int .i64 (w:Int)]++(S.map fun k:Nat=>Value.int .i64 (k:Int)).drop (i*1+[Value.int .i64 (w:Int)].length))) 3 (0,0))=nK r (S.set i w):=by
 rw[nK,nK,Mem.set_set]
 congr 3
 rw[List.map_set,List.set_eq_take_append_cons_drop,List.length_map,if_pos hil]
 simp
end
end Go.Vx
namespace Go.Vx
open Go.Proofs Classical
noncomputable def oD(p:Pg)(S:List Nat)(r:Ru):Nat:=S.getD (bM p r.head.rel).toNat 0
noncomputable def zW(p:Pg)(S:List Nat)(rs:List Ru)(s:Nat):List Ru:=rs.filter fun r=>decide (oD p S r=s)
noncomputable def fT(p:Pg)(S:List Nat)(rs:List Ru):Nat→List F
 |0=>[]
 |s+1=>lfp (aZ (zW p S rs s) (fT p S rs s)) (fT p S rs s)
noncomputable def gJ(p:Pg)(u:List Tm):Option (List F):=(cK p).bind fun S=>(bC p u).map fun rs=>fT p S rs p.rels.length
section
variable {p:Pg} {S:List Nat} {rs:List Ru}
theorem uA:∀s,Asc3 dK (fT p S rs s)
 |0=>List.Pairwise.nil
 |_+1=>mZ _ _
theorem qV:∀s,∀f∈fT p S rs s,f∈rs.map Ru.head
 |0,_,h=>nomatch h
 |s+1,f,h=>by
  rw[fT,mem_lfp]at h
  cases h with
  |base k=>exact qV s f k
  |rule k _=>exact List.mem_map_of_mem (List.mem_filter.1 (mem_unlessR.1 k).1).1
theorem qDp(s:Nat):(fT p S rs s).length≤rs.length:=by
 have:=cM ((uA s).nodup cmpF_ord) (qV (p:=p) (S:=S) (rs:=rs) s)
 rwa [List.length_map]at this
theorem strF_ok(hr:∀r∈rs,RuOk p r)(s:Nat):FsOk p (fT p S rs s):=fun f hf=>by
 have w_:=List.mem_map.1 (qV s f hf)
 obtain⟨r,h1,rfl⟩:=w_
 exact(hr r h1).head
theorem qJz(h:cK p=some S)(hr:∀r∈rs,RuOk p r):fT p S rs (p.rels.length+1)=fT p S rs p.rels.length:=by
 have hO:zW p S rs p.rels.length=[]:=by
  rw[zW,List.filter_eq_nil_iff]
  intro r hm
  rw[decide_eq_true_eq]
  obtain⟨⟨k,rl,h1,h2,_⟩,_⟩:=(hr r hm).head
  have h1:bM p r.head.rel=(k:Int):=h1
  have hk:=(List.getElem?_eq_some_iff.1 h2).1
  rw[cK]at h
  split at h
  ·rename_i hh
   obtain⟨_,T,hT⟩:=hh
   cases h
   have:=zS hT hk
   rw[oD,h1,Int.toNat_natCast,List.getD_eq_getElem?_getD,List.getElem?_map,List.getElem?_range hk]
   show kU _ _ _ k≠_
   omega
  ·cases h
 rw[fT,hO]
 refine Asc3.uniq cmpF_ord (mZ _ _) (uA _) fun f=>?_
 rw[mem_lfp]
 constructor
 ·intro k
  cases k with
  |base k=>exact k
  |rule k _=>exact nomatch (mem_unlessR.1 k).1
 ·exact .base
end
theorem xK{u:List Tm}{p:Pg}{y:List F}(h:gJ p u=some y):p.Ok∧FsOk p y∧y.length≤2000:=by
 rw[gJ]at h
 cases hS:cK p with
 |none=>rw[hS]at h;cases h
 |some S=>
  rw[hS,Option.bind_some]at h
  cases hL:bC p u with
  |none=>rw[hL]at h;cases h
  |some rs=>
   rw[hL]at h
   cases h
   have w_:=dW hL
   obtain⟨h1,h2⟩:=w_
   refine⟨(dE hL).1,strF_ok h2 _,?_⟩
   have:=qDp (p:=p) (S:=S) (rs:=rs) p.rels.length
   show(fT p S rs p.rels.length).length≤2000
   omega
end Go.Vx
namespace Go.Vx
open Go.Proofs Classical
abbrev NsV(μ:Mem)(S:List Nat)(v:Value):Prop:=RepV μ (.sl 1 ((S.map fun k:Nat=>(k:Int)).map D.i)) v
def optNs(P:List Nat→Value→Prop)(o:Option (List Nat))(v:Value):Prop:=match o with
 |none=>v= .tuple #[.slice none 0 0,.bool false]
 |some S=>∃tv,v= .tuple #[tv,.bool true]∧P S tv
theorem zeroRow(r n:Nat):Mem.nil.set r (.cells (List.toArray ((List.replicate n (Value.int .i64 0)).flatMap aB)) 3 (0,0))=nK r (List.replicate n 0):=by
 have e:∀n:Nat,(List.replicate n (Value.int .i64 0)).flatMap aB=(List.replicate n 0).map fun k:Nat=>Value.int .i64 (k:Int):=fun n=>by
  induction n with
  |zero=>rfl
  |succ n ih=>rw[List.replicate_succ,List.flatMap_cons,ih,List.replicate_succ,List.map_cons];rfl
 rw[nK,e]
theorem apN{μ:Mem}{r:Nat}(S:List Nat)(h:μ r=none):Apart μ (nK r S):=(fR μ).set h
theorem apN_inv{μ:Mem}{r:Nat}{S:List Nat}(h:Apart μ (nK r S)):μ r=none:=h.symm r (by rw[nK,Mem.set_at];simp)
theorem qMw{μ:Mem}{r n:Nat}{S:List Nat}(h:μ r=none)(hl:S.length=n)(hm:n≤maxLen):NsV (μ.join (nK r S)) S (.slice (some ⟨r,0,none⟩) n n):=by
 subst hl
 have e:(S.map fun k:Nat=>Value.int .i64 (k:Int))=aN (S.map fun k:Nat=>(k:Int)):=by rw[aN,List.map_map];rfl
 have hro:RowO (nK r S) r S.length 3 1 (aN (S.map fun k:Nat=>(k:Int))):=by
  rw[←e]
  have hf:∀S:List Nat,(S.map fun k:Nat=>Value.int .i64 (k:Int)).flatMap aB=S.map fun k:Nat=>Value.int .i64 (k:Int):=fun S=>by
   induction S with
   |nil=>rfl
   |cons a l ih=>rw[List.map_cons,List.flatMap_cons,ih];rfl
  refine⟨_,Mem.set_at _ _ _,by simp,by simpa using hm,fun v hv=>?_,by simp,?_⟩
  ·have w_:=List.mem_map.1 hv
   obtain⟨k,_,rfl⟩:=w_
   exact⟨rfl,fun u hu=>by rw[List.mem_singleton.1 hu];rfl⟩
  ·rw[hf,Nat.mul_one,List.length_map]
   exact List.take_of_length_le (by simp)
 have:=hro.rep (Mem.le_join_right (apN S h)) (Ints.rows _)
 have e2:(aN (S.map fun k:Nat=>(k:Int))).length=S.length:=by rw[←e,List.length_map]
 rw[e2]at this
 exact this
theorem StDone.zero(p:Pg)(S:List Nat):StDone p S 0:=fun a ha=>by omega
theorem StName.nil(p:Pg)(S:List Nat)(i:Nat)(b:Bool)(l:List ByteArray):StName p S i b (l.take 0):=fun s hs=>by simp at hs
theorem StI.up{p:Pg}{S:List Nat}{m m':Nat}(h:StI p S m)(hm:m≤m'):StI p S m':=⟨h.len,fun k hk=>Nat.le_trans (h.max k hk) hm,h.low⟩
theorem StI.at{p:Pg}{S:List Nat}{m i:Nat}(h:StI p S m)(hi:i<p.rels.length):∃x,S[i]?=some x∧x≤m:=by
 have w_:=aSo (l:=S) (i:=i) (by rw[h.len];exact hi)
 obtain⟨x,hx⟩:=w_
 exact⟨x,hx,h.max x (mAt hx)⟩
theorem le_back{S S':List Nat}{i w m:Nat}(h:∀j,j≠i→S'[j]?=S[j]?)(hS:∀k∈S,k+1≤m)(hi:S'[i]?=some w)(hw:w+1≤m):∀k∈S',k+1≤m:=fun k hk=>by
 have w_:=List.mem_iff_getElem?.1 hk
 obtain⟨j,hj⟩:=w_
 by_cases e:j=i
 ·subst e;rw[hi]at hj;cases hj;exact hw
 ·rw[h j e]at hj;exact hS k (mAt hj)
theorem qKm{S:List Nat}{i w j:Nat}(h:j≠i):(S.set i w)[j]?=S[j]?:=List.getElem?_set_ne (Ne.symm h)
section
variable {μ:Mem}
set_option maxHeartbeats 4000000 in
set_option maxHeartbeats 4000000 in
theorem jX{p:Pg}{v:Value}(hp:RepV μ p.d v):Spec Tryz.prog 29 [v] μ fun v μ'=>optNs (NsV μ') (cK p) v:=by
 have hp0:=hp
 have w_:=Pg.inv hp
 obtain⟨q,rfl,hrl⟩:=w_
 refine Spec.mkO [19] Tryz.func29 (by kernel_rfl) ?_
 intro r1
 refine cPl (cQ hp0) fun v1 μ1 hle0 hR=>?_
 obtain rfl:=hR
 refine aM (fun h=>rPl (by rw[cK,if_neg fun k=>h k.1];rfl)) (fun hok=>?_)
 have h8:=hok.1
 refine vB p.rels.length rfl rfl (by simp only;omega) (Nat.le_trans (m:=8) h8 (by decide)) ?_
 intro r18 hm18 ho18
 refine lIn (fun z:List Nat×Bool×Mem=>StI p z.1 1000∧(∀k∈z.1,k≤p.rels.length)∧μ1.Le z.2.2∧z.2.2 r18=none∧(z.2.1=false→StDone p z.1 p.rels.length))
  (fun(S,ch,μ')=>⟨[(1,.loc 0 r1 0),(4,.val (.slice (some ⟨r18,0,none⟩) p.rels.length p.rels.length)),(5,.val (.bool ch))],[(0,some (.cells r1 [.val (.slice q.1 p.rels.length q.2)] 25))],1,μ',nK r18 S⟩) (fun z=>if z.2.1=true then p.rels.length*p.rels.length+1-z.1.sum else 0)
  (List.replicate p.rels.length 0,true,μ1) ⟨StI.start p 1000,fun k hk=>?_,Mem.Le.refl _,hm18,fun h=>nomatch h⟩ (fun(_,_,_)=>⟨rfl,rfl⟩) ⟨⟨rfl,rfl,rfl,trivial⟩,⟨rfl,trivial⟩,rfl,zeroRow r18 p.rels.length⟩ ?_
 ·have h:=List.mem_replicate.1 hk
  omega
 rintro⟨S0,ch0,μ'⟩ ⟨hI,hmx,hle,hr,hd⟩
 dsimp only at hI hmx hle hr hd
 refine iIn (fun hch=>?_) (fun hch=>?_)
 rotate_left
 ·refine dO (nK r18 S0) Mem.nil (Parts.nil_right _) ?_
  have hd:=hd hch
  rw[hI.done hok fun b i j x y hc hx hy=>hd i (by have:=(List.getElem?_eq_some_iff.1 hx).1;have:=hI.len;omega) b j x y hc hx hy]
  exact⟨_,rfl,qMw hr hI.len (Nat.le_trans (m:=8) h8 (by decide))⟩
 refine lIn (fun z:Nat×List Nat×Bool×Mem=>z.1≤p.rels.length∧StI p z.2.1 1000∧(∀k∈z.2.1,k≤p.rels.length)∧μ1.Le z.2.2.2∧z.2.2.2 r18=none∧PassI p S0 z.2.1 z.2.2.1 (fun S=>StDone p S z.1))
  (fun(i,S,ch,μ')=>⟨[(1,.loc 0 r1 0),(4,.val (.slice (some ⟨r18,0,none⟩) p.rels.length p.rels.length)),(5,.val (.bool ch)),(22,.val (.slice q.1 p.rels.length q.2)),(23,.val (.int .i64 p.rels.length)),(24,.val (.int .i64 i))],[(0,some (.cells r1 [.val (.slice q.1 p.rels.length q.2)] 25))],1,μ',nK r18 S⟩) (fun z=>p.rels.length-z.1)
  (0,S0,false,μ') ⟨Nat.zero_le _,hI,hmx,hle,hr,⟨fun _=>⟨rfl,StDone.zero _ _⟩,Nat.le_refl _,fun h=>nomatch h⟩⟩ (fun(_,_,_,_)=>⟨rfl,rfl⟩) ⟨⟨rfl,rfl,rfl,rfl,rfl,rfl,trivial⟩,⟨rfl,trivial⟩,rfl,rfl⟩ ?_
 rintro⟨i,S1,ch1,μ2⟩ ⟨hi,hI1,hmx1,hle1,hr1,hP1⟩
 dsimp only at hi hI1 hmx1 hle1 hr1 hP1
 refine ifd (fun hlt=>?_) (fun hlt=>?_)
 rotate_left
 ·obtain rfl:i=p.rels.length:=by omega
  refine⟨(S1,ch1,μ2),⟨hI1,hmx1,hle1,hr1,fun e=>?_⟩,?_,⟨⟨rfl,rfl,rfl,trivial⟩,⟨rfl,trivial⟩,rfl,rfl⟩⟩
  ·have w_:=hP1.same e
   obtain⟨h1,h2⟩:=w_
   dsimp only
   rw[h1];exact h2
  ·dsimp only
   rw[if_pos hch]
   have h2:S1.sum≤p.rels.length*p.rels.length:=by
    have:=qGy (S:=S1) (m:=p.rels.length) hmx1
    rwa [hI1.len]at this
   have h3:S0.sum≤p.rels.length*p.rels.length:=by
    have:=qGy (S:=S0) (m:=p.rels.length) hmx
    rwa [hI.len]at this
   by_cases e:ch1=true
   ·have:=hP1.grew e
    rw[if_pos e];omega
   ·rw[if_neg e];omega
 have w_:=aSo (l:=p.rels) (i:=i) (by omega)
 obtain⟨x,hx⟩:=w_
 have hro:=hok.2 i x hx
 have hsz:=hro.size
 have hlen:∀b,(x.body.calls b).length≤60:=fun b=>Nat.le_trans (Gl.calls_len b x.body) hsz
 have hfit:∀b,∀s∈x.body.calls b,∃j:Nat,bM p s=(j:Int)∧j<p.rels.length:=fun b=>Gl.calls_fit b hro.body hro.calls
 have hle02:=hle0.trans hle1
 have w_:=Rl.elemA (hrl.mono hle02) hx
 obtain⟨ad,qr,hel,hrx,hbody⟩:=w_
 have hbody:RepV μ2 x.body.d (.agg (x.body.cs qr).toArray):=hbody
 refine eIn hel ?_
 intro r7
 have hcall:∀{μ'} (b:Bool),μ2.Le μ'→Spec Tryz.prog 81 [.agg (x.body.cs qr).toArray,.bool b,.bool false] μ' fun w μ''=>NmV μ'' (x.body.calls b) w:=fun {μ'} b hl=>zU b x.body false (RepV.mono hl hbody) hro.body (by omega) fun h=>nomatch h
 refine cDa (apN S1 hr1) (hcall false (Mem.Le.refl _)) fun v3 μ3 hle3 hap3 hR3=>?_
 refine cDa hap3 (hcall true hle3) fun v4 μ4 hle4 hap4 hR4=>?_
 replace hR3:=RepV.mono hle4 hR3
 have hr4:=apN_inv hap4
 have hle04:=hle02.trans (hle3.trans hle4)
 have w_:=NmV.sl hR3
 obtain⟨b3,c3,rfl,hs3⟩:=w_
 have w_:=NmV.sl hR4
 obtain⟨b4,c4,rfl,hs4⟩:=w_
 intro r35
 refine lIn (fun z:Nat×List Nat×Bool=>z.1≤2∧StI p z.2.1 (p.rels.length+60*z.1)∧(∀j,j≠i→z.2.1[j]?=S1[j]?)∧PassI p S0 z.2.1 z.2.2 (fun S=>StDone p S i∧∀b:Bool,b.toNat<z.1→StName p S i b (x.body.calls b)))
  (fun(kk,S,ch)=>⟨[(1,.loc 0 r1 0),(4,.val (.slice (some ⟨r18,0,none⟩) p.rels.length p.rels.length)),(5,.val (.bool ch)),(6,.val (.int .i64 i)),(22,.val (.slice q.1 p.rels.length q.2)),(23,.val (.int .i64 p.rels.length)),(24,.val (.int .i64 i)),(35,.row 2 (some r35) 2 2),(36,.val (.int .i64 2)),(37,.val (.int .i64 kk))],
   [(0,some (.cells r1 [.val (.slice q.1 p.rels.length q.2)] 25)),(2,some (.row (some r35) 2 107 1 [.slice b3 (x.body.calls false).length c3,.slice b4 (x.body.calls true).length c4]))],3,μ4,nK r18 S⟩) (fun z=>2-z.1)
  (0,S1,ch1) ⟨Nat.zero_le _,⟨hI1.len,hmx1,hI1.low⟩,fun _ _=>rfl,⟨fun e=>⟨(hP1.same e).1,(hP1.same e).2,fun b hb=>absurd hb (Nat.not_lt_zero _)⟩,hP1.more,hP1.grew⟩⟩ (fun(_,_,_)=>⟨rfl,rfl⟩) ⟨⟨rfl,rfl,rfl,rfl,rfl,rfl,rfl,rfl,rfl,rfl,trivial⟩,⟨rfl,rfl,trivial⟩,rfl,rfl⟩ ?_
 rintro⟨kk,S,ch⟩ ⟨hkk,hI3,hback,hP3⟩
 dsimp only at hkk hI3 hback hP3
 have hpR:=hp0.mono hle04
 refine ifd (fun hlt3=>?_) (fun hlt3=>?_)
 ·have w_:∃(bb:Bool) (b':Option Addr) (c':Nat),bb.toNat=kk∧[Value.slice b3 (x.body.calls false).length c3,.slice b4 (x.body.calls true).length c4][kk]?=some (.slice b' (x.body.calls bb).length c')∧Sl μ4 1 b' (x.body.calls bb).length ((x.body.calls bb).map D.s):=by
   have h2:kk=0∨kk=1:=by omega
   rcases h2 with rfl|rfl
   ·exact⟨false,b3,c3,rfl,rfl,hs3⟩
   ·exact⟨true,b4,c4,rfl,rfl,hs4⟩
  obtain⟨bb,b',c',rfl,hget,hsL⟩:=w_
  have hl0:=hlen bb
  have hf0:=hfit bb
  have hL0:∀s∈x.body.calls bb,∀j:Nat,bM p s=(j:Int)→dG bb p i j:=fun s hs j e=>⟨x,hx,s,hs,e⟩
  have hbn:bb.toNat≤1:=by cases bb<;>simp
  generalize hLd:x.body.calls bb=L at hget hsL hl0 hf0 hL0
  refine bA bb.toNat rfl (by omega) (bB _ hget ?_)
  refine lIn (fun z:Nat×List Nat×Bool=>z.1≤L.length∧StI p z.2.1 (p.rels.length+60*bb.toNat+z.1)∧(∀j,j≠i→z.2.1[j]?=S1[j]?)∧PassI p S0 z.2.1 z.2.2 (fun S=>(StDone p S i∧∀b:Bool,b.toNat<bb.toNat→StName p S i b (x.body.calls b))∧StName p S i bb (L.take z.1)))
   (fun(k,S,ch)=>⟨[(1,.loc 0 r1 0),(4,.val (.slice (some ⟨r18,0,none⟩) p.rels.length p.rels.length)),(5,.val (.bool ch)),(6,.val (.int .i64 i)),(8,.val (.int .i64 bb.toNat)),(22,.val (.slice q.1 p.rels.length q.2)),(23,.val (.int .i64 p.rels.length)),(24,.val (.int .i64 i)),(35,.row 2 (some r35) 2 2),(36,.val (.int .i64 2)),(37,.val (.int .i64 bb.toNat)),(42,.val (.slice b' L.length c')),(43,.val (.int .i64 L.length)),(44,.val (.int .i64 k))],
    [(0,some (.cells r1 [.val (.slice q.1 p.rels.length q.2)] 25)),(2,some (.row (some r35) 2 107 1 [.slice b3 (x.body.calls false).length c3,.slice b4 (x.body.calls true).length c4]))],3,μ4,nK r18 S⟩) (fun z=>L.length-z.1)
   (0,S,ch) ⟨Nat.zero_le _,hI3,hback,⟨fun e=>⟨(hP3.same e).1,(hP3.same e).2,StName.nil _ _ _ _ _⟩,hP3.more,hP3.grew⟩⟩ (fun(_,_,_)=>⟨rfl,rfl⟩) ⟨⟨rfl,rfl,rfl,rfl,rfl,rfl,rfl,rfl,rfl,rfl,rfl,rfl,rfl,rfl,trivial⟩,⟨rfl,rfl,trivial⟩,rfl,rfl⟩ ?_
  clear hP3 hI3 hback
  rintro⟨k,S,ch⟩ ⟨hk,hI3,hback,hP3⟩
  dsimp only at hk hI3 hback hP3
  refine ifd (fun hlt4=>?_) (fun hlt4=>?_)
  ·have w_:=aSo (l:=L) (i:=k) (by omega)
   obtain⟨nm,hnm⟩:=w_
   have w_:=Nm.elem hsL hnm
   obtain⟨ad4,hel4⟩:=w_
   have w_:=hf0 nm (mAt hnm)
   obtain⟨j,hj,hjl⟩:=w_
   have w_:=hI3.at (i:=j) hjl
   obtain⟨y,hy,hym⟩:=w_
   have w_:=hI3.at (i:=i) (by omega)
   obtain⟨w,hwi,hwm⟩:=w_
   have hstep:=qIw (C':=fun S=>(StDone p S i∧∀b:Bool,b.toNat<bb.toNat→StName p S i b (x.body.calls b))∧StName p S i bb (L.take (k+1))) hI3 hP3 hwi hy (hL0 nm (mAt hnm) j hj) (m':=p.rels.length+60*bb.toNat+(k+1)) (by omega) (by omega) fun hc e hle=>⟨hc.1,hc.2.snoc hnm hj (by rw[←e];exact hwi) (by rw[←e];exact hy) hle⟩
   refine eIn hel4 ?_
   have hfind:=eR (s:=nm) hpR
   rw[hj]at hfind
   refine cGv hfind ?_
   refine qT j rfl (by omega) ?_
   refine oIn [.int .i64 y] rfl (qX hy) ?_
   refine nEq (x:=((y+bb.toNat:Nat):Int)) (by rw[aA (by omega) (by omega)];omega) ?_
   refine qT i rfl (by omega) ?_
   refine oIn [.int .i64 w] rfl (qX hwi) ?_
   refine ifd (fun hlt5=>?_) (fun hge5=>?_)
   ·have h6:=hstep.1 (by omega)
    refine qT i rfl (by omega) ?_
    refine sIn (S.map fun k:Nat=>Value.int .i64 (k:Int)) 3 (Mem.set_at _ _ _) rfl (by have:=hI3.len;simp;omega) ?_
    exact aC (by omega) (by omega) ⟨(k+1,S.set i (y+bb.toNat),true),⟨by dsimp only;omega,h6.1,fun a ha=>by dsimp only;rw[qKm ha];exact hback a ha,h6.2⟩,by dsimp only;omega,⟨⟨rfl,rfl,rfl,rfl,rfl,rfl,rfl,rfl,rfl,rfl,rfl,rfl,rfl,rfl,trivial⟩,⟨rfl,rfl,trivial⟩,rfl,qLb (by have:=hI3.len;omega)⟩⟩
   ·have h6:=hstep.2 (by omega)
    exact aC (by omega) (by omega) ⟨(k+1,S,ch),⟨by dsimp only;omega,h6.1,hback,h6.2⟩,by dsimp only;omega,⟨⟨rfl,rfl,rfl,rfl,rfl,rfl,rfl,rfl,rfl,rfl,rfl,rfl,rfl,rfl,trivial⟩,⟨rfl,rfl,trivial⟩,rfl,rfl⟩⟩
  obtain rfl:k=L.length:=by omega
  rw[List.take_length]at hP3
  refine aC (by omega) (by omega) ⟨(bb.toNat+1,S,ch),⟨by dsimp only;omega,hI3.up (by omega),hback,⟨fun e=>⟨(hP3.same e).1,(hP3.same e).2.1.1,fun b hb=>?_⟩,hP3.more,hP3.grew⟩⟩,by dsimp only;omega,⟨⟨rfl,rfl,rfl,rfl,rfl,rfl,rfl,rfl,rfl,rfl,trivial⟩,⟨rfl,rfl,trivial⟩,rfl,rfl⟩⟩
  have h7:=(hP3.same e).2
  rcases Nat.lt_or_ge b.toNat bb.toNat with h8'|h8'
  ·exact h7.1.2 b h8'
  ·obtain rfl:b=bb:=by cases b<;>cases bb<;>simp_all
   rw[hLd];exact h7.2
 obtain rfl:kk=2:=by omega
 have w_:=hI3.at (i:=i) (by omega)
 obtain⟨w,hwi,hwm⟩:=w_
 refine qT i rfl (by omega) ?_
 refine oIn [.int .i64 w] rfl (qX hwi) ?_
 refine ifd (fun hbad=>?_) (fun hgood=>?_)
 ·refine rPl ?_
  rw[hI3.bad hok hwi (by omega)]
  rfl
 ·refine aC (by omega) (by omega) ⟨(i+1,S,ch,μ4),⟨by dsimp only;omega,hI3.up (by omega),fun k hk=>?_,hle1.trans (hle3.trans hle4),hr4,⟨fun e=>?_,hP3.more,hP3.grew⟩⟩,by dsimp only;omega,⟨⟨rfl,rfl,rfl,rfl,rfl,rfl,trivial⟩,⟨rfl,trivial⟩,rfl,rfl⟩⟩
  ·have:=le_back (m:=p.rels.length+1) hback (fun k hk=>by have:=hmx1 k hk;omega) hwi (by omega) k hk
   omega
  ·have w_:=hP3.same e
   obtain⟨h1,h2,h3⟩:=w_
   exact⟨h1,h2.next hx (h3 false (by decide)) (h3 true (by decide))⟩
end
end Go.Vx
namespace Go.Vx
open Go.Proofs Classical
noncomputable def qBh(p:Pg)(S:List Nat)(rs:List Ru)(s i:Nat):List Ru:=(rs.take i).filter fun r=>decide (oD p S r=s)
theorem qJq{p:Pg}{S:List Nat}{rs:List Ru}{s i:Nat}{r:Ru}(h:rs[i]?=some r):qBh p S rs s (i+1)=qBh p S rs s i++(if oD p S r=s then [r]else []):=by
 rw[qBh,List.take_add_one,h,Option.toList_some,List.filter_append,←qBh]
 congr 1
 by_cases e:oD p S r=s<;>simp[e]
theorem qMk(p:Pg)(S:List Nat)(rs:List Ru)(s:Nat):qBh p S rs s rs.length=zW p S rs s:=by rw[qBh,List.take_length,zW]
theorem qLu(p:Pg)(S:List Nat)(rs:List Ru)(s i:Nat):(qBh p S rs s i).length≤i:=Nat.le_trans (List.length_filter_le _ _) (List.length_take_le _ _)
theorem qLi(p:Pg)(S:List Nat)(rs:List Ru)(s:Nat)(B:List F):(aZ (zW p S rs s) B).length≤rs.length:=Nat.le_trans (iX _ _) (List.length_filter_le _ _)
theorem qIk{p:Pg}{S:List Nat}{r:Ru}(hS:cK p=some S)(hr:RuOk p r):∃k:Nat,bM p r.head.rel=(k:Int)∧k<p.rels.length∧S[k]?=some (oD p S r):=by
 obtain⟨⟨k,rl,h1,h2,_⟩,_⟩:=hr.head
 have h1:bM p r.head.rel=(k:Int):=h1
 have hk:=(List.getElem?_eq_some_iff.1 h2).1
 refine⟨k,h1,hk,?_⟩
 rw[cK]at hS
 split at hS
 ·cases hS
  rw[oD,h1,Int.toNat_natCast,List.getD_eq_getElem?_getD,List.getElem?_map,List.getElem?_range hk];rfl
 ·cases hS
section
variable {μ:Mem}
theorem NsV.sl{S:List Nat}{v:Value}(h:NsV μ S v):∃b c,v= .slice b S.length c∧Sl μ 1 b S.length ((S.map fun k:Nat=>(k:Int)).map D.i):=by
 have w_:=Rep.sl h
 obtain⟨b,c,rfl,hs⟩:=w_
 rw[List.length_map,List.length_map]at hs
 exact⟨b,c,by rw[List.length_map,List.length_map],hs⟩
theorem Ns.elem{S:List Nat}{b:Option Addr}{n k x:Nat}(h:Sl μ 1 b n ((S.map fun k:Nat=>(k:Int)).map D.i))(hx:S[k]?=some x):∃ad,ElemAt μ b n 1 k ad [.int .i64 (x:Int)]:=Ints.elem h (by simp[hx])
set_option maxHeartbeats 2000000 in
set_option maxHeartbeats 2000000 in
theorem iM{p:Pg}{u:List Tm}{v:Value}{ub:Option Addr}{uc:Nat}(hp:RepV μ p.d v)(hu:Sl μ 4 ub u.length (u.map Tm.d)):
  Spec Tryz.prog 30 [v,.slice ub u.length uc] μ fun v μ'=>optFs (fun y tv=>Fresh μ μ' (.sl 2 ((y.map F.fc).map Fc.d)) tv) (gJ p u) v:=by
 have hp0:=hp
 have w_:=Pg.inv hp
 obtain⟨q,rfl,hrl⟩:=w_
 refine Spec.mk Tryz.func30 (by kernel_rfl) ?_
 intro r2
 refine cPl (jX hp0) fun v1 μ1 hle1 hR1=>?_
 cases hS:cK p with
 |none=>
  rw[hS]at hR1
  obtain rfl:=hR1
  refine cPl (fV (hp0.mono hle1) (hu.mono hle1)) fun v2 μ2 hle2 hR2=>?_
  have e:gJ p u=none:=by rw[gJ,hS];rfl
  cases hL:bC p u with
  |none=>
   rw[hL]at hR2
   obtain rfl:=hR2
   exact iIn (fun _=>rPl (by rw[e];rfl)) (fun h=>nomatch h)
  |some rs=>
   rw[hL]at hR2
   obtain⟨tv,rfl,hR2⟩:=hR2
   exact iIn (fun _=>rPl (by rw[e];rfl)) (fun h=>nomatch h)
 |some S=>
 rw[hS]at hR1
 obtain⟨sv,rfl,hSV⟩:=hR1
 have hSV:NsV μ1 S sv:=hSV
 refine cPl (fV (hp0.mono hle1) (hu.mono hle1)) fun v2 μ2 hle2 hR2=>?_
 cases hL:bC p u with
 |none=>
  rw[hL]at hR2
  obtain rfl:=hR2
  refine iIn (fun h=>nomatch h) (fun _=>?_)
  exact iIn (fun _=>rPl (by rw[gJ,hS,Option.bind_some,hL];rfl)) (fun h=>nomatch h)
 |some rs=>
 rw[hL]at hR2
 obtain⟨tv,rfl,hR2⟩:=hR2
 have hR2:RsV μ2 rs tv:=hR2
 have w_:=RsV.sl hR2
 obtain⟨b1,c1,rfl,hrs⟩:=w_
 have w_:=NsV.sl hSV
 obtain⟨bS,cS,rfl,hsS⟩:=w_
 have w_:=dW hL
 obtain⟨hrl2,hro⟩:=w_
 have hpo:=(dE hL).1
 have hp8:=hpo.1
 have hres:gJ p u=some (fT p S rs p.rels.length):=by rw[gJ,hS,Option.bind_some,hL];rfl
 refine iIn (fun h=>nomatch h) (fun _=>?_)
 refine iIn (fun h=>nomatch h) (fun _=>?_)
 intro r32
 refine lFz (fun z:Nat×Option Addr×Nat×Mem=>z.1≤p.rels.length+1∧μ2.Le z.2.2.2∧FsV z.2.2.2 (fT p S rs z.1) (.slice z.2.1 (fT p S rs z.1).length z.2.2.1))
  (fun(s,b4,c4,μ')=>⟨[(2,.loc 0 r2 0),(6,.val (.slice bS S.length cS)),(8,.val (.slice b1 rs.length c1)),(10,.val (.slice b4 (fT p S rs s).length c4)),(11,.val (.int .i64 s))],[(0,some (.cells r2 [.val (.slice q.1 p.rels.length q.2)] 25))],1,μ',Mem.nil⟩) (fun z=>p.rels.length+1-z.1) [1]
  (fun(_,_,_,_)=>⟨rfl,rfl⟩) (fun μ3 hle3 hno3 hat3=>⟨(0,some ⟨r32,0,none⟩,0,μ3),⟨Nat.zero_le _,hle3,FsV.nil _ _⟩,⟨rfl,rfl,rfl,rfl,rfl,trivial⟩,⟨rfl,trivial⟩,rfl,rfl⟩) ?_
 rintro⟨s,b4,c4,μ3⟩ ⟨hs,hle3,hout0⟩
 dsimp only at hs hle3 hout0
 refine ifd (fun hlt=>?_) (fun hlt=>?_)
 rotate_left
 ·obtain rfl:s=p.rels.length+1:=by omega
  rw[qJz hS hro]at hout0 ⊢
  have hk:=xK hres
  refine cPl (cT hout0 (by omega) fun f hf=>Nat.le_trans (hk.2.1.len hk.1 f hf) (by decide)) fun v4 μ4 hle4 hR4=>?_
  refine rPl ?_
  rw[hres]
  exact⟨_,rfl,hR4.mono ((hle1.trans hle2).trans hle3) (Mem.Le.refl _)⟩
 have hBn:=qDp (p:=p) (S:=S) (rs:=rs) s
 have hBa:=uA (p:=p) (S:=S) (rs:=rs) s
 have hBs:fT p S rs (s+1)=lfp (aZ (zW p S rs s) (fT p S rs s)) (fT p S rs s):=rfl
 generalize hB:fT p S rs s=B at*
 have w_:=FsV.sl hout0
 obtain⟨b6,c6,e,-,hsB⟩:=w_
 have w_:=Value.slice.inj e
 obtain⟨rfl,_,rfl⟩:=w_
 have hRn:=qLi p S rs s B
 intro r40
 refine lIn (fun z:Nat×Option Nat×Nat×List Value=>z.1≤rs.length∧Rows μ3 6 (((qBh p S rs s z.1).map Ru.rd).map RuD.d) z.2.2.2)
  (fun(i,bo,co,ys)=>⟨[(2,.loc 0 r2 0),(6,.val (.slice bS S.length cS)),(8,.val (.slice b1 rs.length c1)),(10,.val (.slice b4 B.length c4)),(11,.val (.int .i64 s)),(12,.row 1 bo ys.length co),(41,.val (.slice b1 rs.length c1)),(42,.val (.int .i64 rs.length)),(43,.val (.int .i64 i))],[(0,some (.cells r2 [.val (.slice q.1 p.rels.length q.2)] 25)),(1,some (.row bo co 106 6 ys))],2,μ3,Mem.nil⟩) (fun z=>rs.length-z.1)
  (0,some r40,0,[]) ⟨Nat.zero_le _,by simpa[qBh]using .nil⟩ (fun(_,_,_,_)=>⟨rfl,rfl⟩) ⟨⟨rfl,rfl,rfl,rfl,rfl,rfl,rfl,rfl,rfl,trivial⟩,⟨rfl,rfl,trivial⟩,rfl,rfl⟩ ?_
 rintro⟨i,bo,co,ys⟩ ⟨hi,hrows⟩
 dsimp only at hi hrows
 have hyl:=hrows.len
 rw[List.length_map,List.length_map]at hyl
 have hol:=qLu p S rs s i
 refine ifd (fun hlt2=>?_) (fun hlt2=>?_)
 ·have w_:=aSo (l:=rs) (i:=i) (by omega)
  obtain⟨r,hri⟩:=w_
  have w_:=Ru.elem (hrs.mono hle3) hri
  obtain⟨ad,pr,hel,hrv,hat⟩:=w_
  have hsucc:=qJq (p:=p) (S:=S) (s:=s) hri
  have w_:=qIk hS (hro r (mAt hri))
  obtain⟨k,hk,hkl,hkS⟩:=w_
  have w_:=Ns.elem (hsS.mono (hle2.trans hle3)) hkS
  obtain⟨ad2,hel2⟩:=w_
  refine eIn hel ?_
  intro r14
  have hfind:=eR (s:=r.head.rel) (hp0.mono ((hle1.trans hle2).trans hle3))
  rw[hk]at hfind
  refine cGv hfind ?_
  refine eIn hel2 ?_
  refine ifd (fun hidx=>?_) (fun hidx=>?_)
  ·rw[if_pos (by omega)]at hsucc
   intro r59
   refine gIn ?_ ?_ fun b' c' _=>?_
   ·show(ys.length+1)*120≤_;omega
   ·exact Nat.le_trans (m:=100000000) (show ys.length+1≤_ by omega) (by decide)
   refine aC (by omega) (by omega) ⟨(i+1,b',c',_),⟨by dsimp only;omega,?_⟩,by dsimp only;omega,⟨⟨rfl,rfl,rfl,rfl,rfl,rfl,rfl,rfl,rfl,trivial⟩,⟨rfl,rfl,trivial⟩,rfl,rfl⟩⟩
   dsimp only
   rw[hsucc]
   simp only[List.map_append,List.map_cons,List.map_nil]
   exact hrows.append (Rows.one hrv (RuD.d_n _))
  ·rw[if_neg (by omega),List.append_nil]at hsucc
   refine aC (by omega) (by omega) ⟨(i+1,bo,co,ys),⟨by dsimp only;omega,?_⟩,by dsimp only;omega,⟨⟨rfl,rfl,rfl,rfl,rfl,rfl,rfl,rfl,rfl,trivial⟩,⟨rfl,rfl,trivial⟩,rfl,rfl⟩⟩
   dsimp only
   rw[hsucc];exact hrows
 obtain rfl:i=rs.length:=by omega
 rw[qMk]at hrows hyl hol
 refine bG [1] ?_
 intro μ4 hle4 hno4 hat4
 have hRO:RsV μ4 (zW p S rs s) (.slice (bo.map fun r=>⟨r,0,none⟩) ys.length co):=Rows.sl hat4 (hrows.mono hle4) (Nat.le_trans (m:=100000000) (by omega) (by decide))
 have w_:=RsV.sl hRO
 obtain⟨b9,c9,e9,hsO⟩:=w_
 have w_:=Value.slice.inj e9
 obtain⟨rfl,_,rfl⟩:=w_
 have hun:=sJ (c3:=co) (c:=c4) hsO (by omega) hBa (by omega) (hsB.mono hle4)
 rw[hyl]at hun
 refine cB hun fun v5 μ5 hle5 hR5=>?_
 have hR5:RsV μ5 (aZ (zW p S rs s) B) v5:=hR5
 have w_:=RsV.sl hR5
 obtain⟨b7,c7,rfl,hsU⟩:=w_
 refine cPl (xH hsU (by omega) (RepV.mono (hle4.trans hle5) hout0) (by omega)) fun v6 μ6 hle6 hR6=>?_
 rw[←hBs]at hR6
 have w_:=FsV.sl hR6
 obtain⟨b8,c8,rfl,-,-⟩:=w_
 exact aC (by omega) (by omega) ⟨[],(s+1,b8,c8,μ6),⟨by dsimp only;omega,(hle3.trans hle4).trans (hle5.trans hle6),hR6⟩,by dsimp only;omega,⟨⟨rfl,rfl,rfl,rfl,rfl,trivial⟩,⟨rfl,trivial⟩,rfl,rfl⟩⟩
end
end Go.Vx
namespace Go.Vx
open Go.Proofs Classical
theorem qMu{rs:List Ru}{b:List F}{f:F}(h:f∈b):f∈lfp rs b:=mem_lfp.2 (.base h)
theorem wf_ex(rs:List Ru):∃n,oP rs (bD rs n)=bD rs n:=by
 refine Classical.byContradiction fun hn=>?_
 have hne:∀n,oP rs (bD rs n)≠bD rs n:=fun n e=>hn ⟨n,e⟩
 have hl:∀n,n≤(bD rs n).length:=fun n=>by
  induction n with
  |zero=>exact Nat.zero_le _
  |succ n ih=>
   have h2:(bD rs n).length<(bD rs (n+1)).length:=qN cmpF_ord (fK rs n) (fK rs (n+1)) (mF rs n) fun e=>
    hne n (mA cmpF_ord (fK rs n) (fK rs (n+1)) (mF rs n) e).symm
   omega
 have h1:=hl (rs.length+1)
 have h2:=qCm rs (rs.length+1)
 omega
theorem qGr(rs:List Ru):∃n,wfT rs=bD rs n∧oP rs (bD rs n)=bD rs n:=by
 have w_:=wf_ex rs
 obtain⟨n,hn⟩:=w_
 exact⟨n,(qMo hn).symm,hn⟩
theorem qHh(rs:List Ru):gam rs (gam rs (wfT rs))=wfT rs:=by
 have w_:=qGr rs
 obtain⟨n,e,h⟩:=w_
 rw[e];exact h
theorem wfT_asc(rs:List Ru):Asc3 dK (wfT rs):=by
 have w_:=qGr rs
 obtain⟨n,e,_⟩:=w_
 rw[e];exact fK rs n
theorem qEh(rs:List Ru):∀n,∀f∈bD rs n,f∈gam rs (bD rs n)
 |0,_,h=>nomatch h
 |n+1,f,h=>by
  have ih:=qEh rs n
  have h1:∀f∈bD rs (n+1),f∈gam rs (bD rs n):=fun f hf=>pR ih hf
  exact pR h1 h
theorem wfT_gam(rs:List Ru):∀f∈wfT rs,f∈gam rs (wfT rs):=by
 have w_:=qGr rs
 obtain⟨n,e,_⟩:=w_
 rw[e];exact qEh rs n
theorem mem_wfO{rs:List Ru}{f:F}:f∈wfO rs↔f∈gam rs (wfT rs)∧f∉wfT rs:=by rw[wfO,List.mem_filter,decide_eq_true_eq]
end Go.Vx
namespace Go.Vx
open Go.Proofs Classical
structure StrR (ix:F→Nat) (n:Nat) (rs:List Ru):Prop where
 head:∀r∈rs,ix r.head<n
 pos:∀r∈rs,∀f∈r.pos,ix f≤ix r.head
 neg:∀r∈rs,∀f∈r.neg,ix f<ix r.head
noncomputable def ownG(ix:F→Nat)(rs:List Ru)(s:Nat):List Ru:=rs.filter fun r=>decide (ix r.head=s)
noncomputable def fL(ix:F→Nat)(rs:List Ru):Nat→List F
 |0=>[]
 |s+1=>lfp (aZ (ownG ix rs s) (fL ix rs s)) (fL ix rs s)
section
variable {ix:F→Nat} {n:Nat} {rs:List Ru}
theorem mem_ownG{s:Nat}{r:Ru}:r∈ownG ix rs s↔r∈rs∧ix r.head=s:=by rw[ownG,List.mem_filter,decide_eq_true_eq]
theorem qBi{s:Nat}{f:F}(h:f∈fL ix rs s):∀k,f∈fL ix rs (s+k)
 |0=>h
 |k+1=>by
  show f∈fL ix rs (s+k+1)
  rw[fL]
  exact qMu (qBi h k)
theorem qHl:∀(k s:Nat) {f:F},f∈fL ix rs (s+k)→ix f<s→f∈fL ix rs s
 |0,_,_,h,_=>h
 |k+1,s,f,h,hl=>by
  replace h:f∈fL ix rs (s+k+1):=h
  rw[fL,mem_lfp]at h
  cases h with
  |base h=>exact qHl k s h hl
  |rule h _=>
   have:=(mem_ownG.1 (mem_unlessR.1 h).1).2
   omega
theorem qGx{s:Nat}{f:F}(h:f∈fL ix rs n)(hl:ix f<s)(hs:s≤n):f∈fL ix rs s:=by
 have e:s+(n-s)=n:=by omega
 rw[←e]at h
 exact qHl (n-s) s h hl
variable (H:StrR ix n rs)
include H
theorem qDz:∀s,s≤n→∀f∈fL ix rs s,f∈gam rs (fL ix rs n)
 |0,_,_,h=>nomatch h
 |s+1,hs,f,h=>by
  rw[fL,mem_lfp]at h
  rw[gam,mem_lfp]
  induction h with
  |base h=>
   have:=qDz s (by omega) _ h
   rwa [gam,mem_lfp]at this
  |rule h _ ih=>
   have w_:=mem_unlessR.1 h
   obtain⟨h1,h2⟩:=w_
   have w_:=mem_ownG.1 h1
   obtain⟨h3,h4⟩:=w_
   refine .rule (mem_unlessR.2 ⟨h3,fun x hx k=>h2 x hx ?_⟩) ih
   have:=H.neg _ h3 x hx
   exact qGx k (by omega) (by omega)
theorem qKx:∀f∈gam rs (fL ix rs n),f∈fL ix rs n:=fun f h=>by
 rw[gam,mem_lfp]at h
 induction h with
 |base h=>cases h
 | @rule r h _ ih=>
  have w_:=mem_unlessR.1 h
  obtain⟨h1,h2⟩:=w_
  have hlt:=H.head r h1
  have e:ix r.head+1+(n-(ix r.head+1))=n:=by omega
  rw[←e]
  refine qBi ?_ _
  rw[fL,mem_lfp]
  refine .rule (mem_unlessR.2 ⟨mem_ownG.2 ⟨h1,rfl⟩,fun x hx k=>h2 x hx ?_⟩) fun x hx=>?_
  ·have e2:ix r.head+(n-ix r.head)=n:=by omega
   rw[←e2]
   exact qBi k _
  ·have h3:=qGx (ih x hx) (s:=ix r.head+1) (by have:=H.pos r h1 x hx;omega) (by omega)
   rw[fL,mem_lfp]at h3
   exact h3
theorem jA:∀f,f∈gam rs (fL ix rs n)↔f∈fL ix rs n:=fun f=>⟨qKx H f,qDz H n (Nat.le_refl n) f⟩
theorem qMe(s:Nat):Asc3 dK (fL ix rs s):=by
 cases s with
 |zero=>exact List.Pairwise.nil
 |succ s=>exact mZ _ _
theorem tA:∀s,∀f,ix f<s→(f∈fL ix rs n→f∈wfT rs)∧(f∈gam rs (wfT rs)→f∈fL ix rs n)
 |0,_,h=>absurd h (Nat.not_lt_zero _)
 |s+1,f,hf=>by
  have ih:=tA s
  have hU:∀f,Der (aZ rs (wfT rs)) [] f→ix f≤s→f∈fL ix rs n:=fun f h=>by
   induction h with
   |base h=>cases h
   | @rule r h _ ihr=>
    intro hl
    have w_:=mem_unlessR.1 h
    obtain⟨h1,h2⟩:=w_
    refine(jA H _).1 ?_
    rw[gam,mem_lfp]
    refine .rule (mem_unlessR.2 ⟨h1,fun x hx k=>h2 x hx ?_⟩) fun x hx=>?_
    ·exact(ih x (by have:=H.neg r h1 x hx;omega)).1 k
    ·have:=(jA H x).2 (ihr x hx (by have:=H.pos r h1 x hx;omega))
     rwa [gam,mem_lfp]at this
  have hM:∀f,Der (aZ rs (fL ix rs n)) [] f→ix f≤s→Der (aZ rs (gam rs (wfT rs))) [] f:=fun f h=>by
   induction h with
   |base h=>cases h
   | @rule r h _ ihr=>
    intro hl
    have w_:=mem_unlessR.1 h
    obtain⟨h1,h2⟩:=w_
    refine .rule (mem_unlessR.2 ⟨h1,fun x hx k=>h2 x hx ?_⟩) fun x hx=>?_
    ·exact(ih x (by have:=H.neg r h1 x hx;omega)).2 k
    ·exact ihr x hx (by have:=H.pos r h1 x hx;omega)
  refine⟨fun h=>?_,fun h=>?_⟩
  ·have h:=(jA H f).2 h
   rw[gam,mem_lfp]at h
   have:=hM f h (by omega)
   rw[←qHh rs,gam,mem_lfp]
   exact this
  ·rw[gam,mem_lfp]at h
   exact hU f h (by omega)
theorem yD:fL ix rs n=wfT rs:=by
 refine Asc3.uniq cmpF_ord (qMe H n) (wfT_asc rs) fun f=>⟨fun h=>?_,fun h=>?_⟩
 ·exact(tA H (ix f+1) f (by omega)).1 h
 ·exact(tA H (ix f+1) f (by omega)).2 (wfT_gam rs f h)
theorem qJc:wfO rs=[]:=by
 rw[List.eq_nil_iff_forall_not_mem]
 intro f h
 have w_:=mem_wfO.1 h
 obtain⟨h1,h2⟩:=w_
 have h3:=(tA H (ix f+1) f (by omega)).2 h1
 rw[yD H]at h3
 exact h2 h3
end
def oY(g x:Gl):Prop:=(x.kind=9→x.name∈g.calls false)∧(x.kind=10→∀y,x.goals[0]?=some y→y.name∈g.calls true)
mutual
theorem Gl.cl_calls:∀(g:Gl) {L:List (List Gl)},g.cl=some L→∀c∈L,∀x∈c,oY g x
 | .mk k s ts gs,L,h=>by
  have hsub:k≠10→∀y∈gs,∀x,oY y x→oY (Gl.mk k s ts gs) x:=fun h10 y hy x hx=>by
   have e:∀b,∀z∈y.calls b,z∈(Gl.mk k s ts gs).calls b:=fun b z hz=>by
    rw[Gl.calls,if_neg h10,Gl.callss_map]
    exact List.mem_append_right _ (List.mem_flatMap.2 ⟨y,hy,hz⟩)
   exact⟨fun q=>e false _ (hx.1 q),fun q w hw=>e true _ (hx.2 q w hw)⟩
  rw[Gl.cl]at h
  split at h
  ·cases h;simp
  rename_i h0
  split at h
  ·cases h;simp
  rename_i h1
  split at h
  ·rename_i h8
   exact Gl.clOr_calls gs (oY (Gl.mk k s ts gs)) (hsub (by omega)) (by simp) h
  rename_i h8
  split at h
  ·rename_i h7
   exact Gl.clAnd_calls gs (oY (Gl.mk k s ts gs)) (hsub (by omega)) (by simp) h
  ·cases h
   intro c hc x hx
   rw[List.mem_singleton.1 hc]at hx
   rw[List.mem_singleton.1 hx]
   refine⟨fun(q:k=9)=>?_,fun(q:k=10) y hy=>?_⟩
   ·show s∈(Gl.mk k s ts gs).calls false
    rw[Gl.calls,if_neg (by omega),if_pos ⟨q,rfl⟩]
    simp
   ·rw[Gl.calls,if_pos q,if_pos rfl]
    have hy:gs[0]?=some y:=hy
    cases gs with
    |nil=>cases hy
    |cons a r=>cases hy;simp[mR]
theorem Gl.clOr_calls:∀(gs:List Gl) (Q:Gl→Prop) {acc L:List (List Gl)},(∀y∈gs,∀x,oY y x→Q x)→(∀c∈acc,∀x∈c,Q x)→Gl.clOr gs acc=some L→∀c∈L,∀x∈c,Q x
 |[],Q,acc,L,_,h1,h=>by
  rw[Gl.clOr]at h;cases h;exact h1
 |g::gs,Q,acc,L,hQ,h1,h=>by
  rw[Gl.clOr]at h
  cases e:g.cl with
  |none=>rw[e]at h;cases h
  |some l=>
   rw[e,Option.bind_some]at h
   have hb:=Gl.cl_calls g e
   split at h
   ·exact Gl.clOr_calls gs Q (acc:=acc++l) (fun y hy=>hQ y (by simp[hy])) (fun c hc x hx=>by
     rcases List.mem_append.1 hc with hc|hc
     ·exact h1 c hc x hx
     ·exact hQ g (by simp) x (hb c hc x hx)) h
   ·cases h
theorem Gl.clAnd_calls:∀(gs:List Gl) (Q:Gl→Prop) {acc L:List (List Gl)},(∀y∈gs,∀x,oY y x→Q x)→(∀c∈acc,∀x∈c,Q x)→Gl.clAnd gs acc=some L→∀c∈L,∀x∈c,Q x
 |[],Q,acc,L,_,h1,h=>by
  rw[Gl.clAnd]at h;cases h;exact h1
 |g::gs,Q,acc,L,hQ,h1,h=>by
  rw[Gl.clAnd]at h
  cases e:g.cl with
  |none=>rw[e]at h;cases h
  |some l=>
   rw[e,Option.bind_some]at h
   have hb:=Gl.cl_calls g e
   split at h
   ·exact Gl.clAnd_calls gs Q (acc:=fH acc l) (fun y hy=>hQ y (by simp[hy])) (fun c hc x hx=>by
     have w_:=nC hc
     obtain⟨u,hu,w,hw,rfl⟩:=w_
     rcases List.mem_append.1 hx with hx|hx
     ·exact h1 u hu x hx
     ·exact hQ g (by simp) x (hb w hw x hx)) h
   ·cases h
end
theorem qJl{p:Pg}{U:List T}{x:Ru}(h:x∈cA p U):∃(k:Nat) (r:Rl) (L:List (List Gl)) (i:Nat) (c:List Gl) (w:Nat),p.rels[k]?=some r∧r.body.cl=some L∧L[i]?=some c∧w<U.length ^ (r.arity+r.locals).toNat∧
  (∀g∈c,okG U (nM U (r.arity+r.locals).toNat w) g)∧x=qGg r i c (nM U (r.arity+r.locals).toNat w):=by
 have w_:=List.mem_flatMap.1 h
 obtain⟨r,hr,h⟩:=w_
 have w_:=List.mem_iff_getElem?.1 hr
 obtain⟨k,hk⟩:=w_
 rw[dH]at h
 cases e:r.body.cl with
 |none=>rw[e]at h;cases h
 |some L=>
  rw[e]at h
  have w_:=List.mem_flatMap.1 h
  obtain⟨i,hi,h⟩:=w_
  rw[List.mem_range]at hi
  have w_:=aSo (l:=L) (i:=i) hi
  obtain⟨c,hc⟩:=w_
  have ec:L.getD i []=c:=by rw[List.getD_eq_getElem?_getD,hc];rfl
  rw[ec]at h
  have w_:=List.mem_filterMap.1 h
  obtain⟨w,hw,h⟩:=w_
  rw[iK]at h
  split at h
  ·rename_i hok
   cases h
   exact⟨k,r,L,i,c,w,hk,e,hc,List.mem_range.1 hw,hok,rfl⟩
  ·cases h
theorem qDh{p:Pg}{S:List Nat}{U:List T}(hp:p.Ok)(hS:cK p=some S):StrR (fun f=>S.getD (bM p f.rel).toNat 0) p.rels.length (cA p U):=by
 rw[cK]at hS
 split at hS
 ·rename_i hh
  obtain⟨_,T,hT⟩:=hh
  cases hS
  have hst:=kZ hT
  have ixk:∀{s:ByteArray} {k:Nat},bM p s=(k:Int)→k<p.rels.length→((List.range p.rels.length).map (kU p.rels.length (dG false p) (dG true p))).getD (bM p s).toNat 0=kU p.rels.length (dG false p) (dG true p) k:=fun {s k} h1 h2=>by
   rw[h1,Int.toNat_natCast,List.getD_eq_getElem?_getD,List.getElem?_map,List.getElem?_range h2];rfl
  have key:∀x∈cA p U,∃k:Nat,k<p.rels.length∧bM p x.head.rel=(k:Int)∧(∀f∈x.pos,∃j:Nat,j<p.rels.length∧bM p f.rel=(j:Int)∧dG false p k j)∧∀f∈x.neg,∃j:Nat,j<p.rels.length∧bM p f.rel=(j:Int)∧dG true p k j:=fun x hx=>by
   have w_:=qJl hx
   obtain⟨k,r,L,i,c,w,hk,hL,hc,_,_,rfl⟩:=w_
   have hro:=hp.2 k r hk
   have hkl:=(List.getElem?_eq_some_iff.1 hk).1
   refine⟨k,hkl,hro.at_,fun f hf=>?_,fun f hf=>?_⟩
   ·have w_:=List.mem_map.1 hf
    obtain⟨g,hg,rfl⟩:=w_
    have w_:=List.mem_filter.1 hg
    obtain⟨hg,h9⟩:=w_
    have h9:g.kind=9:=of_decide_eq_true h9
    have hq:=(Gl.cl_calls r.body hL c (mAt hc) g hg).1 h9
    have w_:=Gl.calls_fit false hro.body hro.calls g.name hq
    obtain⟨j,hj,hjl⟩:=w_
    exact⟨j,hjl,hj,r,hk,g.name,hq,hj⟩
   ·have w_:=List.mem_map.1 hf
    obtain⟨g,hg,rfl⟩:=w_
    have w_:=List.mem_filter.1 hg
    obtain⟨hg,h10⟩:=w_
    have h10:g.kind=10:=of_decide_eq_true h10
    have hkid:=Gl.kid_at ((ClG.of hp hk hL (mAt hc) hg).sh.top.gl1 h10)
    have hq:=(Gl.cl_calls r.body hL c (mAt hc) g hg).2 h10 _ hkid
    have w_:=Gl.calls_fit true hro.body hro.calls g.kid.name hq
    obtain⟨j,hj,hjl⟩:=w_
    exact⟨j,hjl,hj,r,hk,g.kid.name,hq,hj⟩
  refine⟨fun x hx=>?_,fun x hx f hf=>?_,fun x hx f hf=>?_⟩
  ·obtain⟨k,h1,h2,_⟩:=key x hx
   rw[ixk h2 h1]
   exact zS hT h1
  ·obtain⟨k,h1,h2,h3,_⟩:=key x hx
   obtain⟨j,h4,h5,h6⟩:=h3 f hf
   rw[ixk h2 h1,ixk h5 h4]
   exact hst.pos k j h1 h4 h6
  ·obtain⟨k,h1,h2,_,h3⟩:=key x hx
   obtain⟨j,h4,h5,h6⟩:=h3 f hf
   rw[ixk h2 h1,ixk h5 h4]
   have:=hst.neg k j h1 h4 h6
   omega
 ·cases hS
theorem zD(p:Pg)(S:List Nat)(rs:List Ru):∀s,fT p S rs s=fL (fun f=>S.getD (bM p f.rel).toNat 0) rs s
 |0=>rfl
 |s+1=>by
  rw[fT,fL,zD p S rs s]
  rfl
end Go.Vx
namespace Go.Vx
open Go.Proofs Classical
theorem zL{p:Pg}{S:List Nat}{U:List T}(hp:p.Ok)(hS:cK p=some S):
  wfT (cA p U)=fT p S (cA p U) p.rels.length∧wfO (cA p U)=[]∧(∀f,f∈gam (cA p U) (fT p S (cA p U) p.rels.length)↔f∈fT p S (cA p U) p.rels.length):=by
 have H:=qDh (U:=U) hp hS
 rw[zD]
 exact⟨(yD H).symm,qJc H,fun f=>jA H f⟩
theorem qBb{rs:List Ru}{y:List F}(h:∀f,f∈gam rs y↔f∈y):qFo rs y:=fun f hf=>by
 have w_:=mem_nextF.1 hf
 obtain⟨r,hr,hfr,rfl⟩:=w_
 refine(h _).1 ?_
 rw[gam,mem_lfp]
 refine .rule (mem_unlessR.2 ⟨hr,fun g hg=>?_⟩) fun g hg=>?_
 ·exact fun k=>hfr.2 g hg (mem_ascF.2 k)
 ·have:=(h g).2 (mem_ascF.1 (hfr.1 g hg))
  rw[gam,mem_lfp]at this
  exact this
end Go.Vx
namespace Go.Vx
open Go.Proofs Classical
theorem qKs{rs:List Ru}(h:∀r∈rs,r.neg=[]){y z:List F}(_:z=y)(hT:wfT rs=y):lfp rs []=y:=by
 have e:∀S,aZ rs S=rs:=fun S=>by
  rw[aZ]
  exact List.filter_eq_self.2 fun r hr=>by simp[h r hr]
 have:=qHh rs
 rw[gam,e,hT]at this
 exact this
section
variable {μ:Mem}
set_option maxHeartbeats 2000000 in
theorem wE{base:Option Addr}{n cap:Nat}(hb:Bytes μ base n):
  Spec Tryz.prog 6 [.slice base n cap] μ fun r _=>r= .bool true:=by
 refine Spec.mk Tryz.func6 (by kernel_rfl) ?_
 refine ifd (fun h=>rPl rfl) (fun h=>?_)
 refine cPl (qY hb 0 (by decide) 2 (.inr rfl)) fun v1 μ1 hle1 hR=>?_
 obtain⟨p,hp,hrp⟩:=hR
 have w_:=Pg.invV hrp
 obtain⟨q,rfl⟩:=w_
 intro r3
 refine cPl (pB (hb.mono hle1) 60 (by decide) 2 (by decide) (by decide)) fun v2 μ2 hle2 hR=>?_
 obtain⟨U,hU,hrU⟩:=hR
 have w_:=Rep.sl hrU
 obtain⟨ub,uc,rfl,hus⟩:=w_
 rw[List.length_map,List.length_map]at hus ⊢
 have hus0:Sl μ2 4 ub (U.map T.tm).length ((U.map T.tm).map Tm.d):=by rw[List.length_map];exact hus
 have hgr:cI p U=some (cA p U):=qAo hp.small2 hU.max
 have hgo:bC p (U.map T.tm)=some (cA p U):=by rw[bC,if_pos ⟨hp.ok,hU.ok (by decide)⟩,iQ];exact hgr
 have hrp2:=hrp.mono hle2
 refine cPl (jX hrp2) fun v3 μ3 hle3 hR3=>?_
 have hsm:=fun μ (hl:μ2.Le μ)=>iM (μ:=μ) (uc:=uc) (hrp2.mono hl) (hus0.mono hl)
 have hwf:=fun μ (hl:μ2.Le μ)=>lL (μ:=μ) (uc:=uc) (hrp2.mono hl) (hus0.mono hl)
 have hlm:=fun μ (hl:μ2.Le μ)=>lO (μ:=μ) (uc:=uc) (hrp2.mono hl) (hus0.mono hl)
 rw[List.length_map]at hsm hwf hlm
 have hwe:wfM p (U.map T.tm)=some (wfT (cA p U),wfO (cA p U)):=by rw[wfM,hgo];rfl
 cases hS:cK p with
 |none=>
  rw[hS]at hR3
  have hR3:v3= .tuple #[.slice none 0 0,.bool false]:=hR3
  subst hR3
  refine cPl (hsm _ hle3) fun v4 μ4 hle4 hR4=>?_
  rw[show gJ p (U.map T.tm)=none by rw[gJ,hS];rfl]at hR4
  have hR4:v4= .tuple #[.slice none 0 0,.bool false]:=hR4
  subst hR4
  refine cPl (hwf _ (hle3.trans hle4)) fun v5 μ5 hle5 hR5=>?_
  rw[hwe]at hR5
  obtain⟨tv,tw,rfl,_⟩:=hR5
  refine iIn (fun h=>nomatch h) (fun _=>?_)
  refine iIn (fun h=>nomatch h) (fun _=>?_)
  refine iIn (fun _=>rPl rfl) (fun h=>nomatch h)
 |some S=>
  rw[hS]at hR3
  obtain⟨tv3,rfl,hR3⟩:=hR3
  have hse:gJ p (U.map T.tm)=some (fT p S (cA p U) p.rels.length):=by rw[gJ,hS,Option.bind_some,hgo];rfl
  have w_:=zL (U:=U) hp.ok hS
  obtain⟨hT,hO,hG⟩:=w_
  have w_:=xK hse
  obtain⟨-,hFs,hy2⟩:=w_
  generalize hyd:fT p S (cA p U) p.rels.length=y at*
  refine cPl (hsm _ hle3) fun v4 μ4 hle4 hR4=>?_
  rw[hse]at hR4
  obtain⟨tv4,rfl,hR4⟩:=hR4
  have w_:=FsV.sl hR4.rep
  obtain⟨b4,c4,rfl,-,hs4⟩:=w_
  refine cPl (hwf _ (hle3.trans hle4)) fun v5 μ5 hle5 hR5=>?_
  rw[hwe,hT,hO]at hR5
  obtain⟨tv,tw,rfl,μa,μb,l1,l2,l3,ht,hw⟩:=hR5
  have w_:=FsV.sl (ht.rep.mono (l2.trans l3))
  obtain⟨b5,c5,rfl,-,hs5⟩:=w_
  have w_:=FsV.sl hw.rep
  obtain⟨b6,c6,rfl,-,hs6⟩:=w_
  refine iIn (fun h=>nomatch h) (fun _=>?_)
  refine iIn (fun h=>nomatch h) (fun _=>?_)
  refine iIn (fun h=>nomatch h) (fun _=>?_)
  have hle25:=hle3.trans (hle4.trans hle5)
  refine cPl (hlm _ hle25) fun v7 μ7 hle7 hR7=>?_
  have least:∃(tv7:Value) (n7:Int) (g7:Bool) (L7:List F),v7= .tuple #[tv7,.int .i64 n7,.bool g7]∧FsV μ7 L7 tv7∧(p.Pos→g7=true∧L7=y):=by
   by_cases hpos:p.Pos
   ·have e:iD p (U.map T.tm)=some y:=by
     rw[iD,dM,if_pos hpos,hgo]
     show some (lfp (cA p U) [])=some y
     rw[qKs (qHj hpos hgo) hyd hT]
    rw[e]at hR7
    obtain⟨tv7,n7,rfl,hR7⟩:=hR7
    exact⟨tv7,n7,true,y,rfl,hR7.rep,fun _=>⟨rfl,rfl⟩⟩
   ·have e:iD p (U.map T.tm)=none:=by rw[iD,dM,if_neg hpos];rfl
    rw[e]at hR7
    exact⟨.slice none 0 0,0,false,[],hR7,Rep.nilSl 2,fun h=>absurd h hpos⟩
  obtain⟨tv7,n7,g7,L7,rfl,hf7,hp7⟩:=least
  have w_:=FsV.sl hf7
  obtain⟨b7,c7,rfl,-,hs7⟩:=w_
  have hall:∀f∈y.map F.fc,FactFits p f:=fun f hf=>by
   have w_:=List.mem_map.1 hf
   obtain⟨g,hg,rfl⟩:=w_
   exact hFs g hg
  have hst:qHz p (U.map T.tm) (y.map F.fc):=⟨gam (cA p U) ((y.map F.fc).map Fc.f),by rw[fD,hgo,Option.bind_some,if_pos hall],fun x=>by rw[F.fcs];exact hG x⟩
  have hle27:=hle25.trans hle7
  have hle47:=hle5.trans hle7
  have hy7:FsV μ7 y (.slice b4 y.length c4):=hR4.rep.mono hle47
  have hstab:=oS (μ:=μ7) (l:=y.map F.fc) (fb:=b4) (fc:=c4) (uc:=uc) (hrp2.mono hle27) (hus0.mono hle27) (by rw[List.length_map];exact hy7) (by rw[List.length_map];omega)
  rw[List.length_map,List.length_map]at hstab
  refine cPl hstab fun v8 μ8 hle8 hR8=>?_
  rw[decide_eq_true hst]at hR8
  subst hR8
  refine iIn (fun _=>?_) (fun h=>nomatch h)
  refine ifd (fun _=>?_) (fun h=>absurd rfl h)
  refine ifd (fun _=>?_) (fun h=>absurd rfl h)
  refine cGv (sM ((hs5.mono hle7).mono hle8) ((hs4.mono hle47).mono hle8)) ?_
  refine iIn (fun _=>?_) (fun h=>absurd (fun f hf=>hf) (of_decide_eq_false h))
  refine cPl (pV (uc:=uc) ((hrp2.mono hle27).mono hle8) ((hus.mono hle27).mono hle8) (hy7.mono hle8) (by omega) hp.ok (hU.ok (by decide)) (fun f hf=>hFs f hf) hgr) fun v9 μ9 hle9 hR9=>?_
  rw[decide_eq_true (qBb hG)]at hR9
  subst hR9
  refine iIn (fun _=>?_) (fun h=>nomatch h)
  refine cPl (gB (((hrp2.mono hle27).mono hle8).mono hle9)) fun v10 μ10 hle10 hR10=>?_
  have hR10:v10= .bool (decide p.Pos):=hR10
  subst hR10
  refine iIn (fun _=>rPl rfl) (fun hpn=>?_)
  have w_:=hp7 (nd' hpn)
  obtain⟨rfl,rfl⟩:=w_
  refine iIn (fun _=>?_) (fun h=>nomatch h)
  refine ifd (fun _=>?_) (fun h=>absurd rfl h)
  refine cGv (sM (((hs7.mono hle8).mono hle9).mono hle10) ((((hs4.mono hle47).mono hle8).mono hle9).mono hle10)) ?_
  refine rPl ?_
  rw[decide_eq_true fun f hf=>hf]
end
end Go.Vx
