/- Texts of the proof, part E1. -/
import Derived.Below
import Derived.MapKept
import Derived.Maps.RangeRun
import Derived.Orders
import Derived.Sort.AssemblyPlain
import Derived.WalkKit
import Derived.WideKeyMaps
import Derived.Test.YtcmehajdmepcgaaGreatDoorM5
namespace Go.Vx
theorem fP{μ h:Mem}{r:Nat}{ok:Value→Prop}{key:Value}{K:Option Value→Prop}(l:List (Value×Value))(o:Option Value)(hm:h r=some (bV l))(hk:MapOk ok l)(hok:ok key)(e:fZ l key=o)(k:K o):lookVC μ h r ok key K:=⟨⟨hok,l,.inr hm,hk,by rw[e];exact k⟩⟩
theorem qGz{μ h:Mem}{r:Nat}{K:Nat→Prop}(l:List (Value×Value))(hm:h r=some (bV l))(k:K l.length):mlenVC μ h r K:=⟨⟨l,.inr hm,k⟩⟩
theorem gX{h:Mem}{r:Nat}{ok:Value→Prop}{key val:Value}{K:Mem→Prop}(l:List (Value×Value))(hm:h r=some (bV l))(hk:MapOk ok l)(hok:ok key)(k:K (h.set r (bV (dH l key val)))):updVC h r ok key val K:=⟨⟨hok,l,hm,hk,k⟩⟩
theorem qGs{μ h:Mem}{r:Nat}{over:Prop}{K:Value→Value→Mem→Prop}(m:Nat)(seen:List Nat)(c:Nat)(l:List (Value×Value))(hr:h r=some (cW m l.length seen c))(hm:h m=some (bV l))(hc:l.length≤c)
  (h1:(∀j,j<l.length→j∈seen)→over) (h2:∀(j:Nat) k v,l[j]? =some (k,v)→j∉seen→K k v (h.set r (cW m l.length (seen++[j]) l.length))):nextVC μ h r over K:=⟨⟨m,seen,c,l,hr,.inr hm,hc,h1,h2⟩⟩
theorem qJm{μ h:Mem}{r:Nat}{K:Value→Value→Prop}(m n:Nat)(seen:List Nat)(j:Nat)(l:List (Value×Value))(k v:Value)(hr:h r=some (cW m n (seen++[j]) l.length))(hm:h m=some (bV l))(hj:l[j]? =some (k,v))(c:K k v):entVC μ h r K:=⟨⟨m,n,seen,j,l,k,v,hr,.inr hm,hj,c⟩⟩
end Go.Vx
namespace Go.Vx
open MapKept (IsKey)
open Classical in
theorem zM(v k':Value):∀(l:List (Value×Value)) (k:Value),fZ (dH l k v) k'=if k'=k then some v else fZ l k'
 |[],k=>by
  simp only[dH,fZ]
  by_cases h:k=k'
  ·rw[if_pos h,if_pos h.symm]
  ·rw[if_neg h,if_neg (fun e=>h e.symm)]
 |(a,x)::r,k=>by
  rw[dH]
  split
  ·rename_i e
   subst e
   rw[fZ,fZ]
   by_cases h:a=k'
   ·rw[if_pos h,if_pos h.symm]
   ·rw[if_neg h,if_neg (fun e=>h e.symm),if_neg h]
  ·rename_i e
   rw[fZ,fZ,zM v k' r k]
   by_cases h:a=k'
   ·subst h;rw[if_pos rfl,if_pos rfl,if_neg e]
   ·rw[if_neg h,if_neg h]
section
variable {P:Program} {w:World}
end
end Go.Vx
namespace Go.Vx
section
variable {P:Program} {f:FuncId} {args:List Value} {μ h0:Mem}
end
theorem qLo{h:Mem}{r i j:Nat}{pre l post:List Value}{ty:TypeId}{v:Value}(hp:pre.length=i)(hv:l[j]? =some v):(h.set r (.cells (List.toArray (pre++(l++post))) ty (0,0))).cell ⟨r,i+j,none⟩=some v:=by
 subst hp
 have hlt:j<l.length:=(List.getElem?_eq_some_iff.1 hv).1
 simp only[Mem.cell,Mem.set_get,if_true]
 simp only[Option.isSome_none,Bool.false_eq_true,if_false,List.getElem?_toArray]
 rw[List.getElem?_append_right (by omega),Nat.add_sub_cancel_left,List.getElem?_append_left hlt]
 exact hv
theorem sto_at{h:Mem}{r j:Nat}{ad:Addr}{pre l post:List Value}{ty:TypeId}{v:Value}{K:Mem→Prop}(ha:ad=⟨r,pre.length+j,none⟩)(hj:j<l.length)(k:K (h.set r (.cells (List.toArray (pre++(l.set j v++post))) ty (0,0)))):
  stoVC (h.set r (.cells (List.toArray (pre++(l++post))) ty (0,0))) ad [v] K:=by
 subst ha
 refine sIn (pre++(l++post)) ty (by rw[Mem.set_get,if_pos rfl]) rfl (by simp;omega) ?_
 rw[Mem.set_set]
 have e:(pre++(l++post)).take (pre.length+j)++[v]++(pre++(l++post)).drop (pre.length+j+[v].length)=pre++(l.set j v++post):=by
  rw[List.take_length_add_append,List.length_singleton,Nat.add_assoc,List.drop_length_add_append,List.take_append_of_le_length (by omega),List.drop_append_of_le_length (by omega),List.set_eq_take_append_cons_drop,if_pos hj]
  simp
 simp only at e ⊢
 rw[e]
 exact k
theorem own_at{μ h:Mem}{r j:Nat}{ad:Addr}{pre l post:List Value}{ty:TypeId}{v:Value}{K:List Value→Prop}(ha:ad=⟨r,pre.length+j,none⟩)(hv:l[j]? =some v)(k:K [v]):
  extVC μ (h.set r (.cells (List.toArray (pre++(l++post))) ty (0,0))) ad 1 K:=by
 subst ha
 refine oIn [v] rfl (fun i x hx=>?_) k
 match i with
 |0=>
  simp only[List.getElem?_cons_zero,Option.some.injEq]at hx
  subst hx
  rw[Addr.add_lit',Nat.add_zero]
  exact qLo rfl hv
 |i+1=>simp at hx
end Go.Vx
namespace Go.Vx
theorem OwnRows.snoc{es:Nat}{ds:List D}{ys:List Value}{g g':Mem}{d:D}{v:Value}(k:OwnRows es ds ys g)(k':OwnV d g' v)(hn:d.n=es)(ha:Apart g g'):OwnRows es (ds++[d]) (ys++[v]) (g.join g'):=
 ⟨by
  have:=OwnS.append (Parts.join ha) k.own (OwnS.last k'.cells)
  simpa using this,by
  intro x hx
  rcases List.mem_append.1 hx with h|h
  ·exact k.size x h
  ·simp only[List.mem_singleton]at h;subst h;exact hn,by simp[k.len]⟩
theorem Fresh.ofRow{μ μ1 μ' g:Mem}{b:Option Nat}{cap es:Nat}{ds:List D}{ys:List Value}(k:OwnRows es ds ys g)(hg:g.Le μ1)(hf:∀x,g x≠none→μ x=none)(h0:μ.Le μ1)(h1:μ1.Le μ')
  (hb:∀r,b=some r→μ1 r=none) (hr:RowAt μ' b cap es ys) (hm:ys.length≤maxLen):Fresh μ μ' (.sl es ds) (.slice (b.map fun r=>⟨r,0,none⟩) ys.length cap):=by
 cases b with
 |none=>
  have:ys=[]:=hr
  subst this
  have hd:ds=[]:=List.eq_nil_of_length_eq_zero (by simpa using k.len)
  subst hd
  have hown:OwnV (.sl es []) Mem.nil (.slice none 0 cap):=⟨none,cap,rfl,⟨Nat.zero_le _,hm⟩,by simp,.inl ⟨rfl,rfl⟩⟩
  exact⟨Mem.nil,hown,(fun _ _ h=>nomatch h),fun _ h=>absurd rfl h⟩
 |some r=>
  obtain⟨h2,h3,arr,ty,h4,h5,h6⟩:=hr
  have hgr:g r=none:=by
   cases h:g r with
   |none=>rfl
   |some o=>have:=hb r rfl;rw[hg r o h]at this;cases this
  have e:arr.toList=ys.flatMap aB++arr.toList.drop (ys.length*es):=by rw[←h6];simp
  refine⟨g.set r (.cells (List.toArray (ys.flatMap aB++arr.toList.drop (ys.length*es))) ty (0,0)),⟨some ⟨r,0,none⟩,cap,by simp[k.len],by rw[k.len];exact⟨h2,hm⟩,k.size,.inr ⟨r,_,_,ty,g,rfl,hgr,rfl,k.own⟩⟩,fun x o hx=>?_,fun x hx=>?_⟩
  ·rw [Mem.set_get] at hx
   split at hx
   ·rename_i e2
    subst e2
    cases hx
    rw[h4,←e]
   ·exact h1 x o (hg x o hx)
  ·rw [Mem.set_get] at hx
   split at hx
   ·rename_i e2
    subst e2
    cases h:μ x with
    |none=>rfl
    |some o=>have:=hb x rfl;rw[h0 x o h]at this;cases this
   ·exact hf x hx
theorem qEj{μ g g':Mem}(h:g.Le μ)(k:∀b,g' b≠none→μ b=none):Apart g g':=fun b hb=>by
 cases hg:g' b with
 |none=>rfl
 |some o=>
  have h1:=k b (by simp[hg])
  cases h2:g b with
  |none=>exact absurd h2 hb
  |some o'=>rw[h b o' h2]at h1;cases h1
theorem qIm{μ g g':Mem}(h:g.Le μ)(k:g'.Le μ):(g.join g').Le μ:=fun b o hb=>by
 rw[Mem.join_get]at hb
 split at hb
 ·rename_i x hx;cases hb;exact h b _ hx
 ·exact k b o hb
end Go.Vx
namespace Go.Vx
open Go.Proofs Classical
theorem gN(s:ByteArray)(μ:Mem):aQ Tryz.prog 85 [.string s] μ (.bool (decide (iT s))):=by
  refine Spec.mk Tryz.func85 (by kernel_rfl) ?_
  have bad:s∈rsv→Value.bool false= .bool (decide (iT s)):=fun h=>by
    have:¬iT s:=fun k=>k.1 h
    simp[this]
  repeat' (first
    |refine ifd (fun h=>?_) (fun h=>?_)<;>try contradiction
    |refine cGv (dY s μ) (rGv ?_ rfl)
    |refine rGv ?_ rfl)
  all_goals first
    |(refine bad ?_;subst_vars;simp[rsv])
    | (have : s ∉ rsv := by simp only [rsv, List.mem_cons, List.not_mem_nil, or_false, not_or]; simp_all
       simp[iT,this])
end Go.Vx
namespace Go.Vx
open Go.Proofs
theorem qMd:Tryz.prog.underlying 4=some .bool:=ti4.kind
theorem qFz{P:Program}{t:TypeId}{i:TI}(h:TIok P t i):P.cellsOf t=i.size:=by
 obtain⟨inf,hin,hs,_⟩:=h.info'
 simp[Program.cellsOf,hin,hs]
end Go.Vx
namespace Go.Vx
open Go.Proofs Classical
section
variable {μ:Mem}
theorem qAw{l:List Tm}{base:Option Addr}{cap:Nat}(hsl:Sl μ 4 base l.length (l.map Tm.d)):aQ Tryz.prog 129 [.slice base l.length cap] μ (.bool (decide (∀t∈l,t.Ok))):=by
  have hn:=aI hsl.max
  refine Spec.mk Tryz.func129 (by kernel_rfl) ?_
  refine lIn (fun i:Nat=>i≤l.length∧∀t∈l.take i,t.Ok) (fun i=>⟨[(5,.val (.slice base l.length cap)),(6,.val (.int .i64 l.length)),(7,.val (.int .i64 i))],[],0,μ,Mem.nil⟩) (fun i=>l.length-i)
   0 ⟨by omega,by simp⟩ (fun i=>⟨rfl,rfl⟩) ⟨⟨rfl,rfl,rfl,trivial⟩,trivial,rfl,rfl⟩ ?_
  rintro i ⟨hi,hall⟩
  refine ifd (fun h=>?_) (fun h=>?_)
  ·have w_ := aSo (l := l) (i := i) (by omega)
   obtain⟨t,ht⟩:=w_
   have w_:=Tm.elem hsl ht
   obtain⟨ad,p,hel,hr⟩:=w_
   refine eIn hel ?_
   intro r
   refine cGv (dN t hr) ?_
   refine aL (fun h=>rGv (isF fun hh=>h (hh t (mAt ht))) rfl) (fun h=>?_)
   refine aC (by omega) (by omega) ⟨i+1,⟨by omega,fun x hx=>?_⟩,by omega,⟨⟨rfl,rfl,rfl,trivial⟩,trivial,rfl,rfl⟩⟩
   rw[List.take_add_one,ht,Option.toList_some,List.mem_append,List.mem_singleton]at hx
   rcases hx with hx|rfl
   ·exact hall x hx
   ·exact h
  ·obtain rfl : i = l.length := by omega
   rw[List.take_length]at hall
   exact rGv (isT hall) rfl
end
end Go.Vx
namespace Go.Vx
open Go.Proofs Classical
theorem gI{μ:Mem}{r:Nat}{x:Value}{ty:TypeId}(h:μ r=some (.cells #[x] ty (0,0))):∀j v,[x][j]? =some v→μ.cell ((⟨r,0,none⟩:Addr).add j)=some v:=fun j v hj=>by
 match j,hj with
 |0,hj=>cases hj;simp[Mem.cell,Addr.add_lit',h]
section
variable {μ:Mem}
theorem kR{S:Type}(hp:S→Mem)(step:S→Int→S){k:FuncId}{caps:List Value}{Q:Int→Prop}
  (hc:∀s n,Q n→SpecH Tryz.prog k (.int .i64 n::caps) μ (hp s) fun r μ' h'=>r= .tuple #[]∧μ'=μ∧h'=hp (step s n)):
  ∀(x:T) {v:Value} (s:S),RepV μ x.tm.d v→(∀n∈x.vars,Q n)→SpecH Tryz.prog 160 [v,.func (.func k) #[] caps.toArray] μ (hp s) fun r μ' h'=>r= .tuple #[]∧μ'=μ∧h'=hp (x.vars.foldl step s)
 | .var n,v,s,hv,hq=>by
  have w_:=Tm.inv hv
  obtain⟨base,cap,rfl,hsl⟩:=w_
  refine SpecH.mk [] Tryz.func160 (by kernel_rfl) ?_
  intro r
  refine ifd (fun _=>?_) (fun h=>absurd rfl h)
  refine cOw (hc s n (hq n (by simp[T.vars]))) fun v μ' h' hle hap hR=>?_
  obtain⟨rfl,rfl,rfl⟩:=hR
  refine ifd (fun h=>absurd h (by decide)) (fun _=>?_)
  exact rPl ⟨rfl,rfl,rfl⟩
 | .nil,v,s,hv,hq=>by
  have w_:=Tm.inv hv
  obtain⟨base,cap,rfl,hsl⟩:=w_
  refine SpecH.mk [] Tryz.func160 (by kernel_rfl) ?_
  intro r
  refine ifd (fun h=>absurd h (by decide)) (fun _=>?_)
  refine ifd (fun h=>absurd h (by decide)) (fun _=>?_)
  exact rPl ⟨rfl,rfl,rfl⟩
 | .sym _,v,s,hv,hq=>by
  have w_:=Tm.inv hv
  obtain⟨base,cap,rfl,hsl⟩:=w_
  refine SpecH.mk [] Tryz.func160 (by kernel_rfl) ?_
  intro r
  refine ifd (fun h=>absurd h (by decide)) (fun _=>?_)
  refine ifd (fun h=>absurd h (by decide)) (fun _=>?_)
  exact rPl ⟨rfl,rfl,rfl⟩
 | .num _,v,s,hv,hq=>by
  have w_:=Tm.inv hv
  obtain⟨base,cap,rfl,hsl⟩:=w_
  refine SpecH.mk [] Tryz.func160 (by kernel_rfl) ?_
  intro r
  refine ifd (fun h=>absurd h (by decide)) (fun _=>?_)
  refine ifd (fun h=>absurd h (by decide)) (fun _=>?_)
  exact rPl ⟨rfl,rfl,rfl⟩
 | .pair a b,v,s,hv,hq=>by
  have w_:=Tm.inv hv
  obtain⟨base,cap,rfl,hsl⟩:=w_
  have w_:=T.parts hsl
  obtain⟨ad,ad',p,p',h1,h2,hra,hrb⟩:=w_
  refine SpecH.mk [] Tryz.func160 (by kernel_rfl) ?_
  intro r
  refine ifd (fun h=>absurd h (by decide)) (fun _=>?_)
  refine ifd (fun _=>?_) (fun h=>absurd rfl h)
  refine eIn h1 (cOw (kR hp step hc a s hra fun n hn=>hq n (by simp[T.vars,hn])) fun v μ' h' hle hap hR=>?_)
  obtain⟨rfl,e2,rfl⟩:=hR
  obtain rfl:=e2.symm
  refine eIn h2 (cOw (kR hp step hc b _ hrb fun n hn=>hq n (by simp[T.vars,hn])) fun v μ' h' hle hap hR=>?_)
  obtain⟨rfl,e2,rfl⟩:=hR
  obtain rfl:=e2.symm
  exact rPl ⟨rfl,rfl,by simp[T.vars]⟩
def oM(r:Nat)(b:Bool):Mem:=Mem.nil.set r (.cells #[.bool b] 4 (0,0))
theorem qHv(r:Nat)(o o':Obj):(Mem.nil.set r o).set r o'=Mem.nil.set r o':=Mem.set_set _ _ _ _
end
end Go.Vx
namespace Go.Vx
open Go.Proofs Classical
section
variable {μ:Mem}
theorem wO(r:Nat)(b:Bool)(n:Int):SpecH Tryz.prog 163 [.int .i64 n,.pointer (some ⟨r,0,none⟩)] μ (oM r b) fun v μ' h'=>v= .tuple #[]∧μ'=μ∧h'=oM r false:=by
 refine SpecH.mk [] Tryz.func163 (by kernel_rfl) ?_
 refine sIn (h:=oM r b) (a:=⟨r,0,none⟩) [.bool b] 4 (set_self _ _ _) rfl ?_ ?_
 ·exact Nat.le_refl _
 exact rPl ⟨rfl,rfl,qHv _ _ _⟩
theorem wZ(x:T){v:Value}(hv:RepV μ x.tm.d v):aQ Tryz.prog 133 [v] μ (.bool (decide (x.vars=[]))):=by
 have w_:=Tm.invV hv
 obtain⟨p,rfl⟩:=w_
 refine Spec.mkO [3] Tryz.func133 (by kernel_rfl) ?_
 intro r r2 h1 h2
 refine sIn [.bool false] 4 (set_self _ _ _) rfl ?_ ?_
 ·exact Nat.le_refl _
 have e:((Mem.nil.set r2 (.cells #[.bool false] 4 (0,0))).set r2 (.cells #[.bool true] 4 (0,0)))=oM r2 true:=qHv _ _ _
 refine cOw (R:=fun r μ' h'=>r= .tuple #[]∧μ'=μ∧h'=oM r2 (x.vars.foldl (fun _ _=>false) true)) ?_ fun v μ' h' hle hap hR=>?_
 ·have := kR (oM r2) (fun _ _ => false) (Q := fun _ => True) (fun s n _ => wO r2 s n) x true hv (fun _ _ => trivial)
  rw[←e]at this
  exact this
 obtain⟨rfl,rfl,rfl⟩:=hR
 refine oIn [.bool (x.vars.foldl (fun _ _=>false) true)] rfl (fun j v hj=>?_) ?_
 ·match j, hj with
  |0,hj=>cases hj;simp[oM,Mem.cell,Addr.add_lit',set_self]
 ·refine rPl ⟨?_, rfl⟩
  have:∀(l:List Int) (b:Bool),l.foldl (fun _ _=>false) b=if l=[]then b else false:=fun l=>by
   induction l with
   |nil=>simp
   |cons a l ih=>intro b;simp only[List.foldl_cons,ih];simp
  rw[this]
  by_cases h:x.vars=[]<;>simp[h]
end
end Go.Vx
namespace Go.Vx
open Go.Proofs Classical
section
variable {μ:Mem}
theorem qJp{μ1 μ2:Mem}{a b:D}{va vb:Value}(na:a.n=4)(nb:b.n=4)(h1:μ.Le μ1)(h2:μ1.Le μ2)(ha:Fresh μ μ1 a va)(hb:Fresh μ1 μ2 b vb):∃g,OwnRows 4 [a,b] [va,vb] g∧g.Le μ2∧∀x,g x≠none→μ x=none:=by
 obtain⟨ga,a1,a2,a3⟩:=ha
 obtain⟨gb,b1,b2,b3⟩:=hb
 have hap:=qEj a2 b3
 have k1:=(OwnRows.nil 4).snoc a1 na (Apart.nil_left _)
 have k2:=k1.snoc b1 nb (fun x hx=>hap x (by
  rcases tG hx with h|h
  ·exact absurd rfl h
  ·exact h))
 refine⟨_,k2,qIm (qIm (fun _ _ h=>nomatch h) (a2.trans h2)) b2,fun x hx=>?_⟩
 rcases tG hx with h|h
 ·rcases tG h with h | h
  ·exact absurd rfl h
  ·exact a3 x h
 ·cases h0 : μ x with
  |none=>rfl
  |some o=>have:=b3 x h;rw[h1 x o h0]at this;cases this
theorem xT:∀(x:T) {μ:Mem} {v:Value},RepV μ x.tm.d v→Spec Tryz.prog 175 [v] μ fun v μ'=>Fresh μ μ' x.tm.d v:=by
 intro x
 induction x with
 |pair a b iha ihb=>
  intro μ v hv
  have w_:=Tm.inv hv
  obtain⟨base',cap',rfl,hsa⟩:=w_
  have w_:=T.parts hsa
  obtain⟨ad,ad',p,p',h1,h2,hra,hrb⟩:=w_
  refine Spec.mk Tryz.func175 (by kernel_rfl) ?_
  intro r1 r2
  refine aL (fun h=>absurd rfl h) (fun _=>?_)
  refine eIn h1 ?_
  refine eIn h2 ?_
  refine cPl (iha hra) fun v1 μ1 hle1 hR1=>?_
  refine cPl (ihb (hrb.mono hle1)) fun v2 μ2 hle2 hR2=>?_
  have w_:=qJp (Tm.d_n _) (Tm.d_n _) hle1 hle2 hR1 hR2
  obtain⟨g,k1,k2,k3⟩:=w_
  have w_:=Tm.invV hR1.rep
  obtain⟨q1,rfl⟩:=w_
  have w_:=Tm.invV hR2.rep
  obtain⟨q2,rfl⟩:=w_
  intro r3
  refine rFz [2] fun μ' hle hno hrow=> .inl ?_
  have w_:=Fresh.ofRow k1 k2 k3 (hle1.trans hle2) hle hno hrow (show 2≤maxLen by decide)
  obtain⟨gg,g1,g2,g3⟩:=w_
  rw[T.d_eq]
  exact⟨gg,⟨_,rfl,OwnS.int (OwnS.int (OwnS.str (OwnS.last g1)))⟩,g2,g3⟩
 |_=>
  intro μ v hv
  have w_:=Tm.inv hv
  obtain⟨base',cap',rfl,hsa⟩:=w_
  refine Spec.mk Tryz.func175 (by kernel_rfl) ?_
  intro r1 r2
  refine aL (fun _=>?_) (fun h=>absurd h (by simp))
  refine rPl ?_
  rw[T.d_eq]
  exact⟨Mem.nil,⟨_,rfl,OwnS.int (OwnS.int (OwnS.str (OwnS.last (Own.nilSl 4))))⟩,(fun _ _ h=>nomatch h),fun _ h=>absurd rfl h⟩
end
end Go.Vx
namespace Go.Vx
open Go.Proofs Classical
section
variable {μ:Mem}
theorem iJ(a b:Int)(h:¬a=b):aQ Tryz.prog 165 [.int .i64 a,.int .i64 b] μ (.int .i64 (sgn (decide (a<b)))):=by
 refine Spec.mk Tryz.func165 (by kernel_rfl) ?_
 refine ifd (fun h1=>rGv ?_ rfl) (fun h1=>?_)
 ·rw[decide_eq_true h1];rfl
 refine ifd (fun h2=>rGv ?_ rfl) (fun h2=>by omega)
 rw[decide_eq_false h1];rfl
theorem T.kind4{x:T}(h:x.tm.kind=4):∃a b,x= .pair a b:=by
 cases x<;>simp_all [T.tm,Tm.kind]
theorem lG:∀(x y:T) {v w:Value},RepV μ x.tm.d v→RepV μ y.tm.d w→aQ Tryz.prog 164 [v,w] μ (.int .i64 (x.cmp y)):=
 T.ind fun x ih y v w hv hw=>by
  have w_:=T.inv hv
  obtain⟨b1,c1,rfl,hs1⟩:=w_
  have w_:=T.inv hw
  obtain⟨b2,c2,rfl,hs2⟩:=w_
  rw[T.cmp_eq]
  refine Spec.mk Tryz.func164 (by kernel_rfl) ?_
  intro r1 r2
  refine aL (fun h=>?_) (fun h1=>?_)
  ·exact cGv (iJ _ _ h) (rGv (by rw[hd1 h]) rfl)
  refine aL (fun h=>?_) (fun h2=>?_)
  ·exact cGv (iJ _ _ h) (rGv (by rw[hd2 h1 h]) rfl)
  refine aL (fun h=>?_) (fun h3=>?_)
  ·refine iIn (fun h4 => rGv ?_ rfl) (fun h4 => rGv ?_ rfl)
   ·rw[hd3 h1 h2 h,h4];rfl
   ·rw[hd3 h1 h2 h,h4];rfl
  rw[hd4 h1 h2 h3]
  refine aL (fun h=>?_) (fun h4=>?_)
  ·refine rGv ?_ rfl
   have:x.rest y=0:=by cases x<;>first|rfl|exact absurd rfl h
   rw[this]
  have w_:=T.kind4 h4
  obtain⟨a,b,rfl⟩:=w_
  have w_:=T.kind4 (h1 ▸ h4)
  obtain⟨c,d,rfl⟩:=w_
  have w_:=T.arg hs1 (i:=0) rfl
  obtain⟨ad1,p1,e1,g1⟩:=w_
  have w_:=T.arg hs2 (i:=0) rfl
  obtain⟨ad2,p2,e2,g2⟩:=w_
  have w_:=T.arg hs1 (i:=1) rfl
  obtain⟨ad3,p3,e3,g3⟩:=w_
  have w_:=T.arg hs2 (i:=1) rfl
  obtain⟨ad4,p4,e4,g4⟩:=w_
  refine eIn e1 (eIn e2 (cGv (ih a (by simp[T.args]) c g1 g2) ?_))
  simp only[T.rest]
  refine aL (fun h=>?_) (fun h5=>?_)
  ·rw[if_neg h];exact rGv rfl rfl
  ·rw [if_pos h5]
   exact eIn e3 (eIn e4 (cGv (ih b (by simp[T.args]) d g3 g4) (rGv rfl rfl)))
theorem lJ(x y:T){v w:Value}(hv:RepV μ x.tm.d v)(hw:RepV μ y.tm.d w):aQ Tryz.prog 136 [v,w] μ (.bool (decide (x=y))):=by
 have w_:=Tm.invV hv
 obtain⟨p,rfl⟩:=w_
 have w_:=Tm.invV hw
 obtain⟨q,rfl⟩:=w_
 refine Spec.mk Tryz.func136 (by kernel_rfl) ?_
 intro r1 r2
 exact cGv (lG x y hv hw) (rGv (isI (T.cmp_zero x y)) rfl)
end
end Go.Vx
namespace Go.Vx
open Go.Proofs Classical
section
variable {P:Program} {f:FuncId} {args:List Value} {μ h H:Mem}
theorem qKr{a b:Nat}{x y:Obj}(h1:h a=some x)(h2:h b=some y)(hne:x≠y):a≠b:=fun e=>by
 subst e;rw[h1]at h2;cases h2;exact hne rfl
theorem qFt{a b:Nat}{x:Obj}(h1:h a=some x)(h2:h b=none):a≠b:=fun e=>by
 subst e;rw[h1]at h2;cases h2
theorem jM(l:List (Value×Value))(n m:Int)(v:Value):fZ (dH l (.int .i64 n) v) (.int .i64 m)=if m=n then some v else fZ l (.int .i64 m):=by
 rw[zM]
 by_cases e:m=n
 ·subst e;rw[if_pos rfl,if_pos rfl]
 ·rw[if_neg e,if_neg (by simp[e])]
variable {dr:Bool} {s:St} {K:Value→St→Prop}
end
section
variable {μ:Mem}
theorem mG{S:Type}(J:S→Mem→Prop)(step:S→Int→S)(Q:S→Int→Prop){k:FuncId}{caps:List Value}
  (hc:∀s h n,Q s n→J s h→SpecH Tryz.prog k (.int .i64 n::caps) μ h fun r μ' h'=>r= .tuple #[]∧μ'=μ∧J (step s n) h'):
  ∀(x:T) {v:Value} (s:S) (h:Mem),RepV μ x.tm.d v→(∀pre n post,x.vars=pre++n::post→Q (pre.foldl step s) n)→J s h→SpecH Tryz.prog 160 [v,.func (.func k) #[] caps.toArray] μ h fun r μ' h'=>r= .tuple #[]∧μ'=μ∧J (x.vars.foldl step s) h'
 | .var n,v,s,h,hv,hq,hj=>by
  have w_:=Tm.inv hv
  obtain⟨base,cap,rfl,hsl⟩:=w_
  refine SpecH.mk [] Tryz.func160 (by kernel_rfl) ?_
  intro r
  refine ifd (fun _=>?_) (fun h=>absurd rfl h)
  refine cOw (hc s h n (hq [] n [] rfl) hj) fun v μ' h' hle hap hR=>?_
  obtain⟨rfl,e2,hj'⟩:=hR
  obtain rfl:=e2.symm
  refine ifd (fun h=>absurd h (by decide)) (fun _=>?_)
  exact rPl ⟨rfl,rfl,hj'⟩
 | .nil,v,s,h,hv,hq,hj=>by
  have w_:=Tm.inv hv
  obtain⟨base,cap,rfl,hsl⟩:=w_
  refine SpecH.mk [] Tryz.func160 (by kernel_rfl) ?_
  intro r
  refine ifd (fun h=>absurd h (by decide)) (fun _=>?_)
  refine ifd (fun h=>absurd h (by decide)) (fun _=>?_)
  exact rPl ⟨rfl,rfl,hj⟩
 | .sym _,v,s,h,hv,hq,hj=>by
  have w_:=Tm.inv hv
  obtain⟨base,cap,rfl,hsl⟩:=w_
  refine SpecH.mk [] Tryz.func160 (by kernel_rfl) ?_
  intro r
  refine ifd (fun h=>absurd h (by decide)) (fun _=>?_)
  refine ifd (fun h=>absurd h (by decide)) (fun _=>?_)
  exact rPl ⟨rfl,rfl,hj⟩
 | .num _,v,s,h,hv,hq,hj=>by
  have w_:=Tm.inv hv
  obtain⟨base,cap,rfl,hsl⟩:=w_
  refine SpecH.mk [] Tryz.func160 (by kernel_rfl) ?_
  intro r
  refine ifd (fun h=>absurd h (by decide)) (fun _=>?_)
  refine ifd (fun h=>absurd h (by decide)) (fun _=>?_)
  exact rPl ⟨rfl,rfl,hj⟩
 | .pair a b,v,s,h,hv,hq,hj=>by
  have w_:=Tm.inv hv
  obtain⟨base,cap,rfl,hsl⟩:=w_
  have w_:=T.parts hsl
  obtain⟨ad,ad',p,p',h1,h2,hra,hrb⟩:=w_
  refine SpecH.mk [] Tryz.func160 (by kernel_rfl) ?_
  intro r
  refine ifd (fun h=>absurd h (by decide)) (fun _=>?_)
  refine ifd (fun _=>?_) (fun h=>absurd rfl h)
  refine eIn h1 (cOw (mG J step Q hc a s h hra (fun pre n post e=>hq pre n (post++b.vars) (by simp[T.vars,e])) hj) fun v μ' h' hle hap hR=>?_)
  obtain⟨rfl,e2,hj'⟩:=hR
  obtain rfl:=e2.symm
  refine eIn h2 (cOw (mG J step Q hc b _ h' hrb (fun pre n post e=>by
   have:=hq (a.vars++pre) n post (by simp[T.vars,e])
   rwa [List.foldl_append]at this) hj') fun v μ' h' hle hap hR=>?_)
  obtain⟨rfl,e2,hj'⟩:=hR
  obtain rfl:=e2.symm
  exact rPl ⟨rfl,rfl,by simpa[T.vars,List.foldl_append]using hj'⟩
end
end Go.Vx
namespace Go.Vx
open Go.Proofs Classical
section
variable {μ:Mem}
theorem qFx:∀{l:List Int} (_:l.Nodup) {i:Nat} {n:Int},l[i]? =some n→l.idxOf n=i
 |[],_,i,n,h=>by simp at h
 |a::l,hn,0,n,h=>by
  simp only[List.getElem?_cons_zero,Option.some.injEq]at h
  subst h;simp
 |a::l,hn,i+1,n,h=>by
  simp only[List.getElem?_cons_succ]at h
  simp only[List.nodup_cons]at hn
  have hne:¬a=n:=fun e=>hn.1 (by subst e;exact List.mem_of_getElem? h)
  have hb:(a==n)=false:=by simp[hne]
  rw[List.idxOf_cons,hb,qFx hn.2 h]
  rfl
end
end Go.Vx
namespace Go.Vx
open Go.Proofs Classical
noncomputable def qAs:List (Value×Value):=dH (dH (dH (dH (dH [] (.int .i64 2) (.int .i64 2)) (.int .i64 3) (.int .i64 2)) (.int .i64 4) (.int .i64 1)) (.int .i64 5) (.int .i64 1)) (.int .i64 6) (.int .i64 2)
theorem kB(k:Int):fZ qAs (.int .i64 k)=if k=6 then some (.int .i64 2)else if k=5 then some (.int .i64 1)else if k=4 then some (.int .i64 1)else if k=3 then some (.int .i64 2)else if k=2 then some (.int .i64 2)else none:=by
 unfold qAs
 rw[jM,jM,jM,jM,jM]
 rfl
section
variable {μ:Mem}
theorem tR:∀(g:Gl) {v:Value} {room:Int},RepV μ g.d v→ -1000000000000≤room→room≤1000000000000→aQ Tryz.prog 87 [v,.int .i64 room] μ (.int .i64 (g.nodes room)):=
 Gl.ind fun g ih v room hv hr1 hr2=>by
  have w_:=Gl.inv hv
  obtain⟨p,rfl,hts,hgs⟩:=w_
  have hn1:=aI hts.max
  have hn2:=aI hgs.max
  have hpos:=g.cnt_pos
  have hce:=g.cnt_eq1
  have bad:¬TopOk g→Value.int .i64 (-1)= .int .i64 (g.nodes room):=fun h=>Gl.nodes_neg fun k=>h k.1.top
  refine Spec.mkO [18] Tryz.func87 (by kernel_rfl) ?_
  intro r
  refine ifd (fun h=>rGv (Gl.nodes_neg fun k=>by omega) rfl) (fun h1=>?_)
  refine cGv (qAw hts) ?_
  refine aL (fun h=>rGv (bad fun T=>h T.tm) rfl) (fun htm=>?_)
  intro rM hmM hoM
  have k0:MapOk oK []:=MapOk.nil
  have k1:=k0.int (n:=2) (.int .i64 2)
  have k2:=k1.int (n:=3) (.int .i64 2)
  have k3:=k2.int (n:=4) (.int .i64 1)
  have k4:=k3.int (n:=5) (.int .i64 1)
  have k5:=k4.int (n:=6) (.int .i64 2)
  refine gX _ (Mem.set_at _ _ _) (k0.weaken (by rintro _ ⟨n,rfl⟩;rfl)) rfl ?_
  refine gX _ (Mem.set_at _ _ _) (k1.weaken (by rintro _ ⟨n,rfl⟩;rfl)) rfl ?_
  refine gX _ (Mem.set_at _ _ _) (k2.weaken (by rintro _ ⟨n,rfl⟩;rfl)) rfl ?_
  refine gX _ (Mem.set_at _ _ _) (k3.weaken (by rintro _ ⟨n,rfl⟩;rfl)) rfl ?_
  refine gX _ (Mem.set_at _ _ _) (k4.weaken (by rintro _ ⟨n,rfl⟩;rfl)) rfl ?_
  generalize hh:Mem.set (Mem.set (Mem.set (Mem.set (Mem.set (Mem.set _ rM _) rM _) rM _) rM _) rM _) rM _=h0
  have hm:h0 rM=some (bV qAs):=by subst hh;exact Mem.set_at _ _ _
  clear hh hmM hoM
  have one:TopOk g→g.goals.length=0→Value.int .i64 1= .int .i64 (g.nodes room):=fun T h=>by
   have e:g.goals=[]:=List.eq_nil_of_length_eq_zero h
   have hc:g.cnt=1:=by rw[hce,e];rfl
   rw[Gl.nodes_pos (.mk T (by rw[e];simp)) (by omega),hc];rfl
  have htm:∀t∈g.terms,t.Ok:=htm
  rcases(by omega:g.kind=6∨g.kind=5∨g.kind=4∨g.kind=3∨g.kind=2∨¬(2≤g.kind∧g.kind≤6))with e|e|e|e|e|e
  ·refine fP qAs (some (.int .i64 2)) hm (k5.weaken (by rintro _ ⟨n, rfl⟩; rfl)) rfl (by rw [kB]; simp [e]) ?_
   repeat (refine ifd (fun h=>?_) (fun h=>?_)<;>try (exfalso;omega))
   refine aL (fun h=>rGv (bad fun T=>h (T.nm (by omega))) rfl) (fun hnm=>?_)
   refine aL (fun h=>rGv (bad fun T=>h (by have:=T.gl0;omega)) rfl) (fun hg0=>?_)
   refine aL (fun h=>rGv (bad fun T=>h (by have:=T.ln2;omega)) rfl) (fun hl=>?_)
   refine ifd (fun _=>?_) (fun h=>absurd e h)
   have w_:=aSo (l:=g.terms) (i:=0) (by omega)
   obtain⟨a,ha⟩:=w_
   have w_:=Tm.elem hts ha
   obtain⟨ad,p,hel,hr⟩:=w_
   refine eIn hel ?_
   refine aL (fun h=>rGv (bad fun T=>h (T.sy e a ha)) rfl) (fun h=>?_)
   exact rGv (one ⟨htm,by omega,by omega,fun _=>hnm,by omega,by omega,by omega,by omega,by omega,by omega,by omega,by omega,fun _ x hx=>by rw[ha]at hx;cases hx;exact h,by omega⟩ (by omega)) rfl
  ·refine fP qAs (some (.int .i64 1)) hm (k5.weaken (by rintro _ ⟨n, rfl⟩; rfl)) rfl (by rw [kB]; simp [e]) ?_
   repeat (refine ifd (fun h=>?_) (fun h=>?_)<;>try (exfalso;omega))
   refine aL (fun h=>rGv (bad fun T=>h (T.nm (by omega))) rfl) (fun hnm=>?_)
   refine aL (fun h=>rGv (bad fun T=>h (by have:=T.gl0;omega)) rfl) (fun hg0=>?_)
   refine aL (fun h=>rGv (bad fun T=>h (by have:=T.ln1;omega)) rfl) (fun hl=>?_)
   refine ifd (fun h=>by omega) (fun h=>?_)
   exact rGv (one ⟨htm,by omega,by omega,fun _=>hnm,by omega,by omega,by omega,by omega,by omega,by omega,by omega,by omega,by omega,by omega⟩ (by omega)) rfl
  ·refine fP qAs (some (.int .i64 1)) hm (k5.weaken (by rintro _ ⟨n, rfl⟩; rfl)) rfl (by rw [kB]; simp [e]) ?_
   repeat (refine ifd (fun h=>?_) (fun h=>?_)<;>try (exfalso;omega))
   refine aL (fun h=>rGv (bad fun T=>h (T.nm (by omega))) rfl) (fun hnm=>?_)
   refine aL (fun h=>rGv (bad fun T=>h (by have:=T.gl0;omega)) rfl) (fun hg0=>?_)
   refine aL (fun h=>rGv (bad fun T=>h (by have:=T.ln1;omega)) rfl) (fun hl=>?_)
   refine ifd (fun h=>by omega) (fun h=>?_)
   exact rGv (one ⟨htm,by omega,by omega,fun _=>hnm,by omega,by omega,by omega,by omega,by omega,by omega,by omega,by omega,by omega,by omega⟩ (by omega)) rfl
  ·refine fP qAs (some (.int .i64 2)) hm (k5.weaken (by rintro _ ⟨n, rfl⟩; rfl)) rfl (by rw [kB]; simp [e]) ?_
   repeat (refine ifd (fun h=>?_) (fun h=>?_)<;>try (exfalso;omega))
   refine aL (fun h=>rGv (bad fun T=>h (T.nm (by omega))) rfl) (fun hnm=>?_)
   refine aL (fun h=>rGv (bad fun T=>h (by have:=T.gl0;omega)) rfl) (fun hg0=>?_)
   refine aL (fun h=>rGv (bad fun T=>h (by have:=T.ln2;omega)) rfl) (fun hl=>?_)
   refine ifd (fun h=>by omega) (fun h=>?_)
   exact rGv (one ⟨htm,by omega,by omega,fun _=>hnm,by omega,by omega,by omega,by omega,by omega,by omega,by omega,by omega,by omega,by omega⟩ (by omega)) rfl
  ·refine fP qAs (some (.int .i64 2)) hm (k5.weaken (by rintro _ ⟨n, rfl⟩; rfl)) rfl (by rw [kB]; simp [e]) ?_
   repeat (refine ifd (fun h=>?_) (fun h=>?_)<;>try (exfalso;omega))
   refine aL (fun h=>rGv (bad fun T=>h (T.nm (by omega))) rfl) (fun hnm=>?_)
   refine aL (fun h=>rGv (bad fun T=>h (by have:=T.gl0;omega)) rfl) (fun hg0=>?_)
   refine aL (fun h=>rGv (bad fun T=>h (by have:=T.ln2;omega)) rfl) (fun hl=>?_)
   refine ifd (fun h=>by omega) (fun h=>?_)
   exact rGv (one ⟨htm,by omega,by omega,fun _=>hnm,by omega,by omega,by omega,by omega,by omega,by omega,by omega,by omega,by omega,by omega⟩ (by omega)) rfl
  ·refine fP qAs none hm (k5.weaken (by rintro _ ⟨n, rfl⟩; rfl)) rfl (by rw [kB, if_neg (by omega), if_neg (by omega), if_neg (by omega), if_neg (by omega), if_neg (by omega)]) ?_
   by_cases e2:g.kind=0∨g.kind=1
   ·repeat' (refine ifd (fun h => ?_) (fun h => ?_) <;> try (exfalso; omega))
    all_goals
     refine aL (fun h=>rGv (bad fun T=>h (T.nm (by omega))) rfl) (fun hnm=>?_)
     refine aL (fun h=>rGv (bad fun T=>h (by have:=T.gl0;omega)) rfl) (fun hg0=>?_)
     refine aL (fun h=>rGv (bad fun T=>h (by have:=T.ln0;omega)) rfl) (fun hl=>?_)
     refine ifd (fun h=>by omega) (fun h=>?_)
     exact rGv (one ⟨htm,by omega,by omega,fun _=>hnm,by omega,by omega,by omega,by omega,by omega,by omega,by omega,by omega,by omega,by omega⟩ (by omega)) rfl
   ·by_cases e9 : g.kind = 9
    ·repeat (refine ifd (fun h => ?_) (fun h => ?_) <;> try (exfalso; omega))
     refine cGv (gN _ _) ?_
     refine aL (fun h=>rGv (bad fun T=>h (T.rel e9)) rfl) (fun hnm=>?_)
     refine aL (fun h=>rGv (bad fun T=>h (by have:=T.gl0;omega)) rfl) (fun hg0=>?_)
     refine ifd (fun h=>rGv (bad fun T=>by have:=T.ln9;omega) rfl) (fun hl=>?_)
     exact rGv (one ⟨htm,by omega,by omega,by omega,fun _=>hnm,by omega,by omega,by omega,by omega,by omega,by omega,by omega,by omega,by omega⟩ (by omega)) rfl
    ·by_cases e3 : g.kind = 7 ∨ g.kind = 8 ∨ g.kind = 10
     ·have fin:∀k:Int,k=1+(Gl.cnts g.goals:Nat)→TopOk g→(∀x∈g.goals,x.Sh)→k≤room→Value.int .i64 k= .int .i64 (g.nodes room):=fun k hk T hS hr=>by
       rw[Gl.nodes_pos (.mk T hS) (by omega),hce,hk];congr 1
      have top:g.name=⟨#[]⟩→g.terms.length=0→g.goals.length≤8→(g.kind=10→g.goals.length=1)→(g.kind=10→∀b,g.goals[0]? =some b→b.kind=9)→TopOk g:=fun a b c d f=>
       ⟨htm,by omega,by omega,fun _=>a,by omega,by omega,by omega,by omega,by omega,c,by omega,d,by omega,f⟩
      repeat' (refine ifd (fun h=>?_) (fun h=>?_)<;>try (exfalso;omega))
      ·refine aL (fun h => rGv (bad fun T => h (T.nm (by omega))) rfl) (fun hnm => ?_)
       refine aL (fun h=>rGv (bad fun T=>h (by have:=T.ln0;omega)) rfl) (fun hl=>?_)
       refine ifd (fun h=>rGv (bad fun T=>by have:=T.gl;omega) rfl) (fun h8=>?_)
       have T:=top hnm (by omega) (by omega) (by omega) (by omega)
       refine lIn (fun i:Nat=>i≤g.goals.length∧(∀x∈g.goals.take i,x.Sh)∧1+(Gl.cnts (g.goals.take i):Int)≤room) (fun i=>⟨[(1,.val (.int .i64 room)),(6,.val (.int .i64 (1+(Gl.cnts (g.goals.take i):Int)))),(124,.val (.slice p.2.1 g.goals.length p.2.2)),(125,.val (.int .i64 g.goals.length)),(126,.val (.int .i64 i))],[],1,μ,h0⟩) (fun i=>g.goals.length-i)
        0 ⟨by omega,by simp,by simp[Gl.cnts];omega⟩ (fun i=>⟨rfl,rfl⟩) ⟨⟨rfl,rfl,rfl,rfl,rfl,trivial⟩,trivial,rfl,rfl⟩ ?_
       rintro i ⟨hi,hall,hle⟩
       refine ifd (fun h=>?_) (fun h=>?_)
       ·have w_ := aSo (l := g.goals) (i := i) (by omega)
        obtain⟨t,ht⟩:=w_
        have hc:=Gl.cnts_take ht
        have hc':=Gl.cnts_le g.goals (i+1)
        have w_:=Gl.elem hgs ht
        obtain⟨ad,p3,hel,hr⟩:=w_
        refine eIn hel ?_
        intro r2
        refine aC (by omega) (by omega) ?_
        refine cGv (ih t (mAt ht) hr (by omega) (by omega)) ?_
        refine ifd (fun h=>rGv (Gl.nodes_neg fun k=>Gl.nodes_lt h ⟨k.1.sub t (mAt ht),by omega⟩) rfl) (fun h=>?_)
        have w_:=Gl.nodes_ge h
        obtain⟨hS,hcnt,he⟩:=w_
        refine nEq (x:=1+(Gl.cnts (g.goals.take (i+1)):Int)) (by rw[he,aA (by omega) (by omega),hc];omega) ?_
        refine aC (by omega) (by omega) ⟨i+1,⟨by omega,fun x hx=>?_,by omega⟩,by omega,⟨⟨rfl,rfl,rfl,rfl,rfl,trivial⟩,trivial,rfl,rfl⟩⟩
        rw[List.take_add_one,ht,Option.toList_some,List.mem_append,List.mem_singleton]at hx
        rcases hx with hx|rfl
        ·exact hall x hx
        ·exact hS
       ·obtain rfl : i = g.goals.length := by omega
        rw[List.take_length]at hall hle
        exact rGv (fin _ (by rw[List.take_length]) T hall (by rw[List.take_length];exact hle)) rfl
      ·refine aL (fun h => rGv (bad fun T => h (T.nm (by omega))) rfl) (fun hnm => ?_)
       refine aL (fun h=>rGv (bad fun T=>h (by have:=T.ln0;omega)) rfl) (fun hl=>?_)
       refine ifd (fun h=>rGv (bad fun T=>by have:=T.gl;omega) rfl) (fun h8=>?_)
       have T:=top hnm (by omega) (by omega) (by omega) (by omega)
       refine lIn (fun i:Nat=>i≤g.goals.length∧(∀x∈g.goals.take i,x.Sh)∧1+(Gl.cnts (g.goals.take i):Int)≤room) (fun i=>⟨[(1,.val (.int .i64 room)),(6,.val (.int .i64 (1+(Gl.cnts (g.goals.take i):Int)))),(124,.val (.slice p.2.1 g.goals.length p.2.2)),(125,.val (.int .i64 g.goals.length)),(126,.val (.int .i64 i))],[],1,μ,h0⟩) (fun i=>g.goals.length-i)
        0 ⟨by omega,by simp,by simp[Gl.cnts];omega⟩ (fun i=>⟨rfl,rfl⟩) ⟨⟨rfl,rfl,rfl,rfl,rfl,trivial⟩,trivial,rfl,rfl⟩ ?_
       rintro i ⟨hi,hall,hle⟩
       refine ifd (fun h=>?_) (fun h=>?_)
       ·have w_ := aSo (l := g.goals) (i := i) (by omega)
        obtain⟨t,ht⟩:=w_
        have hc:=Gl.cnts_take ht
        have hc':=Gl.cnts_le g.goals (i+1)
        have w_:=Gl.elem hgs ht
        obtain⟨ad,p3,hel,hr⟩:=w_
        refine eIn hel ?_
        intro r2
        refine aC (by omega) (by omega) ?_
        refine cGv (ih t (mAt ht) hr (by omega) (by omega)) ?_
        refine ifd (fun h=>rGv (Gl.nodes_neg fun k=>Gl.nodes_lt h ⟨k.1.sub t (mAt ht),by omega⟩) rfl) (fun h=>?_)
        have w_:=Gl.nodes_ge h
        obtain⟨hS,hcnt,he⟩:=w_
        refine nEq (x:=1+(Gl.cnts (g.goals.take (i+1)):Int)) (by rw[he,aA (by omega) (by omega),hc];omega) ?_
        refine aC (by omega) (by omega) ⟨i+1,⟨by omega,fun x hx=>?_,by omega⟩,by omega,⟨⟨rfl,rfl,rfl,rfl,rfl,trivial⟩,trivial,rfl,rfl⟩⟩
        rw[List.take_add_one,ht,Option.toList_some,List.mem_append,List.mem_singleton]at hx
        rcases hx with hx|rfl
        ·exact hall x hx
        ·exact hS
       ·obtain rfl : i = g.goals.length := by omega
        rw[List.take_length]at hall hle
        exact rGv (fin _ (by rw[List.take_length]) T hall (by rw[List.take_length];exact hle)) rfl
      ·refine aL (fun h => rGv (bad fun T => h (T.nm (by omega))) rfl) (fun hnm => ?_)
       refine aL (fun h=>rGv (bad fun T=>h (by have:=T.ln0;omega)) rfl) (fun hl=>?_)
       refine aL (fun h=>rGv (bad fun T=>h (by have:=T.gl1;omega)) rfl) (fun hg1=>?_)
       have w_:=aSo (l:=g.goals) (i:=0) (by omega)
       obtain⟨b,hb⟩:=w_
       have w_:=Gl.elem hgs hb
       obtain⟨ad,p2,hel,hr⟩:=w_
       refine eIn hel ?_
       refine aL (fun h=>rGv (bad fun T=>h (T.cl (by omega) b hb)) rfl) (fun hb9=>?_)
       have T:=top hnm (by omega) (by omega) (by omega) (fun _ x hx=>by rw[hb]at hx;cases hx;exact hb9)
       refine lIn (fun i:Nat=>i≤g.goals.length∧(∀x∈g.goals.take i,x.Sh)∧1+(Gl.cnts (g.goals.take i):Int)≤room) (fun i=>⟨[(1,.val (.int .i64 room)),(6,.val (.int .i64 (1+(Gl.cnts (g.goals.take i):Int)))),(124,.val (.slice p.2.1 g.goals.length p.2.2)),(125,.val (.int .i64 g.goals.length)),(126,.val (.int .i64 i))],[],1,μ,h0⟩) (fun i=>g.goals.length-i)
        0 ⟨by omega,by simp,by simp[Gl.cnts];omega⟩ (fun i=>⟨rfl,rfl⟩) ⟨⟨rfl,rfl,rfl,rfl,rfl,trivial⟩,trivial,rfl,rfl⟩ ?_
       rintro i ⟨hi,hall,hle⟩
       refine ifd (fun h=>?_) (fun h=>?_)
       ·have w_ := aSo (l := g.goals) (i := i) (by omega)
        obtain⟨t,ht⟩:=w_
        have hc:=Gl.cnts_take ht
        have hc':=Gl.cnts_le g.goals (i+1)
        have w_:=Gl.elem hgs ht
        obtain⟨ad,p3,hel,hr⟩:=w_
        refine eIn hel ?_
        intro r2
        refine aC (by omega) (by omega) ?_
        refine cGv (ih t (mAt ht) hr (by omega) (by omega)) ?_
        refine ifd (fun h=>rGv (Gl.nodes_neg fun k=>Gl.nodes_lt h ⟨k.1.sub t (mAt ht),by omega⟩) rfl) (fun h=>?_)
        have w_:=Gl.nodes_ge h
        obtain⟨hS,hcnt,he⟩:=w_
        refine nEq (x:=1+(Gl.cnts (g.goals.take (i+1)):Int)) (by rw[he,aA (by omega) (by omega),hc];omega) ?_
        refine aC (by omega) (by omega) ⟨i+1,⟨by omega,fun x hx=>?_,by omega⟩,by omega,⟨⟨rfl,rfl,rfl,rfl,rfl,trivial⟩,trivial,rfl,rfl⟩⟩
        rw[List.take_add_one,ht,Option.toList_some,List.mem_append,List.mem_singleton]at hx
        rcases hx with hx|rfl
        ·exact hall x hx
        ·exact hS
       ·obtain rfl : i = g.goals.length := by omega
        rw[List.take_length]at hall hle
        exact rGv (fin _ (by rw[List.take_length]) T hall (by rw[List.take_length];exact hle)) rfl
     ·repeat (refine ifd (fun h => ?_) (fun h => ?_) <;> try (exfalso; omega))
      exact rGv (bad fun T=>by have:=T.k0;have:=T.k1;omega) rfl
end
end Go.Vx
namespace Go.Vx
open Go.Proofs Classical
open Go.Sort
theorem arr_at{d:Array Int}{k:Nat}(h:k<d.size):d.toList[k]? =some d[k]!:=by
 rw[Array.getElem?_toList,getElem!_pos d k h,Array.getElem?_eq_getElem h]
section
variable {μ h0:Mem} {r:Nat} {ty:TypeId} {rest:List Value} {d:Array Int}
theorem aP{n:Nat}{i:Int}{K:Addr→List Value→Prop}{K':Addr→Prop}(k:Nat)(e:i=k)(hk:k<n)(h:K' ⟨r,k,none⟩):elemVC μ (some ⟨r,0,none⟩) n 1 i K K':=by
 subst e
 refine cS ⟨r,0,none⟩ rfl (by omega) (by omega) ?_
 have:(⟨r,0,none⟩:Addr).add ((k:Int).toNat*1)=⟨r,k,none⟩:=by rw[Addr.add_lit'];simp
 rw[this];exact h
theorem rdI{k:Nat}{K:List Value→Prop}(hk:k<d.size)(h:K [.int .i64 d[k]!]):extVC μ (aX h0 r ty rest d) ⟨r,k,none⟩ 1 K:=
 own_at (pre:=[]) (j:=k) (by simp) (by rw[List.getElem?_map,arr_at hk];rfl) h
theorem wrI{k:Nat}{v:Int}{K:Mem→Prop}(hk:k<d.size)(h:K (aX h0 r ty rest (d.setIfInBounds k v))):stoVC (aX h0 r ty rest d) ⟨r,k,none⟩ [.int .i64 v] K:=by
 refine sto_at (pre:=[]) (j:=k) (by simp) (by simpa using hk) ?_
 have e:(d.toList.map (Value.int .i64)).set k (.int .i64 v)=(d.setIfInBounds k v).toList.map (Value.int .i64):=by
  rw[Array.toList_setIfInBounds,List.map_set]
 rw[e];exact h
theorem swp_size(d:Array Int)(i j:Nat):(swp d i j).size=d.size:=by simp[swp]
theorem qGh(x:Int):aQ Tryz.prog 217 [.int .i64 x] μ (.bool false):=by
 refine Spec.mk Tryz.func217 (by kernel_rfl) ?_
 exact rGv (by simp) rfl
theorem aV(x y:Int):aQ Tryz.prog 208 [.int .i64 x,.int .i64 y] μ (.bool (ltInt x y)):=by
 refine Spec.mk Tryz.func208 (by kernel_rfl) ?_
 refine cGv (qGh x) ?_
 refine iIn (fun h=>nomatch h) (fun _=>?_)
 exact rGv rfl rfl
theorem oG{n a b:Nat}{cap:Nat}(hd:d.size=n)(ha:a≤b)(hb:b≤n)(hn:n≤1000000000000):
  SpecH Tryz.prog 202 [.slice (some ⟨r,0,none⟩) n cap,.int .i64 a,.int .i64 b] μ (aX h0 r ty rest d) fun v μ' h'=>v= .tuple #[]∧μ'=μ∧h'=aX h0 r ty rest (insertionSort ltInt d a b):=by
 refine SpecH.mk [] Tryz.func202 (by kernel_rfl) ?_
 rw[insertionSort]
 generalize hD:insOuter ltInt a b (a+1) d=D
 refine nEq (x:=((a+1:Nat):Int)) (by rw[aA (by omega) (by omega)];omega) ?_
 refine lIn (fun p:Nat×Array Int=>a+1≤p.1∧p.1≤max b (a+1)∧p.2.size=n∧insOuter ltInt a b p.1 p.2=D)
  (fun(i,d)=>⟨[(0,.val (.slice (some ⟨r,0,none⟩) n cap)),(1,.val (.int .i64 a)),(2,.val (.int .i64 b)),(6,.val (.int .i64 i))],[],0,μ,aX h0 r ty rest d⟩) (fun p=>b-p.1)
  (a+1,d) ⟨by omega,by omega,hd,hD⟩ (fun(_,_)=>⟨rfl,rfl⟩) ⟨⟨rfl,rfl,rfl,rfl,trivial⟩,trivial,rfl,rfl⟩ ?_
 rintro⟨i,d1⟩ ⟨hi1,hi2,hs,hJ⟩
 dsimp only at hi1 hi2 hs hJ
 rw[insOuter]at hJ
 refine ifd (fun h=>?_) (fun h=>?_)
 ·rw [if_pos (by omega)] at hJ
  refine lIn (fun p:Nat×Array Int=>p.1<n∧p.2.size=n∧insInner ltInt a p.1 p.2=insInner ltInt a i d1)
   (fun(j,d)=>⟨[(0,.val (.slice (some ⟨r,0,none⟩) n cap)),(1,.val (.int .i64 a)),(2,.val (.int .i64 b)),(6,.val (.int .i64 i)),(7,.val (.int .i64 j))],[],0,μ,aX h0 r ty rest d⟩) (fun p=>p.1)
   (i,d1) ⟨by omega,hs,rfl⟩ (fun(_,_)=>⟨rfl,rfl⟩) ⟨⟨rfl,rfl,rfl,rfl,rfl,trivial⟩,trivial,rfl,rfl⟩ ?_
  rintro⟨j,d2⟩ ⟨hj,hs2,hJ2⟩
  dsimp only at hj hs2 hJ2
  refine ifd (fun hja=>?_) (fun hja=>?_)
  ·obtain ⟨j, rfl⟩ : ∃ k, j = k + 1 := ⟨j - 1, by omega⟩
   rw[insInner]at hJ2
   refine aP (j+1) rfl (by omega) ?_
   refine rdI (by omega) ?_
   refine nEq (x:=((j:Nat):Int)) (by rw[aA (by omega) (by omega)];omega) ?_
   refine aP j rfl (by omega) ?_
   refine rdI (by omega) ?_
   refine cGv (aV _ _) ?_
   have g:decide (j+1>a)=true:=decide_eq_true (by omega)
   refine iIn (fun hl=>?_) (fun hl=>?_)
   ·rw [g, hl, Bool.and_self, if_pos rfl] at hJ2
    refine nEq (x:=((j:Nat):Int)) (by rw[aA (by omega) (by omega)];omega) ?_
    refine nEq (x:=((j:Nat):Int)) (by rw[aA (by omega) (by omega)];omega) ?_
    refine aP j rfl (by omega) ?_
    refine rdI (by omega) ?_
    refine aP (j+1) rfl (by omega) ?_
    refine rdI (by omega) ?_
    refine aP (j+1) rfl (by omega) ?_
    refine wrI (by omega) ?_
    refine aP j rfl (by omega) ?_
    refine wrI (by simp;omega) ?_
    refine nEq (x:=((j:Nat):Int)) (by rw[aA (by omega) (by omega)];omega) ?_
    exact⟨(j,swp d2 (j+1) j),⟨by dsimp only;omega,by dsimp only;rw[swp_size];exact hs2,hJ2⟩,by dsimp only;omega,⟨⟨rfl,rfl,rfl,rfl,rfl,trivial⟩,trivial,rfl,rfl⟩⟩
   ·rw [hl, Bool.and_false, if_neg (by simp)] at hJ2
    exact aC (by omega) (by omega) ⟨(i+1,d2),⟨by dsimp only;omega,by dsimp only;omega,hs2,by dsimp only;rw[hJ2];exact hJ⟩,by dsimp only;omega,⟨⟨rfl,rfl,rfl,rfl,trivial⟩,trivial,rfl,rfl⟩⟩
  ·have hJ3:insInner ltInt a j d2=d2:=by
    cases j with
    |zero=>rfl
    |succ j=>rw[insInner,if_neg];simp;omega
   rw[hJ3]at hJ2
   exact aC (by omega) (by omega) ⟨(i+1,d2),⟨by dsimp only;omega,by dsimp only;omega,hs2,by dsimp only;rw[hJ2];exact hJ⟩,by dsimp only;omega,⟨⟨rfl,rfl,rfl,rfl,trivial⟩,trivial,rfl,rfl⟩⟩
 ·rw [if_neg (by omega)] at hJ
  exact rPl ⟨rfl,rfl,by rw[hJ]⟩
end
end Go.Vx
namespace Go.Vx
open Go.Proofs Classical
open Go.Sort
section
variable {μ h0:Mem} {r:Nat} {ty:TypeId} {rest:List Value} {d:Array Int}
theorem jE{n a b:Nat}{cap:Nat}(hd:d.size=n)(hb1:1≤b)(ha:a≤b)(hb:b≤n)(hn:n≤1000000000000):
  SpecH Tryz.prog 206 [.slice (some ⟨r,0,none⟩) n cap,.int .i64 a,.int .i64 b] μ (aX h0 r ty rest d) fun v μ' h'=>v= .tuple #[]∧μ'=μ∧h'=aX h0 r ty rest (reverseRange d a b):=by
 refine SpecH.mk [] Tryz.func206 (by kernel_rfl) ?_
 rw[reverseRange]
 generalize hD:reverseLoop a (b-1) d=D
 refine nEq (x:=((b-1:Nat):Int)) (by rw[aA (by omega) (by omega)];omega) ?_
 refine lIn (fun p:Nat×Nat×Array Int=>p.2.1<n∧p.1≤n∧p.2.2.size=n∧reverseLoop p.1 p.2.1 p.2.2=D)
  (fun(i,j,d)=>⟨[(0,.val (.slice (some ⟨r,0,none⟩) n cap)),(6,.val (.int .i64 i)),(7,.val (.int .i64 j))],[],0,μ,aX h0 r ty rest d⟩) (fun p=>p.2.1)
  (a,b-1,d) ⟨by dsimp only;omega,by dsimp only;omega,hd,hD⟩ (fun(_,_,_)=>⟨rfl,rfl⟩) ⟨⟨rfl,rfl,rfl,trivial⟩,trivial,rfl,rfl⟩ ?_
 rintro⟨i,j,d1⟩ ⟨hj,hi,hs,hJ⟩
 dsimp only at hj hi hs hJ
 rw[reverseLoop]at hJ
 refine ifd (fun h=>?_) (fun h=>?_)
 ·rw [if_pos (by omega)] at hJ
  refine aP (j) (by omega) (by omega) ?_
  refine rdI (by omega) ?_
  refine aP (i) (by omega) (by omega) ?_
  refine rdI (by omega) ?_
  refine aP (i) (by omega) (by omega) ?_
  refine wrI (by omega) ?_
  refine aP (j) (by omega) (by omega) ?_
  refine wrI (by simp;omega) ?_
  refine nEq (x:=((i+1:Nat):Int)) (by rw[aA (by omega) (by omega)];omega) ?_
  refine nEq (x:=((j-1:Nat):Int)) (by rw[aA (by omega) (by omega)];omega) ?_
  exact⟨(i+1,j-1,swp d1 i j),⟨by dsimp only;omega,by dsimp only;omega,by dsimp only;rw[swp_size];exact hs,hJ⟩,by dsimp only;omega,⟨⟨rfl,rfl,rfl,trivial⟩,trivial,rfl,rfl⟩⟩
 ·rw [if_neg (by omega)] at hJ
  exact rPl ⟨rfl,rfl,by rw[hJ]⟩
theorem nY{n lo hi first:Nat}{cap:Nat}(hd:d.size=n)(hb:first+hi≤n)(hl:lo≤n)(hn:n≤1000000000000):
  SpecH Tryz.prog 212 [.slice (some ⟨r,0,none⟩) n cap,.int .i64 lo,.int .i64 hi,.int .i64 first] μ (aX h0 r ty rest d) fun v μ' h'=>v= .tuple #[]∧μ'=μ∧h'=aX h0 r ty rest (siftDown ltInt hi first lo d):=by
 refine SpecH.mk [] Tryz.func212 (by kernel_rfl) ?_
 generalize hD:siftDown ltInt hi first lo d=D
 refine lIn (fun p:Nat×Array Int=>p.1≤n∧p.2.size=n∧siftDown ltInt hi first p.1 p.2=D)
  (fun(i,d)=>⟨[(0,.val (.slice (some ⟨r,0,none⟩) n cap)),(2,.val (.int .i64 hi)),(3,.val (.int .i64 first)),(8,.val (.int .i64 i))],[],0,μ,aX h0 r ty rest d⟩) (fun p=>hi-p.1)
  (lo,d) ⟨hl,hd,hD⟩ (fun(_,_)=>⟨rfl,rfl⟩) ⟨⟨rfl,rfl,rfl,rfl,trivial⟩,trivial,rfl,rfl⟩ ?_
 rintro⟨i,d1⟩ ⟨hi1,hs,hJ⟩
 dsimp only at hi1 hs hJ
 rw[siftDown]at hJ
 refine nEq (x:=((2*i:Nat):Int)) (by rw[aA (by omega) (by omega)];omega) ?_
 refine nEq (x:=((2*i+1:Nat):Int)) (by rw[aA (by omega) (by omega)];omega) ?_
 refine ifd (fun h=>?_) (fun h=>?_)
 ·rw [dif_pos (by omega)] at hJ
  exact rPl ⟨rfl,rfl,by rw[hJ]⟩
 rw[dif_neg (by omega)]at hJ
 refine nEq (x:=((2*i+1+1:Nat):Int)) (by rw[aA (by omega) (by omega)];omega) ?_
 refine ifd (fun h2=>?_) (fun h2=>?_)
 ·refine nEq (x := ((first + (2 * i + 1) : Nat) : Int)) (by rw [aA (by omega) (by omega)]; omega) ?_
  refine aP (first+(2*i+1)) (by omega) (by omega) ?_
  refine rdI (by omega) ?_
  refine nEq (x:=((first+(2*i+1):Nat):Int)) (by rw[aA (by omega) (by omega)];omega) ?_
  refine nEq (x:=((first+(2*i+1)+1:Nat):Int)) (by rw[aA (by omega) (by omega)];omega) ?_
  refine aP (first+(2*i+1)+1) (by omega) (by omega) ?_
  refine rdI (by omega) ?_
  refine cGv (aV _ _) ?_
  have g:decide (2*i+1+1<hi)=true:=decide_eq_true (by omega)
  refine iIn (fun hl=>?_) (fun hl=>?_)
  ·rw [g, hl, Bool.and_self, if_pos rfl] at hJ
   refine nEq (x:=((2*i+2:Nat):Int)) (by rw[aA (by omega) (by omega)];omega) ?_
   refine nEq (x:=((first+i:Nat):Int)) (by rw[aA (by omega) (by omega)];omega) ?_
   refine aP (first+i) (by omega) (by omega) ?_
   refine rdI (by omega) ?_
   refine nEq (x:=((first+(2*i+2):Nat):Int)) (by rw[aA (by omega) (by omega)];omega) ?_
   refine aP (first+(2*i+2)) (by omega) (by omega) ?_
   refine rdI (by omega) ?_
   refine cGv (aV _ _) ?_
   refine iIn (fun hl=>?_) (fun hl=>?_)
   ·rw [if_pos (by simpa using hl)] at hJ
    exact rPl ⟨rfl,rfl,by rw[hJ]⟩
   ·rw [if_neg (by simpa using hl)] at hJ
    try rw[dif_pos (by omega)]at hJ
    refine nEq (x:=((first+i:Nat):Int)) (by rw[aA (by omega) (by omega)];omega) ?_
    refine nEq (x:=((first+(2*i+2):Nat):Int)) (by rw[aA (by omega) (by omega)];omega) ?_
    refine nEq (x:=((first+(2*i+2):Nat):Int)) (by rw[aA (by omega) (by omega)];omega) ?_
    refine aP (first+(2*i+2)) (by omega) (by omega) ?_
    refine rdI (by omega) ?_
    refine nEq (x:=((first+i:Nat):Int)) (by rw[aA (by omega) (by omega)];omega) ?_
    refine aP (first+i) (by omega) (by omega) ?_
    refine rdI (by omega) ?_
    refine aP (first+i) (by omega) (by omega) ?_
    refine wrI (by omega) ?_
    refine aP (first+(2*i+2)) (by omega) (by omega) ?_
    refine wrI (by simp;omega) ?_
    exact⟨(2*i+2,swp d1 (first+i) (first+(2*i+2))),⟨by dsimp only;omega,by dsimp only;rw[swp_size];exact hs,hJ⟩,by dsimp only;omega,⟨⟨rfl,rfl,rfl,rfl,trivial⟩,trivial,rfl,rfl⟩⟩
  ·rw [hl, Bool.and_false, if_neg (by simp)] at hJ
   refine nEq (x:=((first+i:Nat):Int)) (by rw[aA (by omega) (by omega)];omega) ?_
   refine aP (first+i) (by omega) (by omega) ?_
   refine rdI (by omega) ?_
   refine nEq (x:=((first+(2*i+1):Nat):Int)) (by rw[aA (by omega) (by omega)];omega) ?_
   refine aP (first+(2*i+1)) (by omega) (by omega) ?_
   refine rdI (by omega) ?_
   refine cGv (aV _ _) ?_
   refine iIn (fun hl=>?_) (fun hl=>?_)
   ·rw [if_pos (by simpa using hl)] at hJ
    exact rPl ⟨rfl,rfl,by rw[hJ]⟩
   ·rw [if_neg (by simpa using hl)] at hJ
    try rw[dif_pos (by omega)]at hJ
    refine nEq (x:=((first+i:Nat):Int)) (by rw[aA (by omega) (by omega)];omega) ?_
    refine nEq (x:=((first+(2*i+1):Nat):Int)) (by rw[aA (by omega) (by omega)];omega) ?_
    refine nEq (x:=((first+(2*i+1):Nat):Int)) (by rw[aA (by omega) (by omega)];omega) ?_
    refine aP (first+(2*i+1)) (by omega) (by omega) ?_
    refine rdI (by omega) ?_
    refine nEq (x:=((first+i:Nat):Int)) (by rw[aA (by omega) (by omega)];omega) ?_
    refine aP (first+i) (by omega) (by omega) ?_
    refine rdI (by omega) ?_
    refine aP (first+i) (by omega) (by omega) ?_
    refine wrI (by omega) ?_
    refine aP (first+(2*i+1)) (by omega) (by omega) ?_
    refine wrI (by simp;omega) ?_
    exact⟨(2*i+1,swp d1 (first+i) (first+(2*i+1))),⟨by dsimp only;omega,by dsimp only;rw[swp_size];exact hs,hJ⟩,by dsimp only;omega,⟨⟨rfl,rfl,rfl,rfl,trivial⟩,trivial,rfl,rfl⟩⟩
 ·have g : decide (2 * i + 1 + 1 < hi) = false := decide_eq_false (by omega)
  rw[g,Bool.false_and,if_neg (by simp)]at hJ
  refine nEq (x:=((first+i:Nat):Int)) (by rw[aA (by omega) (by omega)];omega) ?_
  refine aP (first+i) (by omega) (by omega) ?_
  refine rdI (by omega) ?_
  refine nEq (x:=((first+(2*i+1):Nat):Int)) (by rw[aA (by omega) (by omega)];omega) ?_
  refine aP (first+(2*i+1)) (by omega) (by omega) ?_
  refine rdI (by omega) ?_
  refine cGv (aV _ _) ?_
  refine iIn (fun hl=>?_) (fun hl=>?_)
  ·rw [if_pos (by simpa using hl)] at hJ
   exact rPl ⟨rfl,rfl,by rw[hJ]⟩
  ·rw [if_neg (by simpa using hl)] at hJ
   try rw[dif_pos (by omega)]at hJ
   refine nEq (x:=((first+i:Nat):Int)) (by rw[aA (by omega) (by omega)];omega) ?_
   refine nEq (x:=((first+(2*i+1):Nat):Int)) (by rw[aA (by omega) (by omega)];omega) ?_
   refine nEq (x:=((first+(2*i+1):Nat):Int)) (by rw[aA (by omega) (by omega)];omega) ?_
   refine aP (first+(2*i+1)) (by omega) (by omega) ?_
   refine rdI (by omega) ?_
   refine nEq (x:=((first+i:Nat):Int)) (by rw[aA (by omega) (by omega)];omega) ?_
   refine aP (first+i) (by omega) (by omega) ?_
   refine rdI (by omega) ?_
   refine aP (first+i) (by omega) (by omega) ?_
   refine wrI (by omega) ?_
   refine aP (first+(2*i+1)) (by omega) (by omega) ?_
   refine wrI (by simp;omega) ?_
   exact⟨(2*i+1,swp d1 (first+i) (first+(2*i+1))),⟨by dsimp only;omega,by dsimp only;rw[swp_size];exact hs,hJ⟩,by dsimp only;omega,⟨⟨rfl,rfl,rfl,rfl,trivial⟩,trivial,rfl,rfl⟩⟩
theorem nU(hi first:Nat):∀(m root:Nat) (d:Array Int),hi-root≤m→(siftDown ltInt hi first root d).size=d.size:=by
 intro m
 induction m with
 |zero=>
  intro root d h
  rw[siftDown,dif_pos (by omega)]
 |succ m ih=>
  intro root d h
  rw[siftDown]
  repeat' split
  all_goals first
   |rfl
   |(rw[ih _ _ (by omega),Go.Sort.swp_size])
theorem wQ{n a b:Nat}{cap:Nat}(hd:d.size=n)(ha:a<b)(hb:b≤n)(hn:n≤1000000000000):
  SpecH Tryz.prog 203 [.slice (some ⟨r,0,none⟩) n cap,.int .i64 a,.int .i64 b] μ (aX h0 r ty rest d) fun v μ' h'=>v= .tuple #[]∧μ'=μ∧h'=aX h0 r ty rest (heapSort ltInt d a b):=by
 refine SpecH.mk [] Tryz.func203 (by kernel_rfl) ?_
 rw[heapSort]
 generalize hD1:heapBuild ltInt (b-a) a ((b-a-1) / 2+1) d=D1
 generalize hD:heapPop ltInt a (b-a) D1=D
 refine nEq (x:=((b-a:Nat):Int)) (by rw[aA (by omega) (by omega)];omega) ?_
 refine nEq (x:=((b-a-1:Nat):Int)) (by rw[aA (by omega) (by omega)];omega) ?_
 refine aD (by decide) ?_
 refine nEq (x:=(((b-a-1) / 2+1:Nat):Int)-1) (by rw[Int.tdiv_eq_ediv_of_nonneg (by omega),aA (by omega) (by omega)];omega) ?_
 refine lIn (fun p:Nat×Array Int=>p.1≤b-a∧p.2.size=n∧heapBuild ltInt (b-a) a p.1 p.2=D1)
  (fun(k,d)=>⟨[(0,.val (.slice (some ⟨r,0,none⟩) n cap)),(6,.val (.int .i64 a)),(7,.val (.int .i64 0)),(8,.val (.int .i64 (b-a:Nat))),(9,.val (.int .i64 ((k:Int)-1)))],[],0,μ,aX h0 r ty rest d⟩) (fun p=>p.1)
  ((b-a-1) / 2+1,d) ⟨by dsimp only;omega,hd,hD1⟩ (fun(_,_)=>⟨rfl,rfl⟩) ⟨⟨rfl,rfl,rfl,rfl,rfl,trivial⟩,trivial,rfl,rfl⟩ ?_
 rintro⟨k,d1⟩ ⟨hk,hs,hJ⟩
 dsimp only at hk hs hJ
 refine ifd (fun h=>?_) (fun h=>?_)
 ·obtain ⟨k, rfl⟩ : ∃ m, k = m + 1 := ⟨k - 1, by omega⟩
  rw[heapBuild]at hJ
  have e:(((k+1:Nat):Int)-1)=(k:Nat):=by omega
  rw[e]
  refine cOw (nY (lo:=k) (hi:=b-a) (first:=a) hs (by omega) (by omega) hn) fun v μ' h' hle hap hR=>?_
  obtain⟨rfl,e2,rfl⟩:=hR
  obtain rfl:=e2.symm
  refine nEq (x:=(k:Int)-1) (by rw[aA (by omega) (by omega)]) ?_
  exact⟨(k,siftDown ltInt (b-a) a k d1),⟨by dsimp only;omega,by dsimp only;rw[nU _ _ _ _ _ (Nat.le_refl _)];exact hs,hJ⟩,by dsimp only;omega,⟨⟨rfl,rfl,rfl,rfl,rfl,trivial⟩,trivial,rfl,rfl⟩⟩
 obtain rfl:k=0:=by omega
 have hJ:d1=D1:=hJ
 subst hJ
 refine nEq (x:=((b-a:Nat):Int)-1) (by rw[aA (by omega) (by omega)]) ?_
 refine lIn (fun p:Nat×Array Int=>p.1≤b-a∧p.2.size=n∧heapPop ltInt a p.1 p.2=D)
  (fun(k,d)=>⟨[(0,.val (.slice (some ⟨r,0,none⟩) n cap)),(6,.val (.int .i64 a)),(7,.val (.int .i64 0)),(10,.val (.int .i64 ((k:Int)-1)))],[],0,μ,aX h0 r ty rest d⟩) (fun p=>p.1)
  (b-a,d1) ⟨by dsimp only;omega,hs,hD⟩ (fun(_,_)=>⟨rfl,rfl⟩) ⟨⟨rfl,rfl,rfl,rfl,trivial⟩,trivial,rfl,rfl⟩ ?_
 rintro⟨k,d2⟩ ⟨hk,hs2,hJ⟩
 dsimp only at hk hs2 hJ
 refine ifd (fun h=>?_) (fun h=>?_)
 ·obtain ⟨k, rfl⟩ : ∃ m, k = m + 1 := ⟨k - 1, by omega⟩
  rw[heapPop]at hJ
  have e:(((k+1:Nat):Int)-1)=(k:Nat):=by omega
  rw[e]
  refine nEq (x:=((a+k:Nat):Int)) (by rw[aA (by omega) (by omega)];omega) ?_
  refine nEq (x:=((a+k:Nat):Int)) (by rw[aA (by omega) (by omega)];omega) ?_
  refine aP (a+k) (by omega) (by omega) ?_
  refine rdI (by omega) ?_
  refine aP (a) (by omega) (by omega) ?_
  refine rdI (by omega) ?_
  refine aP (a) (by omega) (by omega) ?_
  refine wrI (by omega) ?_
  refine aP (a+k) (by omega) (by omega) ?_
  refine wrI (by simp;omega) ?_
  refine cOw (nY (d:=swp d2 a (a+k)) (lo:=0) (hi:=k) (first:=a) ((Go.Sort.swp_size _ _ _).trans hs2) (by omega) (by omega) hn) fun v μ' h' hle hap hR=>?_
  obtain⟨rfl,e2,rfl⟩:=hR
  obtain rfl:=e2.symm
  refine nEq (x:=(k:Int)-1) (by rw[aA (by omega) (by omega)]) ?_
  exact⟨(k,_),⟨by dsimp only;omega,by dsimp only;rw[nU _ _ _ _ _ (Nat.le_refl _),Go.Sort.swp_size];exact hs2,hJ⟩,by dsimp only;omega,⟨⟨rfl,rfl,rfl,rfl,trivial⟩,trivial,rfl,rfl⟩⟩
 obtain rfl:k=0:=by omega
 have hJ:d2=D:=hJ
 subst hJ
 exact rPl ⟨rfl,rfl,rfl⟩
end
end Go.Vx
namespace Go.Vx
open Go.Proofs Classical
open Go.Sort
section
variable {μ h0:Mem} {r rs:Nat} {ty:TypeId} {rest:List Value} {d:Array Int} {s:Int}
theorem rdS{K:List Value→Prop}(hne:rs≠r)(h:K [.int .i64 s]):extVC μ (RowS h0 r ty rest d rs s) ⟨rs,0,none⟩ 1 K:=oIn _ rfl (gI (RowS.at hne)) h
theorem Mem.set_comm{m:Mem}{a b:Nat}{x y:Obj}(h:a≠b):(m.set a x).set b y=(m.set b y).set a x:=by
 funext k
 simp only[Mem.set_get]
 by_cases h1:k=b
 ·subst h1;rw[if_pos rfl,if_neg (fun e=>h e.symm),if_pos rfl]
 ·rw [if_neg h1]
  by_cases h2:k=a
  ·rw[if_pos h2,if_pos h2]
  ·rw[if_neg h2,if_neg h2,if_neg h1]
theorem wrS{v:Int}{K:Mem→Prop}(hne:rs≠r)(h:K (RowS h0 r ty rest d rs v)):stoVC (RowS h0 r ty rest d rs s) ⟨rs,0,none⟩ [.int .i64 v] K:=by
 refine sIn [.int .i64 s] 3 (RowS.at hne) rfl (Nat.le_refl _) ?_
 have e:Mem.set (RowS h0 r ty rest d rs s) rs (.cells #[.int .i64 v] 3 (0,0))=RowS h0 r ty rest d rs v:=by
  rw[RowS,aX,Mem.set_comm (fun e=>hne e.symm),Mem.set_set]
  rfl
 show K (Mem.set (RowS h0 r ty rest d rs s) rs (.cells #[.int .i64 v] 3 (0,0)))
 rw[e];exact h
theorem lP{n a b cap:Nat}(hne:rs≠r)(hd:d.size=n)(ha:a<n)(hb:b<n):
  SpecH Tryz.prog 218 [.slice (some ⟨r,0,none⟩) n cap,.int .i64 a,.int .i64 b,.pointer (some ⟨rs,0,none⟩)] μ (RowS h0 r ty rest d rs s) fun v μ' h'=>
   ∃x y:Nat,((x=a∧y=b)∨(x=b∧y=a))∧v= .tuple #[.int .i64 x,.int .i64 y]∧μ'=μ∧∃s',h'=RowS h0 r ty rest d rs s':=by
 refine SpecH.mk [] Tryz.func218 (by kernel_rfl) ?_
 refine aP (b) (by omega) (by omega) ?_
 refine rdI (by omega) ?_
 refine aP (a) (by omega) (by omega) ?_
 refine rdI (by omega) ?_
 refine cGv (aV _ _) ?_
 refine iIn (fun hl=>?_) (fun hl=>?_)
 ·refine rdS hne ?_
  refine aS fun x _=>?_
  refine wrS hne ?_
  exact rPl ⟨b,a,.inr ⟨rfl,rfl⟩,rfl,rfl,_,rfl⟩
 ·exact rPl ⟨a,b,.inl ⟨rfl,rfl⟩,rfl,rfl,_,rfl⟩
theorem lT{n a b c cap:Nat}(hne:rs≠r)(hd:d.size=n)(ha:a<n)(hb:b<n)(hc:c<n):
  SpecH Tryz.prog 216 [.slice (some ⟨r,0,none⟩) n cap,.int .i64 a,.int .i64 b,.int .i64 c,.pointer (some ⟨rs,0,none⟩)] μ (RowS h0 r ty rest d rs s) fun v μ' h'=>
   ∃x:Nat,(x=a∨x=b∨x=c)∧v= .int .i64 x∧μ'=μ∧∃s',h'=RowS h0 r ty rest d rs s':=by
 refine SpecH.mk [] Tryz.func216 (by kernel_rfl) ?_
 refine cOw (lP hne hd ha hb) fun v μ' h' hle hap hR=>?_
 obtain⟨x1,y1,o1,rfl,e1,s1,rfl⟩:=hR
 obtain rfl:=e1.symm
 refine cOw (lP (a:=y1) (b:=c) hne hd (by omega) hc) fun v μ' h' hle hap hR=>?_
 obtain⟨x2,y2,o2,rfl,e2,s2,rfl⟩:=hR
 obtain rfl:=e2.symm
 refine cOw (lP (a:=x1) (b:=x2) hne hd (by omega) (by omega)) fun v μ' h' hle hap hR=>?_
 obtain⟨x3,y3,o3,rfl,e3,s3,rfl⟩:=hR
 obtain rfl:=e3.symm
 exact rPl ⟨y3,by omega,rfl,rfl,_,rfl⟩
theorem eC{n a cap:Nat}(hne:rs≠r)(hd:d.size=n)(ha:1≤a)(hb:a+1<n)(hn:n≤1000000000000):
  SpecH Tryz.prog 215 [.slice (some ⟨r,0,none⟩) n cap,.int .i64 a,.pointer (some ⟨rs,0,none⟩)] μ (RowS h0 r ty rest d rs s) fun v μ' h'=>
   ∃x:Nat,(x+1=a∨x=a∨x=a+1)∧v= .int .i64 x∧μ'=μ∧∃s',h'=RowS h0 r ty rest d rs s':=by
 refine SpecH.mk [] Tryz.func215 (by kernel_rfl) ?_
 refine nEq (x:=((a-1:Nat):Int)) (by rw[aA (by omega) (by omega)];omega) ?_
 refine nEq (x:=((a+1:Nat):Int)) (by rw[aA (by omega) (by omega)];omega) ?_
 refine cOw (lT (a:=a-1) (b:=a) (c:=a+1) hne hd (by omega) (by omega) (by omega)) fun v μ' h' hle hap hR=>?_
 obtain⟨x1,o1,rfl,e1,s1,rfl⟩:=hR
 obtain rfl:=e1.symm
 exact rPl ⟨x1,by omega,rfl,rfl,_,rfl⟩
set_option maxHeartbeats 4000000 in
theorem kA{n a b cap:Nat}(hr:h0 r=none)(hd:d.size=n)(ha:a<b)(hb:b≤n)(hn:n≤1000000000000):
  SpecH Tryz.prog 205 [.slice (some ⟨r,0,none⟩) n cap,.int .i64 a,.int .i64 b] μ (aX h0 r ty rest d) fun v _μ' h'=>
   ∃p k:Nat,a≤p∧p<b∧k≤2∧v= .tuple #[.int .i64 p,.int .i64 k]∧h'=aX h0 r ty rest d:=by
 refine SpecH.mk [9] Tryz.func205 (by kernel_rfl) ?_
 refine nEq (x:=((b-a:Nat):Int)) (by rw[aA (by omega) (by omega)];omega) ?_
 intro rs hm ho
 have hne:rs≠r:=fun e=>by
  subst e
  have:aX h0 rs ty rest d rs=none:=ho
  rw[aX,Mem.set_at]at this;cases this
 have hs0:h0 rs=none:=by
  have:aX h0 r ty rest d rs=none:=ho
  rwa [aX,Mem.set_ne hne]at this
 have e0:Mem.set (aX h0 r ty rest d) rs (.cells #[.int .i64 0] 3 (0,0))=RowS h0 r ty rest d rs 0:=by
  rw[RowS,aX,aX,Mem.set_comm (fun e=>hne e.symm)]
 generalize hH:Mem.set (aX h0 r ty rest d) rs _=H
 obtain rfl:H=RowS h0 r ty rest d rs 0:=hH.symm.trans e0
 clear e0 hH ho hm
 refine aD (by decide) ?_
 refine nEq (x:=(((b-a) / 4:Nat):Int)) (by rw[Int.tdiv_eq_ediv_of_nonneg (by omega),aA (by omega) (by omega)];omega) ?_
 refine nEq (x:=(((b-a) / 4*1:Nat):Int)) (by rw[aA (by omega) (by omega)];omega) ?_
 refine nEq (x:=((a+(b-a) / 4*1:Nat):Int)) (by rw[aA (by omega) (by omega)];omega) ?_
 refine aD (by decide) ?_
 refine nEq (x:=(((b-a) / 4:Nat):Int)) (by rw[Int.tdiv_eq_ediv_of_nonneg (by omega),aA (by omega) (by omega)];omega) ?_
 refine nEq (x:=(((b-a) / 4*2:Nat):Int)) (by rw[aA (by omega) (by omega)];omega) ?_
 refine nEq (x:=((a+(b-a) / 4*2:Nat):Int)) (by rw[aA (by omega) (by omega)];omega) ?_
 refine aD (by decide) ?_
 refine nEq (x:=(((b-a) / 4:Nat):Int)) (by rw[Int.tdiv_eq_ediv_of_nonneg (by omega),aA (by omega) (by omega)];omega) ?_
 refine nEq (x:=(((b-a) / 4*3:Nat):Int)) (by rw[aA (by omega) (by omega)];omega) ?_
 refine nEq (x:=((a+(b-a) / 4*3:Nat):Int)) (by rw[aA (by omega) (by omega)];omega) ?_
 refine ifd (fun h8=>?_) (fun h8=>?_)
 ·refine ifd (fun h50 => ?_) (fun h50 => ?_)
  ·refine cOw (eC (a := a + (b - a) / 4 * 1) hne hd (by omega) (by omega) hn) fun v μ' h' hle hap hR => ?_
   obtain⟨x1,o1,rfl,e1,s1,rfl⟩:=hR
   obtain rfl:=e1.symm
   refine cOw (eC (a:=a+(b-a) / 4*2) hne hd (by omega) (by omega) hn) fun v μ' h' hle hap hR=>?_
   obtain⟨x2,o2,rfl,e1,s2,rfl⟩:=hR
   obtain rfl:=e1.symm
   refine cOw (eC (a:=a+(b-a) / 4*3) hne hd (by omega) (by omega) hn) fun v μ' h' hle hap hR=>?_
   obtain⟨x3,o3,rfl,e1,s3,rfl⟩:=hR
   obtain rfl:=e1.symm
   refine cOw (lT (a:=x1) (b:=x2) (c:=x3) hne hd (by omega) (by omega) (by omega)) fun v μ' h' hle hap hR=>?_
   obtain⟨x4,o4,rfl,e1,s4,rfl⟩:=hR
   obtain rfl:=e1.symm
   refine rdS hne ?_
   refine ifd (fun h1=>?_) (fun h1=>?_)
   ·exact dZ _ _ (RowS.parts hne hs0) ⟨x4,1,by omega,by omega,by omega,rfl,rfl⟩
   refine ifd (fun h1=>?_) (fun h1=>?_)
   ·exact dZ _ _ (RowS.parts hne hs0) ⟨x4,2,by omega,by omega,by omega,rfl,rfl⟩
   exact dZ _ _ (RowS.parts hne hs0) ⟨x4,0,by omega,by omega,by omega,rfl,rfl⟩
  ·refine cOw (lT (a := a + (b - a) / 4 * 1) (b := a + (b - a) / 4 * 2) (c := a + (b - a) / 4 * 3) hne hd (by omega) (by omega) (by omega)) fun v μ' h' hle hap hR => ?_
   obtain⟨x4,o4,rfl,e1,s4,rfl⟩:=hR
   obtain rfl:=e1.symm
   refine rdS hne ?_
   refine ifd (fun h1=>?_) (fun h1=>?_)
   ·exact dZ _ _ (RowS.parts hne hs0) ⟨x4,1,by omega,by omega,by omega,rfl,rfl⟩
   refine ifd (fun h1=>?_) (fun h1=>?_)
   ·exact dZ _ _ (RowS.parts hne hs0) ⟨x4,2,by omega,by omega,by omega,rfl,rfl⟩
   exact dZ _ _ (RowS.parts hne hs0) ⟨x4,0,by omega,by omega,by omega,rfl,rfl⟩
 ·refine rdS hne ?_
  refine ifd (fun h1=>?_) (fun h1=>?_)
  ·exact dZ _ _ (RowS.parts hne hs0) ⟨a+(b-a) / 4*2,1,by omega,by omega,by omega,rfl,rfl⟩
  refine ifd (fun h1=>?_) (fun h1=>?_)
  ·exact dZ _ _ (RowS.parts hne hs0) ⟨a+(b-a) / 4*2,2,by omega,by omega,by omega,rfl,rfl⟩
  exact dZ _ _ (RowS.parts hne hs0) ⟨a+(b-a) / 4*2,0,by omega,by omega,by omega,rfl,rfl⟩
end
end Go.Vx
namespace Go.Vx
open Go.Proofs Classical
open Go.Sort
theorem cL{x k:Nat}(h:2 ^ k≤x):bitsLen x=bitsLen (x / 2 ^ k)+k:=by
 have hpos:0<2 ^ k:=Nat.two_pow_pos k
 apply Nat.le_antisymm
 ·rw [bitsLen_le_iff, Nat.pow_add]
  have:=lt_two_pow_bitsLen (x / 2 ^ k)
  rw[Nat.div_lt_iff_lt_mul hpos]at this
  exact this
 ·have h1:k<bitsLen x:=by
   rcases Nat.lt_or_ge k (bitsLen x)with h2|h2
   ·exact h2
   ·have:=(bitsLen_le_iff x k).1 h2;omega
  have h3:bitsLen (x / 2 ^ k)≤bitsLen x-k:=by
   rw[bitsLen_le_iff,Nat.div_lt_iff_lt_mul hpos,←Nat.pow_add]
   have:bitsLen x-k+k=bitsLen x:=by omega
   rw[this];exact lt_two_pow_bitsLen x
  omega
section
variable {μ:Mem}
theorem qGm{x:Nat}(hx:x<18446744073709551616):aQ Tryz.prog 188 [.int .u64 x] μ (.int .i64 (bitsLen x)):=by
 obtain⟨L,hL⟩:∃L,L=bitsLen x:=⟨_,rfl⟩
 rw[←hL]
 refine Spec.mk Tryz.func188 (by kernel_rfl) ?_
 refine ifd (fun h1=>?_) (fun h1=>?_)
 ·refine aD (by decide) ?_
  refine nEq (x:=((x / 4294967296:Nat):Int)) (by
   show(x:Int).fdiv 4294967296=_
   rw[Int.fdiv_eq_ediv_of_nonneg _ (by decide)];rfl) ?_
  have b1:bitsLen x=bitsLen (x / 4294967296)+32:=cL (k:=32) (by omega)
  have b2:x / 4294967296<4294967296:=by omega
  generalize x / 4294967296=y at*
  refine ifd (fun h2=>?_) (fun h2=>?_)
  ·refine aD (by decide) ?_
   refine nEq (x:=((y / 65536:Nat):Int)) (by
    show(y:Int).fdiv 65536=_
    rw[Int.fdiv_eq_ediv_of_nonneg _ (by decide)];rfl) ?_
   have b3:bitsLen y=bitsLen (y / 65536)+16:=cL (k:=16) (by omega)
   have b4:y / 65536<65536:=by omega
   generalize y / 65536=z at*
   refine nEq (x:=32+16) (by decide) ?_
   refine ifd (fun h3=>?_) (fun h3=>?_)
   ·refine aD (by decide) ?_
    refine nEq (x:=((z / 256:Nat):Int)) (by
     show(z:Int).fdiv 256=_
     rw[Int.fdiv_eq_ediv_of_nonneg _ (by decide)];rfl) ?_
    have b5:bitsLen z=bitsLen (z / 256)+8:=cL (k:=8) (by omega)
    have b6:z / 256<256:=by omega
    generalize z / 256=w at*
    refine nEq (x:=32+16+8) (by decide) ?_
    have b7:bitsLen w≤8:=(bitsLen_le_iff w 8).2 b6
    refine nEq (x:=(w:Int)) (by
     show(w:Int) % 256=_
     omega) ?_
    refine aK w (UInt8.ofNat (bitsLen w)) rfl ?_ ?_
    ·clear b5 b7
     try clear hw
     revert w
     decide+kernel
    refine nEq (x:=(bitsLen w:Int)) (by
     rw[UInt8.toNat_ofNat',Nat.mod_eq_of_lt (by omega),aA (by omega) (by omega)]) ?_
    refine nEq (x:=(L:Int)) (by rw[aA (by omega) (by omega)];omega) ?_
    exact rGv rfl rfl
   ·obtain ⟨w, hw⟩ : ∃ w, w = z := ⟨_, rfl⟩
    have b5:bitsLen z=bitsLen w+0:=by rw[hw];rfl
    have b6:w<256:=by omega
    rw[←hw]
    have b7:bitsLen w≤8:=(bitsLen_le_iff w 8).2 b6
    refine nEq (x:=(w:Int)) (by
     show(w:Int) % 256=_
     omega) ?_
    refine aK w (UInt8.ofNat (bitsLen w)) rfl ?_ ?_
    ·clear b5 b7
     try clear hw
     revert w
     decide+kernel
    refine nEq (x:=(bitsLen w:Int)) (by
     rw[UInt8.toNat_ofNat',Nat.mod_eq_of_lt (by omega),aA (by omega) (by omega)]) ?_
    refine nEq (x:=(L:Int)) (by rw[aA (by omega) (by omega)];omega) ?_
    exact rGv rfl rfl
  ·obtain ⟨z, hz⟩ : ∃ z, z = y := ⟨_, rfl⟩
   have b3:bitsLen y=bitsLen z+0:=by rw[hz];rfl
   have b4:z<65536:=by omega
   rw[←hz]
   refine ifd (fun h3=>?_) (fun h3=>?_)
   ·refine aD (by decide) ?_
    refine nEq (x:=((z / 256:Nat):Int)) (by
     show(z:Int).fdiv 256=_
     rw[Int.fdiv_eq_ediv_of_nonneg _ (by decide)];rfl) ?_
    have b5:bitsLen z=bitsLen (z / 256)+8:=cL (k:=8) (by omega)
    have b6:z / 256<256:=by omega
    generalize z / 256=w at*
    refine nEq (x:=32+8) (by decide) ?_
    have b7:bitsLen w≤8:=(bitsLen_le_iff w 8).2 b6
    refine nEq (x:=(w:Int)) (by
     show(w:Int) % 256=_
     omega) ?_
    refine aK w (UInt8.ofNat (bitsLen w)) rfl ?_ ?_
    ·clear b5 b7
     try clear hw
     revert w
     decide+kernel
    refine nEq (x:=(bitsLen w:Int)) (by
     rw[UInt8.toNat_ofNat',Nat.mod_eq_of_lt (by omega),aA (by omega) (by omega)]) ?_
    refine nEq (x:=(L:Int)) (by rw[aA (by omega) (by omega)];omega) ?_
    exact rGv rfl rfl
   ·obtain ⟨w, hw⟩ : ∃ w, w = z := ⟨_, rfl⟩
    have b5:bitsLen z=bitsLen w+0:=by rw[hw];rfl
    have b6:w<256:=by omega
    rw[←hw]
    have b7:bitsLen w≤8:=(bitsLen_le_iff w 8).2 b6
    refine nEq (x:=(w:Int)) (by
     show(w:Int) % 256=_
     omega) ?_
    refine aK w (UInt8.ofNat (bitsLen w)) rfl ?_ ?_
    ·clear b5 b7
     try clear hw
     revert w
     decide+kernel
    refine nEq (x:=(bitsLen w:Int)) (by
     rw[UInt8.toNat_ofNat',Nat.mod_eq_of_lt (by omega),aA (by omega) (by omega)]) ?_
    refine nEq (x:=(L:Int)) (by rw[aA (by omega) (by omega)];omega) ?_
    exact rGv rfl rfl
 ·obtain ⟨y, hy⟩ : ∃ y, y = x := ⟨_, rfl⟩
  have b1:bitsLen x=bitsLen y+0:=by rw[hy];rfl
  have b2:y<4294967296:=by omega
  rw[←hy]
  refine ifd (fun h2=>?_) (fun h2=>?_)
  ·refine aD (by decide) ?_
   refine nEq (x:=((y / 65536:Nat):Int)) (by
    show(y:Int).fdiv 65536=_
    rw[Int.fdiv_eq_ediv_of_nonneg _ (by decide)];rfl) ?_
   have b3:bitsLen y=bitsLen (y / 65536)+16:=cL (k:=16) (by omega)
   have b4:y / 65536<65536:=by omega
   generalize y / 65536=z at*
   refine nEq (x:=0+16) (by decide) ?_
   refine ifd (fun h3=>?_) (fun h3=>?_)
   ·refine aD (by decide) ?_
    refine nEq (x:=((z / 256:Nat):Int)) (by
     show(z:Int).fdiv 256=_
     rw[Int.fdiv_eq_ediv_of_nonneg _ (by decide)];rfl) ?_
    have b5:bitsLen z=bitsLen (z / 256)+8:=cL (k:=8) (by omega)
    have b6:z / 256<256:=by omega
    generalize z / 256=w at*
    refine nEq (x:=0+16+8) (by decide) ?_
    have b7:bitsLen w≤8:=(bitsLen_le_iff w 8).2 b6
    refine nEq (x:=(w:Int)) (by
     show(w:Int) % 256=_
     omega) ?_
    refine aK w (UInt8.ofNat (bitsLen w)) rfl ?_ ?_
    ·clear b5 b7
     try clear hw
     revert w
     decide+kernel
    refine nEq (x:=(bitsLen w:Int)) (by
     rw[UInt8.toNat_ofNat',Nat.mod_eq_of_lt (by omega),aA (by omega) (by omega)]) ?_
    refine nEq (x:=(L:Int)) (by rw[aA (by omega) (by omega)];omega) ?_
    exact rGv rfl rfl
   ·obtain ⟨w, hw⟩ : ∃ w, w = z := ⟨_, rfl⟩
    have b5:bitsLen z=bitsLen w+0:=by rw[hw];rfl
    have b6:w<256:=by omega
    rw[←hw]
    have b7:bitsLen w≤8:=(bitsLen_le_iff w 8).2 b6
    refine nEq (x:=(w:Int)) (by
     show(w:Int) % 256=_
     omega) ?_
    refine aK w (UInt8.ofNat (bitsLen w)) rfl ?_ ?_
    ·clear b5 b7
     try clear hw
     revert w
     decide+kernel
    refine nEq (x:=(bitsLen w:Int)) (by
     rw[UInt8.toNat_ofNat',Nat.mod_eq_of_lt (by omega),aA (by omega) (by omega)]) ?_
    refine nEq (x:=(L:Int)) (by rw[aA (by omega) (by omega)];omega) ?_
    exact rGv rfl rfl
  ·obtain ⟨z, hz⟩ : ∃ z, z = y := ⟨_, rfl⟩
   have b3:bitsLen y=bitsLen z+0:=by rw[hz];rfl
   have b4:z<65536:=by omega
   rw[←hz]
   refine ifd (fun h3=>?_) (fun h3=>?_)
   ·refine aD (by decide) ?_
    refine nEq (x:=((z / 256:Nat):Int)) (by
     show(z:Int).fdiv 256=_
     rw[Int.fdiv_eq_ediv_of_nonneg _ (by decide)];rfl) ?_
    have b5:bitsLen z=bitsLen (z / 256)+8:=cL (k:=8) (by omega)
    have b6:z / 256<256:=by omega
    generalize z / 256=w at*
    refine nEq (x:=0+8) (by decide) ?_
    have b7:bitsLen w≤8:=(bitsLen_le_iff w 8).2 b6
    refine nEq (x:=(w:Int)) (by
     show(w:Int) % 256=_
     omega) ?_
    refine aK w (UInt8.ofNat (bitsLen w)) rfl ?_ ?_
    ·clear b5 b7
     try clear hw
     revert w
     decide+kernel
    refine nEq (x:=(bitsLen w:Int)) (by
     rw[UInt8.toNat_ofNat',Nat.mod_eq_of_lt (by omega),aA (by omega) (by omega)]) ?_
    refine nEq (x:=(L:Int)) (by rw[aA (by omega) (by omega)];omega) ?_
    exact rGv rfl rfl
   ·obtain ⟨w, hw⟩ : ∃ w, w = z := ⟨_, rfl⟩
    have b5:bitsLen z=bitsLen w+0:=by rw[hw];rfl
    have b6:w<256:=by omega
    rw[←hw]
    have b7:bitsLen w≤8:=(bitsLen_le_iff w 8).2 b6
    refine nEq (x:=(w:Int)) (by
     show(w:Int) % 256=_
     omega) ?_
    refine aK w (UInt8.ofNat (bitsLen w)) rfl ?_ ?_
    ·clear b5 b7
     try clear hw
     revert w
     decide+kernel
    refine nEq (x:=(bitsLen w:Int)) (by
     rw[UInt8.toNat_ofNat',Nat.mod_eq_of_lt (by omega),aA (by omega) (by omega)]) ?_
    refine nEq (x:=(L:Int)) (by rw[aA (by omega) (by omega)];omega) ?_
    exact rGv rfl rfl
theorem qEv{x:Nat}(hx:x<18446744073709551616):aQ Tryz.prog 197 [.int .u64 x] μ (.int .i64 (bitsLen x)):=by
 refine Spec.mk Tryz.func197 (by kernel_rfl) ?_
 refine cGv (qGm hx) ?_
 exact rGv rfl rfl
theorem and_le{x m:Int}(h0:0≤m)(h1:m<18446744073709551616):0≤bits .and .u64 x m∧bits .and .u64 x m≤m:=by
 have e:bits .and .u64 x m=(((BitVec.ofInt 64 x &&& BitVec.ofInt 64 m).toNat:Nat):Int) % 18446744073709551616:=rfl
 have h2:(BitVec.ofInt 64 m).toNat=m.toNat:=by
  rw[BitVec.toNat_ofInt]
  congr 1
  exact Int.emod_eq_of_lt h0 h1
 have h3:(BitVec.ofInt 64 x &&& BitVec.ofInt 64 m).toNat≤m.toNat:=by
  rw[BitVec.toNat_and,h2]
  exact Nat.and_le_right
 rw[e]
 omega
end
end Go.Vx
namespace Go.Vx
open Go.Proofs Classical
open Go.Sort
section
variable {μ h0:Mem} {r rs:Nat} {ty:TypeId} {rest:List Value} {d:Array Int} {s:Int}
theorem nJ{x:Nat}(hx:x≤1000000000000):aQ Tryz.prog 213 [.int .i64 x] μ (.int .u64 ((2 ^ bitsLen x:Nat):Int)):=by
 refine Spec.mk Tryz.func213 (by kernel_rfl) ?_
 have h1:bitsLen x≤40:=(bitsLen_le_iff x 40).2 (by omega)
 have h2:2 ^ bitsLen x≤2 ^ 40:=Nat.pow_le_pow_right (by decide) h1
 have h3:(2:Nat) ^ 40=1099511627776:=by decide
 refine nEq (x:=(x:Int)) (by
  show(x:Int) % 18446744073709551616=_
  omega) ?_
 refine cGv (qEv (by omega)) ?_
 refine aD (by omega) ?_
 refine nEq (x:=((2 ^ bitsLen x:Nat):Int)) (by
  have e:min ((bitsLen x:Int).toNat) IntKind.u64.bits=bitsLen x:=by
   show min ((bitsLen x:Int).toNat) 64=bitsLen x
   omega
  rw[e]
  have h4:((2:Int) ^ bitsLen x)=((2 ^ bitsLen x:Nat):Int):=by rw[Int.natCast_pow];rfl
  show(1*(2:Int) ^ bitsLen x) % 18446744073709551616=_
  rw[Int.one_mul,h4]
  generalize 2 ^ bitsLen x=P at*
  omega) ?_
 exact rGv rfl rfl
theorem rdX{K:List Value→Prop}(hne:rs≠r)(h:K [.int .u64 s]):extVC μ (RowX h0 r ty rest d rs s) ⟨rs,0,none⟩ 1 K:=oIn _ rfl (gI (RowX.at hne)) h
theorem wrX{v:Int}{K:Mem→Prop}(hne:rs≠r)(h:K (RowX h0 r ty rest d rs v)):stoVC (RowX h0 r ty rest d rs s) ⟨rs,0,none⟩ [.int .u64 v] K:=by
 refine sIn [.int .u64 s] 245 (RowX.at hne) rfl (Nat.le_refl _) ?_
 have e:Mem.set (RowX h0 r ty rest d rs s) rs (.cells #[.int .u64 v] 245 (0,0))=RowX h0 r ty rest d rs v:=by
  rw[RowX,aX,Mem.set_comm (fun e=>hne e.symm),Mem.set_set]
  rfl
 show K (Mem.set (RowX h0 r ty rest d rs s) rs (.cells #[.int .u64 v] 245 (0,0)))
 rw[e];exact h
theorem qKa(hne:rs≠r):SpecH Tryz.prog 214 [.pointer (some ⟨rs,0,none⟩)] μ (RowX h0 r ty rest d rs s) fun v μ' h'=>∃s',v= .int .u64 s'∧μ'=μ∧h'=RowX h0 r ty rest d rs s':=by
 refine SpecH.mk [] Tryz.func214 (by kernel_rfl) ?_
 refine rdX hne ?_
 refine rdX hne ?_
 refine aD (by decide) ?_
 refine aS fun _ _=>?_
 refine aS fun _ _=>?_
 refine wrX hne ?_
 refine rdX hne ?_
 refine rdX hne ?_
 refine aD (by decide) ?_
 refine aS fun _ _=>?_
 refine aS fun _ _=>?_
 refine wrX hne ?_
 refine rdX hne ?_
 refine rdX hne ?_
 refine aD (by decide) ?_
 refine aS fun _ _=>?_
 refine aS fun _ _=>?_
 refine wrX hne ?_
 refine rdX hne ?_
 exact rPl ⟨_,rfl,rfl,rfl⟩
theorem oD{n a b cap:Nat}(hr:h0 r=none)(hd:d.size=n)(ha:a+8≤b)(hb:b≤n)(hn:n≤1000000000000):
  SpecH Tryz.prog 204 [.slice (some ⟨r,0,none⟩) n cap,.int .i64 a,.int .i64 b] μ (aX h0 r ty rest d) fun v _μ' h'=>v= .tuple #[]∧∃d',PermIn a b d d'∧h'=aX h0 r ty rest d':=by
 refine SpecH.mk [7] Tryz.func204 (by kernel_rfl) ?_
 refine nEq (x:=((b-a:Nat):Int)) (by rw[aA (by omega) (by omega)];omega) ?_
 refine ifd (fun h8=>?_) (fun h8=>by omega)
 refine aS fun s0 _=>?_
 intro rs hm ho
 have hne:rs≠r:=fun e=>by
  subst e
  have:aX h0 rs ty rest d rs=none:=ho
  rw[aX,Mem.set_at]at this;cases this
 have hs0:h0 rs=none:=by
  have:aX h0 r ty rest d rs=none:=ho
  rwa [aX,Mem.set_ne hne]at this
 have e0:Mem.set (aX h0 r ty rest d) rs (.cells #[.int .u64 0] 245 (0,0))=RowX h0 r ty rest d rs 0:=by
  rw[RowX,aX,aX,Mem.set_comm (fun e=>hne e.symm)]
 generalize hH:Mem.set (aX h0 r ty rest d) rs _=H
 obtain rfl:H=RowX h0 r ty rest d rs 0:=hH.symm.trans e0
 clear e0 hH ho hm
 refine wrX hne ?_
 refine cGv (nJ (x:=b-a) (by omega)) ?_
 have hP1:1≤2 ^ bitsLen (b-a):=Nat.two_pow_pos _
 have hP2:2 ^ bitsLen (b-a)≤2*(b-a):=two_pow_bitsLen_le (by omega)
 generalize 2 ^ bitsLen (b-a)=P at*
 refine aD (by decide) ?_
 refine nEq (x:=(((b-a) / 4:Nat):Int)) (by rw[Int.tdiv_eq_ediv_of_nonneg (by omega),aA (by omega) (by omega)];omega) ?_
 refine nEq (x:=(((b-a) / 4*2:Nat):Int)) (by rw[aA (by omega) (by omega)];omega) ?_
 refine nEq (x:=((a+(b-a) / 4*2:Nat):Int)) (by rw[aA (by omega) (by omega)];omega) ?_
 refine nEq (x:=((a+(b-a) / 4*2-1:Nat):Int)) (by rw[aA (by omega) (by omega)];omega) ?_
 refine lIn (fun p:Nat×Array Int×Int=>a+(b-a) / 4*2≤p.1+1∧p.1≤a+(b-a) / 4*2+2∧PermIn a b d p.2.1)
  (fun(i,d,s)=>⟨[(0,.val (.slice (some ⟨r,0,none⟩) n cap)),(1,.val (.int .i64 a)),(6,.val (.int .i64 (b-a:Nat))),(7,.val (.pointer (some ⟨rs,0,none⟩))),(8,.val (.int .u64 P)),(9,.val (.int .i64 i))],[],0,μ,RowX h0 r ty rest d rs s⟩) (fun p=>a+(b-a) / 4*2+3-p.1)
  (a+(b-a) / 4*2-1,d,s0) ⟨by dsimp only;omega,by dsimp only;omega,permIn_refl _ _ _⟩ (fun(_,_,_)=>⟨rfl,rfl⟩) ⟨⟨rfl,rfl,rfl,rfl,rfl,rfl,trivial⟩,trivial,rfl,rfl⟩ ?_
 rintro⟨i,d1,s1⟩ ⟨hi1,hi2,hp⟩
 dsimp only at hi1 hi2 hp
 have hs1:d1.size=n:=hp.1.trans hd
 refine aD (by decide) ?_
 refine nEq (x:=(((b-a) / 4:Nat):Int)) (by rw[Int.tdiv_eq_ediv_of_nonneg (by omega),aA (by omega) (by omega)];omega) ?_
 refine nEq (x:=(((b-a) / 4*2:Nat):Int)) (by rw[aA (by omega) (by omega)];omega) ?_
 refine nEq (x:=((a+(b-a) / 4*2:Nat):Int)) (by rw[aA (by omega) (by omega)];omega) ?_
 refine nEq (x:=((a+(b-a) / 4*2+1:Nat):Int)) (by rw[aA (by omega) (by omega)];omega) ?_
 refine ifd (fun hle=>?_) (fun hle=>?_)
 rotate_left
 ·exact dZ _ _ (RowX.parts hne hs0) ⟨rfl,d1,hp,rfl⟩
 refine cOw (qKa hne) fun v μ' h' hle' hap hR=>?_
 obtain⟨s2,rfl,e1,rfl⟩:=hR
 obtain rfl:=e1.symm
 refine nEq (x:=((P-1:Nat):Int)) (by
  show((P:Int)-1) % 18446744073709551616=_
  omega) ?_
 refine aS fun y hy=>?_
 have w_:=and_le (x:=s2) (m:=((P-1:Nat):Int)) (by omega) (by omega)
 obtain⟨hy1,hy2⟩:=w_
 rw[←hy]at hy1 hy2
 have w_:=Int.eq_ofNat_of_zero_le hy1
 obtain⟨o,rfl⟩:=w_
 clear hy
 refine nEq (x:=(o:Int)) (aA (by omega) (by omega)) ?_
 refine ifd (fun ho=>?_) (fun ho=>?_)
 ·refine nEq (x := ((o - (b - a) : Nat) : Int)) (by rw [aA (by omega) (by omega)]; omega) ?_
  have ho2:o-(b-a)<b-a:=by omega
  generalize o-(b-a)=q at*
  refine nEq (x:=((a+q:Nat):Int)) (by rw[aA (by omega) (by omega)];omega) ?_
  refine nEq (x:=((a+q:Nat):Int)) (by rw[aA (by omega) (by omega)];omega) ?_
  refine aP (a+q) (by omega) (by omega) ?_
  refine rdI (by omega) ?_
  refine aP (i) (by omega) (by omega) ?_
  refine rdI (by omega) ?_
  refine aP (i) (by omega) (by omega) ?_
  refine wrI (by omega) ?_
  refine aP (a+q) (by omega) (by omega) ?_
  refine wrI (by simp;omega) ?_
  refine nEq (x:=((i+1:Nat):Int)) (by rw[aA (by omega) (by omega)];omega) ?_
  exact⟨(i+1,swp d1 i (a+q),s2),⟨by dsimp only;omega,by dsimp only;omega,permIn_trans _ _ _ _ _ hp (swp_permIn d1 a b i (a+q) (by omega) (by omega) (by omega) (by omega) (by omega))⟩,by dsimp only;omega,⟨⟨rfl,rfl,rfl,rfl,rfl,rfl,trivial⟩,trivial,rfl,rfl⟩⟩
 ·refine nEq (x := ((a + o : Nat) : Int)) (by rw [aA (by omega) (by omega)]; omega) ?_
  refine nEq (x:=((a+o:Nat):Int)) (by rw[aA (by omega) (by omega)];omega) ?_
  refine aP (a+o) (by omega) (by omega) ?_
  refine rdI (by omega) ?_
  refine aP (i) (by omega) (by omega) ?_
  refine rdI (by omega) ?_
  refine aP (i) (by omega) (by omega) ?_
  refine wrI (by omega) ?_
  refine aP (a+o) (by omega) (by omega) ?_
  refine wrI (by simp;omega) ?_
  refine nEq (x:=((i+1:Nat):Int)) (by rw[aA (by omega) (by omega)];omega) ?_
  exact⟨(i+1,swp d1 i (a+o),s2),⟨by dsimp only;omega,by dsimp only;omega,permIn_trans _ _ _ _ _ hp (swp_permIn d1 a b i (a+o) (by omega) (by omega) (by omega) (by omega) (by omega))⟩,by dsimp only;omega,⟨⟨rfl,rfl,rfl,rfl,rfl,rfl,trivial⟩,trivial,rfl,rfl⟩⟩
end
end Go.Vx
namespace Go.Vx
open Go.Proofs Classical
open Go.Sort
section
variable {μ h0:Mem} {r:Nat} {ty:TypeId} {rest:List Value} {d:Array Int}
theorem bG{n a b pivot:Nat}{cap:Nat}(hd:d.size=n)(hap:a≤pivot)(hpb:pivot<b)(hb:b≤n)(hn:n≤1000000000000):
  SpecH Tryz.prog 209 [.slice (some ⟨r,0,none⟩) n cap,.int .i64 a,.int .i64 b,.int .i64 pivot] μ (aX h0 r ty rest d) fun v μ' h'=>v= .int .i64 (partitionEqual ltInt d a b pivot).1∧μ'=μ∧h'=aX h0 r ty rest (partitionEqual ltInt d a b pivot).2:=by
 refine SpecH.mk [] Tryz.func209 (by kernel_rfl) ?_
 rw[partitionEqual]
 generalize hR:partEqLoop ltInt a (a+1) (b-1) (swp d a pivot)=R
 refine aP (pivot) (by omega) (by omega) ?_
 refine rdI (by omega) ?_
 refine aP (a) (by omega) (by omega) ?_
 refine rdI (by omega) ?_
 refine aP (a) (by omega) (by omega) ?_
 refine wrI (by omega) ?_
 refine aP (pivot) (by omega) (by omega) ?_
 refine wrI (by simp;omega) ?_
 refine nEq (x:=((a+1:Nat):Int)) (by rw[aA (by omega) (by omega)];omega) ?_
 refine nEq (x:=((b-1:Nat):Int)) (by rw[aA (by omega) (by omega)];omega) ?_
 refine lIn (fun p:Nat×Nat×Array Int=>a<p.1∧p.1≤p.2.1+2∧p.2.1<b∧p.2.2.size=n∧partEqLoop ltInt a p.1 p.2.1 p.2.2=R)
  (fun(i,j,d)=>⟨[(0,.val (.slice (some ⟨r,0,none⟩) n cap)),(1,.val (.int .i64 a)),(9,.val (.int .i64 i)),(10,.val (.int .i64 j))],[],0,μ,aX h0 r ty rest d⟩) (fun p=>p.2.1+1-p.1)
  (a+1,b-1,swp d a pivot) ⟨by dsimp only;omega,by dsimp only;omega,by dsimp only;omega,by dsimp only;rw[Go.Sort.swp_size];exact hd,hR⟩ (fun(_,_,_)=>⟨rfl,rfl⟩) ⟨⟨rfl,rfl,rfl,rfl,trivial⟩,trivial,rfl,rfl⟩ ?_
 clear hR
 rintro⟨i,j,d1⟩ ⟨hai,hij0,hjb,hs,hR⟩
 dsimp only at hai hij0 hjb hs hR
 rw[partEqLoop_eq]at hR
 generalize hU:scanUp (fun x=> !ltInt d1[a]! x) d1 j i=U at*
 refine lIn (fun i':Nat=>i≤i'∧i'≤j+2∧scanUp (fun x=> !ltInt d1[a]! x) d1 j i'=U) (fun i'=>⟨[(0,.val (.slice (some ⟨r,0,none⟩) n cap)),(1,.val (.int .i64 a)),(9,.val (.int .i64 i')),(10,.val (.int .i64 j))],[],0,μ,aX h0 r ty rest d1⟩) (fun i'=>j+1-i')
  i ⟨by omega,by omega,hU⟩ (fun _=>⟨rfl,rfl⟩) ⟨⟨rfl,rfl,rfl,rfl,trivial⟩,trivial,rfl,rfl⟩ ?_
 clear hU
 rintro i' ⟨h1,h2,hU⟩
 rw[scanUp]at hU
 refine ifd (fun hij=>?_) (fun hij=>?_)
 refine aP (a) (by omega) (by omega) ?_
 refine rdI (by omega) ?_
 refine aP (i') (by omega) (by omega) ?_
 refine rdI (by omega) ?_
 refine cGv (aV _ _) ?_
 refine iIn (fun hl=>?_) (fun hl=>?_)
 ·rw [if_pos (by simp only [Bool.and_eq_true, decide_eq_true_eq]; exact ⟨by omega, hl⟩)] at hU
  refine nEq (x:=((i'+1:Nat):Int)) (by rw[aA (by omega) (by omega)];omega) ?_
  exact⟨i'+1,⟨by omega,by omega,hU⟩,by omega,⟨⟨rfl,rfl,rfl,rfl,trivial⟩,trivial,rfl,rfl⟩⟩
 rw[if_neg (by simp only[Bool.and_eq_true,hl];simp)]at hU
 rotate_left
 rw[if_neg (by simp;omega)]at hU
 obtain rfl:=hU
 rotate_left
 obtain rfl:=hU
 rotate_left
 all_goals
  generalize hV:scanDown (fun x=>ltInt d1[a]! x) d1 i' j=V at*
  refine lIn (fun j':Nat=>j'≤j∧0≤j'∧scanDown (fun x=>ltInt d1[a]! x) d1 i' j'=V) (fun j'=>⟨[(0,.val (.slice (some ⟨r,0,none⟩) n cap)),(1,.val (.int .i64 a)),(9,.val (.int .i64 i')),(10,.val (.int .i64 j'))],[],0,μ,aX h0 r ty rest d1⟩) (fun j'=>j')
   j ⟨by omega,by omega,hV⟩ (fun _=>⟨rfl,rfl⟩) ⟨⟨rfl,rfl,rfl,rfl,trivial⟩,trivial,rfl,rfl⟩ ?_
  clear hV
  rintro j' ⟨g1,g2,hV⟩
  refine ifd (fun hij2=>?_) (fun hij2=>?_)
  obtain⟨k,rfl⟩:∃k,j'=k+1:=⟨j'-1,by omega⟩
  rw[scanDown]at hV
  refine aP (a) (by omega) (by omega) ?_
  refine rdI (by omega) ?_
  refine aP (k+1) (by omega) (by omega) ?_
  refine rdI (by omega) ?_
  refine cGv (aV _ _) ?_
  refine iIn (fun hl=>?_) (fun hl=>?_)
  ·rw [if_pos (by simp only [Bool.and_eq_true, decide_eq_true_eq]; exact ⟨by omega, hl⟩)] at hV
   refine nEq (x:=((k:Nat):Int)) (by rw[aA (by omega) (by omega)];omega) ?_
   exact⟨k,⟨by omega,by omega,hV⟩,by omega,⟨⟨rfl,rfl,rfl,rfl,trivial⟩,trivial,rfl,rfl⟩⟩
  rw[if_neg (by simp only[Bool.and_eq_true,hl];simp)]at hV
  obtain rfl:=hV
  generalize k+1=j' at*
  rotate_left
  replace hV:j'=V:=by
   cases j' with
   |zero=>exact hV
   |succ k=>rwa [scanDown,if_neg (by simp;omega)]at hV
  obtain rfl:=hV
  rotate_left
 all_goals
  refine ifd (fun hgt=>?_) (fun hgt=>?_)
  ·rw [if_pos (by omega)] at hR
   subst hR
   exact rPl ⟨rfl,rfl,rfl⟩
  ·rw [if_neg (by omega)] at hR
   refine aP (j') (by omega) (by omega) ?_
   refine rdI (by omega) ?_
   refine aP (i') (by omega) (by omega) ?_
   refine rdI (by omega) ?_
   refine aP (i') (by omega) (by omega) ?_
   refine wrI (by omega) ?_
   refine aP (j') (by omega) (by omega) ?_
   refine wrI (by simp;omega) ?_
   refine nEq (x:=((i'+1:Nat):Int)) (by rw[aA (by omega) (by omega)];omega) ?_
   refine nEq (x:=((j'-1:Nat):Int)) (by rw[aA (by omega) (by omega)];omega) ?_
   exact⟨(i'+1,j'-1,swp d1 i' j'),⟨by dsimp only;omega,by dsimp only;omega,by dsimp only;omega,by dsimp only;rw[Go.Sort.swp_size];exact hs,hR⟩,by dsimp only;omega,⟨⟨rfl,rfl,rfl,rfl,trivial⟩,trivial,rfl,rfl⟩⟩
set_option maxHeartbeats 4000000 in
theorem aT{n a b pivot:Nat}{cap:Nat}(hd:d.size=n)(hap:a≤pivot)(hpb:pivot<b)(hb:b≤n)(hn:n≤1000000000000):
  SpecH Tryz.prog 210 [.slice (some ⟨r,0,none⟩) n cap,.int .i64 a,.int .i64 b,.int .i64 pivot] μ (aX h0 r ty rest d) fun v μ' h'=>(∃ap,v= .tuple #[.int .i64 (partition ltInt d a b pivot).1,.bool ap])∧μ'=μ∧h'=aX h0 r ty rest (partition ltInt d a b pivot).2.2:=by
 refine SpecH.mk [] Tryz.func210 (by kernel_rfl) ?_
 rw[partition_fst,partition_arr]
 have hsz:∀m i j (d:Array Int),j+1-i≤m→(partLoop ltInt a i j d).2.size=d.size:=fun m=>by
  induction m with
  |zero=>
   intro i j d h
   rw[partLoop_eq]
   have h1:=scanUp_ge (fun x=>ltInt x d[a]!) d j i
   have h2:=scanDown_le (fun x=> !ltInt x d[a]!) d (scanUp (fun x=>ltInt x d[a]!) d j i) j
   rw[if_pos (by omega)]
  |succ m ih=>
   intro i j d h
   rw[partLoop_eq]
   split
   ·rfl
   ·rename_i hg
    have:=partLoop_guard ltInt a i j d hg
    rw[ih _ _ _ (by omega),Go.Sort.swp_size]
 have hRs:=hsz _ (a+1) (b-1) (swp d a pivot) (Nat.le_refl _)
 rw[Go.Sort.swp_size]at hRs
 generalize hR:partLoop ltInt a (a+1) (b-1) (swp d a pivot)=R at*
 refine aP (pivot) (by omega) (by omega) ?_
 refine rdI (by omega) ?_
 refine aP (a) (by omega) (by omega) ?_
 refine rdI (by omega) ?_
 refine aP (a) (by omega) (by omega) ?_
 refine wrI (by omega) ?_
 refine aP (pivot) (by omega) (by omega) ?_
 refine wrI (by simp;omega) ?_
 refine nEq (x:=((a+1:Nat):Int)) (by rw[aA (by omega) (by omega)];omega) ?_
 refine nEq (x:=((b-1:Nat):Int)) (by rw[aA (by omega) (by omega)];omega) ?_
 have hs:(swp d a pivot).size=n:=by rw[Go.Sort.swp_size];exact hd
 have hsw:swp d a pivot=(d.setIfInBounds a d[pivot]!).setIfInBounds pivot d[a]!:=rfl
 rw[hsw]at hR hs
 generalize (d.setIfInBounds a d[pivot]!).setIfInBounds pivot d[a]! =d1 at*
 clear hsw hsz
 obtain⟨i,hi⟩:∃i,i=a+1:=⟨_,rfl⟩
 obtain⟨j,hj⟩:∃j,j=b-1:=⟨_,rfl⟩
 have hai:a<i:=by omega
 have hij0:i≤j+2:=by omega
 have hjb:j<b:=by omega
 rw[←hi,←hj]at hR ⊢
 clear hi hj
 rw[partLoop_eq]at hR
 generalize hU:scanUp (fun x=>ltInt x d1[a]!) d1 j i=U at*
 refine lIn (fun i':Nat=>i≤i'∧i'≤j+2∧scanUp (fun x=>ltInt x d1[a]!) d1 j i'=U) (fun i'=>⟨[(0,.val (.slice (some ⟨r,0,none⟩) n cap)),(1,.val (.int .i64 a)),(10,.val (.int .i64 i')),(11,.val (.int .i64 j))],[],0,μ,aX h0 r ty rest d1⟩) (fun i'=>j+1-i')
  i ⟨by omega,by omega,hU⟩ (fun _=>⟨rfl,rfl⟩) ⟨⟨rfl,rfl,rfl,rfl,trivial⟩,trivial,rfl,rfl⟩ ?_
 clear hU
 rintro i' ⟨h1,h2,hU⟩
 rw[scanUp]at hU
 refine ifd (fun hij=>?_) (fun hij=>?_)
 refine aP (i') (by omega) (by omega) ?_
 refine rdI (by omega) ?_
 refine aP (a) (by omega) (by omega) ?_
 refine rdI (by omega) ?_
 refine cGv (aV _ _) ?_
 refine iIn (fun hl=>?_) (fun hl=>?_)
 ·rw [if_pos (by simp only [Bool.and_eq_true, decide_eq_true_eq]; exact ⟨by omega, hl⟩)] at hU
  refine nEq (x:=((i'+1:Nat):Int)) (by rw[aA (by omega) (by omega)];omega) ?_
  exact⟨i'+1,⟨by omega,by omega,hU⟩,by omega,⟨⟨rfl,rfl,rfl,rfl,trivial⟩,trivial,rfl,rfl⟩⟩
 rw[if_neg (by simp only[Bool.and_eq_true,hl];simp)]at hU
 rotate_left
 rw[if_neg (by simp;omega)]at hU
 obtain rfl:=hU
 rotate_left
 obtain rfl:=hU
 rotate_left
 all_goals
  generalize hV:scanDown (fun x=> !ltInt x d1[a]!) d1 i' j=V at*
  refine lIn (fun j':Nat=>j'≤j∧0≤j'∧scanDown (fun x=> !ltInt x d1[a]!) d1 i' j'=V) (fun j'=>⟨[(0,.val (.slice (some ⟨r,0,none⟩) n cap)),(1,.val (.int .i64 a)),(10,.val (.int .i64 i')),(11,.val (.int .i64 j'))],[],0,μ,aX h0 r ty rest d1⟩) (fun j'=>j')
   j ⟨by omega,by omega,hV⟩ (fun _=>⟨rfl,rfl⟩) ⟨⟨rfl,rfl,rfl,rfl,trivial⟩,trivial,rfl,rfl⟩ ?_
  clear hV
  rintro j' ⟨g1,g2,hV⟩
  refine ifd (fun hij2=>?_) (fun hij2=>?_)
  obtain⟨k,rfl⟩:∃k,j'=k+1:=⟨j'-1,by omega⟩
  rw[scanDown]at hV
  refine aP (k+1) (by omega) (by omega) ?_
  refine rdI (by omega) ?_
  refine aP (a) (by omega) (by omega) ?_
  refine rdI (by omega) ?_
  refine cGv (aV _ _) ?_
  refine iIn (fun hl=>?_) (fun hl=>?_)
  ·rw [if_pos (by simp only [Bool.and_eq_true, decide_eq_true_eq]; exact ⟨by omega, hl⟩)] at hV
   refine nEq (x:=((k:Nat):Int)) (by rw[aA (by omega) (by omega)];omega) ?_
   exact⟨k,⟨by omega,by omega,hV⟩,by omega,⟨⟨rfl,rfl,rfl,rfl,trivial⟩,trivial,rfl,rfl⟩⟩
  rw[if_neg (by simp only[Bool.and_eq_true,hl];simp)]at hV
  obtain rfl:=hV
  generalize k+1=j' at*
  rotate_left
  replace hV:j'=V:=by
   cases j' with
   |zero=>exact hV
   |succ k=>rwa [scanDown,if_neg (by simp;omega)]at hV
  obtain rfl:=hV
  rotate_left
 all_goals
  refine ifd (fun hgt=>?_) (fun hgt=>?_)
  ·rw [if_pos (by omega)] at hR
   subst hR
   refine aP (a) (by omega) (by omega) ?_
   refine rdI (by omega) ?_
   refine aP (j') (by omega) (by omega) ?_
   refine rdI (by omega) ?_
   refine aP (j') (by omega) (by omega) ?_
   refine wrI (by omega) ?_
   refine aP (a) (by omega) (by omega) ?_
   refine wrI (by simp;omega) ?_
   exact rPl ⟨⟨_,rfl⟩,rfl,rfl⟩
  ·rw [if_neg (by omega)] at hR
   refine aP (j') (by omega) (by omega) ?_
   refine rdI (by omega) ?_
   refine aP (i') (by omega) (by omega) ?_
   refine rdI (by omega) ?_
   refine aP (i') (by omega) (by omega) ?_
   refine wrI (by omega) ?_
   refine aP (j') (by omega) (by omega) ?_
   refine wrI (by simp;omega) ?_
   refine nEq (x:=((i'+1:Nat):Int)) (by rw[aA (by omega) (by omega)];omega) ?_
   refine nEq (x:=((j'-1:Nat):Int)) (by rw[aA (by omega) (by omega)];omega) ?_
   refine lIn (fun p:Nat×Nat×Array Int=>a<p.1∧p.1≤p.2.1+2∧p.2.1<b∧p.2.2.size=n∧partLoop ltInt a p.1 p.2.1 p.2.2=R)
    (fun(i,j,d)=>⟨[(0,.val (.slice (some ⟨r,0,none⟩) n cap)),(1,.val (.int .i64 a)),(10,.val (.int .i64 i)),(11,.val (.int .i64 j))],[],0,μ,aX h0 r ty rest d⟩) (fun p=>p.2.1+1-p.1)
    (i'+1,j'-1,swp d1 i' j') ⟨by dsimp only;omega,by dsimp only;omega,by dsimp only;omega,by dsimp only;rw[Go.Sort.swp_size];exact hs,hR⟩ (fun(_,_,_)=>⟨rfl,rfl⟩) ⟨⟨rfl,rfl,rfl,rfl,trivial⟩,trivial,rfl,rfl⟩ ?_
   clear hR hgt hs hai hij0 hjb h1 h2 g1 g2
   rintro⟨i,j,d1⟩ ⟨hai,hij0,hjb,hs,hR⟩
   dsimp only at hai hij0 hjb hs hR
   rw[partLoop_eq]at hR
   generalize hU:scanUp (fun x=>ltInt x d1[a]!) d1 j i=U at*
   refine lIn (fun i':Nat=>i≤i'∧i'≤j+2∧scanUp (fun x=>ltInt x d1[a]!) d1 j i'=U) (fun i'=>⟨[(0,.val (.slice (some ⟨r,0,none⟩) n cap)),(1,.val (.int .i64 a)),(10,.val (.int .i64 i')),(11,.val (.int .i64 j))],[],0,μ,aX h0 r ty rest d1⟩) (fun i'=>j+1-i')
    i ⟨by omega,by omega,hU⟩ (fun _=>⟨rfl,rfl⟩) ⟨⟨rfl,rfl,rfl,rfl,trivial⟩,trivial,rfl,rfl⟩ ?_
   clear hU
   rintro i' ⟨h1,h2,hU⟩
   rw[scanUp]at hU
   refine ifd (fun hij=>?_) (fun hij=>?_)
   refine aP (i') (by omega) (by omega) ?_
   refine rdI (by omega) ?_
   refine aP (a) (by omega) (by omega) ?_
   refine rdI (by omega) ?_
   refine cGv (aV _ _) ?_
   refine iIn (fun hl=>?_) (fun hl=>?_)
   ·rw [if_pos (by simp only [Bool.and_eq_true, decide_eq_true_eq]; exact ⟨by omega, hl⟩)] at hU
    refine nEq (x:=((i'+1:Nat):Int)) (by rw[aA (by omega) (by omega)];omega) ?_
    exact⟨i'+1,⟨by omega,by omega,hU⟩,by omega,⟨⟨rfl,rfl,rfl,rfl,trivial⟩,trivial,rfl,rfl⟩⟩
   rw[if_neg (by simp only[Bool.and_eq_true,hl];simp)]at hU
   rotate_left
   rw[if_neg (by simp;omega)]at hU
   obtain rfl:=hU
   rotate_left
   obtain rfl:=hU
   rotate_left
   all_goals
    generalize hV:scanDown (fun x=> !ltInt x d1[a]!) d1 i' j=V at*
    refine lIn (fun j':Nat=>j'≤j∧0≤j'∧scanDown (fun x=> !ltInt x d1[a]!) d1 i' j'=V) (fun j'=>⟨[(0,.val (.slice (some ⟨r,0,none⟩) n cap)),(1,.val (.int .i64 a)),(10,.val (.int .i64 i')),(11,.val (.int .i64 j'))],[],0,μ,aX h0 r ty rest d1⟩) (fun j'=>j')
     j ⟨by omega,by omega,hV⟩ (fun _=>⟨rfl,rfl⟩) ⟨⟨rfl,rfl,rfl,rfl,trivial⟩,trivial,rfl,rfl⟩ ?_
    clear hV
    rintro j' ⟨g1,g2,hV⟩
    refine ifd (fun hij2=>?_) (fun hij2=>?_)
    obtain⟨k,rfl⟩:∃k,j'=k+1:=⟨j'-1,by omega⟩
    rw[scanDown]at hV
    refine aP (k+1) (by omega) (by omega) ?_
    refine rdI (by omega) ?_
    refine aP (a) (by omega) (by omega) ?_
    refine rdI (by omega) ?_
    refine cGv (aV _ _) ?_
    refine iIn (fun hl=>?_) (fun hl=>?_)
    ·rw [if_pos (by simp only [Bool.and_eq_true, decide_eq_true_eq]; exact ⟨by omega, hl⟩)] at hV
     refine nEq (x:=((k:Nat):Int)) (by rw[aA (by omega) (by omega)];omega) ?_
     exact⟨k,⟨by omega,by omega,hV⟩,by omega,⟨⟨rfl,rfl,rfl,rfl,trivial⟩,trivial,rfl,rfl⟩⟩
    rw[if_neg (by simp only[Bool.and_eq_true,hl];simp)]at hV
    obtain rfl:=hV
    generalize k+1=j' at*
    rotate_left
    replace hV:j'=V:=by
     cases j' with
     |zero=>exact hV
     |succ k=>rwa [scanDown,if_neg (by simp;omega)]at hV
    obtain rfl:=hV
    rotate_left
   all_goals
    refine ifd (fun hgt=>?_) (fun hgt=>?_)
    ·rw [if_pos (by omega)] at hR
     subst hR
     refine aP (a) (by omega) (by omega) ?_
     refine rdI (by omega) ?_
     refine aP (j') (by omega) (by omega) ?_
     refine rdI (by omega) ?_
     refine aP (j') (by omega) (by omega) ?_
     refine wrI (by omega) ?_
     refine aP (a) (by omega) (by omega) ?_
     refine wrI (by simp;omega) ?_
     exact rPl ⟨⟨_,rfl⟩,rfl,rfl⟩
    ·rw [if_neg (by omega)] at hR
     refine aP (j') (by omega) (by omega) ?_
     refine rdI (by omega) ?_
     refine aP (i') (by omega) (by omega) ?_
     refine rdI (by omega) ?_
     refine aP (i') (by omega) (by omega) ?_
     refine wrI (by omega) ?_
     refine aP (j') (by omega) (by omega) ?_
     refine wrI (by simp;omega) ?_
     refine nEq (x:=((i'+1:Nat):Int)) (by rw[aA (by omega) (by omega)];omega) ?_
     refine nEq (x:=((j'-1:Nat):Int)) (by rw[aA (by omega) (by omega)];omega) ?_
     exact⟨(i'+1,j'-1,swp d1 i' j'),⟨by dsimp only;omega,by dsimp only;omega,by dsimp only;omega,by dsimp only;rw[Go.Sort.swp_size];exact hs,hR⟩,by dsimp only;omega,⟨⟨rfl,rfl,rfl,rfl,trivial⟩,trivial,rfl,rfl⟩⟩
end
end Go.Vx
namespace Go.Vx
open Go.Proofs Classical
open Go.Sort
section
variable {μ h0:Mem} {r:Nat} {ty:TypeId} {rest:List Value} {d:Array Int}
set_option maxHeartbeats 8000000 in
theorem eA{n a b:Nat}{cap:Nat}(hd:d.size=n)(ha:a<b)(hb:b≤n)(hn:n≤1000000000000):
  SpecH Tryz.prog 207 [.slice (some ⟨r,0,none⟩) n cap,.int .i64 a,.int .i64 b] μ (aX h0 r ty rest d) fun v μ' h'=>v= .bool (partialInsertionSort ltInt d a b).2∧μ'=μ∧h'=aX h0 r ty rest (partialInsertionSort ltInt d a b).1:=by
 refine SpecH.mk [] Tryz.func207 (by kernel_rfl) ?_
 rw[partialInsertionSort]
 generalize hR:partialIns ltInt a b 5 (a+1) d=R
 refine nEq (x:=((a+1:Nat):Int)) (by rw[aA (by omega) (by omega)];omega) ?_
 refine lIn (fun p:Nat×Nat×Array Int=>p.1≤5∧a<p.2.1∧p.2.1≤b∧p.2.2.size=n∧partialIns ltInt a b p.1 p.2.1 p.2.2=R)
  (fun(t,i,d)=>⟨[(0,.val (.slice (some ⟨r,0,none⟩) n cap)),(1,.val (.int .i64 a)),(2,.val (.int .i64 b)),(7,.val (.int .i64 i)),(8,.val (.int .i64 (5-(t:Int))))],[],0,μ,aX h0 r ty rest d⟩) (fun p=>p.1)
  (5,a+1,d) ⟨by dsimp only;omega,by dsimp only;omega,by dsimp only;omega,hd,hR⟩ (fun(_,_,_)=>⟨rfl,rfl⟩) ⟨⟨rfl,rfl,rfl,rfl,rfl,trivial⟩,trivial,rfl,rfl⟩ ?_
 clear hR
 rintro⟨t,i,d1⟩ ⟨ht,hai,hib,hs,hR⟩
 dsimp only at ht hai hib hs hR
 refine ifd (fun h5=>?_) (fun h5=>?_)
 rotate_left
 ·obtain rfl : t = 0 := by omega
  rw[partialIns]at hR
  subst hR
  exact rPl ⟨rfl,rfl,rfl⟩
 obtain⟨t,rfl⟩:∃k,t=k+1:=⟨t-1,by omega⟩
 rw[partialIns_succ]at hR
 generalize hS:scanSorted ltInt d1 b i=S at*
 refine lIn (fun i':Nat=>i≤i'∧i'≤b∧scanSorted ltInt d1 b i'=S) (fun i'=>⟨[(0,.val (.slice (some ⟨r,0,none⟩) n cap)),(1,.val (.int .i64 a)),(2,.val (.int .i64 b)),(7,.val (.int .i64 i')),(8,.val (.int .i64 (5-((t+1:Nat):Int))))],[],0,μ,aX h0 r ty rest d1⟩) (fun i'=>b-i')
  i ⟨by omega,by omega,hS⟩ (fun _=>⟨rfl,rfl⟩) ⟨⟨rfl,rfl,rfl,rfl,rfl,trivial⟩,trivial,rfl,rfl⟩ ?_
 clear hS
 rintro i' ⟨h1,h2,hS⟩
 rw[scanSorted]at hS
 refine ifd (fun hlt=>?_) (fun hlt=>?_)
 rotate_left
 ·rw [if_neg (by simp; omega)] at hS
  obtain rfl:=hS
  rw[if_pos (by omega)]at hR
  subst hR
  refine ifd (fun _=>?_) (fun h=>absurd (by omega) h)
  exact rPl ⟨rfl,rfl,rfl⟩
 refine aP (i') (by omega) (by omega) ?_
 refine rdI (by omega) ?_
 refine nEq (x:=((i'-1:Nat):Int)) (by rw[aA (by omega) (by omega)];omega) ?_
 refine aP (i'-1) (by omega) (by omega) ?_
 refine rdI (by omega) ?_
 refine cGv (aV _ _) ?_
 refine iIn (fun hl=>?_) (fun hl=>?_)
 ·rw [if_pos (by simp only [Bool.and_eq_true, decide_eq_true_eq]; exact ⟨by omega, hl⟩)] at hS
  refine nEq (x:=((i'+1:Nat):Int)) (by rw[aA (by omega) (by omega)];omega) ?_
  exact⟨i'+1,⟨by omega,by omega,hS⟩,by omega,⟨⟨rfl,rfl,rfl,rfl,rfl,trivial⟩,trivial,rfl,rfl⟩⟩
 rw[if_neg (by simp only[Bool.and_eq_true,hl];simp)]at hS
 obtain rfl:=hS
 refine ifd (fun h=>absurd h (by omega)) (fun _=>?_)
 rw[if_neg (by omega)]at hR
 refine nEq (x:=((b-a:Nat):Int)) (by rw[aA (by omega) (by omega)];omega) ?_
 refine ifd (fun h50=>?_) (fun h50=>?_)
 ·rw [if_pos (by omega)] at hR
  subst hR
  exact rPl ⟨rfl,rfl,rfl⟩
 rw[if_neg (by omega)]at hR
 refine nEq (x:=((i'-1:Nat):Int)) (by rw[aA (by omega) (by omega)];omega) ?_
 refine nEq (x:=((i'-1:Nat):Int)) (by rw[aA (by omega) (by omega)];omega) ?_
 refine aP (i'-1) (by omega) (by omega) ?_
 refine rdI (by omega) ?_
 refine aP (i') (by omega) (by omega) ?_
 refine rdI (by omega) ?_
 refine aP (i') (by omega) (by omega) ?_
 refine wrI (by omega) ?_
 refine aP (i'-1) (by omega) (by omega) ?_
 refine wrI (by simp;omega) ?_
 have hsw:swp d1 i' (i'-1)=(d1.setIfInBounds i' d1[i'-1]!).setIfInBounds (i'-1) d1[i']!:=rfl
 have hs2:(swp d1 i' (i'-1)).size=n:=by rw[Go.Sort.swp_size];exact hs
 rw[hsw]at hR hs2
 generalize (d1.setIfInBounds i' d1[i'-1]!).setIfInBounds (i'-1) d1[i']! =d2 at*
 clear hsw
 refine nEq (x:=((i'-a:Nat):Int)) (by rw[aA (by omega) (by omega)];omega) ?_
 unfold fixDown at hR
 refine ifd (fun hd2=>?_) (fun hd2=>?_)
 ·rw [if_pos (by omega)] at hR
  refine nEq (x:=((i'-1:Nat):Int)) (by rw[aA (by omega) (by omega)];omega) ?_
  generalize hD:shiftDown ltInt (i'-1) d2=D2 at*
  refine lIn (fun p:Nat×Array Int=>p.1≤i'-1∧p.2.size=n∧shiftDown ltInt p.1 p.2=D2) (fun(j,d)=>⟨[(0,.val (.slice (some ⟨r,0,none⟩) n cap)),(1,.val (.int .i64 a)),(2,.val (.int .i64 b)),(7,.val (.int .i64 i')),(8,.val (.int .i64 (5-((t+1:Nat):Int)))),(9,.val (.int .i64 j))],[],0,μ,aX h0 r ty rest d⟩) (fun p=>p.1)
   (i'-1,d2) ⟨by dsimp only;omega,hs2,hD⟩ (fun(_,_)=>⟨rfl,rfl⟩) ⟨⟨rfl,rfl,rfl,rfl,rfl,rfl,trivial⟩,trivial,rfl,rfl⟩ ?_
  clear hD
  rintro⟨j,d3⟩ ⟨hj,hs3,hD⟩
  dsimp only at hj hs3 hD
  refine ifd (fun hj1=>?_) (fun hj1=>?_)
  ·obtain ⟨k, rfl⟩ : ∃ k, j = k + 1 := ⟨j - 1, by omega⟩
   rw[shiftDown]at hD
   refine aP (k+1) (by omega) (by omega) ?_
   refine rdI (by omega) ?_
   refine nEq (x:=((k:Nat):Int)) (by rw[aA (by omega) (by omega)];omega) ?_
   refine aP (k) (by omega) (by omega) ?_
   refine rdI (by omega) ?_
   refine cGv (aV _ _) ?_
   refine iIn (fun hl2=>?_) (fun hl2=>?_)
   ·rw [if_pos hl2] at hD
    obtain rfl:=hD
    refine nEq (x:=((b-i':Nat):Int)) (by rw[aA (by omega) (by omega)];omega) ?_
    unfold fixUp at hR
    refine ifd (fun hu2=>?_) (fun hu2=>?_)
    ·rw [if_pos (by omega)] at hR
     refine nEq (x:=((i'+1:Nat):Int)) (by rw[aA (by omega) (by omega)];omega) ?_
     generalize hE:shiftUp ltInt b (i'+1) d3=D4 at*
     refine lIn (fun p:Nat×Array Int=>i'+1≤p.1∧p.1≤b+1∧p.2.size=n∧shiftUp ltInt b p.1 p.2=D4) (fun(j,d)=>⟨[(0,.val (.slice (some ⟨r,0,none⟩) n cap)),(1,.val (.int .i64 a)),(2,.val (.int .i64 b)),(7,.val (.int .i64 i')),(8,.val (.int .i64 (5-((t+1:Nat):Int)))),(10,.val (.int .i64 j))],[],0,μ,aX h0 r ty rest d⟩) (fun p=>b-p.1)
      (i'+1,d3) ⟨by dsimp only;omega,by dsimp only;omega,hs3,hE⟩ (fun(_,_)=>⟨rfl,rfl⟩) ⟨⟨rfl,rfl,rfl,rfl,rfl,rfl,trivial⟩,trivial,rfl,rfl⟩ ?_
     clear hE
     rintro⟨j2,d5⟩ ⟨hj2,hjb2,hs5,hE⟩
     dsimp only at hj2 hjb2 hs5 hE
     rw[shiftUp]at hE
     refine ifd (fun hj1=>?_) (fun hj1=>?_)
     ·rw [if_pos (by omega)] at hE
      refine aP (j2) (by omega) (by omega) ?_
      refine rdI (by omega) ?_
      refine nEq (x:=((j2-1:Nat):Int)) (by rw[aA (by omega) (by omega)];omega) ?_
      refine aP (j2-1) (by omega) (by omega) ?_
      refine rdI (by omega) ?_
      refine cGv (aV _ _) ?_
      refine iIn (fun hl3=>?_) (fun hl3=>?_)
      ·rw [if_pos hl3] at hE
       obtain rfl:=hE
       refine nEq (x:=5-(t:Int)) (by rw[aA (by omega) (by omega)];omega) ?_
       exact⟨(t,i',d5),⟨by dsimp only;omega,by dsimp only;omega,by dsimp only;omega,hs5,hR⟩,by dsimp only;omega,⟨⟨rfl,rfl,rfl,rfl,rfl,trivial⟩,trivial,rfl,rfl⟩⟩
      ·rw [if_neg (by simp only [hl3]; simp)] at hE
       refine nEq (x:=((j2-1:Nat):Int)) (by rw[aA (by omega) (by omega)];omega) ?_
       refine nEq (x:=((j2-1:Nat):Int)) (by rw[aA (by omega) (by omega)];omega) ?_
       refine aP (j2-1) (by omega) (by omega) ?_
       refine rdI (by omega) ?_
       refine aP (j2) (by omega) (by omega) ?_
       refine rdI (by omega) ?_
       refine aP (j2) (by omega) (by omega) ?_
       refine wrI (by omega) ?_
       refine aP (j2-1) (by omega) (by omega) ?_
       refine wrI (by simp;omega) ?_
       refine nEq (x:=((j2+1:Nat):Int)) (by rw[aA (by omega) (by omega)];omega) ?_
       exact⟨(j2+1,swp d5 j2 (j2-1)),⟨by dsimp only;omega,by dsimp only;omega,by dsimp only;rw[Go.Sort.swp_size];exact hs5,hE⟩,by dsimp only;omega,⟨⟨rfl,rfl,rfl,rfl,rfl,rfl,trivial⟩,trivial,rfl,rfl⟩⟩
     ·rw [if_neg (by omega)] at hE
      obtain rfl:=hE
      refine nEq (x:=5-(t:Int)) (by rw[aA (by omega) (by omega)];omega) ?_
      exact⟨(t,i',d5),⟨by dsimp only;omega,by dsimp only;omega,by dsimp only;omega,hs5,hR⟩,by dsimp only;omega,⟨⟨rfl,rfl,rfl,rfl,rfl,trivial⟩,trivial,rfl,rfl⟩⟩
    ·rw [if_neg (by omega)] at hR
     refine nEq (x:=5-(t:Int)) (by rw[aA (by omega) (by omega)];omega) ?_
     exact⟨(t,i',d3),⟨by dsimp only;omega,by dsimp only;omega,by dsimp only;omega,hs3,hR⟩,by dsimp only;omega,⟨⟨rfl,rfl,rfl,rfl,rfl,trivial⟩,trivial,rfl,rfl⟩⟩
   ·rw [if_neg (by simp only [hl2]; simp)] at hD
    refine nEq (x:=((k:Nat):Int)) (by rw[aA (by omega) (by omega)];omega) ?_
    refine nEq (x:=((k:Nat):Int)) (by rw[aA (by omega) (by omega)];omega) ?_
    refine aP (k) (by omega) (by omega) ?_
    refine rdI (by omega) ?_
    refine aP (k+1) (by omega) (by omega) ?_
    refine rdI (by omega) ?_
    refine aP (k+1) (by omega) (by omega) ?_
    refine wrI (by omega) ?_
    refine aP (k) (by omega) (by omega) ?_
    refine wrI (by simp;omega) ?_
    refine nEq (x:=((k:Nat):Int)) (by rw[aA (by omega) (by omega)];omega) ?_
    exact⟨(k,swp d3 (k+1) k),⟨by dsimp only;omega,by dsimp only;rw[Go.Sort.swp_size];exact hs3,hD⟩,by dsimp only;omega,⟨⟨rfl,rfl,rfl,rfl,rfl,rfl,trivial⟩,trivial,rfl,rfl⟩⟩
  ·obtain rfl : j = 0 := by omega
   have hD:d3=D2:=hD
   obtain rfl:=hD
   refine nEq (x:=((b-i':Nat):Int)) (by rw[aA (by omega) (by omega)];omega) ?_
   unfold fixUp at hR
   refine ifd (fun hu2=>?_) (fun hu2=>?_)
   ·rw [if_pos (by omega)] at hR
    refine nEq (x:=((i'+1:Nat):Int)) (by rw[aA (by omega) (by omega)];omega) ?_
    generalize hE:shiftUp ltInt b (i'+1) d3=D4 at*
    refine lIn (fun p:Nat×Array Int=>i'+1≤p.1∧p.1≤b+1∧p.2.size=n∧shiftUp ltInt b p.1 p.2=D4) (fun(j,d)=>⟨[(0,.val (.slice (some ⟨r,0,none⟩) n cap)),(1,.val (.int .i64 a)),(2,.val (.int .i64 b)),(7,.val (.int .i64 i')),(8,.val (.int .i64 (5-((t+1:Nat):Int)))),(10,.val (.int .i64 j))],[],0,μ,aX h0 r ty rest d⟩) (fun p=>b-p.1)
     (i'+1,d3) ⟨by dsimp only;omega,by dsimp only;omega,hs3,hE⟩ (fun(_,_)=>⟨rfl,rfl⟩) ⟨⟨rfl,rfl,rfl,rfl,rfl,rfl,trivial⟩,trivial,rfl,rfl⟩ ?_
    clear hE
    rintro⟨j2,d5⟩ ⟨hj2,hjb2,hs5,hE⟩
    dsimp only at hj2 hjb2 hs5 hE
    rw[shiftUp]at hE
    refine ifd (fun hj1=>?_) (fun hj1=>?_)
    ·rw [if_pos (by omega)] at hE
     refine aP (j2) (by omega) (by omega) ?_
     refine rdI (by omega) ?_
     refine nEq (x:=((j2-1:Nat):Int)) (by rw[aA (by omega) (by omega)];omega) ?_
     refine aP (j2-1) (by omega) (by omega) ?_
     refine rdI (by omega) ?_
     refine cGv (aV _ _) ?_
     refine iIn (fun hl3=>?_) (fun hl3=>?_)
     ·rw [if_pos hl3] at hE
      obtain rfl:=hE
      refine nEq (x:=5-(t:Int)) (by rw[aA (by omega) (by omega)];omega) ?_
      exact⟨(t,i',d5),⟨by dsimp only;omega,by dsimp only;omega,by dsimp only;omega,hs5,hR⟩,by dsimp only;omega,⟨⟨rfl,rfl,rfl,rfl,rfl,trivial⟩,trivial,rfl,rfl⟩⟩
     ·rw [if_neg (by simp only [hl3]; simp)] at hE
      refine nEq (x:=((j2-1:Nat):Int)) (by rw[aA (by omega) (by omega)];omega) ?_
      refine nEq (x:=((j2-1:Nat):Int)) (by rw[aA (by omega) (by omega)];omega) ?_
      refine aP (j2-1) (by omega) (by omega) ?_
      refine rdI (by omega) ?_
      refine aP (j2) (by omega) (by omega) ?_
      refine rdI (by omega) ?_
      refine aP (j2) (by omega) (by omega) ?_
      refine wrI (by omega) ?_
      refine aP (j2-1) (by omega) (by omega) ?_
      refine wrI (by simp;omega) ?_
      refine nEq (x:=((j2+1:Nat):Int)) (by rw[aA (by omega) (by omega)];omega) ?_
      exact⟨(j2+1,swp d5 j2 (j2-1)),⟨by dsimp only;omega,by dsimp only;omega,by dsimp only;rw[Go.Sort.swp_size];exact hs5,hE⟩,by dsimp only;omega,⟨⟨rfl,rfl,rfl,rfl,rfl,rfl,trivial⟩,trivial,rfl,rfl⟩⟩
    ·rw [if_neg (by omega)] at hE
     obtain rfl:=hE
     refine nEq (x:=5-(t:Int)) (by rw[aA (by omega) (by omega)];omega) ?_
     exact⟨(t,i',d5),⟨by dsimp only;omega,by dsimp only;omega,by dsimp only;omega,hs5,hR⟩,by dsimp only;omega,⟨⟨rfl,rfl,rfl,rfl,rfl,trivial⟩,trivial,rfl,rfl⟩⟩
   ·rw [if_neg (by omega)] at hR
    refine nEq (x:=5-(t:Int)) (by rw[aA (by omega) (by omega)];omega) ?_
    exact⟨(t,i',d3),⟨by dsimp only;omega,by dsimp only;omega,by dsimp only;omega,hs3,hR⟩,by dsimp only;omega,⟨⟨rfl,rfl,rfl,rfl,rfl,trivial⟩,trivial,rfl,rfl⟩⟩
 ·rw [if_neg (by omega)] at hR
  refine nEq (x:=((b-i':Nat):Int)) (by rw[aA (by omega) (by omega)];omega) ?_
  unfold fixUp at hR
  refine ifd (fun hu2=>?_) (fun hu2=>?_)
  ·rw [if_pos (by omega)] at hR
   refine nEq (x:=((i'+1:Nat):Int)) (by rw[aA (by omega) (by omega)];omega) ?_
   generalize hE:shiftUp ltInt b (i'+1) d2=D4 at*
   refine lIn (fun p:Nat×Array Int=>i'+1≤p.1∧p.1≤b+1∧p.2.size=n∧shiftUp ltInt b p.1 p.2=D4) (fun(j,d)=>⟨[(0,.val (.slice (some ⟨r,0,none⟩) n cap)),(1,.val (.int .i64 a)),(2,.val (.int .i64 b)),(7,.val (.int .i64 i')),(8,.val (.int .i64 (5-((t+1:Nat):Int)))),(10,.val (.int .i64 j))],[],0,μ,aX h0 r ty rest d⟩) (fun p=>b-p.1)
    (i'+1,d2) ⟨by dsimp only;omega,by dsimp only;omega,hs2,hE⟩ (fun(_,_)=>⟨rfl,rfl⟩) ⟨⟨rfl,rfl,rfl,rfl,rfl,rfl,trivial⟩,trivial,rfl,rfl⟩ ?_
   clear hE
   rintro⟨j2,d5⟩ ⟨hj2,hjb2,hs5,hE⟩
   dsimp only at hj2 hjb2 hs5 hE
   rw[shiftUp]at hE
   refine ifd (fun hj1=>?_) (fun hj1=>?_)
   ·rw [if_pos (by omega)] at hE
    refine aP (j2) (by omega) (by omega) ?_
    refine rdI (by omega) ?_
    refine nEq (x:=((j2-1:Nat):Int)) (by rw[aA (by omega) (by omega)];omega) ?_
    refine aP (j2-1) (by omega) (by omega) ?_
    refine rdI (by omega) ?_
    refine cGv (aV _ _) ?_
    refine iIn (fun hl3=>?_) (fun hl3=>?_)
    ·rw [if_pos hl3] at hE
     obtain rfl:=hE
     refine nEq (x:=5-(t:Int)) (by rw[aA (by omega) (by omega)];omega) ?_
     exact⟨(t,i',d5),⟨by dsimp only;omega,by dsimp only;omega,by dsimp only;omega,hs5,hR⟩,by dsimp only;omega,⟨⟨rfl,rfl,rfl,rfl,rfl,trivial⟩,trivial,rfl,rfl⟩⟩
    ·rw [if_neg (by simp only [hl3]; simp)] at hE
     refine nEq (x:=((j2-1:Nat):Int)) (by rw[aA (by omega) (by omega)];omega) ?_
     refine nEq (x:=((j2-1:Nat):Int)) (by rw[aA (by omega) (by omega)];omega) ?_
     refine aP (j2-1) (by omega) (by omega) ?_
     refine rdI (by omega) ?_
     refine aP (j2) (by omega) (by omega) ?_
     refine rdI (by omega) ?_
     refine aP (j2) (by omega) (by omega) ?_
     refine wrI (by omega) ?_
     refine aP (j2-1) (by omega) (by omega) ?_
     refine wrI (by simp;omega) ?_
     refine nEq (x:=((j2+1:Nat):Int)) (by rw[aA (by omega) (by omega)];omega) ?_
     exact⟨(j2+1,swp d5 j2 (j2-1)),⟨by dsimp only;omega,by dsimp only;omega,by dsimp only;rw[Go.Sort.swp_size];exact hs5,hE⟩,by dsimp only;omega,⟨⟨rfl,rfl,rfl,rfl,rfl,rfl,trivial⟩,trivial,rfl,rfl⟩⟩
   ·rw [if_neg (by omega)] at hE
    obtain rfl:=hE
    refine nEq (x:=5-(t:Int)) (by rw[aA (by omega) (by omega)];omega) ?_
    exact⟨(t,i',d5),⟨by dsimp only;omega,by dsimp only;omega,by dsimp only;omega,hs5,hR⟩,by dsimp only;omega,⟨⟨rfl,rfl,rfl,rfl,rfl,trivial⟩,trivial,rfl,rfl⟩⟩
  ·rw [if_neg (by omega)] at hR
   refine nEq (x:=5-(t:Int)) (by rw[aA (by omega) (by omega)];omega) ?_
   exact⟨(t,i',d2),⟨by dsimp only;omega,by dsimp only;omega,by dsimp only;omega,hs2,hR⟩,by dsimp only;omega,⟨⟨rfl,rfl,rfl,rfl,rfl,trivial⟩,trivial,rfl,rfl⟩⟩
end
end Go.Vx
namespace Go.Vx
open Go.Proofs Classical
open Go.Sort
section
variable {h0:Mem} {r:Nat} {ty:TypeId} {rest:List Value}
set_option maxHeartbeats 16000000 in
theorem qBt{n cap:Nat}(hr:h0 r=none)(hn:n≤1000000000000):∀(m:Nat) (a b limit:Nat) (d:Array Int) (μ:Mem),b-a<m→a≤b→b≤n→d.size=n→limit≤64→Below ltInt a b d→
  SpecH Tryz.prog 196 [.slice (some ⟨r,0,none⟩) n cap,.int .i64 a,.int .i64 b,.int .i64 limit] μ (aX h0 r ty rest d) fun v _μ' h'=>v= .tuple #[]∧∃d',PermIn a b d d'∧SortedIn ltInt a b d'∧h'=aX h0 r ty rest d':=by
 intro m
 induction m with
 |zero=>intro a b limit d μ h;omega
 |succ m ih=>
 intro a0 b0 limit0 d0 μ hm hab0 hb0 hd0 hl0 hB0
 refine SpecH.mk [] Tryz.func196 (by kernel_rfl) ?_
 refine lIn (fun p:Nat×Nat×Nat×Bool×Bool×Array Int×Mem=>p.1≤p.2.1∧p.2.1≤n∧p.2.1-p.1≤b0-a0∧p.2.2.1≤64∧p.2.2.2.2.2.1.size=n∧Below ltInt p.1 p.2.1 p.2.2.2.2.2.1∧μ.Le p.2.2.2.2.2.2∧∀R,PermIn p.1 p.2.1 p.2.2.2.2.2.1 R→SortedIn ltInt p.1 p.2.1 R→PermIn a0 b0 d0 R∧SortedIn ltInt a0 b0 R)
  (fun(a,b,limit,wb,wp,d,μ')=>⟨[(0,.val (.slice (some ⟨r,0,none⟩) n cap)),(1,.val (.int .i64 a)),(2,.val (.int .i64 b)),(3,.val (.int .i64 limit)),(8,.val (.bool wb)),(9,.val (.bool wp))],[],0,μ',aX h0 r ty rest d⟩) (fun p=>p.2.1-p.1)
  (a0,b0,limit0,true,true,d0,μ) ⟨hab0,hb0,Nat.le_refl _,hl0,hd0,hB0,Mem.Le.refl _,fun R h1 h2=>⟨h1,h2⟩⟩ (fun(_,_,_,_,_,_,_)=>⟨rfl,rfl⟩) ⟨⟨rfl,rfl,rfl,rfl,rfl,rfl,trivial⟩,trivial,rfl,rfl⟩ ?_
 rintro⟨a,b,limit,wb,wp,d,μ1⟩ ⟨hab,hb,hlen,hlim,hs,hB,hle,hfin⟩
 dsimp only at hab hb hlen hlim hs hB hle hfin
 refine nEq (x:=((b-a:Nat):Int)) (by rw[aA (by omega) (by omega)];omega) ?_
 refine ifd (fun h12=>?_) (fun h12=>?_)
 ·refine cOw (oG hs hab hb hn) fun v μ' h' hle' hap hR => ?_
  obtain⟨rfl,e1,rfl⟩:=hR
  have q:=insertionSort_holds (lt:=ltInt) swo_ltInt d a b hab (by omega)
  exact rPl ⟨rfl,_,(hfin _ q.1 q.2).1,(hfin _ q.1 q.2).2,rfl⟩
 refine ifd (fun hl=>?_) (fun hl=>?_)
 ·refine cOw (wQ hs (by omega) hb hn) fun v μ' h' hle' hap hR => ?_
  obtain⟨rfl,e1,rfl⟩:=hR
  have q:=heapSort_holds (lt:=ltInt) swo_ltInt d a b hab (by omega)
  exact rPl ⟨rfl,_,(hfin _ q.1 q.2).1,(hfin _ q.1 q.2).2,rfl⟩
 cases wb with
 |false=>
  refine iIn (fun _=>?_) (fun h=>nomatch h)
  refine cOw (oD hr hs (by omega) hb hn) fun v μ2 h' hle' hap hR=>?_
  obtain⟨rfl,d1,p1,rfl⟩:=hR
  replace hB:=hB.perm (by omega) p1
  replace hfin:=fun R h1 h2=>hfin R (permIn_trans _ _ _ _ _ p1 h1) h2
  have hs1:d1.size=n:=p1.1.trans hs
  replace hle:=hle.trans hle'
  clear hs p1 hle'
  refine nEq (x:=((limit-1:Nat):Int)) (by rw[aA (by omega) (by omega)];omega) ?_
  refine cOw (kA hr hs1 (by omega) hb hn) fun v μ3 h' hle' hap hR=>?_
  obtain⟨p,k,hp1,hp2,hk,rfl,rfl⟩:=hR
  replace hle:=hle.trans hle'
  clear hle' hap
  refine ifd (fun hk2=>?_) (fun hk2=>?_)
  ·refine cOw (jE hs1 (by omega) hab hb hn) fun v μ4 h' hle' hap hR => ?_
   obtain⟨rfl,e1,rfl⟩:=hR
   obtain rfl:=e1.symm
   clear hle' hap
   have p2:=reverseRange_holds d1 a b hab (by omega)
   generalize reverseRange d1 a b=d2 at*
   replace hB:=hB.perm (by omega) p2
   replace hfin:=fun R h1 h2=>hfin R (permIn_trans _ _ _ _ _ p2 h1) h2
   have hs2:d2.size=n:=p2.1.trans hs1
   clear p2
   refine nEq (x:=((b-1:Nat):Int)) (by rw[aA (by omega) (by omega)];omega) ?_
   refine nEq (x:=((p-a:Nat):Int)) (by rw[aA (by omega) (by omega)];omega) ?_
   refine nEq (x:=(((b-1)-(p-a):Nat):Int)) (by rw[aA (by omega) (by omega)];omega) ?_
   refine iIn (fun h=>nomatch h) (fun _=>?_)
   refine ifd (fun ha0=>?_) (fun ha0=>?_)
   ·refine nEq (x := ((a - 1 : Nat) : Int)) (by rw [aA (by omega) (by omega)]; omega) ?_
    refine aP (a-1) (by omega) (by omega) ?_
    refine rdI (by omega) ?_
    refine aP ((b-1)-(p-a)) (by omega) (by omega) ?_
    refine rdI (by omega) ?_
    refine cGv (aV _ _) ?_
    refine iIn (fun hnl=>?_) (fun hnl=>?_)
    ·refine cOw (bG (pivot := (b - 1) - (p - a)) hs2 (by omega) (by omega) hb hn) fun v μ6 h' hle' hap hR => ?_
     obtain⟨rfl,e1,rfl⟩:=hR
     obtain rfl:=e1.symm
     obtain⟨mid,d4,hx⟩:∃mid d4,partitionEqual ltInt d2 a b ((b-1)-(p-a))=(mid,d4):=⟨_,_,rfl⟩
     rw[hx]
     have q:=round_eq swo_ltInt (partitionEqual_holds ltInt) (by omega) (by omega) (by omega) (by omega) hB (by simpa using hnl) hx
     have qa:=q.1
     exact⟨(mid,b,limit-1,false,wp,d4,_),⟨q.2.1,hb,by dsimp only;omega,by dsimp only;omega,q.2.2.1.trans hs2,q.2.2.2.1,hle,fun R h1 h2=>hfin R (q.2.2.2.2 R h1 h2).1 (q.2.2.2.2 R h1 h2).2⟩,by dsimp only;omega,⟨⟨rfl,rfl,rfl,rfl,rfl,rfl,trivial⟩,trivial,rfl,rfl⟩⟩
    ·refine cOw (aT (pivot := (b - 1) - (p - a)) hs2 (by omega) (by omega) hb hn) fun v μ6 h' hle' hap hR => ?_
     obtain⟨⟨ap,rfl⟩,e1,rfl⟩:=hR
     obtain rfl:=e1.symm
     obtain⟨mid,ap',d4,hx⟩:∃mid ap' d4,partition ltInt d2 a b ((b-1)-(p-a))=(mid,ap',d4):=⟨_,_,_,rfl⟩
     rw[hx]
     have w_:=round_part swo_ltInt (partition_holds ltInt) (by omega) (by omega) (by omega) hB hx
     obtain⟨q1,q2,q3,q4,q5,q6,q7⟩:=w_
     refine nEq (x:=((mid-a:Nat):Int)) (by rw[aA (by omega) (by omega)];omega) ?_
     refine nEq (x:=((b-mid:Nat):Int)) (by rw[aA (by omega) (by omega)];omega) ?_
     refine aD (by decide) ?_
     refine nEq (x:=(((b-a) / 8:Nat):Int)) (by rw[Int.tdiv_eq_ediv_of_nonneg (by omega),aA (by omega) (by omega)];omega) ?_
     refine ifd (fun hlt=>?_) (fun hlt=>?_)
     ·refine cOw (ih a mid (limit - 1) d4 _ (by omega) (by omega) (by omega) (q3.trans hs2) (by omega) q4) fun v μ7 h' hle7 hap hR => ?_
      obtain⟨rfl,L,g1,g2,rfl⟩:=hR
      have w_:=q6 L g1 g2
      obtain⟨g3,g4⟩:=w_
      refine nEq (x:=((mid+1:Nat):Int)) (by rw[aA (by omega) (by omega)];omega) ?_
      exact⟨(mid+1,b,limit-1,_,ap,L,μ7),⟨by dsimp only;omega,hb,by dsimp only;omega,by dsimp only;omega,g1.1.trans (q3.trans hs2),g3,hle.trans hle7,fun R h1 h2=>hfin R (g4 R h1 h2).1 (g4 R h1 h2).2⟩,by dsimp only;omega,⟨⟨rfl,rfl,rfl,rfl,rfl,rfl,trivial⟩,trivial,rfl,rfl⟩⟩
     ·refine nEq (x := ((mid + 1 : Nat) : Int)) (by rw [aA (by omega) (by omega)]; omega) ?_
      refine cOw (ih (mid+1) b (limit-1) d4 _ (by omega) (by omega) (by omega) (q3.trans hs2) (by omega) q5) fun v μ7 h' hle7 hap hR=>?_
      obtain⟨rfl,L,g1,g2,rfl⟩:=hR
      have w_:=q7 L g1 g2
      obtain⟨g3,g4⟩:=w_
      exact⟨(a,mid,limit-1,_,ap,L,μ7),⟨by dsimp only;omega,by dsimp only;omega,by dsimp only;omega,by dsimp only;omega,g1.1.trans (q3.trans hs2),g3,hle.trans hle7,fun R h1 h2=>hfin R (g4 R h1 h2).1 (g4 R h1 h2).2⟩,by dsimp only;omega,⟨⟨rfl,rfl,rfl,rfl,rfl,rfl,trivial⟩,trivial,rfl,rfl⟩⟩
   ·refine cOw (aT (pivot := (b - 1) - (p - a)) hs2 (by omega) (by omega) hb hn) fun v μ6 h' hle' hap hR => ?_
    obtain⟨⟨ap,rfl⟩,e1,rfl⟩:=hR
    obtain rfl:=e1.symm
    obtain⟨mid,ap',d4,hx⟩:∃mid ap' d4,partition ltInt d2 a b ((b-1)-(p-a))=(mid,ap',d4):=⟨_,_,_,rfl⟩
    rw[hx]
    have w_:=round_part swo_ltInt (partition_holds ltInt) (by omega) (by omega) (by omega) hB hx
    obtain⟨q1,q2,q3,q4,q5,q6,q7⟩:=w_
    refine nEq (x:=((mid-a:Nat):Int)) (by rw[aA (by omega) (by omega)];omega) ?_
    refine nEq (x:=((b-mid:Nat):Int)) (by rw[aA (by omega) (by omega)];omega) ?_
    refine aD (by decide) ?_
    refine nEq (x:=(((b-a) / 8:Nat):Int)) (by rw[Int.tdiv_eq_ediv_of_nonneg (by omega),aA (by omega) (by omega)];omega) ?_
    refine ifd (fun hlt=>?_) (fun hlt=>?_)
    ·refine cOw (ih a mid (limit - 1) d4 _ (by omega) (by omega) (by omega) (q3.trans hs2) (by omega) q4) fun v μ7 h' hle7 hap hR => ?_
     obtain⟨rfl,L,g1,g2,rfl⟩:=hR
     have w_:=q6 L g1 g2
     obtain⟨g3,g4⟩:=w_
     refine nEq (x:=((mid+1:Nat):Int)) (by rw[aA (by omega) (by omega)];omega) ?_
     exact⟨(mid+1,b,limit-1,_,ap,L,μ7),⟨by dsimp only;omega,hb,by dsimp only;omega,by dsimp only;omega,g1.1.trans (q3.trans hs2),g3,hle.trans hle7,fun R h1 h2=>hfin R (g4 R h1 h2).1 (g4 R h1 h2).2⟩,by dsimp only;omega,⟨⟨rfl,rfl,rfl,rfl,rfl,rfl,trivial⟩,trivial,rfl,rfl⟩⟩
    ·refine nEq (x := ((mid + 1 : Nat) : Int)) (by rw [aA (by omega) (by omega)]; omega) ?_
     refine cOw (ih (mid+1) b (limit-1) d4 _ (by omega) (by omega) (by omega) (q3.trans hs2) (by omega) q5) fun v μ7 h' hle7 hap hR=>?_
     obtain⟨rfl,L,g1,g2,rfl⟩:=hR
     have w_:=q7 L g1 g2
     obtain⟨g3,g4⟩:=w_
     exact⟨(a,mid,limit-1,_,ap,L,μ7),⟨by dsimp only;omega,by dsimp only;omega,by dsimp only;omega,by dsimp only;omega,g1.1.trans (q3.trans hs2),g3,hle.trans hle7,fun R h1 h2=>hfin R (g4 R h1 h2).1 (g4 R h1 h2).2⟩,by dsimp only;omega,⟨⟨rfl,rfl,rfl,rfl,rfl,rfl,trivial⟩,trivial,rfl,rfl⟩⟩
  ·refine iIn (fun h => nomatch h) (fun _ => ?_)
   refine ifd (fun ha0=>?_) (fun ha0=>?_)
   ·refine nEq (x := ((a - 1 : Nat) : Int)) (by rw [aA (by omega) (by omega)]; omega) ?_
    refine aP (a-1) (by omega) (by omega) ?_
    refine rdI (by omega) ?_
    refine aP (p) (by omega) (by omega) ?_
    refine rdI (by omega) ?_
    refine cGv (aV _ _) ?_
    refine iIn (fun hnl=>?_) (fun hnl=>?_)
    ·refine cOw (bG (pivot := p) hs1 (by omega) (by omega) hb hn) fun v μ6 h' hle' hap hR => ?_
     obtain⟨rfl,e1,rfl⟩:=hR
     obtain rfl:=e1.symm
     obtain⟨mid,d4,hx⟩:∃mid d4,partitionEqual ltInt d1 a b (p)=(mid,d4):=⟨_,_,rfl⟩
     rw[hx]
     have q:=round_eq swo_ltInt (partitionEqual_holds ltInt) (by omega) (by omega) (by omega) (by omega) hB (by simpa using hnl) hx
     have qa:=q.1
     exact⟨(mid,b,limit-1,false,wp,d4,_),⟨q.2.1,hb,by dsimp only;omega,by dsimp only;omega,q.2.2.1.trans hs1,q.2.2.2.1,hle,fun R h1 h2=>hfin R (q.2.2.2.2 R h1 h2).1 (q.2.2.2.2 R h1 h2).2⟩,by dsimp only;omega,⟨⟨rfl,rfl,rfl,rfl,rfl,rfl,trivial⟩,trivial,rfl,rfl⟩⟩
    ·refine cOw (aT (pivot := p) hs1 (by omega) (by omega) hb hn) fun v μ6 h' hle' hap hR => ?_
     obtain⟨⟨ap,rfl⟩,e1,rfl⟩:=hR
     obtain rfl:=e1.symm
     obtain⟨mid,ap',d4,hx⟩:∃mid ap' d4,partition ltInt d1 a b (p)=(mid,ap',d4):=⟨_,_,_,rfl⟩
     rw[hx]
     have w_:=round_part swo_ltInt (partition_holds ltInt) (by omega) (by omega) (by omega) hB hx
     obtain⟨q1,q2,q3,q4,q5,q6,q7⟩:=w_
     refine nEq (x:=((mid-a:Nat):Int)) (by rw[aA (by omega) (by omega)];omega) ?_
     refine nEq (x:=((b-mid:Nat):Int)) (by rw[aA (by omega) (by omega)];omega) ?_
     refine aD (by decide) ?_
     refine nEq (x:=(((b-a) / 8:Nat):Int)) (by rw[Int.tdiv_eq_ediv_of_nonneg (by omega),aA (by omega) (by omega)];omega) ?_
     refine ifd (fun hlt=>?_) (fun hlt=>?_)
     ·refine cOw (ih a mid (limit - 1) d4 _ (by omega) (by omega) (by omega) (q3.trans hs1) (by omega) q4) fun v μ7 h' hle7 hap hR => ?_
      obtain⟨rfl,L,g1,g2,rfl⟩:=hR
      have w_:=q6 L g1 g2
      obtain⟨g3,g4⟩:=w_
      refine nEq (x:=((mid+1:Nat):Int)) (by rw[aA (by omega) (by omega)];omega) ?_
      exact⟨(mid+1,b,limit-1,_,ap,L,μ7),⟨by dsimp only;omega,hb,by dsimp only;omega,by dsimp only;omega,g1.1.trans (q3.trans hs1),g3,hle.trans hle7,fun R h1 h2=>hfin R (g4 R h1 h2).1 (g4 R h1 h2).2⟩,by dsimp only;omega,⟨⟨rfl,rfl,rfl,rfl,rfl,rfl,trivial⟩,trivial,rfl,rfl⟩⟩
     ·refine nEq (x := ((mid + 1 : Nat) : Int)) (by rw [aA (by omega) (by omega)]; omega) ?_
      refine cOw (ih (mid+1) b (limit-1) d4 _ (by omega) (by omega) (by omega) (q3.trans hs1) (by omega) q5) fun v μ7 h' hle7 hap hR=>?_
      obtain⟨rfl,L,g1,g2,rfl⟩:=hR
      have w_:=q7 L g1 g2
      obtain⟨g3,g4⟩:=w_
      exact⟨(a,mid,limit-1,_,ap,L,μ7),⟨by dsimp only;omega,by dsimp only;omega,by dsimp only;omega,by dsimp only;omega,g1.1.trans (q3.trans hs1),g3,hle.trans hle7,fun R h1 h2=>hfin R (g4 R h1 h2).1 (g4 R h1 h2).2⟩,by dsimp only;omega,⟨⟨rfl,rfl,rfl,rfl,rfl,rfl,trivial⟩,trivial,rfl,rfl⟩⟩
   ·refine cOw (aT (pivot := p) hs1 (by omega) (by omega) hb hn) fun v μ6 h' hle' hap hR => ?_
    obtain⟨⟨ap,rfl⟩,e1,rfl⟩:=hR
    obtain rfl:=e1.symm
    obtain⟨mid,ap',d4,hx⟩:∃mid ap' d4,partition ltInt d1 a b (p)=(mid,ap',d4):=⟨_,_,_,rfl⟩
    rw[hx]
    have w_:=round_part swo_ltInt (partition_holds ltInt) (by omega) (by omega) (by omega) hB hx
    obtain⟨q1,q2,q3,q4,q5,q6,q7⟩:=w_
    refine nEq (x:=((mid-a:Nat):Int)) (by rw[aA (by omega) (by omega)];omega) ?_
    refine nEq (x:=((b-mid:Nat):Int)) (by rw[aA (by omega) (by omega)];omega) ?_
    refine aD (by decide) ?_
    refine nEq (x:=(((b-a) / 8:Nat):Int)) (by rw[Int.tdiv_eq_ediv_of_nonneg (by omega),aA (by omega) (by omega)];omega) ?_
    refine ifd (fun hlt=>?_) (fun hlt=>?_)
    ·refine cOw (ih a mid (limit - 1) d4 _ (by omega) (by omega) (by omega) (q3.trans hs1) (by omega) q4) fun v μ7 h' hle7 hap hR => ?_
     obtain⟨rfl,L,g1,g2,rfl⟩:=hR
     have w_:=q6 L g1 g2
     obtain⟨g3,g4⟩:=w_
     refine nEq (x:=((mid+1:Nat):Int)) (by rw[aA (by omega) (by omega)];omega) ?_
     exact⟨(mid+1,b,limit-1,_,ap,L,μ7),⟨by dsimp only;omega,hb,by dsimp only;omega,by dsimp only;omega,g1.1.trans (q3.trans hs1),g3,hle.trans hle7,fun R h1 h2=>hfin R (g4 R h1 h2).1 (g4 R h1 h2).2⟩,by dsimp only;omega,⟨⟨rfl,rfl,rfl,rfl,rfl,rfl,trivial⟩,trivial,rfl,rfl⟩⟩
    ·refine nEq (x := ((mid + 1 : Nat) : Int)) (by rw [aA (by omega) (by omega)]; omega) ?_
     refine cOw (ih (mid+1) b (limit-1) d4 _ (by omega) (by omega) (by omega) (q3.trans hs1) (by omega) q5) fun v μ7 h' hle7 hap hR=>?_
     obtain⟨rfl,L,g1,g2,rfl⟩:=hR
     have w_:=q7 L g1 g2
     obtain⟨g3,g4⟩:=w_
     exact⟨(a,mid,limit-1,_,ap,L,μ7),⟨by dsimp only;omega,by dsimp only;omega,by dsimp only;omega,by dsimp only;omega,g1.1.trans (q3.trans hs1),g3,hle.trans hle7,fun R h1 h2=>hfin R (g4 R h1 h2).1 (g4 R h1 h2).2⟩,by dsimp only;omega,⟨⟨rfl,rfl,rfl,rfl,rfl,rfl,trivial⟩,trivial,rfl,rfl⟩⟩
 |true=>
  refine iIn (fun h=>nomatch h) (fun _=>?_)
  have hs1:=hs
  refine cOw (kA hr hs1 (by omega) hb hn) fun v μ3 h' hle' hap hR=>?_
  obtain⟨p,k,hp1,hp2,hk,rfl,rfl⟩:=hR
  replace hle:=hle.trans hle'
  clear hle' hap
  refine ifd (fun hk2=>?_) (fun hk2=>?_)
  ·refine cOw (jE hs1 (by omega) hab hb hn) fun v μ4 h' hle' hap hR => ?_
   obtain⟨rfl,e1,rfl⟩:=hR
   obtain rfl:=e1.symm
   clear hle' hap
   have p2:=reverseRange_holds d a b hab (by omega)
   generalize reverseRange d a b=d2 at*
   replace hB:=hB.perm (by omega) p2
   replace hfin:=fun R h1 h2=>hfin R (permIn_trans _ _ _ _ _ p2 h1) h2
   have hs2:d2.size=n:=p2.1.trans hs1
   clear p2
   refine nEq (x:=((b-1:Nat):Int)) (by rw[aA (by omega) (by omega)];omega) ?_
   refine nEq (x:=((p-a:Nat):Int)) (by rw[aA (by omega) (by omega)];omega) ?_
   refine nEq (x:=(((b-1)-(p-a):Nat):Int)) (by rw[aA (by omega) (by omega)];omega) ?_
   refine iIn (fun _=>?_) (fun h=>nomatch h)
   refine iIn (fun hwp=>?_) (fun hwp=>?_)
   ·refine ifd (fun _ => ?_) (fun h => absurd rfl h)
    refine cOw (eA hs2 (by omega) hb hn) fun v μ5 h' hle' hap hR=>?_
    obtain⟨rfl,e1,rfl⟩:=hR
    obtain rfl:=e1.symm
    clear hle' hap
    have q:=partialInsertionSort_holds (lt:=ltInt) swo_ltInt d2 a b (by omega) (by omega) hB
    refine iIn (fun hok=>?_) (fun hok=>?_)
    ·exact rPl ⟨rfl,_,(hfin _ q.1 (q.2 hok)).1,(hfin _ q.1 (q.2 hok)).2,rfl⟩
    ·have q1 := q.1
     clear q hok
     generalize (partialInsertionSort ltInt d2 a b).1=d3 at*
     replace hB:=hB.perm (by omega) q1
     replace hfin:=fun R h1 h2=>hfin R (permIn_trans _ _ _ _ _ q1 h1) h2
     have hs3:d3.size=n:=q1.1.trans hs2
     clear q1
     refine ifd (fun ha0=>?_) (fun ha0=>?_)
     ·refine nEq (x := ((a - 1 : Nat) : Int)) (by rw [aA (by omega) (by omega)]; omega) ?_
      refine aP (a-1) (by omega) (by omega) ?_
      refine rdI (by omega) ?_
      refine aP ((b-1)-(p-a)) (by omega) (by omega) ?_
      refine rdI (by omega) ?_
      refine cGv (aV _ _) ?_
      refine iIn (fun hnl=>?_) (fun hnl=>?_)
      ·refine cOw (bG (pivot := (b - 1) - (p - a)) hs3 (by omega) (by omega) hb hn) fun v μ6 h' hle' hap hR => ?_
       obtain⟨rfl,e1,rfl⟩:=hR
       obtain rfl:=e1.symm
       obtain⟨mid,d4,hx⟩:∃mid d4,partitionEqual ltInt d3 a b ((b-1)-(p-a))=(mid,d4):=⟨_,_,rfl⟩
       rw[hx]
       have q:=round_eq swo_ltInt (partitionEqual_holds ltInt) (by omega) (by omega) (by omega) (by omega) hB (by simpa using hnl) hx
       have qa:=q.1
       exact⟨(mid,b,limit,true,wp,d4,_),⟨q.2.1,hb,by dsimp only;omega,by dsimp only;omega,q.2.2.1.trans hs3,q.2.2.2.1,hle,fun R h1 h2=>hfin R (q.2.2.2.2 R h1 h2).1 (q.2.2.2.2 R h1 h2).2⟩,by dsimp only;omega,⟨⟨rfl,rfl,rfl,rfl,rfl,rfl,trivial⟩,trivial,rfl,rfl⟩⟩
      ·refine cOw (aT (pivot := (b - 1) - (p - a)) hs3 (by omega) (by omega) hb hn) fun v μ6 h' hle' hap hR => ?_
       obtain⟨⟨ap,rfl⟩,e1,rfl⟩:=hR
       obtain rfl:=e1.symm
       obtain⟨mid,ap',d4,hx⟩:∃mid ap' d4,partition ltInt d3 a b ((b-1)-(p-a))=(mid,ap',d4):=⟨_,_,_,rfl⟩
       rw[hx]
       have w_:=round_part swo_ltInt (partition_holds ltInt) (by omega) (by omega) (by omega) hB hx
       obtain⟨q1,q2,q3,q4,q5,q6,q7⟩:=w_
       refine nEq (x:=((mid-a:Nat):Int)) (by rw[aA (by omega) (by omega)];omega) ?_
       refine nEq (x:=((b-mid:Nat):Int)) (by rw[aA (by omega) (by omega)];omega) ?_
       refine aD (by decide) ?_
       refine nEq (x:=(((b-a) / 8:Nat):Int)) (by rw[Int.tdiv_eq_ediv_of_nonneg (by omega),aA (by omega) (by omega)];omega) ?_
       refine ifd (fun hlt=>?_) (fun hlt=>?_)
       ·refine cOw (ih a mid (limit) d4 _ (by omega) (by omega) (by omega) (q3.trans hs3) (by omega) q4) fun v μ7 h' hle7 hap hR => ?_
        obtain⟨rfl,L,g1,g2,rfl⟩:=hR
        have w_:=q6 L g1 g2
        obtain⟨g3,g4⟩:=w_
        refine nEq (x:=((mid+1:Nat):Int)) (by rw[aA (by omega) (by omega)];omega) ?_
        exact⟨(mid+1,b,limit,_,ap,L,μ7),⟨by dsimp only;omega,hb,by dsimp only;omega,by dsimp only;omega,g1.1.trans (q3.trans hs3),g3,hle.trans hle7,fun R h1 h2=>hfin R (g4 R h1 h2).1 (g4 R h1 h2).2⟩,by dsimp only;omega,⟨⟨rfl,rfl,rfl,rfl,rfl,rfl,trivial⟩,trivial,rfl,rfl⟩⟩
       ·refine nEq (x := ((mid + 1 : Nat) : Int)) (by rw [aA (by omega) (by omega)]; omega) ?_
        refine cOw (ih (mid+1) b (limit) d4 _ (by omega) (by omega) (by omega) (q3.trans hs3) (by omega) q5) fun v μ7 h' hle7 hap hR=>?_
        obtain⟨rfl,L,g1,g2,rfl⟩:=hR
        have w_:=q7 L g1 g2
        obtain⟨g3,g4⟩:=w_
        exact⟨(a,mid,limit,_,ap,L,μ7),⟨by dsimp only;omega,by dsimp only;omega,by dsimp only;omega,by dsimp only;omega,g1.1.trans (q3.trans hs3),g3,hle.trans hle7,fun R h1 h2=>hfin R (g4 R h1 h2).1 (g4 R h1 h2).2⟩,by dsimp only;omega,⟨⟨rfl,rfl,rfl,rfl,rfl,rfl,trivial⟩,trivial,rfl,rfl⟩⟩
     ·refine cOw (aT (pivot := (b - 1) - (p - a)) hs3 (by omega) (by omega) hb hn) fun v μ6 h' hle' hap hR => ?_
      obtain⟨⟨ap,rfl⟩,e1,rfl⟩:=hR
      obtain rfl:=e1.symm
      obtain⟨mid,ap',d4,hx⟩:∃mid ap' d4,partition ltInt d3 a b ((b-1)-(p-a))=(mid,ap',d4):=⟨_,_,_,rfl⟩
      rw[hx]
      have w_:=round_part swo_ltInt (partition_holds ltInt) (by omega) (by omega) (by omega) hB hx
      obtain⟨q1,q2,q3,q4,q5,q6,q7⟩:=w_
      refine nEq (x:=((mid-a:Nat):Int)) (by rw[aA (by omega) (by omega)];omega) ?_
      refine nEq (x:=((b-mid:Nat):Int)) (by rw[aA (by omega) (by omega)];omega) ?_
      refine aD (by decide) ?_
      refine nEq (x:=(((b-a) / 8:Nat):Int)) (by rw[Int.tdiv_eq_ediv_of_nonneg (by omega),aA (by omega) (by omega)];omega) ?_
      refine ifd (fun hlt=>?_) (fun hlt=>?_)
      ·refine cOw (ih a mid (limit) d4 _ (by omega) (by omega) (by omega) (q3.trans hs3) (by omega) q4) fun v μ7 h' hle7 hap hR => ?_
       obtain⟨rfl,L,g1,g2,rfl⟩:=hR
       have w_:=q6 L g1 g2
       obtain⟨g3,g4⟩:=w_
       refine nEq (x:=((mid+1:Nat):Int)) (by rw[aA (by omega) (by omega)];omega) ?_
       exact⟨(mid+1,b,limit,_,ap,L,μ7),⟨by dsimp only;omega,hb,by dsimp only;omega,by dsimp only;omega,g1.1.trans (q3.trans hs3),g3,hle.trans hle7,fun R h1 h2=>hfin R (g4 R h1 h2).1 (g4 R h1 h2).2⟩,by dsimp only;omega,⟨⟨rfl,rfl,rfl,rfl,rfl,rfl,trivial⟩,trivial,rfl,rfl⟩⟩
      ·refine nEq (x := ((mid + 1 : Nat) : Int)) (by rw [aA (by omega) (by omega)]; omega) ?_
       refine cOw (ih (mid+1) b (limit) d4 _ (by omega) (by omega) (by omega) (q3.trans hs3) (by omega) q5) fun v μ7 h' hle7 hap hR=>?_
       obtain⟨rfl,L,g1,g2,rfl⟩:=hR
       have w_:=q7 L g1 g2
       obtain⟨g3,g4⟩:=w_
       exact⟨(a,mid,limit,_,ap,L,μ7),⟨by dsimp only;omega,by dsimp only;omega,by dsimp only;omega,by dsimp only;omega,g1.1.trans (q3.trans hs3),g3,hle.trans hle7,fun R h1 h2=>hfin R (g4 R h1 h2).1 (g4 R h1 h2).2⟩,by dsimp only;omega,⟨⟨rfl,rfl,rfl,rfl,rfl,rfl,trivial⟩,trivial,rfl,rfl⟩⟩
   ·refine ifd (fun ha0 => ?_) (fun ha0 => ?_)
    ·refine nEq (x := ((a - 1 : Nat) : Int)) (by rw [aA (by omega) (by omega)]; omega) ?_
     refine aP (a-1) (by omega) (by omega) ?_
     refine rdI (by omega) ?_
     refine aP ((b-1)-(p-a)) (by omega) (by omega) ?_
     refine rdI (by omega) ?_
     refine cGv (aV _ _) ?_
     refine iIn (fun hnl=>?_) (fun hnl=>?_)
     ·refine cOw (bG (pivot := (b - 1) - (p - a)) hs2 (by omega) (by omega) hb hn) fun v μ6 h' hle' hap hR => ?_
      obtain⟨rfl,e1,rfl⟩:=hR
      obtain rfl:=e1.symm
      obtain⟨mid,d4,hx⟩:∃mid d4,partitionEqual ltInt d2 a b ((b-1)-(p-a))=(mid,d4):=⟨_,_,rfl⟩
      rw[hx]
      have q:=round_eq swo_ltInt (partitionEqual_holds ltInt) (by omega) (by omega) (by omega) (by omega) hB (by simpa using hnl) hx
      have qa:=q.1
      exact⟨(mid,b,limit,true,wp,d4,_),⟨q.2.1,hb,by dsimp only;omega,by dsimp only;omega,q.2.2.1.trans hs2,q.2.2.2.1,hle,fun R h1 h2=>hfin R (q.2.2.2.2 R h1 h2).1 (q.2.2.2.2 R h1 h2).2⟩,by dsimp only;omega,⟨⟨rfl,rfl,rfl,rfl,rfl,rfl,trivial⟩,trivial,rfl,rfl⟩⟩
     ·refine cOw (aT (pivot := (b - 1) - (p - a)) hs2 (by omega) (by omega) hb hn) fun v μ6 h' hle' hap hR => ?_
      obtain⟨⟨ap,rfl⟩,e1,rfl⟩:=hR
      obtain rfl:=e1.symm
      obtain⟨mid,ap',d4,hx⟩:∃mid ap' d4,partition ltInt d2 a b ((b-1)-(p-a))=(mid,ap',d4):=⟨_,_,_,rfl⟩
      rw[hx]
      have w_:=round_part swo_ltInt (partition_holds ltInt) (by omega) (by omega) (by omega) hB hx
      obtain⟨q1,q2,q3,q4,q5,q6,q7⟩:=w_
      refine nEq (x:=((mid-a:Nat):Int)) (by rw[aA (by omega) (by omega)];omega) ?_
      refine nEq (x:=((b-mid:Nat):Int)) (by rw[aA (by omega) (by omega)];omega) ?_
      refine aD (by decide) ?_
      refine nEq (x:=(((b-a) / 8:Nat):Int)) (by rw[Int.tdiv_eq_ediv_of_nonneg (by omega),aA (by omega) (by omega)];omega) ?_
      refine ifd (fun hlt=>?_) (fun hlt=>?_)
      ·refine cOw (ih a mid (limit) d4 _ (by omega) (by omega) (by omega) (q3.trans hs2) (by omega) q4) fun v μ7 h' hle7 hap hR => ?_
       obtain⟨rfl,L,g1,g2,rfl⟩:=hR
       have w_:=q6 L g1 g2
       obtain⟨g3,g4⟩:=w_
       refine nEq (x:=((mid+1:Nat):Int)) (by rw[aA (by omega) (by omega)];omega) ?_
       exact⟨(mid+1,b,limit,_,ap,L,μ7),⟨by dsimp only;omega,hb,by dsimp only;omega,by dsimp only;omega,g1.1.trans (q3.trans hs2),g3,hle.trans hle7,fun R h1 h2=>hfin R (g4 R h1 h2).1 (g4 R h1 h2).2⟩,by dsimp only;omega,⟨⟨rfl,rfl,rfl,rfl,rfl,rfl,trivial⟩,trivial,rfl,rfl⟩⟩
      ·refine nEq (x := ((mid + 1 : Nat) : Int)) (by rw [aA (by omega) (by omega)]; omega) ?_
       refine cOw (ih (mid+1) b (limit) d4 _ (by omega) (by omega) (by omega) (q3.trans hs2) (by omega) q5) fun v μ7 h' hle7 hap hR=>?_
       obtain⟨rfl,L,g1,g2,rfl⟩:=hR
       have w_:=q7 L g1 g2
       obtain⟨g3,g4⟩:=w_
       exact⟨(a,mid,limit,_,ap,L,μ7),⟨by dsimp only;omega,by dsimp only;omega,by dsimp only;omega,by dsimp only;omega,g1.1.trans (q3.trans hs2),g3,hle.trans hle7,fun R h1 h2=>hfin R (g4 R h1 h2).1 (g4 R h1 h2).2⟩,by dsimp only;omega,⟨⟨rfl,rfl,rfl,rfl,rfl,rfl,trivial⟩,trivial,rfl,rfl⟩⟩
    ·refine cOw (aT (pivot := (b - 1) - (p - a)) hs2 (by omega) (by omega) hb hn) fun v μ6 h' hle' hap hR => ?_
     obtain⟨⟨ap,rfl⟩,e1,rfl⟩:=hR
     obtain rfl:=e1.symm
     obtain⟨mid,ap',d4,hx⟩:∃mid ap' d4,partition ltInt d2 a b ((b-1)-(p-a))=(mid,ap',d4):=⟨_,_,_,rfl⟩
     rw[hx]
     have w_:=round_part swo_ltInt (partition_holds ltInt) (by omega) (by omega) (by omega) hB hx
     obtain⟨q1,q2,q3,q4,q5,q6,q7⟩:=w_
     refine nEq (x:=((mid-a:Nat):Int)) (by rw[aA (by omega) (by omega)];omega) ?_
     refine nEq (x:=((b-mid:Nat):Int)) (by rw[aA (by omega) (by omega)];omega) ?_
     refine aD (by decide) ?_
     refine nEq (x:=(((b-a) / 8:Nat):Int)) (by rw[Int.tdiv_eq_ediv_of_nonneg (by omega),aA (by omega) (by omega)];omega) ?_
     refine ifd (fun hlt=>?_) (fun hlt=>?_)
     ·refine cOw (ih a mid (limit) d4 _ (by omega) (by omega) (by omega) (q3.trans hs2) (by omega) q4) fun v μ7 h' hle7 hap hR => ?_
      obtain⟨rfl,L,g1,g2,rfl⟩:=hR
      have w_:=q6 L g1 g2
      obtain⟨g3,g4⟩:=w_
      refine nEq (x:=((mid+1:Nat):Int)) (by rw[aA (by omega) (by omega)];omega) ?_
      exact⟨(mid+1,b,limit,_,ap,L,μ7),⟨by dsimp only;omega,hb,by dsimp only;omega,by dsimp only;omega,g1.1.trans (q3.trans hs2),g3,hle.trans hle7,fun R h1 h2=>hfin R (g4 R h1 h2).1 (g4 R h1 h2).2⟩,by dsimp only;omega,⟨⟨rfl,rfl,rfl,rfl,rfl,rfl,trivial⟩,trivial,rfl,rfl⟩⟩
     ·refine nEq (x := ((mid + 1 : Nat) : Int)) (by rw [aA (by omega) (by omega)]; omega) ?_
      refine cOw (ih (mid+1) b (limit) d4 _ (by omega) (by omega) (by omega) (q3.trans hs2) (by omega) q5) fun v μ7 h' hle7 hap hR=>?_
      obtain⟨rfl,L,g1,g2,rfl⟩:=hR
      have w_:=q7 L g1 g2
      obtain⟨g3,g4⟩:=w_
      exact⟨(a,mid,limit,_,ap,L,μ7),⟨by dsimp only;omega,by dsimp only;omega,by dsimp only;omega,by dsimp only;omega,g1.1.trans (q3.trans hs2),g3,hle.trans hle7,fun R h1 h2=>hfin R (g4 R h1 h2).1 (g4 R h1 h2).2⟩,by dsimp only;omega,⟨⟨rfl,rfl,rfl,rfl,rfl,rfl,trivial⟩,trivial,rfl,rfl⟩⟩
  ·refine iIn (fun _ => ?_) (fun h => nomatch h)
   refine iIn (fun hwp=>?_) (fun hwp=>?_)
   ·refine ifd (fun hk1 => ?_) (fun hk1 => ?_)
    ·refine cOw (eA hs1 (by omega) hb hn) fun v μ5 h' hle' hap hR => ?_
     obtain⟨rfl,e1,rfl⟩:=hR
     obtain rfl:=e1.symm
     clear hle' hap
     have q:=partialInsertionSort_holds (lt:=ltInt) swo_ltInt d a b (by omega) (by omega) hB
     refine iIn (fun hok=>?_) (fun hok=>?_)
     ·exact rPl ⟨rfl,_,(hfin _ q.1 (q.2 hok)).1,(hfin _ q.1 (q.2 hok)).2,rfl⟩
     ·have q1 := q.1
      clear q hok
      generalize (partialInsertionSort ltInt d a b).1=d3 at*
      replace hB:=hB.perm (by omega) q1
      replace hfin:=fun R h1 h2=>hfin R (permIn_trans _ _ _ _ _ q1 h1) h2
      have hs3:d3.size=n:=q1.1.trans hs1
      clear q1
      refine ifd (fun ha0=>?_) (fun ha0=>?_)
      ·refine nEq (x := ((a - 1 : Nat) : Int)) (by rw [aA (by omega) (by omega)]; omega) ?_
       refine aP (a-1) (by omega) (by omega) ?_
       refine rdI (by omega) ?_
       refine aP (p) (by omega) (by omega) ?_
       refine rdI (by omega) ?_
       refine cGv (aV _ _) ?_
       refine iIn (fun hnl=>?_) (fun hnl=>?_)
       ·refine cOw (bG (pivot := p) hs3 (by omega) (by omega) hb hn) fun v μ6 h' hle' hap hR => ?_
        obtain⟨rfl,e1,rfl⟩:=hR
        obtain rfl:=e1.symm
        obtain⟨mid,d4,hx⟩:∃mid d4,partitionEqual ltInt d3 a b (p)=(mid,d4):=⟨_,_,rfl⟩
        rw[hx]
        have q:=round_eq swo_ltInt (partitionEqual_holds ltInt) (by omega) (by omega) (by omega) (by omega) hB (by simpa using hnl) hx
        have qa:=q.1
        exact⟨(mid,b,limit,true,wp,d4,_),⟨q.2.1,hb,by dsimp only;omega,by dsimp only;omega,q.2.2.1.trans hs3,q.2.2.2.1,hle,fun R h1 h2=>hfin R (q.2.2.2.2 R h1 h2).1 (q.2.2.2.2 R h1 h2).2⟩,by dsimp only;omega,⟨⟨rfl,rfl,rfl,rfl,rfl,rfl,trivial⟩,trivial,rfl,rfl⟩⟩
       ·refine cOw (aT (pivot := p) hs3 (by omega) (by omega) hb hn) fun v μ6 h' hle' hap hR => ?_
        obtain⟨⟨ap,rfl⟩,e1,rfl⟩:=hR
        obtain rfl:=e1.symm
        obtain⟨mid,ap',d4,hx⟩:∃mid ap' d4,partition ltInt d3 a b (p)=(mid,ap',d4):=⟨_,_,_,rfl⟩
        rw[hx]
        have w_:=round_part swo_ltInt (partition_holds ltInt) (by omega) (by omega) (by omega) hB hx
        obtain⟨q1,q2,q3,q4,q5,q6,q7⟩:=w_
        refine nEq (x:=((mid-a:Nat):Int)) (by rw[aA (by omega) (by omega)];omega) ?_
        refine nEq (x:=((b-mid:Nat):Int)) (by rw[aA (by omega) (by omega)];omega) ?_
        refine aD (by decide) ?_
        refine nEq (x:=(((b-a) / 8:Nat):Int)) (by rw[Int.tdiv_eq_ediv_of_nonneg (by omega),aA (by omega) (by omega)];omega) ?_
        refine ifd (fun hlt=>?_) (fun hlt=>?_)
        ·refine cOw (ih a mid (limit) d4 _ (by omega) (by omega) (by omega) (q3.trans hs3) (by omega) q4) fun v μ7 h' hle7 hap hR => ?_
         obtain⟨rfl,L,g1,g2,rfl⟩:=hR
         have w_:=q6 L g1 g2
         obtain⟨g3,g4⟩:=w_
         refine nEq (x:=((mid+1:Nat):Int)) (by rw[aA (by omega) (by omega)];omega) ?_
         exact⟨(mid+1,b,limit,_,ap,L,μ7),⟨by dsimp only;omega,hb,by dsimp only;omega,by dsimp only;omega,g1.1.trans (q3.trans hs3),g3,hle.trans hle7,fun R h1 h2=>hfin R (g4 R h1 h2).1 (g4 R h1 h2).2⟩,by dsimp only;omega,⟨⟨rfl,rfl,rfl,rfl,rfl,rfl,trivial⟩,trivial,rfl,rfl⟩⟩
        ·refine nEq (x := ((mid + 1 : Nat) : Int)) (by rw [aA (by omega) (by omega)]; omega) ?_
         refine cOw (ih (mid+1) b (limit) d4 _ (by omega) (by omega) (by omega) (q3.trans hs3) (by omega) q5) fun v μ7 h' hle7 hap hR=>?_
         obtain⟨rfl,L,g1,g2,rfl⟩:=hR
         have w_:=q7 L g1 g2
         obtain⟨g3,g4⟩:=w_
         exact⟨(a,mid,limit,_,ap,L,μ7),⟨by dsimp only;omega,by dsimp only;omega,by dsimp only;omega,by dsimp only;omega,g1.1.trans (q3.trans hs3),g3,hle.trans hle7,fun R h1 h2=>hfin R (g4 R h1 h2).1 (g4 R h1 h2).2⟩,by dsimp only;omega,⟨⟨rfl,rfl,rfl,rfl,rfl,rfl,trivial⟩,trivial,rfl,rfl⟩⟩
      ·refine cOw (aT (pivot := p) hs3 (by omega) (by omega) hb hn) fun v μ6 h' hle' hap hR => ?_
       obtain⟨⟨ap,rfl⟩,e1,rfl⟩:=hR
       obtain rfl:=e1.symm
       obtain⟨mid,ap',d4,hx⟩:∃mid ap' d4,partition ltInt d3 a b (p)=(mid,ap',d4):=⟨_,_,_,rfl⟩
       rw[hx]
       have w_:=round_part swo_ltInt (partition_holds ltInt) (by omega) (by omega) (by omega) hB hx
       obtain⟨q1,q2,q3,q4,q5,q6,q7⟩:=w_
       refine nEq (x:=((mid-a:Nat):Int)) (by rw[aA (by omega) (by omega)];omega) ?_
       refine nEq (x:=((b-mid:Nat):Int)) (by rw[aA (by omega) (by omega)];omega) ?_
       refine aD (by decide) ?_
       refine nEq (x:=(((b-a) / 8:Nat):Int)) (by rw[Int.tdiv_eq_ediv_of_nonneg (by omega),aA (by omega) (by omega)];omega) ?_
       refine ifd (fun hlt=>?_) (fun hlt=>?_)
       ·refine cOw (ih a mid (limit) d4 _ (by omega) (by omega) (by omega) (q3.trans hs3) (by omega) q4) fun v μ7 h' hle7 hap hR => ?_
        obtain⟨rfl,L,g1,g2,rfl⟩:=hR
        have w_:=q6 L g1 g2
        obtain⟨g3,g4⟩:=w_
        refine nEq (x:=((mid+1:Nat):Int)) (by rw[aA (by omega) (by omega)];omega) ?_
        exact⟨(mid+1,b,limit,_,ap,L,μ7),⟨by dsimp only;omega,hb,by dsimp only;omega,by dsimp only;omega,g1.1.trans (q3.trans hs3),g3,hle.trans hle7,fun R h1 h2=>hfin R (g4 R h1 h2).1 (g4 R h1 h2).2⟩,by dsimp only;omega,⟨⟨rfl,rfl,rfl,rfl,rfl,rfl,trivial⟩,trivial,rfl,rfl⟩⟩
       ·refine nEq (x := ((mid + 1 : Nat) : Int)) (by rw [aA (by omega) (by omega)]; omega) ?_
        refine cOw (ih (mid+1) b (limit) d4 _ (by omega) (by omega) (by omega) (q3.trans hs3) (by omega) q5) fun v μ7 h' hle7 hap hR=>?_
        obtain⟨rfl,L,g1,g2,rfl⟩:=hR
        have w_:=q7 L g1 g2
        obtain⟨g3,g4⟩:=w_
        exact⟨(a,mid,limit,_,ap,L,μ7),⟨by dsimp only;omega,by dsimp only;omega,by dsimp only;omega,by dsimp only;omega,g1.1.trans (q3.trans hs3),g3,hle.trans hle7,fun R h1 h2=>hfin R (g4 R h1 h2).1 (g4 R h1 h2).2⟩,by dsimp only;omega,⟨⟨rfl,rfl,rfl,rfl,rfl,rfl,trivial⟩,trivial,rfl,rfl⟩⟩
    ·refine ifd (fun ha0 => ?_) (fun ha0 => ?_)
     ·refine nEq (x := ((a - 1 : Nat) : Int)) (by rw [aA (by omega) (by omega)]; omega) ?_
      refine aP (a-1) (by omega) (by omega) ?_
      refine rdI (by omega) ?_
      refine aP (p) (by omega) (by omega) ?_
      refine rdI (by omega) ?_
      refine cGv (aV _ _) ?_
      refine iIn (fun hnl=>?_) (fun hnl=>?_)
      ·refine cOw (bG (pivot := p) hs1 (by omega) (by omega) hb hn) fun v μ6 h' hle' hap hR => ?_
       obtain⟨rfl,e1,rfl⟩:=hR
       obtain rfl:=e1.symm
       obtain⟨mid,d4,hx⟩:∃mid d4,partitionEqual ltInt d a b (p)=(mid,d4):=⟨_,_,rfl⟩
       rw[hx]
       have q:=round_eq swo_ltInt (partitionEqual_holds ltInt) (by omega) (by omega) (by omega) (by omega) hB (by simpa using hnl) hx
       have qa:=q.1
       exact⟨(mid,b,limit,true,wp,d4,_),⟨q.2.1,hb,by dsimp only;omega,by dsimp only;omega,q.2.2.1.trans hs1,q.2.2.2.1,hle,fun R h1 h2=>hfin R (q.2.2.2.2 R h1 h2).1 (q.2.2.2.2 R h1 h2).2⟩,by dsimp only;omega,⟨⟨rfl,rfl,rfl,rfl,rfl,rfl,trivial⟩,trivial,rfl,rfl⟩⟩
      ·refine cOw (aT (pivot := p) hs1 (by omega) (by omega) hb hn) fun v μ6 h' hle' hap hR => ?_
       obtain⟨⟨ap,rfl⟩,e1,rfl⟩:=hR
       obtain rfl:=e1.symm
       obtain⟨mid,ap',d4,hx⟩:∃mid ap' d4,partition ltInt d a b (p)=(mid,ap',d4):=⟨_,_,_,rfl⟩
       rw[hx]
       have w_:=round_part swo_ltInt (partition_holds ltInt) (by omega) (by omega) (by omega) hB hx
       obtain⟨q1,q2,q3,q4,q5,q6,q7⟩:=w_
       refine nEq (x:=((mid-a:Nat):Int)) (by rw[aA (by omega) (by omega)];omega) ?_
       refine nEq (x:=((b-mid:Nat):Int)) (by rw[aA (by omega) (by omega)];omega) ?_
       refine aD (by decide) ?_
       refine nEq (x:=(((b-a) / 8:Nat):Int)) (by rw[Int.tdiv_eq_ediv_of_nonneg (by omega),aA (by omega) (by omega)];omega) ?_
       refine ifd (fun hlt=>?_) (fun hlt=>?_)
       ·refine cOw (ih a mid (limit) d4 _ (by omega) (by omega) (by omega) (q3.trans hs1) (by omega) q4) fun v μ7 h' hle7 hap hR => ?_
        obtain⟨rfl,L,g1,g2,rfl⟩:=hR
        have w_:=q6 L g1 g2
        obtain⟨g3,g4⟩:=w_
        refine nEq (x:=((mid+1:Nat):Int)) (by rw[aA (by omega) (by omega)];omega) ?_
        exact⟨(mid+1,b,limit,_,ap,L,μ7),⟨by dsimp only;omega,hb,by dsimp only;omega,by dsimp only;omega,g1.1.trans (q3.trans hs1),g3,hle.trans hle7,fun R h1 h2=>hfin R (g4 R h1 h2).1 (g4 R h1 h2).2⟩,by dsimp only;omega,⟨⟨rfl,rfl,rfl,rfl,rfl,rfl,trivial⟩,trivial,rfl,rfl⟩⟩
       ·refine nEq (x := ((mid + 1 : Nat) : Int)) (by rw [aA (by omega) (by omega)]; omega) ?_
        refine cOw (ih (mid+1) b (limit) d4 _ (by omega) (by omega) (by omega) (q3.trans hs1) (by omega) q5) fun v μ7 h' hle7 hap hR=>?_
        obtain⟨rfl,L,g1,g2,rfl⟩:=hR
        have w_:=q7 L g1 g2
        obtain⟨g3,g4⟩:=w_
        exact⟨(a,mid,limit,_,ap,L,μ7),⟨by dsimp only;omega,by dsimp only;omega,by dsimp only;omega,by dsimp only;omega,g1.1.trans (q3.trans hs1),g3,hle.trans hle7,fun R h1 h2=>hfin R (g4 R h1 h2).1 (g4 R h1 h2).2⟩,by dsimp only;omega,⟨⟨rfl,rfl,rfl,rfl,rfl,rfl,trivial⟩,trivial,rfl,rfl⟩⟩
     ·refine cOw (aT (pivot := p) hs1 (by omega) (by omega) hb hn) fun v μ6 h' hle' hap hR => ?_
      obtain⟨⟨ap,rfl⟩,e1,rfl⟩:=hR
      obtain rfl:=e1.symm
      obtain⟨mid,ap',d4,hx⟩:∃mid ap' d4,partition ltInt d a b (p)=(mid,ap',d4):=⟨_,_,_,rfl⟩
      rw[hx]
      have w_:=round_part swo_ltInt (partition_holds ltInt) (by omega) (by omega) (by omega) hB hx
      obtain⟨q1,q2,q3,q4,q5,q6,q7⟩:=w_
      refine nEq (x:=((mid-a:Nat):Int)) (by rw[aA (by omega) (by omega)];omega) ?_
      refine nEq (x:=((b-mid:Nat):Int)) (by rw[aA (by omega) (by omega)];omega) ?_
      refine aD (by decide) ?_
      refine nEq (x:=(((b-a) / 8:Nat):Int)) (by rw[Int.tdiv_eq_ediv_of_nonneg (by omega),aA (by omega) (by omega)];omega) ?_
      refine ifd (fun hlt=>?_) (fun hlt=>?_)
      ·refine cOw (ih a mid (limit) d4 _ (by omega) (by omega) (by omega) (q3.trans hs1) (by omega) q4) fun v μ7 h' hle7 hap hR => ?_
       obtain⟨rfl,L,g1,g2,rfl⟩:=hR
       have w_:=q6 L g1 g2
       obtain⟨g3,g4⟩:=w_
       refine nEq (x:=((mid+1:Nat):Int)) (by rw[aA (by omega) (by omega)];omega) ?_
       exact⟨(mid+1,b,limit,_,ap,L,μ7),⟨by dsimp only;omega,hb,by dsimp only;omega,by dsimp only;omega,g1.1.trans (q3.trans hs1),g3,hle.trans hle7,fun R h1 h2=>hfin R (g4 R h1 h2).1 (g4 R h1 h2).2⟩,by dsimp only;omega,⟨⟨rfl,rfl,rfl,rfl,rfl,rfl,trivial⟩,trivial,rfl,rfl⟩⟩
      ·refine nEq (x := ((mid + 1 : Nat) : Int)) (by rw [aA (by omega) (by omega)]; omega) ?_
       refine cOw (ih (mid+1) b (limit) d4 _ (by omega) (by omega) (by omega) (q3.trans hs1) (by omega) q5) fun v μ7 h' hle7 hap hR=>?_
       obtain⟨rfl,L,g1,g2,rfl⟩:=hR
       have w_:=q7 L g1 g2
       obtain⟨g3,g4⟩:=w_
       exact⟨(a,mid,limit,_,ap,L,μ7),⟨by dsimp only;omega,by dsimp only;omega,by dsimp only;omega,by dsimp only;omega,g1.1.trans (q3.trans hs1),g3,hle.trans hle7,fun R h1 h2=>hfin R (g4 R h1 h2).1 (g4 R h1 h2).2⟩,by dsimp only;omega,⟨⟨rfl,rfl,rfl,rfl,rfl,rfl,trivial⟩,trivial,rfl,rfl⟩⟩
   ·refine ifd (fun ha0 => ?_) (fun ha0 => ?_)
    ·refine nEq (x := ((a - 1 : Nat) : Int)) (by rw [aA (by omega) (by omega)]; omega) ?_
     refine aP (a-1) (by omega) (by omega) ?_
     refine rdI (by omega) ?_
     refine aP (p) (by omega) (by omega) ?_
     refine rdI (by omega) ?_
     refine cGv (aV _ _) ?_
     refine iIn (fun hnl=>?_) (fun hnl=>?_)
     ·refine cOw (bG (pivot := p) hs1 (by omega) (by omega) hb hn) fun v μ6 h' hle' hap hR => ?_
      obtain⟨rfl,e1,rfl⟩:=hR
      obtain rfl:=e1.symm
      obtain⟨mid,d4,hx⟩:∃mid d4,partitionEqual ltInt d a b (p)=(mid,d4):=⟨_,_,rfl⟩
      rw[hx]
      have q:=round_eq swo_ltInt (partitionEqual_holds ltInt) (by omega) (by omega) (by omega) (by omega) hB (by simpa using hnl) hx
      have qa:=q.1
      exact⟨(mid,b,limit,true,wp,d4,_),⟨q.2.1,hb,by dsimp only;omega,by dsimp only;omega,q.2.2.1.trans hs1,q.2.2.2.1,hle,fun R h1 h2=>hfin R (q.2.2.2.2 R h1 h2).1 (q.2.2.2.2 R h1 h2).2⟩,by dsimp only;omega,⟨⟨rfl,rfl,rfl,rfl,rfl,rfl,trivial⟩,trivial,rfl,rfl⟩⟩
     ·refine cOw (aT (pivot := p) hs1 (by omega) (by omega) hb hn) fun v μ6 h' hle' hap hR => ?_
      obtain⟨⟨ap,rfl⟩,e1,rfl⟩:=hR
      obtain rfl:=e1.symm
      obtain⟨mid,ap',d4,hx⟩:∃mid ap' d4,partition ltInt d a b (p)=(mid,ap',d4):=⟨_,_,_,rfl⟩
      rw[hx]
      have w_:=round_part swo_ltInt (partition_holds ltInt) (by omega) (by omega) (by omega) hB hx
      obtain⟨q1,q2,q3,q4,q5,q6,q7⟩:=w_
      refine nEq (x:=((mid-a:Nat):Int)) (by rw[aA (by omega) (by omega)];omega) ?_
      refine nEq (x:=((b-mid:Nat):Int)) (by rw[aA (by omega) (by omega)];omega) ?_
      refine aD (by decide) ?_
      refine nEq (x:=(((b-a) / 8:Nat):Int)) (by rw[Int.tdiv_eq_ediv_of_nonneg (by omega),aA (by omega) (by omega)];omega) ?_
      refine ifd (fun hlt=>?_) (fun hlt=>?_)
      ·refine cOw (ih a mid (limit) d4 _ (by omega) (by omega) (by omega) (q3.trans hs1) (by omega) q4) fun v μ7 h' hle7 hap hR => ?_
       obtain⟨rfl,L,g1,g2,rfl⟩:=hR
       have w_:=q6 L g1 g2
       obtain⟨g3,g4⟩:=w_
       refine nEq (x:=((mid+1:Nat):Int)) (by rw[aA (by omega) (by omega)];omega) ?_
       exact⟨(mid+1,b,limit,_,ap,L,μ7),⟨by dsimp only;omega,hb,by dsimp only;omega,by dsimp only;omega,g1.1.trans (q3.trans hs1),g3,hle.trans hle7,fun R h1 h2=>hfin R (g4 R h1 h2).1 (g4 R h1 h2).2⟩,by dsimp only;omega,⟨⟨rfl,rfl,rfl,rfl,rfl,rfl,trivial⟩,trivial,rfl,rfl⟩⟩
      ·refine nEq (x := ((mid + 1 : Nat) : Int)) (by rw [aA (by omega) (by omega)]; omega) ?_
       refine cOw (ih (mid+1) b (limit) d4 _ (by omega) (by omega) (by omega) (q3.trans hs1) (by omega) q5) fun v μ7 h' hle7 hap hR=>?_
       obtain⟨rfl,L,g1,g2,rfl⟩:=hR
       have w_:=q7 L g1 g2
       obtain⟨g3,g4⟩:=w_
       exact⟨(a,mid,limit,_,ap,L,μ7),⟨by dsimp only;omega,by dsimp only;omega,by dsimp only;omega,by dsimp only;omega,g1.1.trans (q3.trans hs1),g3,hle.trans hle7,fun R h1 h2=>hfin R (g4 R h1 h2).1 (g4 R h1 h2).2⟩,by dsimp only;omega,⟨⟨rfl,rfl,rfl,rfl,rfl,rfl,trivial⟩,trivial,rfl,rfl⟩⟩
    ·refine cOw (aT (pivot := p) hs1 (by omega) (by omega) hb hn) fun v μ6 h' hle' hap hR => ?_
     obtain⟨⟨ap,rfl⟩,e1,rfl⟩:=hR
     obtain rfl:=e1.symm
     obtain⟨mid,ap',d4,hx⟩:∃mid ap' d4,partition ltInt d a b (p)=(mid,ap',d4):=⟨_,_,_,rfl⟩
     rw[hx]
     have w_:=round_part swo_ltInt (partition_holds ltInt) (by omega) (by omega) (by omega) hB hx
     obtain⟨q1,q2,q3,q4,q5,q6,q7⟩:=w_
     refine nEq (x:=((mid-a:Nat):Int)) (by rw[aA (by omega) (by omega)];omega) ?_
     refine nEq (x:=((b-mid:Nat):Int)) (by rw[aA (by omega) (by omega)];omega) ?_
     refine aD (by decide) ?_
     refine nEq (x:=(((b-a) / 8:Nat):Int)) (by rw[Int.tdiv_eq_ediv_of_nonneg (by omega),aA (by omega) (by omega)];omega) ?_
     refine ifd (fun hlt=>?_) (fun hlt=>?_)
     ·refine cOw (ih a mid (limit) d4 _ (by omega) (by omega) (by omega) (q3.trans hs1) (by omega) q4) fun v μ7 h' hle7 hap hR => ?_
      obtain⟨rfl,L,g1,g2,rfl⟩:=hR
      have w_:=q6 L g1 g2
      obtain⟨g3,g4⟩:=w_
      refine nEq (x:=((mid+1:Nat):Int)) (by rw[aA (by omega) (by omega)];omega) ?_
      exact⟨(mid+1,b,limit,_,ap,L,μ7),⟨by dsimp only;omega,hb,by dsimp only;omega,by dsimp only;omega,g1.1.trans (q3.trans hs1),g3,hle.trans hle7,fun R h1 h2=>hfin R (g4 R h1 h2).1 (g4 R h1 h2).2⟩,by dsimp only;omega,⟨⟨rfl,rfl,rfl,rfl,rfl,rfl,trivial⟩,trivial,rfl,rfl⟩⟩
     ·refine nEq (x := ((mid + 1 : Nat) : Int)) (by rw [aA (by omega) (by omega)]; omega) ?_
      refine cOw (ih (mid+1) b (limit) d4 _ (by omega) (by omega) (by omega) (q3.trans hs1) (by omega) q5) fun v μ7 h' hle7 hap hR=>?_
      obtain⟨rfl,L,g1,g2,rfl⟩:=hR
      have w_:=q7 L g1 g2
      obtain⟨g3,g4⟩:=w_
      exact⟨(a,mid,limit,_,ap,L,μ7),⟨by dsimp only;omega,by dsimp only;omega,by dsimp only;omega,by dsimp only;omega,g1.1.trans (q3.trans hs1),g3,hle.trans hle7,fun R h1 h2=>hfin R (g4 R h1 h2).1 (g4 R h1 h2).2⟩,by dsimp only;omega,⟨⟨rfl,rfl,rfl,rfl,rfl,rfl,trivial⟩,trivial,rfl,rfl⟩⟩
end
end Go.Vx
namespace Go.Vx
open Go.Proofs Classical
open Go.Sort
section
variable {h0 μ:Mem} {r:Nat} {ty:TypeId} {rest:List Value}
theorem qIx{n cap:Nat}{d:Array Int}(hr:h0 r=none)(hd:d.size=n)(hn:n≤1000000000000):
  SpecH Tryz.prog 186 [.slice (some ⟨r,0,none⟩) n cap] μ (aX h0 r ty rest d) fun v _μ' h'=>v= .tuple #[]∧h'=aX h0 r ty rest (d.toList.mergeSort fun x y=>decide (x≤y)).toArray:=by
 refine SpecH.mk [] Tryz.func186 (by kernel_rfl) ?_
 refine nEq (x:=(n:Int)) (by
  show(n:Int) % 18446744073709551616=_
  omega) ?_
 refine cGv (qEv (by omega)) ?_
 have hL:bitsLen n≤40:=(bitsLen_le_iff n 40).2 (by omega)
 refine cOw (qBt hr hn (n+1) 0 n (bitsLen n) d μ (by omega) (by omega) (Nat.le_refl _) hd (by omega) (.inl rfl)) fun v μ' h' hle hap hR=>?_
 obtain⟨rfl,d',p1,p2,rfl⟩:=hR
 have e:=sorted_unique_holds (lt:=ltInt) swo_ltInt (fun x y h1 h2=>by
  simp only[ltInt,decide_eq_false_iff_not]at h1 h2
  omega) d d' (by rw[hd];exact p1) (by rw[hd];exact p2)
 have e2:(fun x y=> !ltInt y x)=fun x y:Int=>decide (x≤y):=by
  funext x y
  simp only[ltInt]
  by_cases h:x≤y
  ·rw[decide_eq_true h,decide_eq_false (by omega)];rfl
  ·rw[decide_eq_false h,decide_eq_true (by omega)];rfl
 rw[e2]at e
 refine rPl ⟨rfl,?_⟩
 rw[←e]
theorem qIu{n cap:Nat}{d:Array Int}(hr:h0 r=none)(hd:d.size=n)(hn:n≤1000000000000):
  SpecH Tryz.prog 174 [.slice (some ⟨r,0,none⟩) n cap] μ (aX h0 r ty rest d) fun v _μ' h'=>v= .tuple #[]∧h'=aX h0 r ty rest (d.toList.mergeSort fun x y=>decide (x≤y)).toArray:=by
 refine SpecH.mk [] Tryz.func174 (by kernel_rfl) ?_
 refine cOw (qIx hr hd hn) fun v μ' h' hle hap hR=>?_
 obtain⟨rfl,rfl⟩:=hR
 exact rPl ⟨rfl,rfl⟩
end
end Go.Vx
namespace Go.Vx
open Go.Proofs Classical
open Go.Sort
theorem zO{l:List (Value×Value)}(h:MapOk oK l):∃ks:List Int,l.map Prod.fst=aF ks∧ks.Nodup:=by
 have h1:∀(l:List (Value×Value)),(∀p∈l,oK p.1)→∃ks:List Int,l.map Prod.fst=aF ks:=fun l=>by
  induction l with
  |nil=>intro _;exact⟨[],rfl⟩
  |cons p l ih=>
   intro h
   have w_:=ih fun q hq=>h q (by simp[hq])
   obtain⟨ks,hks⟩:=w_
   have w_:=h p (by simp)
   obtain⟨n,hn⟩:=w_
   exact⟨n::ks,by rw[List.map_cons,hks,hn];rfl⟩
 have w_:=h1 l h.keys
 obtain⟨ks,hks⟩:=w_
 refine⟨ks,hks,?_⟩
 have hn:=h.nodup
 rw[hks,aF]at hn
 exact List.Pairwise.of_map (S:=fun a b=>a≠b) _ (fun a b hab e=>hab (by rw[e])) hn
theorem zH{l:List (Value×Value)}{ks:List Int}(h:l.map Prod.fst=aF ks)(n:Int):(fZ l (.int .i64 n)).isSome↔n∈ks:=by
 have e:n∈ks↔Value.int .i64 n∈l.map Prod.fst:=by
  rw[h,aF,List.mem_map]
  exact⟨fun k=>⟨n,k,rfl⟩,fun⟨m,k,e⟩=>by cases e;exact k⟩
 rw[e]
 clear e h
 induction l with
 |nil=>simp[fZ]
 |cons p l ih=>
  obtain⟨a,v⟩:=p
  rw[fZ]
  by_cases h:a= .int .i64 n
  ·rw[if_pos h];simp[h]
  ·rw [if_neg h]
   refine ih.trans ?_
   simp only[List.map_cons,List.mem_cons]
   exact⟨.inr,fun k=>k.elim (fun e=>absurd e.symm h) id⟩
theorem zG{N:Nat}{l:List Nat}(h:l.Nodup)(hb:∀j∈l,j<N):l.length≤N:=by
 have h1:(l.map fun j:Nat=>(j:Int)).Nodup:=List.Pairwise.map (S:=fun a b=>a≠b) _ (fun a b hab e=>hab (by omega)) h
 have:=nodup_range (N:=N) h1 fun n hn=>by
  have w_:=List.mem_map.1 hn
  obtain⟨j,hj,rfl⟩:=w_
  have:=hb j hj;omega
 rwa [List.length_map]at this
theorem qDr:∀l:List Int,OwnRows 1 (l.map D.i) (aF l) Mem.nil
 |[]=>OwnRows.nil 1
 | n :: l => ⟨by
   have:=(qDr l).own
   exact OwnS.int this,by
   intro x hx
   have w_:=List.mem_map.1 hx
   obtain⟨m,_,rfl⟩:=w_
   rfl,by simp[aF]⟩
theorem srt_lt(D:List Int)(h:D.Nodup):(D.mergeSort fun x y=>decide (x≤y)).Pairwise (·<·):=by
 have h1:=List.pairwise_mergeSort (le:=fun x y:Int=>decide (x≤y)) (fun a b c h1 h2=>by simp at*;omega) (fun a b=>by simp;omega) D
 have h2:(D.mergeSort fun x y=>decide (x≤y)).Nodup:=((List.mergeSort_perm D _).nodup_iff).2 h
 rw[List.nodup_iff_pairwise_ne]at h2
 exact List.Pairwise.imp (fun⟨a,b⟩=>by simp at a;omega) (h1.and h2)
theorem tK{ks:List Int}{j:Nat}(h:j<ks.length):ks[j]? =some (ks.getD j 0):=by
 rw[List.getD_eq_getElem?_getD,List.getElem?_eq_getElem h];rfl
theorem picked{ks:List Int}(hnd:ks.Nodup){seen:List Nat}(hsn:seen.Nodup)(hsl:∀j∈seen,j<ks.length):(seen.map fun j=>ks.getD j 0).Nodup:=by
 rw[List.nodup_iff_pairwise_ne,List.pairwise_map]
 rw[List.nodup_iff_pairwise_ne]at hsn
 refine hsn.imp_of_mem fun {a b} ha hb hab e=>hab ?_
 have h1:=qFx hnd (tK (hsl a ha))
 have h2:=qFx hnd (tK (hsl b hb))
 rw[e]at h1
 omega
theorem qGq{ks:List Int}{seen:List Nat}(hsl:∀j∈seen,j<ks.length)(hall:∀j,j<ks.length→j∈seen)(n:Int):n∈(seen.map fun j=>ks.getD j 0)↔n∈ks:=by
 rw[List.mem_map]
 constructor
 ·rintro ⟨j, hj, rfl⟩
  exact List.mem_of_getElem? (tK (hsl j hj))
 ·intro h
  have w_:=List.mem_iff_getElem?.1 h
  obtain⟨j,hj⟩:=w_
  have hjl:=(List.getElem?_eq_some_iff.1 hj).1
  refine⟨j,hall j hjl,?_⟩
  rw[tK hjl]at hj
  exact Option.some.inj hj
section
variable {μ h:Mem}
theorem tC{m:Nat}{l:List (Value×Value)}(hm:h m=some (bV l))(hk:MapOk oK l)(hn:l.length≤1000000):
  SpecH Tryz.prog 162 [.map (some m)] μ h fun v μ' h'=>h'=h∧∃xs:List Int,(∀n,n∈xs↔(fZ l (.int .i64 n)).isSome)∧xs.Pairwise (·<·)∧Fresh μ μ' (.sl 1 (xs.map D.i)) v:=by
 have w_:=zO hk
 obtain⟨ks,hks,hnd⟩:=w_
 have hkl:ks.length=l.length:=by
  have:=congrArg List.length hks
  simpa[aF]using this.symm
 refine SpecH.mk [] Tryz.func162 (by kernel_rfl) ?_
 intro r5
 refine qGz l hm ?_
 intro ri hmi hoi
 have hne:m≠ri:=qFt hm hoi
 refine lIn (fun p:List Nat×Option Nat×Nat×List Value=>p.2.1≠none∧p.1.Nodup∧(∀j∈p.1,j<l.length)∧p.2.2.2=aF (p.1.map fun j=>ks.getD j 0))
  (fun(seen,b,c,ys)=>⟨[(3,.row 0 b ys.length c),(7,.val (.pointer (some ⟨ri,0,none⟩)))],[(0,some (.row b c 3 1 ys))],1,μ,h.set ri (cW m l.length seen l.length)⟩) (fun p=>l.length-p.1.length)
  ([],some r5,0,[]) ⟨by simp,by simp,by simp,rfl⟩ (fun(_,_,_,_)=>⟨rfl,rfl⟩) ⟨⟨rfl,rfl,trivial⟩,⟨rfl,trivial⟩,rfl,rfl⟩ ?_
 rintro⟨seen,b,c,ys⟩ ⟨hb,hsn,hsl,hys⟩
 dsimp only at hb hsn hsl hys
 have hslen:=zG hsn hsl
 refine qGs m seen l.length l (Mem.set_at _ _ _) ((Mem.set_ne hne).trans hm) (Nat.le_refl _) (fun hall=>?_) (fun j k v hj hns=>?_)
 rotate_left
 ·have hjl := (List.getElem?_eq_some_iff.1 hj).1
  have hkj:k= .int .i64 (ks.getD j 0):=by
   have h1:(l.map Prod.fst)[j]? =some k:=by simp[hj]
   rw[hks,aF,List.getElem?_map]at h1
   have h2:j<ks.length:=by omega
   rw[List.getElem?_eq_getElem h2]at h1
   simp only[Option.map_some,Option.some.injEq]at h1
   rw[←h1,List.getD_eq_getElem?_getD,List.getElem?_eq_getElem h2];rfl
  subst hkj
  rw[Mem.set_set]
  refine iIn (fun _=>?_) (fun h=>nomatch h)
  refine qJm m l.length seen j l _ v (Mem.set_at _ _ _) ((Mem.set_ne hne).trans hm) hj ?_
  intro r6
  have hyl:ys.length=seen.length:=by rw[hys];simp[aF]
  refine gIn ?_ ?_ fun b' c' hb'=>?_
  ·show(ys.length+1)*8≤_;omega
  ·exact Nat.le_trans (m:=100000000) (show ys.length+1≤_ by omega) (by decide)
  have hsl2:∀i∈seen++[j],i<l.length:=fun i hi=>by
   rcases List.mem_append.1 hi with hi|hi
   ·exact hsl i hi
   ·rw[List.mem_singleton]at hi;subst hi;exact hjl
  have hsn2:(seen++[j]).Nodup:=by
   rw[List.nodup_append]
   refine⟨hsn,by simp,fun a ha b hb e=>?_⟩
   rw[List.mem_singleton]at hb
   subst hb;subst e;exact hns ha
  have hs3:=zG hsn2 hsl2
  rw[List.length_append,List.length_singleton]at hs3
  exact⟨(seen++[j],b',c',ys++[.int .i64 (ks.getD j 0)]),⟨by
   dsimp only
   intro e
   have:=hb' e
   simp at this,hsn2,hsl2,by dsimp only;rw[List.map_append,aF,List.map_append,hys];rfl⟩,by dsimp only;rw[List.length_append,List.length_singleton];omega,⟨⟨rfl,rfl,trivial⟩,⟨rfl,trivial⟩,rfl,rfl⟩⟩
 ·refine iIn (fun h => nomatch h) (fun _ => ?_)
  have hp:=picked hnd hsn (by rw[hkl];exact hsl)
  have hpm:=qGq (by rw[hkl];exact hsl) (by rw[hkl];exact hall) (ks:=ks) (seen:=seen)
  have hDs:(seen.map (fun j=>ks.getD j 0)).length=seen.length:=by simp
  generalize seen.map (fun j=>ks.getD j 0)=D at*
  subst hys
  have w_:=Option.ne_none_iff_exists'.1 hb
  obtain⟨b0,rfl⟩:=w_
  have hDl:(aF D).length=D.length:=by simp[aF]
  refine tQ [] [0] (fun h=>nomatch h) ?_
  intro h' hmem hgiven
  obtain⟨hb0,hlen,hcap,hone,cs,rfl,hcs,htake⟩:=hgiven
  replace hb0:(Mem.set h ri (cW m l.length seen l.length)) b0=none:=hb0
  replace hmem:μ b0=none:=hmem b0 rfl
  obtain⟨rest,rfl⟩:∃rest,cs=aF D++rest:=by
   refine⟨cs.drop ((aF D).length*1),?_⟩
   rw[nE]at htake
   conv=>lhs;rw[←List.take_append_drop ((aF D).length*1) cs,htake]
  have hD6:D.length≤1000000000000:=by omega
  refine qN (qIu (h0:=h.set ri (cW m l.length seen l.length)) (r:=b0) (ty:=3) (rest:=rest) (d:=D.toArray) hb0 (by simp[aF]) (by omega)) fun v μ' h'' hle hap hR=>?_
  obtain⟨rfl,rfl⟩:=hR
  have f1:(D.toArray.toList.mergeSort fun x y=>decide (x≤y)).Pairwise (·<·):=srt_lt D hp
  have f2:∀n,n∈(D.toArray.toList.mergeSort fun x y=>decide (x≤y))↔n∈D:=fun n=>(List.mergeSort_perm D _).mem_iff
  have f3:(D.toArray.toList.mergeSort fun x y=>decide (x≤y)).length=D.length:=(List.mergeSort_perm D _).length_eq
  generalize (D.toArray.toList.mergeSort fun x y=>decide (x≤y))=S at*
  have hbr:b0≠ri:=fun e=>by subst e;rw[Mem.set_at]at hb0;cases hb0
  have hhb:h b0=none:=by rwa [Mem.set_ne hbr]at hb0
  have hb1:μ' b0=none:=by
   cases e:μ' b0 with
   |none=>rfl
   |some o=>have:=hap b0 (by simp[e]);rw[aX,Mem.set_at]at this;cases this
  have hSl:(aF S).length=S.length:=by simp[aF]
  refine dZ ((Mem.nil.set ri (cW m l.length seen l.length)).set b0 (.cells (List.toArray ([]++(S.toArray.toList.map (Value.int .i64)++rest))) 3 (0,0))) h ?_ ⟨rfl,S,fun n=>(f2 n).trans ((hpm n).trans (zH hks n).symm),f1,?_⟩
  ·show Parts (aX (h.set ri (cW m l.length seen l.length)) b0 3 rest S.toArray) _ h
   replace hoi:h ri=none:=hoi
   intro x
   by_cases h1:x=b0
   ·subst h1;exact .inl ⟨by rw[aX,Mem.set_at,Mem.set_at],hhb⟩
   ·by_cases h2 : x = ri
    ·subst h2;exact .inl ⟨by rw[aX,Mem.set_ne h1,Mem.set_ne h1,Mem.set_at,Mem.set_at],hoi⟩
    ·exact .inr ⟨by rw[aX,Mem.set_ne h1,Mem.set_ne h2],by rw[Mem.set_ne h1,Mem.set_ne h2];rfl⟩
  ·have F:=Fresh.ofRow (μ:=μ) (μ1:=μ) (μ':=μ'.join ((Mem.nil.set ri (cW m l.length seen l.length)).set b0 (.cells (List.toArray ([]++(S.toArray.toList.map (Value.int .i64)++rest))) 3 (0,0)))) (b:=some b0) (cap:=c) (qDr S) (fun _ _ h=>nomatch h) (fun _ h=>absurd rfl h) (Mem.Le.refl _) (hle.trans (Mem.le_join _ _)) (fun r e=>by cases e;exact hmem)
    ⟨by omega, fun x hx => by
     have w_:=List.mem_map.1 hx
     obtain⟨n,_,rfl⟩:=w_
     exact⟨rfl,by simp[aB,Value.oneCell']⟩,_,_,by rw[Mem.join_get,hb1,Mem.set_at],by
      simp only[List.length_append,aF,List.length_map]at hcs
      simp[f3];omega,by rw[nE];simp[aF]⟩ (Nat.le_trans (m:=1000000) (by omega) (by decide))
   have e:(aF D).length=(aF S).length:=by omega
   show Fresh μ _ (.sl 1 (S.map Go.Vx.D.i)) (.slice _ (aF D).length c)
   rw[e];exact F
end
end Go.Vx
namespace Go.Vx
open Go.Proofs Classical
theorem wM{α:Type}:∀(l s:List α),l.foldl (fun s n=>s++[n]) s=s++l
 |[],s=>by simp
 |a::l,s=>by rw[List.foldl_cons,wM l];simp
theorem yN{α β:Type}(f:α→List β):∀(l:List α) (s:List β),l.foldl (fun s x=>s++f x) s=s++l.flatMap f
 |[],s=>by simp
 |a::l,s=>by rw[List.foldl_cons,yN f l];simp
section
variable {μ:Mem}
theorem pT{S:Type}(J:S→Mem→Prop)(step:S→Gl→S)(Q:Gl→Prop){k:FuncId}{caps:List Value}
  (hc:∀s h g v,Q g→RepV μ g.d v→J s h→SpecH Tryz.prog k (v::caps) μ h fun r μ' h'=>r= .tuple #[]∧μ'=μ∧J (step s g) h'):
  ∀(g:Gl) {v:Value} (s:S) (h:Mem),RepV μ g.d v→(∀x∈g.all,Q x)→J s h→SpecH Tryz.prog 131 [v,.func (.func k) #[] caps.toArray] μ h fun r μ' h'=>r= .tuple #[]∧μ'=μ∧J (g.all.foldl step s) h':=
 Gl.ind fun g ih v s h hv hq hj=>by
  have w_:=Gl.inv hv
  obtain⟨p,rfl,hts,hgs⟩:=w_
  have hn:=aI hgs.max
  rw[Gl.all_eq]at hq ⊢
  rw[List.foldl_cons]
  refine SpecH.mk [] Tryz.func131 (by kernel_rfl) ?_
  intro r
  refine cOw (hc s h g _ (hq g (by simp)) hv hj) fun v μ' h' hle hap hR=>?_
  obtain⟨rfl,e2,hj'⟩:=hR
  obtain rfl:=e2.symm
  refine lIn (fun p:Nat×Mem=>p.1≤g.goals.length∧J (((g.goals.take p.1).flatMap Gl.all).foldl step (step s g)) p.2)
   (fun(i,h)=>⟨[(1,.val (.func (.func k) #[] caps.toArray)),(10,.val (.slice p.2.1 g.goals.length p.2.2)),(11,.val (.int .i64 g.goals.length)),(12,.val (.int .i64 i))],[],1,μ,h⟩) (fun p=>g.goals.length-p.1)
   (0,h') ⟨by simp,by simpa using hj'⟩ (fun(_,_)=>⟨rfl,rfl⟩) ⟨⟨rfl,rfl,rfl,rfl,trivial⟩,trivial,rfl,rfl⟩ ?_
  rintro⟨i,h1⟩ ⟨hi,hj1⟩
  dsimp only at hi hj1
  refine ifd (fun hlt=>?_) (fun hlt=>?_)
  ·have w_ := aSo (l := g.goals) (i := i) (by omega)
   obtain⟨t,ht⟩:=w_
   have w_:=Gl.elem hgs ht
   obtain⟨ad,p3,hel,hr⟩:=w_
   refine eIn hel ?_
   intro r4
   refine cOw (ih t (mAt ht) _ h1 hr (fun x hx=>hq x (List.mem_cons_of_mem _ (List.mem_flatMap.2 ⟨t,mAt ht,hx⟩))) hj1) fun v μ' h' hle hap hR=>?_
   obtain⟨rfl,e2,hj2⟩:=hR
   obtain rfl:=e2.symm
   refine aC (by omega) (by omega) ⟨(i+1,h'),⟨by dsimp only;omega,?_⟩,by dsimp only;omega,⟨⟨rfl,rfl,rfl,rfl,trivial⟩,trivial,rfl,rfl⟩⟩
   dsimp only
   rw[List.take_add_one,ht,Option.toList_some,List.flatMap_append,List.foldl_append]
   simpa using hj2
  ·obtain rfl : i = g.goals.length := by omega
   rw[List.take_length]at hj1
   exact rPl ⟨rfl,rfl,hj1⟩
def jC(rm:Nat)(s:List Int)(h:Mem):Prop:=∃r l,h rm=some (.cells #[.map (some r)] 192 (0,0))∧h r=some (bV l)∧MapOk oK l∧∀n,(fZ l (.int .i64 n)).isSome↔n∈s
theorem sT{rm:Nat}{s:List Int}{h:Mem}{n:Int}(H:jC rm s h):SpecH Tryz.prog 161 [.int .i64 n,.pointer (some ⟨rm,0,none⟩)] μ h fun r μ' h'=>r= .tuple #[]∧μ'=μ∧jC rm (s++[n]) h':=by
 obtain⟨r,l,h1,h2,hk,hg⟩:=H
 have e1:rm≠r:=qKr h1 h2 (by simp[bV])
 refine SpecH.mk [] Tryz.func161 (by kernel_rfl) ?_
 refine oIn [.map (some r)] rfl (gI h1) ?_
 refine gX l h2 (hk.weaken (by rintro _ ⟨n,rfl⟩;rfl)) rfl ?_
 refine rPl ⟨rfl,rfl,r,_,?_,Mem.set_at _ _ _,hk.int _,fun m=>?_⟩
 ·dsimp only;rw[Mem.set_ne e1];exact h1
 ·rw [jM, List.mem_append, List.mem_singleton]
  by_cases e:m=n
  ·simp[e]
  ·rw[if_neg e,hg];simp[e]
theorem tT{rm:Nat}{s:List Int}{h:Mem}{g:Gl}{v:Value}(hok:∀t∈g.terms,t.Ok)(hv:RepV μ g.d v)(H:jC rm s h):SpecH Tryz.prog 159 [v,.pointer (some ⟨rm,0,none⟩)] μ h fun r μ' h'=>r= .tuple #[]∧μ'=μ∧jC rm (s++g.tvars) h':=by
 have w_:=Gl.inv hv
 obtain⟨p,rfl,hts,hgs⟩:=w_
 have w_:=eY hok
 obtain⟨xs,hxs,hxo⟩:=w_
 have htv:g.tvars=xs.flatMap T.vars:=by
  rw[Gl.tvars,hxs,List.map_map]
  congr 1
  exact(List.map_congr_left fun x _=>T.toT_tm x).trans (List.map_id _)
 rw[htv]
 rw[hxs,List.length_map]at hts ⊢
 have hn:=aI hts.max
 refine SpecH.mk [] Tryz.func159 (by kernel_rfl) ?_
 intro r
 refine lIn (fun p:Nat×Mem=>p.1≤xs.length∧jC rm (s++(xs.take p.1).flatMap T.vars) p.2)
  (fun(i,h)=>⟨[(1,.val (.pointer (some ⟨rm,0,none⟩))),(6,.val (.slice p.1.1 xs.length p.1.2)),(7,.val (.int .i64 xs.length)),(8,.val (.int .i64 i))],[],1,μ,h⟩) (fun p=>xs.length-p.1)
  (0,h) ⟨by simp,by simpa using H⟩ (fun(_,_)=>⟨rfl,rfl⟩) ⟨⟨rfl,rfl,rfl,rfl,trivial⟩,trivial,rfl,rfl⟩ ?_
 rintro⟨i,h1⟩ ⟨hi,hj1⟩
 dsimp only at hi hj1
 refine ifd (fun hlt=>?_) (fun hlt=>?_)
 ·have w_ := aSo (l := xs) (i := i) (by omega)
  obtain⟨x,hx'⟩:=w_
  have w_:=Tm.elem (i:=i) (t:=x.tm) hts (by simp[hx'])
  obtain⟨ad,p3,hel,hto⟩:=w_
  refine eIn hel ?_
  intro r4
  refine cOw (mG (jC rm) (fun s n=>s++[n]) (fun _ _=>True) (fun s h n _ hj=>sT hj) x _ h1 hto (fun _ _ _ _=>trivial) hj1) fun v μ' h' hle hap hR=>?_
  obtain⟨rfl,e2,hj2⟩:=hR
  obtain rfl:=e2.symm
  rw[wM]at hj2
  refine aC (by omega) (by omega) ⟨(i+1,h'),⟨by dsimp only;omega,?_⟩,by dsimp only;omega,⟨⟨rfl,rfl,rfl,rfl,trivial⟩,trivial,rfl,rfl⟩⟩
  dsimp only
  rw[List.take_add_one,hx',Option.toList_some,List.flatMap_append]
  simpa using hj2
 ·obtain rfl : i = xs.length := by omega
  rw[List.take_length]at hj1
  exact rPl ⟨rfl,rfl,hj1⟩
theorem wR{g:Gl}{v:Value}(hS:g.Sh)(hv:RepV μ g.d v):Spec Tryz.prog 130 [v] μ fun v μ'=>∃xs:List Int,(∀n,n∈xs↔n∈g.vars)∧xs.Pairwise (·<·)∧Fresh μ μ' (.sl 1 (xs.map D.i)) v:=by
 have w_:=Gl.invV hv
 obtain⟨p,rfl⟩:=w_
 refine Spec.mkO [3,4] Tryz.func130 (by kernel_rfl) ?_
 intro r
 intro rM hmM hoM r3 hm3 ho3
 refine sIn [.map none] 192 (Mem.set_at _ _ _) rfl (Nat.le_refl _) ?_
 dsimp only at hmM hoM hm3 ho3
 have n1:rM≠r3:=fun e=>by subst e;simp[Mem.set_get]at ho3
 generalize hh:Mem.set (Mem.set _ r3 _) r3 _=h0
 have H0:jC r3 [] h0:=by
  subst hh
  refine⟨rM,[],?_,?_,MapOk.nil,fun n=>by simp[fZ]⟩
  ·rw[Mem.set_at];rfl
  ·dsimp only;rw[Mem.set_ne n1,Mem.set_ne n1,Mem.set_at]
 refine cOw (pT (jC r3) (fun s g=>s++g.tvars) (fun g=>∀t∈g.terms,t.Ok) (fun s h g v hq hv hj=>tT hq hv hj) g [] h0 hv (fun x hx=>(Gl.Sh.all g hS x hx).top.tm) H0) fun v μ' h' hle hap hR=>?_
 obtain⟨rfl,e2,hj⟩:=hR
 obtain rfl:=e2.symm
 rw[yN]at hj
 obtain⟨r,l,h1,h2,hk,hg⟩:=hj
 have hlen:l.length≤1000000:=by
  have w_:=zO hk
  obtain⟨ks,hks,hnd⟩:=w_
  have:=nodup_range (N:=100001) hnd fun n hn=>by
   have h3:=(hg n).1 ((zH hks n).2 hn)
   have:=Gl.vars_range hS n (by simpa[Gl.vars]using h3)
   omega
  have h4:=congrArg List.length hks
  simp only[aF,List.length_map]at h4
  omega
 refine oIn [.map (some r)] rfl (gI h1) ?_
 refine cOw (tC h2 hk hlen) fun v μ2 h2' hle2 hap2 hR2=>?_
 obtain⟨rfl,xs,g1,g2,g3⟩:=hR2
 exact rPl ⟨xs,fun n=>(g1 n).trans ((hg n).trans (by simp[Gl.vars])),g2,g3⟩
theorem wP{g:Gl}{v:Value}{n:Int}(hS:g.Sh)(hv:RepV μ g.d v):Spec Tryz.prog 88 [v,.int .i64 n] μ fun r _=>r= .bool (decide (∀m∈g.vars,m<n)):=by
 have w_:=Gl.invV hv
 obtain⟨p,rfl⟩:=w_
 refine Spec.mk Tryz.func88 (by kernel_rfl) ?_
 intro r
 refine cPl (wR hS hv) fun v1 μ1 hle1 hR=>?_
 obtain⟨xs,g1,g2,g3⟩:=hR
 have w_:=Rep.sl g3.rep
 obtain⟨b,c,rfl,hsl⟩:=w_
 rw[List.length_map]at hsl ⊢
 have hn:=aI hsl.max
 refine lIn (fun i:Nat=>i≤xs.length∧∀m∈xs.take i,m<n) (fun i=>⟨[(1,.val (.int .i64 n)),(8,.val (.slice b xs.length c)),(9,.val (.int .i64 xs.length)),(10,.val (.int .i64 i))],[],1,μ1,Mem.nil⟩) (fun i=>xs.length-i)
  0 ⟨by simp,by simp⟩ (fun _=>⟨rfl,rfl⟩) ⟨⟨rfl,rfl,rfl,rfl,trivial⟩,trivial,rfl,rfl⟩ ?_
 rintro i ⟨hi,hall⟩
 refine ifd (fun hlt=>?_) (fun hlt=>?_)
 ·have w_ := aSo (l := xs) (i := i) (by omega)
  obtain⟨x,hx⟩:=w_
  have w_:=Ints.elem hsl hx
  obtain⟨ad,hel⟩:=w_
  refine eIn hel ?_
  refine ifd (fun hge=>rPl (isF fun hh=>?_)) (fun hge=>?_)
  ·have:=hh x ((g1 x).1 (mAt hx));omega
  refine aC (by omega) (by omega) ⟨i+1,⟨by omega,fun y hy=>?_⟩,by omega,⟨⟨rfl,rfl,rfl,rfl,trivial⟩,trivial,rfl,rfl⟩⟩
  rw[List.take_add_one,hx,Option.toList_some,List.mem_append,List.mem_singleton]at hy
  rcases hy with hy|rfl
  ·exact hall y hy
  ·omega
 ·obtain rfl : i = xs.length := by omega
  rw[List.take_length]at hall
  exact rPl (isT fun m hm=>hall m ((g1 m).2 hm))
end
end Go.Vx
namespace Go.Vx
open Go.Proofs Classical
section
variable {μ:Mem}
theorem fX{p:Pg}{s:ByteArray}{v:Value}(hv:RepV μ p.d v):aQ Tryz.prog 86 [v,.string s] μ (.int .i64 (dA p s)):=by
 have w_:=Pg.inv hv
 obtain⟨q,rfl,hsl⟩:=w_
 have hn:=aI hsl.max
 refine Spec.mk Tryz.func86 (by kernel_rfl) ?_
 intro r
 refine lIn (fun i:Nat=>i≤p.rels.length∧dQ (p.rels.drop i) i s=dA p s) (fun i=>⟨[(1,.val (.string s)),(8,.val (.slice q.1 p.rels.length q.2)),(9,.val (.int .i64 p.rels.length)),(10,.val (.int .i64 i))],[],1,μ,Mem.nil⟩) (fun i=>p.rels.length-i)
  0 ⟨by omega,rfl⟩ (fun _=>⟨rfl,rfl⟩) ⟨⟨rfl,rfl,rfl,rfl,trivial⟩,trivial,rfl,rfl⟩ ?_
 rintro i ⟨hi,hJ⟩
 refine ifd (fun hlt=>?_) (fun hlt=>?_)
 ·have w_ := aSo (l := p.rels) (i := i) (by omega)
  obtain⟨x,hx⟩:=w_
  have w_:=Rl.elem hsl hx
  obtain⟨ad,q2,hel,hr⟩:=w_
  rw[cB hx,dQ]at hJ
  refine eIn hel ?_
  intro r2
  refine ifd (fun e=>?_) (fun e=>?_)
  ·rw [if_pos e] at hJ
   exact rGv (by rw[←hJ]) rfl
  ·rw [if_neg e] at hJ
   exact aC (by omega) (by omega) ⟨i+1,⟨by omega,hJ⟩,by omega,⟨⟨rfl,rfl,rfl,rfl,trivial⟩,trivial,rfl,rfl⟩⟩
 ·obtain rfl : i = p.rels.length := by omega
  rw[List.drop_length]at hJ
  exact rGv (by rw[←hJ];rfl) rfl
end
end Go.Vx
namespace Go.Vx
open Go.Proofs Classical
theorem zQ{α:Type}(f:α→Prop):∀(l:List α) (b:Bool),l.foldl (fun b x=>b&&decide (f x)) b=(b&&decide (∀x∈l,f x))
 |[],b=>by simp
 |a::l,b=>by
  rw[List.foldl_cons,zQ f l,Bool.and_assoc]
  congr 1
  by_cases h:f a
  ·simp[h]
  ·simp[h]
section
variable {μ:Mem}
theorem vN{p:Pg}{q:Pg.P}{rp rf:Nat}{b:Bool}{h:Mem}{g:Gl}{v:Value}(hp:RepV μ p.d (.agg #[.slice q.1 p.rels.length q.2]))(hrl:Sl μ 7 q.1 p.rels.length (p.rels.map Rl.d))(hat:μ rp=some (.cells #[.slice q.1 p.rels.length q.2] 25 (0,0)))
  (hv:RepV μ g.d v) (hf:h rf=some (.cells #[.bool b] 4 (0,0))):
  SpecH Tryz.prog 132 [v,.pointer (some ⟨rp,0,none⟩),.pointer (some ⟨rf,0,none⟩)] μ h fun r μ' h'=>r= .tuple #[]∧μ'=μ∧h' rf=some (.cells #[.bool (b&&decide (cC p g))] 4 (0,0)):=by
 have w_:=Gl.inv hv
 obtain⟨q2,rfl,hts,hgs⟩:=w_
 refine SpecH.mk [] Tryz.func132 (by kernel_rfl) ?_
 intro r
 refine ifd (fun h9=>?_) (fun h9=>?_)
 rotate_left
 ·have : cC p g := fun k => absurd k h9
  exact rPl ⟨rfl,rfl,by rw[decide_eq_true this,Bool.and_true];exact hf⟩
 refine mX [.slice q.1 p.rels.length q.2] rfl (gI hat) ?_
 refine cGv (fX hp) ?_
 refine ifd (fun h0=>?_) (fun h0=>?_)
 ·have : ¬ cC p g := pR h9 (by omega)
  refine sIn [.bool b] 4 hf rfl (Nat.le_refl _) ?_
  exact rPl ⟨rfl,rfl,by rw[decide_eq_false this,Bool.and_false];exact Mem.set_at _ _ _⟩
 ·have w_ := vQ (Int.not_lt.1 h0)
  obtain⟨j,rl,e,hr⟩:=w_
  have w_:=Rl.elem hrl hr
  obtain⟨ad,q3,hel,hrr⟩:=w_
  have hiff:=oZ h9 e hr
  refine mX [.slice q.1 p.rels.length q.2] rfl (fun j v hj=>by show μ.cell (((⟨rp,0,none⟩:Addr).add 0).add j)=some v;rw[add_add,Nat.zero_add];exact gI hat j v hj) ?_
  rw[e]
  refine eIn hel ?_
  refine aL (fun hne=>?_) (fun heq=>?_)
  ·have : ¬ cC p g := fun k => hne (hiff.1 k)
   refine sIn [.bool b] 4 hf rfl (Nat.le_refl _) ?_
   exact rPl ⟨rfl,rfl,by rw[decide_eq_false this,Bool.and_false];exact Mem.set_at _ _ _⟩
  ·have : cC p g := hiff.2 heq
   exact rPl ⟨rfl,rfl,by rw[decide_eq_true this,Bool.and_true];exact hf⟩
theorem xP{p:Pg}{vp v:Value}{g:Gl}(hp:RepV μ p.d vp)(hv:RepV μ g.d v):Spec Tryz.prog 89 [vp,v] μ fun r _=>r= .bool (decide (FitAll p g)):=by
 have w_:=Pg.inv hp
 obtain⟨q,rfl,hrl⟩:=w_
 have w_:=Gl.invV hv
 obtain⟨q2,rfl⟩:=w_
 refine Spec.mkO [5] Tryz.func89 (by kernel_rfl) ?_
 intro r1 r2
 intro rf hmf hof
 refine sIn [.bool false] 4 (Mem.set_at _ _ _) rfl (Nat.le_refl _) ?_
 generalize hh:Mem.set (Mem.set _ rf _) rf _=h0
 have hf0:h0 rf=some (.cells #[.bool true] 4 (0,0)):=by subst hh;rw[Mem.set_at];rfl
 refine tQ [0] [] (fun _=>rfl) ?_
 intro μ1 hle1 hno1 hat1
 refine qN (pT (fun b h=>h rf=some (.cells #[.bool b] 4 (0,0))) (fun b x=>b&&decide (cC p x)) (fun _=>True) (fun b h x w _ hw hj=>vN (hp.mono hle1) (hrl.mono hle1) hat1 hw hj) g true h0 (hv.mono hle1) (fun _ _=>trivial) hf0) fun v μ2 h' hle hap hR=>?_
 obtain⟨rfl,e2,hj⟩:=hR
 obtain rfl:=e2.symm
 rw[zQ,Bool.true_and]at hj
 refine oIn [.bool _] rfl (gI hj) ?_
 exact rPl (isI ⟨fun h=>FitAll.of h,fun h=>h.all⟩)
end
end Go.Vx
namespace Go.Vx
open Go.Proofs Classical
section
variable {μ:Mem}
theorem nI{p:Pg}{v:Value}(hp:RepV μ p.d v):Spec Tryz.prog 45 [v] μ fun r _=>r= .bool (decide p.Ok):=by
 have w_:=Pg.inv hp
 obtain⟨q,rfl,hrl⟩:=w_
 refine Spec.mk Tryz.func45 (by kernel_rfl) ?_
 intro r1
 refine ifd (fun h8=>rPl (isF fun h=>by have:=h.1;omega)) (fun h8=>?_)
 refine lIn (fun x:Nat×Mem=>x.1≤p.rels.length∧μ.Le x.2∧∀(j:Nat) (r:Rl),j<x.1→p.rels[j]? =some r→RelOk p j r)
  (fun(i,μ')=>⟨[(1,.loc 0 r1 0),(10,.val (.slice q.1 p.rels.length q.2)),(11,.val (.int .i64 p.rels.length)),(12,.val (.int .i64 i))],[(0,some (.cells r1 [.val (.slice q.1 p.rels.length q.2)] 25))],1,μ',Mem.nil⟩) (fun x=>p.rels.length-x.1)
  (0,μ) ⟨by simp,Mem.Le.refl _,fun j r hj=>by simp at hj⟩ (fun(_,_)=>⟨rfl,rfl⟩) ⟨⟨rfl,rfl,rfl,rfl,trivial⟩,⟨rfl,trivial⟩,rfl,rfl⟩ ?_
 rintro⟨i,μ'⟩ ⟨hi,hle,hall⟩
 dsimp only at hi hle hall
 refine ifd (fun hlt=>?_) (fun hlt=>?_)
 ·have w_ := aSo (l := p.rels) (i := i) (by omega)
  obtain⟨x,hx⟩:=w_
  have w_:=Rl.elemA (hrl.mono hle) hx
  obtain⟨ad,q2,hel,hr,hb⟩:=w_
  have hb:RepV μ' x.body.d (.agg (x.body.cs q2).toArray):=hb
  have bad:¬RelOk p i x→Value.bool false= .bool (decide p.Ok):=fun h=>isF fun k=>h (k.2 i x hx)
  refine eIn hel ?_
  intro r2
  refine cGv (gN _ _) ?_
  refine aL (fun h=>rPl (bad fun k=>h k.name)) (fun g1=>?_)
  refine cGv (fX (hp.mono hle)) ?_
  refine aL (fun h=>rPl (bad fun k=>h k.at_)) (fun g2=>?_)
  refine ifd (fun h=>rPl (bad fun k=>by have:=k.ar0;omega)) (fun g3=>?_)
  refine ifd (fun h=>rPl (bad fun k=>by have:=k.ar4;omega)) (fun g4=>?_)
  refine ifd (fun h=>rPl (bad fun k=>by have:=k.lo0;omega)) (fun g5=>?_)
  refine ifd (fun h=>rPl (bad fun k=>by have:=k.lo8;omega)) (fun g6=>?_)
  refine cGv (tR x.body hb (by decide) (by decide)) ?_
  refine ifd (fun h=>rPl (bad fun k=>Gl.nodes_lt h ⟨k.body,by have:=k.size;omega⟩)) (fun h=>?_)
  have w_:=Gl.nodes_ge h
  obtain⟨g7,g8,_⟩:=w_
  refine aC (by omega) (by omega) ?_
  refine cPl (wP g7 hb) fun v1 μ1 hle1 hR=>?_
  obtain rfl:=hR
  refine aL (fun h=>rPl (bad fun k=>h k.vars)) (fun g9=>?_)
  refine cPl (xP ((hp.mono hle).mono hle1) (hb.mono hle1)) fun v2 μ2 hle2 hR=>?_
  obtain rfl:=hR
  refine aL (fun h=>rPl (bad fun k=>h k.calls)) (fun g10=>?_)
  have hok:RelOk p i x:=⟨g2,g1,by omega,by omega,by omega,by omega,g7,by omega,g9,g10⟩
  refine aC (by omega) (by omega) ⟨(i+1,μ2),⟨by dsimp only;omega,(hle.trans hle1).trans hle2,fun j r hj hr=>?_⟩,by dsimp only;omega,⟨⟨rfl,rfl,rfl,rfl,trivial⟩,⟨rfl,trivial⟩,rfl,rfl⟩⟩
  rcases Nat.lt_or_ge j i with h6|h6
  ·exact hall j r h6 hr
  ·obtain rfl : j = i := by omega
   rw[hx]at hr;cases hr;exact hok
 ·obtain rfl : i = p.rels.length := by omega
  exact rPl (isT ⟨by omega,fun j r hr=>hall j r (List.getElem?_eq_some_iff.1 hr).1 hr⟩)
end
end Go.Vx
namespace Go.Vx
open Go.Proofs Classical
section
variable {μ:Mem}
theorem uM(s:ByteArray):∀(x:T) {v:Value},RepV μ x.tm.d v→aQ Tryz.prog 137 [v,.string s] μ (.bool (decide (x.hasSym s))):=
 T.ind fun x ih v hv=>by
  have w_:=T.inv hv
  obtain⟨b1,c1,rfl,hs1⟩:=w_
  refine Spec.mk Tryz.func137 (by kernel_rfl) ?_
  intro r
  refine ifd (fun h4=>?_) (fun h4=>?_)
  ·have w_ := T.kind4 h4
   obtain⟨a,b,rfl⟩:=w_
   have w_:=T.arg hs1 (i:=0) rfl
   obtain⟨ad1,p1,e1,g1⟩:=w_
   have w_:=T.arg hs1 (i:=1) rfl
   obtain⟨ad3,p3,e3,g3⟩:=w_
   refine eIn e1 (cGv (ih a (by simp[T.args]) g1) ?_)
   refine ifd (fun h=>rGv (isT (.inl h)) rfl) (fun h=>?_)
   refine eIn e3 (cGv (ih b (by simp[T.args]) g3) (rGv ?_ rfl))
   congr 1
   rw[Bool.eq_iff_iff,decide_eq_true_eq,decide_eq_true_eq]
   exact⟨.inr,fun k=>k.elim (fun k=>absurd k h) id⟩
  ·have hno:¬∃y∈x.args,y.hasSym s:=fun⟨y,hy,_⟩=>by
    cases x<;>first|(simp[T.args]at hy;done)|exact h4 rfl
   refine ifd (fun h2=>rGv ?_ rfl) (fun h2=>rGv (isF fun k=>((T.hasSym_args s x).1 k).elim (fun k=>h2 k.1) hno) rfl)
   congr 1
   rw[Bool.eq_iff_iff,decide_eq_true_eq,decide_eq_true_eq]
   exact⟨fun k=>(T.hasSym_args s x).2 (.inl ⟨h2,k⟩),fun k=>((T.hasSym_args s x).1 k).elim (fun k=>k.2) fun k=>absurd k hno⟩
end
end Go.Vx
namespace Go.Vx
open Go.Proofs Classical
section
variable {μ:Mem}
theorem nX(a b:Int):aQ Tryz.prog 165 [.int .i64 a,.int .i64 b] μ (.int .i64 (jY a b)):=by
 by_cases h:a=b
 ·rw [jY, if_pos h]
  refine Spec.mk Tryz.func165 (by kernel_rfl) ?_
  refine ifd (fun h1=>by omega) (fun h1=>?_)
  exact ifd (fun h2=>by omega) (fun h2=>rGv rfl rfl)
 ·rw[jY,if_neg h];exact iJ a b h
end
end Go.Vx
namespace Go.Vx
open Go.Proofs Classical
section
variable {μ:Mem}
set_option maxHeartbeats 8000000 in
theorem vX:∀(g:Gl) {μ:Mem} {v:Value},RepV μ g.d v→g.Sh→g.cnt≤80→Spec Tryz.prog 92 [v] μ fun v μ'=>optC (Cls μ') g.cl v:=
 Gl.ind fun g ih μ v hv hS hcnt=>by
  have hv0:=hv
  have w_:=Gl.inv hv
  obtain⟨p,rfl,hts,hgs⟩:=w_
  have hg8:=hS.top.gl
  have hce:=Gl.cnt_eq1 g
  refine Spec.mk Tryz.func92 (by kernel_rfl) ?_
  intro r1 r19
  refine ifd (fun h0=>?_) (fun h0=>?_)
  ·intro r27 μ1 hle1 hno1 hat1 r28
   refine rFz [3] fun μ2 hle2 hno2 hat2=> .inl ?_
   rw[Gl.cl_eq,if_pos h0]
   exact⟨_,rfl,Rows.sl hat2 (Rows.one (d:=csD []) ((Rows.sl (μ:=μ1) (ds:=[]) hat1 .nil (Nat.zero_le _)).mono hle2) rfl) (show 1≤maxLen by decide)⟩
  refine ifd (fun h1=>?_) (fun h1=>?_)
  ·refine rFz [1] fun μ2 hle2 hno2 hat2 => .inl ?_
   rw[Gl.cl_eq,if_neg h0,if_pos h1]
   exact⟨_,rfl,Rows.sl hat2 .nil (Nat.zero_le _)⟩
  refine ifd (fun h8=>?_) (fun h8=>?_)
  ·have hcl : g.cl = Gl.clOr g.goals [] := by rw [Gl.cl_eq, if_neg h0, if_neg h1, if_pos h8]
   refine lIn (fun q:Nat×List (List Gl)×Option Nat×Nat×List Value×Mem=>q.1≤g.goals.length∧μ.Le q.2.2.2.2.2∧Rows q.2.2.2.2.2 1 (q.2.1.map csD) q.2.2.2.2.1∧g.cl=Gl.clOr (g.goals.drop q.1) q.2.1∧q.2.1.length≤64)
    (fun(i,acc,b,c,ys,μ')=>⟨[(4,.row 1 b ys.length c),(34,.val (.slice p.2.1 g.goals.length p.2.2)),(35,.val (.int .i64 g.goals.length)),(36,.val (.int .i64 i))],[(1,some (.row b c 71 1 ys))],2,μ',Mem.nil⟩) (fun q=>g.goals.length-q.1)
    (0,[],some r19,0,[],μ) ⟨Nat.zero_le _,Mem.Le.refl _,.nil,hcl,by simp⟩ (fun(_,_,_,_,_,_)=>⟨rfl,rfl⟩) ⟨⟨rfl,rfl,rfl,rfl,trivial⟩,⟨rfl,trivial⟩,rfl,rfl⟩ ?_
   rintro⟨i,acc,b,c,ys,μ'⟩ ⟨hi,hle,hrows,hJ,hmax⟩
   dsimp only at hi hle hrows hJ hmax
   have hyl:=hrows.len
   rw[List.length_map]at hyl
   refine ifd (fun hlt=>?_) (fun hlt=>?_)
   ·have w_ := aSo (l := g.goals) (i := i) (by omega)
    obtain⟨x,hx⟩:=w_
    have w_:=Gl.elem (hgs.mono hle) hx
    obtain⟨ad,q,hel,hr⟩:=w_
    have hxc:=Gl.cnts_take hx
    have hxl:=Gl.cnts_le g.goals (i+1)
    refine eIn hel ?_
    intro r5
    refine cPl (ih x (mAt hx) hr (hS.sub x (mAt hx)) (by omega)) fun v1 μ1 hle1 hR=>?_
    rw[cB hx,Gl.clOr]at hJ
    cases e:x.cl with
    |none=>
     rw[e]at hR hJ
     obtain rfl:=hR
     refine iIn (fun _=>?_) (fun h=>nomatch h)
     exact rPl (by rw[hJ];rfl)
    |some L=>
     rw[e]at hR
     rw[e,Option.bind_some]at hJ
     obtain⟨tv,rfl,hLr⟩:=hR
     obtain⟨pv,rfl⟩:=hLr.inv
     have hLb:=Gl.cl_bnd x e
     have w_:=Rep.srcAll hLr
     obtain⟨vs,hvr,hvl,hsrc⟩:=w_
     refine iIn (fun h=>nomatch h) (fun _=>?_)
     refine aN vs hsrc ?_
     refine gIn ?_ ?_ fun b9 c9 _=>?_
     ·show(ys.length+vs.length)*24≤_;omega
     ·exact Nat.le_trans (m:=100000000) (show ys.length+vs.length≤_ by omega) (by decide)
     have hal:(ys++vs).length=(acc++L).length:=by rw[List.length_append,List.length_append];omega
     refine ifd (fun h64=>?_) (fun h64=>?_)
     ·rw [if_neg (by omega)] at hJ
      exact rPl (by rw[hJ];rfl)
     ·rw [if_pos (by omega)] at hJ
      refine aC (by omega) (by omega) ⟨(i+1,acc++L,b9,c9,_,μ1),⟨by dsimp only;omega,hle.trans hle1,?_,hJ,by dsimp only;omega⟩,by dsimp only;omega,⟨⟨rfl,rfl,rfl,rfl,trivial⟩,⟨rfl,trivial⟩,rfl,rfl⟩⟩
      dsimp only
      rw[List.map_append]
      exact(hrows.mono hle1).append hvr
   ·obtain rfl : i = g.goals.length := by omega
    rw[List.drop_length,Gl.clOr]at hJ
    refine rFz [1] fun μ2 hle2 hno2 hat2=> .inl ?_
    rw[hJ]
    exact⟨_,rfl,Rows.sl hat2 (hrows.mono hle2) (Nat.le_trans (m:=100000000) (by omega) (by decide))⟩
  refine ifd (fun h7=>?_) (fun h7=>?_)
  rotate_left
  ·intro r23 μ1 hle1 hno1 hat1 r24
   refine rFz [3] fun μ2 hle2 hno2 hat2=> .inl ?_
   rw[Gl.cl_eq,if_neg h0,if_neg h1,if_neg h8,if_neg h7]
   exact⟨_,rfl,Rows.sl hat2 (Rows.one (d:=csD [g]) ((Rows.sl (μ:=μ1) (ds:=[g.d]) hat1 (Rows.one (hv0.mono hle1) (Gl.d_n g)) (show 1≤maxLen by decide)).mono hle2) rfl) (show 1≤maxLen by decide)⟩
  have hcl:g.cl=Gl.clAnd g.goals [[]]:=by rw[Gl.cl_eq,if_neg h0,if_neg h1,if_neg h8,if_pos h7]
  intro r56 μ1 hle1 hno1 hat1 r57
  refine lFz (fun q:Nat×List (List Gl)×Option Addr×Nat×Mem=>q.1≤g.goals.length∧μ.Le q.2.2.2.2∧Cls q.2.2.2.2 q.2.1 (.slice q.2.2.1 q.2.1.length q.2.2.2.1)∧g.cl=Gl.clAnd (g.goals.drop q.1) q.2.1∧(∀c∈q.2.1,c.length≤Gl.cnts (g.goals.take q.1))∧q.2.1.length≤64)
   (fun(i,acc,b,c,μ')=>⟨[(4,.val (.slice b acc.length c)),(9,.val (.bool false)),(59,.val (.slice p.2.1 g.goals.length p.2.2)),(60,.val (.int .i64 g.goals.length)),(61,.val (.int .i64 i))],[],0,μ',Mem.nil⟩) (fun q=>g.goals.length-q.1) [3]
   (fun(_,_,_,_,_)=>⟨rfl,rfl⟩) (fun μ2 hle2 hno2 hat2=>⟨(0,[[]],some ⟨r57,0,none⟩,1,μ2),⟨Nat.zero_le _,hle1.trans hle2,Rows.sl hat2 (Rows.one (d:=csD []) ((Rows.sl (μ:=μ1) (ds:=[]) hat1 .nil (Nat.zero_le _)).mono hle2) rfl) (show 1≤maxLen by decide),hcl,by simp,by simp⟩,⟨rfl,rfl,rfl,rfl,rfl,trivial⟩,trivial,rfl,rfl⟩) ?_
  rintro⟨i,acc,b,c,μ'⟩ ⟨hi,hle,hacc,hJ,hlen,hmax⟩
  dsimp only at hi hle hacc hJ hlen hmax
  refine ifd (fun hlt=>?_) (fun hlt=>?_)
  rotate_left
  ·obtain rfl : i = g.goals.length := by omega
   rw[List.drop_length,Gl.clAnd]at hJ
   exact rPl (by rw[hJ];exact⟨_,rfl,hacc⟩)
  have w_:=aSo (l:=g.goals) (i:=i) (by omega)
  obtain⟨x,hx⟩:=w_
  have w_:=Gl.elem (hgs.mono hle) hx
  obtain⟨ad,q,hel,hr⟩:=w_
  have hxc:=Gl.cnts_take hx
  have hxl:=Gl.cnts_le g.goals (i+1)
  refine eIn hel ?_
  intro r11
  refine cPl (ih x (mAt hx) hr (hS.sub x (mAt hx)) (by omega)) fun v3 μ3 hle3 hR=>?_
  rw[cB hx,Gl.clAnd]at hJ
  obtain⟨o,e⟩:∃o,x.cl=o:=⟨_,rfl⟩
  rw[e]at hR hJ
  match o,e,hR,hJ with
  |none,e,hR,hJ=>
  obtain rfl:=hR
  refine iIn (fun _=>?_) (fun h=>nomatch h)
  exact rPl (by rw[hJ];rfl)
  |some L,e,hR,hJ=>
  obtain⟨tv,rfl,hLr⟩:=hR
  obtain⟨pv,rfl⟩:=hLr.inv
  have hLb:=Gl.cl_bnd x e
  have hLl:=hLb.1
  have hLm:=hLb.2
  rw[Option.bind_some]at hJ
  refine iIn (fun h=>nomatch h) (fun _=>?_)
  intro r64
  have hasl:=(Cls.sl (RepV.mono hle3 hacc)).1
  refine lIn (fun q:Nat×Option Nat×Nat×List Value×Mem=>q.1≤acc.length∧μ3.Le q.2.2.2.2∧Rows q.2.2.2.2 1 ((eB (acc.take q.1) L).map csD) q.2.2.2.1)
   (fun(j,b1,c1,ys,μ4)=>⟨[(9,.val (.bool false)),(12,.val (.slice pv.1 L.length pv.2)),(14,.row 1 b1 ys.length c1),(59,.val (.slice p.2.1 g.goals.length p.2.2)),(60,.val (.int .i64 g.goals.length)),(61,.val (.int .i64 i)),(73,.val (.slice b acc.length c)),(74,.val (.int .i64 acc.length)),(75,.val (.int .i64 j))],[(1,some (.row b1 c1 71 1 ys))],2,μ4,Mem.nil⟩) (fun q=>acc.length-q.1)
   (0,some r64,0,[],μ3) ⟨Nat.zero_le _,Mem.Le.refl _,.nil⟩ (fun(_,_,_,_,_)=>⟨rfl,rfl⟩) ⟨⟨rfl,rfl,rfl,rfl,rfl,rfl,rfl,rfl,rfl,trivial⟩,⟨rfl,trivial⟩,rfl,rfl⟩ ?_
  rintro⟨j,b1,c1,ys,μ4⟩ ⟨hj,hle4,hrows⟩
  dsimp only at hj hle4 hrows
  have hyl:=hrows.len
  rw[List.length_map,gW,List.length_take]at hyl
  have hmul:min j acc.length*L.length≤64*64:=Nat.mul_le_mul (by omega) (by omega)
  refine ifd (fun hlt2=>?_) (fun hlt2=>?_)
  ·have w_ := aSo (l := acc) (i := j) (by omega)
   obtain⟨xa,hxa⟩:=w_
   have w_:=gD (hasl.mono hle4) hxa
   obtain⟨ad2,pa,hel2,hra⟩:=w_
   have hxal:=hlen xa (mAt hxa)
   have hmul2:j*L.length≤64*64:=Nat.mul_le_mul (by omega) (by omega)
   rw[Nat.min_eq_left (by omega)]at hyl
   refine eIn hel2 ?_
   refine lIn (fun q:Nat×Option Nat×Nat×List Value×Mem=>q.1≤L.length∧μ4.Le q.2.2.2.2∧Rows q.2.2.2.2 1 ((eB (acc.take j) L++(L.take q.1).map fun y=>xa++y).map csD) q.2.2.2.1)
    (fun(k,b1,c1,ys,μ5)=>⟨[(9,.val (.bool false)),(12,.val (.slice pv.1 L.length pv.2)),(14,.row 1 b1 ys.length c1),(16,.val (.slice pa.1 xa.length pa.2)),(59,.val (.slice p.2.1 g.goals.length p.2.2)),(60,.val (.int .i64 g.goals.length)),(61,.val (.int .i64 i)),(73,.val (.slice b acc.length c)),(74,.val (.int .i64 acc.length)),(75,.val (.int .i64 j)),(79,.val (.slice pv.1 L.length pv.2)),(80,.val (.int .i64 L.length)),(81,.val (.int .i64 k))],[(1,some (.row b1 c1 71 1 ys))],2,μ5,Mem.nil⟩) (fun q=>L.length-q.1)
    (0,b1,c1,ys,μ4) ⟨Nat.zero_le _,Mem.Le.refl _,by simpa using hrows⟩ (fun(_,_,_,_,_)=>⟨rfl,rfl⟩) ⟨⟨rfl,rfl,rfl,rfl,rfl,rfl,rfl,rfl,rfl,rfl,rfl,rfl,rfl,trivial⟩,⟨rfl,trivial⟩,rfl,rfl⟩ ?_
   clear hrows
   rintro⟨k,b2,c2,zs,μ5⟩ ⟨hk,hle5,hrows2⟩
   dsimp only at hk hle5 hrows2
   have hzl:=hrows2.len
   rw[List.length_map,List.length_append,gW,List.length_map,List.length_take,List.length_take,Nat.min_eq_left (show j≤acc.length by omega),Nat.min_eq_left hk]at hzl
   refine ifd (fun hlt3=>?_) (fun hlt3=>?_)
   ·have w_ := aSo (l := L) (i := k) (by omega)
    obtain⟨y,hy⟩:=w_
    have w_:=gD (((Cls.sl hLr).1.mono hle4).mono hle5) hy
    obtain⟨ad3,py,hel3,hry⟩:=w_
    have hyl2:=hLl y (mAt hy)
    have w_:=tP (hra.mono hle5)
    obtain⟨vx,hvx,hvxl,hsx⟩:=w_
    have w_:=tP hry
    obtain⟨vy,hvy,hvyl,hsy⟩:=w_
    refine eIn hel3 ?_
    intro r78
    refine aN vx hsx ?_
    refine gIn ?_ ?_ fun b6 c6 _=>?_
    ·show(0+vx.length)*72≤_;omega
    ·exact Nat.le_trans (m:=100000000) (show 0+vx.length≤_ by omega) (by decide)
    refine aN vy hsy ?_
    refine gIn ?_ ?_ fun b7 c7 _=>?_
    ·show((([]:List Value)++vx).length+vy.length)*72≤_;simp;omega
    ·exact Nat.le_trans (m:=100000000) (show(([]:List Value)++vx).length+vy.length≤_ by simp;omega) (by decide)
    intro μ6 hle6 hno6 hat6 r83
    refine gIn ?_ ?_ fun b8 c8 _=>?_
    ·show(zs.length+1)*24≤_;omega
    ·exact Nat.le_trans (m:=100000000) (show zs.length+1≤_ by omega) (by decide)
    have hrow:RepV μ6 (csD (xa++y)) (.slice (b7.map fun r=>⟨r,0,none⟩) (([]:List Value)++vx++vy).length c7):=by
     have:=Rows.sl hat6 ((hvx.append hvy).mono hle6) (Nat.le_trans (m:=100000000) (by simp;omega) (by decide))
     rw[←List.map_append]at this
     exact this
    refine aC (by omega) (by omega) ⟨(k+1,b8,c8,_,μ6),⟨by dsimp only;omega,hle5.trans hle6,?_⟩,by dsimp only;omega,⟨⟨rfl,rfl,rfl,rfl,rfl,rfl,rfl,rfl,rfl,rfl,rfl,rfl,rfl,trivial⟩,⟨rfl,trivial⟩,rfl,rfl⟩⟩
    dsimp only
    rw[List.take_add_one,hy,Option.toList_some,List.map_append (f:=fun y=>xa++y),←List.append_assoc,List.map_append (f:=csD)]
    exact(hrows2.mono hle6).append (Rows.one hrow rfl)
   ·obtain rfl : k = L.length := by omega
    rw[List.take_length,←vC hxa]at hrows2
    exact aC (by omega) (by omega) ⟨(j+1,b2,c2,zs,μ5),⟨by dsimp only;omega,hle4.trans hle5,hrows2⟩,by dsimp only;omega,⟨⟨rfl,rfl,rfl,rfl,rfl,rfl,rfl,rfl,rfl,trivial⟩,⟨rfl,trivial⟩,rfl,rfl⟩⟩
  ·obtain rfl : j = acc.length := by omega
   rw[List.take_length]at hrows
   rw[Nat.min_self]at hyl hmul
   have hpl:=gW acc L
   have hzlen:∀c∈eB acc L,c.length≤Gl.cnts (g.goals.take (i+1)):=fun c hc=>by
    have w_:=jX hc
    obtain⟨u,hu,w,hw,rfl⟩:=w_
    have h1:=hlen u hu
    have h2:=hLl w hw
    rw[List.length_append];omega
   refine iIn (fun h=>nomatch h) (fun _=>?_)
   refine ifd (fun hb=>?_) (fun hb=>?_)
   ·rw [if_neg (by omega)] at hJ
    exact rPl (by rw[hJ];rfl)
   ·rw [if_pos (by omega)] at hJ
    refine aC (by omega) (by omega) ⟨[1],fun μ5 hle5 hno5 hat5=>⟨(i+1,eB acc L,b1.map (fun r=>⟨r,0,none⟩),c1,μ5),⟨by dsimp only;omega,((hle.trans hle3).trans hle4).trans hle5,?_,hJ,hzlen,by dsimp only;omega⟩,by dsimp only;omega,⟨⟨?_,?_,rfl,rfl,rfl,trivial⟩,trivial,rfl,rfl⟩⟩⟩
    ·have := Rows.sl hat5 (hrows.mono hle5) (Nat.le_trans (m := 100000000) (by omega) (by decide))
     rw[←hyl,←hpl]at this
     exact this
    ·show some (SV.val (.slice _ _ _)) = some (SV.val (.slice _ _ _))
     rw[hpl,hyl]
    ·show some (SV.val (.bool _)) = some (SV.val (.bool _))
     rw[decide_eq_false hb]
end
end Go.Vx
namespace Go.Vx
open Go.Proofs Classical
section
variable {μ:Mem}
theorem oV{a b:T}{va vb:Value}(ha:RepV μ a.tm.d va)(hb:RepV μ b.tm.d vb):Spec Tryz.prog 143 [va,vb] μ fun v μ'=>RepV μ' (T.pair a b).tm.d v:=by
 have w_:=Tm.invV ha
 obtain⟨p,rfl⟩:=w_
 have w_:=Tm.invV hb
 obtain⟨q,rfl⟩:=w_
 refine Spec.mk Tryz.func143 (by kernel_rfl) ?_
 intro r1 r2 r3 r4
 refine rFz [3] fun μ' hle hno hrow=> .inl ?_
 rw[T.tm,Tm.d_mk]
 exact⟨_,rfl,RepS.int (RepS.int (RepS.str (RepS.last (Rows.sl hrow (.cons (ha.mono hle) (Tm.d_n _) (.cons (hb.mono hle) (Tm.d_n _) .nil)) (show 2≤maxLen by decide)))))⟩
theorem qCp{k:FuncId}{caps:List Value}{f:Int→Option T}(J:Mem→Mem→Prop)(hJ:∀{μ' μ'' h':Mem},μ'.Le μ''→J μ' h'→J μ'' h'):∀(x:T) {μ h:Mem} {v:Value},
  (∀μ' h',μ.Le μ'→J μ' h'→∀n∈x.vars,SpecH Tryz.prog k (.int .i64 n::caps) μ' h' fun v μ'' h''=>optV (fun y tv=>RepV μ'' y.tm.d tv) (f n) v∧J μ'' h'')→J μ h→RepV μ x.tm.d v→
  SpecH Tryz.prog 166 [v,.func (.func k) #[] caps.toArray] μ h fun v μ' h'=>RepV μ' (x.subst f).tm.d v∧J μ' h':=by
 intro x
 induction x with
 |var n=>
  intro μ h v hk hj hv
  have w_:=Tm.invV hv
  obtain⟨p,rfl⟩:=w_
  refine SpecH.mk [] Tryz.func166 (by kernel_rfl) ?_
  intro r1 r2
  refine ifd (fun _=>?_) (fun h=>absurd rfl h)
  refine cOw (hk μ h (Mem.Le.refl μ) hj n (by simp[T.vars])) fun v' μ' h' hle hap hR=>?_
  obtain⟨hR,hj'⟩:=hR
  simp only[T.subst]
  cases hs:f n with
  |some y=>
   rw[hs]at hR
   obtain⟨tv,rfl,htv⟩:=hR
   have w_:=Tm.invV htv
   obtain⟨q,rfl⟩:=w_
   intro r3
   refine iIn (fun _=>?_) (fun h=>nomatch h)
   refine cPl (xT y htv) fun v2 μ2 hle2 hR2=>?_
   have w_:=Tm.invV hR2.rep
   obtain⟨q2,rfl⟩:=w_
   exact rPl ⟨hR2.rep,hJ hle2 hj'⟩
  |none=>
   rw[hs]at hR
   obtain rfl:=hR
   intro r3
   refine iIn (fun h=>nomatch h) (fun _=>?_)
   exact rPl ⟨hv.mono hle,hj'⟩
 |pair a b iha ihb=>
  intro μ h v hk hj hv
  have w_:=Tm.inv hv
  obtain⟨base',cap',rfl,hsa⟩:=w_
  have w_:=T.parts hsa
  obtain⟨ad,ad',p,p',h1,h2,hra,hrb⟩:=w_
  refine SpecH.mk [] Tryz.func166 (by kernel_rfl) ?_
  intro r1 r2
  refine ifd (fun h=>absurd h (by simp)) (fun _=>?_)
  refine ifd (fun _=>?_) (fun h=>absurd rfl h)
  refine eIn h1 ?_
  refine eIn h2 ?_
  refine cOw (iha (fun μ' h' g1 g2 n hn=>hk μ' h' g1 g2 n (by simp[T.vars,hn])) hj hra) fun v1 μ1 h1' hle1 hap1 hR1=>?_
  obtain⟨hR1,hj1⟩:=hR1
  refine cOw (ihb (fun μ' h' g1 g2 n hn=>hk μ' h' (hle1.trans g1) g2 n (by simp[T.vars,hn])) hj1 (hrb.mono hle1)) fun v2 μ2 h2' hle2 hap2 hR2=>?_
  obtain⟨hR2,hj2⟩:=hR2
  refine cPl (oV (hR1.mono hle2) hR2) fun v3 μ3 hle3 hR3=>?_
  have w_:=Tm.invV hR3
  obtain⟨q,rfl⟩:=w_
  exact rPl ⟨hR3,hJ hle3 hj2⟩
 |_=>
  intro μ h v hk hj hv
  have w_:=Tm.invV hv
  obtain⟨p,rfl⟩:=w_
  refine SpecH.mk [] Tryz.func166 (by kernel_rfl) ?_
  intro r1 r2
  refine ifd (fun h=>absurd h (by simp[T.tm,Tm.kind])) (fun _=>?_)
  refine ifd (fun h=>absurd h (by simp[T.tm,Tm.kind])) (fun _=>?_)
  exact rPl ⟨hv,hj⟩
end
end Go.Vx
namespace Go.Vx
open Go.Proofs Classical
section
variable {μ:Mem}
theorem nK{xs ys:List T}{base base2:Option Addr}{cap cap2:Nat}(hsl:Sl μ 4 base xs.length ((xs.map T.tm).map Tm.d))(hsl2:Sl μ 4 base2 ys.length ((ys.map T.tm).map Tm.d)):
  aQ Tryz.prog 134 [.slice base xs.length cap,.slice base2 ys.length cap2] μ (.int .i64 (pL xs ys)):=by
 refine Spec.mk Tryz.func134 (by kernel_rfl) ?_
 have hm1:=aI hsl.max
 have hm2:=aI hsl2.max
 refine lIn (fun i:Nat=>i≤xs.length∧i≤ys.length∧pL (xs.drop i) (ys.drop i)=pL xs ys)
  (fun i=>⟨[(0,.val (.slice base xs.length cap)),(1,.val (.slice base2 ys.length cap2)),(5,.val (.int .i64 i))],[],0,μ,Mem.nil⟩) (fun i=>xs.length-i)
  0 ⟨Nat.zero_le _,Nat.zero_le _,rfl⟩ (fun _=>⟨rfl,rfl⟩) ⟨⟨rfl,rfl,rfl,trivial⟩,trivial,rfl,rfl⟩ ?_
 rintro i ⟨hi,hj,hJ⟩
 have fin:¬(i<xs.length∧i<ys.length)→pL xs ys=jY xs.length ys.length:=fun h=>sP h hi hj hJ
 refine ifd (fun h1=>?_) (fun h1=>?_)
 ·refine ifd (fun h2 => ?_) (fun h2 => ?_)
  ·have w_ := aSo (l := xs) (i := i) (by omega)
   obtain⟨x,hx⟩:=w_
   have w_:=aSo (l:=ys) (i:=i) (by omega)
   obtain⟨y,hy⟩:=w_
   have w_:=T.elemL hsl hx
   obtain⟨ad,p,hel,hto⟩:=w_
   have w_:=T.elemL hsl2 hy
   obtain⟨ad2,p2,hel2,hto2⟩:=w_
   rw[cB hx,cB hy,pL,bM]at hJ
   refine eIn hel (eIn hel2 ?_)
   refine cGv (lG _ _ hto hto2) ?_
   refine aL (fun h5=>?_) (fun h5=>?_)
   ·rw [tM h5] at hJ
    exact rGv (congrArg (Value.int .i64) hJ) rfl
   ·rw [tH h5] at hJ
    exact aC (by omega) (by omega) ⟨i+1,⟨by omega,by omega,hJ⟩,by omega,⟨⟨rfl,rfl,rfl,trivial⟩,trivial,rfl,rfl⟩⟩
  ·refine cGv (nX _ _) ?_
   exact rGv (by rw[fin (by omega)]) rfl
 ·refine cGv (nX _ _) ?_
  exact rGv (by rw[fin (by omega)]) rfl
theorem sV{f g:F}{v w:Value}(hv:RepV μ f.fc.d v)(hw:RepV μ g.fc.d w):aQ Tryz.prog 93 [v,w] μ (.int .i64 (fN f g)):=by
 have w_:=F.inv hv
 obtain⟨p,rfl,hs⟩:=w_
 have w_:=F.inv hw
 obtain⟨q,rfl,hs2⟩:=w_
 refine Spec.mk Tryz.func93 (by kernel_rfl) ?_
 intro r1 r2
 rw[fN]
 refine aL (fun h=>?_) (fun h=>?_)
 ·have e:eL (mI f.rel g.rel) (pL f.args g.args)=sgn (Op.bytesLess f.rel.data.toList g.rel.data.toList):=by
   rw[tM (fun k=>h ((cName_ord.zero _ _).1 k)),mI,if_neg h]
  rw[e]
  refine iIn (fun h4=>rGv ?_ rfl) (fun h4=>rGv ?_ rfl)
  ·rw[h4];rfl
  ·rw[h4];rfl
 ·rw [tH ((cName_ord.zero _ _).2 h)]
  refine cGv (nK hs hs2) ?_
  exact rGv rfl rfl
end
end Go.Vx
namespace Go.Vx
open Go.Proofs Classical
section
variable {μ:Mem}
theorem qE(t:Tm){v:Value}(hv:RepV μ t.d v):aQ Tryz.prog 91 [v] μ (.bool (decide (sU t))):=by
 have hv0:=hv
 have w_:=Tm.invV hv
 obtain⟨p,rfl⟩:=w_
 refine Spec.forget (Spec.mk Tryz.func91 (by kernel_rfl) ?_)
 intro r
 refine cGv (dN t hv0) ?_
 refine ifd (fun h=>?_) (fun h=>?_)
 ·obtain ⟨x, hx, rfl⟩ := h.lift
  refine cGv (wZ x hv0) ?_
  refine rPl (isI ⟨fun k=>⟨h,by rw[T.toT_tm];exact k⟩,fun k=>by have:=k.2;rwa [T.toT_tm]at this⟩)
 ·exact rPl (isF fun k=>h k.1)
end
end Go.Vx
namespace Go.Vx
open Go.Proofs Classical
theorem valF_at{vs:List T}{n:Int}(h0:0≤n)(h1:n<vs.length):∃x,eT vs n=some x∧vs[n.toNat]? =some x:=by
 have w_:=aSo (l:=vs) (i:=n.toNat) (by omega)
 obtain⟨x,hx⟩:=w_
 exact⟨x,by rw[eT,if_pos h0,hx],hx⟩
section
variable {μ:Mem}
theorem qFk{vs:List T}{vb:Option Addr}{vc r3:Nat}{ty:TypeId}{n:Int}(hv:Sl μ 4 vb vs.length ((vs.map T.tm).map Tm.d))(h3:μ r3=some (.cells #[.slice vb vs.length vc] ty (0,0)))(h0:0≤n)(h1:n<vs.length):
  Spec Tryz.prog 167 [.int .i64 n,.pointer (some ⟨r3,0,none⟩)] μ fun v μ'=>optV (fun y tv=>RepV μ' y.tm.d tv) (eT vs n) v:=by
 have w_:=valF_at h0 h1
 obtain⟨x,hx,hx2⟩:=w_
 have w_:=T.elemL hv hx2
 obtain⟨ad,p,hel,hr⟩:=w_
 rw[hx]
 refine Spec.mk Tryz.func167 (by kernel_rfl) ?_
 intro r
 refine mX [.slice vb vs.length vc] rfl (gI h3) ?_
 refine eIn (by rw[show n=((n.toNat:Nat):Int) by omega];exact hel) ?_
 exact rPl ⟨_,rfl,hr⟩
theorem yA{vs:List T}{vb:Option Addr}{vc:Nat}{x:T}{v:Value}(hv:Sl μ 4 vb vs.length ((vs.map T.tm).map Tm.d))(hx:RepV μ x.tm.d v)(hl:∀n∈x.vars,0≤n∧n<vs.length):
  Spec Tryz.prog 135 [v,.slice vb vs.length vc] μ fun v μ'=>RepV μ' (x.subst (eT vs)).tm.d v:=by
 have hx0:=hx
 have w_:=Tm.invV hx
 obtain⟨p,rfl⟩:=w_
 refine Spec.mk Tryz.func135 (by kernel_rfl) ?_
 intro r2 r3 r4
 refine bF [1] fun μ1 hle1 hno1 hat1=>?_
 refine qN (qCp (f:=eT vs) (fun μ' h'=>h'=Mem.nil∧μ1.Le μ') (fun g1 g2=>⟨g2.1,g2.2.trans g1⟩) x (fun μ' h' g1 g2 n hn=>?_) ⟨rfl,Mem.Le.refl _⟩ (hx0.mono hle1)) fun v1 μ2 h2 hle2 hap2 hR=>?_
 ·obtain ⟨rfl, g2⟩ := g2
  exact SpecH.weaken (Spec.beside (fK _) (qFk (ty:=27) ((hv.mono hle1).mono g2) (g2 _ _ hat1) (hl n hn).1 (hl n hn).2)) fun v μ'' h'' g3 g4 g5=>⟨g5.2,g5.1,g2.trans g3⟩
 ·obtain ⟨hR, rfl, _⟩ := hR
  have w_:=Tm.invV hR
  obtain⟨q,rfl⟩:=w_
  exact rPl hR
theorem uS{xs:List T}{f:Int→Option T}{i:Nat}{x:T}(h:xs[i]? =some x):(xs.map (T.subst f)).take (i+1)=(xs.map (T.subst f)).take i++[x.subst f]:=by
 rw[List.take_add_one,List.getElem?_map,h];rfl
theorem qEf{vs:List T}{g:Gl}{xs:List T}(h:g.terms=xs.map T.tm):(iZ vs g).args=xs.map (T.subst (eT vs)):=by
 show g.terms.map _=_
 rw[h,List.map_map]
 exact List.map_congr_left fun x _=>by simp[T.toT_tm]
theorem xB{vs xs:List T}{vb:Option Addr}{vc:Nat}{g:Gl}{v:Value}(hv:Sl μ 4 vb vs.length ((vs.map T.tm).map Tm.d))(hg:RepV μ g.d v)(hx:g.terms=xs.map T.tm)(hx4:xs.length≤4)(hl:∀x∈xs,∀n∈x.vars,0≤n∧n<vs.length):
  Spec Tryz.prog 95 [v,.slice vb vs.length vc] μ fun v μ'=>RepV μ' (iZ vs g).fc.d v:=by
 have w_:=Gl.inv hg
 obtain⟨p0,rfl,hts,-⟩:=w_
 have hca:=qEf (vs:=vs) hx
 rw[hx,List.length_map]at hts
 rw[show g.terms.length=xs.length by rw[hx,List.length_map]]
 refine Spec.mk Tryz.func95 (by kernel_rfl) ?_
 intro r2 r4 r5
 refine bS (fun z:Nat×Option Nat×Nat×List Value×Mem=>z.1≤xs.length∧μ.Le z.2.2.2.2∧Rows z.2.2.2.2 4 ((((xs.map (T.subst (eT vs))).take z.1).map T.tm).map Tm.d) z.2.2.2.1)
  (fun(i,b,c,ys,μ')=>⟨[(1,.val (.slice vb vs.length vc)),(4,.loc 1 r4 0),(5,.loc 2 r5 0),(12,.val (.slice p0.1.1 xs.length p0.1.2)),(13,.val (.int .i64 xs.length)),(14,.val (.int .i64 i))],[(1,some (.cells r4 [.val (.string ⟨#[]⟩),.val (.slice none 0 0)] 54)),(2,some (.cells r5 [.val (.string g.name),.row 3 b ys.length c] 54)),(3,some (.row b c 57 4 ys))],4,μ',Mem.nil⟩) (fun z=>xs.length-z.1)
  (0,none,0,[],μ) ⟨Nat.zero_le _,Mem.Le.refl _,.nil⟩ (fun(_,_,_,_,_)=>⟨rfl,rfl⟩) ⟨⟨⟨_,rfl,.inl rfl⟩,⟨_,rfl,.inl rfl⟩,⟨_,rfl,.inl rfl⟩,⟨_,rfl,.inl rfl⟩,⟨_,rfl,.inl rfl⟩,⟨_,rfl,.inl rfl⟩,trivial⟩,⟨.inl rfl,.inr (.inr ⟨_,_,_,_,rfl,rfl,.inl rfl,.inr ⟨3,rfl,rfl,Nat.le_refl _⟩,trivial⟩),.inr (.inl ⟨_,_,rfl,Nat.le_refl _⟩),trivial⟩,rfl,rfl⟩ ?_
 rintro⟨i,b,c,ys,μ'⟩ ⟨hi,hle,hrows⟩
 dsimp only at hi hle hrows
 have hlen:=hrows.len
 simp only[List.length_map,List.length_take]at hlen
 refine ifd (fun hlt=>?_) (fun hlt=>?_)
 ·have w_ := aSo (l := xs) (i := i) (by omega)
  obtain⟨x,hx⟩:=w_
  have w_:=T.elemL (hts.mono hle) hx
  obtain⟨ad,p,hel,hr⟩:=w_
  refine eIn hel ?_
  intro r7
  refine cPl (yA (hv.mono hle) hr (hl x (mAt hx))) fun v1 μ1 hle1 hR=>?_
  have w_:=Tm.invV hR
  obtain⟨q1,rfl⟩:=w_
  intro r23
  refine gIn ?_ ?_ fun b' c' _=>?_
  ·show(ys.length+1)*56≤_;omega
  ·exact Nat.le_trans (m:=1000) (show ys.length+1≤_ by omega) (by decide)
  refine aC (by omega) (by omega) ⟨(i+1,b',c',_,μ1),⟨by dsimp only;omega,hle.trans hle1,?_⟩,by dsimp only;omega,⟨⟨rfl,rfl,rfl,rfl,rfl,rfl,trivial⟩,⟨rfl,rfl,rfl,trivial⟩,rfl,rfl⟩⟩
  dsimp only
  rw[uS hx]
  simp only[List.map_append,List.map_cons,List.map_nil]
  exact(hrows.mono hle1).append (Rows.one hR (Tm.d_n _))
 obtain rfl:i=xs.length:=by omega
 rw[List.take_of_length_le (by rw[List.length_map];omega)]at hrows
 refine rFz [3] fun μ2 hle2 hno2 hat2=> .inl ?_
 have k:=Rows.sl hat2 (hrows.mono hle2) (Nat.le_trans (m:=1000) (by omega) (by decide))
 rw[Fc.d_eq,F.fc_args,hca]
 exact⟨_,rfl,RepS.str (RepS.last k)⟩
set_option maxHeartbeats 4000000 in
set_option maxRecDepth 20000 in
theorem wW{vs xs:List T}{vb:Option Addr}{vc:Nat}{g:Gl}{v:Value}(hv:Sl μ 4 vb vs.length ((vs.map T.tm).map Tm.d))(hg:RepV μ g.d v)(hx:g.terms=xs.map T.tm)(hx4:xs.length≤4)(hl:∀x∈xs,∀n∈x.vars,0≤n∧n<vs.length)(hsl:SimpleLen g.kind xs.length):
  Spec Tryz.prog 96 [v,.slice vb vs.length vc] μ fun v _=>v= .bool (decide (eP g.kind (xs.map (T.subst (eT vs))))):=by
 have w_:=Gl.inv hg
 obtain⟨p0,rfl,hts,-⟩:=w_
 rw[hx,List.length_map]at hts
 rw[show g.terms.length=xs.length by rw[hx,List.length_map]]
 refine Spec.mk Tryz.func96 (by kernel_rfl) ?_
 intro r2 r5
 refine bS (fun z:Nat×Option Nat×Nat×List Value×Mem=>z.1≤xs.length∧μ.Le z.2.2.2.2∧Rows z.2.2.2.2 4 ((((xs.map (T.subst (eT vs))).take z.1).map T.tm).map Tm.d) z.2.2.2.1)
  (fun(i,b,c,ys,μ')=>⟨[(1,.val (.slice vb vs.length vc)),(2,.loc 0 r2 0),(5,.loc 1 r5 0),(12,.val (.slice p0.1.1 xs.length p0.1.2)),(13,.val (.int .i64 xs.length)),(14,.val (.int .i64 i))],[(0,some (.cells r2 [.val (.int .i64 g.kind),.val (.string g.name),.val (.slice p0.1.1 xs.length p0.1.2),.val (.slice p0.2.1 g.goals.length p0.2.2)] 73)),(1,some (.cells r5 [.val (.int .i64 g.kind),.val (.string ⟨#[]⟩),.row 2 b ys.length c,.val (.slice none 0 0)] 73)),(2,some (.row b c 57 4 ys))],3,μ',Mem.nil⟩) (fun z=>xs.length-z.1)
  (0,none,0,[],μ) ⟨Nat.zero_le _,Mem.Le.refl _,.nil⟩ (fun(_,_,_,_,_)=>⟨rfl,rfl⟩) ⟨⟨⟨_,rfl,.inl rfl⟩,⟨_,rfl,.inl rfl⟩,⟨_,rfl,.inl rfl⟩,⟨_,rfl,.inl rfl⟩,⟨_,rfl,.inl rfl⟩,⟨_,rfl,.inl rfl⟩,trivial⟩,⟨.inl rfl,.inr (.inr ⟨_,_,_,_,rfl,rfl,.inl rfl,.inl rfl,.inr ⟨2,rfl,rfl,Nat.le_refl _⟩,.inl rfl,trivial⟩),.inr (.inl ⟨_,_,rfl,Nat.le_refl _⟩),trivial⟩,rfl,rfl⟩ ?_
 rintro⟨i,b,c,ys,μ'⟩ ⟨hi,hle,hrows⟩
 dsimp only at hi hle hrows
 have hlen:=hrows.len
 simp only[List.length_map,List.length_take]at hlen
 refine ifd (fun hlt=>?_) (fun hlt=>?_)
 ·have w_ := aSo (l := xs) (i := i) (by omega)
  obtain⟨x,hx⟩:=w_
  have w_:=T.elemL (hts.mono hle) hx
  obtain⟨ad,p,hel,hr⟩:=w_
  refine eIn hel ?_
  intro r7
  refine cPl (yA (hv.mono hle) hr (hl x (mAt hx))) fun v1 μ1 hle1 hR=>?_
  have w_:=Tm.invV hR
  obtain⟨q1,rfl⟩:=w_
  intro r23
  refine gIn ?_ ?_ fun b' c' _=>?_
  ·show(ys.length+1)*56≤_;omega
  ·exact Nat.le_trans (m:=1000) (show ys.length+1≤_ by omega) (by decide)
  refine aC (by omega) (by omega) ⟨(i+1,b',c',_,μ1),⟨by dsimp only;omega,hle.trans hle1,?_⟩,by dsimp only;omega,⟨⟨rfl,rfl,rfl,rfl,rfl,rfl,trivial⟩,⟨rfl,rfl,rfl,trivial⟩,rfl,rfl⟩⟩
  dsimp only
  rw[uS hx]
  simp only[List.map_append,List.map_cons,List.map_nil]
  exact(hrows.mono hle1).append (Rows.one hR (Tm.d_n _))
 obtain rfl:i=xs.length:=by omega
 rw[List.take_of_length_le (by rw[List.length_map];omega)]at hrows
 refine rJ [2] fun μ2 hle2 hno2 hat2=>?_
 have hs:Sl μ2 4 (b.map fun r=>(⟨r,0,none⟩:Addr)) ys.length (((xs.map (T.subst (eT vs))).map T.tm).map Tm.d):=by
  have k:=Rows.sl hat2 (hrows.mono hle2) (Nat.le_trans (m:=1000) (by omega) (by decide))
  have w_:=Rep.sl k
  obtain⟨bz,cz,ez,hs⟩:=w_
  have w_:=Value.slice.inj ez
  obtain⟨e1,e2,_⟩:=w_
  rwa [←e1,←e2]at hs
 refine⟨fun h=>?_,fun h0=>?_⟩
 ·have h := of_decide_eq_true h
  exact rPl (by rw[h];simp[eP])
 replace h0:=of_decide_eq_false h0
 refine ifd (fun h=>?_) (fun h2=>?_)
 ·obtain ⟨x, y, hxy⟩ := yY (xs := xs.map (T.subst (eT vs))) (by rw [List.length_map]; exact hsl.two (by omega))
  rw[hxy]at hs ⊢
  have w_:=T.elemL hs (i:=0) (x:=x) rfl
  obtain⟨ad1,p1,e1,g1⟩:=w_
  have w_:=T.elemL hs (i:=1) (x:=y) rfl
  obtain⟨ad2,p2,e2,g2⟩:=w_
  refine eIn e1 (eIn e2 (cGv (lJ x y g1 g2) (rPl ?_)))
  rw[h];exact congrArg Value.bool (decide_eq_decide.2 testT_2.symm)
 refine ifd (fun h=>?_) (fun h3=>?_)
 ·obtain ⟨x, y, hxy⟩ := yY (xs := xs.map (T.subst (eT vs))) (by rw [List.length_map]; exact hsl.two (by omega))
  rw[hxy]at hs ⊢
  have w_:=T.elemL hs (i:=0) (x:=x) rfl
  obtain⟨ad1,p1,e1,g1⟩:=w_
  have w_:=T.elemL hs (i:=1) (x:=y) rfl
  obtain⟨ad2,p2,e2,g2⟩:=w_
  refine eIn e1 (eIn e2 (cGv (lJ x y g1 g2) (rPl ?_)))
  rw[h,←decide_not];exact congrArg Value.bool (decide_eq_decide.2 testT_3.symm)
 refine ifd (fun h=>?_) (fun h4=>?_)
 ·obtain ⟨x, hxy⟩ := one_of' (xs := xs.map (T.subst (eT vs))) (by rw [List.length_map]; exact hsl.one (by omega))
  rw[hxy]at hs ⊢
  have w_:=T.elemL hs (i:=0) (x:=x) rfl
  obtain⟨ad1,p1,e1,g1⟩:=w_
  refine eIn e1 (rPl ?_)
  rw[h];exact congrArg Value.bool (decide_eq_decide.2 testT_4.symm)
 refine ifd (fun h=>?_) (fun h5=>?_)
 ·obtain ⟨x, hxy⟩ := one_of' (xs := xs.map (T.subst (eT vs))) (by rw [List.length_map]; exact hsl.one (by omega))
  rw[hxy]at hs ⊢
  have w_:=T.elemL hs (i:=0) (x:=x) rfl
  obtain⟨ad1,p1,e1,g1⟩:=w_
  refine eIn e1 (rPl ?_)
  rw[h];exact congrArg Value.bool (decide_eq_decide.2 testT_5.symm)
 refine ifd (fun h=>?_) (fun h6=>?_)
 ·obtain ⟨x, y, hxy⟩ := yY (xs := xs.map (T.subst (eT vs))) (by rw [List.length_map]; exact hsl.two (by omega))
  rw[hxy]at hs ⊢
  have w_:=T.elemL hs (i:=0) (x:=x) rfl
  obtain⟨ad1,p1,e1,g1⟩:=w_
  have w_:=T.elemL hs (i:=1) (x:=y) rfl
  obtain⟨ad2,p2,e2,g2⟩:=w_
  refine eIn e2 (eIn e1 (cGv (uM x.tm.name y g2) (rPl ?_)))
  rw[h,←decide_not];exact congrArg Value.bool (decide_eq_decide.2 testT_6.symm)
 refine rPl ?_
 rw[decide_eq_false]
 unfold eP
 rw[if_neg h0,if_neg h2,if_neg h3,if_neg h4,if_neg h5,if_neg h6]
 exact id
end
end Go.Vx
namespace Go.Vx
open Go.Proofs Classical
theorem qMw{U vs xs:List T}{g:Gl}(h9:g.kind≠9)(h10:g.kind≠10)(hx:g.terms=xs.map T.tm):okG U vs g↔eP g.kind (xs.map (T.subst (eT vs))):=by
 rw[okG,if_neg h9,if_neg h10,hx,List.map_map]
 have e:(List.map ((fun t=>T.subst (eT vs) t.toT) ∘ T.tm) xs)=xs.map (T.subst (eT vs)):=List.map_congr_left fun x _=>by simp[T.toT_tm]
 rw[e]
section
variable {μ:Mem}
set_option maxHeartbeats 16000000 in
set_option maxRecDepth 20000 in
end
end Go.Vx
namespace Go.Vx
open Go.Proofs Classical
theorem T.lvs_pos:∀t:T,1≤t.lvs
 | .pair a b=>by
  have:=a.lvs_pos
  simp only[T.lvs];omega
 | .nil=>Nat.le_refl _
 | .var _=>Nat.le_refl _
 | .sym _=>Nat.le_refl _
 | .num _=>Nat.le_refl _
end Go.Vx
namespace Go.Vx
open Go.Proofs Classical
def vF(H:Mem)(r:Nat)(k:Int):Mem:=H.set r (.cells #[.int .i64 k] 3 (0,0))
section
variable {μ:Mem}
theorem nL{x:Pf}{v:Value}(hv:RepV μ x.d v):aQ Tryz.prog 29 [v] μ (.int .i64 x.size):=by
 have hv0:=hv
 have w_:=Pf.invV hv
 obtain⟨p,rfl⟩:=w_
 have hp:=x.cnt_pos
 refine Spec.mk Tryz.func29 (by kernel_rfl) ?_
 intro r
 refine cGv (nS x hv0 (by omega) (by omega)) ?_
 refine ifd (fun h=>rGv ?_ rfl) (fun h=>rGv ?_ rfl)
 ·unfold bX at h
  rw[Pf.size,if_neg (by omega)]
 ·unfold bX at h ⊢
  rw[Pf.size,if_pos (by omega)]
  congr 1;omega
theorem qBq{H:Mem}{r:Nat}:∀(g:Pf) {v:Value} {k:Int},RepV μ g.d v→0≤k→k≤200→SpecH Tryz.prog 90 [v,.pointer (some ⟨r,0,none⟩)] μ (vF H r k) fun w μ' h'=>μ'=μ∧∃a b:Int,w= .int .i64 a∧h'=vF H r b∧0≤a∧a≤b-k∧k<b∧b≤201∧b≤k+g.cnt∧(b=k+g.cnt∨200<b):=
 Pf.ind fun g ih v k hv h1 h2=>by
  have w_:=Pf.inv hv
  obtain⟨p,rfl,-,hsl⟩:=w_
  have hn:=aI hsl.max
  have hge:=Pf.cnt_eq1 g
  generalize hl:g.kids=l at*
  refine SpecH.mk [] Tryz.func90 (by kernel_rfl) ?_
  intro r2
  refine oIn [.int .i64 k] rfl (gI (set_self _ _ _)) ?_
  refine aC (by omega) (by omega) ?_
  refine sIn (h:=vF H r k) (a:=⟨r,0,none⟩) [.int .i64 k] 3 (set_self _ _ _) rfl (Nat.le_refl _) ?_
  have e:∀k n:Int,(vF H r k).set r (.cells #[.int .i64 n] 3 (0,0))=vF H r n:=fun k n=>Mem.set_set _ _ _ _
  refine lIn (fun z:Nat×Int×Int=>z.1≤l.length∧0≤z.2.1∧z.2.1≤z.2.2-k-1∧k<z.2.2∧z.2.2≤201∧z.2.2≤k+1+Pf.cnts (l.take z.1)∧(z.2.2=k+1+Pf.cnts (l.take z.1)∨200<z.2.2))
   (fun(i,a,b)=>⟨[(1,.val (.pointer (some ⟨r,0,none⟩))),(5,.val (.int .i64 a)),(15,.val (.slice p.2.1 l.length p.2.2)),(16,.val (.int .i64 l.length)),(17,.val (.int .i64 i))],[],1,μ,vF H r b⟩) (fun z=>l.length-z.1)
   (0,0,k+1) ⟨Nat.zero_le _,Int.le_refl _,by dsimp only;omega,by dsimp only;omega,by dsimp only;omega,by dsimp only;simp[Pf.cnts],.inl (by simp[Pf.cnts])⟩ (fun(_,_,_)=>⟨rfl,rfl⟩) ⟨⟨rfl,rfl,rfl,rfl,rfl,trivial⟩,trivial,rfl,e _ _⟩ ?_
  rintro⟨i,a,b⟩ ⟨hi,ha0,ha,hkb,hb,hbc,hor⟩
  dsimp only at hi ha0 ha hkb hb hbc hor
  refine ifd (fun h=>?_) (fun h=>?_)
  ·have w_ := aSo (l := l) (i := i) (by omega)
   obtain⟨t,ht⟩:=w_
   have hc:=Pf.cnts_take ht
   have hc':=Pf.cnts_le l (i+1)
   have w_:=Pf.elem hsl ht
   obtain⟨ad,p,hel,hr⟩:=w_
   refine eIn hel ?_
   intro r7
   refine oIn [.int .i64 b] rfl (gI (set_self _ _ _)) ?_
   refine ifd (fun h=>?_) (fun h=>?_)
   ·exact rPl ⟨rfl,0,b,rfl,rfl,Int.le_refl _,by omega,hkb,hb,by omega,.inr (by omega)⟩
   ·refine cOw (ih t (mAt ht) hr (k := b) (by omega) (by omega)) fun w μ' h' hle hap hR => ?_
    obtain⟨e4,a2,b2,rfl,rfl,q1,q2,q3,q4,q5,q6⟩:=hR
    obtain rfl:=e4.symm
    refine aC (by omega) (by omega) ⟨(i+1,if a2>a then a2 else a,b2),⟨by dsimp only;omega,by dsimp only;split<;>omega,by dsimp only;split<;>omega,by dsimp only;omega,by dsimp only;omega,by dsimp only;omega,?_⟩,by dsimp only;omega,⟨⟨rfl,rfl,rfl,rfl,rfl,trivial⟩,trivial,rfl,rfl⟩⟩
    dsimp only
    omega
  ·obtain rfl : i = l.length := by omega
   rw[List.take_length]at hbc hor
   exact aC (by omega) (by omega) (rPl ⟨rfl,a+1,b,rfl,rfl,by omega,by omega,hkb,hb,by omega,by omega⟩)
theorem nH{x:Pf}{v:Value}(hv:RepV μ x.d v):Spec Tryz.prog 46 [v] μ fun w μ'=>w= .int .i64 x.size∧μ'=μ:=by
 have hv0:=hv
 have w_:=Pf.invV hv
 obtain⟨p,rfl⟩:=w_
 have hp:=x.cnt_pos
 refine Spec.mkO [3] Tryz.func46 (by kernel_rfl) ?_
 intro r1 r3 hm3 ho3
 refine sIn [.int .i64 0] 3 (Mem.set_at _ _ _) rfl (Nat.le_refl _) ?_
 have e:∀(X:Mem) (a b:Int),(X.set r3 (.cells #[.int .i64 a] 3 (0,0))).set r3 (.cells #[.int .i64 b] 3 (0,0))=vF X r3 b:=fun X a b=>Mem.set_set _ _ _ _
 have key:=qBq (μ:=μ) (H:=Mem.nil) (r:=r3) x hv0 (k:=0) (by omega) (by omega)
 rw[←e Mem.nil 0 0]at key
 refine cOw key fun w μ' h' hle hap hR=>?_
 obtain⟨e4,a,b,rfl,rfl,q1,q2,q3,q4,q5,q6⟩:=hR
 obtain rfl:=e4.symm
 refine oIn [.int .i64 b] rfl (gI (set_self _ _ _)) ?_
 refine ifd (fun h=>rPl ⟨?_,rfl⟩) (fun h=>?_)
 ·rw[Pf.size,if_neg (by omega)]
 ·refine oIn [.int .i64 b] rfl (gI (set_self _ _ _)) (rPl ⟨?_, rfl⟩)
  rw[Pf.size,if_pos (by omega)]
  congr 1;omega
end
end Go.Vx
namespace Go.Vx
open Go.Proofs Classical
section
variable {μ:Mem}
theorem Rep.lensC{es n c:Nat}{base:Option Addr}{xs:List D}(h:RepV μ (.sl es xs) (.slice base n c)):n=xs.length∧n≤c:=by
 obtain⟨b2,c2,e2,hl,hn,hor⟩:=h
 have e3:=(List.cons.inj e2).1
 cases e3
 exact⟨rfl,hl.le⟩
theorem Pf.valsV{x:Pf}{a b vs ks:Value}(h:RepV μ x.d (.agg #[a,b,vs,ks])):RepV μ (.sl 4 (x.values.map Tm.d)) vs:=by
 rw[Pf.d_eq]at h
 obtain⟨cs,e,h⟩:=h
 obtain⟨a0,t0,rfl,h0,h⟩:=h
 obtain⟨a1,t1,rfl,h1,h⟩:=h
 obtain⟨a2,t2,rfl,h2,h⟩:=h
 obtain⟨a3,t3,rfl,h3,h⟩:=h
 obtain rfl:t3=[]:=h
 have h0:a0=[.string x.rel]:=h0
 have h1:a1=[.int .i64 x.clause]:=h1
 subst h0 h1
 have w_:=fI (Rep.len _ _ h2)
 obtain⟨v2,rfl⟩:=w_
 have w_:=fI (Rep.len _ _ h3)
 obtain⟨v3,rfl⟩:=w_
 have e2:[a,b,vs,ks]=[.string x.rel,.int .i64 x.clause,v2,v3]:=congrArg (fun v=>match v with|Value.agg a=>a.toList|_=>[]) e
 have e3:vs=v2:=(List.cons.inj (List.cons.inj (List.cons.inj e2).2).2).1
 rw[e3];exact h2
end
theorem Pf.vs_len(x:Pf):x.vs.length=x.values.length:=List.length_map ..
theorem Pf.vs_tm{x:Pf}(h:∀t∈x.values,sU t):x.vs.map T.tm=x.values:=by
 have w_:=eY fun t ht=>(h t ht).1
 obtain⟨xs,hxs,_⟩:=w_
 rw[Pf.vs,hxs,mT]
theorem qEl{p:Pg}{x:Pf}{k a:Nat}{r:Rl}(h1:dA p x.rel=k)(h2:p.rels[k]? =some r)(h3:r.arity=(a:Int)):nT p x=⟨x.rel,x.vs.take a⟩:=by
 rw[nT,h1,Int.toNat_natCast,h2,Option.getD_some,h3,Int.toNat_natCast]
end Go.Vx
namespace Go.Vx
open Go.Proofs Classical
section
variable {μ:Mem}
theorem qBg{p:Pg}{x:Pf}{vp v:Value}{r:Rl}{c:List Gl}(hp:RepV μ p.d vp)(hok:p.Ok)(hv:RepV μ x.d v)(h:NodeAt p x r c):
  Spec Tryz.prog 65 [vp,v] μ fun w μ'=>RepV μ' (nT p x).fc.d w∧μ'=μ:=by
 have hp0:=hp
 have w_:=Pg.inv hp
 obtain⟨q0,rfl,hrl⟩:=w_
 have hv0:=hv
 have w_:=Pf.inv hv
 obtain⟨q,rfl,hvs,hks⟩:=w_
 have hvr:=Pf.valsV hv0
 obtain⟨k,hk,hr⟩:=h.rel
 have hrok:=hok.2 k r hr
 have w_:=Int.eq_ofNat_of_zero_le hrok.ar0
 obtain⟨a,ha⟩:=w_
 have hlo:=hrok.lo0
 have hlen:=h.len
 have hal:a≤x.values.length:=by omega
 have hcap:=(Rep.lensC hvr).2
 have w_:=Rl.elemA hrl hr
 obtain⟨ad,q2,hel,_,_⟩:=w_
 refine Spec.mk Tryz.func65 (by kernel_rfl) ?_
 intro r2 r3 r4
 refine cGv (eW hp0) ?_
 rw[hk]
 refine eIn hel ?_
 refine aE 0 a rfl ha (Nat.zero_le _) (by omega) ?_
 refine rPl ⟨?_,rfl⟩
 have hcut:=Rep.cut hvr hal
 rw[←Pf.vs_tm h.gnd]at hcut
 rw[qEl hk hr ha]
 rw[←List.map_take,←List.map_take]at hcut
 have hl:(x.vs.take a).length=a-0:=by rw[List.length_take,Pf.vs_len];omega
 rw[←hl]at hcut ⊢
 exact F.mkV (f:=⟨x.rel,x.vs.take a⟩) hcut
set_option maxHeartbeats 4000000 in
theorem qFi{p:Pg}(hw:p.d.wd)(hok:p.Ok):∀(x:Pf) {μ:Mem} {v vp:Value},RepV μ p.d vp→RepV μ x.d v→x.d.wd→Spec Tryz.prog 30 [vp,v] μ fun w _=>w= .bool (decide (OkP p x)):=
 Pf.ind fun x ih μ v vp hp hv hwx=>by
  have hp0:=hp
  have w_:=Pg.inv hp
  obtain⟨q0,rfl,hrl⟩:=w_
  have hv0:=hv
  have w_:=Pf.inv hv
  obtain⟨q,rfl,hvs,hks⟩:=w_
  have hn1:=aI hvs.max
  have hn2:=aI hks.max
  have hn3:=hok.1
  refine Spec.mk Tryz.func30 (by kernel_rfl) ?_
  intro r2 r3
  refine cGv (eW hp0) ?_
  refine ifd (fun hneg=>rPl (isF fun k=>?_)) (fun hge=>?_)
  ·obtain ⟨r, c, h, _⟩ := k.inv
   obtain⟨k',h1,_⟩:=h.rel
   omega
  have w_:=jU (show 0≤dA p x.rel by omega)
  obtain⟨k,r,hk,hr,_⟩:=w_
  have hrok:=hok.2 k r hr
  rw[hk]
  have w_:=Rl.elemA hrl hr
  obtain⟨ad,q2,hel,hrv,hb⟩:=w_
  have hb:RepV μ r.body.d (.agg (r.body.cs q2).toArray):=hb
  have w_:=Int.eq_ofNat_of_zero_le hrok.ar0
  obtain⟨a,ha⟩:=w_
  have w_:=Int.eq_ofNat_of_zero_le hrok.lo0
  obtain⟨lo,hlo⟩:=w_
  have har4:=hrok.ar4
  have hlo8:=hrok.lo8
  have hsz:=hrok.size
  have node:∀{r':Rl} {c:List Gl},NodeAt p x r' c→r'=r:=fun h=>by
   obtain⟨k',e1,e2⟩:=h.rel
   obtain rfl:k'=k:=by omega
   rw[hr]at e2
   cases e2;rfl
  refine eIn hel (eIn hel ?_)
  refine aC (by omega) (by omega) ?_
  refine aL (fun hne=>rPl (isF fun k=>?_)) (fun hlen=>?_)
  ·obtain ⟨r', c, h, _⟩ := k.inv
   obtain rfl:=node h
   exact hne h.len
  refine eIn hel ?_
  refine cPl (lV hb (qLe hw hr) ⟨hrok.body,by omega⟩) fun v3 μ3 hle3 hR3=>?_
  cases hL:r.body.cl with
  |none=>
   rw[hL]at hR3
   obtain rfl:=hR3
   refine iIn (fun _=>rPl (isF fun k=>?_)) (fun h=>nomatch h)
   obtain⟨r',c,h,_⟩:=k.inv
   obtain rfl:=node h
   obtain⟨L,i,h1,_⟩:=h.cls
   rw[hL]at h1;cases h1
  |some L=>
  rw[hL]at hR3
  obtain⟨tv,rfl,hLr⟩:=hR3
  obtain⟨pv,rfl⟩:=hLr.inv
  have hLb:=Gl.cl_bnd r.body hL
  have hL64:=hLb.2
  refine iIn (fun h=>nomatch h) (fun _=>?_)
  refine aC (by omega) (by omega) ?_
  refine cGv (bU _ _ _ _) ?_
  refine aL (fun hout=>rPl (isF fun k=>?_)) (fun hin=>?_)
  ·obtain ⟨r', c, h, _⟩ := k.inv
   obtain rfl:=node h
   obtain⟨L',i,h1,h2,h3⟩:=h.cls
   rw[hL]at h1;cases h1
   have:=(List.getElem?_eq_some_iff.1 h3).1
   exact hout ⟨by omega,by omega⟩
  have w_:=Int.eq_ofNat_of_zero_le hin.1
  obtain⟨i,hi⟩:=w_
  have hiL:i<L.length:=by have:=hin.2;omega
  have w_:=aSo (l:=L) (i:=i) hiL
  obtain⟨c,hc⟩:=w_
  have hci:c.length≤1000:=by have:=hLb.1 c (mAt hc);omega
  intro r8
  refine lIn (fun z:Nat×Option Nat×Nat×List Value=>z.1≤x.values.length∧(∀t∈x.values.take z.1,sU t)∧Rows μ3 5 (((iA (x.vs.take z.1)).map B.bd).map Bd.d) z.2.2.2)
   (fun(n,b,cp,ys)=>⟨[(2,.loc 0 r2 0),(3,.loc 1 r3 0),(5,.val (.int .i64 k)),(6,.val (.slice pv.1 L.length pv.2)),(8,.row 2 b ys.length cp),(63,.val (.slice q.1.1 x.values.length q.1.2)),(64,.val (.int .i64 x.values.length)),(65,.val (.int .i64 n))],[(0,some (.cells r2 [.val (.slice q0.1 p.rels.length q0.2)] 25)),(1,some (.cells r3 [.val (.string x.rel),.val (.int .i64 x.clause),.val (.slice q.1.1 x.values.length q.1.2),.val (.slice q.2.1 x.kids.length q.2.2)] 31)),(2,some (.row b cp 110 5 ys))],3,μ3,Mem.nil⟩) (fun z=>x.values.length-z.1)
   (0,some r8,0,[]) ⟨Nat.zero_le _,by simp,.nil⟩ (fun(_,_,_,_)=>⟨rfl,rfl⟩) ⟨⟨rfl,rfl,rfl,rfl,rfl,rfl,rfl,rfl,trivial⟩,⟨rfl,rfl,rfl,trivial⟩,rfl,rfl⟩ ?_
  rintro⟨n,b,cp,ys⟩ ⟨hn,hall,hrows⟩
  dsimp only at hn hall hrows
  have hyl:=hrows.len
  simp only[List.length_map,hO,List.length_take,Pf.vs_len]at hyl
  refine ifd (fun hlt=>?_) (fun hlt=>?_)
  ·have w_ := aSo (l := x.values) (i := n) (by omega)
   obtain⟨t,ht⟩:=w_
   have w_:=Tm.elem (hvs.mono hle3) ht
   obtain⟨ad1,p1,hel1,hrt⟩:=w_
   refine eIn hel1 ?_
   intro r10
   refine cGv (fC t hrt (D.wds_mem (by rw[Pf.d_eq]at hwx;exact hwx.2.2.1) _ (mAt (lX (f:=Tm.d) ht)))) ?_
   refine aL (fun h=>rPl (isF fun k=>?_)) (fun hg=>?_)
   ·obtain ⟨r', c', h', _⟩ := k.inv
    exact h (h'.gnd t (mAt ht))
   intro r77
   refine gIn ?_ ?_ fun b' c' _=>?_
   ·show(ys.length+1)*64≤_;omega
   ·exact Nat.le_trans (m:=100000000) (show ys.length+1≤_ by omega) (by decide)
   refine aC (by omega) (by omega) ⟨(n+1,b',c',_),⟨by dsimp only;omega,?_,?_⟩,by dsimp only;omega,⟨⟨rfl,rfl,rfl,rfl,rfl,rfl,rfl,rfl,trivial⟩,⟨rfl,rfl,rfl,trivial⟩,rfl,rfl⟩⟩
   ·dsimp only
    rw[List.take_add_one,ht,Option.toList_some]
    intro y hy
    rcases List.mem_append.1 hy with hy|hy
    ·exact hall y hy
    ·rw[List.mem_singleton.1 hy];exact hg
   ·dsimp only
    have hgt:sU t:=hg
    have w_:=hgt.1.lift
    obtain⟨u,_,hu⟩:=w_
    subst hu
    have e:x.vs[n]? =some u:=by rw[Pf.vs,List.getElem?_map,ht,Option.map_some,T.toT_tm]
    rw[←kM,List.take_add_one,vV e,Option.toList_some,kM]
    simp only[List.map_append,List.map_cons,List.map_nil]
    exact hrows.append (Rows.one (RepV.bd hrt) (Bd.d_n _))
  obtain rfl:n=x.values.length:=by omega
  rw[List.take_length]at hall
  rw[←Pf.vs_len,List.take_length]at hrows
  have hLs:=(Cls.sl hLr).1
  have w_:=gD hLs hc
  obtain⟨adc,pc,helc,hrc⟩:=w_
  have hcs:Sl μ3 4 pc.1 c.length (c.map Gl.d):=by
   have w_:=Rep.sl (xs:=c.map Gl.d) hrc
   obtain⟨b',c',e1,hs⟩:=w_
   have w_:=Value.slice.inj e1
   obtain⟨rfl,_,_⟩:=w_
   simpa using hs
  have hG:∀g∈c,ClG g:=fun g hg=>ClG.of hok hr hL (mAt hc) hg
  have hvl:x.vs.length=a+lo:=by rw[Pf.vs_len];omega
  rw[←hi]at helc
  have mkN:(∀g∈c,okS x.vs g)→iO x.vs c=[]→(dD x.vs c).length=x.kids.length→NodeAt p x r c:=fun h1 h2 h3=>⟨⟨k,hk,hr⟩,hlen,hall,⟨L,i,hL,hi,hc⟩,h1,h2,h3⟩
  have node2:∀{r':Rl} {c':List Gl},NodeAt p x r' c'→c'=c:=fun h=>by
   obtain rfl:=node h
   obtain⟨L',i',h1,h2,h3⟩:=h.cls
   rw[hL]at h1;cases h1
   obtain rfl:i'=i:=by omega
   rw[hc]at h3;cases h3;rfl
  refine eIn (hel.mono hle3) ?_
  refine eIn helc ?_
  refine bF [2] fun μ4 hle4 hno4 hat4=>?_
  have hsl:Sl μ4 5 (b.map fun r=>(⟨r,0,none⟩:Addr)) x.vs.length (((iA x.vs).map B.bd).map Bd.d):=by
   have k:=Rows.sl hat4 (hrows.mono hle4) (Nat.le_trans (m:=1000) (by omega) (by decide))
   have w_:=Rep.sl k
   obtain⟨bz,cz,ez,hs⟩:=w_
   have w_:=Value.slice.inj ez
   obtain⟨e1,e2,_⟩:=w_
   rw[List.length_map,List.length_map,hO]at hs
   rwa [←e1]at hs
  have hyl2:ys.length=x.vs.length:=by omega
  have hrule:=pH (cc:=pc.2) (bc:=cp) (i:=i) (vs:=x.vs) (a:=a) ((hrv.mono hle3).mono hle4) ha (by omega) (by omega) (hcs.mono hle4) hci hG hsl
  rw[←hi,←hyl2]at hrule
  refine cE hrule fun v5 μ5 hle5 hR5=>?_
  obtain⟨ru,rv,rfl,hrr,hru⟩:=hR5
  have w_:=Ru.inv hrr
  obtain⟨pr,rfl,h81,h82,h83,h84⟩:=w_
  intro r11
  refine aL (fun hS=>rPl (isF fun k=>?_)) (fun hS=>?_)
  ·obtain ⟨r', c', h', _⟩ := k.inv
   obtain rfl:=node2 h'
   exact hS h'.ok
  have w_:=hru hS
  subst w_
  refine ifd (fun hN=>rPl (isF fun k=>?_)) (fun hN=>?_)
  ·obtain ⟨r', c', h', _⟩ := k.inv
   obtain rfl:=node2 h'
   have h1:=h'.neg
   have hN:((fD r i c' x.vs).neg.length:Int)>0:=hN
   rw[show(fD r i c' x.vs).neg=iO x.vs c' from rfl,h1]at hN
   exact absurd hN (by decide)
  refine aL (fun hP=>rPl (isF fun k=>?_)) (fun hP=>?_)
  ·obtain ⟨r', c', h', _⟩ := k.inv
   obtain rfl:=node2 h'
   exact hP (congrArg Int.ofNat h'.pos)
  have hN:iO x.vs c=[]:=List.eq_nil_of_length_eq_zero (by
   have hN:¬((iO x.vs c).length:Int)>0:=hN
   omega)
  have hP:((dD x.vs c).length:Int)=x.kids.length:=hP
  have hnode:=mkN hS hN (by omega)
  have hle:μ.Le μ5:=(hle3.trans hle4).trans hle5
  refine lIn (fun z:Nat×Mem=>z.1≤x.kids.length∧μ5.Le z.2∧∀(j:Nat) (y:Pf),j<z.1→x.kids[j]? =some y→OkP p y∧(dD x.vs c)[j]? =some (nT p y))
   (fun(n,μ')=>⟨[(2,.loc 0 r2 0),(11,.loc 3 r11 0),(115,.val (.slice q.2.1 x.kids.length q.2.2)),(116,.val (.int .i64 x.kids.length)),(117,.val (.int .i64 n))],[(0,some (.cells r2 [.val (.slice q0.1 p.rels.length q0.2)] 25)),(3,some (.cells r11 [.val (.string r.name),.val (.slice pr.1.1 (x.vs.take r.arity.toNat).length pr.1.2),.val (.int .i64 i),.val (.slice pr.2.1.1 x.vs.length pr.2.1.2),.val (.slice pr.2.2.1.1 (dD x.vs c).length pr.2.2.1.2),.val (.slice pr.2.2.2.1 (iO x.vs c).length pr.2.2.2.2)] 112))],4,μ',Mem.nil⟩) (fun z=>x.kids.length-z.1)
   (0,μ5) ⟨Nat.zero_le _,Mem.Le.refl _,fun j y h=>absurd h (Nat.not_lt_zero _)⟩ (fun(_,_)=>⟨rfl,rfl⟩) ⟨⟨rfl,rfl,rfl,rfl,rfl,trivial⟩,⟨rfl,rfl,trivial⟩,rfl,rfl⟩ ?_
  rintro⟨n,μ'⟩ ⟨hn,hle6,hkids⟩
  dsimp only at hn hle6 hkids
  refine ifd (fun hlt=>?_) (fun hlt=>?_)
  rotate_left
  ·obtain rfl : n = x.kids.length := by omega
   refine rPl (isT (OkP.mk r c hnode (fun y hy=>?_) fun j y hy=>(hkids j y (List.getElem?_eq_some_iff.1 hy).1 hy).2))
   have w_:=List.mem_iff_getElem?.1 hy
   obtain⟨j,hj⟩:=w_
   exact(hkids j y (List.getElem?_eq_some_iff.1 hj).1 hj).1
  have w_:=aSo (l:=x.kids) (i:=n) (by omega)
  obtain⟨y,hy⟩:=w_
  have w_:=Pf.elem (hks.mono (hle.trans hle6)) hy
  obtain⟨ady,py,hely,hry⟩:=w_
  refine eIn hely ?_
  intro r14
  refine cPl (ih y (mAt hy) (hp0.mono (hle.trans hle6)) hry (D.wds_mem (by rw[Pf.d_eq]at hwx;exact hwx.2.2.2.1) _ (mAt (lX (f:=Pf.d) hy)))) fun v7 μ7 hle7 hR7=>?_
  obtain rfl:=hR7
  refine aL (fun h=>rPl (isF fun k=>?_)) (fun hyok=>?_)
  ·obtain ⟨r', c', h', h2, _⟩ := k.inv
   exact h (h2 y (mAt hy))
  have hyok:OkP p y:=hyok
  obtain⟨ry,cy,hny,_,_⟩:=hyok.inv
  have w_:=aSo (l:=dD x.vs c) (i:=n) (by omega)
  obtain⟨f,hf⟩:=w_
  have h83:Sl μ5 2 pr.2.2.1.1 (dD x.vs c).length (((dD x.vs c).map F.fc).map Fc.d):=h83
  have w_:=Fc.elem (l:=(dD x.vs c).map F.fc) (i:=n) (x:=f.fc) (h83.mono hle6) (by rw[List.getElem?_map,hf];rfl)
  obtain⟨adf,pf,helf,hrf⟩:=w_
  refine eIn helf ?_
  refine cPl (qBg (hp0.mono ((hle.trans hle6).trans hle7)) hok (hry.mono hle7) hny) fun v8 μ8 hle8 hR8=>?_
  obtain⟨hR8,e8⟩:=hR8
  obtain rfl:=e8.symm
  refine cGv (eR hR8 (hrf.mono (hle7.trans hle8))) ?_
  refine aL (fun h=>rPl (isF fun k=>?_)) (fun hz=>?_)
  ·obtain ⟨r', c', h', _, h3⟩ := k.inv
   obtain rfl:=node2 h'
   have:=h3 n y hy
   rw[hf]at this
   cases this
   exact h (cmpF_ord.zero _ _ |>.2 rfl)
  have hz:=(cmpF_ord.zero _ _).1 hz
  refine aC (by omega) (by omega) ⟨(n+1,μ7),⟨by dsimp only;omega,hle6.trans hle7,fun j z hj hz2=>?_⟩,by dsimp only;omega,⟨⟨rfl,rfl,rfl,rfl,rfl,trivial⟩,⟨rfl,rfl,trivial⟩,rfl,rfl⟩⟩
  dsimp only at hj
  rcases Nat.lt_or_ge j n with h|h
  ·exact hkids j z h hz2
  ·obtain rfl : j = n := by omega
   rw[hy]at hz2
   cases hz2
   exact⟨hyok,by rw[hf,hz]⟩
end
end Go.Vx
namespace Go.Vx
open Go.Proofs Classical
theorem qHk{vs:List T}{c:List Gl}{m:Nat}{g:Gl}(h:c[m]? =some g)(h9:g.kind=9):(dD vs c)[(dD vs (c.take m)).length]? =some (iZ vs g):=by
 have e:dD vs c=dD vs (c.take (m+1))++dD vs (c.drop (m+1)):=by
  rw[dD,dD,dD,←List.map_append,←List.filter_append,List.take_append_drop]
 rw[e,hC h,if_pos h9,List.append_assoc,List.getElem?_append_right (Nat.le_refl _),Nat.sub_self]
 rfl
theorem posF_lt{vs:List T}{c:List Gl}{m:Nat}{g:Gl}(h:c[m]? =some g)(h9:g.kind=9):(dD vs (c.take m)).length<(dD vs c).length:=(List.getElem?_eq_some_iff.1 (qHk (vs:=vs) h h9)).1
theorem qMk{vs:List T}{c:List Gl}{g:Gl}(h:g∈c)(h10:g.kind=10):iO vs c≠[]:=fun e=>by
 have:iZ vs g.kid∈iO vs c:=List.mem_map.2 ⟨g,List.mem_filter.2 ⟨h,by simpa using h10⟩,rfl⟩
 rw[e]at this
 cases this
theorem qDp{vs xs:List T}{g:Gl}(h9:g.kind≠9)(h10:g.kind≠10)(hx:g.terms=xs.map T.tm):okS vs g↔eP g.kind (xs.map (T.subst (eT vs))):=by
 have e:=qMw (U:=[]) (vs:=vs) h9 h10 hx
 rw[←e,okG,if_neg h9,if_neg h10,okS]
 exact⟨fun h=>h h9 h10,fun h _ _=>h⟩
section
variable {μ:Mem}
theorem uT{p:Pg}{x:Pf}{vp v:Value}{r:Rl}{c:List Gl}(hp:RepV μ p.d vp)(hok:p.Ok)(hv:RepV μ x.d v)(h:NodeAt p x r c):
  Spec Tryz.prog 94 [vp,v] μ fun w μ'=>RepV μ' (nT p x).fc.d w∧μ'=μ:=by
 have hp0:=hp
 have w_:=Pg.inv hp
 obtain⟨q0,rfl,hrl⟩:=w_
 have hv0:=hv
 have w_:=Pf.inv hv
 obtain⟨q,rfl,hvs,hks⟩:=w_
 have hvr:=Pf.valsV hv0
 obtain⟨k,hk,hr⟩:=h.rel
 have hrok:=hok.2 k r hr
 have w_:=Int.eq_ofNat_of_zero_le hrok.ar0
 obtain⟨a,ha⟩:=w_
 have hlo:=hrok.lo0
 have hlen:=h.len
 have hal:a≤x.values.length:=by omega
 have hcap:=(Rep.lensC hvr).2
 have w_:=Rl.elemA hrl hr
 obtain⟨ad,q2,hel,_,_⟩:=w_
 refine Spec.mk Tryz.func94 (by kernel_rfl) ?_
 intro r2 r3 r4
 refine cGv (fX hp0) ?_
 rw[hk]
 refine eIn hel ?_
 refine aE 0 a rfl ha (Nat.zero_le _) (by omega) ?_
 refine rPl ⟨?_,rfl⟩
 have hcut:=Rep.cut hvr hal
 rw[←Pf.vs_tm h.gnd]at hcut
 rw[qEl hk hr ha]
 rw[←List.map_take,←List.map_take]at hcut
 have hl:(x.vs.take a).length=a-0:=by rw[List.length_take,Pf.vs_len];omega
 rw[←hl]at hcut ⊢
 exact F.mkV (f:=⟨x.rel,x.vs.take a⟩) hcut
set_option maxHeartbeats 4000000 in
theorem qCe{p:Pg}(hok:p.Ok):∀(x:Pf) {μ:Mem} {v vp:Value},RepV μ p.d vp→RepV μ x.d v→Spec Tryz.prog 47 [vp,v] μ fun w _=>w= .bool (decide (OkP p x)):=
 Pf.ind fun x ih μ v vp hp hv=>by
  have hp0:=hp
  have w_:=Pg.inv hp
  obtain⟨q0,rfl,hrl⟩:=w_
  have hv0:=hv
  have w_:=Pf.inv hv
  obtain⟨q,rfl,hvs,hks⟩:=w_
  have hn1:=aI hvs.max
  have hn2:=aI hks.max
  have hn3:=hok.1
  refine Spec.mk Tryz.func47 (by kernel_rfl) ?_
  intro r2 r3
  refine cGv (fX hp0) ?_
  refine ifd (fun hneg=>rPl (isF fun k=>?_)) (fun hge=>?_)
  ·obtain ⟨r, c, h, _⟩ := k.inv
   obtain⟨k',h1,_⟩:=h.rel
   omega
  have w_:=jU (show 0≤dA p x.rel by omega)
  obtain⟨k,r,hk,hr,_⟩:=w_
  have hrok:=hok.2 k r hr
  rw[hk]
  have w_:=Rl.elemA hrl hr
  obtain⟨ad,q2,hel,hrv,hb⟩:=w_
  have hb:RepV μ r.body.d (.agg (r.body.cs q2).toArray):=hb
  have w_:=Int.eq_ofNat_of_zero_le hrok.ar0
  obtain⟨a,ha⟩:=w_
  have w_:=Int.eq_ofNat_of_zero_le hrok.lo0
  obtain⟨lo,hlo⟩:=w_
  have har4:=hrok.ar4
  have hlo8:=hrok.lo8
  have hsz:=hrok.size
  have node:∀{r':Rl} {c:List Gl},NodeAt p x r' c→r'=r:=fun h=>by
   obtain⟨k',e1,e2⟩:=h.rel
   obtain rfl:k'=k:=by omega
   rw[hr]at e2
   cases e2;rfl
  refine eIn hel (eIn hel ?_)
  refine aC (by omega) (by omega) ?_
  refine aL (fun hne=>rPl (isF fun k=>?_)) (fun hlen=>?_)
  ·obtain ⟨r', c, h, _⟩ := k.inv
   obtain rfl:=node h
   exact hne h.len
  refine lIn (fun n:Nat=>n≤x.values.length∧(∀t∈x.values.take n,sU t))
   (fun n=>⟨[(2,.loc 0 r2 0),(3,.loc 1 r3 0),(5,.val (.int .i64 k)),(39,.val (.slice q.1.1 x.values.length q.1.2)),(40,.val (.int .i64 x.values.length)),(41,.val (.int .i64 n))],[(0,some (.cells r2 [.val (.slice q0.1 p.rels.length q0.2)] 25)),(1,some (.cells r3 [.val (.string x.rel),.val (.int .i64 x.clause),.val (.slice q.1.1 x.values.length q.1.2),.val (.slice q.2.1 x.kids.length q.2.2)] 31))],2,μ,Mem.nil⟩) (fun n=>x.values.length-n)
   0 ⟨Nat.zero_le _,by simp⟩ (fun _=>⟨rfl,rfl⟩) ⟨⟨rfl,rfl,rfl,rfl,rfl,rfl,trivial⟩,⟨rfl,rfl,trivial⟩,rfl,rfl⟩ ?_
  rintro n ⟨hn,hall⟩
  refine ifd (fun hlt=>?_) (fun hlt=>?_)
  ·have w_ := aSo (l := x.values) (i := n) (by omega)
   obtain⟨t,ht⟩:=w_
   have w_:=Tm.elem hvs ht
   obtain⟨ad1,p1,hel1,hrt⟩:=w_
   refine eIn hel1 ?_
   intro r7
   refine cGv (qE t hrt) ?_
   refine aL (fun h=>rPl (isF fun k=>?_)) (fun hg=>?_)
   ·obtain ⟨r', c', h', _⟩ := k.inv
    exact h (h'.gnd t (mAt ht))
   refine aC (by omega) (by omega) ⟨n+1,⟨by omega,?_⟩,by omega,⟨⟨rfl,rfl,rfl,rfl,rfl,rfl,trivial⟩,⟨rfl,rfl,trivial⟩,rfl,rfl⟩⟩
   rw[List.take_add_one,ht,Option.toList_some]
   intro y hy
   rcases List.mem_append.1 hy with hy|hy
   ·exact hall y hy
   ·rw[List.mem_singleton.1 hy];exact hg
  obtain rfl:n=x.values.length:=by omega
  rw[List.take_length]at hall
  refine eIn hel ?_
  refine cPl (vX r.body hb hrok.body (by omega)) fun v3 μ3 hle3 hR3=>?_
  cases hL:r.body.cl with
  |none=>
   rw[hL]at hR3
   obtain rfl:=hR3
   refine iIn (fun _=>rPl (isF fun k=>?_)) (fun h=>nomatch h)
   obtain⟨r',c,h,_⟩:=k.inv
   obtain rfl:=node h
   obtain⟨L,i,h1,_⟩:=h.cls
   rw[hL]at h1;cases h1
  |some L=>
  rw[hL]at hR3
  obtain⟨tv,rfl,hLr⟩:=hR3
  obtain⟨pv,rfl⟩:=hLr.inv
  have hLb:=Gl.cl_bnd r.body hL
  have hL64:=hLb.2
  refine iIn (fun h=>nomatch h) (fun _=>?_)
  refine ifd (fun hout=>rPl (isF fun k=>?_)) (fun hin0=>?_)
  ·obtain ⟨r', c, h, _⟩ := k.inv
   obtain rfl:=node h
   obtain⟨L',i,h1,h2,h3⟩:=h.cls
   omega
  refine ifd (fun hout=>rPl (isF fun k=>?_)) (fun hin=>?_)
  ·obtain ⟨r', c, h, _⟩ := k.inv
   obtain rfl:=node h
   obtain⟨L',i,h1,h2,h3⟩:=h.cls
   rw[hL]at h1;cases h1
   have:=(List.getElem?_eq_some_iff.1 h3).1
   omega
  have w_:=Int.eq_ofNat_of_zero_le (show 0≤x.clause by omega)
  obtain⟨i,hi⟩:=w_
  have hiL:i<L.length:=by omega
  have w_:=aSo (l:=L) (i:=i) hiL
  obtain⟨c,hc⟩:=w_
  have hci:c.length≤1000:=by have:=hLb.1 c (mAt hc);omega
  have hLs:=(Cls.sl hLr).1
  have w_:=gD hLs hc
  obtain⟨adc,pc,helc,hrc⟩:=w_
  have hcs:Sl μ3 4 pc.1 c.length (c.map Gl.d):=by
   have w_:=Rep.sl (xs:=c.map Gl.d) hrc
   obtain⟨b',c',e1,hs⟩:=w_
   have w_:=Value.slice.inj e1
   obtain⟨rfl,_,_⟩:=w_
   simpa using hs
  have hG:∀g∈c,ClG g:=fun g hg=>ClG.of hok hr hL (mAt hc) hg
  have hvl:x.vs.length=a+lo:=by rw[Pf.vs_len];omega
  have hvtm:=Pf.vs_tm hall
  rw[←hi]at helc
  have node2:∀{r':Rl} {c':List Gl},NodeAt p x r' c'→c'=c:=fun h=>by
   obtain rfl:=node h
   obtain⟨L',i',h1,h2,h3⟩:=h.cls
   rw[hL]at h1;cases h1
   obtain rfl:i'=i:=by omega
   rw[hc]at h3;cases h3;rfl
  refine eIn helc ?_
  refine lIn (fun z:Nat×Nat×Mem=>z.1≤c.length∧μ3.Le z.2.2∧z.2.1=(dD x.vs (c.take z.1)).length∧z.2.1≤x.kids.length∧(∀g∈c.take z.1,okS x.vs g)∧(∀g∈c.take z.1,g.kind≠10)∧∀(j:Nat) (y:Pf),j<z.2.1→x.kids[j]? =some y→OkP p y∧(dD x.vs c)[j]? =some (nT p y))
   (fun(m,kd,μ')=>⟨[(2,.loc 0 r2 0),(3,.loc 1 r3 0),(10,.val (.int .i64 kd)),(77,.val (.slice pc.1 c.length pc.2)),(78,.val (.int .i64 c.length)),(79,.val (.int .i64 m))],[(0,some (.cells r2 [.val (.slice q0.1 p.rels.length q0.2)] 25)),(1,some (.cells r3 [.val (.string x.rel),.val (.int .i64 x.clause),.val (.slice q.1.1 x.values.length q.1.2),.val (.slice q.2.1 x.kids.length q.2.2)] 31))],2,μ',Mem.nil⟩) (fun z=>c.length-z.1)
   (0,0,μ3) ⟨Nat.zero_le _,Mem.Le.refl _,rfl,Nat.zero_le _,by simp,by simp,fun j y h=>absurd h (Nat.not_lt_zero _)⟩ (fun(_,_,_)=>⟨rfl,rfl⟩) ⟨⟨rfl,rfl,rfl,rfl,rfl,rfl,trivial⟩,⟨rfl,rfl,trivial⟩,rfl,rfl⟩ ?_
  rintro⟨m,kd,μ4⟩ ⟨hm,hle4,hkd,hkl,hokS,hno10,hkids⟩
  dsimp only at hm hle4 hkd hkl hokS hno10 hkids
  refine ifd (fun hlt=>?_) (fun hlt=>?_)
  rotate_left
  ·obtain rfl : m = c.length := by omega
   rw[List.take_length]at hkd hokS hno10
   refine rPl (congrArg Value.bool (decide_eq_decide.2 ⟨fun h=>?_,fun k=>?_⟩))
   ·have hneg:iO x.vs c=[]:=by
     rw[iO,List.filter_eq_nil_iff.2 fun g hg=>by simpa using hno10 g hg];rfl
    have hnode:NodeAt p x r c:=⟨⟨k,hk,hr⟩,hlen,hall,⟨L,i,hL,hi,hc⟩,hokS,hneg,by omega⟩
    refine OkP.mk r c hnode (fun y hy=>?_) fun j y hy=>(hkids j y (by have:=(List.getElem?_eq_some_iff.1 hy).1;omega) hy).2
    have w_:=List.mem_iff_getElem?.1 hy
    obtain⟨j,hj⟩:=w_
    exact(hkids j y (by have:=(List.getElem?_eq_some_iff.1 hj).1;omega) hj).1
   ·obtain ⟨r', c', h', _⟩ := k.inv
    obtain rfl:=node2 h'
    have:=h'.pos
    omega
  have w_:=aSo (l:=c) (i:=m) (by omega)
  obtain⟨g,hg⟩:=w_
  have w_:=Gl.elem (hcs.mono hle4) hg
  obtain⟨adg,pg,helg,hrg⟩:=w_
  refine eIn helg ?_
  intro r12
  have w_:=ClV.of (n:=a+lo) hok hr hL (mAt hc) (mAt hg) (by omega)
  obtain⟨⟨xs,hxs⟩,_⟩:=w_
  have hG1:=hG g (mAt hg)
  have hstep:∀y∈c.take (m+1),y∈c.take m∨y=g:=fun y hy=>by
   rw[List.take_add_one,hg,Option.toList_some]at hy
   rcases List.mem_append.1 hy with hy|hy
   ·exact .inl hy
   ·exact .inr (List.mem_singleton.1 hy)
  refine ifd (fun h10=>rPl (isF fun k=>?_)) (fun h10=>?_)
  ·obtain ⟨r', c', h', _⟩ := k.inv
   obtain rfl:=node2 h'
   exact qMk (mAt hg) h10 h'.neg
  have hno2:∀y∈c.take (m+1),y.kind≠10:=fun y hy=>by
   rcases hstep y hy with h|rfl
   ·exact hno10 y h
   ·exact h10
  refine ifd (fun h9=>?_) (fun h9=>?_)
  rotate_left
  ·have hvl4:Sl μ4 4 q.1.1 x.vs.length ((x.vs.map T.tm).map Tm.d):=by
    rw[hvtm,Pf.vs_len];exact(hvs.mono hle3).mono hle4
   have htrue:=wW (vc:=q.1.2) hvl4 hrg hxs.terms hxs.len (fun y hy n hn=>by have:=hxs.low y hy n hn;omega) (by have:=hG1.simple;rwa [hxs.terms,List.length_map]at this)
   rw[Pf.vs_len]at htrue
   refine cPl htrue fun v5 μ5 hle5 hR5=>?_
   obtain rfl:=hR5
   refine aL (fun hf=>rPl (isF fun k=>?_)) (fun ht=>?_)
   ·obtain ⟨r', c', h', _⟩ := k.inv
    obtain rfl:=node2 h'
    exact hf ((qDp h9 h10 hxs.terms).1 (h'.ok g (mAt hg)))
   refine aC (by omega) (by omega) ⟨(m+1,kd,μ5),⟨by dsimp only;omega,hle4.trans hle5,by dsimp only;rw[hC hg,if_neg h9,List.append_nil];exact hkd,hkl,fun y hy=>?_,hno2,hkids⟩,by dsimp only;omega,⟨⟨rfl,rfl,rfl,rfl,rfl,rfl,trivial⟩,⟨rfl,rfl,trivial⟩,rfl,rfl⟩⟩
   rcases hstep y hy with h|rfl
   ·exact hokS y h
   ·exact(qDp h9 h10 hxs.terms).2 ht
  have hpf:=qHk (vs:=x.vs) hg h9
  have hpl:=posF_lt (vs:=x.vs) hg h9
  rw[←hkd]at hpf hpl
  refine ifd (fun hout=>rPl (isF fun k=>?_)) (fun hin=>?_)
  ·obtain ⟨r', c', h', _⟩ := k.inv
   obtain rfl:=node2 h'
   have:=h'.pos
   omega
  have w_:=aSo (l:=x.kids) (i:=kd) (by omega)
  obtain⟨y,hy⟩:=w_
  have w_:=Pf.elem (hks.mono (hle3.trans hle4)) hy
  obtain⟨ady,py,hely,hry⟩:=w_
  refine eIn hely ?_
  refine cPl (ih y (mAt hy) (hp0.mono (hle3.trans hle4)) hry) fun v7 μ7 hle7 hR7=>?_
  obtain rfl:=hR7
  refine aL (fun h=>rPl (isF fun k=>?_)) (fun hyok=>?_)
  ·obtain ⟨r', c', h', h2, _⟩ := k.inv
   exact h (h2 y (mAt hy))
  have hyok:OkP p y:=hyok
  obtain⟨ry,cy,hny,_,_⟩:=hyok.inv
  have hca:=xB (μ:=μ7) (vs:=x.vs) (xs:=xs) (vb:=q.1.1) (vc:=q.1.2) (by rw[hvtm,Pf.vs_len];exact((hvs.mono hle3).mono hle4).mono hle7) (hrg.mono hle7) hxs.terms hxs.len (fun y hy n hn=>by have:=hxs.low y hy n hn;omega)
  rw[Pf.vs_len]at hca
  have hpr:=fun(μ8:Mem) (h:μ7.Le μ8)=>uT (μ:=μ8) (hp0.mono (((hle3.trans hle4).trans hle7).trans h)) hok ((hry.mono hle7).mono h) hny
  have fin:∀j z,j<kd+1→x.kids[j]? =some z→fN (nT p y) (iZ x.vs g)=0→OkP p z∧(dD x.vs c)[j]? =some (nT p z):=fun j z hj hz2 hz=>by
   rcases Nat.lt_or_ge j kd with h|h
   ·exact hkids j z h hz2
   ·obtain rfl : j = kd := by omega
    rw[hy]at hz2
    cases hz2
    exact⟨hyok,by rw[hpf,(cmpF_ord.zero _ _).1 hz]⟩
  refine eIn hely ?_
  refine cPl (hpr _ (Mem.Le.refl _)) fun v8 μ8 hle8 hR8=>?_
  obtain⟨hR8,e8⟩:=hR8
  obtain rfl:=e8.symm
  refine cPl hca fun v9 μ9 hle9 hR9=>?_
  refine cGv (sV (hR8.mono hle9) hR9) ?_
  refine aL (fun h=>rPl (isF fun k=>?_)) (fun hz=>?_)
  ·obtain ⟨r', c', h', _, h3⟩ := k.inv
   obtain rfl:=node2 h'
   have:=h3 kd y hy
   rw[hpf]at this
   have:=Option.some.inj this
   exact h (cmpF_ord.zero _ _ |>.2 this.symm)
  refine aC (by omega) (by omega) ?_
  refine aC (by omega) (by omega) ⟨(m+1,kd+1,μ9),⟨by dsimp only;omega,(hle4.trans hle7).trans hle9,by dsimp only;rw[hC hg,if_pos h9,List.length_append,←hkd];rfl,by dsimp only;have:=(List.getElem?_eq_some_iff.1 hy).1;omega,fun y hy=>?_,hno2,fun j z hj hz2=>fin j z hj hz2 hz⟩,by dsimp only;omega,⟨⟨rfl,rfl,rfl,rfl,rfl,rfl,trivial⟩,⟨rfl,rfl,trivial⟩,rfl,rfl⟩⟩
  rcases hstep y hy with h|rfl
  ·exact hokS y h
  ·exact fun h=>absurd h9 h
theorem iY{p:Pg}{x:Pf}{vp v:Value}(hp:RepV μ p.d vp)(hv:RepV μ x.d v):Spec Tryz.prog 23 [vp,v] μ fun w _=>w= .bool (decide (p.Ok∧x.cnt≤200∧OkP p x)):=by
 have hp0:=hp
 have hv0:=hv
 have w_:=Pg.inv hp
 obtain⟨q0,rfl,-⟩:=w_
 have w_:=Pf.invV hv
 obtain⟨q,rfl⟩:=w_
 have hcp:=x.cnt_pos
 refine Spec.mk Tryz.func23 (by kernel_rfl) ?_
 intro r2 r3
 refine cPl (nI hp0) fun v1 μ1 hle1 hR=>?_
 obtain rfl:=hR
 refine ifd (fun hok=>?_) (fun h=>rPl (isF fun k=>h k.1))
 refine cPl (nH (hv0.mono hle1)) fun v2 μ2 hle2 hR=>?_
 obtain⟨rfl,e⟩:=hR
 obtain rfl:=e.symm
 refine ifd (fun hsz=>?_) (fun h=>rPl (isF fun k=>h (by rw[Pf.size,if_pos k.2.1];omega)))
 have hsz:x.size>0:=hsz
 have hc:x.cnt≤200:=Classical.byContradiction fun k=>by rw[Pf.size,if_neg k]at hsz;exact absurd hsz (by decide)
 refine cPl (qCe hok x (hp0.mono hle1) (hv0.mono hle1)) fun v3 μ3 hle3 hR=>?_
 obtain rfl:=hR
 exact rPl (congrArg Value.bool (decide_eq_decide.2 ⟨fun h=>⟨hok,hc,h⟩,fun h=>h.2.2⟩))
theorem iW{p:Pg}{x:Pf}{vp v:Value}(hp:RepV μ p.d vp)(hw:p.d.wd)(hv:RepV μ x.d v)(hwx:x.d.wd):Spec Tryz.prog 9 [vp,v] μ fun w _=>w= .bool (decide (p.Ok∧x.cnt≤200∧OkP p x)):=by
 have hp0:=hp
 have hv0:=hv
 have w_:=Pg.inv hp
 obtain⟨q0,rfl,-⟩:=w_
 have w_:=Pf.invV hv
 obtain⟨q,rfl⟩:=w_
 have hcp:=x.cnt_pos
 refine Spec.mk Tryz.func9 (by kernel_rfl) ?_
 intro r2 r3
 refine cPl (bP hp0 hw) fun v1 μ1 hle1 hR=>?_
 obtain rfl:=hR
 refine ifd (fun hok=>?_) (fun h=>rPl (isF fun k=>h k.1))
 refine cGv (nL (hv0.mono hle1)) ?_
 refine ifd (fun hsz=>?_) (fun h=>rPl (isF fun k=>h (by rw[Pf.size,if_pos k.2.1];omega)))
 have hsz:x.size>0:=hsz
 have hc:x.cnt≤200:=Classical.byContradiction fun k=>by rw[Pf.size,if_neg k]at hsz;exact absurd hsz (by decide)
 refine cPl (qFi hw hok x (hp0.mono hle1) (hv0.mono hle1) hwx) fun v3 μ3 hle3 hR=>?_
 obtain rfl:=hR
 exact rPl (congrArg Value.bool (decide_eq_decide.2 ⟨fun h=>⟨hok,hc,h⟩,fun h=>h.2.2⟩))
end
end Go.Vx
namespace Go.Vx
open Go.Proofs Classical
theorem T.ext_args{x y:T}(h1:x.tm.kind=y.tm.kind)(h2:x.tm.num=y.tm.num)(h3:x.tm.name=y.tm.name)(h4:x.args=y.args):x=y:=by
 cases x<;>cases y<;>simp_all [T.tm,Tm.kind,Tm.num,Tm.name,T.args]
theorem vU{α:Type}{l m:List α}(hl:l.length=m.length)(h:∀(j:Nat) x y,l[j]? =some x→m[j]? =some y→x=y):l=m:=
 List.ext_getElem? fun j=>by
  rcases Nat.lt_or_ge j l.length with k|k
  ·have w_ := aSo (l := l) (i := j) k
   obtain⟨x,hx⟩:=w_
   have w_:=aSo (l:=m) (i:=j) (by omega)
   obtain⟨y,hy⟩:=w_
   rw[hx,hy,h j x y hx hy]
  ·rw[List.getElem?_eq_none k,List.getElem?_eq_none (by omega)]
section
variable {μ:Mem}
theorem qKo:∀(x y:T) {v w:Value},RepV μ x.tm.d v→RepV μ y.tm.d w→aQ Tryz.prog 66 [v,w] μ (.bool (decide (x=y))):=
 T.ind fun x ih y v w hv hw=>by
  have w_:=T.inv hv
  obtain⟨base,cap,rfl,hsl⟩:=w_
  have w_:=T.inv hw
  obtain⟨base2,cap2,rfl,hsl2⟩:=w_
  have hn:=aI hsl.max
  refine Spec.mk Tryz.func66 (by kernel_rfl) ?_
  intro r1 r2
  refine aL (fun h1=>rGv (isF fun e=>h1 (by rw[e])) rfl) (fun h1=>?_)
  refine aL (fun h2=>rGv (isF fun e=>h2 (by rw[e])) rfl) (fun h2=>?_)
  refine aL (fun h3=>rGv (isF fun e=>h3 (by rw[e])) rfl) (fun h3=>?_)
  refine aL (fun h4=>rGv (isF fun e=>h4 (by rw[e])) rfl) (fun h4=>?_)
  have h4:x.args.length=y.args.length:=by omega
  refine lIn (fun i:Nat=>i≤x.args.length∧∀j a b,j<i→x.args[j]? =some a→y.args[j]? =some b→a=b)
   (fun i=>⟨[(3,.loc 1 r2 0),(36,.val (.slice base x.args.length cap)),(37,.val (.int .i64 x.args.length)),(38,.val (.int .i64 i))],[(1,some (.cells r2 [.val (.int .i64 y.tm.kind),.val (.int .i64 y.tm.num),.val (.string y.tm.name),.val (.slice base2 y.args.length cap2)] 57))],2,μ,Mem.nil⟩) (fun i=>x.args.length-i)
   0 ⟨Nat.zero_le _,fun j a b hj=>absurd hj (Nat.not_lt_zero _)⟩ (fun _=>⟨rfl,rfl⟩) ⟨⟨rfl,rfl,rfl,rfl,trivial⟩,⟨rfl,trivial⟩,rfl,rfl⟩ ?_
  rintro i ⟨hi,heq⟩
  refine ifd (fun h=>?_) (fun h=>?_)
  ·have w_ := aSo (l := x.args) (i := i) (by omega)
   obtain⟨a,ha⟩:=w_
   have w_:=aSo (l:=y.args) (i:=i) (by omega)
   obtain⟨b,hb⟩:=w_
   have w_:=T.arg hsl ha
   obtain⟨ad,p,hel,hto⟩:=w_
   have w_:=T.arg hsl2 hb
   obtain⟨ad2,p2,hel2,hto2⟩:=w_
   refine eIn hel ?_
   intro r3
   refine eIn hel2 ?_
   refine cGv (ih a (mAt ha) b hto hto2) ?_
   refine aL (fun h5=>rGv (isF fun e=>h5 ?_) rfl) (fun h5=>?_)
   ·subst e
    rw[ha]at hb
    exact Option.some.inj hb
   ·refine aC (by omega) (by omega) ⟨i + 1, ⟨by omega, fun j c d hj hc hd => ?_⟩, by omega, ⟨⟨rfl, rfl, rfl, rfl, trivial⟩, ⟨rfl, trivial⟩, rfl, rfl⟩⟩
    rcases Nat.lt_or_ge j i with h6|h6
    ·exact heq j c d h6 hc hd
    ·obtain rfl : j = i := by omega
     rw[ha]at hc
     rw[hb]at hd
     cases hc;cases hd
     exact h5
  ·obtain rfl : i = x.args.length := by omega
   refine rGv (isT (T.ext_args h1 h2 h3 (vU h4 fun j a b ha hb=>?_))) rfl
   exact heq j a b (List.getElem?_eq_some_iff.1 ha).1 ha hb
theorem qJl{x y:List T}{base base2:Option Addr}{cap cap2:Nat}(hsl:Sl μ 4 base x.length ((x.map T.tm).map Tm.d))(hsl2:Sl μ 4 base2 y.length ((y.map T.tm).map Tm.d)):
  aQ Tryz.prog 31 [.slice base x.length cap,.slice base2 y.length cap2] μ (.bool (decide (x=y))):=by
 have hn:=aI hsl.max
 refine Spec.mk Tryz.func31 (by kernel_rfl) ?_
 refine aL (fun h4=>rGv (isF fun e=>h4 (by rw[e])) rfl) (fun h4=>?_)
 have h4:x.length=y.length:=by omega
 refine lIn (fun i:Nat=>i≤x.length∧∀j a b,j<i→x[j]? =some a→y[j]? =some b→a=b)
  (fun i=>⟨[(1,.val (.slice base2 y.length cap2)),(12,.val (.slice base x.length cap)),(13,.val (.int .i64 x.length)),(14,.val (.int .i64 i))],[],0,μ,Mem.nil⟩) (fun i=>x.length-i)
  0 ⟨Nat.zero_le _,fun j a b hj=>absurd hj (Nat.not_lt_zero _)⟩ (fun _=>⟨rfl,rfl⟩) ⟨⟨rfl,rfl,rfl,rfl,trivial⟩,trivial,rfl,rfl⟩ ?_
 rintro i ⟨hi,heq⟩
 refine ifd (fun h=>?_) (fun h=>?_)
 rotate_left
 ·obtain rfl : i = x.length := by omega
  refine rGv (isT (vU h4 fun j a b ha hb=>?_)) rfl
  exact heq j a b (List.getElem?_eq_some_iff.1 ha).1 ha hb
 have w_:=aSo (l:=x) (i:=i) (by omega)
 obtain⟨a,ha⟩:=w_
 have w_:=aSo (l:=y) (i:=i) (by omega)
 obtain⟨b,hb⟩:=w_
 have w_:=Tm.elem (i:=i) (t:=a.tm) hsl (by simp[ha])
 obtain⟨ad,p,hel,hto⟩:=w_
 have w_:=Tm.elem (i:=i) (t:=b.tm) hsl2 (by simp[hb])
 obtain⟨ad2,p2,hel2,hto2⟩:=w_
 refine eIn hel ?_
 intro r3
 refine eIn hel2 ?_
 refine cGv (qKo a b hto hto2) ?_
 refine aL (fun h5=>rGv (isF fun e=>h5 ?_) rfl) (fun h5=>?_)
 ·subst e
  rw[ha]at hb
  exact Option.some.inj hb
 ·refine aC (by omega) (by omega) ⟨i + 1, ⟨by omega, fun j c d hj hc hd => ?_⟩, by omega, ⟨⟨rfl, rfl, rfl, rfl, trivial⟩, trivial, rfl, rfl⟩⟩
  rcases Nat.lt_or_ge j i with h6|h6
  ·exact heq j c d h6 hc hd
  ·obtain rfl : j = i := by omega
   rw[ha]at hc
   rw[hb]at hd
   cases hc;cases hd
   exact h5
end
end Go.Vx
