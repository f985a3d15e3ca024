/- Texts of the proof, part E3. -/
import Derived.Test.YtnogdfionomoaaaGreatE2
namespace Go.Vx
open Go.Proofs Classical
noncomputable def Fc.f(x:Fc):F:=⟨x.rel,x.args.map Tm.toT⟩
theorem F.fc_f(f:F):f.fc.f=f:=by
 show F.mk f.rel ((f.args.map T.tm).map Tm.toT)=f
 rw[gO]
theorem FactFits.lift{p:Pg}{x:Fc}(h:FactFits p x):x.f.fc=x∧∀a∈x.f.args,a.ok∧a.vars=[]:=by
 have w_:=fD fun t ht=>(h.2 t ht).1
 obtain⟨xs,hxs,hok⟩:=w_
 have e:x.f.args=xs:=by show x.args.map Tm.toT=xs;rw[hxs,gO]
 refine⟨?_,fun a ha=>?_⟩
 ·show Fc.mk x.rel (x.f.args.map T.tm) = x
  rw[e,←hxs]
 ·rw [e] at ha
  refine⟨hok a ha,?_⟩
  have:=(h.2 a.tm (by rw[hxs];exact List.mem_map_of_mem ha)).2
  rwa [T.toT_tm]at this
section
variable {μ:Mem}
theorem iS(t:Tm){v:Value}(hv:RepV μ t.d v)(hw:t.d.wd):aM Tryz.prog 141 [v] μ (.bool (decide (GndT t))):=by
 by_cases h:t.Ok
 ·obtain ⟨x, hx, rfl⟩ := h.lift
  have:=pT x hv hx hw
  have e:(decide (x.vars=[]))=decide (GndT x.tm):=decide_eq_decide.2 ⟨fun k=>⟨h,by rw[T.toT_tm];exact k⟩,fun k=>by have:=k.2;rwa [T.toT_tm]at this⟩
  rwa [e]at this
 ·have w_ := Tm.invV hv
  obtain⟨p,rfl⟩:=w_
  refine Spec.mk Tryz.func141 (by kernel_rfl) ?_
  intro r
  refine cGv (fF t hv hw) ?_
  refine ifd (fun k=>absurd k h) (fun _=>?_)
  exact rGv (by rw[decide_eq_false fun k=>h k.1]) rfl
theorem iL(t:Tm){v:Value}(hv:RepV μ t.d v):aM Tryz.prog 107 [v] μ (.bool (decide (GndT t))):=by
 have hv0:=hv
 have w_:=Tm.invV hv
 obtain⟨p,rfl⟩:=w_
 refine Spec.forget (Spec.mk Tryz.func107 (by kernel_rfl) ?_)
 intro r
 refine cGv (fU t hv0) ?_
 refine ifd (fun h=>?_) (fun h=>?_)
 ·obtain ⟨x, hx, rfl⟩ := h.lift
  refine cGv (oX x hv0) ?_
  refine rPl (isI ⟨fun k=>⟨h,by rw[T.toT_tm];exact k⟩,fun k=>by have:=k.2;rwa [T.toT_tm]at this⟩)
 ·exact rPl (isF fun k=>h k.1)
theorem nS{l:List Tm}{base:Option Addr}{cap:Nat}(hsl:Sl μ 4 base l.length (l.map Tm.d))(hw:D.wds (l.map Tm.d)):
  aM Tryz.prog 70 [.slice base l.length cap] μ (.bool (decide (UnivOk l))):=by
 have hn:=aH hsl.max
 have bad:¬UnivOk l→Value.bool false= .bool (decide (UnivOk l)):=fun k=>isF k
 refine Spec.mk Tryz.func70 (by kernel_rfl) ?_
 refine lIn (fun i:Nat=>i≤l.length∧UnivTo l i)
  (fun i=>⟨[(0,.val (.slice base l.length cap)),(5,.val (.slice base l.length cap)),(6,.val (.int .i64 l.length)),(7,.val (.int .i64 i))],[],0,μ,Mem.nil⟩) (fun i=>l.length-i)
  0 ⟨Nat.zero_le _,fun j hj=>by omega⟩ (fun _=>⟨rfl,rfl⟩) ⟨⟨rfl,rfl,rfl,rfl,trivial⟩,trivial,rfl,rfl⟩ ?_
 rintro i ⟨hi,hall⟩
 refine ifd (fun hlt=>?_) (fun hlt=>?_)
 ·have w_ := aSo (l := l) (i := i) (by omega)
  obtain⟨t,ht⟩:=w_
  have w_:=Tm.elem hsl ht
  obtain⟨ad,p,hel,hr⟩:=w_
  refine eIn hel ?_
  intro r4
  refine cGv (iS t hr (D.wds_mem hw _ (mAt (lM (f:=Tm.d) ht)))) ?_
  refine aL (fun h=>rGv (bad fun k=>h (k.gnd t (mAt ht))) rfl) (fun hg=>?_)
  have ok1:(∀k x y,k+1=i→l[k]? =some x→l[i]? =some y→x.toT.cmp y.toT<0)→UnivTo l (i+1):=fun hc j hj=>by
   rcases Nat.lt_or_ge j i with h6|h6
   ·exact hall j h6
   ·obtain rfl : j = i := by omega
    exact⟨fun t' ht'=>by rw[ht]at ht';cases ht';exact hg,hc⟩
  refine ifd (fun hi0=>?_) (fun hi0=>?_)
  ·have w_ := aSo (l := l) (i := i - 1) (by omega)
   obtain⟨t',ht'⟩:=w_
   have w_:=Tm.elem hsl ht'
   obtain⟨ad',p',hel',hr'⟩:=w_
   have hg':=(hall (i-1) (by omega)).1 t' ht'
   obtain⟨x,_,rfl⟩:=hg.1.lift
   obtain⟨y,_,rfl⟩:=hg'.1.lift
   refine aB (by omega) (by omega) ?_
   refine eIn (by rw[show((i:Int)-1)=((i-1:Nat):Int) by omega];exact hel') ?_
   refine cGv (gR y x hr' hr) ?_
   refine ifd (fun hc=>(fun e=>rGv e rfl) ?_) (fun hc=>?_)
   ·refine bad fun k => ?_
    have:=k.asc (i-1) _ _ ht' (by rw[show i-1+1=i by omega];exact ht)
    rw[T.toT_tm,T.toT_tm]at this
    omega
   ·refine aB (by omega) (by omega) ⟨i + 1, ⟨by omega, ok1 fun k a b hk ha hb => ?_⟩, by omega, ⟨⟨rfl, rfl, rfl, rfl, trivial⟩, trivial, rfl, rfl⟩⟩
    obtain rfl:k=i-1:=by omega
    rw[ht']at ha;rw[ht]at hb;cases ha;cases hb
    rw[T.toT_tm,T.toT_tm];omega
  ·exact aB (by omega) (by omega) ⟨i+1,⟨by omega,ok1 fun k a b hk _ _=>by omega⟩,by omega,⟨⟨rfl,rfl,rfl,rfl,trivial⟩,trivial,rfl,rfl⟩⟩
 ·obtain rfl : i = l.length := by omega
  refine cGv (bG _ _ _ _) ?_
  refine rGv (isI ?_) rfl
  exact⟨fun h=>hall.all (by omega) (by omega),fun h=>⟨by have:=h.pos;omega,by have:=h.max;omega⟩⟩
theorem nB{l:List Tm}{base:Option Addr}{cap:Nat}(hsl:Sl μ 4 base l.length (l.map Tm.d)):
  aM Tryz.prog 129 [.slice base l.length cap] μ (.bool (decide (UnivOk l))):=by
 have hn:=aH hsl.max
 have bad:¬UnivOk l→Value.bool false= .bool (decide (UnivOk l)):=fun k=>isF k
 refine Spec.mk Tryz.func129 (by kernel_rfl) ?_
 refine ifd (fun h=>rGv (bad fun k=>by have:=k.pos;omega) rfl) (fun h1=>?_)
 refine ifd (fun h=>rGv (bad fun k=>by have:=k.max;omega) rfl) (fun h8=>?_)
 refine lIn (fun i:Nat=>i≤l.length∧UnivTo l i)
  (fun i=>⟨[(0,.val (.slice base l.length cap)),(13,.val (.slice base l.length cap)),(14,.val (.int .i64 l.length)),(15,.val (.int .i64 i))],[],0,μ,Mem.nil⟩) (fun i=>l.length-i)
  0 ⟨Nat.zero_le _,fun j hj=>by omega⟩ (fun _=>⟨rfl,rfl⟩) ⟨⟨rfl,rfl,rfl,rfl,trivial⟩,trivial,rfl,rfl⟩ ?_
 rintro i ⟨hi,hall⟩
 refine ifd (fun hlt=>?_) (fun hlt=>?_)
 ·have w_ := aSo (l := l) (i := i) (by omega)
  obtain⟨t,ht⟩:=w_
  have w_:=Tm.elem hsl ht
  obtain⟨ad,p,hel,hr⟩:=w_
  refine eIn hel ?_
  intro r4
  refine cGv (iL t hr) ?_
  refine aL (fun h=>rGv (bad fun k=>h (k.gnd t (mAt ht))) rfl) (fun hg=>?_)
  have ok1:(∀k x y,k+1=i→l[k]? =some x→l[i]? =some y→x.toT.cmp y.toT<0)→UnivTo l (i+1):=fun hc j hj=>by
   rcases Nat.lt_or_ge j i with h6|h6
   ·exact hall j h6
   ·obtain rfl : j = i := by omega
    exact⟨fun t' ht'=>by rw[ht]at ht';cases ht';exact hg,hc⟩
  refine ifd (fun hi0=>?_) (fun hi0=>?_)
  ·have w_ := aSo (l := l) (i := i - 1) (by omega)
   obtain⟨t',ht'⟩:=w_
   have w_:=Tm.elem hsl ht'
   obtain⟨ad',p',hel',hr'⟩:=w_
   have hg':=(hall (i-1) (by omega)).1 t' ht'
   obtain⟨x,_,rfl⟩:=hg.1.lift
   obtain⟨y,_,rfl⟩:=hg'.1.lift
   refine aB (by omega) (by omega) ?_
   refine eIn (by rw[show((i:Int)-1)=((i-1:Nat):Int) by omega];exact hel') ?_
   refine cGv (eV y x hr' hr) ?_
   refine ifd (fun hc=>(fun e=>rGv e rfl) ?_) (fun hc=>?_)
   ·refine bad fun k => ?_
    have:=k.asc (i-1) _ _ ht' (by rw[show i-1+1=i by omega];exact ht)
    rw[T.toT_tm,T.toT_tm]at this
    omega
   ·refine aB (by omega) (by omega) ⟨i + 1, ⟨by omega, ok1 fun k a b hk ha hb => ?_⟩, by omega, ⟨⟨rfl, rfl, rfl, rfl, trivial⟩, trivial, rfl, rfl⟩⟩
    obtain rfl:k=i-1:=by omega
    rw[ht']at ha;rw[ht]at hb;cases ha;cases hb
    rw[T.toT_tm,T.toT_tm];omega
  ·exact aB (by omega) (by omega) ⟨i+1,⟨by omega,ok1 fun k a b hk _ _=>by omega⟩,by omega,⟨⟨rfl,rfl,rfl,rfl,trivial⟩,trivial,rfl,rfl⟩⟩
 ·obtain rfl : i = l.length := by omega
  exact rGv (isT (hall.all (by omega) (by omega))) rfl
noncomputable def eF(p:Pg)(s:ByteArray):Int:=if p.Ok then relAt p s else -1
theorem iR{p:Pg}{s:ByteArray}{v:Value}(hp:RepV μ p.d v)(hw:p.d.wd):Spec Tryz.prog 166 [v,.string s] μ fun r _=>r= .int .i64 (eF p s):=by
 have hp0:=hp
 have w_:=Pg.inv hp
 obtain⟨q,rfl,_⟩:=w_
 refine Spec.mk Tryz.func166 (by kernel_rfl) ?_
 intro r2
 refine cPl (bD hp0 hw) fun v1 μ1 hle1 hR=>?_
 obtain rfl:=hR
 refine aL (fun h=>rPl (by rw[eF,if_neg h])) (fun h=>?_)
 refine cGv (dI (hp0.mono hle1)) ?_
 exact rPl (by rw[eF,if_pos h])
end
end Go.Vx
namespace Go.Vx
open Go.Proofs Classical
def kQ(vs:List T):List B:=vs.zipIdx.map fun p=>⟨(p.2:Int),p.1⟩
theorem qGh:∀(vs:List T) (k:Nat) (n:Int),sub ((vs.zipIdx k).map fun p=>⟨(p.2:Int),p.1⟩) n=if(k:Int)≤n then vs[(n-k).toNat]? else none
 |[],k,n=>by simp[sub]
 |x::vs,k,n=>by
  rw[List.zipIdx_cons,List.map_cons,sub,qGh vs (k+1) n]
  by_cases h:(k:Int)=n
  ·subst h;simp
  ·rw [if_neg h]
   by_cases h2:(k:Int)≤n
   ·rw [if_pos (by omega), if_pos h2]
    obtain⟨m,hm⟩:∃m:Nat,(n-k).toNat=m+1:=⟨(n-k).toNat-1,by omega⟩
    rw[hm,List.getElem?_cons_succ]
    congr 1;omega
   ·rw[if_neg (by omega),if_neg h2]
theorem qHh(vs:List T):sub (kQ vs)=bT vs:=funext fun n=>by
 rw[kQ,qGh vs 0 n,bT]
 simp
theorem lH(vs:List T):(kQ vs).length=vs.length:=by simp[kQ]
theorem zH{vs:List T}{i:Nat}{x:T}(h:vs[i]? =some x):(kQ vs)[i]? =some ⟨(i:Int),x⟩:=by simp[kQ,h]
theorem pU(vs:List T)(i:Nat):(kQ vs).take i=kQ (vs.take i):=by
 refine List.ext_getElem? fun k=>?_
 simp only[kQ,List.getElem?_take,List.getElem?_map,List.getElem?_zipIdx]
 split<;>simp
def qHm(size n most:Nat)(r:Value):Prop:=∃w:Nat,r= .int .i64 w∧(size ^ n≤most→w=size ^ n)∧(most<size ^ n→most<w)
section
variable {μ:Mem}
theorem zV{size n most:Nat}(h1:1≤size)(h8:size≤8)(hm:most≤100000)(hn:n≤1000)(hm1:1≤most):
  Spec Tryz.prog 71 [.int .i64 size,.int .i64 n,.int .i64 most] μ fun r μ'=>qHm size n most r∧μ'=μ:=by
 refine Spec.forget (Spec.mk Tryz.func71 (by kernel_rfl) ?_)
 refine lIn (fun z:Nat×Nat=>z.1≤n∧z.2=size ^ z.1∧z.2≤8*most) (fun(i,k)=>⟨[(0,.val (.int .i64 size)),(1,.val (.int .i64 n)),(2,.val (.int .i64 most)),(7,.val (.int .i64 (k:Nat))),(8,.val (.int .i64 (i:Nat)))],[],0,μ,Mem.nil⟩) (fun z=>n-z.1)
  (0,1) ⟨Nat.zero_le _,rfl,by dsimp only;omega⟩ (fun(_,_)=>⟨rfl,rfl⟩) ⟨⟨rfl,rfl,rfl,rfl,rfl,trivial⟩,trivial,rfl,rfl⟩ ?_
 rintro⟨i,k⟩ ⟨hi,hk,hb⟩
 dsimp only at hi hk hb
 have mono:size ^ i≤size ^ n:=Nat.pow_le_pow_right h1 hi
 refine ifd (fun g1=>?_) (fun g1=>?_)
 ·refine ifd (fun g2 => ?_) (fun g2 => ?_)
  ·have hks:k*size≤8*most:=by
    have:=Nat.mul_le_mul (show k≤most by omega) h8
    omega
   refine nEq (x:=((k*size:Nat):Int)) (by rw[←Int.natCast_mul];exact aA (by omega) (by omega)) ?_
   exact aB (by omega) (by omega) ⟨(i+1,k*size),⟨by dsimp only;omega,by dsimp only;rw[hk,Nat.pow_succ],hks⟩,by dsimp only;omega,⟨⟨rfl,rfl,rfl,rfl,rfl,trivial⟩,trivial,rfl,rfl⟩⟩
  ·exact rPl ⟨k,rfl,fun h=>by omega,fun h=>by omega⟩
 ·obtain rfl : i = n := by omega
  exact rPl ⟨k,rfl,fun _=>hk,fun h=>by omega⟩
theorem uO{U:List T}{ub:Option Addr}(hu:Sl μ 4 ub U.length ((U.map T.tm).map Tm.d))(hU:0<U.length)(w:Nat):∃ad,∃p:Option Addr×Nat,ElemAt μ ub U.length 4 ((w % U.length:Nat):Int) ad ((U.getD (w % U.length) .nil).tm.cs p)∧RepV μ (U.getD (w % U.length) .nil).tm.d (.agg ((U.getD (w % U.length) .nil).tm.cs p).toArray):=
 T.elemL hu (by rw[List.getD_eq_getElem?_getD,List.getElem?_eq_getElem (Nat.mod_lt _ hU)];rfl)
def nP(n:Nat):List Int:=(List.range n).map fun i:Nat=>(i:Int)
theorem rN(n:Nat):(nP n).length=n:=by simp[nP]
theorem qOh{n i:Nat}(h:i<n):(nP n)[i]? =some (i:Int):=by simp[nP,h]
set_option maxHeartbeats 1000000 in
theorem vM{U:List T}{ub vb:Option Addr}{uc vc n w:Nat}(hu:Sl μ 4 ub U.length ((U.map T.tm).map Tm.d))(hU:0<U.length)(hU8:U.length≤8)(hv:Sl μ 1 vb n ((nP n).map D.i))(hn:n≤1000)(hw:w≤100000):
  Spec Tryz.prog 72 [.slice vb n vc,.slice ub U.length uc,.int .i64 w] μ fun v μ'=>RepV μ' (.sl 5 (((kQ (dR U n w)).map B.bd).map Bd.d)) v:=by
 refine Spec.mk Tryz.func72 (by kernel_rfl) ?_
 intro r10
 refine lIn (fun z:Nat×Option Nat×Nat×List Value=>z.1≤n∧Rows μ 5 (((kQ ((dR U n w).take z.1)).map B.bd).map Bd.d) z.2.2.2)
  (fun(i,b,c,ys)=>⟨[(1,.val (.slice ub U.length uc)),(2,.val (.int .i64 ((w / U.length ^ i:Nat):Int))),(7,.row 0 b ys.length c),(11,.val (.slice vb n vc)),(12,.val (.int .i64 n)),(13,.val (.int .i64 i))],[(0,some (.row b c 100 5 ys))],1,μ,Mem.nil⟩) (fun z=>n-z.1)
  (0,some r10,0,[]) ⟨Nat.zero_le _,.nil⟩ (fun(_,_,_,_)=>⟨rfl,rfl⟩) ⟨⟨rfl,by rw[Nat.pow_zero,Nat.div_one];rfl,rfl,rfl,rfl,rfl,trivial⟩,⟨rfl,trivial⟩,rfl,rfl⟩ ?_
 rintro⟨i,b,c,ys⟩ ⟨hi,hrows⟩
 dsimp only at hi hrows
 have hlen:=hrows.len
 simp only[List.length_map,lH,List.length_take,gG]at hlen
 have hdw:w / U.length ^ i≤w:=Nat.div_le_self _ _
 refine ifd (fun h=>?_) (fun h=>?_)
 ·have w_ := Ints.elem hv (qOh (n := n) (i := i) (by omega))
  obtain⟨ad,hel⟩:=w_
  refine eIn hel ?_
  refine aC (by omega) ?_
  refine nEq (x:=((w / U.length ^ i % U.length:Nat):Int)) rfl ?_
  have w_:=uO hu hU (w / U.length ^ i)
  obtain⟨ad2,p,hel2,hr⟩:=w_
  refine eIn hel2 ?_
  intro r27
  refine gIn ?_ ?_ fun b' c' _=>?_
  ·show(ys.length+1)*64≤_;omega
  ·exact Nat.le_trans (m:=100000000) (show ys.length+1≤_ by omega) (by decide)
  refine aC (by omega) ?_
  refine nEq (x:=((w / U.length ^ (i+1):Nat):Int)) ?_ ?_
  ·have e : w / U.length ^ (i + 1) = w / U.length ^ i / U.length := by rw [Nat.pow_succ, Nat.div_div_eq_div_mul]
   rw[e]
   have hd2:w / U.length ^ i / U.length≤w / U.length ^ i:=Nat.div_le_self _ _
   show IntKind.i64.wrap ((w / U.length ^ i / U.length:Nat):Int)=_
   generalize w / U.length ^ i / U.length=m at hd2 ⊢
   exact aA (by omega) (by omega)
  refine aB (by omega) (by omega) ⟨(i+1,b',c',_),⟨by dsimp only;omega,?_⟩,by dsimp only;omega,⟨⟨rfl,rfl,rfl,rfl,rfl,rfl,trivial⟩,⟨rfl,trivial⟩,rfl,rfl⟩⟩
  dsimp only
  rw[←pU,List.take_add_one,zH (qT U i n w (by omega)),Option.toList_some,pU]
  simp only[List.map_append,List.map_cons,List.map_nil]
  exact hrows.append (Rows.one (RepV.bd hr) (Bd.d_n _))
 ·obtain rfl : i = n := by omega
  rw[List.take_of_length_le (by rw[gG];omega)]at hrows
  refine rFz [0] fun μ' hle' hno hrow=> .inl ?_
  exact Rows.sl hrow (hrows.mono hle') (Nat.le_trans (m:=100000000) (by omega) (by decide))
theorem sB{U:List T}{ub:Option Addr}{uc:Nat}{x:T}{v:Value}(hu:Sl μ 4 ub U.length ((U.map T.tm).map Tm.d))(hv:RepV μ x.tm.d v):
  aM Tryz.prog 249 [.slice ub U.length uc,v] μ (.bool (decide (x∈U))):=by
 have hn:=aH hu.max
 have w_:=Tm.invV hv
 obtain⟨p,rfl⟩:=w_
 refine Spec.mk Tryz.func249 (by kernel_rfl) ?_
 intro r3
 refine lIn (fun i:Nat=>i≤U.length∧x∉U.take i)
  (fun i=>⟨[(3,.loc 0 r3 0),(7,.val (.slice ub U.length uc)),(8,.val (.int .i64 U.length)),(9,.val (.int .i64 i))],[(0,some (.cells r3 [.val (.int .i64 x.tm.kind),.val (.int .i64 x.tm.num),.val (.string x.tm.name),.val (.slice p.1 x.tm.args.length p.2)] 75))],1,μ,Mem.nil⟩) (fun i=>U.length-i)
  0 ⟨Nat.zero_le _,by simp⟩ (fun _=>⟨rfl,rfl⟩) ⟨⟨rfl,rfl,rfl,rfl,trivial⟩,⟨rfl,trivial⟩,rfl,rfl⟩ ?_
 rintro i ⟨hi,hnot⟩
 refine ifd (fun h=>?_) (fun h=>?_)
 ·have w_ := aSo (l := U) (i := i) (by omega)
  obtain⟨y,hy⟩:=w_
  have w_:=T.elemL hu hy
  obtain⟨ad,q,hel,hr⟩:=w_
  refine eIn hel ?_
  intro r6
  refine cGv (eK y x hr hv) ?_
  refine ifd (fun h2=>rGv ?_ rfl) (fun h2=>?_)
  ·rw[decide_eq_true (by rw[←h2];exact mAt hy)]
  ·refine aB (by omega) (by omega) ⟨i + 1, ⟨by omega, ?_⟩, by omega, ⟨⟨rfl, rfl, rfl, rfl, trivial⟩, ⟨rfl, trivial⟩, rfl, rfl⟩⟩
   rw[List.take_add_one,hy,Option.toList_some,List.mem_append,List.mem_singleton]
   exact fun k=>k.elim hnot fun k=>h2 k.symm
 ·obtain rfl : i = U.length := by omega
  rw[List.take_length]at hnot
  exact rGv (by rw[decide_eq_false hnot]) rfl
theorem nI{U:List T}{ub fb:Option Addr}{uc fc:Nat}{l:List F}(hu:Sl μ 4 ub U.length ((U.map T.tm).map Tm.d))(hl:Sl μ 2 fb l.length ((l.map F.fc).map Fc.d)):
  aM Tryz.prog 208 [.slice fb l.length fc,.slice ub U.length uc] μ (.bool (decide (∀f∈l,∀a∈f.args,a∈U))):=by
 have hn:=aH hl.max
 refine Spec.mk Tryz.func208 (by kernel_rfl) ?_
 refine lIn (fun i:Nat=>i≤l.length∧∀f∈l.take i,∀a∈f.args,a∈U)
  (fun i=>⟨[(1,.val (.slice ub U.length uc)),(9,.val (.slice fb l.length fc)),(10,.val (.int .i64 l.length)),(11,.val (.int .i64 i))],[],0,μ,Mem.nil⟩) (fun i=>l.length-i)
  0 ⟨Nat.zero_le _,by simp⟩ (fun _=>⟨rfl,rfl⟩) ⟨⟨rfl,rfl,rfl,rfl,trivial⟩,trivial,rfl,rfl⟩ ?_
 rintro i ⟨hi,hall⟩
 refine ifd (fun h=>?_) (fun h=>?_)
 ·have w_ := aSo (l := l) (i := i) (by omega)
  obtain⟨f,hf⟩:=w_
  have w_:=F.elem hl hf
  obtain⟨ad,p,hel,hr,hs⟩:=w_
  have hm:=aH hs.max
  refine eIn hel ?_
  intro r6
  refine lIn (fun k:Nat=>k≤f.args.length∧∀a∈f.args.take k,a∈U)
   (fun k=>⟨[(1,.val (.slice ub U.length uc)),(9,.val (.slice fb l.length fc)),(10,.val (.int .i64 l.length)),(11,.val (.int .i64 i)),(16,.val (.slice p.1 f.args.length p.2)),(17,.val (.int .i64 f.args.length)),(18,.val (.int .i64 k))],[],1,μ,Mem.nil⟩) (fun k=>f.args.length-k)
   0 ⟨Nat.zero_le _,by simp⟩ (fun _=>⟨rfl,rfl⟩) ⟨⟨rfl,rfl,rfl,rfl,rfl,rfl,rfl,trivial⟩,trivial,rfl,rfl⟩ ?_
  rintro k ⟨hk,hargs⟩
  refine ifd (fun h2=>?_) (fun h2=>?_)
  ·have w_ := aSo (l := f.args) (i := k) (by omega)
   obtain⟨a,ha⟩:=w_
   have w_:=T.elemL hs ha
   obtain⟨ad2,q,hel2,hr2⟩:=w_
   refine eIn hel2 ?_
   intro r8
   refine cGv (sB hu hr2) ?_
   refine aL (fun h3=>rGv ?_ rfl) (fun h3=>?_)
   ·rw[decide_eq_false fun k=>h3 (k f (mAt hf) a (mAt ha))]
   ·refine aB (by omega) (by omega) ⟨k + 1, ⟨by omega, ?_⟩, by omega, ⟨⟨rfl, rfl, rfl, rfl, rfl, rfl, rfl, trivial⟩, trivial, rfl, rfl⟩⟩
    rw[List.take_add_one,ha,Option.toList_some]
    intro y hy
    rcases List.mem_append.1 hy with hy|hy
    ·exact hargs y hy
    ·rw[List.mem_singleton.1 hy];exact h3
  ·obtain rfl : k = f.args.length := by omega
   rw[List.take_length]at hargs
   refine aB (by omega) (by omega) ⟨i+1,⟨by omega,?_⟩,by omega,⟨⟨rfl,rfl,rfl,rfl,trivial⟩,trivial,rfl,rfl⟩⟩
   rw[List.take_add_one,hf,Option.toList_some]
   intro y hy
   rcases List.mem_append.1 hy with hy|hy
   ·exact hall y hy
   ·rw[List.mem_singleton.1 hy];exact hargs
 ·obtain rfl : i = l.length := by omega
  rw[List.take_length]at hall
  exact rGv (by rw[decide_eq_true hall]) rfl
theorem kK{l:List F}{base:Option Addr}{cap:Nat}(hsl:Sl μ 2 base l.length ((l.map F.fc).map Fc.d))(hn:l.length≤10000000)(hl:∀f∈l,f.args.length≤1000000):
  Spec Tryz.prog 74 [.slice base l.length cap] μ fun v μ'=>RepV μ' (.sl 2 ((l.map F.fc).map Fc.d)) v:=by
 refine Spec.mkO [6] Tryz.func74 (by kernel_rfl) ?_
 intro r6 hm6 ho6
 refine lIn (fun p:Nat×Nat×Nat×Nat×List Value×Mem×Mem=>p.1≤l.length∧p.2.2.2.2.1.length=p.2.2.2.1∧RowO p.2.2.2.2.2.2 p.2.1 p.2.2.1 41 2 p.2.2.2.2.1∧Apart p.2.2.2.2.2.1 p.2.2.2.2.2.2∧μ.Le p.2.2.2.2.2.1∧Rows p.2.2.2.2.2.1 2 (((l.take p.1).map F.fc).map Fc.d) p.2.2.2.2.1)
  (fun(i,b,c,m,ys,μ',h)=>⟨[(3,.val (.slice (some ⟨b,0,none⟩) m c)),(7,.val (.slice base l.length cap)),(8,.val (.int .i64 l.length)),(9,.val (.int .i64 i))],[],0,μ',h⟩) (fun p=>l.length-p.1)
  (0,r6,0,0,[],μ,_) ⟨by simp,rfl,⟨[],Mem.set_at _ _ _,by simp,by simp,by simp,rfl,rfl⟩,(eA μ).set hm6,Mem.Le.refl _,.nil⟩ (fun(_,_,_,_,_,_,_)=>⟨rfl,rfl⟩) ⟨⟨rfl,rfl,rfl,rfl,trivial⟩,trivial,rfl,rfl⟩ ?_
 clear hm6 ho6
 rintro⟨i,b,c,m,ys,μ',h⟩ ⟨hi,hm,hb,hap,hle,hrows⟩
 dsimp only at hi hm hb hap hle hrows
 have hlen:=hrows.len
 simp only[List.length_map,List.length_take]at hlen
 refine ifd (fun hlt=>?_) (fun hlt=>?_)
 ·have w_ := aSo (l := l) (i := i) (by omega)
  obtain⟨f,hf⟩:=w_
  have w_:=F.elem (hsl.mono hle) hf
  obtain⟨ad,p,hel,hr,hs⟩:=w_
  refine eIn hel ?_
  intro r5
  have hfl:=hl f (mAt hf)
  refine cDa hap (dX hs (by omega)) fun v1 μ1 hle1 hap1 hR=>?_
  have w_:=Rep.sl hR
  obtain⟨b4,c4,rfl,_⟩:=w_
  rw[List.length_map,List.length_map]at hR ⊢
  intro r20
  refine fM ys hm hb ?_ ?_ fun b' c' o hrow hor=>?_
  ·show(m+1)*40≤_;omega
  ·exact Nat.le_trans (m:=100000000) (show m+1≤_ by omega) (by decide)
  refine aB (by omega) (by omega) ⟨(i+1,b',c',m+1,_,μ1,_),⟨by dsimp only;omega,by dsimp only;rw[List.length_append,hm];rfl,hrow,hap1.set (kA hb hap1 hor),hle.trans hle1,?_⟩,by dsimp only;omega,⟨⟨rfl,rfl,rfl,rfl,trivial⟩,trivial,rfl,rfl⟩⟩
  dsimp only
  rw[List.take_add_one,hf,Option.toList_some]
  simp only[List.map_append,List.map_cons,List.map_nil]
  exact(hrows.mono hle1).append (Rows.one (F.mkV hR) (Fc.d_n _))
 ·obtain rfl : i = l.length := by omega
  rw[List.take_length]at hrows
  refine cG _ Mem.nil (Parts.nil_right _) ?_
  obtain⟨cs,hcell,hlen0,hcap,hone,hcs,htake⟩:=hb
  have hb2:μ' b=none:=by
   cases e:μ' b with
   |none=>rfl
   |some o=>have:=hap b (by simp[e]);rw[hcell]at this;cases this
  have hrow:RowAt (μ'.join h) (some b) c 2 ys:=⟨hlen0,hone,_,_,by rw[Mem.join_get,hb2];exact hcell,by simpa using hcs,by simpa using htake⟩
  subst hm
  exact Rows.sl hrow (hrows.mono (Mem.le_join _ _)) (Nat.le_trans (m:=100000000) (by omega) (by decide))
theorem tQ{xs:List T}(h:xs.length=2):∃x y,xs=[x,y]:=by
 match xs,h with
 |[x,y],_=>exact⟨x,y,rfl⟩
theorem one_of'{xs:List T}(h:xs.length=1):∃x,xs=[x]:=by
 match xs,h with
 |[x],_=>exact⟨x,rfl⟩
theorem testT_2{x y:T}:dV 2 [x,y]↔x=y:=by simp[dV]
theorem testT_3{x y:T}:dV 3 [x,y]↔x≠y:=by simp[dV]
theorem testT_4{x:T}:dV 4 [x]↔x.tm.kind=2:=by simp[dV]
theorem testT_5{x:T}:dV 5 [x]↔x.tm.kind=3:=by simp[dV]
theorem testT_6{x y:T}:dV 6 [x,y]↔¬y.hasSym x.tm.name:=by simp[dV]
theorem zW{g:Gl}{xs:List T}{v:Value}(hv:RepV μ g.d v)(hx:g.terms=xs.map T.tm)(hl:SimpleLen g.kind xs.length):
  aM Tryz.prog 251 [v] μ (.bool (decide (dV g.kind xs))):=by
 have w_:=Gl.inv hv
 obtain⟨p,rfl,hts,-⟩:=w_
 rw[hx]at hts ⊢
 rw[List.length_map]at hts ⊢
 refine Spec.mk Tryz.func251 (by kernel_rfl) ?_
 intro r1
 refine ifd (fun h=>rGv (by rw[h];simp[dV]) rfl) (fun h0=>?_)
 refine ifd (fun h=>?_) (fun h2=>?_)
 ·have w_ := tQ (hl.two (by omega))
  obtain⟨x,y,rfl⟩:=w_
  have w_:=T.elemL hts (i:=0) (x:=x) rfl
  obtain⟨ad1,p1,e1,g1⟩:=w_
  have w_:=T.elemL hts (i:=1) (x:=y) rfl
  obtain⟨ad2,p2,e2,g2⟩:=w_
  refine eIn e1 (eIn e2 (cGv (eK x y g1 g2) (rGv ?_ rfl)))
  rw[h];exact congrArg Value.bool (decide_eq_decide.2 testT_2.symm)
 refine ifd (fun h=>?_) (fun h3=>?_)
 ·have w_ := tQ (hl.two (by omega))
  obtain⟨x,y,rfl⟩:=w_
  have w_:=T.elemL hts (i:=0) (x:=x) rfl
  obtain⟨ad1,p1,e1,g1⟩:=w_
  have w_:=T.elemL hts (i:=1) (x:=y) rfl
  obtain⟨ad2,p2,e2,g2⟩:=w_
  refine eIn e1 (eIn e2 (cGv (eK x y g1 g2) (rGv ?_ rfl)))
  rw[h,←decide_not];exact congrArg Value.bool (decide_eq_decide.2 testT_3.symm)
 refine ifd (fun h=>?_) (fun h4=>?_)
 ·have w_ := one_of' (hl.one (by omega))
  obtain⟨x,rfl⟩:=w_
  have w_:=T.elemL hts (i:=0) (x:=x) rfl
  obtain⟨ad1,p1,e1,g1⟩:=w_
  refine eIn e1 (rGv ?_ rfl)
  rw[h];exact congrArg Value.bool (decide_eq_decide.2 testT_4.symm)
 refine ifd (fun h=>?_) (fun h5=>?_)
 ·have w_ := one_of' (hl.one (by omega))
  obtain⟨x,rfl⟩:=w_
  have w_:=T.elemL hts (i:=0) (x:=x) rfl
  obtain⟨ad1,p1,e1,g1⟩:=w_
  refine eIn e1 (rGv ?_ rfl)
  rw[h];exact congrArg Value.bool (decide_eq_decide.2 testT_5.symm)
 refine ifd (fun h=>?_) (fun h6=>?_)
 ·have w_ := tQ (hl.two (by omega))
  obtain⟨x,y,rfl⟩:=w_
  have w_:=T.elemL hts (i:=0) (x:=x) rfl
  obtain⟨ad1,p1,e1,g1⟩:=w_
  have w_:=T.elemL hts (i:=1) (x:=y) rfl
  obtain⟨ad2,p2,e2,g2⟩:=w_
  refine eIn e2 (eIn e1 (cGv (sA x.tm.name y g2) (rGv ?_ rfl)))
  rw[h,←decide_not];exact congrArg Value.bool (decide_eq_decide.2 testT_6.symm)
 refine rGv ?_ rfl
 rw[decide_eq_false]
 unfold dV
 rw[if_neg h0,if_neg h2,if_neg h3,if_neg h4,if_neg h5,if_neg h6]
 exact id
end
end Go.Vx
namespace Go.Vx
open Go.Proofs Classical
theorem qDv(vs:List T)(g:Gl):(cJ vs g).fc.args=(g.put (bT vs)).terms:=by
 rw[Gl.put_terms,F.fc_args]
 show(g.terms.map _).map _=_
 rw[List.map_map];rfl
theorem fZ{vs:List T}{c:List Gl}{j:Nat}{g:Gl}(h:c[j]? =some g):bQ vs (c.take (j+1))=bQ vs (c.take j)++(if g.kind=9 then [cJ vs g]else []):=by
 rw[bQ,List.take_add_one,h,Option.toList_some,List.filter_append,List.map_append]
 congr 1
 by_cases k:g.kind=9<;>simp[k]
theorem iP{vs:List T}{c:List Gl}{j:Nat}{g:Gl}(h:c[j]? =some g):iU vs (c.take (j+1))=iU vs (c.take j)++(if g.kind=10 then [cJ vs g.kid]else []):=by
 rw[iU,List.take_add_one,h,Option.toList_some,List.filter_append,List.map_append]
 congr 1
 by_cases k:g.kind=10<;>simp[k]
theorem ClG.simple{g:Gl}(h:ClG g):SimpleLen g.kind g.terms.length:=⟨h.sh.top.ln2,h.sh.top.ln1⟩
section
variable {μ:Mem}
theorem Gl.termsV{g:Gl}{k n ts gs:Value}(h:RepV μ g.d (.agg #[k,n,ts,gs])):RepV μ (.sl 4 (g.terms.map Tm.d)) ts:=by
 rw[Gl.d_eq]at h
 obtain⟨cs,e,h⟩:=h
 obtain⟨a0,t0,rfl,h0,h⟩:=h
 obtain⟨a1,t1,rfl,h1,h⟩:=h
 obtain⟨a2,t2,rfl,h2,h⟩:=h
 obtain⟨a3,t3,rfl,h3,h⟩:=h
 obtain rfl:t3=[]:=h
 have h0:a0=[.int .i64 g.kind]:=h0
 have h1:a1=[.string g.name]:=h1
 subst h0 h1
 have w_:=gV (Rep.len _ _ h2)
 obtain⟨v2,rfl⟩:=w_
 have w_:=gV (Rep.len _ _ h3)
 obtain⟨v3,rfl⟩:=w_
 have e2:[k,n,ts,gs]=[.int .i64 g.kind,.string g.name,v2,v3]:=congrArg (fun v=>match v with|Value.agg a=>a.toList|_=>[]) e
 have e3:ts=v2:=(List.cons.inj (List.cons.inj (List.cons.inj e2).2).2).1
 rw[e3];exact h2
theorem yI{vs:List T}{g:Gl}{k n gs:Value}{b:Option Addr}{m c:Nat}(h:RepV μ (g.put (bT vs)).d (.agg #[k,n,.slice b m c,gs])):RepV μ (cJ vs g).fc.d (.agg #[.string g.name,.slice b m c]):=by
 have h1:=Gl.termsV h
 rw[Fc.d_eq,qDv]
 exact⟨_,rfl,RepS.str (RepS.last h1)⟩
theorem pW{es:Nat}:∀{ys:List Value},(∀x∈ys,(aD x).length=es)→(ys.flatMap aD).length=ys.length*es
 |[],_=>by simp
 |y::ys,h=>by
  rw[List.flatMap_cons,List.length_append,pW fun x hx=>h x (by simp[hx]),h y (by simp),List.length_cons,Nat.succ_mul];omega
theorem RowAt.cut{b:Option Nat}{k es:Nat}{ys:List Value}(h:RowAt μ b k es ys)(a:Nat):RowAt μ b k es (ys.take a):=by
 cases b with
 |none=>
  have h:ys=[]:=h
  subst h
  exact List.take_nil
 |some r=>
  obtain⟨h1,h2,arr,ty,h3,h4,h5⟩:=h
  have hl:(ys.take a).length≤ys.length:=by rw[List.length_take];omega
  refine⟨by omega,fun x hx=>h2 x (List.mem_of_mem_take hx),arr,ty,h3,h4,?_⟩
  have e:((ys.take a).flatMap aD).length=(ys.take a).length*es:=pW fun x hx=>(h2 x (List.mem_of_mem_take hx)).1
  have e1:arr.toList.take ((ys.take a).length*es)=(arr.toList.take (ys.length*es)).take ((ys.take a).length*es):=by
   rw[List.take_take]
   congr 1
   have:=Nat.mul_le_mul_right es hl
   omega
  rw[e1,h5]
  conv=>lhs;rw[←List.take_append_drop a ys]
  rw[List.flatMap_append,List.take_left' (by rw[e];simp)]
theorem qGw{vs:List T}{a k:Nat}{b:Option Nat}{ys:List Value}(h:RowAt μ b k 4 ys)(hr:Rows μ 4 ((vs.map T.tm).map Tm.d) ys)(ha:a≤vs.length)(hm:vs.length≤1000):
  RepV μ (.sl 4 (((vs.take a).map T.tm).map Tm.d)) (.slice (if k=0 then(b.map fun r=>(⟨r,0,none⟩:Addr))else(b.map fun r=>(⟨r,0,none⟩:Addr)).map (·.add (0*4))) (a-0) (k-0)):=by
 have e:(if k=0 then(b.map fun r=>(⟨r,0,none⟩:Addr))else(b.map fun r=>(⟨r,0,none⟩:Addr)).map (·.add (0*4)))=b.map fun r=>(⟨r,0,none⟩:Addr):=by
  split
  ·rfl
  ·cases b<;>simp[Addr.add]
 rw[e,Nat.sub_zero,Nat.sub_zero]
 have hl:=hr.len
 simp only[List.length_map]at hl
 have hr2:Rows μ 4 (((vs.take a).map T.tm).map Tm.d) (ys.take a):=by
  have:=hr.take a
  simpa[List.map_take]using this
 have hyl:(ys.take a).length=a:=by rw[List.length_take];omega
 have ht:RowAt μ b k 4 (ys.take a):=RowAt.cut h a
 have:=Rows.sl ht hr2 (Nat.le_trans (m:=1000) (by omega) (by decide))
 rwa [hyl]at this
set_option maxHeartbeats 16000000 in
set_option maxRecDepth 20000 in
theorem uG{r:Rl}{v:Value}{c:List Gl}{cb bb:Option Addr}{cc bc a:Nat}{vs:List T}{i:Nat}(hr:RepV μ r.d v)(ha:r.arity=(a:Int))(hal:a≤vs.length)(hvs:vs.length≤12)
  (hc:Sl μ 4 cb c.length (c.map Gl.d)) (hcl:c.length≤1000) (hcs:∀g∈c,ClG g) (hb:Sl μ 5 bb vs.length (((kQ vs).map B.bd).map Bd.d)):
  Spec Tryz.prog 209 [v,.int .i64 i,.slice cb c.length cc,.slice bb vs.length bc] μ fun res μ'=>∃(ru:Ru) (rv:Value),res= .tuple #[rv,.bool (decide (∀g∈c,okS vs g))]∧RepV μ' ru.rd.d rv∧((∀g∈c,okS vs g)→ru=dZ r i c vs):=by
 have w_:=Rl.invV hr
 obtain⟨q,rfl⟩:=w_
 refine Spec.mk Tryz.func209 (by kernel_rfl) ?_
 intro r4 r8 r10
 refine aU (fun z:Nat×Option Nat×Nat×List Value=>z.1≤vs.length∧z.1≤z.2.2.1∧Rows μ 4 (((vs.take z.1).map T.tm).map Tm.d) z.2.2.2)
  (fun(k,b,n,ys)=>⟨[(2,.val (.slice cb c.length cc)),(3,.val (.slice bb vs.length bc)),(4,.loc 0 r4 0),(8,.loc 1 r8 0),(10,.loc 2 r10 0),(18,.val (.slice bb vs.length bc)),(19,.val (.int .i64 vs.length)),(20,.val (.int .i64 k))],[(0,some (.cells r4 [.val (.string r.name),.val (.int .i64 r.arity),.val (.int .i64 r.locals),.val (.int .i64 r.body.kind),.val (.string r.body.name),.val (.slice q.1.1 r.body.terms.length q.1.2),.val (.slice q.2.1 r.body.goals.length q.2.2)] 63)),(1,some (.cells r8 [.val (.string ⟨#[]⟩),.val (.slice none 0 0),.val (.int .i64 0),.val (.slice none 0 0),.val (.slice none 0 0),.val (.slice none 0 0)] 106)),(2,some (.cells r10 [.val (.string ⟨#[]⟩),.val (.slice none 0 0),.val (.int .i64 i),.row 3 b ys.length n,.val (.slice none 0 0),.val (.slice none 0 0)] 106)),(3,some (.row b n 75 4 ys))],4,μ,Mem.nil⟩) (fun z=>vs.length-z.1)
  (0,none,0,[]) ⟨Nat.zero_le _,Nat.le_refl _,.nil⟩ (fun(_,_,_,_)=>⟨rfl,rfl⟩) ?_ ?_
 ·exact⟨⟨⟨_,rfl,.inl rfl⟩,⟨_,rfl,.inl rfl⟩,⟨_,rfl,.inl rfl⟩,⟨_,rfl,.inl rfl⟩,⟨_,rfl,.inl rfl⟩,⟨_,rfl,.inl rfl⟩,⟨_,rfl,.inl rfl⟩,⟨_,rfl,.inl rfl⟩,trivial⟩,⟨.inl rfl,.inl rfl,.inr (.inr ⟨_,_,_,_,rfl,rfl,.inl rfl,.inl rfl,.inl rfl,.inr ⟨3,rfl,rfl,Nat.le_refl _⟩,.inl rfl,.inl rfl,trivial⟩),.inr (.inl ⟨_,_,rfl,Nat.le_refl _⟩),trivial⟩,rfl,rfl⟩
 rintro⟨k,b,n,ys⟩ ⟨hk,hkn,hrows⟩
 dsimp only at hk hkn hrows
 have hlen:=hrows.len
 simp only[List.length_map,List.length_take]at hlen
 refine ifd (fun hlt=>?_) (fun hlt=>?_)
 ·have w_ := aSo (l := vs) (i := k) (by omega)
  obtain⟨x,hx⟩:=w_
  have w_:=B.elem hb (zH hx)
  obtain⟨ad,p,hel,hto⟩:=w_
  refine eIn hel ?_
  intro r12 r28
  refine qBi ?_ ?_ fun b' n' hcap _=>?_
  ·show(ys.length+1)*56≤_;omega
  ·exact Nat.le_trans (m:=100000000) (show ys.length+1≤_ by omega) (by decide)
  have hcap:ys.length+1≤n':=hcap
  refine aB (by omega) (by omega) ⟨(k+1,b',n',_),⟨by dsimp only;omega,by dsimp only;omega,?_⟩,by dsimp only;omega,⟨⟨rfl,rfl,rfl,rfl,rfl,rfl,rfl,rfl,trivial⟩,⟨rfl,rfl,rfl,rfl,trivial⟩,rfl,rfl⟩⟩
  dsimp only
  rw[List.take_add_one,hx,Option.toList_some]
  simp only[List.map_append,List.map_cons,List.map_nil]
  exact hrows.append (Rows.one hto (Tm.d_n _))
 obtain rfl:k=vs.length:=by omega
 rw[List.take_length]at hrows
 refine aG 0 a rfl ha (Nat.zero_le _) (by omega) ?_
 refine aU (fun z:Nat×(Option Nat×Nat×List Value)×(Option Nat×Nat×List Value)×Mem=>z.1≤c.length∧μ.Le z.2.2.2∧Rows z.2.2.2 2 (((bQ vs (c.take z.1)).map F.fc).map Fc.d) z.2.1.2.2∧Rows z.2.2.2 2 (((iU vs (c.take z.1)).map F.fc).map Fc.d) z.2.2.1.2.2∧∀g∈c.take z.1,okS vs g)
  (fun(j,(pb,pc,ps),(nb,nc,ns),μ')=>⟨[(3,.val (.slice bb vs.length bc)),(8,.loc 1 r8 0),(10,.loc 2 r10 0),(41,.val (.slice cb c.length cc)),(42,.val (.int .i64 c.length)),(43,.val (.int .i64 j))],[(1,some (.cells r8 [.val (.string ⟨#[]⟩),.val (.slice none 0 0),.val (.int .i64 0),.val (.slice none 0 0),.val (.slice none 0 0),.val (.slice none 0 0)] 106)),(2,some (.cells r10 [.val (.string r.name),.val (.slice (if n=0 then(b.map fun r=>(⟨r,0,none⟩:Addr))else(b.map fun r=>(⟨r,0,none⟩:Addr)).map (·.add (0*4))) (a-0) (n-0)),.val (.int .i64 i),.row 3 b ys.length n,.row 4 pb ps.length pc,.row 5 nb ns.length nc] 106)),(3,some (.row b n 75 4 ys)),(4,some (.row pb pc 41 2 ps)),(5,some (.row nb nc 41 2 ns))],6,μ',Mem.nil⟩) (fun z=>c.length-z.1)
  (0,(none,0,[]),(none,0,[]),μ) ⟨Nat.zero_le _,Mem.Le.refl _,.nil,.nil,by simp⟩ (fun(_,(_,_,_),(_,_,_),_)=>⟨rfl,rfl⟩) ?_ ?_
 ·exact⟨⟨⟨_,rfl,.inl rfl⟩,⟨_,rfl,.inl rfl⟩,⟨_,rfl,.inl rfl⟩,⟨_,rfl,.inl rfl⟩,⟨_,rfl,.inl rfl⟩,⟨_,rfl,.inl rfl⟩,trivial⟩,⟨.inl rfl,.inr (.inr ⟨_,_,_,_,rfl,rfl,.inl rfl,.inl rfl,.inl rfl,.inl rfl,.inr ⟨4,rfl,rfl,Nat.le_refl _⟩,.inr ⟨5,rfl,rfl,Nat.le_succ 4⟩,trivial⟩),.inl rfl,.inr (.inl ⟨_,_,rfl,Nat.le_refl _⟩),.inr (.inl ⟨_,_,rfl,Nat.le_succ 4⟩),trivial⟩,rfl,rfl⟩
 rintro⟨j,⟨pb,pc,ps⟩,⟨nb,nc,ns⟩,μ'⟩ ⟨hj,hle,hps,hns,hall⟩
 dsimp only at hj hle hps hns hall
 have hpl:=hps.len
 have hnl:=hns.len
 have hpf:(bQ vs (c.take j)).length≤1000:=by
  rw[bQ,List.length_map]
  exact Nat.le_trans (List.length_filter_le _ _) (by rw[List.length_take];omega)
 have hnf:(iU vs (c.take j)).length≤1000:=by
  rw[iU,List.length_map]
  exact Nat.le_trans (List.length_filter_le _ _) (by rw[List.length_take];omega)
 simp only[List.length_map]at hpl hnl
 have fin:∀μ2 μ3 μ4:Mem,μ'.Le μ2→RowAt μ2 b n 4 ys→μ2.Le μ3→RowAt μ3 pb pc 2 ps→μ3.Le μ4→RowAt μ4 nb nc 2 ns→
   RepV μ4 (Ru.rd ⟨⟨r.name,vs.take a⟩,i,vs,bQ vs (c.take j),iU vs (c.take j)⟩).d (.agg #[.string r.name,.slice (if n=0 then(b.map fun r=>(⟨r,0,none⟩:Addr))else(b.map fun r=>(⟨r,0,none⟩:Addr)).map (·.add (0*4))) (a-0) (n-0),.int .i64 i,.slice (b.map fun r=>(⟨r,0,none⟩:Addr)) ys.length n,.slice (pb.map fun r=>(⟨r,0,none⟩:Addr)) ps.length pc,.slice (nb.map fun r=>(⟨r,0,none⟩:Addr)) ns.length nc]):=by
  intro μ2 μ3 μ4 h1 h2 h3 h4 h5 h6
  have hmax:(1000:Nat)≤maxLen:=by decide
  have k1:=qGw h2 (hrows.mono (hle.trans h1)) hal (by omega)
  have k2:=Rows.sl h2 (hrows.mono (hle.trans h1)) (Nat.le_trans (m:=1000) (by omega) hmax)
  have k3:=Rows.sl h4 (hps.mono (h1.trans h3)) (Nat.le_trans (m:=1000) (by omega) hmax)
  have k4:=Rows.sl h6 (hns.mono ((h1.trans h3).trans h5)) (Nat.le_trans (m:=1000) (by omega) hmax)
  rw[RuD.d_eq]
  exact⟨_,rfl,RepS.str (RepS.cons1 (k1.mono (h3.trans h5)) (RepS.int (RepS.cons1 (k2.mono (h3.trans h5)) (RepS.cons1 (k3.mono h5) (RepS.last k4)))))⟩
 refine ifd (fun hlt=>?_) (fun hlt=>?_)
 rotate_left
 ·obtain rfl : j = c.length := by omega
  rw[List.take_length]at hall fin
  refine rFz [3,4,5] fun μ2 hle2 hno2 hat2 μ3 hle3 hno3 hat3 μ4 hle4 hno4 hat4=> .inl ⟨_,_,?_,fin μ2 μ3 μ4 hle2 hat2 hle3 hat3 hle4 hat4,fun _=>by rw[dZ,ha];rfl⟩
  rw[decide_eq_true hall]
 have w_:=aSo (l:=c) (i:=j) (by omega)
 obtain⟨g,hg⟩:=w_
 have w_:=Gl.elem (hc.mono hle) hg
 obtain⟨ad,pg,hel,hrg⟩:=w_
 have hG:=hcs g (mAt hg)
 refine eIn hel ?_
 intro r14
 have hput:=qBr (bs:=kQ vs) (b0:=bb) (c0:=bc) g hrg hG.sh (by rw[lH];exact hb.mono hle)
 rw[lH,qHh]at hput
 refine cPl hput fun v1 μ1 hle1 hR=>?_
 have w_:=Gl.invV hR
 obtain⟨p1,rfl⟩:=w_
 intro r15
 have all1:okS vs g→∀x∈c.take (j+1),okS vs x:=fun h x hx=>by
  rw[List.take_add_one,hg,Option.toList_some]at hx
  rcases List.mem_append.1 hx with hx|hx
  ·exact hall x hx
  ·rw[List.mem_singleton.1 hx];exact h
 refine ifd (fun h9=>?_) (fun h9=>?_)
 ·intro r61
  refine gIn ?_ ?_ fun b' c' _=>?_
  ·show(ps.length+1)*40≤_;omega
  ·exact Nat.le_trans (m:=100000000) (show ps.length+1≤_ by omega) (by decide)
  refine aB (by omega) (by omega) ⟨(j+1,(b',c',_),(nb,nc,ns),μ1),⟨by dsimp only;omega,hle.trans hle1,?_,?_,all1 fun k=>absurd h9 k⟩,by dsimp only;omega,⟨⟨rfl,rfl,rfl,rfl,rfl,rfl,trivial⟩,⟨rfl,rfl,rfl,rfl,rfl,trivial⟩,rfl,rfl⟩⟩
  ·dsimp only
   rw[fZ hg,if_pos h9]
   simp only[List.map_append,List.map_cons,List.map_nil]
   have:=yI hR
   rw[Gl.put_name]
   exact(hps.mono hle1).append (Rows.one this (Fc.d_n _))
  ·dsimp only
   rw[iP hg,if_neg (by omega),List.append_nil]
   exact hns.mono hle1
 refine ifd (fun h10=>?_) (fun h10=>?_)
 ·have hgl := hG.sh.top.gl1 h10
  have w_:=Gl.inv hR
  obtain⟨q1,e1,_,hgs⟩:=w_
  have hkid:(g.put (bT vs)).goals[0]? =some (g.kid.put (bT vs)):=by rw[Gl.put_goals,List.getElem?_map,Gl.kid_at hgl];rfl
  have w_:=Gl.elem hgs hkid
  obtain⟨ad2,pk,hel2,hrk⟩:=w_
  have hp:q1=p1:=by
   have h2:=congrArg (fun v=>match v with|Value.agg a=>(a[2]?,a[3]?)|_=>(none,none)) e1
   simp at h2
   exact Prod.ext (Prod.ext h2.1.1.symm h2.1.2.symm) (Prod.ext h2.2.1.symm h2.2.2.symm)
  subst hp
  refine eIn hel2 ?_
  refine eIn hel2 ?_
  intro r81
  refine gIn ?_ ?_ fun b' c' _=>?_
  ·show(ns.length+1)*40≤_;omega
  ·exact Nat.le_trans (m:=100000000) (show ns.length+1≤_ by omega) (by decide)
  refine aB (by omega) (by omega) ⟨(j+1,(pb,pc,ps),(b',c',_),μ1),⟨by dsimp only;omega,hle.trans hle1,?_,?_,all1 fun _ k=>absurd h10 k⟩,by dsimp only;omega,⟨⟨rfl,rfl,rfl,rfl,rfl,rfl,trivial⟩,⟨rfl,rfl,rfl,rfl,rfl,trivial⟩,rfl,rfl⟩⟩
  ·dsimp only
   rw[fZ hg,if_neg h9,List.append_nil]
   exact hps.mono hle1
  ·dsimp only
   rw[iP hg,if_pos h10]
   simp only[List.map_append,List.map_cons,List.map_nil]
   have:=yI (vs:=vs) (g:=g.kid) hrk
   rw[Gl.put_name]
   exact(hns.mono hle1).append (Rows.one this (Fc.d_n _))
 have hterms:(g.put (bT vs)).terms=(g.terms.map fun t=>t.toT.subst (bT vs)).map T.tm:=by rw[Gl.put_terms,List.map_map];rfl
 refine cGv (zW hR hterms (by rw[Gl.put_kind,List.length_map];exact hG.simple)) ?_
 rw[Gl.put_kind]
 refine aL (fun hf=>?_) (fun hf=>?_)
 ·refine rFz [3, 4, 5] fun μ2 hle2 hno2 hat2 μ3 hle3 hno3 hat3 μ4 hle4 hno4 hat4 => .inl ⟨_, _, ?_, fin μ2 μ3 μ4 (hle1.trans hle2) hat2 hle3 hat3 hle4 hat4, fun k => absurd (k g (mAt hg) h9 h10) hf⟩
  rw[decide_eq_false fun k=>hf (k g (mAt hg) h9 h10)]
 ·refine aB (by omega) (by omega) ⟨(j + 1, (pb, pc, ps), (nb, nc, ns), μ1), ⟨by dsimp only; omega, hle.trans hle1, ?_, ?_, all1 fun _ _ => hf⟩, by dsimp only; omega, ⟨⟨rfl, rfl, rfl, rfl, rfl, rfl, trivial⟩, ⟨rfl, rfl, rfl, rfl, rfl, trivial⟩, rfl, rfl⟩⟩
  ·dsimp only
   rw[fZ hg,if_neg h9,List.append_nil]
   exact hps.mono hle1
  ·dsimp only
   rw[iP hg,if_neg h10,List.append_nil]
   exact hns.mono hle1
end
end Go.Vx
namespace Go.Vx
open Go.Proofs Classical
section
variable {μ:Mem}
theorem qDa{p:Pg}{f:Fc}{k:Nat}(hk:relAt p f.rel=(k:Int)){r:Rl}(hr:p.rels[k]? =some r):qRy p f↔r.arity=(f.args.length:Int):=by
 constructor
 ·rintro ⟨k', r', h1, h2, h3⟩
  have e:k'=k:=by omega
  rw[e,hr]at h2;cases h2;exact h3
 ·exact fun h=>⟨k,r,hk,hr,h⟩
theorem gA{p:Pg}{s:ByteArray}(h:0≤relAt p s):∃(k:Nat) (r:Rl),relAt p s=(k:Int)∧p.rels[k]? =some r∧r.name=s:=by
 have w_:=gL (l:=p.rels) (i:=0) (s:=s) h
 obtain⟨j,r,h1,h2,h3⟩:=w_
 exact⟨j,r,by rw[relAt,h1];congr 1;omega,h2,h3⟩
theorem sF{p:Pg}{f:Fc}{v w:Value}(hp:RepV μ p.d v)(hw:p.d.wd)(hf:RepV μ f.d w)(hwf:f.d.wd):
  Spec Tryz.prog 157 [v,w] μ fun r _=>r= .bool (decide (p.Ok∧FactFits p f)):=by
 have hp0:=hp
 have w_:=Pg.inv hp
 obtain⟨q0,rfl,hrl⟩:=w_
 have w_:=Fc.inv hf
 obtain⟨q,rfl,hA⟩:=w_
 have hA:Sl μ 4 q.1 f.args.length (f.args.map Tm.d):=hA
 have hn:=aH hA.max
 refine Spec.mk Tryz.func157 (by kernel_rfl) ?_
 intro r2 r3
 refine cPl (iR hp0 hw) fun v1 μ1 hle1 hR=>?_
 obtain rfl:=hR
 refine ifd (fun hneg=>rPl (isF fun k=>?_)) (fun hge=>?_)
 ·obtain ⟨k', r', h1, _⟩ := k.2.1
  rw[eF,if_pos k.1]at hneg
  omega
 have hok:p.Ok:=Classical.byContradiction fun k=>by rw[eF,if_neg k]at hge;exact hge (by decide)
 rw[eF,if_pos hok]at hge ⊢
 have w_:=gA (show 0≤relAt p f.rel by omega)
 obtain⟨k,r,hk,hr,_⟩:=w_
 have hfor:=qDa hk hr
 rw[hk]
 have w_:=Rl.elemA (hrl.mono hle1) hr
 obtain⟨ad,q2,hel,_,_⟩:=w_
 refine eIn hel ?_
 refine aL (fun h=>rPl (isF fun k=>h (hfor.1 k.2.1).symm)) (fun har=>?_)
 refine lIn (fun i:Nat=>i≤f.args.length∧∀t∈f.args.take i,GndT t)
  (fun i=>⟨[(27,.val (.slice q.1 f.args.length q.2)),(28,.val (.int .i64 f.args.length)),(29,.val (.int .i64 i))],[],2,μ1,Mem.nil⟩) (fun i=>f.args.length-i)
  0 ⟨Nat.zero_le _,by simp⟩ (fun _=>⟨rfl,rfl⟩) ⟨⟨rfl,rfl,rfl,trivial⟩,trivial,rfl,rfl⟩ ?_
 rintro i ⟨hi,hall⟩
 refine ifd (fun hlt=>?_) (fun hlt=>?_)
 ·have w_ := aSo (l := f.args) (i := i) (by omega)
  obtain⟨t,ht⟩:=w_
  have w_:=Tm.elem (hA.mono hle1) ht
  obtain⟨ad,pt,hel,hrt⟩:=w_
  refine eIn hel ?_
  intro r7
  refine cGv (iS t hrt (D.wds_mem (by rw[Fc.d_eq]at hwf;exact hwf.2.1) _ (mAt (lM (f:=Tm.d) ht)))) ?_
  refine aL (fun h=>rPl (isF fun k=>h (k.2.2 t (mAt ht)))) (fun h=>?_)
  refine aB (by omega) (by omega) ⟨i+1,⟨by omega,?_⟩,by omega,⟨⟨rfl,rfl,rfl,trivial⟩,trivial,rfl,rfl⟩⟩
  rw[List.take_add_one,ht,Option.toList_some]
  intro y hy
  rcases List.mem_append.1 hy with hy|hy
  ·exact hall y hy
  ·rw[List.mem_singleton.1 hy];exact h
 ·obtain rfl : i = f.args.length := by omega
  rw[List.take_length]at hall
  exact rPl (isT ⟨hok,hfor.2 har.symm,hall⟩)
end
end Go.Vx
namespace Go.Vx
open Go.Proofs Classical
def qDo(P:List Ru→Value→Prop)(o:Option (List Ru))(v:Value):Prop:=match o with
 |some y=>∃tv,v= .tuple #[tv,.bool true]∧P y tv
 |none=>v= .tuple #[.slice none 0 0,.bool false]
noncomputable def bX(p:Pg)(l:List Tm):Option (List Ru):=if p.Ok∧UnivOk l then cI p (l.map Tm.toT)else none
theorem iB{U:List T}{r:Rl}{i:Nat}{c:List Gl}{w:Nat}:∀m,∃X,bI U r i c (w+m)=bI U r i c w++X
 |0=>⟨[],by simp⟩
 |m+1=>by
  have w_:=iB (U:=U) (r:=r) (i:=i) (c:=c) (w:=w) m
  obtain⟨X,hX⟩:=w_
  exact⟨X++(dY U r i c (w+m)).toList,by rw[←Nat.add_assoc,kN,hX,List.append_assoc]⟩
theorem qHj{α:Type}{A B:List α}(h:2000<(A.take 2001).length):(A++B).take 2001=A.take 2001:=by
 rw[List.length_take]at h
 rw[List.take_append_of_le_length (by omega)]
theorem qCm{α:Type}{A:List α}(h:(A.take 2001).length≤2000):A.length≤2000:=by
 rw[List.length_take]at h;omega
theorem okG_iff{U vs:List T}{c:List Gl}:(∀g∈c,okG U vs g)↔(∀g∈c,okS vs g)∧(∀f∈bQ vs c,∀a∈f.args,a∈U)∧∀f∈iU vs c,∀a∈f.args,a∈U:=by
 constructor
 ·intro h
  refine⟨fun g hg h9 h10=>?_,fun f hf=>?_,fun f hf=>?_⟩
  ·have := h g hg
   rwa [okG,if_neg h9,if_neg h10]at this
  ·have w_ := List.mem_map.1 hf
   obtain⟨g,hg,rfl⟩:=w_
   have w_:=List.mem_filter.1 hg
   obtain⟨hg,h9⟩:=w_
   have h9:g.kind=9:=of_decide_eq_true h9
   have:=h g hg
   rwa [okG,if_pos h9]at this
  ·have w_ := List.mem_map.1 hf
   obtain⟨g,hg,rfl⟩:=w_
   have w_:=List.mem_filter.1 hg
   obtain⟨hg,h10⟩:=w_
   have h10:g.kind=10:=of_decide_eq_true h10
   have:=h g hg
   rwa [okG,if_neg (by omega),if_pos h10]at this
 ·rintro ⟨h1, h2, h3⟩ g hg
  rw[okG]
  split
  ·rename_i h9
   exact h2 _ (List.mem_map.2 ⟨g,List.mem_filter.2 ⟨hg,by simpa using h9⟩,rfl⟩)
  ·rename_i h9
   split
   ·rename_i h10
    exact h3 _ (List.mem_map.2 ⟨g,List.mem_filter.2 ⟨hg,by simpa using h10⟩,rfl⟩)
   ·rename_i h10
    exact h1 g hg h9 h10
theorem rV{g:Gl}(h:ClG g)(vs:List T):(cJ vs g).args.length≤4:=by
 show(g.terms.map _).length≤4
 rw[List.length_map]
 exact h.sh.lens4
theorem wB{vs:List T}{c:List Gl}(h:∀g∈c,ClG g):∀f∈bQ vs c,f.args.length≤4:=fun f hf=>by
 have w_:=List.mem_map.1 hf
 obtain⟨g,hg,rfl⟩:=w_
 exact rV (h g (List.mem_filter.1 hg).1) vs
theorem ClG.kid{g:Gl}(h:ClG g)(h10:g.kind=10):ClG g.kid:=by
 have hk:=Gl.kid_at (h.sh.top.gl1 h10)
 have:=h.sh.top.cl h10 _ hk
 exact⟨h.sh.sub _ (mAt hk),by omega,by omega⟩
theorem qKf{vs:List T}{c:List Gl}(h:∀g∈c,ClG g):∀f∈iU vs c,f.args.length≤4:=fun f hf=>by
 have w_:=List.mem_map.1 hf
 obtain⟨g,hg,rfl⟩:=w_
 have w_:=List.mem_filter.1 hg
 obtain⟨hg,h10⟩:=w_
 exact rV ((h g hg).kid (of_decide_eq_true h10)) vs
theorem uJ{vs:List T}{c:List Gl}:(bQ vs c).length≤c.length:=by
 rw[bQ,List.length_map];exact List.length_filter_le _ _
theorem qCz{vs:List T}{c:List Gl}:(iU vs c).length≤c.length:=by
 rw[iU,List.length_map];exact List.length_filter_le _ _
section
variable {μ:Mem}
theorem Ru.mkV{r:Ru}{b1 b2 b3 b4:Option Addr}{c1 c2 c3 c4:Nat}(h1:RepV μ (.sl 4 ((r.head.args.map T.tm).map Tm.d)) (.slice b1 r.head.args.length c1))(h2:RepV μ (.sl 4 ((r.vals.map T.tm).map Tm.d)) (.slice b2 r.vals.length c2))
  (h3:RepV μ (.sl 2 ((r.pos.map F.fc).map Fc.d)) (.slice b3 r.pos.length c3)) (h4:RepV μ (.sl 2 ((r.neg.map F.fc).map Fc.d)) (.slice b4 r.neg.length c4)):
  RepV μ r.rd.d (.agg #[.string r.head.rel,.slice b1 r.head.args.length c1,.int .i64 r.clause,.slice b2 r.vals.length c2,.slice b3 r.pos.length c3,.slice b4 r.neg.length c4]):=by
 rw[RuD.d_eq]
 exact⟨_,rfl,RepS.str (RepS.cons1 h1 (RepS.int (RepS.cons1 h2 (RepS.cons1 h3 (RepS.last h4)))))⟩
set_option maxHeartbeats 8000000 in
set_option maxRecDepth 20000 in
theorem mG{p:Pg}{l:List Tm}{v:Value}{ub:Option Addr}{uc:Nat}(hp:RepV μ p.d v)(hw:p.d.wd)(hu:Sl μ 4 ub l.length (l.map Tm.d))(hwu:D.wds (l.map Tm.d)):
  Spec Tryz.prog 148 [v,.slice ub l.length uc] μ fun v μ'=>qDo (fun y tv=>RepV μ' (.sl 6 ((y.map Ru.rd).map RuD.d)) tv) (bX p l) v:=by
 have hp0:=hp
 have w_:=Pg.inv hp
 obtain⟨q,rfl,hrl⟩:=w_
 refine Spec.mk Tryz.func148 (by kernel_rfl) ?_
 intro r2
 refine cPl (bD hp0 hw) fun v1 μ1 hle1 hR=>?_
 obtain rfl:=hR
 refine aL (fun h=>rPl (by rw[bX,if_neg fun k=>h k.1];rfl)) (fun hok=>?_)
 refine cGv (nS (hu.mono hle1) hwu) ?_
 refine aL (fun h=>rPl (by rw[bX,if_neg fun k=>h k.2];rfl)) (fun huok=>?_)
 obtain⟨U,rfl,hUg,hUl⟩:=huok.lift
 have hgo:bX p (U.map T.tm)=cI p U:=by rw[bX,if_pos ⟨hok,huok⟩,gO]
 rw[hgo]
 have hU1:1≤U.length:=by rw[hUl];exact huok.pos
 have hU8:U.length≤8:=by rw[hUl];exact huok.max
 rw[←hUl]at hu ⊢
 clear hgo hUl huok hUg hwu
 have hn:=hok.1
 intro r27
 refine lIn (fun z:Nat×Option Nat×Nat×List Value×Mem=>z.1≤p.rels.length∧μ1.Le z.2.2.2.2∧Rows z.2.2.2.2 6 (((((p.rels.take z.1).flatMap (cD U)).take 2001).map Ru.rd).map RuD.d) z.2.2.2.1∧∀r∈p.rels.take z.1,r.body.cl≠none∧U.length ^ (r.arity+r.locals).toNat≤4096)
  (fun(i,b,c,ys,μ')=>⟨[(1,.val (.slice ub U.length uc)),(6,.row 1 b ys.length c),(29,.val (.slice q.1 p.rels.length q.2)),(30,.val (.int .i64 p.rels.length)),(31,.val (.int .i64 i))],[(1,some (.row b c 106 6 ys))],2,μ',Mem.nil⟩) (fun z=>p.rels.length-z.1)
  (0,some r27,0,[],μ1) ⟨Nat.zero_le _,Mem.Le.refl _,.nil,by simp⟩ (fun(_,_,_,_,_)=>⟨rfl,rfl⟩) ⟨⟨rfl,rfl,rfl,rfl,rfl,trivial⟩,⟨rfl,trivial⟩,rfl,rfl⟩ ?_
 rintro⟨i,b,c,ys,μ'⟩ ⟨hi,hle,hrows,hways⟩
 dsimp only at hi hle hrows hways
 have hyl:=hrows.len
 simp only[List.length_map]at hyl
 refine ifd (fun hlt=>?_) (fun hlt=>?_)
 rotate_left
 ·obtain rfl : i = p.rels.length := by omega
  rw[List.take_length]at hrows hways hyl
  have hall:(p.rels.flatMap (cD U))=cC p U:=rfl
  rw[hall]at hrows hyl
  refine ifd (fun hbig=>rPl ?_) (fun hbig=>?_)
  ·rw[cI,if_neg fun k=>by have:=k.2;rw[List.length_take]at hyl;omega];rfl
  ·have hle2 : (cC p U).length ≤ 2000 := qCm (by omega)
   rw[List.take_of_length_le (by omega)]at hrows
   rw[cI,if_pos ⟨hways,hle2⟩]
   refine rFz [1] fun μ2 hle2 hno hat=> .inl ⟨_,rfl,?_⟩
   exact Rows.sl hat (hrows.mono hle2) (Nat.le_trans (m:=100000) (by rw[List.length_take]at hyl;omega) (by decide))
 have w_:=aSo (l:=p.rels) (i:=i) (by omega)
 obtain⟨r,hr⟩:=w_
 have w_:=Rl.elemA ((hrl.mono hle1).mono hle) hr
 obtain⟨ad,q2,hel,hrv,hb⟩:=w_
 have hb:RepV μ' r.body.d (.agg (r.body.cs q2).toArray):=hb
 have hrok:=hok.2 i r hr
 have w_:=Int.eq_ofNat_of_zero_le hrok.ar0
 obtain⟨a,ha⟩:=w_
 have w_:=Int.eq_ofNat_of_zero_le hrok.lo0
 obtain⟨lo,hlo⟩:=w_
 have har4:=hrok.ar4
 have hlo8:=hrok.lo8
 have hnn:(r.arity+r.locals).toNat=a+lo:=by omega
 have hsz:=hrok.size
 refine eIn hel ?_
 intro r8 r35
 refine lIn (fun z:Nat×Option Nat×Nat=>z.1≤a+lo)
  (fun(n,vb,vc)=>⟨[(1,.val (.slice ub U.length uc)),(6,.row 1 b ys.length c),(8,.loc 2 r8 0),(9,.row 3 vb (aF (nP n)).length vc),(10,.val (.int .i64 n)),(29,.val (.slice q.1 p.rels.length q.2)),(30,.val (.int .i64 p.rels.length)),(31,.val (.int .i64 i))],[(1,some (.row b c 106 6 ys)),(2,some (.cells r8 [.val (.string r.name),.val (.int .i64 r.arity),.val (.int .i64 r.locals),.val (.int .i64 r.body.kind),.val (.string r.body.name),.val (.slice q2.1.1 r.body.terms.length q2.1.2),.val (.slice q2.2.1 r.body.goals.length q2.2.2)] 63)),(3,some (.row vb vc 3 1 (aF (nP n))))],4,μ',Mem.nil⟩) (fun z=>a+lo-z.1)
  (0,some r35,0) (Nat.zero_le _) (fun(_,_,_)=>⟨rfl,rfl⟩) ⟨⟨rfl,rfl,rfl,rfl,rfl,rfl,rfl,rfl,trivial⟩,⟨rfl,rfl,rfl,trivial⟩,rfl,rfl⟩ ?_
 rintro⟨n,vb,vc⟩ hn2
 dsimp only at hn2
 have hil:(aF (nP n)).length=n:=by rw[aF,List.length_map,rN]
 refine nEq (x:=((a+lo:Nat):Int)) (by rw[aA (by omega) (by omega)];omega) ?_
 refine ifd (fun h2=>?_) (fun h2=>?_)
 ·intro r47
  refine gIn ?_ ?_ fun b' c' _=>?_
  ·show(_+1)*8≤_;omega
  ·exact Nat.le_trans (m:=1000) (show _+1≤_ by omega) (by decide)
  have ez:aF (nP (n+1))=aF (nP n)++[.int .i64 (n:Int)]:=by simp[aF,nP,List.range_succ]
  refine aB (by omega) (by omega) ⟨(n+1,b',c'),by dsimp only;omega,by dsimp only;omega,?_⟩
  dsimp only
  rw[ez]
  exact⟨⟨rfl,rfl,rfl,by rw[List.length_append];rfl,rfl,rfl,rfl,rfl,trivial⟩,⟨rfl,rfl,rfl,trivial⟩,rfl,rfl⟩
 obtain rfl:n=a+lo:=by omega
 refine cPl (gE hb (qOg hw hr) ⟨hrok.body,by omega⟩) fun v3 μ3 hle3 hR3=>?_
 have hwsp:=zV (μ:=μ3) (size:=U.length) (n:=(aF (nP (a+lo))).length) (most:=4096) hU1 hU8 (by omega) (by omega) (by omega)
 cases hL:r.body.cl with
 |none=>
  rw[hL]at hR3
  obtain rfl:=hR3
  refine cPl hwsp fun v4 μ4 hle4 hR4=>?_
  obtain⟨⟨W,rfl,_,_⟩,rfl⟩:=hR4
  refine iIn (fun _=>rPl ?_) (fun h=>nomatch h)
  rw[cI,if_neg fun k=>(k.1 r (mAt hr)).1 hL];rfl
 |some L=>
 rw[hL]at hR3
 obtain⟨tv,rfl,hLr⟩:=hR3
 obtain⟨pv,rfl⟩:=hLr.inv
 refine cPl hwsp fun v4 μ4 hle4 hR4=>?_
 obtain⟨⟨W,rfl,hW1,hW2⟩,e4⟩:=hR4
 obtain rfl:=e4.symm
 rw[hil]at hW1 hW2
 refine iIn (fun h=>nomatch h) (fun _=>?_)
 refine ifd (fun hbig=>rPl ?_) (fun hsmall=>?_)
 ·rw[cI,if_neg fun k=>by
   have h1:=(k.1 r (mAt hr)).2
   rw[hnn]at h1
   have:=hW1 h1
   omega];rfl
 have hWle:U.length ^ (a+lo)≤4096:=Nat.le_of_not_lt fun h=>by have:=hW2 h;omega
 have w_:=hW1 hWle
 obtain rfl:=w_
 have hLs:=(Cls.sl hLr).1
 have hLb:=Gl.cl_bnd r.body hL
 generalize hpre:(p.rels.take i).flatMap (cD U)=pre at*
 refine lFz (fun z:Nat×Option Nat×Nat×List Value×Mem×(Option Nat×Nat)=>z.1≤L.length∧μ3.Le z.2.2.2.2.1∧Sl z.2.2.2.2.1 1 (z.2.2.2.2.2.1.map fun r=>(⟨r,0,none⟩:Addr)) (a+lo) ((nP (a+lo)).map D.i)∧Rows z.2.2.2.2.1 6 ((((pre++aY U r L z.1).take 2001).map Ru.rd).map RuD.d) z.2.2.2.1)
  (fun(k,b,c,ys,μ',vb,vc)=>⟨[(1,.val (.slice ub U.length uc)),(6,.row 1 b ys.length c),(8,.loc 2 r8 0),(9,.val (.slice (vb.map fun r=>(⟨r,0,none⟩:Addr)) (aF (nP (a+lo))).length vc)),(13,.val (.int .i64 ((U.length ^ (a+lo):Nat):Int))),(29,.val (.slice q.1 p.rels.length q.2)),(30,.val (.int .i64 p.rels.length)),(31,.val (.int .i64 i)),(66,.val (.slice pv.1 L.length pv.2)),(67,.val (.int .i64 L.length)),(68,.val (.int .i64 k))],[(1,some (.row b c 106 6 ys)),(2,some (.cells r8 [.val (.string r.name),.val (.int .i64 r.arity),.val (.int .i64 r.locals),.val (.int .i64 r.body.kind),.val (.string r.body.name),.val (.slice q2.1.1 r.body.terms.length q2.1.2),.val (.slice q2.2.1 r.body.goals.length q2.2.2)] 63))],4,μ',Mem.nil⟩) (fun z=>L.length-z.1) [3]
  (fun(_,_,_,_,_,_,_)=>⟨rfl,rfl⟩) ?_ ?_
 ·intro μf hlef hnof hatf
  have hsl:=Ints.sl hatf (Nat.le_trans (m:=1000) (by rw[rN];omega) (by decide))
  rw[hil]at hsl
  have w_:=Rep.sl hsl
  obtain⟨bz,cz,ez,hzs⟩:=w_
  have w_:=Value.slice.inj ez
  obtain⟨e1,_,_⟩:=w_
  rw[←e1,List.length_map,rN]at hzs
  refine⟨(0,b,c,ys,μf,vb,vc),⟨Nat.zero_le _,hlef,hzs,?_⟩,⟨⟨rfl,rfl,rfl,rfl,rfl,rfl,rfl,rfl,rfl,rfl,rfl,trivial⟩,⟨rfl,rfl,trivial⟩,rfl,rfl⟩⟩
  have e0:pre++aY U r L 0=pre:=by simp[aY]
  dsimp only
  rw[e0]
  exact(hrows.mono hle3).mono hlef
 clear hrows hyl hil
 rintro⟨k,b,c,ys,μ5,vb,vc⟩ ⟨hk,hle5,hvs,hrows⟩
 dsimp only at hk hle5 hvs hrows
 have hil:(aF (nP (a+lo))).length=a+lo:=by rw[aF,List.length_map,rN]
 refine ifd (fun hltk=>?_) (fun hltk=>?_)
 rotate_left
 ·obtain rfl : k = L.length := by omega
  refine aB (by omega) (by omega) ⟨(i+1,b,c,ys,μ5),⟨by dsimp only;omega,(hle.trans hle3).trans hle5,?_,?_⟩,by dsimp only;omega,⟨⟨rfl,rfl,rfl,rfl,rfl,trivial⟩,⟨rfl,trivial⟩,rfl,rfl⟩⟩
  ·dsimp only
   rw[jI hr,hpre]
   have e:cD U r=aY U r L L.length:=by rw[cD,hL]
   rw[e];exact hrows
  ·dsimp only
   intro x hx
   rw[List.take_add_one,hr,Option.toList_some]at hx
   rcases List.mem_append.1 hx with hx|hx
   ·exact hways x hx
   ·rw [List.mem_singleton.1 hx, hL, hnn]
    exact⟨(fun h=>nomatch h),hWle⟩
 have w_:=aSo (l:=L) (i:=k) (by omega)
 obtain⟨cl,hcl⟩:=w_
 have w_:=cF (hLs.mono hle5) hcl
 obtain⟨adc,pc,helc,hrc⟩:=w_
 have hcs:Sl μ5 4 pc.1 cl.length (cl.map Gl.d):=by
  have w_:=Rep.sl (xs:=cl.map Gl.d) hrc
  obtain⟨b',c',e1,hs⟩:=w_
  have w_:=Value.slice.inj e1
  obtain⟨rfl,_,_⟩:=w_
  simpa using hs
 have hcb:=hLb.1 cl (mAt hcl)
 have hG:∀g∈cl,ClG g:=fun g hg=>ClG.of hok hr hL (mAt hcl) hg
 refine eIn helc ?_
 refine lIn (fun z:Nat×Option Nat×Nat×List Value×Mem=>z.1≤U.length ^ (a+lo)∧μ5.Le z.2.2.2.2∧Rows z.2.2.2.2 6 ((((pre++aY U r L k++bI U r k cl z.1).take 2001).map Ru.rd).map RuD.d) z.2.2.2.1)
  (fun(w,b,c,ys,μ')=>⟨[(1,.val (.slice ub U.length uc)),(6,.row 1 b ys.length c),(8,.loc 2 r8 0),(9,.val (.slice (vb.map fun r=>(⟨r,0,none⟩:Addr)) (aF (nP (a+lo))).length vc)),(13,.val (.int .i64 ((U.length ^ (a+lo):Nat):Int))),(14,.val (.int .i64 k)),(15,.val (.slice pc.1 cl.length pc.2)),(16,.val (.int .i64 (w:Nat))),(29,.val (.slice q.1 p.rels.length q.2)),(30,.val (.int .i64 p.rels.length)),(31,.val (.int .i64 i)),(66,.val (.slice pv.1 L.length pv.2)),(67,.val (.int .i64 L.length)),(68,.val (.int .i64 k))],[(1,some (.row b c 106 6 ys)),(2,some (.cells r8 [.val (.string r.name),.val (.int .i64 r.arity),.val (.int .i64 r.locals),.val (.int .i64 r.body.kind),.val (.string r.body.name),.val (.slice q2.1.1 r.body.terms.length q2.1.2),.val (.slice q2.2.1 r.body.goals.length q2.2.2)] 63))],4,μ',Mem.nil⟩) (fun z=>U.length ^ (a+lo)-z.1)
  (0,b,c,ys,μ5) ⟨Nat.zero_le _,Mem.Le.refl _,by simpa[bI]using hrows⟩ (fun(_,_,_,_,_)=>⟨rfl,rfl⟩) ⟨⟨rfl,rfl,rfl,rfl,rfl,rfl,rfl,rfl,rfl,rfl,rfl,rfl,rfl,rfl,trivial⟩,⟨rfl,rfl,trivial⟩,rfl,rfl⟩ ?_
 clear hrows
 rintro⟨w,b,c,ys,μ6⟩ ⟨hw6,hle6,hrows⟩
 dsimp only at hw6 hle6 hrows
 have hyl:=hrows.len
 simp only[List.length_map]at hyl
 have done:(pre++aY U r L k++bI U r k cl w).take 2001=(pre++aY U r L (k+1)).take 2001→∃i':Nat×Option Nat×Nat×List Value×Mem×(Option Nat×Nat),i'=(k+1,b,c,ys,μ6,vb,vc)∧(k+1≤L.length∧μ3.Le μ6∧Sl μ6 1 (vb.map fun r=>(⟨r,0,none⟩:Addr)) (a+lo) ((nP (a+lo)).map D.i)∧Rows μ6 6 ((((pre++aY U r L (k+1)).take 2001).map Ru.rd).map RuD.d) ys):=fun e=>
  ⟨_,rfl,by omega,hle5.trans hle6,hvs.mono hle6,by rw[←e];exact hrows⟩
 have hsucc:=jH (U:=U) (r:=r) hcl
 rw[hnn]at hsucc
 refine ifd (fun hltw=>?_) (fun hltw=>?_)
 rotate_left
 ·obtain rfl : w = U.length ^ (a + lo) := by omega
  have w_:=done (by rw[hsucc,List.append_assoc])
  obtain⟨i',rfl,hI⟩:=w_
  exact aB (by omega) (by omega) ⟨[],(k+1,b,c,ys,μ6,vb,vc),hI,by dsimp only;omega,⟨⟨rfl,rfl,rfl,rfl,rfl,rfl,rfl,rfl,rfl,rfl,rfl,trivial⟩,⟨rfl,rfl,trivial⟩,rfl,rfl⟩⟩
 refine ifd (fun hroom=>?_) (fun hroom=>?_)
 rotate_left
 ·have w_ := iB (U := U) (r := r) (i := k) (c := cl) (w := w) (U.length ^ (a + lo) - w)
  obtain⟨X,hX⟩:=w_
  rw[show w+(U.length ^ (a+lo)-w)=U.length ^ (a+lo) by omega]at hX
  obtain⟨i',rfl,hI⟩:=done (by
   rw[hsucc,hX,←List.append_assoc,←List.append_assoc]
   exact(qHj (by omega)).symm)
  exact aB (by omega) (by omega) ⟨[],(k+1,b,c,ys,μ6,vb,vc),hI,by dsimp only;omega,⟨⟨rfl,rfl,rfl,rfl,rfl,rfl,rfl,rfl,rfl,rfl,rfl,trivial⟩,⟨rfl,rfl,trivial⟩,rfl,rfl⟩⟩
 have hA:=qCm (A:=pre++aY U r L k++bI U r k cl w) (by omega)
 have hA1:(pre++aY U r L k++bI U r k cl w).take 2001=pre++aY U r L k++bI U r k cl w:=List.take_of_length_le (by omega)
 rw[hA1]at hrows hyl
 have hnext:=kN U r k cl w
 have hu6:=(((hu.mono hle1).mono hle).mono hle3).mono (hle5.trans hle6)
 have hvals:=vM (uc:=uc) (vc:=vc) (n:=a+lo) (w:=w) hu6 (by omega) hU8 (hvs.mono hle6) (by omega) (by omega)
 rw[←hil]at hvals
 refine cPl hvals fun v7 μ7 hle7 hR7=>?_
 rw[hil]at hR7
 have w_:=Rep.sl hR7
 obtain⟨b7,c7,e7,hs7⟩:=w_
 simp only[List.length_map,lH]at e7 hs7
 subst e7
 have hdl:=gG U (a+lo) w
 have hrv7:=(hrv.mono hle3).mono ((hle5.trans hle6).trans hle7)
 refine cPl (uG (i:=k) (vs:=dR U (a+lo) w) (a:=a) hrv7 ha (by omega) (by omega) ((hcs.mono hle6).mono hle7) (by omega) hG hs7) fun v8 μ8 hle8 hR8=>?_
 obtain⟨ru,rv,rfl,hrr,hru⟩:=hR8
 have w_:=Ru.inv hrr
 obtain⟨pr,rfl,h81,h82,h83,h84⟩:=w_
 intro r17
 have hu8:=(hu6.mono hle7).mono hle8
 have hmono:=(hle6.trans hle7).trans hle8
 have skip:¬(∀g∈cl,okG U (dR U (a+lo) w) g)→Rows μ8 6 ((((pre++aY U r L k++bI U r k cl (w+1)).take 2001).map Ru.rd).map RuD.d) ys:=fun h=>by
  rw[hnext,dY,hnn,if_neg h,Option.toList_none,List.append_nil,hA1]
  exact(hrows.mono hle7).mono hle8
 refine ifd (fun hS=>?_) (fun hS=>?_)
 rotate_left
 ·exact aB (by omega) (by omega) ⟨(w+1,b,c,ys,μ8),⟨by dsimp only;omega,hmono,skip fun k=>hS (okG_iff.1 k).1⟩,by dsimp only;omega,⟨⟨rfl,rfl,rfl,rfl,rfl,rfl,rfl,rfl,rfl,rfl,rfl,rfl,rfl,rfl,trivial⟩,⟨rfl,rfl,trivial⟩,rfl,rfl⟩⟩
 have w_:=hru hS
 obtain rfl:=w_
 refine cGv (nI hu8 h83) ?_
 refine ifd (fun hP=>?_) (fun hP=>?_)
 rotate_left
 ·exact aB (by omega) (by omega) ⟨(w+1,b,c,ys,μ8),⟨by dsimp only;omega,hmono,skip fun k=>hP (okG_iff.1 k).2.1⟩,by dsimp only;omega,⟨⟨rfl,rfl,rfl,rfl,rfl,rfl,rfl,rfl,rfl,rfl,rfl,rfl,rfl,rfl,trivial⟩,⟨rfl,rfl,trivial⟩,rfl,rfl⟩⟩
 refine cGv (nI hu8 h84) ?_
 refine ifd (fun hN=>?_) (fun hN=>?_)
 rotate_left
 ·exact aB (by omega) (by omega) ⟨(w+1,b,c,ys,μ8),⟨by dsimp only;omega,hmono,skip fun k=>hN (okG_iff.1 k).2.2⟩,by dsimp only;omega,⟨⟨rfl,rfl,rfl,rfl,rfl,rfl,rfl,rfl,rfl,rfl,rfl,rfl,rfl,rfl,trivial⟩,⟨rfl,rfl,trivial⟩,rfl,rfl⟩⟩
 have hOk:=okG_iff.2 ⟨hS,hP,hN⟩
 have lens:(dZ r k cl (dR U (a+lo) w)).vals.length≤12∧(dZ r k cl (dR U (a+lo) w)).head.args.length≤12∧(dZ r k cl (dR U (a+lo) w)).pos.length≤1000∧(dZ r k cl (dR U (a+lo) w)).neg.length≤1000:=by
  refine⟨by show(dR U (a+lo) w).length≤12;omega,by show((dR U (a+lo) w).take _).length≤12;rw[List.length_take];omega,?_,?_⟩
  ·have := uJ (vs := dR U (a + lo) w) (c := cl)
   show(bQ _ cl).length≤1000;omega
  ·have := qCz (vs := dR U (a + lo) w) (c := cl)
   show(iU _ cl).length≤1000;omega
 have lpos:∀f∈(dZ r k cl (dR U (a+lo) w)).pos,f.args.length≤4:=wB hG
 have lneg:∀f∈(dZ r k cl (dR U (a+lo) w)).neg,f.args.length≤4:=qKf hG
 have hat1:dY U r k cl w=some (dZ r k cl (dR U (a+lo) w)):=by rw[dY,hnn,if_pos hOk]
 generalize dZ r k cl (dR U (a+lo) w)=R at*
 refine cPl (dX h82 (by omega)) fun v9 μ9 hle9 hR9=>?_
 have w_:=Rep.sl hR9
 obtain⟨b9,c9,e,hs9⟩:=w_
 simp only[List.length_map]at e hs9
 subst e
 refine cPl (dX (h81.mono hle9) (by omega)) fun v10 μ10 hle10 hR10=>?_
 have w_:=Rep.sl hR10
 obtain⟨b10,c10,e,hs10⟩:=w_
 simp only[List.length_map]at e hs10
 subst e
 refine cPl (kK ((h83.mono hle9).mono hle10) (by omega) (fun f hf=>by have:=lpos f hf;omega)) fun v11 μ11 hle11 hR11=>?_
 have w_:=Rep.sl hR11
 obtain⟨b11,c11,e,hs11⟩:=w_
 simp only[List.length_map]at e hs11
 subst e
 refine cPl (kK (((h84.mono hle9).mono hle10).mono hle11) (by omega) (fun f hf=>by have:=lneg f hf;omega)) fun v12 μ12 hle12 hR12=>?_
 have w_:=Rep.sl hR12
 obtain⟨b12,c12,e,hs12⟩:=w_
 simp only[List.length_map]at e hs12
 subst e
 intro r127
 refine gIn ?_ ?_ fun b' c' _=>?_
 ·show(ys.length+1)*120≤_;omega
 ·exact Nat.le_trans (m:=100000) (show ys.length+1≤_ by omega) (by decide)
 refine aB (by omega) (by omega) ⟨(w+1,b',c',_,μ12),⟨by dsimp only;omega,hmono.trans (((hle9.trans hle10).trans hle11).trans hle12),?_⟩,by dsimp only;omega,⟨⟨rfl,rfl,rfl,rfl,rfl,rfl,rfl,rfl,rfl,rfl,rfl,rfl,rfl,rfl,trivial⟩,⟨rfl,rfl,trivial⟩,rfl,rfl⟩⟩
 dsimp only
 have hlen2:(pre++aY U r L k++bI U r k cl w++[R]).length≤2001:=by
  rw[List.length_append]
  simp only[List.length_singleton]
  omega
 rw[hnext,hat1,Option.toList_some,←List.append_assoc,List.take_of_length_le hlen2,List.map_append,List.map_append]
 refine((((((hrows.mono hle7).mono hle8).mono hle9).mono hle10).mono hle11).mono hle12).append (Rows.one ?_ (RuD.d_n _))
 exact Ru.mkV (((hR10.mono hle11).mono hle12)) (((hR9.mono hle10).mono hle11).mono hle12) (hR11.mono hle12) hR12
end
end Go.Vx
namespace Go.Vx
open Go.Proofs Classical
theorem qGj{vs:List T}{n:Int}(h0:0≤n)(h1:n<vs.length):∃x,bT vs n=some x∧vs[n.toNat]? =some x:=by
 have w_:=aSo (l:=vs) (i:=n.toNat) (by omega)
 obtain⟨x,hx⟩:=w_
 exact⟨x,by rw[bT,if_pos h0,hx],hx⟩
section
variable {μ:Mem}
theorem zI{size n most:Nat}(h1:1≤size)(h8:size≤8)(hm:most≤100000)(hn:n≤1000)(hm1:1≤most):
  Spec Tryz.prog 192 [.int .i64 size,.int .i64 n,.int .i64 most] μ fun r μ'=>qHm size n most r∧μ'=μ:=by
 refine Spec.forget (Spec.mk Tryz.func192 (by kernel_rfl) ?_)
 refine lIn (fun z:Nat×Nat=>z.1≤n∧z.2=size ^ z.1∧z.2≤8*most) (fun(i,k)=>⟨[(0,.val (.int .i64 size)),(1,.val (.int .i64 n)),(2,.val (.int .i64 most)),(7,.val (.int .i64 (k:Nat))),(8,.val (.int .i64 (i:Nat)))],[],0,μ,Mem.nil⟩) (fun z=>n-z.1)
  (0,1) ⟨Nat.zero_le _,rfl,by dsimp only;omega⟩ (fun(_,_)=>⟨rfl,rfl⟩) ⟨⟨rfl,rfl,rfl,rfl,rfl,trivial⟩,trivial,rfl,rfl⟩ ?_
 rintro⟨i,k⟩ ⟨hi,hk,hb⟩
 dsimp only at hi hk hb
 have mono:size ^ i≤size ^ n:=Nat.pow_le_pow_right h1 hi
 have fin:(¬i<n∨¬k≤most)→qHm size n most (.int .i64 (if((most:Int)+1)<(k:Int)then(most:Int)+1 else(k:Int))):=fun h=>by
  by_cases g:(most:Int)+1<(k:Int)
  ·rw [if_pos g]
   exact⟨most+1,rfl,fun h=>by omega,fun _=>by omega⟩
  ·rw [if_neg g]
   refine⟨k,rfl,fun h2=>?_,fun h2=>?_⟩
   ·rcases h with h | h
    ·obtain rfl : i = n := by omega
     exact hk
    ·omega
   ·rcases h with h | h
    ·obtain rfl : i = n := by omega
     omega
    ·omega
 refine ifd (fun g1=>?_) (fun g1=>?_)
 ·refine ifd (fun g2 => ?_) (fun g2 => ?_)
  ·have hks:k*size≤8*most:=by
    have:=Nat.mul_le_mul (show k≤most by omega) h8
    omega
   refine nEq (x:=((k*size:Nat):Int)) (by rw[←Int.natCast_mul];exact aA (by omega) (by omega)) ?_
   exact aB (by omega) (by omega) ⟨(i+1,k*size),⟨by dsimp only;omega,by dsimp only;rw[hk,Nat.pow_succ],hks⟩,by dsimp only;omega,⟨⟨rfl,rfl,rfl,rfl,rfl,trivial⟩,trivial,rfl,rfl⟩⟩
  ·exact aB (by omega) (by omega) (rPl (fin (.inr (by omega))))
 ·exact aB (by omega) (by omega) (rPl (fin (.inl (by omega))))
theorem wM{vs:List T}{vb:Option Addr}{vc r3:Nat}{ty:TypeId}{n:Int}(hv:Sl μ 4 vb vs.length ((vs.map T.tm).map Tm.d))(h3:μ r3=some (.cells #[.slice vb vs.length vc] ty (0,0)))(h0:0≤n)(h1:n<vs.length):
  Spec Tryz.prog 260 [.int .i64 n,.pointer (some ⟨r3,0,none⟩)] μ fun v μ'=>qDg (fun y tv=>RepV μ' y.tm.d tv) (bT vs n) v:=by
 have w_:=qGj h0 h1
 obtain⟨x,hx,hx2⟩:=w_
 have w_:=T.elemL hv hx2
 obtain⟨ad,p,hel,hr⟩:=w_
 rw[hx]
 refine Spec.mk Tryz.func260 (by kernel_rfl) ?_
 intro r
 refine bN [.slice vb vs.length vc] rfl (bJ h3) ?_
 refine eIn (by rw[show n=((n.toNat:Nat):Int) by omega];exact hel) ?_
 exact rPl ⟨_,rfl,hr⟩
theorem qO{vs:List T}{vb:Option Addr}{vc:Nat}{x:T}{v:Value}(hv:Sl μ 4 vb vs.length ((vs.map T.tm).map Tm.d))(hx:RepV μ x.tm.d v)(hl:∀n∈x.vars,0≤n∧n<vs.length):
  Spec Tryz.prog 233 [v,.slice vb vs.length vc] μ fun v μ'=>RepV μ' (x.subst (bT vs)).tm.d v:=by
 have hx0:=hx
 have w_:=Tm.invV hx
 obtain⟨p,rfl⟩:=w_
 refine Spec.mk Tryz.func233 (by kernel_rfl) ?_
 intro r2 r3 r4
 refine aS [1] fun μ1 hle1 hno1 hat1=>?_
 refine lC (tH (f:=bT vs) (fun μ' h'=>h'=Mem.nil∧μ1.Le μ') (fun g1 g2=>⟨g2.1,g2.2.trans g1⟩) x (fun μ' h' g1 g2 n hn=>?_) ⟨rfl,Mem.Le.refl _⟩ (hx0.mono hle1)) fun v1 μ2 h2 hle2 hap2 hR=>?_
 ·obtain ⟨rfl, g2⟩ := g2
  exact SpecH.weaken (Spec.beside (eA _) (wM (ty:=27) ((hv.mono hle1).mono g2) (g2 _ _ hat1) (hl n hn).1 (hl n hn).2)) fun v μ'' h'' g3 g4 g5=>⟨g5.2,g5.1,g2.trans g3⟩
 ·obtain ⟨hR, rfl, _⟩ := hR
  have w_:=Tm.invV hR
  obtain⟨q,rfl⟩:=w_
  exact rPl hR
theorem nV{xs:List T}{f:Int→Option T}{i:Nat}{x:T}(h:xs[i]? =some x):(xs.map (T.subst f)).take (i+1)=(xs.map (T.subst f)).take i++[x.subst f]:=by
 rw[List.take_add_one,List.getElem?_map,h];rfl
theorem sU{vs:List T}{g:Gl}{xs:List T}(h:g.terms=xs.map T.tm):(cJ vs g).args=xs.map (T.subst (bT vs)):=by
 show g.terms.map _=_
 rw[h,List.map_map]
 exact List.map_congr_left fun x _=>by simp[T.toT_tm]
theorem kR{vs xs:List T}{vb:Option Addr}{vc:Nat}{g:Gl}{v:Value}(hv:Sl μ 4 vb vs.length ((vs.map T.tm).map Tm.d))(hg:RepV μ g.d v)(hx:g.terms=xs.map T.tm)(hx4:xs.length≤4)(hl:∀x∈xs,∀n∈x.vars,0≤n∧n<vs.length):
  Spec Tryz.prog 193 [v,.slice vb vs.length vc] μ fun v μ'=>RepV μ' (cJ vs g).fc.d v:=by
 have w_:=Gl.inv hg
 obtain⟨p0,rfl,hts,-⟩:=w_
 have hca:=sU (vs:=vs) hx
 rw[hx,List.length_map]at hts
 rw[show g.terms.length=xs.length by rw[hx,List.length_map]]
 refine Spec.mk Tryz.func193 (by kernel_rfl) ?_
 intro r2 r4 r5
 refine aU (fun z:Nat×Option Nat×Nat×List Value×Mem=>z.1≤xs.length∧μ.Le z.2.2.2.2∧Rows z.2.2.2.2 4 ((((xs.map (T.subst (bT vs))).take z.1).map T.tm).map Tm.d) z.2.2.2.1)
  (fun(i,b,c,ys,μ')=>⟨[(1,.val (.slice vb vs.length vc)),(4,.loc 1 r4 0),(5,.loc 2 r5 0),(12,.val (.slice p0.1.1 xs.length p0.1.2)),(13,.val (.int .i64 xs.length)),(14,.val (.int .i64 i))],[(1,some (.cells r4 [.val (.string ⟨#[]⟩),.val (.slice none 0 0)] 41)),(2,some (.cells r5 [.val (.string g.name),.row 3 b ys.length c] 41)),(3,some (.row b c 75 4 ys))],4,μ',Mem.nil⟩) (fun z=>xs.length-z.1)
  (0,none,0,[],μ) ⟨Nat.zero_le _,Mem.Le.refl _,.nil⟩ (fun(_,_,_,_,_)=>⟨rfl,rfl⟩) ⟨⟨⟨_,rfl,.inl rfl⟩,⟨_,rfl,.inl rfl⟩,⟨_,rfl,.inl rfl⟩,⟨_,rfl,.inl rfl⟩,⟨_,rfl,.inl rfl⟩,⟨_,rfl,.inl rfl⟩,trivial⟩,⟨.inl rfl,.inr (.inr ⟨_,_,_,_,rfl,rfl,.inl rfl,.inr ⟨3,rfl,rfl,Nat.le_refl _⟩,trivial⟩),.inr (.inl ⟨_,_,rfl,Nat.le_refl _⟩),trivial⟩,rfl,rfl⟩ ?_
 rintro⟨i,b,c,ys,μ'⟩ ⟨hi,hle,hrows⟩
 dsimp only at hi hle hrows
 have hlen:=hrows.len
 simp only[List.length_map,List.length_take]at hlen
 refine ifd (fun hlt=>?_) (fun hlt=>?_)
 ·have w_ := aSo (l := xs) (i := i) (by omega)
  obtain⟨x,hx⟩:=w_
  have w_:=T.elemL (hts.mono hle) hx
  obtain⟨ad,p,hel,hr⟩:=w_
  refine eIn hel ?_
  intro r7
  refine cPl (qO (hv.mono hle) hr (hl x (mAt hx))) fun v1 μ1 hle1 hR=>?_
  have w_:=Tm.invV hR
  obtain⟨q1,rfl⟩:=w_
  intro r23
  refine gIn ?_ ?_ fun b' c' _=>?_
  ·show(ys.length+1)*56≤_;omega
  ·exact Nat.le_trans (m:=1000) (show ys.length+1≤_ by omega) (by decide)
  refine aB (by omega) (by omega) ⟨(i+1,b',c',_,μ1),⟨by dsimp only;omega,hle.trans hle1,?_⟩,by dsimp only;omega,⟨⟨rfl,rfl,rfl,rfl,rfl,rfl,trivial⟩,⟨rfl,rfl,rfl,trivial⟩,rfl,rfl⟩⟩
  dsimp only
  rw[nV hx]
  simp only[List.map_append,List.map_cons,List.map_nil]
  exact(hrows.mono hle1).append (Rows.one hR (Tm.d_n _))
 obtain rfl:i=xs.length:=by omega
 rw[List.take_of_length_le (by rw[List.length_map];omega)]at hrows
 refine rFz [3] fun μ2 hle2 hno2 hat2=> .inl ?_
 have k:=Rows.sl hat2 (hrows.mono hle2) (Nat.le_trans (m:=1000) (by omega) (by decide))
 rw[Fc.d_eq,F.fc_args,hca]
 exact⟨_,rfl,RepS.str (RepS.last k)⟩
theorem kC{U l:List T}{ub lb:Option Addr}{uc lc:Nat}(hu:Sl μ 4 ub U.length ((U.map T.tm).map Tm.d))(hl:Sl μ 4 lb l.length ((l.map T.tm).map Tm.d)):
  aM Tryz.prog 131 [.slice ub U.length uc,.slice lb l.length lc] μ (.bool (decide (∀a∈l,a∈U))):=by
 have hn:=aH hl.max
 have hm:=aH hu.max
 refine Spec.mk Tryz.func131 (by kernel_rfl) ?_
 refine lIn (fun i:Nat=>i≤l.length∧∀a∈l.take i,a∈U)
  (fun i=>⟨[(0,.val (.slice ub U.length uc)),(10,.val (.slice lb l.length lc)),(11,.val (.int .i64 l.length)),(12,.val (.int .i64 i))],[],0,μ,Mem.nil⟩) (fun i=>l.length-i)
  0 ⟨Nat.zero_le _,by simp⟩ (fun _=>⟨rfl,rfl⟩) ⟨⟨rfl,rfl,rfl,rfl,trivial⟩,trivial,rfl,rfl⟩ ?_
 rintro i ⟨hi,hall⟩
 refine ifd (fun hlt=>?_) (fun hlt=>?_)
 ·have w_ := aSo (l := l) (i := i) (by omega)
  obtain⟨x,hx⟩:=w_
  have w_:=T.elemL hl hx
  obtain⟨ad,p,hel,hr⟩:=w_
  refine eIn hel ?_
  intro r6
  refine lIn (fun z:Nat×Bool=>z.1≤U.length∧(z.2=true↔x∈U.take z.1))
   (fun(k,f)=>⟨[(0,.val (.slice ub U.length uc)),(6,.loc 0 r6 0),(7,.val (.bool f)),(10,.val (.slice lb l.length lc)),(11,.val (.int .i64 l.length)),(12,.val (.int .i64 i)),(16,.val (.slice ub U.length uc)),(17,.val (.int .i64 U.length)),(18,.val (.int .i64 k))],[(0,some (.cells r6 [.val (.int .i64 x.tm.kind),.val (.int .i64 x.tm.num),.val (.string x.tm.name),.val (.slice p.1 x.tm.args.length p.2)] 75))],1,μ,Mem.nil⟩) (fun z=>U.length-z.1)
   (0,false) ⟨Nat.zero_le _,by simp⟩ (fun(_,_)=>⟨rfl,rfl⟩) ⟨⟨rfl,rfl,rfl,rfl,rfl,rfl,rfl,rfl,rfl,trivial⟩,⟨rfl,trivial⟩,rfl,rfl⟩ ?_
  rintro⟨k,f⟩ ⟨hk,hf⟩
  dsimp only at hk hf
  refine ifd (fun h2=>?_) (fun h2=>?_)
  ·have w_ := aSo (l := U) (i := k) (by omega)
   obtain⟨y,hy⟩:=w_
   have w_:=T.elemL hu hy
   obtain⟨ad2,p2,hel2,hr2⟩:=w_
   have htk:x∈U.take (k+1)↔x∈U.take k∨y=x:=by
    rw[List.take_add_one,hy,Option.toList_some,List.mem_append,List.mem_singleton]
    exact or_congr_right ⟨Eq.symm,Eq.symm⟩
   refine eIn hel2 ?_
   intro r9
   refine iIn (fun hb=>?_) (fun hb=>?_)
   ·refine aB (by omega) (by omega) ⟨(k + 1, true), ⟨by dsimp only; omega, ?_⟩, by dsimp only; omega, ⟨⟨rfl, rfl, rfl, rfl, rfl, rfl, rfl, rfl, rfl, trivial⟩, ⟨rfl, trivial⟩, rfl, rfl⟩⟩
    dsimp only
    rw[htk]
    exact⟨fun _=> .inl (hf.1 hb),fun _=>rfl⟩
   ·refine cGv (eU y x hr2 hr) ?_
    refine aB (by omega) (by omega) ⟨(k+1,decide (y=x)),⟨by dsimp only;omega,?_⟩,by dsimp only;omega,⟨⟨rfl,rfl,rfl,rfl,rfl,rfl,rfl,rfl,rfl,trivial⟩,⟨rfl,trivial⟩,rfl,rfl⟩⟩
    dsimp only
    rw[htk,decide_eq_true_eq]
    exact⟨.inr,fun h=>h.elim (fun h=>by rw[hf.2 h]at hb;cases hb) id⟩
  obtain rfl:k=U.length:=by omega
  rw[List.take_length]at hf
  refine iIn (fun hb=>?_) (fun hb=>?_)
  ·have hb : f = false := by simpa using hb
   refine rGv (isF fun k=>?_) rfl
   rw[hf.2 (k x (mAt hx))]at hb;cases hb
  ·have hb : f = true := by simpa using hb
   refine aB (by omega) (by omega) ⟨i+1,⟨by omega,?_⟩,by omega,⟨⟨rfl,rfl,rfl,rfl,trivial⟩,trivial,rfl,rfl⟩⟩
   rw[List.take_add_one,hx,Option.toList_some]
   intro y hy
   rcases List.mem_append.1 hy with hy|hy
   ·exact hall y hy
   ·rw[List.mem_singleton.1 hy];exact hf.1 hb
 ·obtain rfl : i = l.length := by omega
  rw[List.take_length]at hall
  exact rGv (isT hall) rfl
set_option maxHeartbeats 4000000 in
set_option maxRecDepth 20000 in
theorem pN{vs xs:List T}{vb:Option Addr}{vc:Nat}{g:Gl}{v:Value}(hv:Sl μ 4 vb vs.length ((vs.map T.tm).map Tm.d))(hg:RepV μ g.d v)(hx:g.terms=xs.map T.tm)(hx4:xs.length≤4)(hl:∀x∈xs,∀n∈x.vars,0≤n∧n<vs.length)(hsl:SimpleLen g.kind xs.length):
  Spec Tryz.prog 194 [v,.slice vb vs.length vc] μ fun v _=>v= .bool (decide (dV g.kind (xs.map (T.subst (bT vs))))):=by
 have w_:=Gl.inv hg
 obtain⟨p0,rfl,hts,-⟩:=w_
 rw[hx,List.length_map]at hts
 rw[show g.terms.length=xs.length by rw[hx,List.length_map]]
 refine Spec.mk Tryz.func194 (by kernel_rfl) ?_
 intro r2 r5
 refine aU (fun z:Nat×Option Nat×Nat×List Value×Mem=>z.1≤xs.length∧μ.Le z.2.2.2.2∧Rows z.2.2.2.2 4 ((((xs.map (T.subst (bT vs))).take z.1).map T.tm).map Tm.d) z.2.2.2.1)
  (fun(i,b,c,ys,μ')=>⟨[(1,.val (.slice vb vs.length vc)),(2,.loc 0 r2 0),(5,.loc 1 r5 0),(12,.val (.slice p0.1.1 xs.length p0.1.2)),(13,.val (.int .i64 xs.length)),(14,.val (.int .i64 i))],[(0,some (.cells r2 [.val (.int .i64 g.kind),.val (.string g.name),.val (.slice p0.1.1 xs.length p0.1.2),.val (.slice p0.2.1 g.goals.length p0.2.2)] 61)),(1,some (.cells r5 [.val (.int .i64 g.kind),.val (.string ⟨#[]⟩),.row 2 b ys.length c,.val (.slice none 0 0)] 61)),(2,some (.row b c 75 4 ys))],3,μ',Mem.nil⟩) (fun z=>xs.length-z.1)
  (0,none,0,[],μ) ⟨Nat.zero_le _,Mem.Le.refl _,.nil⟩ (fun(_,_,_,_,_)=>⟨rfl,rfl⟩) ⟨⟨⟨_,rfl,.inl rfl⟩,⟨_,rfl,.inl rfl⟩,⟨_,rfl,.inl rfl⟩,⟨_,rfl,.inl rfl⟩,⟨_,rfl,.inl rfl⟩,⟨_,rfl,.inl rfl⟩,trivial⟩,⟨.inl rfl,.inr (.inr ⟨_,_,_,_,rfl,rfl,.inl rfl,.inl rfl,.inr ⟨2,rfl,rfl,Nat.le_refl _⟩,.inl rfl,trivial⟩),.inr (.inl ⟨_,_,rfl,Nat.le_refl _⟩),trivial⟩,rfl,rfl⟩ ?_
 rintro⟨i,b,c,ys,μ'⟩ ⟨hi,hle,hrows⟩
 dsimp only at hi hle hrows
 have hlen:=hrows.len
 simp only[List.length_map,List.length_take]at hlen
 refine ifd (fun hlt=>?_) (fun hlt=>?_)
 ·have w_ := aSo (l := xs) (i := i) (by omega)
  obtain⟨x,hx⟩:=w_
  have w_:=T.elemL (hts.mono hle) hx
  obtain⟨ad,p,hel,hr⟩:=w_
  refine eIn hel ?_
  intro r7
  refine cPl (qO (hv.mono hle) hr (hl x (mAt hx))) fun v1 μ1 hle1 hR=>?_
  have w_:=Tm.invV hR
  obtain⟨q1,rfl⟩:=w_
  intro r23
  refine gIn ?_ ?_ fun b' c' _=>?_
  ·show(ys.length+1)*56≤_;omega
  ·exact Nat.le_trans (m:=1000) (show ys.length+1≤_ by omega) (by decide)
  refine aB (by omega) (by omega) ⟨(i+1,b',c',_,μ1),⟨by dsimp only;omega,hle.trans hle1,?_⟩,by dsimp only;omega,⟨⟨rfl,rfl,rfl,rfl,rfl,rfl,trivial⟩,⟨rfl,rfl,rfl,trivial⟩,rfl,rfl⟩⟩
  dsimp only
  rw[nV hx]
  simp only[List.map_append,List.map_cons,List.map_nil]
  exact(hrows.mono hle1).append (Rows.one hR (Tm.d_n _))
 obtain rfl:i=xs.length:=by omega
 rw[List.take_of_length_le (by rw[List.length_map];omega)]at hrows
 refine mX [2] fun μ2 hle2 hno2 hat2=>?_
 have hs:Sl μ2 4 (b.map fun r=>(⟨r,0,none⟩:Addr)) ys.length (((xs.map (T.subst (bT vs))).map T.tm).map Tm.d):=by
  have k:=Rows.sl hat2 (hrows.mono hle2) (Nat.le_trans (m:=1000) (by omega) (by decide))
  have w_:=Rep.sl k
  obtain⟨bz,cz,ez,hs⟩:=w_
  have w_:=Value.slice.inj ez
  obtain⟨e1,e2,_⟩:=w_
  rwa [←e1,←e2]at hs
 refine⟨fun h=>?_,fun h0=>?_⟩
 ·have h := of_decide_eq_true h
  exact rPl (by rw[h];simp[dV])
 replace h0:=of_decide_eq_false h0
 refine ifd (fun h=>?_) (fun h2=>?_)
 ·obtain ⟨x, y, hxy⟩ := tQ (xs := xs.map (T.subst (bT vs))) (by rw [List.length_map]; exact hsl.two (by omega))
  rw[hxy]at hs ⊢
  have w_:=T.elemL hs (i:=0) (x:=x) rfl
  obtain⟨ad1,p1,e1,g1⟩:=w_
  have w_:=T.elemL hs (i:=1) (x:=y) rfl
  obtain⟨ad2,p2,e2,g2⟩:=w_
  refine eIn e1 (eIn e2 (cGv (eU x y g1 g2) (rPl ?_)))
  rw[h];exact congrArg Value.bool (decide_eq_decide.2 testT_2.symm)
 refine ifd (fun h=>?_) (fun h3=>?_)
 ·obtain ⟨x, y, hxy⟩ := tQ (xs := xs.map (T.subst (bT vs))) (by rw [List.length_map]; exact hsl.two (by omega))
  rw[hxy]at hs ⊢
  have w_:=T.elemL hs (i:=0) (x:=x) rfl
  obtain⟨ad1,p1,e1,g1⟩:=w_
  have w_:=T.elemL hs (i:=1) (x:=y) rfl
  obtain⟨ad2,p2,e2,g2⟩:=w_
  refine eIn e1 (eIn e2 (cGv (eU x y g1 g2) (rPl ?_)))
  rw[h,←decide_not];exact congrArg Value.bool (decide_eq_decide.2 testT_3.symm)
 refine ifd (fun h=>?_) (fun h4=>?_)
 ·obtain ⟨x, hxy⟩ := one_of' (xs := xs.map (T.subst (bT vs))) (by rw [List.length_map]; exact hsl.one (by omega))
  rw[hxy]at hs ⊢
  have w_:=T.elemL hs (i:=0) (x:=x) rfl
  obtain⟨ad1,p1,e1,g1⟩:=w_
  refine eIn e1 (rPl ?_)
  rw[h];exact congrArg Value.bool (decide_eq_decide.2 testT_4.symm)
 refine ifd (fun h=>?_) (fun h5=>?_)
 ·obtain ⟨x, hxy⟩ := one_of' (xs := xs.map (T.subst (bT vs))) (by rw [List.length_map]; exact hsl.one (by omega))
  rw[hxy]at hs ⊢
  have w_:=T.elemL hs (i:=0) (x:=x) rfl
  obtain⟨ad1,p1,e1,g1⟩:=w_
  refine eIn e1 (rPl ?_)
  rw[h];exact congrArg Value.bool (decide_eq_decide.2 testT_5.symm)
 refine ifd (fun h=>?_) (fun h6=>?_)
 ·obtain ⟨x, y, hxy⟩ := tQ (xs := xs.map (T.subst (bT vs))) (by rw [List.length_map]; exact hsl.two (by omega))
  rw[hxy]at hs ⊢
  have w_:=T.elemL hs (i:=0) (x:=x) rfl
  obtain⟨ad1,p1,e1,g1⟩:=w_
  have w_:=T.elemL hs (i:=1) (x:=y) rfl
  obtain⟨ad2,p2,e2,g2⟩:=w_
  refine eIn e2 (eIn e1 (cGv (mV x.tm.name y g2) (rPl ?_)))
  rw[h,←decide_not];exact congrArg Value.bool (decide_eq_decide.2 testT_6.symm)
 refine rPl ?_
 rw[decide_eq_false]
 unfold dV
 rw[if_neg h0,if_neg h2,if_neg h3,if_neg h4,if_neg h5,if_neg h6]
 exact id
end
end Go.Vx
namespace Go.Vx
open Go.Proofs Classical
theorem qVm{U vs:List T}{g:Gl}(h:g.kind=9):okG U vs g↔∀a∈(cJ vs g).args,a∈U:=by rw[okG,if_pos h]
theorem qRr{U vs:List T}{g:Gl}(h:g.kind=10):okG U vs g↔∀a∈(cJ vs g.kid).args,a∈U:=by rw[okG,if_neg (by omega),if_pos h]
theorem qBy{U vs xs:List T}{g:Gl}(h9:g.kind≠9)(h10:g.kind≠10)(hx:g.terms=xs.map T.tm):okG U vs g↔dV g.kind (xs.map (T.subst (bT vs))):=by
 rw[okG,if_neg h9,if_neg h10,hx,List.map_map]
 have e:(List.map ((fun t=>T.subst (bT vs) t.toT) ∘ T.tm) xs)=xs.map (T.subst (bT vs)):=List.map_congr_left fun x _=>by simp[T.toT_tm]
 rw[e]
def qJj(L:List (List Gl)):D:= .sl 1 (L.map csD)
theorem qRa(L:List (List Gl)):(qJj L).n=1:=rfl
noncomputable def qGq(r:Rl):List (List Gl):=r.body.cl.getD []
section
variable {μ:Mem}
structure Fill (μ:Mem) (vs:List T) (n k:Nat) (xs:List Value):Prop where
 len:xs.length=n
 done:∀(j:Nat) x,j<k→vs[j]? =some x→∃v,xs[j]? =some v∧RepV μ x.tm.d v
 rest:∀j,k≤j→j<n→xs[j]? =some (.agg #[.int .i64 0,.int .i64 0,.string ⟨#[]⟩,.slice none 0 0])
theorem Fill.start{vs:List T}{n:Nat}:Fill μ vs n 0 (List.replicate n (.agg #[.int .i64 0,.int .i64 0,.string ⟨#[]⟩,.slice none 0 0])):=
 ⟨by simp,fun j x h=>by omega,fun j _ h=>by simp[h]⟩
theorem Fill.step{vs:List T}{n k:Nat}{xs:List Value}(h:Fill μ vs n k xs){x:T}{v:Value}(hx:vs[k]? =some x)(hv:RepV μ x.tm.d v)(hk:k<n):Fill μ vs n (k+1) (xs.set k v):=by
 refine⟨by rw[List.length_set];exact h.len,fun j y hj hy=>?_,fun j hj hn=>?_⟩
 ·by_cases e : j = k
  ·subst e
   rw[hx]at hy;cases hy
   exact⟨v,by rw[List.getElem?_set_self (by rw[h.len];exact hk)],hv⟩
  ·have w_ := h.done j y (by omega) hy
   obtain⟨w,h1,h2⟩:=w_
   exact⟨w,by rw[List.getElem?_set_ne (Ne.symm e)];exact h1,h2⟩
 ·rw[List.getElem?_set_ne (by omega)];exact h.rest j (by omega) hn
theorem RowAt.up{μ':Mem}{b:Option Nat}{k es:Nat}{ys:List Value}(h:RowAt μ b k es ys)(hle:μ.Le μ'):RowAt μ' b k es ys:=by
 cases b with
 |none=>exact h
 |some r=>
  obtain⟨h1,h2,arr,ty,h3,h4⟩:=h
  exact⟨h1,h2,arr,ty,hle _ _ h3,h4⟩
theorem Rows.of_at{es:Nat}:∀{ds:List D} {xs:List Value},ds.length=xs.length→(∀(j:Nat) d v,ds[j]? =some d→xs[j]? =some v→RepV μ d v∧d.n=es)→Rows μ es ds xs
 |[],[],_,_=> .nil
 |[],_::_,h,_=>by simp at h
 |_::_,[],h,_=>by simp at h
 |d::ds,x::xs,h,k=> .cons (k 0 d x rfl rfl).1 (k 0 d x rfl rfl).2 (Rows.of_at (by simpa using h) fun j d v h1 h2=>k (j+1) d v (by simpa using h1) (by simpa using h2))
theorem Fill.all{vs:List T}{n:Nat}{xs:List Value}(h:Fill μ vs n n xs)(hl:vs.length=n):Rows μ 4 ((vs.map T.tm).map Tm.d) xs:=
 Rows.of_at (by simp[h.len,hl]) fun j d v h1 h2=>by
  simp only[List.getElem?_map,Option.map_eq_some_iff]at h1
  obtain⟨t,⟨x,hx,rfl⟩,rfl⟩:=h1
  obtain⟨w,h3,h4⟩:=h.done j x (by have:=(List.getElem?_eq_some_iff.1 hx).1;omega) hx
  rw[h2]at h3
  cases h3
  exact⟨h4,Tm.d_n _⟩
set_option maxHeartbeats 16000000 in
set_option maxRecDepth 20000 in
theorem rW{p:Pg}{U:List T}{v:Value}{ub:Option Addr}{uc:Nat}(hp:RepV μ p.d v)(hok:p.Ok)(hu:Sl μ 4 ub U.length ((U.map T.tm).map Tm.d))(hU1:1≤U.length)(hU8:U.length≤8):
  Spec Tryz.prog 130 [v,.slice ub U.length uc] μ fun v μ'=>qDo (fun y tv=>RepV μ' (.sl 6 ((y.map Ru.rd).map RuD.d)) tv) (cI p U) v:=by
 have hp0:=hp
 have w_:=Pg.inv hp
 obtain⟨q,rfl,hrl⟩:=w_
 have hn:=hok.1
 refine Spec.mk Tryz.func130 (by kernel_rfl) ?_
 intro r2 r28
 refine lIn (fun z:Nat×Option Nat×Nat×List Value×Mem=>z.1≤p.rels.length∧μ.Le z.2.2.2.2∧Rows z.2.2.2.2 1 (((p.rels.take z.1).map qGq).map qJj) z.2.2.2.1∧∀r∈p.rels.take z.1,r.body.cl≠none∧U.length ^ (r.arity+r.locals).toNat≤4096)
  (fun(i,b,c,ys,μ')=>⟨[(1,.val (.slice ub U.length uc)),(2,.loc 0 r2 0),(6,.row 1 b ys.length c),(30,.val (.slice q.1 p.rels.length q.2)),(31,.val (.int .i64 p.rels.length)),(32,.val (.int .i64 i))],[(0,some (.cells r2 [.val (.slice q.1 p.rels.length q.2)] 25)),(1,some (.row b c 118 1 ys))],2,μ',Mem.nil⟩) (fun z=>p.rels.length-z.1)
  (0,some r28,0,[],μ) ⟨Nat.zero_le _,Mem.Le.refl _,.nil,by simp⟩ (fun(_,_,_,_,_)=>⟨rfl,rfl⟩) ⟨⟨rfl,rfl,rfl,rfl,rfl,rfl,trivial⟩,⟨rfl,rfl,trivial⟩,rfl,rfl⟩ ?_
 rintro⟨i,b,c,ys,μ'⟩ ⟨hi,hle,hbod,hways⟩
 dsimp only at hi hle hbod hways
 have hbl:=hbod.len
 simp only[List.length_map,List.length_take]at hbl
 refine ifd (fun hlt=>?_) (fun hlt=>?_)
 ·have w_ := aSo (l := p.rels) (i := i) (by omega)
  obtain⟨r,hr⟩:=w_
  have w_:=Rl.elemA (hrl.mono hle) hr
  obtain⟨ad,q2,hel,hrv,hb⟩:=w_
  have hb:RepV μ' r.body.d (.agg (r.body.cs q2).toArray):=hb
  have hrok:=hok.2 i r hr
  have w_:=Int.eq_ofNat_of_zero_le hrok.ar0
  obtain⟨a,ha⟩:=w_
  have w_:=Int.eq_ofNat_of_zero_le hrok.lo0
  obtain⟨lo,hlo⟩:=w_
  have har4:=hrok.ar4
  have hlo8:=hrok.lo8
  have hsz:=hrok.size
  have hnn:(r.arity+r.locals).toNat=a+lo:=by omega
  refine eIn hel ?_
  intro r8
  refine cPl (gF r.body hb hrok.body (by omega)) fun v3 μ3 hle3 hR3=>?_
  cases hL:r.body.cl with
  |none=>
   rw[hL]at hR3
   obtain rfl:=hR3
   refine iIn (fun _=>rPl ?_) (fun h=>nomatch h)
   rw[cI,if_neg fun k=>(k.1 r (mAt hr)).1 hL];rfl
  |some L=>
  rw[hL]at hR3
  obtain⟨tv,rfl,hLr⟩:=hR3
  obtain⟨pv,rfl⟩:=hLr.inv
  refine iIn (fun h=>nomatch h) (fun _=>?_)
  refine nEq (x:=((a+lo:Nat):Int)) (by rw[aA (by omega) (by omega)];omega) ?_
  refine cPl (zI (size:=U.length) (n:=a+lo) (most:=4096) hU1 hU8 (by omega) (by omega) (by omega)) fun v4 μ4 hle4 hR4=>?_
  obtain⟨⟨W,rfl,hW1,hW2⟩,e4⟩:=hR4
  obtain rfl:=e4.symm
  refine ifd (fun hbig=>rPl ?_) (fun hsmall=>?_)
  ·rw[cI,if_neg fun k=>by
    have h1:=(k.1 r (mAt hr)).2
    rw[hnn]at h1
    have:=hW1 h1
    omega];rfl
  have hWle:U.length ^ (a+lo)≤4096:=Nat.le_of_not_lt fun h=>by have:=hW2 h;omega
  intro r57
  refine gIn ?_ ?_ fun b' c' _=>?_
  ·show(ys.length+1)*24≤_;omega
  ·exact Nat.le_trans (m:=1000) (show ys.length+1≤_ by omega) (by decide)
  have hLr2:RepV μ3 (qJj L) (.slice pv.1 L.length pv.2):=hLr
  have hcl:qGq r=L:=by rw[qGq,hL];rfl
  refine aB (by omega) (by omega) ⟨(i+1,b',c',_,μ3),⟨by dsimp only;omega,hle.trans hle3,?_,?_⟩,by dsimp only;omega,⟨⟨rfl,rfl,rfl,rfl,rfl,rfl,trivial⟩,⟨rfl,rfl,trivial⟩,rfl,rfl⟩⟩
  ·dsimp only
   rw[List.take_add_one,hr,Option.toList_some,List.map_append,List.map_append]
   refine(hbod.mono hle3).append (Rows.one (d:=qJj (qGq r)) ?_ (qRa _))
   rw[hcl];exact hLr2
  ·dsimp only
   intro x hx
   rw[List.take_add_one,hr,Option.toList_some]at hx
   rcases List.mem_append.1 hx with hx|hx
   ·exact hways x hx
   ·rw [List.mem_singleton.1 hx, hL, hnn]
    exact⟨(fun h=>nomatch h),hWle⟩
 obtain rfl:i=p.rels.length:=by omega
 rw[List.take_length]at hbod hways
 clear hlt hi
 intro r60
 refine lIn (fun z:Nat×Option Nat×Nat×List Value×Mem=>z.1≤p.rels.length∧μ'.Le z.2.2.2.2∧Rows z.2.2.2.2 6 ((((p.rels.take z.1).flatMap (cD U)).map Ru.rd).map RuD.d) z.2.2.2.1∧((p.rels.take z.1).flatMap (cD U)).length≤2000)
  (fun(i,ob,oc,os,μ2)=>⟨[(1,.val (.slice ub U.length uc)),(6,.row 1 b ys.length c),(11,.row 2 ob os.length oc),(62,.val (.slice q.1 p.rels.length q.2)),(63,.val (.int .i64 p.rels.length)),(64,.val (.int .i64 i))],[(1,some (.row b c 118 1 ys)),(2,some (.row ob oc 106 6 os))],3,μ2,Mem.nil⟩) (fun z=>p.rels.length-z.1)
  (0,some r60,0,[],μ') ⟨Nat.zero_le _,Mem.Le.refl _,.nil,by simp⟩ (fun(_,_,_,_,_)=>⟨rfl,rfl⟩) ⟨⟨rfl,rfl,rfl,rfl,rfl,rfl,trivial⟩,⟨rfl,rfl,trivial⟩,rfl,rfl⟩ ?_
 rintro⟨i,ob,oc,os,μ2⟩ ⟨hi,hle2,hrows,hroom⟩
 dsimp only at hi hle2 hrows hroom
 have hol:=hrows.len
 simp only[List.length_map]at hol
 refine ifd (fun hlt=>?_) (fun hlt=>?_)
 rotate_left
 ·obtain rfl : i = p.rels.length := by omega
  rw[List.take_length]at hrows hroom hol
  have hall:(p.rels.flatMap (cD U))=cC p U:=rfl
  rw[hall]at hrows hroom hol
  rw[cI,if_pos ⟨hways,hroom⟩]
  refine rFz [2] fun μ3 hle3 hno hat=> .inl ⟨_,rfl,?_⟩
  exact Rows.sl hat (hrows.mono hle3) (Nat.le_trans (m:=100000) (by omega) (by decide))
 have w_:=aSo (l:=p.rels) (i:=i) (by omega)
 obtain⟨r,hr⟩:=w_
 have w_:=Rl.elemA ((hrl.mono hle).mono hle2) hr
 obtain⟨ad,q2,hel,hrv,_⟩:=w_
 have hrok:=hok.2 i r hr
 have w_:=Int.eq_ofNat_of_zero_le hrok.ar0
 obtain⟨a,ha⟩:=w_
 have w_:=Int.eq_ofNat_of_zero_le hrok.lo0
 obtain⟨lo,hlo⟩:=w_
 have har4:=hrok.ar4
 have hlo8:=hrok.lo8
 have hsz:=hrok.size
 have hnn:(r.arity+r.locals).toNat=a+lo:=by omega
 have w_:=Option.ne_none_iff_exists'.1 (hways r (mAt hr)).1
 obtain⟨L,hL⟩:=w_
 have hWle:=(hways r (mAt hr)).2
 rw[hnn]at hWle
 have hclr:qGq r=L:=by rw[qGq,hL];rfl
 have hLb:=Gl.cl_bnd r.body hL
 have w_:=aSo (l:=ys) (i:=i) (by omega)
 obtain⟨vL,hvL⟩:=w_
 have hLrep:=Rows.atI hbod (i:=i) (d:=qJj L) (by simp[hr,hclr]) hvL
 have w_:=Rep.sl (xs:=L.map csD) hLrep
 obtain⟨bL,cL,rfl,_⟩:=w_
 rw[List.length_map]at hvL hLrep
 have hLs:Sl μ' 1 bL L.length (L.map csD):=(Cls.sl hLrep).1
 obtain⟨pv,hpv⟩:∃pv:Option Addr×Nat,pv=(bL,cL):=⟨_,rfl⟩
 rw[show bL=pv.1 by rw[hpv]]at hvL hLs
 rw[show cL=pv.2 by rw[hpv]]at hvL
 clear hpv hLrep
 refine eIn hel ?_
 intro r13
 refine nEq (x:=((a+lo:Nat):Int)) (by rw[aA (by omega) (by omega)];omega) ?_
 refine cPl (zI (size:=U.length) (n:=a+lo) (most:=4096) hU1 hU8 (by omega) (by omega) (by omega)) fun v4 μ4 hle4 hR4=>?_
 obtain⟨⟨W,rfl,hW1,_⟩,e4⟩:=hR4
 obtain rfl:=e4.symm
 have w_:=hW1 hWle
 obtain rfl:=w_
 refine aX i rfl (by omega) ?_
 refine aW _ hvL ?_
 generalize hpre:(p.rels.take i).flatMap (cD U)=pre at*
 have hP:∀k w cl,L[k]? =some cl→w≤U.length ^ (a+lo)→2000<(pre++aY U r L k++bI U r k cl w).length→∀μx:Mem,qDo (fun y tv=>RepV μx (.sl 6 ((y.map Ru.rd).map RuD.d)) tv) (cI p U) (.tuple #[.slice none 0 0,.bool false]):=fun k w cl hcl hw hbig μx=>by
  rw[cI,if_neg fun kk=>?_];rfl
  have h1:(cC p U).length≥((p.rels.take (i+1)).flatMap (cD U)).length:=by
   conv=>lhs;rw[cC,←List.take_append_drop (i+1) p.rels]
   rw[List.flatMap_append,List.length_append];omega
  have h2:cD U r=aY U r L L.length:=by rw[cD,hL]
  have h3:∀m,k+1+m≤L.length→(aY U r L (k+1)).length≤(aY U r L (k+1+m)).length:=fun m=>by
   induction m with
   |zero=>intro _;exact Nat.le_refl _
   |succ m ih=>
    intro hm
    have w_:=aSo (l:=L) (i:=k+1+m) (by omega)
    obtain⟨c2,hc2⟩:=w_
    rw[show k+1+(m+1)=k+1+m+1 by omega,jH hc2,List.length_append]
    have:=ih (by omega)
    omega
  have hkl:=(List.getElem?_eq_some_iff.1 hcl).1
  have h4:=h3 (L.length-(k+1)) (by omega)
  rw[show k+1+(L.length-(k+1))=L.length by omega,jH hcl,hnn]at h4
  have w_:=iB (U:=U) (r:=r) (i:=k) (c:=cl) (w:=w) (U.length ^ (a+lo)-w)
  obtain⟨X,hX⟩:=w_
  rw[show w+(U.length ^ (a+lo)-w)=U.length ^ (a+lo) by omega]at hX
  rw[hX]at h4
  rw[jI hr,hpre,h2,List.length_append]at h1
  simp only[List.length_append]at h4 hbig
  have:=kk.2
  omega
 refine lIn (fun z:Nat×Option Nat×Nat×List Value×Mem=>z.1≤L.length∧μ2.Le z.2.2.2.2∧Rows z.2.2.2.2 6 (((pre++aY U r L z.1).map Ru.rd).map RuD.d) z.2.2.2.1∧(pre++aY U r L z.1).length≤2000)
  (fun(k,ob,oc,os,μ5)=>⟨[(1,.val (.slice ub U.length uc)),(6,.row 1 b ys.length c),(11,.row 2 ob os.length oc),(13,.loc 3 r13 0),(14,.val (.int .i64 ((a+lo:Nat):Int))),(15,.val (.int .i64 ((U.length ^ (a+lo):Nat):Int))),(62,.val (.slice q.1 p.rels.length q.2)),(63,.val (.int .i64 p.rels.length)),(64,.val (.int .i64 i)),(81,.val (.slice pv.1 L.length pv.2)),(82,.val (.int .i64 L.length)),(83,.val (.int .i64 k))],[(1,some (.row b c 118 1 ys)),(2,some (.row ob oc 106 6 os)),(3,some (.cells r13 [.val (.string r.name),.val (.int .i64 r.arity),.val (.int .i64 r.locals),.val (.int .i64 r.body.kind),.val (.string r.body.name),.val (.slice q2.1.1 r.body.terms.length q2.1.2),.val (.slice q2.2.1 r.body.goals.length q2.2.2)] 63))],4,μ5,Mem.nil⟩) (fun z=>L.length-z.1)
  (0,ob,oc,os,μ2) ⟨Nat.zero_le _,Mem.Le.refl _,by simpa[aY]using hrows,by simpa[aY]using hroom⟩ (fun(_,_,_,_,_)=>⟨rfl,rfl⟩) ⟨⟨rfl,rfl,rfl,rfl,rfl,rfl,rfl,rfl,rfl,rfl,rfl,rfl,trivial⟩,⟨rfl,rfl,rfl,trivial⟩,rfl,rfl⟩ ?_
 clear hrows hroom hol
 rintro⟨k,ob,oc,os,μ5⟩ ⟨hk,hle5,hrows,hroom⟩
 dsimp only at hk hle5 hrows hroom
 refine ifd (fun hltk=>?_) (fun hltk=>?_)
 rotate_left
 ·obtain rfl : k = L.length := by omega
  have e:cD U r=aY U r L L.length:=by rw[cD,hL]
  refine aB (by omega) (by omega) ⟨(i+1,ob,oc,os,μ5),⟨by dsimp only;omega,hle2.trans hle5,?_,?_⟩,by dsimp only;omega,⟨⟨rfl,rfl,rfl,rfl,rfl,rfl,trivial⟩,⟨rfl,rfl,trivial⟩,rfl,rfl⟩⟩
  ·dsimp only
   rw[jI hr,hpre,e];exact hrows
  ·dsimp only
   rw[jI hr,hpre,e];exact hroom
 have w_:=aSo (l:=L) (i:=k) (by omega)
 obtain⟨cl,hcl⟩:=w_
 have w_:=cF ((hLs.mono hle2).mono hle5) hcl
 obtain⟨adc,pc,helc,hrc⟩:=w_
 have hcs:Sl μ5 4 pc.1 cl.length (cl.map Gl.d):=by
  have w_:=Rep.sl (xs:=cl.map Gl.d) hrc
  obtain⟨b',c',e1,hs⟩:=w_
  have w_:=Value.slice.inj e1
  obtain⟨rfl,_,_⟩:=w_
  simpa using hs
 have hcb:=hLb.1 cl (mAt hcl)
 have hsucc:=jH (U:=U) (r:=r) hcl
 rw[hnn]at hsucc
 refine eIn helc ?_
 refine lFz (fun z:Nat×Option Nat×Nat×List Value×Mem=>z.1≤U.length ^ (a+lo)∧μ5.Le z.2.2.2.2∧Rows z.2.2.2.2 6 (((pre++aY U r L k++bI U r k cl z.1).map Ru.rd).map RuD.d) z.2.2.2.1∧(pre++aY U r L k++bI U r k cl z.1).length≤2000)
  (fun(w,ob,oc,os,μ6)=>⟨[(1,.val (.slice ub U.length uc)),(6,.row 1 b ys.length c),(11,.row 2 ob os.length oc),(13,.loc 3 r13 0),(14,.val (.int .i64 ((a+lo:Nat):Int))),(15,.val (.int .i64 ((U.length ^ (a+lo):Nat):Int))),(16,.val (.int .i64 k)),(17,.val (.slice pc.1 cl.length pc.2)),(18,.val (.int .i64 (w:Nat))),(62,.val (.slice q.1 p.rels.length q.2)),(63,.val (.int .i64 p.rels.length)),(64,.val (.int .i64 i)),(81,.val (.slice pv.1 L.length pv.2)),(82,.val (.int .i64 L.length)),(83,.val (.int .i64 k))],[(1,some (.row b c 118 1 ys)),(2,some (.row ob oc 106 6 os)),(3,some (.cells r13 [.val (.string r.name),.val (.int .i64 r.arity),.val (.int .i64 r.locals),.val (.int .i64 r.body.kind),.val (.string r.body.name),.val (.slice q2.1.1 r.body.terms.length q2.1.2),.val (.slice q2.2.1 r.body.goals.length q2.2.2)] 63))],4,μ6,Mem.nil⟩) (fun z=>U.length ^ (a+lo)-z.1) []
  (fun(_,_,_,_,_)=>⟨rfl,rfl⟩) ⟨(0,ob,oc,os,μ5),⟨Nat.zero_le _,Mem.Le.refl _,by simpa[bI]using hrows,by simpa[bI]using hroom⟩,⟨⟨rfl,rfl,rfl,rfl,rfl,rfl,rfl,rfl,rfl,rfl,rfl,rfl,rfl,rfl,rfl,trivial⟩,⟨rfl,rfl,rfl,trivial⟩,rfl,rfl⟩⟩ ?_
 clear hrows hroom
 rintro⟨w,ob,oc,os,μ6⟩ ⟨hw6,hle6,hrows,hroom⟩
 dsimp only at hw6 hle6 hrows hroom
 have hol:=hrows.len
 simp only[List.length_map]at hol
 refine ifd (fun hltw=>?_) (fun hltw=>?_)
 rotate_left
 ·obtain rfl : w = U.length ^ (a + lo) := by omega
  refine aB (by omega) (by omega) ⟨(k+1,ob,oc,os,μ6),⟨by dsimp only;omega,hle5.trans hle6,?_,?_⟩,by dsimp only;omega,⟨⟨rfl,rfl,rfl,rfl,rfl,rfl,rfl,rfl,rfl,rfl,rfl,rfl,trivial⟩,⟨rfl,rfl,rfl,trivial⟩,rfl,rfl⟩⟩
  ·dsimp only
   rw[hsucc,←List.append_assoc];exact hrows
  ·dsimp only
   rw[hsucc,←List.append_assoc];exact hroom
 have hdl:=gG U (a+lo) w
 generalize hvs:dR U (a+lo) w=vs at*
 have hu6:=((((hu.mono hle).mono hle2).mono hle5).mono hle6)
 refine qEd (a+lo) rfl rfl (by simp only;omega) (Nat.le_trans (m:=1000) (by omega) (by decide)) ?_
 intro r94
 refine lIn (fun z:Nat×List Value=>z.1≤a+lo∧Fill μ6 vs (a+lo) z.1 z.2)
  (fun(j,xs)=>⟨[(1,.val (.slice ub U.length uc)),(6,.row 1 b ys.length c),(11,.row 2 ob os.length oc),(13,.loc 3 r13 0),(14,.val (.int .i64 ((a+lo:Nat):Int))),(15,.val (.int .i64 ((U.length ^ (a+lo):Nat):Int))),(16,.val (.int .i64 k)),(17,.val (.slice pc.1 cl.length pc.2)),(18,.val (.int .i64 (w:Nat))),(19,.row 4 (some r94) (a+lo) (a+lo)),(20,.val (.int .i64 ((w / U.length ^ j:Nat):Int))),(21,.val (.int .i64 j)),(62,.val (.slice q.1 p.rels.length q.2)),(63,.val (.int .i64 p.rels.length)),(64,.val (.int .i64 i)),(81,.val (.slice pv.1 L.length pv.2)),(82,.val (.int .i64 L.length)),(83,.val (.int .i64 k))],[(1,some (.row b c 118 1 ys)),(2,some (.row ob oc 106 6 os)),(3,some (.cells r13 [.val (.string r.name),.val (.int .i64 r.arity),.val (.int .i64 r.locals),.val (.int .i64 r.body.kind),.val (.string r.body.name),.val (.slice q2.1.1 r.body.terms.length q2.1.2),.val (.slice q2.2.1 r.body.goals.length q2.2.2)] 63)),(4,some (.row (some r94) (a+lo) 75 4 xs))],5,μ6,Mem.nil⟩) (fun z=>a+lo-z.1)
  (0,_) ⟨Nat.zero_le _,Fill.start⟩ (fun(_,_)=>⟨rfl,rfl⟩) ⟨⟨rfl,rfl,rfl,rfl,rfl,rfl,rfl,rfl,rfl,rfl,by rw[Nat.pow_zero,Nat.div_one];rfl,rfl,rfl,rfl,rfl,rfl,rfl,rfl,trivial⟩,⟨rfl,rfl,rfl,rfl,trivial⟩,rfl,rfl⟩ ?_
 rintro⟨j,xs⟩ ⟨hj,hfill⟩
 dsimp only at hj hfill
 have hxl:=hfill.len
 have hdw:w / U.length ^ j≤w:=Nat.div_le_self _ _
 refine ifd (fun hltj=>?_) (fun hltj=>?_)
 ·refine aC (by omega) ?_
  refine nEq (x:=((w / U.length ^ j % U.length:Nat):Int)) rfl ?_
  have w_:=uO hu6 (by omega) (w / U.length ^ j)
  obtain⟨ad2,p2,hel2,hr2⟩:=w_
  refine eIn hel2 ?_
  refine aX j rfl (by omega) ?_
  refine aW _ (hfill.rest j (by omega) (by omega)) ?_
  refine aC (by omega) ?_
  refine nEq (x:=((w / U.length ^ (j+1):Nat):Int)) ?_ ?_
  ·have e : w / U.length ^ (j + 1) = w / U.length ^ j / U.length := by rw [Nat.pow_succ, Nat.div_div_eq_div_mul]
   rw[e]
   have hd2:w / U.length ^ j / U.length≤w / U.length ^ j:=Nat.div_le_self _ _
   show IntKind.i64.wrap ((w / U.length ^ j / U.length:Nat):Int)=_
   generalize w / U.length ^ j / U.length=m at hd2 ⊢
   exact aA (by omega) (by omega)
  have hg:=qT U j (a+lo) w (by omega)
  rw[hvs]at hg
  exact aB (by omega) (by omega) ⟨(j+1,_),⟨by dsimp only;omega,hfill.step hg hr2 (by omega)⟩,by dsimp only;omega,⟨⟨rfl,rfl,rfl,rfl,rfl,rfl,rfl,rfl,rfl,rfl,rfl,rfl,rfl,rfl,rfl,rfl,rfl,rfl,trivial⟩,⟨rfl,rfl,rfl,rfl,trivial⟩,rfl,rfl⟩⟩
 obtain rfl:j=a+lo:=by omega
 have hvrows:=hfill.all hdl
 refine aG 0 a rfl ha (Nat.zero_le _) (by omega) ?_
 intro r22
 refine uQ (fun z:Nat×Bool×(Option Nat×Nat×List Value)×(Option Nat×Nat×List Value)×Mem=>z.1≤cl.length∧μ6.Le z.2.2.2.2∧RowAt z.2.2.2.2 (some r94) (a+lo) 4 xs∧Rows z.2.2.2.2 2 (((bQ vs (cl.take z.1)).map F.fc).map Fc.d) z.2.2.1.2.2∧Rows z.2.2.2.2 2 (((iU vs (cl.take z.1)).map F.fc).map Fc.d) z.2.2.2.1.2.2∧(z.2.1=true↔∀g∈cl.take z.1,okG U vs g))
  (fun(m,f,(pb,pc2,ps),(nb,nc,ns),μ7)=>⟨[(1,.val (.slice ub U.length uc)),(6,.row 1 b ys.length c),(11,.row 2 ob os.length oc),(13,.loc 3 r13 0),(14,.val (.int .i64 ((a+lo:Nat):Int))),(15,.val (.int .i64 ((U.length ^ (a+lo):Nat):Int))),(16,.val (.int .i64 k)),(17,.val (.slice pc.1 cl.length pc.2)),(18,.val (.int .i64 (w:Nat))),(19,.val (.slice (some ⟨r94,0,none⟩) (a+lo) (a+lo))),(22,.loc 5 r22 0),(23,.val (.bool f)),(62,.val (.slice q.1 p.rels.length q.2)),(63,.val (.int .i64 p.rels.length)),(64,.val (.int .i64 i)),(81,.val (.slice pv.1 L.length pv.2)),(82,.val (.int .i64 L.length)),(83,.val (.int .i64 k)),(125,.val (.slice pc.1 cl.length pc.2)),(126,.val (.int .i64 cl.length)),(127,.val (.int .i64 m))],[(1,some (.row b c 118 1 ys)),(2,some (.row ob oc 106 6 os)),(3,some (.cells r13 [.val (.string r.name),.val (.int .i64 r.arity),.val (.int .i64 r.locals),.val (.int .i64 r.body.kind),.val (.string r.body.name),.val (.slice q2.1.1 r.body.terms.length q2.1.2),.val (.slice q2.2.1 r.body.goals.length q2.2.2)] 63)),(5,some (.cells r22 [.val (.string r.name),.val (.slice (if a+lo=0 then((some r94).map fun r=>(⟨r,0,none⟩:Addr))else((some r94).map fun r=>(⟨r,0,none⟩:Addr)).map (·.add (0*4))) (a-0) (a+lo-0)),.val (.int .i64 k),.val (.slice (some ⟨r94,0,none⟩) (a+lo) (a+lo)),.row 6 pb ps.length pc2,.row 7 nb ns.length nc] 106)),(6,some (.row pb pc2 41 2 ps)),(7,some (.row nb nc 41 2 ns))],8,μ7,Mem.nil⟩) (fun z=>cl.length-z.1) [4]
  (fun(_,_,(_,_,_),(_,_,_),_)=>⟨rfl,rfl⟩) ?_ ?_
 ·intro μv hlev hnov hatv
  refine⟨(0,true,(none,0,[]),(none,0,[]),μv),⟨Nat.zero_le _,hlev,hatv,.nil,.nil,by simp⟩,?_⟩
  exact⟨⟨⟨_,rfl,.inl rfl⟩,⟨_,rfl,.inl rfl⟩,⟨_,rfl,.inl rfl⟩,⟨_,rfl,.inl rfl⟩,⟨_,rfl,.inl rfl⟩,⟨_,rfl,.inl rfl⟩,⟨_,rfl,.inl rfl⟩,⟨_,rfl,.inl rfl⟩,⟨_,rfl,.inl rfl⟩,⟨_,rfl,.inl rfl⟩,⟨_,rfl,.inl rfl⟩,⟨_,rfl,.inl rfl⟩,⟨_,rfl,.inl rfl⟩,⟨_,rfl,.inl rfl⟩,⟨_,rfl,.inl rfl⟩,⟨_,rfl,.inl rfl⟩,⟨_,rfl,.inl rfl⟩,⟨_,rfl,.inl rfl⟩,⟨_,rfl,.inl rfl⟩,⟨_,rfl,.inl rfl⟩,⟨_,rfl,.inl rfl⟩,trivial⟩,⟨.inl rfl,.inl rfl,.inl rfl,.inr (.inr ⟨_,_,_,_,rfl,rfl,.inl rfl,.inl rfl,.inl rfl,.inl rfl,.inr ⟨6,rfl,rfl,Nat.le_refl _⟩,.inr ⟨7,rfl,rfl,Nat.le_succ 6⟩,trivial⟩),.inr (.inl ⟨_,_,rfl,Nat.le_refl _⟩),.inr (.inl ⟨_,_,rfl,Nat.le_succ 6⟩),trivial⟩,rfl,rfl⟩
 rintro⟨m,f,⟨pb,pc2,ps⟩,⟨nb,nc,ns⟩,μ7⟩ ⟨hm,hle7,hat7,hps,hns,hf⟩
 dsimp only at hm hle7 hat7 hps hns hf
 have hpl:=hps.len
 have hnl:=hns.len
 have hpf:=uJ (vs:=vs) (c:=cl.take m)
 have hnf:=qCz (vs:=vs) (c:=cl.take m)
 rw[List.length_take]at hpf hnf
 simp only[List.length_map]at hpl hnl
 have hnext:=kN U r k cl w
 have skipE:¬(∀g∈cl,okG U vs g)→bI U r k cl (w+1)=bI U r k cl w:=fun h=>by rw[hnext,dY,hnn,hvs,if_neg h,Option.toList_none,List.append_nil]
 have skip:¬(∀g∈cl,okG U vs g)→∀μ8,μ7.Le μ8→Rows μ8 6 (((pre++aY U r L k++bI U r k cl (w+1)).map Ru.rd).map RuD.d) os:=fun h μ8 h8=>by
  rw[skipE h];exact(hrows.mono hle7).mono h8
 have skipL:¬(∀g∈cl,okG U vs g)→(pre++aY U r L k++bI U r k cl (w+1)).length≤2000:=fun h=>by rw[skipE h];exact hroom
 refine ifd (fun hltm=>?_) (fun hltm=>?_)
 rotate_left
 ·obtain rfl : m = cl.length := by omega
  rw[List.take_length]at hf hps hns
  refine iIn (fun hb=>?_) (fun hb=>?_)
  ·have hOk := hf.1 hb
   have hat1:dY U r k cl w=some (dZ r k cl vs):=by rw[dY,hnn,hvs,if_pos hOk]
   intro r177
   refine gIn ?_ ?_ fun b' c' _=>?_
   ·show(os.length+1)*120≤_;omega
   ·exact Nat.le_trans (m:=100000) (show os.length+1≤_ by omega) (by decide)
   have hnew:(pre++aY U r L k++bI U r k cl (w+1)).length=os.length+1:=by
    rw[hnext,hat1,Option.toList_some,←List.append_assoc,List.length_append,List.length_singleton];omega
   refine ifd (fun hbig=>?_) (fun hbig=>?_)
   ·rw [List.length_append, List.length_singleton] at hbig
    exact rPl (hP k (w+1) cl hcl (by omega) (by omega) _)
   rw[List.length_append,List.length_singleton]at hbig
   refine aB (by omega) (by omega) ⟨[6,7],fun μ8 hle8 hno8 hat8 μ9 hle9 hno9 hat9=>⟨(w+1,b',c',_,μ9),⟨by dsimp only;omega,((hle6.trans hle7).trans hle8).trans hle9,?_,by dsimp only;omega⟩,by dsimp only;omega,⟨⟨rfl,rfl,rfl,rfl,rfl,rfl,rfl,rfl,rfl,rfl,rfl,rfl,rfl,rfl,rfl,trivial⟩,⟨rfl,rfl,rfl,trivial⟩,rfl,rfl⟩⟩⟩
   dsimp only
   rw[hnext,hat1,Option.toList_some,←List.append_assoc,List.map_append,List.map_append]
   refine(((hrows.mono hle7).mono hle8).mono hle9).append (Rows.one ?_ (RuD.d_n _))
   have hmax:(1000:Nat)≤maxLen:=by decide
   have hvr:=(hvrows.mono hle7)
   have k1:=qGw hat7 hvr (a:=a) (by omega) (by omega)
   have k2:=Rows.sl hat7 hvr (Nat.le_trans (m:=1000) (by omega) hmax)
   have k3:=Rows.sl hat8 (hps.mono hle8) (Nat.le_trans (m:=1000) (by omega) hmax)
   have k4:=Rows.sl hat9 ((hns.mono hle8).mono hle9) (Nat.le_trans (m:=1000) (by omega) hmax)
   rw[hxl]at k2
   rw[RuD.d_eq]
   have ea:r.arity.toNat=a:=by omega
   show RepV μ9 (.st [.s r.name,.sl 4 (((vs.take r.arity.toNat).map T.tm).map Tm.d),.i (k:Int),.sl 4 ((vs.map T.tm).map Tm.d),.sl 2 (((bQ vs cl).map F.fc).map Fc.d),.sl 2 (((iU vs cl).map F.fc).map Fc.d)]) _
   rw[ea]
   exact⟨_,rfl,RepS.str (RepS.cons1 ((k1.mono hle8).mono hle9) (RepS.int (RepS.cons1 ((k2.mono hle8).mono hle9) (RepS.cons1 (k3.mono hle9) (RepS.last k4)))))⟩
  ·have hno : ¬ ∀ g ∈ cl, okG U vs g := fun h => by rw [hf.2 h] at hb; cases hb
   refine ifd (fun h=>by omega) (fun _=>?_)
   exact aB (by omega) (by omega) ⟨[],(w+1,ob,oc,os,μ7),⟨by dsimp only;omega,hle6.trans hle7,skip hno μ7 (Mem.Le.refl _),skipL hno⟩,by dsimp only;omega,⟨⟨rfl,rfl,rfl,rfl,rfl,rfl,rfl,rfl,rfl,rfl,rfl,rfl,rfl,rfl,rfl,trivial⟩,⟨rfl,rfl,rfl,trivial⟩,rfl,rfl⟩⟩
 have w_:=aSo (l:=cl) (i:=m) (by omega)
 obtain⟨g,hg⟩:=w_
 have w_:=Gl.elem (((hcs.mono hle6).mono hle7)) hg
 obtain⟨adg,pg,helg,hrg⟩:=w_
 have hG:=ClG.of hok hr hL (mAt hcl) (mAt hg)
 have w_:=ClV.of hok hr hL (mAt hcl) (mAt hg) (n:=a+lo) (by omega)
 obtain⟨⟨gx,hgx⟩,hkx⟩:=w_
 refine eIn helg ?_
 intro r25
 refine iIn (fun hb=>?_) (fun hb=>?_)
 ·have hb : f = false := by simpa using hb
  subst hb
  have hno:¬∀g∈cl,okG U vs g:=fun h=>by
   have:=hf.2 fun x hx=>h x (List.mem_of_mem_take hx)
   cases this
  refine iIn (fun h=>nomatch h) (fun _=>?_)
  refine ifd (fun h=>by omega) (fun _=>?_)
  exact aB (by omega) (by omega) ⟨[],(w+1,ob,oc,os,μ7),⟨by dsimp only;omega,hle6.trans hle7,skip hno μ7 (Mem.Le.refl _),skipL hno⟩,by dsimp only;omega,⟨⟨rfl,rfl,rfl,rfl,rfl,rfl,rfl,rfl,rfl,rfl,rfl,rfl,rfl,rfl,rfl,trivial⟩,⟨rfl,rfl,rfl,trivial⟩,rfl,rfl⟩⟩
 have hb:f=true:=by simpa using hb
 have hf1:=hf.1 hb
 have hall:∀bb:Bool,(bb=true↔okG U vs g)→(bb=true↔∀x∈cl.take (m+1),okG U vs x):=fun bb h=>by
  rw[h,List.take_add_one,hg,Option.toList_some]
  constructor
  ·intro k x hx
   rcases List.mem_append.1 hx with hx|hx
   ·exact hf1 x hx
   ·rw[List.mem_singleton.1 hx];exact k
  ·exact fun k=>k g (by simp)
 have hvsl:Sl μ7 4 (some ⟨r94,0,none⟩) vs.length ((vs.map T.tm).map Tm.d):=by
  have k2:=Rows.sl hat7 (hvrows.mono hle7) (Nat.le_trans (m:=1000) (by omega) (by decide))
  have w_:=Rep.sl k2
  obtain⟨bz,cz,ez,hs⟩:=w_
  have w_:=Value.slice.inj ez
  obtain⟨e1,e2,_⟩:=w_
  rw[←e1]at hs
  simpa using hs
 have hu7:=hu6.mono hle7
 refine ifd (fun h9=>?_) (fun h9=>?_)
 ·have hcall := kR (vc := a + lo) hvsl hrg hgx.terms hgx.len (fun x hx n hn => by have := hgx.low x hx n hn; omega)
  rw[hdl]at hcall
  refine cPl hcall fun v8 μ8 hle8 hR8=>?_
  have w_:=F.inv (f:=cJ vs g) hR8
  obtain⟨pf,rfl,hfs⟩:=w_
  intro r26
  refine cGv (kC (U:=U) (l:=(cJ vs g).args) (hu7.mono hle8) hfs) ?_
  intro r150
  refine gIn ?_ ?_ fun b' c' _=>?_
  ·show(ps.length+1)*40≤_;omega
  ·exact Nat.le_trans (m:=100000) (show ps.length+1≤_ by omega) (by decide)
  refine aB (by omega) (by omega) ⟨[],(m+1,decide (∀a∈(cJ vs g).args,a∈U),(b',c',_),(nb,nc,ns),μ8),⟨by dsimp only;omega,hle7.trans hle8,RowAt.up hat7 hle8,?_,?_,hall _ (by rw[decide_eq_true_eq,qVm h9])⟩,by dsimp only;omega,⟨⟨rfl,rfl,rfl,rfl,rfl,rfl,rfl,rfl,rfl,rfl,rfl,rfl,rfl,rfl,rfl,rfl,rfl,rfl,rfl,rfl,rfl,trivial⟩,⟨rfl,rfl,rfl,rfl,rfl,rfl,trivial⟩,rfl,rfl⟩⟩
  ·dsimp only
   rw[fZ hg,if_pos h9]
   simp only[List.map_append,List.map_cons,List.map_nil]
   exact(hps.mono hle8).append (Rows.one hR8 (Fc.d_n _))
  ·dsimp only
   rw[iP hg,if_neg (by omega),List.append_nil]
   exact hns.mono hle8
 refine ifd (fun h10=>?_) (fun h10=>?_)
 ·have hgl := hG.sh.top.gl1 h10
  have w_:=hkx h10
  obtain⟨kx,hkx⟩:=w_
  have w_:=Gl.inv hrg
  obtain⟨q1,e1,_,hgs⟩:=w_
  have w_:=Gl.elem hgs (Gl.kid_at hgl)
  obtain⟨ad2,pk,hel2,hrk⟩:=w_
  have hp:q1=pg:=by
   have h2:=congrArg (fun v=>match v with|Value.agg a=>(a[2]?,a[3]?)|_=>(none,none)) e1
   simp[Gl.cs]at h2
   exact Prod.ext (Prod.ext h2.1.1.symm h2.1.2.symm) (Prod.ext h2.2.1.symm h2.2.2.symm)
  subst hp
  refine eIn hel2 ?_
  have hcall:=kR (vc:=a+lo) hvsl hrk hkx.terms hkx.len (fun x hx n hn=>by have:=hkx.low x hx n hn;omega)
  rw[hdl]at hcall
  refine cPl hcall fun v8 μ8 hle8 hR8=>?_
  have w_:=F.inv (f:=cJ vs g.kid) hR8
  obtain⟨pf,rfl,hfs⟩:=w_
  intro r27
  refine cGv (kC (U:=U) (l:=(cJ vs g.kid).args) (hu7.mono hle8) hfs) ?_
  intro r170
  refine gIn ?_ ?_ fun b' c' _=>?_
  ·show(ns.length+1)*40≤_;omega
  ·exact Nat.le_trans (m:=100000) (show ns.length+1≤_ by omega) (by decide)
  refine aB (by omega) (by omega) ⟨[],(m+1,decide (∀a∈(cJ vs g.kid).args,a∈U),(pb,pc2,ps),(b',c',_),μ8),⟨by dsimp only;omega,hle7.trans hle8,RowAt.up hat7 hle8,?_,?_,hall _ (by rw[decide_eq_true_eq,qRr h10])⟩,by dsimp only;omega,⟨⟨rfl,rfl,rfl,rfl,rfl,rfl,rfl,rfl,rfl,rfl,rfl,rfl,rfl,rfl,rfl,rfl,rfl,rfl,rfl,rfl,rfl,trivial⟩,⟨rfl,rfl,rfl,rfl,rfl,rfl,trivial⟩,rfl,rfl⟩⟩
  ·dsimp only
   rw[fZ hg,if_neg h9,List.append_nil]
   exact hps.mono hle8
  ·dsimp only
   rw[iP hg,if_pos h10]
   simp only[List.map_append,List.map_cons,List.map_nil]
   exact(hns.mono hle8).append (Rows.one hR8 (Fc.d_n _))
 have htrue:=pN (vc:=a+lo) hvsl hrg hgx.terms hgx.len (fun x hx n hn=>by have:=hgx.low x hx n hn;omega) (by have:=hG.simple;rwa [hgx.terms,List.length_map]at this)
 rw[hdl]at htrue
 refine cPl htrue fun v8 μ8 hle8 hR8=>?_
 obtain rfl:=hR8
 refine aB (by omega) (by omega) ⟨[],(m+1,decide (dV g.kind (gx.map (T.subst (bT vs)))),(pb,pc2,ps),(nb,nc,ns),μ8),⟨by dsimp only;omega,hle7.trans hle8,RowAt.up hat7 hle8,?_,?_,hall _ (by rw[decide_eq_true_eq,qBy h9 h10 hgx.terms])⟩,by dsimp only;omega,⟨⟨rfl,rfl,rfl,rfl,rfl,rfl,rfl,rfl,rfl,rfl,rfl,rfl,rfl,rfl,rfl,rfl,rfl,rfl,rfl,rfl,rfl,trivial⟩,⟨rfl,rfl,rfl,rfl,rfl,rfl,trivial⟩,rfl,rfl⟩⟩
 ·dsimp only
  rw[fZ hg,if_neg h9,List.append_nil]
  exact hps.mono hle8
 ·dsimp only
  rw[iP hg,if_neg h10,List.append_nil]
  exact hns.mono hle8
end
end Go.Vx
namespace Go.Vx
open Go.Proofs Classical
def AscF(l:List F)(i:Nat):Prop:=∀j x y,j+1<i→l[j]? =some x→l[j+1]? =some y→dC x y<0
theorem AscF.next{l:List F}{i:Nat}(h:AscF l i)(hc:∀x y,0<i→l[i-1]? =some x→l[i]? =some y→dC x y<0):AscF l (i+1):=fun j x y hj hx hy=>by
 rcases Nat.lt_or_ge (j+1) i with h6|h6
 ·exact h j x y h6 hx hy
 ·obtain rfl : i = j + 1 := by omega
  exact hc x y (by omega) hx hy
def qOx(p:Pg)(u:List Tm)(b:List Fc):Prop:=
 bX p u≠none∧p.Pos∧(∀f∈b,FactFits p f)∧(∀f∈b.map Fc.f,∀a∈f.args,a∈u.map Tm.toT)∧AscF (b.map Fc.f) b.length
noncomputable def bH(p:Pg)(u:List Tm):Option (List Ru):=if p.Pos then bX p u else none
theorem kI{p:Pg}{u:List Tm}{y:List Ru}(h:bX p u=some y):p.Ok∧UnivOk u:=by
 unfold bX at h
 split at h
 ·assumption
 ·cases h
theorem F.fcs(L:List F):(L.map F.fc).map Fc.f=L:=by
 rw[List.map_map]
 conv=>rhs;rw[←List.map_id L]
 exact List.map_congr_left fun f _=>F.fc_f f
section
variable {μ:Mem}
theorem qKa{p:Pg}{U:List T}{f:Fc}{ub lb:Option Addr}{uc lc:Nat}(hf:FactFits p f)(hu:Sl μ 4 ub U.length ((U.map T.tm).map Tm.d))(hl:Sl μ 4 lb f.args.length (f.args.map Tm.d)):
  aM Tryz.prog 131 [.slice ub U.length uc,.slice lb f.args.length lc] μ (.bool (decide (∀a∈f.f.args,a∈U))):=by
 have e:f.args=f.f.args.map T.tm:=(congrArg Fc.args hf.lift.1).symm
 have el:f.args.length=f.f.args.length:=(List.length_map ..).symm
 rw[el]at hl ⊢
 rw[e]at hl
 exact kC hu hl
theorem qLq{p:Pg}{f:Fc}{v w:Value}(hp:RepV μ p.d v)(hf:RepV μ f.d w):
  aM Tryz.prog 68 [v,w] μ (.bool (decide (FactFits p f))):=by
 have hp0:=hp
 have w_:=Pg.inv hp
 obtain⟨q0,rfl,hrl⟩:=w_
 have w_:=Fc.inv hf
 obtain⟨q,rfl,hA⟩:=w_
 have hA:Sl μ 4 q.1 f.args.length (f.args.map Tm.d):=hA
 have hn:=aH hA.max
 refine Spec.forget (Spec.mk Tryz.func68 (by kernel_rfl) ?_)
 intro r2 r3
 refine cGv (dA hp0) ?_
 refine ifd (fun hneg=>rPl (isF fun k=>?_)) (fun hge=>?_)
 ·obtain ⟨⟨k', r', h1, _⟩, _⟩ := k
  omega
 have w_:=gA (show 0≤relAt p f.rel by omega)
 obtain⟨k,r,hk,hr,_⟩:=w_
 have hfor:=qDa hk hr
 rw[hk]
 have w_:=Rl.elemA hrl hr
 obtain⟨ad,q2,hel,_,_⟩:=w_
 refine eIn hel ?_
 refine aL (fun h=>rPl (isF fun k=>h (hfor.1 k.1))) (fun har=>?_)
 refine lIn (fun i:Nat=>i≤f.args.length∧∀t∈f.args.take i,GndT t)
  (fun i=>⟨[(27,.val (.slice q.1 f.args.length q.2)),(28,.val (.int .i64 f.args.length)),(29,.val (.int .i64 i))],[],2,μ,Mem.nil⟩) (fun i=>f.args.length-i)
  0 ⟨Nat.zero_le _,by simp⟩ (fun _=>⟨rfl,rfl⟩) ⟨⟨rfl,rfl,rfl,trivial⟩,trivial,rfl,rfl⟩ ?_
 rintro i ⟨hi,hall⟩
 refine ifd (fun hlt=>?_) (fun hlt=>?_)
 ·have w_ := aSo (l := f.args) (i := i) (by omega)
  obtain⟨t,ht⟩:=w_
  have w_:=Tm.elem hA ht
  obtain⟨ad,pt,hel,hrt⟩:=w_
  refine eIn hel ?_
  intro r7
  refine cGv (iL t hrt) ?_
  refine aL (fun h=>rPl (isF fun k=>h (k.2 t (mAt ht)))) (fun h=>?_)
  refine aB (by omega) (by omega) ⟨i+1,⟨by omega,?_⟩,by omega,⟨⟨rfl,rfl,rfl,trivial⟩,trivial,rfl,rfl⟩⟩
  rw[List.take_add_one,ht,Option.toList_some]
  intro y hy
  rcases List.mem_append.1 hy with hy|hy
  ·exact hall y hy
  ·rw[List.mem_singleton.1 hy];exact h
 ·obtain rfl : i = f.args.length := by omega
  rw[List.take_length]at hall
  exact rPl (isT ⟨hfor.2 har,hall⟩)
theorem qLm{p:Pg}{U:List T}{b:List Fc}{v:Value}{ub fb:Option Addr}{uc fc:Nat}(hp:RepV μ p.d v)(hu:Sl μ 4 ub U.length ((U.map T.tm).map Tm.d))(hb:Sl μ 2 fb b.length (b.map Fc.d)):
  aM Tryz.prog 58 [v,.slice ub U.length uc,.slice fb b.length fc] μ (.bool (decide ((∀f∈b,FactFits p f)∧(∀f∈b.map Fc.f,∀a∈f.args,a∈U)∧AscF (b.map Fc.f) b.length))):=by
 have hp0:=hp
 have w_:=Pg.inv hp
 obtain⟨q0,rfl,hrl⟩:=w_
 have hn:=aH hb.max
 refine Spec.forget (Spec.mk Tryz.func58 (by kernel_rfl) ?_)
 intro r3
 refine lIn (fun i:Nat=>i≤b.length∧(∀f∈b.take i,FactFits p f∧∀a∈f.f.args,a∈U)∧AscF (b.map Fc.f) i)
  (fun i=>⟨[(1,.val (.slice ub U.length uc)),(2,.val (.slice fb b.length fc)),(3,.loc 0 r3 0),(9,.val (.slice fb b.length fc)),(10,.val (.int .i64 b.length)),(11,.val (.int .i64 i))],[(0,some (.cells r3 [.val (.slice q0.1 p.rels.length q0.2)] 25))],1,μ,Mem.nil⟩) (fun i=>b.length-i)
  0 ⟨Nat.zero_le _,by simp,fun j x y hj _ _=>by omega⟩ (fun _=>⟨rfl,rfl⟩) ⟨⟨rfl,rfl,rfl,rfl,rfl,rfl,trivial⟩,⟨rfl,trivial⟩,rfl,rfl⟩ ?_
 rintro i ⟨hi,hall,hasc⟩
 refine ifd (fun hlt=>?_) (fun hlt=>?_)
 ·have w_ := aSo (l := b) (i := i) (by omega)
  obtain⟨f,hf⟩:=w_
  have hfm:=mAt hf
  have w_:=Fc.elemA hb hf
  obtain⟨ad,q,hel,hrf,hA⟩:=w_
  have hA:Sl μ 4 q.1 f.args.length (f.args.map Tm.d):=hA
  refine eIn hel ?_
  intro r8
  refine cGv (qLq hp0 hrf) ?_
  refine aL (fun h=>rPl (isF fun k=>h (k.1 f hfm))) (fun hfit=>?_)
  refine cGv (qKa hfit hu hA) ?_
  refine aL (fun h=>rPl (isF fun k=>h (k.2.1 f.f (List.mem_map_of_mem hfm)))) (fun hin=>?_)
  have hall':∀x∈b.take (i+1),FactFits p x∧∀a∈x.f.args,a∈U:=by
   rw[List.take_add_one,hf,Option.toList_some]
   intro y hy
   rcases List.mem_append.1 hy with hy|hy
   ·exact hall y hy
   ·rw[List.mem_singleton.1 hy];exact⟨hfit,hin⟩
  have hfe:(b.map Fc.f)[i]? =some f.f:=by rw[List.getElem?_map,hf];rfl
  refine ifd (fun hi0=>?_) (fun hi0=>?_)
  ·have w_ := aSo (l := b) (i := i - 1) (by omega)
   obtain⟨g,hg⟩:=w_
   have w_:=Fc.elemA hb hg
   obtain⟨ad',q',hel',hrg,_⟩:=w_
   have hgfit:=(hall g (by rw[List.mem_iff_getElem?];exact⟨i-1,by rw[List.getElem?_take,if_pos (by omega)];exact hg⟩)).1
   have hge:(b.map Fc.f)[i-1]? =some g.f:=by rw[List.getElem?_map,hg];rfl
   refine aB (by omega) (by omega) ?_
   refine eIn (by rw[show((i:Int)-1)=((i-1:Nat):Int) by omega];exact hel') ?_
   refine cGv (dD (f:=g.f) (g:=f.f) (by rw[hgfit.lift.1];exact hrg) (by rw[hfit.lift.1];exact hrf)) ?_
   refine ifd (fun hc=>rPl (isF fun k=>?_)) (fun hc=>?_)
   ·have := k.2.2 (i - 1) g.f f.f (by omega) hge (by rw [show i - 1 + 1 = i by omega]; exact hfe)
    omega
   ·refine aB (by omega) (by omega) ⟨i + 1, ⟨by omega, hall', hasc.next fun x y _ hx hy => ?_⟩, by omega, ⟨⟨rfl, rfl, rfl, rfl, rfl, rfl, trivial⟩, ⟨rfl, trivial⟩, rfl, rfl⟩⟩
    rw[hge]at hx;rw[hfe]at hy;cases hx;cases hy
    omega
  ·exact aB (by omega) (by omega) ⟨i+1,⟨by omega,hall',hasc.next fun x y h0 _ _=>by omega⟩,by omega,⟨⟨rfl,rfl,rfl,rfl,rfl,rfl,trivial⟩,⟨rfl,trivial⟩,rfl,rfl⟩⟩
 ·obtain rfl : i = b.length := by omega
  rw[List.take_length]at hall
  refine rPl (isT ⟨fun f hf=>(hall f hf).1,fun f hf=>?_,hasc⟩)
  have w_:=List.mem_map.1 hf
  obtain⟨x,hx,rfl⟩:=w_
  exact(hall x hx).2
theorem lT{p:Pg}{u:List Tm}{v:Value}{ub:Option Addr}{uc:Nat}(hp:RepV μ p.d v)(hu:Sl μ 4 ub u.length (u.map Tm.d)):
  Spec Tryz.prog 57 [v,.slice ub u.length uc] μ fun v μ'=>qDo (fun y tv=>RepV μ' (.sl 6 ((y.map Ru.rd).map RuD.d)) tv) (bH p u) v:=by
 have hp0:=hp
 have w_:=Pg.inv hp
 obtain⟨q,rfl,hrl⟩:=w_
 refine Spec.mk Tryz.func57 (by kernel_rfl) ?_
 intro r2
 refine cPl (mZ hp0) fun v1 μ1 hle1 hR=>?_
 obtain rfl:=hR
 refine aL (fun h=>rPl (by rw[bH,if_neg h];rfl)) (fun hpos=>?_)
 refine cGv (nB (hu.mono hle1)) ?_
 refine aL (fun h=>rPl (by rw[bH,if_pos hpos,bX,if_neg fun k=>h k.2];rfl)) (fun huok=>?_)
 have w_:=huok.lift
 obtain⟨U,rfl,hUg,hUl⟩:=w_
 have hgo:bH p (U.map T.tm)=cI p U:=by rw[bH,if_pos hpos,bX,if_pos ⟨hpos.1,huok⟩,gO]
 rw[hgo]
 have h1:=huok.pos
 have h8:=huok.max
 rw[List.length_map]at h1 h8 hu ⊢
 refine cPl (rW (hp0.mono hle1) hpos.1 (hu.mono hle1) h1 h8) fun v2 μ2 hle2 hR=>?_
 cases hL:cI p U with
 |none=>
  rw[hL]at hR
  obtain rfl:=hR
  exact rPl rfl
 |some y=>
  rw[hL]at hR
  obtain⟨tv,rfl,hR⟩:=hR
  exact rPl ⟨tv,rfl,hR⟩
end
end Go.Vx
namespace Go.Vx
open Go.Proofs Classical
theorem Gl.pure_eq(g:Gl):g.Pure↔qSq g.kind∧∀x∈g.goals,x.Pure:=by
 unfold Gl.Pure
 rw[Gl.all_eq]
 constructor
 ·exact fun h=>⟨h g (by simp),fun x hx y hy=>h y (List.mem_cons_of_mem _ (List.mem_flatMap.2 ⟨x,hx,hy⟩))⟩
 ·rintro ⟨h1, h2⟩ x hx
  rcases List.mem_cons.1 hx with rfl|hx
  ·exact h1
  ·have w_ := List.mem_flatMap.1 hx
   obtain⟨y,hy,hx⟩:=w_
   exact h2 y hy x hx
section
variable {μ:Mem}
theorem isN{p q:Prop}[Decidable p](h:¬p↔q):Value.bool (!decide p)= .bool (decide q):=by
 by_cases k:p
 ·rw[decide_eq_true k,decide_eq_false fun hq=>h.2 hq k];rfl
 ·rw[decide_eq_false k,decide_eq_true (h.1 k)];rfl
theorem pD:∀(g:Gl) {v:Value},RepV μ g.d v→aM Tryz.prog 187 [v,.bool true] μ (.bool (decide g.Pure)):=
 Gl.ind fun g ih v hv=>by
  have w_:=Gl.inv hv
  obtain⟨p,rfl,hts,hgs⟩:=w_
  have hn:=aH hgs.max
  refine Spec.mk Tryz.func187 (by kernel_rfl) ?_
  intro r
  refine lIn (fun i:Nat=>i≤g.goals.length∧∀(j:Nat) x,j<i→g.goals[j]? =some x→x.Pure)
   (fun i=>⟨[(1,.val (.bool true)),(2,.loc 0 r 0),(8,.val (.slice p.2.1 g.goals.length p.2.2)),(9,.val (.int .i64 g.goals.length)),(10,.val (.int .i64 i))],[(0,some (.cells r [.val (.int .i64 g.kind),.val (.string g.name),.val (.slice p.1.1 g.terms.length p.1.2),.val (.slice p.2.1 g.goals.length p.2.2)] 61))],1,μ,Mem.nil⟩) (fun i=>g.goals.length-i)
   0 ⟨Nat.zero_le _,fun j x h=>by omega⟩ (fun _=>⟨rfl,rfl⟩) ⟨⟨rfl,rfl,rfl,rfl,rfl,trivial⟩,⟨rfl,trivial⟩,rfl,rfl⟩ ?_
  rintro i ⟨hi,hall⟩
  refine ifd (fun hlt=>?_) (fun hlt=>?_)
  ·have w_ := aSo (l := g.goals) (i := i) (by omega)
   obtain⟨t,ht⟩:=w_
   have w_:=Gl.elem hgs ht
   obtain⟨ad,p3,hel,hr⟩:=w_
   refine eIn hel ?_
   intro r2
   refine cGv (ih t (mAt ht) hr) ?_
   refine aL (fun h=>rGv ?_ rfl) (fun h=>?_)
   ·rw[decide_eq_false fun k=>h (((Gl.pure_eq g).1 k).2 t (mAt ht))]
   ·refine aB (by omega) (by omega) ⟨i + 1, ⟨by omega, fun j y hj hy => ?_⟩, by omega, ⟨⟨rfl, rfl, rfl, rfl, rfl, trivial⟩, ⟨rfl, trivial⟩, rfl, rfl⟩⟩
    rcases Nat.lt_or_ge j i with h6|h6
    ·exact hall j y h6 hy
    ·obtain rfl : j = i := by omega
     rw[ht]at hy;cases hy;exact h
  ·obtain rfl : i = g.goals.length := by omega
   have hsub:∀x∈g.goals,x.Pure:=fun x hx=>by
    have w_:=List.mem_iff_getElem?.1 hx
    obtain⟨j,hj⟩:=w_
    exact hall j x (List.getElem?_eq_some_iff.1 hj).1 hj
   refine aL (fun h=>?_) (fun h=>?_)
   ·refine iIn (fun _ => ?_) (fun h => nomatch h)
    refine cGv (bG _ _ _ _) ?_
    refine rGv ?_ rfl
    refine isN ?_
    rw[Gl.pure_eq]
    exact⟨fun k=>⟨⟨h,k⟩,hsub⟩,fun k=>k.1.2⟩
   ·exact rGv (by rw[decide_eq_false fun k=>((Gl.pure_eq g).1 k).1.1 h]) rfl
theorem rC{p:Pg}{v:Value}(hp:RepV μ p.d v)(hw:p.d.wd):Spec Tryz.prog 125 [v,.bool true] μ fun r _=>r= .bool (decide p.Pure):=by
 have w_:=Pg.inv hp
 obtain⟨q,rfl,hrl⟩:=w_
 refine Spec.mk Tryz.func125 (by kernel_rfl) ?_
 intro r1
 refine cPl (bD hp hw) fun v1 μ1 hle1 hR=>?_
 obtain rfl:=hR
 refine aL (fun h=>rPl (isF fun k=>h k.1)) (fun hok=>?_)
 have hn:=hok.1
 refine lIn (fun i:Nat=>i≤p.rels.length∧∀(j:Nat) x,j<i→p.rels[j]? =some x→x.body.Pure)
  (fun i=>⟨[(1,.val (.bool true)),(11,.val (.slice q.1 p.rels.length q.2)),(12,.val (.int .i64 p.rels.length)),(13,.val (.int .i64 i))],[],1,μ1,Mem.nil⟩) (fun i=>p.rels.length-i)
  0 ⟨Nat.zero_le _,fun j x h=>by omega⟩ (fun _=>⟨rfl,rfl⟩) ⟨⟨rfl,rfl,rfl,rfl,trivial⟩,trivial,rfl,rfl⟩ ?_
 rintro i ⟨hi,hall⟩
 refine ifd (fun hlt=>?_) (fun hlt=>?_)
 ·have w_ := aSo (l := p.rels) (i := i) (by omega)
  obtain⟨x,hx⟩:=w_
  have w_:=Rl.elemA (hrl.mono hle1) hx
  obtain⟨ad,q2,hel,hr,hb⟩:=w_
  have hb:RepV μ1 x.body.d (.agg (x.body.cs q2).toArray):=hb
  refine eIn hel ?_
  intro r2
  refine cGv (pD x.body hb) ?_
  refine aL (fun h=>rPl (isF fun k=>h (k.2 x (mAt hx)))) (fun h=>?_)
  refine aB (by omega) (by omega) ⟨i+1,⟨by omega,fun j y hj hy=>?_⟩,by omega,⟨⟨rfl,rfl,rfl,rfl,trivial⟩,trivial,rfl,rfl⟩⟩
  rcases Nat.lt_or_ge j i with h6|h6
  ·exact hall j y h6 hy
  ·obtain rfl : j = i := by omega
   rw[hx]at hy;cases hy;exact h
 ·obtain rfl : i = p.rels.length := by omega
  exact rPl (isT ⟨hok,fun x hx=>by
   have w_:=List.mem_iff_getElem?.1 hx
   obtain⟨j,hj⟩:=w_
   exact hall j x (List.getElem?_eq_some_iff.1 hj).1 hj⟩)
theorem lF{p:Pg}{v:Value}(hp:RepV μ p.d v)(hw:p.d.wd):Spec Tryz.prog 54 [v] μ fun r _=>r= .bool (decide p.Pure):=by
 have w_:=Pg.inv hp
 obtain⟨q,rfl,hrl⟩:=w_
 refine Spec.mk Tryz.func54 (by kernel_rfl) ?_
 intro r1
 refine cPl (rC hp hw) fun v1 μ1 hle1 hR=>?_
 obtain rfl:=hR
 exact rPl rfl
end
end Go.Vx
namespace Go.Vx
open Go.Proofs Classical
section
variable {μ:Mem}
theorem jR{xs:List T}{base:Option Addr}{cap:Nat}(hsl:Sl μ 4 base xs.length ((xs.map T.tm).map Tm.d))(hn:xs.length≤1000000):
  Spec Tryz.prog 101 [.slice base xs.length cap] μ fun v μ'=>Fresh μ μ' (.sl 4 ((xs.map T.tm).map Tm.d)) v:=by
 refine Spec.mk Tryz.func101 (by kernel_rfl) ?_
 intro r6
 refine lIn (fun p:Nat×Option Nat×Nat×List Value×Mem=>p.1≤xs.length∧μ.Le p.2.2.2.2∧Grown 4 μ p.2.2.2.2 (((xs.take p.1).map T.tm).map Tm.d) p.2.2.2.1)
  (fun(i,b,c,ys,μ')=>⟨[(3,.row 0 b ys.length c),(7,.val (.slice base xs.length cap)),(8,.val (.int .i64 xs.length)),(9,.val (.int .i64 i))],[(0,some (.row b c 75 4 ys))],1,μ',Mem.nil⟩) (fun p=>xs.length-p.1)
  (0,some r6,0,[],μ) ⟨Nat.zero_le _,Mem.Le.refl _,Grown.nil _ _ _⟩ (fun(_,_,_,_,_)=>⟨rfl,rfl⟩) ⟨⟨rfl,rfl,rfl,rfl,trivial⟩,⟨rfl,trivial⟩,rfl,rfl⟩ ?_
 rintro⟨i,b,c,ys,μ'⟩ ⟨hi,hle,hrows⟩
 dsimp only at hi hle hrows
 have hlen:=hrows.len
 simp only[List.length_map,List.length_take]at hlen
 refine ifd (fun hlt=>?_) (fun hlt=>?_)
 ·have w_ := aSo (l := xs) (i := i) (by omega)
  obtain⟨x,hx⟩:=w_
  have w_:=T.elemL (hsl.mono hle) hx
  obtain⟨ad,p,hel,hr⟩:=w_
  refine eIn hel ?_
  intro r5
  refine cPl (fN x hr) fun v1 μ1 hle1 hR=>?_
  have w_:=Tm.invV hR.rep
  obtain⟨q,rfl⟩:=w_
  intro r16
  refine gIn ?_ ?_ fun b' c' _=>?_
  ·show(ys.length+1)*56≤_;omega
  ·exact Nat.le_trans (m:=100000000) (show ys.length+1≤_ by omega) (by decide)
  refine aB (by omega) (by omega) ⟨(i+1,b',c',_,μ1),⟨by dsimp only;omega,hle.trans hle1,?_⟩,by dsimp only;omega,⟨⟨rfl,rfl,rfl,rfl,trivial⟩,⟨rfl,trivial⟩,rfl,rfl⟩⟩
  dsimp only
  rw[List.take_add_one,hx,Option.toList_some]
  simp only[List.map_append,List.map_cons,List.map_nil]
  exact hrows.snoc hle hR hle1 (Tm.d_n _)
 ·obtain rfl : i = xs.length := by omega
  rw[List.take_length]at hrows
  refine rFz [0] fun μ2 hle2 hno hrow=> .inl ?_
  exact hrows.fresh hle hle2 hno hrow (Nat.le_trans (m:=1000000) (by omega) (by decide))
end
end Go.Vx
namespace Go.Vx
open Go.Proofs Classical
section
variable {μ:Mem}
theorem bC{k:Int}{a b:Option Addr×Nat×Nat}:aM Tryz.prog 94 [.int .i64 k,.slice a.1 a.2.1 a.2.2,.slice b.1 b.2.1 b.2.2] μ (.agg #[.int .i64 k,.string ⟨#[]⟩,.slice a.1 a.2.1 a.2.2,.slice b.1 b.2.1 b.2.2]):=by
 refine Spec.mk Tryz.func94 (by kernel_rfl) ?_
 intro r6
 exact rGv rfl rfl
end
end Go.Vx
namespace Go.Vx
open Go.Proofs Classical
theorem RowO.cut{h:Mem}{r cap:Nat}{ty:TypeId}{es:Nat}{xs:List Value}{cs:List Value}{k j:Nat}{x x':Value}{vs:List Value}(h1:xs.length≤cap)(h2:xs.length≤maxLen)(h3:∀x∈xs,(aD x).length=es∧∀u∈aD x,u.oneCell'=true)(h4:cs.length=cap*es)(h5:cs.take (xs.length*es)=xs.flatMap aD)
  (hx:xs[k]? =some x) (hv:aD x'=(aD x).take j++vs++(aD x).drop (j+vs.length)) (hj:j+vs.length≤es) (ho:∀u∈vs,u.oneCell'=true):
  RowO (h.set r (.cells (List.toArray (cs.take (k*es+j)++vs++cs.drop (k*es+j+vs.length))) ty (0,0))) r cap ty es (xs.set k x'):=by
 have hk:=(List.getElem?_eq_some_iff.1 hx).1
 have hxm:=List.mem_of_getElem? hx
 have hxl:=(h3 x hxm).1
 obtain⟨A,B,rfl,hA⟩:∃A B,xs=A++x::B∧A.length=k:=⟨xs.take k,xs.drop (k+1),by
  rw[←(List.getElem?_eq_some_iff.1 hx).2]
  rw[List.getElem_cons_drop,List.take_append_drop],by rw[List.length_take];omega⟩
 subst hA
 have fA:(A.flatMap aD).length=A.length*es:=eP A fun y hy=>(h3 y (by simp[hy])).1
 have fB:(B.flatMap aD).length=B.length*es:=eP B fun y hy=>(h3 y (by simp[hy])).1
 obtain⟨rest,hrest⟩:∃rest,cs=A.flatMap aD++aD x++B.flatMap aD++rest:=⟨cs.drop ((A++x::B).length*es),by
  have h6:=List.take_append_drop ((A++x::B).length*es) cs
  rw[h5]at h6
  refine h6.symm.trans ?_
  simp⟩
 have e1:cs.take (A.length*es+j)=A.flatMap aD++(aD x).take j:=by
  rw[hrest,List.append_assoc,List.append_assoc,←fA,List.take_length_add_append,List.take_append_of_le_length (by omega)]
 have e2:cs.drop (A.length*es+j+vs.length)=(aD x).drop (j+vs.length)++B.flatMap aD++rest:=by
  rw[hrest,List.append_assoc,List.append_assoc,←fA,Nat.add_assoc,List.drop_length_add_append,List.drop_append_of_le_length (by omega),List.append_assoc]
 have e3:(A++x::B).set A.length x'=A++x'::B:=by simp
 rw[e3]
 have hx'l:(aD x').length=es:=by
  rw[hv];simp only[List.length_append,List.length_take,List.length_drop];omega
 refine⟨_,Mem.set_at _ _ _,by simpa using h1,by simpa using h2,fun y hy=>?_,?_,?_⟩
 ·rcases List.mem_append.1 hy with hy | hy
  ·exact h3 y (by simp[hy])
  rcases List.mem_cons.1 hy with rfl|hy
  ·refine ⟨hx'l, fun u hu => ?_⟩
   rw[hv]at hu
   simp only[List.mem_append]at hu
   rcases hu with(hu|hu)|hu
   ·exact(h3 x hxm).2 u (List.mem_of_mem_take hu)
   ·exact ho u hu
   ·exact(h3 x hxm).2 u (List.mem_of_mem_drop hu)
  ·exact h3 y (by simp[hy])
 ·have h4' := h4
  rw[hrest]at h4'
  rw[e1,e2]
  simp only[List.length_append,List.length_take,List.length_drop]at h4' ⊢
  omega
 ·rw [e1, e2]
  have:A.flatMap aD++(aD x).take j++vs++((aD x).drop (j+vs.length)++B.flatMap aD++rest)=(A++x'::B).flatMap aD++rest:=by
   simp[hv]
  rw[this]
  have hfl:((A++x'::B).flatMap aD).length=(A++x'::B).length*es:=eP _ fun y hy=>by
   rcases List.mem_append.1 hy with hy|hy
   ·exact(h3 y (by simp[hy])).1
   rcases List.mem_cons.1 hy with rfl|hy
   ·exact hx'l
   ·exact(h3 y (by simp[hy])).1
  rw[←hfl,List.take_left]
theorem eO{h:Mem}{ad:Addr}{vs:List Value}{K:Mem→Prop}{r cap:Nat}{ty:TypeId}{es:Nat}{xs:List Value}{k j:Nat}{x:Value}(x':Value)(hr:RowO h r cap ty es xs)(hx:xs[k]? =some x)(ha:ad=⟨r,k*es+j,none⟩)(hv:aD x'=(aD x).take j++vs++(aD x).drop (j+vs.length))(hj:j+vs.length≤es)(ho:∀u∈vs,u.oneCell'=true)
  (hK:∀o,RowO (h.set r o) r cap ty es (xs.set k x')→K (h.set r o)):stoVC h ad vs K:=by
 subst ha
 obtain⟨cs,hc,h1,h2,h3,h4,h5⟩:=hr
 have hk:=(List.getElem?_eq_some_iff.1 hx).1
 refine sIn cs ty hc rfl ?_ (hK _ (RowO.cut h1 h2 h3 h4 h5 hx hv hj ho))
 show k*es+j+vs.length≤cs.length
 rw[h4]
 have:=Nat.mul_le_mul_right es (show k+1≤cap by omega)
 rw[Nat.succ_mul]at this
 omega
theorem RowO.own1{h:Mem}{r cap:Nat}{ty:TypeId}{es:Nat}{xs:List Value}{k j:Nat}{x u:Value}{ad:Addr}(hr:RowO h r cap ty es xs)(hx:xs[k]? =some x)(hu:(aD x)[j]? =some u)(ha:ad=⟨r,k*es+j,none⟩):∀i v,[u][i]? =some v→h.cell (ad.add i)=some v:=fun i v hi=>by
 match i,hi with
 |0,hi=>
  cases hi
  rw[ha]
  have:=hr.cell hx hu
  simpa[Addr.add_lit']using this
end Go.Vx
namespace Go.Vx
open Go.Proofs Classical
theorem zK{a b:List F}(h:∀x,x∈a↔x∈b):lI a=lI b:=qBb cmpF_ord (uL _ _) fun x=>by rw[nY,h]
theorem qNj{L:List F}(h:Asc3 dC L):lI L=L:=(qBb cmpF_ord h fun _=>Iff.rfl).symm
theorem mC{L:List F}{x:F}:x∈lI L↔x∈L:=nY _ _ _
noncomputable def jM(L:List F)(f:F):List F:=lI (f::L)
theorem mem_insF{L:List F}{f x:F}:x∈jM L f↔x=f∨x∈L:=by rw[jM,mC,List.mem_cons]
theorem vF(L:List F)(f:F):Asc3 dC (jM L f):=qR _
theorem qX(L:List F)(f:F):(jM L f).length≤L.length+1:=qBa _
theorem qBn{L:List F}{f:F}(hL:Asc3 dC L)(h:f∈L):jM L f=L:=(hL.uniq cmpF_ord (vF L f) fun x=>by
 rw[mem_insF]
 exact⟨.inr,fun k=>k.elim (fun e=>e ▸ h) id⟩).symm
theorem uF{L:List F}{f:F}{k:Nat}(hL:Asc3 dC L)(h1:∀x∈L.take k,dC x f<0)(h2:∀x∈L.drop k,dC f x<0):L.take k++f::L.drop k=jM L f:=by
 refine Asc3.uniq cmpF_ord ?_ (vF L f) fun x=>?_
 ·have := hL.ins cmpF_ord h1 h2
  simpa[qFn]using this
 ·rw [mem_insF, List.mem_append, List.mem_cons]
  have:x∈L↔x∈L.take k∨x∈L.drop k:=by rw[←List.mem_append,List.take_append_drop]
  rw[this]
  constructor
  ·rintro (h | h | h)
   ·exact .inr (.inl h)
   ·exact .inl h
   ·exact .inr (.inr h)
  ·rintro (h | h | h)
   ·exact .inr (.inl h)
   ·exact .inl h
   ·exact .inr (.inr h)
theorem sY{rs:List Ru}{pos neg:List F}{i:Nat}{r:Ru}(h:rs[i]? =some r):fC rs pos neg (i+1)=fC rs pos neg i++(if uB pos neg r then [r.head]else []):=by
 rw[fC,List.take_add_one,h,Option.toList_some,List.filter_append,List.map_append,←fC]
 congr 1
 by_cases k:uB pos neg r<;>simp[k]
theorem qFq(rs:List Ru)(base:List F):(lfp rs base).length≤base.length+rs.length:=by
 rw[lfp]
 refine Nat.le_trans (qCs _ _) (Nat.le_trans (List.length_filter_le _ _) ?_)
 rw[List.length_append,List.length_map]
 exact Nat.le_refl _
section
variable {rs:List Ru} {S out:List F}
theorem RedI.more(h:RedI rs S out)(e:(fY rs out S).length≠out.length):out.length<(fY rs out S).length:=yE cmpF_ord h.asc (mF _ _ _) h.sub e
end
section
variable {rs:List Ru} {base out:List F}
end
theorem nT{rs:List Ru}:∀{n:Nat},(∀m,m<n→fY rs (stF rs m) []≠stF rs m)→n≤(stF rs n).length
 |0,_=>Nat.zero_le _
 |n+1,h=>by
  have ih:=nT (n:=n) fun m hm=>h m (by omega)
  have h1:=(fL rs n).more fun e=>h n (by omega) (yF cmpF_ord (fL rs n).asc (mF rs _ _) (fL rs n).sub e).symm
  have h2:(stF rs (n+1)).length=(fY rs (stF rs n) []).length:=rfl
  omega
section
variable {rs:List Ru} {model B out:List F}
end
theorem qTq{L:List F}{f:F}(hL:Asc3 dC L)(h:f∉L):L.length<(jM L f).length:=
 yE cmpF_ord hL (vF L f) (fun x hx=>mem_insF.2 (.inr hx)) fun e=>h (qKz (hL.nodup cmpF_ord) (fun x hx=>mem_insF.2 (.inr hx)) (by omega) f (mem_insF.2 (.inl rfl)))
inductive Relv (rs:List Ru) (f:F):F→Prop
 |self:Relv rs f f
 |rule {r:Ru} {y:F} (h:r∈rs) (ho:Relv rs f r.head) (hy:y∈r.pos):Relv rs f y
noncomputable def qEk(rs:List Ru)(f:F):List F:=lI ((f::rs.flatMap Ru.pos).filter fun x=>decide (Relv rs f x))
structure RvI (rs:List Ru) (f:F) (out:List F):Prop where
 asc:Asc3 dC out
 self:f∈out
 der:∀x∈out,Relv rs f x
theorem RvI.mem{rs:List Ru}{f x:F}(h:Relv rs f x):x∈f::rs.flatMap Ru.pos:=by
 cases h with
 |self=>simp
 |rule k _ hy=>exact List.mem_cons_of_mem _ (List.mem_flatMap.2 ⟨_,k,hy⟩)
theorem RvI.done{rs:List Ru}{f:F}{out:List F}(h:RvI rs f out)(hc:∀r∈rs,r.head∈out→∀y∈r.pos,y∈out):out=qEk rs f:=
 h.asc.uniq cmpF_ord (qR _) fun x=>by
  rw[qEk,mC,List.mem_filter,decide_eq_true_eq]
  constructor
  ·exact fun hx=>⟨RvI.mem (h.der x hx),h.der x hx⟩
  ·rintro ⟨hm, k⟩
   clear hm
   induction k with
   |self=>exact h.self
   |rule k _ hy ih=>exact hc _ k ih _ hy
theorem RvI.len{rs:List Ru}{f:F}{out:List F}(h:RvI rs f out):out.length≤(rs.flatMap Ru.pos).length+1:=by
 have:=kS (a:=out) (b:=f::rs.flatMap Ru.pos) (h.asc.nodup cmpF_ord) fun x hx=>RvI.mem (h.der x hx)
 rwa [List.length_cons]at this
theorem RvI.ins{rs:List Ru}{f:F}{out:List F}(h:RvI rs f out){r:Ru}(hr:r∈rs)(ho:Relv rs f r.head){y:F}(hy:y∈r.pos):RvI rs f (jM out y):=
 ⟨vF _ _,mem_insF.2 (.inr h.self),fun x hx=>(mem_insF.1 hx).elim (fun e=>by rw[e];exact .rule hr ho hy) (h.der x)⟩
end Go.Vx
namespace Go.Vx
open Go.Proofs Classical
section
variable {μ:Mem}
theorem vO{L:List F}{f:F}{v w:Value}(hL:Asc3 dC L)(h:FsV μ L v)(hf:RepV μ f.fc.d w)(hn:L.length≤10000000):
  Spec Tryz.prog 73 [v,w] μ fun r μ'=>FsV μ' (jM L f) r:=by
 have w_:=FsV.sl h
 obtain⟨b,c,rfl,hlc,hs⟩:=w_
 have hf0:=hf
 have w_:=F.inv hf
 obtain⟨p,rfl,hfs⟩:=w_
 have w_:=Rep.src h
 obtain⟨vs,hrows,hvs,hcap,hsrc⟩:=w_
 refine Spec.mk Tryz.func73 (by kernel_rfl) ?_
 intro r3
 refine lIn (fun k:Nat=>k≤L.length∧∀x∈L.drop k,¬dC x f<0)
  (fun k=>⟨[(0,.val (.slice b L.length c)),(3,.loc 0 r3 0),(5,.val (.int .i64 k))],[(0,some (.cells r3 [.val (.string f.rel),.val (.slice p.1 f.args.length p.2)] 41))],1,μ,Mem.nil⟩) (fun k=>k)
  L.length ⟨Nat.le_refl _,by simp⟩ (fun _=>⟨rfl,rfl⟩) ⟨⟨rfl,rfl,rfl,trivial⟩,⟨rfl,trivial⟩,rfl,rfl⟩ ?_
 rintro k ⟨hk,hge⟩
 refine ifd (fun h0=>?_) (fun h0=>?_)
 ·obtain ⟨k, rfl⟩ : ∃ k', k = k' + 1 := ⟨k - 1, by omega⟩
  have w_:=aSo (l:=L) (i:=k) (by omega)
  obtain⟨y,hy⟩:=w_
  have w_:=F.elem hs hy
  obtain⟨ad3,p3,hel3,hry,hsy⟩:=w_
  refine nEq (x:=(k:Int)) (by rw[aA (by omega) (by omega)];omega) ?_
  refine eIn hel3 ?_
  refine cGv (gT hry hf0) ?_
  refine ifd (fun hc=>?_) (fun hc=>?_)
  ·refine nEq (x := (k : Int)) (by rw [aA (by omega) (by omega)]; omega) ⟨k, ⟨by omega, fun x hx => ?_⟩, by omega, ⟨⟨rfl, rfl, rfl, trivial⟩, ⟨rfl, trivial⟩, rfl, rfl⟩⟩
   rw[bR hy]at hx
   rcases List.mem_cons.1 hx with rfl|hx
   ·omega
   ·exact hge x hx
  ·have hlt3 := hL.take_lt cmpF_ord hy (e := f) (by omega)
   generalize k+1=k at*
   refine ifd (fun hkl=>?_) (fun hkl=>?_)
   ·have w_ := aSo (l := L) (i := k) (by omega)
    obtain⟨y2,hy2⟩:=w_
    have w_:=F.elem hs hy2
    obtain⟨ad4,p4,hel4,hry2,hsy2⟩:=w_
    refine eIn hel4 ?_
    refine cGv (gT hry2 hf0) ?_
    refine ifd (fun hc2=>?_) (fun hc2=>?_)
    ·have : f ∈ L := by rw [← (cmpF_ord.zero _ _).1 hc2]; exact mAt hy2
     rw[qBn hL this]
     exact rPl h
    ·have hgt3 : ∀ x ∈ L.drop k, dC f x < 0 := hL.drop_gt cmpF_ord hy2 (cmpF_ord.ge_pos (hge y2 (by rw [bR hy2]; simp)) hc2)
     intro r70
     refine aG 0 k rfl rfl (by omega) (by omega) ?_
     refine aJ _ (hsrc 0 k (by omega) hk) ?_
     refine gIn ?_ ?_ fun b1 c1 _=>?_
     ·show(0+_)*40≤_;simp;omega
     ·exact Nat.le_trans (m:=2000000000) (by simp;omega) (by decide)
     intro r77
     refine gIn ?_ ?_ fun b2 c2 _=>?_
     ·show(_+1)*40≤_;simp;omega
     ·exact Nat.le_trans (m:=2000000000) (by simp;omega) (by decide)
     refine aG k L.length rfl rfl hk (by omega) ?_
     refine aJ _ (hsrc k L.length hk (Nat.le_refl _)) ?_
     refine gIn ?_ ?_ fun b3 c3 _=>?_
     ·show(_+_)*40≤_;simp;omega
     ·exact Nat.le_trans (m:=3000000000) (by simp;omega) (by decide)
     have hr2:=(hrows.take k).append ((Rows.one hf0 (Fc.d_n _)).append (hrows.drop k))
     have ev:(([]:List Value)++(vs.drop 0).take (k-0)++[.agg #[.string f.rel,.slice p.1 f.args.length p.2]]++(vs.drop k).take (L.length-k))=vs.take k++([.agg #[.string f.rel,.slice p.1 f.args.length p.2]]++vs.drop k):=by
      simp
      rw[List.take_of_length_le (by simp;omega)]
     have hins:=uF hL hlt3 hgt3
     have e2:((jM L f).map F.fc).map Fc.d=((L.map F.fc).map Fc.d).take k++([f.fc.d]++((L.map F.fc).map Fc.d).drop k):=by rw[←hins];simp
     have e3:(vs.take k++([Value.agg #[.string f.rel,.slice p.1 f.args.length p.2]]++vs.drop k)).length=(jM L f).length:=by rw[←hins];simp;omega
     refine rFz [1] fun μ2 hle2 hno2 hrow2=> .inl ?_
     rw[ev]at hrow2
     have e4:(jM L f).length≤L.length+1:=qX L f
     have:=Rows.sl hrow2 (hr2.mono hle2) (Nat.le_trans (m:=3000000000) (by rw[e3];omega) (by decide))
     rw[←e2]at this
     rw[ev]
     exact this
   ·have hgt3:∀x∈L.drop k,dC f x<0:=by
     rw[List.drop_of_length_le (by omega)];simp
    intro r70
    refine aG 0 k rfl rfl (by omega) (by omega) ?_
    refine aJ _ (hsrc 0 k (by omega) hk) ?_
    refine gIn ?_ ?_ fun b1 c1 _=>?_
    ·show(0+_)*40≤_;simp;omega
    ·exact Nat.le_trans (m:=2000000000) (by simp;omega) (by decide)
    intro r77
    refine gIn ?_ ?_ fun b2 c2 _=>?_
    ·show(_+1)*40≤_;simp;omega
    ·exact Nat.le_trans (m:=2000000000) (by simp;omega) (by decide)
    refine aG k L.length rfl rfl hk (by omega) ?_
    refine aJ _ (hsrc k L.length hk (Nat.le_refl _)) ?_
    refine gIn ?_ ?_ fun b3 c3 _=>?_
    ·show(_+_)*40≤_;simp;omega
    ·exact Nat.le_trans (m:=3000000000) (by simp;omega) (by decide)
    have hr2:=(hrows.take k).append ((Rows.one hf0 (Fc.d_n _)).append (hrows.drop k))
    have ev:(([]:List Value)++(vs.drop 0).take (k-0)++[.agg #[.string f.rel,.slice p.1 f.args.length p.2]]++(vs.drop k).take (L.length-k))=vs.take k++([.agg #[.string f.rel,.slice p.1 f.args.length p.2]]++vs.drop k):=by
     simp
     rw[List.take_of_length_le (by simp;omega)]
    have hins:=uF hL hlt3 hgt3
    have e2:((jM L f).map F.fc).map Fc.d=((L.map F.fc).map Fc.d).take k++([f.fc.d]++((L.map F.fc).map Fc.d).drop k):=by rw[←hins];simp
    have e3:(vs.take k++([Value.agg #[.string f.rel,.slice p.1 f.args.length p.2]]++vs.drop k)).length=(jM L f).length:=by rw[←hins];simp;omega
    refine rFz [1] fun μ2 hle2 hno2 hrow2=> .inl ?_
    rw[ev]at hrow2
    have e4:(jM L f).length≤L.length+1:=qX L f
    have:=Rows.sl hrow2 (hr2.mono hle2) (Nat.le_trans (m:=3000000000) (by rw[e3];omega) (by decide))
    rw[←e2]at this
    rw[ev]
    exact this
 ·have hk0 : k = 0 := by omega
  have hlt3:∀x∈L.take k,dC x f<0:=by rw[hk0];simp
  refine ifd (fun hkl=>?_) (fun hkl=>?_)
  ·have w_ := aSo (l := L) (i := k) (by omega)
   obtain⟨y2,hy2⟩:=w_
   have w_:=F.elem hs hy2
   obtain⟨ad4,p4,hel4,hry2,hsy2⟩:=w_
   refine eIn hel4 ?_
   refine cGv (gT hry2 hf0) ?_
   refine ifd (fun hc2=>?_) (fun hc2=>?_)
   ·have : f ∈ L := by rw [← (cmpF_ord.zero _ _).1 hc2]; exact mAt hy2
    rw[qBn hL this]
    exact rPl h
   ·have hgt3 : ∀ x ∈ L.drop k, dC f x < 0 := hL.drop_gt cmpF_ord hy2 (cmpF_ord.ge_pos (hge y2 (by rw [bR hy2]; simp)) hc2)
    intro r70
    refine aG 0 k rfl rfl (by omega) (by omega) ?_
    refine aJ _ (hsrc 0 k (by omega) hk) ?_
    refine gIn ?_ ?_ fun b1 c1 _=>?_
    ·show(0+_)*40≤_;simp;omega
    ·exact Nat.le_trans (m:=2000000000) (by simp;omega) (by decide)
    intro r77
    refine gIn ?_ ?_ fun b2 c2 _=>?_
    ·show(_+1)*40≤_;simp;omega
    ·exact Nat.le_trans (m:=2000000000) (by simp;omega) (by decide)
    refine aG k L.length rfl rfl hk (by omega) ?_
    refine aJ _ (hsrc k L.length hk (Nat.le_refl _)) ?_
    refine gIn ?_ ?_ fun b3 c3 _=>?_
    ·show(_+_)*40≤_;simp;omega
    ·exact Nat.le_trans (m:=3000000000) (by simp;omega) (by decide)
    have hr2:=(hrows.take k).append ((Rows.one hf0 (Fc.d_n _)).append (hrows.drop k))
    have ev:(([]:List Value)++(vs.drop 0).take (k-0)++[.agg #[.string f.rel,.slice p.1 f.args.length p.2]]++(vs.drop k).take (L.length-k))=vs.take k++([.agg #[.string f.rel,.slice p.1 f.args.length p.2]]++vs.drop k):=by
     simp
     rw[List.take_of_length_le (by simp;omega)]
    have hins:=uF hL hlt3 hgt3
    have e2:((jM L f).map F.fc).map Fc.d=((L.map F.fc).map Fc.d).take k++([f.fc.d]++((L.map F.fc).map Fc.d).drop k):=by rw[←hins];simp
    have e3:(vs.take k++([Value.agg #[.string f.rel,.slice p.1 f.args.length p.2]]++vs.drop k)).length=(jM L f).length:=by rw[←hins];simp;omega
    refine rFz [1] fun μ2 hle2 hno2 hrow2=> .inl ?_
    rw[ev]at hrow2
    have e4:(jM L f).length≤L.length+1:=qX L f
    have:=Rows.sl hrow2 (hr2.mono hle2) (Nat.le_trans (m:=3000000000) (by rw[e3];omega) (by decide))
    rw[←e2]at this
    rw[ev]
    exact this
  ·have hgt3:∀x∈L.drop k,dC f x<0:=by
    rw[List.drop_of_length_le (by omega)];simp
   intro r70
   refine aG 0 k rfl rfl (by omega) (by omega) ?_
   refine aJ _ (hsrc 0 k (by omega) hk) ?_
   refine gIn ?_ ?_ fun b1 c1 _=>?_
   ·show(0+_)*40≤_;simp;omega
   ·exact Nat.le_trans (m:=2000000000) (by simp;omega) (by decide)
   intro r77
   refine gIn ?_ ?_ fun b2 c2 _=>?_
   ·show(_+1)*40≤_;simp;omega
   ·exact Nat.le_trans (m:=2000000000) (by simp;omega) (by decide)
   refine aG k L.length rfl rfl hk (by omega) ?_
   refine aJ _ (hsrc k L.length hk (Nat.le_refl _)) ?_
   refine gIn ?_ ?_ fun b3 c3 _=>?_
   ·show(_+_)*40≤_;simp;omega
   ·exact Nat.le_trans (m:=3000000000) (by simp;omega) (by decide)
   have hr2:=(hrows.take k).append ((Rows.one hf0 (Fc.d_n _)).append (hrows.drop k))
   have ev:(([]:List Value)++(vs.drop 0).take (k-0)++[.agg #[.string f.rel,.slice p.1 f.args.length p.2]]++(vs.drop k).take (L.length-k))=vs.take k++([.agg #[.string f.rel,.slice p.1 f.args.length p.2]]++vs.drop k):=by
    simp
    rw[List.take_of_length_le (by simp;omega)]
   have hins:=uF hL hlt3 hgt3
   have e2:((jM L f).map F.fc).map Fc.d=((L.map F.fc).map Fc.d).take k++([f.fc.d]++((L.map F.fc).map Fc.d).drop k):=by rw[←hins];simp
   have e3:(vs.take k++([Value.agg #[.string f.rel,.slice p.1 f.args.length p.2]]++vs.drop k)).length=(jM L f).length:=by rw[←hins];simp;omega
   refine rFz [1] fun μ2 hle2 hno2 hrow2=> .inl ?_
   rw[ev]at hrow2
   have e4:(jM L f).length≤L.length+1:=qX L f
   have:=Rows.sl hrow2 (hr2.mono hle2) (Nat.le_trans (m:=3000000000) (by rw[e3];omega) (by decide))
   rw[←e2]at this
   rw[ev]
   exact this
theorem nH{L:List F}{f:F}{b:Option Addr}{c:Nat}{w:Value}(hs:Sl μ 2 b L.length ((L.map F.fc).map Fc.d))(hf:RepV μ f.fc.d w):
  aM Tryz.prog 256 [.slice b L.length c,w] μ (.bool (decide (f∈L))):=by
 have hf0:=hf
 have w_:=F.inv hf
 obtain⟨p,rfl,hfs⟩:=w_
 have hn:=aH hs.max
 refine Spec.mk Tryz.func256 (by kernel_rfl) ?_
 intro r3
 refine lIn (fun k:Nat=>k≤L.length∧f∉L.take k)
  (fun k=>⟨[(3,.loc 0 r3 0),(7,.val (.slice b L.length c)),(8,.val (.int .i64 L.length)),(9,.val (.int .i64 k))],[(0,some (.cells r3 [.val (.string f.rel),.val (.slice p.1 f.args.length p.2)] 41))],1,μ,Mem.nil⟩) (fun k=>L.length-k)
  0 ⟨Nat.zero_le _,by simp⟩ (fun _=>⟨rfl,rfl⟩) ⟨⟨rfl,rfl,rfl,rfl,trivial⟩,⟨rfl,trivial⟩,rfl,rfl⟩ ?_
 rintro k ⟨hk,hno⟩
 refine ifd (fun hlt=>?_) (fun hlt=>?_)
 ·have w_ := aSo (l := L) (i := k) (by omega)
  obtain⟨y,hy⟩:=w_
  have w_:=F.elem hs hy
  obtain⟨ad3,p3,hel3,hry,hsy⟩:=w_
  refine eIn hel3 ?_
  intro r6
  refine cGv (gT hry hf0) ?_
  refine ifd (fun hc=>?_) (fun hc=>?_)
  ·refine rGv ?_ rfl
   rw[decide_eq_true]
   rw[←(cmpF_ord.zero _ _).1 hc];exact mAt hy
  ·refine aB (by omega) (by omega) ⟨k + 1, ⟨by omega, ?_⟩, by omega, ⟨⟨rfl, rfl, rfl, rfl, trivial⟩, ⟨rfl, trivial⟩, rfl, rfl⟩⟩
   rw[List.take_add_one,hy,Option.toList_some,List.mem_append,List.mem_singleton]
   rintro(k1|k1)
   ·exact hno k1
   ·exact hc ((cmpF_ord.zero _ _).2 k1.symm)
 ·obtain rfl : k = L.length := by omega
  rw[List.take_length]at hno
  refine rGv ?_ rfl
  rw[decide_eq_false hno]
theorem lK{α:Type}{l:List α}{i:Nat}{x:α}{P:α→Prop}(h:∀y∈l.take i,P y)(hx:l[i]? =some x)(hp:P x):∀y∈l.take (i+1),P y:=by
 rw[List.take_add_one,hx,Option.toList_some]
 intro y hy
 rcases List.mem_append.1 hy with k|k
 ·exact h y k
 ·rw[List.mem_singleton.1 k];exact hp
theorem pF{r:Ru}{pos neg:List F}{v:Value}{b b2:Option Addr}{c c2:Nat}(hr:RepV μ r.rd.d v)(hs:Sl μ 2 b pos.length ((pos.map F.fc).map Fc.d))(hs2:Sl μ 2 b2 neg.length ((neg.map F.fc).map Fc.d)):
  aM Tryz.prog 220 [v,.slice b pos.length c,.slice b2 neg.length c2] μ (.bool (decide (uB pos neg r))):=by
 have w_:=Ru.inv hr
 obtain⟨p,rfl,-,-,h3,h4⟩:=w_
 have hm1:=aH h3.max
 have hm2:=aH h4.max
 refine Spec.mk Tryz.func220 (by kernel_rfl) ?_
 intro r3
 refine lIn (fun k:Nat=>k≤r.pos.length∧∀f∈r.pos.take k,f∈pos)
  (fun k=>⟨[(1,.val (.slice b pos.length c)),(2,.val (.slice b2 neg.length c2)),(3,.loc 0 r3 0),(12,.val (.slice p.2.2.1.1 r.pos.length p.2.2.1.2)),(13,.val (.int .i64 r.pos.length)),(14,.val (.int .i64 k))],[(0,some (.cells r3 (vals (r.cs p)) 106))],1,μ,Mem.nil⟩) (fun k=>r.pos.length-k)
  0 ⟨Nat.zero_le _,by simp⟩ (fun _=>⟨rfl,rfl⟩) ⟨⟨rfl,rfl,rfl,rfl,rfl,rfl,trivial⟩,⟨rfl,trivial⟩,rfl,rfl⟩ ?_
 rintro k ⟨hk,hall⟩
 refine ifd (fun hlt=>?_) (fun hlt=>?_)
 ·have w_ := aSo (l := r.pos) (i := k) (by omega)
  obtain⟨y,hy⟩:=w_
  have w_:=F.elem h3 hy
  obtain⟨ad3,p3,hel3,hry,hsy⟩:=w_
  refine eIn hel3 ?_
  intro r8
  refine cGv (nH hs hry) ?_
  refine aL (fun h=>rGv (isF fun k=>h (k.1 y (mAt hy))) rfl) (fun h=>?_)
  ·exact aB (by omega) (by omega) ⟨k+1,⟨by omega,lK hall hy h⟩,by omega,⟨⟨rfl,rfl,rfl,rfl,rfl,rfl,trivial⟩,⟨rfl,trivial⟩,rfl,rfl⟩⟩
 obtain rfl:k=r.pos.length:=by omega
 rw[List.take_length]at hall
 refine lIn (fun k:Nat=>k≤r.neg.length∧∀f∈r.neg.take k,f∉neg)
  (fun k=>⟨[(2,.val (.slice b2 neg.length c2)),(24,.val (.slice p.2.2.2.1 r.neg.length p.2.2.2.2)),(25,.val (.int .i64 r.neg.length)),(26,.val (.int .i64 k))],[],1,μ,Mem.nil⟩) (fun k=>r.neg.length-k)
  0 ⟨Nat.zero_le _,by simp⟩ (fun _=>⟨rfl,rfl⟩) ⟨⟨rfl,rfl,rfl,rfl,trivial⟩,trivial,rfl,rfl⟩ ?_
 rintro k ⟨hk,hall2⟩
 refine ifd (fun hlt=>?_) (fun hlt=>?_)
 ·have w_ := aSo (l := r.neg) (i := k) (by omega)
  obtain⟨y,hy⟩:=w_
  have w_:=F.elem h4 hy
  obtain⟨ad3,p3,hel3,hry,hsy⟩:=w_
  refine eIn hel3 ?_
  intro r8
  refine cGv (nH hs2 hry) ?_
  refine ifd (fun h=>rGv (isF fun k=>(k.2 y (mAt hy)) h) rfl) (fun h=>?_)
  ·exact aB (by omega) (by omega) ⟨k+1,⟨by omega,lK hall2 hy h⟩,by omega,⟨⟨rfl,rfl,rfl,rfl,trivial⟩,trivial,rfl,rfl⟩⟩
 obtain rfl:k=r.neg.length:=by omega
 rw[List.take_length]at hall2
 exact rGv (isT ⟨hall,hall2⟩) rfl
theorem zX{rs:List Ru}{pos neg:List F}{b b2 b3:Option Addr}{c c2 c3:Nat}(hr:Sl μ 6 b3 rs.length ((rs.map Ru.rd).map RuD.d))(hn:rs.length≤10000000)(hs:Sl μ 2 b pos.length ((pos.map F.fc).map Fc.d))(hs2:Sl μ 2 b2 neg.length ((neg.map F.fc).map Fc.d)):
  Spec Tryz.prog 210 [.slice b3 rs.length c3,.slice b pos.length c,.slice b2 neg.length c2] μ fun r μ'=>FsV μ' (fY rs pos neg) r:=by
 refine Spec.mk Tryz.func210 (by kernel_rfl) ?_
 intro r10
 refine lFz (fun z:Nat×Option Addr×Nat×Mem=>z.1≤rs.length∧μ.Le z.2.2.2∧FsV z.2.2.2 (lI (fC rs pos neg z.1)) (.slice z.2.1 (lI (fC rs pos neg z.1)).length z.2.2.1))
  (fun(i,b4,c4,μ')=>⟨[(1,.val (.slice b pos.length c)),(2,.val (.slice b2 neg.length c2)),(7,.val (.slice b4 (lI (fC rs pos neg i)).length c4)),(11,.val (.slice b3 rs.length c3)),(12,.val (.int .i64 rs.length)),(13,.val (.int .i64 i))],[],0,μ',Mem.nil⟩) (fun z=>rs.length-z.1) [0]
  (fun(_,_,_,_)=>⟨rfl,rfl⟩) (fun μ1 hle1 hno1 hat1=>?_) ?_
 ·have e0 : lI (fC rs pos neg 0) = [] := by simp [fC, qNj (L := []) List.Pairwise.nil]
  refine⟨(0,some ⟨r10,0,none⟩,0,μ1),⟨Nat.zero_le _,hle1,?_⟩,⟨rfl,rfl,?_,rfl,rfl,rfl,trivial⟩,trivial,rfl,rfl⟩
  ·dsimp only;rw[e0];exact FsV.nil _ _
  ·dsimp only;rw[e0];rfl
 rintro⟨i,b4,c4,μ'⟩ ⟨hi,hle,hout⟩
 dsimp only at hi hle hout
 refine ifd (fun hlt=>?_) (fun hlt=>?_)
 rotate_left
 ·obtain rfl : i = rs.length := by omega
  rw[zS]at hout ⊢
  exact rPl hout
 have w_:=aSo (l:=rs) (i:=i) (by omega)
 obtain⟨r,hri⟩:=w_
 have w_:=Ru.elem (hr.mono hle) hri
 obtain⟨ad,p,hel,hrv,hat⟩:=w_
 have hlen:(lI (fC rs pos neg i)).length≤i:=Nat.le_trans (qBa _) (zT _ _ _ _)
 have hsucc:=sY (pos:=pos) (neg:=neg) hri
 refine eIn hel ?_
 intro r9
 refine cGv (pF hrv (hs.mono hle) (hs2.mono hle)) ?_
 refine ifd (fun hf=>?_) (fun hf=>?_)
 ·rw [if_pos hf] at hsucc
  refine cPl (vO (qR _) hout hat.head (by omega)) fun v4 μ4 hle4 hR4=>?_
  have e:jM (lI (fC rs pos neg i)) r.head=lI (fC rs pos neg (i+1)):=zK fun x=>by
   rw[List.mem_cons,mC,hsucc,List.mem_append,List.mem_singleton];exact Or.comm
  rw[e]at hR4
  have w_:=FsV.sl hR4
  obtain⟨b5,c5,rfl,-,-⟩:=w_
  exact aB (by omega) (by omega) ⟨[],(i+1,b5,c5,μ4),⟨by dsimp only;omega,hle.trans hle4,hR4⟩,by dsimp only;omega,⟨⟨rfl,rfl,rfl,rfl,rfl,rfl,trivial⟩,trivial,rfl,rfl⟩⟩
 ·rw [if_neg hf, List.append_nil] at hsucc
  refine aB (by omega) (by omega) ⟨[],(i+1,b4,c4,μ'),⟨by dsimp only;omega,hle,?_⟩,by dsimp only;omega,⟨⟨rfl,rfl,?_,rfl,rfl,rfl,trivial⟩,trivial,rfl,rfl⟩⟩
  ·dsimp only;rw[hsucc];exact hout
  ·dsimp only;rw[hsucc];rfl
end
end Go.Vx
namespace Go.Vx
open Go.Proofs Classical
section
variable {μ:Mem}
theorem qOj:Sl μ 2 none 0 ((([]:List F).map F.fc).map Fc.d):=⟨rfl,Nat.zero_le _,fun i x h=>by simp at h⟩
end
end Go.Vx
namespace Go.Vx
open Go.Proofs Classical
open Go.Sort
abbrev FE:=F×Value
theorem qSb:SlTy 29 41 Tryz.t29 Tryz.t41 25:=⟨by kernel_rfl,by kernel_rfl,by kernel_rfl,by kernel_rfl,fun _=>by kernel_rfl,by kernel_rfl⟩
noncomputable def ltF(a b:FE):Bool:=decide (dC a.1 b.1<0)
theorem qOn:SWO ltF:=⟨fun x=>cmpF_ord.swo.irrefl x.1,fun x y z=>cmpF_ord.swo.trans x.1 y.1 z.1,fun x y z=>cmpF_ord.swo.ntrans x.1 y.1 z.1⟩
theorem qCi{S:List F}(hS:∀(a b:Nat) x y,a<b→S[a]? =some x→S[b]? =some y→¬dC y x<0){i:Nat}{e y:F}(hi:S[i+1]? =some e)(hy:S[i]? =some y)(hne:dC y e≠0):∀x∈S.take (i+1),dC x e<0:=by
 have h1:dC y e<0:=cmpF_ord.ge_pos (hS i (i+1) y e (by omega) hy hi) (cmpF_ord.ne_comm hne)
 intro x hx
 have w_:=List.mem_iff_getElem?.1 hx
 obtain⟨t,ht⟩:=w_
 rw[List.getElem?_take]at ht
 split at ht
 ·rename_i hlt
  refine cmpF_ord.le_lt ?_ h1
  rcases Nat.lt_or_ge t i with k|k
  ·exact hS t i x y k ht hy
  ·obtain rfl : t = i := by omega
   rw[hy]at ht;cases ht
   exact cmpF_ord.irrefl _
 ·cases ht
def FElts(μ:Mem)(l:List FE):Prop:=∀p∈l,RepV μ p.1.fc.d p.2
section
variable {μ h0:Mem} {r:Nat} {ty:TypeId} {rest:List Value}
theorem FElts.mono{μ':Mem}{l:List FE}(h:FElts μ l)(hle:μ.Le μ'):FElts μ' l:=fun p hp=>RepV.mono hle (h p hp)
theorem FElts.perm{l m:List FE}(h:FElts μ l)(p:m.Perm l):FElts μ m:=fun q hq=>h q (p.mem_iff.1 hq)
theorem FElts.els{d:Array FE}(h:FElts μ d.toList):Els 2 (d.map Prod.snd):=fun x hx=>by
 simp only[Array.toList_map,List.mem_map]at hx
 obtain⟨p,hp,rfl⟩:=hx
 have w_:=F.inv (h p hp)
 obtain⟨q,e,_⟩:=w_
 rw[e]
 exact⟨rfl,fun u hu=>by simp only[aD,List.mem_cons,List.not_mem_nil,or_false]at hu;rcases hu with rfl|rfl<;>rfl⟩
theorem FElts.at{d:Array FE}{n:Nat}(h:FElts μ d.toList)(hn:d.size=n){i:Nat}(hi:i<n):∃p:Fc.P,d[i]!.2= .agg (d[i]!.1.cs p).toArray∧RepV μ d[i]!.1.fc.d (.agg (d[i]!.1.cs p).toArray):=by
 have hm:d[i]!∈d.toList:=by
  rw[getElem!_pos d i (by omega)]
  exact Array.getElem_mem_toList _
 have hv:=h _ hm
 have w_:=F.inv hv
 obtain⟨p,e,_⟩:=w_
 rw[e]at hv
 exact⟨p,e,hv⟩
theorem rdO{h:Mem}{b:Nat}{d:Array Value}{i:Nat}{x y:Value}{K:List Value→Prop}(hb:h b=some (.cells (List.toArray (d.toList.flatMap aD++rest)) ty (0,0)))(hE:Els 2 d)(hi:i<d.size)(e:d[i]! = .agg #[x,y])(k:K [x,y]):extVC μ h ⟨b,i*2,none⟩ 2 K:=by
 have hh:RowV h b ty rest d=h:=funext fun k=>by
  rw[RowV]
  by_cases e:k=b
  ·subst e;rw[Mem.set_at,hb]
  ·rw[Mem.set_ne e]
 refine oIn [x,y] rfl (fun j z hz=>?_) k
 rw[Addr.add_lit']
 rw[←hh]
 refine RowV.cell hE hi ?_
 rw[e]
 exact hz
theorem tZ{rs n cap i j:Nat}{d:Array FE}(hs:h0 rs=some (.cells #[.slice (some ⟨r,0,none⟩) n cap] 29 (0,0)))(hne:rs≠r)(hP:FElts μ d.toList)(hn:d.size=n)(hi:i<n)(hj:j<n):
  SpecH Tryz.prog 134 [.int .i64 i,.int .i64 j,.pointer (some ⟨rs,0,none⟩)] μ (RowV h0 r ty rest (d.map Prod.snd)) fun v μ' h'=>v= .bool (ltF d[i]! d[j]!)∧μ'=μ∧h'=RowV h0 r ty rest (d.map Prod.snd):=by
 have hrs:RowV h0 r ty rest (d.map Prod.snd) rs=some (.cells #[.slice (some ⟨r,0,none⟩) n cap] 29 (0,0)):=(Mem.set_ne hne).trans hs
 have hb:RowV h0 r ty rest (d.map Prod.snd) r=some (.cells (List.toArray ((d.map Prod.snd).toList.flatMap aD++rest)) ty (0,0)):=Mem.set_at _ _ _
 have w_:=hP.at hn hi
 obtain⟨p,e1,hs1⟩:=w_
 have w_:=hP.at hn hj
 obtain⟨q,e2,hs2⟩:=w_
 refine SpecH.mk [] Tryz.func134 (by kernel_rfl) ?_
 refine oIn [.slice (some ⟨r,0,none⟩) n cap] rfl (bJ hrs) ?_
 refine rX i rfl hi ?_
 refine rdO hb hP.els (by simpa[hn]using hi) ((oD (by omega)).trans e1) ?_
 refine oIn [.slice (some ⟨r,0,none⟩) n cap] rfl (bJ hrs) ?_
 refine rX j rfl hj ?_
 refine rdO hb hP.els (by simpa[hn]using hj) ((oD (by omega)).trans e2) ?_
 refine cGv (dD hs1 hs2) ?_
 exact rPl ⟨rfl,rfl,rfl⟩
end
def qQx(μ μ':Mem)(ys:List Value)(v:Value):Prop:=∃b c,∃g:Mem,v= .slice (some ⟨b,0,none⟩) ys.length c∧RowO g b c 41 2 ys∧g.Le μ'∧∀x,g x≠none→μ x=none
theorem qRf{d:Array FE}{n i:Nat}(hn:d.size=n)(hi:i<n):(d.toList.map Prod.fst)[i]? =some d[i]!.1:=by
 rw[List.getElem?_map,getElem!_pos d i (by omega),Array.getElem?_toList,Array.getElem?_eq_getElem (by omega)]
 rfl
section
variable {μ:Mem}
set_option maxHeartbeats 8000000 in
theorem wI{l:List FE}{base:Option Addr}{cap:Nat}(hsrc:lW μ base l.length 2 (l.map Prod.snd))(hE:FElts μ l)(hn:l.length≤100000000):
  Spec Tryz.prog 63 [.slice base l.length cap] μ fun v μ'=>∃l':List FE,(∃dl:List FE,dl.Perm l∧l'.Sublist dl)∧l'.map Prod.fst=lI (l.map Prod.fst)∧qQx μ μ' (l'.map Prod.snd) v:=by
 generalize hvs:l.map Prod.snd=vs at hsrc
 have hvl:vs.length=l.length:=by rw[←hvs,List.length_map]
 refine Spec.mkO [3,7,14] Tryz.func63 (by kernel_rfl) ?_
 intro r22 hm22 ho22
 refine aJ _ hsrc ?_
 refine fM [] rfl ⟨[],Mem.set_at _ _ _,by simp,by simp,by simp,rfl,rfl⟩ ?_ ?_ fun b c o hrow hor=>?_
 ·show(0+_)*40≤_;omega
 ·exact Nat.le_trans (m:=2000000000) (by omega) (by decide)
 generalize hH1:Mem.set (Mem.set _ r22 _) b o=H1
 have hB1:RowO H1 b c 41 2 vs:=by rw[←hH1];exact hrow
 have hap1:Apart μ H1:=by
  rw[←hH1]
  refine((eA μ).set hm22).set ?_
  rcases hor with rfl|h
  ·exact hm22
  ·exact h.2
 clear hrow hor hH1 hm22 ho22
 have hN:0+vs.length=l.length:=by omega
 rw[hN]
 intro r5 hm5 ho5
 refine sIn [.slice none 0 0] 29 (Mem.set_at _ _ _) rfl (Nat.le_refl _) ?_
 obtain⟨cs,hcell,hlen0,hcap,hone,hcs,htake⟩:=hB1
 obtain⟨rest,rfl⟩:∃rest,cs=vs.flatMap aD++rest:=by
  refine⟨cs.drop (vs.length*2),?_⟩
  conv=>lhs;rw[←List.take_append_drop (vs.length*2) cs,htake]
 have hne:r5≠b:=fun e=>by
  have h5:H1 r5=none:=ho5
  rw[e,hcell]at h5;cases h5
 obtain⟨h0,hh0,hsplit⟩:∃h0:Mem,h0 r5=some (.cells #[.slice (some ⟨b,0,none⟩) l.length c] 29 (0,0))∧((H1.set r5 (.cells #[.slice none 0 0] 29 (0,0))).set r5 (.cells #[.slice (some ⟨b,0,none⟩) l.length c] 29 (0,0)))=RowV h0 b 41 rest vs.toArray:=by
  refine⟨fun k=>if k=b then none else((H1.set r5 (.cells #[.slice none 0 0] 29 (0,0))).set r5 (.cells #[.slice (some ⟨b,0,none⟩) l.length c] 29 (0,0))) k,by simp only[if_neg hne];exact Mem.set_at _ _ _,funext fun k=>?_⟩
  rw[RowV]
  by_cases e:k=b
  ·subst e;rw[Mem.set_ne (Ne.symm hne),Mem.set_ne (Ne.symm hne),hcell,Mem.set_at]
  ·conv => rhs; rw [Mem.set_ne e]
   rw[if_neg e]
 have hap2:Apart μ (RowV h0 b 41 rest vs.toArray):=by
  rw[←hsplit]
  exact(hap1.set hm5).set hm5
 have ea:vs.toArray=l.toArray.map Prod.snd:=by simp[hvs]
 have hzn:l.toArray.size=l.length:=by simp
 have hspec:=tS (μ:=μ) (h0:=h0) (r:=b) (ty:=41) (rest:=rest) (cap:=c) (d0:=l.toArray) (lf:=134) (lb:=[.pointer (some ⟨r5,0,none⟩)]) (enc:=Prod.snd) qSb (ttok.get rfl) (fun h=>nomatch h) (FElts.els (μ:=μ) (by simpa using hE)) hzn (by omega) qOn
  fun {μ' d i j} hle' hV hi hj=>tZ hh0 hne (FElts.perm (FElts.mono (by simpa using hE) hle') (tJ hzn hV)) (hV.1.trans hzn) hi hj
 rw[←ea,←hsplit]at hspec
 refine oIn [.slice (some ⟨b,0,none⟩) l.length c] rfl (bJ (Mem.set_at _ _ _)) ?_
 refine cOw hspec fun v μ2 h2 hle2 hap3 hR=>?_
 obtain⟨rfl,d',p1,p2,rfl⟩:=hR
 have hdn:d'.size=l.length:=p1.1.trans hzn
 have hpd:d'.toList.Perm l:=by simpa using tJ hzn p1
 have hP2:FElts μ2 d'.toList:=FElts.perm (hE.mono hle2) hpd
 generalize hS:d'.toList.map Prod.fst=S
 have hSp:S.Perm (l.map Prod.fst):=by rw[←hS];exact hpd.map _
 have hSl:S.length=l.length:=by rw[hSp.length_eq,List.length_map]
 have hSat:∀i,i<l.length→S[i]? =some d'[i]!.1:=fun i hi=>by rw[←hS];exact qRf hdn hi
 have hSS:∀(a b:Nat) x y,a<b→S[a]? =some x→S[b]? =some y→¬dC y x<0:=fun a b' x y hab hx hy=>by
  have hb':=(List.getElem?_eq_some_iff.1 hy).1
  have h3:=p2 a b' (Nat.zero_le _) hab (by omega)
  have h4:=hSat a (by omega)
  have h5:=hSat b' (by omega)
  rw[hx]at h4;rw[hy]at h5
  cases h4;cases h5
  simpa[ltF]using h3
 have hrs:RowV h0 b 41 rest (d'.map Prod.snd) r5=some (.cells #[.slice (some ⟨b,0,none⟩) l.length c] 29 (0,0)):=(Mem.set_ne hne).trans hh0
 have hbb:RowV h0 b 41 rest (d'.map Prod.snd) b=some (.cells (List.toArray ((d'.map Prod.snd).toList.flatMap aD++rest)) 41 (0,0)):=Mem.set_at _ _ _
 clear hspec hsplit hcell hap2 ho5 hm5 hap1 p1 ea htake hcs hone hcap hlen0 hh0
 generalize hHH:RowV h0 b 41 rest (d'.map Prod.snd)=HH at*
 clear hHH
 intro r14 hm14 ho14
 have hr5:r5≠r14:=fun e=>by
  have h5:HH r14=none:=ho14
  rw[←e,hrs]at h5;cases h5
 have hrb:b≠r14:=fun e=>by
  have h5:HH r14=none:=ho14
  rw[←e,hbb]at h5;cases h5
 have hrs0:∀o,(HH.set r14 o) r5=some (.cells #[.slice (some ⟨b,0,none⟩) l.length c] 29 (0,0)):=fun o=>(Mem.set_ne hr5).trans hrs
 have hbb0:∀o,(HH.set r14 o) b=some (.cells (List.toArray ((d'.map Prod.snd).toList.flatMap aD++rest)) 41 (0,0)):=fun o=>(Mem.set_ne hrb).trans hbb
 refine oIn [.slice (some ⟨b,0,none⟩) l.length c] rfl (bJ (hrs0 _)) ?_
 refine lIn (fun p:Nat×Nat×Nat×List FE×Mem=>p.1≤l.length∧RowO p.2.2.2.2 p.2.1 p.2.2.1 41 2 (p.2.2.2.1.map Prod.snd)∧Apart μ2 p.2.2.2.2∧p.2.1≠r5∧p.2.1≠b∧p.2.2.2.2 r5=some (.cells #[.slice (some ⟨b,0,none⟩) l.length c] 29 (0,0))∧p.2.2.2.2 b=some (.cells (List.toArray ((d'.map Prod.snd).toList.flatMap aD++rest)) 41 (0,0))∧
   Asc3 dC (p.2.2.2.1.map Prod.fst)∧p.2.2.2.1.length≤p.1∧(∀x,x∈p.2.2.2.1.map Prod.fst↔x∈S.take p.1)∧p.2.2.2.1.Sublist (d'.toList.take p.1))
  (fun(i,b',c',acc,h)=>⟨[(3,.val (.pointer (some ⟨r5,0,none⟩))),(4,.val (.slice (some ⟨b',0,none⟩) acc.length c')),(15,.val (.slice (some ⟨b,0,none⟩) l.length c)),(16,.val (.int .i64 l.length)),(17,.val (.int .i64 i))],[],0,μ2,h⟩) (fun p=>l.length-p.1)
  (0,r14,0,[],_) ⟨Nat.zero_le _,⟨[],Mem.set_at _ _ _,by simp,by simp,by simp,rfl,rfl⟩,hap3.set hm14,hr5.symm,hrb.symm,hrs0 _,hbb0 _,List.Pairwise.nil,Nat.le_refl _,by simp,by simp⟩ (fun(_,_,_,_,_)=>⟨rfl,rfl⟩) ⟨⟨rfl,rfl,rfl,rfl,rfl,trivial⟩,trivial,rfl,rfl⟩ ?_
 clear hrs0 hbb0 hrs hbb hap3 ho14 hm14 hr5 hrb
 rintro⟨i,b',c',acc,h⟩ ⟨hi,hro,hap,hn5,hnb,hrs,hbb,hasc,hlen,hmem,hsub⟩
 dsimp only at hi hro hap hn5 hnb hrs hbb hasc hlen hmem hsub
 refine ifd (fun hlt=>?_) (fun hlt=>?_)
 rotate_left
 ·obtain rfl : i = l.length := by omega
  rw[←hSl,List.take_length]at hmem
  refine cG _ Mem.nil (Parts.nil_right _) ?_
  refine⟨acc,⟨d'.toList,hpd,hsub.trans (List.take_sublist _ _)⟩,Asc3.uniq cmpF_ord hasc (qR _) fun x=>by rw[hmem,mC,hSp.mem_iff],?_⟩
  have hro0:=hro
  obtain⟨cs,hcell,hrest⟩:=hro
  refine⟨b',c',Mem.nil.set b' (.cells cs.toArray 41 (0,0)),by rw[List.length_map],⟨cs,Mem.set_at _ _ _,hrest⟩,fun x o hx=>?_,fun x hx=>?_⟩
  ·by_cases e : x = b'
   ·subst e
    rw[Mem.set_at]at hx
    rw[←hx,←hcell]
    exact(Mem.le_join_right hap) _ _ hcell |>.trans hcell.symm
   ·rw[Mem.set_ne e]at hx;cases hx
  ·by_cases e : x = b'
   ·subst e
    have h6:μ2 x=none:=hap.symm x (by rw[hcell];simp)
    cases e2:μ x with
    |none=>rfl
    |some o=>have h7:μ2 x=some o:=hle2 x o e2;rw[h6]at h7;cases h7
   ·rw[Mem.set_ne e]at hx;exact absurd rfl hx
 have hlt:i<l.length:=by omega
 have w_:=hP2.at hdn hlt
 obtain⟨p,ee,hre⟩:=w_
 have hei:=hSat i hlt
 have hdi:d'.toList[i]? =some d'[i]!:=by rw[getElem!_pos d' i (by omega),Array.getElem?_toList,Array.getElem?_eq_getElem (by omega)]
 have htk:∀x,x∈S.take (i+1)↔x∈S.take i∨x=d'[i]!.1:=fun x=>by
  rw[List.take_add_one,hei,Option.toList_some,List.mem_append,List.mem_singleton]
 refine rX i rfl hlt ?_
 refine rdO hbb hP2.els (by simpa[hdn]using hlt) ((oD (by omega)).trans ee) ?_
 intro r6
 have hnext:(∀x∈S.take i,dC x d'[i]!.1<0)→Asc3 dC ((acc++[d'[i]!]).map Prod.fst)∧(∀x,x∈(acc++[d'[i]!]).map Prod.fst↔x∈S.take (i+1)):=fun hnew=>by
  rw[List.map_append,List.map_cons,List.map_nil]
  refine⟨?_,fun x=>?_⟩
  ·rw [Asc3, List.pairwise_append]
   exact⟨hasc,List.pairwise_singleton _ _,fun x hx y hy=>by rw[List.mem_singleton.1 hy];exact hnew x ((hmem x).1 hx)⟩
  ·rw[List.mem_append,List.mem_singleton,hmem,htk]
 refine ifd (fun h0=>?_) (fun h0=>?_)
 ·have hnew : ∀ x ∈ S.take i, dC x d'[i]!.1 < 0 := by rw [show i = 0 by omega]; simp
  intro r36
  refine fM _ (List.length_map ..) hro ?_ ?_ fun b9 c9 o hrow hor=>?_
  ·show(acc.length+1)*40≤_;omega
  ·exact Nat.le_trans (m:=2000000000) (show acc.length+1≤_ by omega) (by decide)
  have hn:=hnext hnew
  have h9:b9≠r5∧b9≠b:=by
   rcases hor with rfl|h9
   ·exact⟨hn5,hnb⟩
   ·have h91 : h b9 = none := h9.1
    refine⟨fun e=>?_,fun e=>?_⟩
    ·rw[e,hrs]at h91;cases h91
    ·rw[e,hbb]at h91;cases h91
  refine aB (by omega) (by omega) ⟨(i+1,b9,c9,acc++[d'[i]!],_),⟨by dsimp only;omega,?_,hap.set (kA hro hap hor),h9.1,h9.2,(Mem.set_ne h9.1.symm).trans hrs,(Mem.set_ne h9.2.symm).trans hbb,hn.1,by dsimp only;rw[List.length_append];simp;omega,hn.2,?_⟩,by dsimp only;omega,⟨⟨rfl,?_,rfl,rfl,rfl,trivial⟩,trivial,rfl,rfl⟩⟩
  ·dsimp only
   rw[List.map_append,List.map_cons,List.map_nil,ee]
   exact hrow
  ·dsimp only
   rw[List.take_add_one,hdi,Option.toList_some]
   exact hsub.append (List.Sublist.refl _)
  ·dsimp only;rw[List.length_append];rfl
 ·obtain ⟨i, rfl⟩ : ∃ k, i = k + 1 := ⟨i - 1, by omega⟩
  have hit2:i<l.length:=by omega
  have w_:=hP2.at hdn hit2
  obtain⟨q,eq,hsq⟩:=w_
  have hqi:=hSat i hit2
  refine oIn [.slice (some ⟨b,0,none⟩) l.length c] rfl (bJ hrs) ?_
  refine nEq (x:=(i:Int)) (by rw[aA (by omega) (by omega)];omega) ?_
  refine rX i rfl hit2 ?_
  refine rdO hbb hP2.els (by simpa[hdn]using hit2) ((oD (by omega)).trans eq) ?_
  refine cGv (dD hsq hre) ?_
  refine aL (fun hc=>?_) (fun hc=>?_)
  ·have hnew : ∀ x ∈ S.take (i + 1), dC x d'[i + 1]!.1 < 0 := qCi hSS hei hqi hc
   generalize i+1=i at*
   intro r36
   refine fM _ (List.length_map ..) hro ?_ ?_ fun b9 c9 o hrow hor=>?_
   ·show(acc.length+1)*40≤_;omega
   ·exact Nat.le_trans (m:=2000000000) (show acc.length+1≤_ by omega) (by decide)
   have hn:=hnext hnew
   have h9:b9≠r5∧b9≠b:=by
    rcases hor with rfl|h9
    ·exact⟨hn5,hnb⟩
    ·have h91 : h b9 = none := h9.1
     refine⟨fun e=>?_,fun e=>?_⟩
     ·rw[e,hrs]at h91;cases h91
     ·rw[e,hbb]at h91;cases h91
   refine aB (by omega) (by omega) ⟨(i+1,b9,c9,acc++[d'[i]!],_),⟨by dsimp only;omega,?_,hap.set (kA hro hap hor),h9.1,h9.2,(Mem.set_ne h9.1.symm).trans hrs,(Mem.set_ne h9.2.symm).trans hbb,hn.1,by dsimp only;rw[List.length_append];simp;omega,hn.2,?_⟩,by dsimp only;omega,⟨⟨rfl,?_,rfl,rfl,rfl,trivial⟩,trivial,rfl,rfl⟩⟩
   ·dsimp only
    rw[List.map_append,List.map_cons,List.map_nil,ee]
    exact hrow
   ·dsimp only
    rw[List.take_add_one,hdi,Option.toList_some]
    exact hsub.append (List.Sublist.refl _)
   ·dsimp only;rw[List.length_append];rfl
  ·refine aB (by omega) (by omega) ⟨(i + 1 + 1, b', c', acc, h), ⟨by dsimp only; omega, hro, hap, hn5, hnb, hrs, hbb, hasc, by dsimp only; omega, fun x => ?_, hsub.trans (by rw [List.take_add_one (i := i + 1)]; exact List.sublist_append_left _ _)⟩, by dsimp only; omega, ⟨⟨rfl, rfl, rfl, rfl, rfl, trivial⟩, trivial, rfl, rfl⟩⟩
   dsimp only
   rw[hmem,htk,←(cmpF_ord.zero _ _).1 hc,List.take_add_one,hqi]
   simp
theorem qJk{l l':List FE}(h:∃dl:List FE,dl.Perm l∧l'.Sublist dl):∀p∈l',p∈l:=fun p hp=>by
 obtain⟨dl,h1,h2⟩:=h
 exact h1.mem_iff.1 (h2.subset hp)
theorem FElts.zip:∀{L:List F} {vs:List Value},Rows μ 2 ((L.map F.fc).map Fc.d) vs→FElts μ (L.zip vs)
 |[],_,_=>fun p hp=>by simp at hp
 |x::L,_,.cons h _ r=>fun p hp=>by
  rcases List.mem_cons.1 hp with rfl|hp
  ·exact h
  ·exact FElts.zip r p hp
theorem FElts.rows:∀{l:List FE},FElts μ l→Rows μ 2 (((l.map Prod.fst).map F.fc).map Fc.d) (l.map Prod.snd)
 |[],_=> .nil
 |p::l,h=> .cons (h p (by simp)) (Fc.d_n _) (FElts.rows fun q hq=>h q (List.mem_cons_of_mem _ hq))
theorem qOv{L:List F}{vs:List Value}(h:L.length=vs.length):(L.zip vs).map Prod.fst=L:=List.map_fst_zip (by omega)
theorem qOw{L:List F}{vs:List Value}(h:L.length=vs.length):(L.zip vs).map Prod.snd=vs:=List.map_snd_zip (by omega)
theorem qLv{H:Mem}{L:List F}{r c:Nat}{ys:List Value}(hap:Apart μ H)(hro:RowO H r c 41 2 ys)(hrows:Rows μ 2 ((L.map F.fc).map Fc.d) ys)(hn:L.length≤100000000):
  SpecH Tryz.prog 63 [.slice (some ⟨r,0,none⟩) L.length c] μ H fun v _ H'=>∃r' c' ys',v= .slice (some ⟨r',0,none⟩) (lI L).length c'∧RowO H' r' c' 41 2 ys'∧Rows μ 2 (((lI L).map F.fc).map Fc.d) ys':=by
 have hyl:L.length=ys.length:=by have:=hrows.len;simpa using this
 have hE:=FElts.zip hrows
 have hl:(L.zip ys).length=L.length:=by rw[List.length_zip];omega
 have hsrc:lW (μ.join H) (some ⟨r,0,none⟩) L.length 2 ys:=by
  obtain⟨cs,h1,h2,h3,h4,h5,h6⟩:=hro
  refine⟨hyl.symm,h4,.inr ⟨_,rfl,fun j v hj=>?_⟩⟩
  have hlt:=(List.getElem?_eq_some_iff.1 hj).1
  have hf:(ys.flatMap aD).length=ys.length*2:=eP ys fun y hy=>(h4 y hy).1
  rw[←h6,List.getElem?_take,if_pos (by omega)]at hj
  rw[Addr.add_lit',Nat.zero_add]
  simp only[Mem.cell,Mem.le_join_right hap _ _ h1]
  simpa using hj
 have:=wI (l:=L.zip ys) (base:=some ⟨r,0,none⟩) (cap:=c) (by rw[hl,qOw hyl];exact hsrc) (hE.mono (Mem.le_join _ _)) (by omega)
 rw[hl]at this
 refine(Spec.lendOwn (R':=fun v g _=>∃l':List FE,(∀p∈l',p∈L.zip ys)∧l'.map Prod.fst=lI L∧∃b c,v= .slice (some ⟨b,0,none⟩) (l'.map Prod.snd).length c∧RowO g b c 41 2 (l'.map Prod.snd)) hap this fun v μ1 hle hR=>?_).weaken fun v μ' H' hle hap' hR=>?_
 ·obtain ⟨l', h1, h2, bb, cc, g, rfl, hro, hg, hnew⟩ := hR
  rw[qOv hyl]at h2
  exact⟨g,hg,hnew,l',qJk h1,h2,bb,cc,rfl,hro⟩
 ·obtain ⟨g, μ1, ⟨l', h1, h2, b, c', rfl, hro'⟩, hle1, hparts, rfl⟩ := hR
  have hE':FElts μ l':=fun p hp=>hE p (h1 p hp)
  have hr:=hE'.rows
  rw[h2]at hr
  have e:(l'.map Prod.snd).length=(lI L).length:=by rw[List.length_map,←h2,List.length_map]
  rw[e]
  refine⟨b,c',_,rfl,?_,hr⟩
  obtain⟨cs,k1,k2⟩:=hro'
  exact⟨cs,hparts.right _ _ k1,k2⟩
end
end Go.Vx
namespace Go.Vx
open Go.Proofs Classical
theorem qCr{L:List F}(h:Asc3 dC L){i j:Nat}{x y:F}(hij:i<j)(hx:L[i]? =some x)(hy:L[j]? =some y):dC x y<0:=by
 have w_:=List.getElem?_eq_some_iff.1 hx
 obtain⟨h1,rfl⟩:=w_
 have w_:=List.getElem?_eq_some_iff.1 hy
 obtain⟨h2,rfl⟩:=w_
 exact List.pairwise_iff_getElem.1 h i j h1 h2 hij
def qBc(L:List F)(f:F)(i:Int):Prop:=∃x,L[i.toNat]? =some x∧0≤dC x f
section
variable {μ:Mem}
theorem qEy{r:Nat}{x y:Value}{ty:TypeId}(h:μ r=some (.cells #[x,y] ty (0,0))):∀j v,[x,y][j]? =some v→μ.cell ((⟨r,0,none⟩:Addr).add j)=some v:=fun j v hj=>by
 match j,hj with
 |0,hj=>cases hj;simp[Mem.cell,Addr.add_lit',h]
 |1,hj=>cases hj;simp[Mem.cell,Addr.add_lit',h]
theorem xO{L:List F}{f:F}{b:Option Addr}{c i r1 r2:Nat}{p:Fc.P}(hs:Sl μ 2 b L.length ((L.map F.fc).map Fc.d))(hf:RepV μ f.fc.d (.agg #[.string f.rel,.slice p.1 f.args.length p.2]))
  (h1:μ r1=some (.cells #[.slice b L.length c] 29 (0,0))) (h2:μ r2=some (.cells #[.string f.rel,.slice p.1 f.args.length p.2] 41 (0,0))) (hi:i<L.length):
  aM Tryz.prog 136 [.int .i64 i,.pointer (some ⟨r1,0,none⟩),.pointer (some ⟨r2,0,none⟩)] μ (.bool (decide (qBc L f i))):=by
 have w_:=aSo (l:=L) (i:=i) hi
 obtain⟨x,hx⟩:=w_
 have w_:=F.elem hs hx
 obtain⟨ad,q,hel,hrx,_⟩:=w_
 refine Spec.mk Tryz.func136 (by kernel_rfl) ?_
 refine bN [.slice b L.length c] rfl (bJ h1) ?_
 refine eIn hel ?_
 refine bN [.string f.rel,.slice p.1 f.args.length p.2] rfl (qEy h2) ?_
 refine cGv (dD hrx hf) ?_
 refine rGv (isI ?_) rfl
 constructor
 ·intro h;exact⟨x,hx,h⟩
 ·rintro ⟨y, hy, h⟩
  have hy:L[i]? =some y:=hy
  rw[hx]at hy;cases hy;exact h
theorem uE{L:List F}{f:F}{b:Option Addr}{c:Nat}{w:Value}(hL:Asc3 dC L)(hn:L.length≤1000000000)(hs:Sl μ 2 b L.length ((L.map F.fc).map Fc.d))(hf:RepV μ f.fc.d w):
  aM Tryz.prog 64 [.slice b L.length c,w] μ (.bool (decide (f∈L))):=by
 have hf0:=hf
 have w_:=F.inv hf
 obtain⟨p,rfl,hfs⟩:=w_
 refine Spec.forget (Spec.mk Tryz.func64 (by kernel_rfl) ?_)
 intro r1 r2
 refine aS [0,1] ?_
 intro μ1 hle1 hno1 hat1 μ2 hle2 hno2 hat2
 have hs2:=(hs.mono hle1).mono hle2
 have hf2:=(hf0.mono hle1).mono hle2
 have e1:μ2 r1=some (.cells #[.slice b L.length c] 29 (0,0)):=hle2 _ _ hat1
 refine bM (qAv (p:=qBc L f) hn fun i hi=>xO hs2 hf2 e1 hat2 hi) fun v μ3 hle3 hR=>?_
 obtain⟨⟨i,rfl,g1,g2,g3⟩,rfl⟩:=hR
 have low:∀(j:Nat),j<i→L[j]?≠some f:=fun j hj hb=>by
  have w_:=aSo (l:=L) (i:=i-1) (by omega)
  obtain⟨y,hy⟩:=w_
  refine g3 (i-1) (by omega) ⟨y,hy,?_⟩
  rcases Nat.lt_or_ge j (i-1)with h|h
  ·have := qCr hL h hb hy
   have:=(cmpF_ord.anti f y).1 this
   omega
  ·obtain rfl : j = i - 1 := by omega
   rw[hb]at hy;cases hy
   have:=(cmpF_ord.zero f f).2 rfl
   omega
 have none:(∀x,L[i]? =some x→dC x f≠0)→f∉L:=fun h hm=>by
  have w_:=List.mem_iff_getElem?.1 hm
  obtain⟨j,hj⟩:=w_
  rcases Nat.lt_or_ge j i with h1|h1
  ·exact low j h1 hj
  ·have hjl := (List.getElem?_eq_some_iff.1 hj).1
   have w_:=aSo (l:=L) (i:=i) (by omega)
   obtain⟨x,hx⟩:=w_
   have w_:=g2 (by omega)
   obtain⟨x',hx',h2⟩:=w_
   have hx':L[i]? =some x':=hx'
   rw[hx]at hx';cases hx'
   have h4:=h x hx
   rcases Nat.eq_or_lt_of_le h1 with h3|h3
   ·subst h3;rw[hj]at hx;cases hx;exact h4 ((cmpF_ord.zero f f).2 rfl)
   ·have:=qCr hL h3 hx hj;omega
 refine bN [.slice b L.length c] rfl (bJ e1) ?_
 refine ifd (fun h=>?_) (fun h=>?_)
 ·have w_ := aSo (l := L) (i := i) (by omega)
  obtain⟨x,hx⟩:=w_
  have w_:=F.elem hs2 hx
  obtain⟨ad,q,hel,hrx,_⟩:=w_
  refine bN [.slice b L.length c] rfl (bJ e1) ?_
  refine eIn hel ?_
  refine bN [.string f.rel,.slice p.1 f.args.length p.2] rfl (qEy hat2) ?_
  refine cGv (dD hrx hf2) ?_
  refine rPl (isI ?_)
  constructor
  ·intro e;rw[←(cmpF_ord.zero _ _).1 e];exact mAt hx
  ·intro hm
   refine Classical.byContradiction fun k=>none (fun y hy=>?_) hm
   rw[hx]at hy;cases hy;exact k
 ·refine rPl (isF (none fun x hx => ?_))
  have:=(List.getElem?_eq_some_iff.1 hx).1
  omega
end
section
variable {μ:Mem}
end
end Go.Vx
namespace Go.Vx
open Go.Proofs Classical
theorem fQ{p:Pg}{u:List Tm}{rs:List Ru}(h:bX p u=some rs):rs.length≤2000∧∀r∈rs,RuOk p r:=by
 have hok:=kI h
 rw[bX,if_pos hok,cI]at h
 split at h
 ·rename_i hw
  cases h
  refine⟨hw.2,fun r hr=>?_⟩
  have w_:=List.mem_flatMap.1 hr
  obtain⟨rel,hrel,hr⟩:=w_
  have w_:=List.mem_iff_getElem?.1 hrel
  obtain⟨k,hk⟩:=w_
  have hro:=hok.1.2 k rel hk
  rw[cD]at hr
  split at hr
  ·simp at hr
  ·rename_i L hL
   rw[aY,List.mem_flatMap]at hr
   obtain⟨i,hi,hr⟩:=hr
   rw[List.mem_range]at hi
   have w_:=aSo (l:=L) (i:=i) hi
   obtain⟨c,hc⟩:=w_
   have ec:L.getD i []=c:=by rw[List.getD_eq_getElem?_getD,hc];rfl
   rw[ec,bI,List.mem_filterMap]at hr
   obtain⟨w,-,hr⟩:=hr
   rw[dY]at hr
   split at hr
   ·rename_i hokg
    cases hr
    have hG:∀g∈c,ClG g:=fun g hg=>ClG.of hok.1 hk hL (mAt hc) hg
    have w_:=hok.2.lift
    obtain⟨U,hU,hUg,hUl⟩:=w_
    have e1:u.map Tm.toT=U:=by rw[hU,gO]
    rw[e1]
    have h1:=hok.2.pos
    have har0:=hro.ar0
    have har4:=hro.ar4
    have hlo0:=hro.lo0
    have hlen:((dR U (rel.arity+rel.locals).toNat w).take rel.arity.toNat).length=rel.arity.toNat:=by
     rw[List.length_take,gG];omega
    refine⟨⟨⟨k,rel,hro.at_,hk,?_⟩,fun t ht=>?_⟩,?_,wB hG,Nat.le_trans uJ (Nat.le_trans ((Gl.cl_bnd _ hL).1 c (mAt hc)) hro.size),fun f hf a ha=>(hUg a ((okG_iff.1 (by rw[e1]at hokg;exact hokg)).2.1 f hf a ha)).1⟩
    ·show rel.arity = (((dR U (rel.arity + rel.locals).toNat w).take rel.arity.toNat).map T.tm).length
     rw[List.length_map,hlen];omega
    ·have w_ := List.mem_map.1 ht
     obtain⟨x,hx,rfl⟩:=w_
     have hx:=mR U (by omega) _ _ x (List.mem_of_mem_take hx)
     exact⟨T.ok.tm (hUg x hx).1,by rw[T.toT_tm];exact(hUg x hx).2⟩
    ·show ((dR U (rel.arity + rel.locals).toNat w).take rel.arity.toNat).length ≤ 4
     rw[hlen];omega
   ·cases hr
 ·cases h
theorem FactFits.wd{p:Pg}(hp:p.Ok){f:Fc}(h:FactFits p f):f.d.wd:=by
 have hl:=h.lift
 obtain⟨⟨k,r,h1,h2,h3⟩,_⟩:=h
 have w_:=gA (p:=p) (s:=f.rel) (by omega)
 obtain⟨k',r',e1,e2,e3⟩:=w_
 have hn:=(hp.2 k' r' e2).name
 rw[e3]at hn
 rw[Fc.d_eq]
 refine⟨Nat.le_trans hn.2.2.1 (by decide),?_,trivial⟩
 have e:f.args=f.f.args.map T.tm:=(congrArg Fc.args hl.1).symm
 rw[e]
 exact mU fun a ha=>(hl.2 a ha).1.1
theorem FsOk.lift{p:Pg}{L:List F}(h:FsOk p L):∀f∈L.map F.fc,FactFits p f:=fun f hf=>by
 have w_:=List.mem_map.1 hf
 obtain⟨x,hx,rfl⟩:=w_
 exact h x hx
theorem qGy{p:Pg}{rs:List Ru}{base:List F}(hr:∀r∈rs,RuOk p r)(hb:FsOk p base):FsOk p (lfp rs base):=fun f hf=>by
 cases mem_lfp.1 hf with
 |base h=>exact hb _ h
 |rule h _=>exact(hr _ h).head
theorem AscF.of{L:List F}(h:Asc3 dC L)(n:Nat):AscF L n:=fun j x y _ hx hy=>qCr h (by omega) hx hy
section
variable {μ:Mem}
theorem fcs_sl{l:List Fc}{b:Option Addr}{c:Nat}(h:RepV μ (.sl 2 (l.map Fc.d)) (.slice b l.length c)):Sl μ 2 b l.length (l.map Fc.d):=by
 have w_:=Rep.sl h
 obtain⟨b',c',e,hs⟩:=w_
 have w_:=Value.slice.inj e
 obtain⟨rfl,_,_⟩:=w_
 rw[List.length_map]at hs
 exact hs
theorem oT{f:F}{v:Value}(hf:RepV μ f.fc.d v)(hl:f.args.length≤1000000):Spec Tryz.prog 102 [v] μ fun v μ'=>Fresh μ μ' f.fc.d v:=by
 have w_:=F.inv hf
 obtain⟨p,rfl,hfs⟩:=w_
 refine Spec.mk Tryz.func102 (by kernel_rfl) ?_
 intro r1 r2
 refine cPl (jR hfs hl) fun v1 μ1 hle1 hR=>?_
 have w_:=Rep.sl hR.rep
 obtain⟨b,c,rfl,-⟩:=w_
 refine rPl ?_
 have:=(FreshS.str (n:=f.rel) (FreshS.cons hR hle1 (Mem.Le.refl _) FreshS.nil)).st
 exact this
theorem qS{L:List F}{v:Value}(h:FsV μ L v)(hn:L.length≤10000000)(hl:∀f∈L,f.args.length≤1000000):
  Spec Tryz.prog 59 [v] μ fun v μ'=>Fresh μ μ' (.sl 2 ((L.map F.fc).map Fc.d)) v:=by
 have w_:=FsV.sl h
 obtain⟨base,cap,rfl,-,hsl⟩:=w_
 refine Spec.mk Tryz.func59 (by kernel_rfl) ?_
 intro r6
 refine lIn (fun p:Nat×Option Nat×Nat×List Value×Mem=>p.1≤L.length∧μ.Le p.2.2.2.2∧Grown 2 μ p.2.2.2.2 (((L.take p.1).map F.fc).map Fc.d) p.2.2.2.1)
  (fun(i,b,c,ys,μ')=>⟨[(3,.row 0 b ys.length c),(7,.val (.slice base L.length cap)),(8,.val (.int .i64 L.length)),(9,.val (.int .i64 i))],[(0,some (.row b c 41 2 ys))],1,μ',Mem.nil⟩) (fun p=>L.length-p.1)
  (0,some r6,0,[],μ) ⟨Nat.zero_le _,Mem.Le.refl _,Grown.nil _ _ _⟩ (fun(_,_,_,_,_)=>⟨rfl,rfl⟩) ⟨⟨rfl,rfl,rfl,rfl,trivial⟩,⟨rfl,trivial⟩,rfl,rfl⟩ ?_
 rintro⟨i,b,c,ys,μ'⟩ ⟨hi,hle,hgr⟩
 dsimp only at hi hle hgr
 have hyl:=hgr.len
 simp only[List.length_map,List.length_take]at hyl
 refine ifd (fun hlt=>?_) (fun hlt=>?_)
 ·have w_ := aSo (l := L) (i := i) (by omega)
  obtain⟨f,hf⟩:=w_
  have w_:=F.elem (hsl.mono hle) hf
  obtain⟨ad,p,hel,hrf,_⟩:=w_
  refine eIn hel ?_
  intro r5
  refine cPl (oT hrf (hl f (mAt hf))) fun v1 μ1 hle1 hR=>?_
  have w_:=F.inv hR.rep
  obtain⟨q,rfl,_⟩:=w_
  intro r16
  refine gIn ?_ ?_ fun b' c' _=>?_
  ·show(ys.length+1)*40≤_;omega
  ·exact Nat.le_trans (m:=100000000) (show ys.length+1≤_ by omega) (by decide)
  refine aB (by omega) (by omega) ⟨(i+1,b',c',_,μ1),⟨by dsimp only;omega,hle.trans hle1,?_⟩,by dsimp only;omega,⟨⟨rfl,rfl,rfl,rfl,trivial⟩,⟨rfl,trivial⟩,rfl,rfl⟩⟩
  dsimp only
  rw[List.take_add_one,hf,Option.toList_some]
  simp only[List.map_append,List.map_cons,List.map_nil]
  exact hgr.snoc hle hR hle1 (Fc.d_n _)
 ·obtain rfl : i = L.length := by omega
  rw[List.take_length]at hgr
  refine rFz [0] fun μ2 hle2 hno hrow=> .inl ?_
  exact hgr.fresh hle hle2 hno hrow (Nat.le_trans (m:=100000000) (by omega) (by decide))
end
end Go.Vx
namespace Go.Vx
open Go.Proofs Classical
def FsB(L:List F):Prop:=∀f∈L,f.args.length≤4∧∀a∈f.args,a.ok
def resF(o:Option (List F)):List Fc:=(o.getD []).map F.fc
end Go.Vx
namespace Go.Vx
open Go.Proofs Classical
section
variable {μ:Mem}
theorem qUe{f:Fc}{v:Value}{b:Option Nat}{c:Nat}(hf:RepV μ f.d v)(hat:RowAt μ b c 2 [v]):RepV μ (.sl 2 ([f].map Fc.d)) (.slice (b.map fun r=>⟨r,0,none⟩) [f].length c):=
 Rows.sl hat (Rows.one hf (Fc.d_n _)) (show 1≤maxLen by decide)
end
end Go.Vx
namespace Go.Vx
open Go.Proofs Classical
noncomputable def qLu(p:Pg)(u:List Tm)(f:Fc):Option (List F):=if qOx p u [f]then(bX p u).map fun rs=>qEk rs f.f else none
theorem qNd{p:Pg}{rs:List Ru}(h:∀r∈rs,RuOk p r):(rs.flatMap Ru.pos).length≤60*rs.length:=by
 induction rs with
 |nil=>simp
 |cons r rs ih=>
  have h1:=(h r (by simp)).pcnt
  have h2:=ih fun x hx=>h x (List.mem_cons_of_mem _ hx)
  simp only[List.flatMap_cons,List.length_append,List.length_cons];omega
theorem fit_B{p:Pg}(hp:p.Ok){f:Fc}(h:FactFits p f):f.f.args.length≤4∧∀a∈f.f.args,a.ok:=by
 have h1:=h.len hp
 refine⟨by rw[Fc.f];simpa using h1,fun a ha=>(h.lift.2 a ha).1⟩
theorem relF_B{p:Pg}{rs:List Ru}{f:F}(hr:∀r∈rs,RuOk p r)(hf:f.args.length≤4∧∀a∈f.args,a.ok):FsB (qEk rs f)∧(qEk rs f).length≤60*rs.length+1:=by
 have hI:RvI rs f (qEk rs f):=⟨qR _,by rw[qEk,mC,List.mem_filter,decide_eq_true_eq];exact⟨by simp,.self⟩,fun x hx=>by
  rw[qEk,mC,List.mem_filter,decide_eq_true_eq]at hx;exact hx.2⟩
 refine⟨fun x hx=>?_,?_⟩
 ·cases hI.der x hx with
  |self=>exact hf
  |rule h _ hy=>exact⟨(hr _ h).plen _ hy,(hr _ h).pok _ hy⟩
 ·have := hI.len
  have:=qNd hr
  omega
structure RvS (rs:List Ru) (f:F) (L0 L:List F) (b:Bool) (C:Prop):Prop where
 inv:RvI rs f L
 more:b=true→L0.length<L.length
 same:b=false→L=L0∧C
def qOf(rs:List Ru)(L:List F)(i:Nat):Prop:=∀r∈rs.take i,r.head∈L→∀y∈r.pos,y∈L
theorem RvS.len{rs:List Ru}{f:F}{L0 L:List F}{b:Bool}{C:Prop}(h:RvS rs f L0 L b C):L0.length≤L.length:=by
 cases b with
 |false=>rw[(h.same rfl).1];exact Nat.le_refl _
 |true=>exact Nat.le_of_lt (h.more rfl)
section
variable {μ:Mem}
theorem qKh{μ':Mem}:Fresh μ μ' (.sl 2 (([]:List Fc).map Fc.d)) (.slice none 0 0):=⟨Mem.nil,Own.nilSl 2,(fun _ _ h=>nomatch h),fun _ h=>absurd rfl h⟩
theorem ownFs{h:Mem}{r c:Nat}{ys:List Value}{L:List F}(hap:Apart μ h)(hro:RowO h r c 41 2 ys)(hrows:Rows μ 2 ((L.map F.fc).map Fc.d) ys):FsV (μ.join h) L (.slice (some ⟨r,0,none⟩) L.length c):=by
 have:=hro.rep (Mem.le_join_right hap) (hrows.mono (Mem.le_join _ _))
 have hl:=hrows.len
 simp only[List.length_map]at hl
 rw[hl];exact this
theorem ownSl{h:Mem}{r c:Nat}{ys:List Value}{L:List F}(hap:Apart μ h)(hro:RowO h r c 41 2 ys)(hrows:Rows μ 2 ((L.map F.fc).map Fc.d) ys):Sl (μ.join h) 2 (some ⟨r,0,none⟩) L.length ((L.map F.fc).map Fc.d):=by
 have w_:=FsV.sl (ownFs hap hro hrows)
 obtain⟨b,c',e,_,hs⟩:=w_
 have w_:=Value.slice.inj e
 obtain⟨rfl,_,_⟩:=w_
 exact hs
theorem qHw{H:Mem}{L:List F}{f:F}{r c:Nat}{ys:List Value}{w:Value}(hap:Apart μ H)(hro:RowO H r c 41 2 ys)(hrows:Rows μ 2 ((L.map F.fc).map Fc.d) ys)(hL:Asc3 dC L)(hn:L.length≤1000000000)(hf:RepV μ f.fc.d w):
  Spec Tryz.prog 64 [.slice (some ⟨r,0,none⟩) L.length c,w] (μ.join H) fun v μ'=>v= .bool (decide (f∈L))∧μ'=μ.join H:=
 uE hL hn (ownSl hap hro hrows) (RepV.mono (Mem.le_join _ _) hf)
theorem putOwn{L:List F}{r c:Nat}{H:Mem}{ys:List Value}{f:F}{w:Value}(hap:Apart μ H)(hro:RowO H r c 41 2 (ys++[w]))(hrows:Rows μ 2 ((L.map F.fc).map Fc.d) ys)(hn:L.length≤1000000)(hf:RepV μ f.fc.d w):
  SpecH Tryz.prog 63 [.slice (some ⟨r,0,none⟩) (L.length+1) c] μ H fun v _ H'=>∃r' c' ys',v= .slice (some ⟨r',0,none⟩) (jM L f).length c'∧RowO H' r' c' 41 2 ys'∧Rows μ 2 (((jM L f).map F.fc).map Fc.d) ys':=by
 have hr2:Rows μ 2 (((L++[f]).map F.fc).map Fc.d) (ys++[w]):=by
  simp only[List.map_append,List.map_cons,List.map_nil]
  exact hrows.append (Rows.one hf (Fc.d_n _))
 have:=qLv hap hro hr2 (by simp;omega)
 have e:lI (L++[f])=jM L f:=zK fun x=>by
  rw[List.mem_append,List.mem_singleton,List.mem_cons];exact Or.comm
 rw[e,List.length_append]at this
 exact this
set_option maxHeartbeats 2000000 in
theorem yQ{p:Pg}{u:List Tm}{f:Fc}{v w:Value}{ub:Option Addr}{uc:Nat}(hp:RepV μ p.d v)(hu:Sl μ 4 ub u.length (u.map Tm.d))(hf:RepV μ f.d w):
  Spec Tryz.prog 34 [v,.slice ub u.length uc,w] μ fun v μ'=>Fresh μ μ' (.sl 2 ((resF (qLu p u f)).map Fc.d)) v:=by
 have hp0:=hp
 have w_:=Pg.inv hp
 obtain⟨q,rfl,hrl⟩:=w_
 have hf0:=hf
 have w_:=Fc.inv hf
 obtain⟨qf,rfl,_⟩:=w_
 refine Spec.mkO [32] Tryz.func34 (by kernel_rfl) ?_
 intro r3 r5
 refine cPl (lT hp0 hu) fun v1 μ1 hle1 hR=>?_
 have hpos1:∀{rs},bH p u=some rs→p.Pos∧bX p u=some rs:=fun {rs} h=>by
  rw[bH]at h
  split at h
  ·rename_i k;exact⟨k,h⟩
  ·cases h
 have nilr:qLu p u f=none→Fresh μ μ1 (.sl 2 ((resF (qLu p u f)).map Fc.d)) (.slice none 0 0):=fun e=>by
  rw[e];exact qKh
 cases hP:bH p u with
 |none=>
  rw[hP]at hR
  obtain rfl:=hR
  refine iIn (fun _=>rPl (nilr ?_)) (fun h=>nomatch h)
  rw[qLu,if_neg fun k=>k.1 (by rw[bH,if_pos k.2.1]at hP;exact hP)]
 |some rs=>
 rw[hP]at hR
 obtain⟨tv,rfl,hR⟩:=hR
 have hR:RsV μ1 rs tv:=hR
 have w_:=hpos1 hP
 obtain⟨hpos,hL⟩:=w_
 have w_:=RsV.sl hR
 obtain⟨b1,c1,rfl,hrs⟩:=w_
 have w_:=fQ hL
 obtain⟨hrl2,hro⟩:=w_
 have hok:=kI hL
 have w_:=hok.2.lift
 obtain⟨U,hUe,hUg,hUl⟩:=w_
 have hu':Sl μ 4 ub U.length ((U.map T.tm).map Tm.d):=by have:=hu;rw[hUe,List.length_map]at this;exact this
 have huc:U.length=u.length:=by rw[hUe,List.length_map]
 refine iIn (fun h=>nomatch h) (fun _=>?_)
 intro r27
 refine aS [2] ?_
 intro μ2 hle2 hno2 hat2
 have hle12:=hle1.trans hle2
 have hone:=qUe (RepV.mono hle12 hf0) hat2
 have hbf:=qLm (uc:=uc) (fc:=1) (hp0.mono hle12) (hu'.mono hle12) (fcs_sl hone)
 rw[huc]at hbf
 refine bM (R:=fun v μ'=>v=_∧μ'=μ2) hbf fun v3 μ3 hle3 hR3=>?_
 obtain⟨rfl,e30⟩:=hR3
 obtain rfl:=e30.symm
 have hBiff:(∀x∈[f],FactFits p x)∧(∀x∈[f].map Fc.f,∀a∈x.args,a∈U)∧AscF ([f].map Fc.f) [f].length↔qOx p u [f]:=by
  rw[qOx,hUe,gO,←hUe]
  exact⟨fun k=>⟨by rw[hL];exact(fun h=>nomatch h),hpos,k⟩,fun k=>k.2.2⟩
 refine aL (fun h=>rPl ?_) (fun hfit=>?_)
 ·have e : qLu p u f = none := by rw [qLu, if_neg fun k => h (hBiff.2 k)]
  rw[e];exact qKh
 have hBP:=hBiff.1 hfit
 have hff:=hBP.2.2.1 f (by simp)
 have hf1:=hff.lift
 have hfR:RepV μ2 f.f.fc.d (.agg #[.string f.rel,.slice qf.1 f.args.length qf.2]):=by rw[hf1.1];exact RepV.mono hle12 hf0
 have hres:qLu p u f=some (qEk rs f.f):=by rw[qLu,if_pos hBP,hL];rfl
 rw[hres]
 have hbnd:=qNd hro
 have hrs2:=hrs.mono hle2
 clear nilr hbf
 intro r32 hm32 ho32
 have hstart:RvI rs f.f [f.f]:=⟨List.pairwise_singleton _ _,by simp,fun x hx=>by rw[List.mem_singleton.1 hx];exact .self⟩
 generalize hB:(rs.flatMap Ru.pos).length+1=B
 refine lIn (fun z:List F×Bool×Nat×Nat×List Value×Mem×Mem=>RvI rs f.f z.1∧(z.2.1=false→qOf rs z.1 rs.length)∧μ2.Le z.2.2.2.2.2.1∧Apart z.2.2.2.2.2.1 z.2.2.2.2.2.2∧RowO z.2.2.2.2.2.2 z.2.2.1 z.2.2.2.1 41 2 z.2.2.2.2.1∧Rows z.2.2.2.2.2.1 2 ((z.1.map F.fc).map Fc.d) z.2.2.2.2.1)
  (fun(L,b,r,c,ys,μ',h)=>⟨[(7,.val (.slice b1 rs.length c1)),(9,.val (.slice (some ⟨r,0,none⟩) L.length c)),(10,.val (.bool b))],[],3,μ',h⟩) (fun z=>2*(B-z.1.length)+(if z.2.1=true then 1 else 0))
  ([f.f],true,r32,1,[.agg #[.string f.rel,.slice qf.1 f.args.length qf.2]],μ2,_) ⟨hstart,(fun h=>nomatch h),Mem.Le.refl _,(eA μ2).set hm32,⟨_,Mem.set_at _ _ _,Nat.le_refl _,show 1≤maxLen by decide,by simp[aD,Value.oneCell'],rfl,rfl⟩,Rows.one hfR (Fc.d_n _)⟩ (fun(_,_,_,_,_,_,_)=>⟨rfl,rfl⟩) ⟨⟨rfl,rfl,rfl,trivial⟩,trivial,rfl,rfl⟩ ?_
 rintro⟨L,b,r,c,ys,μ4,h4⟩ ⟨hI,hdone,hle4,hap4,hro4,hrows4⟩
 dsimp only at hI hdone hle4 hap4 hro4 hrows4
 have hLl:=hI.len
 refine iIn (fun hb=>?_) (fun hb=>?_)
 rotate_left
 ·have e := hI.done fun r hr => hdone hb r (by rw [List.take_length]; exact hr)
  have hB4:=relF_B hro (fit_B hok.1 hff)
  refine qTj hap4 (qS (ownFs hap4 hro4 hrows4) (by omega) fun x hx=>Nat.le_trans (hB4.1 x (by rw[←e];exact hx)).1 (by decide)) fun v5 μ5 hle5 hap5 hR5=>?_
  refine rPl ?_
  show Fresh μ μ5 (.sl 2 ((qEk rs f.f |>.map F.fc).map Fc.d)) v5
  rw[←e]
  exact hR5.mono (hle12.trans hle4) (Mem.Le.refl _)
 refine lIn (fun z:Nat×List F×Bool×Nat×Nat×List Value×Mem×Mem=>z.1≤rs.length∧RvS rs f.f L z.2.1 z.2.2.1 (qOf rs L z.1)∧μ4.Le z.2.2.2.2.2.2.1∧Apart z.2.2.2.2.2.2.1 z.2.2.2.2.2.2.2∧RowO z.2.2.2.2.2.2.2 z.2.2.2.1 z.2.2.2.2.1 41 2 z.2.2.2.2.2.1∧Rows z.2.2.2.2.2.2.1 2 ((z.2.1.map F.fc).map Fc.d) z.2.2.2.2.2.1)
  (fun(i,L',b,r,c,ys,μ',h)=>⟨[(7,.val (.slice b1 rs.length c1)),(9,.val (.slice (some ⟨r,0,none⟩) L'.length c)),(10,.val (.bool b)),(34,.val (.slice b1 rs.length c1)),(35,.val (.int .i64 rs.length)),(36,.val (.int .i64 i))],[],3,μ',h⟩) (fun z=>rs.length-z.1)
  (0,L,false,r,c,ys,μ4,h4) ⟨Nat.zero_le _,⟨hI,(fun h=>nomatch h),fun _=>⟨rfl,fun r hr=>by simp at hr⟩⟩,Mem.Le.refl _,hap4,hro4,hrows4⟩ (fun(_,_,_,_,_,_,_,_)=>⟨rfl,rfl⟩) ⟨⟨rfl,rfl,rfl,rfl,rfl,rfl,trivial⟩,trivial,rfl,rfl⟩ ?_
 rintro⟨i,L',b',r',c',ys',μ5,h5⟩ ⟨hi,hS,hle5,hap5,hro5,hrows5⟩
 dsimp only at hi hS hle5 hap5 hro5 hrows5
 have hLl':=hS.inv.len
 refine ifd (fun hlt=>?_) (fun hlt=>?_)
 rotate_left
 ·obtain rfl : i = rs.length := by omega
  refine⟨(L',b',r',c',ys',μ5,h5),⟨hS.inv,fun hb'=>by rw[(hS.same hb').1];exact(hS.same hb').2,hle4.trans hle5,hap5,hro5,hrows5⟩,?_,⟨⟨rfl,rfl,rfl,trivial⟩,trivial,rfl,rfl⟩⟩
  dsimp only
  rw[if_pos hb]
  cases b' with
  |false=>rw[(hS.same rfl).1,if_neg (by simp)];omega
  |true=>have:=hS.more rfl;rw[if_pos rfl];omega
 have w_:=aSo (l:=rs) (i:=i) (by omega)
 obtain⟨ru,hri⟩:=w_
 have w_:=Ru.elem ((hrs2.mono hle4).mono hle5) hri
 obtain⟨ad,pr,hel,hrv,hat⟩:=w_
 have hrm:=mAt hri
 refine eIn hel ?_
 intro r12
 refine qMc hap5 (qHw hap5 hro5 hrows5 hS.inv.asc (by omega) hat.head) ?_
 refine aL (fun hno=>?_) (fun hin=>?_)
 ·refine aB (by omega) (by omega) ⟨(i+1,L',b',r',c',ys',μ5,h5),⟨by dsimp only;omega,⟨hS.inv,hS.more,fun e=>⟨(hS.same e).1,lK (hS.same e).2 hri fun h=>absurd (by rw[(hS.same e).1];exact h) hno⟩⟩,hle5,hap5,hro5,hrows5⟩,by dsimp only;omega,⟨⟨rfl,rfl,rfl,rfl,rfl,rfl,trivial⟩,trivial,rfl,rfl⟩⟩
 have hder:=hS.inv.der _ hin
 have hmp:=aH hat.pos.max
 refine lIn (fun z:Nat×List F×Bool×Nat×Nat×List Value×Mem×Mem=>z.1≤ru.pos.length∧RvS rs f.f L z.2.1 z.2.2.1 (qOf rs L i∧∀y∈ru.pos.take z.1,y∈L)∧μ5.Le z.2.2.2.2.2.2.1∧Apart z.2.2.2.2.2.2.1 z.2.2.2.2.2.2.2∧RowO z.2.2.2.2.2.2.2 z.2.2.2.1 z.2.2.2.2.1 41 2 z.2.2.2.2.2.1∧Rows z.2.2.2.2.2.2.1 2 ((z.2.1.map F.fc).map Fc.d) z.2.2.2.2.2.1)
  (fun(j,L',b,r,c,ys,μ',h)=>⟨[(7,.val (.slice b1 rs.length c1)),(9,.val (.slice (some ⟨r,0,none⟩) L'.length c)),(10,.val (.bool b)),(34,.val (.slice b1 rs.length c1)),(35,.val (.int .i64 rs.length)),(36,.val (.int .i64 i)),(46,.val (.slice pr.2.2.1.1 ru.pos.length pr.2.2.1.2)),(47,.val (.int .i64 ru.pos.length)),(48,.val (.int .i64 j))],[],4,μ',h⟩) (fun z=>ru.pos.length-z.1)
  (0,L',b',r',c',ys',μ5,h5) ⟨Nat.zero_le _,⟨hS.inv,hS.more,fun e=>⟨(hS.same e).1,(hS.same e).2,by simp⟩⟩,Mem.Le.refl _,hap5,hro5,hrows5⟩ (fun(_,_,_,_,_,_,_,_)=>⟨rfl,rfl⟩) ⟨⟨rfl,rfl,rfl,rfl,rfl,rfl,rfl,rfl,rfl,trivial⟩,trivial,rfl,rfl⟩ ?_
 clear hS hap5 hro5 hrows5 hLl' hin
 rintro⟨j,L2,b2,r2,c2,ys2,μ6,h6⟩ ⟨hj,hS,hle6,hap6,hro6,hrows6⟩
 dsimp only at hj hS hle6 hap6 hro6 hrows6
 have hLl2:=hS.inv.len
 have hyl2:=hrows6.len
 simp only[List.length_map]at hyl2
 refine ifd (fun hlt2=>?_) (fun hlt2=>?_)
 rotate_left
 ·obtain rfl : j = ru.pos.length := by omega
  rw[List.take_length]at hS
  refine aB (by omega) (by omega) ⟨(i+1,L2,b2,r2,c2,ys2,μ6,h6),⟨by dsimp only;omega,⟨hS.inv,hS.more,fun e=>⟨(hS.same e).1,lK (hS.same e).2.1 hri fun _=>(hS.same e).2.2⟩⟩,hle5.trans hle6,hap6,hro6,hrows6⟩,by dsimp only;omega,⟨⟨rfl,rfl,rfl,rfl,rfl,rfl,trivial⟩,trivial,rfl,rfl⟩⟩
 have w_:=aSo (l:=ru.pos) (i:=j) (by omega)
 obtain⟨y,hy⟩:=w_
 have w_:=F.elem (hat.pos.mono hle6) hy
 obtain⟨ad2,p2,hel2,hry,_⟩:=w_
 refine eIn hel2 ?_
 intro r14
 refine qMc hap6 (qHw hap6 hro6 hrows6 hS.inv.asc (by omega) hry) ?_
 refine aL (fun hno=>?_) (fun hin=>?_)
 rotate_left
 ·refine aB (by omega) (by omega) ⟨(j+1,L2,b2,r2,c2,ys2,μ6,h6),⟨by dsimp only;omega,⟨hS.inv,hS.more,fun e=>⟨(hS.same e).1,(hS.same e).2.1,lK (hS.same e).2.2 hy (by rw[←(hS.same e).1];exact hin)⟩⟩,hle6,hap6,hro6,hrows6⟩,by dsimp only;omega,⟨⟨rfl,rfl,rfl,rfl,rfl,rfl,rfl,rfl,rfl,trivial⟩,trivial,rfl,rfl⟩⟩
 intro r58
 refine fM ys2 hyl2.symm hro6 ?_ ?_ fun b9 c9 o hrow hor=>?_
 ·show(L2.length+1)*40≤_;omega
 ·exact Nat.le_trans (m:=2000000000) (show L2.length+1≤_ by omega) (by decide)
 have hap7:=hap6.set (o:=o) (kA hro6 hap6 hor)
 refine cOw (putOwn hap7 hrow hrows6 (by omega) hry) fun v7 μ7 h7 hle7 hap7 hR7=>?_
 obtain⟨r7,c7,ys7,rfl,hro7,hrows7⟩:=hR7
 have hmore:=qTq hS.inv.asc hno
 have hll:=hS.len
 refine aB (by omega) (by omega) ⟨(j+1,jM L2 y,true,r7,c7,ys7,μ7,h7),⟨by dsimp only;omega,⟨hS.inv.ins hrm hder (mAt hy),fun _=>by show L.length<(jM L2 y).length;omega,(fun h=>nomatch h)⟩,hle6.trans hle7,hap7,hro7,hrows7.mono hle7⟩,by dsimp only;omega,⟨⟨rfl,rfl,rfl,rfl,rfl,rfl,rfl,rfl,rfl,trivial⟩,trivial,rfl,rfl⟩⟩
end
end Go.Vx
namespace Go.Vx
open Go.Proofs Classical
def fsD(L:List F):D:= .sl 2 ((L.map F.fc).map Fc.d)
noncomputable def stD(rs:List Ru)(n:Nat):List D:=(List.range (n+1)).map fun i=>fsD (stF rs i)
theorem qCl(rs:List Ru)(n:Nat):stD rs (n+1)=stD rs n++[fsD (stF rs (n+1))]:=by
 rw[stD,List.range_succ,List.map_append];rfl
theorem rP(rs:List Ru)(n:Nat):(stD rs n).length=n+1:=by rw[stD,List.length_map,List.length_range]
theorem tM(rs:List Ru)(n:Nat):(stD rs n)[n]? =some (fsD (stF rs n)):=by
 rw[stD,List.getElem?_map,List.getElem?_range (by omega)];rfl
noncomputable def gY(p:Pg)(u:List Tm):Option (List F):=(bH p u).map fun rs=>lfp rs []
noncomputable def qQd(P:List F→Value→Prop)(o:Option (List F))(v:Value):Prop:=match o with
 |none=>v= .tuple #[.slice none 0 0,.int .i64 0,.bool false]
 |some y=>∃tv,∃n:Nat,v= .tuple #[tv,.int .i64 n,.bool true]∧P y tv
theorem sC{p:Pg}{u:List Tm}{y:List F}(h:gY p u=some y):p.Ok∧FsOk p y∧y.length≤2000∧Asc3 dC y:=by
 cases hP:bH p u with
 |none=>rw[gY,hP]at h;cases h
 |some rs=>
  rw[gY,hP]at h
  cases h
  rw[bH]at hP
  split at hP
  ·rename_i hpos
   have w_:=fQ hP
   obtain⟨h1,h2⟩:=w_
   refine⟨hpos.1,qGy h2 (fun _ h=>nomatch h),?_,qCw _ _⟩
   have:=qFq rs []
   simp only[List.length_nil]at this
   show(lfp rs []).length≤2000
   omega
  ·cases hP
section
variable {μ:Mem}
set_option maxHeartbeats 1000000 in
theorem vP{rs:List Ru}{b3:Option Addr}{c3:Nat}(hr:Sl μ 6 b3 rs.length ((rs.map Ru.rd).map RuD.d))(hn:rs.length≤2000):
  Spec Tryz.prog 218 [.slice b3 rs.length c3] μ fun v μ'=>∃n,LastSt rs n∧RepV μ' (.sl 1 (stD rs n)) v:=by
 refine Spec.mk Tryz.func218 (by kernel_rfl) ?_
 intro r6 μ1 hle1 hno1 hat1 r7
 refine lIn (fun z:Nat×Option Nat×Nat×List Value×Mem=>(∀m,m<z.1→fY rs (stF rs m) []≠stF rs m)∧μ.Le z.2.2.2.2∧Rows z.2.2.2.2 1 (stD rs z.1) z.2.2.2.1)
  (fun(_,bo,co,ys,μ')=>⟨[(0,.val (.slice b3 rs.length c3)),(3,.row 1 bo ys.length co)],[(1,some (.row bo co 29 1 ys))],2,μ',Mem.nil⟩) (fun z=>rs.length+1-z.1)
  (0,some r7,1,_,μ1) ⟨(fun m h=>by omega),hle1,Rows.one (d:=fsD []) (Rows.sl (μ:=μ1) (ds:=[]) hat1 .nil (Nat.zero_le _)) rfl⟩ (fun(_,_,_,_,_)=>⟨rfl,rfl⟩) ⟨⟨rfl,rfl,trivial⟩,⟨rfl,trivial⟩,rfl,rfl⟩ ?_
 rintro⟨n,bo,co,ys,μ'⟩ ⟨hne,hle,hrows⟩
 dsimp only at hne hle hrows
 have hyl:=hrows.len
 rw[rP]at hyl
 have hsl:=nT hne
 have hrl:=(fL rs n).len
 have w_:=hrows.val (tM rs n)
 obtain⟨w,hw,hwr⟩:=w_
 have hwr:FsV μ' (stF rs n) w:=hwr
 have w_:=FsV.sl hwr
 obtain⟨b5,c5,rfl,-,hso⟩:=w_
 refine aB (by omega) (by omega) ?_
 refine aX n (by omega) (by omega) (aW _ hw ?_)
 refine cPl (zX (neg:=[]) (b2:=none) (c2:=0) (hr.mono hle) (by omega) hso qOj) fun v4 μ4 hle4 hR4=>?_
 have w_:=FsV.sl hR4
 obtain⟨b6,c6,rfl,-,-⟩:=w_
 refine ifd (fun he=>?_) (fun he=>?_)
 ·refine rFz [1] fun μ5 hle5 hno5 hat5 => .inl ⟨n, ⟨(yF cmpF_ord (fL rs n).asc (mF rs _ _) (fL rs n).sub (by omega)).symm, hne⟩, ?_⟩
  exact Rows.sl hat5 (hrows.mono (hle4.trans hle5)) (Nat.le_trans (m:=100000) (by omega) (by decide))
 ·intro r25
  refine gIn ?_ ?_ fun b' c' _=>?_
  ·show(ys.length+1)*24≤_;omega
  ·exact Nat.le_trans (m:=100000) (show ys.length+1≤_ by omega) (by decide)
  have hne':∀m,m<n+1→fY rs (stF rs m) []≠stF rs m:=fun m hm=>by
   rcases Nat.lt_or_ge m n with k|k
   ·exact hne m k
   ·obtain rfl : m = n := by omega
    intro e
    rw[e]at he
    exact he rfl
  have hs2:=nT hne'
  have hr2:=(fL rs (n+1)).len
  refine⟨(n+1,b',c',_,μ4),⟨hne',hle.trans hle4,?_⟩,by dsimp only;omega,⟨⟨rfl,rfl,trivial⟩,⟨rfl,trivial⟩,rfl,rfl⟩⟩
  dsimp only
  rw[qCl]
  exact(hrows.mono hle4).append (Rows.one (d:=fsD (stF rs (n+1))) hR4 rfl)
theorem qCk{rs:List Ru}{n:Nat}{b:Option Addr}(h:Sl μ 1 b (n+1) (stD rs n)):∃ad,∃q:Option Addr×Nat,ElemAt μ b (n+1) 1 n ad [.slice q.1 (stF rs n).length q.2]∧FsV μ (stF rs n) (.slice q.1 (stF rs n).length q.2):=by
 have w_:=h.get n (fsD (stF rs n)) (tM rs n)
 obtain⟨ad,cs,h1,h2⟩:=w_
 have h3:Rep μ (fsD (stF rs n)) cs:=h2
 have hl:=Rep.len _ _ h3
 match cs,hl with
 |[v],_=>
  have h4:FsV μ (stF rs n) v:=h3
  have w_:=FsV.sl h4
  obtain⟨b5,c5,rfl,-,_⟩:=w_
  exact⟨ad,(b5,c5),h1,h4⟩
theorem xH{rs:List Ru}{n:Nat}{v:Value}(h:RepV μ (.sl 1 (stD rs n)) v):∃b c,v= .slice b (n+1) c∧Sl μ 1 b (n+1) (stD rs n):=by
 have w_:=Rep.sl h
 obtain⟨b,c,rfl,hs⟩:=w_
 have hs2:=hs.1
 rw[rP]at hs hs2
 exact⟨b,c,by rw[rP],hs⟩
theorem tF{p:Pg}{u:List Tm}{v:Value}{ub:Option Addr}{uc:Nat}(hp:RepV μ p.d v)(hw:p.d.wd)(hu:Sl μ 4 ub u.length (u.map Tm.d))(hwu:D.wds (u.map Tm.d)):
  Spec Tryz.prog 156 [v,.slice ub u.length uc] μ fun v μ'=>match bH p u with
   |none=>v= .tuple #[.slice none 0 0,.slice none 0 0,.bool false]
   |some rs=>∃t1 t2,v= .tuple #[t1,t2,.bool true]∧RsV μ' rs t1∧∃n,LastSt rs n∧RepV μ' (.sl 1 (stD rs n)) t2:=by
 have hp0:=hp
 have w_:=Pg.inv hp
 obtain⟨q,rfl,hrl⟩:=w_
 refine Spec.mk Tryz.func156 (by kernel_rfl) ?_
 intro r2
 refine cPl (eS hp0 hw) fun v1 μ1 hle1 hR=>?_
 obtain rfl:=hR
 refine aL (fun h=>rPl (by rw[bH,if_neg h])) (fun hpos=>?_)
 refine cPl (mG (hp0.mono hle1) hw (hu.mono hle1) hwu) fun v2 μ2 hle2 hR=>?_
 rw[bH,if_pos hpos]
 cases hL:bX p u with
 |none=>
  rw[hL]at hR
  obtain rfl:=hR
  exact iIn (fun _=>rPl rfl) (fun h=>nomatch h)
 |some rs=>
 rw[hL]at hR
 obtain⟨tv,rfl,hR⟩:=hR
 have hR:RsV μ2 rs tv:=hR
 have w_:=RsV.sl hR
 obtain⟨b1,c1,rfl,hrs⟩:=w_
 refine iIn (fun h=>nomatch h) (fun _=>?_)
 refine cPl (vP hrs (fQ hL).1) fun v3 μ3 hle3 hR3=>?_
 exact rPl ⟨_,_,rfl,RepV.mono hle3 hR,hR3⟩
theorem nR{p:Pg}{u:List Tm}{v:Value}{ub:Option Addr}{uc:Nat}(hp:RepV μ p.d v)(hw:p.d.wd)(hu:Sl μ 4 ub u.length (u.map Tm.d))(hwu:D.wds (u.map Tm.d)):
  Spec Tryz.prog 85 [v,.slice ub u.length uc] μ fun v μ'=>qQd (fun y tv=>FsV μ' y tv) (gY p u) v:=by
 have hp0:=hp
 have w_:=Pg.inv hp
 obtain⟨q,rfl,hrl⟩:=w_
 refine Spec.mk Tryz.func85 (by kernel_rfl) ?_
 intro r2
 refine cPl (tF hp0 hw hu hwu) fun v1 μ1 hle1 hR=>?_
 cases hP:bH p u with
 |none=>
  rw[hP]at hR
  obtain rfl:=hR
  refine iIn (fun _=>rPl (by rw[gY,hP];rfl)) (fun h=>nomatch h)
 |some rs=>
 rw[hP]at hR
 obtain⟨t1,t2,rfl,hR1,n,hlast,hR2⟩:=hR
 have hL:gY p u=some (lfp rs []):=by rw[gY,hP];rfl
 have hk:=sC hL
 have w_:=xH hR2
 obtain⟨b2,c2,rfl,hs2⟩:=w_
 have hsl:=nT hlast.2
 rw[←hlast.eq]at hL hk
 refine iIn (fun h=>nomatch h) (fun _=>?_)
 refine aB (by omega) (by omega) ?_
 have w_:=qCk hs2
 obtain⟨ad,q2,hel,hfs⟩:=w_
 rw[show(((n+1:Nat):Int)-1)=(n:Int) by omega]
 refine eIn hel ?_
 have w_:=FsV.sl hfs
 obtain⟨b4,c4,e,-,hs4⟩:=w_
 have w_:=Value.slice.inj e
 obtain⟨e1,_,e3⟩:=w_
 rw[←e1]at hs4
 refine cPl (kK hs4 (by omega) fun f hf=>Nat.le_trans (hk.2.1.len hk.1 f hf) (by decide)) fun v4 μ4 hle4 hR4=>?_
 refine aB (by omega) (by omega) ?_
 refine rPl ?_
 rw[hL]
 exact⟨_,n,by rw[show(((n+1:Nat):Int)-1)=(n:Int) by omega],hR4⟩
end
end Go.Vx
namespace Go.Vx
open Go.Proofs Classical
def lvB(n:Nat):Nat:=if 2<n then 2*lvB (n / 2)else 1
termination_by n
decreasing_by omega
theorem qPx:lvB 4=2:=by rw[lvB,if_pos (by decide),lvB,if_neg (by decide)]
theorem xA:lvB 3=2:=by rw[lvB,if_pos (by decide),lvB,if_neg (by decide)]
theorem iO:∀n,1≤lvB n:=fun n=>by
 induction n using Nat.strongRecOn with
 |ind n ih=>
  rw[lvB]
  split
  ·have:=ih (n / 2) (by omega);omega
  ·exact Nat.le_refl _
end Go.Vx
namespace Go.Vx
open Go.Proofs Classical
theorem Pf.cnt_eq1(g:Pf):g.cnt=1+Pf.cnts g.kids:=by cases g;rfl
theorem Pf.cnt_pos(g:Pf):1≤g.cnt:=by rw[Pf.cnt_eq1];omega
theorem Pf.cnts_append:∀(a c:List Pf),Pf.cnts (a++c)=Pf.cnts a+Pf.cnts c
 |[],c=>by simp[Pf.cnts]
 |d::r,c=>by simp[Pf.cnts,Pf.cnts_append r c,Nat.add_assoc]
theorem Pf.cnts_take{xs:List Pf}{j:Nat}{x:Pf}(h:xs[j]? =some x):Pf.cnts (xs.take (j+1))=Pf.cnts (xs.take j)+x.cnt:=by
 rw[List.take_add_one,h,Option.toList_some,Pf.cnts_append];simp[Pf.cnts]
theorem Pf.cnts_le(xs:List Pf)(j:Nat):Pf.cnts (xs.take j)≤Pf.cnts xs:=by
 have:=Pf.cnts_append (xs.take j) (xs.drop j)
 rw[List.take_append_drop]at this;omega
section
variable {μ:Mem}
theorem sN:∀(g:Pf) {v:Value} {most:Int},RepV μ g.d v→ -1000000000000≤most→most≤1000000000000→aM Tryz.prog 221 [v,.int .i64 most] μ (.int .i64 (bP g.cnt most)):=
 Pf.ind fun g ih v most hv h1 h2=>by
  have w_:=Pf.inv hv
  obtain⟨p,rfl,-,hsl⟩:=w_
  have hn:=aH hsl.max
  have hge:=Pf.cnt_eq1 g
  generalize hl:g.kids=l at*
  refine Spec.mk Tryz.func221 (by kernel_rfl) ?_
  intro r
  refine lIn (fun i:Nat=>i≤l.length) (fun i=>⟨[(1,.val (.int .i64 most)),(5,.val (.int .i64 (bP (1+Pf.cnts (l.take i):Nat) most))),(9,.val (.slice p.2.1 l.length p.2.2)),(10,.val (.int .i64 l.length)),(11,.val (.int .i64 i))],[],1,μ,Mem.nil⟩) (fun i=>l.length-i)
   0 (by omega) (fun i=>⟨rfl,rfl⟩) ⟨⟨rfl,by show some (SV.val (.int .i64 _))=some (SV.val (.int .i64 _));congr 3;simp[Pf.cnts,bP];omega,rfl,rfl,rfl,trivial⟩,trivial,rfl,rfl⟩ ?_
  intro i hi
  refine ifd (fun h=>?_) (fun h=>?_)
  ·have w_ := aSo (l := l) (i := i) (by omega)
   obtain⟨t,ht⟩:=w_
   have hc:=Pf.cnts_take ht
   have hc':=Pf.cnts_le l (i+1)
   have w_:=Pf.elem hsl ht
   obtain⟨ad,p,hel,hr⟩:=w_
   refine eIn hel ?_
   intro r2
   refine ifd (fun h=>rGv ?_ rfl) (fun h=>?_)
   ·simp only [bP] at h ⊢
    congr 1;omega
   ·have hb : bP (1 + Pf.cnts (l.take i) : Nat) most ≤ 1000000000001 ∧ 1 ≤ bP (1 + Pf.cnts (l.take i) : Nat) most := by unfold bP; omega
    refine aB (by omega) (by omega) ?_
    refine cGv (ih t (mAt ht) hr (by omega) (by omega)) ?_
    refine nEq (x:=bP (1+Pf.cnts (l.take (i+1)):Nat) most) ?_ ?_
    ·have hb2:bP (t.cnt:Int) (most-bP (1+Pf.cnts (l.take i):Nat) most)≤1000000000001∧1≤bP (t.cnt:Int) (most-bP (1+Pf.cnts (l.take i):Nat) most):=by
      have:=t.cnt_pos
      unfold bP at hb h ⊢
      omega
     rw[aA (by omega) (by omega),hc]
     unfold bP at h ⊢;omega
    ·exact aB (by omega) (by omega) ⟨i+1,by omega,by omega,⟨⟨rfl,rfl,rfl,rfl,rfl,trivial⟩,trivial,rfl,rfl⟩⟩
  ·obtain rfl : i = l.length := by omega
   rw[List.take_length]
   exact rGv (by rw[hge]) rfl
noncomputable def Pf.size(x:Pf):Int:=if x.cnt≤200 then x.cnt else 0
theorem qDh{x:Pf}{v:Value}(hv:RepV μ x.d v):aM Tryz.prog 159 [v] μ (.int .i64 x.size):=by
 have hv0:=hv
 have w_:=Pf.invV hv
 obtain⟨p,rfl⟩:=w_
 have hp:=x.cnt_pos
 refine Spec.mk Tryz.func159 (by kernel_rfl) ?_
 intro r
 refine cGv (sN x hv0 (by omega) (by omega)) ?_
 refine ifd (fun h=>rGv ?_ rfl) (fun h=>rGv ?_ rfl)
 ·unfold bP at h
  rw[Pf.size,if_neg (by omega)]
 ·unfold bP at h ⊢
  rw[Pf.size,if_pos (by omega)]
  congr 1;omega
end
end Go.Vx
namespace Go.Vx
open Go.Proofs Classical
section
variable {μ:Mem}
theorem RepS.take:∀(ds:List D) (a:Nat) {cs:List Value},RepS μ ds cs→∃c1 c2,cs=c1++c2∧RepS μ (ds.take a) c1
 |[],a,cs,_=>⟨[],cs,rfl,by rw[List.take_nil];exact rfl⟩
 |d::r,0,cs,_=>⟨[],cs,rfl,rfl⟩
 |d::r,a+1,cs,h=>by
  obtain⟨c1,c2,e,h1,h2⟩:=h
  have w_:=RepS.take r a h2
  obtain⟨c3,c4,e2,h3⟩:=w_
  exact⟨c1++c3,c4,by rw[e,e2,List.append_assoc],c1,c3,rfl,h1,h3⟩
theorem Rep.cut{es n c a:Nat}{base:Option Addr}{xs:List D}(h:RepV μ (.sl es xs) (.slice base n c))(ha:a≤n):RepV μ (.sl es (xs.take a)) (.slice (if c=0 then base else base.map (·.add (0*es))) (a-0) (c-0)):=by
 have e:(if c=0 then base else base.map (·.add (0*es)))=base:=by
  split
  ·rfl
  ·cases base<;>simp[Addr.add]
 rw[e,Nat.sub_zero,Nat.sub_zero]
 obtain⟨b2,c2,e2,hl,hn,hor⟩:=h
 have e3:=(List.cons.inj e2).1
 cases e3
 have hta:(xs.take a).length=a:=by rw[List.length_take];omega
 refine⟨base,c,by rw[hta],⟨by rw[hta];exact Nat.le_trans ha hl.le,by rw[hta];exact Nat.le_trans ha hl.max⟩,fun x hx=>hn x (List.mem_of_mem_take hx),?_⟩
 rcases hor with h|⟨a0,flat,h1,h2,h3⟩
 ·exact .inl (by rw[h,List.take_nil])
 ·have w_ := RepS.take xs a h3
  obtain⟨c1,c2,e4,h4⟩:=w_
  exact .inr ⟨a0,c1,h1,fun j v hj=>h2 j v (by rw[e4,List.getElem?_append_left (List.getElem?_eq_some_iff.1 hj).1];exact hj),h4⟩
theorem Rep.lensC{es n c:Nat}{base:Option Addr}{xs:List D}(h:RepV μ (.sl es xs) (.slice base n c)):n=xs.length∧n≤c:=by
 obtain⟨b2,c2,e2,hl,hn,hor⟩:=h
 have e3:=(List.cons.inj e2).1
 cases e3
 exact⟨rfl,hl.le⟩
theorem Pf.valsV{x:Pf}{a b vs ks:Value}(h:RepV μ x.d (.agg #[a,b,vs,ks])):RepV μ (.sl 4 (x.values.map Tm.d)) vs:=by
 rw[Pf.d_eq]at h
 obtain⟨cs,e,h⟩:=h
 obtain⟨a0,t0,rfl,h0,h⟩:=h
 obtain⟨a1,t1,rfl,h1,h⟩:=h
 obtain⟨a2,t2,rfl,h2,h⟩:=h
 obtain⟨a3,t3,rfl,h3,h⟩:=h
 obtain rfl:t3=[]:=h
 have h0:a0=[.string x.rel]:=h0
 have h1:a1=[.int .i64 x.clause]:=h1
 subst h0 h1
 have w_:=gV (Rep.len _ _ h2)
 obtain⟨v2,rfl⟩:=w_
 have w_:=gV (Rep.len _ _ h3)
 obtain⟨v3,rfl⟩:=w_
 have e2:[a,b,vs,ks]=[.string x.rel,.int .i64 x.clause,v2,v3]:=congrArg (fun v=>match v with|Value.agg a=>a.toList|_=>[]) e
 have e3:vs=v2:=(List.cons.inj (List.cons.inj (List.cons.inj e2).2).2).1
 rw[e3];exact h2
end
theorem Pf.vs_len(x:Pf):x.vs.length=x.values.length:=List.length_map ..
theorem Pf.vs_tm{x:Pf}(h:∀t∈x.values,GndT t):x.vs.map T.tm=x.values:=by
 have w_:=fD fun t ht=>(h t ht).1
 obtain⟨xs,hxs,_⟩:=w_
 rw[Pf.vs,hxs,gO]
theorem OkP.inv{p:Pg}{x:Pf}(h:OkP p x):∃r c,NodeAt p x r c∧(∀y∈x.kids,OkP p y)∧∀(i:Nat) (y:Pf),x.kids[i]? =some y→(bQ x.vs c)[i]? =some (dM p y):=by
 cases h with
 |mk r c h1 h2 h3=>exact⟨r,c,h1,h2,h3⟩
theorem qJz{p:Pg}{x:Pf}{k a:Nat}{r:Rl}(h1:relAt p x.rel=k)(h2:p.rels[k]? =some r)(h3:r.arity=(a:Int)):dM p x=⟨x.rel,x.vs.take a⟩:=by
 rw[dM,h1,Int.toNat_natCast,h2,Option.getD_some,h3,Int.toNat_natCast]
end Go.Vx
namespace Go.Vx
open Go.Proofs Classical
section
variable {μ:Mem}
theorem qFp{p:Pg}{x:Pf}{vp v:Value}{r:Rl}{c:List Gl}(hp:RepV μ p.d vp)(hok:p.Ok)(hv:RepV μ x.d v)(h:NodeAt p x r c):
  Spec Tryz.prog 89 [vp,v] μ fun w μ'=>RepV μ' (dM p x).fc.d w∧μ'=μ:=by
 have hp0:=hp
 have w_:=Pg.inv hp
 obtain⟨q0,rfl,hrl⟩:=w_
 have hv0:=hv
 have w_:=Pf.inv hv
 obtain⟨q,rfl,hvs,hks⟩:=w_
 have hvr:=Pf.valsV hv0
 obtain⟨k,hk,hr⟩:=h.rel
 have hrok:=hok.2 k r hr
 have w_:=Int.eq_ofNat_of_zero_le hrok.ar0
 obtain⟨a,ha⟩:=w_
 have hlo:=hrok.lo0
 have hlen:=h.len
 have hal:a≤x.values.length:=by omega
 have hcap:=(Rep.lensC hvr).2
 have w_:=Rl.elemA hrl hr
 obtain⟨ad,q2,hel,_,_⟩:=w_
 refine Spec.mk Tryz.func89 (by kernel_rfl) ?_
 intro r2 r3 r4
 refine cGv (dI hp0) ?_
 rw[hk]
 refine eIn hel ?_
 refine aG 0 a rfl ha (Nat.zero_le _) (by omega) ?_
 refine rPl ⟨?_,rfl⟩
 have hcut:=Rep.cut hvr hal
 rw[←Pf.vs_tm h.gnd]at hcut
 rw[qJz hk hr ha]
 rw[←List.map_take,←List.map_take]at hcut
 have hl:(x.vs.take a).length=a-0:=by rw[List.length_take,Pf.vs_len];omega
 rw[←hl]at hcut ⊢
 exact F.mkV (f:=⟨x.rel,x.vs.take a⟩) hcut
set_option maxHeartbeats 4000000 in
theorem qRj{p:Pg}(hw:p.d.wd)(hok:p.Ok):∀(x:Pf) {μ:Mem} {v vp:Value},RepV μ p.d vp→RepV μ x.d v→x.d.wd→Spec Tryz.prog 160 [vp,v] μ fun w _=>w= .bool (decide (OkP p x)):=
 Pf.ind fun x ih μ v vp hp hv hwx=>by
  have hp0:=hp
  have w_:=Pg.inv hp
  obtain⟨q0,rfl,hrl⟩:=w_
  have hv0:=hv
  have w_:=Pf.inv hv
  obtain⟨q,rfl,hvs,hks⟩:=w_
  have hn1:=aH hvs.max
  have hn2:=aH hks.max
  have hn3:=hok.1
  refine Spec.mk Tryz.func160 (by kernel_rfl) ?_
  intro r2 r3
  refine cGv (dI hp0) ?_
  refine ifd (fun hneg=>rPl (isF fun k=>?_)) (fun hge=>?_)
  ·obtain ⟨r, c, h, _⟩ := k.inv
   obtain⟨k',h1,_⟩:=h.rel
   omega
  have w_:=gA (show 0≤relAt p x.rel by omega)
  obtain⟨k,r,hk,hr,_⟩:=w_
  have hrok:=hok.2 k r hr
  rw[hk]
  have w_:=Rl.elemA hrl hr
  obtain⟨ad,q2,hel,hrv,hb⟩:=w_
  have hb:RepV μ r.body.d (.agg (r.body.cs q2).toArray):=hb
  have w_:=Int.eq_ofNat_of_zero_le hrok.ar0
  obtain⟨a,ha⟩:=w_
  have w_:=Int.eq_ofNat_of_zero_le hrok.lo0
  obtain⟨lo,hlo⟩:=w_
  have har4:=hrok.ar4
  have hlo8:=hrok.lo8
  have hsz:=hrok.size
  have node:∀{r':Rl} {c:List Gl},NodeAt p x r' c→r'=r:=fun h=>by
   obtain⟨k',e1,e2⟩:=h.rel
   obtain rfl:k'=k:=by omega
   rw[hr]at e2
   cases e2;rfl
  refine eIn hel (eIn hel ?_)
  refine aB (by omega) (by omega) ?_
  refine aL (fun hne=>rPl (isF fun k=>?_)) (fun hlen=>?_)
  ·obtain ⟨r', c, h, _⟩ := k.inv
   obtain rfl:=node h
   exact hne h.len
  refine eIn hel ?_
  refine cPl (gE hb (qOg hw hr) ⟨hrok.body,by omega⟩) fun v3 μ3 hle3 hR3=>?_
  cases hL:r.body.cl with
  |none=>
   rw[hL]at hR3
   obtain rfl:=hR3
   refine iIn (fun _=>rPl (isF fun k=>?_)) (fun h=>nomatch h)
   obtain⟨r',c,h,_⟩:=k.inv
   obtain rfl:=node h
   obtain⟨L,i,h1,_⟩:=h.cls
   rw[hL]at h1;cases h1
  |some L=>
  rw[hL]at hR3
  obtain⟨tv,rfl,hLr⟩:=hR3
  obtain⟨pv,rfl⟩:=hLr.inv
  have hLb:=Gl.cl_bnd r.body hL
  have hL64:=hLb.2
  refine iIn (fun h=>nomatch h) (fun _=>?_)
  refine aB (by omega) (by omega) ?_
  refine cGv (bG _ _ _ _) ?_
  refine aL (fun hout=>rPl (isF fun k=>?_)) (fun hin=>?_)
  ·obtain ⟨r', c, h, _⟩ := k.inv
   obtain rfl:=node h
   obtain⟨L',i,h1,h2,h3⟩:=h.cls
   rw[hL]at h1;cases h1
   have:=(List.getElem?_eq_some_iff.1 h3).1
   exact hout ⟨by omega,by omega⟩
  have w_:=Int.eq_ofNat_of_zero_le hin.1
  obtain⟨i,hi⟩:=w_
  have hiL:i<L.length:=by have:=hin.2;omega
  have w_:=aSo (l:=L) (i:=i) hiL
  obtain⟨c,hc⟩:=w_
  have hci:c.length≤1000:=by have:=hLb.1 c (mAt hc);omega
  intro r8
  refine lIn (fun z:Nat×Option Nat×Nat×List Value=>z.1≤x.values.length∧(∀t∈x.values.take z.1,GndT t)∧Rows μ3 5 (((kQ (x.vs.take z.1)).map B.bd).map Bd.d) z.2.2.2)
   (fun(n,b,cp,ys)=>⟨[(2,.loc 0 r2 0),(3,.loc 1 r3 0),(5,.val (.int .i64 k)),(6,.val (.slice pv.1 L.length pv.2)),(8,.row 2 b ys.length cp),(63,.val (.slice q.1.1 x.values.length q.1.2)),(64,.val (.int .i64 x.values.length)),(65,.val (.int .i64 n))],[(0,some (.cells r2 [.val (.slice q0.1 p.rels.length q0.2)] 25)),(1,some (.cells r3 [.val (.string x.rel),.val (.int .i64 x.clause),.val (.slice q.1.1 x.values.length q.1.2),.val (.slice q.2.1 x.kids.length q.2.2)] 54)),(2,some (.row b cp 100 5 ys))],3,μ3,Mem.nil⟩) (fun z=>x.values.length-z.1)
   (0,some r8,0,[]) ⟨Nat.zero_le _,by simp,.nil⟩ (fun(_,_,_,_)=>⟨rfl,rfl⟩) ⟨⟨rfl,rfl,rfl,rfl,rfl,rfl,rfl,rfl,trivial⟩,⟨rfl,rfl,rfl,trivial⟩,rfl,rfl⟩ ?_
  rintro⟨n,b,cp,ys⟩ ⟨hn,hall,hrows⟩
  dsimp only at hn hall hrows
  have hyl:=hrows.len
  simp only[List.length_map,lH,List.length_take,Pf.vs_len]at hyl
  refine ifd (fun hlt=>?_) (fun hlt=>?_)
  ·have w_ := aSo (l := x.values) (i := n) (by omega)
   obtain⟨t,ht⟩:=w_
   have w_:=Tm.elem (hvs.mono hle3) ht
   obtain⟨ad1,p1,hel1,hrt⟩:=w_
   refine eIn hel1 ?_
   intro r10
   refine cGv (iS t hrt (D.wds_mem (by rw[Pf.d_eq]at hwx;exact hwx.2.2.1) _ (mAt (lM (f:=Tm.d) ht)))) ?_
   refine aL (fun h=>rPl (isF fun k=>?_)) (fun hg=>?_)
   ·obtain ⟨r', c', h', _⟩ := k.inv
    exact h (h'.gnd t (mAt ht))
   intro r77
   refine gIn ?_ ?_ fun b' c' _=>?_
   ·show(ys.length+1)*64≤_;omega
   ·exact Nat.le_trans (m:=100000000) (show ys.length+1≤_ by omega) (by decide)
   refine aB (by omega) (by omega) ⟨(n+1,b',c',_),⟨by dsimp only;omega,?_,?_⟩,by dsimp only;omega,⟨⟨rfl,rfl,rfl,rfl,rfl,rfl,rfl,rfl,trivial⟩,⟨rfl,rfl,rfl,trivial⟩,rfl,rfl⟩⟩
   ·dsimp only
    rw[List.take_add_one,ht,Option.toList_some]
    intro y hy
    rcases List.mem_append.1 hy with hy|hy
    ·exact hall y hy
    ·rw[List.mem_singleton.1 hy];exact hg
   ·dsimp only
    have hgt:GndT t:=hg
    have w_:=hgt.1.lift
    obtain⟨u,_,hu⟩:=w_
    subst hu
    have e:x.vs[n]? =some u:=by rw[Pf.vs,List.getElem?_map,ht,Option.map_some,T.toT_tm]
    rw[←pU,List.take_add_one,zH e,Option.toList_some,pU]
    simp only[List.map_append,List.map_cons,List.map_nil]
    exact hrows.append (Rows.one (RepV.bd hrt) (Bd.d_n _))
  obtain rfl:n=x.values.length:=by omega
  rw[List.take_length]at hall
  rw[←Pf.vs_len,List.take_length]at hrows
  have hLs:=(Cls.sl hLr).1
  have w_:=cF hLs hc
  obtain⟨adc,pc,helc,hrc⟩:=w_
  have hcs:Sl μ3 4 pc.1 c.length (c.map Gl.d):=by
   have w_:=Rep.sl (xs:=c.map Gl.d) hrc
   obtain⟨b',c',e1,hs⟩:=w_
   have w_:=Value.slice.inj e1
   obtain⟨rfl,_,_⟩:=w_
   simpa using hs
  have hG:∀g∈c,ClG g:=fun g hg=>ClG.of hok hr hL (mAt hc) hg
  have hvl:x.vs.length=a+lo:=by rw[Pf.vs_len];omega
  rw[←hi]at helc
  have mkN:(∀g∈c,okS x.vs g)→iU x.vs c=[]→(bQ x.vs c).length=x.kids.length→NodeAt p x r c:=fun h1 h2 h3=>⟨⟨k,hk,hr⟩,hlen,hall,⟨L,i,hL,hi,hc⟩,h1,h2,h3⟩
  have node2:∀{r':Rl} {c':List Gl},NodeAt p x r' c'→c'=c:=fun h=>by
   obtain rfl:=node h
   obtain⟨L',i',h1,h2,h3⟩:=h.cls
   rw[hL]at h1;cases h1
   obtain rfl:i'=i:=by omega
   rw[hc]at h3;cases h3;rfl
  refine eIn (hel.mono hle3) ?_
  refine eIn helc ?_
  refine aS [2] fun μ4 hle4 hno4 hat4=>?_
  have hsl:Sl μ4 5 (b.map fun r=>(⟨r,0,none⟩:Addr)) x.vs.length (((kQ x.vs).map B.bd).map Bd.d):=by
   have k:=Rows.sl hat4 (hrows.mono hle4) (Nat.le_trans (m:=1000) (by omega) (by decide))
   have w_:=Rep.sl k
   obtain⟨bz,cz,ez,hs⟩:=w_
   have w_:=Value.slice.inj ez
   obtain⟨e1,e2,_⟩:=w_
   rw[List.length_map,List.length_map,lH]at hs
   rwa [←e1]at hs
  have hyl2:ys.length=x.vs.length:=by omega
  have hrule:=uG (cc:=pc.2) (bc:=cp) (i:=i) (vs:=x.vs) (a:=a) ((hrv.mono hle3).mono hle4) ha (by omega) (by omega) (hcs.mono hle4) hci hG hsl
  rw[←hi,←hyl2]at hrule
  refine bM hrule fun v5 μ5 hle5 hR5=>?_
  obtain⟨ru,rv,rfl,hrr,hru⟩:=hR5
  have w_:=Ru.inv hrr
  obtain⟨pr,rfl,h81,h82,h83,h84⟩:=w_
  intro r11
  refine aL (fun hS=>rPl (isF fun k=>?_)) (fun hS=>?_)
  ·obtain ⟨r', c', h', _⟩ := k.inv
   obtain rfl:=node2 h'
   exact hS h'.ok
  have w_:=hru hS
  subst w_
  refine ifd (fun hN=>rPl (isF fun k=>?_)) (fun hN=>?_)
  ·obtain ⟨r', c', h', _⟩ := k.inv
   obtain rfl:=node2 h'
   have h1:=h'.neg
   have hN:((dZ r i c' x.vs).neg.length:Int)>0:=hN
   rw[show(dZ r i c' x.vs).neg=iU x.vs c' from rfl,h1]at hN
   exact absurd hN (by decide)
  refine aL (fun hP=>rPl (isF fun k=>?_)) (fun hP=>?_)
  ·obtain ⟨r', c', h', _⟩ := k.inv
   obtain rfl:=node2 h'
   exact hP (congrArg Int.ofNat h'.pos)
  have hN:iU x.vs c=[]:=List.eq_nil_of_length_eq_zero (by
   have hN:¬((iU x.vs c).length:Int)>0:=hN
   omega)
  have hP:((bQ x.vs c).length:Int)=x.kids.length:=hP
  have hnode:=mkN hS hN (by omega)
  have hle:μ.Le μ5:=(hle3.trans hle4).trans hle5
  refine lIn (fun z:Nat×Mem=>z.1≤x.kids.length∧μ5.Le z.2∧∀(j:Nat) (y:Pf),j<z.1→x.kids[j]? =some y→OkP p y∧(bQ x.vs c)[j]? =some (dM p y))
   (fun(n,μ')=>⟨[(2,.loc 0 r2 0),(11,.loc 3 r11 0),(115,.val (.slice q.2.1 x.kids.length q.2.2)),(116,.val (.int .i64 x.kids.length)),(117,.val (.int .i64 n))],[(0,some (.cells r2 [.val (.slice q0.1 p.rels.length q0.2)] 25)),(3,some (.cells r11 [.val (.string r.name),.val (.slice pr.1.1 (x.vs.take r.arity.toNat).length pr.1.2),.val (.int .i64 i),.val (.slice pr.2.1.1 x.vs.length pr.2.1.2),.val (.slice pr.2.2.1.1 (bQ x.vs c).length pr.2.2.1.2),.val (.slice pr.2.2.2.1 (iU x.vs c).length pr.2.2.2.2)] 106))],4,μ',Mem.nil⟩) (fun z=>x.kids.length-z.1)
   (0,μ5) ⟨Nat.zero_le _,Mem.Le.refl _,fun j y h=>absurd h (Nat.not_lt_zero _)⟩ (fun(_,_)=>⟨rfl,rfl⟩) ⟨⟨rfl,rfl,rfl,rfl,rfl,trivial⟩,⟨rfl,rfl,trivial⟩,rfl,rfl⟩ ?_
  rintro⟨n,μ'⟩ ⟨hn,hle6,hkids⟩
  dsimp only at hn hle6 hkids
  refine ifd (fun hlt=>?_) (fun hlt=>?_)
  rotate_left
  ·obtain rfl : n = x.kids.length := by omega
   refine rPl (isT (OkP.mk r c hnode (fun y hy=>?_) fun j y hy=>(hkids j y (List.getElem?_eq_some_iff.1 hy).1 hy).2))
   have w_:=List.mem_iff_getElem?.1 hy
   obtain⟨j,hj⟩:=w_
   exact(hkids j y (List.getElem?_eq_some_iff.1 hj).1 hj).1
  have w_:=aSo (l:=x.kids) (i:=n) (by omega)
  obtain⟨y,hy⟩:=w_
  have w_:=Pf.elem (hks.mono (hle.trans hle6)) hy
  obtain⟨ady,py,hely,hry⟩:=w_
  refine eIn hely ?_
  intro r14
  refine cPl (ih y (mAt hy) (hp0.mono (hle.trans hle6)) hry (D.wds_mem (by rw[Pf.d_eq]at hwx;exact hwx.2.2.2.1) _ (mAt (lM (f:=Pf.d) hy)))) fun v7 μ7 hle7 hR7=>?_
  obtain rfl:=hR7
  refine aL (fun h=>rPl (isF fun k=>?_)) (fun hyok=>?_)
  ·obtain ⟨r', c', h', h2, _⟩ := k.inv
   exact h (h2 y (mAt hy))
  have hyok:OkP p y:=hyok
  obtain⟨ry,cy,hny,_,_⟩:=hyok.inv
  have w_:=aSo (l:=bQ x.vs c) (i:=n) (by omega)
  obtain⟨f,hf⟩:=w_
  have h83:Sl μ5 2 pr.2.2.1.1 (bQ x.vs c).length (((bQ x.vs c).map F.fc).map Fc.d):=h83
  have w_:=Fc.elem (l:=(bQ x.vs c).map F.fc) (i:=n) (x:=f.fc) (h83.mono hle6) (by rw[List.getElem?_map,hf];rfl)
  obtain⟨adf,pf,helf,hrf⟩:=w_
  refine eIn helf ?_
  refine cPl (qFp (hp0.mono ((hle.trans hle6).trans hle7)) hok (hry.mono hle7) hny) fun v8 μ8 hle8 hR8=>?_
  obtain⟨hR8,e8⟩:=hR8
  obtain rfl:=e8.symm
  refine cGv (gT hR8 (hrf.mono (hle7.trans hle8))) ?_
  refine aL (fun h=>rPl (isF fun k=>?_)) (fun hz=>?_)
  ·obtain ⟨r', c', h', _, h3⟩ := k.inv
   obtain rfl:=node2 h'
   have:=h3 n y hy
   rw[hf]at this
   cases this
   exact h (cmpF_ord.zero _ _ |>.2 rfl)
  have hz:=(cmpF_ord.zero _ _).1 hz
  refine aB (by omega) (by omega) ⟨(n+1,μ7),⟨by dsimp only;omega,hle6.trans hle7,fun j z hj hz2=>?_⟩,by dsimp only;omega,⟨⟨rfl,rfl,rfl,rfl,rfl,trivial⟩,⟨rfl,rfl,trivial⟩,rfl,rfl⟩⟩
  dsimp only at hj
  rcases Nat.lt_or_ge j n with h|h
  ·exact hkids j z h hz2
  ·obtain rfl : j = n := by omega
   rw[hy]at hz2
   cases hz2
   exact⟨hyok,by rw[hf,hz]⟩
end
end Go.Vx
namespace Go.Vx
open Go.Proofs Classical
theorem qKg{vs:List T}{c:List Gl}{g:Gl}(h:g∈c)(h10:g.kind=10):iU vs c≠[]:=fun e=>by
 have:cJ vs g.kid∈iU vs c:=List.mem_map.2 ⟨g,List.mem_filter.2 ⟨h,by simpa using h10⟩,rfl⟩
 rw[e]at this
 cases this
section
variable {μ:Mem}
theorem qGg{p:Pg}{x:Pf}{vp v:Value}(hp:RepV μ p.d vp)(hw:p.d.wd)(hv:RepV μ x.d v)(hwx:x.d.wd):Spec Tryz.prog 88 [vp,v] μ fun w _=>w= .bool (decide (p.Ok∧x.cnt≤200∧OkP p x)):=by
 have hp0:=hp
 have hv0:=hv
 have w_:=Pg.inv hp
 obtain⟨q0,rfl,-⟩:=w_
 have w_:=Pf.invV hv
 obtain⟨q,rfl⟩:=w_
 have hcp:=x.cnt_pos
 refine Spec.mk Tryz.func88 (by kernel_rfl) ?_
 intro r2 r3
 refine cPl (bD hp0 hw) fun v1 μ1 hle1 hR=>?_
 obtain rfl:=hR
 refine ifd (fun hok=>?_) (fun h=>rPl (isF fun k=>h k.1))
 refine cGv (qDh (hv0.mono hle1)) ?_
 refine ifd (fun hsz=>?_) (fun h=>rPl (isF fun k=>h (by rw[Pf.size,if_pos k.2.1];omega)))
 have hsz:x.size>0:=hsz
 have hc:x.cnt≤200:=Classical.byContradiction fun k=>by rw[Pf.size,if_neg k]at hsz;exact absurd hsz (by decide)
 refine cPl (qRj hw hok x (hp0.mono hle1) (hv0.mono hle1) hwx) fun v3 μ3 hle3 hR=>?_
 obtain rfl:=hR
 exact rPl (congrArg Value.bool (decide_eq_decide.2 ⟨fun h=>⟨hok,hc,h⟩,fun h=>h.2.2⟩))
end
end Go.Vx
namespace Go.Vx
open Go.Proofs Classical
section
variable {μ:Mem}
theorem qIw{P:Program}{f:FuncId}{args:List Value}{Q:Mem→List Value→Prop}(hQ:∀μ1 μ2 us,μ1.Le μ2→Q μ1 us→Q μ2 us)
  (h0:Spec P f args μ fun v μ'=>∃(r c:Nat) (us:List Value) (μ1:Mem),v= .slice (some ⟨r,0,none⟩) us.length c∧μ.Le μ1∧μ1.Le μ'∧Q μ1 us∧μ1 r=none∧us.length≤10000000∧RowAt μ' (some r) c 4 us):
  SpecH P f args μ Mem.nil fun v μ2 H2=>∃(r c:Nat) (ty:TypeId) (us:List Value),v= .slice (some ⟨r,0,none⟩) us.length c∧RowO H2 r c ty 4 us∧Q μ2 us:=by
 have e0:μ.join Mem.nil=μ:=funext fun b=>by rw[Mem.join_get];cases μ b<;>rfl
 generalize hR0:(fun v μ'=>∃(r c:Nat) (us:List Value) (μ1:Mem),v=Value.slice (some ⟨r,0,none⟩) us.length c∧μ.Le μ1∧μ1.Le μ'∧Q μ1 us∧μ1 r=none∧us.length≤10000000∧RowAt μ' (some r) c 4 us)=R0 at h0
 have h:Spec P f args (μ.join Mem.nil) R0:=by rw[e0];exact h0
 refine(Spec.lendOwn (H:=Mem.nil) (R':=fun v g μ1=>∃(r c:Nat) (ty:TypeId) (us:List Value),v= .slice (some ⟨r,0,none⟩) us.length c∧RowO g r c ty 4 us∧Q (μ1.sub g) us) (fun b _=>rfl) h fun v μ1 hle hR=>?_).weaken fun v μ2 H2 _ _ hR=>?_
 ·rw [e0]
  rw[←hR0]at hR
  obtain⟨r,c,us,μ0,rfl,hl0,hl1,hgr,hr0,hn,hrow⟩:=hR
  obtain⟨h2,h3,arr,ty,h4,h5,h6⟩:=hrow
  refine⟨Mem.nil.set r (.cells arr ty (0,0)),fun x o hx=>?_,fun x hx=>?_,r,c,ty,us,rfl,⟨arr.toList,Mem.set_at _ _ _,h2,Nat.le_trans hn (by decide),h3,by simpa using h5,h6⟩,?_⟩
  ·by_cases e : x = r
   ·subst e;rw[Mem.set_at]at hx;rw[h4];exact hx
   ·rw[Mem.set_ne e]at hx;cases hx
  ·by_cases e : x = r
   ·subst e
    exact hl0.none hr0
   ·rw[Mem.set_ne e]at hx;exact absurd rfl hx
  ·refine hQ μ0 _ us (Mem.le_sub hl1 (fun b hb => ?_)) hgr
   by_cases e:b=r
   ·subst e
    exact absurd hr0 hb
   ·rw[Mem.set_ne e];rfl
 ·obtain ⟨g, μ1, ⟨r, c, ty, us, rfl, ⟨cs, q1, q2⟩, hgr⟩, _, hp, rfl⟩ := hR
  exact⟨r,c,ty,us,rfl,⟨cs,hp.right _ _ q1,q2⟩,hgr⟩
theorem vJ{xs:List T}{base:Option Addr}{cap:Nat}(hsl:Sl μ 4 base xs.length ((xs.map T.tm).map Tm.d))(hn:xs.length≤1000000):
  Spec Tryz.prog 144 [.slice base xs.length cap] μ fun v μ'=>∃(r c:Nat) (us:List Value) (μ1:Mem),v= .slice (some ⟨r,0,none⟩) us.length c∧μ.Le μ1∧μ1.Le μ'∧Rows μ1 4 ((xs.map T.tm).map Tm.d) us∧μ1 r=none∧us.length≤10000000∧RowAt μ' (some r) c 4 us:=by
 refine Spec.mk Tryz.func144 (by kernel_rfl) ?_
 intro r6
 refine lIn (fun p:Nat×Option Nat×Nat×List Value×Mem=>p.1≤xs.length∧μ.Le p.2.2.2.2∧Rows p.2.2.2.2 4 (((xs.take p.1).map T.tm).map Tm.d) p.2.2.2.1∧p.2.1≠none)
  (fun(i,b,c,ys,μ')=>⟨[(3,.row 0 b ys.length c),(7,.val (.slice base xs.length cap)),(8,.val (.int .i64 xs.length)),(9,.val (.int .i64 i))],[(0,some (.row b c 75 4 ys))],1,μ',Mem.nil⟩) (fun p=>xs.length-p.1)
  (0,some r6,0,[],μ) ⟨by simp,Mem.Le.refl _,.nil,by simp⟩ (fun(_,_,_,_,_)=>⟨rfl,rfl⟩) ⟨⟨rfl,rfl,rfl,rfl,trivial⟩,⟨rfl,trivial⟩,rfl,rfl⟩ ?_
 rintro⟨i,b,c,ys,μ'⟩ ⟨hi,hle,hrows,hbn⟩
 dsimp only at hi hle hrows hbn
 have hlen:=hrows.len
 simp only[List.length_map,List.length_take]at hlen
 refine ifd (fun h=>?_) (fun h=>?_)
 ·have w_ := aSo (l := xs) (i := i) (by omega)
  obtain⟨x,hx'⟩:=w_
  have w_:=T.elemL (hsl.mono hle) hx'
  obtain⟨ad,p,hel,hto⟩:=w_
  refine eIn hel ?_
  intro r
  refine cPl (lO _ hto) fun v4 μ4 hle4 hR4=>?_
  have w_:=Tm.invV hR4
  obtain⟨q,rfl⟩:=w_
  intro r5
  refine gIn ?_ ?_ fun b' c' hb'=>?_
  ·show(ys.length+1)*56≤_;omega
  ·exact Nat.le_trans (m:=100000000) (show ys.length+1≤_ by omega) (by decide)
  refine aB (by omega) (by omega) ⟨(i+1,b',c',_,μ4),⟨by dsimp only;omega,hle.trans hle4,?_,fun e=>by have:=hb' e;simp at this⟩,by dsimp only;omega,⟨⟨rfl,rfl,rfl,rfl,trivial⟩,⟨rfl,trivial⟩,rfl,rfl⟩⟩
  dsimp only
  rw[List.take_add_one,hx',Option.toList_some]
  simp only[List.map_append,List.map_cons,List.map_nil]
  exact(hrows.mono hle4).append (Rows.one hR4 (Tm.d_n _))
 ·obtain rfl : i = xs.length := by omega
  rw[List.take_length]at hrows
  cases b with
  |none=>exact absurd rfl hbn
  |some r=>
  refine rFz [0] fun μ2 hle2 hno hrow=> .inl ?_
  exact⟨r,c,ys,μ',rfl,hle,hle2,hrows,hno r rfl,by omega,hrow⟩
theorem vI{xs:List T}{base:Option Addr}{cap:Nat}(hsl:Sl μ 4 base xs.length ((xs.map T.tm).map Tm.d))(hn:xs.length≤1000000):
  SpecH Tryz.prog 144 [.slice base xs.length cap] μ Mem.nil fun v μ2 H2=>∃(r c:Nat) (ty:TypeId) (us:List Value),v= .slice (some ⟨r,0,none⟩) us.length c∧RowO H2 r c ty 4 us∧Rows μ2 4 ((xs.map T.tm).map Tm.d) us:=
 qIw (fun _ _ _ h k=>k.mono h) (vJ hsl hn)
end
end Go.Vx
namespace Go.Vx
open Go.Proofs Classical
theorem Pf.cnts_len:∀(xs:List Pf),xs.length≤Pf.cnts xs
 |[]=>by simp
 |x::xs=>by
  have h1:=x.cnt_pos
  have h2:=Pf.cnts_len xs
  simp only[Pf.cnts,List.length_cons];omega
theorem Pf.cnt_mem:∀{xs:List Pf} {y:Pf},y∈xs→y.cnt≤Pf.cnts xs
 |x::xs,y,h=>by
  rcases List.mem_cons.1 h with rfl|h
  ·simp only[Pf.cnts];omega
  ·have := Pf.cnt_mem h
   simp only[Pf.cnts];omega
section
variable (nm:ByteArray) (cl ca:Int) (count more:Nat)
end
end Go.Vx
namespace Go.Vx
open Go.Proofs Classical
open Go.ChangeShapes Go.WideShapes Go.ChangeAt Go.RowKit
theorem xK(x:Int):∃k:Nat,bits .and .i64 x 255=(k:Int)∧k<256:=by
 have e:(BitVec.ofInt 64 x &&& BitVec.ofInt 64 255).toNat≤255:=by
  rw[BitVec.toNat_and]
  have:(BitVec.ofInt 64 255).toNat=255:=by decide
  rw[this]
  exact Nat.and_le_right
 refine⟨(BitVec.ofInt 64 x &&& BitVec.ofInt 64 255).toNat,?_,by omega⟩
 show IntKind.i64.wrap ((BitVec.ofInt 64 x &&& BitVec.ofInt 64 255).toNat:Nat)=_
 exact aA (by omega) (by omega)
section
variable {μ:Mem}
theorem kJ{h:Mem}{r:Nat}(hc:Cur μ h r h):
  SpecH Tryz.prog 75 [.pointer (some ⟨r,0,none⟩)] μ h fun v μ' h'=>μ'=μ∧Cur μ h r h'∧∃k:Nat,v= .int .i64 k∧k<256:=by
 obtain⟨o,⟨base,n,cap,i,hh,rfl,hb,hi⟩,e⟩:=hc.ex
 have hr:h r=some (sV base n cap i hh):=by rw[e,Mem.set_at]
 clear e hc
 refine SpecH.mk [] Tryz.func75 (by kernel_rfl) ?_
 refine oIn [.int .i64 hh] rfl (eZ hr rfl) ?_
 refine aO fun x1 _=>?_
 refine aO fun x2 _=>?_
 refine sIn [.slice base n cap,.int .i64 i,.int .i64 hh] 168 hr rfl (by show 2+1≤3;decide) ?_
 have h1:(h.set r (sV base n cap i x2)) r=some (sV base n cap i x2):=Mem.set_at _ _ _
 refine oIn [.int .i64 x2] rfl (eZ h1 rfl) ?_
 refine aC (by decide) ?_
 refine aO fun x3 _=>?_
 refine oIn [.int .i64 x2] rfl (eZ h1 rfl) ?_
 refine aC (by decide) ?_
 refine aO fun x4 _=>?_
 refine aO fun x5 _=>?_
 have w_:=xK x5
 obtain⟨k,ek,hk⟩:=w_
 refine nEq ek ?_
 refine oIn [.int .i64 (i:Int)] rfl (eZ h1 rfl) ?_
 refine oIn [.slice base n cap] rfl (eZ h1 rfl) ?_
 refine ifd (fun hlt=>?_) (fun hlt=>?_)
 ·have w_ := hb.get i (by omega)
  obtain⟨a,b,hel⟩:=w_
  refine oIn [.slice base n cap] rfl (eZ h1 rfl) ?_
  refine oIn [.int .i64 (i:Int)] rfl (eZ h1 rfl) ?_
  refine eIn hel ?_
  refine aO fun x6 _=>?_
  refine aO fun x7 _=>?_
  have w_:=xK x7
  obtain⟨k2,ek2,hk2⟩:=w_
  refine nEq ek2 ?_
  refine oIn [.int .i64 (i:Int)] rfl (eZ h1 rfl) ?_
  have:=aH hb.max
  refine aB (by omega) (by omega) ?_
  refine sIn [.slice base n cap,.int .i64 i,.int .i64 x2] 168 h1 rfl (by show 1+1≤3;decide) ?_
  refine rPl ⟨rfl,⟨sV base n cap ((i+1:Nat):Int) x2,⟨base,n,cap,i+1,x2,rfl,hb,by omega⟩,?_⟩,k2,rfl,hk2⟩
  show(h.set r (sV base n cap i x2)).set r _=_
  rw[Mem.set_set]
  rfl
 ·exact rPl ⟨rfl,⟨sV base n cap i x2,⟨base,n,cap,i,x2,rfl,hb,hi⟩,rfl⟩,k,rfl,hk⟩
theorem tB{h:Mem}{base:Option Addr}{n cap:Nat}(hb:Bytes μ base n):
  SpecH Tryz.prog 121 [.slice base n cap] μ h fun v μ' h'=>μ'=μ∧∃r,v= .pointer (some ⟨r,0,none⟩)∧h r=none∧Cur μ h r h':=by
 have hmax:=aH hb.max
 refine SpecH.mk [31] Tryz.func121 (by kernel_rfl) ?_
 refine aO fun x0 _=>?_
 refine lIn (fun p:Nat×Int=>p.1≤n∧p.1≤4000) (fun(i,x)=>⟨[(0,.val (.slice base n cap)),(3,.val (.int .i64 x)),(4,.val (.int .i64 i))],[],0,μ,h⟩) (fun p=>n-p.1)
  (0,x0) ⟨Nat.zero_le _,Nat.zero_le _⟩ (fun(_,_)=>⟨rfl,rfl⟩) ⟨⟨rfl,rfl,rfl,trivial⟩,trivial,rfl,rfl⟩ ?_
 rintro⟨i,x⟩ ⟨hi,hi2⟩
 dsimp only at hi hi2
 refine ifd (fun hlt=>?_) (fun hlt=>?_)
 ·refine ifd (fun hlt2 => ?_) (fun hlt2 => ?_)
  ·have w_ := hb.get i (by omega)
   obtain⟨a,b,hel⟩:=w_
   refine aO fun x1 _=>?_
   refine eIn hel ?_
   refine aO fun x2 _=>?_
   refine aO fun x3 _=>?_
   refine aO fun x4 _=>?_
   refine aO fun x5 _=>?_
   refine aB (by omega) (by omega) ⟨(i+1,x5),⟨by dsimp only;omega,by dsimp only;omega⟩,by dsimp only;omega,⟨⟨rfl,rfl,rfl,trivial⟩,trivial,rfl,rfl⟩⟩
  ·intro r hm ho
   exact rPl ⟨rfl,r,rfl,ho,⟨_,⟨base,n,cap,0,x,rfl,hb,Nat.zero_le _⟩,rfl⟩⟩
 ·intro r hm ho
  exact rPl ⟨rfl,r,rfl,ho,⟨_,⟨base,n,cap,0,x,rfl,hb,Nat.zero_le _⟩,rfl⟩⟩
theorem aI{h:Mem}{r:Nat}(hc:Cur μ h r h)(n:Int):
  SpecH Tryz.prog 87 [.pointer (some ⟨r,0,none⟩),.int .i64 n] μ h fun v μ' h'=>μ'=μ∧Cur μ h r h'∧∃k:Nat,v= .int .i64 k∧k<256∧(0<n→(k:Int)<n)∧(n≤0→k=0):=by
 refine SpecH.mk [] Tryz.func87 (by kernel_rfl) ?_
 refine ifd (fun hn=>?_) (fun hn=>?_)
 ·exact rPl ⟨rfl,hc,0,rfl,by decide,fun h=>absurd hn (by omega),fun _=>rfl⟩
 ·refine cOw (kJ hc) fun v μ1 h1 hle1 hap1 hR => ?_
  obtain⟨e,hc1,k,rfl,hk⟩:=hR
  obtain rfl:=e.symm
  refine aC (by omega) ?_
  have e1:(k:Int).tmod n=((k % n.toNat:Nat):Int):=by
   have hn2:n=((n.toNat:Nat):Int):=by omega
   conv=>lhs;rw[hn2]
   rw[Int.ofNat_tmod]
  have hlt:=Nat.mod_lt k (show 0<n.toNat by omega)
  have hle:=Nat.mod_le k n.toNat
  refine nEq e1 ?_
  exact rPl ⟨rfl,hc1,_,rfl,by omega,fun _=>by omega,fun h=>absurd h (by omega)⟩
theorem dF{h:Mem}{r:Nat}(hc:Cur μ h r h)(n:Int):
  SpecH Tryz.prog 52 [.pointer (some ⟨r,0,none⟩),.int .i64 n] μ h fun v μ' h'=>μ'=μ∧Cur μ h r h'∧∃b:Bool,v= .bool b:=by
 refine SpecH.mk [] Tryz.func52 (by kernel_rfl) ?_
 refine cOw (aI hc n) fun v μ1 h1 hle1 hap1 hR=>?_
 obtain⟨e,hc1,k,rfl,hk⟩:=hR
 obtain rfl:=e.symm
 exact rPl ⟨rfl,hc1,_,rfl⟩
theorem gU{h:Mem}{base:Option Addr}{n cap:Nat}(hb:Bytes μ base n)(m:Int)(hm:m≤1000000):
  SpecH Tryz.prog 48 [.slice base n cap,.int .i64 m] μ h fun v μ' h'=>μ'=μ∧∃r,v= .pointer (some ⟨r,0,none⟩)∧h r=none∧Cur μ h r h':=by
 refine SpecH.mk [] Tryz.func48 (by kernel_rfl) ?_
 refine cOw (tB hb) fun v μ1 h1 hle1 hap1 hR=>?_
 obtain⟨e,r,rfl,ho,hc1⟩:=hR
 obtain rfl:=e.symm
 refine lIn (fun p:Int×Mem=>0≤p.1∧Cur μ h r p.2) (fun(i,h')=>⟨[(1,.val (.int .i64 m)),(5,.val (.pointer (some ⟨r,0,none⟩))),(6,.val (.int .i64 i))],[],0,μ,h'⟩) (fun p=>(m-p.1).toNat)
  (0,h1) ⟨Int.le_refl 0,hc1⟩ (fun(_,_)=>⟨rfl,rfl⟩) ⟨⟨rfl,rfl,rfl,trivial⟩,trivial,rfl,rfl⟩ ?_
 clear hc1 hap1
 rintro⟨i,h2⟩ ⟨hi,hc2⟩
 dsimp only at hi hc2
 refine ifd (fun hlt=>?_) (fun hlt=>?_)
 ·refine cOw (kJ hc2.at) fun v μ2 h3 hle2 hap2 hR => ?_
  obtain⟨e,hc3,k,rfl,hk⟩:=hR
  obtain rfl:=e.symm
  refine aB (by omega) (by omega) ⟨(i+1,h3),⟨by dsimp only;omega,hc2.trans hc3⟩,by dsimp only;omega,⟨⟨rfl,rfl,rfl,trivial⟩,trivial,rfl,rfl⟩⟩
 ·exact rPl ⟨rfl,r,rfl,ho,hc2⟩
end
end Go.Vx
namespace Go.Vx
open Go.Proofs Classical
theorem Drawn.atom{t:T}(hg:t.good)(hl:t.lvs=1)(ho:∀n,¬t.occ n)(vars:Int):Drawn 1 vars t:=⟨hg,fun n hn=>absurd hn (ho n),by omega⟩
theorem Drawn.wide{k:Nat}{v w:Int}{t:T}(h:Drawn k v t)(hw:v≤w):Drawn k w t:=⟨h.good,fun n hn=>by have:=h.low n hn;omega,h.lvs⟩
section
variable {μ:Mem}
theorem tD(n:Int):Spec Tryz.prog 232 [.int .i64 n] μ fun v μ'=>RepV μ' (T.num n).tm.d v:=by
 refine Spec.mk Tryz.func232 (by kernel_rfl) ?_
 intro r1
 refine rPl ?_
 rw[T.tm,Tm.d_mk]
 exact⟨_,rfl,RepS.int (RepS.int (RepS.str (RepS.last (Rep.nilSl 4))))⟩
theorem dT(s:ByteArray):Spec Tryz.prog 231 [.string s] μ fun v μ'=>RepV μ' (T.sym s).tm.d v:=by
 refine Spec.mk Tryz.func231 (by kernel_rfl) ?_
 intro r1
 refine rPl ?_
 rw[T.tm,Tm.d_mk]
 exact⟨_,rfl,RepS.int (RepS.int (RepS.str (RepS.last (Rep.nilSl 4))))⟩
def wO(h:Mem)(r k:Nat)(vars:Int)(v:Value)(μ' h':Mem):Prop:=Cur μ' h r h'∧∃t:T,RepV μ' t.tm.d v∧Drawn k vars t
theorem eI{h:Mem}{r:Nat}(hc:Cur μ h r h):SpecH Tryz.prog 191 [.pointer (some ⟨r,0,none⟩)] μ h fun v μ' h'=>wO h r 1 0 v μ' h':=by
 refine SpecH.mk [] Tryz.func191 (by kernel_rfl) ?_
 intro r1
 refine cOw (aI hc 7) fun v μ1 h1 hle1 hap1 hR=>?_
 obtain⟨e,hc1,k,rfl,hk,hk7,_⟩:=hR
 obtain rfl:=e.symm
 have hk7:=hk7 (by decide)
 refine ifd (fun h2=>?_) (fun h2=>?_)
 ·refine cPl (tD k) fun v μ2 hle2 hR => ?_
  have w_:=Tm.invV hR
  obtain⟨p,rfl⟩:=w_
  exact rPl ⟨hc1.mono hle2,.num k,hR,Drawn.atom (t:= .num k) (by show -1000000000≤(k:Int)∧(k:Int)≤1000000000;omega) rfl (fun _ h=>h) 0⟩
 ·refine ifd (fun h5 => ?_) (fun h5 => ?_)
  ·intro r2
   refine aB (by omega) (by omega) ?_
   have w_:k=2∨k=3∨k=4:=by omega
   rcases w_ with rfl|rfl|rfl
   ·refine aX 0 rfl (by decide) ?_
    refine aW (.string ⟨#[97]⟩) rfl ?_
    refine cPl (dT ⟨#[97]⟩) fun v μ2 hle2 hR=>?_
    have w_:=Tm.invV hR
    obtain⟨p,rfl⟩:=w_
    exact rPl ⟨hc1.mono hle2,.sym ⟨#[97]⟩,hR,Drawn.atom (t:= .sym ⟨#[97]⟩) (kZ (by decide)) rfl (fun _ h=>h) 0⟩
   ·refine aX 1 rfl (by decide) ?_
    refine aW (.string ⟨#[98]⟩) rfl ?_
    refine cPl (dT ⟨#[98]⟩) fun v μ2 hle2 hR=>?_
    have w_:=Tm.invV hR
    obtain⟨p,rfl⟩:=w_
    exact rPl ⟨hc1.mono hle2,.sym ⟨#[98]⟩,hR,Drawn.atom (t:= .sym ⟨#[98]⟩) (kZ (by decide)) rfl (fun _ h=>h) 0⟩
   ·refine aX 2 rfl (by decide) ?_
    refine aW (.string ⟨#[99]⟩) rfl ?_
    refine cPl (dT ⟨#[99]⟩) fun v μ2 hle2 hR=>?_
    have w_:=Tm.invV hR
    obtain⟨p,rfl⟩:=w_
    exact rPl ⟨hc1.mono hle2,.sym ⟨#[99]⟩,hR,Drawn.atom (t:= .sym ⟨#[99]⟩) (kZ (by decide)) rfl (fun _ h=>h) 0⟩
  ·refine rPl ⟨hc1, .nil, ?_, Drawn.atom (t := .nil) trivial rfl (fun _ h => h) 0⟩
   rw[T.tm,Tm.d_mk]
   exact⟨_,rfl,RepS.int (RepS.int (RepS.str (RepS.last (Rep.nilSl 4))))⟩
theorem cN(vars:Nat)(hv:vars≤1000):∀(size:Nat) {μ h:Mem} {r:Nat},size≤1000→Cur μ h r h→SpecH Tryz.prog 128 [.pointer (some ⟨r,0,none⟩),.int .i64 size,.int .i64 vars] μ h fun v μ' h'=>wO h r (lvB size) vars v μ' h':=fun size=>by
 induction size using Nat.strongRecOn with
 |ind size ih=>
  intro μ h r hs hc
  refine SpecH.mk [] Tryz.func128 (by kernel_rfl) ?_
  intro r1
  refine cOw (aI hc 8) fun v μ1 h1 hle1 hap1 hR=>?_
  obtain⟨e,hc1,k,rfl,hk,hk8,_⟩:=hR
  obtain rfl:=e.symm
  have hk8:=hk8 (by decide)
  refine ifd (fun h2=>?_) (fun h2=>?_)
  ·refine ifd (fun h3 => ?_) (fun h3 => ?_)
   ·have hq:IntKind.i64.wrap ((size:Int).tdiv 2)=((size / 2:Nat):Int):=by
     rw[Int.tdiv_eq_ediv_of_nonneg (by omega),aA (by omega) (by omega)];omega
    refine aC (by decide) (nEq hq ?_)
    refine cOw (ih (size / 2) (by omega) (by omega) hc1.at) fun v μ2 h4 hle2 hap2 hR=>?_
    obtain⟨hc2,a,ha,hda⟩:=hR
    have w_:=Tm.invV ha
    obtain⟨p,rfl⟩:=w_
    intro r2
    refine aC (by decide) (nEq hq ?_)
    refine cOw (ih (size / 2) (by omega) (by omega) hc2.at) fun v μ3 h5 hle3 hap3 hR=>?_
    obtain⟨hc3,b,hb,hdb⟩:=hR
    refine cPl (fO (ha.mono hle3) hb) fun v μ4 hle4 hR=>?_
    have w_:=Tm.invV hR
    obtain⟨p,rfl⟩:=w_
    refine rPl ⟨(hc1.trans (hc2.trans hc3)).mono hle4,.pair a b,hR,?_⟩
    have h2:2<size:=by omega
    rw[lvB,if_pos h2,Nat.two_mul]
    exact hda.pair hdb
   ·refine ifd (fun h6 => ?_) (fun h6 => ?_)
    ·refine aC (by decide) ?_
     refine aO fun x _=>?_
     refine ifd (fun h7=>?_) (fun h7=>?_)
     ·refine cOw (aI hc1.at vars) fun v μ2 h4 hle2 hap2 hR => ?_
      obtain⟨e,hc2,j,rfl,hj,hj2,_⟩:=hR
      obtain rfl:=e.symm
      have hj2:=hj2 (by omega)
      refine cGv (gS _) ?_
      refine rPl ⟨hc1.trans hc2,.var j,gP _,⟨by show 0≤(j:Int)∧(j:Int)≤100000;omega,fun n hn=>?_,iO _⟩⟩
      have hn:(j:Int)=n:=hn
      omega
     ·refine cOw (eI hc1.at) fun v μ2 h4 hle2 hap2 hR => ?_
      obtain⟨hc2,a,ha,hda⟩:=hR
      have w_:=Tm.invV ha
      obtain⟨p,rfl⟩:=w_
      exact rPl ⟨hc1.trans hc2,a,ha,(hda.wide (by omega)).mono (iO _)⟩
    ·refine cOw (eI hc1.at) fun v μ2 h4 hle2 hap2 hR => ?_
     obtain⟨hc2,a,ha,hda⟩:=hR
     have w_:=Tm.invV ha
     obtain⟨p,rfl⟩:=w_
     exact rPl ⟨hc1.trans hc2,a,ha,(hda.wide (by omega)).mono (iO _)⟩
  ·refine ifd (fun h6 => ?_) (fun h6 => ?_)
   ·refine aC (by decide) ?_
    refine aO fun x _=>?_
    refine ifd (fun h7=>?_) (fun h7=>?_)
    ·refine cOw (aI hc1.at vars) fun v μ2 h4 hle2 hap2 hR => ?_
     obtain⟨e,hc2,j,rfl,hj,hj2,_⟩:=hR
     obtain rfl:=e.symm
     have hj2:=hj2 (by omega)
     refine cGv (gS _) ?_
     refine rPl ⟨hc1.trans hc2,.var j,gP _,⟨by show 0≤(j:Int)∧(j:Int)≤100000;omega,fun n hn=>?_,iO _⟩⟩
     have hn:(j:Int)=n:=hn
     omega
    ·refine cOw (eI hc1.at) fun v μ2 h4 hle2 hap2 hR => ?_
     obtain⟨hc2,a,ha,hda⟩:=hR
     have w_:=Tm.invV ha
     obtain⟨p,rfl⟩:=w_
     exact rPl ⟨hc1.trans hc2,a,ha,(hda.wide (by omega)).mono (iO _)⟩
   ·refine cOw (eI hc1.at) fun v μ2 h4 hle2 hap2 hR => ?_
    obtain⟨hc2,a,ha,hda⟩:=hR
    have w_:=Tm.invV ha
    obtain⟨p,rfl⟩:=w_
    exact rPl ⟨hc1.trans hc2,a,ha,(hda.wide (by omega)).mono (iO _)⟩
end
end Go.Vx
namespace Go.Vx
open Go.Proofs Classical
theorem T.ext_args{x y:T}(h1:x.tm.kind=y.tm.kind)(h2:x.tm.num=y.tm.num)(h3:x.tm.name=y.tm.name)(h4:x.args=y.args):x=y:=by
 cases x<;>cases y<;>simp_all [T.tm,Tm.kind,Tm.num,Tm.name,T.args]
theorem nK{α:Type}{l m:List α}(hl:l.length=m.length)(h:∀(j:Nat) x y,l[j]? =some x→m[j]? =some y→x=y):l=m:=
 List.ext_getElem? fun j=>by
  rcases Nat.lt_or_ge j l.length with k|k
  ·have w_ := aSo (l := l) (i := j) k
   obtain⟨x,hx⟩:=w_
   have w_:=aSo (l:=m) (i:=j) (by omega)
   obtain⟨y,hy⟩:=w_
   rw[hx,hy,h j x y hx hy]
  ·rw[List.getElem?_eq_none k,List.getElem?_eq_none (by omega)]
section
variable {μ:Mem}
theorem zA:∀(x y:T) {v w:Value},RepV μ x.tm.d v→RepV μ y.tm.d w→aM Tryz.prog 175 [v,w] μ (.bool (decide (x=y))):=
 T.ind fun x ih y v w hv hw=>by
  have w_:=T.inv hv
  obtain⟨base,cap,rfl,hsl⟩:=w_
  have w_:=T.inv hw
  obtain⟨base2,cap2,rfl,hsl2⟩:=w_
  have hn:=aH hsl.max
  refine Spec.mk Tryz.func175 (by kernel_rfl) ?_
  intro r1 r2
  refine aL (fun h1=>rGv (isF fun e=>h1 (by rw[e])) rfl) (fun h1=>?_)
  refine aL (fun h2=>rGv (isF fun e=>h2 (by rw[e])) rfl) (fun h2=>?_)
  refine aL (fun h3=>rGv (isF fun e=>h3 (by rw[e])) rfl) (fun h3=>?_)
  refine aL (fun h4=>rGv (isF fun e=>h4 (by rw[e])) rfl) (fun h4=>?_)
  have h4:x.args.length=y.args.length:=by omega
  refine lIn (fun i:Nat=>i≤x.args.length∧∀j a b,j<i→x.args[j]? =some a→y.args[j]? =some b→a=b)
   (fun i=>⟨[(3,.loc 1 r2 0),(36,.val (.slice base x.args.length cap)),(37,.val (.int .i64 x.args.length)),(38,.val (.int .i64 i))],[(1,some (.cells r2 [.val (.int .i64 y.tm.kind),.val (.int .i64 y.tm.num),.val (.string y.tm.name),.val (.slice base2 y.args.length cap2)] 75))],2,μ,Mem.nil⟩) (fun i=>x.args.length-i)
   0 ⟨Nat.zero_le _,fun j a b hj=>absurd hj (Nat.not_lt_zero _)⟩ (fun _=>⟨rfl,rfl⟩) ⟨⟨rfl,rfl,rfl,rfl,trivial⟩,⟨rfl,trivial⟩,rfl,rfl⟩ ?_
  rintro i ⟨hi,heq⟩
  refine ifd (fun h=>?_) (fun h=>?_)
  ·have w_ := aSo (l := x.args) (i := i) (by omega)
   obtain⟨a,ha⟩:=w_
   have w_:=aSo (l:=y.args) (i:=i) (by omega)
   obtain⟨b,hb⟩:=w_
   have w_:=T.arg hsl ha
   obtain⟨ad,p,hel,hto⟩:=w_
   have w_:=T.arg hsl2 hb
   obtain⟨ad2,p2,hel2,hto2⟩:=w_
   refine eIn hel ?_
   intro r3
   refine eIn hel2 ?_
   refine cGv (ih a (mAt ha) b hto hto2) ?_
   refine aL (fun h5=>rGv (isF fun e=>h5 ?_) rfl) (fun h5=>?_)
   ·subst e
    rw[ha]at hb
    exact Option.some.inj hb
   ·refine aB (by omega) (by omega) ⟨i + 1, ⟨by omega, fun j c d hj hc hd => ?_⟩, by omega, ⟨⟨rfl, rfl, rfl, rfl, trivial⟩, ⟨rfl, trivial⟩, rfl, rfl⟩⟩
    rcases Nat.lt_or_ge j i with h6|h6
    ·exact heq j c d h6 hc hd
    ·obtain rfl : j = i := by omega
     rw[ha]at hc
     rw[hb]at hd
     cases hc;cases hd
     exact h5
  ·obtain rfl : i = x.args.length := by omega
   refine rGv (isT (T.ext_args h1 h2 h3 (nK h4 fun j a b ha hb=>?_))) rfl
   exact heq j a b (List.getElem?_eq_some_iff.1 ha).1 ha hb
theorem yS{x y:List T}{base base2:Option Addr}{cap cap2:Nat}(hsl:Sl μ 4 base x.length ((x.map T.tm).map Tm.d))(hsl2:Sl μ 4 base2 y.length ((y.map T.tm).map Tm.d)):
  aM Tryz.prog 104 [.slice base x.length cap,.slice base2 y.length cap2] μ (.bool (decide (x=y))):=by
 have hn:=aH hsl.max
 refine Spec.mk Tryz.func104 (by kernel_rfl) ?_
 refine aL (fun h4=>rGv (isF fun e=>h4 (by rw[e])) rfl) (fun h4=>?_)
 have h4:x.length=y.length:=by omega
 refine lIn (fun i:Nat=>i≤x.length∧∀j a b,j<i→x[j]? =some a→y[j]? =some b→a=b)
  (fun i=>⟨[(1,.val (.slice base2 y.length cap2)),(12,.val (.slice base x.length cap)),(13,.val (.int .i64 x.length)),(14,.val (.int .i64 i))],[],0,μ,Mem.nil⟩) (fun i=>x.length-i)
  0 ⟨Nat.zero_le _,fun j a b hj=>absurd hj (Nat.not_lt_zero _)⟩ (fun _=>⟨rfl,rfl⟩) ⟨⟨rfl,rfl,rfl,rfl,trivial⟩,trivial,rfl,rfl⟩ ?_
 rintro i ⟨hi,heq⟩
 refine ifd (fun h=>?_) (fun h=>?_)
 rotate_left
 ·obtain rfl : i = x.length := by omega
  refine rGv (isT (nK h4 fun j a b ha hb=>?_)) rfl
  exact heq j a b (List.getElem?_eq_some_iff.1 ha).1 ha hb
 have w_:=aSo (l:=x) (i:=i) (by omega)
 obtain⟨a,ha⟩:=w_
 have w_:=aSo (l:=y) (i:=i) (by omega)
 obtain⟨b,hb⟩:=w_
 have w_:=Tm.elem (i:=i) (t:=a.tm) hsl (by simp[ha])
 obtain⟨ad,p,hel,hto⟩:=w_
 have w_:=Tm.elem (i:=i) (t:=b.tm) hsl2 (by simp[hb])
 obtain⟨ad2,p2,hel2,hto2⟩:=w_
 refine eIn hel ?_
 intro r3
 refine eIn hel2 ?_
 refine cGv (zA a b hto hto2) ?_
 refine aL (fun h5=>rGv (isF fun e=>h5 ?_) rfl) (fun h5=>?_)
 ·subst e
  rw[ha]at hb
  exact Option.some.inj hb
 ·refine aB (by omega) (by omega) ⟨i + 1, ⟨by omega, fun j c d hj hc hd => ?_⟩, by omega, ⟨⟨rfl, rfl, rfl, rfl, trivial⟩, trivial, rfl, rfl⟩⟩
  rcases Nat.lt_or_ge j i with h6|h6
  ·exact heq j c d h6 hc hd
  ·obtain rfl : j = i := by omega
   rw[ha]at hc
   rw[hb]at hd
   cases hc;cases hd
   exact h5
end
end Go.Vx
namespace Go.Vx
open Go.Proofs Classical
mutual
theorem Gl.cb_pos:∀g:Gl,1≤g.cb
 | .mk k s ts gs=>by
  rw[Gl.cb]
  split
  ·omega
  ·split
   ·exact Gl.cbAnd_pos gs
   ·exact Nat.le_refl _
theorem Gl.cbAnd_pos:∀l:List Gl,1≤Gl.cbAnd l
 |[]=>Nat.le_refl _
 |g::r=>by
  rw[Gl.cbAnd]
  exact Nat.mul_pos g.cb_pos (Gl.cbAnd_pos r)
end
mutual
theorem Gl.cl_cb:∀g:Gl,g.cb≤64→∃L,g.cl=some L∧L.length≤g.cb
 | .mk k s ts gs,h=>by
  rw[Gl.cb]at h ⊢
  rw[Gl.cl]
  by_cases h0:k=0
  ·subst h0;exact⟨_,rfl,by simp⟩
  rw[if_neg h0]
  by_cases h1:k=1
  ·subst h1;exact⟨_,rfl,by simp⟩
  rw[if_neg h1]
  by_cases h8:k=8
  ·rw [if_pos h8] at h ⊢
   rw[if_pos h8]
   have w_:=Gl.clOr_cb gs [] (by simp only[List.length_nil];omega)
   obtain⟨L,h2,h3⟩:=w_
   exact⟨L,h2,by simp only[List.length_nil]at h3;omega⟩
  rw[if_neg h8]at h ⊢
  rw[if_neg h8]
  by_cases h7:k=7
  ·rw [if_pos h7] at h ⊢
   rw[if_pos h7]
   have w_:=Gl.clAnd_cb gs [[]] 1 (Nat.le_refl _) (Nat.le_refl _) (by rw[Nat.one_mul];exact h)
   obtain⟨L,h2,h3⟩:=w_
   exact⟨L,h2,by rw[Nat.one_mul]at h3;exact h3⟩
  ·rw [if_neg h7, if_neg h7]
   exact⟨_,rfl,Nat.le_refl _⟩
theorem Gl.clOr_cb:∀(l:List Gl) (acc:List (List Gl)),acc.length+Gl.cbOr l≤64→∃L,Gl.clOr l acc=some L∧L.length≤acc.length+Gl.cbOr l
 |[],acc,_=>⟨acc,rfl,by rw[Gl.cbOr];omega⟩
 |g::r,acc,h=>by
  rw[Gl.cbOr]at h ⊢
  have w_:=Gl.cl_cb g (by omega)
  obtain⟨L,h1,h2⟩:=w_
  have hl:(acc++L).length≤acc.length+g.cb:=by rw[List.length_append];omega
  have w_:=Gl.clOr_cb r (acc++L) (by omega)
  obtain⟨M,h3,h4⟩:=w_
  refine⟨M,?_,by omega⟩
  rw[Gl.clOr,h1,Option.bind_some,if_pos (by omega)]
  exact h3
theorem Gl.clAnd_cb:∀(l:List Gl) (acc:List (List Gl)) (A:Nat),acc.length≤A→1≤A→A*Gl.cbAnd l≤64→∃L,Gl.clAnd l acc=some L∧L.length≤A*Gl.cbAnd l
 |[],acc,A,hA,_,_=>⟨acc,rfl,by rw[Gl.cbAnd];omega⟩
 |g::r,acc,A,hA,hA1,h=>by
  rw[Gl.cbAnd]at h ⊢
  have hr:=Gl.cbAnd_pos r
  have hgp:=g.cb_pos
  have hmul:A*(g.cb*Gl.cbAnd r)=A*g.cb*Gl.cbAnd r:=(Nat.mul_assoc _ _ _).symm
  rw[hmul]at h ⊢
  have h1:A*g.cb≤64:=Nat.le_trans (Nat.le_mul_of_pos_right _ hr) h
  have w_:=Gl.cl_cb g (Nat.le_trans (Nat.le_mul_of_pos_left _ hA1) h1)
  obtain⟨L,h2,h3⟩:=w_
  have hl:(cK acc L).length≤A*g.cb:=by rw[dW];exact Nat.mul_le_mul hA h3
  have w_:=Gl.clAnd_cb r (cK acc L) (A*g.cb) hl (Nat.mul_pos hA1 hgp) h
  obtain⟨M,h4,h5⟩:=w_
  refine⟨M,?_,h5⟩
  rw[Gl.clAnd,h2,Option.bind_some,if_pos (by omega)]
  exact h4
end
theorem qEo(U:List T)(r:Rl)(i:Nat)(c:List Gl)(w:Nat):(bI U r i c w).length≤w:=by
 have:=List.length_filterMap_le (dY U r i c) (List.range w)
 rw[List.length_range]at this
 exact this
theorem wF(U:List T)(r:Rl)(L:List (List Gl)):∀k,(aY U r L k).length≤k*U.length ^ (r.arity+r.locals).toNat
 |0=>by simp[aY]
 |k+1=>by
  have ih:=wF U r L k
  have h:=qEo U r k (L.getD k []) (U.length ^ (r.arity+r.locals).toNat)
  have e:aY U r L (k+1)=aY U r L k++bI U r k (L.getD k []) (U.length ^ (r.arity+r.locals).toNat):=by
   rw[aY,List.range_succ,List.flatMap_append];simp[aY]
  rw[e,List.length_append,Nat.succ_mul]
  omega
theorem qEn{U:List T}{m:Nat}(hU:U.length≤m){r:Rl}(h:r.body.cb≤64):(cD U r).length≤r.body.cb*m ^ (r.arity+r.locals).toNat:=by
 have w_:=Gl.cl_cb r.body h
 obtain⟨L,h1,h2⟩:=w_
 rw[cD,h1]
 refine Nat.le_trans (wF U r L L.length) ?_
 exact Nat.mul_le_mul h2 (Nat.pow_le_pow_left hU _)
theorem wG{U:List T}{m:Nat}(hU:U.length≤m):∀l:List Rl,(∀r∈l,r.body.cb≤64)→(l.flatMap (cD U)).length≤qEm m l
 |[],_=>Nat.le_refl _
 |r::l,h=>by
  rw[List.flatMap_cons,List.length_append,qEm]
  have h1:=qEn hU (h r (by simp))
  have h2:=wG hU l fun x hx=>h x (by simp[hx])
  omega
theorem qAg{p:Pg}{m:Nat}(h:lE m p=true){U:List T}(hU:U.length≤m):cI p U=some (cC p U):=by
 rw[lE,Bool.and_eq_true,List.all_eq_true,decide_eq_true_eq]at h
 have hc:∀r∈p.rels,r.body.cb≤64∧m ^ (r.arity+r.locals).toNat≤4096:=fun r hr=>of_decide_eq_true (h.1 r hr)
 refine if_pos ⟨fun r hr=>⟨fun e=>?_,Nat.le_trans (Nat.pow_le_pow_left hU _) (hc r hr).2⟩,Nat.le_trans (wG hU p.rels fun r hr=>(hc r hr).1) h.2⟩
 have w_:=Gl.cl_cb r.body (hc r hr).1
 obtain⟨L,h1,_⟩:=w_
 rw[h1]at e
 cases e
end Go.Vx
