/- Texts of the proof, part E1. -/
import Derived.Below
import Derived.MapKept
import Derived.Orders
import Derived.WalkKit
import Derived.WideKeyMaps
import Derived.Test.YtcmehajdmepcgaaGreatM6
namespace Go.Vx
theorem qFp{μ h:Mem}{r n cap:Nat}{ty:TypeId}{es bytes:Nat}{ys:List Value}{K:Nat→Nat→Mem→Prop}(xs:List Value)(ty0:TypeId)(e:xs.length=n)(hr:RowO h r cap ty0 es xs)(h1:(n+ys.length)*bytes≤140737488355328)(h2:n+ys.length≤maxLen)
  (k:∀r' cap' o ty',RowO (h.set r' o) r' cap' ty' es (xs++ys)→(r'=r∨(h r'=none∧μ r'=none))→K r' cap' (h.set r' o)):appVC μ h r n cap ty es bytes ys K:=⟨⟨xs,ty0,e,hr,h1,h2,fun r' c' o ty' _=>k r' c' o ty'⟩⟩
end Go.Vx
namespace Go.Vx
section
variable {P:Program} {f:FuncId} {args:List Value} {μ h0:Mem}
theorem Mem.sub_none{μ g:Mem}{b:Nat}(h:(μ.sub g) b≠none):g b=none:=by
 unfold Mem.sub at h
 split at h
 ·exact absurd rfl h
 ·assumption
theorem Mem.sub_of{μ g:Mem}{b:Nat}(h:g b=none):(μ.sub g) b=μ b:=by unfold Mem.sub;rw[h]
theorem Mem.le_sub{μ μ' g:Mem}(h:μ.Le μ')(ha:Apart μ g):μ.Le (μ'.sub g):=fun b o hb=>by
 rw[Mem.sub_of (ha b (by simp[hb]))];exact h b o hb
theorem SpecH.lend{H:Mem}{R:Value→Mem→Prop}(ha:Apart μ H)(h:Spec P f args (μ.join H) R):SpecH P f args μ H fun v μ1 H1=>H1=H∧∃μ',R v μ'∧(μ.join H).Le μ'∧μ1=μ'.sub H:=by
 refine⟨h.1,fun w hm hH _=>(h.2 w (hm.join hH) (gY w) (eS _)).mono ?_⟩
 rintro e w' ⟨v,μ',h',rfl,hr,hS⟩
 refine⟨v,μ'.sub H,H,rfl,⟨rfl,μ',hr,hS.le,rfl⟩,⟨Mem.le_sub ((Mem.le_join μ H).trans hS.le) ha,hS.mem.le (Mem.sub_le _ _),hS.mem.le ((Mem.le_join_right ha).trans hS.le),fun b hb=>Mem.sub_none hb,fun b hb hb'=>?_,fun b hb=> .inr hb,hS.size,fun b hb _=>hS.keep b hb rfl,hS.os,hS.tape,hS.output⟩⟩
 have h1:=Mem.sub_none hb'
 rw[Mem.sub_of h1]at hb'
 refine .inl ((hS.fresh b ?_ hb').resolve_right (fun h=>h rfl))
 rw[Mem.join_get,hb];exact h1
end
end Go.Vx
namespace Go.Vx
section
variable {P:Program} {f:FuncId} {args:List Value} {μ H:Mem}
theorem Spec.lendOwn{R:Value→Mem→Prop}{R':Value→Mem→Mem→Prop}(ha:Apart μ H)(h:Spec P f args (μ.join H) R)(G:∀v μ1,(μ.join H).Le μ1→R v μ1→∃g:Mem,g.Le μ1∧(∀b,g b≠none→(μ.join H) b=none)∧R' v g μ1):
  SpecH P f args μ H fun v μ2 H2=>∃g μ1,R' v g μ1∧(μ.join H).Le μ1∧Parts H2 H g∧μ2=(μ1.sub H).sub g:=by
 refine⟨h.1,fun w hm hH _=>(h.2 w (hm.join hH) (gY w) (eS _)).mono ?_⟩
 rintro e w' ⟨v,μ1,h1,rfl,hr,hS⟩
 obtain⟨g,hg,hf,hr'⟩:=G v μ1 hS.le hr
 have hgH:Apart H g:=fun b hb=>by
  cases h2:g b with
  |none=>rfl
  |some o=>
   have:=hf b (by simp[h2])
   cases h3:H b with
   |none=>exact absurd h3 hb
   |some o'=>rw[Mem.le_join_right ha b o' h3]at this;cases this
 have hgμ:Apart μ g:=fun b hb=>by
  cases h2:g b with
  |none=>rfl
  |some o=>
   have:=hf b (by simp[h2])
   cases h3:μ b with
   |none=>exact absurd h3 hb
   |some o'=>rw[Mem.le_join μ H b o' h3]at this;cases this
 refine⟨v,(μ1.sub H).sub g,H.join g,rfl,⟨g,μ1,hr',hS.le,Parts.join hgH,rfl⟩,⟨Mem.le_sub (Mem.le_sub ((Mem.le_join μ H).trans hS.le) ha) hgμ,hS.mem.le ((Mem.sub_le _ _).trans (Mem.sub_le _ _)),(hS.mem.le ((Mem.le_join_right ha).trans hS.le)).join (hS.mem.le hg),fun b hb=>?_,fun b hb hb'=>?_,fun b hb=>?_,hS.size,fun b hb _=>hS.keep b hb rfl,hS.os,hS.tape,hS.output⟩⟩
 ·have k1 := Mem.sub_none hb
  rw[Mem.sub_of k1]at hb
  rw[Mem.join_get,Mem.sub_none hb];exact k1
 ·have k1 := Mem.sub_none hb'
  rw[Mem.sub_of k1]at hb'
  have k2:=Mem.sub_none hb'
  rw[Mem.sub_of k2]at hb'
  refine .inl ((hS.fresh b ?_ hb').resolve_right fun h=>h rfl)
  rw[Mem.join_get,hb];exact k2
 ·rcases kA hb with h2 | h2
  ·exact .inr h2
  ·refine .inl ((hS.fresh b (hf b h2) ?_).resolve_right fun h => h rfl)
   cases h3:g b with
   |none=>exact absurd h3 h2
   |some o=>rw[hg b o h3];simp
variable {dr:Bool} {s:St} {K:Value→St→Prop}
theorem cDa{R:Value→Mem→Prop}(hap:Apart s.mem s.own)(h:Spec P f args s.mem R)(k:∀v μ',s.mem.Le μ'→Apart μ' s.own→R v μ'→kT s μ' s.own fun s=>K v s):callVC dr P f args s K:=
 cOw (Spec.beside hap h) fun v μ' H' hle ha' ⟨h1,h2⟩=>by
  subst h1
  exact k v μ' hle ha' h2
end
end Go.Vx
namespace Go.Vx
open Go.Proofs
theorem qOa:Tryz.prog.underlying 4=some .bool:=ti4.kind
theorem qHl{P:Program}{t:TypeId}{i:TI}(h:TIok P t i):P.cellsOf t=i.size:=by
 obtain⟨inf,hin,hs,_⟩:=h.info'
 simp[Program.cellsOf,hin,hs]
end Go.Vx
namespace Go.Vx
open Go.Proofs Classical
section
variable {μ:Mem}
theorem T.leaf_own{x:T}{v:Value}(h:x.args=[])(hv:RepV μ x.tm.d v):OwnV x.tm.d Mem.nil v:=by
 have w_:=T.inv hv
 obtain⟨base,cap,rfl,_⟩:=w_
 rw[T.d_eq,h]
 rw[T.d_eq,h]at hv
 obtain⟨cs,e,h1⟩:=hv
 obtain⟨_,_,rfl,rfl,_,_,rfl,rfl,_,_,rfl,rfl,_,_,rfl,h7,rfl⟩:=h1
 obtain⟨b,c,rfl,hl,_,_⟩:=h7
 exact⟨_,e,OwnS.int (OwnS.int (OwnS.str (OwnS.last ⟨b,c,rfl,hl,by simp,.inl ⟨rfl,rfl⟩⟩)))⟩
theorem T.leaf_fresh{x:T}{v:Value}{μ':Mem}(h:x.args=[])(hv:RepV μ x.tm.d v):Fresh μ μ' x.tm.d v:=⟨Mem.nil,T.leaf_own h hv,(fun _ _ h=>nomatch h),fun _ h=>absurd rfl h⟩
theorem qKy{a b:T}{va vb:Value}{μ0 g:Mem}(ha:RepV μ a.tm.d va)(hb:RepV μ b.tm.d vb)(hg:OwnRows 4 [a.tm.d,b.tm.d] [va,vb] g)(h1:g.Le μ)(h2:∀x,g x≠none→μ0 x=none)(h3:μ0.Le μ):
  Spec Tryz.prog 98 [va,vb] μ fun v μ'=>Fresh μ0 μ' (T.pair a b).tm.d v:=by
 have w_:=Tm.invV ha
 obtain⟨p,rfl⟩:=w_
 have w_:=Tm.invV hb
 obtain⟨q,rfl⟩:=w_
 refine Spec.mk Tryz.func98 (by kernel_rfl) ?_
 intro r1 r2 r3 r4
 refine rFz [3] fun μ' hle hno hrow=> .inl ?_
 have hf:=Fresh.ofRow hg h1 h2 h3 hle hno hrow (show 2≤maxLen by decide)
 obtain⟨gg,k1,k2,k3⟩:=hf
 rw[T.d_eq]
 exact⟨gg,⟨_,rfl,OwnS.int (OwnS.int (OwnS.str (OwnS.last k1)))⟩,k2,k3⟩
def oZ(Q:Int→Prop)(k:FuncId)(caps:List Value)(μ:Mem)(f:Int→Option T):Prop:=
 ∀μ',μ.Le μ'→∀n,Q n→Spec Tryz.prog k (.int .i64 n::caps) μ' fun v μ''=>qGv (fun y tv=>RepV μ'' y.tm.d tv) (f n) v
theorem xH{Q:Int→Prop}{k:FuncId}{caps:List Value}{f:Int→Option T}:∀(x:T) {μ:Mem} {v:Value},(∀n∈x.vars,Q n)→oZ Q k caps μ f→RepV μ x.tm.d v→
  Spec Tryz.prog 60 [v,.func (.func k) #[] caps.toArray] μ fun v μ'=>Fresh μ μ' (x.subst f).tm.d v:=by
 intro x
 induction x with
 |var n=>
  intro μ v hQ hk hv
  have w_:=Tm.invV hv
  obtain⟨p,rfl⟩:=w_
  refine Spec.mk Tryz.func60 (by kernel_rfl) ?_
  intro r1 r2
  refine ifd (fun _=>?_) (fun h=>absurd rfl h)
  refine cPl (hk μ (Mem.Le.refl μ) n (hQ n (by simp[T.vars]))) fun v' μ' hle hR=>?_
  simp only[T.subst]
  cases hs:f n with
  |some y=>
   rw[hs]at hR
   obtain⟨tv,rfl,htv⟩:=hR
   have w_:=Tm.invV htv
   obtain⟨q,rfl⟩:=w_
   intro r3
   refine iIn (fun _=>?_) (fun h=>nomatch h)
   refine cPl (fQ y htv) fun v2 μ2 hle2 hR2=>?_
   have w_:=Tm.invV hR2.rep
   obtain⟨q2,rfl⟩:=w_
   exact rPl (hR2.mono hle (Mem.Le.refl _))
  |none=>
   rw[hs]at hR
   obtain rfl:=hR
   intro r3
   refine iIn (fun h=>nomatch h) (fun _=>?_)
   exact rPl (T.leaf_fresh rfl hv)
 |pair a b iha ihb=>
  intro μ v hQ hk hv
  have w_:=Tm.inv hv
  obtain⟨base',cap',rfl,hsa⟩:=w_
  have w_:=T.parts hsa
  obtain⟨ad,ad',p,p',h1,h2,hra,hrb⟩:=w_
  refine Spec.mk Tryz.func60 (by kernel_rfl) ?_
  intro r1 r2
  refine ifd (fun h=>absurd h (by simp)) (fun _=>?_)
  refine ifd (fun _=>?_) (fun h=>absurd rfl h)
  refine eIn h1 ?_
  refine eIn h2 ?_
  refine cPl (iha (fun n hn=>hQ n (by simp[T.vars,hn])) hk hra) fun v1 μ1 hle1 hR1=>?_
  refine cPl (ihb (fun n hn=>hQ n (by simp[T.vars,hn])) (fun μ' h=>hk μ' (hle1.trans h)) (hrb.mono hle1)) fun v2 μ2 hle2 hR2=>?_
  have w_:=qAe (Tm.d_n _) (Tm.d_n _) hle1 hle2 hR1 hR2
  obtain⟨g,k1,k2,k3⟩:=w_
  refine cPl (qKy (hR1.rep.mono hle2) hR2.rep k1 k2 k3 (hle1.trans hle2)) fun v3 μ3 hle3 hR3=>?_
  have w_:=Tm.invV hR3.rep
  obtain⟨q,rfl⟩:=w_
  exact rPl hR3
 |_=>
  intro μ v hQ hk hv
  have w_:=Tm.invV hv
  obtain⟨p,rfl⟩:=w_
  refine Spec.mk Tryz.func60 (by kernel_rfl) ?_
  intro r1 r2
  refine ifd (fun h=>absurd h (by simp[T.tm,Tm.kind])) (fun _=>?_)
  refine ifd (fun h=>absurd h (by simp[T.tm,Tm.kind])) (fun _=>?_)
  exact rPl (T.leaf_fresh rfl hv)
end
end Go.Vx
namespace Go.Vx
open Go.Proofs Classical
section
variable {μ:Mem}
def mI(f:Int→Option T)(n:Int):Nat:=match f n with|some y=>y.size|none=>1
theorem vH(f:Int→Option T)(n:Int):((T.var n).subst f).size=mI f n:=by
 simp only[T.subst,mI]
 cases f n<;>rfl
def qCm(Q:Int→Prop)(k:FuncId)(caps:List Value)(μ:Mem)(c:Int→Nat):Prop:=∀n,Q n→aP Tryz.prog k (.int .i64 n::caps) μ (.int .i64 (c n))
theorem vG{Q:Int→Prop}{k:FuncId}{caps:List Value}{f:Int→Option T}(hk:qCm Q k caps μ (mI f))(hf:∀n,Q n→mI f n≤5000):∀(x:T) {v:Value},(∀n∈x.vars,Q n)→RepV μ x.tm.d v→
  aP Tryz.prog 57 [v,.func (.func k) #[] caps.toArray] μ (.int .i64 (min (x.subst f).size 5001:Nat)):=by
 intro x
 induction x with
 |var n=>
  intro v hQ hv
  have w_:=Tm.invV hv
  obtain⟨p,rfl⟩:=w_
  have hqn:=hQ n (by simp[T.vars])
  have:=hf n hqn
  refine Spec.mk Tryz.func57 (by kernel_rfl) ?_
  intro r1
  refine ifd (fun _=>?_) (fun h=>absurd rfl h)
  refine cGv (hk n hqn) (rGv ?_ rfl)
  rw[vH]
  congr 1
  show(if(5001:Int)<(mI f n:Int)then(5001:Int)else(mI f n:Int))=_
  rw[if_neg (by omega)]
  omega
 |pair a b iha ihb=>
  intro v hQ hv
  have w_:=Tm.inv hv
  obtain⟨base',cap',rfl,hsa⟩:=w_
  have w_:=T.parts hsa
  obtain⟨ad,ad',p,p',h1,h2,hra,hrb⟩:=w_
  have hs:((T.pair a b).subst f).size=1+(a.subst f).size+(b.subst f).size:=rfl
  refine Spec.mk Tryz.func57 (by kernel_rfl) ?_
  intro r1
  refine ifd (fun h=>absurd h (by simp)) (fun _=>?_)
  refine ifd (fun _=>?_) (fun h=>absurd rfl h)
  refine eIn h1 ?_
  refine cGv (iha (fun n hn=>hQ n (by simp[T.vars,hn])) hra) ?_
  refine ifd (fun h=>rGv ?_ rfl) (fun h=>?_)
  ·rw[hs];congr 1;omega
  ·refine aC (by omega) (by omega) ?_
   refine eIn h2 ?_
   refine cGv (ihb (fun n hn=>hQ n (by simp[T.vars,hn])) hrb) ?_
   refine aC (by omega) (by omega) (rGv ?_ rfl)
   rw[hs]
   congr 1
   split<;>omega
 |_=>
  intro v hQ hv
  have w_:=Tm.invV hv
  obtain⟨p,rfl⟩:=w_
  refine Spec.mk Tryz.func57 (by kernel_rfl) ?_
  intro r1
  refine ifd (fun h=>absurd h (by simp[T.tm,Tm.kind])) (fun _=>?_)
  refine ifd (fun h=>absurd h (by simp[T.tm,Tm.kind])) (fun _=>?_)
  exact rGv rfl rfl
end
end Go.Vx
namespace Go.Vx
open Go.Proofs Classical
theorem qNp:∀{bs:List B} (_:∀b∈bs,b.to.ok) {n:Int} {y:T},sub bs n=some y→y.ok
 |[],_,n,y,h=>by simp[sub]at h
 |c::bs,hk,n,y,h=>by
  rw[sub]at h
  split at h
  ·cases h;exact hk c (by simp)
  ·exact qNp (fun b hb=>hk b (by simp[hb])) h
section
variable {μ:Mem}
theorem qS{Q:Int→Prop}{k:FuncId}{caps:List Value}{f:Int→Option T}{r:Nat}{ty:TypeId}(hk:oZ Q k caps μ f)(hf:∀n y,Q n→f n=some y→y.ok)(h:μ r=some (.cells #[.func (.func k) #[] caps.toArray] ty (0,0))):
  qCm Q 58 [.pointer (some ⟨r,0,none⟩)] μ (mI f):=fun n hq=>by
 refine(Spec.forget (R:=fun v=>v= .int .i64 (mI f n)) (Spec.mk Tryz.func58 (by kernel_rfl) ?_))
 refine bM [.func (.func k) #[] caps.toArray] rfl (bX h) ?_
 refine cPl (hk μ (Mem.Le.refl μ) n hq) fun v μ1 hle1 hR=>?_
 simp only[mI]
 cases hs:f n with
 |some y=>
  rw[hs]at hR
  obtain⟨tv,rfl,htv⟩:=hR
  have w_:=Tm.invV htv
  obtain⟨q,rfl⟩:=w_
  intro r3
  refine iIn (fun _=>?_) (fun h=>nomatch h)
  refine cGv (pR y.tm htv (by decide) (by decide)) ?_
  have hy:=(hf n y hq hs).tm
  rw[Tm.nodes_pos hy.1 (by have:=hy.2;omega),T.cnt_tm]
  exact rPl rfl
 |none=>
  rw[hs]at hR
  obtain rfl:=hR
  intro r3
  refine iIn (fun h=>nomatch h) (fun _=>?_)
  exact rPl rfl
theorem vV{Q:Int→Prop}{k:FuncId}{caps:List Value}{f:Int→Option T}(x:T){v:Value}(hQ:∀n∈x.vars,Q n)(hk:oZ Q k caps μ f)(hf:∀n y,Q n→f n=some y→y.ok)(hv:RepV μ x.tm.d v):
  Spec Tryz.prog 28 [v,.func (.func k) #[] caps.toArray] μ fun v μ'=>qGv (fun y tv=>Fresh μ μ' y.tm.d tv) (fit (x.subst f)) v:=by
 have w_:=Tm.invV hv
 obtain⟨p,rfl⟩:=w_
 have hc:∀n,Q n→mI f n≤5000:=fun n hq=>by
  simp only[mI]
  split
  ·rename_i y hy
   exact(hf n y hq hy).2
  ·omega
 refine Spec.mk Tryz.func28 (by kernel_rfl) ?_
 intro r1 r2 r3
 refine bD [1] ?_
 intro μ1 hle1 hno1 hat1
 have hk1:oZ Q k caps μ1 f:=fun μ' h=>hk μ' (hle1.trans h)
 refine cD (vG (qS hk1 hf hat1) hc x hQ (hv.mono hle1)) fun v μ2 hle2 hR=>?_
 obtain⟨rfl,e2⟩:=hR
 obtain rfl:=e2.symm
 refine ifd (fun h=>?_) (fun h=>?_)
 ·rw [fit, if_neg (by omega)]
  exact rPl rfl
 ·rw [fit, if_pos (by omega)]
  refine bM [.func (.func k) #[] caps.toArray] rfl (bX hat1) ?_
  refine cPl (xH x hQ hk1 (hv.mono hle1)) fun v2 μ3 hle3 hR3=>?_
  have w_:=Tm.invV hR3.rep
  obtain⟨q,rfl⟩:=w_
  exact rPl ⟨_,rfl,hR3.mono hle1 (Mem.Le.refl _)⟩
end
end Go.Vx
namespace Go.Vx
open Go.Proofs Classical
section
variable {μ:Mem}
theorem wX(n:Int):aP Tryz.prog 30 [.int .i64 n] μ (qLo n):=by
 refine Spec.mk Tryz.func30 (by kernel_rfl) ?_
 intro r1
 exact rGv rfl rfl
end
end Go.Vx
namespace Go.Vx
open Go.Proofs Classical
theorem T.good_vars:∀{x:T},x.good→∀n∈x.vars,0≤n∧n≤100000
 | .nil,_,n,h=>by simp[T.vars]at h
 | .var m,hg,n,h=>by
  simp only[T.vars,List.mem_singleton]at h
  subst h;exact hg
 | .sym _,_,n,h=>by simp[T.vars]at h
 | .num _,_,n,h=>by simp[T.vars]at h
 | .pair a b,hg,n,h=>by
  simp only[T.vars,List.mem_append]at h
  rcases h with h|h
  ·exact T.good_vars hg.1 n h
  ·exact T.good_vars hg.2 n h
def InV(n:Int):Prop:=0≤n∧n≤100000
section
variable {μ:Mem}
end
end Go.Vx
namespace Go.Vx
open Go.Proofs Classical
theorem var_ok{n:Int}(h:0≤n∧n≤100000):(T.var n).ok:=⟨h,by simp[T.size]⟩
theorem T.good_subst{f:Int→Option T}(hf:∀n y,f n=some y→y.good):∀{x:T},x.good→(x.subst f).good
 | .var n,h=>by
  simp only[T.subst]
  cases e:f n with
  |none=>exact h
  |some y=>exact hf n y e
 | .pair a b,h=>⟨T.good_subst hf h.1,T.good_subst hf h.2⟩
 | .nil,h=>h
 | .sym _,h=>h
 | .num _,h=>h
end Go.Vx
namespace Go.Vx
open Go.Proofs Classical
section
variable {μ:Mem}
theorem T.subst_congr{f g:Int→Option T}:∀(x:T),(∀n∈x.vars,f n=g n)→x.subst f=x.subst g
 | .var n,h=>by simp only[T.subst];rw[h n (by simp[T.vars])]
 | .pair a b,h=>by
  simp only[T.subst]
  rw[T.subst_congr a fun n hn=>h n (by simp[T.vars,hn]),T.subst_congr b fun n hn=>h n (by simp[T.vars,hn])]
 | .nil,_=>rfl
 | .sym _,_=>rfl
 | .num _,_=>rfl
end
end Go.Vx
namespace Go.Vx
open Go.Proofs Classical
theorem qX{α β:Type}{f:α→Option β}:∀{xs:List α} {i:Nat} {x:α} {ys:List β},xs[i]? =some x→(xs.take i).mapM f=some ys→
  (xs.take (i+1)).mapM f=(f x).map (ys++[·])∧(f x=none→xs.mapM f=none)
 |[],i,x,ys,h,_=>by simp at h
 |a::xs,0,x,ys,h,e=>by
  simp at h;subst h
  simp at e;subst e
  refine⟨?_,fun k=>by simp[List.mapM_cons,k]⟩
  cases hfa:f a<;>simp[List.mapM_cons,hfa]
 |a::xs,i+1,x,ys,h,e=>by
  simp only[List.getElem?_cons_succ]at h
  simp only[List.take_succ_cons,List.mapM_cons,bind,Option.bind_eq_some_iff,pure,Option.some.injEq]at e
  obtain⟨y,h1,zs,h2,rfl⟩:=e
  have ih:=qX h h2
  refine⟨?_,fun k=>?_⟩
  ·simp only [List.take_succ_cons, List.mapM_cons, bind, pure] at ih ⊢
   rw[h1,ih.1]
   cases f x<;>simp
  ·simp only [List.mapM_cons, bind]
   rw[ih.2 k]
   cases f a<;>rfl
section
variable {μ:Mem}
end
end Go.Vx
namespace Go.Vx
open Go.Proofs Classical
theorem Gl.puts_map(f:Int→Option T):∀l:List Gl,Gl.puts f l=l.map (Gl.put f)
 |[]=>rfl
 |t::r=>by simp[Gl.puts,Gl.puts_map f r]
theorem Gl.put_kind(f:Int→Option T)(g:Gl):(g.put f).kind=g.kind:=by cases g;rfl
theorem Gl.put_name(f:Int→Option T)(g:Gl):(g.put f).name=g.name:=by cases g;rfl
theorem Gl.put_terms(f:Int→Option T)(g:Gl):(g.put f).terms=g.terms.map fun t=>(t.toT.subst f).tm:=by cases g;rfl
theorem Gl.put_goals(f:Int→Option T)(g:Gl):(g.put f).goals=g.goals.map (Gl.put f):=by cases g;rw[Gl.put];exact Gl.puts_map f _
mutual
noncomputable def Gl.withO(F:T→Option T):Gl→Option Gl
 | .mk k s ts gs=>match (ts.map Tm.toT).mapM F with
  |none=>none
  |some xs=>match Gl.withOs F gs with
   |none=>none
   |some gs'=>some (.mk k s (xs.map T.tm) gs')
noncomputable def Gl.withOs(F:T→Option T):List Gl→Option (List Gl)
 |[]=>some []
 |g::r=>match g.withO F with
  |none=>none
  |some y=>match Gl.withOs F r with
   |none=>none
   |some ys=>some (y::ys)
end
theorem Gl.withOs_map(F:T→Option T):∀l:List Gl,Gl.withOs F l=l.mapM (Gl.withO F)
 |[]=>rfl
 |t::r=>by
  simp only[Gl.withOs,List.mapM_cons,Gl.withOs_map F r,bind,pure]
  cases t.withO F with
  |none=>rfl
  |some y=>cases r.mapM (Gl.withO F)<;>rfl
theorem Gl.withO_eq(F:T→Option T)(g:Gl):g.withO F=match (g.terms.map Tm.toT).mapM F with
  |none=>none
  |some xs=>match g.goals.mapM (Gl.withO F)with
   |none=>none
   |some gs'=>some (.mk g.kind g.name (xs.map T.tm) gs'):=by
 cases g
 rw[Gl.withO,Gl.withOs_map]
 rfl
theorem uI{α β:Type}{f:α→Option β}{h:α→β}:∀{l:List α},(∀x∈l,f x=some (h x))→l.mapM f=some (l.map h)
 |[],_=>by simp
 |x::l,k=>by
  rw[List.mapM_cons,k x (by simp),uI fun y hy=>k y (by simp[hy])]
  rfl
theorem oD{α β:Type}{f:α→Option β}:∀{l:List α} {x:α},x∈l→f x=none→l.mapM f=none
 |a::l,x,hx,k=>by
  rw[List.mapM_cons]
  rcases List.mem_cons.1 hx with rfl|hx
  ·rw[k];rfl
  ·rw [oD hx k]
   cases f a<;>rfl
theorem T.subst_sym{f:Int→Option T}{x:T}(h:x.tm.kind=2):(x.subst f).tm.kind=2:=by
 cases x<;>first|exact h|(cases h)
theorem Gl.with_put{bs:List B}(hb:∀b∈bs,b.to.ok):∀g:Gl,g.Sh→((g.put (sub bs)).Sh∧g.withO (fits bs)=some (g.put (sub bs)))∨(¬(g.put (sub bs)).Sh∧g.withO (fits bs)=none):=
 Gl.ind fun g ih h=>by
  have w_:=gO h.top.tm
  obtain⟨xs,hxs,hok⟩:=w_
  have e1:(g.put (sub bs)).terms=(xs.map (T.subst (sub bs))).map T.tm:=by
   rw[Gl.put_terms,hxs,List.map_map,List.map_map]
   exact List.map_congr_left fun x _=>by simp[T.toT_tm]
  have e2:=Gl.put_goals (sub bs) g
  have e3:=Gl.withO_eq (fits bs) g
  rw[hxs,kJ]at e3
  by_cases hf:∀x∈xs,(x.subst (sub bs)).size≤5000
  ·have m1 : xs.mapM (fits bs) = some (xs.map (T.subst (sub bs))) := uI fun x hx => by rw [fits, fit, if_pos (hf x hx)]
   rw[m1]at e3
   by_cases hg:∀y∈g.goals,(y.put (sub bs)).Sh
   ·have m2:g.goals.mapM (Gl.withO (fits bs))=some (g.goals.map (Gl.put (sub bs))):=uI fun y hy=>by
     rcases ih y hy (h.sub y hy)with k|k
     ·exact k.2
     ·exact absurd (hg y hy) k.1
    rw[m2]at e3
    refine .inl ⟨.mk ?_ ?_,?_⟩
    ·have hl : (g.put (sub bs)).terms.length = g.terms.length := by rw [Gl.put_terms, List.length_map]
     have hgl:(g.put (sub bs)).goals.length=g.goals.length:=by rw[e2,List.length_map]
     have tp:=h.top
     have hk:=Gl.put_kind (sub bs) g
     refine⟨fun t ht=>?_,hk ▸ tp.k0,hk ▸ tp.k1,?_,?_,?_,?_,?_,?_,?_,?_,?_,?_,?_⟩
     ·rw [e1] at ht
      have w_:=List.mem_map.1 ht
      obtain⟨y,hy,rfl⟩:=w_
      have w_:=List.mem_map.1 hy
      obtain⟨x,hx,rfl⟩:=w_
      exact T.ok.tm ⟨T.good_subst (fun n y h=>(qNp hb h).1) (hok x hx).1,hf x hx⟩
     ·rw[hk,Gl.put_name];exact tp.nm
     ·rw[hk,Gl.put_name];exact tp.rel
     ·rw[hk,hl];exact tp.ln9
     ·rw[hk,hl];exact tp.ln2
     ·rw[hk,hl];exact tp.ln1
     ·rw[hk,hl];exact tp.ln0
     ·rw[hgl];exact tp.gl
     ·rw[hk,hgl];exact tp.gl0
     ·rw[hk,hgl];exact tp.gl1
     ·rw [hk, e1]
      intro h6 a ha
      have h7:=tp.sy h6
      rw[hxs]at h7
      rw[List.map_map,List.getElem?_map]at ha
      cases hx:xs[0]? with
      |none=>rw[hx]at ha;cases ha
      |some x=>
       rw[hx]at ha
       cases ha
       exact T.subst_sym (h7 x.tm (by simp[hx]))
     ·rw [hk, e2]
      intro h10 b hb'
      rw[List.getElem?_map]at hb'
      cases hx:g.goals[0]? with
      |none=>rw[hx]at hb';cases hb'
      |some x=>
       rw[hx]at hb'
       cases hb'
       rw[Gl.put_kind]
       exact tp.cl h10 x hx
    ·rw [e2]
     intro y hy
     have w_:=List.mem_map.1 hy
     obtain⟨x,hx,rfl⟩:=w_
     exact hg x hx
    ·rw [e3]
     show some _=some _
     rw[←e1,←e2,←Gl.put_kind (sub bs) g,←Gl.put_name (sub bs) g]
     cases g.put (sub bs);rfl
   ·simp only [not_forall] at hg
    obtain⟨y,hy,hny⟩:=hg
    refine .inr ⟨fun k=>hny (k.sub _ (by rw[e2];exact List.mem_map.2 ⟨y,hy,rfl⟩)),?_⟩
    rw[e3,oD hy (by
     rcases ih y hy (h.sub y hy)with k|k
     ·exact absurd k.1 hny
     ·exact k.2)]
  ·simp only [not_forall] at hf
   obtain⟨x,hx,hnx⟩:=hf
   refine .inr ⟨fun k=>hnx ?_,?_⟩
   ·have h1 := k.top.tm (x.subst (sub bs)).tm (by rw [e1]; exact List.mem_map.2 ⟨_, List.mem_map.2 ⟨x, hx, rfl⟩, rfl⟩)
    have h2:=h1.2
    rwa [T.cnt_tm]at h2
   ·rw[e3,oD hx (by rw[fits,fit,if_neg hnx])]
def optG(P:Gl→Value→Prop)(o:Option Gl)(v:Value):Prop:=match o with
 |some y=>∃tv,v= .tuple #[tv,.bool true]∧P y tv
 |none=>v= .tuple #[.agg #[.int .i64 0,.string ⟨#[]⟩,.slice none 0 0,.slice none 0 0],.bool false]
section
variable {μ:Mem}
end
end Go.Vx
namespace Go.Vx
open Go.Proofs Classical
theorem vZ{α β:Type}{f:α→Option β}:∀{l:List α} {ys:List β},l.mapM f=some ys→ys.length=l.length
 |[],ys,h=>by simp at h;subst h;rfl
 |x::l,ys,h=>by
  simp only[List.mapM_cons,bind,Option.bind_eq_some_iff,pure,Option.some.injEq]at h
  obtain⟨y,h1,zs,h2,rfl⟩:=h
  simp[vZ h2]
def Maps(k:FuncId)(caps:List Value)(μ:Mem)(F:T→Option T):Prop:=∀μ',μ.Le μ'→∀(x:T) (v:Value),x.ok→RepV μ' x.tm.d v→
 Spec Tryz.prog k (v::caps) μ' fun v μ''=>qGv (fun y tv=>Fresh μ' μ'' y.tm.d tv) (F x) v
section
variable {μ:Mem}
theorem xI{F:T→Option T}{k:FuncId}{caps:List Value}:∀(g:Gl) {μ:Mem} {v:Value},Maps k caps μ F→RepV μ g.d v→g.Sh→
  Spec Tryz.prog 26 [v,.func (.func k) #[] caps.toArray] μ fun v μ'=>optG (fun y tv=>Fresh μ μ' y.d tv) (g.withO F) v:=
 Gl.ind fun g ih μ v hk hv hS=>by
  have w_:=Gl.inv hv
  obtain⟨p,rfl,hts,hgs⟩:=w_
  have w_:=gO hS.top.tm
  obtain⟨xs,hxs,hok⟩:=w_
  have hg8:=hS.top.gl
  have hx4:xs.length≤4:=by
   have T:=hS.top
   have e9:=T.ln9;have e2:=T.ln2;have e1:=T.ln1;have e0:=T.ln0;have k0:=T.k0;have k1:=T.k1
   have:g.terms.length=xs.length:=by rw[hxs,List.length_map]
   omega
  have e3:=Gl.withO_eq F g
  rw[hxs,kJ]at e3
  rw[hxs,List.length_map]at hts ⊢
  refine Spec.mk Tryz.func26 (by kernel_rfl) ?_
  intro r1 r2 r3
  refine bS (fun p:Nat×List T×Option Nat×Nat×List Value×Mem=>p.1≤xs.length∧μ.Le p.2.2.2.2.2∧(xs.take p.1).mapM F=some p.2.1∧Grown 4 μ p.2.2.2.2.2 ((p.2.1.map T.tm).map Tm.d) p.2.2.2.2.1)
   (fun (i, _, b, c, ys, μ') => ⟨[(1, .val (.func (.func k) #[] caps.toArray)), (2, .loc 0 r1 0), (4, .loc 1 r2 0), (6, .loc 2 r3 0), (21, .val (.slice p.1.1 xs.length p.1.2)), (22, .val (.int .i64 xs.length)), (23, .val (.int .i64 i))],
    [(0,some (.cells r1 [.val (.int .i64 g.kind),.val (.string g.name),.val (.slice p.1.1 xs.length p.1.2),.val (.slice p.2.1 g.goals.length p.2.2)] 31)),(1,some (.cells r2 [.val (.int .i64 0),.val (.string ⟨#[]⟩),.val (.slice none 0 0),.val (.slice none 0 0)] 31)),(2,some (.cells r3 [.val (.int .i64 g.kind),.val (.string g.name),.row 3 b ys.length c,.val (.slice none 0 0)] 31)),(3,some (.row b c 36 4 ys))],4,μ',Mem.nil⟩) (fun p=>xs.length-p.1)
   (0,[],none,0,[],μ) ⟨by simp,Mem.Le.refl _,by simp,Grown.nil _ _ _⟩ (fun(_,_,_,_,_,_)=>⟨rfl,rfl⟩) ⟨⟨⟨_,rfl,.inl rfl⟩,⟨_,rfl,.inl rfl⟩,⟨_,rfl,.inl rfl⟩,⟨_,rfl,.inl rfl⟩,⟨_,rfl,.inl rfl⟩,⟨_,rfl,.inl rfl⟩,⟨_,rfl,.inl rfl⟩,trivial⟩,⟨.inl rfl,.inl rfl,.inr (.inr ⟨_,_,_,_,rfl,rfl,.inl rfl,.inl rfl,.inr ⟨3,rfl,rfl,Nat.le_refl _⟩,.inl rfl,trivial⟩),.inr (.inl ⟨_,_,rfl,Nat.le_refl _⟩),trivial⟩,rfl,rfl⟩ ?_
  rintro⟨i,zs,b,c,ys,μ'⟩ ⟨hi,hle,hmap,hrows⟩
  dsimp only at hi hle hmap hrows
  have hlen:=hrows.len
  have hzl:=vZ hmap
  simp only[List.length_map,List.length_take]at hlen hzl
  refine ifd (fun h=>?_) (fun h=>?_)
  ·have w_ := aSo (l := xs) (i := i) (by omega)
   obtain⟨t,ht⟩:=w_
   have ht':(xs.map T.tm)[i]? =some t.tm:=by simp[ht]
   have w_:=Tm.elem (hts.mono hle) ht'
   obtain⟨ad,p3,hel,hr⟩:=w_
   have w_:=qX ht hmap
   obtain⟨hs1,hs2⟩:=w_
   refine eIn hel ?_
   intro r4
   refine cPl (hk μ' hle t _ (hok t (mAt ht)) hr) fun v' μ'' hle2 hR=>?_
   cases hf:F t with
   |none=>
    rw[hf]at hR
    obtain rfl:=hR
    intro r5
    refine iIn (fun _=>?_) (fun h=>absurd h (by simp))
    exact rPl (by rw[e3,hs2 hf];rfl)
   |some y=>
    rw[hf]at hR hs1
    obtain⟨tv,rfl,hR⟩:=hR
    have w_:=Tm.invV hR.rep
    obtain⟨q,rfl⟩:=w_
    intro r5
    refine iIn (fun h=>absurd h (by simp)) (fun _=>?_)
    intro r6
    refine gIn ?_ ?_ fun b' c' _=>?_
    ·show(ys.length+1)*56≤_;omega
    ·exact Nat.le_trans (m:=100000000) (show ys.length+1≤_ by omega) (by decide)
    refine aC (by omega) (by omega) ⟨(i+1,zs++[y],b',c',_,μ''),⟨by dsimp only;omega,hle.trans hle2,hs1,?_⟩,by dsimp only;omega,⟨⟨rfl,rfl,rfl,rfl,rfl,rfl,rfl,trivial⟩,⟨rfl,rfl,rfl,rfl,trivial⟩,rfl,rfl⟩⟩
    dsimp only
    simp only[List.map_append,List.map_cons,List.map_nil]
    exact hrows.snoc hle hR hle2 (Tm.d_n _)
  ·obtain rfl : i = xs.length := by omega
   rw[List.take_length]at hmap
   rw[hmap]at e3
   dsimp only at e3
   have hgs1:=hgs.mono hle
   refine bS (fun p:Nat×List Gl×Option Nat×Nat×List Value×Mem=>p.1≤g.goals.length∧μ'.Le p.2.2.2.2.2∧(g.goals.take p.1).mapM (Gl.withO F)=some p.2.1∧Grown 4 μ' p.2.2.2.2.2 (p.2.1.map Gl.d) p.2.2.2.2.1)
    (fun (i, _, b2, c2, us, μ'') => ⟨[(1, .val (.func (.func k) #[] caps.toArray)), (4, .loc 1 r2 0), (6, .loc 2 r3 0), (44, .val (.slice p.2.1 g.goals.length p.2.2)), (45, .val (.int .i64 g.goals.length)), (46, .val (.int .i64 i))],
     [(1,some (.cells r2 [.val (.int .i64 0),.val (.string ⟨#[]⟩),.val (.slice none 0 0),.val (.slice none 0 0)] 31)),(2,some (.cells r3 [.val (.int .i64 g.kind),.val (.string g.name),.row 3 b ys.length c,.row 4 b2 us.length c2] 31)),(3,some (.row b c 36 4 ys)),(4,some (.row b2 c2 31 4 us))],5,μ'',Mem.nil⟩) (fun p=>g.goals.length-p.1)
    (0,[],none,0,[],μ') ⟨by simp,Mem.Le.refl _,by simp,Grown.nil _ _ _⟩ (fun(_,_,_,_,_,_)=>⟨rfl,rfl⟩) ⟨⟨⟨_,rfl,.inl rfl⟩,⟨_,rfl,.inl rfl⟩,⟨_,rfl,.inl rfl⟩,⟨_,rfl,.inl rfl⟩,⟨_,rfl,.inl rfl⟩,⟨_,rfl,.inl rfl⟩,trivial⟩,⟨.inl rfl,.inr (.inr ⟨_,_,_,_,rfl,rfl,.inl rfl,.inl rfl,.inl rfl,.inr ⟨4,rfl,rfl,Nat.le_refl _⟩,trivial⟩),.inl rfl,.inr (.inl ⟨_,_,rfl,Nat.le_refl _⟩),trivial⟩,rfl,rfl⟩ ?_
   rintro⟨i,ws,b2,c2,us,μ''⟩ ⟨hi,hle3,hmap2,hrows2⟩
   dsimp only at hi hle3 hmap2 hrows2
   have hlen2:=hrows2.len
   have hwl:=vZ hmap2
   simp only[List.length_map,List.length_take]at hlen2 hwl
   refine ifd (fun h=>?_) (fun h=>?_)
   ·have w_ := aSo (l := g.goals) (i := i) (by omega)
    obtain⟨t,ht⟩:=w_
    have w_:=Gl.elem (hgs1.mono hle3) ht
    obtain⟨ad,p3,hel,hr⟩:=w_
    have w_:=qX ht hmap2
    obtain⟨hs1,hs2⟩:=w_
    refine eIn hel ?_
    intro r4
    refine cPl (ih t (mAt ht) (fun m hm=>hk m ((hle.trans hle3).trans hm)) hr (hS.sub t (mAt ht))) fun v' μ3 hle4 hR=>?_
    cases hf:t.withO F with
    |none=>
     rw[hf]at hR
     obtain rfl:=hR
     intro r5
     refine iIn (fun _=>?_) (fun h=>absurd h (by simp))
     exact rPl (by rw[e3,hs2 hf];rfl)
    |some y=>
     rw[hf]at hR hs1
     obtain⟨tv,rfl,hR⟩:=hR
     have w_:=Gl.invV hR.rep
     obtain⟨q,rfl⟩:=w_
     intro r5
     refine iIn (fun h=>absurd h (by simp)) (fun _=>?_)
     intro r6
     refine gIn ?_ ?_ fun b' c' _=>?_
     ·show(us.length+1)*72≤_;omega
     ·exact Nat.le_trans (m:=100000000) (show us.length+1≤_ by omega) (by decide)
     refine aC (by omega) (by omega) ⟨(i+1,ws++[y],b',c',_,μ3),⟨by dsimp only;omega,hle3.trans hle4,hs1,?_⟩,by dsimp only;omega,⟨⟨rfl,rfl,rfl,rfl,rfl,rfl,trivial⟩,⟨rfl,rfl,rfl,rfl,trivial⟩,rfl,rfl⟩⟩
     dsimp only
     simp only[List.map_append,List.map_cons,List.map_nil]
     exact hrows2.snoc hle3 hR hle4 (Gl.d_n _)
   ·obtain rfl : i = g.goals.length := by omega
    rw[List.take_length]at hmap2
    rw[hmap2]at e3
    dsimp only at e3
    refine rFz [3,4] fun μ2 hle5 hno hrow=>fun μ3 hle6 hno2 hrow2=> .inl ?_
    rw[e3]
    refine⟨_,rfl,?_⟩
    show Fresh μ μ3 (Gl.mk g.kind g.name (zs.map T.tm) ws).d _
    rw[Gl.d_eq]
    exact FreshS.st (FreshS.int (FreshS.str (Grown.two hrows hrows2 hle hle3 hle5 hle6 hno hrow (Nat.le_trans (m:=100000000) (by omega) (by decide)) hno2 hrow2 (Nat.le_trans (m:=100000000) (by omega) (by decide)))))
end
end Go.Vx
namespace Go.Vx
open Go.Proofs Classical
open Go.Sort
structure Prs {X:Type} (es:Nat) (f:X→D) (ps:List (X×Value)) (g:Mem):Prop where
 own:OwnRows es (ps.map fun p=>f p.1) (ps.map Prod.snd) g
 size:∀p∈ps,(aB p.2).length=es∧∀u∈aB p.2,u.oneCell'=true
section
variable {X:Type} {es:Nat} {f:X→D} {g:Mem}
theorem Prs.uncons{p:X×Value}{ps:List (X×Value)}(h:Prs es f (p::ps) g):∃g1 g2,Parts g g1 g2∧Own (f p.1) g1 (aB p.2)∧(f p.1).n=es∧Prs es f ps g2:=by
 obtain⟨⟨ho,hs,hl⟩,hz⟩:=h
 simp only[List.map_cons,List.flatMap_cons]at ho
 obtain⟨c1,c2,g1,g2,e,hp,h1,h2⟩:=ho
 have hn:(f p.1).n=es:=hs _ (by simp)
 have hz0:=(hz p (by simp)).1
 have:=List.append_inj e (by rw[h1.len,hn,hz0])
 obtain⟨rfl,rfl⟩:=this
 exact⟨g1,g2,hp,h1,hn,⟨h2,fun x hx=>hs x (by simp only[List.map_cons];exact List.mem_cons_of_mem _ hx),by simp⟩,fun q hq=>hz q (List.mem_cons_of_mem _ hq)⟩
theorem Prs.cons{p:X×Value}{ps:List (X×Value)}{g1 g2:Mem}(hp:Parts g g1 g2)(h1:Own (f p.1) g1 (aB p.2))(hn:(f p.1).n=es)(hz:(aB p.2).length=es∧∀u∈aB p.2,u.oneCell'=true)(h:Prs es f ps g2):Prs es f (p::ps) g:=by
 refine⟨⟨?_,?_,by simp⟩,?_⟩
 ·simp only [List.map_cons, List.flatMap_cons]
  exact OwnS.cons hp h1 h.own.own
 ·intro x hx
  simp only[List.map_cons,List.mem_cons]at hx
  rcases hx with rfl|hx
  ·exact hn
  ·exact h.own.size x hx
 ·intro q hq
  rcases List.mem_cons.1 hq with rfl|hq
  ·exact hz
  ·exact h.size q hq
theorem Prs.perm{ps ps':List (X×Value)}(h:ps.Perm ps'):∀{g:Mem},Prs es f ps g→Prs es f ps' g:=by
 induction h with
 |nil=>exact fun h=>h
 |cons p _ ih=>
  intro g h
  obtain⟨g1,g2,hp,h1,hn,h2⟩:=h.uncons
  exact Prs.cons hp h1 hn (h.size _ (by simp)) (ih h2)
 |swap p q l=>
  intro g h
  obtain⟨g1,k,hp,h1,hn,h2⟩:=h.uncons
  obtain⟨g2,g3,hq,h3,hn2,h4⟩:=h2.uncons
  have w_:=Parts.assoc hp hq.symm
  obtain⟨m,hm1,hm2⟩:=w_
  exact Prs.cons hm2.symm h3 hn2 (h.size _ (by simp)) (Prs.cons hm1 h1 hn (h.size _ (by simp)) h4)
 |trans _ _ ih1 ih2=>exact fun h=>ih2 (ih1 h)
theorem Prs.zip:∀{xs:List X} {ys:List Value} {g:Mem},OwnRows es (xs.map f) ys g→(∀y∈ys,(aB y).length=es∧∀u∈aB y,u.oneCell'=true)→Prs es f (xs.zip ys) g∧(xs.zip ys).map Prod.fst=xs∧(xs.zip ys).map Prod.snd=ys:=fun {xs ys g} h hz=>by
 have hl:xs.length=ys.length:=by simpa using h.len
 have e1:(xs.zip ys).map Prod.fst=xs:=by rw[List.map_fst_zip (by omega)]
 have e2:(xs.zip ys).map Prod.snd=ys:=by rw[List.map_snd_zip (by omega)]
 refine⟨⟨?_,fun p hp=>hz p.2 ?_⟩,e1,e2⟩
 ·have e3:(xs.zip ys).map (fun p=>f p.1)=xs.map f:=by
   conv=>rhs;rw[←e1,List.map_map]
   rfl
  rw[e2,e3];exact h
 ·rw[←e2];exact List.mem_map.2 ⟨p,hp,rfl⟩
end
section
variable {X:Type} {es:Nat} {f:X→D}
theorem Prs.sub{ps ps':List (X×Value)}(h:ps'.Sublist ps):∀{g:Mem},Prs es f ps g→∃g':Mem,g'.Le g∧Prs es f ps' g':=by
 induction h with
 |slnil=>exact fun {g} h=>⟨g,Mem.Le.refl _,h⟩
 |cons p _ ih=>
  intro g h
  obtain⟨g1,g2,hp,h1,hn,h2⟩:=h.uncons
  obtain⟨g',h3,h4⟩:=ih h2
  exact⟨g',h3.trans hp.right,h4⟩
 |cons_cons p _ ih=>
  intro g h
  obtain⟨g1,g2,hp,h1,hn,h2⟩:=h.uncons
  obtain⟨g',h3,h4⟩:=ih h2
  have ha:Apart g1 g':=fun b hb=>by
   have:=hp.apart b hb
   cases e:g' b with
   |none=>rfl
   |some o=>rw[h3 b o e]at this;cases this
  exact⟨g1.join g',iS hp.left (h3.trans hp.right),Prs.cons (Parts.join ha) h1 hn (h.size _ (by simp)) h4⟩
end
end Go.Vx
namespace Go.Vx
open Go.Proofs Classical
section
variable {μ:Mem}
theorem fD{p:Pg}{s:ByteArray}{v:Value}(hp:RepV μ p.d v):Spec Tryz.prog 24 [v,.string s] μ fun r _=>r= .int .i64 (fY p s):=by
 have hp0:=hp
 have w_:=Pg.inv hp
 obtain⟨q,rfl,_⟩:=w_
 refine Spec.mk Tryz.func24 (by kernel_rfl) ?_
 intro r2
 refine cPl (eH hp0) fun v1 μ1 hle1 hR=>?_
 obtain rfl:=hR
 refine aM (fun h=>rPl (by rw[fY,if_neg h])) (fun h=>?_)
 refine cGv (jF (hp0.mono hle1)) ?_
 exact rPl (by rw[fY,if_pos h])
end
end Go.Vx
namespace Go.Vx
open Go.Proofs Classical
def lW(vs:List T):List B:=vs.zipIdx.map fun p=>⟨(p.2:Int),p.1⟩
theorem qIc:∀(vs:List T) (k:Nat) (n:Int),sub ((vs.zipIdx k).map fun p=>⟨(p.2:Int),p.1⟩) n=if(k:Int)≤n then vs[(n-k).toNat]? else none
 |[],k,n=>by simp[sub]
 |x::vs,k,n=>by
  rw[List.zipIdx_cons,List.map_cons,sub,qIc vs (k+1) n]
  by_cases h:(k:Int)=n
  ·subst h;simp
  ·rw [if_neg h]
   by_cases h2:(k:Int)≤n
   ·rw [if_pos (by omega), if_pos h2]
    obtain⟨m,hm⟩:∃m:Nat,(n-k).toNat=m+1:=⟨(n-k).toNat-1,by omega⟩
    rw[hm,List.getElem?_cons_succ]
    congr 1;omega
   ·rw[if_neg (by omega),if_neg h2]
theorem rA(vs:List T):sub (lW vs)=bV vs:=funext fun n=>by
 rw[lW,qIc vs 0 n,bV]
 simp
theorem qJz(vs:List T):(lW vs).length=vs.length:=by simp[lW]
theorem qLk{vs:List T}{i:Nat}{x:T}(h:vs[i]? =some x):(lW vs)[i]? =some ⟨(i:Int),x⟩:=by simp[lW,h]
section
variable {μ:Mem}
end
end Go.Vx
namespace Go.Vx
open Go.Proofs Classical
section
variable {μ:Mem}
theorem mU{p:Pg}{s:ByteArray}(h:0≤cE p s):∃(k:Nat) (r:Rl),cE p s=(k:Int)∧p.rels[k]? =some r∧r.name=s:=by
 have w_:=jY (l:=p.rels) (i:=0) (s:=s) h
 obtain⟨j,r,h1,h2,h3⟩:=w_
 exact⟨j,r,by rw[cE,h1];congr 1;omega,h2,h3⟩
end
end Go.Vx
namespace Go.Vx
open Go.Proofs Classical
theorem qCf:∀{l:List Tm},(∀t∈l,t.Is)→∃xs:List T,l=xs.map T.tm
 |[],_=>⟨[],rfl⟩
 |t::l,h=>by
  have w_:=h t (by simp)
  obtain⟨x,rfl⟩:=w_
  have w_:=qCf (l:=l) fun t ht=>h t (by simp[ht])
  obtain⟨xs,rfl⟩:=w_
  exact⟨x::xs,rfl⟩
theorem Gl.mild_mk{g:Gl}(h1:∀t∈g.terms,t.Is)(h2:g.terms.length≤100000)(h3:g.goals.length≤100000)(h4:∀x∈g.goals,x.Mild):g.Mild:=fun y hy=>by
 rw[Gl.all_eq]at hy
 rcases List.mem_cons.1 hy with rfl|hy
 ·exact⟨h1,h2,h3⟩
 ·have w_ := List.mem_flatMap.1 hy
  obtain⟨x,hx,hy⟩:=w_
  exact h4 x hx y hy
theorem Gl.Sh.mild:∀(g:Gl),g.Sh→g.Mild:=
 Gl.ind fun g ih hS=>by
  refine Gl.mild_mk (fun t ht=>by have w_:=(hS.top.tm t ht).lift;obtain⟨x,_,rfl⟩:=w_;exact⟨x,rfl⟩) ?_ (by have:=hS.top.gl;omega) fun x hx=>ih x hx (hS.sub x hx)
  have T:=hS.top
  have e9:=T.ln9;have e2:=T.ln2;have e1:=T.ln1;have e0:=T.ln0;have k0:=T.k0;have k1:=T.k1
  omega
section
variable {μ:Mem}
theorem nP:∀(g:Gl) {μ:Mem} {v:Value},RepV μ g.d v→g.Mild→Spec Tryz.prog 32 [v] μ fun v μ'=>Fresh μ μ' g.d v:=
 Gl.ind fun g ih μ v hv hS=>by
  have w_:=Gl.inv hv
  obtain⟨p,rfl,hts,hgs⟩:=w_
  have w_:=qCf hS.top.1
  obtain⟨xs,hxs⟩:=w_
  have hg8:=hS.top.2.2
  have hx4:xs.length≤100000:=by
   have h:=hS.top.2.1
   rwa [hxs,List.length_map]at h
  rw[hxs,List.length_map]at hts ⊢
  refine Spec.mk Tryz.func32 (by kernel_rfl) ?_
  intro r1 r2
  refine cPl (lX hts (by omega)) fun v1 μ1 hle1 hR1=>?_
  have w_:=Rep.sl hR1.rep
  obtain⟨bt,ct,rfl,_⟩:=w_
  rw[List.length_map,List.length_map]at hR1 ⊢
  intro r3
  have hgs1:=hgs.mono hle1
  refine bS (fun p:Nat×Option Nat×Nat×List Value×Mem=>p.1≤g.goals.length∧μ1.Le p.2.2.2.2∧Grown 4 μ1 p.2.2.2.2 ((g.goals.take p.1).map Gl.d) p.2.2.2.1)
   (fun (i, b, c, us, μ') => ⟨[(2, .loc 1 r2 0), (3, .loc 2 r3 0), (15, .val (.slice p.2.1 g.goals.length p.2.2)), (16, .val (.int .i64 g.goals.length)), (17, .val (.int .i64 i))],
    [(1,some (.cells r2 [.val (.int .i64 0),.val (.string ⟨#[]⟩),.val (.slice none 0 0),.val (.slice none 0 0)] 31)),(2,some (.cells r3 [.val (.int .i64 g.kind),.val (.string g.name),.val (.slice bt xs.length ct),.row 3 b us.length c] 31)),(3,some (.row b c 31 4 us))],4,μ',Mem.nil⟩) (fun p=>g.goals.length-p.1)
   (0,none,0,[],μ1) ⟨Nat.zero_le _,Mem.Le.refl _,Grown.nil _ _ _⟩ (fun(_,_,_,_,_)=>⟨rfl,rfl⟩) ⟨⟨⟨_,rfl,.inl rfl⟩,⟨_,rfl,.inl rfl⟩,⟨_,rfl,.inl rfl⟩,⟨_,rfl,.inl rfl⟩,⟨_,rfl,.inl rfl⟩,trivial⟩,⟨.inl rfl,.inr (.inr ⟨_,_,_,_,rfl,rfl,.inl rfl,.inl rfl,.inl rfl,.inr ⟨3,rfl,rfl,Nat.le_refl _⟩,trivial⟩),.inr (.inl ⟨_,_,rfl,Nat.le_refl _⟩),trivial⟩,rfl,rfl⟩ ?_
  rintro⟨i,b,c,us,μ'⟩ ⟨hi,hle,hrows⟩
  dsimp only at hi hle hrows
  have hlen:=hrows.len
  simp only[List.length_map,List.length_take]at hlen
  refine ifd (fun hlt=>?_) (fun hlt=>?_)
  ·have w_ := aSo (l := g.goals) (i := i) (by omega)
   obtain⟨x,hx⟩:=w_
   have w_:=Gl.elem (hgs1.mono hle) hx
   obtain⟨ad,p3,hel,hr⟩:=w_
   refine eIn hel ?_
   intro r5
   refine cPl (ih x (mAt hx) hr (hS.sub x (mAt hx))) fun v2 μ2 hle2 hR=>?_
   have w_:=Gl.invV hR.rep
   obtain⟨q,rfl⟩:=w_
   intro r25
   refine gIn ?_ ?_ fun b' c' _=>?_
   ·show(us.length+1)*72≤_;omega
   ·exact Nat.le_trans (m:=100000000) (show us.length+1≤_ by omega) (by decide)
   refine aC (by omega) (by omega) ⟨(i+1,b',c',_,μ2),⟨by dsimp only;omega,hle.trans hle2,?_⟩,by dsimp only;omega,⟨⟨rfl,rfl,rfl,rfl,rfl,trivial⟩,⟨rfl,rfl,rfl,trivial⟩,rfl,rfl⟩⟩
   dsimp only
   rw[List.take_add_one,hx,Option.toList_some]
   simp only[List.map_append,List.map_cons,List.map_nil]
   exact hrows.snoc hle hR hle2 (Gl.d_n _)
  ·obtain rfl : i = g.goals.length := by omega
   rw[List.take_length]at hrows
   refine rFz [3] fun μ2 hle2 hno hrow=> .inl ?_
   rw[Gl.d_eq,hxs]
   have k:=hrows.fresh hle hle2 hno hrow (Nat.le_trans (m:=1000000) (by omega) (by decide))
   exact FreshS.st (FreshS.int (FreshS.str (FreshS.cons hR1 hle1 (hle.trans hle2) (FreshS.cons k (hle.trans hle2) (Mem.Le.refl _) FreshS.nil))))
theorem xE(g:Gl){μ:Mem}{v:Value}(hv:RepV μ g.d v)(hS:g.Sh):Spec Tryz.prog 32 [v] μ fun v μ'=>Fresh μ μ' g.d v:=nP g hv (Gl.Sh.mild _ hS)
theorem tD{p:Pg}{v:Value}(hv:RepV μ p.d v)(hok:p.Ok):Spec Tryz.prog 31 [v] μ fun v μ'=>∃(b:Option Nat) (c:Nat) (us:List Value) (μ1:Mem),v= .agg #[.slice (b.map fun r=>⟨r,0,none⟩) us.length c]∧μ.Le μ1∧μ1.Le μ'∧Grown 7 μ μ1 (p.rels.map Rl.d) us∧(∀r,b=some r→μ1 r=none)∧RowAt μ' b c 7 us:=by
 obtain⟨q,rfl,hrl⟩:=Pg.inv hv
 have hn:=hok.1
 refine Spec.mk Tryz.func31 (by kernel_rfl) ?_
 intro r1 r2 r3
 refine bS (fun z:Nat×Option Nat×Nat×List Value×Mem=>z.1≤p.rels.length∧μ.Le z.2.2.2.2∧Grown 7 μ z.2.2.2.2 ((p.rels.take z.1).map Rl.d) z.2.2.2.1)
  (fun (i, b, c, us, μ') => ⟨[(2, .loc 1 r2 0), (3, .loc 2 r3 0), (8, .val (.slice q.1 p.rels.length q.2)), (9, .val (.int .i64 p.rels.length)), (10, .val (.int .i64 i))],
   [(1,some (.cells r2 [.val (.slice none 0 0)] 25)),(2,some (.cells r3 [.row 3 b us.length c] 25)),(3,some (.row b c 59 7 us))],4,μ',Mem.nil⟩) (fun z=>p.rels.length-z.1)
  (0,none,0,[],μ) ⟨Nat.zero_le _,Mem.Le.refl _,Grown.nil _ _ _⟩ (fun(_,_,_,_,_)=>⟨rfl,rfl⟩) ⟨⟨⟨_,rfl,.inl rfl⟩,⟨_,rfl,.inl rfl⟩,⟨_,rfl,.inl rfl⟩,⟨_,rfl,.inl rfl⟩,⟨_,rfl,.inl rfl⟩,trivial⟩,⟨.inl rfl,.inr (.inr ⟨_,_,_,_,rfl,rfl,.inr ⟨3,rfl,rfl,Nat.le_refl _⟩,trivial⟩),.inr (.inl ⟨_,_,rfl,Nat.le_refl _⟩),trivial⟩,rfl,rfl⟩ ?_
 rintro⟨i,b,c,us,μ'⟩ ⟨hi,hle,hrows⟩
 dsimp only at hi hle hrows
 have hlen:=hrows.len
 simp only[List.length_map,List.length_take]at hlen
 refine ifd (fun hlt=>?_) (fun hlt=>?_)
 ·have w_ := aSo (l := p.rels) (i := i) (by omega)
  obtain⟨x,hx⟩:=w_
  have w_:=Rl.elemA (hrl.mono hle) hx
  obtain⟨ad,q2,hel,hr,hb⟩:=w_
  have hb:RepV μ' x.body.d (.agg (x.body.cs q2).toArray):=hb
  refine eIn hel ?_
  intro r5
  refine cPl (xE x.body hb (hok.2 i x hx).body) fun v2 μ2 hle2 hR=>?_
  have w_:=Gl.invV hR.rep
  obtain⟨q3,rfl⟩:=w_
  intro r26
  refine gIn ?_ ?_ fun b' c' _=>?_
  ·show(us.length+1)*104≤_;omega
  ·exact Nat.le_trans (m:=100000000) (show us.length+1≤_ by omega) (by decide)
  refine aC (by omega) (by omega) ⟨(i+1,b',c',_,μ2),⟨by dsimp only;omega,hle.trans hle2,?_⟩,by dsimp only;omega,⟨⟨rfl,rfl,rfl,rfl,rfl,trivial⟩,⟨rfl,rfl,rfl,trivial⟩,rfl,rfl⟩⟩
  dsimp only
  rw[List.take_add_one,hx,Option.toList_some]
  simp only[List.map_append,List.map_cons,List.map_nil]
  refine hrows.snoc hle ?_ hle2 (Rl.d_n _)
  rw[Rl.d_eq]
  exact FreshS.st (FreshS.str (FreshS.int (FreshS.int (FreshS.cons hR hle2 (Mem.Le.refl _) FreshS.nil))))
 ·obtain rfl : i = p.rels.length := by omega
  rw[List.take_length]at hrows
  refine rFz [3] fun μ2 hle2 hno hrow=> .inl ?_
  exact⟨b,c,us,μ',rfl,hle,hle2,hrows,hno,hrow⟩
theorem tC{p:Pg}{v:Value}(hv:RepV μ p.d v)(hok:p.Ok)(hne:p.rels≠[]):SpecH Tryz.prog 31 [v] μ Mem.nil fun v μ2 H2=>∃(r c:Nat) (ty:TypeId) (us:List Value),v= .agg #[.slice (some ⟨r,0,none⟩) us.length c]∧RowO H2 r c ty 7 us∧Grown 7 μ μ2 (p.rels.map Rl.d) us:=by
 have e0:μ.join Mem.nil=μ:=funext fun b=>by rw[Mem.join_get];cases μ b<;>rfl
 have h0:=tD hv hok
 generalize hR0:(fun v μ'=>∃(b:Option Nat) (c:Nat) (us:List Value) (μ1:Mem),v=Value.agg #[.slice (b.map fun r=>⟨r,0,none⟩) us.length c]∧μ.Le μ1∧μ1.Le μ'∧Grown 7 μ μ1 (p.rels.map Rl.d) us∧(∀r,b=some r→μ1 r=none)∧RowAt μ' b c 7 us)=R0 at h0
 have h:Spec Tryz.prog 31 [v] (μ.join Mem.nil) R0:=by rw[e0];exact h0
 refine(Spec.lendOwn (H:=Mem.nil) (R':=fun v g μ1=>∃(r c:Nat) (ty:TypeId) (us:List Value),v= .agg #[.slice (some ⟨r,0,none⟩) us.length c]∧RowO g r c ty 7 us∧Grown 7 μ (μ1.sub g) (p.rels.map Rl.d) us) (fun b _=>rfl) h fun v μ1 hle hR=>?_).weaken fun v μ2 H2 _ _ hR=>?_
 ·rw [e0]
  rw[←hR0]at hR
  obtain⟨b,c,us,μ0,rfl,hl0,hl1,hgr,hno,hrow⟩:=hR
  have hl:=hgr.len
  rw[List.length_map]at hl
  cases b with
  |none=>
   have:us=[]:=hrow
   subst this
   exact absurd (List.eq_nil_of_length_eq_zero hl) hne
  |some r=>
   obtain⟨h2,h3,arr,ty,h4,h5,h6⟩:=hrow
   have hr0:=hno r rfl
   have hn:=hok.1
   refine⟨Mem.nil.set r (.cells arr ty (0,0)),fun x o hx=>?_,fun x hx=>?_,r,c,ty,us,rfl,⟨arr.toList,Mem.set_at _ _ _,h2,Nat.le_trans (m:=8) (by omega) (by decide),h3,by simpa using h5,h6⟩,?_⟩
   ·by_cases e : x = r
    ·subst e;rw[Mem.set_at]at hx;rw[h4];exact hx
    ·rw[Mem.set_ne e]at hx;cases hx
   ·by_cases e : x = r
    ·subst e
     cases e2:μ x with
     |none=>rfl
     |some o=>rw[hl0 x o e2]at hr0;cases hr0
    ·rw[Mem.set_ne e]at hx;exact absurd rfl hx
   ·obtain ⟨g, k1, k2, k3⟩ := hgr
    refine⟨g,k1,Mem.le_sub (k2.trans hl1) (fun b hb=>?_),k3⟩
    by_cases e:b=r
    ·subst e
     cases e2:g b with
     |none=>exact absurd e2 hb
     |some o=>rw[k2 b o e2]at hr0;cases hr0
    ·rw[Mem.set_ne e];rfl
 ·obtain ⟨g, μ1, ⟨r, c, ty, us, rfl, ⟨cs, q1, q2⟩, hgr⟩, _, hp, rfl⟩ := hR
  exact⟨r,c,ty,us,rfl,⟨cs,hp.right _ _ q1,q2⟩,hgr⟩
end
end Go.Vx
namespace Go.Vx
open Go.Proofs Classical
theorem qFw{α:Type}{xs:List α}{i k:Nat}{x:α}(hx:xs[i]? =some x):(xs.take (i+1)).eraseIdx k=(xs.take i).eraseIdx k++(if i=k then []else [x]):=by
 have hi:=(List.getElem?_eq_some_iff.1 hx).1
 have hl:(xs.take i).length=i:=by rw[List.length_take];omega
 rw[List.take_add_one,hx,Option.toList_some]
 rcases Nat.lt_or_ge k i with h|h
 ·rw[List.eraseIdx_append_of_lt_length (by omega),if_neg (by omega)]
 ·have e1 : (xs.take i).eraseIdx k = xs.take i := List.eraseIdx_of_length_le (by omega)
  rw[List.eraseIdx_append_of_length_le (by omega),hl,e1]
  by_cases e:i=k
  ·rw[if_pos e,e,Nat.sub_self];rfl
  ·rw[if_neg e,List.eraseIdx_of_length_le (by simp;omega)]
section
variable {μ:Mem}
theorem qM{xs:List T}{base:Option Addr}{cap k:Nat}(hsl:Sl μ 4 base xs.length ((xs.map T.tm).map Tm.d))(hn:xs.length≤1000000):
  Spec Tryz.prog 37 [.slice base xs.length cap,.int .i64 k] μ fun v μ'=>Fresh μ μ' (.sl 4 (((xs.eraseIdx k).map T.tm).map Tm.d)) v:=by
 refine Spec.mk Tryz.func37 (by kernel_rfl) ?_
 intro r8
 refine lIn (fun p:Nat×Option Nat×Nat×List Value×Mem=>p.1≤xs.length∧μ.Le p.2.2.2.2∧Grown 4 μ p.2.2.2.2 ((((xs.take p.1).eraseIdx k).map T.tm).map Tm.d) p.2.2.2.1)
  (fun(i,b,c,ys,μ')=>⟨[(1,.val (.int .i64 k)),(5,.row 0 b ys.length c),(9,.val (.slice base xs.length cap)),(10,.val (.int .i64 xs.length)),(11,.val (.int .i64 i))],[(0,some (.row b c 36 4 ys))],1,μ',Mem.nil⟩) (fun p=>xs.length-p.1)
  (0,some r8,0,[],μ) ⟨Nat.zero_le _,Mem.Le.refl _,Grown.nil _ _ _⟩ (fun(_,_,_,_,_)=>⟨rfl,rfl⟩) ⟨⟨rfl,rfl,rfl,rfl,rfl,trivial⟩,⟨rfl,trivial⟩,rfl,rfl⟩ ?_
 rintro⟨i,b,c,ys,μ'⟩ ⟨hi,hle,hrows⟩
 dsimp only at hi hle hrows
 have hlen:ys.length≤xs.length:=by
  have h1:=hrows.len
  have h2:=List.length_eraseIdx_le (xs.take i) k
  simp only[List.length_map,List.length_take]at h1 h2
  omega
 refine ifd (fun hlt=>?_) (fun hlt=>?_)
 ·have w_ := aSo (l := xs) (i := i) (by omega)
  obtain⟨x,hx⟩:=w_
  have w_:=T.elemL (hsl.mono hle) hx
  obtain⟨ad,p,hel,hr⟩:=w_
  have hnext:=qFw (k:=k) hx
  refine eIn hel ?_
  intro r7
  refine aM (fun hne=>?_) (fun he=>?_)
  ·refine cPl (fQ x hr) fun v1 μ1 hle1 hR => ?_
   have w_:=Tm.invV hR.rep
   obtain⟨q,rfl⟩:=w_
   intro r22
   refine gIn ?_ ?_ fun b' c' _=>?_
   ·show(ys.length+1)*56≤_;omega
   ·exact Nat.le_trans (m:=100000000) (show ys.length+1≤_ by omega) (by decide)
   refine aC (by omega) (by omega) ⟨(i+1,b',c',_,μ1),⟨by dsimp only;omega,hle.trans hle1,?_⟩,by dsimp only;omega,⟨⟨rfl,rfl,rfl,rfl,rfl,trivial⟩,⟨rfl,trivial⟩,rfl,rfl⟩⟩
   dsimp only
   rw[hnext,if_neg (by omega)]
   simp only[List.map_append,List.map_cons,List.map_nil]
   exact hrows.snoc hle hR hle1 (Tm.d_n _)
  ·refine aC (by omega) (by omega) ⟨(i + 1, b, c, ys, μ'), ⟨by dsimp only; omega, hle, ?_⟩, by dsimp only; omega, ⟨⟨rfl, rfl, rfl, rfl, rfl, trivial⟩, ⟨rfl, trivial⟩, rfl, rfl⟩⟩
   dsimp only
   rw[hnext,if_pos (by omega),List.append_nil]
   exact hrows
 ·obtain rfl : i = xs.length := by omega
  rw[List.take_length]at hrows
  refine rFz [0] fun μ2 hle2 hno hrow=> .inl ?_
  exact hrows.fresh hle hle2 hno hrow (Nat.le_trans (m:=1000000) (by omega) (by decide))
set_option maxHeartbeats 1000000 in
end
end Go.Vx
namespace Go.Vx
open Go.Proofs Classical
mutual
noncomputable def Gl.fold(nm:ByteArray)(k:Nat)(t:T)(sp:ByteArray):Gl→Gl
 | .mk c s ts gs=>if c=10 then .mk c s ts gs else if c=9∧s=nm∧ts[k]? =some t.tm then .mk 9 sp (ts.eraseIdx k) []else .mk c s ts (Gl.folds nm k t sp gs)
noncomputable def Gl.folds(nm:ByteArray)(k:Nat)(t:T)(sp:ByteArray):List Gl→List Gl
 |[]=>[]
 |g::r=>g.fold nm k t sp::Gl.folds nm k t sp r
end
theorem Gl.folds_map(nm:ByteArray)(k:Nat)(t:T)(sp:ByteArray):∀l:List Gl,Gl.folds nm k t sp l=l.map (Gl.fold nm k t sp)
 |[]=>rfl
 |g::r=>by rw[Gl.folds,Gl.folds_map nm k t sp r,List.map_cons]
theorem Gl.fold_eq(nm:ByteArray)(k:Nat)(t:T)(sp:ByteArray)(g:Gl):g.fold nm k t sp=if g.kind=10 then g else if g.kind=9∧g.name=nm∧g.terms[k]? =some t.tm then .mk 9 sp (g.terms.eraseIdx k) []else .mk g.kind g.name g.terms (g.goals.map (Gl.fold nm k t sp)):=by
 cases g
 rw[Gl.fold,Gl.folds_map];rfl
section
variable {μ:Mem}
theorem Gl.termsW{g:Gl}{a b ts gs:Value}(h:RepV μ g.d (.agg #[a,b,ts,gs])):RepV μ (.sl 4 (g.terms.map Tm.d)) ts:=by
 have h2:∃cs,Value.agg #[a,b,ts,gs]= .agg (List.toArray cs)∧Rep μ g.d cs:=by rw[Gl.d_eq]at h ⊢;exact h
 obtain⟨cs,e,h3⟩:=h2
 have e:cs=[a,b,ts,gs]:=by
  injection e with e
  have:=congrArg Array.toList e
  simpa using this.symm
 subst e
 rw[Gl.d_eq]at h3
 obtain⟨a0,t0,e0,h0,h3⟩:=h3
 have h0:a0=[.int .i64 g.kind]:=h0
 subst h0
 obtain⟨rfl,rfl⟩:=List.cons.inj e0
 obtain⟨a1,t1,e1,h1,h3⟩:=h3
 have h1:a1=[.string g.name]:=h1
 subst h1
 obtain⟨rfl,rfl⟩:=List.cons.inj e1
 obtain⟨a2,t2,e2,h2,h3⟩:=h3
 have w_:=jB (Rep.len _ _ h2)
 obtain⟨v2,rfl⟩:=w_
 obtain⟨rfl,_⟩:=List.cons.inj e2
 exact h2
set_option maxHeartbeats 1000000 in
theorem pI{nm sp:ByteArray}{k:Nat}{t:T}:∀(g:Gl) {μ:Mem} {v w:Value},RepV μ g.d v→g.Mild→g.Long nm k→RepV μ t.tm.d w→Spec Tryz.prog 33 [v,.string nm,.int .i64 k,w,.string sp] μ fun v μ'=>RepV μ' (g.fold nm k t sp).d v:=
 Gl.ind fun g ih μ v w hv hS hlong hw=>by
  have hv0:=hv
  have w_:=Gl.inv hv
  obtain⟨p,rfl,hts,hgs⟩:=w_
  have w_:=qCf hS.top.1
  obtain⟨xs,hxs⟩:=w_
  have hg8:=hS.top.2.2
  have hx4:xs.length≤100000:=by
   have h:=hS.top.2.1
   rwa [hxs,List.length_map]at h
  have hlen:g.terms.length=xs.length:=by rw[hxs,List.length_map]
  have hw0:=hw
  have w_:=Tm.invV hw
  obtain⟨qw,rfl⟩:=w_
  refine Spec.mk Tryz.func33 (by kernel_rfl) ?_
  intro r5 r8 r10
  refine ifd (fun h10=>?_) (fun h10=>?_)
  ·refine rPl ?_
   rw[Gl.fold_eq,if_pos h10]
   exact hv0
  have hfe:=Gl.fold_eq nm k t sp g
  rw[if_neg h10]at hfe
  have hnil:∀μ',RepV μ' (.sl 4 (([]:List Gl).map Gl.d)) (.slice none 0 0):=fun μ'=>⟨none,0,rfl,⟨Nat.zero_le _,Nat.zero_le _⟩,(fun _ h=>nomatch h),.inl rfl⟩
  refine ifd (fun h9=>?_) (fun h9=>?_)
  ·refine ifd (fun hn => ?_) (fun hn => ?_)
   ·have hkl := hlong.top h9 hn
    have w_:=aSo (l:=xs) (i:=k) (by omega)
    obtain⟨y,hy⟩:=w_
    have hgk:g.terms[k]? =some y.tm:=by rw[hxs,List.getElem?_map,hy];rfl
    have hts2:=hts
    rw[hxs,List.length_map]at hts2
    have w_:=T.elemL hts2 hy
    obtain⟨ad,py,hel,hry⟩:=w_
    rw[←hlen]at hel
    refine eIn hel ?_
    refine cGv (dE y t hry hw0) ?_
    refine ifd (fun he=>?_) (fun he=>?_)
    ·rw [if_pos ⟨h9, hn, by rw [hgk, he]⟩] at hfe
     have hwo:=qM (cap:=p.1.2) (k:=k) hts2 (by omega)
     rw[←hlen]at hwo
     refine cPl hwo fun v5 μ5 hle5 hR5=>?_
     have w_:=Rep.sl hR5.rep
     obtain⟨b5,c5,rfl,-⟩:=w_
     refine rPl ?_
     rw[hfe,Gl.d_eq]
     have e:(Gl.mk 9 sp (g.terms.eraseIdx k) []).terms=((xs.eraseIdx k).map T.tm):=by
      show g.terms.eraseIdx k=_
      rw[hxs,List.eraseIdx_eq_take_drop_succ,List.eraseIdx_eq_take_drop_succ];simp
     rw[e]
     exact⟨_,rfl,RepS.int (RepS.str (RepS.cons1 hR5.rep (RepS.last (hnil _))))⟩
    ·rw [if_neg (fun q => he (T.tm_inj (Option.some.inj (hgk.symm.trans q.2.2)))) ] at hfe
     intro r11
     refine bS (fun p:Nat×Option Nat×Nat×List Value×Mem=>p.1≤g.goals.length∧μ.Le p.2.2.2.2∧Rows p.2.2.2.2 4 (((g.goals.take p.1).map (Gl.fold nm k t sp)).map Gl.d) p.2.2.2.1)
      (fun (i, b, c, us, μ') => ⟨[(1, .val (.string nm)), (2, .val (.int .i64 k)), (4, .val (.string sp)), (8, .loc 1 r8 0), (10, .loc 2 r10 0), (11, .loc 3 r11 0), (50, .val (.slice p.2.1 g.goals.length p.2.2)), (51, .val (.int .i64 g.goals.length)), (52, .val (.int .i64 i))],
       [(1,some (.cells r8 [.val (.int .i64 t.tm.kind),.val (.int .i64 t.tm.num),.val (.string t.tm.name),.val (.slice qw.1 t.tm.args.length qw.2)] 36)),(2,some (.cells r10 [.val (.int .i64 0),.val (.string ⟨#[]⟩),.val (.slice none 0 0),.val (.slice none 0 0)] 31)),(3,some (.cells r11 [.val (.int .i64 g.kind),.val (.string g.name),.val (.slice p.1.1 g.terms.length p.1.2),.row 4 b us.length c] 31)),(4,some (.row b c 31 4 us))],5,μ',Mem.nil⟩) (fun p=>g.goals.length-p.1)
      (0,none,0,[],μ) ⟨Nat.zero_le _,Mem.Le.refl _,.nil⟩ (fun(_,_,_,_,_)=>⟨rfl,rfl⟩) ⟨⟨⟨_,rfl,.inl rfl⟩,⟨_,rfl,.inl rfl⟩,⟨_,rfl,.inl rfl⟩,⟨_,rfl,.inl rfl⟩,⟨_,rfl,.inl rfl⟩,⟨_,rfl,.inl rfl⟩,⟨_,rfl,.inl rfl⟩,⟨_,rfl,.inl rfl⟩,⟨_,rfl,.inl rfl⟩,trivial⟩,⟨.inl rfl,.inl rfl,.inr (.inr ⟨_,_,_,_,rfl,rfl,.inl rfl,.inl rfl,.inl rfl,.inr ⟨4,rfl,rfl,Nat.le_refl _⟩,trivial⟩),.inr (.inl ⟨_,_,rfl,Nat.le_refl _⟩),trivial⟩,rfl,rfl⟩ ?_
     rintro⟨i,b,c,us,μ'⟩ ⟨hi,hle,hrows⟩
     dsimp only at hi hle hrows
     have hul:=hrows.len
     simp only[List.length_map,List.length_take]at hul
     refine ifd (fun hlt=>?_) (fun hlt=>?_)
     ·have w_ := aSo (l := g.goals) (i := i) (by omega)
      obtain⟨x,hx⟩:=w_
      have w_:=Gl.elem (hgs.mono hle) hx
      obtain⟨adx,p3,helx,hrx⟩:=w_
      refine eIn helx ?_
      intro r13
      refine cPl (ih x (mAt hx) hrx (hS.sub x (mAt hx)) (hlong.sub x (mAt hx)) (RepV.mono hle hw0)) fun v2 μ2 hle2 hR=>?_
      have w_:=Gl.invV hR
      obtain⟨q,rfl⟩:=w_
      intro r25
      refine gIn ?_ ?_ fun b' c' _=>?_
      ·show(us.length+1)*72≤_;omega
      ·exact Nat.le_trans (m:=100000000) (show us.length+1≤_ by omega) (by decide)
      refine aC (by omega) (by omega) ⟨(i+1,b',c',_,μ2),⟨by dsimp only;omega,hle.trans hle2,?_⟩,by dsimp only;omega,⟨⟨rfl,rfl,rfl,rfl,rfl,rfl,rfl,rfl,rfl,trivial⟩,⟨rfl,rfl,rfl,rfl,trivial⟩,rfl,rfl⟩⟩
      dsimp only
      rw[List.take_add_one,hx,Option.toList_some]
      simp only[List.map_append,List.map_cons,List.map_nil]
      exact(hrows.mono hle2).append (Rows.one hR (Gl.d_n _))
     ·obtain rfl : i = g.goals.length := by omega
      rw[List.take_length]at hrows
      refine rFz [4] fun μ2 hle2 hno hrow=> .inl ?_
      rw[hfe,Gl.d_eq]
      exact⟨_,rfl,RepS.int (RepS.str (RepS.cons1 (RepV.mono (hle.trans hle2) (Gl.termsW hv0)) (RepS.last (Rows.sl hrow (hrows.mono hle2) (Nat.le_trans (m:=100000000) (by omega) (by decide))))))⟩
   ·rw [if_neg (fun q => hn q.2.1)] at hfe
    intro r11
    refine bS (fun p:Nat×Option Nat×Nat×List Value×Mem=>p.1≤g.goals.length∧μ.Le p.2.2.2.2∧Rows p.2.2.2.2 4 (((g.goals.take p.1).map (Gl.fold nm k t sp)).map Gl.d) p.2.2.2.1)
     (fun (i, b, c, us, μ') => ⟨[(1, .val (.string nm)), (2, .val (.int .i64 k)), (4, .val (.string sp)), (8, .loc 1 r8 0), (10, .loc 2 r10 0), (11, .loc 3 r11 0), (50, .val (.slice p.2.1 g.goals.length p.2.2)), (51, .val (.int .i64 g.goals.length)), (52, .val (.int .i64 i))],
      [(1,some (.cells r8 [.val (.int .i64 t.tm.kind),.val (.int .i64 t.tm.num),.val (.string t.tm.name),.val (.slice qw.1 t.tm.args.length qw.2)] 36)),(2,some (.cells r10 [.val (.int .i64 0),.val (.string ⟨#[]⟩),.val (.slice none 0 0),.val (.slice none 0 0)] 31)),(3,some (.cells r11 [.val (.int .i64 g.kind),.val (.string g.name),.val (.slice p.1.1 g.terms.length p.1.2),.row 4 b us.length c] 31)),(4,some (.row b c 31 4 us))],5,μ',Mem.nil⟩) (fun p=>g.goals.length-p.1)
     (0,none,0,[],μ) ⟨Nat.zero_le _,Mem.Le.refl _,.nil⟩ (fun(_,_,_,_,_)=>⟨rfl,rfl⟩) ⟨⟨⟨_,rfl,.inl rfl⟩,⟨_,rfl,.inl rfl⟩,⟨_,rfl,.inl rfl⟩,⟨_,rfl,.inl rfl⟩,⟨_,rfl,.inl rfl⟩,⟨_,rfl,.inl rfl⟩,⟨_,rfl,.inl rfl⟩,⟨_,rfl,.inl rfl⟩,⟨_,rfl,.inl rfl⟩,trivial⟩,⟨.inl rfl,.inl rfl,.inr (.inr ⟨_,_,_,_,rfl,rfl,.inl rfl,.inl rfl,.inl rfl,.inr ⟨4,rfl,rfl,Nat.le_refl _⟩,trivial⟩),.inr (.inl ⟨_,_,rfl,Nat.le_refl _⟩),trivial⟩,rfl,rfl⟩ ?_
    rintro⟨i,b,c,us,μ'⟩ ⟨hi,hle,hrows⟩
    dsimp only at hi hle hrows
    have hul:=hrows.len
    simp only[List.length_map,List.length_take]at hul
    refine ifd (fun hlt=>?_) (fun hlt=>?_)
    ·have w_ := aSo (l := g.goals) (i := i) (by omega)
     obtain⟨x,hx⟩:=w_
     have w_:=Gl.elem (hgs.mono hle) hx
     obtain⟨adx,p3,helx,hrx⟩:=w_
     refine eIn helx ?_
     intro r13
     refine cPl (ih x (mAt hx) hrx (hS.sub x (mAt hx)) (hlong.sub x (mAt hx)) (RepV.mono hle hw0)) fun v2 μ2 hle2 hR=>?_
     have w_:=Gl.invV hR
     obtain⟨q,rfl⟩:=w_
     intro r25
     refine gIn ?_ ?_ fun b' c' _=>?_
     ·show(us.length+1)*72≤_;omega
     ·exact Nat.le_trans (m:=100000000) (show us.length+1≤_ by omega) (by decide)
     refine aC (by omega) (by omega) ⟨(i+1,b',c',_,μ2),⟨by dsimp only;omega,hle.trans hle2,?_⟩,by dsimp only;omega,⟨⟨rfl,rfl,rfl,rfl,rfl,rfl,rfl,rfl,rfl,trivial⟩,⟨rfl,rfl,rfl,rfl,trivial⟩,rfl,rfl⟩⟩
     dsimp only
     rw[List.take_add_one,hx,Option.toList_some]
     simp only[List.map_append,List.map_cons,List.map_nil]
     exact(hrows.mono hle2).append (Rows.one hR (Gl.d_n _))
    ·obtain rfl : i = g.goals.length := by omega
     rw[List.take_length]at hrows
     refine rFz [4] fun μ2 hle2 hno hrow=> .inl ?_
     rw[hfe,Gl.d_eq]
     exact⟨_,rfl,RepS.int (RepS.str (RepS.cons1 (RepV.mono (hle.trans hle2) (Gl.termsW hv0)) (RepS.last (Rows.sl hrow (hrows.mono hle2) (Nat.le_trans (m:=100000000) (by omega) (by decide))))))⟩
  ·rw [if_neg (fun q => h9 q.1)] at hfe
   intro r11
   refine bS (fun p:Nat×Option Nat×Nat×List Value×Mem=>p.1≤g.goals.length∧μ.Le p.2.2.2.2∧Rows p.2.2.2.2 4 (((g.goals.take p.1).map (Gl.fold nm k t sp)).map Gl.d) p.2.2.2.1)
    (fun (i, b, c, us, μ') => ⟨[(1, .val (.string nm)), (2, .val (.int .i64 k)), (4, .val (.string sp)), (8, .loc 1 r8 0), (10, .loc 2 r10 0), (11, .loc 3 r11 0), (50, .val (.slice p.2.1 g.goals.length p.2.2)), (51, .val (.int .i64 g.goals.length)), (52, .val (.int .i64 i))],
     [(1,some (.cells r8 [.val (.int .i64 t.tm.kind),.val (.int .i64 t.tm.num),.val (.string t.tm.name),.val (.slice qw.1 t.tm.args.length qw.2)] 36)),(2,some (.cells r10 [.val (.int .i64 0),.val (.string ⟨#[]⟩),.val (.slice none 0 0),.val (.slice none 0 0)] 31)),(3,some (.cells r11 [.val (.int .i64 g.kind),.val (.string g.name),.val (.slice p.1.1 g.terms.length p.1.2),.row 4 b us.length c] 31)),(4,some (.row b c 31 4 us))],5,μ',Mem.nil⟩) (fun p=>g.goals.length-p.1)
    (0,none,0,[],μ) ⟨Nat.zero_le _,Mem.Le.refl _,.nil⟩ (fun(_,_,_,_,_)=>⟨rfl,rfl⟩) ⟨⟨⟨_,rfl,.inl rfl⟩,⟨_,rfl,.inl rfl⟩,⟨_,rfl,.inl rfl⟩,⟨_,rfl,.inl rfl⟩,⟨_,rfl,.inl rfl⟩,⟨_,rfl,.inl rfl⟩,⟨_,rfl,.inl rfl⟩,⟨_,rfl,.inl rfl⟩,⟨_,rfl,.inl rfl⟩,trivial⟩,⟨.inl rfl,.inl rfl,.inr (.inr ⟨_,_,_,_,rfl,rfl,.inl rfl,.inl rfl,.inl rfl,.inr ⟨4,rfl,rfl,Nat.le_refl _⟩,trivial⟩),.inr (.inl ⟨_,_,rfl,Nat.le_refl _⟩),trivial⟩,rfl,rfl⟩ ?_
   rintro⟨i,b,c,us,μ'⟩ ⟨hi,hle,hrows⟩
   dsimp only at hi hle hrows
   have hul:=hrows.len
   simp only[List.length_map,List.length_take]at hul
   refine ifd (fun hlt=>?_) (fun hlt=>?_)
   ·have w_ := aSo (l := g.goals) (i := i) (by omega)
    obtain⟨x,hx⟩:=w_
    have w_:=Gl.elem (hgs.mono hle) hx
    obtain⟨adx,p3,helx,hrx⟩:=w_
    refine eIn helx ?_
    intro r13
    refine cPl (ih x (mAt hx) hrx (hS.sub x (mAt hx)) (hlong.sub x (mAt hx)) (RepV.mono hle hw0)) fun v2 μ2 hle2 hR=>?_
    have w_:=Gl.invV hR
    obtain⟨q,rfl⟩:=w_
    intro r25
    refine gIn ?_ ?_ fun b' c' _=>?_
    ·show(us.length+1)*72≤_;omega
    ·exact Nat.le_trans (m:=100000000) (show us.length+1≤_ by omega) (by decide)
    refine aC (by omega) (by omega) ⟨(i+1,b',c',_,μ2),⟨by dsimp only;omega,hle.trans hle2,?_⟩,by dsimp only;omega,⟨⟨rfl,rfl,rfl,rfl,rfl,rfl,rfl,rfl,rfl,trivial⟩,⟨rfl,rfl,rfl,rfl,trivial⟩,rfl,rfl⟩⟩
    dsimp only
    rw[List.take_add_one,hx,Option.toList_some]
    simp only[List.map_append,List.map_cons,List.map_nil]
    exact(hrows.mono hle2).append (Rows.one hR (Gl.d_n _))
   ·obtain rfl : i = g.goals.length := by omega
    rw[List.take_length]at hrows
    refine rFz [4] fun μ2 hle2 hno hrow=> .inl ?_
    rw[hfe,Gl.d_eq]
    exact⟨_,rfl,RepS.int (RepS.str (RepS.cons1 (RepV.mono (hle.trans hle2) (Gl.termsW hv0)) (RepS.last (Rows.sl hrow (hrows.mono hle2) (Nat.le_trans (m:=100000000) (by omega) (by decide))))))⟩
set_option maxHeartbeats 1000000 in
end
end Go.Vx
namespace Go.Vx
open Go.Proofs Classical
theorem T.subst_congrD{f g:Int→Option T}:∀(x:T),(∀n∈x.vars,(f n).getD (.var n)=(g n).getD (.var n))→x.subst f=x.subst g
 | .nil,_=>rfl
 | .var n,h=>h n (by simp[T.vars])
 | .sym _,_=>rfl
 | .num _,_=>rfl
 | .pair a b,h=>by
  show T.pair (a.subst f) (b.subst f)=T.pair (a.subst g) (b.subst g)
  rw[T.subst_congrD a fun n hn=>h n (by simp[T.vars,hn]),T.subst_congrD b fun n hn=>h n (by simp[T.vars,hn])]
theorem nW{α β:Type}{f g:α→Option β}:∀{l:List α},(∀x∈l,f x=g x)→l.mapM f=l.mapM g
 |[],_=>rfl
 |x::l,h=>by
  rw[List.mapM_cons,List.mapM_cons,h x (by simp),nW fun y hy=>h y (List.mem_cons_of_mem _ hy)]
theorem Gl.withO_congr{F F':T→Option T}:∀g:Gl,(∀x∈g.all,∀t∈x.terms,F t.toT=F' t.toT)→g.withO F=g.withO F':=
 Gl.ind fun g ih h=>by
  have h0:∀x∈g.goals,x.withO F=x.withO F':=fun x hx=>ih x hx fun y hy=>h y (by rw[Gl.all_eq];exact List.mem_cons_of_mem _ (List.mem_flatMap.2 ⟨x,hx,hy⟩))
  have h1:(g.terms.map Tm.toT).mapM F=(g.terms.map Tm.toT).mapM F':=nW fun x hx=>by
   have w_:=List.mem_map.1 hx
   obtain⟨t,ht,rfl⟩:=w_
   exact h g (by rw[Gl.all_eq];exact List.mem_cons_self) t ht
  rw[Gl.withO_eq,Gl.withO_eq,h1,nW h0]
noncomputable def xB(k:Nat)(t:T)(v:Nat):T:=if v<k then .var v else if v=k then t else .var ((v:Int)-1)
noncomputable def qAo(k m:Nat)(t:T):List T:=(List.range m).map (xB k t)
noncomputable def qZ(k:Nat)(t:T)(n:Int):Option T:=if n=k then some t else if(k:Int)<n then some (.var (n-1))else none
theorem qCi(k m:Nat)(t:T):(qAo k m t).length=m:=by rw[qAo,List.length_map,List.length_range]
theorem tK{k m v:Nat}{t:T}(h:v<m):(qAo k m t)[v]? =some (xB k t v):=by
 rw[qAo,List.getElem?_map,List.getElem?_range h];rfl
theorem spc_sub{k m:Nat}{t:T}{n:Int}(h0:0≤n)(hm:n<m):(qZ k t n).getD (.var n)=(sub (lW (qAo k m t)) n).getD (.var n):=by
 obtain⟨v,rfl⟩:=Int.eq_ofNat_of_zero_le h0
 rw[rA,bV,if_pos h0,Int.toNat_natCast,tK (by omega),qZ,xB]
 by_cases e:v=k
 ·rw[if_pos (by omega),if_neg (by omega),if_pos e]
 ·rw [if_neg (by omega)]
  by_cases e2:v<k
  ·rw[if_neg (by omega),if_pos e2];rfl
  ·rw[if_pos (by omega),if_neg e2,if_neg e]
theorem spc_ok{k m:Nat}{t:T}(ht:t.ok)(hm:m≤1000):∀b∈lW (qAo k m t),b.to.ok:=fun b hb=>by
 have w_:=List.mem_iff_getElem?.1 hb
 obtain⟨i,hi⟩:=w_
 have hil:i<m:=by
  have:=(List.getElem?_eq_some_iff.1 hi).1
  rw[qJz,qCi]at this;exact this
 rw[qLk (tK hil)]at hi
 cases hi
 show(xB k t i).ok
 rw[xB]
 split
 ·exact⟨⟨by omega,by omega⟩,by simp[T.size]⟩
 ·split
  ·exact ht
  ·exact⟨⟨by omega,by omega⟩,by simp[T.size]⟩
noncomputable def cJ(r:Rl)(nm:ByteArray)(k:Nat)(t:T)(sp:ByteArray):Gl:=(r.body.put (sub (lW (qAo k (r.arity+r.locals).toNat t)))).fold nm k t sp
noncomputable def eM(p:Pg)(r:Rl)(nm:ByteArray)(k:Nat)(t:T)(sp:ByteArray):Pg:=⟨p.rels++[⟨sp,r.arity-1,r.locals,cJ r nm k t sp⟩]⟩
noncomputable def qDc(p:Pg)(nm:ByteArray)(arg:Int)(t:Tm)(sp:ByteArray):Option Pg:=
 if h:∃r,SpcOk p nm arg t r then if(eM p h.choose nm arg.toNat t.toT sp).Ok then some (eM p h.choose nm arg.toNat t.toT sp)else none else none
theorem vA{p:Pg}{nm:ByteArray}{arg:Int}{t:Tm}{sp:ByteArray}{r:Rl}(h:SpcOk p nm arg t r):qDc p nm arg t sp=if(eM p r nm arg.toNat t.toT sp).Ok then some (eM p r nm arg.toNat t.toT sp)else none:=by
 have hx:∃r,SpcOk p nm arg t r:=⟨r,h⟩
 rw[qDc,dif_pos hx,hx.choose_spec.uniq h]
theorem kU{p:Pg}{nm:ByteArray}{arg:Int}{t:Tm}{sp:ByteArray}(h:∀r,¬SpcOk p nm arg t r):qDc p nm arg t sp=none:=by
 rw[qDc,dif_neg (fun k=>by obtain⟨r,hr⟩:=k;exact h r hr)]
theorem Gl.put_top{f:Int→Option T}{g:Gl}(h:g.Sh)(ht:∀t∈(g.put f).terms,t.Ok):TopOk (g.put f):=by
 have w_:=gO h.top.tm
 obtain⟨xs,hxs,hok⟩:=w_
 have e1:(g.put f).terms=(xs.map (T.subst f)).map T.tm:=by
  rw[Gl.put_terms,hxs,List.map_map,List.map_map]
  exact List.map_congr_left fun x _=>by simp[T.toT_tm]
 have e2:=Gl.put_goals f g
 have hl:(g.put f).terms.length=g.terms.length:=by rw[Gl.put_terms,List.length_map]
 have hgl:(g.put f).goals.length=g.goals.length:=by rw[e2,List.length_map]
 have tp:=h.top
 have hk:=Gl.put_kind f g
 refine⟨ht,hk ▸ tp.k0,hk ▸ tp.k1,?_,?_,?_,?_,?_,?_,?_,?_,?_,?_,?_⟩
 ·rw[hk,Gl.put_name];exact tp.nm
 ·rw[hk,Gl.put_name];exact tp.rel
 ·rw[hk,hl];exact tp.ln9
 ·rw[hk,hl];exact tp.ln2
 ·rw[hk,hl];exact tp.ln1
 ·rw[hk,hl];exact tp.ln0
 ·rw[hgl];exact tp.gl
 ·rw[hk,hgl];exact tp.gl0
 ·rw[hk,hgl];exact tp.gl1
 ·rw [hk, e1]
  intro h6 a ha
  have h7:=tp.sy h6
  rw[hxs]at h7
  rw[List.map_map,List.getElem?_map]at ha
  cases hx:xs[0]? with
  |none=>rw[hx]at ha;cases ha
  |some x=>
   rw[hx]at ha
   cases ha
   exact T.subst_sym (h7 x.tm (by simp[hx]))
 ·rw [hk, e2]
  intro h10 b hb'
  rw[List.getElem?_map]at hb'
  cases hx:g.goals[0]? with
  |none=>rw[hx]at hb';cases hb'
  |some x=>
   rw[hx]at hb'
   cases hb'
   rw[Gl.put_kind]
   exact tp.cl h10 x hx
theorem qEf{nm sp:ByteArray}{k:Nat}{t:T}{f:Int→Option T}(ht:t.tm.Ok):∀g:Gl,g.Sh→((g.put f).fold nm k t sp).Sh→(g.put f).Sh:=
 Gl.ind fun g ih h hf=>by
  rw[Gl.fold_eq]at hf
  split at hf
  ·exact hf
  rename_i h10
  split at hf
  ·rename_i hm
   have h1:∀s∈(g.put f).terms.eraseIdx k,s.Ok:=hf.top.tm
   refine .mk (Gl.put_top h fun s hs=>?_) fun x hx=>?_
   ·have w_ := List.mem_iff_getElem?.1 hs
    obtain⟨i,hi⟩:=w_
    by_cases e:i=k
    ·subst e
     rw[hm.2.2]at hi;cases hi;exact ht
    ·exact h1 s (List.mem_eraseIdx_iff_getElem?.2 ⟨i,e,hi⟩)
   ·have h0 := h.top.gl0 (.inr (by rw [← Gl.put_kind f g]; exact hm.1))
    have h00:g.goals=[]:=List.eq_nil_of_length_eq_zero h0
    rw[Gl.put_goals,h00]at hx
    exact nomatch hx
  ·refine .mk (Gl.put_top h hf.top.tm) fun x hx => ?_
   have hx0:=hx
   rw[Gl.put_goals]at hx
   have w_:=List.mem_map.1 hx
   obtain⟨y,hy,rfl⟩:=w_
   refine ih y hy (h.sub y hy) ?_
   exact hf.sub _ (List.mem_map.2 ⟨_,hx0,rfl⟩)
theorem qLw{p:Pg}{nm:ByteArray}{k a:Nat}{r:Rl}{f:Int→Option T}(hk:cE p nm=(k:Int))(hr:p.rels[k]? =some r)(ha:(a:Int)<r.arity):∀g:Gl,FitAll p g→(g.put f).Long nm a:=
 Gl.ind fun g ih h x hx h9 hn=>by
  rw[Gl.all_eq]at hx
  rcases List.mem_cons.1 hx with rfl|hx
  ·rw [Gl.put_kind] at h9
   rw[Gl.put_name]at hn
   have w_:=h.top h9
   obtain⟨i,r2,e1,e2,e3⟩:=w_
   rw[hn,hk]at e1
   obtain rfl:k=i:=by omega
   rw[hr]at e2;cases e2
   rw[Gl.put_terms,List.length_map]
   omega
  ·have w_ := List.mem_flatMap.1 hx
   obtain⟨y,hy,hx⟩:=w_
   rw[Gl.put_goals]at hy
   have w_:=List.mem_map.1 hy
   obtain⟨z,hz,rfl⟩:=w_
   exact ih z hz (h.sub z hz) x hx h9 hn
theorem qKf{nm sp:ByteArray}{k:Nat}{t:T}:∀g:Gl,g.Mild→(g.fold nm k t sp).Mild:=
 Gl.ind fun g ih h=>by
  rw[Gl.fold_eq]
  split
  ·exact h
  split
  ·exact Gl.mild_mk (fun s hs=>h.top.1 s (List.mem_of_mem_eraseIdx hs)) (Nat.le_trans (List.length_eraseIdx_le _ _) h.top.2.1) (Nat.zero_le _) (fun x hx=>nomatch hx)
  ·refine Gl.mild_mk h.top.1 h.top.2.1 (by show (g.goals.map _).length ≤ _; rw [List.length_map]; exact h.top.2.2) fun x hx => ?_
   have w_:=List.mem_map.1 (show x∈g.goals.map (Gl.fold nm k t sp)from hx)
   obtain⟨y,hy,rfl⟩:=w_
   exact ih y hy (h.sub y hy)
end Go.Vx
namespace Go.Vx
open Go.Proofs Classical
section
variable {μ:Mem}
theorem qIz{r:Nat}{cs:List Value}{ty:TypeId}(h:μ r=some (.cells cs.toArray ty (0,0))):∀j v,cs[j]? =some v→μ.cell ((⟨r,0,none⟩:Addr).add j)=some v:=fun j v hj=>by
 rw[Addr.add_lit',Nat.zero_add]
 simp only[Mem.cell,h]
 simpa using hj
theorem oE{k ra rt:Nat}{t:T}{qt:Option Addr×Nat}(ht:RepV μ t.tm.d (.agg #[.int .i64 t.tm.kind,.int .i64 t.tm.num,.string t.tm.name,.slice qt.1 t.tm.args.length qt.2]))
  (ha:μ ra=some (.cells #[.int .i64 k] 3 (0,0))) (hb:μ rt=some (.cells #[.int .i64 t.tm.kind,.int .i64 t.tm.num,.string t.tm.name,.slice qt.1 t.tm.args.length qt.2] 36 (0,0))):
  oZ InV 29 [.pointer (some ⟨ra,0,none⟩),.pointer (some ⟨rt,0,none⟩)] μ (qZ k t):=fun μ' hle n hn=>by
 have ha:=hle _ _ ha
 have hb:=hle _ _ hb
 obtain⟨hn0,hn1⟩:=hn
 refine Spec.mk Tryz.func29 (by kernel_rfl) ?_
 intro r4
 refine bM [.int .i64 k] rfl (bX ha) ?_
 refine ifd (fun h=>?_) (fun h=>?_)
 ·refine bM [.int .i64 t.tm.kind, .int .i64 t.tm.num, .string t.tm.name, .slice qt.1 t.tm.args.length qt.2] rfl (qIz hb) ?_
  refine rPl ?_
  rw[qZ,if_pos h]
  exact⟨_,rfl,RepV.mono hle ht⟩
 ·refine bM [.int .i64 k] rfl (bX ha) ?_
  refine ifd (fun h2=>?_) (fun h2=>?_)
  ·refine aC (by omega) (by omega) ?_
   refine cGv (wX _) ?_
   refine rPl ?_
   rw[qZ,if_neg h,if_pos h2]
   exact⟨_,rfl,lT _⟩
  ·refine rPl ?_
   rw[qZ,if_neg h,if_neg h2]
   rfl
theorem spcF_ok{k:Nat}{t:T}(ht:t.ok){n:Int}{y:T}(hn:InV n)(h:qZ k t n=some y):y.ok:=by
 rw[qZ]at h
 split at h
 ·cases h;exact ht
 ·split at h
  ·cases h
   exact⟨⟨by have:=hn.1;omega,by have:=hn.2;omega⟩,by simp[T.size]⟩
  ·cases h
theorem rE{k ra rt:Nat}{t:T}{qt:Option Addr×Nat}(hok:t.ok)(ht:RepV μ t.tm.d (.agg #[.int .i64 t.tm.kind,.int .i64 t.tm.num,.string t.tm.name,.slice qt.1 t.tm.args.length qt.2]))
  (ha:μ ra=some (.cells #[.int .i64 k] 3 (0,0))) (hb:μ rt=some (.cells #[.int .i64 t.tm.kind,.int .i64 t.tm.num,.string t.tm.name,.slice qt.1 t.tm.args.length qt.2] 36 (0,0))):
  Maps 27 [.pointer (some ⟨ra,0,none⟩),.pointer (some ⟨rt,0,none⟩)] μ (fun x=>fit (x.subst (qZ k t))):=fun μ' hle x v hx hv=>by
 have w_:=Tm.invV hv
 obtain⟨p,rfl⟩:=w_
 refine Spec.mk Tryz.func27 (by kernel_rfl) ?_
 intro r1 r2
 refine cPl (vV (Q:=InV) x (fun n hn=>T.good_vars hx.1 n hn) (oE (RepV.mono hle ht) (hle _ _ ha) (hle _ _ hb)) (fun n y hq hy=>spcF_ok hok hq hy) hv) fun v2 μ2 hle2 hR=>?_
 cases hf:fit (x.subst (qZ k t))with
 |some y=>
  rw[hf]at hR
  obtain⟨tv,rfl,htv⟩:=hR
  have w_:=Tm.invV htv.rep
  obtain⟨q,rfl⟩:=w_
  intro r6
  refine rPl ?_
  show qGv _ (fit (x.subst (qZ k t))) _
  rw[hf]
  exact⟨_,rfl,htv⟩
 |none=>
  rw[hf]at hR
  obtain rfl:=hR
  intro r6
  refine rPl ?_
  show qGv _ (fit (x.subst (qZ k t))) _
  rw[hf]
  rfl
end
end Go.Vx
namespace Go.Vx
open Go.Proofs Classical
def optP(P:Pg→Value→Prop)(o:Option Pg)(v:Value):Prop:=match o with
 |none=>v= .tuple #[.agg #[.slice none 0 0],.bool false]
 |some y=>∃tv,v= .tuple #[tv,.bool true]∧P y tv
section
variable {μ:Mem}
set_option maxHeartbeats 2000000 in
theorem jS{p:Pg}{nm sp:ByteArray}{arg:Int}{t:Tm}{v w:Value}(hp:RepV μ p.d v)(ht:RepV μ t.d w):
  Spec Tryz.prog 8 [v,.string nm,.int .i64 arg,w,.string sp] μ fun v μ'=>optP (fun y tv=>Fresh μ μ' y.d tv) (qDc p nm arg t sp) v:=by
 have hp0:=hp
 have w_:=Pg.inv hp
 obtain⟨q,rfl,hrl⟩:=w_
 have ht0:=ht
 have w_:=Tm.invV ht
 obtain⟨qt,rfl⟩:=w_
 refine Spec.mk Tryz.func8 (by kernel_rfl) ?_
 intro r5 r7 r8 r10
 refine cPl (fD hp0) fun v1 μ1 hle1 hR=>?_
 obtain rfl:=hR
 refine ifd (fun h=>?_) (fun h=>?_)
 ·refine rPl ?_
  rw[kU fun r hr=>by obtain⟨⟨k,h1,_⟩,_⟩:=hr;omega]
  rfl
 refine cGv (iK t (RepV.mono hle1 ht0)) ?_
 refine aM (fun h2=>?_) (fun hg=>?_)
 ·refine rPl ?_
  rw[kU fun r hr=>h2 hr.2.1]
  rfl
 refine ifd (fun h3=>?_) (fun h3=>?_)
 ·refine rPl ?_
  rw[kU fun r hr=>by have:=hr.2.2.1;omega]
  rfl
 have w_:=Int.eq_ofNat_of_zero_le (show 0≤fY p nm by omega)
 obtain⟨k,hk⟩:=w_
 have hpo:p.Ok:=Classical.byContradiction fun e=>by rw[fY,if_neg e]at h;exact h (by decide)
 have hfind:fY p nm=cE p nm:=by rw[fY,if_pos hpo]
 have w_:=mU (p:=p) (s:=nm) (by omega)
 obtain⟨k',r,hk',hr,-⟩:=w_
 obtain rfl:k=k':=by omega
 have hro:=hpo.2 _ r hr
 have har0:=hro.ar0
 have har4:=hro.ar4
 have hlo0:=hro.lo0
 have hlo8:=hro.lo8
 have w_:=Rl.elemA (hrl.mono hle1) hr
 obtain⟨adr,qr,helr,hrr,hbody⟩:=w_
 have hbody:RepV μ1 r.body.d (.agg (r.body.cs qr).toArray):=hbody
 rw[hk]
 refine eIn helr ?_
 refine ifd (fun h4=>?_) (fun h4=>?_)
 ·refine rPl ?_
  rw[kU fun r' hr'=>by
   obtain⟨⟨k2,e1,e2⟩,_,_,e3⟩:=hr'
   obtain rfl:k2=k:=by omega
   rw[hr]at e2;cases e2
   omega]
  rfl
 have hSP:SpcOk p nm arg t r:=⟨⟨k,hk,hr⟩,hg,by omega,by omega⟩
 rw[vA hSP]
 have w_:=hg.1.lift
 obtain⟨x,hx,rfl⟩:=w_
 rw[T.toT_tm]
 have w_:=Int.eq_ofNat_of_zero_le (show 0≤arg by omega)
 obtain⟨a,rfl⟩:=w_
 rw[Int.toNat_natCast]
 refine eIn helr ?_
 intro r13
 refine bD [1,2] ?_
 intro μ2 hle2 hno2 hat2 μ3 hle3 hno3 hat3
 have hle13:=hle2.trans hle3
 have hm:=rE (k:=a) hx (RepV.mono (hle1.trans hle13) ht0) (hle3 _ _ hat2) hat3
 have hbs:=spc_ok (k:=a) (m:=(r.arity+r.locals).toNat) hx (by omega)
 have hwc:r.body.withO (fun x'=>fit (x'.subst (qZ a x)))=r.body.withO (fits (lW (qAo a (r.arity+r.locals).toNat x))):=Gl.withO_congr _ fun g hgm s hs=>by
  have hgs:=(hro.body.all r.body g hgm).top.tm s hs
  have w_:=hgs.lift
  obtain⟨y,hy,rfl⟩:=w_
  rw[T.toT_tm]
  show fit _=fit _
  rw[T.subst_congrD y fun n hn=>spc_sub (T.good_vars hy.1 n hn).1 ?_]
  have hvr:=hro.vars n (List.mem_flatMap.2 ⟨g,hgm,by rw[Gl.tvars];exact List.mem_flatMap.2 ⟨_,List.mem_map_of_mem hs,by rw[T.toT_tm];exact hn⟩⟩)
  omega
 refine cD (xI r.body hm (RepV.mono hle13 hbody) hro.body) fun v4 μ4 hle4 hR4=>?_
 rw[hwc]at hR4
 rcases Gl.with_put hbs r.body hro.body with hP|hP
 ·rw [hP.2] at hR4
  obtain⟨tv,rfl,htv⟩:=hR4
  have w_:=Gl.invV htv.rep
  obtain⟨qg,rfl⟩:=w_
  intro r14
  refine iIn (fun h=>nomatch h) (fun _=>?_)
  have hle14:=hle1.trans (hle13.trans hle4)
  have hne:p.rels≠[]:=fun e=>by rw[e]at hr;cases hr
  refine cOw (tC (RepV.mono hle14 hp0) hpo hne) fun v5 μ5 H5 hle5 hap5 hR5=>?_
  obtain⟨rb,rc,rty,us,rfl,hrow,hgr⟩:=hR5
  intro r16
  refine aC (by omega) (by omega) ?_
  have hle25:=hle3.trans (hle4.trans hle5)
  have hle35:=hle4.trans hle5
  refine bM [.int .i64 a] rfl (bX (hle25 _ _ hat2)) ?_
  refine bM [.int .i64 x.tm.kind,.int .i64 x.tm.num,.string x.tm.name,.slice qt.1 x.tm.args.length qt.2] rfl (qIz (hle35 _ _ hat3)) ?_
  have hmild:=Gl.Sh.mild _ hP.1
  refine cDa hap5 (pI (nm:=nm) (sp:=sp) (k:=a) (t:=x) _ (RepV.mono hle5 htv.rep) hmild (qLw (by omega) hr (by omega) _ hro.calls) (RepV.mono (hle14.trans hle5) ht0)) fun v6 μ6 hle6 hap6 hR6=>?_
  refine cDa hap6 (nP _ hR6 (qKf _ hmild)) fun v7 μ7 hle7 hap7 hR7=>?_
  have w_:=Gl.invV hR7.rep
  obtain⟨q7,rfl⟩:=w_
  have hul:=hgr.len
  rw[List.length_map]at hul
  have hp8:=hpo.1
  intro r75
  refine qFp us rty rfl hrow ?_ ?_ fun b9 c9 o ty9 hrow9 hor=>?_
  ·show(us.length+1)*104≤_;omega
  ·exact Nat.le_trans (m:=100) (show us.length+1≤_ by omega) (by decide)
  have hap8:=hap7.set (o:=o) (rS hrow hap7 hor)
  have hb9:∀μ',Apart μ' (H5.set b9 o)→μ' b9=none:=fun μ' k=>k.symm b9 (by
   obtain⟨cs,hc,_⟩:=hrow9
   rw[hc];simp)
  have hnr:=FreshS.st (FreshS.str (n:=sp) (FreshS.int (n:=r.arity-1) (FreshS.int (n:=r.locals) (FreshS.cons hR7 hle7 (Mem.Le.refl _) FreshS.nil))))
  have hg7:=(hgr.mono hle6).snoc (hle5.trans hle6) (d:=(Rl.mk sp (r.arity-1) r.locals (cJ r nm a x sp)).d) hnr hle7 (Rl.d_n _)
  have hF:∀μ',μ7.Le μ'→Apart μ' (H5.set b9 o)→Fresh μ (μ'.join (H5.set b9 o)) (eM p r nm a x sp).d (.agg #[.slice (some ⟨b9,0,none⟩) (us.length+1) c9]):=fun μ' hl hA=>by
   have k:=(hg7.mono hl).fresh (b:=some b9) (cap:=c9) ((hle5.trans (hle6.trans hle7)).trans hl) (Mem.le_join μ' (H5.set b9 o)) (fun r0 hr0=>by cases hr0;exact hb9 μ' hA) (hrow9.rowAt (Mem.le_join_right hA)) hrow9.len
   rw[List.length_append]at k
   have e:p.rels.map Rl.d++[(Rl.mk sp (r.arity-1) r.locals (cJ r nm a x sp)).d]=(eM p r nm a x sp).rels.map Rl.d:=by
    show _=(p.rels++[_]).map Rl.d
    rw[List.map_append];rfl
   rw[e]at k
   rw[Pg.d_eq]
   exact(FreshS.st (FreshS.cons k ((hle5.trans (hle6.trans hle7)).trans (hl.trans (Mem.le_join _ _))) (Mem.Le.refl _) FreshS.nil)).mono hle14 (Mem.Le.refl _)
  refine cOw (SpecH.lend hap8 (eH (hF μ7 (Mem.Le.refl _) hap8).rep)) fun v8 μ8 H8 hle8 hap9 hR8=>?_
  obtain⟨rfl,μ9,rfl,hle9,e9⟩:=hR8
  refine aM (fun hbad=>?_) (fun hgood=>?_)
  ·refine rPl ?_
   rw[if_neg hbad];rfl
  ·refine dJ _ Mem.nil (Parts.nil_right _) ?_
   rw[if_pos hgood]
   exact⟨_,rfl,hF μ8 hle8 hap9⟩
 ·rw [hP.2] at hR4
  obtain rfl:=hR4
  intro r14
  refine iIn (fun _=>?_) (fun h=>nomatch h)
  refine rPl ?_
  rw[if_neg]
  ·rfl
  ·intro hok
   have hro2:=hok.2 p.rels.length ⟨sp,r.arity-1,r.locals,cJ r nm a x sp⟩ (by show(p.rels++_)[p.rels.length]? =_;simp)
   exact hP.1 (qEf hg.1 _ hro.body hro2.body)
end
end Go.Vx
namespace Go.Vx
open Go.Proofs Classical
theorem Gl.all_self(g:Gl):g∈g.all:=by rw[Gl.all_eq];simp
theorem Gl.all_sub{g x y:Gl}(hx:x∈g.goals)(hy:y∈x.all):y∈g.all:=by
 rw[Gl.all_eq];exact List.mem_cons_of_mem _ (List.mem_flatMap.2 ⟨x,hx,hy⟩)
end Go.Vx
namespace Go.Vx
open Go.Proofs Classical
theorem Gl.all_thru:∀(g:Gl) {x y:Gl},y∈g.all→x∈y.all→x∈g.all:=
 Gl.ind fun g ih x y hy hx=>by
  rw[Gl.all_eq]at hy
  rcases List.mem_cons.1 hy with rfl|hy
  ·exact hx
  ·have w_ := List.mem_flatMap.1 hy
   obtain⟨z,hz,hy⟩:=w_
   exact Gl.all_sub hz (ih z hz hy hx)
section
variable {μ:Mem}
set_option maxHeartbeats 2000000 in
set_option maxHeartbeats 4000000 in
set_option maxRecDepth 20000 in
end
end Go.Vx
namespace Go.Vx
open Go.Proofs Classical
def optFs(P:List F→Value→Prop)(o:Option (List F))(v:Value):Prop:=match o with
 |some y=>∃tv,v= .tuple #[tv,.bool true]∧P y tv
 |none=>v= .tuple #[.slice none 0 0,.bool false]
section
variable {μ:Mem}
end
end Go.Vx
namespace Go.Vx
open Go.Proofs Classical
noncomputable def dK(L:List F)(name:ByteArray)(k:Nat)(t:T)(i:Nat):List F:=((L.take i).filter fun f=>decide (f.rel=name∧f.args[k]? =some t)).map fun f=>⟨name,f.args.eraseIdx k⟩
theorem qGb{L:List F}{name:ByteArray}{k:Nat}{t:T}{i:Nat}{f:F}(h:L[i]? =some f):dK L name k t (i+1)=dK L name k t i++(if f.rel=name∧f.args[k]? =some t then [⟨name,f.args.eraseIdx k⟩]else []):=by
 rw[dK,List.take_add_one,h,Option.toList_some,List.filter_append,List.map_append,←dK]
 congr 1
 by_cases e:f.rel=name∧f.args[k]? =some t
 ·rw[if_pos e,List.filter_cons_of_pos (by simpa using e)];rfl
 ·rw[if_neg e,List.filter_cons_of_neg (by simpa using e)];rfl
theorem qLb(L:List F)(name:ByteArray)(k:Nat)(t:T)(i:Nat):(dK L name k t i).length≤i:=by
 rw[dK,List.length_map]
 exact Nat.le_trans (List.length_filter_le _ _) (List.length_take_le _ _)
def qNc(p:Pg)(name:ByteArray)(arg:Int)(t:Tm):Prop:=(∃(k:Nat) (r:Rl),fY p name=(k:Int)∧p.rels[k]? =some r∧0≤arg∧arg<r.arity)∧t.Ok
noncomputable def dP(p:Pg)(u:List Tm)(name:ByteArray)(arg:Int)(t:Tm):Option (List F):=if qNc p name arg t then(fC p u).map fun L=>iJ (dK L name arg.toNat t.toT L.length)else none
theorem wC{p:Pg}(hp:p.Ok){name:ByteArray}{k:Nat}{r:Rl}(h:fY p name=(k:Int))(hr:p.rels[k]? =some r){f:F}(hf:FactFits p f.fc)(e:f.rel=name):r.arity=(f.args.length:Int):=by
 obtain⟨⟨j,r2,h1,h2,h3⟩,_⟩:=hf
 have h1:cE p f.rel=(j:Int):=h1
 rw[fY,if_pos hp,←e,h1]at h
 obtain rfl:j=k:=by omega
 rw[hr]at h2;cases h2
 rw[h3]
 show(((f.args.map T.tm).length:Nat):Int)=_
 rw[List.length_map]
section
variable {μ:Mem}
theorem RowAt.src{b:Option Nat}{cap es:Nat}{ys:List Value}(h:RowAt μ b cap es ys):pQ μ (b.map fun r=>⟨r,0,none⟩) ys.length es ys:=by
 cases b with
 |none=>
  obtain rfl:ys=[]:=h
  exact⟨rfl,(fun _ h=>nomatch h),.inl rfl⟩
 |some r=>
  obtain⟨h1,h2,arr,ty,h3,h4,h5⟩:=h
  refine⟨rfl,h2,.inr ⟨_,rfl,fun j v hj=>?_⟩⟩
  have hlt:=(List.getElem?_eq_some_iff.1 hj).1
  have hf:(ys.flatMap aB).length=ys.length*es:=dC ys fun y hy=>(h2 y hy).1
  rw[←h5,List.getElem?_take,if_pos (by omega)]at hj
  rw[Addr.add_lit',Nat.zero_add]
  simp only[Mem.cell,h3]
  simpa using hj
theorem Grown.sorted{μ μ1 μ2 μ3:Mem}{L:List F}{ys:List Value}{v:Value}{l':List FE}(hgr:Grown 2 μ μ1 ((L.map F.fc).map Fc.d) ys)(hz:∀y∈ys,(aB y).length=2∧∀u∈aB y,u.oneCell'=true)(h0:μ.Le μ1)(hle1:μ1.Le μ2)(hle2:μ2.Le μ3)(h1:∃dl:List FE,dl.Perm (L.zip ys)∧l'.Sublist dl)(h2:l'.map Prod.fst=iJ L)(h3:qLy μ2 μ3 (l'.map Prod.snd) v):Fresh μ μ3 (.sl 2 (((iJ L).map F.fc).map Fc.d)) v:=by
 obtain⟨g,ho,hg,hnew⟩:=hgr
 obtain⟨dl,p1,p2⟩:=h1
 obtain⟨b,c,gr,rfl,hro,hgr,hn⟩:=h3
 have e:∀l:List F,(l.map F.fc).map Fc.d=l.map fun f=>f.fc.d:=fun l=>by rw[List.map_map];rfl
 rw[e]at ho
 have w_:=Prs.zip ho hz
 obtain⟨hP,-,-⟩:=w_
 have w_:=Prs.sub p2 (Prs.perm p1.symm hP)
 obtain⟨g',hg',hP'⟩:=w_
 have ho':=hP'.own
 have e2:(l'.map fun p:FE=>p.1.fc.d)=((iJ L).map F.fc).map Fc.d:=by rw[e,←h2,List.map_map];rfl
 rw[e2]at ho'
 exact Fresh.ofRow (b:=some b) (cap:=c) ho' (hg'.trans (hg.trans hle1)) (fun x hx=>hnew x fun k=>by
  cases hx':g' x with
  |none=>exact hx hx'
  |some o=>have:=hg' x o hx';rw[k]at this;cases this) (h0.trans hle1) hle2 (fun r hr=>by
   cases hr
   obtain⟨cs,hc,-⟩:=hro
   exact hn b (by rw[hc];simp)) (hro.rowAt hgr) hro.len
set_option maxHeartbeats 1000000 in
set_option maxHeartbeats 1000000 in
theorem jU{p:Pg}{u:List Tm}{name:ByteArray}{arg:Int}{t:Tm}{v w:Value}{ub:Option Addr}{uc:Nat}(hp:RepV μ p.d v)(hu:Sl μ 4 ub u.length (u.map Tm.d))(ht:RepV μ t.d w):
  Spec Tryz.prog 9 [v,.slice ub u.length uc,.string name,.int .i64 arg,w] μ fun v μ'=>optFs (fun y tv=>Fresh μ μ' (.sl 2 ((y.map F.fc).map Fc.d)) tv) (dP p u name arg t) v:=by
 have hp0:=hp
 have w_:=Pg.inv hp
 obtain⟨q,rfl,hrl⟩:=w_
 have ht0:=ht
 have w_:=Tm.invV ht
 obtain⟨qt,rfl⟩:=w_
 refine Spec.mk Tryz.func9 (by kernel_rfl) ?_
 intro r5 r9
 refine cPl (fD hp0) fun v2 μ1 hle1 hR2=>?_
 obtain rfl:=hR2
 refine cPl (dT (hp0.mono hle1) (hu.mono hle1)) fun v1 μ2 hle2 hR=>?_
 cases hL:fC p u with
 |none=>
  rw[hL]at hR
  obtain rfl:=hR
  have e:dP p u name arg t=none:=by rw[dP,hL];split<;>rfl
  refine ifd (fun _=>rPl (by rw[e];rfl)) (fun _=>?_)
  exact iIn (fun _=>rPl (by rw[e];rfl)) (fun h=>nomatch h)
 |some L=>
 rw[hL]at hR
 obtain⟨tv,n,rfl,hR⟩:=hR
 have hRf:FsV μ2 L tv:=hR.rep
 refine ifd (fun h=>?_) (fun h=>?_)
 ·refine rPl ?_
  rw[dP,if_neg]
  ·rfl
  ·rintro ⟨⟨k, r, h1, -⟩, -⟩
   omega
 refine iIn (fun h=>nomatch h) (fun _=>?_)
 have w_:=Int.eq_ofNat_of_zero_le (show 0≤fY p name by omega)
 obtain⟨k,hk⟩:=w_
 have hk0:=mT hL
 have hfind:fY p name=cE p name:=by rw[fY,if_pos hk0.1]
 have w_:=mU (p:=p) (s:=name) (by omega)
 obtain⟨k',r,hk',hr,-⟩:=w_
 obtain rfl:k=k':=by omega
 have hro:=hk0.1.2 _ r hr
 have har0:=hro.ar0
 have har4:=hro.ar4
 have w_:=Rl.elemA (hrl.mono (hle1.trans hle2)) hr
 obtain⟨adr,qr,helr,hrr,-⟩:=w_
 have htr:=RepV.mono (hle1.trans hle2) ht0
 refine cGv (fO t htr) ?_
 refine aM (fun h=>?_) (fun hok=>?_)
 ·refine rPl ?_
  rw[dP,if_neg fun k=>h k.2]
  rfl
 have hno:¬(0≤arg∧arg<r.arity)→dP p u name arg t=none:=fun h=>by
  rw[dP,if_neg]
  rintro⟨⟨k2,r2,h1,h2,h3,h4⟩,-⟩
  obtain rfl:k2=k:=by omega
  rw[hr]at h2;cases h2
  exact h ⟨h3,h4⟩
 refine ifd (fun h0=>?_) (fun h0=>?_)
 ·exact rPl (by rw[hno fun k=>absurd k.1 (by omega)];rfl)
 rw[hk]
 refine eIn helr ?_
 refine ifd (fun h1=>?_) (fun h1=>?_)
 ·exact rPl (by rw[hno fun k=>absurd k.2 (by omega)];rfl)
 have hSP:qNc p name arg t:=⟨⟨k,r,hk,hr,by omega,by omega⟩,hok⟩
 have hres:dP p u name arg t=some (iJ (dK L name arg.toNat t.toT L.length)):=by rw[dP,if_pos hSP,hL];rfl
 rw[hres]
 have w_:=hok.lift
 obtain⟨x,hx,rfl⟩:=w_
 rw[T.toT_tm]at hres ⊢
 have w_:=Int.eq_ofNat_of_zero_le (show 0≤arg by omega)
 obtain⟨a,rfl⟩:=w_
 rw[Int.toNat_natCast]at hres ⊢
 have w_:=FsV.sl hRf
 obtain⟨bL,cL,rfl,-,hsL⟩:=w_
 intro r54
 refine lIn (fun z:Nat×Option Nat×Nat×List Value×Mem=>z.1≤L.length∧μ2.Le z.2.2.2.2∧Grown 2 μ2 z.2.2.2.2 (((dK L name a x z.1).map F.fc).map Fc.d) z.2.2.2.1∧Rows z.2.2.2.2 2 (((dK L name a x z.1).map F.fc).map Fc.d) z.2.2.2.1)
  (fun (i, bo, co, ys, μ') => ⟨[(2, .val (.string name)), (3, .val (.int .i64 a)), (9, .loc 1 r9 0), (16, .row 2 bo ys.length co), (55, .val (.slice bL L.length cL)), (56, .val (.int .i64 L.length)), (57, .val (.int .i64 i))],
   [(1,some (.cells r9 [.val (.int .i64 x.tm.kind),.val (.int .i64 x.tm.num),.val (.string x.tm.name),.val (.slice qt.1 x.tm.args.length qt.2)] 36)),(2,some (.row bo co 46 2 ys))],3,μ',Mem.nil⟩) (fun z=>L.length-z.1)
  (0,some r54,0,[],μ2) ⟨Nat.zero_le _,Mem.Le.refl _,by simpa[dK]using Grown.nil _ _ _,by simpa[dK]using .nil⟩ (fun(_,_,_,_,_)=>⟨rfl,rfl⟩) ⟨⟨rfl,rfl,rfl,rfl,rfl,rfl,rfl,trivial⟩,⟨rfl,rfl,trivial⟩,rfl,rfl⟩ ?_
 rintro⟨i,bo,co,ys,μ3⟩ ⟨hi,hle3,hgr,hrw⟩
 dsimp only at hi hle3 hgr hrw
 have hyl:=hgr.len
 rw[List.length_map,List.length_map]at hyl
 have hlen:(dK L name a x i).length≤i:=qLb _ _ _ _ _
 refine ifd (fun hlt=>?_) (fun hlt=>?_)
 rotate_left
 ·obtain rfl : i = L.length := by omega
  refine bD [2] ?_
  intro μ4 hle4 hno4 hat4
  have hsrc:=RowAt.src hat4
  have hel:=hsrc.2.1
  generalize hS:dK L name a x L.length=S at*
  have hzl:(S.zip ys).length=ys.length:=by rw[List.length_zip];omega
  have hzs:(S.zip ys).map Prod.snd=ys:=qHu hyl
  have hE:FElts μ4 (S.zip ys):=FElts.zip (hrw.mono hle4)
  have hcore:=lM (l:=S.zip ys) (base:=bo.map fun r=>⟨r,0,none⟩) (cap:=co) (by rw[hzl,hzs];exact hsrc) hE (by omega)
  rw[hzl]at hcore
  refine cD hcore fun v5 μ5 hle5 hR5=>?_
  obtain⟨l',h1,h2,h3⟩:=hR5
  rw[qIa hyl]at h2
  have:=Grown.sorted hgr hel hle3 hle4 hle5 h1 h2 h3
  exact rPl ⟨_,rfl,this.mono (hle1.trans hle2) (Mem.Le.refl _)⟩
 have w_:=aSo (l:=L) (i:=i) (by omega)
 obtain⟨f,hf⟩:=w_
 have w_:=F.elem (hsL.mono hle3) hf
 obtain⟨ad,p3,hel,hrf,hsf⟩:=w_
 have hsucc:=qGb (name:=name) (k:=a) (t:=x) hf
 refine eIn hel ?_
 intro r18
 refine ifd (fun hn=>?_) (fun hn=>?_)
 ·have har := wC hk0.1 hk hr (hk0.2.1 f (mAt hf)) hn
  have w_:=aSo (l:=f.args) (i:=a) (by omega)
  obtain⟨y,hy⟩:=w_
  have w_:=T.elemL hsf hy
  obtain⟨ad2,p2,hel2,hry⟩:=w_
  refine eIn hel2 ?_
  refine cGv (dE y x hry (RepV.mono hle3 htr)) ?_
  refine ifd (fun he=>?_) (fun he=>?_)
  ·rw [if_pos ⟨hn, by rw [hy, he]⟩] at hsucc
   have hal:=hk0.2.1.len hk0.1 f (mAt hf)
   refine cPl (qM hsf (by omega)) fun v5 μ5 hle5 hR5=>?_
   have w_:=Rep.sl hR5.rep
   obtain⟨b5,c5,rfl,-⟩:=w_
   have hnew:=(FreshS.str (n:=name) (FreshS.cons hR5 hle5 (Mem.Le.refl _) FreshS.nil)).st
   intro r81
   refine gIn ?_ ?_ fun b' c' _=>?_
   ·show(ys.length+1)*40≤_;omega
   ·exact Nat.le_trans (m:=100000000) (show ys.length+1≤_ by omega) (by decide)
   refine aC (by omega) (by omega) ⟨(i+1,b',c',_,μ5),⟨by dsimp only;omega,hle3.trans hle5,?_,?_⟩,by dsimp only;omega,⟨⟨rfl,rfl,rfl,rfl,rfl,rfl,rfl,trivial⟩,⟨rfl,rfl,trivial⟩,rfl,rfl⟩⟩
   all_goals dsimp only
   all_goals rw[hsucc]
   all_goals simp only[List.map_append,List.map_cons,List.map_nil]
   ·exact hgr.snoc hle3 (d:=(F.fc ⟨name,f.args.eraseIdx a⟩).d) hnew hle5 (Fc.d_n _)
   ·exact(hrw.mono hle5).append (Rows.one (d:=(F.fc ⟨name,f.args.eraseIdx a⟩).d) hnew.rep (Fc.d_n _))
  ·rw [if_neg (fun k => he (by have := k.2; rw [hy] at this; exact Option.some.inj this)), List.append_nil] at hsucc
   refine aC (by omega) (by omega) ⟨(i+1,bo,co,ys,μ3),⟨by dsimp only;omega,hle3,?_,?_⟩,by dsimp only;omega,⟨⟨rfl,rfl,rfl,rfl,rfl,rfl,rfl,trivial⟩,⟨rfl,rfl,trivial⟩,rfl,rfl⟩⟩
   all_goals dsimp only
   all_goals rw[hsucc]
   ·exact hgr
   ·exact hrw
 ·rw [if_neg (fun k => hn k.1), List.append_nil] at hsucc
  refine aC (by omega) (by omega) ⟨(i+1,bo,co,ys,μ3),⟨by dsimp only;omega,hle3,?_,?_⟩,by dsimp only;omega,⟨⟨rfl,rfl,rfl,rfl,rfl,rfl,rfl,trivial⟩,⟨rfl,rfl,trivial⟩,rfl,rfl⟩⟩
  all_goals dsimp only
  all_goals rw[hsucc]
  ·exact hgr
  ·exact hrw
end
end Go.Vx
namespace Go.Vx
open Go.Proofs Classical
open Go.ChangeShapes Go.WideShapes Go.ChangeAt Go.RowKit
section
variable {μ:Mem}
theorem nI{base:Option Addr}{n cap:Nat}(hb:Bytes μ base n)(m lo hi:Int)(hm:m≤1000000)(h0:0≤lo)(h1:lo≤hi)(h2:hi≤1000):
  Spec Tryz.prog 7 [.slice base n cap,.int .i64 m,.int .i64 lo,.int .i64 hi] μ fun v μ'=>μ'=μ∧∃k:Int,v= .int .i64 k∧lo≤k∧k≤hi:=by
 refine Spec.mk Tryz.func7 (by kernel_rfl) ?_
 refine cOw (iT hb m hm) fun v μ1 h1 hle1 hap1 hR=>?_
 obtain⟨e,r,rfl,ho,hc1⟩:=hR
 obtain rfl:=e.symm
 refine aC (by omega) (by omega) (aC (by omega) (by omega) ?_)
 refine cOw (aH hc1.at _) fun v μ1 h2 hle2 hap2 hR=>?_
 obtain⟨e,hc2,k,rfl,hk,hk2,_⟩:=hR
 obtain rfl:=e.symm
 have:=hk2 (by omega)
 refine aC (by omega) (by omega) ?_
 exact rPl ⟨rfl,_,rfl,by omega,by omega⟩
end
end Go.Vx
namespace Go.Vx
open Go.Proofs Classical
theorem T.subst_subst{f g:Int→Option T}:∀x:T,(x.subst f).subst g=x.subst fun n=>some (((f n).getD (.var n)).subst g)
 | .nil=>rfl
 | .var _=>rfl
 | .sym _=>rfl
 | .num _=>rfl
 | .pair a b=>by
  simp only[T.subst]
  rw[T.subst_subst a,T.subst_subst b]
def CV(n:Nat)(g:Gl):Prop:=∀x∈g.all,∀t∈x.terms,∀m∈t.toT.vars,0≤m∧m<(n:Int)
theorem CV.own{n:Nat}{g:Gl}(h:CV n g):∀t∈g.terms,∀m∈t.toT.vars,0≤m∧m<(n:Int):=h g (Gl.all_self g)
theorem qBj{p:Pg}{k n:Nat}{r:Rl}(hr:RelOk p k r)(hn:r.arity+r.locals=(n:Int)){L:List (List Gl)}(hL:r.body.cl=some L){c:List Gl}(hc:c∈L){g:Gl}(hg:g∈c):g∈r.body.all∧g.single∧CV n g:=by
 have w_:=Gl.cl_all r.body hL c hc g hg
 obtain⟨h1,h2⟩:=w_
 refine⟨h1,h2,fun x hx t ht m hm=>?_⟩
 have hxm:=Gl.all_thru r.body h1 hx
 have w_:=((hr.body.all r.body x hxm).top.tm t ht).lift
 obtain⟨z,hz,rfl⟩:=w_
 have h3:=hr.vars m (List.mem_flatMap.2 ⟨x,hxm,by rw[Gl.tvars];exact List.mem_flatMap.2 ⟨_,List.mem_map_of_mem ht,hm⟩⟩)
 rw[T.toT_tm]at hm
 have h4:=(T.good_vars hz.1 m hm).1
 omega
section
variable {n m:Nat} {vs ws:List T}
theorem nH(g:Gl)(f h:Int→Option T):((g.put f).terms.map fun t=>t.toT.subst h)=g.terms.map fun t=>(t.toT.subst f).subst h:=by
 rw[Gl.put_terms,List.map_map]
 exact List.map_congr_left fun t _=>by show((t.toT.subst f).tm.toT).subst h=_;rw[T.toT_tm]
end
end Go.Vx
namespace Go.Vx
open Go.Proofs Classical
section
variable {p:Pg} {nm:ByteArray} {cl ca:Int} {ds:List (List Gl)}
theorem qHr{p:Pg}(hp:p.Pos){k:Nat}{r:Rl}(hr:p.rels[k]? =some r){L:List (List Gl)}(hL:r.body.cl=some L){c:List Gl}(hc:c∈L):∀g∈c,g.kind≠10:=fun g hg=>hp.2 r (mAt hr) g (Gl.cl_all _ hL c hc g hg).1
end
end Go.Vx
namespace Go.Vx
open Go.Proofs Classical
theorem qDz(U:List T):∀vs:List T,(∀v∈vs,v∈U)→∃w,w<U.length ^ vs.length∧gN U vs.length w=vs
 |[],_=>⟨0,by simp,rfl⟩
 |v::vs,h=>by
  have w_:=qDz U vs fun x hx=>h x (List.mem_cons_of_mem _ hx)
  obtain⟨w,hw,e⟩:=w_
  have w_:=List.getElem?_of_mem (h v (by simp))
  obtain⟨j,hj⟩:=w_
  have hjl:=(List.getElem?_eq_some_iff.1 hj).1
  refine⟨j+U.length*w,?_,?_⟩
  ·have h1 : U.length * w + U.length ≤ U.length * U.length ^ vs.length := by rw [← Nat.mul_succ]; exact Nat.mul_le_mul_left _ hw
   rw[List.length_cons,Nat.pow_succ,Nat.mul_comm (U.length ^ vs.length)]
   omega
  ·rw [List.length_cons, gN, Nat.add_mul_mod_self_left, Nat.mod_eq_of_lt hjl, Nat.add_mul_div_left _ _ (by omega), Nat.div_eq_of_lt hjl, Nat.zero_add, e, List.getD_eq_getElem?_getD, hj]
   rfl
structure IsRule (p:Pg) (U:List T) (ru:Ru) (r:Rl) (L:List (List Gl)) (i:Nat) (c:List Gl) (vs:List T):Prop where
 rel:r∈p.rels
 cl:r.body.cl=some L
 at_:L[i]? =some c
 len:vs.length=(r.arity+r.locals).toNat
 uni:∀v∈vs,v∈U
 ok:∀g∈c,okG U vs g
 eq:ru=kB r i c vs
theorem fJ{p:Pg}{U:List T}(hU:0<U.length){ru:Ru}:ru∈aS p U↔∃r L i c vs,IsRule p U ru r L i c vs:=by
 constructor
 ·intro hr
  have w_:=List.mem_flatMap.1 hr
  obtain⟨rel,hrel,hr⟩:=w_
  rw[bU]at hr
  split at hr
  ·simp at hr
  ·rename_i L hL
   rw[bI,List.mem_flatMap]at hr
   obtain⟨i,hi,hr⟩:=hr
   rw[List.mem_range]at hi
   have w_:=aSo (l:=L) (i:=i) hi
   obtain⟨c,hc⟩:=w_
   have ec:L.getD i []=c:=by rw[List.getD_eq_getElem?_getD,hc];rfl
   rw[ec,bR,List.mem_filterMap]at hr
   obtain⟨w,-,hr⟩:=hr
   rw[fN]at hr
   split at hr
   ·rename_i hok
    cases hr
    exact⟨rel,L,i,c,_,hrel,hL,hc,pJ ..,tY U hU _ _,hok,rfl⟩
   ·cases hr
 ·rintro ⟨r, L, i, c, vs, h⟩
  have w_:=qDz U vs h.uni
  obtain⟨w,hw,e⟩:=w_
  rw[h.len]at hw e
  refine List.mem_flatMap.2 ⟨r,h.rel,?_⟩
  rw[bU,h.cl]
  show ru∈bI U r L L.length
  rw[bI,List.mem_flatMap]
  refine⟨i,List.mem_range.2 (List.getElem?_eq_some_iff.1 h.at_).1,?_⟩
  have ec:L.getD i []=c:=by rw[List.getD_eq_getElem?_getD,h.at_];rfl
  rw[ec,bR,List.mem_filterMap]
  refine⟨w,List.mem_range.2 hw,?_⟩
  rw[fN,e,if_pos h.ok,h.eq]
end Go.Vx
namespace Go.Vx
open Go.Proofs Classical
theorem tH{U vs:List T}{c:List Gl}(hk:∀g∈c,g.kind≠10):(∀g∈c,okG U vs g)↔(∀g∈c,okS vs g)∧∀f∈iI vs c,∀a∈f.args,a∈U:=by
 constructor
 ·intro h
  refine⟨fun g hg h9 h10=>?_,fun f hf a ha=>?_⟩
  ·have := h g hg
   rwa [okG,if_neg h9,if_neg h10]at this
  ·rw [iI] at hf
   have w_:=List.mem_map.1 hf
   obtain⟨g,hg,rfl⟩:=w_
   have w_:=List.mem_filter.1 hg
   obtain⟨hg,h9⟩:=w_
   have:=h g hg
   rw[okG,if_pos (of_decide_eq_true h9)]at this
   exact this a ha
 ·rintro ⟨h1, h2⟩ g hg
  rw[okG]
  by_cases h9:g.kind=9
  ·rw [if_pos h9]
   exact h2 _ (List.mem_map_of_mem (List.mem_filter.2 ⟨hg,by rw[decide_eq_true_eq];exact h9⟩))
  ·rw [if_neg h9, if_neg (hk g hg)]
   exact h1 g hg h9 (hk g hg)
section
variable {p:Pg} {nm:ByteArray} {cl ca:Int} {ds:List (List Gl)} {U:List T}
theorem qLt{p:Pg}{r:Rl}(h:r∈p.rels):∃k:Nat,p.rels[k]? =some r:=by
 have w_:=List.getElem?_of_mem h
 exact w_
end
end Go.Vx
namespace Go.Vx
open Go.Proofs Classical
theorem qKu(f:Gl→Gl)(a l:List (List Gl)):dI (a.map (List.map f)) (l.map (List.map f))=(dI a l).map (List.map f):=by
 rw[dI,dI,List.map_flatMap,List.flatMap_map]
 congr 1
 funext x
 rw[List.map_map,List.map_map]
 exact List.map_congr_left fun y _=>(List.map_append ..).symm
theorem qEp{f:Gl→Gl}:∀{gs:List Gl},(∀g∈gs,(f g).cl=g.cl.map (List.map (List.map f)))→∀acc,Gl.clOr (gs.map f) (acc.map (List.map f))=(Gl.clOr gs acc).map (List.map (List.map f))
 |[],_,acc=>by rw[List.map_nil,Gl.clOr,Gl.clOr];rfl
 |g::gs,h,acc=>by
  rw[List.map_cons,Gl.clOr,Gl.clOr,h g (by simp)]
  cases g.cl with
  |none=>rfl
  |some l=>
   rw[Option.map_some,Option.bind_some,Option.bind_some,←List.map_append,List.length_map]
   split
   ·exact qEp (fun x hx=>h x (List.mem_cons_of_mem _ hx)) _
   ·rfl
theorem yW{f:Gl→Gl}:∀{gs:List Gl},(∀g∈gs,(f g).cl=g.cl.map (List.map (List.map f)))→∀acc,Gl.clAnd (gs.map f) (acc.map (List.map f))=(Gl.clAnd gs acc).map (List.map (List.map f))
 |[],_,acc=>by rw[List.map_nil,Gl.clAnd,Gl.clAnd];rfl
 |g::gs,h,acc=>by
  rw[List.map_cons,Gl.clAnd,Gl.clAnd,h g (by simp)]
  cases g.cl with
  |none=>rfl
  |some l=>
   rw[Option.map_some,Option.bind_some,Option.bind_some,qKu,List.length_map]
   split
   ·exact yW (fun x hx=>h x (List.mem_cons_of_mem _ hx)) _
   ·rfl
theorem cl_map{f:Gl→Gl}(hk:∀g,(f g).kind=g.kind)(hg:∀g,g.kind=7∨g.kind=8→(f g).goals=g.goals.map f):∀g:Gl,(f g).cl=g.cl.map (List.map (List.map f)):=
 Gl.ind fun g ih=>by
  rw[Gl.cl_eq,Gl.cl_eq,hk]
  split
  ·rfl
  split
  ·rfl
  split
  ·rename_i h8
   rw[hg g (.inr h8)]
   exact qEp ih []
  split
  ·rename_i h7
   rw[hg g (.inl h7)]
   exact yW ih [[]]
  ·rfl
theorem zD{α:Type}{t:α}:∀{l m:List α} {k:Nat},l[k]? =some t→m[k]? =some t→l.eraseIdx k=m.eraseIdx k→l=m
 |[],_,_,h,_,_=>by cases h
 |_::_,[],_,_,h,_=>by cases h
 |a::l,b::m,0,h1,h2,h=>by
  cases h1
  cases h2
  rw[List.eraseIdx_cons_zero,List.eraseIdx_cons_zero]at h
  rw[h]
 |a::l,b::m,k+1,h1,h2,h=>by
  rw[List.eraseIdx_cons_succ,List.eraseIdx_cons_succ]at h
  have h:=List.cons.inj h
  rw[h.1,zD (k:=k) (by simpa using h1) (by simpa using h2) h.2]
theorem sQ{α:Type}:∀{l:List α} {k n:Nat},k<n→(l.take n).eraseIdx k=(l.eraseIdx k).take (n-1)
 |[],k,n,_=>by simp
 |a::l,0,n+1,_=>by simp
 |a::l,k+1,n+1,h=>by
  rw[List.take_succ_cons,List.eraseIdx_cons_succ,List.eraseIdx_cons_succ,sQ (l:=l) (k:=k) (n:=n) (by omega)]
  obtain⟨m,rfl⟩:∃m,n=m+1:=⟨n-1,by omega⟩
  rfl
theorem yJ{α β:Type}(f:α→β):∀(l:List α) (k:Nat),(l.eraseIdx k).map f=(l.map f).eraseIdx k
 |[],_=>by simp
 |a::l,0=>rfl
 |a::l,k+1=>by
  rw[List.eraseIdx_cons_succ,List.map_cons,List.map_cons,List.eraseIdx_cons_succ,yJ f l k]
def gI{α:Type}(l:List α)(k:Nat)(t:α):List α:=l.take k++t::l.drop k
theorem qKq{α:Type}{l:List α}{k:Nat}{t:α}:(gI l k t).length=l.length+1:=by
 rw[gI,List.length_append,List.length_cons,List.length_take,List.length_drop];omega
theorem qMv{α:Type}{l:List α}{k:Nat}{t:α}(h:k≤l.length):(gI l k t)[k]? =some t:=by
 have e:(l.take k).length=k:=by rw[List.length_take];omega
 rw[gI,List.getElem?_append_right (by omega),e,Nat.sub_self];rfl
theorem qEn{α:Type}{l:List α}{k:Nat}{t:α}(h:k≤l.length):(gI l k t).eraseIdx k=l:=by
 have e:(l.take k).length=k:=by rw[List.length_take];omega
 rw[gI,List.eraseIdx_append_of_length_le (by omega),e,Nat.sub_self,List.eraseIdx_cons_zero,List.take_append_drop]
noncomputable def spS(a n:Nat)(t:T):Int→Option T:=sub (lW (qAo a n t))
theorem qOc{a n:Nat}{t:T}{m:Nat}(h:m<n):spS a n t (m:Int)=some (xB a t m):=by
 rw[spS,rA,bV,if_pos (by omega),Int.toNat_natCast,tK h]
theorem T.subst_gnd{f:Int→Option T}:∀{x:T},x.vars=[]→x.subst f=x
 | .nil,_=>rfl
 | .var _,h=>by simp[T.vars]at h
 | .sym _,_=>rfl
 | .num _,_=>rfl
 | .pair a b,h=>by
  have h:=List.append_eq_nil_iff.1 (show a.vars++b.vars=[]from h)
  show T.pair _ _=_
  rw[T.subst_gnd h.1,T.subst_gnd h.2]
theorem qIw{a n:Nat}{t:T}{vs:List T}(hg:t.vars=[])(hv:vs.length=n)(ht:vs[a]? =some t){x:T}(hx:∀m∈x.vars,0≤m∧m<(n:Int)):(x.subst (spS a n t)).subst (bV (vs.eraseIdx a))=x.subst (bV vs):=by
 rw[T.subst_subst]
 refine T.subst_congr _ fun k hk=>?_
 have h1:=hx k hk
 obtain⟨m,rfl⟩:=Int.eq_ofNat_of_zero_le h1.1
 have hal:=(List.getElem?_eq_some_iff.1 ht).1
 rw[qOc (by omega),Option.getD_some,xB]
 have w_:=aSo (l:=vs) (i:=m) (by omega)
 obtain⟨y,hy⟩:=w_
 have e2:bV vs (m:Int)=some y:=by rw[bV,if_pos (by omega),Int.toNat_natCast,hy]
 rw[e2]
 by_cases c1:m<a
 ·rw [if_pos c1]
  show some ((bV (vs.eraseIdx a) (m:Int)).getD _)=_
  rw[bV,if_pos (by omega),Int.toNat_natCast,List.getElem?_eraseIdx_of_lt c1,hy];rfl
 rw[if_neg c1]
 by_cases c2:m=a
 ·subst c2
  rw[if_pos rfl,T.subst_gnd hg]
  rw[ht]at hy;exact hy
 ·rw [if_neg c2]
  show some ((bV (vs.eraseIdx a) ((m:Int)-1)).getD _)=_
  rw[bV,if_pos (by omega),show((m:Int)-1).toNat=m-1 by omega,List.getElem?_eraseIdx_of_ge (by omega),show m-1+1=m by omega,hy];rfl
noncomputable def spG(a n:Nat)(t:T)(nm sp:ByteArray)(g:Gl):Gl:=(g.put (spS a n t)).fold nm a t sp
theorem fX(a n:Nat)(t:T)(nm sp:ByteArray)(g:Gl):(spG a n t nm sp g).kind=g.kind:=by
 rw[spG,Gl.fold_eq]
 split
 ·exact Gl.put_kind ..
 split
 ·rename_i h
  rw[Gl.put_kind]at h
  exact h.1.symm
 ·exact Gl.put_kind ..
theorem rL(a n:Nat)(t:T)(nm sp:ByteArray)(g:Gl)(h:g.kind=7∨g.kind=8):(spG a n t nm sp g).goals=g.goals.map (spG a n t nm sp):=by
 rw[spG,Gl.fold_eq,if_neg (by rw[Gl.put_kind];omega),if_neg (by rw[Gl.put_kind];exact fun k=>by omega)]
 show(g.put _).goals.map _=_
 rw[Gl.put_goals,List.map_map];rfl
theorem qGd(a n:Nat)(t:T)(nm sp:ByteArray)(g:Gl):(spG a n t nm sp g).cl=g.cl.map (List.map (List.map (spG a n t nm sp))):=cl_map (fX a n t nm sp) (rL a n t nm sp) g
section
variable {a n:Nat} {t:T} {nm sp:ByteArray} {vs:List T}
theorem qJx{g:Gl}(h9:g.kind≠9):(spG a n t nm sp g).terms=(g.put (spS a n t)).terms:=by
 rw[spG,Gl.fold_eq]
 split
 ·rfl
 rw[if_neg (by rw[Gl.put_kind];exact fun k=>h9 k.1)]
 rfl
theorem qNm(hg:t.vars=[])(hv:vs.length=n)(ht:vs[a]? =some t){g:Gl}(h:CV n g):okS (vs.eraseIdx a) (spG a n t nm sp g)↔okS vs g:=by
 by_cases h9:g.kind=9
 ·exact⟨fun _ k=>absurd h9 k,fun _ k=>absurd (by rw[fX];exact h9) k⟩
 have e:((spG a n t nm sp g).terms.map fun t=>t.toT.subst (bV (vs.eraseIdx a)))=g.terms.map fun t=>t.toT.subst (bV vs):=by
  rw[qJx h9,nH]
  exact List.map_congr_left fun x hx=>qIw hg hv ht (h.own x hx)
 rw[okS,okS,fX,e]
theorem uO(hg:t.vars=[])(hv:vs.length=n)(ht:vs[a]? =some t){g:Gl}(h:CV n g)(h9:g.kind=9):
  bW (vs.eraseIdx a) (spG a n t nm sp g)=bW vs g∨((bW vs g).rel=nm∧(bW vs g).args[a]? =some t∧bW (vs.eraseIdx a) (spG a n t nm sp g)=⟨sp,(bW vs g).args.eraseIdx a⟩):=by
 have e:((g.put (spS a n t)).terms.map fun t=>t.toT.subst (bV (vs.eraseIdx a)))=g.terms.map fun t=>t.toT.subst (bV vs):=by
  rw[nH]
  exact List.map_congr_left fun x hx=>qIw hg hv ht (h.own x hx)
 rw[spG,Gl.fold_eq,if_neg (by rw[Gl.put_kind,h9];decide)]
 split
 ·rename_i hm
  rw[Gl.put_name]at hm
  refine .inr ⟨hm.2.1,?_,?_⟩
  ·have h3 := congrArg (fun l : List T => l[a]?) e
   rw[List.getElem?_map,hm.2.2]at h3
   show(g.terms.map fun t=>t.toT.subst (bV vs))[a]? =some t
   rw[←h3,Option.map_some,T.toT_tm,T.subst_gnd hg]
  ·rw [bW, bW]
   show F.mk sp (((g.put (spS a n t)).terms.eraseIdx a).map _)=F.mk sp ((g.terms.map _).eraseIdx a)
   rw[←e,yJ]
 ·refine .inl ?_
  rw[bW,bW]
  show F.mk (g.put (spS a n t)).name ((g.put (spS a n t)).terms.map _)=_
  rw[e,Gl.put_name]
theorem qAy(c:List Gl):iI (vs.eraseIdx a) (c.map (spG a n t nm sp))=(c.filter fun g=>decide (g.kind=9)).map fun g=>bW (vs.eraseIdx a) (spG a n t nm sp g):=by
 rw[iI,List.filter_map,List.map_map]
 congr 1
 exact List.filter_congr fun g _=>by show decide ((spG a n t nm sp g).kind=9)=_;rw[fX]
end
end Go.Vx
namespace Go.Vx
open Go.Proofs Classical
theorem kP{α:Type}{t x:α}:∀{l:List α} {k:Nat},l[k]? =some t→x∈l→x=t∨x∈l.eraseIdx k
 |[],_,h,_=>by cases h
 |a::l,0,h,hx=>by
  cases h
  rw[List.eraseIdx_cons_zero]
  exact List.mem_cons.1 hx
 |a::l,k+1,h,hx=>by
  rw[List.eraseIdx_cons_succ]
  rcases List.mem_cons.1 hx with e|hx
  ·exact .inr (by rw[e];exact List.mem_cons_self)
  ·exact(kP (k:=k) (by simpa using h) hx).imp id (List.mem_cons_of_mem _)
structure SpH (p:Pg) (U:List T) (r:Rl) (kr a n:Nat) (t:T) (sp:ByteArray):Prop where
 pos:p.Pos
 rel:p.rels[kr]? =some r
 hn:r.arity+r.locals=(n:Int)
 ha:(a:Int)<r.arity
 gnd:t.vars=[]
 tU:t∈U
 new:∀x∈p.rels,x.name≠sp
section
variable {p:Pg} {U:List T} {r:Rl} {kr a n:Nat} {t:T} {sp:ByteArray}
noncomputable def spR(r:Rl)(a:Nat)(t:T)(sp:ByteArray):Rl:=⟨sp,r.arity-1,r.locals,cJ r r.name a t sp⟩
theorem SpH.body(h:SpH p U r kr a n t sp):cJ r r.name a t sp=spG a n t r.name sp r.body:=by
 have e:(r.arity+r.locals).toNat=n:=by rw[h.hn];rfl
 rw[cJ,spG,spS,e]
theorem wL(h:SpH p U r kr a n t sp){ru:Ru}{rl:Rl}{L:List (List Gl)}{i:Nat}{c:List Gl}{vs:List T}(k:IsRule p U ru rl L i c vs):ru.head.rel≠sp∧∀g∈iI vs c,g.rel≠sp:=by
 refine⟨by rw[k.eq];exact h.new rl k.rel,fun f hf e=>?_⟩
 rw[iI]at hf
 have w_:=List.mem_map.1 hf
 obtain⟨g,hg,rfl⟩:=w_
 have w_:=List.mem_filter.1 hg
 obtain⟨hg,h9⟩:=w_
 have w_:=qLt k.rel
 obtain⟨kk,hkk⟩:=w_
 have hro:=h.pos.1.2 kk rl hkk
 have hga:=(Gl.cl_all _ k.cl c (mAt k.at_) g hg).1
 have w_:=hro.calls.all g hga (of_decide_eq_true h9)
 obtain⟨j,r2,e1,e2,e3⟩:=w_
 have w_:=mU (p:=p) (s:=g.name) (by omega)
 obtain⟨k',r',g1,g2,g3⟩:=w_
 exact h.new r' (mAt g2) (g3.trans e)
theorem sp_fwd(h:SpH p U r kr a n t sp)(hU:0<U.length){ru:Ru}{L:List (List Gl)}{i:Nat}{c:List Gl}{vs:List T}(k:IsRule p U ru r L i c vs)(ht:vs[a]? =some t):
  kB (spR r a t sp) i (c.map (spG a n t r.name sp)) (vs.eraseIdx a)∈aS (eM p r r.name a t sp) U:=by
 have hro:=h.pos.1.2 kr r h.rel
 have h0:=hro.ar0
 have h1:=hro.lo0
 have hl:=k.len
 have hn:=h.hn
 have hal:=(List.getElem?_eq_some_iff.1 ht).1
 have hvn:vs.length=n:=by omega
 have hcv:∀g∈c,CV n g:=fun g hg=>(qBj hro hn k.cl (mAt k.at_) hg).2.2
 have hck:=qHr h.pos h.rel k.cl (mAt k.at_)
 have w_:=(tH hck).1 k.ok
 obtain⟨ho1,ho2⟩:=w_
 refine(fJ hU).2 ⟨spR r a t sp,L.map (List.map (spG a n t r.name sp)),i,_,_,?_,?_,?_,?_,fun x hx=>k.uni x (List.mem_of_mem_eraseIdx hx),(tH fun g hg=>?_).2 ⟨fun g hg=>?_,fun f hf x hx=>?_⟩,rfl⟩
 ·show spR r a t sp ∈ p.rels ++ [_]
  simp[spR]
 ·show (cJ r r.name a t sp).cl = _
  rw[h.body,qGd,k.cl];rfl
 ·rw[List.getElem?_map,k.at_];rfl
 ·rw [List.length_eraseIdx, if_pos hal]
  show _=(r.arity-1+r.locals).toNat
  have:=h.ha
  omega
 ·have w_ := List.mem_map.1 hg
  obtain⟨y,hy,rfl⟩:=w_
  rw[fX];exact hck y hy
 ·have w_ := List.mem_map.1 hg
  obtain⟨y,hy,rfl⟩:=w_
  exact(qNm h.gnd hvn ht (hcv y hy)).2 (ho1 y hy)
 ·rw [qAy] at hf
  have w_:=List.mem_map.1 hf
  obtain⟨g,hg,rfl⟩:=w_
  have w_:=List.mem_filter.1 hg
  obtain⟨hgc,h9⟩:=w_
  have hm:bW vs g∈iI vs c:=List.mem_map_of_mem hg
  rcases uO (nm:=r.name) (sp:=sp) h.gnd hvn ht (hcv g hgc) (of_decide_eq_true h9)with e|⟨_,_,e⟩
  ·rw[e]at hx;exact ho2 _ hm x hx
  ·rw[e]at hx;exact ho2 _ hm x (List.mem_of_mem_eraseIdx hx)
theorem qIh(h:SpH p U r kr a n t sp)(i i':Nat)(c c':List Gl)(vs:List T):(kB (spR r a t sp) i c (vs.eraseIdx a)).head=⟨sp,(kB r i' c' vs).head.args.eraseIdx a⟩:=by
 have h0:=(h.pos.1.2 kr r h.rel).ar0
 have h1:=h.ha
 show F.mk sp ((vs.eraseIdx a).take (r.arity-1).toNat)=F.mk sp ((vs.take r.arity.toNat).eraseIdx a)
 rw[sQ (by omega),show(r.arity-1).toNat=r.arity.toNat-1 by omega]
theorem sp_mono(hU:0<U.length){ru:Ru}(hr:ru∈aS p U):ru∈aS (eM p r r.name a t sp) U:=by
 have w_:=(fJ hU).1 hr
 obtain⟨rl,L,i,c,vs,k⟩:=w_
 exact(fJ hU).2 ⟨rl,L,i,c,vs,List.mem_append_left _ k.rel,k.cl,k.at_,k.len,k.uni,k.ok,k.eq⟩
theorem sp_der(h:SpH p U r kr a n t sp)(hU:0<U.length){f:F}(k:Der (aS p U) [] f):Der (aS (eM p r r.name a t sp) U) [] f∧(f.rel=r.name→f.args[a]? =some t→Der (aS (eM p r r.name a t sp) U) [] ⟨sp,f.args.eraseIdx a⟩):=by
 induction k with
 |base h=>exact nomatch h
 | @rule ru hr _ ih=>
  refine⟨.rule (sp_mono hU hr) fun g hg=>(ih g hg).1,fun e1 e2=>?_⟩
  have w_:=(fJ hU).1 hr
  obtain⟨rl,L,i,c,vs,k⟩:=w_
  have w_:=qLt k.rel
  obtain⟨kk,hkk⟩:=w_
  have hat:=(h.pos.1.2 kk rl hkk).at_
  have hat2:=(h.pos.1.2 kr r h.rel).at_
  have en:rl.name=r.name:=by rw[k.eq]at e1;exact e1
  have:kk=kr:=by rw[en]at hat;omega
  subst this
  have er:rl=r:=by
   have:=h.rel
   rw[hkk]at this;exact Option.some.inj this
  subst er
  have hro:=h.pos.1.2 _ _ hkk
  have h0:=hro.ar0
  have h1:=hro.lo0
  have hl:=k.len
  have hn:=h.hn
  have ht:vs[a]? =some t:=by
   rw[k.eq]at e2
   have e2:(vs.take rl.arity.toNat)[a]? =some t:=e2
   rw[List.getElem?_take]at e2
   split at e2
   ·exact e2
   ·cases e2
  have hvn:vs.length=n:=by omega
  have hcv:∀g∈c,CV n g:=fun g hg=>(qBj hro hn k.cl (mAt k.at_) hg).2.2
  have key:=sp_fwd h hU k ht
  have hh:=qIh h i i (c.map (spG a n t rl.name sp)) c vs
  rw[k.eq,←hh]
  refine .rule key fun g hg=>?_
  have hg:g∈iI (vs.eraseIdx a) (c.map (spG a n t rl.name sp)):=hg
  rw[qAy]at hg
  have w_:=List.mem_map.1 hg
  obtain⟨y,hy,rfl⟩:=w_
  have w_:=List.mem_filter.1 hy
  obtain⟨hyc,h9⟩:=w_
  have hm:bW vs y∈ru.pos:=by rw[k.eq];exact List.mem_map_of_mem hy
  rcases uO (nm:=rl.name) (sp:=sp) h.gnd hvn ht (hcv y hyc) (of_decide_eq_true h9)with e|⟨q1,q2,e⟩
  ·rw[e];exact(ih _ hm).1
  ·rw[e];exact(ih _ hm).2 q1 q2
theorem sp_back(h:SpH p U r kr a n t sp)(hU:0<U.length){f:F}(k:Der (aS (eM p r r.name a t sp) U) [] f):(f.rel≠sp→Der (aS p U) [] f)∧(f.rel=sp→∃g,Der (aS p U) [] g∧g.rel=r.name∧g.args[a]? =some t∧f.args=g.args.eraseIdx a):=by
 induction k with
 |base h=>exact nomatch h
 | @rule ru hr _ ih=>
  have w_:=(fJ hU).1 hr
  obtain⟨rl,L,i,c,vs',k⟩:=w_
  rcases List.mem_append.1 (show rl∈p.rels++[spR r a t sp]from k.rel)with hm|hm
  ·have k0 : IsRule p U ru rl L i c vs' := ⟨hm, k.cl, k.at_, k.len, k.uni, k.ok, k.eq⟩
   have w_:=wL h k0
   obtain⟨n1,n2⟩:=w_
   refine⟨fun _=> .rule ((fJ hU).2 ⟨_,_,_,_,_,k0⟩) fun g hg=>(ih g hg).1 (n2 g (by rw[k.eq]at hg;exact hg)),fun e=>absurd e n1⟩
  ·have er := List.mem_singleton.1 hm
   subst er
   have hro:=h.pos.1.2 kr r h.rel
   have h0:=hro.ar0
   have h1:=hro.lo0
   have hn:=h.hn
   have ha:=h.ha
   have hl:vs'.length=(r.arity-1+r.locals).toNat:=k.len
   have w_:∃L0,r.body.cl=some L0∧L=L0.map (List.map (spG a n t r.name sp)):=by
    have h2:(cJ r r.name a t sp).cl=some L:=k.cl
    rw[h.body,qGd]at h2
    have w_:=Option.map_eq_some_iff.1 h2
    obtain⟨L0,h3,h4⟩:=w_
    exact⟨L0,h3,h4.symm⟩
   obtain⟨L0,hL0,rfl⟩:=w_
   have h2:=k.at_
   rw[List.getElem?_map]at h2
   have w_:=Option.map_eq_some_iff.1 h2
   obtain⟨c0,hc0,rfl⟩:=w_
   have hal:a≤vs'.length:=by omega
   have ht:=qMv (t:=t) hal
   have he:=qEn (t:=t) hal
   have hvn:(gI vs' a t).length=n:=by rw[qKq];omega
   have hcv:∀g∈c0,CV n g:=fun g hg=>(qBj hro hn hL0 (mAt hc0) hg).2.2
   have hck:=qHr h.pos h.rel hL0 (mAt hc0)
   have hck2:∀g∈c0.map (spG a n t r.name sp),g.kind≠10:=fun g hg=>by
    have w_:=List.mem_map.1 hg
    obtain⟨y,hy,rfl⟩:=w_
    rw[fX];exact hck y hy
   have w_:=(tH hck2).1 k.ok
   obtain⟨ho1,ho2⟩:=w_
   have hcall:=fun g (hg:g∈c0) (h9:g.kind=9)=>uO (nm:=r.name) (sp:=sp) h.gnd hvn ht (hcv g hg) h9
   rw[he]at hcall
   have hin:∀g,g∈c0.filter (fun g=>decide (g.kind=9))→bW vs' (spG a n t r.name sp g)∈iI vs' (c0.map (spG a n t r.name sp)):=fun g hg=>by
    have e:=qAy (a:=a) (n:=n) (t:=t) (nm:=r.name) (sp:=sp) (vs:=gI vs' a t) c0
    rw[he]at e
    rw[e]
    exact List.mem_map_of_mem hg
   have k0:IsRule p U (kB r i c0 (gI vs' a t)) r L0 i c0 (gI vs' a t):=by
    refine⟨mAt h.rel,hL0,hc0,by omega,fun x hx=>?_,(tH hck).2 ⟨fun g hg=>?_,fun f hf x hx=>?_⟩,rfl⟩
    ·rcases kP ht hx with e | hx
     ·rw[e];exact h.tU
     ·rw[he]at hx;exact k.uni x hx
    ·refine (qNm (nm := r.name) (sp := sp) h.gnd hvn ht (hcv g hg)).1 ?_
     rw[he]
     exact ho1 _ (List.mem_map_of_mem hg)
    ·rw [iI] at hf
     have w_:=List.mem_map.1 hf
     obtain⟨g,hg,rfl⟩:=w_
     have w_:=List.mem_filter.1 hg
     obtain⟨hgc,h9⟩:=w_
     have hu:=ho2 _ (hin g hg)
     rcases hcall g hgc (of_decide_eq_true h9)with e|⟨_,q2,e⟩
     ·rw[e]at hu;exact hu x hx
     ·rw [e] at hu
      rcases kP q2 hx with e3|hx
      ·rw[e3];exact h.tU
      ·exact hu x hx
   have w_:=wL h k0
   obtain⟨n1,n2⟩:=w_
   have hh:=qIh h i i (c0.map (spG a n t r.name sp)) c0 (gI vs' a t)
   rw[he]at hh
   have hhd:ru.head=⟨sp,(kB r i c0 (gI vs' a t)).head.args.eraseIdx a⟩:=by rw[k.eq,←hh]
   rw[hhd]
   refine⟨fun e=>absurd rfl e,fun _=>⟨(kB r i c0 (gI vs' a t)).head,.rule ((fJ hU).2 ⟨_,_,_,_,_,k0⟩) fun g hg=>?_,rfl,?_,rfl⟩⟩
   ·have hg : g ∈ iI (gI vs' a t) c0 := hg
    have hns:=n2 g hg
    rw[iI]at hg
    have w_:=List.mem_map.1 hg
    obtain⟨y,hy,rfl⟩:=w_
    have w_:=List.mem_filter.1 hy
    obtain⟨hyc,h9⟩:=w_
    have hi2:=ih _ (show bW vs' (spG a n t r.name sp y)∈ru.pos by rw[k.eq];exact hin y hy)
    rcases hcall y hyc (of_decide_eq_true h9)with e|⟨q1,q2,e⟩
    ·rw[e]at hi2;exact hi2.1 hns
    ·rw [e] at hi2
     obtain⟨g0,d0,d1,d2,d3⟩:=hi2.2 rfl
     have:bW (gI vs' a t) y=g0:=F.eq_of (q1.trans d1.symm) (zD (k:=a) q2 d2 d3)
     rw[this];exact d0
   ·show ((gI vs' a t).take r.arity.toNat)[a]? = some t
    rw[List.getElem?_take,if_pos (by omega)]
    exact ht
end
end Go.Vx
namespace Go.Vx
open Go.Proofs Classical
theorem pD{α β:Type}{f:α→Option β}{P:α→Bool}:∀{l:List α},(∀x∈l,f x≠none→P x=true)→(l.filterMap f).length≤(l.filter P).length
 |[],_=>Nat.le_refl _
 |x::l,h=>by
  have ih:=pD (f:=f) (P:=P) (l:=l) fun y hy=>h y (List.mem_cons_of_mem _ hy)
  rw[List.filterMap_cons,List.filter_cons]
  cases e:f x with
  |none=>
   dsimp only
   split
   ·rw[List.length_cons];omega
   ·exact ih
  |some y=>
   dsimp only
   rw[if_pos (h x (by simp) (by rw[e];simp)),List.length_cons,List.length_cons]
   omega
def eqN(m:Nat):Nat:=((List.range (m ^ 6)).filter fun w=>decide (w / m ^ 1 % m=w / m ^ 2 % m)).length
theorem eqN_le{m:Nat}(h1:1≤m)(h3:m≤3):eqN m≤243:=by
 have w_:m=1∨m=2∨m=3:=by omega
 rcases w_ with rfl|rfl|rfl<;>decide+kernel
theorem qDa{n:Int}{t:Tm}(h:qAv n t=true)(hok:t.Ok):t=(T.var n).tm:=by
 obtain⟨x,_,rfl⟩:=hok.lift
 cases x<;>simp[qAv,T.tm]at h
 rw[h]
theorem qNo(s:ByteArray)(t:List Tm)(gs:List Gl):(Gl.mk 7 s t gs).cl=Gl.clAnd gs [[]]:=by rw[Gl.cl,if_neg (by decide),if_neg (by decide),if_neg (by decide),if_pos rfl]
theorem cl_or(s:ByteArray)(t:List Tm)(gs:List Gl):(Gl.mk 8 s t gs).cl=Gl.clOr gs []:=by rw[Gl.cl,if_neg (by decide),if_neg (by decide),if_pos rfl]
theorem pY{g:Gl}(h:zH g=true):g.cl=some [[g]]:=by
 have h:=of_decide_eq_true h
 rw[Gl.cl_eq,if_neg h.1,if_neg h.2.1,if_neg h.2.2.2,if_neg h.2.2.1]
theorem qKl{l:List T}(h:l.Nodup){i j:Nat}(hi:i<l.length)(hj:j<l.length)(e:l[i]=l[j]):i=j:=by
 have hp:=List.pairwise_iff_getElem.1 h
 rcases Nat.lt_trichotomy i j with k|k|k
 ·exact absurd e (hp i j hi hj k)
 ·exact k
 ·exact absurd e.symm (hp j i hj hi k)
theorem qNa{U:List T}(hU:U.Nodup)(h1:1≤U.length)(h3:U.length≤3){r:Rl}(hn:(r.arity+r.locals).toNat=6){i:Nat}{c:List Gl}{s:ByteArray}{gs:List Gl}(he:Gl.mk 2 s [(T.var 1).tm,(T.var 2).tm] gs∈c):(bR U r i c (U.length ^ 6)).length≤243:=by
 refine Nat.le_trans (pD fun w _ h=>?_) (eqN_le h1 h3)
 rw[fN,hn]at h
 split at h
 ·rename_i hok
  have hg:=hok _ he
  rw[okG,if_neg (show ¬(Gl.mk 2 s [(T.var 1).tm,(T.var 2).tm] gs).kind=9 from(by decide:¬(2:Int)=9)),if_neg (show ¬(Gl.mk 2 s [(T.var 1).tm,(T.var 2).tm] gs).kind=10 from(by decide:¬(2:Int)=10))]at hg
  have hg:([(T.var 1).tm,(T.var 2).tm].map fun t=>t.toT.subst (bV (gN U 6 w)))[0]? =([(T.var 1).tm,(T.var 2).tm].map fun t=>t.toT.subst (bV (gN U 6 w)))[1]?:=hg
  simp only[List.map_cons,List.map_nil,T.toT_tm]at hg
  have hg:(T.var 1).subst (bV (gN U 6 w))=(T.var 2).subst (bV (gN U 6 w)):=Option.some.inj hg
  have e1:(T.var 1).subst (bV (gN U 6 w))=U.getD (w / U.length ^ 1 % U.length) .nil:=by
   show(bV (gN U 6 w) 1).getD _=_
   rw[bV,if_pos (by decide),show(1:Int).toNat=1 from rfl,oU U 1 6 w (by decide)];rfl
  have e2:(T.var 2).subst (bV (gN U 6 w))=U.getD (w / U.length ^ 2 % U.length) .nil:=by
   show(bV (gN U 6 w) 2).getD _=_
   rw[bV,if_pos (by decide),show(2:Int).toNat=2 from rfl,oU U 2 6 w (by decide)];rfl
  rw[e1,e2]at hg
  have l1:=Nat.mod_lt (w / U.length ^ 1) (show 0<U.length by omega)
  have l2:=Nat.mod_lt (w / U.length ^ 2) (show 0<U.length by omega)
  rw[List.getD_eq_getElem?_getD,List.getD_eq_getElem?_getD,List.getElem?_eq_getElem l1,List.getElem?_eq_getElem l2]at hg
  exact decide_eq_true (qKl hU l1 l2 hg)
 ·exact absurd rfl h
theorem room_of{p:Pg}(h:zF p=true)(hp:p.Ok){U:List T}(hU:U.Nodup)(h1:1≤U.length)(h3:U.length≤3):∀r∈p.rels,r.body.cb≤64∧(aS p U).length+r.body.cb*3 ^ (r.arity-1+r.locals).toNat≤2000:=by
 rw[zF,Bool.or_eq_true]at h
 rcases h with h|h
 ·unfold appR at h
  split at h
  ·rename_i A M hl
   rw[Bool.and_eq_true,Bool.and_eq_true]at h
   obtain⟨⟨a1,a2⟩,a3⟩:=h
   have a1:=of_decide_eq_true a1
   have a3:=of_decide_eq_true a3
   have hA:A∈p.rels:=by rw[hl];simp
   have w_:=List.getElem?_of_mem hA
   obtain⟨k,hk⟩:=w_
   have hro:=hp.2 k A hk
   have hn:(A.arity+A.locals).toNat=6:=by omega
   have key:(bU U A).length≤243+729:=by
    generalize hb:A.body=b at*
    unfold appB at a2
    split at a2
    ·rename_i k0 s0 t0 k1 s1 t1 g1 k2 s2 a b2 gs2 k3 s3 t3 g2 g3 g4 hxx
     simp only[Bool.and_eq_true]at a2
     obtain⟨⟨⟨⟨⟨⟨b0,b1⟩,b3⟩,b4⟩,b5⟩,b6⟩,b7⟩:=a2
     have b0:=of_decide_eq_true b0
     obtain⟨rfl,rfl,rfl,rfl⟩:=b0
     have hsh:=hro.body
     rw[hb]at hsh
     have hs1:=hsh.sub _ (show Gl.mk 7 s1 t1 [g1,.mk 2 s2 [a,b2] gs2]∈_ by simp[Gl.goals])
     have hs2:=hs1.sub _ (show Gl.mk 2 s2 [a,b2] gs2∈_ by simp[Gl.goals])
     have ea:=qDa b1 (hs2.top.tm a (by simp[Gl.terms]))
     have eb:=qDa b3 (hs2.top.tm b2 (by simp[Gl.terms]))
     subst ea eb
     have e0:zH (Gl.mk 2 s2 [(T.var 1).tm,(T.var 2).tm] gs2)=true:=rfl
     have c1:(Gl.mk 7 s1 t1 [g1,.mk 2 s2 [(T.var 1).tm,(T.var 2).tm] gs2]).cl=some [[g1,.mk 2 s2 [(T.var 1).tm,(T.var 2).tm] gs2]]:=by
      rw[qNo]
      simp[Gl.clAnd,pY b4,pY e0,dI]
     have c2:(Gl.mk 7 s3 t3 [g2,g3,g4]).cl=some [[g2,g3,g4]]:=by
      rw[qNo]
      simp[Gl.clAnd,pY b5,pY b6,pY b7,dI]
     have c0:A.body.cl=some [[g1,.mk 2 s2 [(T.var 1).tm,(T.var 2).tm] gs2],[g2,g3,g4]]:=by
      rw[hb,cl_or]
      simp[Gl.clOr,c1,c2]
     rw[bU,c0]
     show(bI U A _ 2).length≤_
     rw[bI,show List.range 2=[0,1]from rfl,List.flatMap_cons,List.flatMap_cons,List.flatMap_nil,List.append_nil,List.length_append,hn]
     have q1:=qNa hU h1 h3 (r:=A) hn (i:=0) (c:=[g1,.mk 2 s2 [(T.var 1).tm,(T.var 2).tm] gs2]) (s:=s2) (gs:=gs2) (by simp)
     have q2:=vW U A 1 [g2,g3,g4] (U.length ^ 6)
     have q3:U.length ^ 6≤729:=Nat.le_trans (Nat.pow_le_pow_left h3 6) (by decide)
     show(bR U A 0 [g1,_] _).length+(bR U A 1 [g2,g3,g4] _).length≤_
     omega
    ·cases a2
   have hM:=oP h3 (r:=M) a3.1
   have ht:(aS p U).length≤1372:=by
    rw[aS,hl,List.flatMap_cons,List.flatMap_cons,List.flatMap_nil,List.append_nil,List.length_append]
    omega
   intro r hr
   rw[hl]at hr
   rcases List.mem_cons.1 hr with rfl|hr
   ·refine ⟨by omega, ?_⟩
    rw[show(r.arity-1+r.locals).toNat=5 by omega,a1.2.2]
    omega
   ·have er := List.mem_singleton.1 hr
    subst er
    refine⟨a3.1,?_⟩
    have:3 ^ (r.arity-1+r.locals).toNat≤3 ^ (r.arity+r.locals).toNat:=Nat.pow_le_pow_right (by decide) (by omega)
    have:=Nat.mul_le_mul_left r.body.cb this
    omega
  ·cases h
 ·have hall : ∀ r ∈ p.rels, r.body.cb ≤ 64 ∧ wN 3 p.rels + r.body.cb * 3 ^ (r.arity - 1 + r.locals).toNat ≤ 2000 := fun r hr => of_decide_eq_true (List.all_eq_true.1 h r hr)
  have hL:=oR h3 p.rels fun r hr=>(hall r hr).1
  intro r hr
  have:=hall r hr
  refine⟨this.1,?_⟩
  have hL:(aS p U).length≤wN 3 p.rels:=hL
  omega
end Go.Vx
namespace Go.Vx
open Go.Proofs Classical
theorem T.size_subst_le{f:Int→Option T}{K:Nat}(hK:1≤K)(hf:∀n y,f n=some y→y.size≤K):∀x:T,(x.subst f).size≤x.size*K
 | .nil=>by show 1≤1*K;omega
 | .sym _=>by show 1≤1*K;omega
 | .num _=>by show 1≤1*K;omega
 | .var n=>by
  show((f n).getD (.var n)).size≤1*K
  cases e:f n with
  |none=>show 1≤1*K;omega
  |some y=>have:=hf n y e;show y.size≤1*K;omega
 | .pair a b=>by
  have h1:=T.size_subst_le hK hf a
  have h2:=T.size_subst_le hK hf b
  show 1+(a.subst f).size+(b.subst f).size≤(1+a.size+b.size)*K
  rw[Nat.add_mul,Nat.add_mul]
  omega
theorem pK{s:ByteArray}{N:Rl}:∀{l:List Rl} {i:Nat},bO (l++[N]) i s=if 0≤bO l i s then bO l i s else if N.name=s then((i+l.length:Nat):Int)else -1
 |[],i=>by
  rw[List.nil_append,bO,bO,bO,if_neg (show ¬(0:Int)≤ -1 by decide)]
  simp
 |x::l,i=>by
  rw[List.cons_append,bO,bO]
  by_cases e:x.name=s
  ·rw[if_pos e,if_pos e,if_pos (by omega)]
  ·rw[if_neg e,if_neg e,pK (l:=l),List.length_cons,show i+1+l.length=i+(l.length+1) by omega]
theorem qJk:∀g:Gl,(∀x∈g.all,TopOk x)→g.Sh:=
 Gl.ind fun g ih h=> .mk (h g (Gl.all_self g)) fun x hx=>ih x hx fun y hy=>h y (Gl.all_sub hx hy)
section
variable {a n:Nat} {t:T} {nm sp:ByteArray}
theorem jO{g:Gl}(h10:g.kind≠10):(g.kind=9∧g.name=nm∧(g.put (spS a n t)).terms[a]? =some t.tm∧spG a n t nm sp g= .mk 9 sp ((g.put (spS a n t)).terms.eraseIdx a) [])∨spG a n t nm sp g= .mk g.kind g.name (g.put (spS a n t)).terms (g.goals.map (spG a n t nm sp)):=by
 rw[spG,Gl.fold_eq,if_neg (by rw[Gl.put_kind];exact h10)]
 split
 ·rename_i h
  rw[Gl.put_kind,Gl.put_name]at h
  exact .inl ⟨h.1,h.2.1,h.2.2,rfl⟩
 ·refine .inr ?_
  rw[Gl.put_kind,Gl.put_name,Gl.put_goals,List.map_map]
  rfl
theorem qBk:∀(g:Gl),(∀y∈g.all,y.kind≠10)→∀x∈(spG a n t nm sp g).all,∃y∈g.all,x=spG a n t nm sp y:=
 Gl.ind fun g ih h10 x hx=>by
  rw[Gl.all_eq]at hx
  rcases List.mem_cons.1 hx with rfl|hx
  ·exact⟨g,Gl.all_self g,rfl⟩
  ·have w_ := List.mem_flatMap.1 hx
   obtain⟨z,hz,hx⟩:=w_
   rcases jO (a:=a) (n:=n) (t:=t) (nm:=nm) (sp:=sp) (h10 g (Gl.all_self g))with⟨_,_,_,e⟩|e
   ·rw[e]at hz;exact nomatch hz
   ·rw [e] at hz
    have w_:=List.mem_map.1 (show z∈g.goals.map (spG a n t nm sp)from hz)
    obtain⟨w,hw,rfl⟩:=w_
    have w_:=ih w hw (fun y hy=>h10 y (Gl.all_sub hw hy)) x hx
    obtain⟨y,hy,e⟩:=w_
    exact⟨y,Gl.all_sub hw hy,e⟩
theorem spG_cnt:∀(g:Gl),(∀y∈g.all,y.kind≠10)→(spG a n t nm sp g).cnt≤g.cnt:=
 Gl.ind fun g ih h10=>by
  have h1:=Gl.cnt_eq1 g
  rcases jO (a:=a) (n:=n) (t:=t) (nm:=nm) (sp:=sp) (h10 g (Gl.all_self g))with⟨_,_,_,e⟩|e
  ·rw [e, Gl.cnt_eq1]
   show 1+Gl.cnts []≤_
   rw[Gl.cnts];omega
  ·have key:∀l:List Gl,(∀x∈l,x∈g.goals)→Gl.cnts (l.map (spG a n t nm sp))≤Gl.cnts l:=fun l=>by
    induction l with
    |nil=>exact fun _=>Nat.le_refl _
    |cons x l ihl=>
     intro hl
     have h2:=ih x (hl x (by simp)) fun y hy=>h10 y (Gl.all_sub (hl x (by simp)) hy)
     have h3:=ihl fun y hy=>hl y (List.mem_cons_of_mem _ hy)
     rw[List.map_cons,Gl.cnts,Gl.cnts];omega
   rw[e,Gl.cnt_eq1,h1]
   have:=key g.goals fun _ h=>h
   show 1+Gl.cnts (g.goals.map _)≤_
   omega
theorem qEq{f:Gl→Gl}:∀{l:List Gl},(∀x∈l,(f x).cb=x.cb)→Gl.cbOr (l.map f)=Gl.cbOr l
 |[],_=>rfl
 |x::l,h=>by rw[List.map_cons,Gl.cbOr,Gl.cbOr,h x (by simp),qEq fun y hy=>h y (List.mem_cons_of_mem _ hy)]
theorem zE{f:Gl→Gl}:∀{l:List Gl},(∀x∈l,(f x).cb=x.cb)→Gl.cbAnd (l.map f)=Gl.cbAnd l
 |[],_=>rfl
 |x::l,h=>by rw[List.map_cons,Gl.cbAnd,Gl.cbAnd,h x (by simp),zE fun y hy=>h y (List.mem_cons_of_mem _ hy)]
theorem Gl.cb_eq(g:Gl):g.cb=if g.kind=8 then max 1 (Gl.cbOr g.goals)else if g.kind=7 then Gl.cbAnd g.goals else 1:=by
 cases g;rw[Gl.cb];rfl
theorem spG_cb:∀g:Gl,(spG a n t nm sp g).cb=g.cb:=
 Gl.ind fun g ih=>by
  rw[Gl.cb_eq,Gl.cb_eq g,fX]
  split
  ·rename_i h8
   rw[rL a n t nm sp g (.inr h8),qEq ih]
  split
  ·rename_i h7
   rw[rL a n t nm sp g (.inl h7),zE ih]
  ·rfl
theorem qMm{m:Int}{y:T}(h:spS a n t m=some y):∃v:Nat,m=v∧v<n∧y=xB a t v:=by
 rw[spS,rA,bV]at h
 split at h
 ·rename_i h0
  have hl:=(List.getElem?_eq_some_iff.1 h).1
  rw[qCi]at hl
  rw[tK hl]at h
  exact⟨m.toNat,by omega,hl,(Option.some.inj h).symm⟩
 ·cases h
theorem qCk(ht:t.good)(hs:t.size≤10)(hn:n≤1000){g:Gl}(hg:g.Sh)(hz:∀s∈g.terms,s.cnt≤500):∀s∈(g.put (spS a n t)).terms,s.Ok:=fun s hs'=>by
 rw[Gl.put_terms]at hs'
 have w_:=List.mem_map.1 hs'
 obtain⟨u,hu,rfl⟩:=w_
 have w_:=(hg.top.tm u hu).lift
 obtain⟨x,hx,rfl⟩:=w_
 have hsz:=hz _ hu
 rw[T.cnt_tm]at hsz
 rw[T.toT_tm]
 have hgood:∀m y,spS a n t m=some y→y.good∧y.size≤10:=fun m y h=>by
  have w_:=qMm h
  obtain⟨v,rfl,hv,rfl⟩:=w_
  rw[xB]
  split
  ·exact⟨⟨by omega,by omega⟩,by show 1≤10;decide⟩
  ·split
   ·exact⟨ht,hs⟩
   ·exact⟨⟨by omega,by omega⟩,by show 1≤10;decide⟩
 have h1:=T.size_subst_le (K:=10) (by decide) (fun m y h=>(hgood m y h).2) x
 refine T.ok.tm ⟨T.good_subst (fun m y h=>(hgood m y h).1) hx.1,?_⟩
 omega
theorem jD{f:Int→Option T}{m:Int}:∀{x:T},m∈(x.subst f).vars→∃k∈x.vars,m∈((f k).getD (.var k)).vars
 | .nil,h=>nomatch h
 | .sym _,h=>nomatch h
 | .num _,h=>nomatch h
 | .var k,h=>⟨k,by simp[T.vars],h⟩
 | .pair a b,h=>by
  rcases List.mem_append.1 (show m∈(a.subst f).vars++(b.subst f).vars from h)with h|h
  ·obtain ⟨k, h1, h2⟩ := jD h
   exact⟨k,List.mem_append_left _ h1,h2⟩
  ·obtain ⟨k, h1, h2⟩ := jD h
   exact⟨k,List.mem_append_right _ h1,h2⟩
theorem qOd(hg:t.vars=[])(ha:a<n){g:Gl}(_hsh:g.Sh)(hv:∀m∈g.tvars,0≤m∧m<(n:Int)):∀s∈(g.put (spS a n t)).terms,∀m∈s.toT.vars,m<(n:Int)-1:=fun s hs m hm=>by
 rw[Gl.put_terms]at hs
 have w_:=List.mem_map.1 hs
 obtain⟨u,hu,rfl⟩:=w_
 rw[T.toT_tm]at hm
 have w_:=jD hm
 obtain⟨k,hk,hmk⟩:=w_
 have hkv:=hv k (by rw[Gl.tvars];exact List.mem_flatMap.2 ⟨_,List.mem_map_of_mem hu,hk⟩)
 obtain⟨v,rfl⟩:=Int.eq_ofNat_of_zero_le hkv.1
 rw[qOc (by omega),Option.getD_some,xB]at hmk
 split at hmk
 ·have:=List.mem_singleton.1 (show m∈[(v:Int)]from hmk);omega
 ·split at hmk
  ·rw[hg]at hmk;cases hmk
  ·have:=List.mem_singleton.1 (show m∈[(v:Int)-1]from hmk);omega
end
section
variable {p:Pg} {U:List T} {r:Rl} {kr a n:Nat} {t:T} {sp:ByteArray}
theorem pM(_h:SpH p U r kr a n t sp)(s:ByteArray):cE (eM p r r.name a t sp) s=if 0≤cE p s then cE p s else if sp=s then(p.rels.length:Int)else -1:=by
 rw[cE,cE]
 show bO (p.rels++[_]) 0 s=_
 rw[pK,Nat.zero_add]
theorem qLv{i:Nat}{x:Rl}(h:p.rels[i]? =some x):(eM p r r.name a t sp).rels[i]? =some x:=by
 show(p.rels++[_])[i]? =_
 rw[List.getElem?_append_left (List.getElem?_eq_some_iff.1 h).1,h]
theorem zR(h:SpH p U r kr a n t sp){g:Gl}(hc:bP p g):bP (eM p r r.name a t sp) g:=fun h9=>by
 obtain⟨i,x,e1,e2,e3⟩:=hc h9
 exact⟨i,x,by rw[pM h,if_pos (by omega),e1],qLv e2,e3⟩
theorem no_sp(h:SpH p U r kr a n t sp):¬0≤cE p sp:=fun k=>by
 have w_:=mU k
 obtain⟨j,x,e1,e2,e3⟩:=w_
 exact h.new x (mAt e2) e3
theorem spc_okP(h:SpH p U r kr a n t sp)(h7:p.rels.length≤7)(hsp:gJ sp)(hgood:t.good)(hsz:t.size≤10)(htsz:∀x∈r.body.all,∀s∈x.terms,s.cnt≤500):(eM p r r.name a t sp).Ok:=by
 have hp:=h.pos.1
 have hro:=hp.2 kr r h.rel
 have h0:=hro.ar0
 have h4:=hro.ar4
 have hl0:=hro.lo0
 have hl8:=hro.lo8
 have ha:=h.ha
 have hn:=h.hn
 have h10:∀y∈r.body.all,y.kind≠10:=h.pos.2 r (mAt h.rel)
 have hsub:∀y∈r.body.all,y.Sh:=hro.body.all r.body
 have hvr:∀y∈r.body.all,∀m∈y.tvars,0≤m∧m<(n:Int):=fun y hy m hm=>by
  have h1:m∈r.body.vars:=List.mem_flatMap.2 ⟨y,hy,hm⟩
  have h2:=hro.vars m h1
  have h3:=(Gl.vars_range hro.body m h1).1
  omega
 refine⟨by show(p.rels++[_]).length≤8;rw[List.length_append];show p.rels.length+1≤8;omega,fun i x hx=>?_⟩
 have hx:(p.rels++[spR r a t sp])[i]? =some x:=hx
 by_cases hi:i<p.rels.length
 ·rw [List.getElem?_append_left hi] at hx
  have k:=hp.2 i x hx
  have hat:=k.at_
  exact {
   at_:=by rw[pM h,if_pos (by omega)];exact hat
   name:=k.name
   ar0:=k.ar0
   ar4:=k.ar4
   lo0:=k.lo0
   lo8:=k.lo8
   body:=k.body
   size:=k.size
   vars:=k.vars
   calls:=FitAll.of fun y hy=>zR h (k.calls.all y hy)}
 ·rw [List.getElem?_append_right (by omega)] at hx
  have hil:=(List.getElem?_eq_some_iff.1 hx).1
  rw[List.length_singleton]at hil
  have ei:i=p.rels.length:=by omega
  subst ei
  rw[Nat.sub_self]at hx
  cases hx
  have hcalls:∀y∈r.body.all,bP (eM p r r.name a t sp) (spG a n t r.name sp y):=fun y hy=>by
   have hc:=hro.calls.all y hy
   rcases jO (a:=a) (n:=n) (t:=t) (nm:=r.name) (sp:=sp) (h10 y hy)with⟨k9,kn,kt,e⟩|e
   ·intro _
    rw[e]
    obtain⟨j,x,e1,e2,e3⟩:=hc k9
    rw[kn]at e1
    have:=hro.at_
    have ej:j=kr:=by omega
    subst ej
    rw[h.rel]at e2
    cases e2
    refine⟨p.rels.length,spR r a t sp,?_,?_,?_⟩
    ·show cE _ sp = _
     rw[pM h,if_neg (no_sp h),if_pos rfl]
    ·show (p.rels ++ [spR r a t sp])[p.rels.length]? = _
     rw[List.getElem?_append_right (Nat.le_refl _),Nat.sub_self];rfl
    ·show r.arity - 1 = (((y.put (spS a n t)).terms.eraseIdx a).length : Int)
     have hal:=(List.getElem?_eq_some_iff.1 kt).1
     have hpl:(y.put (spS a n t)).terms.length=y.terms.length:=by rw[Gl.put_terms,List.length_map]
     rw[List.length_eraseIdx,if_pos hal]
     omega
   ·rw [e]
    intro k9
    obtain⟨j,x,e1,e2,e3⟩:=zR h hc k9
    refine⟨j,x,e1,e2,?_⟩
    show x.arity=((y.put (spS a n t)).terms.length:Int)
    rw[Gl.put_terms,List.length_map];exact e3
  have htop:∀y∈r.body.all,TopOk (spG a n t r.name sp y):=fun y hy=>by
   have hok:=qCk (a:=a) (n:=n) hgood hsz (by omega) (hsub y hy) (htsz y hy)
   have hpt:=Gl.put_top (hsub y hy) hok
   have hk:=Gl.put_kind (spS a n t) y
   have hnm:=Gl.put_name (spS a n t) y
   have hgl:(y.put (spS a n t)).goals.length=y.goals.length:=by rw[Gl.put_goals,List.length_map]
   rcases jO (a:=a) (n:=n) (t:=t) (nm:=r.name) (sp:=sp) (h10 y hy)with⟨k9,kn,kt,e⟩|e
   ·rw [e]
    have hl:=hpt.ln9 (by rw[hk];exact k9)
    exact {
     tm:=fun s hs=>hok s (List.mem_of_mem_eraseIdx hs)
     k0:=by show(0:Int)≤9;decide
     k1:=by show(9:Int)≤10;decide
     nm:=fun k=>absurd rfl k
     rel:=fun _=>hsp
     ln9:=fun _=>Nat.le_trans (List.length_eraseIdx_le _ _) hl
     ln2:=fun k=>by have k:(9:Int)=2∨(9:Int)=3∨(9:Int)=6:=k;omega
     ln1:=fun k=>by have k:(9:Int)=4∨(9:Int)=5:=k;omega
     ln0:=fun k=>by have k:(9:Int)=0∨(9:Int)=1∨(9:Int)=7∨(9:Int)=8∨(9:Int)=10:=k;omega
     gl:=Nat.zero_le _
     gl0:=fun _=>rfl
     gl1:=fun k=>by have k:(9:Int)=10:=k;omega
     sy:=fun k=>by have k:(9:Int)=6:=k;omega
     cl:=fun k=>by have k:(9:Int)=10:=k;omega}
   ·rw [e]
    rw[←hk,←hnm]
    exact {
     tm:=hok
     k0:=hpt.k0
     k1:=hpt.k1
     nm:=hpt.nm
     rel:=hpt.rel
     ln9:=hpt.ln9
     ln2:=hpt.ln2
     ln1:=hpt.ln1
     ln0:=hpt.ln0
     gl:=by show(y.goals.map _).length≤8;rw[List.length_map,←hgl];exact hpt.gl
     gl0:=fun k=>by show(y.goals.map _).length=0;rw[List.length_map,←hgl];exact hpt.gl0 k
     gl1:=fun k=>absurd (hk.symm.trans k) (h10 y hy)
     sy:=hpt.sy
     cl:=fun k=>absurd (hk.symm.trans k) (h10 y hy)}
  have hbody:cJ r r.name a t sp=spG a n t r.name sp r.body:=h.body
  exact {
   at_:=by
    show cE _ sp=_
    rw[pM h,if_neg (no_sp h),if_pos rfl]
   name:=hsp
   ar0:=by show 0≤r.arity-1;omega
   ar4:=by show r.arity-1≤4;omega
   lo0:=hl0
   lo8:=hl8
   body:=by
    show(cJ r r.name a t sp).Sh
    rw[hbody]
    refine qJk _ fun x hx=>?_
    have w_:=qBk _ h10 x hx
    obtain⟨y,hy,rfl⟩:=w_
    exact htop y hy
   size:=by
    show(cJ r r.name a t sp).cnt≤60
    rw[hbody]
    exact Nat.le_trans (spG_cnt _ h10) hro.size
   vars:=fun m hm=>by
    have hm:m∈(cJ r r.name a t sp).vars:=hm
    rw[hbody]at hm
    have w_:=List.mem_flatMap.1 hm
    obtain⟨x,hx,hm⟩:=w_
    have w_:=qBk _ h10 x hx
    obtain⟨y,hy,rfl⟩:=w_
    rw[Gl.tvars]at hm
    have w_:=List.mem_flatMap.1 hm
    obtain⟨z,hz,hm⟩:=w_
    have w_:=List.mem_map.1 hz
    obtain⟨s,hs,rfl⟩:=w_
    have hs2:s∈(y.put (spS a n t)).terms:=by
     rcases jO (a:=a) (n:=n) (t:=t) (nm:=r.name) (sp:=sp) (h10 y hy)with⟨_,_,_,e⟩|e
     ·rw[e]at hs;exact List.mem_of_mem_eraseIdx hs
     ·rw[e]at hs;exact hs
    have:=qOd h.gnd (by omega) (hsub y hy) (hvr y hy) s hs2 m hm
    show m<r.arity-1+r.locals
    omega
   calls:=by
    show FitAll _ (cJ r r.name a t sp)
    rw[hbody]
    refine FitAll.of fun x hx=>?_
    have w_:=qBk _ h10 x hx
    obtain⟨y,hy,rfl⟩:=w_
    exact hcalls y hy}
theorem spc_pos(h:SpH p U r kr a n t sp)(hq:(eM p r r.name a t sp).Ok):(eM p r r.name a t sp).Pos:=by
 refine⟨hq,fun x hx=>?_⟩
 rcases List.mem_append.1 (show x∈p.rels++[spR r a t sp]from hx)with hx|hx
 ·exact h.pos.2 x hx
 ·rw [List.mem_singleton.1 hx]
  show Gl.Pos (cJ r r.name a t sp)
  rw[h.body]
  intro y hy
  have w_:=qBk _ (h.pos.2 r (mAt h.rel)) y hy
  obtain⟨z,hz,rfl⟩:=w_
  rw[fX]
  exact h.pos.2 r (mAt h.rel) z hz
theorem qHh(h:SpH p U r kr a n t sp)(hU1:1≤U.length)(hU:U.length≤3)(hg:cQ p U=some (aS p U))(hroom:r.body.cb≤64∧(aS p U).length+r.body.cb*3 ^ (r.arity-1+r.locals).toNat≤2000):cQ (eM p r r.name a t sp) U=some (aS (eM p r r.name a t sp) U):=by
 have hw:qNq p U:=by
  rw[cQ]at hg
  split at hg
  ·rename_i k;exact k.1
  ·cases hg
 have ha:=h.ha
 have hwr:=hw r (mAt h.rel)
 refine if_pos ⟨fun x hx=>?_,?_⟩
 ·rcases List.mem_append.1 (show x ∈ p.rels ++ [spR r a t sp] from hx) with hx | hx
  ·exact hw x hx
  ·rw [List.mem_singleton.1 hx]
   refine⟨?_,Nat.le_trans (Nat.pow_le_pow_right hU1 ?_) hwr.2⟩
   ·show (cJ r r.name a t sp).cl ≠ none
    rw[h.body,qGd]
    cases e:r.body.cl with
    |none=>exact absurd e hwr.1
    |some L=>exact fun k=>nomatch k
   ·show (r.arity - 1 + r.locals).toNat ≤ _
    omega
 ·have e:aS (eM p r r.name a t sp) U=aS p U++bU U (spR r a t sp):=by
   show(p.rels++[spR r a t sp]).flatMap (bU U)=_
   rw[List.flatMap_append,List.flatMap_cons,List.flatMap_nil,List.append_nil];rfl
  have hcb:(spR r a t sp).body.cb=r.body.cb:=by
   show(cJ r r.name a t sp).cb=_
   rw[h.body,spG_cb]
  have h1:=oP hU (r:=spR r a t sp) (by rw[hcb];exact hroom.1)
  rw[hcb]at h1
  have h1:(bU U (spR r a t sp)).length≤r.body.cb*3 ^ (r.arity-1+r.locals).toNat:=h1
  rw[e,List.length_append]
  omega
end
end Go.Vx
namespace Go.Vx
open Go.Proofs Classical
def lA(n:Nat):List T:=(List.range n).map fun i:Nat=>T.var (i:Int)
theorem rQ(n:Nat):(lA n).length=n:=by simp[lA]
theorem qNe{n i:Nat}(h:i<n):(lA n)[i]? =some (T.var (i:Int)):=by simp[lA,h]
theorem qGg(n:Nat):lA (n+1)=lA n++[T.var (n:Int)]:=by simp[lA,List.range_succ]
section
variable {μ:Mem}
theorem tE{h:Mem}{m:Nat}{n:Int}{t:T}{vp vt:Value}{l:List (Value×Value)}(hp:RepV μ (T.var n).tm.d vp)(ht:RepV μ t.tm.d vt)(h1:h m=some (bN l))(h2:MapOk kY l)(h3:fI l (.int .i64 n)=none):
  SpecH Tryz.prog 77 [vp,vt,.map (some m)] μ h fun r μ' h'=>μ'=μ∧r= .bool true∧h'=h.set m (bN (dM l (.int .i64 n) vt)):=by
 have w_:=Tm.invV hp
 obtain⟨p1,rfl⟩:=w_
 have w_:=Tm.invV ht
 obtain⟨p2,rfl⟩:=w_
 refine SpecH.mk [] Tryz.func77 (by kernel_rfl) ?_
 intro r1 r2
 refine ifd (fun _=>?_) (fun h=>absurd rfl h)
 refine eO l _ h1 (h2.weaken (by rintro _ ⟨n,rfl⟩;rfl)) rfl h3 ?_
 intro r3
 refine iIn (fun h=>nomatch h) (fun _=>?_)
 refine fL l h1 (h2.weaken (by rintro _ ⟨n,rfl⟩;rfl)) rfl ?_
 exact rPl ⟨rfl,rfl,rfl⟩
theorem wQ{n:Nat}{l:List T}{b1 b2:Option Addr}{c1 c2:Nat}(hl:l.length=n)(h1:Sl μ 4 b1 n (((lA n).map T.tm).map Tm.d))(h2:Sl μ 4 b2 l.length ((l.map T.tm).map Tm.d)):
  Spec Tryz.prog 43 [.slice b1 n c1,.slice b2 l.length c2] μ fun r _=>∃m,r= .tuple #[.map m,.bool true]:=by
 have hn:=aJ h1.max
 refine Spec.mkO [8] Tryz.func43 (by kernel_rfl) ?_
 intro rm hmm hom
 refine aM (fun h=>absurd (by rw[hl]) h) (fun _=>?_)
 refine lIn (fun z:Nat×List (Value×Value)×Mem=>z.1≤n∧z.2.2 rm=some (bN z.2.1)∧MapOk kY z.2.1∧∀k:Nat,z.1≤k→fI z.2.1 (.int .i64 k)=none)
  (fun(i,l',h)=>⟨[(0,.val (.slice b1 n c1)),(1,.val (.slice b2 l.length c2)),(6,.val (.map (some rm))),(15,.val (.int .i64 n)),(16,.val (.int .i64 i))],[],0,μ,h⟩) (fun z=>n-z.1)
  (0,[],_) ⟨Nat.zero_le _,Mem.set_at _ _ _,MapOk.nil,fun _ _=>rfl⟩ (fun(_,_,_)=>⟨rfl,rfl⟩) ⟨⟨rfl,rfl,rfl,rfl,rfl,trivial⟩,trivial,rfl,rfl⟩ ?_
 rintro⟨i,l',h⟩ ⟨hi,hm,hk,hg⟩
 dsimp only at hi hm hk hg
 refine ifd (fun hlt=>?_) (fun hlt=>?_)
 ·have w_ := aSo (l := l) (i := i) (by omega)
  obtain⟨y,hy⟩:=w_
  have w_:=T.elemL h1 (qNe (n:=n) (i:=i) (by omega))
  obtain⟨ad,p,hel,hr⟩:=w_
  have w_:=T.elemL h2 hy
  obtain⟨ad2,p2,hel2,hr2⟩:=w_
  refine eIn hel ?_
  refine eIn hel2 ?_
  refine cOw (tE hr hr2 hm hk (hg i (Nat.le_refl _))) fun v μ1 g1 hle1 hap1 hR=>?_
  obtain⟨e,rfl,rfl⟩:=hR
  obtain rfl:=e.symm
  refine iIn (fun h=>nomatch h) (fun _=>?_)
  refine aC (by omega) (by omega) ⟨(i+1,_,_),⟨by dsimp only;omega,Mem.set_at _ _ _,hk.int _,fun k hk2=>?_⟩,by dsimp only;omega,⟨⟨rfl,rfl,rfl,rfl,rfl,trivial⟩,trivial,rfl,rfl⟩⟩
  dsimp only at hk2 ⊢
  rw[iD,if_neg (by omega)]
  exact hg k (by omega)
 ·exact rPl ⟨_,rfl⟩
theorem oO{p:Pg}{u:List Tm}{name:ByteArray}{n:Nat}{v:Value}{ub ab:Option Addr}{uc ac:Nat}{k:Nat}{r:Rl}(hp:RepV μ p.d v)(hu:Sl μ 4 ub u.length (u.map Tm.d))(ha:Sl μ 4 ab n (((lA n).map T.tm).map Tm.d))(hk:fY p name=(k:Int))(hr:p.rels[k]? =some r)(har:r.arity=(n:Int)){L:List F}(hL:fC p u=some L):
  Spec Tryz.prog 11 [v,.slice ub u.length uc,.string name,.slice ab n ac] μ fun v _=>∃b c,v= .tuple #[.slice b (L.filter fun f=>decide (f.rel=name)).length c,.bool true]:=by
 have hp0:=hp
 have w_:=Pg.inv hp
 obtain⟨q,rfl,hrl⟩:=w_
 refine Spec.mk Tryz.func11 (by kernel_rfl) ?_
 intro r4
 refine cPl (fD hp0) fun v2 μ1 hle1 hR2=>?_
 obtain rfl:=hR2
 refine cPl (dT (hp0.mono hle1) (hu.mono hle1)) fun v1 μ2 hle2 hR=>?_
 rw[hL]at hR
 obtain⟨tv,nn,rfl,hR⟩:=hR
 have hRf:FsV μ2 L tv:=hR.rep
 have hle:=hle1.trans hle2
 have hk0:=mT hL
 have hro:=hk0.1.2 _ r hr
 have har0:=hro.ar0
 have har4:=hro.ar4
 refine ifd (fun h=>absurd h (by omega)) (fun h=>?_)
 refine iIn (fun h=>nomatch h) (fun _=>?_)
 have ha2:=ha.mono hle
 have hts:=oS (l:=(lA n).map T.tm) (base:=ab) (cap:=ac) (by rw[List.length_map,rQ];exact ha2)
 rw[List.length_map,rQ]at hts
 refine cGv hts ?_
 refine aM (fun h=>absurd (fun t ht=>?_) h) (fun _=>?_)
 ·have w_ := List.mem_map.1 ht
  obtain⟨x,hx,rfl⟩:=w_
  have w_:=List.mem_map.1 hx
  obtain⟨i,hi,rfl⟩:=w_
  have:=List.mem_range.1 hi
  exact(var_ok (by omega)).tm
 rw[hk]
 have w_:=Rl.elemA (hrl.mono hle) hr
 obtain⟨adr,qr,helr,hrr,-⟩:=w_
 refine eIn helr ?_
 refine aM (fun h=>absurd har.symm h) (fun _=>?_)
 have w_:=FsV.sl hRf
 obtain⟨bL,cL,rfl,hLm,hsL⟩:=w_
 intro r51
 refine lIn (fun z:Nat×Option Nat×Nat×List Value×Mem=>z.1≤L.length∧μ2.Le z.2.2.2.2∧z.2.2.2.1.length=((L.take z.1).filter fun f=>decide (f.rel=name)).length)
  (fun (i, bo, co, ys, μ3) => ⟨[(2, .val (.string name)), (3, .val (.slice ab n ac)), (14, .row 1 bo ys.length co), (52, .val (.slice bL L.length cL)), (53, .val (.int .i64 L.length)), (54, .val (.int .i64 i))],
   [(1,some (.row bo co 46 2 ys))],2,μ3,Mem.nil⟩) (fun z=>L.length-z.1)
  (0,some r51,0,[],μ2) ⟨Nat.zero_le _,Mem.Le.refl _,rfl⟩ (fun(_,_,_,_,_)=>⟨rfl,rfl⟩) ⟨⟨rfl,rfl,rfl,rfl,rfl,rfl,trivial⟩,⟨rfl,trivial⟩,rfl,rfl⟩ ?_
 rintro⟨i,bo,co,ys,μ3⟩ ⟨hi,hle3,hyl⟩
 dsimp only at hi hle3 hyl
 have hll:=List.length_filter_le (fun f:F=>decide (f.rel=name)) (L.take i)
 rw[List.length_take]at hll
 refine ifd (fun hlt=>?_) (fun hlt=>?_)
 rotate_left
 ·obtain rfl : i = L.length := by omega
  rw[List.take_length]at hyl
  refine rFz [1] fun μ4 hle4 hno4 hat4=> .inl ⟨bo.map fun r=>⟨r,0,none⟩,co,by rw[←hyl]⟩
 have w_:=aSo (l:=L) (i:=i) (by omega)
 obtain⟨f,hf⟩:=w_
 have w_:=F.elem (hsL.mono hle3) hf
 obtain⟨ad,p3,hel,hrf,hsf⟩:=w_
 have htk:L.take (i+1)=L.take i++[f]:=by rw[List.take_add_one,hf,Option.toList_some]
 refine eIn hel ?_
 intro r16
 refine aM (fun hn=>?_) (fun hn=>?_)
 ·refine aC (by omega) (by omega) ⟨(i + 1, bo, co, ys, μ3), ⟨by dsimp only; omega, hle3, ?_⟩, by dsimp only; omega, ⟨⟨rfl, rfl, rfl, rfl, rfl, rfl, trivial⟩, ⟨rfl, trivial⟩, rfl, rfl⟩⟩
  dsimp only
  rw[htk,List.filter_append,List.filter_cons_of_neg (by simpa using hn),List.filter_nil,List.append_nil]
  exact hyl
 ·have har2 := wC hk0.1 hk hr (hk0.2.1 f (mAt hf)) hn
  have hfl:f.args.length=n:=by omega
  refine cPl (wQ (c1:=ac) (c2:=p3.2) hfl (ha2.mono hle3) hsf) fun v5 μ5 hle5 hR5=>?_
  obtain⟨mm,rfl⟩:=hR5
  refine iIn (fun _=>?_) (fun h=>nomatch h)
  intro r72
  refine gIn ?_ ?_ fun b' c' _=>?_
  ·show(ys.length+1)*40≤_;omega
  ·exact Nat.le_trans (m:=100000000) (show ys.length+1≤_ by omega) (by decide)
  refine aC (by omega) (by omega) ⟨(i+1,b',c',_,μ5),⟨by dsimp only;omega,hle3.trans hle5,?_⟩,by dsimp only;omega,⟨⟨rfl,rfl,rfl,rfl,rfl,rfl,trivial⟩,⟨rfl,trivial⟩,rfl,rfl⟩⟩
  dsimp only
  rw[htk,List.filter_append,List.filter_cons_of_pos (by simpa using hn),List.filter_nil,List.length_append,List.length_append,List.length_singleton,List.length_singleton,hyl]
theorem xC{base:Option Addr}{n cap:Nat}{p:Pg}{v:Value}(hb:Bytes μ base n)(m:Int)(hm:m≤1000000)(hp:RepV μ p.d v)(hok:p.Ok)(hne:p.rels≠[]):
  Spec Tryz.prog 6 [.slice base n cap,.int .i64 m,v] μ fun v μ'=>∃(k:Nat) (r:Rl) (a:Nat) (b:Option Addr) (c:Nat),p.rels[k]? =some r∧r.arity=(a:Int)∧v= .tuple #[.agg #[.int .i64 9,.string r.name,.slice b a c,.slice none 0 0],.int .i64 a]∧Sl μ' 4 b a (((lA a).map T.tm).map Tm.d):=by
 have hp0:=hp
 have w_:=Pg.inv hp
 obtain⟨q,rfl,hrl⟩:=w_
 have hn0:0<p.rels.length:=List.length_pos_iff.2 hne
 refine Spec.mk Tryz.func6 (by kernel_rfl) ?_
 intro r5 r6
 refine cOw (iT hb m hm) fun v μ1 h1 hle1 hap1 hR=>?_
 obtain⟨e,r,rfl,ho,hc1⟩:=hR
 obtain rfl:=e.symm
 refine cOw (aH hc1.at p.rels.length) fun v μ2 h2 hle2 hap2 hR=>?_
 obtain⟨e,hc2,k,rfl,hk,hk2,_⟩:=hR
 obtain rfl:=e.symm
 have hk2:=hk2 (by omega)
 have w_:=aSo (l:=p.rels) (i:=k) (by omega)
 obtain⟨rl,hr⟩:=w_
 have hro:=hok.2 _ rl hr
 have har0:=hro.ar0
 have har4:=hro.ar4
 have w_:=Int.eq_ofNat_of_zero_le har0
 obtain⟨a,ha⟩:=w_
 have w_:=Rl.elem hrl hr
 obtain⟨ad,q2,hel,_⟩:=w_
 refine eIn hel ?_
 intro r8 r9
 refine bS (fun z:Nat×List Value×Option Nat×Nat=>z.1≤a∧z.2.1.length=z.1∧Rows μ 4 (((lA z.1).map T.tm).map Tm.d) z.2.1)
  (fun (i, ys, b, c) => ⟨[(6, .loc 1 r6 0), (8, .loc 2 r8 0), (9, .loc 3 r9 0), (10, .val (.int .i64 i))],
   [(1,some (.cells r6 [.val (.int .i64 0),.val (.string ⟨#[]⟩),.val (.slice none 0 0),.val (.slice none 0 0)] 31)),(2,some (.cells r8 ((rl.cs q2).map .val) 59)),(3,some (.cells r9 [.val (.int .i64 9),.val (.string rl.name),.row 4 b ys.length c,.val (.slice none 0 0)] 31)),(4,some (.row b c 36 4 ys))],5,μ,h2⟩) (fun z=>a-z.1)
  (0,[],none,0) ⟨Nat.zero_le _,rfl,.nil⟩ (fun(_,_,_,_)=>⟨rfl,rfl⟩) ⟨⟨⟨_,rfl,.inl rfl⟩,⟨_,rfl,.inl rfl⟩,⟨_,rfl,.inl rfl⟩,⟨_,rfl,.inl rfl⟩,trivial⟩,⟨.inl rfl,.inl rfl,.inr (.inr ⟨_,_,_,_,rfl,rfl,.inl rfl,.inl rfl,.inr ⟨4,rfl,rfl,Nat.le_refl _⟩,.inl rfl,trivial⟩),.inr (.inl ⟨_,_,rfl,Nat.le_refl _⟩),trivial⟩,rfl,rfl⟩ ?_
 rintro⟨i,ys,b,c⟩ ⟨hi,hyl,hrows⟩
 dsimp only at hi hyl hrows
 refine ifd (fun hlt=>?_) (fun hlt=>?_)
 ·refine cGv (lI _) ?_
  intro r35
  refine gIn ?_ ?_ fun b' c' _=>?_
  ·show(ys.length+1)*56≤_;omega
  ·exact Nat.le_trans (m:=100000000) (show ys.length+1≤_ by omega) (by decide)
  refine aC (by omega) (by omega) ⟨(i+1,_,b',c'),⟨by dsimp only;omega,?_,?_⟩,by dsimp only;omega,⟨⟨rfl,rfl,rfl,rfl,trivial⟩,⟨rfl,rfl,rfl,rfl,trivial⟩,rfl,rfl⟩⟩
  ·dsimp only;rw[List.length_append,hyl];rfl
  ·dsimp only
   rw[qGg,List.map_append,List.map_append]
   exact hrows.append (Rows.one (lT _) (Tm.d_n _))
 ·obtain rfl : i = a := by omega
  refine rFz [4] fun μ3 hle3 hno3 hat3=> .inl ⟨k,rl,i,b.map fun r=>⟨r,0,none⟩,c,hr,ha,?_,?_⟩
  ·rw[hyl,ha]
  ·have := Rows.sl hat3 (hrows.mono hle3) (Nat.le_trans (m := 1000) (by omega) (by decide))
   rw[hyl]at this
   have w_:=Rep.sl this
   obtain⟨b9,c9,e9,hs9⟩:=w_
   have w_:=Value.slice.inj e9
   obtain⟨rfl,-,rfl⟩:=w_
   rw[List.length_map,List.length_map,rQ]at hs9
   exact hs9
end
end Go.Vx
namespace Go.Vx
open Go.Proofs Classical
theorem AscT.lt{l:List T}(h:AscT l):∀(d i:Nat) (x y:T),l[i]? =some x→l[i+d+1]? =some y→x.cmp y<0
 |0,i,x,y,hx,hy=>h i x y hx hy
 |d+1,i,x,y,hx,hy=>by
  have hl:=(List.getElem?_eq_some_iff.1 hy).1
  obtain⟨z,hz⟩:∃z,l[i+d+1]? =some z:=⟨_,List.getElem?_eq_getElem (by omega)⟩
  exact T.cmp_ord.trans x z y (AscT.lt h d i x z hx hz) (h _ z y hz hy)
theorem AscT.nodup{l:List T}(h:AscT l):l.Nodup:=by
 rw[List.Nodup,List.pairwise_iff_getElem]
 intro i j hi hj hij e
 obtain⟨d,rfl⟩:=Nat.exists_eq_add_of_lt hij
 have:=h.lt d i _ _ (List.getElem?_eq_getElem hi) (List.getElem?_eq_getElem hj)
 rw[e]at this
 exact T.cmp_ord.irrefl _ this
theorem mem_spec{L:List F}{nm:ByteArray}{a:Nat}{t:T}{f:F}:f∈iJ (dK L nm a t L.length)↔∃g∈L,g.rel=nm∧g.args[a]? =some t∧f=⟨nm,g.args.eraseIdx a⟩:=by
 rw[qEz,dK,List.take_length,List.mem_map]
 constructor
 ·rintro ⟨g, hg, rfl⟩
  rw[List.mem_filter,decide_eq_true_eq]at hg
  exact⟨g,hg.1,hg.2.1,hg.2.2,rfl⟩
 ·rintro ⟨g, h1, h2, h3, rfl⟩
  exact⟨g,List.mem_filter.2 ⟨h1,decide_eq_true ⟨h2,h3⟩⟩,rfl⟩
theorem spec_le(L:List F)(nm:ByteArray)(a:Nat)(t:T):(iJ (dK L nm a t L.length)).length≤(L.filter fun f=>decide (f.rel=nm)).length:=by
 refine Nat.le_trans (qEl _) ?_
 rw[dK,List.length_map,List.take_length,←List.countP_eq_length_filter,←List.countP_eq_length_filter]
 refine List.countP_mono_left fun x _ h=>?_
 rw[decide_eq_true_eq]at h
 exact decide_eq_true h.1
section
variable {p:Pg} {U:List T} {r:Rl} {kr a n:Nat} {t:T} {sp:ByteArray}
theorem sp_in(h:SpH p U r kr a n t sp)(hU:0<U.length){f:F}(hf:f∈lfp (aS (eM p r r.name a t sp) U) [])(e:f.rel=sp):(⟨r.name,f.args⟩:F)∈iJ (dK (lfp (aS p U) []) r.name a t (lfp (aS p U) []).length):=by
 obtain⟨g,h1,h2,h3,h4⟩:=(sp_back h hU (mem_lfp.1 hf)).2 e
 exact mem_spec.2 ⟨g,mem_lfp.2 h1,h2,h3,by rw[h4]⟩
theorem sp_of(h:SpH p U r kr a n t sp)(hU:0<U.length){f:F}(hf:f∈iJ (dK (lfp (aS p U) []) r.name a t (lfp (aS p U) []).length)):f.rel=r.name∧(⟨sp,f.args⟩:F)∈lfp (aS (eM p r r.name a t sp) U) []:=by
 obtain⟨g,h1,h2,h3,rfl⟩:=mem_spec.1 hf
 exact⟨rfl,mem_lfp.2 ((sp_der h hU (mem_lfp.1 h1)).2 h2 h3)⟩
theorem qOf(h:SpH p U r kr a n t sp)(hU:0<U.length):((lfp (aS (eM p r r.name a t sp) U) []).filter fun f=>decide (f.rel=sp)).length=(iJ (dK (lfp (aS p U) []) r.name a t (lfp (aS p U) []).length)).length:=by
 have n1:((lfp (aS (eM p r r.name a t sp) U) []).filter fun f=>decide (f.rel=sp)).Nodup:=List.Pairwise.filter _ ((qAw _ _).nodup cmpF_ord)
 have n2:(iJ (dK (lfp (aS p U) []) r.name a t (lfp (aS p U) []).length)).Nodup:=(vI _).nodup cmpF_ord
 have n3:(((lfp (aS (eM p r r.name a t sp) U) []).filter fun f=>decide (f.rel=sp)).map fun f:F=>(⟨r.name,f.args⟩:F)).Nodup:=by
  rw[List.Nodup,List.pairwise_map]
  refine List.Pairwise.imp_of_mem (fun {x y} hx hy hn e=>hn ?_) n1
  rw[List.mem_filter,decide_eq_true_eq]at hx hy
  have:=congrArg F.args e
  cases x;cases y
  have e1:=hx.2;have e2:=hy.2
  dsimp only at e1 e2 this
  rw[e1,e2,this]
 have hp:=(List.perm_ext_iff_of_nodup n3 n2).2 fun f=>by
  rw[List.mem_map]
  constructor
  ·rintro ⟨x, hx, rfl⟩
   rw[List.mem_filter,decide_eq_true_eq]at hx
   exact sp_in h hU hx.1 hx.2
  ·intro hf
   have w_:=sp_of h hU hf
   obtain⟨h1,h2⟩:=w_
   refine⟨⟨sp,f.args⟩,List.mem_filter.2 ⟨h2,decide_eq_true rfl⟩,?_⟩
   cases f
   dsimp only at h1 ⊢
   rw[h1]
 have:=hp.length_eq
 rwa [List.length_map]at this
end
end Go.Vx
namespace Go.Vx
open Go.Proofs Classical
theorem qHa:gJ eD:=by
 refine⟨?_,by decide,by decide,?_⟩
 ·intro h
  simp only[rsv,List.mem_cons,List.not_mem_nil,or_false]at h
  rcases h with h|h|h|h|h|h|h|h|h<;>exact absurd (congrArg lsS h) (by decide)
 ·intro i b h
  have hl:=(List.getElem?_eq_some_iff.1 h).1
  have hl:i<7:=hl
  have w_:i=0∨i=1∨i=2∨i=3∨i=4∨i=5∨i=6:=by omega
  rcases w_ with rfl|rfl|rfl|rfl|rfl|rfl|rfl<;>(cases h;simp[xU])
section
variable {μ:Mem}
theorem F.ren{f:F}{nm:ByteArray}{b:Option Addr}{n c:Nat}(h:RepV μ f.fc.d (.agg #[.string f.rel,.slice b n c])):RepV μ (⟨nm,f.args⟩:F).fc.d (.agg #[.string nm,.slice b n c]):=by
 rw[Fc.d_eq]at h ⊢
 obtain⟨cs,e,h⟩:=h
 obtain⟨a0,t0,rfl,h0,h⟩:=h
 obtain⟨a1,t1,rfl,h1,h⟩:=h
 obtain rfl:t1=[]:=h
 have h0:a0=[.string f.rel]:=h0
 subst h0
 have w_:=jB (Rep.len _ _ h1)
 obtain⟨v1,rfl⟩:=w_
 have e2:[.string f.rel,.slice b n c]=[.string f.rel,v1]:=congrArg (fun v=>match v with|Value.agg a=>a.toList|_=>[]) e
 have e3:Value.slice b n c=v1:=(List.cons.inj (List.cons.inj e2).2).1
 subst e3
 exact⟨_,rfl,RepS.str (RepS.last h1)⟩
set_option maxHeartbeats 4000000 in
theorem pT{base:Option Addr}{n cap:Nat}(hb:Bytes μ base n):
  Spec Tryz.prog 3 [.slice base n cap] μ fun r _=>r= .bool true:=by
 refine Spec.mk Tryz.func3 (by kernel_rfl) ?_
 refine ifd (fun h=>rPl rfl) (fun h=>?_)
 refine cPl (rG hb 0 (by decide) 1 (.inl rfl)) fun v1 μ1 hle1 hR=>?_
 obtain⟨p,hp,hrp⟩:=hR
 have w_:=Pg.inv hrp
 obtain⟨q,rfl,hrl⟩:=w_
 intro r3
 refine cPl (qO (hb.mono hle1) 60 (by decide) 3 (by decide) (by decide)) fun v2 μ2 hle2 hR=>?_
 obtain⟨U,hU,hrU⟩:=hR
 have w_:=Rep.sl hrU
 obtain⟨ub,uc,rfl,hus⟩:=w_
 rw[List.length_map,List.length_map]at hus ⊢
 have huo:=hU.ok (by decide)
 have hgr:cQ p U=some (aS p U):=qAm hp.small3 hU.max
 have hgo:dL p (U.map T.tm)=some (aS p U):=by rw[dL,if_pos ⟨hp.ok,huo⟩,kJ];exact hgr
 have hU1:0<U.length:=hU.pos
 have hpos:=hp.pos (by decide)
 have hrp2:=hrp.mono hle2
 have hb2:=(hb.mono hle1).mono hle2
 refine cPl (xC hb2 80 (by decide) hrp2 hp.ok hp.ne) fun v3 μ3 hle3 hR=>?_
 obtain⟨kr,r,ar,gb,gc,hr,har,rfl,hgs⟩:=hR
 have ha1:=hp.ar r (List.mem_of_getElem? hr)
 intro r5
 have hb3:=hb2.mono hle3
 refine cPl (nI hb3 90 0 9 (by decide) (by decide) (by decide) (by decide)) fun v4 μ4 hle4 hR=>?_
 obtain⟨e,k,rfl,hk0,hk9⟩:=hR
 obtain rfl:=e.symm
 refine aD (by omega) ?_
 have w_:=Int.eq_ofNat_of_zero_le hk0
 obtain⟨k,rfl⟩:=w_
 have e1:(k:Int).tmod (ar:Int)=((k % ar:Nat):Int):=by rw[Int.ofNat_tmod]
 refine nEq e1 ?_
 have hlt:k % ar<ar:=Nat.mod_lt _ (by omega)
 generalize k % ar=a at hlt ⊢
 clear e1 hk0 hk9
 refine cPl (nI hb3 91 0 9 (by decide) (by decide) (by decide) (by decide)) fun v4 μ4 hle4 hR=>?_
 obtain⟨e,k,rfl,hk0,hk9⟩:=hR
 obtain rfl:=e.symm
 refine aD (by omega) ?_
 have w_:=Int.eq_ofNat_of_zero_le hk0
 obtain⟨k,rfl⟩:=w_
 have e1:(k:Int).tmod (U.length:Int)=((k % U.length:Nat):Int):=by rw[Int.ofNat_tmod]
 refine nEq e1 ?_
 have w_:=aSo (l:=U) (i:=k % U.length) (Nat.mod_lt _ hU1)
 obtain⟨t,ht⟩:=w_
 have htU:=List.mem_of_getElem? ht
 have w_:=T.elemL (hus.mono hle3) ht
 obtain⟨ad,pt,hel,hrt⟩:=w_
 refine eIn hel ?_
 intro r8
 have hd:=hU.drawn t htU
 have hgnd:=huo.gnd _ (List.mem_map_of_mem (f:=T.tm) htU)
 have hn2:∃m:Nat,r.arity+r.locals=(m:Int):=by
  have h1:=(hp.ok.2 _ r hr).ar0
  have h2:=(hp.ok.2 _ r hr).lo0
  exact Int.eq_ofNat_of_zero_le (by omega)
 obtain⟨nn,hnn⟩:=hn2
 have hfind:fY p r.name=(kr:Int):=by rw[fY,if_pos hp.ok];exact(hp.ok.2 kr r hr).at_
 have hS:SpH p U r kr a nn t eD:=⟨hpos,hr,hnn,by omega,by have:=hgnd.2;rwa [T.toT_tm]at this,htU,hp.new⟩
 have hqo:(eM p r r.name a t eD).Ok:=spc_okP hS hp.seven qHa hd.good (Nat.le_trans hd.size (by decide)) (hp.tsz r (List.mem_of_getElem? hr))
 have hqp:=spc_pos hS hqo
 have hroom:=room_of hp.room hp.ok hU.asc.nodup hU.pos hU.max r (List.mem_of_getElem? hr)
 have hqg:=qHh hS hU.pos hU.max hgr hroom
 have hSo:SpcOk p r.name (a:Int) t.tm r:=⟨⟨kr,hfind,hr⟩,hgnd,by omega,by omega⟩
 have hsO:=vA (sp:=eD) hSo
 rw[Int.toNat_natCast,T.toT_tm,if_pos hqo]at hsO
 have hle23:=hle3
 refine cPl (jS (nm:=r.name) (arg:=a) (sp:=eD) (hrp2.mono hle3) hrt) fun v5 μ5 hle5 hR5=>?_
 rw[hsO]at hR5
 obtain⟨tv5,rfl,hR5⟩:=hR5
 have hrq:=hR5.rep
 have w_:=Pg.invV hrq
 obtain⟨qq,rfl⟩:=w_
 intro r9
 have hle25:=hle3.trans hle5
 have hus5:=hus.mono hle25
 have hsp:=jU (name:=r.name) (arg:=a) (ub:=ub) (uc:=uc) (u:=U.map T.tm) (hrp2.mono hle25) (by rw[List.length_map];exact hus5) (RepV.mono hle5 hrt)
 rw[List.length_map]at hsp
 have hpr:cS p (U.map T.tm)=some (aS p U):=by rw[cS,if_pos hpos,hgo]
 have hlp:fC p (U.map T.tm)=some (lfp (aS p U) []):=by rw[fC,hpr];rfl
 have hspP:qNc p r.name (a:Int) t.tm:=⟨⟨kr,r,hfind,hr,by omega,by omega⟩,hgnd.1⟩
 have hsM:dP p (U.map T.tm) r.name (a:Int) t.tm=some (iJ (dK (lfp (aS p U) []) r.name a t (lfp (aS p U) []).length)):=by rw[dP,if_pos hspP,hlp,Int.toNat_natCast,T.toT_tm];rfl
 have hin:=fun {f:F}=>sp_in (f:=f) hS hU1
 have hof:=fun {f:F}=>sp_of (f:=f) hS hU1
 have hcnt:=qOf hS hU1
 have hle:=spec_le (lfp (aS p U) []) r.name a t
 refine cPl hsp fun v6 μ6 hle6 hR6=>?_
 rw[hsM]at hR6
 obtain⟨tv6,rfl,hR6⟩:=hR6
 have hqgo:dL (eM p r r.name a t eD) (U.map T.tm)=some (aS (eM p r r.name a t eD) U):=by rw[dL,if_pos ⟨hqo,huo⟩,kJ];exact hqg
 have hlq:fC (eM p r r.name a t eD) (U.map T.tm)=some (lfp (aS (eM p r r.name a t eD) U) []):=by rw[fC,cS,if_pos hqp,hqgo];rfl
 have hlm:=dT (ub:=ub) (uc:=uc) (u:=U.map T.tm) (hrq.mono hle6) (by rw[List.length_map];exact hus5.mono hle6)
 rw[List.length_map]at hlm
 refine cPl hlm fun v7 μ7 hle7 hR7=>?_
 rw[hlq]at hR7
 obtain⟨tv7,k7,rfl,hR7⟩:=hR7
 have hle57:=hle6.trans hle7
 have hci:=oO (ub:=ub) (uc:=uc) (u:=U.map T.tm) (ab:=gb) (ac:=gc) (name:=r.name) (hrp2.mono (hle25.trans hle57)) (by rw[List.length_map];exact hus5.mono hle57) (hgs.mono (hle5.trans hle57)) hfind hr har hlp
 rw[List.length_map]at hci
 refine cPl hci fun v8 μ8 hle8 hR8=>?_
 obtain⟨cb,cc,rfl⟩:=hR8
 have hw:=(hR6.rep).mono (hle7.trans hle8)
 have hm:=(hR7.rep).mono hle8
 have hB:=(mT hlq).2.2.1
 generalize lfp (aS (eM p r r.name a t eD) U) []=M at hin hof hcnt hm hB
 generalize iJ (dK (lfp (aS p U) []) r.name a t (lfp (aS p U) []).length)=W at hin hof hcnt hle hw
 generalize ((lfp (aS p U) []).filter fun f=>decide (f.rel=r.name)).length=ln at hle ⊢
 have w_:=FsV.sl hw
 obtain⟨wb,wc,rfl,-,hsw⟩:=w_
 have w_:=FsV.sl hm
 obtain⟨mb,mc,rfl,-,hsm⟩:=w_
 refine iIn (fun h=>nomatch h) (fun _=>?_)
 refine iIn (fun h=>nomatch h) (fun _=>?_)
 refine iIn (fun h=>nomatch h) (fun _=>?_)
 have hWM:W.length≤M.length:=by rw[←hcnt];exact List.length_filter_le _ _
 refine lIn (fun z:Nat×Nat=>z.1≤M.length∧z.2=((M.take z.1).filter fun f=>decide (f.rel=eD)).length)
  (fun(i,k)=>⟨[(5,.loc 1 r5 0),(11,.val (.slice wb W.length wc)),(13,.val (.slice mb M.length mc)),(16,.val (.slice cb ln cc)),(18,.val (.int .i64 k)),(96,.val (.slice mb M.length mc)),(97,.val (.int .i64 M.length)),(98,.val (.int .i64 i))],[(1,some (.cells r5 [.val (.int .i64 9),.val (.string r.name),.val (.slice gb ar gc),.val (.slice none 0 0)] 31))],4,μ8,Mem.nil⟩) (fun z=>M.length-z.1)
  (0,0) ⟨Nat.zero_le _,rfl⟩ (fun(_,_)=>⟨rfl,rfl⟩) ⟨⟨rfl,rfl,rfl,rfl,rfl,rfl,rfl,rfl,trivial⟩,⟨rfl,trivial⟩,rfl,rfl⟩ ?_
 rintro⟨i,k⟩ ⟨hi,hk⟩
 dsimp only at hi hk
 have hkl:k≤i:=by rw[hk];exact Nat.le_trans (List.length_filter_le _ _) (List.length_take_le _ _)
 refine ifd (fun hlt=>?_) (fun hlt=>?_)
 ·have w_ := aSo (l := M) (i := i) (by omega)
  obtain⟨f,hf⟩:=w_
  have htk:M.take (i+1)=M.take i++[f]:=by rw[List.take_add_one,hf,Option.toList_some]
  have w_:=F.elemV hsm hf
  obtain⟨ad2,p2,hel2,hrf⟩:=w_
  refine eIn hel2 ?_
  intro r20
  refine ifd (fun hn=>?_) (fun hn=>?_)
  ·have hn : f.rel = eD := hn
   refine aC (by omega) (by omega) ?_
   refine cGv (qJa hsw (F.ren hrf)) ?_
   refine aM (fun h=>absurd (hin (mAt hf) hn) h) (fun _=>?_)
   refine aC (by omega) (by omega) ⟨(i+1,k+1),⟨by dsimp only;omega,?_⟩,by dsimp only;omega,⟨⟨rfl,rfl,rfl,rfl,rfl,rfl,rfl,rfl,trivial⟩,⟨rfl,trivial⟩,rfl,rfl⟩⟩
   dsimp only
   rw[htk,List.filter_append,List.filter_cons_of_pos (by simpa using hn),List.filter_nil,List.length_append,List.length_singleton,hk]
  ·have hn : ¬ f.rel = eD := hn
   refine aC (by omega) (by omega) ⟨(i+1,k),⟨by dsimp only;omega,?_⟩,by dsimp only;omega,⟨⟨rfl,rfl,rfl,rfl,rfl,rfl,rfl,rfl,trivial⟩,⟨rfl,trivial⟩,rfl,rfl⟩⟩
   dsimp only
   rw[htk,List.filter_append,List.filter_cons_of_neg (by simpa using hn),List.filter_nil,List.append_nil,hk]
 obtain rfl:i=M.length:=by omega
 rw[List.take_length,hcnt]at hk
 refine lIn (fun i:Nat=>i≤W.length)
  (fun i=>⟨[(11,.val (.slice wb W.length wc)),(13,.val (.slice mb M.length mc)),(16,.val (.slice cb ln cc)),(18,.val (.int .i64 k)),(116,.val (.slice wb W.length wc)),(117,.val (.int .i64 W.length)),(118,.val (.int .i64 i))],[],4,μ8,Mem.nil⟩) (fun z=>W.length-z)
  0 (Nat.zero_le _) (fun _=>⟨rfl,rfl⟩) ⟨⟨rfl,rfl,rfl,rfl,rfl,rfl,rfl,trivial⟩,trivial,rfl,rfl⟩ ?_
 intro i hi
 refine ifd (fun hlt=>?_) (fun hlt=>?_)
 ·have w_ := aSo (l := W) (i := i) (by omega)
  obtain⟨f,hf⟩:=w_
  have w_:=F.elemV hsw hf
  obtain⟨ad2,p2,hel2,hrf⟩:=w_
  refine eIn hel2 ?_
  intro r22
  refine cGv (qJa hsm (F.ren (nm:=eD) hrf)) ?_
  refine aM (fun h=>absurd (hof (mAt hf)).2 h) (fun _=>?_)
  exact aC (by omega) (by omega) ⟨i+1,by omega,by omega,⟨⟨rfl,rfl,rfl,rfl,rfl,rfl,rfl,trivial⟩,trivial,rfl,rfl⟩⟩
 refine ifd (fun _=>?_) (fun h=>absurd (by rw[hk]) h)
 refine rPl ?_
 rw[decide_eq_true (by omega)]
end
end Go.Vx
