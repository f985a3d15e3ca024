/- Texts of the proof, part E1. -/
import Derived.Below
import Derived.MapKept
import Derived.Orders
import Derived.WalkKit
import Derived.WideKeyMaps
import Derived.Test.YtnogdfionomoaaaGreatM6
namespace Go.Vx
theorem qIk{need bytes:Nat}{empty:Prop}{K:Option Nat→Nat→Prop}(h:need*bytes≤140737488355328)(h':need≤maxLen)(k:∀base' cap',need≤cap'→(base'=none→empty)→K base' cap'):growVC need bytes empty K:=⟨⟨h,h',k⟩⟩
end Go.Vx
namespace Go.Vx
section
variable {P:Program} {f:FuncId} {args:List Value} {μ h0:Mem}
theorem Mem.sub_none{μ g:Mem}{b:Nat}(h:(μ.sub g) b≠none):g b=none:=by
 unfold Mem.sub at h
 split at h
 ·exact absurd rfl h
 ·assumption
theorem Mem.sub_of{μ g:Mem}{b:Nat}(h:g b=none):(μ.sub g) b=μ b:=by unfold Mem.sub;rw[h]
theorem Mem.join_sub{μ g:Mem}(h:Apart μ g):(μ.join g).sub g=μ:=funext fun b=>by
 cases hg:g b with
 |some o=>
  have:μ b=none:=h.symm b (by simp[hg])
  unfold Mem.sub;rw[hg,this]
 |none=>
  rw[Mem.sub_of hg,Mem.join_get]
  cases μ b with
  |some o=>rfl
  |none=>exact hg
theorem Mem.le_sub{μ μ' g:Mem}(h:μ.Le μ')(ha:Apart μ g):μ.Le (μ'.sub g):=fun b o hb=>by
 rw[Mem.sub_of (ha b (by simp[hb]))];exact h b o hb
theorem SpecH.lend{H:Mem}{R:Value→Mem→Prop}(ha:Apart μ H)(h:Spec P f args (μ.join H) R):SpecH P f args μ H fun v μ1 H1=>H1=H∧∃μ',R v μ'∧(μ.join H).Le μ'∧μ1=μ'.sub H:=by
 refine⟨h.1,fun w hm hH _=>(h.2 w (hm.join hH) (mF w) (dY _)).mono ?_⟩
 rintro e w' ⟨v,μ',h',rfl,hr,hS⟩
 refine⟨v,μ'.sub H,H,rfl,⟨rfl,μ',hr,hS.le,rfl⟩,⟨Mem.le_sub ((Mem.le_join μ H).trans hS.le) ha,hS.mem.le (Mem.sub_le _ _),hS.mem.le ((Mem.le_join_right ha).trans hS.le),fun b hb=>Mem.sub_none hb,fun b hb hb'=>?_,fun b hb=> .inr hb,hS.size,fun b hb _=>hS.keep b hb rfl,hS.os,hS.tape,hS.output⟩⟩
 have h1:=Mem.sub_none hb'
 rw[Mem.sub_of h1]at hb'
 refine .inl ((hS.fresh b ?_ hb').resolve_right (fun h=>h rfl))
 rw[Mem.join_get,hb];exact h1
theorem SpecH.lendGives{H:Mem}{x:Value}(ha:Apart μ H)(h:Spec P f args (μ.join H) fun v μ'=>v=x∧μ'=μ.join H):SpecH P f args μ H fun v μ1 H1=>v=x∧μ1=μ∧H1=H:=
 (SpecH.lend ha h).weaken fun v μ1 H1 _ _ ⟨h1,μ',⟨h2,h3⟩,_,h4⟩=>⟨h2,by rw[h4,h3,Mem.join_sub ha],h1⟩
end
end Go.Vx
namespace Go.Vx
section
variable {P:Program} {f:FuncId} {args:List Value} {μ H:Mem}
theorem Spec.lendOwn{R:Value→Mem→Prop}{R':Value→Mem→Mem→Prop}(ha:Apart μ H)(h:Spec P f args (μ.join H) R)(G:∀v μ1,(μ.join H).Le μ1→R v μ1→∃g:Mem,g.Le μ1∧(∀b,g b≠none→(μ.join H) b=none)∧R' v g μ1):
  SpecH P f args μ H fun v μ2 H2=>∃g μ1,R' v g μ1∧(μ.join H).Le μ1∧Parts H2 H g∧μ2=(μ1.sub H).sub g:=by
 refine⟨h.1,fun w hm hH _=>(h.2 w (hm.join hH) (mF w) (dY _)).mono ?_⟩
 rintro e w' ⟨v,μ1,h1,rfl,hr,hS⟩
 obtain⟨g,hg,hf,hr'⟩:=G v μ1 hS.le hr
 have hgH:Apart H g:=fun b hb=>by
  cases h2:g b with
  |none=>rfl
  |some o=>
   have:=hf b (by simp[h2])
   cases h3:H b with
   |none=>exact absurd h3 hb
   |some o'=>rw[Mem.le_join_right ha b o' h3]at this;cases this
 have hgμ:Apart μ g:=fun b hb=>by
  cases h2:g b with
  |none=>rfl
  |some o=>
   have:=hf b (by simp[h2])
   cases h3:μ b with
   |none=>exact absurd h3 hb
   |some o'=>rw[Mem.le_join μ H b o' h3]at this;cases this
 refine⟨v,(μ1.sub H).sub g,H.join g,rfl,⟨g,μ1,hr',hS.le,Parts.join hgH,rfl⟩,⟨Mem.le_sub (Mem.le_sub ((Mem.le_join μ H).trans hS.le) ha) hgμ,hS.mem.le ((Mem.sub_le _ _).trans (Mem.sub_le _ _)),(hS.mem.le ((Mem.le_join_right ha).trans hS.le)).join (hS.mem.le hg),fun b hb=>?_,fun b hb hb'=>?_,fun b hb=>?_,hS.size,fun b hb _=>hS.keep b hb rfl,hS.os,hS.tape,hS.output⟩⟩
 ·have k1 := Mem.sub_none hb
  rw[Mem.sub_of k1]at hb
  rw[Mem.join_get,Mem.sub_none hb];exact k1
 ·have k1 := Mem.sub_none hb'
  rw[Mem.sub_of k1]at hb'
  have k2:=Mem.sub_none hb'
  rw[Mem.sub_of k2]at hb'
  refine .inl ((hS.fresh b ?_ hb').resolve_right fun h=>h rfl)
  rw[Mem.join_get,hb];exact k2
 ·rcases sE hb with h2 | h2
  ·exact .inr h2
  ·refine .inl ((hS.fresh b (hf b h2) ?_).resolve_right fun h => h rfl)
   cases h3:g b with
   |none=>exact absurd h3 h2
   |some o=>rw[hg b o h3];simp
variable {dr:Bool} {s:St} {K:Value→St→Prop}
theorem jC{x:Value}(hap:Apart s.mem s.own)(h:Spec P f args (s.mem.join s.own) fun v μ'=>v=x∧μ'=s.mem.join s.own)(k:K x s):callVC dr P f args s K:=
 cOw (SpecH.lendGives hap h) fun v μ' H' _ _ ⟨h1,h2,h3⟩=>by
  subst h1 h2 h3
  cases s
  exact k
end
end Go.Vx
namespace Go.Vx
theorem D.wds_of:∀{xs:List D},(∀x∈xs,x.wd)→D.wds xs
 |[],_=>trivial
 |d::r,k=>⟨k d (by simp),D.wds_of fun x h=>k x (by simp[h])⟩
end Go.Vx
namespace Go.Vx
open Go.Proofs Classical
section
variable {μ:Mem}
def qHg(μ':Mem)(l:List Int)(n:Int)(v:Value):Prop:=∃r:List Int,RepV μ' (.sl 1 (r.map D.i)) v∧(∀x,x∈r↔x=n∨x∈l)∧r.length≤l.length+1
theorem gN{l:List Int}{v:Value}{n:Int}(hv:RepV μ (.sl 1 (l.map D.i)) v)(hb:l.length≤1000000000):Spec Tryz.prog 248 [v,.int .i64 n] μ fun v μ'=>qHg μ' l n v:=by
 have w_:=Rep.sl hv
 obtain⟨base,cap,rfl,hsl⟩:=w_
 have hcap:=Rep.lens hv
 rw[List.length_map]at hsl hcap hv ⊢
 refine Spec.mk Tryz.func248 (by kernel_rfl) ?_
 refine lIn (fun k:Nat=>k≤l.length) (fun k=>⟨[(0,.val (.slice base l.length cap)),(1,.val (.int .i64 n)),(5,.val (.int .i64 k))],[],0,μ,Mem.nil⟩) (fun k=>k)
  l.length (Nat.le_refl _) (fun i=>⟨rfl,rfl⟩) ⟨⟨rfl,rfl,rfl,trivial⟩,trivial,rfl,rfl⟩ ?_
 intro k hk
 refine ifd (fun h1=>?_) (fun h1=>?_)
 ·have w_ := aSo (l := l) (i := k - 1) (by omega)
  obtain⟨x,hx⟩:=w_
  have w_:=Ints.elem hsl hx
  obtain⟨ad,hel⟩:=w_
  refine nEq (x:=((k-1:Nat):Int)) (by rw[aA (by omega) (by omega)];omega) ?_
  refine eIn hel ?_
  refine ifd (fun h2=>?_) (fun h2=>?_)
  ·exact nEq (x:=((k-1:Nat):Int)) (by rw[aA (by omega) (by omega)];omega) ⟨k-1,by omega,by omega,⟨⟨rfl,rfl,rfl,trivial⟩,trivial,rfl,rfl⟩⟩
  ·refine ifd (fun h3 => ?_) (fun h3 => ?_)
   ·have w_ := aSo (l := l) (i := k) (by omega)
    obtain⟨y,hy⟩:=w_
    have w_:=Ints.elem hsl hy
    obtain⟨ad2,hel2⟩:=w_
    refine eIn hel2 ?_
    refine ifd (fun h4=>rPl ⟨l,hv,fun x=>⟨.inr,fun hx=>hx.elim (fun e=>by rw[e,←h4];exact mAt hy) id⟩,by omega⟩) (fun h4=>?_)
    intro r0
    refine aF 0 k rfl rfl (by omega) (by omega) ?_
    refine aG _ (Ints.src hsl (a:=0) (b:=k) (by omega) hk hcap) ?_
    refine gIn ?_ ?_ fun b1 c1 _=>?_
    ·show(0+(aD _).length)*8≤_;simp[aD];omega
    ·show 0+(aD _).length≤9223372036854775807;simp[aD];omega
    intro r1
    refine gIn ?_ ?_ fun b2 c2 _=>?_
    ·show(([]++aD _).length+1)*8≤_;simp[aD];omega
    ·show([]++aD _).length+1≤9223372036854775807;simp[aD];omega
    refine aF k l.length rfl rfl hk (by omega) ?_
    refine aG _ (Ints.src hsl (a:=k) (b:=l.length) hk (Nat.le_refl _) hcap) ?_
    refine gIn ?_ ?_ fun b3 c3 _=>?_
    ·show(([]++aD _++[_]).length+(aD _).length)*8≤_;simp[aD];omega
    ·show([]++aD _++[_]).length+(aD _).length≤9223372036854775807;simp[aD];omega
    refine rFz [0] fun μ' hle hno hrow=> .inl ⟨aO l n k,?_,cF l n k,?_⟩
    ·have e:[]++aD ((l.drop 0).take (k-0))++[.int .i64 n]++aD ((l.drop k).take (l.length-k))=aD (aO l n k):=by
      simp[aD,aO]
      rw[List.take_of_length_le (by simp)]
     rw[e]at hrow ⊢
     exact Ints.sl hrow (Nat.le_trans (m:=2000000000) (by simp[aO];omega) (by decide))
    ·simp[aO];omega
   ·intro r0
    refine aF 0 k rfl rfl (by omega) (by omega) ?_
    refine aG _ (Ints.src hsl (a:=0) (b:=k) (by omega) hk hcap) ?_
    refine gIn ?_ ?_ fun b1 c1 _=>?_
    ·show(0+(aD _).length)*8≤_;simp[aD];omega
    ·show 0+(aD _).length≤9223372036854775807;simp[aD];omega
    intro r1
    refine gIn ?_ ?_ fun b2 c2 _=>?_
    ·show(([]++aD _).length+1)*8≤_;simp[aD];omega
    ·show([]++aD _).length+1≤9223372036854775807;simp[aD];omega
    refine aF k l.length rfl rfl hk (by omega) ?_
    refine aG _ (Ints.src hsl (a:=k) (b:=l.length) hk (Nat.le_refl _) hcap) ?_
    refine gIn ?_ ?_ fun b3 c3 _=>?_
    ·show(([]++aD _++[_]).length+(aD _).length)*8≤_;simp[aD];omega
    ·show([]++aD _++[_]).length+(aD _).length≤9223372036854775807;simp[aD];omega
    refine rFz [0] fun μ' hle hno hrow=> .inl ⟨aO l n k,?_,cF l n k,?_⟩
    ·have e:[]++aD ((l.drop 0).take (k-0))++[.int .i64 n]++aD ((l.drop k).take (l.length-k))=aD (aO l n k):=by
      simp[aD,aO]
      rw[List.take_of_length_le (by simp)]
     rw[e]at hrow ⊢
     exact Ints.sl hrow (Nat.le_trans (m:=2000000000) (by simp[aO];omega) (by decide))
    ·simp[aO];omega
 ·refine ifd (fun h3 => ?_) (fun h3 => ?_)
  ·have w_ := aSo (l := l) (i := k) (by omega)
   obtain⟨y,hy⟩:=w_
   have w_:=Ints.elem hsl hy
   obtain⟨ad2,hel2⟩:=w_
   refine eIn hel2 ?_
   refine ifd (fun h4=>rPl ⟨l,hv,fun x=>⟨.inr,fun hx=>hx.elim (fun e=>by rw[e,←h4];exact mAt hy) id⟩,by omega⟩) (fun h4=>?_)
   intro r0
   refine aF 0 k rfl rfl (by omega) (by omega) ?_
   refine aG _ (Ints.src hsl (a:=0) (b:=k) (by omega) hk hcap) ?_
   refine gIn ?_ ?_ fun b1 c1 _=>?_
   ·show(0+(aD _).length)*8≤_;simp[aD];omega
   ·show 0+(aD _).length≤9223372036854775807;simp[aD];omega
   intro r1
   refine gIn ?_ ?_ fun b2 c2 _=>?_
   ·show(([]++aD _).length+1)*8≤_;simp[aD];omega
   ·show([]++aD _).length+1≤9223372036854775807;simp[aD];omega
   refine aF k l.length rfl rfl hk (by omega) ?_
   refine aG _ (Ints.src hsl (a:=k) (b:=l.length) hk (Nat.le_refl _) hcap) ?_
   refine gIn ?_ ?_ fun b3 c3 _=>?_
   ·show(([]++aD _++[_]).length+(aD _).length)*8≤_;simp[aD];omega
   ·show([]++aD _++[_]).length+(aD _).length≤9223372036854775807;simp[aD];omega
   refine rFz [0] fun μ' hle hno hrow=> .inl ⟨aO l n k,?_,cF l n k,?_⟩
   ·have e:[]++aD ((l.drop 0).take (k-0))++[.int .i64 n]++aD ((l.drop k).take (l.length-k))=aD (aO l n k):=by
     simp[aD,aO]
     rw[List.take_of_length_le (by simp)]
    rw[e]at hrow ⊢
    exact Ints.sl hrow (Nat.le_trans (m:=2000000000) (by simp[aO];omega) (by decide))
   ·simp[aO];omega
  ·intro r0
   refine aF 0 k rfl rfl (by omega) (by omega) ?_
   refine aG _ (Ints.src hsl (a:=0) (b:=k) (by omega) hk hcap) ?_
   refine gIn ?_ ?_ fun b1 c1 _=>?_
   ·show(0+(aD _).length)*8≤_;simp[aD];omega
   ·show 0+(aD _).length≤9223372036854775807;simp[aD];omega
   intro r1
   refine gIn ?_ ?_ fun b2 c2 _=>?_
   ·show(([]++aD _).length+1)*8≤_;simp[aD];omega
   ·show([]++aD _).length+1≤9223372036854775807;simp[aD];omega
   refine aF k l.length rfl rfl hk (by omega) ?_
   refine aG _ (Ints.src hsl (a:=k) (b:=l.length) hk (Nat.le_refl _) hcap) ?_
   refine gIn ?_ ?_ fun b3 c3 _=>?_
   ·show(([]++aD _++[_]).length+(aD _).length)*8≤_;simp[aD];omega
   ·show([]++aD _++[_]).length+(aD _).length≤9223372036854775807;simp[aD];omega
   refine rFz [0] fun μ' hle hno hrow=> .inl ⟨aO l n k,?_,cF l n k,?_⟩
   ·have e:[]++aD ((l.drop 0).take (k-0))++[.int .i64 n]++aD ((l.drop k).take (l.length-k))=aD (aO l n k):=by
     simp[aD,aO]
     rw[List.take_of_length_le (by simp)]
    rw[e]at hrow ⊢
    exact Ints.sl hrow (Nat.le_trans (m:=2000000000) (by simp[aO];omega) (by decide))
   ·simp[aO];omega
theorem dF{α β:Type}(f:α→List β)(l:List α)(i:Nat):((l.take i).flatMap f).length≤(l.flatMap f).length:=by
 have:=congrArg (fun l=>(l.flatMap f).length) (List.take_append_drop i l)
 simp only[List.flatMap_append,List.length_append]at this
 omega
theorem T.vars_size:∀x:T,x.vars.length≤x.size
 | .nil=>by simp[T.vars]
 | .var _=>by simp[T.vars,T.size]
 | .sym _=>by simp[T.vars]
 | .num _=>by simp[T.vars]
 | .pair a b=>by
  have:=T.vars_size a
  have:=T.vars_size b
  simp[T.vars,T.size];omega
def qR(μ':Mem)(l vs:List Int)(v:Value):Prop:=∃r:List Int,RepV μ' (.sl 1 (r.map D.i)) v∧(∀x,x∈r↔x∈vs∨x∈l)∧r.length≤l.length+vs.length
theorem jY:∀(x:T) {μ:Mem} {l:List Int} {w v:Value},RepV μ x.tm.d w→RepV μ (.sl 1 (l.map D.i)) v→l.length+x.vars.length≤1000000000→Spec Tryz.prog 204 [w,v] μ fun v μ'=>qR μ' l x.vars v:=
 T.ind fun x ih μ l w v hw hv hb=>by
  obtain⟨base,cap,rfl,hsl⟩:∃base cap,w= .agg #[.int .i64 x.tm.kind,.int .i64 x.tm.num,.string x.tm.name,.slice base x.args.length cap]∧Sl μ 4 base x.args.length ((x.args.map T.tm).map Tm.d):=by
   have h1:=Tm.inv (k:=x.tm.kind) (n:=x.tm.num) (s:=x.tm.name) (l:=x.tm.args) (v:=w) (by cases x<;>exact hw)
   rw[T.tm_args,List.length_map]at h1
   exact h1
  have hn:=aH hsl.max
  refine Spec.mk Tryz.func204 (by kernel_rfl) ?_
  intro r
  refine ifd (fun h=>?_) (fun h=>?_)
  ·have e : x.vars = [x.tm.num] := by cases x <;> simp_all [T.vars, T.tm, Tm.kind, Tm.num]
   refine cPl (gN hv (by omega)) fun v' μ' hle hR=>rPl ?_
   obtain⟨r,h1,h2,h3⟩:=hR
   exact⟨r,h1,by simpa[e]using h2,by simpa[e]using h3⟩
  have e:=T.vars_args h
  refine lIn (fun p:Nat×Value×Mem=>p.1≤x.args.length∧μ.Le p.2.2∧qR p.2.2 l ((x.args.take p.1).flatMap T.vars) p.2.1)
   (fun(i,v,μ')=>⟨[(1,.val v),(15,.val (.slice base x.args.length cap)),(16,.val (.int .i64 x.args.length)),(17,.val (.int .i64 i))],[],1,μ',Mem.nil⟩) (fun p=>x.args.length-p.1)
   (0,v,μ) ⟨by simp,Mem.Le.refl μ,l,hv,by simp,by simp⟩ (fun(_,_,_)=>⟨rfl,rfl⟩) ⟨⟨rfl,rfl,rfl,rfl,trivial⟩,trivial,rfl,rfl⟩ ?_
  rintro⟨i,v,μ'⟩ ⟨hi,hle,r,h1,h2,h3⟩
  dsimp only at hi hle h1 h2 h3
  have hpre:((x.args.take i).flatMap T.vars).length≤x.vars.length:=by
   rw[e];exact dF _ _ _
  refine ifd (fun h=>?_) (fun h=>?_)
  ·have w_ := aSo (l := x.args) (i := i) (by omega)
   obtain⟨t,ht⟩:=w_
   have ht':(x.args.map T.tm)[i]? =some t.tm:=by simp[ht]
   have w_:=Tm.elem (hsl.mono hle) ht'
   obtain⟨ad,p,hel,hr⟩:=w_
   have hsucc:(x.args.take (i+1)).flatMap T.vars=(x.args.take i).flatMap T.vars++t.vars:=by
    rw[List.take_add_one,ht,Option.toList_some,List.flatMap_append];simp
   have hall:((x.args.take (i+1)).flatMap T.vars).length≤x.vars.length:=by
    rw[e];exact dF _ _ _
   rw[hsucc,List.length_append]at hall
   refine eIn hel ?_
   intro r2
   refine cPl (ih t (mAt ht) hr h1 (by omega)) fun v' μ'' hle2 hR=>?_
   obtain⟨q,g1,g2,g3⟩:=hR
   refine aB (by omega) (by omega) ⟨(i+1,v',μ''),⟨by dsimp only;omega,hle.trans hle2,q,g1,fun y=>?_,?_⟩,by dsimp only;omega,⟨⟨rfl,rfl,rfl,rfl,trivial⟩,trivial,rfl,rfl⟩⟩
   ·dsimp only
    rw[g2,h2,hsucc,List.mem_append]
    constructor
    ·rintro(h|h|h)<;>simp[h]
    ·rintro((h|h)|h)<;>simp[h]
   ·dsimp only
    rw[hsucc,List.length_append];omega
  ·have hi' : i = x.args.length := by omega
   subst hi'
   rw[List.take_length,←e]at h2 h3
   exact rPl ⟨r,h1,h2,h3⟩
end
end Go.Vx
namespace Go.Vx
open Go.Proofs Classical
section
variable {μ:Mem}
theorem eD(x:T){v:Value}(hv:RepV μ x.tm.d v)(hx:x.ok)(hw:x.tm.d.wd):aP Tryz.prog 141 [v] μ (.bool (decide (x.vars=[]))):=by
 have w_:=Tm.invV hv
 obtain⟨p,rfl⟩:=w_
 have:=T.vars_size x
 have:=hx.2
 refine Spec.forget (Spec.mk Tryz.func141 (by kernel_rfl) ?_)
 intro r
 refine cGv (dO x.tm hv hw) ?_
 refine ifd (fun _=>?_) (fun h=>absurd hx.tm h)
 refine cPl (jY x (l:=[]) hv (Rep.nilSl 1) (by simp;omega)) fun v' μ' hle hR=>?_
 obtain⟨r,h1,h2,h3⟩:=hR
 have w_:=Rep.sl h1
 obtain⟨b,c,rfl,_⟩:=w_
 refine rPl (isI ?_)
 rw[List.length_map]
 constructor
 ·intro hh
  have:r=[]:=List.eq_nil_of_length_eq_zero (by omega)
  subst this
  cases hx:x.vars with
  |nil=>rfl
  |cons a l=>
   have:=(h2 a).2 (.inl (by simp[hx]))
   simp at this
 ·intro hh
  rw[hh]at h3
  simp at h3
  rw[h3];rfl
end
end Go.Vx
namespace Go.Vx
open Go.Proofs Classical
section
variable {μ:Mem}
theorem qIt{bs:List B}{base:Option Addr}{cap:Nat}{n:Int}(hsl:Sl μ 5 base bs.length ((bs.map B.bd).map Bd.d)):
  Spec Tryz.prog 266 [.slice base bs.length cap,.int .i64 n] μ fun v μ'=>optV (fun y tv=>RepV μ y.tm.d tv) (sub bs n) v∧μ'=μ:=by
 have hn:=aH hsl.max
 refine Spec.mk Tryz.func266 (by kernel_rfl) ?_
 intro r
 refine lIn (fun i:Nat=>i≤bs.length∧sub bs n=sub (bs.drop i) n) (fun i=>⟨[(1,.val (.int .i64 n)),(4,.loc 0 r 0),(8,.val (.slice base bs.length cap)),(9,.val (.int .i64 bs.length)),(10,.val (.int .i64 i))],[(0,some (.cells r [.val (.int .i64 0),.val (.int .i64 0),.val (.string ⟨#[]⟩),.val (.slice none 0 0)] 75))],1,μ,Mem.nil⟩) (fun i=>bs.length-i)
  0 ⟨by omega,rfl⟩ (fun i=>⟨rfl,rfl⟩) ⟨⟨rfl,rfl,rfl,rfl,rfl,trivial⟩,⟨rfl,trivial⟩,rfl,rfl⟩ ?_
 rintro i ⟨hi,he⟩
 refine ifd (fun h=>?_) (fun h=>?_)
 ·have w_ := aSo (l := bs) (i := i) (by omega)
  obtain⟨b,hb⟩:=w_
  have hb':(bs.map B.bd)[i]? =some b.bd:=by simp[hb]
  have w_:=Bd.elem hsl hb'
  obtain⟨ad,p,hel,hr⟩:=w_
  have hto:=Bd.toV hr
  rw[bJ hb]at he
  refine eIn hel ?_
  intro r2
  refine ifd (fun h2=>?_) (fun h2=>?_)
  ·have h2 : b.var = n := h2
   have e2:sub bs n=some b.to:=by rw[he,sub,if_pos h2]
   rw[e2]
   exact rPl ⟨⟨_,rfl,hto⟩,rfl⟩
  ·have h2 : ¬ b.var = n := h2
   have e2:sub bs n=sub (bs.drop (i+1)) n:=by rw[he,sub,if_neg h2]
   exact aB (by omega) (by omega) ⟨i+1,⟨by omega,e2⟩,by omega,⟨⟨rfl,rfl,rfl,rfl,rfl,trivial⟩,⟨rfl,trivial⟩,rfl,rfl⟩⟩
 ·obtain rfl : i = bs.length := by omega
  rw[List.drop_length]at he
  rw[he]
  exact rPl ⟨rfl,rfl⟩
theorem qIu{bs:List B}{base:Option Addr}{cap:Nat}:∀(x:T) {μ:Mem} {v:Value},Sl μ 5 base bs.length ((bs.map B.bd).map Bd.d)→RepV μ x.tm.d v→
  Spec Tryz.prog 262 [.slice base bs.length cap,v] μ fun v μ'=>RepV μ' (x.subst (sub bs)).tm.d v:=by
 intro x
 induction x with
 |var n=>
  intro μ v hsl hv
  have w_:=Tm.invV hv
  obtain⟨p,rfl⟩:=w_
  refine Spec.mk Tryz.func262 (by kernel_rfl) ?_
  intro r1 r2
  refine ifd (fun _=>?_) (fun h=>absurd rfl h)
  refine cPl (qIt hsl) fun v' μ' hle hR=>?_
  obtain⟨hR,e2⟩:=hR
  obtain rfl:=e2.symm
  have hR:optV (fun y tv=>RepV μ y.tm.d tv) (sub bs n) v':=hR
  simp only[T.subst]
  cases hs:sub bs n with
  |some y=>
   rw[hs]at hR
   obtain⟨tv,rfl,htv⟩:=hR
   have w_:=Tm.invV htv
   obtain⟨q,rfl⟩:=w_
   intro r3
   refine iIn (fun _=>rPl htv) (fun h=>nomatch h)
  |none=>
   rw[hs]at hR
   obtain rfl:=hR
   intro r3
   refine iIn (fun h=>nomatch h) (fun _=>?_)
   refine ifd (fun h=>absurd h (by simp[T.tm,Tm.kind])) (fun _=>?_)
   exact rPl hv
 |pair a b iha ihb=>
  intro μ v hsl hv
  have w_:=Tm.inv hv
  obtain⟨base',cap',rfl,hsa⟩:=w_
  have w_:=T.parts hsa
  obtain⟨ad,ad',p,p',h1,h2,hra,hrb⟩:=w_
  refine Spec.mk Tryz.func262 (by kernel_rfl) ?_
  intro r1 r2
  refine ifd (fun h=>absurd h (by simp)) (fun _=>?_)
  refine ifd (fun _=>?_) (fun h=>absurd rfl h)
  refine eIn h1 ?_
  refine eIn h2 ?_
  refine cPl (iha hsl hra) fun v1 μ1 hle1 hR1=>?_
  refine cPl (ihb (hsl.mono hle1) (hrb.mono hle1)) fun v2 μ2 hle2 hR2=>?_
  refine cPl (pO (hR1.mono hle2) hR2) fun v3 μ3 hle3 hR3=>?_
  have w_:=Tm.invV hR3
  obtain⟨q,rfl⟩:=w_
  exact rPl hR3
 |_=>
  intro μ v hsl hv
  have w_:=Tm.invV hv
  obtain⟨p,rfl⟩:=w_
  refine Spec.mk Tryz.func262 (by kernel_rfl) ?_
  intro r1 r2
  refine ifd (fun h=>absurd h (by simp[T.tm,Tm.kind])) (fun _=>?_)
  refine ifd (fun h=>absurd h (by simp[T.tm,Tm.kind])) (fun _=>?_)
  exact rPl hv
end
end Go.Vx
namespace Go.Vx
open Go.Proofs Classical
theorem jW:∀(x:T) {μ:Mem} {v:Value},RepV μ x.tm.d v→Spec Tryz.prog 207 [v] μ fun v μ'=>RepV μ' x.tm.d v:=
 T.ind fun x ih μ v hv=>by
  have w_:=T.inv hv
  obtain⟨base,cap,rfl,hsl⟩:=w_
  have hn:=T.args_le x
  refine Spec.mk Tryz.func207 (by kernel_rfl) ?_
  intro r1 r2 r3
  refine cX (fun p:Nat×Option Nat×Nat×List Value×Mem=>p.1≤x.args.length∧μ.Le p.2.2.2.2∧Rows p.2.2.2.2 4 (((x.args.take p.1).map T.tm).map Tm.d) p.2.2.2.1)
   (fun (i, b, c, ys, μ') => ⟨[(2, .loc 1 r2 0), (3, .loc 2 r3 0), (14, .val (.slice base x.args.length cap)), (15, .val (.int .i64 x.args.length)), (16, .val (.int .i64 i))],
    [(1,some (.cells r2 [.val (.int .i64 0),.val (.int .i64 0),.val (.string ⟨#[]⟩),.val (.slice none 0 0)] 75)),(2,some (.cells r3 [.val (.int .i64 x.tm.kind),.val (.int .i64 x.tm.num),.val (.string x.tm.name),.row 3 b ys.length c] 75)),(3,some (.row b c 75 4 ys))],4,μ',Mem.nil⟩) (fun p=>x.args.length-p.1)
   (0,none,0,[],μ) ⟨by simp,Mem.Le.refl μ,.nil⟩ (fun(_,_,_,_,_)=>⟨rfl,rfl⟩) ⟨⟨⟨_,rfl,.inl rfl⟩,⟨_,rfl,.inl rfl⟩,⟨_,rfl,.inl rfl⟩,⟨_,rfl,.inl rfl⟩,⟨_,rfl,.inl rfl⟩,trivial⟩,⟨.inl rfl,.inr (.inr ⟨_,_,_,_,rfl,rfl,.inl rfl,.inl rfl,.inl rfl,.inr ⟨3,rfl,rfl,Nat.le_refl _⟩,trivial⟩),.inr (.inl ⟨_,_,rfl,Nat.le_refl _⟩),trivial⟩,rfl,rfl⟩ ?_
  rintro⟨i,b,c,ys,μ'⟩ ⟨hi,hle,hrows⟩
  dsimp only at hi hle hrows
  have hlen:=hrows.len
  simp only[List.length_map,List.length_take]at hlen
  refine ifd (fun h=>?_) (fun h=>?_)
  ·have w_ := aSo (l := x.args) (i := i) (by omega)
   obtain⟨t,ht⟩:=w_
   have ht':(x.args.map T.tm)[i]? =some t.tm:=by simp[ht]
   have w_:=Tm.elem (hsl.mono hle) ht'
   obtain⟨ad,p,hel,hr⟩:=w_
   refine eIn hel ?_
   intro r4
   refine cPl (ih t (mAt ht) hr) fun v' μ'' hle2 hR=>?_
   have w_:=Tm.invV hR
   obtain⟨q,rfl⟩:=w_
   intro r5
   refine gIn ?_ ?_ fun b' c' _=>?_
   ·show(ys.length+1)*56≤_;omega
   ·show ys.length+1≤9223372036854775807;omega
   have hsucc:((x.args.take (i+1)).map T.tm).map Tm.d=((x.args.take i).map T.tm).map Tm.d++[t.tm.d]:=by
    rw[List.take_add_one,ht,Option.toList_some];simp
   exact aB (by omega) (by omega) ⟨(i+1,b',c',_,μ''),⟨by dsimp only;omega,hle.trans hle2,by rw[hsucc];exact(hrows.mono hle2).append (Rows.one hR (Tm.d_n _))⟩,by dsimp only;omega,⟨⟨rfl,rfl,rfl,rfl,rfl,trivial⟩,⟨rfl,rfl,rfl,trivial⟩,rfl,rfl⟩⟩
  ·obtain rfl : i = x.args.length := by omega
   rw[List.take_length]at hrows
   refine rFz [3] fun μ2 hle2 hno hrow=> .inl ?_
   rw[T.d_eq]
   exact⟨_,rfl,RepS.int (RepS.int (RepS.str (RepS.last (Rows.sl hrow (hrows.mono hle2) (Nat.le_trans (m:=10) (by omega) (by decide))))))⟩
end Go.Vx
namespace Go.Vx
open Go.Proofs Classical
section
variable {μ:Mem}
def dZ(H:Mem)(r:Nat)(b:Bool):Mem:=H.set r (.cells #[.bool b] 4 (0,0))
end
end Go.Vx
namespace Go.Vx
open Go.Proofs Classical
section
variable {P:Program} {f:FuncId} {args:List Value} {μ h H:Mem}
theorem Fresh.unlend{μ1:Mem}{d:D}{v:Value}(k:Fresh (μ.join H) μ1 d v)(_ha:Apart μ H):Fresh μ (μ1.sub H) d v:=by
 obtain⟨g,a,b,c⟩:=k
 have c1:∀x,g x≠none→μ x=none∧H x=none:=fun x hx=>by
  have h1:=c x hx
  rw[Mem.join_get]at h1
  cases h2:μ x with
  |none=>rw[h2]at h1;exact⟨rfl,h1⟩
  |some o=>rw[h2]at h1;cases h1
 refine⟨g,a,fun x o hx=>?_,fun x hx=>(c1 x hx).1⟩
 rw[Mem.sub_of (c1 x (by simp[hx])).2]
 exact b x o hx
variable {dr:Bool} {s:St} {K:Value→St→Prop}
theorem qCw{d:D}(hap:Apart s.mem s.own)(h:Spec P f args (s.mem.join s.own) fun v μ'=>Fresh (s.mem.join s.own) μ' d v)
  (k:∀v μ',s.mem.Le μ'→Apart μ' s.own→Fresh s.mem μ' d v→nQ s μ' s.own fun s=>K v s):callVC dr P f args s K:=
 cOw (SpecH.lend hap h) fun v μ' H' hle ha' ⟨h1,μ1,h2,_,h4⟩=>by
  subst h1 h4
  exact k v _ hle ha' (h2.unlend hap)
end
section
variable {μ:Mem}
end
end Go.Vx
namespace Go.Vx
open Go.Proofs Classical
section
variable {μ:Mem}
theorem dG{xs:List T}{base:Option Addr}{cap:Nat}(hsl:Sl μ 4 base xs.length ((xs.map T.tm).map Tm.d))(hn:xs.length≤10000000):
  Spec Tryz.prog 144 [.slice base xs.length cap] μ fun v μ'=>RepV μ' (.sl 4 ((xs.map T.tm).map Tm.d)) v:=by
 refine Spec.mk Tryz.func144 (by kernel_rfl) ?_
 intro r6
 refine lIn (fun p:Nat×Option Nat×Nat×List Value×Mem=>p.1≤xs.length∧μ.Le p.2.2.2.2∧Rows p.2.2.2.2 4 (((xs.take p.1).map T.tm).map Tm.d) p.2.2.2.1)
  (fun(i,b,c,ys,μ')=>⟨[(3,.row 0 b ys.length c),(7,.val (.slice base xs.length cap)),(8,.val (.int .i64 xs.length)),(9,.val (.int .i64 i))],[(0,some (.row b c 75 4 ys))],1,μ',Mem.nil⟩) (fun p=>xs.length-p.1)
  (0,some r6,0,[],μ) ⟨by simp,Mem.Le.refl _,.nil⟩ (fun(_,_,_,_,_)=>⟨rfl,rfl⟩) ⟨⟨rfl,rfl,rfl,rfl,trivial⟩,⟨rfl,trivial⟩,rfl,rfl⟩ ?_
 rintro⟨i,b,c,ys,μ'⟩ ⟨hi,hle,hrows⟩
 dsimp only at hi hle hrows
 have hlen:=hrows.len
 simp only[List.length_map,List.length_take]at hlen
 refine ifd (fun h=>?_) (fun h=>?_)
 ·have w_ := aSo (l := xs) (i := i) (by omega)
  obtain⟨x,hx'⟩:=w_
  have w_:=Tm.elem (i:=i) (t:=x.tm) (hsl.mono hle) (by simp[hx'])
  obtain⟨ad,p,hel,hto⟩:=w_
  refine eIn hel ?_
  intro r
  refine cPl (jW _ hto) fun v4 μ4 hle4 hR4=>?_
  have w_:=Tm.invV hR4
  obtain⟨q,rfl⟩:=w_
  intro r5
  refine gIn ?_ ?_ fun b' c' _=>?_
  ·show(ys.length+1)*56≤_;omega
  ·exact Nat.le_trans (m:=100000000) (show ys.length+1≤_ by omega) (by decide)
  refine aB (by omega) (by omega) ⟨(i+1,b',c',_,μ4),⟨by dsimp only;omega,hle.trans hle4,?_⟩,by dsimp only;omega,⟨⟨rfl,rfl,rfl,rfl,trivial⟩,⟨rfl,trivial⟩,rfl,rfl⟩⟩
  dsimp only
  rw[List.take_add_one,hx',Option.toList_some]
  simp only[List.map_append,List.map_cons,List.map_nil]
  exact(hrows.mono hle4).append (Rows.one hR4 (Tm.d_n _))
 ·obtain rfl : i = xs.length := by omega
  rw[List.take_length]at hrows
  refine rFz [0] fun μ' hle' hno hrow=> .inl ?_
  exact Rows.sl hrow (hrows.mono hle') (Nat.le_trans (m:=100000000) (by omega) (by decide))
theorem qFr:∀(g:Gl) {μ:Mem} {v:Value},RepV μ g.d v→g.Sh→Spec Tryz.prog 98 [v] μ fun v μ'=>RepV μ' g.d v:=
 Gl.ind fun g ih μ v hv hS=>by
  have w_:=Gl.inv hv
  obtain⟨p,rfl,hts,hgs⟩:=w_
  have w_:=iH hS.top.tm
  obtain⟨xs,hxs,hok⟩:=w_
  have hg8:=hS.top.gl
  have hx4:xs.length≤4:=by
   have T:=hS.top
   have e9:=T.ln9;have e2:=T.ln2;have e1:=T.ln1;have e0:=T.ln0;have k0:=T.k0;have k1:=T.k1
   have:g.terms.length=xs.length:=by rw[hxs,List.length_map]
   omega
  rw[hxs,List.length_map]at hts ⊢
  refine Spec.mk Tryz.func98 (by kernel_rfl) ?_
  intro r1 r2
  refine cPl (dG hts (by omega)) fun v1 μ1 hle1 hR1=>?_
  have w_:=Rep.sl hR1
  obtain⟨b1,c1,rfl,hs1⟩:=w_
  intro r3
  have hgs1:=hgs.mono hle1
  refine cX (fun p:Nat×Option Nat×Nat×List Value×Mem=>p.1≤g.goals.length∧μ1.Le p.2.2.2.2∧Rows p.2.2.2.2 4 ((g.goals.take p.1).map Gl.d) p.2.2.2.1)
   (fun (i, b, c, ys, μ') => ⟨[(2, .loc 1 r2 0), (3, .loc 2 r3 0), (15, .val (.slice p.2.1 g.goals.length p.2.2)), (16, .val (.int .i64 g.goals.length)), (17, .val (.int .i64 i))],
    [(1,some (.cells r2 [.val (.int .i64 0),.val (.string ⟨#[]⟩),.val (.slice none 0 0),.val (.slice none 0 0)] 61)),(2,some (.cells r3 [.val (.int .i64 g.kind),.val (.string g.name),.val (.slice b1 ((xs.map T.tm).map Tm.d).length c1),.row 3 b ys.length c] 61)),(3,some (.row b c 61 4 ys))],4,μ',Mem.nil⟩) (fun p=>g.goals.length-p.1)
   (0,none,0,[],μ1) ⟨by simp,Mem.Le.refl _,.nil⟩ (fun(_,_,_,_,_)=>⟨rfl,rfl⟩) ⟨⟨⟨_,rfl,.inl rfl⟩,⟨_,rfl,.inl rfl⟩,⟨_,rfl,.inl rfl⟩,⟨_,rfl,.inl rfl⟩,⟨_,rfl,.inl rfl⟩,trivial⟩,⟨.inl rfl,.inr (.inr ⟨_,_,_,_,rfl,rfl,.inl rfl,.inl rfl,.inl rfl,.inr ⟨3,rfl,rfl,Nat.le_refl _⟩,trivial⟩),.inr (.inl ⟨_,_,rfl,Nat.le_refl _⟩),trivial⟩,rfl,rfl⟩ ?_
  rintro⟨i,b,c,ys,μ'⟩ ⟨hi,hle,hrows⟩
  dsimp only at hi hle hrows
  have hlen:=hrows.len
  simp only[List.length_map,List.length_take]at hlen
  refine ifd (fun h=>?_) (fun h=>?_)
  ·have w_ := aSo (l := g.goals) (i := i) (by omega)
   obtain⟨t,ht⟩:=w_
   have w_:=Gl.elem (hgs1.mono hle) ht
   obtain⟨ad,p3,hel,hr⟩:=w_
   refine eIn hel ?_
   intro r4
   refine cPl (ih t (mAt ht) hr (hS.sub t (mAt ht))) fun v' μ'' hle2 hR=>?_
   have w_:=Gl.invV hR
   obtain⟨q,rfl⟩:=w_
   intro r5
   refine gIn ?_ ?_ fun b' c' _=>?_
   ·show(ys.length+1)*72≤_;omega
   ·exact Nat.le_trans (m:=100000000) (show ys.length+1≤_ by omega) (by decide)
   have hsucc:(g.goals.take (i+1)).map Gl.d=(g.goals.take i).map Gl.d++[t.d]:=by
    rw[List.take_add_one,ht,Option.toList_some];simp
   exact aB (by omega) (by omega) ⟨(i+1,b',c',_,μ''),⟨by dsimp only;omega,hle.trans hle2,by rw[hsucc];exact(hrows.mono hle2).append (Rows.one hR (Gl.d_n _))⟩,by dsimp only;omega,⟨⟨rfl,rfl,rfl,rfl,rfl,trivial⟩,⟨rfl,rfl,rfl,trivial⟩,rfl,rfl⟩⟩
  ·obtain rfl : i = g.goals.length := by omega
   rw[List.take_length]at hrows
   refine rFz [3] fun μ2 hle2 hno hrow=> .inl ?_
   rw[Gl.d_eq,hxs]
   exact⟨_,rfl,RepS.int (RepS.str (RepS.cons1 ((hR1.mono hle).mono hle2) (RepS.last (Rows.sl hrow (hrows.mono hle2) (Nat.le_trans (m:=100000000) (by omega) (by decide))))))⟩
end
end Go.Vx
namespace Go.Vx
open Go.Proofs Classical
theorem Gl.puts_map(f:Int→Option T):∀l:List Gl,Gl.puts f l=l.map (Gl.put f)
 |[]=>rfl
 |t::r=>by simp[Gl.puts,Gl.puts_map f r]
theorem Gl.put_kind(f:Int→Option T)(g:Gl):(g.put f).kind=g.kind:=by cases g;rfl
theorem Gl.put_name(f:Int→Option T)(g:Gl):(g.put f).name=g.name:=by cases g;rfl
theorem Gl.put_terms(f:Int→Option T)(g:Gl):(g.put f).terms=g.terms.map fun t=>(t.toT.subst f).tm:=by cases g;rfl
theorem Gl.put_goals(f:Int→Option T)(g:Gl):(g.put f).goals=g.goals.map (Gl.put f):=by cases g;rw[Gl.put];exact Gl.puts_map f _
section
variable {μ:Mem}
theorem qIv{bs:List B}{b0:Option Addr}{c0:Nat}:∀(g:Gl) {μ:Mem} {v:Value},RepV μ g.d v→g.Sh→Sl μ 5 b0 bs.length ((bs.map B.bd).map Bd.d)→Spec Tryz.prog 250 [v,.slice b0 bs.length c0] μ fun v μ'=>RepV μ' (g.put (sub bs)).d v:=
 Gl.ind fun g ih μ v hv hS hsl=>by
  have w_:=Gl.inv hv
  obtain⟨p,rfl,hts,hgs⟩:=w_
  have w_:=iH hS.top.tm
  obtain⟨xs,hxs,hok⟩:=w_
  have hg8:=hS.top.gl
  have hx4:xs.length≤4:=by
   have T:=hS.top
   have e9:=T.ln9;have e2:=T.ln2;have e1:=T.ln1;have e0:=T.ln0;have k0:=T.k0;have k1:=T.k1
   have:g.terms.length=xs.length:=by rw[hxs,List.length_map]
   omega
  have hput:(g.put (sub bs)).d= .st [.i g.kind,.s g.name,.sl 4 (((xs.map (T.subst (sub bs))).map T.tm).map Tm.d),.sl 4 ((g.goals.map (Gl.put (sub bs))).map Gl.d)]:=by
   rw[Gl.d_eq,Gl.put_kind,Gl.put_name,Gl.put_goals,Gl.put_terms,hxs]
   simp[List.map_map,Function.comp_def,T.toT_tm]
  rw[hxs,List.length_map]at hts ⊢
  refine Spec.mk Tryz.func250 (by kernel_rfl) ?_
  intro r1 r2 r3
  refine cX (fun p:Nat×Option Nat×Nat×List Value×Mem=>p.1≤xs.length∧μ.Le p.2.2.2.2∧Rows p.2.2.2.2 4 ((((xs.take p.1).map (T.subst (sub bs))).map T.tm).map Tm.d) p.2.2.2.1)
   (fun (i, b, c, ys, μ') => ⟨[(1, .val (.slice b0 bs.length c0)), (2, .loc 0 r1 0), (4, .loc 1 r2 0), (5, .loc 2 r3 0), (16, .val (.slice p.1.1 xs.length p.1.2)), (17, .val (.int .i64 xs.length)), (18, .val (.int .i64 i))],
    [(0,some (.cells r1 [.val (.int .i64 g.kind),.val (.string g.name),.val (.slice p.1.1 xs.length p.1.2),.val (.slice p.2.1 g.goals.length p.2.2)] 61)),(1,some (.cells r2 [.val (.int .i64 0),.val (.string ⟨#[]⟩),.val (.slice none 0 0),.val (.slice none 0 0)] 61)),(2,some (.cells r3 [.val (.int .i64 g.kind),.val (.string g.name),.row 3 b ys.length c,.val (.slice none 0 0)] 61)),(3,some (.row b c 75 4 ys))],4,μ',Mem.nil⟩) (fun p=>xs.length-p.1)
   (0,none,0,[],μ) ⟨by simp,Mem.Le.refl _,.nil⟩ (fun(_,_,_,_,_)=>⟨rfl,rfl⟩) ⟨⟨⟨_,rfl,.inl rfl⟩,⟨_,rfl,.inl rfl⟩,⟨_,rfl,.inl rfl⟩,⟨_,rfl,.inl rfl⟩,⟨_,rfl,.inl rfl⟩,⟨_,rfl,.inl rfl⟩,⟨_,rfl,.inl rfl⟩,trivial⟩,⟨.inl rfl,.inl rfl,.inr (.inr ⟨_,_,_,_,rfl,rfl,.inl rfl,.inl rfl,.inr ⟨3,rfl,rfl,Nat.le_refl _⟩,.inl rfl,trivial⟩),.inr (.inl ⟨_,_,rfl,Nat.le_refl _⟩),trivial⟩,rfl,rfl⟩ ?_
  rintro⟨i,b,c,ys,μ'⟩ ⟨hi,hle,hrows⟩
  dsimp only at hi hle hrows
  have hlen:=hrows.len
  simp only[List.length_map,List.length_take]at hlen
  refine ifd (fun h=>?_) (fun h=>?_)
  ·have w_ := aSo (l := xs) (i := i) (by omega)
   obtain⟨t,ht⟩:=w_
   have ht':(xs.map T.tm)[i]? =some t.tm:=by simp[ht]
   have w_:=Tm.elem (hts.mono hle) ht'
   obtain⟨ad,p3,hel,hr⟩:=w_
   refine eIn hel ?_
   intro r4
   refine cPl (qIu t (hsl.mono hle) hr) fun v' μ'' hle2 hR=>?_
   have w_:=Tm.invV hR
   obtain⟨q,rfl⟩:=w_
   intro r5
   refine gIn ?_ ?_ fun b' c' _=>?_
   ·show(ys.length+1)*56≤_;omega
   ·exact Nat.le_trans (m:=100000000) (show ys.length+1≤_ by omega) (by decide)
   refine aB (by omega) (by omega) ⟨(i+1,b',c',_,μ''),⟨by dsimp only;omega,hle.trans hle2,?_⟩,by dsimp only;omega,⟨⟨rfl,rfl,rfl,rfl,rfl,rfl,rfl,trivial⟩,⟨rfl,rfl,rfl,rfl,trivial⟩,rfl,rfl⟩⟩
   dsimp only
   rw[List.take_add_one,ht,Option.toList_some]
   simp only[List.map_append,List.map_cons,List.map_nil]
   exact(hrows.mono hle2).append (Rows.one hR (Tm.d_n _))
  ·obtain rfl : i = xs.length := by omega
   rw[List.take_length]at hrows
   have hgs1:=hgs.mono hle
   refine cX (fun p:Nat×Option Nat×Nat×List Value×Mem=>p.1≤g.goals.length∧μ'.Le p.2.2.2.2∧Rows p.2.2.2.2 4 (((g.goals.take p.1).map (Gl.put (sub bs))).map Gl.d) p.2.2.2.1)
    (fun (i, b2, c2, zs, μ'') => ⟨[(1, .val (.slice b0 bs.length c0)), (4, .loc 1 r2 0), (5, .loc 2 r3 0), (32, .val (.slice p.2.1 g.goals.length p.2.2)), (33, .val (.int .i64 g.goals.length)), (34, .val (.int .i64 i))],
     [(1,some (.cells r2 [.val (.int .i64 0),.val (.string ⟨#[]⟩),.val (.slice none 0 0),.val (.slice none 0 0)] 61)),(2,some (.cells r3 [.val (.int .i64 g.kind),.val (.string g.name),.row 3 b ys.length c,.row 4 b2 zs.length c2] 61)),(3,some (.row b c 75 4 ys)),(4,some (.row b2 c2 61 4 zs))],5,μ'',Mem.nil⟩) (fun p=>g.goals.length-p.1)
    (0,none,0,[],μ') ⟨by simp,Mem.Le.refl _,.nil⟩ (fun(_,_,_,_,_)=>⟨rfl,rfl⟩) ⟨⟨⟨_,rfl,.inl rfl⟩,⟨_,rfl,.inl rfl⟩,⟨_,rfl,.inl rfl⟩,⟨_,rfl,.inl rfl⟩,⟨_,rfl,.inl rfl⟩,⟨_,rfl,.inl rfl⟩,trivial⟩,⟨.inl rfl,.inr (.inr ⟨_,_,_,_,rfl,rfl,.inl rfl,.inl rfl,.inl rfl,.inr ⟨4,rfl,rfl,Nat.le_refl _⟩,trivial⟩),.inl rfl,.inr (.inl ⟨_,_,rfl,Nat.le_refl _⟩),trivial⟩,rfl,rfl⟩ ?_
   rintro⟨i,b2,c2,zs,μ''⟩ ⟨hi,hle3,hrows2⟩
   dsimp only at hi hle3 hrows2
   have hlen2:=hrows2.len
   simp only[List.length_map,List.length_take]at hlen2
   refine ifd (fun h=>?_) (fun h=>?_)
   ·have w_ := aSo (l := g.goals) (i := i) (by omega)
    obtain⟨t,ht⟩:=w_
    have w_:=Gl.elem (hgs1.mono hle3) ht
    obtain⟨ad,p3,hel,hr⟩:=w_
    refine eIn hel ?_
    intro r4
    refine cPl (ih t (mAt ht) hr (hS.sub t (mAt ht)) ((hsl.mono hle).mono hle3)) fun v' μ3 hle4 hR=>?_
    have w_:=Gl.invV hR
    obtain⟨q,rfl⟩:=w_
    intro r5
    refine gIn ?_ ?_ fun b' c' _=>?_
    ·show(zs.length+1)*72≤_;omega
    ·exact Nat.le_trans (m:=100000000) (show zs.length+1≤_ by omega) (by decide)
    refine aB (by omega) (by omega) ⟨(i+1,b',c',_,μ3),⟨by dsimp only;omega,hle3.trans hle4,?_⟩,by dsimp only;omega,⟨⟨rfl,rfl,rfl,rfl,rfl,rfl,trivial⟩,⟨rfl,rfl,rfl,rfl,trivial⟩,rfl,rfl⟩⟩
    dsimp only
    rw[List.take_add_one,ht,Option.toList_some]
    simp only[List.map_append,List.map_cons,List.map_nil]
    exact(hrows2.mono hle4).append (Rows.one hR (Gl.d_n _))
   ·obtain rfl : i = g.goals.length := by omega
    rw[List.take_length]at hrows2
    refine rFz [3,4] fun μ2 hle5 hno hrow=>fun μ3 hle6 hno2 hrow2=> .inl ?_
    rw[hput]
    exact⟨_,rfl,RepS.int (RepS.str (RepS.cons1 ((Rows.sl hrow (((hrows.mono hle3)).mono hle5) (Nat.le_trans (m:=100000000) (by omega) (by decide))).mono hle6) (RepS.last (Rows.sl hrow2 ((hrows2.mono hle5).mono hle6) (Nat.le_trans (m:=100000000) (by omega) (by decide))))))⟩
end
end Go.Vx
namespace Go.Vx
open Go.Proofs Classical
section
variable {μ:Mem}
theorem vZ(s:ByteArray):∀(x:T) {v:Value},RepV μ x.tm.d v→aP Tryz.prog 263 [v,.string s] μ (.bool (decide (x.hasSym s))):=
 T.ind fun x ih v hv=>by
  have w_:=T.inv hv
  obtain⟨base,cap,rfl,hsl⟩:=w_
  have hn:=aH hsl.max
  refine Spec.mk Tryz.func263 (by kernel_rfl) ?_
  intro r
  refine lIn (fun i:Nat=>i≤x.args.length∧∀j y,j<i→x.args[j]? =some y→¬y.hasSym s)
   (fun i=>⟨[(1,.val (.string s)),(2,.loc 0 r 0),(8,.val (.slice base x.args.length cap)),(9,.val (.int .i64 x.args.length)),(10,.val (.int .i64 i))],[(0,some (.cells r [.val (.int .i64 x.tm.kind),.val (.int .i64 x.tm.num),.val (.string x.tm.name),.val (.slice base x.args.length cap)] 75))],1,μ,Mem.nil⟩) (fun i=>x.args.length-i)
   0 ⟨by omega,fun j y hj=>by omega⟩ (fun _=>⟨rfl,rfl⟩) ⟨⟨rfl,rfl,rfl,rfl,rfl,trivial⟩,⟨rfl,trivial⟩,rfl,rfl⟩ ?_
  rintro i ⟨hi,hno⟩
  refine ifd (fun h=>?_) (fun h=>?_)
  ·have w_ := aSo (l := x.args) (i := i) (by omega)
   obtain⟨t,ht⟩:=w_
   have w_:=T.arg hsl ht
   obtain⟨ad,p,hel,hto⟩:=w_
   refine eIn hel ?_
   intro r2
   refine cGv (ih t (mAt ht) hto) ?_
   refine ifd (fun hy=>rGv (isT ((T.hasSym_args s x).2 (.inr ⟨t,mAt ht,hy⟩))) rfl) (fun hy=>?_)
   refine aB (by omega) (by omega) ⟨i+1,⟨by omega,fun j y hj hy2=>?_⟩,by omega,⟨⟨rfl,rfl,rfl,rfl,rfl,trivial⟩,⟨rfl,trivial⟩,rfl,rfl⟩⟩
   rcases Nat.lt_or_ge j i with h6|h6
   ·exact hno j y h6 hy2
   ·obtain rfl : j = i := by omega
    rw[ht]at hy2;cases hy2;exact hy
  ·obtain rfl : i = x.args.length := by omega
   have hn2:¬∃y∈x.args,y.hasSym s:=fun⟨y,hy,h2⟩=>by
    have w_:=List.mem_iff_getElem?.1 hy
    obtain⟨j,hj⟩:=w_
    exact hno j y (List.getElem?_eq_some_iff.1 hj).1 hj h2
   refine ifd (fun h2=>?_) (fun h2=>rGv (isF fun k=>((T.hasSym_args s x).1 k).elim (fun k=>h2 k.1) hn2) rfl)
   refine rGv ?_ rfl
   congr 1
   rw[Bool.eq_iff_iff,decide_eq_true_eq,decide_eq_true_eq]
   exact⟨fun k=>(T.hasSym_args s x).2 (.inl ⟨h2,k⟩),fun k=>((T.hasSym_args s x).1 k).elim (fun k=>k.2) fun k=>absurd k hn2⟩
end
end Go.Vx
namespace Go.Vx
open Go.Proofs Classical
section
variable {α:Type} {c:α→α→Int}
theorem Asc3.take_lt(h:Ord3 c){l:List α}(hl:Asc3 c l){k:Nat}{y e:α}(hy:l[k]? =some y)(hc:c y e<0):∀x∈l.take (k+1),c x e<0:=by
 rw[List.take_add_one,hy,Option.toList_some]
 intro x hx
 rcases List.mem_append.1 hx with hx|hx
 ·rw [Asc3, ← List.take_append_drop k l, List.pairwise_append] at hl
  exact h.trans _ _ _ (hl.2.2 x hx y (by rw[bJ hy];simp)) hc
 ·rw[List.mem_singleton.1 hx];exact hc
theorem Asc3.drop_gt(h:Ord3 c){l:List α}(hl:Asc3 c l){k:Nat}{y e:α}(hy:l[k]? =some y)(hc:c e y<0):∀x∈l.drop k,c e x<0:=by
 rw[bJ hy]
 intro x hx
 rcases List.mem_cons.1 hx with rfl|hx
 ·exact hc
 ·rw [Asc3, ← List.take_append_drop k l, List.pairwise_append, bJ hy, List.pairwise_cons] at hl
  exact h.trans _ _ _ hc (hl.2.1.1 x hx)
theorem qHr(h:Ord3 c){l m:List α}(hm:Asc3 c m)(e:∀x,x∈m↔x∈l):m=qHq h l:=hm.uniq h (rX h l) fun x=>by rw[e,oI]
end
end Go.Vx
namespace Go.Vx
open Go.Proofs Classical
section
variable {μ:Mem}
theorem gP(n:Int):aP Tryz.prog 217 [.int .i64 n] μ (.bool (decide (n=10))):=by
 refine Spec.mk Tryz.func217 (by kernel_rfl) ?_
 exact rGv rfl rfl
theorem iQ{H:Mem}{r3:Nat}(r:Nat)(b:Bool){g:Gl}{v:Value}(hv:RepV μ g.d v)(hne:r3≠r)(h3:H r3=some (.cells #[.func (.func 217) #[] #[]] 161 (0,0))):
  SpecH Tryz.prog 255 [v,.pointer (some ⟨r,0,none⟩),.pointer (some ⟨r3,0,none⟩)] μ (dZ H r b) fun r' μ' h'=>r'= .tuple #[]∧μ'=μ∧h'=dZ H r (b||decide (g.kind=10)):=by
 have w_:=Gl.inv hv
 obtain⟨p,rfl,-,-⟩:=w_
 refine SpecH.mk [] Tryz.func255 (by kernel_rfl) ?_
 intro r0
 refine oIn [.bool b] rfl (dS (set_self _ _ _)) ?_
 refine iIn (fun hb=>?_) (fun hb=>?_)
 ·refine sIn (h := dZ H r b) (a := ⟨r, 0, none⟩) [.bool b] 4 (set_self _ _ _) rfl (Nat.le_refl _) ?_
  exact rPl ⟨rfl,rfl,by rw[hb];exact Mem.set_set _ _ _ _⟩
 ·refine oIn [.func (.func 217) #[] #[]] rfl (dS ((Mem.set_ne hne).trans h3)) ?_
  refine cGv (gP _) ?_
  refine sIn (h:=dZ H r b) (a:=⟨r,0,none⟩) [.bool b] 4 (set_self _ _ _) rfl (Nat.le_refl _) ?_
  exact rPl ⟨rfl,rfl,by rw[hb];exact Mem.set_set _ _ _ _⟩
theorem nR:∀(l:List Gl) (b:Bool),l.foldl (fun b g=>b||decide (g.kind=10)) b=(b|| !decide (∀x∈l,x.kind≠10))
 |[],b=>by simp
 |a::l,b=>by
  rw[List.foldl_cons,nR l]
  by_cases h:a.kind=10<;>cases b<;>simp[h]
theorem jT{g:Gl}{v:Value}(hv:RepV μ g.d v):Spec Tryz.prog 216 [v,.func (.func 217) #[] #[]] μ fun r μ'=>r= .bool (!decide g.Pos)∧μ'=μ:=by
 have w_:=Gl.inv hv
 obtain⟨p,rfl,-,-⟩:=w_
 refine Spec.mkO [3,5] Tryz.func216 (by kernel_rfl) ?_
 intro r1 r3 hm3 ho3 r5 hm5 ho5
 have hne:r3≠r5:=fun e=>by
  subst e
  have h:Mem.set Mem.nil r3 _ r3=none:=ho5
  rw[Mem.set_at]at h;cases h
 refine sIn [.bool false] 4 (Mem.set_at _ _ _) rfl (Nat.le_refl _) ?_
 refine cOw (R:=fun r μ' h'=>r= .tuple #[]∧μ'=μ∧h'=dZ (Mem.nil.set r3 (.cells #[.func (.func 217) #[] #[]] 161 (0,0))) r5 (g.all.foldl (fun b g=>b||decide (g.kind=10)) false)) ?_ fun v μ' h' hle hap hR=>?_
 ·have:=jP (μ:=μ) (fun b h=>h=dZ (Mem.nil.set r3 (.cells #[.func (.func 217) #[] #[]] 161 (0,0))) r5 b) (fun b g=>b||decide (g.kind=10)) (fun _=>True) (k:=255) (caps:=[.pointer (some ⟨r5,0,none⟩),.pointer (some ⟨r3,0,none⟩)])
   (fun s h x v _ hx hj=>by subst hj;exact iQ r5 s hx hne (Mem.set_at _ _ _)) g false _ hv (fun _ _=>trivial) rfl
  have e:∀X:Mem,((X.set r5 (.cells #[.bool false] 4 (0,0))).set r5 (.cells #[.bool false] 4 (0,0)))=dZ X r5 false:=fun X=>Mem.set_set _ _ _ _
  rw[←e]at this
  exact this
 obtain⟨rfl,e4,rfl⟩:=hR
 obtain rfl:=e4.symm
 rw[nR,Bool.false_or]
 refine oIn [.bool (!decide (∀x∈g.all,x.kind≠10))] rfl (dS (set_self _ _ _)) ?_
 exact rPl ⟨congrArg (fun b=>Value.bool (!b)) (decide_eq_decide.2 Iff.rfl),rfl⟩
theorem iS{g:Gl}{v:Value}(hv:RepV μ g.d v):Spec Tryz.prog 155 [v] μ fun r μ'=>r= .bool (!decide g.Pos)∧μ'=μ:=by
 have hv0:=hv
 have w_:=Gl.inv hv
 obtain⟨p,rfl,-,-⟩:=w_
 refine Spec.mk Tryz.func155 (by kernel_rfl) ?_
 intro r1
 refine cPl (jT hv0) fun v1 μ1 hle1 hR=>?_
 obtain⟨rfl,e⟩:=hR
 obtain rfl:=e.symm
 exact rPl ⟨rfl,rfl⟩
theorem iU{p:Pg}{v:Value}(hp:RepV μ p.d v):Spec Tryz.prog 84 [v] μ fun r μ'=>r= .bool (decide (∀r∈p.rels,r.body.Pos))∧μ'=μ:=by
 have w_:=Pg.inv hp
 obtain⟨q,rfl,hrl⟩:=w_
 have hn:=aH hrl.max
 refine Spec.mk Tryz.func84 (by kernel_rfl) ?_
 intro r1
 refine lIn (fun i:Nat=>i≤p.rels.length∧∀(j:Nat) x,j<i→p.rels[j]? =some x→x.body.Pos)
  (fun i=>⟨[(6,.val (.slice q.1 p.rels.length q.2)),(7,.val (.int .i64 p.rels.length)),(8,.val (.int .i64 i))],[],1,μ,Mem.nil⟩) (fun i=>p.rels.length-i)
  0 ⟨Nat.zero_le _,fun j x h=>by omega⟩ (fun _=>⟨rfl,rfl⟩) ⟨⟨rfl,rfl,rfl,trivial⟩,trivial,rfl,rfl⟩ ?_
 rintro i ⟨hi,hall⟩
 refine ifd (fun hlt=>?_) (fun hlt=>?_)
 ·have w_ := aSo (l := p.rels) (i := i) (by omega)
  obtain⟨x,hx⟩:=w_
  have w_:=Rl.elemA hrl hx
  obtain⟨ad,q2,hel,hr,hb⟩:=w_
  have hb:RepV μ x.body.d (.agg (x.body.cs q2).toArray):=hb
  refine eIn hel ?_
  intro r2
  refine cPl (iS hb) fun v1 μ1 hle1 hR=>?_
  obtain⟨rfl,e⟩:=hR
  obtain rfl:=e.symm
  refine iIn (fun h=>rPl ⟨isF fun k=>?_,rfl⟩) (fun h=>?_)
  ·have:=k x (mAt hx);simp[this]at h
  ·have hpos : x.body.Pos := by simpa using h
   refine aB (by omega) (by omega) ⟨i+1,⟨by omega,fun j y hj hy=>?_⟩,by omega,⟨⟨rfl,rfl,rfl,trivial⟩,trivial,rfl,rfl⟩⟩
   rcases Nat.lt_or_ge j i with h6|h6
   ·exact hall j y h6 hy
   ·obtain rfl : j = i := by omega
    rw[hx]at hy;cases hy;exact hpos
 ·obtain rfl : i = p.rels.length := by omega
  exact rPl ⟨isT fun x hx=>by
   have w_:=List.mem_iff_getElem?.1 hx
   obtain⟨j,hj⟩:=w_
   exact hall j x (List.getElem?_eq_some_iff.1 hj).1 hj,rfl⟩
theorem cW{p:Pg}{v:Value}(hp:RepV μ p.d v):Spec Tryz.prog 31 [v] μ fun r _=>r= .bool (decide p.Pos):=by
 have w_:=Pg.inv hp
 obtain⟨q,rfl,hrl⟩:=w_
 refine Spec.mk Tryz.func31 (by kernel_rfl) ?_
 intro r1
 refine cPl (bX hp) fun v1 μ1 hle1 hR=>?_
 obtain rfl:=hR
 refine ifd (fun hok=>?_) (fun hok=>rPl (isF fun k=>hok k.1))
 refine cPl (iU (hp.mono hle1)) fun v2 μ2 hle2 hR=>?_
 obtain⟨rfl,e⟩:=hR
 refine rPl ?_
 by_cases h:∀r∈p.rels,r.body.Pos
 ·rw[decide_eq_true h,decide_eq_true (show p.Pos from⟨hok,h⟩)]
 ·rw[decide_eq_false h,decide_eq_false fun k:p.Pos=>h k.2]
end
end Go.Vx
namespace Go.Vx
open Go.Proofs Classical
section
variable {μ:Mem}
set_option maxHeartbeats 8000000 in
theorem xX:∀(g:Gl) {μ:Mem} {v:Value},RepV μ g.d v→g.Sh→g.cnt≤80→Spec Tryz.prog 169 [v] μ fun v μ'=>∃L,ClsOk μ' g v L:=
 Gl.ind fun g ih μ v hv hS hcnt=>by
  have hv0:=hv
  have w_:=Gl.inv hv
  obtain⟨p,rfl,hts,hgs⟩:=w_
  have hg8:=hS.top.gl
  have hce:=Gl.cnt_eq1 g
  refine Spec.mk Tryz.func169 (by kernel_rfl) ?_
  intro r1 r15
  refine ifd (fun h0=>?_) (fun h0=>?_)
  ·intro r20 μ1 hle1 hno1 hat1 r21
   refine rFz [3] fun μ2 hle2 hno2 hat2=> .inl ⟨[[]],?_,?_,?_,?_⟩
   ·exact Rows.sl hat2 (Rows.one (d:=csD []) ((Rows.sl (μ:=μ1) (ds:=[]) hat1 .nil (Nat.zero_le _)).mono hle2) rfl) (show 1≤maxLen by decide)
   ·rw[Gl.cl_eq,if_pos h0];rfl
   ·simp
   ·simp
  refine ifd (fun h1=>?_) (fun h1=>?_)
  ·refine rFz [1] fun μ2 hle2 hno2 hat2 => .inl ⟨[], ?_, ?_, ?_, ?_⟩
   ·exact Rows.sl hat2 .nil (Nat.zero_le _)
   ·rw[Gl.cl_eq,if_neg h0,if_pos h1];rfl
   ·simp
   ·simp
  refine ifd (fun h8=>?_) (fun h8=>?_)
  ·have hcl : g.cl = Gl.clOr g.goals [] := by rw [Gl.cl_eq, if_neg h0, if_neg h1, if_pos h8]
   refine lIn (fun q:Nat×List (List Gl)×Option Nat×Nat×List Value×Mem=>q.1≤g.goals.length∧μ.Le q.2.2.2.2.2∧Rows q.2.2.2.2.2 1 (q.2.1.map csD) q.2.2.2.2.1∧g.cl=(if q.2.1.length≤64 then Gl.clOr (g.goals.drop q.1) q.2.1 else none)∧(∀c∈q.2.1,c.length≤Gl.cnts (g.goals.take q.1))∧q.2.1.length≤64*q.1)
    (fun(i,acc,b,c,ys,μ')=>⟨[(3,.row 1 b ys.length c),(28,.val (.slice p.2.1 g.goals.length p.2.2)),(29,.val (.int .i64 g.goals.length)),(30,.val (.int .i64 i))],[(1,some (.row b c 59 1 ys))],2,μ',Mem.nil⟩) (fun q=>g.goals.length-q.1)
    (0,[],some r15,0,[],μ) ⟨Nat.zero_le _,Mem.Le.refl _,.nil,by rw[hcl];rfl,by simp,by simp⟩ (fun(_,_,_,_,_,_)=>⟨rfl,rfl⟩) ⟨⟨rfl,rfl,rfl,rfl,trivial⟩,⟨rfl,trivial⟩,rfl,rfl⟩ ?_
   rintro⟨i,acc,b,c,ys,μ'⟩ ⟨hi,hle,hrows,hJ,hlen,hmax⟩
   dsimp only at hi hle hrows hJ hlen hmax
   have hyl:=hrows.len
   rw[List.length_map]at hyl
   refine ifd (fun hlt=>?_) (fun hlt=>?_)
   ·have w_ := aSo (l := g.goals) (i := i) (by omega)
    obtain⟨x,hx⟩:=w_
    have w_:=Gl.elem (hgs.mono hle) hx
    obtain⟨ad,q,hel,hr⟩:=w_
    have hxc:=Gl.cnts_take hx
    have hxl:=Gl.cnts_le g.goals (i+1)
    refine eIn hel ?_
    intro r5
    refine cPl (ih x (mAt hx) hr (hS.sub x (mAt hx)) (by omega)) fun v1 μ1 hle1 hR=>?_
    obtain⟨L,hL⟩:=hR
    obtain⟨pv,rfl⟩:=hL.rep.inv
    have w_:=Rep.srcAll hL.rep
    obtain⟨vs,hvr,hvl,hsrc⟩:=w_
    have hLm:=hL.max
    rw[bJ hx,Gl.clOr,hL.cl]at hJ
    refine aG vs hsrc ?_
    refine gIn ?_ ?_ fun b9 c9 _=>?_
    ·show(ys.length+vs.length)*24≤_;omega
    ·exact Nat.le_trans (m:=100000000) (show ys.length+vs.length≤_ by omega) (by decide)
    refine ifd (fun h64=>?_) (fun h64=>?_)
    ·refine rPl ⟨L, hL.rep, ?_, fun c hc => Nat.le_trans (hL.len c hc) (by omega), hLm⟩
     rw[if_neg (show ¬L.length≤64 by omega)]at hJ ⊢
     rw[hJ]
     split<;>rfl
    ·rw [if_pos (show L.length ≤ 64 by omega), Option.bind_some] at hJ
     refine aB (by omega) (by omega) ⟨(i+1,acc++L,b9,c9,_,μ1),⟨by dsimp only;omega,hle.trans hle1,?_,?_,?_,?_⟩,by dsimp only;omega,⟨⟨rfl,rfl,rfl,rfl,trivial⟩,⟨rfl,trivial⟩,rfl,rfl⟩⟩
     ·dsimp only
      rw[List.map_append]
      exact(hrows.mono hle1).append hvr
     ·dsimp only
      rw[hJ]
      by_cases ha:acc.length≤64
      ·rw[if_pos ha]
      ·rw[if_neg ha,if_neg (by rw[List.length_append];omega)]
     ·dsimp only
      intro c hc
      rcases List.mem_append.1 hc with hc|hc
      ·have:=hlen c hc;omega
      ·have:=hL.len c hc;omega
     ·dsimp only
      rw[List.length_append];omega
   ·obtain rfl : i = g.goals.length := by omega
    rw[List.drop_length,Gl.clOr]at hJ
    rw[List.take_length]at hlen
    refine rFz [1] fun μ2 hle2 hno2 hat2=> .inl ⟨acc,?_,hJ,fun c hc=>by have:=hlen c hc;omega,by omega⟩
    exact Rows.sl hat2 (hrows.mono hle2) (Nat.le_trans (m:=100000000) (by omega) (by decide))
  refine ifd (fun h7=>?_) (fun h7=>?_)
  rotate_left
  ·intro r96 μ1 hle1 hno1 hat1 r97
   refine gIn ?_ ?_ fun b9 c9 _=>?_
   ·show(0+1)*24≤_;decide
   ·show 0+1≤maxLen;decide
   refine rFz [1] fun μ2 hle2 hno2 hat2=> .inl ⟨[[g]],?_,?_,?_,?_⟩
   ·refine Rows.sl hat2 (Rows.one (d:=csD [g]) ((Rows.sl (μ:=μ1) (ds:=[g.d]) hat1 (Rows.one (hv0.mono hle1) (Gl.d_n g)) (show 1≤maxLen by decide)).mono hle2) rfl) (show 1≤maxLen by decide)
   ·rw[Gl.cl_eq,if_neg h0,if_neg h1,if_neg h8,if_neg h7];rfl
   ·intro c hc
    rw[List.mem_singleton.1 hc]
    have:=g.cnt_pos
    simpa using this
   ·simp
  have hcl:g.cl=Gl.clAnd g.goals [[]]:=by rw[Gl.cl_eq,if_neg h0,if_neg h1,if_neg h8,if_pos h7]
  intro r48 μ1 hle1 hno1 hat1 r49
  refine gIn ?_ ?_ fun b9 c9 _=>?_
  ·show(0+1)*24≤_;decide
  ·show 0+1≤maxLen;decide
  refine lFz (fun q:Nat×List (List Gl)×Option Addr×Nat×Mem=>q.1≤g.goals.length∧μ.Le q.2.2.2.2∧Cls q.2.2.2.2 q.2.1 (.slice q.2.2.1 q.2.1.length q.2.2.2.1)∧g.cl=Gl.clAnd (g.goals.drop q.1) q.2.1∧(∀c∈q.2.1,c.length≤Gl.cnts (g.goals.take q.1))∧q.2.1.length≤64)
   (fun(i,acc,b,c,μ')=>⟨[(3,.val (.slice b acc.length c)),(52,.val (.slice p.2.1 g.goals.length p.2.2)),(53,.val (.int .i64 g.goals.length)),(54,.val (.int .i64 i))],[],0,μ',Mem.nil⟩) (fun q=>g.goals.length-q.1) [1]
   (fun(_,_,_,_,_)=>⟨rfl,rfl⟩) (fun μ2 hle2 hno2 hat2=>⟨(0,[[]],b9.map (fun r=>⟨r,0,none⟩),c9,μ2),⟨Nat.zero_le _,hle1.trans hle2,Rows.sl hat2 (Rows.one (d:=csD []) ((Rows.sl (μ:=μ1) (ds:=[]) hat1 .nil (Nat.zero_le _)).mono hle2) rfl) (show 1≤maxLen by decide),hcl,by simp,by simp⟩,⟨rfl,rfl,rfl,rfl,trivial⟩,trivial,rfl,rfl⟩) ?_
  rintro⟨i,acc,b,c,μ'⟩ ⟨hi,hle,hacc,hJ,hlen,hmax⟩
  dsimp only at hi hle hacc hJ hlen hmax
  refine ifd (fun hlt=>?_) (fun hlt=>?_)
  rotate_left
  ·obtain rfl : i = g.goals.length := by omega
   rw[List.drop_length,Gl.clAnd]at hJ
   rw[List.take_length]at hlen
   exact rPl ⟨acc,hacc,by rw[hJ,if_pos hmax],fun c hc=>by have:=hlen c hc;omega,by omega⟩
  have w_:=aSo (l:=g.goals) (i:=i) (by omega)
  obtain⟨x,hx⟩:=w_
  have w_:=Gl.elem (hgs.mono hle) hx
  obtain⟨ad,q,hel,hr⟩:=w_
  have hxc:=Gl.cnts_take hx
  have hxl:=Gl.cnts_le g.goals (i+1)
  refine eIn hel ?_
  intro r8
  refine cPl (ih x (mAt hx) hr (hS.sub x (mAt hx)) (by omega)) fun v3 μ3 hle3 hR=>?_
  obtain⟨L,hL⟩:=hR
  obtain⟨pv,rfl⟩:=hL.rep.inv
  have hLm:=hL.max
  rw[bJ hx,Gl.clAnd,hL.cl]at hJ
  refine ifd (fun h64=>?_) (fun h64=>?_)
  ·refine rPl ⟨L, hL.rep, ?_, fun c hc => Nat.le_trans (hL.len c hc) (by omega), hLm⟩
   rw[if_neg (show ¬L.length≤64 by omega)]at hJ ⊢
   exact hJ
  rw[if_pos (show L.length≤64 by omega),Option.bind_some]at hJ
  intro r64
  have hasl:=(Cls.sl (RepV.mono hle3 hacc)).1
  refine lIn (fun q:Nat×Option Nat×Nat×List Value×Mem=>q.1≤acc.length∧μ3.Le q.2.2.2.2∧Rows q.2.2.2.2 1 ((fY (acc.take q.1) L).map csD) q.2.2.2.1)
   (fun(j,b1,c1,ys,μ4)=>⟨[(9,.val (.slice pv.1 L.length pv.2)),(10,.row 1 b1 ys.length c1),(52,.val (.slice p.2.1 g.goals.length p.2.2)),(53,.val (.int .i64 g.goals.length)),(54,.val (.int .i64 i)),(65,.val (.slice b acc.length c)),(66,.val (.int .i64 acc.length)),(67,.val (.int .i64 j))],[(1,some (.row b1 c1 59 1 ys))],2,μ4,Mem.nil⟩) (fun q=>acc.length-q.1)
   (0,some r64,0,[],μ3) ⟨Nat.zero_le _,Mem.Le.refl _,.nil⟩ (fun(_,_,_,_,_)=>⟨rfl,rfl⟩) ⟨⟨rfl,rfl,rfl,rfl,rfl,rfl,rfl,rfl,trivial⟩,⟨rfl,trivial⟩,rfl,rfl⟩ ?_
  rintro⟨j,b1,c1,ys,μ4⟩ ⟨hj,hle4,hrows⟩
  dsimp only at hj hle4 hrows
  have hyl:=hrows.len
  rw[List.length_map,kL,List.length_take]at hyl
  have hmul:min j acc.length*L.length≤64*64:=Nat.mul_le_mul (by omega) (by omega)
  refine ifd (fun hlt2=>?_) (fun hlt2=>?_)
  ·have w_ := aSo (l := acc) (i := j) (by omega)
   obtain⟨xa,hxa⟩:=w_
   have w_:=mR (hasl.mono hle4) hxa
   obtain⟨ad2,pa,hel2,hra⟩:=w_
   have hxal:=hlen xa (mAt hxa)
   have hmul2:j*L.length≤64*64:=Nat.mul_le_mul (by omega) (by omega)
   rw[Nat.min_eq_left (by omega)]at hyl
   refine eIn hel2 ?_
   refine lIn (fun q:Nat×Option Nat×Nat×List Value×Mem=>q.1≤L.length∧μ4.Le q.2.2.2.2∧Rows q.2.2.2.2 1 ((fY (acc.take j) L++(L.take q.1).map fun y=>xa++y).map csD) q.2.2.2.1)
    (fun(k,b1,c1,ys,μ5)=>⟨[(9,.val (.slice pv.1 L.length pv.2)),(10,.row 1 b1 ys.length c1),(12,.val (.slice pa.1 xa.length pa.2)),(52,.val (.slice p.2.1 g.goals.length p.2.2)),(53,.val (.int .i64 g.goals.length)),(54,.val (.int .i64 i)),(65,.val (.slice b acc.length c)),(66,.val (.int .i64 acc.length)),(67,.val (.int .i64 j)),(71,.val (.slice pv.1 L.length pv.2)),(72,.val (.int .i64 L.length)),(73,.val (.int .i64 k))],[(1,some (.row b1 c1 59 1 ys))],2,μ5,Mem.nil⟩) (fun q=>L.length-q.1)
    (0,b1,c1,ys,μ4) ⟨Nat.zero_le _,Mem.Le.refl _,by simpa using hrows⟩ (fun(_,_,_,_,_)=>⟨rfl,rfl⟩) ⟨⟨rfl,rfl,rfl,rfl,rfl,rfl,rfl,rfl,rfl,rfl,rfl,rfl,trivial⟩,⟨rfl,trivial⟩,rfl,rfl⟩ ?_
   clear hrows
   rintro⟨k,b2,c2,zs,μ5⟩ ⟨hk,hle5,hrows2⟩
   dsimp only at hk hle5 hrows2
   have hzl:=hrows2.len
   rw[List.length_map,List.length_append,kL,List.length_map,List.length_take,List.length_take,Nat.min_eq_left (show j≤acc.length by omega),Nat.min_eq_left hk]at hzl
   refine ifd (fun hlt3=>?_) (fun hlt3=>?_)
   ·have w_ := aSo (l := L) (i := k) (by omega)
    obtain⟨y,hy⟩:=w_
    have w_:=mR (((Cls.sl hL.rep).1.mono hle4).mono hle5) hy
    obtain⟨ad3,py,hel3,hry⟩:=w_
    have hyl2:=hL.len y (mAt hy)
    have w_:=yD (hra.mono hle5)
    obtain⟨vx,hvx,hvxl,hsx⟩:=w_
    have w_:=yD hry
    obtain⟨vy,hvy,hvyl,hsy⟩:=w_
    refine eIn hel3 ?_
    intro r78
    refine aG vx hsx ?_
    refine gIn ?_ ?_ fun b6 c6 _=>?_
    ·show(0+vx.length)*72≤_;omega
    ·exact Nat.le_trans (m:=100000000) (show 0+vx.length≤_ by omega) (by decide)
    refine aG vy hsy ?_
    refine gIn ?_ ?_ fun b7 c7 _=>?_
    ·show((([]:List Value)++vx).length+vy.length)*72≤_;simp;omega
    ·exact Nat.le_trans (m:=100000000) (show(([]:List Value)++vx).length+vy.length≤_ by simp;omega) (by decide)
    intro μ6 hle6 hno6 hat6 r83
    refine gIn ?_ ?_ fun b8 c8 _=>?_
    ·show(zs.length+1)*24≤_;omega
    ·exact Nat.le_trans (m:=100000000) (show zs.length+1≤_ by omega) (by decide)
    have hrow:RepV μ6 (csD (xa++y)) (.slice (b7.map fun r=>⟨r,0,none⟩) (([]:List Value)++vx++vy).length c7):=by
     have:=Rows.sl hat6 ((hvx.append hvy).mono hle6) (Nat.le_trans (m:=100000000) (by simp;omega) (by decide))
     rw[←List.map_append]at this
     exact this
    refine aB (by omega) (by omega) ⟨(k+1,b8,c8,_,μ6),⟨by dsimp only;omega,hle5.trans hle6,?_⟩,by dsimp only;omega,⟨⟨rfl,rfl,rfl,rfl,rfl,rfl,rfl,rfl,rfl,rfl,rfl,rfl,trivial⟩,⟨rfl,trivial⟩,rfl,rfl⟩⟩
    dsimp only
    rw[List.take_add_one,hy,Option.toList_some,List.map_append (f:=fun y=>xa++y),←List.append_assoc,List.map_append (f:=csD)]
    exact(hrows2.mono hle6).append (Rows.one hrow rfl)
   ·obtain rfl : k = L.length := by omega
    rw[List.take_length,←qAn hxa]at hrows2
    exact aB (by omega) (by omega) ⟨(j+1,b2,c2,zs,μ5),⟨by dsimp only;omega,hle4.trans hle5,hrows2⟩,by dsimp only;omega,⟨⟨rfl,rfl,rfl,rfl,rfl,rfl,rfl,rfl,trivial⟩,⟨rfl,trivial⟩,rfl,rfl⟩⟩
  ·obtain rfl : j = acc.length := by omega
   rw[List.take_length]at hrows
   rw[Nat.min_self]at hyl hmul
   have hpl:=kL acc L
   have hzlen:∀c∈fY acc L,c.length≤Gl.cnts (g.goals.take (i+1)):=fun c hc=>by
    have w_:=mJ hc
    obtain⟨u,hu,w,hw,rfl⟩:=w_
    have h1:=hlen u hu
    have h2:=hL.len w hw
    rw[List.length_append];omega
   refine ifd (fun hb=>?_) (fun hb=>?_)
   ·refine rFz [1] fun μ5 hle5 hno5 hat5 => .inl ⟨fY acc L, ?_, ?_, fun c hc => by have := hzlen c hc; omega, by omega⟩
    ·have := Rows.sl hat5 (hrows.mono hle5) (Nat.le_trans (m := 100000000) (by omega) (by decide))
     exact this
    ·rw [if_neg (by omega)] at hJ ⊢
     exact hJ
   ·rw [if_pos (by omega)] at hJ
    refine aB (by omega) (by omega) ⟨[1],fun μ5 hle5 hno5 hat5=>⟨(i+1,fY acc L,b1.map (fun r=>⟨r,0,none⟩),c1,μ5),⟨by dsimp only;omega,((hle.trans hle3).trans hle4).trans hle5,?_,hJ,hzlen,by dsimp only;omega⟩,by dsimp only;omega,⟨⟨?_,rfl,rfl,rfl,trivial⟩,trivial,rfl,rfl⟩⟩⟩
    ·have := Rows.sl hat5 (hrows.mono hle5) (Nat.le_trans (m := 100000000) (by omega) (by decide))
     rw[←hyl,←hpl]at this
     exact this
    ·show some (SV.val (.slice _ _ _)) = some (SV.val (.slice _ _ _))
     rw[hpl,hyl]
end
end Go.Vx
namespace Go.Vx
open Go.Proofs Classical
section
variable {μ:Mem}
theorem qFz{c:List Gl}{base:Option Addr}{cap:Nat}(hsl:Sl μ 4 base c.length (c.map Gl.d))(hn:c.length≤1000000)(hS:∀x∈c,x.Sh):
  Spec Tryz.prog 170 [.slice base c.length cap] μ fun v μ'=>RepV μ' (csD c) v:=by
 refine Spec.mk Tryz.func170 (by kernel_rfl) ?_
 intro r6
 refine lIn (fun p:Nat×Option Nat×Nat×List Value×Mem=>p.1≤c.length∧μ.Le p.2.2.2.2∧Rows p.2.2.2.2 4 ((c.take p.1).map Gl.d) p.2.2.2.1)
  (fun(i,b,k,ys,μ')=>⟨[(3,.row 0 b ys.length k),(7,.val (.slice base c.length cap)),(8,.val (.int .i64 c.length)),(9,.val (.int .i64 i))],[(0,some (.row b k 61 4 ys))],1,μ',Mem.nil⟩) (fun p=>c.length-p.1)
  (0,some r6,0,[],μ) ⟨by simp,Mem.Le.refl _,.nil⟩ (fun(_,_,_,_,_)=>⟨rfl,rfl⟩) ⟨⟨rfl,rfl,rfl,rfl,trivial⟩,⟨rfl,trivial⟩,rfl,rfl⟩ ?_
 rintro⟨i,b,k,ys,μ'⟩ ⟨hi,hle,hrows⟩
 dsimp only at hi hle hrows
 have hlen:=hrows.len
 simp only[List.length_map,List.length_take]at hlen
 refine ifd (fun h=>?_) (fun h=>?_)
 ·have w_ := aSo (l := c) (i := i) (by omega)
  obtain⟨x,hx⟩:=w_
  have w_:=Gl.elem (hsl.mono hle) hx
  obtain⟨ad,p,hel,hr⟩:=w_
  refine eIn hel ?_
  intro r5
  refine cPl (qFr x hr (hS x (mAt hx))) fun v4 μ4 hle4 hR4=>?_
  have w_:=Gl.invV hR4
  obtain⟨q,rfl⟩:=w_
  intro r16
  refine gIn ?_ ?_ fun b' c' _=>?_
  ·show(ys.length+1)*72≤_;omega
  ·exact Nat.le_trans (m:=100000000) (show ys.length+1≤_ by omega) (by decide)
  refine aB (by omega) (by omega) ⟨(i+1,b',c',_,μ4),⟨by dsimp only;omega,hle.trans hle4,?_⟩,by dsimp only;omega,⟨⟨rfl,rfl,rfl,rfl,trivial⟩,⟨rfl,trivial⟩,rfl,rfl⟩⟩
  dsimp only
  rw[List.take_add_one,hx,Option.toList_some,List.map_append]
  exact(hrows.mono hle4).append (Rows.one hR4 (Gl.d_n _))
 ·obtain rfl : i = c.length := by omega
  rw[List.take_length]at hrows
  refine rFz [0] fun μ' hle' hno hrow=> .inl ?_
  exact Rows.sl hrow (hrows.mono hle') (Nat.le_trans (m:=100000000) (by omega) (by decide))
mutual
theorem Gl.cl_Sh:∀(g:Gl) {L:List (List Gl)},g.Sh→g.cl=some L→∀c∈L,∀x∈c,x.Sh
 | .mk k s ts gs,L,hS,h=>by
  have hsub:∀x∈gs,x.Sh:=hS.sub
  rw[Gl.cl]at h
  split at h
  ·cases h;simp
  split at h
  ·cases h;simp
  split at h
  ·exact Gl.clOr_Sh gs hsub (by simp) h
  split at h
  ·exact Gl.clAnd_Sh gs hsub (by simp) h
  ·cases h
   intro c hc x hx
   rw[List.mem_singleton.1 hc]at hx
   rw[List.mem_singleton.1 hx];exact hS
theorem Gl.clOr_Sh:∀(gs:List Gl) {acc L:List (List Gl)},(∀x∈gs,x.Sh)→(∀c∈acc,∀x∈c,x.Sh)→Gl.clOr gs acc=some L→∀c∈L,∀x∈c,x.Sh
 |[],acc,L,_,h1,h=>by
  rw[Gl.clOr]at h;cases h;exact h1
 |g::gs,acc,L,hS,h1,h=>by
  rw[Gl.clOr]at h
  cases e:g.cl with
  |none=>rw[e]at h;cases h
  |some l=>
   rw[e,Option.bind_some]at h
   have hb:=Gl.cl_Sh g (hS g (by simp)) e
   split at h
   ·exact Gl.clOr_Sh gs (acc:=acc++l) (fun x hx=>hS x (by simp[hx])) (fun c hc=>by
     rcases List.mem_append.1 hc with hc|hc
     ·exact h1 c hc
     ·exact hb c hc) h
   ·cases h
theorem Gl.clAnd_Sh:∀(gs:List Gl) {acc L:List (List Gl)},(∀x∈gs,x.Sh)→(∀c∈acc,∀x∈c,x.Sh)→Gl.clAnd gs acc=some L→∀c∈L,∀x∈c,x.Sh
 |[],acc,L,_,h1,h=>by
  rw[Gl.clAnd]at h;cases h;exact h1
 |g::gs,acc,L,hS,h1,h=>by
  rw[Gl.clAnd]at h
  cases e:g.cl with
  |none=>rw[e]at h;cases h
  |some l=>
   rw[e,Option.bind_some]at h
   have hb:=Gl.cl_Sh g (hS g (by simp)) e
   split at h
   ·exact Gl.clAnd_Sh gs (acc:=fY acc l) (fun x hx=>hS x (by simp[hx])) (fun c hc=>by
     have w_:=mJ hc
     obtain⟨u,hu,w,hw,rfl⟩:=w_
     intro x hx
     rcases List.mem_append.1 hx with hx|hx
     ·exact h1 u hu x hx
     ·exact hb w hw x hx) h
   ·cases h
end
theorem yM{g:Gl}{v:Value}(hv:RepV μ g.d v)(hw:g.d.wd)(hok:g.Ok):Spec Tryz.prog 93 [v] μ fun v μ'=>optC (Cls μ') g.cl v:=by
 have hv0:=hv
 have w_:=Gl.inv hv
 obtain⟨p,rfl,-,-⟩:=w_
 refine Spec.mk Tryz.func93 (by kernel_rfl) ?_
 intro r1
 refine cGv (kO g hv0 hw) ?_
 refine aK (fun h=>absurd hok h) (fun _=>?_)
 refine cPl (xX g hv0 hok.1 hok.2) fun v1 μ1 hle1 hR=>?_
 obtain⟨L,hL⟩:=hR
 obtain⟨pv,rfl⟩:=hL.rep.inv
 have hcl:=hL.cl
 refine ifd (fun h64=>?_) (fun h64=>?_)
 ·rw [if_neg (by omega)] at hcl
  exact rPl (by rw[hcl];rfl)
 rw[if_pos (by omega)]at hcl
 rw[hcl]
 have hSh:=Gl.cl_Sh g hok.1 hcl
 have hbd:=Gl.cl_bnd g hcl
 have h80:=hok.2
 have hsl:=(Cls.sl hL.rep).1
 intro r16
 refine lIn (fun p:Nat×Option Nat×Nat×List Value×Mem=>p.1≤L.length∧μ1.Le p.2.2.2.2∧Rows p.2.2.2.2 1 ((L.take p.1).map csD) p.2.2.2.1)
  (fun(i,b,k,ys,μ')=>⟨[(5,.row 1 b ys.length k),(17,.val (.slice pv.1 L.length pv.2)),(18,.val (.int .i64 L.length)),(19,.val (.int .i64 i))],[(1,some (.row b k 59 1 ys))],2,μ',Mem.nil⟩) (fun p=>L.length-p.1)
  (0,some r16,0,[],μ1) ⟨by simp,Mem.Le.refl _,.nil⟩ (fun(_,_,_,_,_)=>⟨rfl,rfl⟩) ⟨⟨rfl,rfl,rfl,rfl,trivial⟩,⟨rfl,trivial⟩,rfl,rfl⟩ ?_
 rintro⟨i,b,k,ys,μ'⟩ ⟨hi,hle,hrows⟩
 dsimp only at hi hle hrows
 have hlen:=hrows.len
 simp only[List.length_map,List.length_take]at hlen
 refine ifd (fun h=>?_) (fun h=>?_)
 ·have w_ := aSo (l := L) (i := i) (by omega)
  obtain⟨c,hc⟩:=w_
  have w_:=mR (hsl.mono hle) hc
  obtain⟨ad,pc,hel,hrc⟩:=w_
  have hcl2:=hbd.1 c (mAt hc)
  have hcs:Sl μ' 4 pc.1 c.length (c.map Gl.d):=by
   have w_:=Rep.sl (xs:=c.map Gl.d) hrc
   obtain⟨b',c',e1,hs⟩:=w_
   have w_:=Value.slice.inj e1
   obtain⟨rfl,_,_⟩:=w_
   simpa using hs
  refine eIn hel ?_
  refine cPl (qFz hcs (by omega) (hSh c (mAt hc))) fun v4 μ4 hle4 hR4=>?_
  have w_:=qMu hR4
  obtain⟨q,rfl⟩:=w_
  intro r26
  refine gIn ?_ ?_ fun b' c' _=>?_
  ·show(ys.length+1)*24≤_;omega
  ·exact Nat.le_trans (m:=100000000) (show ys.length+1≤_ by omega) (by decide)
  refine aB (by omega) (by omega) ⟨(i+1,b',c',_,μ4),⟨by dsimp only;omega,hle.trans hle4,?_⟩,by dsimp only;omega,⟨⟨rfl,rfl,rfl,rfl,trivial⟩,⟨rfl,trivial⟩,rfl,rfl⟩⟩
  dsimp only
  rw[List.take_add_one,hc,Option.toList_some,List.map_append]
  exact(hrows.mono hle4).append (Rows.one hR4 rfl)
 ·obtain rfl : i = L.length := by omega
  rw[List.take_length]at hrows
  refine rFz [1] fun μ' hle' hno hrow=> .inl ⟨_,rfl,?_⟩
  exact Rows.sl hrow (hrows.mono hle') (Nat.le_trans (m:=100000000) (by omega) (by decide))
end
end Go.Vx
namespace Go.Vx
open Go.Proofs Classical
section
variable {μ:Mem}
theorem rel_wd{p:Pg}(hw:p.d.wd){i:Nat}{x:Rl}(hx:p.rels[i]? =some x):x.body.d.wd:=by
 have hw2:D.wds (p.rels.map Rl.d):=by rw[Pg.d_eq]at hw;exact hw.1
 have h:=D.wds_mem hw2 _ (mAt (oX (f:=Rl.d) hx))
 rw[Rl.d_eq]at h;exact h.2.2.2.1
set_option maxHeartbeats 8000000 in
end
end Go.Vx
namespace Go.Vx
open Go.Proofs Classical
section
variable {μ:Mem}
theorem gM{xs ys:List T}{base base2:Option Addr}{cap cap2:Nat}(hsl:Sl μ 4 base xs.length ((xs.map T.tm).map Tm.d))(hsl2:Sl μ 4 base2 ys.length ((ys.map T.tm).map Tm.d)):
  aP Tryz.prog 206 [.slice base xs.length cap,.slice base2 ys.length cap2] μ (.int .i64 (kY xs ys)):=by
 refine Spec.mk Tryz.func206 (by kernel_rfl) ?_
 have hm1:=aH hsl.max
 have hm2:=aH hsl2.max
 refine lIn (fun i:Nat=>i≤xs.length∧i≤ys.length∧kY (xs.drop i) (ys.drop i)=kY xs ys)
  (fun i=>⟨[(0,.val (.slice base xs.length cap)),(1,.val (.slice base2 ys.length cap2)),(5,.val (.int .i64 i))],[],0,μ,Mem.nil⟩) (fun i=>xs.length-i)
  0 ⟨Nat.zero_le _,Nat.zero_le _,rfl⟩ (fun _=>⟨rfl,rfl⟩) ⟨⟨rfl,rfl,rfl,trivial⟩,trivial,rfl,rfl⟩ ?_
 rintro i ⟨hi,hj,hJ⟩
 have fin:¬(i<xs.length∧i<ys.length)→kY xs ys=jK xs.length ys.length:=fun h=>nH h hi hj hJ
 refine ifd (fun h1=>?_) (fun h1=>?_)
 ·refine ifd (fun h2 => ?_) (fun h2 => ?_)
  ·have w_ := aSo (l := xs) (i := i) (by omega)
   obtain⟨x,hx⟩:=w_
   have w_:=aSo (l:=ys) (i:=i) (by omega)
   obtain⟨y,hy⟩:=w_
   have w_:=T.elemL hsl hx
   obtain⟨ad,p,hel,hto⟩:=w_
   have w_:=T.elemL hsl2 hy
   obtain⟨ad2,p2,hel2,hto2⟩:=w_
   rw[bJ hx,bJ hy,kY,cI]at hJ
   refine eIn hel (eIn hel2 ?_)
   refine cGv (fK _ _ hto hto2) ?_
   refine aK (fun h5=>?_) (fun h5=>?_)
   ·rw [nO h5] at hJ
    exact rGv (congrArg (Value.int .i64) hJ) rfl
   ·rw [nN h5] at hJ
    exact aB (by omega) (by omega) ⟨i+1,⟨by omega,by omega,hJ⟩,by omega,⟨⟨rfl,rfl,rfl,trivial⟩,trivial,rfl,rfl⟩⟩
  ·have hf := fin (by omega)
   refine aK (fun h3=>?_) (fun h3=>?_)
   ·refine cGv (cP _) ?_
    exact rGv (by rw[hf,jK,if_neg h3]) rfl
   ·exact rGv (by rw[hf,jK,if_pos h3]) rfl
 ·have hf := fin (by omega)
  refine aK (fun h3=>?_) (fun h3=>?_)
  ·refine cGv (cP _) ?_
   exact rGv (by rw[hf,jK,if_neg h3]) rfl
  ·exact rGv (by rw[hf,jK,if_pos h3]) rfl
theorem cJ{f g:F}{v w:Value}(hv:RepV μ f.fc.d v)(hw:RepV μ g.fc.d w):aP Tryz.prog 143 [v,w] μ (.int .i64 (bC f g)):=by
 have w_:=F.inv hv
 obtain⟨p,rfl,hs⟩:=w_
 have w_:=F.inv hw
 obtain⟨q,rfl,hs2⟩:=w_
 refine Spec.mk Tryz.func143 (by kernel_rfl) ?_
 intro r1 r2
 rw[bC]
 refine aK (fun h=>?_) (fun h=>?_)
 ·have e:iM (mQ f.rel g.rel) (kY f.args g.args)=sgn (Op.bytesLess f.rel.data.toList g.rel.data.toList):=by
   rw[nO (fun k=>h ((cName_ord.zero _ _).1 k)),mQ,if_neg h]
  rw[e]
  refine cGv (cP _) ?_
  exact rGv rfl rfl
 ·rw [nN ((cName_ord.zero _ _).2 h)]
  refine cGv (gM hs hs2) ?_
  exact rGv rfl rfl
end
end Go.Vx
namespace Go.Vx
open Go.Proofs Classical
section
variable {μ:Mem}
theorem dQ(t:Tm){v:Value}(hv:RepV μ t.d v)(hw:t.d.wd):aP Tryz.prog 141 [v] μ (.bool (decide (tN t))):=by
 by_cases h:t.Ok
 ·obtain ⟨x, hx, rfl⟩ := h.lift
  have:=eD x hv hx hw
  have e:(decide (x.vars=[]))=decide (tN x.tm):=decide_eq_decide.2 ⟨fun k=>⟨h,by rw[T.toT_tm];exact k⟩,fun k=>by have:=k.2;rwa [T.toT_tm]at this⟩
  rwa [e]at this
 ·have w_ := Tm.invV hv
  obtain⟨p,rfl⟩:=w_
  refine Spec.mk Tryz.func141 (by kernel_rfl) ?_
  intro r
  refine cGv (dO t hv hw) ?_
  refine ifd (fun k=>absurd k h) (fun _=>?_)
  exact rGv (by rw[decide_eq_false fun k=>h k.1]) rfl
theorem cY{l:List Tm}{base:Option Addr}{cap:Nat}(hsl:Sl μ 4 base l.length (l.map Tm.d))(hw:D.wds (l.map Tm.d)):
  aP Tryz.prog 70 [.slice base l.length cap] μ (.bool (decide (UnivOk l))):=by
 have hn:=aH hsl.max
 have bad:¬UnivOk l→Value.bool false= .bool (decide (UnivOk l)):=fun k=>isF k
 refine Spec.mk Tryz.func70 (by kernel_rfl) ?_
 refine lIn (fun i:Nat=>i≤l.length∧UnivTo l i)
  (fun i=>⟨[(0,.val (.slice base l.length cap)),(5,.val (.slice base l.length cap)),(6,.val (.int .i64 l.length)),(7,.val (.int .i64 i))],[],0,μ,Mem.nil⟩) (fun i=>l.length-i)
  0 ⟨Nat.zero_le _,fun j hj=>by omega⟩ (fun _=>⟨rfl,rfl⟩) ⟨⟨rfl,rfl,rfl,rfl,trivial⟩,trivial,rfl,rfl⟩ ?_
 rintro i ⟨hi,hall⟩
 refine ifd (fun hlt=>?_) (fun hlt=>?_)
 ·have w_ := aSo (l := l) (i := i) (by omega)
  obtain⟨t,ht⟩:=w_
  have w_:=Tm.elem hsl ht
  obtain⟨ad,p,hel,hr⟩:=w_
  refine eIn hel ?_
  intro r4
  refine cGv (dQ t hr (D.wds_mem hw _ (mAt (oX (f:=Tm.d) ht)))) ?_
  refine aK (fun h=>rGv (bad fun k=>h (k.gnd t (mAt ht))) rfl) (fun hg=>?_)
  have ok1:(∀k x y,k+1=i→l[k]? =some x→l[i]? =some y→x.toT.cmp y.toT<0)→UnivTo l (i+1):=fun hc j hj=>by
   rcases Nat.lt_or_ge j i with h6|h6
   ·exact hall j h6
   ·obtain rfl : j = i := by omega
    exact⟨fun t' ht'=>by rw[ht]at ht';cases ht';exact hg,hc⟩
  refine ifd (fun hi0=>?_) (fun hi0=>?_)
  ·have w_ := aSo (l := l) (i := i - 1) (by omega)
   obtain⟨t',ht'⟩:=w_
   have w_:=Tm.elem hsl ht'
   obtain⟨ad',p',hel',hr'⟩:=w_
   have hg':=(hall (i-1) (by omega)).1 t' ht'
   obtain⟨x,_,rfl⟩:=hg.1.lift
   obtain⟨y,_,rfl⟩:=hg'.1.lift
   refine aB (by omega) (by omega) ?_
   refine eIn (by rw[show((i:Int)-1)=((i-1:Nat):Int) by omega];exact hel') ?_
   refine cGv (fK y x hr' hr) ?_
   refine ifd (fun hc=>(fun e=>rGv e rfl) ?_) (fun hc=>?_)
   ·refine bad fun k => ?_
    have:=k.asc (i-1) _ _ ht' (by rw[show i-1+1=i by omega];exact ht)
    rw[T.toT_tm,T.toT_tm]at this
    omega
   ·refine aB (by omega) (by omega) ⟨i + 1, ⟨by omega, ok1 fun k a b hk ha hb => ?_⟩, by omega, ⟨⟨rfl, rfl, rfl, rfl, trivial⟩, trivial, rfl, rfl⟩⟩
    obtain rfl:k=i-1:=by omega
    rw[ht']at ha;rw[ht]at hb;cases ha;cases hb
    rw[T.toT_tm,T.toT_tm];omega
  ·exact aB (by omega) (by omega) ⟨i+1,⟨by omega,ok1 fun k a b hk _ _=>by omega⟩,by omega,⟨⟨rfl,rfl,rfl,rfl,trivial⟩,trivial,rfl,rfl⟩⟩
 ·obtain rfl : i = l.length := by omega
  refine cGv (dC _ _ _ _) ?_
  refine rGv (isI ?_) rfl
  exact⟨fun h=>hall.all (by omega) (by omega),fun h=>⟨by have:=h.pos;omega,by have:=h.max;omega⟩⟩
noncomputable def qDd(p:Pg)(s:ByteArray):Int:=if p.Ok then cR p s else -1
theorem vJ{p:Pg}{s:ByteArray}{v:Value}(hp:RepV μ p.d v)(hw:p.d.wd):Spec Tryz.prog 166 [v,.string s] μ fun r _=>r= .int .i64 (qDd p s):=by
 have hp0:=hp
 have w_:=Pg.inv hp
 obtain⟨q,rfl,_⟩:=w_
 refine Spec.mk Tryz.func166 (by kernel_rfl) ?_
 intro r2
 refine cPl (bY hp0 hw) fun v1 μ1 hle1 hR=>?_
 obtain rfl:=hR
 refine aK (fun h=>rPl (by rw[qDd,if_neg h])) (fun h=>?_)
 refine cGv (pQ (hp0.mono hle1)) ?_
 exact rPl (by rw[qDd,if_pos h])
end
end Go.Vx
namespace Go.Vx
open Go.Proofs Classical
def dU(vs:List T):List B:=vs.zipIdx.map fun p=>⟨(p.2:Int),p.1⟩
theorem qNs:∀(vs:List T) (k:Nat) (n:Int),sub ((vs.zipIdx k).map fun p=>⟨(p.2:Int),p.1⟩) n=if(k:Int)≤n then vs[(n-k).toNat]? else none
 |[],k,n=>by simp[sub]
 |x::vs,k,n=>by
  rw[List.zipIdx_cons,List.map_cons,sub,qNs vs (k+1) n]
  by_cases h:(k:Int)=n
  ·subst h;simp
  ·rw [if_neg h]
   by_cases h2:(k:Int)≤n
   ·rw [if_pos (by omega), if_pos h2]
    obtain⟨m,hm⟩:∃m:Nat,(n-k).toNat=m+1:=⟨(n-k).toNat-1,by omega⟩
    rw[hm,List.getElem?_cons_succ]
    congr 1;omega
   ·rw[if_neg (by omega),if_neg h2]
theorem qQc(vs:List T):sub (dU vs)=jL vs:=funext fun n=>by
 rw[dU,qNs vs 0 n,jL]
 simp
theorem fI(vs:List T):(dU vs).length=vs.length:=by simp[dU]
theorem kF{vs:List T}{i:Nat}{x:T}(h:vs[i]? =some x):(dU vs)[i]? =some ⟨(i:Int),x⟩:=by simp[dU,h]
theorem gV(vs:List T)(i:Nat):(dU vs).take i=dU (vs.take i):=by
 refine List.ext_getElem? fun k=>?_
 simp only[dU,List.getElem?_take,List.getElem?_map,List.getElem?_zipIdx]
 split<;>simp
section
variable {μ:Mem}
theorem iG{size n most:Nat}(h1:1≤size)(h8:size≤8)(hm:most≤100000)(hn:n≤1000)(hm1:1≤most):
  Spec Tryz.prog 71 [.int .i64 size,.int .i64 n,.int .i64 most] μ fun r μ'=>qHm size n most r∧μ'=μ:=by
 refine Spec.forget (Spec.mk Tryz.func71 (by kernel_rfl) ?_)
 refine lIn (fun z:Nat×Nat=>z.1≤n∧z.2=size ^ z.1∧z.2≤8*most) (fun(i,k)=>⟨[(0,.val (.int .i64 size)),(1,.val (.int .i64 n)),(2,.val (.int .i64 most)),(7,.val (.int .i64 (k:Nat))),(8,.val (.int .i64 (i:Nat)))],[],0,μ,Mem.nil⟩) (fun z=>n-z.1)
  (0,1) ⟨Nat.zero_le _,rfl,by dsimp only;omega⟩ (fun(_,_)=>⟨rfl,rfl⟩) ⟨⟨rfl,rfl,rfl,rfl,rfl,trivial⟩,trivial,rfl,rfl⟩ ?_
 rintro⟨i,k⟩ ⟨hi,hk,hb⟩
 dsimp only at hi hk hb
 have mono:size ^ i≤size ^ n:=Nat.pow_le_pow_right h1 hi
 refine ifd (fun g1=>?_) (fun g1=>?_)
 ·refine ifd (fun g2 => ?_) (fun g2 => ?_)
  ·have hks:k*size≤8*most:=by
    have:=Nat.mul_le_mul (show k≤most by omega) h8
    omega
   refine nEq (x:=((k*size:Nat):Int)) (by rw[←Int.natCast_mul];exact aA (by omega) (by omega)) ?_
   exact aB (by omega) (by omega) ⟨(i+1,k*size),⟨by dsimp only;omega,by dsimp only;rw[hk,Nat.pow_succ],hks⟩,by dsimp only;omega,⟨⟨rfl,rfl,rfl,rfl,rfl,trivial⟩,trivial,rfl,rfl⟩⟩
  ·exact rPl ⟨k,rfl,fun h=>by omega,fun h=>by omega⟩
 ·obtain rfl : i = n := by omega
  exact rPl ⟨k,rfl,fun _=>hk,fun h=>by omega⟩
def eB(n:Nat):List Int:=(List.range n).map fun i:Nat=>(i:Int)
theorem kA(n:Nat):(eB n).length=n:=by simp[eB]
theorem vC{n i:Nat}(h:i<n):(eB n)[i]? =some (i:Int):=by simp[eB,h]
set_option maxHeartbeats 1000000 in
theorem fG{U:List T}{ub vb:Option Addr}{uc vc n w:Nat}(hu:Sl μ 4 ub U.length ((U.map T.tm).map Tm.d))(hU:0<U.length)(hU8:U.length≤8)(hv:Sl μ 1 vb n ((eB n).map D.i))(hn:n≤1000)(hw:w≤100000):
  Spec Tryz.prog 72 [.slice vb n vc,.slice ub U.length uc,.int .i64 w] μ fun v μ'=>RepV μ' (.sl 5 (((dU (cN U n w)).map B.bd).map Bd.d)) v:=by
 refine Spec.mk Tryz.func72 (by kernel_rfl) ?_
 intro r10
 refine lIn (fun z:Nat×Option Nat×Nat×List Value=>z.1≤n∧Rows μ 5 (((dU ((cN U n w).take z.1)).map B.bd).map Bd.d) z.2.2.2)
  (fun(i,b,c,ys)=>⟨[(1,.val (.slice ub U.length uc)),(2,.val (.int .i64 ((w / U.length ^ i:Nat):Int))),(7,.row 0 b ys.length c),(11,.val (.slice vb n vc)),(12,.val (.int .i64 n)),(13,.val (.int .i64 i))],[(0,some (.row b c 100 5 ys))],1,μ,Mem.nil⟩) (fun z=>n-z.1)
  (0,some r10,0,[]) ⟨Nat.zero_le _,.nil⟩ (fun(_,_,_,_)=>⟨rfl,rfl⟩) ⟨⟨rfl,by rw[Nat.pow_zero,Nat.div_one];rfl,rfl,rfl,rfl,rfl,trivial⟩,⟨rfl,trivial⟩,rfl,rfl⟩ ?_
 rintro⟨i,b,c,ys⟩ ⟨hi,hrows⟩
 dsimp only at hi hrows
 have hlen:=hrows.len
 simp only[List.length_map,fI,List.length_take,cV]at hlen
 have hdw:w / U.length ^ i≤w:=Nat.div_le_self _ _
 refine ifd (fun h=>?_) (fun h=>?_)
 ·have w_ := Ints.elem hv (vC (n := n) (i := i) (by omega))
  obtain⟨ad,hel⟩:=w_
  refine eIn hel ?_
  refine aE (by omega) ?_
  refine nEq (x:=((w / U.length ^ i % U.length:Nat):Int)) rfl ?_
  have w_:=sA hu hU (w / U.length ^ i)
  obtain⟨ad2,p,hel2,hr⟩:=w_
  refine eIn hel2 ?_
  intro r27
  refine gIn ?_ ?_ fun b' c' _=>?_
  ·show(ys.length+1)*64≤_;omega
  ·exact Nat.le_trans (m:=100000000) (show ys.length+1≤_ by omega) (by decide)
  refine aE (by omega) ?_
  refine nEq (x:=((w / U.length ^ (i+1):Nat):Int)) ?_ ?_
  ·have e : w / U.length ^ (i + 1) = w / U.length ^ i / U.length := by rw [Nat.pow_succ, Nat.div_div_eq_div_mul]
   rw[e]
   have hd2:w / U.length ^ i / U.length≤w / U.length ^ i:=Nat.div_le_self _ _
   show IntKind.i64.wrap ((w / U.length ^ i / U.length:Nat):Int)=_
   generalize w / U.length ^ i / U.length=m at hd2 ⊢
   exact aA (by omega) (by omega)
  refine aB (by omega) (by omega) ⟨(i+1,b',c',_),⟨by dsimp only;omega,?_⟩,by dsimp only;omega,⟨⟨rfl,rfl,rfl,rfl,rfl,rfl,trivial⟩,⟨rfl,trivial⟩,rfl,rfl⟩⟩
  dsimp only
  rw[←gV,List.take_add_one,kF (qW U i n w (by omega)),Option.toList_some,gV]
  simp only[List.map_append,List.map_cons,List.map_nil]
  exact hrows.append (Rows.one (RepV.bd hr) (Bd.d_n _))
 ·obtain rfl : i = n := by omega
  rw[List.take_of_length_le (by rw[cV];omega)]at hrows
  refine rFz [0] fun μ' hle' hno hrow=> .inl ?_
  exact Rows.sl hrow (hrows.mono hle') (Nat.le_trans (m:=100000000) (by omega) (by decide))
theorem wA{U:List T}{ub:Option Addr}{uc:Nat}{x:T}{v:Value}(hu:Sl μ 4 ub U.length ((U.map T.tm).map Tm.d))(hv:RepV μ x.tm.d v):
  aP Tryz.prog 249 [.slice ub U.length uc,v] μ (.bool (decide (x∈U))):=by
 have hn:=aH hu.max
 have w_:=Tm.invV hv
 obtain⟨p,rfl⟩:=w_
 refine Spec.mk Tryz.func249 (by kernel_rfl) ?_
 intro r3
 refine lIn (fun i:Nat=>i≤U.length∧x∉U.take i)
  (fun i=>⟨[(3,.loc 0 r3 0),(7,.val (.slice ub U.length uc)),(8,.val (.int .i64 U.length)),(9,.val (.int .i64 i))],[(0,some (.cells r3 [.val (.int .i64 x.tm.kind),.val (.int .i64 x.tm.num),.val (.string x.tm.name),.val (.slice p.1 x.tm.args.length p.2)] 75))],1,μ,Mem.nil⟩) (fun i=>U.length-i)
  0 ⟨Nat.zero_le _,by simp⟩ (fun _=>⟨rfl,rfl⟩) ⟨⟨rfl,rfl,rfl,rfl,trivial⟩,⟨rfl,trivial⟩,rfl,rfl⟩ ?_
 rintro i ⟨hi,hnot⟩
 refine ifd (fun h=>?_) (fun h=>?_)
 ·have w_ := aSo (l := U) (i := i) (by omega)
  obtain⟨y,hy⟩:=w_
  have w_:=T.elemL hu hy
  obtain⟨ad,q,hel,hr⟩:=w_
  refine eIn hel ?_
  intro r6
  refine cGv (jX y x hr hv) ?_
  refine ifd (fun h2=>rGv ?_ rfl) (fun h2=>?_)
  ·rw[decide_eq_true (by rw[←h2];exact mAt hy)]
  ·refine aB (by omega) (by omega) ⟨i + 1, ⟨by omega, ?_⟩, by omega, ⟨⟨rfl, rfl, rfl, rfl, trivial⟩, ⟨rfl, trivial⟩, rfl, rfl⟩⟩
   rw[List.take_add_one,hy,Option.toList_some,List.mem_append,List.mem_singleton]
   exact fun k=>k.elim hnot fun k=>h2 k.symm
 ·obtain rfl : i = U.length := by omega
  rw[List.take_length]at hnot
  exact rGv (by rw[decide_eq_false hnot]) rfl
theorem mV{U:List T}{ub fb:Option Addr}{uc fc:Nat}{l:List F}(hu:Sl μ 4 ub U.length ((U.map T.tm).map Tm.d))(hl:Sl μ 2 fb l.length ((l.map F.fc).map Fc.d)):
  aP Tryz.prog 208 [.slice fb l.length fc,.slice ub U.length uc] μ (.bool (decide (∀f∈l,∀a∈f.args,a∈U))):=by
 have hn:=aH hl.max
 refine Spec.mk Tryz.func208 (by kernel_rfl) ?_
 refine lIn (fun i:Nat=>i≤l.length∧∀f∈l.take i,∀a∈f.args,a∈U)
  (fun i=>⟨[(1,.val (.slice ub U.length uc)),(9,.val (.slice fb l.length fc)),(10,.val (.int .i64 l.length)),(11,.val (.int .i64 i))],[],0,μ,Mem.nil⟩) (fun i=>l.length-i)
  0 ⟨Nat.zero_le _,by simp⟩ (fun _=>⟨rfl,rfl⟩) ⟨⟨rfl,rfl,rfl,rfl,trivial⟩,trivial,rfl,rfl⟩ ?_
 rintro i ⟨hi,hall⟩
 refine ifd (fun h=>?_) (fun h=>?_)
 ·have w_ := aSo (l := l) (i := i) (by omega)
  obtain⟨f,hf⟩:=w_
  have w_:=F.elem hl hf
  obtain⟨ad,p,hel,hr,hs⟩:=w_
  have hm:=aH hs.max
  refine eIn hel ?_
  intro r6
  refine lIn (fun k:Nat=>k≤f.args.length∧∀a∈f.args.take k,a∈U)
   (fun k=>⟨[(1,.val (.slice ub U.length uc)),(9,.val (.slice fb l.length fc)),(10,.val (.int .i64 l.length)),(11,.val (.int .i64 i)),(16,.val (.slice p.1 f.args.length p.2)),(17,.val (.int .i64 f.args.length)),(18,.val (.int .i64 k))],[],1,μ,Mem.nil⟩) (fun k=>f.args.length-k)
   0 ⟨Nat.zero_le _,by simp⟩ (fun _=>⟨rfl,rfl⟩) ⟨⟨rfl,rfl,rfl,rfl,rfl,rfl,rfl,trivial⟩,trivial,rfl,rfl⟩ ?_
  rintro k ⟨hk,hargs⟩
  refine ifd (fun h2=>?_) (fun h2=>?_)
  ·have w_ := aSo (l := f.args) (i := k) (by omega)
   obtain⟨a,ha⟩:=w_
   have w_:=T.elemL hs ha
   obtain⟨ad2,q,hel2,hr2⟩:=w_
   refine eIn hel2 ?_
   intro r8
   refine cGv (wA hu hr2) ?_
   refine aK (fun h3=>rGv ?_ rfl) (fun h3=>?_)
   ·rw[decide_eq_false fun k=>h3 (k f (mAt hf) a (mAt ha))]
   ·refine aB (by omega) (by omega) ⟨k + 1, ⟨by omega, ?_⟩, by omega, ⟨⟨rfl, rfl, rfl, rfl, rfl, rfl, rfl, trivial⟩, trivial, rfl, rfl⟩⟩
    rw[List.take_add_one,ha,Option.toList_some]
    intro y hy
    rcases List.mem_append.1 hy with hy|hy
    ·exact hargs y hy
    ·rw[List.mem_singleton.1 hy];exact h3
  ·obtain rfl : k = f.args.length := by omega
   rw[List.take_length]at hargs
   refine aB (by omega) (by omega) ⟨i+1,⟨by omega,?_⟩,by omega,⟨⟨rfl,rfl,rfl,rfl,trivial⟩,trivial,rfl,rfl⟩⟩
   rw[List.take_add_one,hf,Option.toList_some]
   intro y hy
   rcases List.mem_append.1 hy with hy|hy
   ·exact hall y hy
   ·rw[List.mem_singleton.1 hy];exact hargs
 ·obtain rfl : i = l.length := by omega
  rw[List.take_length]at hall
  exact rGv (by rw[decide_eq_true hall]) rfl
theorem eK{l:List F}{base:Option Addr}{cap:Nat}(hsl:Sl μ 2 base l.length ((l.map F.fc).map Fc.d))(hn:l.length≤10000000)(hl:∀f∈l,f.args.length≤1000000):
  Spec Tryz.prog 74 [.slice base l.length cap] μ fun v μ'=>RepV μ' (.sl 2 ((l.map F.fc).map Fc.d)) v:=by
 refine Spec.mkO [6] Tryz.func74 (by kernel_rfl) ?_
 intro r6 hm6 ho6
 refine lIn (fun p:Nat×Nat×Nat×Nat×List Value×Mem×Mem=>p.1≤l.length∧p.2.2.2.2.1.length=p.2.2.2.1∧RowO p.2.2.2.2.2.2 p.2.1 p.2.2.1 41 2 p.2.2.2.2.1∧Apart p.2.2.2.2.2.1 p.2.2.2.2.2.2∧μ.Le p.2.2.2.2.2.1∧Rows p.2.2.2.2.2.1 2 (((l.take p.1).map F.fc).map Fc.d) p.2.2.2.2.1)
  (fun(i,b,c,m,ys,μ',h)=>⟨[(3,.val (.slice (some ⟨b,0,none⟩) m c)),(7,.val (.slice base l.length cap)),(8,.val (.int .i64 l.length)),(9,.val (.int .i64 i))],[],0,μ',h⟩) (fun p=>l.length-p.1)
  (0,r6,0,0,[],μ,_) ⟨by simp,rfl,⟨[],Mem.set_at _ _ _,by simp,by simp,by simp,rfl,rfl⟩,(dY μ).set hm6,Mem.Le.refl _,.nil⟩ (fun(_,_,_,_,_,_,_)=>⟨rfl,rfl⟩) ⟨⟨rfl,rfl,rfl,rfl,trivial⟩,trivial,rfl,rfl⟩ ?_
 clear hm6 ho6
 rintro⟨i,b,c,m,ys,μ',h⟩ ⟨hi,hm,hb,hap,hle,hrows⟩
 dsimp only at hi hm hb hap hle hrows
 have hlen:=hrows.len
 simp only[List.length_map,List.length_take]at hlen
 refine ifd (fun hlt=>?_) (fun hlt=>?_)
 ·have w_ := aSo (l := l) (i := i) (by omega)
  obtain⟨f,hf⟩:=w_
  have w_:=F.elem (hsl.mono hle) hf
  obtain⟨ad,p,hel,hr,hs⟩:=w_
  refine eIn hel ?_
  intro r5
  have hfl:=hl f (mAt hf)
  refine cDa hap (dG hs (by omega)) fun v1 μ1 hle1 hap1 hR=>?_
  have w_:=Rep.sl hR
  obtain⟨b4,c4,rfl,_⟩:=w_
  rw[List.length_map,List.length_map]at hR ⊢
  intro r20
  refine fD ys hm hb ?_ ?_ fun b' c' o hrow hor=>?_
  ·show(m+1)*40≤_;omega
  ·exact Nat.le_trans (m:=100000000) (show m+1≤_ by omega) (by decide)
  refine aB (by omega) (by omega) ⟨(i+1,b',c',m+1,_,μ1,_),⟨by dsimp only;omega,by dsimp only;rw[List.length_append,hm];rfl,hrow,hap1.set (mO hb hap1 hor),hle.trans hle1,?_⟩,by dsimp only;omega,⟨⟨rfl,rfl,rfl,rfl,trivial⟩,trivial,rfl,rfl⟩⟩
  dsimp only
  rw[List.take_add_one,hf,Option.toList_some]
  simp only[List.map_append,List.map_cons,List.map_nil]
  exact(hrows.mono hle1).append (Rows.one (F.mkV hR) (Fc.d_n _))
 ·obtain rfl : i = l.length := by omega
  rw[List.take_length]at hrows
  refine eO _ Mem.nil (Parts.nil_right _) ?_
  obtain⟨cs,hcell,hlen0,hcap,hone,hcs,htake⟩:=hb
  have hb2:μ' b=none:=by
   cases e:μ' b with
   |none=>rfl
   |some o=>have:=hap b (by simp[e]);rw[hcell]at this;cases this
  have hrow:RowAt (μ'.join h) (some b) c 2 ys:=⟨hlen0,hone,_,_,by rw[Mem.join_get,hb2];exact hcell,by simpa using hcs,by simpa using htake⟩
  subst hm
  exact Rows.sl hrow (hrows.mono (Mem.le_join _ _)) (Nat.le_trans (m:=100000000) (by omega) (by decide))
theorem qFs{g:Gl}{xs:List T}{v:Value}(hv:RepV μ g.d v)(hx:g.terms=xs.map T.tm)(hl:SimpleLen g.kind xs.length):
  aP Tryz.prog 251 [v] μ (.bool (decide (jJ g.kind xs))):=by
 have w_:=Gl.inv hv
 obtain⟨p,rfl,hts,-⟩:=w_
 rw[hx]at hts ⊢
 rw[List.length_map]at hts ⊢
 refine Spec.mk Tryz.func251 (by kernel_rfl) ?_
 intro r1
 refine ifd (fun h=>rGv (by rw[h];simp[jJ]) rfl) (fun h0=>?_)
 refine ifd (fun h=>?_) (fun h2=>?_)
 ·have w_ := qEt (hl.two (by omega))
  obtain⟨x,y,rfl⟩:=w_
  have w_:=T.elemL hts (i:=0) (x:=x) rfl
  obtain⟨ad1,p1,e1,g1⟩:=w_
  have w_:=T.elemL hts (i:=1) (x:=y) rfl
  obtain⟨ad2,p2,e2,g2⟩:=w_
  refine eIn e1 (eIn e2 (cGv (jX x y g1 g2) (rGv ?_ rfl)))
  rw[h];exact congrArg Value.bool (decide_eq_decide.2 testT_2.symm)
 refine ifd (fun h=>?_) (fun h3=>?_)
 ·have w_ := qEt (hl.two (by omega))
  obtain⟨x,y,rfl⟩:=w_
  have w_:=T.elemL hts (i:=0) (x:=x) rfl
  obtain⟨ad1,p1,e1,g1⟩:=w_
  have w_:=T.elemL hts (i:=1) (x:=y) rfl
  obtain⟨ad2,p2,e2,g2⟩:=w_
  refine eIn e1 (eIn e2 (cGv (jX x y g1 g2) (rGv ?_ rfl)))
  rw[h,←decide_not];exact congrArg Value.bool (decide_eq_decide.2 testT_3.symm)
 refine ifd (fun h=>?_) (fun h4=>?_)
 ·have w_ := one_of' (hl.one (by omega))
  obtain⟨x,rfl⟩:=w_
  have w_:=T.elemL hts (i:=0) (x:=x) rfl
  obtain⟨ad1,p1,e1,g1⟩:=w_
  refine eIn e1 (rGv ?_ rfl)
  rw[h];exact congrArg Value.bool (decide_eq_decide.2 testT_4.symm)
 refine ifd (fun h=>?_) (fun h5=>?_)
 ·have w_ := one_of' (hl.one (by omega))
  obtain⟨x,rfl⟩:=w_
  have w_:=T.elemL hts (i:=0) (x:=x) rfl
  obtain⟨ad1,p1,e1,g1⟩:=w_
  refine eIn e1 (rGv ?_ rfl)
  rw[h];exact congrArg Value.bool (decide_eq_decide.2 testT_5.symm)
 refine ifd (fun h=>?_) (fun h6=>?_)
 ·have w_ := qEt (hl.two (by omega))
  obtain⟨x,y,rfl⟩:=w_
  have w_:=T.elemL hts (i:=0) (x:=x) rfl
  obtain⟨ad1,p1,e1,g1⟩:=w_
  have w_:=T.elemL hts (i:=1) (x:=y) rfl
  obtain⟨ad2,p2,e2,g2⟩:=w_
  refine eIn e2 (eIn e1 (cGv (vZ x.tm.name y g2) (rGv ?_ rfl)))
  rw[h,←decide_not];exact congrArg Value.bool (decide_eq_decide.2 testT_6.symm)
 refine rGv ?_ rfl
 rw[decide_eq_false]
 unfold jJ
 rw[if_neg h0,if_neg h2,if_neg h3,if_neg h4,if_neg h5,if_neg h6]
 exact id
end
end Go.Vx
namespace Go.Vx
open Go.Proofs Classical
theorem qKm(vs:List T)(g:Gl):(jO vs g).fc.args=(g.put (jL vs)).terms:=by
 rw[Gl.put_terms,F.fc_args]
 show(g.terms.map _).map _=_
 rw[List.map_map];rfl
section
variable {μ:Mem}
theorem Gl.termsV{g:Gl}{k n ts gs:Value}(h:RepV μ g.d (.agg #[k,n,ts,gs])):RepV μ (.sl 4 (g.terms.map Tm.d)) ts:=by
 rw[Gl.d_eq]at h
 obtain⟨cs,e,h⟩:=h
 obtain⟨a0,t0,rfl,h0,h⟩:=h
 obtain⟨a1,t1,rfl,h1,h⟩:=h
 obtain⟨a2,t2,rfl,h2,h⟩:=h
 obtain⟨a3,t3,rfl,h3,h⟩:=h
 obtain rfl:t3=[]:=h
 have h0:a0=[.int .i64 g.kind]:=h0
 have h1:a1=[.string g.name]:=h1
 subst h0 h1
 have w_:=oE (Rep.len _ _ h2)
 obtain⟨v2,rfl⟩:=w_
 have w_:=oE (Rep.len _ _ h3)
 obtain⟨v3,rfl⟩:=w_
 have e2:[k,n,ts,gs]=[.int .i64 g.kind,.string g.name,v2,v3]:=congrArg (fun v=>match v with|Value.agg a=>a.toList|_=>[]) e
 have e3:ts=v2:=(List.cons.inj (List.cons.inj (List.cons.inj e2).2).2).1
 rw[e3];exact h2
theorem qCv{vs:List T}{g:Gl}{k n gs:Value}{b:Option Addr}{m c:Nat}(h:RepV μ (g.put (jL vs)).d (.agg #[k,n,.slice b m c,gs])):RepV μ (jO vs g).fc.d (.agg #[.string g.name,.slice b m c]):=by
 have h1:=Gl.termsV h
 rw[Fc.d_eq,qKm]
 exact⟨_,rfl,RepS.str (RepS.last h1)⟩
set_option maxHeartbeats 16000000 in
set_option maxRecDepth 20000 in
theorem qGa{r:Rl}{v:Value}{c:List Gl}{cb bb:Option Addr}{cc bc a:Nat}{vs:List T}{i:Nat}(hr:RepV μ r.d v)(ha:r.arity=(a:Int))(hal:a≤vs.length)(hvs:vs.length≤12)
  (hc:Sl μ 4 cb c.length (c.map Gl.d)) (hcl:c.length≤1000) (hcs:∀g∈c,ClG g) (hb:Sl μ 5 bb vs.length (((dU vs).map B.bd).map Bd.d)):
  Spec Tryz.prog 209 [v,.int .i64 i,.slice cb c.length cc,.slice bb vs.length bc] μ fun res μ'=>∃(ru:Ru) (rv:Value),res= .tuple #[rv,.bool (decide (∀g∈c,okS vs g))]∧RepV μ' ru.rd.d rv∧((∀g∈c,okS vs g)→ru=kB r i c vs):=by
 have w_:=Rl.invV hr
 obtain⟨q,rfl⟩:=w_
 refine Spec.mk Tryz.func209 (by kernel_rfl) ?_
 intro r4 r8 r10
 refine cX (fun z:Nat×Option Nat×Nat×List Value=>z.1≤vs.length∧z.1≤z.2.2.1∧Rows μ 4 (((vs.take z.1).map T.tm).map Tm.d) z.2.2.2)
  (fun(k,b,n,ys)=>⟨[(2,.val (.slice cb c.length cc)),(3,.val (.slice bb vs.length bc)),(4,.loc 0 r4 0),(8,.loc 1 r8 0),(10,.loc 2 r10 0),(18,.val (.slice bb vs.length bc)),(19,.val (.int .i64 vs.length)),(20,.val (.int .i64 k))],[(0,some (.cells r4 [.val (.string r.name),.val (.int .i64 r.arity),.val (.int .i64 r.locals),.val (.int .i64 r.body.kind),.val (.string r.body.name),.val (.slice q.1.1 r.body.terms.length q.1.2),.val (.slice q.2.1 r.body.goals.length q.2.2)] 63)),(1,some (.cells r8 [.val (.string ⟨#[]⟩),.val (.slice none 0 0),.val (.int .i64 0),.val (.slice none 0 0),.val (.slice none 0 0),.val (.slice none 0 0)] 106)),(2,some (.cells r10 [.val (.string ⟨#[]⟩),.val (.slice none 0 0),.val (.int .i64 i),.row 3 b ys.length n,.val (.slice none 0 0),.val (.slice none 0 0)] 106)),(3,some (.row b n 75 4 ys))],4,μ,Mem.nil⟩) (fun z=>vs.length-z.1)
  (0,none,0,[]) ⟨Nat.zero_le _,Nat.le_refl _,.nil⟩ (fun(_,_,_,_)=>⟨rfl,rfl⟩) ?_ ?_
 ·exact⟨⟨⟨_,rfl,.inl rfl⟩,⟨_,rfl,.inl rfl⟩,⟨_,rfl,.inl rfl⟩,⟨_,rfl,.inl rfl⟩,⟨_,rfl,.inl rfl⟩,⟨_,rfl,.inl rfl⟩,⟨_,rfl,.inl rfl⟩,⟨_,rfl,.inl rfl⟩,trivial⟩,⟨.inl rfl,.inl rfl,.inr (.inr ⟨_,_,_,_,rfl,rfl,.inl rfl,.inl rfl,.inl rfl,.inr ⟨3,rfl,rfl,Nat.le_refl _⟩,.inl rfl,.inl rfl,trivial⟩),.inr (.inl ⟨_,_,rfl,Nat.le_refl _⟩),trivial⟩,rfl,rfl⟩
 rintro⟨k,b,n,ys⟩ ⟨hk,hkn,hrows⟩
 dsimp only at hk hkn hrows
 have hlen:=hrows.len
 simp only[List.length_map,List.length_take]at hlen
 refine ifd (fun hlt=>?_) (fun hlt=>?_)
 ·have w_ := aSo (l := vs) (i := k) (by omega)
  obtain⟨x,hx⟩:=w_
  have w_:=B.elem hb (kF hx)
  obtain⟨ad,p,hel,hto⟩:=w_
  refine eIn hel ?_
  intro r12 r28
  refine qIk ?_ ?_ fun b' n' hcap _=>?_
  ·show(ys.length+1)*56≤_;omega
  ·exact Nat.le_trans (m:=100000000) (show ys.length+1≤_ by omega) (by decide)
  have hcap:ys.length+1≤n':=hcap
  refine aB (by omega) (by omega) ⟨(k+1,b',n',_),⟨by dsimp only;omega,by dsimp only;omega,?_⟩,by dsimp only;omega,⟨⟨rfl,rfl,rfl,rfl,rfl,rfl,rfl,rfl,trivial⟩,⟨rfl,rfl,rfl,rfl,trivial⟩,rfl,rfl⟩⟩
  dsimp only
  rw[List.take_add_one,hx,Option.toList_some]
  simp only[List.map_append,List.map_cons,List.map_nil]
  exact hrows.append (Rows.one hto (Tm.d_n _))
 obtain rfl:k=vs.length:=by omega
 rw[List.take_length]at hrows
 refine aF 0 a rfl ha (Nat.zero_le _) (by omega) ?_
 refine cX (fun z:Nat×(Option Nat×Nat×List Value)×(Option Nat×Nat×List Value)×Mem=>z.1≤c.length∧μ.Le z.2.2.2∧Rows z.2.2.2 2 (((uC vs (c.take z.1)).map F.fc).map Fc.d) z.2.1.2.2∧Rows z.2.2.2 2 (((pZ vs (c.take z.1)).map F.fc).map Fc.d) z.2.2.1.2.2∧∀g∈c.take z.1,okS vs g)
  (fun(j,(pb,pc,ps),(nb,nc,ns),μ')=>⟨[(3,.val (.slice bb vs.length bc)),(8,.loc 1 r8 0),(10,.loc 2 r10 0),(41,.val (.slice cb c.length cc)),(42,.val (.int .i64 c.length)),(43,.val (.int .i64 j))],[(1,some (.cells r8 [.val (.string ⟨#[]⟩),.val (.slice none 0 0),.val (.int .i64 0),.val (.slice none 0 0),.val (.slice none 0 0),.val (.slice none 0 0)] 106)),(2,some (.cells r10 [.val (.string r.name),.val (.slice (if n=0 then(b.map fun r=>(⟨r,0,none⟩:Addr))else(b.map fun r=>(⟨r,0,none⟩:Addr)).map (·.add (0*4))) (a-0) (n-0)),.val (.int .i64 i),.row 3 b ys.length n,.row 4 pb ps.length pc,.row 5 nb ns.length nc] 106)),(3,some (.row b n 75 4 ys)),(4,some (.row pb pc 41 2 ps)),(5,some (.row nb nc 41 2 ns))],6,μ',Mem.nil⟩) (fun z=>c.length-z.1)
  (0,(none,0,[]),(none,0,[]),μ) ⟨Nat.zero_le _,Mem.Le.refl _,.nil,.nil,by simp⟩ (fun(_,(_,_,_),(_,_,_),_)=>⟨rfl,rfl⟩) ?_ ?_
 ·exact⟨⟨⟨_,rfl,.inl rfl⟩,⟨_,rfl,.inl rfl⟩,⟨_,rfl,.inl rfl⟩,⟨_,rfl,.inl rfl⟩,⟨_,rfl,.inl rfl⟩,⟨_,rfl,.inl rfl⟩,trivial⟩,⟨.inl rfl,.inr (.inr ⟨_,_,_,_,rfl,rfl,.inl rfl,.inl rfl,.inl rfl,.inl rfl,.inr ⟨4,rfl,rfl,Nat.le_refl _⟩,.inr ⟨5,rfl,rfl,Nat.le_succ 4⟩,trivial⟩),.inl rfl,.inr (.inl ⟨_,_,rfl,Nat.le_refl _⟩),.inr (.inl ⟨_,_,rfl,Nat.le_succ 4⟩),trivial⟩,rfl,rfl⟩
 rintro⟨j,⟨pb,pc,ps⟩,⟨nb,nc,ns⟩,μ'⟩ ⟨hj,hle,hps,hns,hall⟩
 dsimp only at hj hle hps hns hall
 have hpl:=hps.len
 have hnl:=hns.len
 have hpf:(uC vs (c.take j)).length≤1000:=by
  rw[uC,List.length_map]
  exact Nat.le_trans (List.length_filter_le _ _) (by rw[List.length_take];omega)
 have hnf:(pZ vs (c.take j)).length≤1000:=by
  rw[pZ,List.length_map]
  exact Nat.le_trans (List.length_filter_le _ _) (by rw[List.length_take];omega)
 simp only[List.length_map]at hpl hnl
 have fin:∀μ2 μ3 μ4:Mem,μ'.Le μ2→RowAt μ2 b n 4 ys→μ2.Le μ3→RowAt μ3 pb pc 2 ps→μ3.Le μ4→RowAt μ4 nb nc 2 ns→
   RepV μ4 (Ru.rd ⟨⟨r.name,vs.take a⟩,i,vs,uC vs (c.take j),pZ vs (c.take j)⟩).d (.agg #[.string r.name,.slice (if n=0 then(b.map fun r=>(⟨r,0,none⟩:Addr))else(b.map fun r=>(⟨r,0,none⟩:Addr)).map (·.add (0*4))) (a-0) (n-0),.int .i64 i,.slice (b.map fun r=>(⟨r,0,none⟩:Addr)) ys.length n,.slice (pb.map fun r=>(⟨r,0,none⟩:Addr)) ps.length pc,.slice (nb.map fun r=>(⟨r,0,none⟩:Addr)) ns.length nc]):=by
  intro μ2 μ3 μ4 h1 h2 h3 h4 h5 h6
  have hmax:(1000:Nat)≤maxLen:=by decide
  have k1:=qRi h2 (hrows.mono (hle.trans h1)) hal (by omega)
  have k2:=Rows.sl h2 (hrows.mono (hle.trans h1)) (Nat.le_trans (m:=1000) (by omega) hmax)
  have k3:=Rows.sl h4 (hps.mono (h1.trans h3)) (Nat.le_trans (m:=1000) (by omega) hmax)
  have k4:=Rows.sl h6 (hns.mono ((h1.trans h3).trans h5)) (Nat.le_trans (m:=1000) (by omega) hmax)
  rw[RuD.d_eq]
  exact⟨_,rfl,RepS.str (RepS.cons1 (k1.mono (h3.trans h5)) (RepS.int (RepS.cons1 (k2.mono (h3.trans h5)) (RepS.cons1 (k3.mono h5) (RepS.last k4)))))⟩
 refine ifd (fun hlt=>?_) (fun hlt=>?_)
 rotate_left
 ·obtain rfl : j = c.length := by omega
  rw[List.take_length]at hall fin
  refine rFz [3,4,5] fun μ2 hle2 hno2 hat2 μ3 hle3 hno3 hat3 μ4 hle4 hno4 hat4=> .inl ⟨_,_,?_,fin μ2 μ3 μ4 hle2 hat2 hle3 hat3 hle4 hat4,fun _=>by rw[kB,ha];rfl⟩
  rw[decide_eq_true hall]
 have w_:=aSo (l:=c) (i:=j) (by omega)
 obtain⟨g,hg⟩:=w_
 have w_:=Gl.elem (hc.mono hle) hg
 obtain⟨ad,pg,hel,hrg⟩:=w_
 have hG:=hcs g (mAt hg)
 refine eIn hel ?_
 intro r14
 have hput:=qIv (bs:=dU vs) (b0:=bb) (c0:=bc) g hrg hG.sh (by rw[fI];exact hb.mono hle)
 rw[fI,qQc]at hput
 refine cPl hput fun v1 μ1 hle1 hR=>?_
 have w_:=Gl.invV hR
 obtain⟨p1,rfl⟩:=w_
 intro r15
 have all1:okS vs g→∀x∈c.take (j+1),okS vs x:=fun h x hx=>by
  rw[List.take_add_one,hg,Option.toList_some]at hx
  rcases List.mem_append.1 hx with hx|hx
  ·exact hall x hx
  ·rw[List.mem_singleton.1 hx];exact h
 refine ifd (fun h9=>?_) (fun h9=>?_)
 ·intro r61
  refine gIn ?_ ?_ fun b' c' _=>?_
  ·show(ps.length+1)*40≤_;omega
  ·exact Nat.le_trans (m:=100000000) (show ps.length+1≤_ by omega) (by decide)
  refine aB (by omega) (by omega) ⟨(j+1,(b',c',_),(nb,nc,ns),μ1),⟨by dsimp only;omega,hle.trans hle1,?_,?_,all1 fun k=>absurd h9 k⟩,by dsimp only;omega,⟨⟨rfl,rfl,rfl,rfl,rfl,rfl,trivial⟩,⟨rfl,rfl,rfl,rfl,rfl,trivial⟩,rfl,rfl⟩⟩
  ·dsimp only
   rw[mI hg,if_pos h9]
   simp only[List.map_append,List.map_cons,List.map_nil]
   have:=qCv hR
   rw[Gl.put_name]
   exact(hps.mono hle1).append (Rows.one this (Fc.d_n _))
  ·dsimp only
   rw[mG hg,if_neg (by omega),List.append_nil]
   exact hns.mono hle1
 refine ifd (fun h10=>?_) (fun h10=>?_)
 ·have hgl := hG.sh.top.gl1 h10
  have w_:=Gl.inv hR
  obtain⟨q1,e1,_,hgs⟩:=w_
  have hkid:(g.put (jL vs)).goals[0]? =some (g.kid.put (jL vs)):=by rw[Gl.put_goals,List.getElem?_map,Gl.kid_at hgl];rfl
  have w_:=Gl.elem hgs hkid
  obtain⟨ad2,pk,hel2,hrk⟩:=w_
  have hp:q1=p1:=by
   have h2:=congrArg (fun v=>match v with|Value.agg a=>(a[2]?,a[3]?)|_=>(none,none)) e1
   simp at h2
   exact Prod.ext (Prod.ext h2.1.1.symm h2.1.2.symm) (Prod.ext h2.2.1.symm h2.2.2.symm)
  subst hp
  refine eIn hel2 ?_
  refine eIn hel2 ?_
  intro r81
  refine gIn ?_ ?_ fun b' c' _=>?_
  ·show(ns.length+1)*40≤_;omega
  ·exact Nat.le_trans (m:=100000000) (show ns.length+1≤_ by omega) (by decide)
  refine aB (by omega) (by omega) ⟨(j+1,(pb,pc,ps),(b',c',_),μ1),⟨by dsimp only;omega,hle.trans hle1,?_,?_,all1 fun _ k=>absurd h10 k⟩,by dsimp only;omega,⟨⟨rfl,rfl,rfl,rfl,rfl,rfl,trivial⟩,⟨rfl,rfl,rfl,rfl,rfl,trivial⟩,rfl,rfl⟩⟩
  ·dsimp only
   rw[mI hg,if_neg h9,List.append_nil]
   exact hps.mono hle1
  ·dsimp only
   rw[mG hg,if_pos h10]
   simp only[List.map_append,List.map_cons,List.map_nil]
   have:=qCv (vs:=vs) (g:=g.kid) hrk
   rw[Gl.put_name]
   exact(hns.mono hle1).append (Rows.one this (Fc.d_n _))
 have hterms:(g.put (jL vs)).terms=(g.terms.map fun t=>t.toT.subst (jL vs)).map T.tm:=by rw[Gl.put_terms,List.map_map];rfl
 refine cGv (qFs hR hterms (by rw[Gl.put_kind,List.length_map];exact hG.simple)) ?_
 rw[Gl.put_kind]
 refine aK (fun hf=>?_) (fun hf=>?_)
 ·refine rFz [3, 4, 5] fun μ2 hle2 hno2 hat2 μ3 hle3 hno3 hat3 μ4 hle4 hno4 hat4 => .inl ⟨_, _, ?_, fin μ2 μ3 μ4 (hle1.trans hle2) hat2 hle3 hat3 hle4 hat4, fun k => absurd (k g (mAt hg) h9 h10) hf⟩
  rw[decide_eq_false fun k=>hf (k g (mAt hg) h9 h10)]
 ·refine aB (by omega) (by omega) ⟨(j + 1, (pb, pc, ps), (nb, nc, ns), μ1), ⟨by dsimp only; omega, hle.trans hle1, ?_, ?_, all1 fun _ _ => hf⟩, by dsimp only; omega, ⟨⟨rfl, rfl, rfl, rfl, rfl, rfl, trivial⟩, ⟨rfl, rfl, rfl, rfl, rfl, trivial⟩, rfl, rfl⟩⟩
  ·dsimp only
   rw[mI hg,if_neg h9,List.append_nil]
   exact hps.mono hle1
  ·dsimp only
   rw[mG hg,if_neg h10,List.append_nil]
   exact hns.mono hle1
end
end Go.Vx
namespace Go.Vx
open Go.Proofs Classical
section
variable {μ:Mem}
theorem wN{p:Pg}{f:Fc}{v w:Value}(hp:RepV μ p.d v)(hw:p.d.wd)(hf:RepV μ f.d w)(hwf:f.d.wd):
  Spec Tryz.prog 157 [v,w] μ fun r _=>r= .bool (decide (p.Ok∧FactFits p f)):=by
 have hp0:=hp
 have w_:=Pg.inv hp
 obtain⟨q0,rfl,hrl⟩:=w_
 have w_:=Fc.inv hf
 obtain⟨q,rfl,hA⟩:=w_
 have hA:Sl μ 4 q.1 f.args.length (f.args.map Tm.d):=hA
 have hn:=aH hA.max
 refine Spec.mk Tryz.func157 (by kernel_rfl) ?_
 intro r2 r3
 refine cPl (vJ hp0 hw) fun v1 μ1 hle1 hR=>?_
 obtain rfl:=hR
 refine ifd (fun hneg=>rPl (isF fun k=>?_)) (fun hge=>?_)
 ·obtain ⟨k', r', h1, _⟩ := k.2.1
  rw[qDd,if_pos k.1]at hneg
  omega
 have hok:p.Ok:=Classical.byContradiction fun k=>by rw[qDd,if_neg k]at hge;exact hge (by decide)
 rw[qDd,if_pos hok]at hge ⊢
 have w_:=wG (show 0≤cR p f.rel by omega)
 obtain⟨k,r,hk,hr,_⟩:=w_
 have hfor:=qEo hk hr
 rw[hk]
 have w_:=Rl.elemA (hrl.mono hle1) hr
 obtain⟨ad,q2,hel,_,_⟩:=w_
 refine eIn hel ?_
 refine aK (fun h=>rPl (isF fun k=>h (hfor.1 k.2.1).symm)) (fun har=>?_)
 refine lIn (fun i:Nat=>i≤f.args.length∧∀t∈f.args.take i,tN t)
  (fun i=>⟨[(27,.val (.slice q.1 f.args.length q.2)),(28,.val (.int .i64 f.args.length)),(29,.val (.int .i64 i))],[],2,μ1,Mem.nil⟩) (fun i=>f.args.length-i)
  0 ⟨Nat.zero_le _,by simp⟩ (fun _=>⟨rfl,rfl⟩) ⟨⟨rfl,rfl,rfl,trivial⟩,trivial,rfl,rfl⟩ ?_
 rintro i ⟨hi,hall⟩
 refine ifd (fun hlt=>?_) (fun hlt=>?_)
 ·have w_ := aSo (l := f.args) (i := i) (by omega)
  obtain⟨t,ht⟩:=w_
  have w_:=Tm.elem (hA.mono hle1) ht
  obtain⟨ad,pt,hel,hrt⟩:=w_
  refine eIn hel ?_
  intro r7
  refine cGv (dQ t hrt (D.wds_mem (by rw[Fc.d_eq]at hwf;exact hwf.2.1) _ (mAt (oX (f:=Tm.d) ht)))) ?_
  refine aK (fun h=>rPl (isF fun k=>h (k.2.2 t (mAt ht)))) (fun h=>?_)
  refine aB (by omega) (by omega) ⟨i+1,⟨by omega,?_⟩,by omega,⟨⟨rfl,rfl,rfl,trivial⟩,trivial,rfl,rfl⟩⟩
  rw[List.take_add_one,ht,Option.toList_some]
  intro y hy
  rcases List.mem_append.1 hy with hy|hy
  ·exact hall y hy
  ·rw[List.mem_singleton.1 hy];exact h
 ·obtain rfl : i = f.args.length := by omega
  rw[List.take_length]at hall
  exact rPl (isT ⟨hok,hfor.2 har.symm,hall⟩)
theorem qJ{p:Pg}{l:List Fc}{v:Value}{base:Option Addr}{cap:Nat}(hp:RepV μ p.d v)(hw:p.d.wd)(hl:Sl μ 2 base l.length (l.map Fc.d))(hwl:D.wds (l.map Fc.d)):
  Spec Tryz.prog 145 [v,.slice base l.length cap] μ fun r _=>r= .bool (decide (∀f∈l,p.Ok∧FactFits p f)):=by
 have hp0:=hp
 have w_:=Pg.inv hp
 obtain⟨q0,rfl,hrl⟩:=w_
 have hn:=aH hl.max
 refine Spec.mk Tryz.func145 (by kernel_rfl) ?_
 intro r2
 refine lIn (fun z:Nat×Mem=>z.1≤l.length∧μ.Le z.2∧∀f∈l.take z.1,p.Ok∧FactFits p f)
  (fun(i,μ')=>⟨[(2,.loc 0 r2 0),(7,.val (.slice base l.length cap)),(8,.val (.int .i64 l.length)),(9,.val (.int .i64 i))],[(0,some (.cells r2 [.val (.slice q0.1 p.rels.length q0.2)] 25))],1,μ',Mem.nil⟩) (fun z=>l.length-z.1)
  (0,μ) ⟨Nat.zero_le _,Mem.Le.refl _,by simp⟩ (fun(_,_)=>⟨rfl,rfl⟩) ⟨⟨rfl,rfl,rfl,rfl,trivial⟩,⟨rfl,trivial⟩,rfl,rfl⟩ ?_
 rintro⟨i,μ'⟩ ⟨hi,hle,hall⟩
 dsimp only at hi hle hall
 refine ifd (fun hlt=>?_) (fun hlt=>?_)
 ·have w_ := aSo (l := l) (i := i) (by omega)
  obtain⟨f,hf⟩:=w_
  have w_:=Fc.elem (hl.mono hle) hf
  obtain⟨ad,pf,hel,hrf⟩:=w_
  refine eIn hel ?_
  intro r6
  refine cPl (wN (hp0.mono hle) hw hrf (D.wds_mem hwl _ (mAt (oX (f:=Fc.d) hf)))) fun v1 μ1 hle1 hR=>?_
  obtain rfl:=hR
  refine aK (fun h=>rPl (isF fun k=>h (k f (mAt hf)))) (fun h=>?_)
  refine aB (by omega) (by omega) ⟨(i+1,μ1),⟨by dsimp only;omega,hle.trans hle1,?_⟩,by dsimp only;omega,⟨⟨rfl,rfl,rfl,rfl,trivial⟩,⟨rfl,trivial⟩,rfl,rfl⟩⟩
  dsimp only
  rw[List.take_add_one,hf,Option.toList_some]
  intro y hy
  rcases List.mem_append.1 hy with hy|hy
  ·exact hall y hy
  ·rw[List.mem_singleton.1 hy];exact h
 ·obtain rfl : i = l.length := by omega
  rw[List.take_length]at hall
  exact rPl (isT hall)
end
end Go.Vx
namespace Go.Vx
open Go.Proofs Classical
theorem qQd{α:Type}{A B:List α}(h:2000<(A.take 2001).length):(A++B).take 2001=A.take 2001:=by
 rw[List.length_take]at h
 rw[List.take_append_of_le_length (by omega)]
theorem qKb{α:Type}{A:List α}(h:(A.take 2001).length≤2000):A.length≤2000:=by
 rw[List.length_take]at h;omega
theorem qRv{vs:List T}{c:List Gl}(h:∀g∈c,ClG g):∀f∈pZ vs c,f.args.length≤4:=fun f hf=>by
 have w_:=List.mem_map.1 hf
 obtain⟨g,hg,rfl⟩:=w_
 have w_:=List.mem_filter.1 hg
 obtain⟨hg,h10⟩:=w_
 exact qCu ((h g hg).kid (of_decide_eq_true h10)) vs
section
variable {μ:Mem}
set_option maxHeartbeats 8000000 in
set_option maxRecDepth 20000 in
theorem kH{p:Pg}{l:List Tm}{v:Value}{ub:Option Addr}{uc:Nat}(hp:RepV μ p.d v)(hw:p.d.wd)(hu:Sl μ 4 ub l.length (l.map Tm.d))(hwu:D.wds (l.map Tm.d)):
  Spec Tryz.prog 148 [v,.slice ub l.length uc] μ fun v μ'=>xJ (fun y tv=>RepV μ' (.sl 6 ((y.map Ru.rd).map RuD.d)) tv) (aJ p l) v:=by
 have hp0:=hp
 have w_:=Pg.inv hp
 obtain⟨q,rfl,hrl⟩:=w_
 refine Spec.mk Tryz.func148 (by kernel_rfl) ?_
 intro r2
 refine cPl (bY hp0 hw) fun v1 μ1 hle1 hR=>?_
 obtain rfl:=hR
 refine aK (fun h=>rPl (by rw[aJ,if_neg fun k=>h k.1];rfl)) (fun hok=>?_)
 refine cGv (cY (hu.mono hle1) hwu) ?_
 refine aK (fun h=>rPl (by rw[aJ,if_neg fun k=>h k.2];rfl)) (fun huok=>?_)
 obtain⟨U,rfl,hUg,hUl⟩:=huok.lift
 have hgo:aJ p (U.map T.tm)=bK p U:=by rw[aJ,if_pos ⟨hok,huok⟩,bW]
 rw[hgo]
 have hU1:1≤U.length:=by rw[hUl];exact huok.pos
 have hU8:U.length≤8:=by rw[hUl];exact huok.max
 rw[←hUl]at hu ⊢
 clear hgo hUl huok hUg hwu
 have hn:=hok.1
 intro r27
 refine lIn (fun z:Nat×Option Nat×Nat×List Value×Mem=>z.1≤p.rels.length∧μ1.Le z.2.2.2.2∧Rows z.2.2.2.2 6 (((((p.rels.take z.1).flatMap (dJ U)).take 2001).map Ru.rd).map RuD.d) z.2.2.2.1∧∀r∈p.rels.take z.1,r.body.cl≠none∧U.length ^ (r.arity+r.locals).toNat≤4096)
  (fun(i,b,c,ys,μ')=>⟨[(1,.val (.slice ub U.length uc)),(6,.row 1 b ys.length c),(29,.val (.slice q.1 p.rels.length q.2)),(30,.val (.int .i64 p.rels.length)),(31,.val (.int .i64 i))],[(1,some (.row b c 106 6 ys))],2,μ',Mem.nil⟩) (fun z=>p.rels.length-z.1)
  (0,some r27,0,[],μ1) ⟨Nat.zero_le _,Mem.Le.refl _,.nil,by simp⟩ (fun(_,_,_,_,_)=>⟨rfl,rfl⟩) ⟨⟨rfl,rfl,rfl,rfl,rfl,trivial⟩,⟨rfl,trivial⟩,rfl,rfl⟩ ?_
 rintro⟨i,b,c,ys,μ'⟩ ⟨hi,hle,hrows,hways⟩
 dsimp only at hi hle hrows hways
 have hyl:=hrows.len
 simp only[List.length_map]at hyl
 refine ifd (fun hlt=>?_) (fun hlt=>?_)
 rotate_left
 ·obtain rfl : i = p.rels.length := by omega
  rw[List.take_length]at hrows hways hyl
  have hall:(p.rels.flatMap (dJ U))=aN p U:=rfl
  rw[hall]at hrows hyl
  refine ifd (fun hbig=>rPl ?_) (fun hbig=>?_)
  ·rw[bK,if_neg fun k=>by have:=k.2;rw[List.length_take]at hyl;omega];rfl
  ·have hle2 : (aN p U).length ≤ 2000 := qKb (by omega)
   rw[List.take_of_length_le (by omega)]at hrows
   rw[bK,if_pos ⟨hways,hle2⟩]
   refine rFz [1] fun μ2 hle2 hno hat=> .inl ⟨_,rfl,?_⟩
   exact Rows.sl hat (hrows.mono hle2) (Nat.le_trans (m:=100000) (by rw[List.length_take]at hyl;omega) (by decide))
 have w_:=aSo (l:=p.rels) (i:=i) (by omega)
 obtain⟨r,hr⟩:=w_
 have w_:=Rl.elemA ((hrl.mono hle1).mono hle) hr
 obtain⟨ad,q2,hel,hrv,hb⟩:=w_
 have hb:RepV μ' r.body.d (.agg (r.body.cs q2).toArray):=hb
 have hrok:=hok.2 i r hr
 have w_:=Int.eq_ofNat_of_zero_le hrok.ar0
 obtain⟨a,ha⟩:=w_
 have w_:=Int.eq_ofNat_of_zero_le hrok.lo0
 obtain⟨lo,hlo⟩:=w_
 have har4:=hrok.ar4
 have hlo8:=hrok.lo8
 have hnn:(r.arity+r.locals).toNat=a+lo:=by omega
 have hsz:=hrok.size
 refine eIn hel ?_
 intro r8 r35
 refine lIn (fun z:Nat×Option Nat×Nat=>z.1≤a+lo)
  (fun(n,vb,vc)=>⟨[(1,.val (.slice ub U.length uc)),(6,.row 1 b ys.length c),(8,.loc 2 r8 0),(9,.row 3 vb (aD (eB n)).length vc),(10,.val (.int .i64 n)),(29,.val (.slice q.1 p.rels.length q.2)),(30,.val (.int .i64 p.rels.length)),(31,.val (.int .i64 i))],[(1,some (.row b c 106 6 ys)),(2,some (.cells r8 [.val (.string r.name),.val (.int .i64 r.arity),.val (.int .i64 r.locals),.val (.int .i64 r.body.kind),.val (.string r.body.name),.val (.slice q2.1.1 r.body.terms.length q2.1.2),.val (.slice q2.2.1 r.body.goals.length q2.2.2)] 63)),(3,some (.row vb vc 3 1 (aD (eB n))))],4,μ',Mem.nil⟩) (fun z=>a+lo-z.1)
  (0,some r35,0) (Nat.zero_le _) (fun(_,_,_)=>⟨rfl,rfl⟩) ⟨⟨rfl,rfl,rfl,rfl,rfl,rfl,rfl,rfl,trivial⟩,⟨rfl,rfl,rfl,trivial⟩,rfl,rfl⟩ ?_
 rintro⟨n,vb,vc⟩ hn2
 dsimp only at hn2
 have hil:(aD (eB n)).length=n:=by rw[aD,List.length_map,kA]
 refine nEq (x:=((a+lo:Nat):Int)) (by rw[aA (by omega) (by omega)];omega) ?_
 refine ifd (fun h2=>?_) (fun h2=>?_)
 ·intro r47
  refine gIn ?_ ?_ fun b' c' _=>?_
  ·show(_+1)*8≤_;omega
  ·exact Nat.le_trans (m:=1000) (show _+1≤_ by omega) (by decide)
  have ez:aD (eB (n+1))=aD (eB n)++[.int .i64 (n:Int)]:=by simp[aD,eB,List.range_succ]
  refine aB (by omega) (by omega) ⟨(n+1,b',c'),by dsimp only;omega,by dsimp only;omega,?_⟩
  dsimp only
  rw[ez]
  exact⟨⟨rfl,rfl,rfl,by rw[List.length_append];rfl,rfl,rfl,rfl,rfl,trivial⟩,⟨rfl,rfl,rfl,trivial⟩,rfl,rfl⟩
 obtain rfl:n=a+lo:=by omega
 refine cPl (yM hb (rel_wd hw hr) ⟨hrok.body,by omega⟩) fun v3 μ3 hle3 hR3=>?_
 have hwsp:=iG (μ:=μ3) (size:=U.length) (n:=(aD (eB (a+lo))).length) (most:=4096) hU1 hU8 (by omega) (by omega) (by omega)
 cases hL:r.body.cl with
 |none=>
  rw[hL]at hR3
  obtain rfl:=hR3
  refine cPl hwsp fun v4 μ4 hle4 hR4=>?_
  obtain⟨⟨W,rfl,_,_⟩,rfl⟩:=hR4
  refine iIn (fun _=>rPl ?_) (fun h=>nomatch h)
  rw[bK,if_neg fun k=>(k.1 r (mAt hr)).1 hL];rfl
 |some L=>
 rw[hL]at hR3
 obtain⟨tv,rfl,hLr⟩:=hR3
 obtain⟨pv,rfl⟩:=hLr.inv
 refine cPl hwsp fun v4 μ4 hle4 hR4=>?_
 obtain⟨⟨W,rfl,hW1,hW2⟩,e4⟩:=hR4
 obtain rfl:=e4.symm
 rw[hil]at hW1 hW2
 refine iIn (fun h=>nomatch h) (fun _=>?_)
 refine ifd (fun hbig=>rPl ?_) (fun hsmall=>?_)
 ·rw[bK,if_neg fun k=>by
   have h1:=(k.1 r (mAt hr)).2
   rw[hnn]at h1
   have:=hW1 h1
   omega];rfl
 have hWle:U.length ^ (a+lo)≤4096:=Nat.le_of_not_lt fun h=>by have:=hW2 h;omega
 have w_:=hW1 hWle
 obtain rfl:=w_
 have hLs:=(Cls.sl hLr).1
 have hLb:=Gl.cl_bnd r.body hL
 generalize hpre:(p.rels.take i).flatMap (dJ U)=pre at*
 refine lFz (fun z:Nat×Option Nat×Nat×List Value×Mem×(Option Nat×Nat)=>z.1≤L.length∧μ3.Le z.2.2.2.2.1∧Sl z.2.2.2.2.1 1 (z.2.2.2.2.2.1.map fun r=>(⟨r,0,none⟩:Addr)) (a+lo) ((eB (a+lo)).map D.i)∧Rows z.2.2.2.2.1 6 ((((pre++bO U r L z.1).take 2001).map Ru.rd).map RuD.d) z.2.2.2.1)
  (fun(k,b,c,ys,μ',vb,vc)=>⟨[(1,.val (.slice ub U.length uc)),(6,.row 1 b ys.length c),(8,.loc 2 r8 0),(9,.val (.slice (vb.map fun r=>(⟨r,0,none⟩:Addr)) (aD (eB (a+lo))).length vc)),(13,.val (.int .i64 ((U.length ^ (a+lo):Nat):Int))),(29,.val (.slice q.1 p.rels.length q.2)),(30,.val (.int .i64 p.rels.length)),(31,.val (.int .i64 i)),(66,.val (.slice pv.1 L.length pv.2)),(67,.val (.int .i64 L.length)),(68,.val (.int .i64 k))],[(1,some (.row b c 106 6 ys)),(2,some (.cells r8 [.val (.string r.name),.val (.int .i64 r.arity),.val (.int .i64 r.locals),.val (.int .i64 r.body.kind),.val (.string r.body.name),.val (.slice q2.1.1 r.body.terms.length q2.1.2),.val (.slice q2.2.1 r.body.goals.length q2.2.2)] 63))],4,μ',Mem.nil⟩) (fun z=>L.length-z.1) [3]
  (fun(_,_,_,_,_,_,_)=>⟨rfl,rfl⟩) ?_ ?_
 ·intro μf hlef hnof hatf
  have hsl:=Ints.sl hatf (Nat.le_trans (m:=1000) (by rw[kA];omega) (by decide))
  rw[hil]at hsl
  have w_:=Rep.sl hsl
  obtain⟨bz,cz,ez,hzs⟩:=w_
  have w_:=Value.slice.inj ez
  obtain⟨e1,_,_⟩:=w_
  rw[←e1,List.length_map,kA]at hzs
  refine⟨(0,b,c,ys,μf,vb,vc),⟨Nat.zero_le _,hlef,hzs,?_⟩,⟨⟨rfl,rfl,rfl,rfl,rfl,rfl,rfl,rfl,rfl,rfl,rfl,trivial⟩,⟨rfl,rfl,trivial⟩,rfl,rfl⟩⟩
  have e0:pre++bO U r L 0=pre:=by simp[bO]
  dsimp only
  rw[e0]
  exact(hrows.mono hle3).mono hlef
 clear hrows hyl hil
 rintro⟨k,b,c,ys,μ5,vb,vc⟩ ⟨hk,hle5,hvs,hrows⟩
 dsimp only at hk hle5 hvs hrows
 have hil:(aD (eB (a+lo))).length=a+lo:=by rw[aD,List.length_map,kA]
 refine ifd (fun hltk=>?_) (fun hltk=>?_)
 rotate_left
 ·obtain rfl : k = L.length := by omega
  refine aB (by omega) (by omega) ⟨(i+1,b,c,ys,μ5),⟨by dsimp only;omega,(hle.trans hle3).trans hle5,?_,?_⟩,by dsimp only;omega,⟨⟨rfl,rfl,rfl,rfl,rfl,trivial⟩,⟨rfl,trivial⟩,rfl,rfl⟩⟩
  ·dsimp only
   rw[nV hr,hpre]
   have e:dJ U r=bO U r L L.length:=by rw[dJ,hL]
   rw[e];exact hrows
  ·dsimp only
   intro x hx
   rw[List.take_add_one,hr,Option.toList_some]at hx
   rcases List.mem_append.1 hx with hx|hx
   ·exact hways x hx
   ·rw [List.mem_singleton.1 hx, hL, hnn]
    exact⟨(fun h=>nomatch h),hWle⟩
 have w_:=aSo (l:=L) (i:=k) (by omega)
 obtain⟨cl,hcl⟩:=w_
 have w_:=mR (hLs.mono hle5) hcl
 obtain⟨adc,pc,helc,hrc⟩:=w_
 have hcs:Sl μ5 4 pc.1 cl.length (cl.map Gl.d):=by
  have w_:=Rep.sl (xs:=cl.map Gl.d) hrc
  obtain⟨b',c',e1,hs⟩:=w_
  have w_:=Value.slice.inj e1
  obtain⟨rfl,_,_⟩:=w_
  simpa using hs
 have hcb:=hLb.1 cl (mAt hcl)
 have hG:∀g∈cl,ClG g:=fun g hg=>ClG.of hok hr hL (mAt hcl) hg
 refine eIn helc ?_
 refine lIn (fun z:Nat×Option Nat×Nat×List Value×Mem=>z.1≤U.length ^ (a+lo)∧μ5.Le z.2.2.2.2∧Rows z.2.2.2.2 6 ((((pre++bO U r L k++cH U r k cl z.1).take 2001).map Ru.rd).map RuD.d) z.2.2.2.1)
  (fun(w,b,c,ys,μ')=>⟨[(1,.val (.slice ub U.length uc)),(6,.row 1 b ys.length c),(8,.loc 2 r8 0),(9,.val (.slice (vb.map fun r=>(⟨r,0,none⟩:Addr)) (aD (eB (a+lo))).length vc)),(13,.val (.int .i64 ((U.length ^ (a+lo):Nat):Int))),(14,.val (.int .i64 k)),(15,.val (.slice pc.1 cl.length pc.2)),(16,.val (.int .i64 (w:Nat))),(29,.val (.slice q.1 p.rels.length q.2)),(30,.val (.int .i64 p.rels.length)),(31,.val (.int .i64 i)),(66,.val (.slice pv.1 L.length pv.2)),(67,.val (.int .i64 L.length)),(68,.val (.int .i64 k))],[(1,some (.row b c 106 6 ys)),(2,some (.cells r8 [.val (.string r.name),.val (.int .i64 r.arity),.val (.int .i64 r.locals),.val (.int .i64 r.body.kind),.val (.string r.body.name),.val (.slice q2.1.1 r.body.terms.length q2.1.2),.val (.slice q2.2.1 r.body.goals.length q2.2.2)] 63))],4,μ',Mem.nil⟩) (fun z=>U.length ^ (a+lo)-z.1)
  (0,b,c,ys,μ5) ⟨Nat.zero_le _,Mem.Le.refl _,by simpa[cH]using hrows⟩ (fun(_,_,_,_,_)=>⟨rfl,rfl⟩) ⟨⟨rfl,rfl,rfl,rfl,rfl,rfl,rfl,rfl,rfl,rfl,rfl,rfl,rfl,rfl,trivial⟩,⟨rfl,rfl,trivial⟩,rfl,rfl⟩ ?_
 clear hrows
 rintro⟨w,b,c,ys,μ6⟩ ⟨hw6,hle6,hrows⟩
 dsimp only at hw6 hle6 hrows
 have hyl:=hrows.len
 simp only[List.length_map]at hyl
 have done:(pre++bO U r L k++cH U r k cl w).take 2001=(pre++bO U r L (k+1)).take 2001→∃i':Nat×Option Nat×Nat×List Value×Mem×(Option Nat×Nat),i'=(k+1,b,c,ys,μ6,vb,vc)∧(k+1≤L.length∧μ3.Le μ6∧Sl μ6 1 (vb.map fun r=>(⟨r,0,none⟩:Addr)) (a+lo) ((eB (a+lo)).map D.i)∧Rows μ6 6 ((((pre++bO U r L (k+1)).take 2001).map Ru.rd).map RuD.d) ys):=fun e=>
  ⟨_,rfl,by omega,hle5.trans hle6,hvs.mono hle6,by rw[←e];exact hrows⟩
 have hsucc:=nU (U:=U) (r:=r) hcl
 rw[hnn]at hsucc
 refine ifd (fun hltw=>?_) (fun hltw=>?_)
 rotate_left
 ·obtain rfl : w = U.length ^ (a + lo) := by omega
  have w_:=done (by rw[hsucc,List.append_assoc])
  obtain⟨i',rfl,hI⟩:=w_
  exact aB (by omega) (by omega) ⟨[],(k+1,b,c,ys,μ6,vb,vc),hI,by dsimp only;omega,⟨⟨rfl,rfl,rfl,rfl,rfl,rfl,rfl,rfl,rfl,rfl,rfl,trivial⟩,⟨rfl,rfl,trivial⟩,rfl,rfl⟩⟩
 refine ifd (fun hroom=>?_) (fun hroom=>?_)
 rotate_left
 ·have w_ := oF (U := U) (r := r) (i := k) (c := cl) (w := w) (U.length ^ (a + lo) - w)
  obtain⟨X,hX⟩:=w_
  rw[show w+(U.length ^ (a+lo)-w)=U.length ^ (a+lo) by omega]at hX
  obtain⟨i',rfl,hI⟩:=done (by
   rw[hsucc,hX,←List.append_assoc,←List.append_assoc]
   exact(qQd (by omega)).symm)
  exact aB (by omega) (by omega) ⟨[],(k+1,b,c,ys,μ6,vb,vc),hI,by dsimp only;omega,⟨⟨rfl,rfl,rfl,rfl,rfl,rfl,rfl,rfl,rfl,rfl,rfl,trivial⟩,⟨rfl,rfl,trivial⟩,rfl,rfl⟩⟩
 have hA:=qKb (A:=pre++bO U r L k++cH U r k cl w) (by omega)
 have hA1:(pre++bO U r L k++cH U r k cl w).take 2001=pre++bO U r L k++cH U r k cl w:=List.take_of_length_le (by omega)
 rw[hA1]at hrows hyl
 have hnext:=rN U r k cl w
 have hu6:=(((hu.mono hle1).mono hle).mono hle3).mono (hle5.trans hle6)
 have hvals:=fG (uc:=uc) (vc:=vc) (n:=a+lo) (w:=w) hu6 (by omega) hU8 (hvs.mono hle6) (by omega) (by omega)
 rw[←hil]at hvals
 refine cPl hvals fun v7 μ7 hle7 hR7=>?_
 rw[hil]at hR7
 have w_:=Rep.sl hR7
 obtain⟨b7,c7,e7,hs7⟩:=w_
 simp only[List.length_map,fI]at e7 hs7
 subst e7
 have hdl:=cV U (a+lo) w
 have hrv7:=(hrv.mono hle3).mono ((hle5.trans hle6).trans hle7)
 refine cPl (qGa (i:=k) (vs:=cN U (a+lo) w) (a:=a) hrv7 ha (by omega) (by omega) ((hcs.mono hle6).mono hle7) (by omega) hG hs7) fun v8 μ8 hle8 hR8=>?_
 obtain⟨ru,rv,rfl,hrr,hru⟩:=hR8
 have w_:=Ru.inv hrr
 obtain⟨pr,rfl,h81,h82,h83,h84⟩:=w_
 intro r17
 have hu8:=(hu6.mono hle7).mono hle8
 have hmono:=(hle6.trans hle7).trans hle8
 have skip:¬(∀g∈cl,okG U (cN U (a+lo) w) g)→Rows μ8 6 ((((pre++bO U r L k++cH U r k cl (w+1)).take 2001).map Ru.rd).map RuD.d) ys:=fun h=>by
  rw[hnext,gT,hnn,if_neg h,Option.toList_none,List.append_nil,hA1]
  exact(hrows.mono hle7).mono hle8
 refine ifd (fun hS=>?_) (fun hS=>?_)
 rotate_left
 ·exact aB (by omega) (by omega) ⟨(w+1,b,c,ys,μ8),⟨by dsimp only;omega,hmono,skip fun k=>hS (okG_iff.1 k).1⟩,by dsimp only;omega,⟨⟨rfl,rfl,rfl,rfl,rfl,rfl,rfl,rfl,rfl,rfl,rfl,rfl,rfl,rfl,trivial⟩,⟨rfl,rfl,trivial⟩,rfl,rfl⟩⟩
 have w_:=hru hS
 obtain rfl:=w_
 refine cGv (mV hu8 h83) ?_
 refine ifd (fun hP=>?_) (fun hP=>?_)
 rotate_left
 ·exact aB (by omega) (by omega) ⟨(w+1,b,c,ys,μ8),⟨by dsimp only;omega,hmono,skip fun k=>hP (okG_iff.1 k).2.1⟩,by dsimp only;omega,⟨⟨rfl,rfl,rfl,rfl,rfl,rfl,rfl,rfl,rfl,rfl,rfl,rfl,rfl,rfl,trivial⟩,⟨rfl,rfl,trivial⟩,rfl,rfl⟩⟩
 refine cGv (mV hu8 h84) ?_
 refine ifd (fun hN=>?_) (fun hN=>?_)
 rotate_left
 ·exact aB (by omega) (by omega) ⟨(w+1,b,c,ys,μ8),⟨by dsimp only;omega,hmono,skip fun k=>hN (okG_iff.1 k).2.2⟩,by dsimp only;omega,⟨⟨rfl,rfl,rfl,rfl,rfl,rfl,rfl,rfl,rfl,rfl,rfl,rfl,rfl,rfl,trivial⟩,⟨rfl,rfl,trivial⟩,rfl,rfl⟩⟩
 have hOk:=okG_iff.2 ⟨hS,hP,hN⟩
 have lens:(kB r k cl (cN U (a+lo) w)).vals.length≤12∧(kB r k cl (cN U (a+lo) w)).head.args.length≤12∧(kB r k cl (cN U (a+lo) w)).pos.length≤1000∧(kB r k cl (cN U (a+lo) w)).neg.length≤1000:=by
  refine⟨by show(cN U (a+lo) w).length≤12;omega,by show((cN U (a+lo) w).take _).length≤12;rw[List.length_take];omega,?_,?_⟩
  ·have := qGo (vs := cN U (a + lo) w) (c := cl)
   show(uC _ cl).length≤1000;omega
  ·have := qNi (vs := cN U (a + lo) w) (c := cl)
   show(pZ _ cl).length≤1000;omega
 have lpos:∀f∈(kB r k cl (cN U (a+lo) w)).pos,f.args.length≤4:=qJm hG
 have lneg:∀f∈(kB r k cl (cN U (a+lo) w)).neg,f.args.length≤4:=qRv hG
 have hat1:gT U r k cl w=some (kB r k cl (cN U (a+lo) w)):=by rw[gT,hnn,if_pos hOk]
 generalize kB r k cl (cN U (a+lo) w)=R at*
 refine cPl (dG h82 (by omega)) fun v9 μ9 hle9 hR9=>?_
 have w_:=Rep.sl hR9
 obtain⟨b9,c9,e,hs9⟩:=w_
 simp only[List.length_map]at e hs9
 subst e
 refine cPl (dG (h81.mono hle9) (by omega)) fun v10 μ10 hle10 hR10=>?_
 have w_:=Rep.sl hR10
 obtain⟨b10,c10,e,hs10⟩:=w_
 simp only[List.length_map]at e hs10
 subst e
 refine cPl (eK ((h83.mono hle9).mono hle10) (by omega) (fun f hf=>by have:=lpos f hf;omega)) fun v11 μ11 hle11 hR11=>?_
 have w_:=Rep.sl hR11
 obtain⟨b11,c11,e,hs11⟩:=w_
 simp only[List.length_map]at e hs11
 subst e
 refine cPl (eK (((h84.mono hle9).mono hle10).mono hle11) (by omega) (fun f hf=>by have:=lneg f hf;omega)) fun v12 μ12 hle12 hR12=>?_
 have w_:=Rep.sl hR12
 obtain⟨b12,c12,e,hs12⟩:=w_
 simp only[List.length_map]at e hs12
 subst e
 intro r127
 refine gIn ?_ ?_ fun b' c' _=>?_
 ·show(ys.length+1)*120≤_;omega
 ·exact Nat.le_trans (m:=100000) (show ys.length+1≤_ by omega) (by decide)
 refine aB (by omega) (by omega) ⟨(w+1,b',c',_,μ12),⟨by dsimp only;omega,hmono.trans (((hle9.trans hle10).trans hle11).trans hle12),?_⟩,by dsimp only;omega,⟨⟨rfl,rfl,rfl,rfl,rfl,rfl,rfl,rfl,rfl,rfl,rfl,rfl,rfl,rfl,trivial⟩,⟨rfl,rfl,trivial⟩,rfl,rfl⟩⟩
 dsimp only
 have hlen2:(pre++bO U r L k++cH U r k cl w++[R]).length≤2001:=by
  rw[List.length_append]
  simp only[List.length_singleton]
  omega
 rw[hnext,hat1,Option.toList_some,←List.append_assoc,List.take_of_length_le hlen2,List.map_append,List.map_append]
 refine((((((hrows.mono hle7).mono hle8).mono hle9).mono hle10).mono hle11).mono hle12).append (Rows.one ?_ (RuD.d_n _))
 exact Ru.mkV (((hR10.mono hle11).mono hle12)) (((hR9.mono hle10).mono hle11).mono hle12) (hR11.mono hle12) hR12
end
end Go.Vx
namespace Go.Vx
open Go.Proofs Classical
def fC(p:Pg)(u:List Tm)(b:List Fc):Prop:=
 aJ p u≠none∧p.Pos∧(∀f∈b,FactFits p f)∧(∀f∈b.map Fc.f,∀a∈f.args,a∈u.map Tm.toT)∧AscF (b.map Fc.f) b.length
noncomputable def aU(p:Pg)(u:List Tm):Option (List Ru):=if p.Pos then aJ p u else none
section
variable {μ:Mem}
theorem mT{p:Pg}{U:List T}{f:Fc}{ub lb:Option Addr}{uc lc:Nat}(hf:FactFits p f)(hu:Sl μ 4 ub U.length ((U.map T.tm).map Tm.d))(hl:Sl μ 4 lb f.args.length (f.args.map Tm.d)):
  aP Tryz.prog 131 [.slice ub U.length uc,.slice lb f.args.length lc] μ (.bool (decide (∀a∈f.f.args,a∈U))):=by
 have e:f.args=f.f.args.map T.tm:=(congrArg Fc.args hf.lift.1).symm
 have el:f.args.length=f.f.args.length:=(List.length_map ..).symm
 rw[el]at hl ⊢
 rw[e]at hl
 exact iY hu hl
theorem eS{p:Pg}{U:List T}{b:List Fc}{v:Value}{ub fb:Option Addr}{uc fc:Nat}(hp:RepV μ p.d v)(hu:Sl μ 4 ub U.length ((U.map T.tm).map Tm.d))(hb:Sl μ 2 fb b.length (b.map Fc.d)):
  aP Tryz.prog 58 [v,.slice ub U.length uc,.slice fb b.length fc] μ (.bool (decide ((∀f∈b,FactFits p f)∧(∀f∈b.map Fc.f,∀a∈f.args,a∈U)∧AscF (b.map Fc.f) b.length))):=by
 have hp0:=hp
 have w_:=Pg.inv hp
 obtain⟨q0,rfl,hrl⟩:=w_
 have hn:=aH hb.max
 refine Spec.forget (Spec.mk Tryz.func58 (by kernel_rfl) ?_)
 intro r3
 refine lIn (fun i:Nat=>i≤b.length∧(∀f∈b.take i,FactFits p f∧∀a∈f.f.args,a∈U)∧AscF (b.map Fc.f) i)
  (fun i=>⟨[(1,.val (.slice ub U.length uc)),(2,.val (.slice fb b.length fc)),(3,.loc 0 r3 0),(9,.val (.slice fb b.length fc)),(10,.val (.int .i64 b.length)),(11,.val (.int .i64 i))],[(0,some (.cells r3 [.val (.slice q0.1 p.rels.length q0.2)] 25))],1,μ,Mem.nil⟩) (fun i=>b.length-i)
  0 ⟨Nat.zero_le _,by simp,fun j x y hj _ _=>by omega⟩ (fun _=>⟨rfl,rfl⟩) ⟨⟨rfl,rfl,rfl,rfl,rfl,rfl,trivial⟩,⟨rfl,trivial⟩,rfl,rfl⟩ ?_
 rintro i ⟨hi,hall,hasc⟩
 refine ifd (fun hlt=>?_) (fun hlt=>?_)
 ·have w_ := aSo (l := b) (i := i) (by omega)
  obtain⟨f,hf⟩:=w_
  have hfm:=mAt hf
  have w_:=Fc.elemA hb hf
  obtain⟨ad,q,hel,hrf,hA⟩:=w_
  have hA:Sl μ 4 q.1 f.args.length (f.args.map Tm.d):=hA
  refine eIn hel ?_
  intro r8
  refine cGv (gB hp0 hrf) ?_
  refine aK (fun h=>rPl (isF fun k=>h (k.1 f hfm))) (fun hfit=>?_)
  refine cGv (mT hfit hu hA) ?_
  refine aK (fun h=>rPl (isF fun k=>h (k.2.1 f.f (List.mem_map_of_mem hfm)))) (fun hin=>?_)
  have hall':∀x∈b.take (i+1),FactFits p x∧∀a∈x.f.args,a∈U:=by
   rw[List.take_add_one,hf,Option.toList_some]
   intro y hy
   rcases List.mem_append.1 hy with hy|hy
   ·exact hall y hy
   ·rw[List.mem_singleton.1 hy];exact⟨hfit,hin⟩
  have hfe:(b.map Fc.f)[i]? =some f.f:=by rw[List.getElem?_map,hf];rfl
  refine ifd (fun hi0=>?_) (fun hi0=>?_)
  ·have w_ := aSo (l := b) (i := i - 1) (by omega)
   obtain⟨g,hg⟩:=w_
   have w_:=Fc.elemA hb hg
   obtain⟨ad',q',hel',hrg,_⟩:=w_
   have hgfit:=(hall g (by rw[List.mem_iff_getElem?];exact⟨i-1,by rw[List.getElem?_take,if_pos (by omega)];exact hg⟩)).1
   have hge:(b.map Fc.f)[i-1]? =some g.f:=by rw[List.getElem?_map,hg];rfl
   refine aB (by omega) (by omega) ?_
   refine eIn (by rw[show((i:Int)-1)=((i-1:Nat):Int) by omega];exact hel') ?_
   refine cGv (dH (f:=g.f) (g:=f.f) (by rw[hgfit.lift.1];exact hrg) (by rw[hfit.lift.1];exact hrf)) ?_
   refine ifd (fun hc=>rPl (isF fun k=>?_)) (fun hc=>?_)
   ·have := k.2.2 (i - 1) g.f f.f (by omega) hge (by rw [show i - 1 + 1 = i by omega]; exact hfe)
    omega
   ·refine aB (by omega) (by omega) ⟨i + 1, ⟨by omega, hall', hasc.next fun x y _ hx hy => ?_⟩, by omega, ⟨⟨rfl, rfl, rfl, rfl, rfl, rfl, trivial⟩, ⟨rfl, trivial⟩, rfl, rfl⟩⟩
    rw[hge]at hx;rw[hfe]at hy;cases hx;cases hy
    omega
  ·exact aB (by omega) (by omega) ⟨i+1,⟨by omega,hall',hasc.next fun x y h0 _ _=>by omega⟩,by omega,⟨⟨rfl,rfl,rfl,rfl,rfl,rfl,trivial⟩,⟨rfl,trivial⟩,rfl,rfl⟩⟩
 ·obtain rfl : i = b.length := by omega
  rw[List.take_length]at hall
  refine rPl (isT ⟨fun f hf=>(hall f hf).1,fun f hf=>?_,hasc⟩)
  have w_:=List.mem_map.1 hf
  obtain⟨x,hx,rfl⟩:=w_
  exact(hall x hx).2
theorem cT{p:Pg}{u:List Tm}{v:Value}{ub:Option Addr}{uc:Nat}(hp:RepV μ p.d v)(hu:Sl μ 4 ub u.length (u.map Tm.d)):
  Spec Tryz.prog 57 [v,.slice ub u.length uc] μ fun v μ'=>xJ (fun y tv=>RepV μ' (.sl 6 ((y.map Ru.rd).map RuD.d)) tv) (aU p u) v:=by
 have hp0:=hp
 have w_:=Pg.inv hp
 obtain⟨q,rfl,hrl⟩:=w_
 refine Spec.mk Tryz.func57 (by kernel_rfl) ?_
 intro r2
 refine cPl (cW hp0) fun v1 μ1 hle1 hR=>?_
 obtain rfl:=hR
 refine aK (fun h=>rPl (by rw[aU,if_neg h];rfl)) (fun hpos=>?_)
 refine cGv (cA (hu.mono hle1)) ?_
 refine aK (fun h=>rPl (by rw[aU,if_pos hpos,aJ,if_neg fun k=>h k.2];rfl)) (fun huok=>?_)
 have w_:=huok.lift
 obtain⟨U,rfl,hUg,hUl⟩:=w_
 have hgo:aU p (U.map T.tm)=bK p U:=by rw[aU,if_pos hpos,aJ,if_pos ⟨hpos.1,huok⟩,bW]
 rw[hgo]
 have h1:=huok.pos
 have h8:=huok.max
 rw[List.length_map]at h1 h8 hu ⊢
 refine cPl (dM (hp0.mono hle1) hpos.1 (hu.mono hle1) h1 h8) fun v2 μ2 hle2 hR=>?_
 cases hL:bK p U with
 |none=>
  rw[hL]at hR
  obtain rfl:=hR
  exact rPl rfl
 |some y=>
  rw[hL]at hR
  obtain⟨tv,rfl,hR⟩:=hR
  exact rPl ⟨tv,rfl,hR⟩
theorem kN{p:Pg}{u:List Tm}{b:List Fc}{v:Value}{ub fb:Option Addr}{uc fc:Nat}(hp:RepV μ p.d v)(hw:p.d.wd)(hu:Sl μ 4 ub u.length (u.map Tm.d))(hwu:D.wds (u.map Tm.d))(hb:Sl μ 2 fb b.length (b.map Fc.d))(hwb:D.wds (b.map Fc.d)):
  Spec Tryz.prog 147 [v,.slice ub u.length uc,.slice fb b.length fc] μ fun r _=>r= .bool (decide (fC p u b)):=by
 have hp0:=hp
 have w_:=Pg.inv hp
 obtain⟨q,rfl,hrl⟩:=w_
 refine Spec.mk Tryz.func147 (by kernel_rfl) ?_
 intro r3
 refine cPl (kH hp0 hw hu hwu) fun v1 μ1 hle1 hR=>?_
 cases hL:aJ p u with
 |none=>
  rw[hL]at hR
  obtain rfl:=hR
  exact iIn (fun _=>rPl (isF fun k=>k.1 hL)) (fun h=>nomatch h)
 |some y=>
  rw[hL]at hR
  obtain⟨tv,rfl,hR⟩:=hR
  have hok:=bB hL
  have w_:=hok.2.lift
  obtain⟨U,rfl,hUg,hUl⟩:=w_
  refine iIn (fun h=>nomatch h) (fun _=>?_)
  refine cPl (lG (hp0.mono hle1) hw) fun v2 μ2 hle2 hR2=>?_
  obtain rfl:=hR2
  refine aK (fun h=>rPl (isF fun k=>h k.2.1)) (fun hpos=>?_)
  have hle12:=hle1.trans hle2
  refine cPl (qJ (hp0.mono hle12) hw (hb.mono hle12) hwb) fun v3 μ3 hle3 hR3=>?_
  obtain rfl:=hR3
  refine aK (fun h=>rPl (isF fun k=>h fun f hf=>⟨hok.1,k.2.2.1 f hf⟩)) (fun hfit=>?_)
  have hfit:∀f∈b,FactFits p f:=fun f hf=>(hfit f hf).2
  have hbl:=cE hfit
  generalize hLe:b.map Fc.f=L at hbl
  subst hbl
  have hle:=hle12.trans hle3
  have hu':=hu
  have hb':=hb
  rw[List.length_map]at hu' hb' ⊢
  rw[List.length_map]
  have hn:=aH hb'.max
  refine cGv (mV (hu'.mono hle) (hb'.mono hle)) ?_
  refine aK (fun h=>rPl (isF fun k=>h ?_)) (fun hin=>?_)
  ·have := k.2.2.2.1
   rw[F.fcs,bW]at this
   exact this
  have hBP:AscF L L.length→fC p (U.map T.tm) (L.map F.fc):=fun k=>⟨by rw[hL];exact(fun h=>nomatch h),hpos,hfit,by rw[F.fcs,bW];exact hin,by rw[F.fcs,List.length_map];exact k⟩
  have hBN:fC p (U.map T.tm) (L.map F.fc)→AscF L L.length:=fun k=>by have:=k.2.2.2.2;rwa [F.fcs,List.length_map]at this
  refine lIn (fun i:Nat=>1≤i∧(i≤L.length∨i=1)∧AscF L i)
   (fun i=>⟨[(2,.val (.slice fb L.length fc)),(9,.val (.int .i64 i))],[],1,μ3,Mem.nil⟩) (fun i=>L.length-i)
   1 ⟨Nat.le_refl _,.inr rfl,fun j x y hj _ _=>by omega⟩ (fun _=>⟨rfl,rfl⟩) ⟨⟨rfl,rfl,trivial⟩,trivial,rfl,rfl⟩ ?_
  rintro i ⟨hi1,hi,hasc⟩
  refine ifd (fun hlt=>?_) (fun hlt=>?_)
  ·have w_ := aSo (l := L) (i := i) (by omega)
   obtain⟨f,hf⟩:=w_
   have w_:=aSo (l:=L) (i:=i-1) (by omega)
   obtain⟨g,hg⟩:=w_
   have w_:=F.elem (hb'.mono hle) hf
   obtain⟨ad,q1,hel,hrf,_⟩:=w_
   have w_:=F.elem (hb'.mono hle) hg
   obtain⟨ad',q2,hel',hrg,_⟩:=w_
   refine aB (by omega) (by omega) ?_
   refine eIn (by rw[show((i:Int)-1)=((i-1:Nat):Int) by omega];exact hel') ?_
   refine eIn hel ?_
   refine cGv (cJ hrg hrf) ?_
   refine ifd (fun hc=>rPl (isF fun k=>?_)) (fun hc=>?_)
   ·have := hBN k (i - 1) g f (by omega) hg (by rw [show i - 1 + 1 = i by omega]; exact hf)
    omega
   ·refine aB (by omega) (by omega) ⟨i + 1, ⟨by omega, .inl (by omega), hasc.next fun x y _ hx hy => ?_⟩, by omega, ⟨⟨rfl, rfl, trivial⟩, trivial, rfl, rfl⟩⟩
    rw[hg]at hx;rw[hf]at hy;cases hx;cases hy
    omega
  ·refine rPl (isT (hBP ?_))
   rcases Nat.lt_or_ge L.length i with h6|h6
   ·exact fun j x y hj _ _=>by omega
   ·obtain rfl : i = L.length := by omega
    exact hasc
end
end Go.Vx
namespace Go.Vx
open Go.Proofs Classical
theorem kI{a b:List F}(h:∀x,x∈a↔x∈b):dA a=dA b:=qHr cmpF_ord (rX _ _) fun x=>by rw[oI,h]
theorem yC{L:List F}(h:Asc3 bC L):dA L=L:=(qHr cmpF_ord h fun _=>Iff.rfl).symm
theorem cC(L:List F)(f:F):(aX L f).length≤L.length+1:=fT _
theorem jV{L:List F}{f:F}(hL:Asc3 bC L)(h:f∈L):aX L f=L:=(hL.uniq cmpF_ord (fX L f) fun x=>by
 rw[mem_insF]
 exact⟨.inr,fun k=>k.elim (fun e=>e ▸ h) id⟩).symm
theorem gE{L:List F}{f:F}{k:Nat}(hL:Asc3 bC L)(h1:∀x∈L.take k,bC x f<0)(h2:∀x∈L.drop k,bC f x<0):L.take k++f::L.drop k=aX L f:=by
 refine Asc3.uniq cmpF_ord ?_ (fX L f) fun x=>?_
 ·have := hL.ins cmpF_ord h1 h2
  simpa[tC]using this
 ·rw [mem_insF, List.mem_append, List.mem_cons]
  have:x∈L↔x∈L.take k∨x∈L.drop k:=by rw[←List.mem_append,List.take_append_drop]
  rw[this]
  constructor
  ·rintro (h | h | h)
   ·exact .inr (.inl h)
   ·exact .inl h
   ·exact .inr (.inr h)
  ·rintro (h | h | h)
   ·exact .inr (.inl h)
   ·exact .inl h
   ·exact .inr (.inr h)
theorem lA{rs:List Ru}{pos neg:List F}{i:Nat}{r:Ru}(h:rs[i]? =some r):dI rs pos neg (i+1)=dI rs pos neg i++(if lQ pos neg r then [r.head]else []):=by
 rw[dI,List.take_add_one,h,Option.toList_some,List.filter_append,List.map_append,←dI]
 congr 1
 by_cases k:lQ pos neg r<;>simp[k]
section
variable {rs:List Ru} {S out:List F}
end
theorem qKv(rs:List Ru)(out:List F):dA (out++cO rs out [])=qI rs out:=Asc3.uniq cmpF_ord (cU _) (cU _) fun f=>by
 show _↔f∈qI rs out
 rw[mem_growF,mem_ascF,List.mem_append,mem_nextF]
 constructor
 ·rintro (h | ⟨r, h1, h2, h3⟩)
  ·exact .inl h
  ·exact .inr ⟨r,h1,h2.1,h3⟩
 ·rintro (h | ⟨r, h1, h2, h3⟩)
  ·exact .inl h
  ·exact .inr ⟨r,h1,⟨h2,fun _ _ k=>nomatch k⟩,h3⟩
section
variable {rs:List Ru} {base out:List F}
end
section
variable {rs:List Ru} {model B out:List F}
theorem qPl:mZ rs model []=[]:=by
 have no:∀x,¬Over rs model [] x:=fun x h=>by
  induction h with
  |self k=>cases k
  |rule _ _ _ _ ih=>exact ih
 exact(OvI.done (B:=[]) ⟨List.Pairwise.nil,(fun _ h=>nomatch h),(fun _ h=>nomatch h)⟩ fun r _ _ ⟨y,_,h⟩=>nomatch h).symm
end
theorem qDn{L:List F}{f:F}(hL:Asc3 bC L)(h:f∉L):L.length<(aX L f).length:=
 mP cmpF_ord hL (fX L f) (fun x hx=>mem_insF.2 (.inr hx)) fun e=>h (qBa (hL.nodup cmpF_ord) (fun x hx=>mem_insF.2 (.inr hx)) (by omega) f (mem_insF.2 (.inl rfl)))
end Go.Vx
namespace Go.Vx
open Go.Proofs Classical
section
variable {μ:Mem}
theorem dP{L:List F}{f:F}{v w:Value}(hL:Asc3 bC L)(h:FsV μ L v)(hf:RepV μ f.fc.d w)(hn:L.length≤10000000):
  Spec Tryz.prog 73 [v,w] μ fun r μ'=>FsV μ' (aX L f) r:=by
 have w_:=FsV.sl h
 obtain⟨b,c,rfl,hlc,hs⟩:=w_
 have hf0:=hf
 have w_:=F.inv hf
 obtain⟨p,rfl,hfs⟩:=w_
 have w_:=Rep.src h
 obtain⟨vs,hrows,hvs,hcap,hsrc⟩:=w_
 refine Spec.mk Tryz.func73 (by kernel_rfl) ?_
 intro r3
 refine lIn (fun k:Nat=>k≤L.length∧∀x∈L.drop k,¬bC x f<0)
  (fun k=>⟨[(0,.val (.slice b L.length c)),(3,.loc 0 r3 0),(5,.val (.int .i64 k))],[(0,some (.cells r3 [.val (.string f.rel),.val (.slice p.1 f.args.length p.2)] 41))],1,μ,Mem.nil⟩) (fun k=>k)
  L.length ⟨Nat.le_refl _,by simp⟩ (fun _=>⟨rfl,rfl⟩) ⟨⟨rfl,rfl,rfl,trivial⟩,⟨rfl,trivial⟩,rfl,rfl⟩ ?_
 rintro k ⟨hk,hge⟩
 refine ifd (fun h0=>?_) (fun h0=>?_)
 ·obtain ⟨k, rfl⟩ : ∃ k', k = k' + 1 := ⟨k - 1, by omega⟩
  have w_:=aSo (l:=L) (i:=k) (by omega)
  obtain⟨y,hy⟩:=w_
  have w_:=F.elem hs hy
  obtain⟨ad3,p3,hel3,hry,hsy⟩:=w_
  refine nEq (x:=(k:Int)) (by rw[aA (by omega) (by omega)];omega) ?_
  refine eIn hel3 ?_
  refine cGv (cJ hry hf0) ?_
  refine ifd (fun hc=>?_) (fun hc=>?_)
  ·refine nEq (x := (k : Int)) (by rw [aA (by omega) (by omega)]; omega) ⟨k, ⟨by omega, fun x hx => ?_⟩, by omega, ⟨⟨rfl, rfl, rfl, trivial⟩, ⟨rfl, trivial⟩, rfl, rfl⟩⟩
   rw[bJ hy]at hx
   rcases List.mem_cons.1 hx with rfl|hx
   ·omega
   ·exact hge x hx
  ·have hlt3 := hL.take_lt cmpF_ord hy (e := f) (by omega)
   generalize k+1=k at*
   refine ifd (fun hkl=>?_) (fun hkl=>?_)
   ·have w_ := aSo (l := L) (i := k) (by omega)
    obtain⟨y2,hy2⟩:=w_
    have w_:=F.elem hs hy2
    obtain⟨ad4,p4,hel4,hry2,hsy2⟩:=w_
    refine eIn hel4 ?_
    refine cGv (cJ hry2 hf0) ?_
    refine ifd (fun hc2=>?_) (fun hc2=>?_)
    ·have : f ∈ L := by rw [← (cmpF_ord.zero _ _).1 hc2]; exact mAt hy2
     rw[jV hL this]
     exact rPl h
    ·have hgt3 : ∀ x ∈ L.drop k, bC f x < 0 := hL.drop_gt cmpF_ord hy2 (cmpF_ord.ge_pos (hge y2 (by rw [bJ hy2]; simp)) hc2)
     intro r70
     refine aF 0 k rfl rfl (by omega) (by omega) ?_
     refine aG _ (hsrc 0 k (by omega) hk) ?_
     refine gIn ?_ ?_ fun b1 c1 _=>?_
     ·show(0+_)*40≤_;simp;omega
     ·exact Nat.le_trans (m:=2000000000) (by simp;omega) (by decide)
     intro r77
     refine gIn ?_ ?_ fun b2 c2 _=>?_
     ·show(_+1)*40≤_;simp;omega
     ·exact Nat.le_trans (m:=2000000000) (by simp;omega) (by decide)
     refine aF k L.length rfl rfl hk (by omega) ?_
     refine aG _ (hsrc k L.length hk (Nat.le_refl _)) ?_
     refine gIn ?_ ?_ fun b3 c3 _=>?_
     ·show(_+_)*40≤_;simp;omega
     ·exact Nat.le_trans (m:=3000000000) (by simp;omega) (by decide)
     have hr2:=(hrows.take k).append ((Rows.one hf0 (Fc.d_n _)).append (hrows.drop k))
     have ev:(([]:List Value)++(vs.drop 0).take (k-0)++[.agg #[.string f.rel,.slice p.1 f.args.length p.2]]++(vs.drop k).take (L.length-k))=vs.take k++([.agg #[.string f.rel,.slice p.1 f.args.length p.2]]++vs.drop k):=by
      simp
      rw[List.take_of_length_le (by simp;omega)]
     have hins:=gE hL hlt3 hgt3
     have e2:((aX L f).map F.fc).map Fc.d=((L.map F.fc).map Fc.d).take k++([f.fc.d]++((L.map F.fc).map Fc.d).drop k):=by rw[←hins];simp
     have e3:(vs.take k++([Value.agg #[.string f.rel,.slice p.1 f.args.length p.2]]++vs.drop k)).length=(aX L f).length:=by rw[←hins];simp;omega
     refine rFz [1] fun μ2 hle2 hno2 hrow2=> .inl ?_
     rw[ev]at hrow2
     have e4:(aX L f).length≤L.length+1:=cC L f
     have:=Rows.sl hrow2 (hr2.mono hle2) (Nat.le_trans (m:=3000000000) (by rw[e3];omega) (by decide))
     rw[←e2]at this
     rw[ev]
     exact this
   ·have hgt3:∀x∈L.drop k,bC f x<0:=by
     rw[List.drop_of_length_le (by omega)];simp
    intro r70
    refine aF 0 k rfl rfl (by omega) (by omega) ?_
    refine aG _ (hsrc 0 k (by omega) hk) ?_
    refine gIn ?_ ?_ fun b1 c1 _=>?_
    ·show(0+_)*40≤_;simp;omega
    ·exact Nat.le_trans (m:=2000000000) (by simp;omega) (by decide)
    intro r77
    refine gIn ?_ ?_ fun b2 c2 _=>?_
    ·show(_+1)*40≤_;simp;omega
    ·exact Nat.le_trans (m:=2000000000) (by simp;omega) (by decide)
    refine aF k L.length rfl rfl hk (by omega) ?_
    refine aG _ (hsrc k L.length hk (Nat.le_refl _)) ?_
    refine gIn ?_ ?_ fun b3 c3 _=>?_
    ·show(_+_)*40≤_;simp;omega
    ·exact Nat.le_trans (m:=3000000000) (by simp;omega) (by decide)
    have hr2:=(hrows.take k).append ((Rows.one hf0 (Fc.d_n _)).append (hrows.drop k))
    have ev:(([]:List Value)++(vs.drop 0).take (k-0)++[.agg #[.string f.rel,.slice p.1 f.args.length p.2]]++(vs.drop k).take (L.length-k))=vs.take k++([.agg #[.string f.rel,.slice p.1 f.args.length p.2]]++vs.drop k):=by
     simp
     rw[List.take_of_length_le (by simp;omega)]
    have hins:=gE hL hlt3 hgt3
    have e2:((aX L f).map F.fc).map Fc.d=((L.map F.fc).map Fc.d).take k++([f.fc.d]++((L.map F.fc).map Fc.d).drop k):=by rw[←hins];simp
    have e3:(vs.take k++([Value.agg #[.string f.rel,.slice p.1 f.args.length p.2]]++vs.drop k)).length=(aX L f).length:=by rw[←hins];simp;omega
    refine rFz [1] fun μ2 hle2 hno2 hrow2=> .inl ?_
    rw[ev]at hrow2
    have e4:(aX L f).length≤L.length+1:=cC L f
    have:=Rows.sl hrow2 (hr2.mono hle2) (Nat.le_trans (m:=3000000000) (by rw[e3];omega) (by decide))
    rw[←e2]at this
    rw[ev]
    exact this
 ·have hk0 : k = 0 := by omega
  have hlt3:∀x∈L.take k,bC x f<0:=by rw[hk0];simp
  refine ifd (fun hkl=>?_) (fun hkl=>?_)
  ·have w_ := aSo (l := L) (i := k) (by omega)
   obtain⟨y2,hy2⟩:=w_
   have w_:=F.elem hs hy2
   obtain⟨ad4,p4,hel4,hry2,hsy2⟩:=w_
   refine eIn hel4 ?_
   refine cGv (cJ hry2 hf0) ?_
   refine ifd (fun hc2=>?_) (fun hc2=>?_)
   ·have : f ∈ L := by rw [← (cmpF_ord.zero _ _).1 hc2]; exact mAt hy2
    rw[jV hL this]
    exact rPl h
   ·have hgt3 : ∀ x ∈ L.drop k, bC f x < 0 := hL.drop_gt cmpF_ord hy2 (cmpF_ord.ge_pos (hge y2 (by rw [bJ hy2]; simp)) hc2)
    intro r70
    refine aF 0 k rfl rfl (by omega) (by omega) ?_
    refine aG _ (hsrc 0 k (by omega) hk) ?_
    refine gIn ?_ ?_ fun b1 c1 _=>?_
    ·show(0+_)*40≤_;simp;omega
    ·exact Nat.le_trans (m:=2000000000) (by simp;omega) (by decide)
    intro r77
    refine gIn ?_ ?_ fun b2 c2 _=>?_
    ·show(_+1)*40≤_;simp;omega
    ·exact Nat.le_trans (m:=2000000000) (by simp;omega) (by decide)
    refine aF k L.length rfl rfl hk (by omega) ?_
    refine aG _ (hsrc k L.length hk (Nat.le_refl _)) ?_
    refine gIn ?_ ?_ fun b3 c3 _=>?_
    ·show(_+_)*40≤_;simp;omega
    ·exact Nat.le_trans (m:=3000000000) (by simp;omega) (by decide)
    have hr2:=(hrows.take k).append ((Rows.one hf0 (Fc.d_n _)).append (hrows.drop k))
    have ev:(([]:List Value)++(vs.drop 0).take (k-0)++[.agg #[.string f.rel,.slice p.1 f.args.length p.2]]++(vs.drop k).take (L.length-k))=vs.take k++([.agg #[.string f.rel,.slice p.1 f.args.length p.2]]++vs.drop k):=by
     simp
     rw[List.take_of_length_le (by simp;omega)]
    have hins:=gE hL hlt3 hgt3
    have e2:((aX L f).map F.fc).map Fc.d=((L.map F.fc).map Fc.d).take k++([f.fc.d]++((L.map F.fc).map Fc.d).drop k):=by rw[←hins];simp
    have e3:(vs.take k++([Value.agg #[.string f.rel,.slice p.1 f.args.length p.2]]++vs.drop k)).length=(aX L f).length:=by rw[←hins];simp;omega
    refine rFz [1] fun μ2 hle2 hno2 hrow2=> .inl ?_
    rw[ev]at hrow2
    have e4:(aX L f).length≤L.length+1:=cC L f
    have:=Rows.sl hrow2 (hr2.mono hle2) (Nat.le_trans (m:=3000000000) (by rw[e3];omega) (by decide))
    rw[←e2]at this
    rw[ev]
    exact this
  ·have hgt3:∀x∈L.drop k,bC f x<0:=by
    rw[List.drop_of_length_le (by omega)];simp
   intro r70
   refine aF 0 k rfl rfl (by omega) (by omega) ?_
   refine aG _ (hsrc 0 k (by omega) hk) ?_
   refine gIn ?_ ?_ fun b1 c1 _=>?_
   ·show(0+_)*40≤_;simp;omega
   ·exact Nat.le_trans (m:=2000000000) (by simp;omega) (by decide)
   intro r77
   refine gIn ?_ ?_ fun b2 c2 _=>?_
   ·show(_+1)*40≤_;simp;omega
   ·exact Nat.le_trans (m:=2000000000) (by simp;omega) (by decide)
   refine aF k L.length rfl rfl hk (by omega) ?_
   refine aG _ (hsrc k L.length hk (Nat.le_refl _)) ?_
   refine gIn ?_ ?_ fun b3 c3 _=>?_
   ·show(_+_)*40≤_;simp;omega
   ·exact Nat.le_trans (m:=3000000000) (by simp;omega) (by decide)
   have hr2:=(hrows.take k).append ((Rows.one hf0 (Fc.d_n _)).append (hrows.drop k))
   have ev:(([]:List Value)++(vs.drop 0).take (k-0)++[.agg #[.string f.rel,.slice p.1 f.args.length p.2]]++(vs.drop k).take (L.length-k))=vs.take k++([.agg #[.string f.rel,.slice p.1 f.args.length p.2]]++vs.drop k):=by
    simp
    rw[List.take_of_length_le (by simp;omega)]
   have hins:=gE hL hlt3 hgt3
   have e2:((aX L f).map F.fc).map Fc.d=((L.map F.fc).map Fc.d).take k++([f.fc.d]++((L.map F.fc).map Fc.d).drop k):=by rw[←hins];simp
   have e3:(vs.take k++([Value.agg #[.string f.rel,.slice p.1 f.args.length p.2]]++vs.drop k)).length=(aX L f).length:=by rw[←hins];simp;omega
   refine rFz [1] fun μ2 hle2 hno2 hrow2=> .inl ?_
   rw[ev]at hrow2
   have e4:(aX L f).length≤L.length+1:=cC L f
   have:=Rows.sl hrow2 (hr2.mono hle2) (Nat.le_trans (m:=3000000000) (by rw[e3];omega) (by decide))
   rw[←e2]at this
   rw[ev]
   exact this
theorem xD{L:List F}{f:F}{b:Option Addr}{c:Nat}{w:Value}(hs:Sl μ 2 b L.length ((L.map F.fc).map Fc.d))(hf:RepV μ f.fc.d w):
  aP Tryz.prog 256 [.slice b L.length c,w] μ (.bool (decide (f∈L))):=by
 have hf0:=hf
 have w_:=F.inv hf
 obtain⟨p,rfl,hfs⟩:=w_
 have hn:=aH hs.max
 refine Spec.mk Tryz.func256 (by kernel_rfl) ?_
 intro r3
 refine lIn (fun k:Nat=>k≤L.length∧f∉L.take k)
  (fun k=>⟨[(3,.loc 0 r3 0),(7,.val (.slice b L.length c)),(8,.val (.int .i64 L.length)),(9,.val (.int .i64 k))],[(0,some (.cells r3 [.val (.string f.rel),.val (.slice p.1 f.args.length p.2)] 41))],1,μ,Mem.nil⟩) (fun k=>L.length-k)
  0 ⟨Nat.zero_le _,by simp⟩ (fun _=>⟨rfl,rfl⟩) ⟨⟨rfl,rfl,rfl,rfl,trivial⟩,⟨rfl,trivial⟩,rfl,rfl⟩ ?_
 rintro k ⟨hk,hno⟩
 refine ifd (fun hlt=>?_) (fun hlt=>?_)
 ·have w_ := aSo (l := L) (i := k) (by omega)
  obtain⟨y,hy⟩:=w_
  have w_:=F.elem hs hy
  obtain⟨ad3,p3,hel3,hry,hsy⟩:=w_
  refine eIn hel3 ?_
  intro r6
  refine cGv (cJ hry hf0) ?_
  refine ifd (fun hc=>?_) (fun hc=>?_)
  ·refine rGv ?_ rfl
   rw[decide_eq_true]
   rw[←(cmpF_ord.zero _ _).1 hc];exact mAt hy
  ·refine aB (by omega) (by omega) ⟨k + 1, ⟨by omega, ?_⟩, by omega, ⟨⟨rfl, rfl, rfl, rfl, trivial⟩, ⟨rfl, trivial⟩, rfl, rfl⟩⟩
   rw[List.take_add_one,hy,Option.toList_some,List.mem_append,List.mem_singleton]
   rintro(k1|k1)
   ·exact hno k1
   ·exact hc ((cmpF_ord.zero _ _).2 k1.symm)
 ·obtain rfl : k = L.length := by omega
  rw[List.take_length]at hno
  refine rGv ?_ rfl
  rw[decide_eq_false hno]
theorem eR{α:Type}{l:List α}{i:Nat}{x:α}{P:α→Prop}(h:∀y∈l.take i,P y)(hx:l[i]? =some x)(hp:P x):∀y∈l.take (i+1),P y:=by
 rw[List.take_add_one,hx,Option.toList_some]
 intro y hy
 rcases List.mem_append.1 hy with k|k
 ·exact h y k
 ·rw[List.mem_singleton.1 k];exact hp
theorem qCh{r:Ru}{pos neg:List F}{v:Value}{b b2:Option Addr}{c c2:Nat}(hr:RepV μ r.rd.d v)(hs:Sl μ 2 b pos.length ((pos.map F.fc).map Fc.d))(hs2:Sl μ 2 b2 neg.length ((neg.map F.fc).map Fc.d)):
  aP Tryz.prog 220 [v,.slice b pos.length c,.slice b2 neg.length c2] μ (.bool (decide (lQ pos neg r))):=by
 have w_:=Ru.inv hr
 obtain⟨p,rfl,-,-,h3,h4⟩:=w_
 have hm1:=aH h3.max
 have hm2:=aH h4.max
 refine Spec.mk Tryz.func220 (by kernel_rfl) ?_
 intro r3
 refine lIn (fun k:Nat=>k≤r.pos.length∧∀f∈r.pos.take k,f∈pos)
  (fun k=>⟨[(1,.val (.slice b pos.length c)),(2,.val (.slice b2 neg.length c2)),(3,.loc 0 r3 0),(12,.val (.slice p.2.2.1.1 r.pos.length p.2.2.1.2)),(13,.val (.int .i64 r.pos.length)),(14,.val (.int .i64 k))],[(0,some (.cells r3 (vals (r.cs p)) 106))],1,μ,Mem.nil⟩) (fun k=>r.pos.length-k)
  0 ⟨Nat.zero_le _,by simp⟩ (fun _=>⟨rfl,rfl⟩) ⟨⟨rfl,rfl,rfl,rfl,rfl,rfl,trivial⟩,⟨rfl,trivial⟩,rfl,rfl⟩ ?_
 rintro k ⟨hk,hall⟩
 refine ifd (fun hlt=>?_) (fun hlt=>?_)
 ·have w_ := aSo (l := r.pos) (i := k) (by omega)
  obtain⟨y,hy⟩:=w_
  have w_:=F.elem h3 hy
  obtain⟨ad3,p3,hel3,hry,hsy⟩:=w_
  refine eIn hel3 ?_
  intro r8
  refine cGv (xD hs hry) ?_
  refine aK (fun h=>rGv (isF fun k=>h (k.1 y (mAt hy))) rfl) (fun h=>?_)
  ·exact aB (by omega) (by omega) ⟨k+1,⟨by omega,eR hall hy h⟩,by omega,⟨⟨rfl,rfl,rfl,rfl,rfl,rfl,trivial⟩,⟨rfl,trivial⟩,rfl,rfl⟩⟩
 obtain rfl:k=r.pos.length:=by omega
 rw[List.take_length]at hall
 refine lIn (fun k:Nat=>k≤r.neg.length∧∀f∈r.neg.take k,f∉neg)
  (fun k=>⟨[(2,.val (.slice b2 neg.length c2)),(24,.val (.slice p.2.2.2.1 r.neg.length p.2.2.2.2)),(25,.val (.int .i64 r.neg.length)),(26,.val (.int .i64 k))],[],1,μ,Mem.nil⟩) (fun k=>r.neg.length-k)
  0 ⟨Nat.zero_le _,by simp⟩ (fun _=>⟨rfl,rfl⟩) ⟨⟨rfl,rfl,rfl,rfl,trivial⟩,trivial,rfl,rfl⟩ ?_
 rintro k ⟨hk,hall2⟩
 refine ifd (fun hlt=>?_) (fun hlt=>?_)
 ·have w_ := aSo (l := r.neg) (i := k) (by omega)
  obtain⟨y,hy⟩:=w_
  have w_:=F.elem h4 hy
  obtain⟨ad3,p3,hel3,hry,hsy⟩:=w_
  refine eIn hel3 ?_
  intro r8
  refine cGv (xD hs2 hry) ?_
  refine ifd (fun h=>rGv (isF fun k=>(k.2 y (mAt hy)) h) rfl) (fun h=>?_)
  ·exact aB (by omega) (by omega) ⟨k+1,⟨by omega,eR hall2 hy h⟩,by omega,⟨⟨rfl,rfl,rfl,rfl,trivial⟩,trivial,rfl,rfl⟩⟩
 obtain rfl:k=r.neg.length:=by omega
 rw[List.take_length]at hall2
 exact rGv (isT ⟨hall,hall2⟩) rfl
theorem qGb{rs:List Ru}{pos neg:List F}{b b2 b3:Option Addr}{c c2 c3:Nat}(hr:Sl μ 6 b3 rs.length ((rs.map Ru.rd).map RuD.d))(hn:rs.length≤10000000)(hs:Sl μ 2 b pos.length ((pos.map F.fc).map Fc.d))(hs2:Sl μ 2 b2 neg.length ((neg.map F.fc).map Fc.d)):
  Spec Tryz.prog 210 [.slice b3 rs.length c3,.slice b pos.length c,.slice b2 neg.length c2] μ fun r μ'=>FsV μ' (cO rs pos neg) r:=by
 refine Spec.mk Tryz.func210 (by kernel_rfl) ?_
 intro r10
 refine lFz (fun z:Nat×Option Addr×Nat×Mem=>z.1≤rs.length∧μ.Le z.2.2.2∧FsV z.2.2.2 (dA (dI rs pos neg z.1)) (.slice z.2.1 (dA (dI rs pos neg z.1)).length z.2.2.1))
  (fun(i,b4,c4,μ')=>⟨[(1,.val (.slice b pos.length c)),(2,.val (.slice b2 neg.length c2)),(7,.val (.slice b4 (dA (dI rs pos neg i)).length c4)),(11,.val (.slice b3 rs.length c3)),(12,.val (.int .i64 rs.length)),(13,.val (.int .i64 i))],[],0,μ',Mem.nil⟩) (fun z=>rs.length-z.1) [0]
  (fun(_,_,_,_)=>⟨rfl,rfl⟩) (fun μ1 hle1 hno1 hat1=>?_) ?_
 ·have e0 : dA (dI rs pos neg 0) = [] := by simp [dI, yC (L := []) List.Pairwise.nil]
  refine⟨(0,some ⟨r10,0,none⟩,0,μ1),⟨Nat.zero_le _,hle1,?_⟩,⟨rfl,rfl,?_,rfl,rfl,rfl,trivial⟩,trivial,rfl,rfl⟩
  ·dsimp only;rw[e0];exact FsV.nil _ _
  ·dsimp only;rw[e0];rfl
 rintro⟨i,b4,c4,μ'⟩ ⟨hi,hle,hout⟩
 dsimp only at hi hle hout
 refine ifd (fun hlt=>?_) (fun hlt=>?_)
 rotate_left
 ·obtain rfl : i = rs.length := by omega
  rw[pK]at hout ⊢
  exact rPl hout
 have w_:=aSo (l:=rs) (i:=i) (by omega)
 obtain⟨r,hri⟩:=w_
 have w_:=Ru.elem (hr.mono hle) hri
 obtain⟨ad,p,hel,hrv,hat⟩:=w_
 have hlen:(dA (dI rs pos neg i)).length≤i:=Nat.le_trans (fT _) (pM _ _ _ _)
 have hsucc:=lA (pos:=pos) (neg:=neg) hri
 refine eIn hel ?_
 intro r9
 refine cGv (qCh hrv (hs.mono hle) (hs2.mono hle)) ?_
 refine ifd (fun hf=>?_) (fun hf=>?_)
 ·rw [if_pos hf] at hsucc
  refine cPl (dP (cU _) hout hat.head (by omega)) fun v4 μ4 hle4 hR4=>?_
  have e:aX (dA (dI rs pos neg i)) r.head=dA (dI rs pos neg (i+1)):=kI fun x=>by
   rw[List.mem_cons,mem_ascF,hsucc,List.mem_append,List.mem_singleton];exact Or.comm
  rw[e]at hR4
  have w_:=FsV.sl hR4
  obtain⟨b5,c5,rfl,-,-⟩:=w_
  exact aB (by omega) (by omega) ⟨[],(i+1,b5,c5,μ4),⟨by dsimp only;omega,hle.trans hle4,hR4⟩,by dsimp only;omega,⟨⟨rfl,rfl,rfl,rfl,rfl,rfl,trivial⟩,trivial,rfl,rfl⟩⟩
 ·rw [if_neg hf, List.append_nil] at hsucc
  refine aB (by omega) (by omega) ⟨[],(i+1,b4,c4,μ'),⟨by dsimp only;omega,hle,?_⟩,by dsimp only;omega,⟨⟨rfl,rfl,?_,rfl,rfl,rfl,trivial⟩,trivial,rfl,rfl⟩⟩
  ·dsimp only;rw[hsucc];exact hout
  ·dsimp only;rw[hsucc];rfl
end
end Go.Vx
namespace Go.Vx
open Go.Proofs Classical
section
variable {μ:Mem}
theorem slF_nil:Sl μ 2 none 0 ((([]:List F).map F.fc).map Fc.d):=⟨rfl,Nat.zero_le _,fun i x h=>by simp at h⟩
theorem qCi{rs:List Ru}{base:List F}{v:Value}{b3:Option Addr}{c3:Nat}(hr:Sl μ 6 b3 rs.length ((rs.map Ru.rd).map RuD.d))(hn:rs.length≤3000000)(hb:Asc3 bC base)(h:FsV μ base v)(hbn:base.length≤3000000):
  Spec Tryz.prog 149 [.slice b3 rs.length c3,v] μ fun r μ'=>FsV μ' (lfp rs base) r:=by
 have w_:=FsV.sl h
 obtain⟨b,c,rfl,hlc,hs⟩:=w_
 refine Spec.mk Tryz.func149 (by kernel_rfl) ?_
 refine lIn (fun z:List F×Option Addr×Nat×Mem=>BasI rs base z.1∧μ.Le z.2.2.2∧FsV z.2.2.2 z.1 (.slice z.2.1 z.1.length z.2.2.1))
  (fun(out,b4,c4,μ')=>⟨[(0,.val (.slice b3 rs.length c3)),(5,.val (.slice b4 out.length c4))],[],0,μ',Mem.nil⟩) (fun z=>base.length+rs.length-z.1.length)
  (base,b,c,μ) ⟨by have:=BasI.start rs base;rwa [yC hb]at this,Mem.Le.refl _,h⟩ (fun(_,_,_,_)=>⟨rfl,rfl⟩) ⟨⟨rfl,rfl,trivial⟩,trivial,rfl,rfl⟩ ?_
 rintro⟨out,b4,c4,μ'⟩ ⟨hI,hle,hout⟩
 dsimp only at hI hle hout
 have w_:=FsV.sl hout
 obtain⟨b5,c5,e,-,hso⟩:=w_
 have w_:=Value.slice.inj e
 obtain⟨rfl,_,rfl⟩:=w_
 have hol:=hI.len
 refine cPl (qGb (neg:=[]) (b2:=none) (c2:=0) (hr.mono hle) (by omega) hso slF_nil) fun v4 μ4 hle4 hR4=>?_
 have w_:=FsV.sl hR4
 obtain⟨b6,c6,rfl,-,hsn⟩:=w_
 have hnl:=sL rs out []
 generalize hN:cO rs out []=N at*
 refine lIn (fun z:Nat×Option Addr×Nat×Mem=>z.1≤N.length∧μ4.Le z.2.2.2∧FsV z.2.2.2 (dA (out++N.take z.1)) (.slice z.2.1 (dA (out++N.take z.1)).length z.2.2.1))
  (fun(j,b7,c7,μ')=>⟨[(0,.val (.slice b3 rs.length c3)),(5,.val (.slice b4 out.length c4)),(6,.val (.slice b7 (dA (out++N.take j)).length c7)),(13,.val (.slice b6 N.length c6)),(14,.val (.int .i64 N.length)),(15,.val (.int .i64 j))],[],0,μ',Mem.nil⟩) (fun z=>N.length-z.1)
  (0,b4,c4,μ4) ⟨Nat.zero_le _,Mem.Le.refl _,?_⟩ (fun(_,_,_,_)=>⟨rfl,rfl⟩) ⟨⟨rfl,rfl,?_,rfl,rfl,rfl,trivial⟩,trivial,rfl,rfl⟩ ?_
 ·dsimp only
  rw[List.take_zero,List.append_nil,yC hI.asc]
  exact RepV.mono hle4 hout
 ·dsimp only
  rw[List.take_zero,List.append_nil,yC hI.asc];rfl
 rintro⟨j,b7,c7,μ5⟩ ⟨hj,hle5,hacc⟩
 dsimp only at hj hle5 hacc
 have hal:(dA (out++N.take j)).length≤out.length+j:=by
  have:=fT (out++N.take j)
  rw[List.length_append,List.length_take]at this
  omega
 refine ifd (fun hlt=>?_) (fun hlt=>?_)
 ·have w_ := aSo (l := N) (i := j) (by omega)
  obtain⟨f,hf⟩:=w_
  have w_:=F.elem (hsn.mono hle5) hf
  obtain⟨ad,p,hel,hrf,hsf⟩:=w_
  refine eIn hel ?_
  intro r8
  refine cPl (dP (cU _) hacc hrf (by omega)) fun v6 μ6 hle6 hR6=>?_
  have e:aX (dA (out++N.take j)) f=dA (out++N.take (j+1)):=kI fun x=>by
   rw[List.mem_cons,mem_ascF,List.take_add_one,hf,Option.toList_some,←List.append_assoc,List.mem_append (s:=out++_),List.mem_singleton];exact Or.comm
  rw[e]at hR6
  have w_:=FsV.sl hR6
  obtain⟨b8,c8,rfl,-,-⟩:=w_
  exact aB (by omega) (by omega) ⟨(j+1,b8,c8,μ6),⟨by dsimp only;omega,hle5.trans hle6,hR6⟩,by dsimp only;omega,⟨⟨rfl,rfl,rfl,rfl,rfl,rfl,trivial⟩,trivial,rfl,rfl⟩⟩
 obtain rfl:j=N.length:=by omega
 have eg:dA (out++N.take N.length)=qI rs out:=by rw[List.take_length,←hN,qKv]
 rw[eg]at hacc hal ⊢
 have hgl:=hI.next.len
 refine ifd (fun he=>?_) (fun he=>?_)
 ·refine rPl ?_
  rw[←hI.done (by omega)]
  exact RepV.mono (hle4.trans hle5) hout
 ·have := hI.more (by omega)
  exact⟨(qI rs out,b7,c7,μ5),⟨hI.next,(hle.trans hle4).trans hle5,hacc⟩,by dsimp only;omega,⟨⟨rfl,rfl,trivial⟩,trivial,rfl,rfl⟩⟩
end
end Go.Vx
namespace Go.Vx
open Go.Proofs Classical
open Go.Sort
section
variable {μ h0:Mem} {r:Nat} {ty:TypeId} {rest:List Value}
end
section
variable {μ:Mem}
theorem qCm{H:Mem}{L:List F}{r c:Nat}{ys:List Value}(hap:Apart μ H)(hro:RowO H r c 41 2 ys)(hrows:Rows μ 2 ((L.map F.fc).map Fc.d) ys)(hn:L.length≤100000000):
  SpecH Tryz.prog 63 [.slice (some ⟨r,0,none⟩) L.length c] μ H fun v _ H'=>∃r' c' ys',v= .slice (some ⟨r',0,none⟩) (dA L).length c'∧RowO H' r' c' 41 2 ys'∧Rows μ 2 (((dA L).map F.fc).map Fc.d) ys':=by
 have hyl:L.length=ys.length:=by have:=hrows.len;simpa using this
 have hE:=FElts.zip hrows
 have hl:(L.zip ys).length=L.length:=by rw[List.length_zip];omega
 have hsrc:sX (μ.join H) (some ⟨r,0,none⟩) L.length 2 ys:=by
  obtain⟨cs,h1,h2,h3,h4,h5,h6⟩:=hro
  refine⟨hyl.symm,h4,.inr ⟨_,rfl,fun j v hj=>?_⟩⟩
  have hlt:=(List.getElem?_eq_some_iff.1 hj).1
  have hf:(ys.flatMap aC).length=ys.length*2:=fV ys fun y hy=>(h4 y hy).1
  rw[←h6,List.getElem?_take,if_pos (by omega)]at hj
  rw[Addr.add_lit',Nat.zero_add]
  simp only[Mem.cell,Mem.le_join_right hap _ _ h1]
  simpa using hj
 have:=rQ (l:=L.zip ys) (base:=some ⟨r,0,none⟩) (cap:=c) (by rw[hl,qNw hyl];exact hsrc) (hE.mono (Mem.le_join _ _)) (by omega)
 rw[hl]at this
 refine(Spec.lendOwn (R':=fun v g _=>∃l':List FE,(∀p∈l',p∈L.zip ys)∧l'.map Prod.fst=dA L∧∃b c,v= .slice (some ⟨b,0,none⟩) (l'.map Prod.snd).length c∧RowO g b c 41 2 (l'.map Prod.snd)) hap this fun v μ1 hle hR=>?_).weaken fun v μ' H' hle hap' hR=>?_
 ·obtain ⟨l', h1, h2, bb, cc, g, rfl, hro, hg, hnew⟩ := hR
  rw[qNv hyl]at h2
  exact⟨g,hg,hnew,l',qHz h1,h2,bb,cc,rfl,hro⟩
 ·obtain ⟨g, μ1, ⟨l', h1, h2, b, c', rfl, hro'⟩, hle1, hparts, rfl⟩ := hR
  have hE':FElts μ l':=fun p hp=>hE p (h1 p hp)
  have hr:=hE'.rows
  rw[h2]at hr
  have e:(l'.map Prod.snd).length=(dA L).length:=by rw[List.length_map,←h2,List.length_map]
  rw[e]
  refine⟨b,c',_,rfl,?_,hr⟩
  obtain⟨cs,k1,k2⟩:=hro'
  exact⟨cs,hparts.right _ _ k1,k2⟩
end
end Go.Vx
namespace Go.Vx
open Go.Proofs Classical
theorem zM{p:Pg}(hp:p.Ok){l:List Fc}(h:∀f∈l,FactFits p f):D.wds (l.map Fc.d):=D.wds_of fun d hd=>by
 have w_:=List.mem_map.1 hd
 obtain⟨x,hx,rfl⟩:=w_
 exact(h x hx).wd hp
noncomputable def dK(p:Pg)(u:List Tm)(b:List Fc):Option (List F):=if fC p u b then(aJ p u).map fun rs=>lfp rs (b.map Fc.f)else none
theorem gJ{p:Pg}{u:List Tm}{b:List Fc}{y:List F}(h:dK p u b=some y):p.Ok∧FsOk p y∧y.length≤b.length+2000∧fC p u b:=by
 rw[dK]at h
 split at h
 ·rename_i hb
  cases hg:aJ p u with
  |none=>rw[hg]at h;cases h
  |some rs=>
   rw[hg,Option.map_some]at h
   cases h
   have w_:=bI hg
   obtain⟨h1,h2⟩:=w_
   have hl:=sI rs (b.map Fc.f)
   rw[List.length_map]at hl
   have h3:=cE hb.2.2.1
   exact⟨(bB hg).1,tX h2 fun f hf=>by
    have:f.fc∈(b.map Fc.f).map F.fc:=List.mem_map_of_mem hf
    rw[h3]at this
    exact hb.2.2.1 _ this,by omega,hb⟩
 ·cases h
section
variable {μ:Mem}
theorem bG{p:Pg}{u:List Tm}{l:List Fc}{v:Value}{ub fb:Option Addr}{uc fc:Nat}(hp:RepV μ p.d v)(hu:Sl μ 4 ub u.length (u.map Tm.d))(hb:RepV μ (.sl 2 (l.map Fc.d)) (.slice fb l.length fc))(hn:l.length≤2000000):
  Spec Tryz.prog 14 [v,.slice ub u.length uc,.slice fb l.length fc] μ fun v μ'=>vA (fun y tv=>Fresh μ μ' (.sl 2 ((y.map F.fc).map Fc.d)) tv) (dK p u l) v:=by
 have hp0:=hp
 have w_:=Pg.inv hp
 obtain⟨q,rfl,hrl⟩:=w_
 have hb0:=hb
 have hbs:=pC hb
 refine Spec.mk Tryz.func14 (by kernel_rfl) ?_
 intro r3
 refine cPl (cT hp0 hu) fun v1 μ1 hle1 hR=>?_
 have hposg:∀{rs},aU p u=some rs→p.Pos∧aJ p u=some rs:=fun {rs} h=>by
  rw[aU]at h
  split at h
  ·rename_i k;exact⟨k,h⟩
  ·cases h
 cases hP:aU p u with
 |none=>
  rw[hP]at hR
  obtain rfl:=hR
  refine iIn (fun _=>rPl ?_) (fun h=>nomatch h)
  rw[dK,if_neg fun k=>k.1 (by rw[aU,if_pos k.2.1]at hP;exact hP)];rfl
 |some rs=>
 rw[hP]at hR
 obtain⟨tv,rfl,hR⟩:=hR
 have hR:RsV μ1 rs tv:=hR
 have w_:=hposg hP
 obtain⟨hpos,hL⟩:=w_
 have w_:=RsV.sl hR
 obtain⟨b1,c1,rfl,hrs⟩:=w_
 have w_:=bI hL
 obtain⟨hrl2,hro⟩:=w_
 have hok:=bB hL
 have hpo:=hok.1
 have w_:=hok.2.lift
 obtain⟨U,rfl,hUg,hUl⟩:=w_
 refine iIn (fun h=>nomatch h) (fun _=>?_)
 have hu':=hu
 rw[List.length_map]at hu' ⊢
 refine cGv (eS (hp0.mono hle1) (hu'.mono hle1) (hbs.mono hle1)) ?_
 refine aK (fun h=>rPl ?_) (fun hall=>?_)
 ·rw[dK,if_neg fun k=>h (by have:=k.2.2;rwa [bW]at this)];rfl
 have hBP:fC p (U.map T.tm) l:=⟨by rw[hL];exact(fun h=>nomatch h),hpos,by rw[bW];exact hall⟩
 have hlift:=cE hall.1
 have hb1:FsV μ1 (l.map Fc.f) (.slice fb l.length fc):=by
  show RepV μ1 (.sl 2 (((l.map Fc.f).map F.fc).map Fc.d)) _
  rw[hlift];exact RepV.mono hle1 hb0
 have hbase:=gJ (p:=p) (u:=U.map T.tm) (b:=l) (y:=lfp rs (l.map Fc.f)) (by rw[dK,if_pos hBP,hL];rfl)
 have hgo:=hbase.2.1.len hpo
 have hgl:=hbase.2.2.1
 refine cPl (oM hrs (by omega) hb1 (by rw[List.length_map];omega)) fun v3 μ3 hle3 hR3=>?_
 refine cPl (bD hR3 (by omega) fun f hf=>Nat.le_trans (hgo f hf) (by decide)) fun v4 μ4 hle4 hR4=>?_
 refine rPl ?_
 rw[dK,if_pos hBP,hL]
 exact⟨_,rfl,hR4.mono (hle1.trans hle3) (Mem.Le.refl _)⟩
theorem lT{p:Pg}{u:List Tm}{l:List Fc}{v:Value}{ub fb:Option Addr}{uc fc:Nat}(hp:RepV μ p.d v)(hw:p.d.wd)(hu:Sl μ 4 ub u.length (u.map Tm.d))(hwu:D.wds (u.map Tm.d))(hb:RepV μ (.sl 2 (l.map Fc.d)) (.slice fb l.length fc))(hwb:D.wds (l.map Fc.d))(hn:l.length≤2000000):
  Spec Tryz.prog 78 [v,.slice ub u.length uc,.slice fb l.length fc] μ fun v μ'=>vA (fun y tv=>FsV μ' y tv) (dK p u l) v:=by
 have hp0:=hp
 have w_:=Pg.inv hp
 obtain⟨q,rfl,hrl⟩:=w_
 have hb0:=hb
 have hbs:=pC hb
 refine Spec.mk Tryz.func78 (by kernel_rfl) ?_
 intro r3
 refine cPl (kH hp0 hw hu hwu) fun v1 μ1 hle1 hR=>?_
 cases hL:aJ p u with
 |none=>
  rw[hL]at hR
  obtain rfl:=hR
  refine cPl (kN (hp0.mono hle1) hw (hu.mono hle1) hwu (hbs.mono hle1) hwb) fun v2 μ2 hle2 hR2=>?_
  obtain rfl:=hR2
  refine aK (fun h=>rPl (by rw[dK,if_neg h];rfl)) (fun h=>absurd hL h.1)
 |some rs=>
 rw[hL]at hR
 obtain⟨tv,rfl,hR⟩:=hR
 have hR:RsV μ1 rs tv:=hR
 have w_:=RsV.sl hR
 obtain⟨b1,c1,rfl,hrs⟩:=w_
 have w_:=bI hL
 obtain⟨hrl2,hro⟩:=w_
 have hpo:=(bB hL).1
 refine cPl (kN (hp0.mono hle1) hw (hu.mono hle1) hwu (hbs.mono hle1) hwb) fun v2 μ2 hle2 hR2=>?_
 obtain rfl:=hR2
 refine aK (fun h=>rPl (by rw[dK,if_neg h];rfl)) (fun hBP=>?_)
 have hlift:=cE hBP.2.2.1
 have hb1:FsV μ2 (l.map Fc.f) (.slice fb l.length fc):=by
  show RepV μ2 (.sl 2 (((l.map Fc.f).map F.fc).map Fc.d)) _
  rw[hlift];exact RepV.mono (hle1.trans hle2) hb0
 have hbase:=gJ (p:=p) (u:=u) (b:=l) (y:=lfp rs (l.map Fc.f)) (by rw[dK,if_pos hBP,hL];rfl)
 have hgo:=hbase.2.1.len hpo
 have hgl:=hbase.2.2.1
 refine cPl (qCi (hrs.mono hle2) (by omega) (AscF.asc (by rw[List.length_map];exact hBP.2.2.2.2)) hb1 (by rw[List.length_map];omega)) fun v3 μ3 hle3 hR3=>?_
 have w_:=FsV.sl hR3
 obtain⟨b4,c4,rfl,-,hs4⟩:=w_
 refine cPl (eK hs4 (by omega) fun f hf=>Nat.le_trans (hgo f hf) (by decide)) fun v4 μ4 hle4 hR4=>?_
 refine rPl ?_
 rw[dK,if_pos hBP,hL]
 exact⟨_,rfl,hR4⟩
end
end Go.Vx
namespace Go.Vx
open Go.Proofs Classical
def FsB(L:List F):Prop:=∀f∈L,f.args.length≤4∧∀a∈f.args,a.ok
def resF(o:Option (List F)):List Fc:=(o.getD []).map F.fc
end Go.Vx
namespace Go.Vx
open Go.Proofs Classical
def ReadyP(p:Pg)(u:List Tm)(b m:List Fc)(f:Fc):Prop:=∃y,dK p u b=some y∧m=y.map F.fc∧fC p u [f]
noncomputable def addM'(p:Pg)(u:List Tm)(b m:List Fc)(f:Fc):Option (List F):=if ReadyP p u b m f then dK p u ((aX (b.map Fc.f) f.f).map F.fc)else none
noncomputable def wI(b:List Fc)(f:Fc)(i:Nat):List F:=((b.map Fc.f).take i).filter fun x=>decide (x≠f.f)
noncomputable def qJq(p:Pg)(u:List Tm)(b m:List Fc)(f:Fc):Option (List F):=if ReadyP p u b m f∧f.f∈b.map Fc.f then dK p u ((wI b f b.length).map F.fc)else none
theorem qPr{b:List Fc}{f:Fc}{i:Nat}{x:F}(h:(b.map Fc.f)[i]? =some x):wI b f (i+1)=wI b f i++(if x≠f.f then [x]else []):=by
 rw[wI,List.take_add_one,h,Option.toList_some,List.filter_append,←wI]
 congr 1
 by_cases k:x=f.f<;>simp[k]
theorem qSi(b:List Fc)(f:Fc)(i:Nat):(wI b f i).length≤i:=Nat.le_trans (List.length_filter_le _ _) (List.length_take_le _ _)
theorem ReadyP.fact{p:Pg}{u:List Tm}{b m:List Fc}{f:Fc}(h:ReadyP p u b m f):fC p u b∧FactFits p f∧p.Ok:=by
 obtain⟨y,h1,_,h3⟩:=h
 have hk:=gJ h1
 exact⟨hk.2.2.2,h3.2.2.1 f (by simp),hk.1⟩
section
variable {μ:Mem}
theorem sM{f:Fc}{v:Value}{b:Option Nat}{c:Nat}(hf:RepV μ f.d v)(hat:RowAt μ b c 2 [v]):RepV μ (.sl 2 ([f].map Fc.d)) (.slice (b.map fun r=>⟨r,0,none⟩) [f].length c):=
 Rows.sl hat (Rows.one hf (Fc.d_n _)) (show 1≤maxLen by decide)
theorem qGc{L M:List F}{b b2:Option Addr}{c c2:Nat}(hs:Sl μ 2 b L.length ((L.map F.fc).map Fc.d))(hs2:Sl μ 2 b2 M.length ((M.map F.fc).map Fc.d)):
  aP Tryz.prog 146 [.slice b L.length c,.slice b2 M.length c2] μ (.bool (decide (L=M))):=by
 have hm1:=aH hs.max
 refine Spec.mk Tryz.func146 (by kernel_rfl) ?_
 refine aK (fun h=>rGv (isF fun k=>h (by rw[k])) rfl) (fun he=>?_)
 refine lIn (fun k:Nat=>k≤L.length∧∀j,j<k→L[j]? =M[j]?)
  (fun k=>⟨[(1,.val (.slice b2 M.length c2)),(12,.val (.slice b L.length c)),(13,.val (.int .i64 L.length)),(14,.val (.int .i64 k))],[],0,μ,Mem.nil⟩) (fun k=>L.length-k)
  0 ⟨Nat.zero_le _,fun j h=>by omega⟩ (fun _=>⟨rfl,rfl⟩) ⟨⟨rfl,rfl,rfl,rfl,trivial⟩,trivial,rfl,rfl⟩ ?_
 rintro k ⟨hk,hall⟩
 refine ifd (fun hlt=>?_) (fun hlt=>?_)
 ·have w_ := aSo (l := L) (i := k) (by omega)
  obtain⟨x,hx⟩:=w_
  have w_:=aSo (l:=M) (i:=k) (by omega)
  obtain⟨y,hy⟩:=w_
  have w_:=F.elem hs hx
  obtain⟨ad,q,hel,hrx,_⟩:=w_
  have w_:=F.elem hs2 hy
  obtain⟨ad2,q2,hel2,hry,_⟩:=w_
  refine eIn hel ?_
  intro r6
  refine eIn hel2 ?_
  refine cGv (cJ hrx hry) ?_
  refine aK (fun h=>rGv (isF fun e=>h ?_) rfl) (fun h=>?_)
  ·subst e
   rw[hx]at hy;cases hy
   exact(cmpF_ord.zero _ _).2 rfl
  ·refine aB (by omega) (by omega) ⟨k + 1, ⟨by omega, fun j hj => ?_⟩, by omega, ⟨⟨rfl, rfl, rfl, rfl, trivial⟩, trivial, rfl, rfl⟩⟩
   rcases Nat.lt_or_ge j k with h6|h6
   ·exact hall j h6
   ·obtain rfl : j = k := by omega
    rw[hx,hy,(cmpF_ord.zero _ _).1 h]
 ·obtain rfl : k = L.length := by omega
  refine rGv (isT (List.ext_getElem? fun j=>?_)) rfl
  rcases Nat.lt_or_ge j L.length with h6|h6
  ·exact hall j h6
  ·rw[List.getElem?_eq_none h6,List.getElem?_eq_none (by omega)]
theorem rO{p:Pg}{L:List F}{m:List Fc}{b b2:Option Addr}{c c2:Nat}(hL:FsOk p L)(hs:Sl μ 2 b L.length ((L.map F.fc).map Fc.d))(hs2:Sl μ 2 b2 m.length (m.map Fc.d)):
  aP Tryz.prog 76 [.slice b L.length c,.slice b2 m.length c2] μ (.bool (decide (m=L.map F.fc))):=by
 have hm1:=aH hs2.max
 refine Spec.mk Tryz.func76 (by kernel_rfl) ?_
 refine lIn (fun k:Nat=>k≤m.length∧∀f∈m.take k,∀t∈f.args,t.Ok)
  (fun k=>⟨[(0,.val (.slice b L.length c)),(1,.val (.slice b2 m.length c2)),(7,.val (.slice b2 m.length c2)),(8,.val (.int .i64 m.length)),(9,.val (.int .i64 k))],[],0,μ,Mem.nil⟩) (fun k=>m.length-k)
  0 ⟨Nat.zero_le _,by simp⟩ (fun _=>⟨rfl,rfl⟩) ⟨⟨rfl,rfl,rfl,rfl,rfl,trivial⟩,trivial,rfl,rfl⟩ ?_
 rintro k ⟨hk,hall⟩
 refine ifd (fun hlt=>?_) (fun hlt=>?_)
 ·have w_ := aSo (l := m) (i := k) (by omega)
  obtain⟨x,hx⟩:=w_
  have w_:=Fc.elemA hs2 hx
  obtain⟨ad,q,hel,hrx,hA⟩:=w_
  have hA:Sl μ 4 q.1 x.args.length (x.args.map Tm.d):=hA
  refine eIn hel ?_
  intro r6
  refine cGv (vK hA) ?_
  refine aK (fun h=>rGv (isF fun e=>h ?_) rfl) (fun h=>?_)
  ·have : x ∈ L.map F.fc := by rw [← e]; exact mAt hx
   exact fun t ht=>((hL.lift x this).2 t ht).1
  ·exact aB (by omega) (by omega) ⟨k+1,⟨by omega,eR hall hx h⟩,by omega,⟨⟨rfl,rfl,rfl,rfl,rfl,trivial⟩,trivial,rfl,rfl⟩⟩
 ·obtain rfl : k = m.length := by omega
  rw[List.take_length]at hall
  have hlift:(m.map Fc.f).map F.fc=m:=by
   clear hs2 hm1 hk hlt
   induction m with
   |nil=>rfl
   |cons x m ih=>
    rw[List.map_cons,List.map_cons,ih fun f hf=>hall f (List.mem_cons_of_mem _ hf)]
    congr 1
    have w_:=iH (hall x (by simp))
    obtain⟨xs,hxs,_⟩:=w_
    cases x with
    |mk r a=>
     have hxs:a=xs.map T.tm:=hxs
     subst hxs
     show Fc.mk r (((xs.map T.tm).map Tm.toT).map T.tm)=_
     rw[bW]
  generalize hM:m.map Fc.f=M at hlift
  subst hlift
  have hs3:Sl μ 2 b2 M.length ((M.map F.fc).map Fc.d):=by rw[List.length_map]at hs2;exact hs2
  have:=eC (c:=c) (c2:=c2) hs hs3
  rw[show M.length=(M.map F.fc).length from(List.length_map ..).symm]at this
  refine cGv this ?_
  refine rGv (isI ?_) rfl
  constructor
  ·intro e;rw[e]
  ·intro e
   rw[←F.fcs L,←e,F.fcs]
theorem qCj{p:Pg}{u:List Tm}{l m:List Fc}{f:Fc}{v w:Value}{ub fb mb:Option Addr}{uc fc mc:Nat}(hp:RepV μ p.d v)(hw:p.d.wd)(hu:Sl μ 4 ub u.length (u.map Tm.d))(hwu:D.wds (u.map Tm.d))(hb:RepV μ (.sl 2 (l.map Fc.d)) (.slice fb l.length fc))(hwb:D.wds (l.map Fc.d))(hn:l.length≤2000000)
  (hm:Sl μ 2 mb m.length (m.map Fc.d)) (hwm:D.wds (m.map Fc.d)) (hf:RepV μ f.d w) (hwf:f.d.wd):
  Spec Tryz.prog 77 [v,.slice ub u.length uc,.slice fb l.length fc,.slice mb m.length mc,w] μ fun r _=>r= .bool (decide (ReadyP p u l m f)):=by
 have hp0:=hp
 have w_:=Pg.inv hp
 obtain⟨q,rfl,hrl⟩:=w_
 have hf0:=hf
 have w_:=Fc.inv hf
 obtain⟨qf,rfl,_⟩:=w_
 refine Spec.mk Tryz.func77 (by kernel_rfl) ?_
 intro r5 r9
 refine cPl (lT hp0 hw hu hwu hb hwb hn) fun v1 μ1 hle1 hR=>?_
 cases hL:dK p u l with
 |none=>
  rw[hL]at hR
  obtain rfl:=hR
  refine iIn (fun h=>nomatch h) (fun _=>?_)
  refine rPl (isF fun k=>?_)
  obtain⟨y,hy,_⟩:=k
  rw[hL]at hy;cases hy
 |some y=>
 rw[hL]at hR
 obtain⟨tv,rfl,hR⟩:=hR
 have w_:=FsV.sl hR
 obtain⟨b1,c1,rfl,-,hs1⟩:=w_
 have hk:=gJ hL
 have no:∀{P:Prop},(ReadyP p u l m f→P)→¬P→¬ReadyP p u l m f:=fun h1 h2 k=>h2 (h1 k)
 refine iIn (fun _=>?_) (fun h=>nomatch h)
 refine cPl (qJ (hp0.mono hle1) hw (hm.mono hle1) hwm) fun v2 μ2 hle2 hR2=>?_
 obtain rfl:=hR2
 refine ifd (fun hall=>?_) (fun h=>?_)
 rotate_left
 ·refine rPl (isF fun k => h fun x hx => ?_)
  obtain⟨y',hy,e,_⟩:=k
  rw[hL]at hy;cases hy
  rw[e]at hx
  exact⟨hk.1,hk.2.1.lift x hx⟩
 have hall:∀f∈m,FactFits p f:=fun f hf=>(hall f hf).2
 have hlift:=cE hall
 generalize hM:m.map Fc.f=M at hlift
 subst hlift
 have hs2:Sl μ2 2 mb M.length ((M.map F.fc).map Fc.d):=by have:=(hm.mono hle1).mono hle2;rw[List.length_map]at this;exact this
 have hsame:=qGc (c:=c1) (c2:=mc) (hs1.mono hle2) hs2
 rw[show M.length=(M.map F.fc).length from(List.length_map ..).symm]at hsame
 refine cGv hsame ?_
 refine ifd (fun heq=>?_) (fun h=>?_)
 rotate_left
 ·refine rPl (isF fun k => h ?_)
  obtain⟨y',hy,e,_⟩:=k
  rw[hL]at hy;cases hy
  rw[←F.fcs y,←e,F.fcs]
 intro r35
 refine aW [2] ?_
 intro μ3 hle3 hno3 hat3
 have hle13:=(hle1.trans hle2).trans hle3
 have hone:=sM (RepV.mono hle13 hf0) hat3
 have hbok:=kN (uc:=uc) (fc:=1) (hp0.mono hle13) hw (hu.mono hle13) hwu (pC hone) (D.wds_of fun d hd=>by
  rw[List.map_cons,List.map_nil,List.mem_singleton]at hd;rw[hd];exact hwf)
 refine bH hbok fun v4 μ4 hle4 hR4=>?_
 obtain rfl:=hR4
 refine rPl (isI ?_)
 constructor
 ·exact fun k=>⟨y,hL,by rw[heq],k⟩
 ·rintro ⟨_, _, _, k⟩
  exact k
theorem vI{p:Pg}{u:List Tm}{l m:List Fc}{f:Fc}{v w:Value}{ub fb mb:Option Addr}{uc fc mc:Nat}(hp:RepV μ p.d v)(hw:p.d.wd)(hu:Sl μ 4 ub u.length (u.map Tm.d))(hwu:D.wds (u.map Tm.d))(hb:RepV μ (.sl 2 (l.map Fc.d)) (.slice fb l.length fc))(hwb:D.wds (l.map Fc.d))(hn:l.length≤1900000)
  (hm:Sl μ 2 mb m.length (m.map Fc.d)) (hwm:D.wds (m.map Fc.d)) (hf:RepV μ f.d w) (hwf:f.d.wd):
  Spec Tryz.prog 25 [v,.slice ub u.length uc,.slice fb l.length fc,.slice mb m.length mc,w] μ fun v μ'=>vA (fun y tv=>FsV μ' y tv) (addM' p u l m f) v:=by
 have hp0:=hp
 have w_:=Pg.inv hp
 obtain⟨q,rfl,hrl⟩:=w_
 have hf0:=hf
 have w_:=Fc.inv hf
 obtain⟨qf,rfl,_⟩:=w_
 refine Spec.mk Tryz.func25 (by kernel_rfl) ?_
 intro r5 r9
 refine cPl (qCj hp0 hw hu hwu hb hwb (by omega) hm hwm hf0 hwf) fun v1 μ1 hle1 hR=>?_
 obtain rfl:=hR
 refine aK (fun h=>rPl (by rw[addM',if_neg h];rfl)) (fun hrdy=>?_)
 rw[addM',if_pos hrdy]
 have hk:=hrdy.fact
 have hlift:=cE hk.1.2.2.1
 have hasc:=AscF.asc (L:=l.map Fc.f) (by rw[List.length_map];exact hk.1.2.2.2.2)
 have hb1:FsV μ1 (l.map Fc.f) (.slice fb l.length fc):=by
  show RepV μ1 (.sl 2 (((l.map Fc.f).map F.fc).map Fc.d)) _
  rw[hlift];exact RepV.mono hle1 hb
 have hf1:=hk.2.1.lift
 refine cPl (dP (f:=f.f) hasc hb1 (by rw[hf1.1];exact RepV.mono hle1 hf0) (by rw[List.length_map];omega)) fun v2 μ2 hle2 hR2=>?_
 have w_:=FsV.sl hR2
 obtain⟨b2,c2,rfl,-,-⟩:=w_
 have hil:=cC (l.map Fc.f) f.f
 rw[List.length_map]at hil
 have hfits:∀x∈(aX (l.map Fc.f) f.f).map F.fc,FactFits p x:=fun x hx=>by
  have w_:=List.mem_map.1 hx
  obtain⟨z,hz,rfl⟩:=w_
  rcases mem_insF.1 hz with e|hz
  ·rw[e,hf1.1];exact hk.2.1
  ·have : z.fc ∈ (l.map Fc.f).map F.fc := List.mem_map_of_mem hz
   rw[hlift]at this
   exact hk.1.2.2.1 _ this
 have hR2:RepV μ2 (.sl 2 (((aX (l.map Fc.f) f.f).map F.fc).map Fc.d)) (.slice b2 (aX (l.map Fc.f) f.f).length c2):=hR2
 have el:(aX (l.map Fc.f) f.f).length=((aX (l.map Fc.f) f.f).map F.fc).length:=(List.length_map ..).symm
 rw[el]at hR2
 have hbm:=lT (uc:=uc) (fc:=c2) ((hp0.mono hle1).mono hle2) hw ((hu.mono hle1).mono hle2) hwu hR2 (zM hk.2.2 hfits) (by rw[List.length_map];omega)
 rw[←el]at hbm
 refine cPl hbm fun v3 μ3 hle3 hR3=>?_
 cases hB:dK p u ((aX (l.map Fc.f) f.f).map F.fc)with
 |none=>
  rw[hB]at hR3
  obtain rfl:=hR3
  exact rPl rfl
 |some y=>
  rw[hB]at hR3
  obtain⟨tv,rfl,hR3⟩:=hR3
  exact rPl ⟨tv,rfl,hR3⟩
theorem uV{p:Pg}{u:List Tm}{l m:List Fc}{f:Fc}{v w:Value}{ub fb mb:Option Addr}{uc fc mc:Nat}(hp:RepV μ p.d v)(hu:Sl μ 4 ub u.length (u.map Tm.d))(hb:RepV μ (.sl 2 (l.map Fc.d)) (.slice fb l.length fc))(hn:l.length≤1900000)
  (hm:Sl μ 2 mb m.length (m.map Fc.d)) (hf:RepV μ f.d w):
  Spec Tryz.prog 24 [v,.slice ub u.length uc,.slice fb l.length fc,.slice mb m.length mc,w] μ fun v μ'=>vA (fun y tv=>Fresh μ μ' (.sl 2 ((y.map F.fc).map Fc.d)) tv) (addM' p u l m f) v:=by
 have hp0:=hp
 have w_:=Pg.inv hp
 obtain⟨q,rfl,hrl⟩:=w_
 have hf0:=hf
 have w_:=Fc.inv hf
 obtain⟨qf,rfl,_⟩:=w_
 refine Spec.mk Tryz.func24 (by kernel_rfl) ?_
 intro r5 r9
 refine cPl (bG hp0 hu hb (by omega)) fun v1 μ1 hle1 hR=>?_
 cases hL:dK p u l with
 |none=>
  rw[hL]at hR
  obtain rfl:=hR
  refine iIn (fun _=>rPl ?_) (fun h=>nomatch h)
  rw[addM',if_neg (fun k=>by obtain⟨y,hy,_⟩:=k;rw[hL]at hy;cases hy)];rfl
 |some y=>
 rw[hL]at hR
 obtain⟨tv,rfl,hR⟩:=hR
 have hR:FsV μ1 y tv:=hR.rep
 have w_:=FsV.sl hR
 obtain⟨b1,c1,rfl,-,hs1⟩:=w_
 have hk:=gJ hL
 have hgx:∃rs,aJ p u=some rs:=by
  cases e:aJ p u with
  |none=>exact absurd e hk.2.2.2.1
  |some rs=>exact⟨rs,rfl⟩
 obtain⟨rs0,hg0⟩:=hgx
 have w_:=(bB hg0).2.lift
 obtain⟨U,hUe,hUg,hUl⟩:=w_
 have hu':Sl μ 4 ub U.length ((U.map T.tm).map Tm.d):=by have:=hu;rw[hUe,List.length_map]at this;exact this
 have huc:U.length=u.length:=by rw[hUe,List.length_map]
 refine iIn (fun h=>nomatch h) (fun _=>?_)
 intro r29
 refine aW [2] ?_
 intro μ2 hle2 hno2 hat2
 have hle12:=hle1.trans hle2
 have hone:=sM (RepV.mono hle12 hf0) hat2
 have hbf:=eS (uc:=uc) (fc:=1) (hp0.mono hle12) (hu'.mono hle12) (pC hone)
 rw[huc]at hbf
 refine bH (R:=fun v μ'=>v=_∧μ'=μ2) hbf fun v3 μ3 hle3 hR3=>?_
 obtain⟨rfl,e30⟩:=hR3
 obtain rfl:=e30.symm
 have hBiff:(∀x∈[f],FactFits p x)∧(∀x∈[f].map Fc.f,∀a∈x.args,a∈U)∧AscF ([f].map Fc.f) [f].length↔fC p u [f]:=by
  rw[fC,hUe,bW,←hUe]
  exact⟨fun k=>⟨hk.2.2.2.1,hk.2.2.2.2.1,k⟩,fun k=>k.2.2⟩
 refine aK (fun h=>rPl ?_) (fun hfit=>?_)
 ·rw[addM',if_neg (fun k=>h (by obtain⟨_,_,_,k⟩:=k;exact hBiff.2 k))];rfl
 refine cGv (rO hk.2.1 (hs1.mono hle2) (hm.mono hle12)) ?_
 refine aK (fun h=>rPl ?_) (fun hsame=>?_)
 ·rw[addM',if_neg (fun k=>h (by obtain⟨y',hy,e,_⟩:=k;rw[hL]at hy;cases hy;exact e))];rfl
 have hrdy:ReadyP p u l m f:=⟨y,hL,hsame,hBiff.1 hfit⟩
 have hk2:=hrdy.fact
 have hlift:=cE hk2.1.2.2.1
 have hasc:=AscF.asc (L:=l.map Fc.f) (by rw[List.length_map];exact hk2.1.2.2.2.2)
 have hb1:FsV μ2 (l.map Fc.f) (.slice fb l.length fc):=by
  show RepV μ2 (.sl 2 (((l.map Fc.f).map F.fc).map Fc.d)) _
  rw[hlift];exact RepV.mono hle12 hb
 have hf1:=hk2.2.1.lift
 have hfR:RepV μ2 f.f.fc.d (.agg #[.string f.rel,.slice qf.1 f.args.length qf.2]):=by rw[hf1.1];exact RepV.mono hle12 hf0
 rw[addM',if_pos hrdy]
 have w_:=Rep.srcAll hb1
 obtain⟨vs,hvrows,hvl,hsrc⟩:=w_
 refine And.intro ?_ (And.intro ?_ trivial)
 ·intro r42
  refine And.intro ?_ (And.intro ?_ trivial)
  ·refine aG _ hsrc ?_
   refine gIn ?_ ?_ fun bn cn _=>?_
   ·show(0+_)*40≤_;omega
   ·exact Nat.le_trans (m:=100000000) (show 0+vs.length≤_ by omega) (by decide)
   intro r46
   refine gIn ?_ ?_ fun bn2 cn2 _=>?_
   ·show(([]++vs).length+1)*40≤_;simp;omega
   ·exact Nat.le_trans (m:=100000000) (show([]++vs).length+1≤_ by simp;omega) (by decide)
   refine aW [3] ?_
   intro μ4 hle4 hno4 hat4
   have hrows:Rows μ2 2 (((l.map Fc.f++[f.f]).map F.fc).map Fc.d) (([]++vs)++[.agg #[.string f.rel,.slice qf.1 f.args.length qf.2]]):=by
    simp only[List.map_append,List.map_cons,List.map_nil,List.nil_append]
    exact hvrows.append (Rows.one hfR (Fc.d_n _))
   have hrep:=Rows.sl hat4 (hrows.mono hle4) (Nat.le_trans (m:=100000000) (by simp;omega) (by decide))
   refine bH (bE (L:=l.map Fc.f++[f.f]) hrep (by simp;omega)) fun v5 μ5 hle5 hR5=>?_
   have e:dA (l.map Fc.f++[f.f])=aX (l.map Fc.f) f.f:=kI fun x=>by
    rw[List.mem_append,List.mem_singleton,List.mem_cons];exact Or.comm
   rw[e]at hR5
   have w_:=FsV.sl hR5
   obtain⟨b5,c5,rfl,-,-⟩:=w_
   have hil:=cC (l.map Fc.f) f.f
   rw[List.length_map]at hil
   have hR5:RepV μ5 (.sl 2 (((aX (l.map Fc.f) f.f).map F.fc).map Fc.d)) (.slice b5 (aX (l.map Fc.f) f.f).length c5):=hR5
   have el:(aX (l.map Fc.f) f.f).length=((aX (l.map Fc.f) f.f).map F.fc).length:=(List.length_map ..).symm
   rw[el]at hR5
   have hle25:=(hle12.trans hle4).trans hle5
   have hbm:=bG (uc:=uc) (fc:=c5) (hp0.mono hle25) (hu.mono hle25) hR5 (by rw[List.length_map];omega)
   rw[←el]at hbm
   refine cPl hbm fun v6 μ6 hle6 hR6=>?_
   cases hB:dK p u ((aX (l.map Fc.f) f.f).map F.fc)with
   |none=>
    rw[hB]at hR6
    obtain rfl:=hR6
    exact rPl rfl
   |some z=>
    rw[hB]at hR6
    obtain⟨tv,rfl,hR6⟩:=hR6
    exact rPl ⟨tv,rfl,hR6.mono hle25 (Mem.Le.refl _)⟩
  ·intro r46
   refine aG _ hsrc ?_
   refine gIn ?_ ?_ fun bn cn _=>?_
   ·show(0+_)*40≤_;omega
   ·exact Nat.le_trans (m:=100000000) (show 0+vs.length≤_ by omega) (by decide)
   refine gIn ?_ ?_ fun bn2 cn2 _=>?_
   ·show(([]++vs).length+1)*40≤_;simp;omega
   ·exact Nat.le_trans (m:=100000000) (show([]++vs).length+1≤_ by simp;omega) (by decide)
   refine aW [3] ?_
   intro μ4 hle4 hno4 hat4
   have hrows:Rows μ2 2 (((l.map Fc.f++[f.f]).map F.fc).map Fc.d) (([]++vs)++[.agg #[.string f.rel,.slice qf.1 f.args.length qf.2]]):=by
    simp only[List.map_append,List.map_cons,List.map_nil,List.nil_append]
    exact hvrows.append (Rows.one hfR (Fc.d_n _))
   have hrep:=Rows.sl hat4 (hrows.mono hle4) (Nat.le_trans (m:=100000000) (by simp;omega) (by decide))
   refine bH (bE (L:=l.map Fc.f++[f.f]) hrep (by simp;omega)) fun v5 μ5 hle5 hR5=>?_
   have e:dA (l.map Fc.f++[f.f])=aX (l.map Fc.f) f.f:=kI fun x=>by
    rw[List.mem_append,List.mem_singleton,List.mem_cons];exact Or.comm
   rw[e]at hR5
   have w_:=FsV.sl hR5
   obtain⟨b5,c5,rfl,-,-⟩:=w_
   have hil:=cC (l.map Fc.f) f.f
   rw[List.length_map]at hil
   have hR5:RepV μ5 (.sl 2 (((aX (l.map Fc.f) f.f).map F.fc).map Fc.d)) (.slice b5 (aX (l.map Fc.f) f.f).length c5):=hR5
   have el:(aX (l.map Fc.f) f.f).length=((aX (l.map Fc.f) f.f).map F.fc).length:=(List.length_map ..).symm
   rw[el]at hR5
   have hle25:=(hle12.trans hle4).trans hle5
   have hbm:=bG (uc:=uc) (fc:=c5) (hp0.mono hle25) (hu.mono hle25) hR5 (by rw[List.length_map];omega)
   rw[←el]at hbm
   refine cPl hbm fun v6 μ6 hle6 hR6=>?_
   cases hB:dK p u ((aX (l.map Fc.f) f.f).map F.fc)with
   |none=>
    rw[hB]at hR6
    obtain rfl:=hR6
    exact rPl rfl
   |some z=>
    rw[hB]at hR6
    obtain⟨tv,rfl,hR6⟩:=hR6
    exact rPl ⟨tv,rfl,hR6.mono hle25 (Mem.Le.refl _)⟩
 ·intro r46
  intro r42
  refine aG _ hsrc ?_
  refine gIn ?_ ?_ fun bn cn _=>?_
  ·show(0+_)*40≤_;omega
  ·exact Nat.le_trans (m:=100000000) (show 0+vs.length≤_ by omega) (by decide)
  refine gIn ?_ ?_ fun bn2 cn2 _=>?_
  ·show(([]++vs).length+1)*40≤_;simp;omega
  ·exact Nat.le_trans (m:=100000000) (show([]++vs).length+1≤_ by simp;omega) (by decide)
  refine aW [4] ?_
  intro μ4 hle4 hno4 hat4
  have hrows:Rows μ2 2 (((l.map Fc.f++[f.f]).map F.fc).map Fc.d) (([]++vs)++[.agg #[.string f.rel,.slice qf.1 f.args.length qf.2]]):=by
   simp only[List.map_append,List.map_cons,List.map_nil,List.nil_append]
   exact hvrows.append (Rows.one hfR (Fc.d_n _))
  have hrep:=Rows.sl hat4 (hrows.mono hle4) (Nat.le_trans (m:=100000000) (by simp;omega) (by decide))
  refine bH (bE (L:=l.map Fc.f++[f.f]) hrep (by simp;omega)) fun v5 μ5 hle5 hR5=>?_
  have e:dA (l.map Fc.f++[f.f])=aX (l.map Fc.f) f.f:=kI fun x=>by
   rw[List.mem_append,List.mem_singleton,List.mem_cons];exact Or.comm
  rw[e]at hR5
  have w_:=FsV.sl hR5
  obtain⟨b5,c5,rfl,-,-⟩:=w_
  have hil:=cC (l.map Fc.f) f.f
  rw[List.length_map]at hil
  have hR5:RepV μ5 (.sl 2 (((aX (l.map Fc.f) f.f).map F.fc).map Fc.d)) (.slice b5 (aX (l.map Fc.f) f.f).length c5):=hR5
  have el:(aX (l.map Fc.f) f.f).length=((aX (l.map Fc.f) f.f).map F.fc).length:=(List.length_map ..).symm
  rw[el]at hR5
  have hle25:=(hle12.trans hle4).trans hle5
  have hbm:=bG (uc:=uc) (fc:=c5) (hp0.mono hle25) (hu.mono hle25) hR5 (by rw[List.length_map];omega)
  rw[←el]at hbm
  refine cPl hbm fun v6 μ6 hle6 hR6=>?_
  cases hB:dK p u ((aX (l.map Fc.f) f.f).map F.fc)with
  |none=>
   rw[hB]at hR6
   obtain rfl:=hR6
   exact rPl rfl
  |some z=>
   rw[hB]at hR6
   obtain⟨tv,rfl,hR6⟩:=hR6
   exact rPl ⟨tv,rfl,hR6.mono hle25 (Mem.Le.refl _)⟩
theorem lB{p:Pg}{u:List Tm}{l m:List Fc}{f:Fc}{v w:Value}{ub fb mb:Option Addr}{uc fc mc:Nat}(hp:RepV μ p.d v)(hu:Sl μ 4 ub u.length (u.map Tm.d))(hb:RepV μ (.sl 2 (l.map Fc.d)) (.slice fb l.length fc))(hn:l.length≤1900000)
  (hm:Sl μ 2 mb m.length (m.map Fc.d)) (hf:RepV μ f.d w):
  Spec Tryz.prog 27 [v,.slice ub u.length uc,.slice fb l.length fc,.slice mb m.length mc,w] μ fun v μ'=>vA (fun y tv=>Fresh μ μ' (.sl 2 ((y.map F.fc).map Fc.d)) tv) (qJq p u l m f) v:=by
 have hp0:=hp
 have w_:=Pg.inv hp
 obtain⟨q,rfl,hrl⟩:=w_
 have hf0:=hf
 have w_:=Fc.inv hf
 obtain⟨qf,rfl,_⟩:=w_
 refine Spec.mk Tryz.func27 (by kernel_rfl) ?_
 intro r5 r9
 refine cPl (bG hp0 hu hb (by omega)) fun v1 μ1 hle1 hR=>?_
 cases hL:dK p u l with
 |none=>
  rw[hL]at hR
  obtain rfl:=hR
  refine iIn (fun _=>rPl ?_) (fun h=>nomatch h)
  rw[qJq,if_neg (fun k=>by obtain⟨⟨y,hy,_⟩,_⟩:=k;rw[hL]at hy;cases hy)];rfl
 |some y=>
 rw[hL]at hR
 obtain⟨tv,rfl,hR⟩:=hR
 have hR:FsV μ1 y tv:=hR.rep
 have w_:=FsV.sl hR
 obtain⟨b1,c1,rfl,-,hs1⟩:=w_
 have hk:=gJ hL
 have hgx:∃rs,aJ p u=some rs:=by
  cases e:aJ p u with
  |none=>exact absurd e hk.2.2.2.1
  |some rs=>exact⟨rs,rfl⟩
 obtain⟨rs0,hg0⟩:=hgx
 have w_:=(bB hg0).2.lift
 obtain⟨U,hUe,hUg,hUl⟩:=w_
 have hu':Sl μ 4 ub U.length ((U.map T.tm).map Tm.d):=by have:=hu;rw[hUe,List.length_map]at this;exact this
 have huc:U.length=u.length:=by rw[hUe,List.length_map]
 refine iIn (fun h=>nomatch h) (fun _=>?_)
 intro r29
 refine aW [2] ?_
 intro μ2 hle2 hno2 hat2
 have hle12:=hle1.trans hle2
 have hone:=sM (RepV.mono hle12 hf0) hat2
 have hbf:=eS (uc:=uc) (fc:=1) (hp0.mono hle12) (hu'.mono hle12) (pC hone)
 rw[huc]at hbf
 refine bH (R:=fun v μ'=>v=_∧μ'=μ2) hbf fun v3 μ3 hle3 hR3=>?_
 obtain⟨rfl,e30⟩:=hR3
 obtain rfl:=e30.symm
 have hBiff:(∀x∈[f],FactFits p x)∧(∀x∈[f].map Fc.f,∀a∈x.args,a∈U)∧AscF ([f].map Fc.f) [f].length↔fC p u [f]:=by
  rw[fC,hUe,bW,←hUe]
  exact⟨fun k=>⟨hk.2.2.2.1,hk.2.2.2.2.1,k⟩,fun k=>k.2.2⟩
 refine aK (fun h=>rPl ?_) (fun hfit=>?_)
 ·rw[qJq,if_neg (fun k=>h (by obtain⟨⟨_,_,_,k⟩,_⟩:=k;exact hBiff.2 k))];rfl
 refine cGv (rO hk.2.1 (hs1.mono hle2) (hm.mono hle12)) ?_
 refine aK (fun h=>rPl ?_) (fun hsame=>?_)
 ·rw[qJq,if_neg (fun k=>h (by obtain⟨⟨y',hy,e,_⟩,_⟩:=k;rw[hL]at hy;cases hy;exact e))];rfl
 have hrdy:ReadyP p u l m f:=⟨y,hL,hsame,hBiff.1 hfit⟩
 have hk2:=hrdy.fact
 have hlift:=cE hk2.1.2.2.1
 have hasc:=AscF.asc (L:=l.map Fc.f) (by rw[List.length_map];exact hk2.1.2.2.2.2)
 have hb1:FsV μ2 (l.map Fc.f) (.slice fb l.length fc):=by
  show RepV μ2 (.sl 2 (((l.map Fc.f).map F.fc).map Fc.d)) _
  rw[hlift];exact RepV.mono hle12 hb
 have hf1:=hk2.2.1.lift
 have hfR:RepV μ2 f.f.fc.d (.agg #[.string f.rel,.slice qf.1 f.args.length qf.2]):=by rw[hf1.1];exact RepV.mono hle12 hf0
 have w_:=FsV.sl hb1
 obtain⟨b3,c3,e3,-,hbs1⟩:=w_
 have w_:=Value.slice.inj e3
 obtain⟨rfl,e4,rfl⟩:=w_
 have hhas:=bM (c:=fc) hasc (by rw[List.length_map];omega) hbs1 hfR
 rw[←e4]at hhas hbs1
 refine cGv hhas ?_
 refine aK (fun h=>rPl ?_) (fun hin=>?_)
 ·rw[qJq,if_neg fun k=>h k.2];rfl
 rw[qJq,if_pos ⟨hrdy,hin⟩]
 intro r14
 refine lIn (fun z:Nat×Option Nat×Nat×List Value=>z.1≤l.length∧Rows μ2 2 (((wI l f z.1).map F.fc).map Fc.d) z.2.2.2)
  (fun(i,bo,co,ys)=>⟨[(1,.val (.slice ub u.length uc)),(5,.loc 0 r5 0),(9,.loc 1 r9 0),(14,.row 3 bo ys.length co),(49,.val (.slice fb l.length fc)),(50,.val (.int .i64 l.length)),(51,.val (.int .i64 i))],[(0,some (.cells r5 [.val (.slice q.1 p.rels.length q.2)] 25)),(1,some (.cells r9 [.val (.string f.rel),.val (.slice qf.1 f.args.length qf.2)] 41)),(3,some (.row bo co 41 2 ys))],4,μ2,Mem.nil⟩) (fun z=>l.length-z.1)
  (0,some r14,0,[]) ⟨Nat.zero_le _,by simpa[wI]using .nil⟩ (fun(_,_,_,_)=>⟨rfl,rfl⟩) ⟨⟨rfl,rfl,rfl,rfl,rfl,rfl,rfl,trivial⟩,⟨rfl,rfl,rfl,trivial⟩,rfl,rfl⟩ ?_
 rintro⟨i,bo,co,ys⟩ ⟨hi,hrows⟩
 dsimp only at hi hrows
 have hyl:=hrows.len
 simp only[List.length_map]at hyl
 have hrl2:=qSi l f i
 refine ifd (fun hlt=>?_) (fun hlt=>?_)
 ·have w_ := aSo (l := l.map Fc.f) (i := i) (by rw [List.length_map]; omega)
  obtain⟨x,hx⟩:=w_
  have w_:=F.elem hbs1 hx
  obtain⟨ad,p3,hel,hrx,_⟩:=w_
  have hsucc:=qPr (f:=f) hx
  refine eIn hel ?_
  intro r16
  refine cGv (dH hrx hfR) ?_
  refine aK (fun hc=>?_) (fun hc=>?_)
  ·rw [if_pos (fun e => hc ((cmpF_ord.zero _ _).2 e))] at hsucc
   intro r60
   refine gIn ?_ ?_ fun b' c' _=>?_
   ·show(ys.length+1)*40≤_;omega
   ·exact Nat.le_trans (m:=100000000) (show ys.length+1≤_ by omega) (by decide)
   refine aB (by omega) (by omega) ⟨(i+1,b',c',_),⟨by dsimp only;omega,?_⟩,by dsimp only;omega,⟨⟨rfl,rfl,rfl,rfl,rfl,rfl,rfl,trivial⟩,⟨rfl,rfl,rfl,trivial⟩,rfl,rfl⟩⟩
   dsimp only
   rw[hsucc]
   simp only[List.map_append,List.map_cons,List.map_nil]
   exact hrows.append (Rows.one hrx (Fc.d_n _))
  ·rw [if_neg (fun k => k ((cmpF_ord.zero _ _).1 hc)), List.append_nil] at hsucc
   refine aB (by omega) (by omega) ⟨(i+1,bo,co,ys),⟨by dsimp only;omega,?_⟩,by dsimp only;omega,⟨⟨rfl,rfl,rfl,rfl,rfl,rfl,rfl,trivial⟩,⟨rfl,rfl,rfl,trivial⟩,rfl,rfl⟩⟩
   dsimp only
   rw[hsucc];exact hrows
 obtain rfl:i=l.length:=by omega
 have hfits:∀x∈(wI l f l.length).map F.fc,FactFits p x:=fun x hx=>by
  have w_:=List.mem_map.1 hx
  obtain⟨z,hz,rfl⟩:=w_
  have hz:=List.mem_of_mem_take (List.mem_filter.1 hz).1
  have:z.fc∈(l.map Fc.f).map F.fc:=List.mem_map_of_mem hz
  rw[hlift]at this
  exact hk2.1.2.2.1 _ this
 refine aW [3] ?_
 intro μ7 hle7 hno7 hat7
 have hrep:=Rows.sl hat7 (hrows.mono hle7) (Nat.le_trans (m:=100000000) (by omega) (by decide))
 have el:ys.length=((wI l f l.length).map F.fc).length:=by rw[List.length_map,hyl]
 rw[el]at hrep
 have hle27:=hle12.trans hle7
 have hbm:=bG (uc:=uc) (hp0.mono hle27) (hu.mono hle27) hrep (by rw[List.length_map];omega)
 rw[←el]at hbm
 refine bH hbm fun v6 μ6 hle6 hR6=>?_
 cases hB:dK p u ((wI l f l.length).map F.fc)with
 |none=>
  rw[hB]at hR6
  obtain rfl:=hR6
  exact rPl rfl
 |some z=>
  rw[hB]at hR6
  obtain⟨tv,rfl,hR6⟩:=hR6
  exact rPl ⟨tv,rfl,hR6.mono hle27 (Mem.Le.refl _)⟩
end
end Go.Vx
namespace Go.Vx
open Go.Proofs Classical
noncomputable def qK(p:Pg)(u:List Tm)(m:List Fc)(f:Fc):Option (List F):=if fC p u m∧fC p u [f]∧f.f∈m.map Fc.f then(aJ p u).map fun rs=>mZ rs (m.map Fc.f) [f.f]else none
theorem fit_B{p:Pg}(hp:p.Ok){f:Fc}(h:FactFits p f):f.f.args.length≤4∧∀a∈f.f.args,a.ok:=by
 have h1:=h.len hp
 refine⟨by rw[Fc.f];simpa using h1,fun a ha=>(h.lift.2 a ha).1⟩
theorem head_B{p:Pg}{r:Ru}(h:RuOk p r):r.head.args.length≤4∧∀a∈r.head.args,a.ok:=by
 refine⟨h.hlen,fun a ha=>?_⟩
 have:=h.head.lift.2 a (by rw[F.fc_f];exact ha)
 exact this.1
theorem qNl{p:Pg}{rs:List Ru}{m B:List F}(hr:∀r∈rs,RuOk p r)(hB:FsB B):FsB (mZ rs m B):=fun x hx=>by
 rw[mZ,mem_ascF,List.mem_filter,decide_eq_true_eq]at hx
 cases hx.2 with
 |self h=>exact hB x h
 |rule h _ _ _=>exact head_B (hr _ h)
structure OvS (rs:List Ru) (m B:List F) (L0 L:List F) (b:Bool) (C:Prop):Prop where
 inv:OvI rs m B L
 more:b=true→L0.length<L.length
 same:b=false→L=L0∧C
def iT(rs:List Ru)(m L:List F)(i:Nat):Prop:=∀r∈rs.take i,(∀x∈r.pos,x∈m)→(∃y∈r.pos,y∈L)→r.head∈L
theorem OvS.len{rs:List Ru}{m B:List F}{L0 L:List F}{b:Bool}{C:Prop}(h:OvS rs m B L0 L b C):L0.length≤L.length:=by
 cases b with
 |false=>rw[(h.same rfl).1];exact Nat.le_refl _
 |true=>exact Nat.le_of_lt (h.more rfl)
section
variable {μ:Mem}
theorem qLl{μ':Mem}:Fresh μ μ' (.sl 2 (([]:List Fc).map Fc.d)) (.slice none 0 0):=⟨Mem.nil,Own.nilSl 2,(fun _ _ h=>nomatch h),fun _ h=>absurd rfl h⟩
theorem qRz{h:Mem}{r c:Nat}{ys:List Value}{L:List F}(hap:Apart μ h)(hro:RowO h r c 41 2 ys)(hrows:Rows μ 2 ((L.map F.fc).map Fc.d) ys):FsV (μ.join h) L (.slice (some ⟨r,0,none⟩) L.length c):=by
 have:=hro.rep (Mem.le_join_right hap) (hrows.mono (Mem.le_join _ _))
 have hl:=hrows.len
 simp only[List.length_map]at hl
 rw[hl];exact this
theorem ownSl{h:Mem}{r c:Nat}{ys:List Value}{L:List F}(hap:Apart μ h)(hro:RowO h r c 41 2 ys)(hrows:Rows μ 2 ((L.map F.fc).map Fc.d) ys):Sl (μ.join h) 2 (some ⟨r,0,none⟩) L.length ((L.map F.fc).map Fc.d):=by
 have w_:=FsV.sl (qRz hap hro hrows)
 obtain⟨b,c',e,_,hs⟩:=w_
 have w_:=Value.slice.inj e
 obtain⟨rfl,_,_⟩:=w_
 exact hs
theorem nL{H:Mem}{L:List F}{f:F}{r c:Nat}{ys:List Value}{w:Value}(hap:Apart μ H)(hro:RowO H r c 41 2 ys)(hrows:Rows μ 2 ((L.map F.fc).map Fc.d) ys)(hL:Asc3 bC L)(hn:L.length≤1000000000)(hf:RepV μ f.fc.d w):
  Spec Tryz.prog 64 [.slice (some ⟨r,0,none⟩) L.length c,w] (μ.join H) fun v μ'=>v= .bool (decide (f∈L))∧μ'=μ.join H:=
 bM hL hn (ownSl hap hro hrows) (RepV.mono (Mem.le_join _ _) hf)
theorem qSd{L:List F}{r c:Nat}{H:Mem}{ys:List Value}{f:F}{w:Value}(hap:Apart μ H)(hro:RowO H r c 41 2 (ys++[w]))(hrows:Rows μ 2 ((L.map F.fc).map Fc.d) ys)(hn:L.length≤1000000)(hf:RepV μ f.fc.d w):
  SpecH Tryz.prog 63 [.slice (some ⟨r,0,none⟩) (L.length+1) c] μ H fun v _ H'=>∃r' c' ys',v= .slice (some ⟨r',0,none⟩) (aX L f).length c'∧RowO H' r' c' 41 2 ys'∧Rows μ 2 (((aX L f).map F.fc).map Fc.d) ys':=by
 have hr2:Rows μ 2 (((L++[f]).map F.fc).map Fc.d) (ys++[w]):=by
  simp only[List.map_append,List.map_cons,List.map_nil]
  exact hrows.append (Rows.one hf (Fc.d_n _))
 have:=qCm hap hro hr2 (by simp;omega)
 have e:dA (L++[f])=aX L f:=kI fun x=>by
  rw[List.mem_append,List.mem_singleton,List.mem_cons];exact Or.comm
 rw[e,List.length_append]at this
 exact this
end
end Go.Vx
namespace Go.Vx
open Go.Proofs Classical
section
variable {μ:Mem}
set_option maxHeartbeats 4000000 in
theorem kG{p:Pg}{u:List Tm}{m:List Fc}{f:Fc}{v w:Value}{ub mb:Option Addr}{uc mc:Nat}(hp:RepV μ p.d v)(hu:Sl μ 4 ub u.length (u.map Tm.d))(hm:Sl μ 2 mb m.length (m.map Fc.d))(hmn:m.length≤2000000)(hf:RepV μ f.d w):
  Spec Tryz.prog 28 [v,.slice ub u.length uc,.slice mb m.length mc,w] μ fun v μ'=>Fresh μ μ' (.sl 2 ((resF (qK p u m f)).map Fc.d)) v:=by
 have hp0:=hp
 have w_:=Pg.inv hp
 obtain⟨q,rfl,hrl⟩:=w_
 have hf0:=hf
 have w_:=Fc.inv hf
 obtain⟨qf,rfl,_⟩:=w_
 refine Spec.mkO [42] Tryz.func28 (by kernel_rfl) ?_
 intro r3 r5
 refine cPl (cT hp0 hu) fun v1 μ1 hle1 hR=>?_
 have hpos1:∀{rs},aU p u=some rs→p.Pos∧aJ p u=some rs:=fun {rs} h=>by
  rw[aU]at h
  split at h
  ·rename_i k;exact⟨k,h⟩
  ·cases h
 have nilr:¬(fC p u m∧fC p u [f])→∀μ',Fresh μ μ' (.sl 2 ((resF (qK p u m f)).map Fc.d)) (.slice none 0 0):=fun h μ'=>by
  have e:qK p u m f=none:=by rw[qK,if_neg fun k=>h ⟨k.1,k.2.1⟩]
  rw[e];exact qLl
 cases hP:aU p u with
 |none=>
  rw[hP]at hR
  obtain rfl:=hR
  refine iIn (fun _=>rPl (nilr (fun k=>?_) _)) (fun h=>nomatch h)
  exact k.1.1 (by rw[aU,if_pos k.1.2.1]at hP;exact hP)
 |some rs=>
 rw[hP]at hR
 obtain⟨tv,rfl,hR⟩:=hR
 have hR:RsV μ1 rs tv:=hR
 have w_:=hpos1 hP
 obtain⟨hpos,hL⟩:=w_
 have w_:=RsV.sl hR
 obtain⟨b1,c1,rfl,hrs⟩:=w_
 have w_:=bI hL
 obtain⟨hrl2,hro⟩:=w_
 have hok:=bB hL
 have w_:=hok.2.lift
 obtain⟨U,hUe,hUg,hUl⟩:=w_
 have hu':Sl μ 4 ub U.length ((U.map T.tm).map Tm.d):=by have:=hu;rw[hUe,List.length_map]at this;exact this
 have huc:U.length=u.length:=by rw[hUe,List.length_map]
 have hBiff:∀l:List Fc,((∀x∈l,FactFits p x)∧(∀x∈l.map Fc.f,∀a∈x.args,a∈U)∧AscF (l.map Fc.f) l.length)↔fC p u l:=fun l=>by
  rw[fC,hUe,bW,←hUe]
  exact⟨fun k=>⟨by rw[hL];exact(fun h=>nomatch h),hpos,k⟩,fun k=>k.2.2⟩
 refine iIn (fun h=>nomatch h) (fun _=>?_)
 have hbf0:=eS (uc:=uc) (fc:=mc) (hp0.mono hle1) (hu'.mono hle1) (hm.mono hle1)
 rw[huc]at hbf0
 refine cGv hbf0 ?_
 refine aK (fun h=>rPl (nilr (fun k=>h ((hBiff m).2 k.1)) _)) (fun hfitm=>?_)
 have hBM:=(hBiff m).1 hfitm
 intro r27
 refine aW [2] ?_
 intro μ2 hle2 hno2 hat2
 have hle12:=hle1.trans hle2
 have hone:=sM (RepV.mono hle12 hf0) hat2
 have hbf:=eS (uc:=uc) (fc:=1) (hp0.mono hle12) (hu'.mono hle12) (pC hone)
 rw[huc]at hbf
 refine bH (R:=fun v μ'=>v=_∧μ'=μ2) hbf fun v3 μ3 hle3 hR3=>?_
 obtain⟨rfl,e30⟩:=hR3
 have hle13:=hle12.trans hle3
 refine aK (fun h=>rPl (nilr (fun k=>h ((hBiff [f]).2 k.2)) _)) (fun hfit=>?_)
 have hBP:=(hBiff [f]).1 hfit
 have hff:=hBP.2.2.1 f (by simp)
 have hf1:=hff.lift
 have hfR:RepV μ3 f.f.fc.d (.agg #[.string f.rel,.slice qf.1 f.args.length qf.2]):=by rw[hf1.1];exact RepV.mono hle13 hf0
 have hrs3:=hrs.mono (hle2.trans hle3)
 have hlift:=cE hBM.2.2.1
 have el:m.length=(m.map Fc.f).length:=(List.length_map ..).symm
 have hms:Sl μ3 2 mb (m.map Fc.f).length (((m.map Fc.f).map F.fc).map Fc.d):=by rw[hlift,←el];exact hm.mono hle13
 have hMasc:=AscF.asc (L:=m.map Fc.f) (by rw[List.length_map];exact hBM.2.2.2.2)
 have hMlen:(m.map Fc.f).length≤1000000000:=by omega
 have hres:f.f∈m.map Fc.f→qK p u m f=some (mZ rs (m.map Fc.f) [f.f]):=fun h=>by rw[qK,if_pos ⟨hBM,hBP,h⟩,hL];rfl
 have hresn:f.f∉m.map Fc.f→qK p u m f=none:=fun h=>by rw[qK,if_neg fun k=>h k.2.2]
 clear nilr hbf hbf0
 generalize hM:m.map Fc.f=M at*
 intro r42 hm42 ho42
 have hhas0:Spec Tryz.prog 64 [.slice mb m.length mc,.agg #[.string f.rel,.slice qf.1 f.args.length qf.2]] μ3 fun v μ'=>v= .bool (decide (f.f∈M))∧μ'=μ3:=by
  have:=bM (c:=mc) hMasc hMlen hms hfR
  rw[←el]at this
  exact this
 refine cDa ((dY μ3).set hm42) hhas0 fun v5 μ5 hle5 hap5 hR5=>?_
 obtain⟨rfl,e50⟩:=hR5
 obtain rfl:=e50.symm
 refine ifd (fun hin=>?_) (fun hin=>?_)
 ·have hBl : [f.f].length ≤ 1 := Nat.le_refl _
  have hBB:FsB [f.f]:=fun x hx=>by rw[List.mem_singleton.1 hx];exact fit_B hok.1 hff
  have hres2:(resF (qK p u m f)).map Fc.d=((mZ rs M [f.f]).map F.fc).map Fc.d:=by rw[hres hin];rfl
  intro r48
  refine fD [] rfl ⟨[],Mem.set_at _ _ _,by simp,by simp,by simp,rfl,rfl⟩ ?_ ?_ fun b9 c9 o hrow hor=>?_
  ·show(0+1)*40≤_;omega
  ·show 0+1≤maxLen;decide
  have hap9:=hap5.set (o:=o) (mO (ys:=[]) (ty:=41) (es:=2) (cap:=0) (r:=r42) ⟨[],Mem.set_at _ _ _,by simp,by simp,by simp,rfl,rfl⟩ hap5 hor)
  refine lIn (fun z:List F×Bool×Nat×Nat×List Value×Mem×Mem=>OvI rs M [f.f] z.1∧(z.2.1=false→iT rs M z.1 rs.length)∧μ3.Le z.2.2.2.2.2.1∧Apart z.2.2.2.2.2.1 z.2.2.2.2.2.2∧RowO z.2.2.2.2.2.2 z.2.2.1 z.2.2.2.1 41 2 z.2.2.2.2.1∧Rows z.2.2.2.2.2.1 2 ((z.1.map F.fc).map Fc.d) z.2.2.2.2.1)
   (fun(L,b,r,c,ys,μ',h)=>⟨[(2,.val (.slice mb m.length mc)),(9,.val (.slice b1 rs.length c1)),(11,.val (.slice (some ⟨r,0,none⟩) L.length c)),(12,.val (.bool b))],[],4,μ',h⟩) (fun z=>2*(1+rs.length-z.1.length)+(if z.2.1=true then 1 else 0))
   ([f.f],true,b9,c9,[.agg #[.string f.rel,.slice qf.1 f.args.length qf.2]],μ3,_) ⟨⟨List.pairwise_singleton _ _,fun _ h=>h,fun x hx=> .self hx⟩,(fun h=>nomatch h),Mem.Le.refl _,hap9,hrow,Rows.one hfR (Fc.d_n _)⟩ (fun(_,_,_,_,_,_,_)=>⟨rfl,rfl⟩) ⟨⟨rfl,rfl,rfl,rfl,trivial⟩,trivial,rfl,rfl⟩ ?_
  rintro⟨L,b,r,c,ys,μ4,h4⟩ ⟨hI,hdone,hle4,hap4,hro4,hrows4⟩
  dsimp only at hI hdone hle4 hap4 hro4 hrows4
  have hLl:=Nat.le_trans hI.len (Nat.add_le_add_right hBl _)
  refine iIn (fun hb=>?_) (fun hb=>?_)
  rotate_left
  ·have e := hI.done fun r hr => hdone hb r (by rw [List.take_length]; exact hr)
   have hB4:=qNl (m:=M) (B:=[f.f]) hro hBB
   refine qCw hap4 (bD (qRz hap4 hro4 hrows4) (by omega) fun x hx=>Nat.le_trans (hB4 x (by rw[←e];exact hx)).1 (by decide)) fun v5 μ5 hle5 hap5 hR5=>?_
   refine rPl ?_
   rw[hres2,←e]
   exact hR5.mono (hle13.trans hle4) (Mem.Le.refl _)
  refine lIn (fun z:Nat×List F×Bool×Nat×Nat×List Value×Mem×Mem=>z.1≤rs.length∧OvS rs M [f.f] L z.2.1 z.2.2.1 (iT rs M L z.1)∧μ4.Le z.2.2.2.2.2.2.1∧Apart z.2.2.2.2.2.2.1 z.2.2.2.2.2.2.2∧RowO z.2.2.2.2.2.2.2 z.2.2.2.1 z.2.2.2.2.1 41 2 z.2.2.2.2.2.1∧Rows z.2.2.2.2.2.2.1 2 ((z.2.1.map F.fc).map Fc.d) z.2.2.2.2.2.1)
   (fun(i,L',b,r,c,ys,μ',h)=>⟨[(2,.val (.slice mb m.length mc)),(9,.val (.slice b1 rs.length c1)),(11,.val (.slice (some ⟨r,0,none⟩) L'.length c)),(12,.val (.bool b)),(51,.val (.slice b1 rs.length c1)),(52,.val (.int .i64 rs.length)),(53,.val (.int .i64 i))],[],4,μ',h⟩) (fun z=>rs.length-z.1)
   (0,L,false,r,c,ys,μ4,h4) ⟨Nat.zero_le _,⟨hI,(fun h=>nomatch h),fun _=>⟨rfl,fun r hr=>by simp at hr⟩⟩,Mem.Le.refl _,hap4,hro4,hrows4⟩ (fun(_,_,_,_,_,_,_,_)=>⟨rfl,rfl⟩) ⟨⟨rfl,rfl,rfl,rfl,rfl,rfl,rfl,trivial⟩,trivial,rfl,rfl⟩ ?_
  rintro⟨i,L',b',r',c',ys',μ5,h5⟩ ⟨hi,hS,hle5,hap5,hro5,hrows5⟩
  dsimp only at hi hS hle5 hap5 hro5 hrows5
  have hLl':=Nat.le_trans hS.inv.len (Nat.add_le_add_right hBl _)
  have hyl5:=hrows5.len
  simp only[List.length_map]at hyl5
  refine ifd (fun hlt=>?_) (fun hlt=>?_)
  rotate_left
  ·obtain rfl : i = rs.length := by omega
   refine⟨(L',b',r',c',ys',μ5,h5),⟨hS.inv,fun hb'=>by rw[(hS.same hb').1];exact(hS.same hb').2,hle4.trans hle5,hap5,hro5,hrows5⟩,?_,⟨⟨rfl,rfl,rfl,rfl,trivial⟩,trivial,rfl,rfl⟩⟩
   dsimp only
   rw[if_pos hb]
   cases b' with
   |false=>rw[(hS.same rfl).1,if_neg (by simp)];omega
   |true=>have:=hS.more rfl;rw[if_pos rfl];omega
  have w_:=aSo (l:=rs) (i:=i) (by omega)
  obtain⟨ru,hri⟩:=w_
  have w_:=Ru.elem ((hrs3.mono hle4).mono hle5) hri
  obtain⟨ad,pr,hel,hrv,hat⟩:=w_
  have hrm:=mAt hri
  refine eIn hel ?_
  intro r14
  have hmp:=aH hat.pos.max
  refine lIn (fun z:Nat×Bool×Bool=>z.1≤ru.pos.length∧(z.2.1=true↔∀y∈ru.pos.take z.1,y∈M)∧(z.2.2=true↔∃y∈ru.pos.take z.1,y∈L'))
   (fun (j, inn, one) => ⟨[(2, .val (.slice mb m.length mc)), (9, .val (.slice b1 rs.length c1)), (11, .val (.slice (some ⟨r', 0, none⟩) L'.length c')), (12, .val (.bool b')), (14, .loc 4 r14 0), (15, .val (.bool inn)), (16, .val (.bool one)), (51, .val (.slice b1 rs.length c1)), (52, .val (.int .i64 rs.length)), (53, .val (.int .i64 i)), (58, .val (.slice pr.2.2.1.1 ru.pos.length pr.2.2.1.2)), (59, .val (.int .i64 ru.pos.length)), (60, .val (.int .i64 j))],
    [(4,some (.cells r14 (vals (ru.cs pr)) 106))],4+1,μ5,h5⟩) (fun z=>ru.pos.length-z.1)
   (0,true,false) ⟨Nat.zero_le _,by simp,by simp⟩ (fun(_,_,_)=>⟨rfl,rfl⟩) ⟨⟨rfl,rfl,rfl,rfl,rfl,rfl,rfl,rfl,rfl,rfl,rfl,rfl,rfl,trivial⟩,⟨rfl,trivial⟩,rfl,rfl⟩ ?_
  rintro⟨j,inn,one⟩ ⟨hj,hinn,hone1⟩
  dsimp only at hj hinn hone1
  refine ifd (fun hlt2=>?_) (fun hlt2=>?_)
  ·have w_ := aSo (l := ru.pos) (i := j) (by omega)
   obtain⟨y,hy⟩:=w_
   have w_:=F.elem hat.pos hy
   obtain⟨ad2,p2,hel2,hry,_⟩:=w_
   have hstep1:=jM (P:=fun f=>f∈M) hy
   have hstep2:(∃z∈ru.pos.take (j+1),z∈L')↔(∃z∈ru.pos.take j,z∈L')∨y∈L':=by
    rw[List.take_add_one,hy,Option.toList_some]
    simp[or_and_right,exists_or]
   have hhas:Spec Tryz.prog 64 [.slice mb m.length mc,.agg (y.cs p2).toArray] (μ5.join h5) fun v μ'=>v= .bool (decide (y∈M))∧μ'=μ5.join h5:=by
    have:=bM (c:=mc) (b:=mb) hMasc hMlen ((hms.mono (hle4.trans hle5)).mono (Mem.le_join _ h5)) (RepV.mono (Mem.le_join _ h5) hry)
    rw[←el]at this
    exact this
   have hhas2:=nL hap5 hro5 hrows5 hS.inv.asc (by omega) hry
   refine eIn hel2 ?_
   intro r18
   have fin:∀i2 o2,(i2=true↔∀z∈ru.pos.take (j+1),z∈M)→(o2=true↔∃z∈ru.pos.take (j+1),z∈L')→∃k:Nat×Bool×Bool,k=(j+1,i2,o2)∧(k.1≤ru.pos.length∧(k.2.1=true↔∀y∈ru.pos.take k.1,y∈M)∧(k.2.2=true↔∃y∈ru.pos.take k.1,y∈L')):=fun i2 o2 h1 h2=>⟨_,rfl,by dsimp only;omega,h1,h2⟩
   refine iIn (fun hk=>?_) (fun hk=>?_)
   ·refine jC hap5 hhas ?_
    have h1:decide (y∈M)=true↔∀z∈ru.pos.take (j+1),z∈M:=by
     rw[hstep1,←hinn,decide_eq_true_eq]
     exact⟨fun h=>⟨hk,h⟩,fun h=>h.2⟩
    refine iIn (fun hk2=>?_) (fun hk2=>?_)
    ·obtain ⟨k, rfl, hk9⟩ := fin (decide (y ∈ M)) true h1 (by rw [hstep2, ← hone1, hk2]; simp)
     exact aB (by omega) (by omega) ⟨_,hk9,by dsimp only;omega,⟨⟨rfl,rfl,rfl,rfl,rfl,rfl,rfl,rfl,rfl,rfl,rfl,rfl,rfl,trivial⟩,⟨rfl,trivial⟩,rfl,rfl⟩⟩
    ·refine jC hap5 hhas2 ?_
     obtain⟨k,rfl,hk9⟩:=fin (decide (y∈M)) (decide (y∈L')) h1 (by rw[hstep2,←hone1,hk2,decide_eq_true_eq];simp)
     exact aB (by omega) (by omega) ⟨_,hk9,by dsimp only;omega,⟨⟨rfl,rfl,rfl,rfl,rfl,rfl,rfl,rfl,rfl,rfl,rfl,rfl,rfl,trivial⟩,⟨rfl,trivial⟩,rfl,rfl⟩⟩
   ·have h1 : false = true ↔ ∀ z ∈ ru.pos.take (j + 1), z ∈ M := by rw [hstep1, ← hinn, hk]; simp
    refine iIn (fun hk2=>?_) (fun hk2=>?_)
    ·obtain ⟨k, rfl, hk9⟩ := fin (false) true h1 (by rw [hstep2, ← hone1, hk2]; simp)
     exact aB (by omega) (by omega) ⟨_,hk9,by dsimp only;omega,⟨⟨rfl,rfl,rfl,rfl,rfl,rfl,rfl,rfl,rfl,rfl,rfl,rfl,rfl,trivial⟩,⟨rfl,trivial⟩,rfl,rfl⟩⟩
    ·refine jC hap5 hhas2 ?_
     obtain⟨k,rfl,hk9⟩:=fin (false) (decide (y∈L')) h1 (by rw[hstep2,←hone1,hk2,decide_eq_true_eq];simp)
     exact aB (by omega) (by omega) ⟨_,hk9,by dsimp only;omega,⟨⟨rfl,rfl,rfl,rfl,rfl,rfl,rfl,rfl,rfl,rfl,rfl,rfl,rfl,trivial⟩,⟨rfl,trivial⟩,rfl,rfl⟩⟩
  obtain rfl:j=ru.pos.length:=by omega
  rw[List.take_length]at hinn hone1
  have skip:¬((∀x∈ru.pos,x∈M)∧(∃y∈ru.pos,y∈L')∧ru.head∉L')→OvS rs M [f.f] L L' b' (iT rs M L (i+1)):=fun h=>⟨hS.inv,hS.more,fun e=>⟨(hS.same e).1,eR (hS.same e).2 hri fun h1 h2=>Classical.byContradiction fun h3=>h (by
   rw[(hS.same e).1]
   exact⟨h1,h2,h3⟩)⟩⟩
  have next:OvS rs M [f.f] L L' b' (iT rs M L (i+1))→∃k:Nat×List F×Bool×Nat×Nat×List Value×Mem×Mem,k=(i+1,L',b',r',c',ys',μ5,h5)∧(k.1≤rs.length∧OvS rs M [f.f] L k.2.1 k.2.2.1 (iT rs M L k.1)∧μ4.Le k.2.2.2.2.2.2.1∧Apart k.2.2.2.2.2.2.1 k.2.2.2.2.2.2.2∧RowO k.2.2.2.2.2.2.2 k.2.2.2.1 k.2.2.2.2.1 41 2 k.2.2.2.2.2.1∧Rows k.2.2.2.2.2.2.1 2 ((k.2.1.map F.fc).map Fc.d) k.2.2.2.2.2.1):=fun h=>⟨_,rfl,by dsimp only;omega,h,hle5,hap5,hro5,hrows5⟩
  refine iIn (fun hk1=>?_) (fun hk1=>?_)
  rotate_left
  ·obtain ⟨k, rfl, hk⟩ := next (skip fun k => by rw [hinn.2 k.1] at hk1; cases hk1)
   exact aB (by omega) (by omega) ⟨_,hk,by dsimp only;omega,⟨⟨rfl,rfl,rfl,rfl,rfl,rfl,rfl,trivial⟩,trivial,rfl,rfl⟩⟩
  refine iIn (fun hk2=>?_) (fun hk2=>?_)
  rotate_left
  ·obtain ⟨k, rfl, hk⟩ := next (skip fun k => by rw [hone1.2 k.2.1] at hk2; cases hk2)
   exact aB (by omega) (by omega) ⟨_,hk,by dsimp only;omega,⟨⟨rfl,rfl,rfl,rfl,rfl,rfl,rfl,trivial⟩,trivial,rfl,rfl⟩⟩
  refine jC hap5 (nL hap5 hro5 hrows5 hS.inv.asc (by omega) hat.head) ?_
  refine aK (fun hno=>?_) (fun hin=>?_)
  rotate_left
  ·obtain ⟨k, rfl, hk⟩ := next (skip fun k => k.2.2 hin)
   exact aB (by omega) (by omega) ⟨_,hk,by dsimp only;omega,⟨⟨rfl,rfl,rfl,rfl,rfl,rfl,rfl,trivial⟩,trivial,rfl,rfl⟩⟩
  have w_:=hone1.1 hk2
  obtain⟨y,hy,hyL⟩:=w_
  intro r58
  refine fD ys' hyl5.symm hro5 ?_ ?_ fun b9 c9 o hrow hor=>?_
  ·show(L'.length+1)*40≤_;omega
  ·exact Nat.le_trans (m:=2000000000) (show L'.length+1≤_ by omega) (by decide)
  have hap7:=hap5.set (o:=o) (mO hro5 hap5 hor)
  refine cOw (qSd hap7 hrow hrows5 (by omega) hat.head) fun v7 μ7 h7 hle7 hap7 hR7=>?_
  obtain⟨r7,c7,ys7,rfl,hro7,hrows7⟩:=hR7
  have hmore:=qDn hS.inv.asc hno
  have hll:=hS.len
  refine aB (by omega) (by omega) ⟨(i+1,aX L' ru.head,true,r7,c7,ys7,μ7,h7),⟨by dsimp only;omega,⟨hS.inv.ins hrm (hinn.1 hk1) hy (hS.inv.der y hyL),fun _=>by show L.length<(aX L' ru.head).length;omega,(fun h=>nomatch h)⟩,hle5.trans hle7,hap7,hro7,hrows7.mono hle7⟩,by dsimp only;omega,⟨⟨rfl,rfl,rfl,rfl,rfl,rfl,rfl,trivial⟩,trivial,rfl,rfl⟩⟩
 ·have hBl : ([] : List F).length ≤ 1 := Nat.zero_le _
  have hBB:FsB []:=fun x hx=>nomatch hx
  have hres2:(resF (qK p u m f)).map Fc.d=((mZ rs M []).map F.fc).map Fc.d:=by rw[hresn hin,qPl];rfl
  refine lIn (fun z:List F×Bool×Nat×Nat×List Value×Mem×Mem=>OvI rs M [] z.1∧(z.2.1=false→iT rs M z.1 rs.length)∧μ3.Le z.2.2.2.2.2.1∧Apart z.2.2.2.2.2.1 z.2.2.2.2.2.2∧RowO z.2.2.2.2.2.2 z.2.2.1 z.2.2.2.1 41 2 z.2.2.2.2.1∧Rows z.2.2.2.2.2.1 2 ((z.1.map F.fc).map Fc.d) z.2.2.2.2.1)
   (fun(L,b,r,c,ys,μ',h)=>⟨[(2,.val (.slice mb m.length mc)),(9,.val (.slice b1 rs.length c1)),(11,.val (.slice (some ⟨r,0,none⟩) L.length c)),(12,.val (.bool b))],[],3,μ',h⟩) (fun z=>2*(1+rs.length-z.1.length)+(if z.2.1=true then 1 else 0))
   ([],true,r42,0,[],μ3,_) ⟨⟨List.Pairwise.nil,(fun _ h=>nomatch h),(fun _ h=>nomatch h)⟩,(fun h=>nomatch h),Mem.Le.refl _,hap5,⟨[],Mem.set_at _ _ _,by simp,by simp,by simp,rfl,rfl⟩,.nil⟩ (fun(_,_,_,_,_,_,_)=>⟨rfl,rfl⟩) ⟨⟨rfl,rfl,rfl,rfl,trivial⟩,trivial,rfl,rfl⟩ ?_
  rintro⟨L,b,r,c,ys,μ4,h4⟩ ⟨hI,hdone,hle4,hap4,hro4,hrows4⟩
  dsimp only at hI hdone hle4 hap4 hro4 hrows4
  have hLl:=Nat.le_trans hI.len (Nat.add_le_add_right hBl _)
  refine iIn (fun hb=>?_) (fun hb=>?_)
  rotate_left
  ·have e := hI.done fun r hr => hdone hb r (by rw [List.take_length]; exact hr)
   have hB4:=qNl (m:=M) (B:=[]) hro hBB
   refine qCw hap4 (bD (qRz hap4 hro4 hrows4) (by omega) fun x hx=>Nat.le_trans (hB4 x (by rw[←e];exact hx)).1 (by decide)) fun v5 μ5 hle5 hap5 hR5=>?_
   refine rPl ?_
   rw[hres2,←e]
   exact hR5.mono (hle13.trans hle4) (Mem.Le.refl _)
  refine lIn (fun z:Nat×List F×Bool×Nat×Nat×List Value×Mem×Mem=>z.1≤rs.length∧OvS rs M [] L z.2.1 z.2.2.1 (iT rs M L z.1)∧μ4.Le z.2.2.2.2.2.2.1∧Apart z.2.2.2.2.2.2.1 z.2.2.2.2.2.2.2∧RowO z.2.2.2.2.2.2.2 z.2.2.2.1 z.2.2.2.2.1 41 2 z.2.2.2.2.2.1∧Rows z.2.2.2.2.2.2.1 2 ((z.2.1.map F.fc).map Fc.d) z.2.2.2.2.2.1)
   (fun(i,L',b,r,c,ys,μ',h)=>⟨[(2,.val (.slice mb m.length mc)),(9,.val (.slice b1 rs.length c1)),(11,.val (.slice (some ⟨r,0,none⟩) L'.length c)),(12,.val (.bool b)),(51,.val (.slice b1 rs.length c1)),(52,.val (.int .i64 rs.length)),(53,.val (.int .i64 i))],[],3,μ',h⟩) (fun z=>rs.length-z.1)
   (0,L,false,r,c,ys,μ4,h4) ⟨Nat.zero_le _,⟨hI,(fun h=>nomatch h),fun _=>⟨rfl,fun r hr=>by simp at hr⟩⟩,Mem.Le.refl _,hap4,hro4,hrows4⟩ (fun(_,_,_,_,_,_,_,_)=>⟨rfl,rfl⟩) ⟨⟨rfl,rfl,rfl,rfl,rfl,rfl,rfl,trivial⟩,trivial,rfl,rfl⟩ ?_
  rintro⟨i,L',b',r',c',ys',μ5,h5⟩ ⟨hi,hS,hle5,hap5,hro5,hrows5⟩
  dsimp only at hi hS hle5 hap5 hro5 hrows5
  have hLl':=Nat.le_trans hS.inv.len (Nat.add_le_add_right hBl _)
  have hyl5:=hrows5.len
  simp only[List.length_map]at hyl5
  refine ifd (fun hlt=>?_) (fun hlt=>?_)
  rotate_left
  ·obtain rfl : i = rs.length := by omega
   refine⟨(L',b',r',c',ys',μ5,h5),⟨hS.inv,fun hb'=>by rw[(hS.same hb').1];exact(hS.same hb').2,hle4.trans hle5,hap5,hro5,hrows5⟩,?_,⟨⟨rfl,rfl,rfl,rfl,trivial⟩,trivial,rfl,rfl⟩⟩
   dsimp only
   rw[if_pos hb]
   cases b' with
   |false=>rw[(hS.same rfl).1,if_neg (by simp)];omega
   |true=>have:=hS.more rfl;rw[if_pos rfl];omega
  have w_:=aSo (l:=rs) (i:=i) (by omega)
  obtain⟨ru,hri⟩:=w_
  have w_:=Ru.elem ((hrs3.mono hle4).mono hle5) hri
  obtain⟨ad,pr,hel,hrv,hat⟩:=w_
  have hrm:=mAt hri
  refine eIn hel ?_
  intro r14
  have hmp:=aH hat.pos.max
  refine lIn (fun z:Nat×Bool×Bool=>z.1≤ru.pos.length∧(z.2.1=true↔∀y∈ru.pos.take z.1,y∈M)∧(z.2.2=true↔∃y∈ru.pos.take z.1,y∈L'))
   (fun (j, inn, one) => ⟨[(2, .val (.slice mb m.length mc)), (9, .val (.slice b1 rs.length c1)), (11, .val (.slice (some ⟨r', 0, none⟩) L'.length c')), (12, .val (.bool b')), (14, .loc 3 r14 0), (15, .val (.bool inn)), (16, .val (.bool one)), (51, .val (.slice b1 rs.length c1)), (52, .val (.int .i64 rs.length)), (53, .val (.int .i64 i)), (58, .val (.slice pr.2.2.1.1 ru.pos.length pr.2.2.1.2)), (59, .val (.int .i64 ru.pos.length)), (60, .val (.int .i64 j))],
    [(3,some (.cells r14 (vals (ru.cs pr)) 106))],3+1,μ5,h5⟩) (fun z=>ru.pos.length-z.1)
   (0,true,false) ⟨Nat.zero_le _,by simp,by simp⟩ (fun(_,_,_)=>⟨rfl,rfl⟩) ⟨⟨rfl,rfl,rfl,rfl,rfl,rfl,rfl,rfl,rfl,rfl,rfl,rfl,rfl,trivial⟩,⟨rfl,trivial⟩,rfl,rfl⟩ ?_
  rintro⟨j,inn,one⟩ ⟨hj,hinn,hone1⟩
  dsimp only at hj hinn hone1
  refine ifd (fun hlt2=>?_) (fun hlt2=>?_)
  ·have w_ := aSo (l := ru.pos) (i := j) (by omega)
   obtain⟨y,hy⟩:=w_
   have w_:=F.elem hat.pos hy
   obtain⟨ad2,p2,hel2,hry,_⟩:=w_
   have hstep1:=jM (P:=fun f=>f∈M) hy
   have hstep2:(∃z∈ru.pos.take (j+1),z∈L')↔(∃z∈ru.pos.take j,z∈L')∨y∈L':=by
    rw[List.take_add_one,hy,Option.toList_some]
    simp[or_and_right,exists_or]
   have hhas:Spec Tryz.prog 64 [.slice mb m.length mc,.agg (y.cs p2).toArray] (μ5.join h5) fun v μ'=>v= .bool (decide (y∈M))∧μ'=μ5.join h5:=by
    have:=bM (c:=mc) (b:=mb) hMasc hMlen ((hms.mono (hle4.trans hle5)).mono (Mem.le_join _ h5)) (RepV.mono (Mem.le_join _ h5) hry)
    rw[←el]at this
    exact this
   have hhas2:=nL hap5 hro5 hrows5 hS.inv.asc (by omega) hry
   refine eIn hel2 ?_
   intro r18
   have fin:∀i2 o2,(i2=true↔∀z∈ru.pos.take (j+1),z∈M)→(o2=true↔∃z∈ru.pos.take (j+1),z∈L')→∃k:Nat×Bool×Bool,k=(j+1,i2,o2)∧(k.1≤ru.pos.length∧(k.2.1=true↔∀y∈ru.pos.take k.1,y∈M)∧(k.2.2=true↔∃y∈ru.pos.take k.1,y∈L')):=fun i2 o2 h1 h2=>⟨_,rfl,by dsimp only;omega,h1,h2⟩
   refine iIn (fun hk=>?_) (fun hk=>?_)
   ·refine jC hap5 hhas ?_
    have h1:decide (y∈M)=true↔∀z∈ru.pos.take (j+1),z∈M:=by
     rw[hstep1,←hinn,decide_eq_true_eq]
     exact⟨fun h=>⟨hk,h⟩,fun h=>h.2⟩
    refine iIn (fun hk2=>?_) (fun hk2=>?_)
    ·obtain ⟨k, rfl, hk9⟩ := fin (decide (y ∈ M)) true h1 (by rw [hstep2, ← hone1, hk2]; simp)
     exact aB (by omega) (by omega) ⟨_,hk9,by dsimp only;omega,⟨⟨rfl,rfl,rfl,rfl,rfl,rfl,rfl,rfl,rfl,rfl,rfl,rfl,rfl,trivial⟩,⟨rfl,trivial⟩,rfl,rfl⟩⟩
    ·refine jC hap5 hhas2 ?_
     obtain⟨k,rfl,hk9⟩:=fin (decide (y∈M)) (decide (y∈L')) h1 (by rw[hstep2,←hone1,hk2,decide_eq_true_eq];simp)
     exact aB (by omega) (by omega) ⟨_,hk9,by dsimp only;omega,⟨⟨rfl,rfl,rfl,rfl,rfl,rfl,rfl,rfl,rfl,rfl,rfl,rfl,rfl,trivial⟩,⟨rfl,trivial⟩,rfl,rfl⟩⟩
   ·have h1 : false = true ↔ ∀ z ∈ ru.pos.take (j + 1), z ∈ M := by rw [hstep1, ← hinn, hk]; simp
    refine iIn (fun hk2=>?_) (fun hk2=>?_)
    ·obtain ⟨k, rfl, hk9⟩ := fin (false) true h1 (by rw [hstep2, ← hone1, hk2]; simp)
     exact aB (by omega) (by omega) ⟨_,hk9,by dsimp only;omega,⟨⟨rfl,rfl,rfl,rfl,rfl,rfl,rfl,rfl,rfl,rfl,rfl,rfl,rfl,trivial⟩,⟨rfl,trivial⟩,rfl,rfl⟩⟩
    ·refine jC hap5 hhas2 ?_
     obtain⟨k,rfl,hk9⟩:=fin (false) (decide (y∈L')) h1 (by rw[hstep2,←hone1,hk2,decide_eq_true_eq];simp)
     exact aB (by omega) (by omega) ⟨_,hk9,by dsimp only;omega,⟨⟨rfl,rfl,rfl,rfl,rfl,rfl,rfl,rfl,rfl,rfl,rfl,rfl,rfl,trivial⟩,⟨rfl,trivial⟩,rfl,rfl⟩⟩
  obtain rfl:j=ru.pos.length:=by omega
  rw[List.take_length]at hinn hone1
  have skip:¬((∀x∈ru.pos,x∈M)∧(∃y∈ru.pos,y∈L')∧ru.head∉L')→OvS rs M [] L L' b' (iT rs M L (i+1)):=fun h=>⟨hS.inv,hS.more,fun e=>⟨(hS.same e).1,eR (hS.same e).2 hri fun h1 h2=>Classical.byContradiction fun h3=>h (by
   rw[(hS.same e).1]
   exact⟨h1,h2,h3⟩)⟩⟩
  have next:OvS rs M [] L L' b' (iT rs M L (i+1))→∃k:Nat×List F×Bool×Nat×Nat×List Value×Mem×Mem,k=(i+1,L',b',r',c',ys',μ5,h5)∧(k.1≤rs.length∧OvS rs M [] L k.2.1 k.2.2.1 (iT rs M L k.1)∧μ4.Le k.2.2.2.2.2.2.1∧Apart k.2.2.2.2.2.2.1 k.2.2.2.2.2.2.2∧RowO k.2.2.2.2.2.2.2 k.2.2.2.1 k.2.2.2.2.1 41 2 k.2.2.2.2.2.1∧Rows k.2.2.2.2.2.2.1 2 ((k.2.1.map F.fc).map Fc.d) k.2.2.2.2.2.1):=fun h=>⟨_,rfl,by dsimp only;omega,h,hle5,hap5,hro5,hrows5⟩
  refine iIn (fun hk1=>?_) (fun hk1=>?_)
  rotate_left
  ·obtain ⟨k, rfl, hk⟩ := next (skip fun k => by rw [hinn.2 k.1] at hk1; cases hk1)
   exact aB (by omega) (by omega) ⟨_,hk,by dsimp only;omega,⟨⟨rfl,rfl,rfl,rfl,rfl,rfl,rfl,trivial⟩,trivial,rfl,rfl⟩⟩
  refine iIn (fun hk2=>?_) (fun hk2=>?_)
  rotate_left
  ·obtain ⟨k, rfl, hk⟩ := next (skip fun k => by rw [hone1.2 k.2.1] at hk2; cases hk2)
   exact aB (by omega) (by omega) ⟨_,hk,by dsimp only;omega,⟨⟨rfl,rfl,rfl,rfl,rfl,rfl,rfl,trivial⟩,trivial,rfl,rfl⟩⟩
  refine jC hap5 (nL hap5 hro5 hrows5 hS.inv.asc (by omega) hat.head) ?_
  refine aK (fun hno=>?_) (fun hin=>?_)
  rotate_left
  ·obtain ⟨k, rfl, hk⟩ := next (skip fun k => k.2.2 hin)
   exact aB (by omega) (by omega) ⟨_,hk,by dsimp only;omega,⟨⟨rfl,rfl,rfl,rfl,rfl,rfl,rfl,trivial⟩,trivial,rfl,rfl⟩⟩
  have w_:=hone1.1 hk2
  obtain⟨y,hy,hyL⟩:=w_
  intro r58
  refine fD ys' hyl5.symm hro5 ?_ ?_ fun b9 c9 o hrow hor=>?_
  ·show(L'.length+1)*40≤_;omega
  ·exact Nat.le_trans (m:=2000000000) (show L'.length+1≤_ by omega) (by decide)
  have hap7:=hap5.set (o:=o) (mO hro5 hap5 hor)
  refine cOw (qSd hap7 hrow hrows5 (by omega) hat.head) fun v7 μ7 h7 hle7 hap7 hR7=>?_
  obtain⟨r7,c7,ys7,rfl,hro7,hrows7⟩:=hR7
  have hmore:=qDn hS.inv.asc hno
  have hll:=hS.len
  refine aB (by omega) (by omega) ⟨(i+1,aX L' ru.head,true,r7,c7,ys7,μ7,h7),⟨by dsimp only;omega,⟨hS.inv.ins hrm (hinn.1 hk1) hy (hS.inv.der y hyL),fun _=>by show L.length<(aX L' ru.head).length;omega,(fun h=>nomatch h)⟩,hle5.trans hle7,hap7,hro7,hrows7.mono hle7⟩,by dsimp only;omega,⟨⟨rfl,rfl,rfl,rfl,rfl,rfl,rfl,trivial⟩,trivial,rfl,rfl⟩⟩
end
end Go.Vx
namespace Go.Vx
open Go.Proofs Classical
section
variable {μ:Mem}
theorem RepS.take:∀(ds:List D) (a:Nat) {cs:List Value},RepS μ ds cs→∃c1 c2,cs=c1++c2∧RepS μ (ds.take a) c1
 |[],a,cs,_=>⟨[],cs,rfl,by rw[List.take_nil];exact rfl⟩
 |d::r,0,cs,_=>⟨[],cs,rfl,rfl⟩
 |d::r,a+1,cs,h=>by
  obtain⟨c1,c2,e,h1,h2⟩:=h
  have w_:=RepS.take r a h2
  obtain⟨c3,c4,e2,h3⟩:=w_
  exact⟨c1++c3,c4,by rw[e,e2,List.append_assoc],c1,c3,rfl,h1,h3⟩
theorem Rep.cut{es n c a:Nat}{base:Option Addr}{xs:List D}(h:RepV μ (.sl es xs) (.slice base n c))(ha:a≤n):RepV μ (.sl es (xs.take a)) (.slice (if c=0 then base else base.map (·.add (0*es))) (a-0) (c-0)):=by
 have e:(if c=0 then base else base.map (·.add (0*es)))=base:=by
  split
  ·rfl
  ·cases base<;>simp[Addr.add]
 rw[e,Nat.sub_zero,Nat.sub_zero]
 obtain⟨b2,c2,e2,hl,hn,hor⟩:=h
 have e3:=(List.cons.inj e2).1
 cases e3
 have hta:(xs.take a).length=a:=by rw[List.length_take];omega
 refine⟨base,c,by rw[hta],⟨by rw[hta];exact Nat.le_trans ha hl.le,by rw[hta];exact Nat.le_trans ha hl.max⟩,fun x hx=>hn x (List.mem_of_mem_take hx),?_⟩
 rcases hor with h|⟨a0,flat,h1,h2,h3⟩
 ·exact .inl (by rw[h,List.take_nil])
 ·have w_ := RepS.take xs a h3
  obtain⟨c1,c2,e4,h4⟩:=w_
  exact .inr ⟨a0,c1,h1,fun j v hj=>h2 j v (by rw[e4,List.getElem?_append_left (List.getElem?_eq_some_iff.1 hj).1];exact hj),h4⟩
end
end Go.Vx
namespace Go.Vx
open Go.Proofs Classical
open Go.ChangeShapes Go.WideShapes Go.ChangeAt Go.RowKit
section
variable {μ:Mem}
theorem qEz{base:Option Addr}{n cap:Nat}(hb:Bytes μ base n)(m:Int)(hm:m≤1000000):
  Spec Tryz.prog 23 [.slice base n cap,.int .i64 m] μ fun v μ'=>μ'=μ∧∃k:Nat,v= .int .i64 k∧k<65536:=by
 refine Spec.mk Tryz.func23 (by kernel_rfl) ?_
 refine cOw (jG hb m hm) fun v μ1 h1 hle1 hap1 hR=>?_
 obtain⟨e,r,rfl,ho,hc1⟩:=hR
 obtain rfl:=e.symm
 refine cOw (lW hc1.at) fun v μ1 h2 hle2 hap2 hR=>?_
 obtain⟨e,hc2,k,rfl,hk⟩:=hR
 obtain rfl:=e.symm
 refine aB (by omega) (by omega) ?_
 refine cOw (lW hc2.at) fun v μ1 h3 hle3 hap3 hR=>?_
 obtain⟨e,hc3,k2,rfl,hk2⟩:=hR
 obtain rfl:=e.symm
 refine aB (by omega) (by omega) ?_
 exact rPl ⟨rfl,k*256+k2,by congr 1,by omega⟩
end
end Go.Vx
namespace Go.Vx
open Go.Proofs Classical
theorem qGe{rs:List Ru}{b b':List F}(h:∀f∈b,f∈lfp rs b'):∀f∈lfp rs b,f∈lfp rs b':=fun f hf=>by
 rw[mem_lfp]at hf ⊢
 exact hf.up fun x hx=>mem_lfp.1 (h x hx)
theorem mW{rs:List Ru}{b:List F}{f:F}(h:f∈b):f∈lfp rs b:=mem_lfp.2 (.base h)
theorem over_or{rs:List Ru}{base left:List F}{f:F}(hl:∀x∈base,x=f∨x∈left){x:F}(h:Der rs base x):Over rs (lfp rs base) [f] x∨Der rs left x:=by
 induction h with
 |base h=>
  rcases hl _ h with rfl|h
  ·exact .inl (.self (by simp))
  ·exact .inr (.base h)
 | @rule r hr hp ih=>
  by_cases k:∃y∈r.pos,Over rs (lfp rs base) [f] y
  ·obtain ⟨y, hy, ho⟩ := k
   exact .inl (.rule hr (fun z hz=>mem_lfp.2 (hp z hz)) hy ho)
  ·refine .inr (.rule hr fun y hy => ?_)
   rcases ih y hy with h|h
   ·exact absurd ⟨y,hy,h⟩ k
   ·exact h
theorem mem_overF{rs:List Ru}{m B:List F}{f:F}:f∈mZ rs m B↔Over rs m B f:=by
 rw[mZ,mem_ascF,List.mem_filter,decide_eq_true_eq]
 refine⟨fun h=>h.2,fun h=>⟨?_,h⟩⟩
 cases h with
 |self h=>exact List.mem_append_left _ h
 |rule h _ _ _=>exact List.mem_append_right _ (List.mem_map_of_mem h)
theorem Gl.Sh_wd{g:Gl}(h:g.Sh):g.d.wd:=by
 revert h
 refine Gl.ind (q:=fun g=>g.Sh→g.d.wd) (fun g ih h=>?_) g
 have w_:=iH h.top.tm
 obtain⟨xs,hxs,hok⟩:=w_
 have hk0:=h.top.k0
 have hk1:=h.top.k1
 have hnm:g.name.size≤maxLen:=by
  by_cases h9:g.kind=9
  ·exact Nat.le_trans (h.top.rel h9).2.2.1 (by decide)
  ·rw[h.top.nm h9];exact Nat.zero_le _
 rw[Gl.d_eq,hxs]
 refine⟨⟨by omega,by omega⟩,hnm,jS fun x hx=>(hok x hx).1,D.wds_of fun d hd=>?_,trivial⟩
 have w_:=List.mem_map.1 hd
 obtain⟨y,hy,rfl⟩:=w_
 exact ih y hy (h.sub y hy)
theorem Pg.Ok.wd{p:Pg}(hp:p.Ok):p.d.wd:=by
 rw[Pg.d_eq]
 refine⟨D.wds_of fun d hd=>?_,trivial⟩
 have w_:=List.mem_map.1 hd
 obtain⟨r,hr,rfl⟩:=w_
 have w_:=List.getElem?_of_mem hr
 obtain⟨i,hi⟩:=w_
 have h:=hp.2 i r hi
 have:=h.ar0
 have:=h.ar4
 have:=h.lo0
 have:=h.lo8
 rw[Rl.d_eq]
 exact⟨Nat.le_trans h.name.2.2.1 (by decide),⟨by omega,by omega⟩,⟨by omega,by omega⟩,Gl.Sh_wd h.body,trivial⟩
structure FsU (p:Pg) (U:List T) (L:List F):Prop where
 fit:FsOk p L
 uni:∀f∈L,∀a∈f.args,a∈U
 asc:Asc3 bC L
theorem FsU.nil(p:Pg)(U:List T):FsU p U []:=⟨(fun _ h=>nomatch h),(fun _ h=>nomatch h),List.Pairwise.nil⟩
theorem FsU.sub{p:Pg}{U:List T}{L M:List F}(h:FsU p U L)(hs:M.Sublist L):FsU p U M:=
 ⟨fun f hf=>h.fit f (hs.subset hf),fun f hf=>h.uni f (hs.subset hf),List.Pairwise.sublist hs h.asc⟩
theorem FsU.ins{p:Pg}{U:List T}{L:List F}{f:F}(h:FsU p U L)(hf:FactFits p f.fc)(hu:∀a∈f.args,a∈U):FsU p U (aX L f):=
 {
  fit:=fun x hx=>(mem_insF.1 hx).elim (fun h1=>by rw[h1];exact hf) (h.fit x)
  uni:=fun x hx=>(mem_insF.1 hx).elim (fun h1=>by rw[h1];exact hu) (h.uni x)
  asc:=fX L f}
theorem FsU.base{p:Pg}{U:List T}{L:List F}{rs:List Ru}(h:FsU p U L)(hp:p.Pos)(hg:aJ p (U.map T.tm)=some rs):fC p (U.map T.tm) (L.map F.fc):=
 ⟨by rw[hg];exact(fun h=>nomatch h),hp,h.fit.lift,by rw[F.fcs,bW];exact h.uni,by rw[F.fcs,List.length_map];exact AscF.of h.asc _⟩
end Go.Vx
namespace Go.Vx
open Go.Proofs Classical
theorem F.mkE{μ:Mem}{f:F}{b:Option Addr}{n c:Nat}(h:RepV μ (.sl 4 ((f.args.map T.tm).map Tm.d)) (.slice b n c)):RepV μ f.fc.d (.agg #[.string f.rel,.slice b n c]):=by
 rw[Fc.d_eq]
 exact⟨_,rfl,RepS.str (RepS.last h)⟩
section
variable {μ:Mem}
set_option maxHeartbeats 4000000 in
theorem fZ{p:Pg}{U:List T}{v:Value}{ub:Option Addr}{uc:Nat}(hp:RepV μ p.d v)(hu:Sl μ 4 ub U.length ((U.map T.tm).map Tm.d))(hok:p.Ok)(hne:p.rels≠[])(huok:UnivOk (U.map T.tm))(hU2:U.length≤2):
  Spec Tryz.prog 22 [v,.slice ub U.length uc] μ fun r μ'=>∃L tv,r= .tuple #[tv,.bool true]∧FsU p U L∧1≤L.length∧L.length≤200∧FsV μ' L tv:=by
 have hp0:=hp
 have w_:=Pg.inv hp
 obtain⟨q,rfl,hrl⟩:=w_
 have hU1:1≤U.length:=by have:=huok.pos;rwa [List.length_map]at this
 have hgnd:∀a∈U,tN a.tm:=fun a ha=>huok.gnd _ (List.mem_map_of_mem ha)
 have hmu:Sl μ 4 ub (U.map T.tm).length ((U.map T.tm).map Tm.d):=by rw[List.length_map];exact hu
 have hwu:D.wds ((U.map T.tm).map Tm.d):=jS fun a ha=>by
  have:=(hgnd a ha).1.toT.1.1
  rwa [T.toT_tm]at this
 have hn8:=hok.1
 refine Spec.mk Tryz.func22 (by kernel_rfl) ?_
 intro r2
 refine cPl (bY hp0 hok.wd) fun v1 μ1 hle1 hR=>?_
 obtain rfl:=hR
 refine aK (fun h=>absurd hok h) (fun _=>?_)
 have hus:=cY (cap:=uc) (hmu.mono hle1) hwu
 rw[List.length_map]at hus
 refine cGv hus ?_
 refine aK (fun h=>absurd huok h) (fun _=>?_)
 intro r22
 refine lFz (fun z:Nat×List F×(Option Addr×Nat)×Mem=>z.1≤p.rels.length∧μ1.Le z.2.2.2∧FsU p U z.2.1∧z.2.1.length≤16*z.1∧(0<z.1→1≤z.2.1.length)∧FsV z.2.2.2 z.2.1 (.slice z.2.2.1.1 z.2.1.length z.2.2.1.2))
  (fun(i,L,(b,c),μ')=>⟨[(1,.val (.slice ub U.length uc)),(6,.val (.slice b L.length c)),(24,.val (.slice q.1 p.rels.length q.2)),(25,.val (.int .i64 p.rels.length)),(26,.val (.int .i64 i))],[],2,μ',Mem.nil⟩) (fun z=>p.rels.length-z.1) [1]
  (fun(_,_,(_,_),_)=>⟨rfl,rfl⟩) ?_ ?_
 ·intro μ' hle hno hat
  exact⟨(0,[],(some ⟨r22,0,none⟩,0),μ'),⟨Nat.zero_le _,hle,FsU.nil p U,Nat.zero_le _,fun h=>absurd h (Nat.lt_irrefl 0),Rows.sl hat .nil (Nat.zero_le _)⟩,⟨⟨rfl,rfl,rfl,rfl,rfl,trivial⟩,trivial,rfl,rfl⟩⟩
 rintro⟨i,L,⟨b,c⟩,μ'⟩ ⟨hi,hle,hL,hlen,hpos,hrL⟩
 dsimp only at hi hle hL hlen hpos hrL
 refine ifd (fun hlt=>?_) (fun hlt=>?_)
 rotate_left
 ·obtain rfl : i = p.rels.length := by omega
  have h1:0<p.rels.length:=List.length_pos_iff.2 hne
  refine ifd (fun h=>absurd h (by omega)) (fun _=>?_)
  have w_:=FsV.sl hrL
  obtain⟨b',c',e,-,hs⟩:=w_
  have w_:=Value.slice.inj e
  obtain⟨rfl,_,rfl⟩:=w_
  refine cPl (eK hs (by omega) fun f hf=>Nat.le_trans (hL.fit.len hok f hf) (by decide)) fun v2 μ2 hle2 hR2=>?_
  exact rPl ⟨L,v2,rfl,hL,hpos h1,by omega,hR2⟩
 have w_:=aSo (l:=p.rels) (i:=i) (by omega)
 obtain⟨r,hr⟩:=w_
 have w_:=Rl.elemA ((hrl.mono hle1).mono hle) hr
 obtain⟨ad,q2,hel,hrv,hb⟩:=w_
 have hrok:=hok.2 i r hr
 have w_:=Int.eq_ofNat_of_zero_le hrok.ar0
 obtain⟨a,ha⟩:=w_
 have har4:=hrok.ar4
 have ha4:a≤4:=by omega
 refine eIn hel ?_
 intro r8
 have hwsp:=iG (μ:=μ') (size:=U.length) (n:=a) (most:=2000) hU1 (by omega) (by omega) (by omega) (by omega)
 rw[←ha]at hwsp
 have hW16:U.length ^ a≤16:=Nat.le_trans (Nat.pow_le_pow_left hU2 a) (Nat.le_trans (Nat.pow_le_pow_right (by decide) ha4) (by decide))
 refine cPl hwsp fun v4 μ4 hle4 hR4=>?_
 obtain⟨⟨W,rfl,hW1,hW2⟩,e4⟩:=hR4
 obtain rfl:=e4.symm
 have w_:=hW1 (by omega)
 obtain rfl:=w_
 have hWpos:0<U.length ^ a:=Nat.pow_pos (by omega)
 refine lIn (fun z:Nat×List F×(Option Addr×Nat)×Mem=>z.1≤U.length ^ a∧μ'.Le z.2.2.2∧FsU p U z.2.1∧z.2.1.length≤16*i+z.1∧(0<z.1→1≤z.2.1.length)∧FsV z.2.2.2 z.2.1 (.slice z.2.2.1.1 z.2.1.length z.2.2.1.2))
  (fun(k,L,(b,c),μ')=>⟨[(1,.val (.slice ub U.length uc)),(6,.val (.slice b L.length c)),(8,.loc 2 r8 0),(9,.val (.int .i64 ((U.length ^ a:Nat):Int))),(10,.val (.int .i64 k)),(24,.val (.slice q.1 p.rels.length q.2)),(25,.val (.int .i64 p.rels.length)),(26,.val (.int .i64 i))],[(2,some (.cells r8 [.val (.string r.name),.val (.int .i64 r.arity),.val (.int .i64 r.locals),.val (.int .i64 r.body.kind),.val (.string r.body.name),.val (.slice q2.1.1 r.body.terms.length q2.1.2),.val (.slice q2.2.1 r.body.goals.length q2.2.2)] 63))],3,μ',Mem.nil⟩) (fun z=>U.length ^ a-z.1)
  (0,L,(b,c),μ') ⟨Nat.zero_le _,Mem.Le.refl _,hL,by dsimp only;omega,fun h=>absurd h (Nat.lt_irrefl 0),hrL⟩ (fun(_,_,(_,_),_)=>⟨rfl,rfl⟩) ⟨⟨rfl,rfl,rfl,rfl,rfl,rfl,rfl,rfl,trivial⟩,⟨rfl,trivial⟩,rfl,rfl⟩ ?_
 clear hL hlen hrL hpos
 rintro⟨k,L,⟨b,c⟩,μ2⟩ ⟨hk,hle2,hL,hlen,hpos,hrL⟩
 dsimp only at hk hle2 hL hlen hpos hrL
 refine ifd (fun hkl=>?_) (fun hkl=>?_)
 rotate_left
 ·refine aB (by omega) (by omega) ⟨[],(i+1,L,(b,c),μ2),⟨by dsimp only;omega,hle.trans hle2,hL,by dsimp only;omega,fun _=>hpos (by omega),hrL⟩,by dsimp only;omega,⟨⟨rfl,rfl,rfl,rfl,rfl,trivial⟩,trivial,rfl,rfl⟩⟩
 refine ifd (fun _=>?_) (fun h=>absurd h (by omega))
 intro r11 r48
 refine aF 0 a rfl ha (Nat.zero_le _) (by omega) ?_
 refine aW [4] fun μ3 hle3 hno3 hat3=>?_
 have hri:RepV μ3 (.sl 1 ((eB 4).map D.i)) (.slice (some ⟨r48,0,none⟩) 4 4):=Ints.sl (l:=eB 4) hat3 (by decide)
 have hrc:=Rep.cut hri ha4
 have etk:((eB 4).map D.i).take a=(eB a).map D.i:=by
  rw[←List.map_take]
  congr 1
  rw[eB,eB,←List.map_take,List.take_range]
  congr 2;omega
 rw[etk]at hrc
 have w_:=Rep.sl hrc
 obtain⟨vb,vc,evb,hvs⟩:=w_
 have w_:=Value.slice.inj evb
 obtain⟨rfl,_,_⟩:=w_
 rw[List.length_map,kA]at hvs
 have hval:=fG (μ:=μ3) (U:=U) (n:=a) (w:=k) (uc:=uc) (vc:=4-0) ((((hu.mono hle1).mono hle).mono hle2).mono hle3) (by omega) (by omega) hvs (by omega) (by omega)
 refine bH hval fun v5 μ5 hle5 hR5=>?_
 have w_:=Rep.sl hR5
 obtain⟨bb,bc,rfl,hbs⟩:=w_
 rw[List.length_map,List.length_map,fI,cV]at hbs ⊢
 have hdl:(cN U a k).length=a:=cV U a k
 refine cX (fun z:Nat×Option Nat×Nat×List Value=>z.1≤a∧Rows μ5 4 ((((cN U a k).take z.1).map T.tm).map Tm.d) z.2.2.2)
  (fun(j,b2,c2,ys)=>⟨[(1,.val (.slice ub U.length uc)),(6,.val (.slice b L.length c)),(8,.loc 2 r8 0),(9,.val (.int .i64 ((U.length ^ a:Nat):Int))),(10,.val (.int .i64 k)),(11,.loc 3 r11 0),(24,.val (.slice q.1 p.rels.length q.2)),(25,.val (.int .i64 p.rels.length)),(26,.val (.int .i64 i)),(54,.val (.slice bb a bc)),(55,.val (.int .i64 a)),(56,.val (.int .i64 j))],[(2,some (.cells r8 [.val (.string r.name),.val (.int .i64 r.arity),.val (.int .i64 r.locals),.val (.int .i64 r.body.kind),.val (.string r.body.name),.val (.slice q2.1.1 r.body.terms.length q2.1.2),.val (.slice q2.2.1 r.body.goals.length q2.2.2)] 63)),(3,some (.cells r11 [.val (.string r.name),.row 5 b2 ys.length c2] 41)),(5,some (.row b2 c2 75 4 ys))],6,μ5,Mem.nil⟩) (fun z=>a-z.1)
  (0,none,0,[]) ⟨Nat.zero_le _,.nil⟩ (fun(_,_,_,_)=>⟨rfl,rfl⟩) ?_ ?_
 ·exact⟨⟨⟨_,rfl,.inl rfl⟩,⟨_,rfl,.inl rfl⟩,⟨_,rfl,.inl rfl⟩,⟨_,rfl,.inl rfl⟩,⟨_,rfl,.inl rfl⟩,⟨_,rfl,.inl rfl⟩,⟨_,rfl,.inl rfl⟩,⟨_,rfl,.inl rfl⟩,⟨_,rfl,.inl rfl⟩,⟨_,rfl,.inl rfl⟩,⟨_,rfl,.inl rfl⟩,⟨_,rfl,.inl rfl⟩,trivial⟩,⟨.inl rfl,.inr (.inr ⟨_,_,_,_,rfl,rfl,.inl rfl,.inr ⟨5,rfl,rfl,Nat.le_refl _⟩,trivial⟩),.inr (.inl ⟨_,_,rfl,Nat.le_refl _⟩),trivial⟩,rfl,rfl⟩
 rintro⟨j,b2,c2,ys⟩ ⟨hj,hrows⟩
 dsimp only at hj hrows
 have hyl:=hrows.len
 simp only[List.length_map,List.length_take,cV]at hyl
 refine ifd (fun hja=>?_) (fun hja=>?_)
 ·have w_ := aSo (l := cN U a k) (i := j) (by omega)
  obtain⟨x,hx⟩:=w_
  have w_:=B.elem hbs (kF hx)
  obtain⟨ad3,p3,hel3,hto⟩:=w_
  refine eIn hel3 ?_
  intro r13 r64
  refine gIn ?_ ?_ fun b' n' _=>?_
  ·show(ys.length+1)*56≤_;omega
  ·exact Nat.le_trans (m:=100000000) (show ys.length+1≤_ by omega) (by decide)
  refine aB (by omega) (by omega) ⟨(j+1,b',n',_),⟨by dsimp only;omega,?_⟩,by dsimp only;omega,⟨⟨rfl,rfl,rfl,rfl,rfl,rfl,rfl,rfl,rfl,rfl,rfl,rfl,trivial⟩,⟨rfl,rfl,rfl,trivial⟩,rfl,rfl⟩⟩
  dsimp only
  rw[List.take_add_one,hx,Option.toList_some]
  simp only[List.map_append,List.map_cons,List.map_nil]
  exact hrows.append (Rows.one hto (Tm.d_n _))
 obtain rfl:j=a:=by omega
 rw[List.take_of_length_le (by omega)]at hrows
 refine aW [5] fun μ6 hle6 hno6 hat6=>?_
 have hcap:ys.length≤4:=by omega
 have hrow:=Rows.sl hat6 (hrows.mono hle6) (Nat.le_trans (m:=4) hcap (by decide))
 have hfr:RepV μ6 (F.fc ⟨r.name,cN U j k⟩).d (.agg #[.string r.name,.slice (b2.map fun r=>⟨r,0,none⟩) ys.length c2]):=F.mkE hrow
 have hdm:∀y∈cN U j k,y∈U:=oK U (by omega) _ _
 have hfit:FactFits p (F.fc ⟨r.name,cN U j k⟩):=by
  refine⟨⟨i,r,hrok.at_,hr,?_⟩,fun t ht=>?_⟩
  ·show r.arity = (((cN U j k).map T.tm).length : Int)
   rw[List.length_map,hdl,ha]
  ·have w_ := List.mem_map.1 ht
   obtain⟨y,hy,rfl⟩:=w_
   exact hgnd y (hdm y hy)
 have hle36:=(hle3.trans hle5).trans hle6
 refine bH (dP hL.asc (RepV.mono hle36 hrL) hfr (by omega)) fun v7 μ7 hle7 hR7=>?_
 have w_:=FsV.sl hR7
 obtain⟨b7,c7,rfl,-,-⟩:=w_
 have hl7:=cC L ⟨r.name,cN U j k⟩
 refine aB (by omega) (by omega) ⟨(k+1,aX L ⟨r.name,cN U j k⟩,(b7,c7),μ7),⟨by dsimp only;omega,hle2.trans (hle36.trans hle7),hL.ins hfit hdm,by dsimp only;omega,fun _=>List.length_pos_of_mem (mem_insF.2 (.inl rfl)),hR7⟩,by dsimp only;omega,⟨⟨rfl,rfl,rfl,rfl,rfl,rfl,rfl,rfl,trivial⟩,⟨rfl,trivial⟩,rfl,rfl⟩⟩
theorem gG{base:Option Addr}{n cap:Nat}{p:Pg}{U:List T}{v:Value}{ub:Option Addr}{uc:Nat}(hb:Bytes μ base n)(m:Int)(hm:m≤1000000)(hp:RepV μ p.d v)(hu:Sl μ 4 ub U.length ((U.map T.tm).map Tm.d))(hok:p.Ok)(hne:p.rels≠[])(huok:UnivOk (U.map T.tm))(hU2:U.length≤2):
  Spec Tryz.prog 13 [.slice base n cap,.int .i64 m,v,.slice ub U.length uc] μ fun r μ'=>∃L,FsU p U L∧L.length≤200∧FsV μ' L r:=by
 have hp0:=hp
 have w_:=Pg.inv hp
 obtain⟨q,rfl,hrl⟩:=w_
 refine Spec.mk Tryz.func13 (by kernel_rfl) ?_
 intro r6
 refine cOw (jG hb m hm) fun v μ1 h1 hle1 hap1 hR=>?_
 obtain⟨e,r,rfl,ho,hc1⟩:=hR
 obtain rfl:=e.symm
 refine cPl (fZ hp0 hu hok hne huok hU2) fun v2 μ2 hle2 hR2=>?_
 obtain⟨A,tv,rfl,hA,hA1,hA2,hrA⟩:=hR2
 have w_:=FsV.sl hrA
 obtain⟨ab,ac,rfl,-,hsA⟩:=w_
 intro r24
 refine lIn (fun z:Nat×List F×Option Nat×Nat×List Value×Mem=>z.1≤A.length∧z.2.1.Sublist (A.take z.1)∧Rows μ2 2 ((z.2.1.map F.fc).map Fc.d) z.2.2.2.2.1∧Cur μ2 Mem.nil r z.2.2.2.2.2)
  (fun(i,M,b,c,ys,h')=>⟨[(9,.val (.pointer (some ⟨r,0,none⟩))),(12,.row 1 b ys.length c),(25,.val (.slice ab A.length ac)),(26,.val (.int .i64 A.length)),(27,.val (.int .i64 i))],[(1,some (.row b c 41 2 ys))],2,μ2,h'⟩) (fun z=>A.length-z.1)
  (0,[],some r24,0,[],h1) ⟨Nat.zero_le _,by simp,.nil,hc1.mono hle2⟩ (fun(_,_,_,_,_,_)=>⟨rfl,rfl⟩) ⟨⟨rfl,rfl,rfl,rfl,rfl,trivial⟩,⟨rfl,trivial⟩,rfl,rfl⟩ ?_
 clear hc1
 rintro⟨i,M,b,c,ys,h2⟩ ⟨hi,hsub,hrows,hc2⟩
 dsimp only at hi hsub hrows hc2
 have hyl:=hrows.len
 simp only[List.length_map]at hyl
 have hMl:=hsub.length_le
 rw[List.length_take]at hMl
 refine ifd (fun hlt=>?_) (fun hlt=>?_)
 ·have w_ := aSo (l := A) (i := i) (by omega)
  obtain⟨f,hf⟩:=w_
  have w_:=F.elemV hsA hf
  obtain⟨ad,p2,hel,hrf⟩:=w_
  have htk:A.take (i+1)=A.take i++[f]:=by rw[List.take_add_one,hf,Option.toList_some]
  refine eIn hel ?_
  intro r14
  refine cOw (eJ hc2.at 3) fun v μ3 h3 hle3 hap3 hR3=>?_
  obtain⟨e,hc3,bo,rfl⟩:=hR3
  obtain rfl:=e.symm
  refine iIn (fun _=>?_) (fun _=>?_)
  ·intro r35
   refine gIn ?_ ?_ fun b' c' _=>?_
   ·show(ys.length+1)*40≤_;omega
   ·exact Nat.le_trans (m:=100000000) (show ys.length+1≤_ by omega) (by decide)
   refine aB (by omega) (by omega) ⟨(i+1,M++[f],b',c',_,h3),⟨by dsimp only;omega,by dsimp only;rw[htk];exact hsub.append (List.Sublist.refl _),?_,hc2.trans hc3⟩,by dsimp only;omega,⟨⟨rfl,rfl,rfl,rfl,rfl,trivial⟩,⟨rfl,trivial⟩,rfl,rfl⟩⟩
   dsimp only
   simp only[List.map_append,List.map_cons,List.map_nil]
   exact hrows.append (Rows.one hrf (Fc.d_n _))
  ·refine aB (by omega) (by omega) ⟨(i+1,M,b,c,ys,h3),⟨by dsimp only;omega,by dsimp only;rw[htk];exact hsub.trans (List.sublist_append_left ..),hrows,hc2.trans hc3⟩,by dsimp only;omega,⟨⟨rfl,rfl,rfl,rfl,rfl,trivial⟩,⟨rfl,trivial⟩,rfl,rfl⟩⟩
 ·obtain rfl : i = A.length := by omega
  rw[List.take_length]at hsub
  refine rFz [1] fun μ3 hle3 hno3 hat3=> .inl ⟨M,hA.sub hsub,by have:=hsub.length_le;omega,?_⟩
  exact Rows.sl hat3 (hrows.mono hle3) (Nat.le_trans (m:=100000000) (by omega) (by decide))
end
end Go.Vx
namespace Go.Vx
open Go.Proofs Classical
theorem qIa(U:List T):∀vs:List T,(∀v∈vs,v∈U)→∃w,w<U.length ^ vs.length∧cN U vs.length w=vs
 |[],_=>⟨0,by simp,rfl⟩
 |v::vs,h=>by
  have w_:=qIa U vs fun x hx=>h x (List.mem_cons_of_mem _ hx)
  obtain⟨w,hw,e⟩:=w_
  have w_:=List.getElem?_of_mem (h v (by simp))
  obtain⟨j,hj⟩:=w_
  have hjl:=(List.getElem?_eq_some_iff.1 hj).1
  refine⟨j+U.length*w,?_,?_⟩
  ·have h1 : U.length * w + U.length ≤ U.length * U.length ^ vs.length := by rw [← Nat.mul_succ]; exact Nat.mul_le_mul_left _ hw
   rw[List.length_cons,Nat.pow_succ,Nat.mul_comm (U.length ^ vs.length)]
   omega
  ·rw [List.length_cons, cN, Nat.add_mul_mod_self_left, Nat.mod_eq_of_lt hjl, Nat.add_mul_div_left _ _ (by omega), Nat.div_eq_of_lt hjl, Nat.zero_add, e, List.getD_eq_getElem?_getD, hj]
   rfl
structure IsRule (p:Pg) (U:List T) (ru:Ru) (r:Rl) (L:List (List Gl)) (i:Nat) (c:List Gl) (vs:List T):Prop where
 rel:r∈p.rels
 cl:r.body.cl=some L
 at_:L[i]? =some c
 len:vs.length=(r.arity+r.locals).toNat
 uni:∀v∈vs,v∈U
 ok:∀g∈c,okG U vs g
 eq:ru=kB r i c vs
theorem qPf{p:Pg}{U:List T}(hU:0<U.length){ru:Ru}:ru∈aN p U↔∃r L i c vs,IsRule p U ru r L i c vs:=by
 constructor
 ·intro hr
  have w_:=List.mem_flatMap.1 hr
  obtain⟨rel,hrel,hr⟩:=w_
  rw[dJ]at hr
  split at hr
  ·simp at hr
  ·rename_i L hL
   rw[bO,List.mem_flatMap]at hr
   obtain⟨i,hi,hr⟩:=hr
   rw[List.mem_range]at hi
   have w_:=aSo (l:=L) (i:=i) hi
   obtain⟨c,hc⟩:=w_
   have ec:L.getD i []=c:=by rw[List.getD_eq_getElem?_getD,hc];rfl
   rw[ec,cH,List.mem_filterMap]at hr
   obtain⟨w,-,hr⟩:=hr
   rw[gT]at hr
   split at hr
   ·rename_i hok
    cases hr
    exact⟨rel,L,i,c,_,hrel,hL,hc,cV ..,oK U hU _ _,hok,rfl⟩
   ·cases hr
 ·rintro ⟨r, L, i, c, vs, h⟩
  have w_:=qIa U vs h.uni
  obtain⟨w,hw,e⟩:=w_
  rw[h.len]at hw e
  refine List.mem_flatMap.2 ⟨r,h.rel,?_⟩
  rw[dJ,h.cl]
  show ru∈bO U r L L.length
  rw[bO,List.mem_flatMap]
  refine⟨i,List.mem_range.2 (List.getElem?_eq_some_iff.1 h.at_).1,?_⟩
  have ec:L.getD i []=c:=by rw[List.getD_eq_getElem?_getD,h.at_];rfl
  rw[ec,cH,List.mem_filterMap]
  refine⟨w,List.mem_range.2 hw,?_⟩
  rw[gT,e,if_pos h.ok,h.eq]
theorem qPt{p:Pg}{U:List T}(hU:0<U.length){ru:Ru}(h:ru∈aN p U):∀a∈ru.head.args,a∈U:=fun a ha=>by
 have w_:=(qPf hU).1 h
 obtain⟨r,L,i,c,vs,k⟩:=w_
 rw[k.eq]at ha
 exact k.uni a (List.mem_of_mem_take ha)
theorem FsU.lfp{p:Pg}{U:List T}{L:List F}(hU:0<U.length)(hr:∀r∈aN p U,RuOk p r)(h:FsU p U L):FsU p U (Go.Vx.lfp (aN p U) L) where
 fit:=tX hr h.fit
 uni:=fun f hf=>by
  cases mem_lfp.1 hf with
  |base k=>exact h.uni f k
  |rule k _=>exact qPt hU k
 asc:=kU ..
end Go.Vx
namespace Go.Vx
open Go.Proofs Classical
def jR(r:Rl):Rl:=⟨r.name,r.arity,0,.mk 1 ⟨#[]⟩ [] []⟩
def qZ(p:Pg):Pg:=⟨p.rels.map jR⟩
theorem vB{s:ByteArray}:∀{l:List Rl} {i:Nat},eN (l.map jR) i s=eN l i s
 |[],_=>rfl
 |r::l,i=>by
  rw[List.map_cons,eN,eN,vB (l:=l)]
  rfl
theorem qAo(p:Pg)(s:ByteArray):cR (qZ p) s=cR p s:=vB
theorem qRg{p:Pg}{k:Nat}{r:Rl}(h:p.rels[k]? =some r):(qZ p).rels[k]? =some (jR r):=by
 show(p.rels.map jR)[k]? =_
 rw[List.getElem?_map,h];rfl
theorem qRh:TopOk (.mk 1 ⟨#[]⟩ ([]:List Tm) []):=lH (ts:=[]) (by decide) (by decide) (fun h=>by omega) (fun h=>by omega) (fun _=>rfl) (fun h=>by omega) fun _ h=>nomatch h
theorem zK{p:Pg}(hp:p.Ok):(qZ p).Ok:=by
 refine⟨by show(p.rels.map jR).length≤8;rw[List.length_map];exact hp.1,fun i r hr=>?_⟩
 have hr:(p.rels.map jR)[i]? =some r:=hr
 rw[List.getElem?_map]at hr
 have w_:=Option.map_eq_some_iff.1 hr
 obtain⟨x,hx,rfl⟩:=w_
 have h:=hp.2 i x hx
 exact
  {
   at_:=by rw[qAo];exact h.at_
   name:=h.name
   ar0:=h.ar0
   ar4:=h.ar4
   lo0:=Int.le_refl 0
   lo8:=show(0:Int)≤8 by decide
   body:= .mk qRh fun _ h=>nomatch h
   size:=show(Gl.mk 1 ⟨#[]⟩ [] []).cnt≤60 by rw[Gl.cnt_eq1];decide
   vars:=fun n hn=>by
    have:(Gl.mk 1 ⟨#[]⟩ [] []).vars=[]:=by rw[Gl.vars,Gl.all_eq];rfl
    rw[show(jR x).body=Gl.mk 1 ⟨#[]⟩ [] []from rfl,this]at hn
    exact nomatch hn
   calls:= .mk (fun h=>absurd h (show ¬(1:Int)=9 by decide)) fun _ h=>nomatch h}
theorem qOj{p:Pg}(hp:p.Ok):(qZ p).Pos:=by
 refine⟨zK hp,fun r hr=>?_⟩
 have w_:=List.mem_map.1 (show r∈p.rels.map jR from hr)
 obtain⟨x,hx,rfl⟩:=w_
 intro y hy
 have e:(jR x).body.all=[Gl.mk 1 ⟨#[]⟩ [] []]:=by rw[Gl.all_eq];rfl
 rw[e,List.mem_singleton]at hy
 rw[hy]
 exact show(1:Int)≠10 by decide
theorem qMy(x:Rl):(jR x).body.cl=some []:=by
 rw[Gl.cl_eq,if_neg (show ¬(jR x).body.kind=0 from show ¬(1:Int)=0 by decide),if_pos (show(jR x).body.kind=1 from rfl)]
theorem qKs(p:Pg)(U:List T):aN (qZ p) U=[]:=by
 rw[aN,List.flatMap_eq_nil_iff]
 intro r hr
 have w_:=List.mem_map.1 (show r∈p.rels.map jR from hr)
 obtain⟨x,hx,rfl⟩:=w_
 rw[dJ,qMy];rfl
theorem qId{p:Pg}(hp:p.Ok){U:List T}(hU:UnivOk (U.map T.tm))(hU2:U.length≤2):aJ (qZ p) (U.map T.tm)=some []:=by
 rw[aJ,if_pos ⟨zK hp,hU⟩,bW,bK,qKs,if_pos]
 refine⟨fun r hr=>?_,by decide⟩
 have w_:=List.mem_map.1 (show r∈p.rels.map jR from hr)
 obtain⟨x,hx,rfl⟩:=w_
 have w_:=List.getElem?_of_mem hx
 obtain⟨i,hi⟩:=w_
 have h4:=(hp.2 i x hi).ar4
 refine⟨by rw[qMy];exact fun h=>(nomatch h),?_⟩
 have e:((jR x).arity+(jR x).locals).toNat≤4:=by show(x.arity+0).toNat≤4;omega
 exact Nat.le_trans (Nat.pow_le_pow_left hU2 _) (Nat.le_trans (Nat.pow_le_pow_right (by decide) e) (by decide))
theorem FsU.fail{p:Pg}{U:List T}{L:List F}(h:FsU p U L):FsU (qZ p) U L:=
 ⟨fun f hf => by
  obtain⟨⟨k,r,h1,h2,h3⟩,h4⟩:=h.fit f hf
  exact⟨⟨k,jR r,by rw[qAo];exact h1,qRg h2,h3⟩,h4⟩,h.uni,h.asc⟩
theorem qIz{L:List F}(h:Asc3 bC L):lfp [] L=L:=Asc3.uniq (c:=bC) cmpF_ord (kU ..) h fun f=>by
 rw[mem_lfp]
 constructor
 ·intro k
  cases k with
  |base k=>exact k
  |rule k _=>exact nomatch k
 ·exact .base
theorem FsU.one{p:Pg}{U:List T}{L:List F}(h:FsU p U L){f:F}(hf:f∈L):FsU p U [f]:=
 ⟨fun x hx=>by rw[List.mem_singleton.1 hx];exact h.fit f hf,fun x hx=>by rw[List.mem_singleton.1 hx];exact h.uni f hf,List.pairwise_singleton _ _⟩
theorem kX{p:Pg}{U:List T}{L:List F}{rs:List Ru}(h:FsU p U L)(hp:p.Pos)(hg:aJ p (U.map T.tm)=some rs):dK p (U.map T.tm) (L.map F.fc)=some (lfp rs L):=by rw[dK,if_pos (h.base hp hg),hg,Option.map_some,F.fcs]
section
variable {p:Pg} {U:List T} {L A:List F} {f:F} {rs:List Ru}
theorem qQq(hp:p.Ok)(hU:UnivOk (U.map T.tm))(hU2:U.length≤2)(hL:FsU p U L)(hA:FsU p U A)(hf:f∈A):addM' (qZ p) (U.map T.tm) (L.map F.fc) (L.map F.fc) f.fc=some (aX L f):=by
 have hg:=qId hp hU hU2
 have hps:=qOj hp
 have h1:=kX hL.fail hps hg
 rw[qIz hL.asc]at h1
 have hi:=(hL.ins (hA.fit f hf) (hA.uni f hf)).fail
 have h2:=kX hi hps hg
 rw[qIz hi.asc]at h2
 rw[addM',if_pos ⟨L,h1,rfl,(hA.one hf).fail.base hps hg⟩,F.fcs,F.fc_f,h2]
theorem qQp(hp:p.Pos)(hg:aJ p (U.map T.tm)=some rs)(hL:FsU p U L)(hA:FsU p U A)(hf:f∈A):addM' p (U.map T.tm) (L.map F.fc) ((lfp rs L).map F.fc) f.fc=some (lfp rs (aX L f)):=by
 rw[addM',if_pos ⟨_,kX hL hp hg,rfl,(hA.one hf).base hp hg⟩,F.fcs,F.fc_f]
 exact kX (hL.ins (hA.fit f hf) (hA.uni f hf)) hp hg
theorem qSj(hp:p.Pos)(hg:aJ p (U.map T.tm)=some rs)(hL:FsU p U L)(hf:f∈L):qJq p (U.map T.tm) (L.map F.fc) ((lfp rs L).map F.fc) f.fc=some (lfp rs (L.filter fun x=>decide (x≠f))):=by
 have e:wI (L.map F.fc) f.fc (L.map F.fc).length=L.filter fun x=>decide (x≠f):=by
  rw[wI,F.fcs,List.length_map,List.take_length,F.fc_f]
 rw[qJq,if_pos ⟨⟨_,kX hL hp hg,rfl,(hL.one hf).base hp hg⟩,by rw[F.fcs,F.fc_f];exact hf⟩,e]
 exact kX (hL.sub List.filter_sublist) hp hg
theorem rem_ins(hL:Asc3 bC L)(h:f∉L):(aX L f).filter (fun x=>decide (x≠f))=L:=
 Asc3.uniq (c:=bC) cmpF_ord (List.Pairwise.sublist List.filter_sublist (fX L f)) hL fun x=>by
  rw[List.mem_filter,mem_insF,decide_eq_true_eq]
  constructor
  ·rintro ⟨h1 | h1, h2⟩
   ·exact absurd h1 h2
   ·exact h1
  ·intro h1
   exact⟨.inr h1,fun e=>h (e ▸ h1)⟩
theorem qPm(hp:p.Pos)(hg:aJ p (U.map T.tm)=some rs)(hX:FsU p U L)(hf:f∈L):qK p (U.map T.tm) (L.map F.fc) f.fc=some (mZ rs L [f]):=by
 rw[qK,if_pos ⟨hX.base hp hg,(hX.one hf).base hp hg,by rw[F.fcs,F.fc_f];exact hf⟩,hg,Option.map_some,F.fcs,F.fc_f]
theorem gone_or{g:F}(hg:g∈lfp rs (aX L f)):g∈mZ rs (lfp rs (aX L f)) [f]∨g∈lfp rs ((aX L f).filter fun x=>decide (x≠f)):=by
 rw[mem_overF,mem_lfp]
 refine over_or (fun x hx=>?_) (mem_lfp.1 hg)
 by_cases e:x=f
 ·exact .inl e
 ·exact .inr (List.mem_filter.2 ⟨hx,by rw[decide_eq_true_eq];exact e⟩)
end
end Go.Vx
namespace Go.Vx
open Go.Proofs Classical
section
variable {μ:Mem}
theorem qBo{p:Pg}{v:Value}(hp:RepV μ p.d v)(hok:p.Ok):Spec Tryz.prog 26 [v] μ fun r μ'=>RepV μ' (qZ p).d (.agg #[r]):=by
 have w_:=Pg.inv hp
 obtain⟨q,rfl,hrl⟩:=w_
 have hn:=hok.1
 refine Spec.mk Tryz.func26 (by kernel_rfl) ?_
 intro r1 r6
 refine lIn (fun z:Nat×Option Nat×Nat×List Value=>z.1≤p.rels.length∧Rows μ 7 (((p.rels.take z.1).map jR).map Rl.d) z.2.2.2)
  (fun(i,b,c,ys)=>⟨[(3,.row 1 b ys.length c),(8,.val (.slice q.1 p.rels.length q.2)),(9,.val (.int .i64 p.rels.length)),(10,.val (.int .i64 i))],[(1,some (.row b c 63 7 ys))],2,μ,Mem.nil⟩) (fun z=>p.rels.length-z.1)
  (0,some r6,0,[]) ⟨Nat.zero_le _,.nil⟩ (fun(_,_,_,_)=>⟨rfl,rfl⟩) ⟨⟨rfl,rfl,rfl,rfl,trivial⟩,⟨rfl,trivial⟩,rfl,rfl⟩ ?_
 rintro⟨i,b,c,ys⟩ ⟨hi,hrows⟩
 dsimp only at hi hrows
 have hyl:=hrows.len
 simp only[List.length_map,List.length_take]at hyl
 refine ifd (fun hlt=>?_) (fun hlt=>?_)
 ·have w_ := aSo (l := p.rels) (i := i) (by omega)
  obtain⟨r,hr⟩:=w_
  have w_:=Rl.elem hrl hr
  obtain⟨ad,q2,hel,hrv⟩:=w_
  refine eIn hel ?_
  intro r5 r21
  refine gIn ?_ ?_ fun b' c' _=>?_
  ·show(ys.length+1)*104≤_;omega
  ·exact Nat.le_trans (m:=100000000) (show ys.length+1≤_ by omega) (by decide)
  have hf:RepV μ (jR r).d (.agg #[.string r.name,.int .i64 r.arity,.int .i64 0,.int .i64 1,.string ⟨#[]⟩,.slice none 0 0,.slice none 0 0]):=by
   have hg:RepS μ [.i 1,.s ⟨#[]⟩,.sl 4 (([]:List Tm).map Tm.d),.sl 4 (([]:List Gl).map Gl.d)] [.int .i64 1,.string ⟨#[]⟩,.slice none 0 0,.slice none 0 0]:=RepS.int (RepS.str (RepS.cons1 (Rep.nilSl 4) (RepS.last (Rep.nilSl 4))))
   rw[Rl.d_eq,Gl.d_eq]
   exact⟨_,rfl,RepS.str (RepS.int (RepS.int (RepS.last hg)))⟩
  refine aB (by omega) (by omega) ⟨(i+1,b',c',_),⟨by dsimp only;omega,?_⟩,by dsimp only;omega,⟨⟨rfl,rfl,rfl,rfl,trivial⟩,⟨rfl,trivial⟩,rfl,rfl⟩⟩
  dsimp only
  rw[List.take_add_one,hr,Option.toList_some]
  simp only[List.map_append,List.map_cons,List.map_nil]
  exact hrows.append (Rows.one hf (Rl.d_n _))
 ·obtain rfl : i = p.rels.length := by omega
  rw[List.take_length]at hrows
  refine rFz [1] fun μ2 hle2 hno2 hat2=> .inl ?_
  have:=Rows.sl hat2 (hrows.mono hle2) (Nat.le_trans (m:=8) (by omega) (by decide))
  rw[Pg.d_eq]
  exact⟨_,rfl,RepS.last this⟩
end
end Go.Vx
