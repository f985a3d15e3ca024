/- Texts of the proof, part E1. -/
import Derived.Test.YtnogdfionomoaaaGreatM6
namespace Go.Vx
theorem D.wds_of:∀{xs:List D},(∀x∈xs,x.wd)→D.wds xs
 |[],_=>trivial
 |d::r,k=>⟨k d (by simp),D.wds_of fun x h=>k x (by simp[h])⟩
end Go.Vx
namespace Go.Vx
open Go.Proofs Classical
section
variable {μ:Mem}
def qHg(μ':Mem)(l:List Int)(n:Int)(v:Value):Prop:=∃r:List Int,RepV μ' (.sl 1 (r.map D.i)) v∧(∀x,x∈r↔x=n∨x∈l)∧r.length≤l.length+1
theorem gN{l:List Int}{v:Value}{n:Int}(hv:RepV μ (.sl 1 (l.map D.i)) v)(hb:l.length≤1000000000):Spec Tryz.prog 248 [v,.int .i64 n] μ fun v μ'=>qHg μ' l n v:=by
 have w_:=Rep.sl hv
 obtain⟨base,cap,rfl,hsl⟩:=w_
 have hcap:=Rep.lens hv
 rw[List.length_map]at hsl hcap hv ⊢
 refine Spec.mk Tryz.func248 (by kernel_rfl) ?_
 refine lIn (fun k:Nat=>k≤l.length) (fun k=>⟨[(0,.val (.slice base l.length cap)),(1,.val (.int .i64 n)),(5,.val (.int .i64 k))],[],0,μ,Mem.nil⟩) (fun k=>k)
  l.length (Nat.le_refl _) (fun i=>⟨rfl,rfl⟩) ⟨⟨rfl,rfl,rfl,trivial⟩,trivial,rfl,rfl⟩ ?_
 intro k hk
 refine ifd (fun h1=>?_) (fun h1=>?_)
 ·have w_ := aSo (l := l) (i := k - 1) (by omega)
  obtain⟨x,hx⟩:=w_
  have w_:=Ints.elem hsl hx
  obtain⟨ad,hel⟩:=w_
  refine nEq (x:=((k-1:Nat):Int)) (by rw[aA (by omega) (by omega)];omega) ?_
  refine eIn hel ?_
  refine ifd (fun h2=>?_) (fun h2=>?_)
  ·exact nEq (x:=((k-1:Nat):Int)) (by rw[aA (by omega) (by omega)];omega) ⟨k-1,by omega,by omega,⟨⟨rfl,rfl,rfl,trivial⟩,trivial,rfl,rfl⟩⟩
  ·refine ifd (fun h3 => ?_) (fun h3 => ?_)
   ·have w_ := aSo (l := l) (i := k) (by omega)
    obtain⟨y,hy⟩:=w_
    have w_:=Ints.elem hsl hy
    obtain⟨ad2,hel2⟩:=w_
    refine eIn hel2 ?_
    refine ifd (fun h4=>rPl ⟨l,hv,fun x=>⟨.inr,fun hx=>hx.elim (fun e=>by rw[e,←h4];exact mAt hy) id⟩,by omega⟩) (fun h4=>?_)
    intro r0
    refine aF 0 k rfl rfl (by omega) (by omega) ?_
    refine aG _ (Ints.src hsl (a:=0) (b:=k) (by omega) hk hcap) ?_
    refine gIn ?_ ?_ fun b1 c1 _=>?_
    ·show(0+(aD _).length)*8≤_;simp[aD];omega
    ·show 0+(aD _).length≤9223372036854775807;simp[aD];omega
    intro r1
    refine gIn ?_ ?_ fun b2 c2 _=>?_
    ·show(([]++aD _).length+1)*8≤_;simp[aD];omega
    ·show([]++aD _).length+1≤9223372036854775807;simp[aD];omega
    refine aF k l.length rfl rfl hk (by omega) ?_
    refine aG _ (Ints.src hsl (a:=k) (b:=l.length) hk (Nat.le_refl _) hcap) ?_
    refine gIn ?_ ?_ fun b3 c3 _=>?_
    ·show(([]++aD _++[_]).length+(aD _).length)*8≤_;simp[aD];omega
    ·show([]++aD _++[_]).length+(aD _).length≤9223372036854775807;simp[aD];omega
    refine rFz [0] fun μ' hle hno hrow=> .inl ⟨aO l n k,?_,cF l n k,?_⟩
    ·have e:[]++aD ((l.drop 0).take (k-0))++[.int .i64 n]++aD ((l.drop k).take (l.length-k))=aD (aO l n k):=by
      simp[aD,aO]
      rw[List.take_of_length_le (by simp)]
     rw[e]at hrow ⊢
     exact Ints.sl hrow (Nat.le_trans (m:=2000000000) (by simp[aO];omega) (by decide))
    ·simp[aO];omega
   ·intro r0
    refine aF 0 k rfl rfl (by omega) (by omega) ?_
    refine aG _ (Ints.src hsl (a:=0) (b:=k) (by omega) hk hcap) ?_
    refine gIn ?_ ?_ fun b1 c1 _=>?_
    ·show(0+(aD _).length)*8≤_;simp[aD];omega
    ·show 0+(aD _).length≤9223372036854775807;simp[aD];omega
    intro r1
    refine gIn ?_ ?_ fun b2 c2 _=>?_
    ·show(([]++aD _).length+1)*8≤_;simp[aD];omega
    ·show([]++aD _).length+1≤9223372036854775807;simp[aD];omega
    refine aF k l.length rfl rfl hk (by omega) ?_
    refine aG _ (Ints.src hsl (a:=k) (b:=l.length) hk (Nat.le_refl _) hcap) ?_
    refine gIn ?_ ?_ fun b3 c3 _=>?_
    ·show(([]++aD _++[_]).length+(aD _).length)*8≤_;simp[aD];omega
    ·show([]++aD _++[_]).length+(aD _).length≤9223372036854775807;simp[aD];omega
    refine rFz [0] fun μ' hle hno hrow=> .inl ⟨aO l n k,?_,cF l n k,?_⟩
    ·have e:[]++aD ((l.drop 0).take (k-0))++[.int .i64 n]++aD ((l.drop k).take (l.length-k))=aD (aO l n k):=by
      simp[aD,aO]
      rw[List.take_of_length_le (by simp)]
     rw[e]at hrow ⊢
     exact Ints.sl hrow (Nat.le_trans (m:=2000000000) (by simp[aO];omega) (by decide))
    ·simp[aO];omega
 ·refine ifd (fun h3 => ?_) (fun h3 => ?_)
  ·have w_ := aSo (l := l) (i := k) (by omega)
   obtain⟨y,hy⟩:=w_
   have w_:=Ints.elem hsl hy
   obtain⟨ad2,hel2⟩:=w_
   refine eIn hel2 ?_
   refine ifd (fun h4=>rPl ⟨l,hv,fun x=>⟨.inr,fun hx=>hx.elim (fun e=>by rw[e,←h4];exact mAt hy) id⟩,by omega⟩) (fun h4=>?_)
   intro r0
   refine aF 0 k rfl rfl (by omega) (by omega) ?_
   refine aG _ (Ints.src hsl (a:=0) (b:=k) (by omega) hk hcap) ?_
   refine gIn ?_ ?_ fun b1 c1 _=>?_
   ·show(0+(aD _).length)*8≤_;simp[aD];omega
   ·show 0+(aD _).length≤9223372036854775807;simp[aD];omega
   intro r1
   refine gIn ?_ ?_ fun b2 c2 _=>?_
   ·show(([]++aD _).length+1)*8≤_;simp[aD];omega
   ·show([]++aD _).length+1≤9223372036854775807;simp[aD];omega
   refine aF k l.length rfl rfl hk (by omega) ?_
   refine aG _ (Ints.src hsl (a:=k) (b:=l.length) hk (Nat.le_refl _) hcap) ?_
   refine gIn ?_ ?_ fun b3 c3 _=>?_
   ·show(([]++aD _++[_]).length+(aD _).length)*8≤_;simp[aD];omega
   ·show([]++aD _++[_]).length+(aD _).length≤9223372036854775807;simp[aD];omega
   refine rFz [0] fun μ' hle hno hrow=> .inl ⟨aO l n k,?_,cF l n k,?_⟩
   ·have e:[]++aD ((l.drop 0).take (k-0))++[.int .i64 n]++aD ((l.drop k).take (l.length-k))=aD (aO l n k):=by
     simp[aD,aO]
     rw[List.take_of_length_le (by simp)]
    rw[e]at hrow ⊢
    exact Ints.sl hrow (Nat.le_trans (m:=2000000000) (by simp[aO];omega) (by decide))
   ·simp[aO];omega
  ·intro r0
   refine aF 0 k rfl rfl (by omega) (by omega) ?_
   refine aG _ (Ints.src hsl (a:=0) (b:=k) (by omega) hk hcap) ?_
   refine gIn ?_ ?_ fun b1 c1 _=>?_
   ·show(0+(aD _).length)*8≤_;simp[aD];omega
   ·show 0+(aD _).length≤9223372036854775807;simp[aD];omega
   intro r1
   refine gIn ?_ ?_ fun b2 c2 _=>?_
   ·show(([]++aD _).length+1)*8≤_;simp[aD];omega
   ·show([]++aD _).length+1≤9223372036854775807;simp[aD];omega
   refine aF k l.length rfl rfl hk (by omega) ?_
   refine aG _ (Ints.src hsl (a:=k) (b:=l.length) hk (Nat.le_refl _) hcap) ?_
   refine gIn ?_ ?_ fun b3 c3 _=>?_
   ·show(([]++aD _++[_]).length+(aD _).length)*8≤_;simp[aD];omega
   ·show([]++aD _++[_]).length+(aD _).length≤9223372036854775807;simp[aD];omega
   refine rFz [0] fun μ' hle hno hrow=> .inl ⟨aO l n k,?_,cF l n k,?_⟩
   ·have e:[]++aD ((l.drop 0).take (k-0))++[.int .i64 n]++aD ((l.drop k).take (l.length-k))=aD (aO l n k):=by
     simp[aD,aO]
     rw[List.take_of_length_le (by simp)]
    rw[e]at hrow ⊢
    exact Ints.sl hrow (Nat.le_trans (m:=2000000000) (by simp[aO];omega) (by decide))
   ·simp[aO];omega
theorem dF{α β:Type}(f:α→List β)(l:List α)(i:Nat):((l.take i).flatMap f).length≤(l.flatMap f).length:=by
 have:=congrArg (fun l=>(l.flatMap f).length) (List.take_append_drop i l)
 simp only[List.flatMap_append,List.length_append]at this
 omega
theorem T.vars_size:∀x:T,x.vars.length≤x.size
 | .nil=>by simp[T.vars]
 | .var _=>by simp[T.vars,T.size]
 | .sym _=>by simp[T.vars]
 | .num _=>by simp[T.vars]
 | .pair a b=>by
  have:=T.vars_size a
  have:=T.vars_size b
  simp[T.vars,T.size];omega
def qR(μ':Mem)(l vs:List Int)(v:Value):Prop:=∃r:List Int,RepV μ' (.sl 1 (r.map D.i)) v∧(∀x,x∈r↔x∈vs∨x∈l)∧r.length≤l.length+vs.length
theorem jY:∀(x:T) {μ:Mem} {l:List Int} {w v:Value},RepV μ x.tm.d w→RepV μ (.sl 1 (l.map D.i)) v→l.length+x.vars.length≤1000000000→Spec Tryz.prog 204 [w,v] μ fun v μ'=>qR μ' l x.vars v:=
 T.ind fun x ih μ l w v hw hv hb=>by
  obtain⟨base,cap,rfl,hsl⟩:∃base cap,w= .agg #[.int .i64 x.tm.kind,.int .i64 x.tm.num,.string x.tm.name,.slice base x.args.length cap]∧Sl μ 4 base x.args.length ((x.args.map T.tm).map Tm.d):=by
   have h1:=Tm.inv (k:=x.tm.kind) (n:=x.tm.num) (s:=x.tm.name) (l:=x.tm.args) (v:=w) (by cases x<;>exact hw)
   rw[T.tm_args,List.length_map]at h1
   exact h1
  have hn:=aH hsl.max
  refine Spec.mk Tryz.func204 (by kernel_rfl) ?_
  intro r
  refine ifd (fun h=>?_) (fun h=>?_)
  ·have e : x.vars = [x.tm.num] := by cases x <;> simp_all [T.vars, T.tm, Tm.kind, Tm.num]
   refine cPl (gN hv (by omega)) fun v' μ' hle hR=>rPl ?_
   obtain⟨r,h1,h2,h3⟩:=hR
   exact⟨r,h1,by simpa[e]using h2,by simpa[e]using h3⟩
  have e:=T.vars_args h
  refine lIn (fun p:Nat×Value×Mem=>p.1≤x.args.length∧μ.Le p.2.2∧qR p.2.2 l ((x.args.take p.1).flatMap T.vars) p.2.1)
   (fun(i,v,μ')=>⟨[(1,.val v),(15,.val (.slice base x.args.length cap)),(16,.val (.int .i64 x.args.length)),(17,.val (.int .i64 i))],[],1,μ',Mem.nil⟩) (fun p=>x.args.length-p.1)
   (0,v,μ) ⟨by simp,Mem.Le.refl μ,l,hv,by simp,by simp⟩ (fun(_,_,_)=>⟨rfl,rfl⟩) ⟨⟨rfl,rfl,rfl,rfl,trivial⟩,trivial,rfl,rfl⟩ ?_
  rintro⟨i,v,μ'⟩ ⟨hi,hle,r,h1,h2,h3⟩
  dsimp only at hi hle h1 h2 h3
  have hpre:((x.args.take i).flatMap T.vars).length≤x.vars.length:=by
   rw[e];exact dF _ _ _
  refine ifd (fun h=>?_) (fun h=>?_)
  ·have w_ := aSo (l := x.args) (i := i) (by omega)
   obtain⟨t,ht⟩:=w_
   have ht':(x.args.map T.tm)[i]? =some t.tm:=by simp[ht]
   have w_:=Tm.elem (hsl.mono hle) ht'
   obtain⟨ad,p,hel,hr⟩:=w_
   have hsucc:(x.args.take (i+1)).flatMap T.vars=(x.args.take i).flatMap T.vars++t.vars:=by
    rw[List.take_add_one,ht,Option.toList_some,List.flatMap_append];simp
   have hall:((x.args.take (i+1)).flatMap T.vars).length≤x.vars.length:=by
    rw[e];exact dF _ _ _
   rw[hsucc,List.length_append]at hall
   refine eIn hel ?_
   intro r2
   refine cPl (ih t (mAt ht) hr h1 (by omega)) fun v' μ'' hle2 hR=>?_
   obtain⟨q,g1,g2,g3⟩:=hR
   refine aB (by omega) (by omega) ⟨(i+1,v',μ''),⟨by dsimp only;omega,hle.trans hle2,q,g1,fun y=>?_,?_⟩,by dsimp only;omega,⟨⟨rfl,rfl,rfl,rfl,trivial⟩,trivial,rfl,rfl⟩⟩
   ·dsimp only
    rw[g2,h2,hsucc,List.mem_append]
    constructor
    ·rintro(h|h|h)<;>simp[h]
    ·rintro((h|h)|h)<;>simp[h]
   ·dsimp only
    rw[hsucc,List.length_append];omega
  ·have hi' : i = x.args.length := by omega
   subst hi'
   rw[List.take_length,←e]at h2 h3
   exact rPl ⟨r,h1,h2,h3⟩
end
end Go.Vx
namespace Go.Vx
open Go.Proofs Classical
section
variable {μ:Mem}
theorem eD(x:T){v:Value}(hv:RepV μ x.tm.d v)(hx:x.ok)(hw:x.tm.d.wd):aP Tryz.prog 141 [v] μ (.bool (decide (x.vars=[]))):=by
 have w_:=Tm.invV hv
 obtain⟨p,rfl⟩:=w_
 have:=T.vars_size x
 have:=hx.2
 refine Spec.forget (Spec.mk Tryz.func141 (by kernel_rfl) ?_)
 intro r
 refine cGv (dO x.tm hv hw) ?_
 refine ifd (fun _=>?_) (fun h=>absurd hx.tm h)
 refine cPl (jY x (l:=[]) hv (Rep.nilSl 1) (by simp;omega)) fun v' μ' hle hR=>?_
 obtain⟨r,h1,h2,h3⟩:=hR
 have w_:=Rep.sl h1
 obtain⟨b,c,rfl,_⟩:=w_
 refine rPl (isI ?_)
 rw[List.length_map]
 constructor
 ·intro hh
  have:r=[]:=List.eq_nil_of_length_eq_zero (by omega)
  subst this
  cases hx:x.vars with
  |nil=>rfl
  |cons a l=>
   have:=(h2 a).2 (.inl (by simp[hx]))
   simp at this
 ·intro hh
  rw[hh]at h3
  simp at h3
  rw[h3];rfl
end
end Go.Vx
namespace Go.Vx
open Go.Proofs Classical
theorem jW:∀(x:T) {μ:Mem} {v:Value},RepV μ x.tm.d v→Spec Tryz.prog 207 [v] μ fun v μ'=>RepV μ' x.tm.d v:=
 T.ind fun x ih μ v hv=>by
  have w_:=T.inv hv
  obtain⟨base,cap,rfl,hsl⟩:=w_
  have hn:=T.args_le x
  refine Spec.mk Tryz.func207 (by kernel_rfl) ?_
  intro r1 r2 r3
  refine cX (fun p:Nat×Option Nat×Nat×List Value×Mem=>p.1≤x.args.length∧μ.Le p.2.2.2.2∧Rows p.2.2.2.2 4 (((x.args.take p.1).map T.tm).map Tm.d) p.2.2.2.1)
   (fun (i, b, c, ys, μ') => ⟨[(2, .loc 1 r2 0), (3, .loc 2 r3 0), (14, .val (.slice base x.args.length cap)), (15, .val (.int .i64 x.args.length)), (16, .val (.int .i64 i))],
    [(1,some (.cells r2 [.val (.int .i64 0),.val (.int .i64 0),.val (.string ⟨#[]⟩),.val (.slice none 0 0)] 75)),(2,some (.cells r3 [.val (.int .i64 x.tm.kind),.val (.int .i64 x.tm.num),.val (.string x.tm.name),.row 3 b ys.length c] 75)),(3,some (.row b c 75 4 ys))],4,μ',Mem.nil⟩) (fun p=>x.args.length-p.1)
   (0,none,0,[],μ) ⟨by simp,Mem.Le.refl μ,.nil⟩ (fun(_,_,_,_,_)=>⟨rfl,rfl⟩) ⟨⟨⟨_,rfl,.inl rfl⟩,⟨_,rfl,.inl rfl⟩,⟨_,rfl,.inl rfl⟩,⟨_,rfl,.inl rfl⟩,⟨_,rfl,.inl rfl⟩,trivial⟩,⟨.inl rfl,.inr (.inr ⟨_,_,_,_,rfl,rfl,.inl rfl,.inl rfl,.inl rfl,.inr ⟨3,rfl,rfl,Nat.le_refl _⟩,trivial⟩),.inr (.inl ⟨_,_,rfl,Nat.le_refl _⟩),trivial⟩,rfl,rfl⟩ ?_
  rintro⟨i,b,c,ys,μ'⟩ ⟨hi,hle,hrows⟩
  dsimp only at hi hle hrows
  have hlen:=hrows.len
  simp only[List.length_map,List.length_take]at hlen
  refine ifd (fun h=>?_) (fun h=>?_)
  ·have w_ := aSo (l := x.args) (i := i) (by omega)
   obtain⟨t,ht⟩:=w_
   have ht':(x.args.map T.tm)[i]? =some t.tm:=by simp[ht]
   have w_:=Tm.elem (hsl.mono hle) ht'
   obtain⟨ad,p,hel,hr⟩:=w_
   refine eIn hel ?_
   intro r4
   refine cPl (ih t (mAt ht) hr) fun v' μ'' hle2 hR=>?_
   have w_:=Tm.invV hR
   obtain⟨q,rfl⟩:=w_
   intro r5
   refine gIn ?_ ?_ fun b' c' _=>?_
   ·show(ys.length+1)*56≤_;omega
   ·show ys.length+1≤9223372036854775807;omega
   have hsucc:((x.args.take (i+1)).map T.tm).map Tm.d=((x.args.take i).map T.tm).map Tm.d++[t.tm.d]:=by
    rw[List.take_add_one,ht,Option.toList_some];simp
   exact aB (by omega) (by omega) ⟨(i+1,b',c',_,μ''),⟨by dsimp only;omega,hle.trans hle2,by rw[hsucc];exact(hrows.mono hle2).append (Rows.one hR (Tm.d_n _))⟩,by dsimp only;omega,⟨⟨rfl,rfl,rfl,rfl,rfl,trivial⟩,⟨rfl,rfl,rfl,trivial⟩,rfl,rfl⟩⟩
  ·obtain rfl : i = x.args.length := by omega
   rw[List.take_length]at hrows
   refine rFz [3] fun μ2 hle2 hno hrow=> .inl ?_
   rw[T.d_eq]
   exact⟨_,rfl,RepS.int (RepS.int (RepS.str (RepS.last (Rows.sl hrow (hrows.mono hle2) (Nat.le_trans (m:=10) (by omega) (by decide))))))⟩
end Go.Vx
namespace Go.Vx
open Go.Proofs Classical
section
variable {μ:Mem}
theorem dG{xs:List T}{base:Option Addr}{cap:Nat}(hsl:Sl μ 4 base xs.length ((xs.map T.tm).map Tm.d))(hn:xs.length≤10000000):
  Spec Tryz.prog 144 [.slice base xs.length cap] μ fun v μ'=>RepV μ' (.sl 4 ((xs.map T.tm).map Tm.d)) v:=by
 refine Spec.mk Tryz.func144 (by kernel_rfl) ?_
 intro r6
 refine lIn (fun p:Nat×Option Nat×Nat×List Value×Mem=>p.1≤xs.length∧μ.Le p.2.2.2.2∧Rows p.2.2.2.2 4 (((xs.take p.1).map T.tm).map Tm.d) p.2.2.2.1)
  (fun(i,b,c,ys,μ')=>⟨[(3,.row 0 b ys.length c),(7,.val (.slice base xs.length cap)),(8,.val (.int .i64 xs.length)),(9,.val (.int .i64 i))],[(0,some (.row b c 75 4 ys))],1,μ',Mem.nil⟩) (fun p=>xs.length-p.1)
  (0,some r6,0,[],μ) ⟨by simp,Mem.Le.refl _,.nil⟩ (fun(_,_,_,_,_)=>⟨rfl,rfl⟩) ⟨⟨rfl,rfl,rfl,rfl,trivial⟩,⟨rfl,trivial⟩,rfl,rfl⟩ ?_
 rintro⟨i,b,c,ys,μ'⟩ ⟨hi,hle,hrows⟩
 dsimp only at hi hle hrows
 have hlen:=hrows.len
 simp only[List.length_map,List.length_take]at hlen
 refine ifd (fun h=>?_) (fun h=>?_)
 ·have w_ := aSo (l := xs) (i := i) (by omega)
  obtain⟨x,hx'⟩:=w_
  have w_:=Tm.elem (i:=i) (t:=x.tm) (hsl.mono hle) (by simp[hx'])
  obtain⟨ad,p,hel,hto⟩:=w_
  refine eIn hel ?_
  intro r
  refine cPl (jW _ hto) fun v4 μ4 hle4 hR4=>?_
  have w_:=Tm.invV hR4
  obtain⟨q,rfl⟩:=w_
  intro r5
  refine gIn ?_ ?_ fun b' c' _=>?_
  ·show(ys.length+1)*56≤_;omega
  ·exact Nat.le_trans (m:=100000000) (show ys.length+1≤_ by omega) (by decide)
  refine aB (by omega) (by omega) ⟨(i+1,b',c',_,μ4),⟨by dsimp only;omega,hle.trans hle4,?_⟩,by dsimp only;omega,⟨⟨rfl,rfl,rfl,rfl,trivial⟩,⟨rfl,trivial⟩,rfl,rfl⟩⟩
  dsimp only
  rw[List.take_add_one,hx',Option.toList_some]
  simp only[List.map_append,List.map_cons,List.map_nil]
  exact(hrows.mono hle4).append (Rows.one hR4 (Tm.d_n _))
 ·obtain rfl : i = xs.length := by omega
  rw[List.take_length]at hrows
  refine rFz [0] fun μ' hle' hno hrow=> .inl ?_
  exact Rows.sl hrow (hrows.mono hle') (Nat.le_trans (m:=100000000) (by omega) (by decide))
end
end Go.Vx
namespace Go.Vx
open Go.Proofs Classical
section
variable {α:Type} {c:α→α→Int}
theorem Asc3.take_lt(h:Ord3 c){l:List α}(hl:Asc3 c l){k:Nat}{y e:α}(hy:l[k]? =some y)(hc:c y e<0):∀x∈l.take (k+1),c x e<0:=by
 rw[List.take_add_one,hy,Option.toList_some]
 intro x hx
 rcases List.mem_append.1 hx with hx|hx
 ·rw [Asc3, ← List.take_append_drop k l, List.pairwise_append] at hl
  exact h.trans _ _ _ (hl.2.2 x hx y (by rw[bJ hy];simp)) hc
 ·rw[List.mem_singleton.1 hx];exact hc
theorem Asc3.drop_gt(h:Ord3 c){l:List α}(hl:Asc3 c l){k:Nat}{y e:α}(hy:l[k]? =some y)(hc:c e y<0):∀x∈l.drop k,c e x<0:=by
 rw[bJ hy]
 intro x hx
 rcases List.mem_cons.1 hx with rfl|hx
 ·exact hc
 ·rw [Asc3, ← List.take_append_drop k l, List.pairwise_append, bJ hy, List.pairwise_cons] at hl
  exact h.trans _ _ _ hc (hl.2.1.1 x hx)
end
end Go.Vx
namespace Go.Vx
open Go.Proofs Classical
section
variable {μ:Mem}
theorem gM{xs ys:List T}{base base2:Option Addr}{cap cap2:Nat}(hsl:Sl μ 4 base xs.length ((xs.map T.tm).map Tm.d))(hsl2:Sl μ 4 base2 ys.length ((ys.map T.tm).map Tm.d)):
  aP Tryz.prog 206 [.slice base xs.length cap,.slice base2 ys.length cap2] μ (.int .i64 (kY xs ys)):=by
 refine Spec.mk Tryz.func206 (by kernel_rfl) ?_
 have hm1:=aH hsl.max
 have hm2:=aH hsl2.max
 refine lIn (fun i:Nat=>i≤xs.length∧i≤ys.length∧kY (xs.drop i) (ys.drop i)=kY xs ys)
  (fun i=>⟨[(0,.val (.slice base xs.length cap)),(1,.val (.slice base2 ys.length cap2)),(5,.val (.int .i64 i))],[],0,μ,Mem.nil⟩) (fun i=>xs.length-i)
  0 ⟨Nat.zero_le _,Nat.zero_le _,rfl⟩ (fun _=>⟨rfl,rfl⟩) ⟨⟨rfl,rfl,rfl,trivial⟩,trivial,rfl,rfl⟩ ?_
 rintro i ⟨hi,hj,hJ⟩
 have fin:¬(i<xs.length∧i<ys.length)→kY xs ys=jK xs.length ys.length:=fun h=>nH h hi hj hJ
 refine ifd (fun h1=>?_) (fun h1=>?_)
 ·refine ifd (fun h2 => ?_) (fun h2 => ?_)
  ·have w_ := aSo (l := xs) (i := i) (by omega)
   obtain⟨x,hx⟩:=w_
   have w_:=aSo (l:=ys) (i:=i) (by omega)
   obtain⟨y,hy⟩:=w_
   have w_:=T.elemL hsl hx
   obtain⟨ad,p,hel,hto⟩:=w_
   have w_:=T.elemL hsl2 hy
   obtain⟨ad2,p2,hel2,hto2⟩:=w_
   rw[bJ hx,bJ hy,kY,cI]at hJ
   refine eIn hel (eIn hel2 ?_)
   refine cGv (fK _ _ hto hto2) ?_
   refine aK (fun h5=>?_) (fun h5=>?_)
   ·rw [nO h5] at hJ
    exact rGv (congrArg (Value.int .i64) hJ) rfl
   ·rw [nN h5] at hJ
    exact aB (by omega) (by omega) ⟨i+1,⟨by omega,by omega,hJ⟩,by omega,⟨⟨rfl,rfl,rfl,trivial⟩,trivial,rfl,rfl⟩⟩
  ·have hf := fin (by omega)
   refine aK (fun h3=>?_) (fun h3=>?_)
   ·refine cGv (cP _) ?_
    exact rGv (by rw[hf,jK,if_neg h3]) rfl
   ·exact rGv (by rw[hf,jK,if_pos h3]) rfl
 ·have hf := fin (by omega)
  refine aK (fun h3=>?_) (fun h3=>?_)
  ·refine cGv (cP _) ?_
   exact rGv (by rw[hf,jK,if_neg h3]) rfl
  ·exact rGv (by rw[hf,jK,if_pos h3]) rfl
theorem cJ{f g:F}{v w:Value}(hv:RepV μ f.fc.d v)(hw:RepV μ g.fc.d w):aP Tryz.prog 143 [v,w] μ (.int .i64 (bC f g)):=by
 have w_:=F.inv hv
 obtain⟨p,rfl,hs⟩:=w_
 have w_:=F.inv hw
 obtain⟨q,rfl,hs2⟩:=w_
 refine Spec.mk Tryz.func143 (by kernel_rfl) ?_
 intro r1 r2
 rw[bC]
 refine aK (fun h=>?_) (fun h=>?_)
 ·have e:iM (mQ f.rel g.rel) (kY f.args g.args)=sgn (Op.bytesLess f.rel.data.toList g.rel.data.toList):=by
   rw[nO (fun k=>h ((cName_ord.zero _ _).1 k)),mQ,if_neg h]
  rw[e]
  refine cGv (cP _) ?_
  exact rGv rfl rfl
 ·rw [nN ((cName_ord.zero _ _).2 h)]
  refine cGv (gM hs hs2) ?_
  exact rGv rfl rfl
end
end Go.Vx
namespace Go.Vx
open Go.Proofs Classical
section
variable {μ:Mem}
theorem dQ(t:Tm){v:Value}(hv:RepV μ t.d v)(hw:t.d.wd):aP Tryz.prog 141 [v] μ (.bool (decide (tN t))):=by
 by_cases h:t.Ok
 ·obtain ⟨x, hx, rfl⟩ := h.lift
  have:=eD x hv hx hw
  have e:(decide (x.vars=[]))=decide (tN x.tm):=decide_eq_decide.2 ⟨fun k=>⟨h,by rw[T.toT_tm];exact k⟩,fun k=>by have:=k.2;rwa [T.toT_tm]at this⟩
  rwa [e]at this
 ·have w_ := Tm.invV hv
  obtain⟨p,rfl⟩:=w_
  refine Spec.mk Tryz.func141 (by kernel_rfl) ?_
  intro r
  refine cGv (dO t hv hw) ?_
  refine ifd (fun k=>absurd k h) (fun _=>?_)
  exact rGv (by rw[decide_eq_false fun k=>h k.1]) rfl
theorem cY{l:List Tm}{base:Option Addr}{cap:Nat}(hsl:Sl μ 4 base l.length (l.map Tm.d))(hw:D.wds (l.map Tm.d)):
  aP Tryz.prog 70 [.slice base l.length cap] μ (.bool (decide (UnivOk l))):=by
 have hn:=aH hsl.max
 have bad:¬UnivOk l→Value.bool false= .bool (decide (UnivOk l)):=fun k=>isF k
 refine Spec.mk Tryz.func70 (by kernel_rfl) ?_
 refine lIn (fun i:Nat=>i≤l.length∧UnivTo l i)
  (fun i=>⟨[(0,.val (.slice base l.length cap)),(5,.val (.slice base l.length cap)),(6,.val (.int .i64 l.length)),(7,.val (.int .i64 i))],[],0,μ,Mem.nil⟩) (fun i=>l.length-i)
  0 ⟨Nat.zero_le _,fun j hj=>by omega⟩ (fun _=>⟨rfl,rfl⟩) ⟨⟨rfl,rfl,rfl,rfl,trivial⟩,trivial,rfl,rfl⟩ ?_
 rintro i ⟨hi,hall⟩
 refine ifd (fun hlt=>?_) (fun hlt=>?_)
 ·have w_ := aSo (l := l) (i := i) (by omega)
  obtain⟨t,ht⟩:=w_
  have w_:=Tm.elem hsl ht
  obtain⟨ad,p,hel,hr⟩:=w_
  refine eIn hel ?_
  intro r4
  refine cGv (dQ t hr (D.wds_mem hw _ (mAt (oX (f:=Tm.d) ht)))) ?_
  refine aK (fun h=>rGv (bad fun k=>h (k.gnd t (mAt ht))) rfl) (fun hg=>?_)
  have ok1:(∀k x y,k+1=i→l[k]? =some x→l[i]? =some y→x.toT.cmp y.toT<0)→UnivTo l (i+1):=fun hc j hj=>by
   rcases Nat.lt_or_ge j i with h6|h6
   ·exact hall j h6
   ·obtain rfl : j = i := by omega
    exact⟨fun t' ht'=>by rw[ht]at ht';cases ht';exact hg,hc⟩
  refine ifd (fun hi0=>?_) (fun hi0=>?_)
  ·have w_ := aSo (l := l) (i := i - 1) (by omega)
   obtain⟨t',ht'⟩:=w_
   have w_:=Tm.elem hsl ht'
   obtain⟨ad',p',hel',hr'⟩:=w_
   have hg':=(hall (i-1) (by omega)).1 t' ht'
   obtain⟨x,_,rfl⟩:=hg.1.lift
   obtain⟨y,_,rfl⟩:=hg'.1.lift
   refine aB (by omega) (by omega) ?_
   refine eIn (by rw[show((i:Int)-1)=((i-1:Nat):Int) by omega];exact hel') ?_
   refine cGv (fK y x hr' hr) ?_
   refine ifd (fun hc=>(fun e=>rGv e rfl) ?_) (fun hc=>?_)
   ·refine bad fun k => ?_
    have:=k.asc (i-1) _ _ ht' (by rw[show i-1+1=i by omega];exact ht)
    rw[T.toT_tm,T.toT_tm]at this
    omega
   ·refine aB (by omega) (by omega) ⟨i + 1, ⟨by omega, ok1 fun k a b hk ha hb => ?_⟩, by omega, ⟨⟨rfl, rfl, rfl, rfl, trivial⟩, trivial, rfl, rfl⟩⟩
    obtain rfl:k=i-1:=by omega
    rw[ht']at ha;rw[ht]at hb;cases ha;cases hb
    rw[T.toT_tm,T.toT_tm];omega
  ·exact aB (by omega) (by omega) ⟨i+1,⟨by omega,ok1 fun k a b hk _ _=>by omega⟩,by omega,⟨⟨rfl,rfl,rfl,rfl,trivial⟩,trivial,rfl,rfl⟩⟩
 ·obtain rfl : i = l.length := by omega
  refine cGv (dC _ _ _ _) ?_
  refine rGv (isI ?_) rfl
  exact⟨fun h=>hall.all (by omega) (by omega),fun h=>⟨by have:=h.pos;omega,by have:=h.max;omega⟩⟩
end
end Go.Vx
namespace Go.Vx
open Go.Proofs Classical
def dU(vs:List T):List B:=vs.zipIdx.map fun p=>⟨(p.2:Int),p.1⟩
theorem fI(vs:List T):(dU vs).length=vs.length:=by simp[dU]
theorem kF{vs:List T}{i:Nat}{x:T}(h:vs[i]? =some x):(dU vs)[i]? =some ⟨(i:Int),x⟩:=by simp[dU,h]
theorem gV(vs:List T)(i:Nat):(dU vs).take i=dU (vs.take i):=by
 refine List.ext_getElem? fun k=>?_
 simp only[dU,List.getElem?_take,List.getElem?_map,List.getElem?_zipIdx]
 split<;>simp
section
variable {μ:Mem}
theorem iG{size n most:Nat}(h1:1≤size)(h8:size≤8)(hm:most≤100000)(hn:n≤1000)(hm1:1≤most):
  Spec Tryz.prog 71 [.int .i64 size,.int .i64 n,.int .i64 most] μ fun r μ'=>qHm size n most r∧μ'=μ:=by
 refine Spec.forget (Spec.mk Tryz.func71 (by kernel_rfl) ?_)
 refine lIn (fun z:Nat×Nat=>z.1≤n∧z.2=size ^ z.1∧z.2≤8*most) (fun(i,k)=>⟨[(0,.val (.int .i64 size)),(1,.val (.int .i64 n)),(2,.val (.int .i64 most)),(7,.val (.int .i64 (k:Nat))),(8,.val (.int .i64 (i:Nat)))],[],0,μ,Mem.nil⟩) (fun z=>n-z.1)
  (0,1) ⟨Nat.zero_le _,rfl,by dsimp only;omega⟩ (fun(_,_)=>⟨rfl,rfl⟩) ⟨⟨rfl,rfl,rfl,rfl,rfl,trivial⟩,trivial,rfl,rfl⟩ ?_
 rintro⟨i,k⟩ ⟨hi,hk,hb⟩
 dsimp only at hi hk hb
 have mono:size ^ i≤size ^ n:=Nat.pow_le_pow_right h1 hi
 refine ifd (fun g1=>?_) (fun g1=>?_)
 ·refine ifd (fun g2 => ?_) (fun g2 => ?_)
  ·have hks:k*size≤8*most:=by
    have:=Nat.mul_le_mul (show k≤most by omega) h8
    omega
   refine nEq (x:=((k*size:Nat):Int)) (by rw[←Int.natCast_mul];exact aA (by omega) (by omega)) ?_
   exact aB (by omega) (by omega) ⟨(i+1,k*size),⟨by dsimp only;omega,by dsimp only;rw[hk,Nat.pow_succ],hks⟩,by dsimp only;omega,⟨⟨rfl,rfl,rfl,rfl,rfl,trivial⟩,trivial,rfl,rfl⟩⟩
  ·exact rPl ⟨k,rfl,fun h=>by omega,fun h=>by omega⟩
 ·obtain rfl : i = n := by omega
  exact rPl ⟨k,rfl,fun _=>hk,fun h=>by omega⟩
def eB(n:Nat):List Int:=(List.range n).map fun i:Nat=>(i:Int)
theorem kA(n:Nat):(eB n).length=n:=by simp[eB]
theorem vC{n i:Nat}(h:i<n):(eB n)[i]? =some (i:Int):=by simp[eB,h]
set_option maxHeartbeats 1000000 in
theorem fG{U:List T}{ub vb:Option Addr}{uc vc n w:Nat}(hu:Sl μ 4 ub U.length ((U.map T.tm).map Tm.d))(hU:0<U.length)(hU8:U.length≤8)(hv:Sl μ 1 vb n ((eB n).map D.i))(hn:n≤1000)(hw:w≤100000):
  Spec Tryz.prog 72 [.slice vb n vc,.slice ub U.length uc,.int .i64 w] μ fun v μ'=>RepV μ' (.sl 5 (((dU (cN U n w)).map B.bd).map Bd.d)) v:=by
 refine Spec.mk Tryz.func72 (by kernel_rfl) ?_
 intro r10
 refine lIn (fun z:Nat×Option Nat×Nat×List Value=>z.1≤n∧Rows μ 5 (((dU ((cN U n w).take z.1)).map B.bd).map Bd.d) z.2.2.2)
  (fun(i,b,c,ys)=>⟨[(1,.val (.slice ub U.length uc)),(2,.val (.int .i64 ((w / U.length ^ i:Nat):Int))),(7,.row 0 b ys.length c),(11,.val (.slice vb n vc)),(12,.val (.int .i64 n)),(13,.val (.int .i64 i))],[(0,some (.row b c 100 5 ys))],1,μ,Mem.nil⟩) (fun z=>n-z.1)
  (0,some r10,0,[]) ⟨Nat.zero_le _,.nil⟩ (fun(_,_,_,_)=>⟨rfl,rfl⟩) ⟨⟨rfl,by rw[Nat.pow_zero,Nat.div_one];rfl,rfl,rfl,rfl,rfl,trivial⟩,⟨rfl,trivial⟩,rfl,rfl⟩ ?_
 rintro⟨i,b,c,ys⟩ ⟨hi,hrows⟩
 dsimp only at hi hrows
 have hlen:=hrows.len
 simp only[List.length_map,fI,List.length_take,cV]at hlen
 have hdw:w / U.length ^ i≤w:=Nat.div_le_self _ _
 refine ifd (fun h=>?_) (fun h=>?_)
 ·have w_ := Ints.elem hv (vC (n := n) (i := i) (by omega))
  obtain⟨ad,hel⟩:=w_
  refine eIn hel ?_
  refine aE (by omega) ?_
  refine nEq (x:=((w / U.length ^ i % U.length:Nat):Int)) rfl ?_
  have w_:=sA hu hU (w / U.length ^ i)
  obtain⟨ad2,p,hel2,hr⟩:=w_
  refine eIn hel2 ?_
  intro r27
  refine gIn ?_ ?_ fun b' c' _=>?_
  ·show(ys.length+1)*64≤_;omega
  ·exact Nat.le_trans (m:=100000000) (show ys.length+1≤_ by omega) (by decide)
  refine aE (by omega) ?_
  refine nEq (x:=((w / U.length ^ (i+1):Nat):Int)) ?_ ?_
  ·have e : w / U.length ^ (i + 1) = w / U.length ^ i / U.length := by rw [Nat.pow_succ, Nat.div_div_eq_div_mul]
   rw[e]
   have hd2:w / U.length ^ i / U.length≤w / U.length ^ i:=Nat.div_le_self _ _
   show IntKind.i64.wrap ((w / U.length ^ i / U.length:Nat):Int)=_
   generalize w / U.length ^ i / U.length=m at hd2 ⊢
   exact aA (by omega) (by omega)
  refine aB (by omega) (by omega) ⟨(i+1,b',c',_),⟨by dsimp only;omega,?_⟩,by dsimp only;omega,⟨⟨rfl,rfl,rfl,rfl,rfl,rfl,trivial⟩,⟨rfl,trivial⟩,rfl,rfl⟩⟩
  dsimp only
  rw[←gV,List.take_add_one,kF (qW U i n w (by omega)),Option.toList_some,gV]
  simp only[List.map_append,List.map_cons,List.map_nil]
  exact hrows.append (Rows.one (RepV.bd hr) (Bd.d_n _))
 ·obtain rfl : i = n := by omega
  rw[List.take_of_length_le (by rw[cV];omega)]at hrows
  refine rFz [0] fun μ' hle' hno hrow=> .inl ?_
  exact Rows.sl hrow (hrows.mono hle') (Nat.le_trans (m:=100000000) (by omega) (by decide))
theorem eK{l:List F}{base:Option Addr}{cap:Nat}(hsl:Sl μ 2 base l.length ((l.map F.fc).map Fc.d))(hn:l.length≤10000000)(hl:∀f∈l,f.args.length≤1000000):
  Spec Tryz.prog 74 [.slice base l.length cap] μ fun v μ'=>RepV μ' (.sl 2 ((l.map F.fc).map Fc.d)) v:=by
 refine Spec.mkO [6] Tryz.func74 (by kernel_rfl) ?_
 intro r6 hm6 ho6
 refine lIn (fun p:Nat×Nat×Nat×Nat×List Value×Mem×Mem=>p.1≤l.length∧p.2.2.2.2.1.length=p.2.2.2.1∧RowO p.2.2.2.2.2.2 p.2.1 p.2.2.1 41 2 p.2.2.2.2.1∧Apart p.2.2.2.2.2.1 p.2.2.2.2.2.2∧μ.Le p.2.2.2.2.2.1∧Rows p.2.2.2.2.2.1 2 (((l.take p.1).map F.fc).map Fc.d) p.2.2.2.2.1)
  (fun(i,b,c,m,ys,μ',h)=>⟨[(3,.val (.slice (some ⟨b,0,none⟩) m c)),(7,.val (.slice base l.length cap)),(8,.val (.int .i64 l.length)),(9,.val (.int .i64 i))],[],0,μ',h⟩) (fun p=>l.length-p.1)
  (0,r6,0,0,[],μ,_) ⟨by simp,rfl,⟨[],Mem.set_at _ _ _,by simp,by simp,by simp,rfl,rfl⟩,(dY μ).set hm6,Mem.Le.refl _,.nil⟩ (fun(_,_,_,_,_,_,_)=>⟨rfl,rfl⟩) ⟨⟨rfl,rfl,rfl,rfl,trivial⟩,trivial,rfl,rfl⟩ ?_
 clear hm6 ho6
 rintro⟨i,b,c,m,ys,μ',h⟩ ⟨hi,hm,hb,hap,hle,hrows⟩
 dsimp only at hi hm hb hap hle hrows
 have hlen:=hrows.len
 simp only[List.length_map,List.length_take]at hlen
 refine ifd (fun hlt=>?_) (fun hlt=>?_)
 ·have w_ := aSo (l := l) (i := i) (by omega)
  obtain⟨f,hf⟩:=w_
  have w_:=F.elem (hsl.mono hle) hf
  obtain⟨ad,p,hel,hr,hs⟩:=w_
  refine eIn hel ?_
  intro r5
  have hfl:=hl f (mAt hf)
  refine cDa hap (dG hs (by omega)) fun v1 μ1 hle1 hap1 hR=>?_
  have w_:=Rep.sl hR
  obtain⟨b4,c4,rfl,_⟩:=w_
  rw[List.length_map,List.length_map]at hR ⊢
  intro r20
  refine fD ys hm hb ?_ ?_ fun b' c' o hrow hor=>?_
  ·show(m+1)*40≤_;omega
  ·exact Nat.le_trans (m:=100000000) (show m+1≤_ by omega) (by decide)
  refine aB (by omega) (by omega) ⟨(i+1,b',c',m+1,_,μ1,_),⟨by dsimp only;omega,by dsimp only;rw[List.length_append,hm];rfl,hrow,hap1.set (mO hb hap1 hor),hle.trans hle1,?_⟩,by dsimp only;omega,⟨⟨rfl,rfl,rfl,rfl,trivial⟩,trivial,rfl,rfl⟩⟩
  dsimp only
  rw[List.take_add_one,hf,Option.toList_some]
  simp only[List.map_append,List.map_cons,List.map_nil]
  exact(hrows.mono hle1).append (Rows.one (F.mkV hR) (Fc.d_n _))
 ·obtain rfl : i = l.length := by omega
  rw[List.take_length]at hrows
  refine eO _ Mem.nil (Parts.nil_right _) ?_
  obtain⟨cs,hcell,hlen0,hcap,hone,hcs,htake⟩:=hb
  have hb2:μ' b=none:=by
   cases e:μ' b with
   |none=>rfl
   |some o=>have:=hap b (by simp[e]);rw[hcell]at this;cases this
  have hrow:RowAt (μ'.join h) (some b) c 2 ys:=⟨hlen0,hone,_,_,by rw[Mem.join_get,hb2];exact hcell,by simpa using hcs,by simpa using htake⟩
  subst hm
  exact Rows.sl hrow (hrows.mono (Mem.le_join _ _)) (Nat.le_trans (m:=100000000) (by omega) (by decide))
end
end Go.Vx
namespace Go.Vx
open Go.Proofs Classical
theorem cC(L:List F)(f:F):(aX L f).length≤L.length+1:=fT _
theorem jV{L:List F}{f:F}(hL:Asc3 bC L)(h:f∈L):aX L f=L:=(hL.uniq cmpF_ord (fX L f) fun x=>by
 rw[mem_insF]
 exact⟨.inr,fun k=>k.elim (fun e=>e ▸ h) id⟩).symm
theorem gE{L:List F}{f:F}{k:Nat}(hL:Asc3 bC L)(h1:∀x∈L.take k,bC x f<0)(h2:∀x∈L.drop k,bC f x<0):L.take k++f::L.drop k=aX L f:=by
 refine Asc3.uniq cmpF_ord ?_ (fX L f) fun x=>?_
 ·have := hL.ins cmpF_ord h1 h2
  simpa[tC]using this
 ·rw [mem_insF, List.mem_append, List.mem_cons]
  have:x∈L↔x∈L.take k∨x∈L.drop k:=by rw[←List.mem_append,List.take_append_drop]
  rw[this]
  constructor
  ·rintro (h | h | h)
   ·exact .inr (.inl h)
   ·exact .inl h
   ·exact .inr (.inr h)
  ·rintro (h | h | h)
   ·exact .inr (.inl h)
   ·exact .inl h
   ·exact .inr (.inr h)
section
variable {rs:List Ru} {S out:List F}
end
section
variable {rs:List Ru} {base out:List F}
end
theorem kV{rs:List Ru}{S S':List F}(h:∀f,f∈S↔f∈S'):aY rs S=aY rs S':=by
 rw[aY,aY]
 refine List.filter_congr fun r _=>?_
 exact decide_eq_decide.2 ⟨fun k f hf hx=>k f hf ((h f).2 hx),fun k f hf hx=>k f hf ((h f).1 hx)⟩
theorem fN(rs:List Ru)(S:List F):(aY rs S).length≤rs.length:=List.length_filter_le _ _
theorem qG{rs:List Ru}{S:List F}{i:Nat}{r:Ru}(h:rs[i]? =some r):aY (rs.take (i+1)) S=aY (rs.take i) S++(if ∀f∈r.neg,f∉S then [r]else []):=by
 rw[aY,List.take_add_one,h,Option.toList_some,List.filter_append,←aY]
 congr 1
 by_cases k:∀f∈r.neg,f∉S
 ·rw[if_pos k,List.filter_cons_of_pos (by simpa using k)];rfl
 ·rw[if_neg k,List.filter_cons_of_neg (by simpa using k)];rfl
noncomputable def gam(rs:List Ru)(S:List F):List F:=lfp (aY rs S) []
theorem iD(rs:List Ru)(S:List F):(gam rs S).length≤rs.length:=by
 have:=sI (aY rs S) []
 have h2:=fN rs S
 simp only[List.length_nil]at this
 rw[gam];omega
theorem iC(rs:List Ru)(S:List F):Asc3 bC (gam rs S):=kU _ _
theorem fW{rs:List Ru}{S S':List F}(h:∀f∈S,f∈S'){f:F}(hf:f∈gam rs S'):f∈gam rs S:=by
 rw[gam,mem_lfp]at hf ⊢
 induction hf with
 |base k=>cases k
 |rule k _ ih=>
  rw[mem_unlessR]at k
  exact .rule (mem_unlessR.2 ⟨k.1,fun x hx hS=>k.2 x hx (h x hS)⟩) ih
noncomputable def iZ(rs:List Ru)(S:List F):List F:=gam rs (gam rs S)
noncomputable def aQ(rs:List Ru):Nat→List F
 |0=>[]
 |n+1=>iZ rs (aQ rs n)
theorem dE(rs:List Ru):∀n,Asc3 bC (aQ rs n)
 |0=>List.Pairwise.nil
 |_+1=>iC _ _
theorem gW(rs:List Ru):∀n,∀f∈aQ rs n,f∈aQ rs (n+1)
 |0,_,h=>nomatch h
 |n+1,_,h=>fW (fun _ k=>fW (gW rs n) k) h
theorem rV(rs:List Ru):∀n,(aQ rs n).length≤rs.length
 |0=>Nat.zero_le _
 |_+1=>iD _ _
theorem kQ{rs:List Ru}{n:Nat}(h:iZ rs (aQ rs n)=aQ rs n):∀k,aQ rs (n+k)=aQ rs n
 |0=>rfl
 |k+1=>by rw[←Nat.add_assoc,aQ,kQ h k,h]
theorem wR{rs:List Ru}{n m:Nat}(h:iZ rs (aQ rs n)=aQ rs n)(k:iZ rs (aQ rs m)=aQ rs m):aQ rs n=aQ rs m:=by
 rcases Nat.le_total n m with e|e
 ·have := kQ h (m - n)
  rw[show n+(m-n)=m by omega]at this
  exact this.symm
 ·have := kQ k (n - m)
  rwa [show m+(n-m)=n by omega]at this
noncomputable def wfT(rs:List Ru):List F:=if h:∃n,iZ rs (aQ rs n)=aQ rs n then aQ rs h.choose else []
theorem qBi{rs:List Ru}{n:Nat}(h:iZ rs (aQ rs n)=aQ rs n):aQ rs n=wfT rs:=by
 have k:∃n,iZ rs (aQ rs n)=aQ rs n:=⟨n,h⟩
 rw[wfT,dif_pos k]
 exact wR h k.choose_spec
noncomputable def wfO(rs:List Ru):List F:=(gam rs (wfT rs)).filter fun f=>decide (f∉wfT rs)
section
variable {rs:List Ru} {model B out:List F}
end
end Go.Vx
namespace Go.Vx
open Go.Proofs Classical
section
variable {μ:Mem}
theorem dP{L:List F}{f:F}{v w:Value}(hL:Asc3 bC L)(h:FsV μ L v)(hf:RepV μ f.fc.d w)(hn:L.length≤10000000):
  Spec Tryz.prog 73 [v,w] μ fun r μ'=>FsV μ' (aX L f) r:=by
 have w_:=FsV.sl h
 obtain⟨b,c,rfl,hlc,hs⟩:=w_
 have hf0:=hf
 have w_:=F.inv hf
 obtain⟨p,rfl,hfs⟩:=w_
 have w_:=Rep.src h
 obtain⟨vs,hrows,hvs,hcap,hsrc⟩:=w_
 refine Spec.mk Tryz.func73 (by kernel_rfl) ?_
 intro r3
 refine lIn (fun k:Nat=>k≤L.length∧∀x∈L.drop k,¬bC x f<0)
  (fun k=>⟨[(0,.val (.slice b L.length c)),(3,.loc 0 r3 0),(5,.val (.int .i64 k))],[(0,some (.cells r3 [.val (.string f.rel),.val (.slice p.1 f.args.length p.2)] 41))],1,μ,Mem.nil⟩) (fun k=>k)
  L.length ⟨Nat.le_refl _,by simp⟩ (fun _=>⟨rfl,rfl⟩) ⟨⟨rfl,rfl,rfl,trivial⟩,⟨rfl,trivial⟩,rfl,rfl⟩ ?_
 rintro k ⟨hk,hge⟩
 refine ifd (fun h0=>?_) (fun h0=>?_)
 ·obtain ⟨k, rfl⟩ : ∃ k', k = k' + 1 := ⟨k - 1, by omega⟩
  have w_:=aSo (l:=L) (i:=k) (by omega)
  obtain⟨y,hy⟩:=w_
  have w_:=F.elem hs hy
  obtain⟨ad3,p3,hel3,hry,hsy⟩:=w_
  refine nEq (x:=(k:Int)) (by rw[aA (by omega) (by omega)];omega) ?_
  refine eIn hel3 ?_
  refine cGv (cJ hry hf0) ?_
  refine ifd (fun hc=>?_) (fun hc=>?_)
  ·refine nEq (x := (k : Int)) (by rw [aA (by omega) (by omega)]; omega) ⟨k, ⟨by omega, fun x hx => ?_⟩, by omega, ⟨⟨rfl, rfl, rfl, trivial⟩, ⟨rfl, trivial⟩, rfl, rfl⟩⟩
   rw[bJ hy]at hx
   rcases List.mem_cons.1 hx with rfl|hx
   ·omega
   ·exact hge x hx
  ·have hlt3 := hL.take_lt cmpF_ord hy (e := f) (by omega)
   generalize k+1=k at*
   refine ifd (fun hkl=>?_) (fun hkl=>?_)
   ·have w_ := aSo (l := L) (i := k) (by omega)
    obtain⟨y2,hy2⟩:=w_
    have w_:=F.elem hs hy2
    obtain⟨ad4,p4,hel4,hry2,hsy2⟩:=w_
    refine eIn hel4 ?_
    refine cGv (cJ hry2 hf0) ?_
    refine ifd (fun hc2=>?_) (fun hc2=>?_)
    ·have : f ∈ L := by rw [← (cmpF_ord.zero _ _).1 hc2]; exact mAt hy2
     rw[jV hL this]
     exact rPl h
    ·have hgt3 : ∀ x ∈ L.drop k, bC f x < 0 := hL.drop_gt cmpF_ord hy2 (cmpF_ord.ge_pos (hge y2 (by rw [bJ hy2]; simp)) hc2)
     intro r70
     refine aF 0 k rfl rfl (by omega) (by omega) ?_
     refine aG _ (hsrc 0 k (by omega) hk) ?_
     refine gIn ?_ ?_ fun b1 c1 _=>?_
     ·show(0+_)*40≤_;simp;omega
     ·exact Nat.le_trans (m:=2000000000) (by simp;omega) (by decide)
     intro r77
     refine gIn ?_ ?_ fun b2 c2 _=>?_
     ·show(_+1)*40≤_;simp;omega
     ·exact Nat.le_trans (m:=2000000000) (by simp;omega) (by decide)
     refine aF k L.length rfl rfl hk (by omega) ?_
     refine aG _ (hsrc k L.length hk (Nat.le_refl _)) ?_
     refine gIn ?_ ?_ fun b3 c3 _=>?_
     ·show(_+_)*40≤_;simp;omega
     ·exact Nat.le_trans (m:=3000000000) (by simp;omega) (by decide)
     have hr2:=(hrows.take k).append ((Rows.one hf0 (Fc.d_n _)).append (hrows.drop k))
     have ev:(([]:List Value)++(vs.drop 0).take (k-0)++[.agg #[.string f.rel,.slice p.1 f.args.length p.2]]++(vs.drop k).take (L.length-k))=vs.take k++([.agg #[.string f.rel,.slice p.1 f.args.length p.2]]++vs.drop k):=by
      simp
      rw[List.take_of_length_le (by simp;omega)]
     have hins:=gE hL hlt3 hgt3
     have e2:((aX L f).map F.fc).map Fc.d=((L.map F.fc).map Fc.d).take k++([f.fc.d]++((L.map F.fc).map Fc.d).drop k):=by rw[←hins];simp
     have e3:(vs.take k++([Value.agg #[.string f.rel,.slice p.1 f.args.length p.2]]++vs.drop k)).length=(aX L f).length:=by rw[←hins];simp;omega
     refine rFz [1] fun μ2 hle2 hno2 hrow2=> .inl ?_
     rw[ev]at hrow2
     have e4:(aX L f).length≤L.length+1:=cC L f
     have:=Rows.sl hrow2 (hr2.mono hle2) (Nat.le_trans (m:=3000000000) (by rw[e3];omega) (by decide))
     rw[←e2]at this
     rw[ev]
     exact this
   ·have hgt3:∀x∈L.drop k,bC f x<0:=by
     rw[List.drop_of_length_le (by omega)];simp
    intro r70
    refine aF 0 k rfl rfl (by omega) (by omega) ?_
    refine aG _ (hsrc 0 k (by omega) hk) ?_
    refine gIn ?_ ?_ fun b1 c1 _=>?_
    ·show(0+_)*40≤_;simp;omega
    ·exact Nat.le_trans (m:=2000000000) (by simp;omega) (by decide)
    intro r77
    refine gIn ?_ ?_ fun b2 c2 _=>?_
    ·show(_+1)*40≤_;simp;omega
    ·exact Nat.le_trans (m:=2000000000) (by simp;omega) (by decide)
    refine aF k L.length rfl rfl hk (by omega) ?_
    refine aG _ (hsrc k L.length hk (Nat.le_refl _)) ?_
    refine gIn ?_ ?_ fun b3 c3 _=>?_
    ·show(_+_)*40≤_;simp;omega
    ·exact Nat.le_trans (m:=3000000000) (by simp;omega) (by decide)
    have hr2:=(hrows.take k).append ((Rows.one hf0 (Fc.d_n _)).append (hrows.drop k))
    have ev:(([]:List Value)++(vs.drop 0).take (k-0)++[.agg #[.string f.rel,.slice p.1 f.args.length p.2]]++(vs.drop k).take (L.length-k))=vs.take k++([.agg #[.string f.rel,.slice p.1 f.args.length p.2]]++vs.drop k):=by
     simp
     rw[List.take_of_length_le (by simp;omega)]
    have hins:=gE hL hlt3 hgt3
    have e2:((aX L f).map F.fc).map Fc.d=((L.map F.fc).map Fc.d).take k++([f.fc.d]++((L.map F.fc).map Fc.d).drop k):=by rw[←hins];simp
    have e3:(vs.take k++([Value.agg #[.string f.rel,.slice p.1 f.args.length p.2]]++vs.drop k)).length=(aX L f).length:=by rw[←hins];simp;omega
    refine rFz [1] fun μ2 hle2 hno2 hrow2=> .inl ?_
    rw[ev]at hrow2
    have e4:(aX L f).length≤L.length+1:=cC L f
    have:=Rows.sl hrow2 (hr2.mono hle2) (Nat.le_trans (m:=3000000000) (by rw[e3];omega) (by decide))
    rw[←e2]at this
    rw[ev]
    exact this
 ·have hk0 : k = 0 := by omega
  have hlt3:∀x∈L.take k,bC x f<0:=by rw[hk0];simp
  refine ifd (fun hkl=>?_) (fun hkl=>?_)
  ·have w_ := aSo (l := L) (i := k) (by omega)
   obtain⟨y2,hy2⟩:=w_
   have w_:=F.elem hs hy2
   obtain⟨ad4,p4,hel4,hry2,hsy2⟩:=w_
   refine eIn hel4 ?_
   refine cGv (cJ hry2 hf0) ?_
   refine ifd (fun hc2=>?_) (fun hc2=>?_)
   ·have : f ∈ L := by rw [← (cmpF_ord.zero _ _).1 hc2]; exact mAt hy2
    rw[jV hL this]
    exact rPl h
   ·have hgt3 : ∀ x ∈ L.drop k, bC f x < 0 := hL.drop_gt cmpF_ord hy2 (cmpF_ord.ge_pos (hge y2 (by rw [bJ hy2]; simp)) hc2)
    intro r70
    refine aF 0 k rfl rfl (by omega) (by omega) ?_
    refine aG _ (hsrc 0 k (by omega) hk) ?_
    refine gIn ?_ ?_ fun b1 c1 _=>?_
    ·show(0+_)*40≤_;simp;omega
    ·exact Nat.le_trans (m:=2000000000) (by simp;omega) (by decide)
    intro r77
    refine gIn ?_ ?_ fun b2 c2 _=>?_
    ·show(_+1)*40≤_;simp;omega
    ·exact Nat.le_trans (m:=2000000000) (by simp;omega) (by decide)
    refine aF k L.length rfl rfl hk (by omega) ?_
    refine aG _ (hsrc k L.length hk (Nat.le_refl _)) ?_
    refine gIn ?_ ?_ fun b3 c3 _=>?_
    ·show(_+_)*40≤_;simp;omega
    ·exact Nat.le_trans (m:=3000000000) (by simp;omega) (by decide)
    have hr2:=(hrows.take k).append ((Rows.one hf0 (Fc.d_n _)).append (hrows.drop k))
    have ev:(([]:List Value)++(vs.drop 0).take (k-0)++[.agg #[.string f.rel,.slice p.1 f.args.length p.2]]++(vs.drop k).take (L.length-k))=vs.take k++([.agg #[.string f.rel,.slice p.1 f.args.length p.2]]++vs.drop k):=by
     simp
     rw[List.take_of_length_le (by simp;omega)]
    have hins:=gE hL hlt3 hgt3
    have e2:((aX L f).map F.fc).map Fc.d=((L.map F.fc).map Fc.d).take k++([f.fc.d]++((L.map F.fc).map Fc.d).drop k):=by rw[←hins];simp
    have e3:(vs.take k++([Value.agg #[.string f.rel,.slice p.1 f.args.length p.2]]++vs.drop k)).length=(aX L f).length:=by rw[←hins];simp;omega
    refine rFz [1] fun μ2 hle2 hno2 hrow2=> .inl ?_
    rw[ev]at hrow2
    have e4:(aX L f).length≤L.length+1:=cC L f
    have:=Rows.sl hrow2 (hr2.mono hle2) (Nat.le_trans (m:=3000000000) (by rw[e3];omega) (by decide))
    rw[←e2]at this
    rw[ev]
    exact this
  ·have hgt3:∀x∈L.drop k,bC f x<0:=by
    rw[List.drop_of_length_le (by omega)];simp
   intro r70
   refine aF 0 k rfl rfl (by omega) (by omega) ?_
   refine aG _ (hsrc 0 k (by omega) hk) ?_
   refine gIn ?_ ?_ fun b1 c1 _=>?_
   ·show(0+_)*40≤_;simp;omega
   ·exact Nat.le_trans (m:=2000000000) (by simp;omega) (by decide)
   intro r77
   refine gIn ?_ ?_ fun b2 c2 _=>?_
   ·show(_+1)*40≤_;simp;omega
   ·exact Nat.le_trans (m:=2000000000) (by simp;omega) (by decide)
   refine aF k L.length rfl rfl hk (by omega) ?_
   refine aG _ (hsrc k L.length hk (Nat.le_refl _)) ?_
   refine gIn ?_ ?_ fun b3 c3 _=>?_
   ·show(_+_)*40≤_;simp;omega
   ·exact Nat.le_trans (m:=3000000000) (by simp;omega) (by decide)
   have hr2:=(hrows.take k).append ((Rows.one hf0 (Fc.d_n _)).append (hrows.drop k))
   have ev:(([]:List Value)++(vs.drop 0).take (k-0)++[.agg #[.string f.rel,.slice p.1 f.args.length p.2]]++(vs.drop k).take (L.length-k))=vs.take k++([.agg #[.string f.rel,.slice p.1 f.args.length p.2]]++vs.drop k):=by
    simp
    rw[List.take_of_length_le (by simp;omega)]
   have hins:=gE hL hlt3 hgt3
   have e2:((aX L f).map F.fc).map Fc.d=((L.map F.fc).map Fc.d).take k++([f.fc.d]++((L.map F.fc).map Fc.d).drop k):=by rw[←hins];simp
   have e3:(vs.take k++([Value.agg #[.string f.rel,.slice p.1 f.args.length p.2]]++vs.drop k)).length=(aX L f).length:=by rw[←hins];simp;omega
   refine rFz [1] fun μ2 hle2 hno2 hrow2=> .inl ?_
   rw[ev]at hrow2
   have e4:(aX L f).length≤L.length+1:=cC L f
   have:=Rows.sl hrow2 (hr2.mono hle2) (Nat.le_trans (m:=3000000000) (by rw[e3];omega) (by decide))
   rw[←e2]at this
   rw[ev]
   exact this
theorem eR{α:Type}{l:List α}{i:Nat}{x:α}{P:α→Prop}(h:∀y∈l.take i,P y)(hx:l[i]? =some x)(hp:P x):∀y∈l.take (i+1),P y:=by
 rw[List.take_add_one,hx,Option.toList_some]
 intro y hy
 rcases List.mem_append.1 hy with k|k
 ·exact h y k
 ·rw[List.mem_singleton.1 k];exact hp
end
end Go.Vx
namespace Go.Vx
open Go.Proofs Classical
section
variable {μ:Mem}
end
section
variable {μ:Mem}
set_option maxHeartbeats 1000000 in
theorem nY{rs:List Ru}{S:List F}{b b3:Option Addr}{c c3:Nat}(hr:Sl μ 6 b3 rs.length ((rs.map Ru.rd).map RuD.d))(hn:rs.length≤10000000)(hS:Asc3 bC S)(hSn:S.length≤1000000000)(hs:Sl μ 2 b S.length ((S.map F.fc).map Fc.d)):
  Spec Tryz.prog 83 [.slice b3 rs.length c3,.slice b S.length c] μ fun r μ'=>RsV μ' (aY rs S) r:=by
 refine Spec.mk Tryz.func83 (by kernel_rfl) ?_
 intro r13
 refine lIn (fun z:Nat×Option Nat×Nat×List Value=>z.1≤rs.length∧Rows μ 6 (((aY (rs.take z.1) S).map Ru.rd).map RuD.d) z.2.2.2)
  (fun(i,bo,co,ys)=>⟨[(1,.val (.slice b S.length c)),(5,.row 0 bo ys.length co),(12,.val (.slice b3 rs.length c3)),(13,.val (.int .i64 rs.length)),(14,.val (.int .i64 i))],[(0,some (.row bo co 106 6 ys))],1,μ,Mem.nil⟩) (fun z=>rs.length-z.1)
  (0,some r13,0,[]) ⟨Nat.zero_le _,by simpa[aY]using .nil⟩ (fun(_,_,_,_)=>⟨rfl,rfl⟩) ⟨⟨rfl,rfl,rfl,rfl,rfl,trivial⟩,⟨rfl,trivial⟩,rfl,rfl⟩ ?_
 rintro⟨i,bo,co,ys⟩ ⟨hi,hrows⟩
 dsimp only at hi hrows
 have hyl:=hrows.len
 simp only[List.length_map]at hyl
 have hhl:=fN (rs.take i) S
 rw[List.length_take]at hhl
 refine ifd (fun hlt=>?_) (fun hlt=>?_)
 rotate_left
 ·obtain rfl : i = rs.length := by omega
  rw[List.take_length]at hrows
  refine rFz [0] fun μ2 hle2 hno2 hrow2=> .inl ?_
  exact Rows.sl hrow2 (hrows.mono hle2) (Nat.le_trans (m:=100000000) (by omega) (by decide))
 have w_:=aSo (l:=rs) (i:=i) (by omega)
 obtain⟨r,hri⟩:=w_
 have w_:=Ru.elem hr hri
 obtain⟨ad,p,hel,hrv,hat⟩:=w_
 have hsucc:=qG (S:=S) hri
 refine eIn hel ?_
 intro r7
 have hmn:=aH hat.neg.max
 refine lIn (fun z:Nat×Bool=>z.1≤r.neg.length∧(z.2=true↔∀f∈r.neg.take z.1,f∉S))
  (fun (j, fine) => ⟨[(1, .val (.slice b S.length c)), (5, .row 0 bo ys.length co), (7, .loc 1 r7 0), (8, .val (.bool fine)), (12, .val (.slice b3 rs.length c3)), (13, .val (.int .i64 rs.length)), (14, .val (.int .i64 i)), (19, .val (.slice p.2.2.2.1 r.neg.length p.2.2.2.2)), (20, .val (.int .i64 r.neg.length)), (21, .val (.int .i64 j))],
   [(0,some (.row bo co 106 6 ys)),(1,some (.cells r7 (vals (r.cs p)) 106))],2,μ,Mem.nil⟩) (fun z=>r.neg.length-z.1)
  (0,true) ⟨Nat.zero_le _,by simp⟩ (fun(_,_)=>⟨rfl,rfl⟩) ⟨⟨rfl,rfl,rfl,rfl,rfl,rfl,rfl,rfl,rfl,rfl,trivial⟩,⟨rfl,rfl,trivial⟩,rfl,rfl⟩ ?_
 rintro⟨j,fine⟩ ⟨hj,hfine⟩
 dsimp only at hj hfine
 refine ifd (fun hlt2=>?_) (fun hlt2=>?_)
 ·have w_ := aSo (l := r.neg) (i := j) (by omega)
  obtain⟨f,hf⟩:=w_
  have w_:=F.elem hat.neg hf
  obtain⟨ad2,p2,hel2,hrf,_⟩:=w_
  have hstep:=jM (P:=fun f=>f∉S) hf
  refine eIn hel2 ?_
  intro r10
  refine iIn (fun hk=>?_) (fun hk=>?_)
  ·refine cGv (bM hS hSn hs hrf) ?_
   refine aB (by omega) (by omega) ⟨(j+1,!decide (f∈S)),⟨by dsimp only;omega,?_⟩,by dsimp only;omega,⟨⟨rfl,rfl,rfl,rfl,rfl,rfl,rfl,rfl,rfl,rfl,trivial⟩,⟨rfl,rfl,trivial⟩,rfl,rfl⟩⟩
   dsimp only
   rw[hstep,←hfine,Bool.not_eq_true',decide_eq_false_iff_not]
   exact⟨fun h=>⟨hk,h⟩,fun h=>h.2⟩
  ·refine aB (by omega) (by omega) ⟨(j + 1, false), ⟨by dsimp only; omega, ?_⟩, by dsimp only; omega, ⟨⟨rfl, rfl, rfl, rfl, rfl, rfl, rfl, rfl, rfl, rfl, trivial⟩, ⟨rfl, rfl, trivial⟩, rfl, rfl⟩⟩
   dsimp only
   rw[hstep,←hfine,hk]
   simp
 obtain rfl:j=r.neg.length:=by omega
 rw[List.take_length]at hfine
 refine iIn (fun hk=>?_) (fun hk=>?_)
 ·rw [if_pos (hfine.1 hk)] at hsucc
  intro r53
  refine gIn ?_ ?_ fun b' c' _=>?_
  ·show(ys.length+1)*120≤_;omega
  ·exact Nat.le_trans (m:=100000000) (show ys.length+1≤_ by omega) (by decide)
  refine aB (by omega) (by omega) ⟨(i+1,b',c',_),⟨by dsimp only;omega,?_⟩,by dsimp only;omega,⟨⟨rfl,rfl,rfl,rfl,rfl,trivial⟩,⟨rfl,trivial⟩,rfl,rfl⟩⟩
  dsimp only
  rw[hsucc]
  simp only[List.map_append,List.map_cons,List.map_nil]
  exact hrows.append (Rows.one hrv (RuD.d_n _))
 ·rw [if_neg (fun k => by rw [hfine.2 k] at hk; cases hk), List.append_nil] at hsucc
  refine aB (by omega) (by omega) ⟨(i+1,bo,co,ys),⟨by dsimp only;omega,?_⟩,by dsimp only;omega,⟨⟨rfl,rfl,rfl,rfl,rfl,trivial⟩,⟨rfl,trivial⟩,rfl,rfl⟩⟩
  dsimp only
  rw[hsucc];exact hrows
theorem gS{rs:List Ru}{S:List F}{b b3:Option Addr}{c c3:Nat}(hr:Sl μ 6 b3 rs.length ((rs.map Ru.rd).map RuD.d))(hn:rs.length≤3000000)(hS:Asc3 bC S)(hSn:S.length≤1000000000)(hs:Sl μ 2 b S.length ((S.map F.fc).map Fc.d)):
  Spec Tryz.prog 66 [.slice b3 rs.length c3,.slice b S.length c] μ fun r μ'=>FsV μ' (gam rs S) r:=by
 refine Spec.mk Tryz.func66 (by kernel_rfl) ?_
 refine cPl (nY hr (by omega) hS hSn hs) fun v1 μ1 hle1 hR1=>?_
 have w_:=RsV.sl hR1
 obtain⟨b1,c1,rfl,hs1⟩:=w_
 have:=fN rs S
 refine cPl (oM hs1 (by omega) (FsV.nil none 0) (Nat.zero_le _)) fun v2 μ2 hle2 hR2=>?_
 exact rPl hR2
end
end Go.Vx
namespace Go.Vx
open Go.Proofs Classical
theorem lL{p:Pg}{rs:List Ru}{S:List F}(hr:∀r∈rs,RuOk p r):FsOk p (gam rs S):=tX (fun r h=>hr r (mem_unlessR.1 h).1) (fun _ h=>nomatch h)
noncomputable def bZ(p:Pg)(u:List Tm)(l:List Fc):Option (List F):=(aJ p u).bind fun rs=>if ∀f∈l,FactFits p f then some (gam rs (l.map Fc.f))else none
theorem uD{p:Pg}{u:List Tm}{l:List Fc}{y:List F}(h:bZ p u l=some y):p.Ok∧FsOk p y∧y.length≤2000∧∀f∈l,FactFits p f:=by
 rw[bZ]at h
 cases hg:aJ p u with
 |none=>rw[hg]at h;cases h
 |some rs=>
  rw[hg,Option.bind_some]at h
  have w_:=bI hg
  obtain⟨h1,h2⟩:=w_
  split at h
  ·rename_i hf
   cases h
   exact⟨(bB hg).1,lL h2,Nat.le_trans (iD _ _) h1,hf⟩
  ·cases h
section
variable {μ:Mem}
theorem eW{p:Pg}{u:List Tm}{v:Value}{ub:Option Addr}{uc:Nat}(hp:RepV μ p.d v)(hu:Sl μ 4 ub u.length (u.map Tm.d)):
  Spec Tryz.prog 65 [v,.slice ub u.length uc] μ fun v μ'=>xJ (fun y tv=>RsV μ' y tv) (aJ p u) v:=by
 have hp0:=hp
 have w_:=Pg.inv hp
 obtain⟨q,rfl,hrl⟩:=w_
 refine Spec.mk Tryz.func65 (by kernel_rfl) ?_
 intro r2
 refine cPl (bX hp0) fun v1 μ1 hle1 hR=>?_
 obtain rfl:=hR
 refine aK (fun h=>rPl (by rw[aJ,if_neg fun k=>h k.1];rfl)) (fun hok=>?_)
 refine cGv (cA (hu.mono hle1)) ?_
 refine aK (fun h=>rPl (by rw[aJ,if_neg fun k=>h k.2];rfl)) (fun huok=>?_)
 have w_:=huok.lift
 obtain⟨U,rfl,hUg,hUl⟩:=w_
 have hgo:aJ p (U.map T.tm)=bK p U:=by rw[aJ,if_pos ⟨hok,huok⟩,bW]
 rw[hgo]
 have h1:=huok.pos
 have h8:=huok.max
 rw[List.length_map]at h1 h8 hu ⊢
 refine cPl (dM (hp0.mono hle1) hok (hu.mono hle1) h1 h8) fun v2 μ2 hle2 hR=>?_
 cases hL:bK p U with
 |none=>
  rw[hL]at hR
  obtain rfl:=hR
  exact rPl rfl
 |some y=>
  rw[hL]at hR
  obtain⟨tv,rfl,hR⟩:=hR
  exact rPl ⟨tv,rfl,hR⟩
theorem cM{p:Pg}{u:List Tm}{l:List Fc}{v:Value}{ub fb:Option Addr}{uc fc:Nat}(hp:RepV μ p.d v)(hu:Sl μ 4 ub u.length (u.map Tm.d))(hb:RepV μ (.sl 2 (l.map Fc.d)) (.slice fb l.length fc))(hn:l.length≤2000000):
  Spec Tryz.prog 19 [v,.slice ub u.length uc,.slice fb l.length fc] μ fun v μ'=>vA (fun y tv=>Fresh μ μ' (.sl 2 ((y.map F.fc).map Fc.d)) tv) (bZ p u l) v:=by
 have hp0:=hp
 have w_:=Pg.inv hp
 obtain⟨q,rfl,hrl⟩:=w_
 have hb0:=hb
 have hbs:=pC hb
 refine Spec.mk Tryz.func19 (by kernel_rfl) ?_
 intro r3
 refine cPl (eW hp0 hu) fun v1 μ1 hle1 hR=>?_
 cases hL:aJ p u with
 |none=>
  rw[hL]at hR
  obtain rfl:=hR
  exact iIn (fun _=>rPl (by rw[bZ,hL];rfl)) (fun h=>nomatch h)
 |some rs=>
 rw[hL]at hR
 obtain⟨tv,rfl,hR⟩:=hR
 have w_:=RsV.sl hR
 obtain⟨b1,c1,rfl,hrs⟩:=w_
 have w_:=bI hL
 obtain⟨hrl2,hro⟩:=w_
 have hpo:=(bB hL).1
 refine iIn (fun h=>nomatch h) (fun _=>?_)
 refine lIn (fun i:Nat=>i≤l.length∧∀f∈l.take i,FactFits p f)
  (fun i=>⟨[(2,.val (.slice fb l.length fc)),(3,.loc 0 r3 0),(8,.val (.slice b1 rs.length c1)),(20,.val (.slice fb l.length fc)),(21,.val (.int .i64 l.length)),(22,.val (.int .i64 i))],[(0,some (.cells r3 [.val (.slice q.1 p.rels.length q.2)] 25))],1,μ1,Mem.nil⟩) (fun i=>l.length-i)
  0 ⟨Nat.zero_le _,by simp⟩ (fun _=>⟨rfl,rfl⟩) ⟨⟨rfl,rfl,rfl,rfl,rfl,rfl,trivial⟩,⟨rfl,trivial⟩,rfl,rfl⟩ ?_
 rintro i ⟨hi,hall⟩
 refine ifd (fun hlt=>?_) (fun hlt=>?_)
 ·have w_ := aSo (l := l) (i := i) (by omega)
  obtain⟨f,hf⟩:=w_
  have w_:=Fc.elemA (hbs.mono hle1) hf
  obtain⟨ad,q2,hel,hrf,_⟩:=w_
  refine eIn hel ?_
  intro r11
  refine cGv (gB (hp0.mono hle1) hrf) ?_
  refine aK (fun h=>rPl (by rw[bZ,hL,Option.bind_some,if_neg fun k=>h (k f (mAt hf))];rfl)) (fun h=>?_)
  exact aB (by omega) (by omega) ⟨i+1,⟨by omega,eR hall hf h⟩,by omega,⟨⟨rfl,rfl,rfl,rfl,rfl,rfl,trivial⟩,⟨rfl,trivial⟩,rfl,rfl⟩⟩
 obtain rfl:i=l.length:=by omega
 rw[List.take_length]at hall
 have hlift:=cE hall
 have hb1:FsV μ1 (l.map Fc.f) (.slice fb l.length fc):=by
  show RepV μ1 (.sl 2 (((l.map Fc.f).map F.fc).map Fc.d)) _
  rw[hlift];exact RepV.mono hle1 hb0
 refine cPl (bE hb1 (by rw[List.length_map];omega)) fun v2 μ2 hle2 hR2=>?_
 have w_:=FsV.sl hR2
 obtain⟨b2,c2,rfl,-,hs2⟩:=w_
 have hsl:=fT (l.map Fc.f)
 rw[List.length_map]at hsl
 refine cPl (gS (hrs.mono hle2) (by omega) (cU _) (by omega) hs2) fun v3 μ3 hle3 hR3=>?_
 have e:gam rs (dA (l.map Fc.f))=gam rs (l.map Fc.f):=by rw[gam,gam,kV fun f=>mem_ascF]
 rw[e]at hR3
 have hgl:=iD rs (l.map Fc.f)
 have hgo:=(lL (S:=l.map Fc.f) hro).len hpo
 refine cPl (bD hR3 (by omega) fun f hf=>Nat.le_trans (hgo f hf) (by decide)) fun v4 μ4 hle4 hR4=>?_
 refine rPl ?_
 rw[bZ,hL,Option.bind_some,if_pos hall]
 exact⟨_,rfl,hR4.mono ((hle1.trans hle2).trans hle3) (Mem.Le.refl _)⟩
end
end Go.Vx
namespace Go.Vx
open Go.Proofs Classical
def yB(p:Pg)(u:List Tm)(l:List Fc):Prop:=∃y,bZ p u l=some y∧∀x,x∈y↔x∈l.map Fc.f
noncomputable def wfM(p:Pg)(u:List Tm):Option (List F×List F):=(aJ p u).map fun rs=>(wfT rs,wfO rs)
def qLn(P:List F→List F→Value→Value→Prop)(o:Option (List F×List F))(v:Value):Prop:=match o with
 |some y=>∃tv tw,v= .tuple #[tv,tw,.bool true]∧P y.1 y.2 tv tw
 |none=>v= .tuple #[.slice none 0 0,.slice none 0 0,.bool false]
theorem rL{p:Pg}{u:List Tm}{l:List Fc}{y:List F}(h:bZ p u l=some y):Asc3 bC y:=by
 rw[bZ]at h
 cases hg:aJ p u with
 |none=>rw[hg]at h;cases h
 |some rs=>
  rw[hg,Option.bind_some]at h
  split at h
  ·cases h;exact iC _ _
  ·cases h
noncomputable def gR(rs:List Ru)(t:List F)(i:Nat):List F:=((gam rs t).take i).filter fun f=>decide (f∉t)
theorem uB{rs:List Ru}{t:List F}{i:Nat}{f:F}(h:(gam rs t)[i]? =some f):gR rs t (i+1)=gR rs t i++(if f∉t then [f]else []):=by
 rw[gR,List.take_add_one,h,Option.toList_some,List.filter_append,←gR]
 congr 1
 by_cases k:f∈t<;>simp[k]
theorem wD(rs:List Ru)(t:List F)(i:Nat):(gR rs t i).length≤i:=Nat.le_trans (List.length_filter_le _ _) (List.length_take_le _ _)
theorem qHf{rs:List Ru}{n:Nat}(h:iZ rs (aQ rs n)≠aQ rs n):(aQ rs n).length<(iZ rs (aQ rs n)).length:=
 mP cmpF_ord (dE rs n) (iC _ _) (gW rs n) fun e=>h (kW cmpF_ord (dE rs n) (iC _ _) (gW rs n) e).symm
theorem qMk{p:Pg}{rs:List Ru}(hr:∀r∈rs,RuOk p r)(n:Nat):FsOk p (aQ rs n):=by
 cases n with
 |zero=>exact fun _ h=>nomatch h
 |succ n=>exact lL hr
section
variable {μ:Mem}
theorem jA{p:Pg}{u:List Tm}{l:List Fc}{v:Value}{ub fb:Option Addr}{uc fc:Nat}(hp:RepV μ p.d v)(hu:Sl μ 4 ub u.length (u.map Tm.d))(hb:RepV μ (.sl 2 (l.map Fc.d)) (.slice fb l.length fc))(hn:l.length≤2000000):
  Spec Tryz.prog 21 [v,.slice ub u.length uc,.slice fb l.length fc] μ fun v _=>v= .bool (decide (yB p u l)):=by
 have hp0:=hp
 have w_:=Pg.inv hp
 obtain⟨q,rfl,hrl⟩:=w_
 refine Spec.mk Tryz.func21 (by kernel_rfl) ?_
 intro r3
 refine cPl (cM hp0 hu hb hn) fun v1 μ1 hle1 hR=>?_
 cases hL:bZ p u l with
 |none=>
  rw[hL]at hR
  obtain rfl:=hR
  refine iIn (fun h=>nomatch h) (fun _=>rPl (isF fun k=>?_))
  obtain⟨y,hy,_⟩:=k
  rw[hL]at hy;cases hy
 |some y=>
  rw[hL]at hR
  obtain⟨tv,rfl,hR⟩:=hR
  have hR:FsV μ1 y tv:=hR.rep
  have w_:=FsV.sl hR
  obtain⟨b1,c1,rfl,-,hs1⟩:=w_
  have hk:=uD hL
  have hlift:=cE hk.2.2.2
  have hb1:FsV μ1 (l.map Fc.f) (.slice fb l.length fc):=by
   show RepV μ1 (.sl 2 (((l.map Fc.f).map F.fc).map Fc.d)) _
   rw[hlift];exact RepV.mono hle1 hb
  refine iIn (fun _=>?_) (fun h=>nomatch h)
  refine cPl (bE hb1 (by rw[List.length_map];omega)) fun v2 μ2 hle2 hR2=>?_
  have w_:=FsV.sl hR2
  obtain⟨b2,c2,rfl,-,hs2⟩:=w_
  refine cGv (eC (hs1.mono hle2) hs2) ?_
  refine rPl (isI ?_)
  constructor
  ·intro e
   exact⟨y,hL,fun x=>by rw[e,mem_ascF]⟩
  ·rintro ⟨y', hy, h⟩
   rw[hL]at hy;cases hy
   exact(rL hL).uniq cmpF_ord (cU _) fun x=>by rw[h,mem_ascF]
set_option maxHeartbeats 1000000 in
set_option maxHeartbeats 1000000 in
theorem gC{p:Pg}{u:List Tm}{v:Value}{ub:Option Addr}{uc:Nat}(hp:RepV μ p.d v)(hu:Sl μ 4 ub u.length (u.map Tm.d)):
  Spec Tryz.prog 18 [v,.slice ub u.length uc] μ fun v μ'=>qLn (fun y z tv tw=>∃μ1 μ2,μ.Le μ1∧μ1.Le μ2∧μ2.Le μ'∧Fresh μ μ1 (.sl 2 ((y.map F.fc).map Fc.d)) tv∧Fresh μ2 μ' (.sl 2 ((z.map F.fc).map Fc.d)) tw) (wfM p u) v:=by
 have hp0:=hp
 have w_:=Pg.inv hp
 obtain⟨q,rfl,hrl⟩:=w_
 refine Spec.mk Tryz.func18 (by kernel_rfl) ?_
 intro r3
 refine cPl (eW hp0 hu) fun v1 μ1 hle1 hR=>?_
 cases hL:aJ p u with
 |none=>
  rw[hL]at hR
  obtain rfl:=hR
  exact iIn (fun _=>rPl (by rw[wfM,hL];rfl)) (fun h=>nomatch h)
 |some rs=>
 rw[hL]at hR
 obtain⟨tv,rfl,hR⟩:=hR
 have w_:=RsV.sl hR
 obtain⟨b1,c1,rfl,hrs⟩:=w_
 have w_:=bI hL
 obtain⟨hrl2,hro⟩:=w_
 have hpo:=(bB hL).1
 refine iIn (fun h=>nomatch h) (fun _=>?_)
 intro r23
 refine lFz (fun z:Nat×Option Addr×Nat×Mem=>μ1.Le z.2.2.2∧FsV z.2.2.2 (aQ rs z.1) (.slice z.2.1 (aQ rs z.1).length z.2.2.1))
  (fun(n,b4,c4,μ')=>⟨[(7,.val (.slice b1 rs.length c1)),(9,.val (.slice b4 (aQ rs n).length c4))],[],1,μ',Mem.nil⟩) (fun z=>rs.length-(aQ rs z.1).length) [1]
  (fun(_,_,_,_)=>⟨rfl,rfl⟩) (fun μ2 hle2 hno2 hat2=>⟨(0,some ⟨r23,0,none⟩,0,μ2),⟨hle2,FsV.nil _ _⟩,⟨rfl,rfl,trivial⟩,trivial,rfl,rfl⟩) ?_
 rintro⟨n,b4,c4,μ'⟩ ⟨hle,hout⟩
 dsimp only at hle hout
 have w_:=FsV.sl hout
 obtain⟨b5,c5,e,-,hso⟩:=w_
 have w_:=Value.slice.inj e
 obtain⟨rfl,_,rfl⟩:=w_
 have hwl:=rV rs n
 have hrs':=hrs.mono hle
 have hga:=iC rs (aQ rs n)
 have hgl:=iD rs (aQ rs n)
 have hnl:(iZ rs (aQ rs n)).length≤rs.length:=iD _ _
 have hokT:=(qMk hro n).len hpo
 have hokG:=(lL (S:=aQ rs n) hro).len hpo
 refine cPl (gS hrs' (by omega) (dE rs n) (by omega) hso) fun v3 μ3 hle3 hR3=>?_
 have w_:=FsV.sl hR3
 obtain⟨b6,c6,rfl,-,hs3⟩:=w_
 refine cPl (gS (hrs'.mono hle3) (by omega) hga (by omega) hs3) fun v4 μ4 hle4 hR4=>?_
 have hR4:FsV μ4 (iZ rs (aQ rs n)) v4:=hR4
 have w_:=FsV.sl hR4
 obtain⟨b7,c7,rfl,-,hs4⟩:=w_
 have hsg:=hs3.mono hle4
 refine cGv (eC hs4 ((hso.mono hle3).mono hle4)) ?_
 refine ifd (fun hfix=>?_) (fun he=>?_)
 rotate_left
 ·have hmore := qHf (rs := rs) (n := n) he
  exact⟨[],(n+1,b7,c7,μ4),⟨hle.trans (hle3.trans hle4),hR4⟩,by show rs.length-(iZ rs (aQ rs n)).length<rs.length-(aQ rs n).length;omega,⟨⟨rfl,rfl,trivial⟩,trivial,rfl,rfl⟩⟩
 have hT:=qBi hfix
 have e1:wfM p u=some (aQ rs n,gR rs (aQ rs n) (gam rs (aQ rs n)).length):=by
  rw[wfM,hL,hT,gR,List.take_length];rfl
 rw[e1]
 intro r35
 refine lIn (fun z:Nat×Option Nat×Nat×List Value=>z.1≤(gam rs (aQ rs n)).length∧Rows μ4 2 (((gR rs (aQ rs n) z.1).map F.fc).map Fc.d) z.2.2.2)
  (fun(i,bo,co,ys)=>⟨[(9,.val (.slice b4 (aQ rs n).length c4)),(12,.row 1 bo ys.length co),(34,.val (.slice b6 (gam rs (aQ rs n)).length c6)),(35,.val (.int .i64 (gam rs (aQ rs n)).length)),(36,.val (.int .i64 i))],[(1,some (.row bo co 41 2 ys))],2,μ4,Mem.nil⟩) (fun z=>(gam rs (aQ rs n)).length-z.1)
  (0,some r35,0,[]) ⟨Nat.zero_le _,by simpa[gR]using .nil⟩ (fun(_,_,_,_)=>⟨rfl,rfl⟩) ⟨⟨rfl,rfl,rfl,rfl,rfl,trivial⟩,⟨rfl,trivial⟩,rfl,rfl⟩ ?_
 rintro⟨i,bo,co,ys⟩ ⟨hi,hrows⟩
 dsimp only at hi hrows
 have hyl:=hrows.len
 simp only[List.length_map]at hyl
 have hol:=wD rs (aQ rs n) i
 refine ifd (fun hlt=>?_) (fun hlt=>?_)
 ·have w_ := aSo (l := gam rs (aQ rs n)) (i := i) (by omega)
  obtain⟨f,hf⟩:=w_
  have w_:=F.elem hsg hf
  obtain⟨ad,q2,hel,hrf,_⟩:=w_
  have hsucc:=uB (t:=aQ rs n) hf
  refine eIn hel ?_
  intro r14
  refine cGv (bM (dE rs n) (by omega) ((hso.mono hle3).mono hle4) hrf) ?_
  refine aK (fun hin=>?_) (fun hin=>?_)
  ·rw [if_pos hin] at hsucc
   intro r48
   refine gIn ?_ ?_ fun b' c' _=>?_
   ·show(ys.length+1)*40≤_;omega
   ·exact Nat.le_trans (m:=100000000) (show ys.length+1≤_ by omega) (by decide)
   refine aB (by omega) (by omega) ⟨(i+1,b',c',_),⟨by dsimp only;omega,?_⟩,by dsimp only;omega,⟨⟨rfl,rfl,rfl,rfl,rfl,trivial⟩,⟨rfl,trivial⟩,rfl,rfl⟩⟩
   dsimp only
   rw[hsucc]
   simp only[List.map_append,List.map_cons,List.map_nil]
   exact hrows.append (Rows.one hrf (Fc.d_n _))
  ·rw [if_neg (fun k => k hin), List.append_nil] at hsucc
   refine aB (by omega) (by omega) ⟨(i+1,bo,co,ys),⟨by dsimp only;omega,?_⟩,by dsimp only;omega,⟨⟨rfl,rfl,rfl,rfl,rfl,trivial⟩,⟨rfl,trivial⟩,rfl,rfl⟩⟩
   dsimp only
   rw[hsucc];exact hrows
 obtain rfl:i=(gam rs (aQ rs n)).length:=by omega
 have hokO:∀f∈gR rs (aQ rs n) (gam rs (aQ rs n)).length,f.args.length≤1000000:=fun f hf=>Nat.le_trans (hokG f (List.mem_of_mem_take (List.mem_filter.1 hf).1)) (by decide)
 refine cPl (bD ((RepV.mono hle3 hout).mono hle4) (by omega) fun f hf=>Nat.le_trans (hokT f hf) (by decide)) fun v5 μ5 hle5 hR5=>?_
 refine aW [1] ?_
 intro μ6 hle6 hno6 hat6
 have hrep:FsV μ6 (gR rs (aQ rs n) (gam rs (aQ rs n)).length) _:=Rows.sl hat6 ((hrows.mono hle5).mono hle6) (Nat.le_trans (m:=100000000) (by omega) (by decide))
 refine bH (bD hrep (by omega) hokO) fun v7 μ7 hle7 hR7=>?_
 have hm:μ.Le μ4:=((hle1.trans hle).trans hle3).trans hle4
 exact rPl ⟨_,_,rfl,μ5,μ6,hm.trans hle5,hle6,hle7,hR5.mono hm (Mem.Le.refl _),hR7⟩
end
end Go.Vx
namespace Go.Vx
open Go.Proofs Classical
section
variable {μ:Mem}
theorem RepS.take:∀(ds:List D) (a:Nat) {cs:List Value},RepS μ ds cs→∃c1 c2,cs=c1++c2∧RepS μ (ds.take a) c1
 |[],a,cs,_=>⟨[],cs,rfl,by rw[List.take_nil];exact rfl⟩
 |d::r,0,cs,_=>⟨[],cs,rfl,rfl⟩
 |d::r,a+1,cs,h=>by
  obtain⟨c1,c2,e,h1,h2⟩:=h
  have w_:=RepS.take r a h2
  obtain⟨c3,c4,e2,h3⟩:=w_
  exact⟨c1++c3,c4,by rw[e,e2,List.append_assoc],c1,c3,rfl,h1,h3⟩
theorem Rep.cut{es n c a:Nat}{base:Option Addr}{xs:List D}(h:RepV μ (.sl es xs) (.slice base n c))(ha:a≤n):RepV μ (.sl es (xs.take a)) (.slice (if c=0 then base else base.map (·.add (0*es))) (a-0) (c-0)):=by
 have e:(if c=0 then base else base.map (·.add (0*es)))=base:=by
  split
  ·rfl
  ·cases base<;>simp[Addr.add]
 rw[e,Nat.sub_zero,Nat.sub_zero]
 obtain⟨b2,c2,e2,hl,hn,hor⟩:=h
 have e3:=(List.cons.inj e2).1
 cases e3
 have hta:(xs.take a).length=a:=by rw[List.length_take];omega
 refine⟨base,c,by rw[hta],⟨by rw[hta];exact Nat.le_trans ha hl.le,by rw[hta];exact Nat.le_trans ha hl.max⟩,fun x hx=>hn x (List.mem_of_mem_take hx),?_⟩
 rcases hor with h|⟨a0,flat,h1,h2,h3⟩
 ·exact .inl (by rw[h,List.take_nil])
 ·have w_ := RepS.take xs a h3
  obtain⟨c1,c2,e4,h4⟩:=w_
  exact .inr ⟨a0,c1,h1,fun j v hj=>h2 j v (by rw[e4,List.getElem?_append_left (List.getElem?_eq_some_iff.1 hj).1];exact hj),h4⟩
end
end Go.Vx
namespace Go.Vx
open Go.Proofs Classical
theorem qOm{rs:List Ru}{S S':List F}(h:∀f,f∈S↔f∈S'):gam rs S=gam rs S':=by
 rw[gam,gam,kV h]
theorem qTe(rs:List Ru):∃n,iZ rs (aQ rs n)=aQ rs n:=by
 refine Classical.byContradiction fun hn=>?_
 have hne:∀n,iZ rs (aQ rs n)≠aQ rs n:=fun n e=>hn ⟨n,e⟩
 have hl:∀n,n≤(aQ rs n).length:=fun n=>by
  induction n with
  |zero=>exact Nat.zero_le _
  |succ n ih=>
   have h2:(aQ rs n).length<(aQ rs (n+1)).length:=mP cmpF_ord (dE rs n) (dE rs (n+1)) (gW rs n) fun e=>
    hne n (kW cmpF_ord (dE rs n) (dE rs (n+1)) (gW rs n) e).symm
   omega
 have h1:=hl (rs.length+1)
 have h2:=rV rs (rs.length+1)
 omega
theorem rW(rs:List Ru):∃n,wfT rs=aQ rs n∧iZ rs (aQ rs n)=aQ rs n:=by
 have w_:=qTe rs
 obtain⟨n,hn⟩:=w_
 exact⟨n,(qBi hn).symm,hn⟩
theorem yK(rs:List Ru):gam rs (gam rs (wfT rs))=wfT rs:=by
 have w_:=rW rs
 obtain⟨n,e,h⟩:=w_
 rw[e];exact h
theorem qHe(rs:List Ru):Asc3 bC (wfT rs):=by
 have w_:=rW rs
 obtain⟨n,e,_⟩:=w_
 rw[e];exact dE rs n
theorem rU(rs:List Ru):∀n,∀f∈aQ rs n,f∈gam rs (aQ rs n)
 |0,_,h=>nomatch h
 |n+1,f,h=>by
  have ih:=rU rs n
  have h1:∀f∈aQ rs (n+1),f∈gam rs (aQ rs n):=fun f hf=>fW ih hf
  exact fW h1 h
theorem yL(rs:List Ru):∀f∈wfT rs,f∈gam rs (wfT rs):=by
 have w_:=rW rs
 obtain⟨n,e,_⟩:=w_
 rw[e];exact rU rs n
theorem mem_wfO{rs:List Ru}{f:F}:f∈wfO rs↔f∈gam rs (wfT rs)∧f∉wfT rs:=by rw[wfO,List.mem_filter,decide_eq_true_eq]
theorem wf_poss{rs:List Ru}{f:F}:f∈wfT rs++wfO rs↔f∈gam rs (wfT rs):=by
 rw[List.mem_append,mem_wfO]
 constructor
 ·rintro (h | h)
  ·exact yL rs f h
  ·exact h.1
 ·intro h
  by_cases k:f∈wfT rs
  ·exact .inl k
  ·exact .inr ⟨h,k⟩
theorem qTd(rs:List Ru):(wfT rs++wfO rs).length=(gam rs (wfT rs)).length:=by
 have h1:(wfT rs++wfO rs).Nodup:=by
  rw[List.nodup_append]
  refine⟨(qHe rs).nodup cmpF_ord,((iC rs _).nodup cmpF_ord).sublist (List.filter_sublist (l:=gam rs (wfT rs))),fun a ha b hb e=>?_⟩
  subst e
  exact(mem_wfO.1 hb).2 ha
 have h2:=dB h1 fun x hx=>wf_poss.1 hx
 have h3:=dB ((iC rs (wfT rs)).nodup cmpF_ord) fun x hx=>wf_poss.2 hx
 omega
theorem qAx{rs:List Ru}{S:List F}(h:∀f,f∈gam rs S↔f∈S):(∀f∈wfT rs,f∈S)∧∀f∈S,f∈gam rs (wfT rs):=by
 have low:∀n,∀f∈aQ rs n,f∈S:=fun n=>by
  induction n with
  |zero=>exact fun f hf=>nomatch hf
  |succ n ih=>
   intro f hf
   refine(h f).1 (fW (fun x hx=>?_) hf)
   exact fW ih ((h x).2 hx)
 have w_:=rW rs
 obtain⟨n,e,_⟩:=w_
 have h1:∀f∈wfT rs,f∈S:=by rw[e];exact low n
 exact⟨h1,fun f hf=>fW h1 ((h f).2 hf)⟩
theorem Gl.Sh_wd{g:Gl}(h:g.Sh):g.d.wd:=by
 revert h
 refine Gl.ind (q:=fun g=>g.Sh→g.d.wd) (fun g ih h=>?_) g
 have w_:=iH h.top.tm
 obtain⟨xs,hxs,hok⟩:=w_
 have hk0:=h.top.k0
 have hk1:=h.top.k1
 have hnm:g.name.size≤maxLen:=by
  by_cases h9:g.kind=9
  ·exact Nat.le_trans (h.top.rel h9).2.2.1 (by decide)
  ·rw[h.top.nm h9];exact Nat.zero_le _
 rw[Gl.d_eq,hxs]
 refine⟨⟨by omega,by omega⟩,hnm,jS fun x hx=>(hok x hx).1,D.wds_of fun d hd=>?_,trivial⟩
 have w_:=List.mem_map.1 hd
 obtain⟨y,hy,rfl⟩:=w_
 exact ih y hy (h.sub y hy)
theorem Pg.Ok.wd{p:Pg}(hp:p.Ok):p.d.wd:=by
 rw[Pg.d_eq]
 refine⟨D.wds_of fun d hd=>?_,trivial⟩
 have w_:=List.mem_map.1 hd
 obtain⟨r,hr,rfl⟩:=w_
 have w_:=List.getElem?_of_mem hr
 obtain⟨i,hi⟩:=w_
 have h:=hp.2 i r hi
 have:=h.ar0
 have:=h.ar4
 have:=h.lo0
 have:=h.lo8
 rw[Rl.d_eq]
 exact⟨Nat.le_trans h.name.2.2.1 (by decide),⟨by omega,by omega⟩,⟨by omega,by omega⟩,Gl.Sh_wd h.body,trivial⟩
structure FsU (p:Pg) (U:List T) (L:List F):Prop where
 fit:FsOk p L
 uni:∀f∈L,∀a∈f.args,a∈U
 asc:Asc3 bC L
theorem FsU.nil(p:Pg)(U:List T):FsU p U []:=⟨(fun _ h=>nomatch h),(fun _ h=>nomatch h),List.Pairwise.nil⟩
theorem FsU.sub{p:Pg}{U:List T}{L M:List F}(h:FsU p U L)(hs:M.Sublist L):FsU p U M:=
 ⟨fun f hf=>h.fit f (hs.subset hf),fun f hf=>h.uni f (hs.subset hf),List.Pairwise.sublist hs h.asc⟩
theorem FsU.ins{p:Pg}{U:List T}{L:List F}{f:F}(h:FsU p U L)(hf:FactFits p f.fc)(hu:∀a∈f.args,a∈U):FsU p U (aX L f):=
 {
  fit:=fun x hx=>(mem_insF.1 hx).elim (fun h1=>by rw[h1];exact hf) (h.fit x)
  uni:=fun x hx=>(mem_insF.1 hx).elim (fun h1=>by rw[h1];exact hu) (h.uni x)
  asc:=fX L f}
end Go.Vx
namespace Go.Vx
open Go.Proofs Classical
theorem F.mkE{μ:Mem}{f:F}{b:Option Addr}{n c:Nat}(h:RepV μ (.sl 4 ((f.args.map T.tm).map Tm.d)) (.slice b n c)):RepV μ f.fc.d (.agg #[.string f.rel,.slice b n c]):=by
 rw[Fc.d_eq]
 exact⟨_,rfl,RepS.str (RepS.last h)⟩
section
variable {μ:Mem}
set_option maxHeartbeats 4000000 in
theorem fZ{p:Pg}{U:List T}{v:Value}{ub:Option Addr}{uc:Nat}(hp:RepV μ p.d v)(hu:Sl μ 4 ub U.length ((U.map T.tm).map Tm.d))(hok:p.Ok)(hne:p.rels≠[])(huok:UnivOk (U.map T.tm))(hU2:U.length≤2):
  Spec Tryz.prog 22 [v,.slice ub U.length uc] μ fun r μ'=>∃L tv,r= .tuple #[tv,.bool true]∧FsU p U L∧1≤L.length∧L.length≤200∧FsV μ' L tv:=by
 have hp0:=hp
 have w_:=Pg.inv hp
 obtain⟨q,rfl,hrl⟩:=w_
 have hU1:1≤U.length:=by have:=huok.pos;rwa [List.length_map]at this
 have hgnd:∀a∈U,tN a.tm:=fun a ha=>huok.gnd _ (List.mem_map_of_mem ha)
 have hmu:Sl μ 4 ub (U.map T.tm).length ((U.map T.tm).map Tm.d):=by rw[List.length_map];exact hu
 have hwu:D.wds ((U.map T.tm).map Tm.d):=jS fun a ha=>by
  have:=(hgnd a ha).1.toT.1.1
  rwa [T.toT_tm]at this
 have hn8:=hok.1
 refine Spec.mk Tryz.func22 (by kernel_rfl) ?_
 intro r2
 refine cPl (bY hp0 hok.wd) fun v1 μ1 hle1 hR=>?_
 obtain rfl:=hR
 refine aK (fun h=>absurd hok h) (fun _=>?_)
 have hus:=cY (cap:=uc) (hmu.mono hle1) hwu
 rw[List.length_map]at hus
 refine cGv hus ?_
 refine aK (fun h=>absurd huok h) (fun _=>?_)
 intro r22
 refine lFz (fun z:Nat×List F×(Option Addr×Nat)×Mem=>z.1≤p.rels.length∧μ1.Le z.2.2.2∧FsU p U z.2.1∧z.2.1.length≤16*z.1∧(0<z.1→1≤z.2.1.length)∧FsV z.2.2.2 z.2.1 (.slice z.2.2.1.1 z.2.1.length z.2.2.1.2))
  (fun(i,L,(b,c),μ')=>⟨[(1,.val (.slice ub U.length uc)),(6,.val (.slice b L.length c)),(24,.val (.slice q.1 p.rels.length q.2)),(25,.val (.int .i64 p.rels.length)),(26,.val (.int .i64 i))],[],2,μ',Mem.nil⟩) (fun z=>p.rels.length-z.1) [1]
  (fun(_,_,(_,_),_)=>⟨rfl,rfl⟩) ?_ ?_
 ·intro μ' hle hno hat
  exact⟨(0,[],(some ⟨r22,0,none⟩,0),μ'),⟨Nat.zero_le _,hle,FsU.nil p U,Nat.zero_le _,fun h=>absurd h (Nat.lt_irrefl 0),Rows.sl hat .nil (Nat.zero_le _)⟩,⟨⟨rfl,rfl,rfl,rfl,rfl,trivial⟩,trivial,rfl,rfl⟩⟩
 rintro⟨i,L,⟨b,c⟩,μ'⟩ ⟨hi,hle,hL,hlen,hpos,hrL⟩
 dsimp only at hi hle hL hlen hpos hrL
 refine ifd (fun hlt=>?_) (fun hlt=>?_)
 rotate_left
 ·obtain rfl : i = p.rels.length := by omega
  have h1:0<p.rels.length:=List.length_pos_iff.2 hne
  refine ifd (fun h=>absurd h (by omega)) (fun _=>?_)
  have w_:=FsV.sl hrL
  obtain⟨b',c',e,-,hs⟩:=w_
  have w_:=Value.slice.inj e
  obtain⟨rfl,_,rfl⟩:=w_
  refine cPl (eK hs (by omega) fun f hf=>Nat.le_trans (hL.fit.len hok f hf) (by decide)) fun v2 μ2 hle2 hR2=>?_
  exact rPl ⟨L,v2,rfl,hL,hpos h1,by omega,hR2⟩
 have w_:=aSo (l:=p.rels) (i:=i) (by omega)
 obtain⟨r,hr⟩:=w_
 have w_:=Rl.elemA ((hrl.mono hle1).mono hle) hr
 obtain⟨ad,q2,hel,hrv,hb⟩:=w_
 have hrok:=hok.2 i r hr
 have w_:=Int.eq_ofNat_of_zero_le hrok.ar0
 obtain⟨a,ha⟩:=w_
 have har4:=hrok.ar4
 have ha4:a≤4:=by omega
 refine eIn hel ?_
 intro r8
 have hwsp:=iG (μ:=μ') (size:=U.length) (n:=a) (most:=2000) hU1 (by omega) (by omega) (by omega) (by omega)
 rw[←ha]at hwsp
 have hW16:U.length ^ a≤16:=Nat.le_trans (Nat.pow_le_pow_left hU2 a) (Nat.le_trans (Nat.pow_le_pow_right (by decide) ha4) (by decide))
 refine cPl hwsp fun v4 μ4 hle4 hR4=>?_
 obtain⟨⟨W,rfl,hW1,hW2⟩,e4⟩:=hR4
 obtain rfl:=e4.symm
 have w_:=hW1 (by omega)
 obtain rfl:=w_
 have hWpos:0<U.length ^ a:=Nat.pow_pos (by omega)
 refine lIn (fun z:Nat×List F×(Option Addr×Nat)×Mem=>z.1≤U.length ^ a∧μ'.Le z.2.2.2∧FsU p U z.2.1∧z.2.1.length≤16*i+z.1∧(0<z.1→1≤z.2.1.length)∧FsV z.2.2.2 z.2.1 (.slice z.2.2.1.1 z.2.1.length z.2.2.1.2))
  (fun(k,L,(b,c),μ')=>⟨[(1,.val (.slice ub U.length uc)),(6,.val (.slice b L.length c)),(8,.loc 2 r8 0),(9,.val (.int .i64 ((U.length ^ a:Nat):Int))),(10,.val (.int .i64 k)),(24,.val (.slice q.1 p.rels.length q.2)),(25,.val (.int .i64 p.rels.length)),(26,.val (.int .i64 i))],[(2,some (.cells r8 [.val (.string r.name),.val (.int .i64 r.arity),.val (.int .i64 r.locals),.val (.int .i64 r.body.kind),.val (.string r.body.name),.val (.slice q2.1.1 r.body.terms.length q2.1.2),.val (.slice q2.2.1 r.body.goals.length q2.2.2)] 63))],3,μ',Mem.nil⟩) (fun z=>U.length ^ a-z.1)
  (0,L,(b,c),μ') ⟨Nat.zero_le _,Mem.Le.refl _,hL,by dsimp only;omega,fun h=>absurd h (Nat.lt_irrefl 0),hrL⟩ (fun(_,_,(_,_),_)=>⟨rfl,rfl⟩) ⟨⟨rfl,rfl,rfl,rfl,rfl,rfl,rfl,rfl,trivial⟩,⟨rfl,trivial⟩,rfl,rfl⟩ ?_
 clear hL hlen hrL hpos
 rintro⟨k,L,⟨b,c⟩,μ2⟩ ⟨hk,hle2,hL,hlen,hpos,hrL⟩
 dsimp only at hk hle2 hL hlen hpos hrL
 refine ifd (fun hkl=>?_) (fun hkl=>?_)
 rotate_left
 ·refine aB (by omega) (by omega) ⟨[],(i+1,L,(b,c),μ2),⟨by dsimp only;omega,hle.trans hle2,hL,by dsimp only;omega,fun _=>hpos (by omega),hrL⟩,by dsimp only;omega,⟨⟨rfl,rfl,rfl,rfl,rfl,trivial⟩,trivial,rfl,rfl⟩⟩
 refine ifd (fun _=>?_) (fun h=>absurd h (by omega))
 intro r11 r48
 refine aF 0 a rfl ha (Nat.zero_le _) (by omega) ?_
 refine aW [4] fun μ3 hle3 hno3 hat3=>?_
 have hri:RepV μ3 (.sl 1 ((eB 4).map D.i)) (.slice (some ⟨r48,0,none⟩) 4 4):=Ints.sl (l:=eB 4) hat3 (by decide)
 have hrc:=Rep.cut hri ha4
 have etk:((eB 4).map D.i).take a=(eB a).map D.i:=by
  rw[←List.map_take]
  congr 1
  rw[eB,eB,←List.map_take,List.take_range]
  congr 2;omega
 rw[etk]at hrc
 have w_:=Rep.sl hrc
 obtain⟨vb,vc,evb,hvs⟩:=w_
 have w_:=Value.slice.inj evb
 obtain⟨rfl,_,_⟩:=w_
 rw[List.length_map,kA]at hvs
 have hval:=fG (μ:=μ3) (U:=U) (n:=a) (w:=k) (uc:=uc) (vc:=4-0) ((((hu.mono hle1).mono hle).mono hle2).mono hle3) (by omega) (by omega) hvs (by omega) (by omega)
 refine bH hval fun v5 μ5 hle5 hR5=>?_
 have w_:=Rep.sl hR5
 obtain⟨bb,bc,rfl,hbs⟩:=w_
 rw[List.length_map,List.length_map,fI,cV]at hbs ⊢
 have hdl:(cN U a k).length=a:=cV U a k
 refine cX (fun z:Nat×Option Nat×Nat×List Value=>z.1≤a∧Rows μ5 4 ((((cN U a k).take z.1).map T.tm).map Tm.d) z.2.2.2)
  (fun(j,b2,c2,ys)=>⟨[(1,.val (.slice ub U.length uc)),(6,.val (.slice b L.length c)),(8,.loc 2 r8 0),(9,.val (.int .i64 ((U.length ^ a:Nat):Int))),(10,.val (.int .i64 k)),(11,.loc 3 r11 0),(24,.val (.slice q.1 p.rels.length q.2)),(25,.val (.int .i64 p.rels.length)),(26,.val (.int .i64 i)),(54,.val (.slice bb a bc)),(55,.val (.int .i64 a)),(56,.val (.int .i64 j))],[(2,some (.cells r8 [.val (.string r.name),.val (.int .i64 r.arity),.val (.int .i64 r.locals),.val (.int .i64 r.body.kind),.val (.string r.body.name),.val (.slice q2.1.1 r.body.terms.length q2.1.2),.val (.slice q2.2.1 r.body.goals.length q2.2.2)] 63)),(3,some (.cells r11 [.val (.string r.name),.row 5 b2 ys.length c2] 41)),(5,some (.row b2 c2 75 4 ys))],6,μ5,Mem.nil⟩) (fun z=>a-z.1)
  (0,none,0,[]) ⟨Nat.zero_le _,.nil⟩ (fun(_,_,_,_)=>⟨rfl,rfl⟩) ?_ ?_
 ·exact⟨⟨⟨_,rfl,.inl rfl⟩,⟨_,rfl,.inl rfl⟩,⟨_,rfl,.inl rfl⟩,⟨_,rfl,.inl rfl⟩,⟨_,rfl,.inl rfl⟩,⟨_,rfl,.inl rfl⟩,⟨_,rfl,.inl rfl⟩,⟨_,rfl,.inl rfl⟩,⟨_,rfl,.inl rfl⟩,⟨_,rfl,.inl rfl⟩,⟨_,rfl,.inl rfl⟩,⟨_,rfl,.inl rfl⟩,trivial⟩,⟨.inl rfl,.inr (.inr ⟨_,_,_,_,rfl,rfl,.inl rfl,.inr ⟨5,rfl,rfl,Nat.le_refl _⟩,trivial⟩),.inr (.inl ⟨_,_,rfl,Nat.le_refl _⟩),trivial⟩,rfl,rfl⟩
 rintro⟨j,b2,c2,ys⟩ ⟨hj,hrows⟩
 dsimp only at hj hrows
 have hyl:=hrows.len
 simp only[List.length_map,List.length_take,cV]at hyl
 refine ifd (fun hja=>?_) (fun hja=>?_)
 ·have w_ := aSo (l := cN U a k) (i := j) (by omega)
  obtain⟨x,hx⟩:=w_
  have w_:=B.elem hbs (kF hx)
  obtain⟨ad3,p3,hel3,hto⟩:=w_
  refine eIn hel3 ?_
  intro r13 r64
  refine gIn ?_ ?_ fun b' n' _=>?_
  ·show(ys.length+1)*56≤_;omega
  ·exact Nat.le_trans (m:=100000000) (show ys.length+1≤_ by omega) (by decide)
  refine aB (by omega) (by omega) ⟨(j+1,b',n',_),⟨by dsimp only;omega,?_⟩,by dsimp only;omega,⟨⟨rfl,rfl,rfl,rfl,rfl,rfl,rfl,rfl,rfl,rfl,rfl,rfl,trivial⟩,⟨rfl,rfl,rfl,trivial⟩,rfl,rfl⟩⟩
  dsimp only
  rw[List.take_add_one,hx,Option.toList_some]
  simp only[List.map_append,List.map_cons,List.map_nil]
  exact hrows.append (Rows.one hto (Tm.d_n _))
 obtain rfl:j=a:=by omega
 rw[List.take_of_length_le (by omega)]at hrows
 refine aW [5] fun μ6 hle6 hno6 hat6=>?_
 have hcap:ys.length≤4:=by omega
 have hrow:=Rows.sl hat6 (hrows.mono hle6) (Nat.le_trans (m:=4) hcap (by decide))
 have hfr:RepV μ6 (F.fc ⟨r.name,cN U j k⟩).d (.agg #[.string r.name,.slice (b2.map fun r=>⟨r,0,none⟩) ys.length c2]):=F.mkE hrow
 have hdm:∀y∈cN U j k,y∈U:=oK U (by omega) _ _
 have hfit:FactFits p (F.fc ⟨r.name,cN U j k⟩):=by
  refine⟨⟨i,r,hrok.at_,hr,?_⟩,fun t ht=>?_⟩
  ·show r.arity = (((cN U j k).map T.tm).length : Int)
   rw[List.length_map,hdl,ha]
  ·have w_ := List.mem_map.1 ht
   obtain⟨y,hy,rfl⟩:=w_
   exact hgnd y (hdm y hy)
 have hle36:=(hle3.trans hle5).trans hle6
 refine bH (dP hL.asc (RepV.mono hle36 hrL) hfr (by omega)) fun v7 μ7 hle7 hR7=>?_
 have w_:=FsV.sl hR7
 obtain⟨b7,c7,rfl,-,-⟩:=w_
 have hl7:=cC L ⟨r.name,cN U j k⟩
 refine aB (by omega) (by omega) ⟨(k+1,aX L ⟨r.name,cN U j k⟩,(b7,c7),μ7),⟨by dsimp only;omega,hle2.trans (hle36.trans hle7),hL.ins hfit hdm,by dsimp only;omega,fun _=>List.length_pos_of_mem (mem_insF.2 (.inl rfl)),hR7⟩,by dsimp only;omega,⟨⟨rfl,rfl,rfl,rfl,rfl,rfl,rfl,rfl,trivial⟩,⟨rfl,trivial⟩,rfl,rfl⟩⟩
theorem gG{base:Option Addr}{n cap:Nat}{p:Pg}{U:List T}{v:Value}{ub:Option Addr}{uc:Nat}(hb:Bytes μ base n)(m:Int)(hm:m≤1000000)(hp:RepV μ p.d v)(hu:Sl μ 4 ub U.length ((U.map T.tm).map Tm.d))(hok:p.Ok)(hne:p.rels≠[])(huok:UnivOk (U.map T.tm))(hU2:U.length≤2):
  Spec Tryz.prog 13 [.slice base n cap,.int .i64 m,v,.slice ub U.length uc] μ fun r μ'=>∃L,FsU p U L∧L.length≤200∧FsV μ' L r:=by
 have hp0:=hp
 have w_:=Pg.inv hp
 obtain⟨q,rfl,hrl⟩:=w_
 refine Spec.mk Tryz.func13 (by kernel_rfl) ?_
 intro r6
 refine cOw (jG hb m hm) fun v μ1 h1 hle1 hap1 hR=>?_
 obtain⟨e,r,rfl,ho,hc1⟩:=hR
 obtain rfl:=e.symm
 refine cPl (fZ hp0 hu hok hne huok hU2) fun v2 μ2 hle2 hR2=>?_
 obtain⟨A,tv,rfl,hA,hA1,hA2,hrA⟩:=hR2
 have w_:=FsV.sl hrA
 obtain⟨ab,ac,rfl,-,hsA⟩:=w_
 intro r24
 refine lIn (fun z:Nat×List F×Option Nat×Nat×List Value×Mem=>z.1≤A.length∧z.2.1.Sublist (A.take z.1)∧Rows μ2 2 ((z.2.1.map F.fc).map Fc.d) z.2.2.2.2.1∧Cur μ2 Mem.nil r z.2.2.2.2.2)
  (fun(i,M,b,c,ys,h')=>⟨[(9,.val (.pointer (some ⟨r,0,none⟩))),(12,.row 1 b ys.length c),(25,.val (.slice ab A.length ac)),(26,.val (.int .i64 A.length)),(27,.val (.int .i64 i))],[(1,some (.row b c 41 2 ys))],2,μ2,h'⟩) (fun z=>A.length-z.1)
  (0,[],some r24,0,[],h1) ⟨Nat.zero_le _,by simp,.nil,hc1.mono hle2⟩ (fun(_,_,_,_,_,_)=>⟨rfl,rfl⟩) ⟨⟨rfl,rfl,rfl,rfl,rfl,trivial⟩,⟨rfl,trivial⟩,rfl,rfl⟩ ?_
 clear hc1
 rintro⟨i,M,b,c,ys,h2⟩ ⟨hi,hsub,hrows,hc2⟩
 dsimp only at hi hsub hrows hc2
 have hyl:=hrows.len
 simp only[List.length_map]at hyl
 have hMl:=hsub.length_le
 rw[List.length_take]at hMl
 refine ifd (fun hlt=>?_) (fun hlt=>?_)
 ·have w_ := aSo (l := A) (i := i) (by omega)
  obtain⟨f,hf⟩:=w_
  have w_:=F.elemV hsA hf
  obtain⟨ad,p2,hel,hrf⟩:=w_
  have htk:A.take (i+1)=A.take i++[f]:=by rw[List.take_add_one,hf,Option.toList_some]
  refine eIn hel ?_
  intro r14
  refine cOw (eJ hc2.at 3) fun v μ3 h3 hle3 hap3 hR3=>?_
  obtain⟨e,hc3,bo,rfl⟩:=hR3
  obtain rfl:=e.symm
  refine iIn (fun _=>?_) (fun _=>?_)
  ·intro r35
   refine gIn ?_ ?_ fun b' c' _=>?_
   ·show(ys.length+1)*40≤_;omega
   ·exact Nat.le_trans (m:=100000000) (show ys.length+1≤_ by omega) (by decide)
   refine aB (by omega) (by omega) ⟨(i+1,M++[f],b',c',_,h3),⟨by dsimp only;omega,by dsimp only;rw[htk];exact hsub.append (List.Sublist.refl _),?_,hc2.trans hc3⟩,by dsimp only;omega,⟨⟨rfl,rfl,rfl,rfl,rfl,trivial⟩,⟨rfl,trivial⟩,rfl,rfl⟩⟩
   dsimp only
   simp only[List.map_append,List.map_cons,List.map_nil]
   exact hrows.append (Rows.one hrf (Fc.d_n _))
  ·refine aB (by omega) (by omega) ⟨(i+1,M,b,c,ys,h3),⟨by dsimp only;omega,by dsimp only;rw[htk];exact hsub.trans (List.sublist_append_left ..),hrows,hc2.trans hc3⟩,by dsimp only;omega,⟨⟨rfl,rfl,rfl,rfl,rfl,trivial⟩,⟨rfl,trivial⟩,rfl,rfl⟩⟩
 ·obtain rfl : i = A.length := by omega
  rw[List.take_length]at hsub
  refine rFz [1] fun μ3 hle3 hno3 hat3=> .inl ⟨M,hA.sub hsub,by have:=hsub.length_le;omega,?_⟩
  exact Rows.sl hat3 (hrows.mono hle3) (Nat.le_trans (m:=100000000) (by omega) (by decide))
end
end Go.Vx
namespace Go.Vx
open Go.Proofs Classical
section
variable {μ:Mem}
set_option maxHeartbeats 4000000 in
theorem tM{base:Option Addr}{n cap:Nat}(hb:Bytes μ base n):
  Spec Tryz.prog 4 [.slice base n cap] μ fun r _=>r= .bool true:=by
 refine Spec.mk Tryz.func4 (by kernel_rfl) ?_
 refine ifd (fun h=>rPl rfl) (fun h=>?_)
 refine cPl (gX hb 0 (by decide) 2 (.inr rfl)) fun v1 μ1 hle1 hR=>?_
 obtain⟨p,hp,hrp⟩:=hR
 have w_:=Pg.invV hrp
 obtain⟨q,rfl⟩:=w_
 intro r3
 refine cPl (gD (hb.mono hle1) 60 (by decide) 2 (by decide) (by decide)) fun v2 μ2 hle2 hR=>?_
 obtain⟨U,hU,hrU⟩:=hR
 have w_:=Rep.sl hrU
 obtain⟨ub,uc,rfl,hus⟩:=w_
 rw[List.length_map,List.length_map]at hus ⊢
 have hus0:Sl μ2 4 ub (U.map T.tm).length ((U.map T.tm).map Tm.d):=by rw[List.length_map];exact hus
 have hgr:bK p U=some (aN p U):=mA hp.small2 hU.max
 have hgo:aJ p (U.map T.tm)=some (aN p U):=by rw[aJ,if_pos ⟨hp.ok,hU.ok (by decide)⟩,bW];exact hgr
 have hrp2:=hrp.mono hle2
 have hgk:=bI hgo
 have hwe:wfM p (U.map T.tm)=some (wfT (aN p U),wfO (aN p U)):=by rw[wfM,hgo];rfl
 have hwf:=gC (uc:=uc) hrp2 hus0
 rw[List.length_map]at hwf
 refine cPl hwf fun v3 μ3 hle3 hR3=>?_
 rw[hwe]at hR3
 obtain⟨tv,tw,rfl,μa,μb,l1,l2,l3,ht,hw⟩:=hR3
 have htr:=ht.rep.mono (l2.trans l3)
 have hwr:=hw.rep
 have hfT:FsOk p (wfT (aN p U)):=fun f hf=>lL hgk.2 f (yL _ f hf)
 have hfO:FsOk p (wfO (aN p U)):=fun f hf=>lL hgk.2 f (mem_wfO.1 hf).1
 have hcnt:=qTd (aN p U)
 have hgl:=iD (aN p U) (wfT (aN p U))
 rw[List.length_append]at hcnt
 have hfix:=yK (aN p U)
 have hposs:gam (aN p U) (wfT (aN p U)++wfO (aN p U))=wfT (aN p U):=by rw[qOm fun f=>wf_poss,hfix]
 have hpm:=fun f=>wf_poss (rs:=aN p U) (f:=f)
 have hdis:∀f∈wfO (aN p U),f∉wfT (aN p U):=fun f hf=>(mem_wfO.1 hf).2
 have hbet:=fun(S:List F) (h:∀f,f∈gam (aN p U) S↔f∈S)=>qAx h
 have hgk1:=hgk.1
 dsimp only at htr hwr
 clear hwe ht hw
 generalize hTT:wfT (aN p U)=TT at*
 generalize hOO:wfO (aN p U)=OO at*
 have w_:=FsV.sl htr
 obtain⟨tb,tc,rfl,-,hst⟩:=w_
 have w_:=FsV.sl hwr
 obtain⟨ob,oc,rfl,-,hso⟩:=w_
 have hb40:∀k:Nat,k≤100000000→k*40≤140737488355328:=fun k hk=>by omega
 intro r31
 have w_:=Rep.srcAll htr
 obtain⟨ys,hys,hyl,hys2⟩:=w_
 have w_:=Rep.srcAll hwr
 obtain⟨zs,hzs,hzl,hzs2⟩:=w_
 refine aG ys hys2 ?_
 refine gIn ?_ ?_ fun b1 c1 _=>?_
 ·show(0+ys.length)*40≤_;omega
 ·exact Nat.le_trans (m:=100000000) (show 0+ys.length≤_ by omega) (by decide)
 refine aG zs hzs2 ?_
 refine gIn ?_ ?_ fun b2 c2 _=>?_
 ·rw[List.nil_append];exact hb40 _ (by omega)
 ·refine Nat.le_trans (m:=100000000) ?_ (by decide);rw[List.nil_append];omega
 rw[List.nil_append]
 have hrm1:bZ p (U.map T.tm) (TT.map F.fc)=some (gam (aN p U) TT):=by rw[bZ,hgo,Option.bind_some,if_pos hfT.lift,F.fcs]
 have hfP:FsOk p (TT++OO):=fun f hf=>(List.mem_append.1 hf).elim (hfT f) (hfO f)
 have hrm2:bZ p (U.map T.tm) ((TT++OO).map F.fc)=some TT:=by rw[bZ,hgo,Option.bind_some,if_pos hfP.lift,F.fcs,hposs]
 have hr1:=cM (μ:=μ3) (l:=TT.map F.fc) (fb:=tb) (fc:=tc) (uc:=uc) (hrp2.mono hle3) (hus0.mono hle3) (by rw[List.length_map];exact htr) (by rw[List.length_map];omega)
 rw[List.length_map,List.length_map]at hr1
 refine cPl hr1 fun v4 μ4 hle4 hR4=>?_
 rw[hrm1]at hR4
 obtain⟨tv4,rfl,hR4⟩:=hR4
 have w_:=FsV.sl hR4.rep
 obtain⟨b4,c4,rfl,-,hs4⟩:=w_
 refine aW [1] fun μ5 hle5 hno5 hat5=>?_
 have hle35:=hle4.trans hle5
 have hlen:(ys++zs).length=(TT++OO).length:=by rw[List.length_append,List.length_append];omega
 have hpr:FsV μ5 (TT++OO) (.slice (b2.map fun r=>⟨r,0,none⟩) (ys++zs).length c2):=by
  refine Rows.sl hat5 ?_ (Nat.le_trans (m:=100000000) (by rw[hlen,List.length_append];omega) (by decide))
  rw[List.map_append,List.map_append]
  exact(hys.append hzs).mono hle35
 rw[hlen]at hpr ⊢
 have hr2:=cM (μ:=μ5) (l:=(TT++OO).map F.fc) (fb:=b2.map fun r=>⟨r,0,none⟩) (fc:=c2) (uc:=uc) ((hrp2.mono hle3).mono hle35) ((hus0.mono hle3).mono hle35) (by rw[List.length_map];exact hpr) (by rw[List.length_map,List.length_append];omega)
 rw[List.length_map,List.length_map]at hr2
 refine bH hr2 fun v6 μ6 hle6 hR6=>?_
 rw[hrm2]at hR6
 obtain⟨tv6,rfl,hR6⟩:=hR6
 have w_:=FsV.sl hR6.rep
 obtain⟨b6,c6,rfl,-,hs6⟩:=w_
 have w_:=FsV.sl hpr
 obtain⟨pb',c2',e2,-,hsp⟩:=w_
 have w_:=Value.slice.inj e2
 obtain⟨rfl,_,rfl⟩:=w_
 have hle36:=hle35.trans hle6
 refine iIn (fun h=>nomatch h) (fun _=>?_)
 refine iIn (fun h=>nomatch h) (fun _=>?_)
 refine iIn (fun h=>nomatch h) (fun _=>?_)
 refine aK (fun h=>absurd (show((gam (aN p U) TT).length:Int)=(((TT++OO).length:Nat):Int) by rw[List.length_append];omega) h) (fun _=>?_)
 refine cGv (cK (hs4.mono (hle5.trans hle6)) (hsp.mono hle6)) ?_
 refine aK (fun h=>absurd (fun f hf=>(hpm f).2 hf) h) (fun _=>?_)
 refine aK (fun h=>absurd (rfl:(TT.length:Int)=TT.length) h) (fun _=>?_)
 refine cGv (cK hs6 (hst.mono hle36)) ?_
 refine aK (fun h=>absurd (fun f hf=>hf) h) (fun _=>?_)
 refine lIn (fun i:Nat=>i≤OO.length) (fun i=>⟨[(0,.val (.slice base n cap)),(3,.loc 0 r3 0),(4,.val (.slice ub U.length uc)),(5,.val (.slice tb TT.length tc)),(8,.row 1 b2 (TT++OO).length c2),(86,.val (.slice ob OO.length oc)),(87,.val (.int .i64 OO.length)),(88,.val (.int .i64 i))],[(0,some (.cells r3 [.val (.slice q.1 p.rels.length q.2)] 25))],2,μ6,Mem.nil⟩) (fun i=>OO.length-i)
  0 (Nat.zero_le _) (fun _=>⟨rfl,rfl⟩) ⟨⟨rfl,rfl,rfl,rfl,rfl,rfl,rfl,rfl,trivial⟩,⟨rfl,trivial⟩,rfl,rfl⟩ ?_
 intro i hi
 refine ifd (fun hlt=>?_) (fun hlt=>?_)
 ·have w_ := aSo (l := OO) (i := i) (by omega)
  obtain⟨f,hf⟩:=w_
  have w_:=F.elemV (hso.mono hle36) hf
  obtain⟨ad,p2,hel,hrf⟩:=w_
  refine eIn hel ?_
  intro r14
  refine cGv (iE (hst.mono hle36) hrf) ?_
  refine iIn (fun h=>absurd (of_decide_eq_true h) (hdis f (mAt hf))) (fun _=>?_)
  exact aB (by omega) (by omega) ⟨i+1,by omega,by omega,⟨⟨rfl,rfl,rfl,rfl,rfl,rfl,rfl,rfl,trivial⟩,⟨rfl,trivial⟩,rfl,rfl⟩⟩
 have hle26:=hle3.trans hle36
 have hmf:=gG (uc:=uc) (cap:=cap) (((hb.mono hle1).mono hle2).mono hle26) 80 (by decide) (hrp2.mono hle26) (hus.mono hle26) hp.ok hp.ne (hU.ok (by decide)) hU.max
 refine cPl hmf fun v7 μ7 hle7 hR7=>?_
 obtain⟨L,hL,hLl,hrL⟩:=hR7
 have w_:=FsV.sl hrL
 obtain⟨fb,fc,rfl,-,hsL⟩:=w_
 have hle27:=hle26.trans hle7
 have hr3:=cM (μ:=μ7) (l:=L.map F.fc) (fb:=fb) (fc:=fc) (uc:=uc) (hrp2.mono hle27) (hus0.mono hle27) (by rw[List.length_map];exact hrL) (by rw[List.length_map];omega)
 rw[List.length_map,List.length_map]at hr3
 refine cPl hr3 fun v8 μ8 hle8 hR8=>?_
 have hrm3:bZ p (U.map T.tm) (L.map F.fc)=some (gam (aN p U) L):=by rw[bZ,hgo,Option.bind_some,if_pos hL.fit.lift,F.fcs]
 rw[hrm3]at hR8
 obtain⟨tv8,rfl,hR8⟩:=hR8
 have hfS:FsOk p (gam (aN p U) L):=lL hgk.2
 have hSl:=iD (aN p U) L
 generalize gam (aN p U) L=S at*
 have w_:=FsV.sl hR8.rep
 obtain⟨b8,c8,rfl,-,hs8⟩:=w_
 refine iIn (fun _=>?_) (fun h=>nomatch h)
 have hle28:=hle27.trans hle8
 have hst8:=jA (μ:=μ8) (l:=S.map F.fc) (fb:=b8) (fc:=c8) (uc:=uc) (hrp2.mono hle28) (hus0.mono hle28) (by rw[List.length_map];exact hR8.rep) (by rw[List.length_map];omega)
 rw[List.length_map,List.length_map]at hst8
 refine cPl hst8 fun v9 μ9 hle9 hR9=>?_
 subst hR9
 refine aK (fun _=>rPl rfl) (fun hs=>?_)
 have hgs:∀f,f∈gam (aN p U) S↔f∈S:=fun f=>by
  obtain⟨y,hy,hx⟩:=hs
  rw[bZ,hgo,Option.bind_some,if_pos hfS.lift,F.fcs]at hy
  cases hy
  have:=hx f
  rwa [F.fcs]at this
 have w_:=hbet S hgs
 obtain⟨hb1,hb2⟩:=w_
 have hle39:=(hle36.trans hle7).trans (hle8.trans hle9)
 refine cGv (cK (hst.mono hle39) (hs8.mono hle9)) ?_
 refine iIn (fun _=>?_) (fun h=>absurd hb1 (of_decide_eq_false h))
 refine cGv (cK (hs8.mono hle9) (hsp.mono ((hle6.trans hle7).trans (hle8.trans hle9)))) ?_
 refine rPl ?_
 rw[decide_eq_true fun f hf=>(hpm f).2 (hb2 f hf)]
end
end Go.Vx
