/- Texts of the proof, part E1. -/
import Derived.Test.YtnogdfionomoaaaGreatM6
namespace Go.Vx
theorem D.wds_of:∀{xs:List D},(∀x∈xs,x.wd)→D.wds xs
 |[],_=>trivial
 |d::r,k=>⟨k d (by simp),D.wds_of fun x h=>k x (by simp[h])⟩
end Go.Vx
namespace Go.Vx
open Go.Proofs Classical
section
variable {μ:Mem}
def qHg(μ':Mem)(l:List Int)(n:Int)(v:Value):Prop:=∃r:List Int,RepV μ' (.sl 1 (r.map D.i)) v∧(∀x,x∈r↔x=n∨x∈l)∧r.length≤l.length+1
theorem gN{l:List Int}{v:Value}{n:Int}(hv:RepV μ (.sl 1 (l.map D.i)) v)(hb:l.length≤1000000000):Spec Tryz.prog 248 [v,.int .i64 n] μ fun v μ'=>qHg μ' l n v:=by
 have w_:=Rep.sl hv
 obtain⟨base,cap,rfl,hsl⟩:=w_
 have hcap:=Rep.lens hv
 rw[List.length_map]at hsl hcap hv ⊢
 refine Spec.mk Tryz.func248 (by kernel_rfl) ?_
 refine lIn (fun k:Nat=>k≤l.length) (fun k=>⟨[(0,.val (.slice base l.length cap)),(1,.val (.int .i64 n)),(5,.val (.int .i64 k))],[],0,μ,Mem.nil⟩) (fun k=>k)
  l.length (Nat.le_refl _) (fun i=>⟨rfl,rfl⟩) ⟨⟨rfl,rfl,rfl,trivial⟩,trivial,rfl,rfl⟩ ?_
 intro k hk
 refine ifd (fun h1=>?_) (fun h1=>?_)
 ·have w_ := aSo (l := l) (i := k - 1) (by omega)
  obtain⟨x,hx⟩:=w_
  have w_:=Ints.elem hsl hx
  obtain⟨ad,hel⟩:=w_
  refine nEq (x:=((k-1:Nat):Int)) (by rw[aA (by omega) (by omega)];omega) ?_
  refine eIn hel ?_
  refine ifd (fun h2=>?_) (fun h2=>?_)
  ·exact nEq (x:=((k-1:Nat):Int)) (by rw[aA (by omega) (by omega)];omega) ⟨k-1,by omega,by omega,⟨⟨rfl,rfl,rfl,trivial⟩,trivial,rfl,rfl⟩⟩
  ·refine ifd (fun h3 => ?_) (fun h3 => ?_)
   ·have w_ := aSo (l := l) (i := k) (by omega)
    obtain⟨y,hy⟩:=w_
    have w_:=Ints.elem hsl hy
    obtain⟨ad2,hel2⟩:=w_
    refine eIn hel2 ?_
    refine ifd (fun h4=>rPl ⟨l,hv,fun x=>⟨.inr,fun hx=>hx.elim (fun e=>by rw[e,←h4];exact mAt hy) id⟩,by omega⟩) (fun h4=>?_)
    intro r0
    refine aF 0 k rfl rfl (by omega) (by omega) ?_
    refine aG _ (Ints.src hsl (a:=0) (b:=k) (by omega) hk hcap) ?_
    refine gIn ?_ ?_ fun b1 c1 _=>?_
    ·show(0+(aD _).length)*8≤_;simp[aD];omega
    ·show 0+(aD _).length≤9223372036854775807;simp[aD];omega
    intro r1
    refine gIn ?_ ?_ fun b2 c2 _=>?_
    ·show(([]++aD _).length+1)*8≤_;simp[aD];omega
    ·show([]++aD _).length+1≤9223372036854775807;simp[aD];omega
    refine aF k l.length rfl rfl hk (by omega) ?_
    refine aG _ (Ints.src hsl (a:=k) (b:=l.length) hk (Nat.le_refl _) hcap) ?_
    refine gIn ?_ ?_ fun b3 c3 _=>?_
    ·show(([]++aD _++[_]).length+(aD _).length)*8≤_;simp[aD];omega
    ·show([]++aD _++[_]).length+(aD _).length≤9223372036854775807;simp[aD];omega
    refine rFz [0] fun μ' hle hno hrow=> .inl ⟨aO l n k,?_,cF l n k,?_⟩
    ·have e:[]++aD ((l.drop 0).take (k-0))++[.int .i64 n]++aD ((l.drop k).take (l.length-k))=aD (aO l n k):=by
      simp[aD,aO]
      rw[List.take_of_length_le (by simp)]
     rw[e]at hrow ⊢
     exact Ints.sl hrow (Nat.le_trans (m:=2000000000) (by simp[aO];omega) (by decide))
    ·simp[aO];omega
   ·intro r0
    refine aF 0 k rfl rfl (by omega) (by omega) ?_
    refine aG _ (Ints.src hsl (a:=0) (b:=k) (by omega) hk hcap) ?_
    refine gIn ?_ ?_ fun b1 c1 _=>?_
    ·show(0+(aD _).length)*8≤_;simp[aD];omega
    ·show 0+(aD _).length≤9223372036854775807;simp[aD];omega
    intro r1
    refine gIn ?_ ?_ fun b2 c2 _=>?_
    ·show(([]++aD _).length+1)*8≤_;simp[aD];omega
    ·show([]++aD _).length+1≤9223372036854775807;simp[aD];omega
    refine aF k l.length rfl rfl hk (by omega) ?_
    refine aG _ (Ints.src hsl (a:=k) (b:=l.length) hk (Nat.le_refl _) hcap) ?_
    refine gIn ?_ ?_ fun b3 c3 _=>?_
    ·show(([]++aD _++[_]).length+(aD _).length)*8≤_;simp[aD];omega
    ·show([]++aD _++[_]).length+(aD _).length≤9223372036854775807;simp[aD];omega
    refine rFz [0] fun μ' hle hno hrow=> .inl ⟨aO l n k,?_,cF l n k,?_⟩
    ·have e:[]++aD ((l.drop 0).take (k-0))++[.int .i64 n]++aD ((l.drop k).take (l.length-k))=aD (aO l n k):=by
      simp[aD,aO]
      rw[List.take_of_length_le (by simp)]
     rw[e]at hrow ⊢
     exact Ints.sl hrow (Nat.le_trans (m:=2000000000) (by simp[aO];omega) (by decide))
    ·simp[aO];omega
 ·refine ifd (fun h3 => ?_) (fun h3 => ?_)
  ·have w_ := aSo (l := l) (i := k) (by omega)
   obtain⟨y,hy⟩:=w_
   have w_:=Ints.elem hsl hy
   obtain⟨ad2,hel2⟩:=w_
   refine eIn hel2 ?_
   refine ifd (fun h4=>rPl ⟨l,hv,fun x=>⟨.inr,fun hx=>hx.elim (fun e=>by rw[e,←h4];exact mAt hy) id⟩,by omega⟩) (fun h4=>?_)
   intro r0
   refine aF 0 k rfl rfl (by omega) (by omega) ?_
   refine aG _ (Ints.src hsl (a:=0) (b:=k) (by omega) hk hcap) ?_
   refine gIn ?_ ?_ fun b1 c1 _=>?_
   ·show(0+(aD _).length)*8≤_;simp[aD];omega
   ·show 0+(aD _).length≤9223372036854775807;simp[aD];omega
   intro r1
   refine gIn ?_ ?_ fun b2 c2 _=>?_
   ·show(([]++aD _).length+1)*8≤_;simp[aD];omega
   ·show([]++aD _).length+1≤9223372036854775807;simp[aD];omega
   refine aF k l.length rfl rfl hk (by omega) ?_
   refine aG _ (Ints.src hsl (a:=k) (b:=l.length) hk (Nat.le_refl _) hcap) ?_
   refine gIn ?_ ?_ fun b3 c3 _=>?_
   ·show(([]++aD _++[_]).length+(aD _).length)*8≤_;simp[aD];omega
   ·show([]++aD _++[_]).length+(aD _).length≤9223372036854775807;simp[aD];omega
   refine rFz [0] fun μ' hle hno hrow=> .inl ⟨aO l n k,?_,cF l n k,?_⟩
   ·have e:[]++aD ((l.drop 0).take (k-0))++[.int .i64 n]++aD ((l.drop k).take (l.length-k))=aD (aO l n k):=by
     simp[aD,aO]
     rw[List.take_of_length_le (by simp)]
    rw[e]at hrow ⊢
    exact Ints.sl hrow (Nat.le_trans (m:=2000000000) (by simp[aO];omega) (by decide))
   ·simp[aO];omega
  ·intro r0
   refine aF 0 k rfl rfl (by omega) (by omega) ?_
   refine aG _ (Ints.src hsl (a:=0) (b:=k) (by omega) hk hcap) ?_
   refine gIn ?_ ?_ fun b1 c1 _=>?_
   ·show(0+(aD _).length)*8≤_;simp[aD];omega
   ·show 0+(aD _).length≤9223372036854775807;simp[aD];omega
   intro r1
   refine gIn ?_ ?_ fun b2 c2 _=>?_
   ·show(([]++aD _).length+1)*8≤_;simp[aD];omega
   ·show([]++aD _).length+1≤9223372036854775807;simp[aD];omega
   refine aF k l.length rfl rfl hk (by omega) ?_
   refine aG _ (Ints.src hsl (a:=k) (b:=l.length) hk (Nat.le_refl _) hcap) ?_
   refine gIn ?_ ?_ fun b3 c3 _=>?_
   ·show(([]++aD _++[_]).length+(aD _).length)*8≤_;simp[aD];omega
   ·show([]++aD _++[_]).length+(aD _).length≤9223372036854775807;simp[aD];omega
   refine rFz [0] fun μ' hle hno hrow=> .inl ⟨aO l n k,?_,cF l n k,?_⟩
   ·have e:[]++aD ((l.drop 0).take (k-0))++[.int .i64 n]++aD ((l.drop k).take (l.length-k))=aD (aO l n k):=by
     simp[aD,aO]
     rw[List.take_of_length_le (by simp)]
    rw[e]at hrow ⊢
    exact Ints.sl hrow (Nat.le_trans (m:=2000000000) (by simp[aO];omega) (by decide))
   ·simp[aO];omega
theorem dF{α β:Type}(f:α→List β)(l:List α)(i:Nat):((l.take i).flatMap f).length≤(l.flatMap f).length:=by
 have:=congrArg (fun l=>(l.flatMap f).length) (List.take_append_drop i l)
 simp only[List.flatMap_append,List.length_append]at this
 omega
theorem T.vars_size:∀x:T,x.vars.length≤x.size
 | .nil=>by simp[T.vars]
 | .var _=>by simp[T.vars,T.size]
 | .sym _=>by simp[T.vars]
 | .num _=>by simp[T.vars]
 | .pair a b=>by
  have:=T.vars_size a
  have:=T.vars_size b
  simp[T.vars,T.size];omega
def qR(μ':Mem)(l vs:List Int)(v:Value):Prop:=∃r:List Int,RepV μ' (.sl 1 (r.map D.i)) v∧(∀x,x∈r↔x∈vs∨x∈l)∧r.length≤l.length+vs.length
theorem jY:∀(x:T) {μ:Mem} {l:List Int} {w v:Value},RepV μ x.tm.d w→RepV μ (.sl 1 (l.map D.i)) v→l.length+x.vars.length≤1000000000→Spec Tryz.prog 204 [w,v] μ fun v μ'=>qR μ' l x.vars v:=
 T.ind fun x ih μ l w v hw hv hb=>by
  obtain⟨base,cap,rfl,hsl⟩:∃base cap,w= .agg #[.int .i64 x.tm.kind,.int .i64 x.tm.num,.string x.tm.name,.slice base x.args.length cap]∧Sl μ 4 base x.args.length ((x.args.map T.tm).map Tm.d):=by
   have h1:=Tm.inv (k:=x.tm.kind) (n:=x.tm.num) (s:=x.tm.name) (l:=x.tm.args) (v:=w) (by cases x<;>exact hw)
   rw[T.tm_args,List.length_map]at h1
   exact h1
  have hn:=aH hsl.max
  refine Spec.mk Tryz.func204 (by kernel_rfl) ?_
  intro r
  refine ifd (fun h=>?_) (fun h=>?_)
  ·have e : x.vars = [x.tm.num] := by cases x <;> simp_all [T.vars, T.tm, Tm.kind, Tm.num]
   refine cPl (gN hv (by omega)) fun v' μ' hle hR=>rPl ?_
   obtain⟨r,h1,h2,h3⟩:=hR
   exact⟨r,h1,by simpa[e]using h2,by simpa[e]using h3⟩
  have e:=T.vars_args h
  refine lIn (fun p:Nat×Value×Mem=>p.1≤x.args.length∧μ.Le p.2.2∧qR p.2.2 l ((x.args.take p.1).flatMap T.vars) p.2.1)
   (fun(i,v,μ')=>⟨[(1,.val v),(15,.val (.slice base x.args.length cap)),(16,.val (.int .i64 x.args.length)),(17,.val (.int .i64 i))],[],1,μ',Mem.nil⟩) (fun p=>x.args.length-p.1)
   (0,v,μ) ⟨by simp,Mem.Le.refl μ,l,hv,by simp,by simp⟩ (fun(_,_,_)=>⟨rfl,rfl⟩) ⟨⟨rfl,rfl,rfl,rfl,trivial⟩,trivial,rfl,rfl⟩ ?_
  rintro⟨i,v,μ'⟩ ⟨hi,hle,r,h1,h2,h3⟩
  dsimp only at hi hle h1 h2 h3
  have hpre:((x.args.take i).flatMap T.vars).length≤x.vars.length:=by
   rw[e];exact dF _ _ _
  refine ifd (fun h=>?_) (fun h=>?_)
  ·have w_ := aSo (l := x.args) (i := i) (by omega)
   obtain⟨t,ht⟩:=w_
   have ht':(x.args.map T.tm)[i]? =some t.tm:=by simp[ht]
   have w_:=Tm.elem (hsl.mono hle) ht'
   obtain⟨ad,p,hel,hr⟩:=w_
   have hsucc:(x.args.take (i+1)).flatMap T.vars=(x.args.take i).flatMap T.vars++t.vars:=by
    rw[List.take_add_one,ht,Option.toList_some,List.flatMap_append];simp
   have hall:((x.args.take (i+1)).flatMap T.vars).length≤x.vars.length:=by
    rw[e];exact dF _ _ _
   rw[hsucc,List.length_append]at hall
   refine eIn hel ?_
   intro r2
   refine cPl (ih t (mAt ht) hr h1 (by omega)) fun v' μ'' hle2 hR=>?_
   obtain⟨q,g1,g2,g3⟩:=hR
   refine aB (by omega) (by omega) ⟨(i+1,v',μ''),⟨by dsimp only;omega,hle.trans hle2,q,g1,fun y=>?_,?_⟩,by dsimp only;omega,⟨⟨rfl,rfl,rfl,rfl,trivial⟩,trivial,rfl,rfl⟩⟩
   ·dsimp only
    rw[g2,h2,hsucc,List.mem_append]
    constructor
    ·rintro(h|h|h)<;>simp[h]
    ·rintro((h|h)|h)<;>simp[h]
   ·dsimp only
    rw[hsucc,List.length_append];omega
  ·have hi' : i = x.args.length := by omega
   subst hi'
   rw[List.take_length,←e]at h2 h3
   exact rPl ⟨r,h1,h2,h3⟩
end
end Go.Vx
namespace Go.Vx
open Go.Proofs Classical
section
variable {μ:Mem}
theorem eD(x:T){v:Value}(hv:RepV μ x.tm.d v)(hx:x.ok)(hw:x.tm.d.wd):aP Tryz.prog 141 [v] μ (.bool (decide (x.vars=[]))):=by
 have w_:=Tm.invV hv
 obtain⟨p,rfl⟩:=w_
 have:=T.vars_size x
 have:=hx.2
 refine Spec.forget (Spec.mk Tryz.func141 (by kernel_rfl) ?_)
 intro r
 refine cGv (dO x.tm hv hw) ?_
 refine ifd (fun _=>?_) (fun h=>absurd hx.tm h)
 refine cPl (jY x (l:=[]) hv (Rep.nilSl 1) (by simp;omega)) fun v' μ' hle hR=>?_
 obtain⟨r,h1,h2,h3⟩:=hR
 have w_:=Rep.sl h1
 obtain⟨b,c,rfl,_⟩:=w_
 refine rPl (isI ?_)
 rw[List.length_map]
 constructor
 ·intro hh
  have:r=[]:=List.eq_nil_of_length_eq_zero (by omega)
  subst this
  cases hx:x.vars with
  |nil=>rfl
  |cons a l=>
   have:=(h2 a).2 (.inl (by simp[hx]))
   simp at this
 ·intro hh
  rw[hh]at h3
  simp at h3
  rw[h3];rfl
end
end Go.Vx
namespace Go.Vx
open Go.Proofs Classical
theorem jW:∀(x:T) {μ:Mem} {v:Value},RepV μ x.tm.d v→Spec Tryz.prog 207 [v] μ fun v μ'=>RepV μ' x.tm.d v:=
 T.ind fun x ih μ v hv=>by
  have w_:=T.inv hv
  obtain⟨base,cap,rfl,hsl⟩:=w_
  have hn:=T.args_le x
  refine Spec.mk Tryz.func207 (by kernel_rfl) ?_
  intro r1 r2 r3
  refine cX (fun p:Nat×Option Nat×Nat×List Value×Mem=>p.1≤x.args.length∧μ.Le p.2.2.2.2∧Rows p.2.2.2.2 4 (((x.args.take p.1).map T.tm).map Tm.d) p.2.2.2.1)
   (fun (i, b, c, ys, μ') => ⟨[(2, .loc 1 r2 0), (3, .loc 2 r3 0), (14, .val (.slice base x.args.length cap)), (15, .val (.int .i64 x.args.length)), (16, .val (.int .i64 i))],
    [(1,some (.cells r2 [.val (.int .i64 0),.val (.int .i64 0),.val (.string ⟨#[]⟩),.val (.slice none 0 0)] 75)),(2,some (.cells r3 [.val (.int .i64 x.tm.kind),.val (.int .i64 x.tm.num),.val (.string x.tm.name),.row 3 b ys.length c] 75)),(3,some (.row b c 75 4 ys))],4,μ',Mem.nil⟩) (fun p=>x.args.length-p.1)
   (0,none,0,[],μ) ⟨by simp,Mem.Le.refl μ,.nil⟩ (fun(_,_,_,_,_)=>⟨rfl,rfl⟩) ⟨⟨⟨_,rfl,.inl rfl⟩,⟨_,rfl,.inl rfl⟩,⟨_,rfl,.inl rfl⟩,⟨_,rfl,.inl rfl⟩,⟨_,rfl,.inl rfl⟩,trivial⟩,⟨.inl rfl,.inr (.inr ⟨_,_,_,_,rfl,rfl,.inl rfl,.inl rfl,.inl rfl,.inr ⟨3,rfl,rfl,Nat.le_refl _⟩,trivial⟩),.inr (.inl ⟨_,_,rfl,Nat.le_refl _⟩),trivial⟩,rfl,rfl⟩ ?_
  rintro⟨i,b,c,ys,μ'⟩ ⟨hi,hle,hrows⟩
  dsimp only at hi hle hrows
  have hlen:=hrows.len
  simp only[List.length_map,List.length_take]at hlen
  refine ifd (fun h=>?_) (fun h=>?_)
  ·have w_ := aSo (l := x.args) (i := i) (by omega)
   obtain⟨t,ht⟩:=w_
   have ht':(x.args.map T.tm)[i]? =some t.tm:=by simp[ht]
   have w_:=Tm.elem (hsl.mono hle) ht'
   obtain⟨ad,p,hel,hr⟩:=w_
   refine eIn hel ?_
   intro r4
   refine cPl (ih t (mAt ht) hr) fun v' μ'' hle2 hR=>?_
   have w_:=Tm.invV hR
   obtain⟨q,rfl⟩:=w_
   intro r5
   refine gIn ?_ ?_ fun b' c' _=>?_
   ·show(ys.length+1)*56≤_;omega
   ·show ys.length+1≤9223372036854775807;omega
   have hsucc:((x.args.take (i+1)).map T.tm).map Tm.d=((x.args.take i).map T.tm).map Tm.d++[t.tm.d]:=by
    rw[List.take_add_one,ht,Option.toList_some];simp
   exact aB (by omega) (by omega) ⟨(i+1,b',c',_,μ''),⟨by dsimp only;omega,hle.trans hle2,by rw[hsucc];exact(hrows.mono hle2).append (Rows.one hR (Tm.d_n _))⟩,by dsimp only;omega,⟨⟨rfl,rfl,rfl,rfl,rfl,trivial⟩,⟨rfl,rfl,rfl,trivial⟩,rfl,rfl⟩⟩
  ·obtain rfl : i = x.args.length := by omega
   rw[List.take_length]at hrows
   refine rFz [3] fun μ2 hle2 hno hrow=> .inl ?_
   rw[T.d_eq]
   exact⟨_,rfl,RepS.int (RepS.int (RepS.str (RepS.last (Rows.sl hrow (hrows.mono hle2) (Nat.le_trans (m:=10) (by omega) (by decide))))))⟩
end Go.Vx
namespace Go.Vx
open Go.Proofs Classical
section
variable {μ:Mem}
def dZ(H:Mem)(r:Nat)(b:Bool):Mem:=H.set r (.cells #[.bool b] 4 (0,0))
end
end Go.Vx
namespace Go.Vx
open Go.Proofs Classical
section
variable {μ:Mem}
theorem dG{xs:List T}{base:Option Addr}{cap:Nat}(hsl:Sl μ 4 base xs.length ((xs.map T.tm).map Tm.d))(hn:xs.length≤10000000):
  Spec Tryz.prog 144 [.slice base xs.length cap] μ fun v μ'=>RepV μ' (.sl 4 ((xs.map T.tm).map Tm.d)) v:=by
 refine Spec.mk Tryz.func144 (by kernel_rfl) ?_
 intro r6
 refine lIn (fun p:Nat×Option Nat×Nat×List Value×Mem=>p.1≤xs.length∧μ.Le p.2.2.2.2∧Rows p.2.2.2.2 4 (((xs.take p.1).map T.tm).map Tm.d) p.2.2.2.1)
  (fun(i,b,c,ys,μ')=>⟨[(3,.row 0 b ys.length c),(7,.val (.slice base xs.length cap)),(8,.val (.int .i64 xs.length)),(9,.val (.int .i64 i))],[(0,some (.row b c 75 4 ys))],1,μ',Mem.nil⟩) (fun p=>xs.length-p.1)
  (0,some r6,0,[],μ) ⟨by simp,Mem.Le.refl _,.nil⟩ (fun(_,_,_,_,_)=>⟨rfl,rfl⟩) ⟨⟨rfl,rfl,rfl,rfl,trivial⟩,⟨rfl,trivial⟩,rfl,rfl⟩ ?_
 rintro⟨i,b,c,ys,μ'⟩ ⟨hi,hle,hrows⟩
 dsimp only at hi hle hrows
 have hlen:=hrows.len
 simp only[List.length_map,List.length_take]at hlen
 refine ifd (fun h=>?_) (fun h=>?_)
 ·have w_ := aSo (l := xs) (i := i) (by omega)
  obtain⟨x,hx'⟩:=w_
  have w_:=Tm.elem (i:=i) (t:=x.tm) (hsl.mono hle) (by simp[hx'])
  obtain⟨ad,p,hel,hto⟩:=w_
  refine eIn hel ?_
  intro r
  refine cPl (jW _ hto) fun v4 μ4 hle4 hR4=>?_
  have w_:=Tm.invV hR4
  obtain⟨q,rfl⟩:=w_
  intro r5
  refine gIn ?_ ?_ fun b' c' _=>?_
  ·show(ys.length+1)*56≤_;omega
  ·exact Nat.le_trans (m:=100000000) (show ys.length+1≤_ by omega) (by decide)
  refine aB (by omega) (by omega) ⟨(i+1,b',c',_,μ4),⟨by dsimp only;omega,hle.trans hle4,?_⟩,by dsimp only;omega,⟨⟨rfl,rfl,rfl,rfl,trivial⟩,⟨rfl,trivial⟩,rfl,rfl⟩⟩
  dsimp only
  rw[List.take_add_one,hx',Option.toList_some]
  simp only[List.map_append,List.map_cons,List.map_nil]
  exact(hrows.mono hle4).append (Rows.one hR4 (Tm.d_n _))
 ·obtain rfl : i = xs.length := by omega
  rw[List.take_length]at hrows
  refine rFz [0] fun μ' hle' hno hrow=> .inl ?_
  exact Rows.sl hrow (hrows.mono hle') (Nat.le_trans (m:=100000000) (by omega) (by decide))
end
end Go.Vx
namespace Go.Vx
open Go.Proofs Classical
section
variable {α:Type} {c:α→α→Int}
theorem Asc3.take_lt(h:Ord3 c){l:List α}(hl:Asc3 c l){k:Nat}{y e:α}(hy:l[k]? =some y)(hc:c y e<0):∀x∈l.take (k+1),c x e<0:=by
 rw[List.take_add_one,hy,Option.toList_some]
 intro x hx
 rcases List.mem_append.1 hx with hx|hx
 ·rw [Asc3, ← List.take_append_drop k l, List.pairwise_append] at hl
  exact h.trans _ _ _ (hl.2.2 x hx y (by rw[bJ hy];simp)) hc
 ·rw[List.mem_singleton.1 hx];exact hc
theorem Asc3.drop_gt(h:Ord3 c){l:List α}(hl:Asc3 c l){k:Nat}{y e:α}(hy:l[k]? =some y)(hc:c e y<0):∀x∈l.drop k,c e x<0:=by
 rw[bJ hy]
 intro x hx
 rcases List.mem_cons.1 hx with rfl|hx
 ·exact hc
 ·rw [Asc3, ← List.take_append_drop k l, List.pairwise_append, bJ hy, List.pairwise_cons] at hl
  exact h.trans _ _ _ hc (hl.2.1.1 x hx)
end
end Go.Vx
namespace Go.Vx
open Go.Proofs Classical
section
variable {μ:Mem}
theorem gP(n:Int):aP Tryz.prog 217 [.int .i64 n] μ (.bool (decide (n=10))):=by
 refine Spec.mk Tryz.func217 (by kernel_rfl) ?_
 exact rGv rfl rfl
theorem iQ{H:Mem}{r3:Nat}(r:Nat)(b:Bool){g:Gl}{v:Value}(hv:RepV μ g.d v)(hne:r3≠r)(h3:H r3=some (.cells #[.func (.func 217) #[] #[]] 161 (0,0))):
  SpecH Tryz.prog 255 [v,.pointer (some ⟨r,0,none⟩),.pointer (some ⟨r3,0,none⟩)] μ (dZ H r b) fun r' μ' h'=>r'= .tuple #[]∧μ'=μ∧h'=dZ H r (b||decide (g.kind=10)):=by
 have w_:=Gl.inv hv
 obtain⟨p,rfl,-,-⟩:=w_
 refine SpecH.mk [] Tryz.func255 (by kernel_rfl) ?_
 intro r0
 refine oIn [.bool b] rfl (dS (set_self _ _ _)) ?_
 refine iIn (fun hb=>?_) (fun hb=>?_)
 ·refine sIn (h := dZ H r b) (a := ⟨r, 0, none⟩) [.bool b] 4 (set_self _ _ _) rfl (Nat.le_refl _) ?_
  exact rPl ⟨rfl,rfl,by rw[hb];exact Mem.set_set _ _ _ _⟩
 ·refine oIn [.func (.func 217) #[] #[]] rfl (dS ((Mem.set_ne hne).trans h3)) ?_
  refine cGv (gP _) ?_
  refine sIn (h:=dZ H r b) (a:=⟨r,0,none⟩) [.bool b] 4 (set_self _ _ _) rfl (Nat.le_refl _) ?_
  exact rPl ⟨rfl,rfl,by rw[hb];exact Mem.set_set _ _ _ _⟩
theorem nR:∀(l:List Gl) (b:Bool),l.foldl (fun b g=>b||decide (g.kind=10)) b=(b|| !decide (∀x∈l,x.kind≠10))
 |[],b=>by simp
 |a::l,b=>by
  rw[List.foldl_cons,nR l]
  by_cases h:a.kind=10<;>cases b<;>simp[h]
theorem jT{g:Gl}{v:Value}(hv:RepV μ g.d v):Spec Tryz.prog 216 [v,.func (.func 217) #[] #[]] μ fun r μ'=>r= .bool (!decide g.Pos)∧μ'=μ:=by
 have w_:=Gl.inv hv
 obtain⟨p,rfl,-,-⟩:=w_
 refine Spec.mkO [3,5] Tryz.func216 (by kernel_rfl) ?_
 intro r1 r3 hm3 ho3 r5 hm5 ho5
 have hne:r3≠r5:=fun e=>by
  subst e
  have h:Mem.set Mem.nil r3 _ r3=none:=ho5
  rw[Mem.set_at]at h;cases h
 refine sIn [.bool false] 4 (Mem.set_at _ _ _) rfl (Nat.le_refl _) ?_
 refine cOw (R:=fun r μ' h'=>r= .tuple #[]∧μ'=μ∧h'=dZ (Mem.nil.set r3 (.cells #[.func (.func 217) #[] #[]] 161 (0,0))) r5 (g.all.foldl (fun b g=>b||decide (g.kind=10)) false)) ?_ fun v μ' h' hle hap hR=>?_
 ·have:=jP (μ:=μ) (fun b h=>h=dZ (Mem.nil.set r3 (.cells #[.func (.func 217) #[] #[]] 161 (0,0))) r5 b) (fun b g=>b||decide (g.kind=10)) (fun _=>True) (k:=255) (caps:=[.pointer (some ⟨r5,0,none⟩),.pointer (some ⟨r3,0,none⟩)])
   (fun s h x v _ hx hj=>by subst hj;exact iQ r5 s hx hne (Mem.set_at _ _ _)) g false _ hv (fun _ _=>trivial) rfl
  have e:∀X:Mem,((X.set r5 (.cells #[.bool false] 4 (0,0))).set r5 (.cells #[.bool false] 4 (0,0)))=dZ X r5 false:=fun X=>Mem.set_set _ _ _ _
  rw[←e]at this
  exact this
 obtain⟨rfl,e4,rfl⟩:=hR
 obtain rfl:=e4.symm
 rw[nR,Bool.false_or]
 refine oIn [.bool (!decide (∀x∈g.all,x.kind≠10))] rfl (dS (set_self _ _ _)) ?_
 exact rPl ⟨congrArg (fun b=>Value.bool (!b)) (decide_eq_decide.2 Iff.rfl),rfl⟩
theorem iS{g:Gl}{v:Value}(hv:RepV μ g.d v):Spec Tryz.prog 155 [v] μ fun r μ'=>r= .bool (!decide g.Pos)∧μ'=μ:=by
 have hv0:=hv
 have w_:=Gl.inv hv
 obtain⟨p,rfl,-,-⟩:=w_
 refine Spec.mk Tryz.func155 (by kernel_rfl) ?_
 intro r1
 refine cPl (jT hv0) fun v1 μ1 hle1 hR=>?_
 obtain⟨rfl,e⟩:=hR
 obtain rfl:=e.symm
 exact rPl ⟨rfl,rfl⟩
theorem iU{p:Pg}{v:Value}(hp:RepV μ p.d v):Spec Tryz.prog 84 [v] μ fun r μ'=>r= .bool (decide (∀r∈p.rels,r.body.Pos))∧μ'=μ:=by
 have w_:=Pg.inv hp
 obtain⟨q,rfl,hrl⟩:=w_
 have hn:=aH hrl.max
 refine Spec.mk Tryz.func84 (by kernel_rfl) ?_
 intro r1
 refine lIn (fun i:Nat=>i≤p.rels.length∧∀(j:Nat) x,j<i→p.rels[j]? =some x→x.body.Pos)
  (fun i=>⟨[(6,.val (.slice q.1 p.rels.length q.2)),(7,.val (.int .i64 p.rels.length)),(8,.val (.int .i64 i))],[],1,μ,Mem.nil⟩) (fun i=>p.rels.length-i)
  0 ⟨Nat.zero_le _,fun j x h=>by omega⟩ (fun _=>⟨rfl,rfl⟩) ⟨⟨rfl,rfl,rfl,trivial⟩,trivial,rfl,rfl⟩ ?_
 rintro i ⟨hi,hall⟩
 refine ifd (fun hlt=>?_) (fun hlt=>?_)
 ·have w_ := aSo (l := p.rels) (i := i) (by omega)
  obtain⟨x,hx⟩:=w_
  have w_:=Rl.elemA hrl hx
  obtain⟨ad,q2,hel,hr,hb⟩:=w_
  have hb:RepV μ x.body.d (.agg (x.body.cs q2).toArray):=hb
  refine eIn hel ?_
  intro r2
  refine cPl (iS hb) fun v1 μ1 hle1 hR=>?_
  obtain⟨rfl,e⟩:=hR
  obtain rfl:=e.symm
  refine iIn (fun h=>rPl ⟨isF fun k=>?_,rfl⟩) (fun h=>?_)
  ·have:=k x (mAt hx);simp[this]at h
  ·have hpos : x.body.Pos := by simpa using h
   refine aB (by omega) (by omega) ⟨i+1,⟨by omega,fun j y hj hy=>?_⟩,by omega,⟨⟨rfl,rfl,rfl,trivial⟩,trivial,rfl,rfl⟩⟩
   rcases Nat.lt_or_ge j i with h6|h6
   ·exact hall j y h6 hy
   ·obtain rfl : j = i := by omega
    rw[hx]at hy;cases hy;exact hpos
 ·obtain rfl : i = p.rels.length := by omega
  exact rPl ⟨isT fun x hx=>by
   have w_:=List.mem_iff_getElem?.1 hx
   obtain⟨j,hj⟩:=w_
   exact hall j x (List.getElem?_eq_some_iff.1 hj).1 hj,rfl⟩
theorem cW{p:Pg}{v:Value}(hp:RepV μ p.d v):Spec Tryz.prog 31 [v] μ fun r _=>r= .bool (decide p.Pos):=by
 have w_:=Pg.inv hp
 obtain⟨q,rfl,hrl⟩:=w_
 refine Spec.mk Tryz.func31 (by kernel_rfl) ?_
 intro r1
 refine cPl (bX hp) fun v1 μ1 hle1 hR=>?_
 obtain rfl:=hR
 refine ifd (fun hok=>?_) (fun hok=>rPl (isF fun k=>hok k.1))
 refine cPl (iU (hp.mono hle1)) fun v2 μ2 hle2 hR=>?_
 obtain⟨rfl,e⟩:=hR
 refine rPl ?_
 by_cases h:∀r∈p.rels,r.body.Pos
 ·rw[decide_eq_true h,decide_eq_true (show p.Pos from⟨hok,h⟩)]
 ·rw[decide_eq_false h,decide_eq_false fun k:p.Pos=>h k.2]
end
end Go.Vx
namespace Go.Vx
open Go.Proofs Classical
section
variable {μ:Mem}
theorem gM{xs ys:List T}{base base2:Option Addr}{cap cap2:Nat}(hsl:Sl μ 4 base xs.length ((xs.map T.tm).map Tm.d))(hsl2:Sl μ 4 base2 ys.length ((ys.map T.tm).map Tm.d)):
  aP Tryz.prog 206 [.slice base xs.length cap,.slice base2 ys.length cap2] μ (.int .i64 (kY xs ys)):=by
 refine Spec.mk Tryz.func206 (by kernel_rfl) ?_
 have hm1:=aH hsl.max
 have hm2:=aH hsl2.max
 refine lIn (fun i:Nat=>i≤xs.length∧i≤ys.length∧kY (xs.drop i) (ys.drop i)=kY xs ys)
  (fun i=>⟨[(0,.val (.slice base xs.length cap)),(1,.val (.slice base2 ys.length cap2)),(5,.val (.int .i64 i))],[],0,μ,Mem.nil⟩) (fun i=>xs.length-i)
  0 ⟨Nat.zero_le _,Nat.zero_le _,rfl⟩ (fun _=>⟨rfl,rfl⟩) ⟨⟨rfl,rfl,rfl,trivial⟩,trivial,rfl,rfl⟩ ?_
 rintro i ⟨hi,hj,hJ⟩
 have fin:¬(i<xs.length∧i<ys.length)→kY xs ys=jK xs.length ys.length:=fun h=>nH h hi hj hJ
 refine ifd (fun h1=>?_) (fun h1=>?_)
 ·refine ifd (fun h2 => ?_) (fun h2 => ?_)
  ·have w_ := aSo (l := xs) (i := i) (by omega)
   obtain⟨x,hx⟩:=w_
   have w_:=aSo (l:=ys) (i:=i) (by omega)
   obtain⟨y,hy⟩:=w_
   have w_:=T.elemL hsl hx
   obtain⟨ad,p,hel,hto⟩:=w_
   have w_:=T.elemL hsl2 hy
   obtain⟨ad2,p2,hel2,hto2⟩:=w_
   rw[bJ hx,bJ hy,kY,cI]at hJ
   refine eIn hel (eIn hel2 ?_)
   refine cGv (fK _ _ hto hto2) ?_
   refine aK (fun h5=>?_) (fun h5=>?_)
   ·rw [nO h5] at hJ
    exact rGv (congrArg (Value.int .i64) hJ) rfl
   ·rw [nN h5] at hJ
    exact aB (by omega) (by omega) ⟨i+1,⟨by omega,by omega,hJ⟩,by omega,⟨⟨rfl,rfl,rfl,trivial⟩,trivial,rfl,rfl⟩⟩
  ·have hf := fin (by omega)
   refine aK (fun h3=>?_) (fun h3=>?_)
   ·refine cGv (cP _) ?_
    exact rGv (by rw[hf,jK,if_neg h3]) rfl
   ·exact rGv (by rw[hf,jK,if_pos h3]) rfl
 ·have hf := fin (by omega)
  refine aK (fun h3=>?_) (fun h3=>?_)
  ·refine cGv (cP _) ?_
   exact rGv (by rw[hf,jK,if_neg h3]) rfl
  ·exact rGv (by rw[hf,jK,if_pos h3]) rfl
theorem cJ{f g:F}{v w:Value}(hv:RepV μ f.fc.d v)(hw:RepV μ g.fc.d w):aP Tryz.prog 143 [v,w] μ (.int .i64 (bC f g)):=by
 have w_:=F.inv hv
 obtain⟨p,rfl,hs⟩:=w_
 have w_:=F.inv hw
 obtain⟨q,rfl,hs2⟩:=w_
 refine Spec.mk Tryz.func143 (by kernel_rfl) ?_
 intro r1 r2
 rw[bC]
 refine aK (fun h=>?_) (fun h=>?_)
 ·have e:iM (mQ f.rel g.rel) (kY f.args g.args)=sgn (Op.bytesLess f.rel.data.toList g.rel.data.toList):=by
   rw[nO (fun k=>h ((cName_ord.zero _ _).1 k)),mQ,if_neg h]
  rw[e]
  refine cGv (cP _) ?_
  exact rGv rfl rfl
 ·rw [nN ((cName_ord.zero _ _).2 h)]
  refine cGv (gM hs hs2) ?_
  exact rGv rfl rfl
end
end Go.Vx
namespace Go.Vx
open Go.Proofs Classical
section
variable {μ:Mem}
theorem dQ(t:Tm){v:Value}(hv:RepV μ t.d v)(hw:t.d.wd):aP Tryz.prog 141 [v] μ (.bool (decide (tN t))):=by
 by_cases h:t.Ok
 ·obtain ⟨x, hx, rfl⟩ := h.lift
  have:=eD x hv hx hw
  have e:(decide (x.vars=[]))=decide (tN x.tm):=decide_eq_decide.2 ⟨fun k=>⟨h,by rw[T.toT_tm];exact k⟩,fun k=>by have:=k.2;rwa [T.toT_tm]at this⟩
  rwa [e]at this
 ·have w_ := Tm.invV hv
  obtain⟨p,rfl⟩:=w_
  refine Spec.mk Tryz.func141 (by kernel_rfl) ?_
  intro r
  refine cGv (dO t hv hw) ?_
  refine ifd (fun k=>absurd k h) (fun _=>?_)
  exact rGv (by rw[decide_eq_false fun k=>h k.1]) rfl
theorem cY{l:List Tm}{base:Option Addr}{cap:Nat}(hsl:Sl μ 4 base l.length (l.map Tm.d))(hw:D.wds (l.map Tm.d)):
  aP Tryz.prog 70 [.slice base l.length cap] μ (.bool (decide (UnivOk l))):=by
 have hn:=aH hsl.max
 have bad:¬UnivOk l→Value.bool false= .bool (decide (UnivOk l)):=fun k=>isF k
 refine Spec.mk Tryz.func70 (by kernel_rfl) ?_
 refine lIn (fun i:Nat=>i≤l.length∧UnivTo l i)
  (fun i=>⟨[(0,.val (.slice base l.length cap)),(5,.val (.slice base l.length cap)),(6,.val (.int .i64 l.length)),(7,.val (.int .i64 i))],[],0,μ,Mem.nil⟩) (fun i=>l.length-i)
  0 ⟨Nat.zero_le _,fun j hj=>by omega⟩ (fun _=>⟨rfl,rfl⟩) ⟨⟨rfl,rfl,rfl,rfl,trivial⟩,trivial,rfl,rfl⟩ ?_
 rintro i ⟨hi,hall⟩
 refine ifd (fun hlt=>?_) (fun hlt=>?_)
 ·have w_ := aSo (l := l) (i := i) (by omega)
  obtain⟨t,ht⟩:=w_
  have w_:=Tm.elem hsl ht
  obtain⟨ad,p,hel,hr⟩:=w_
  refine eIn hel ?_
  intro r4
  refine cGv (dQ t hr (D.wds_mem hw _ (mAt (oX (f:=Tm.d) ht)))) ?_
  refine aK (fun h=>rGv (bad fun k=>h (k.gnd t (mAt ht))) rfl) (fun hg=>?_)
  have ok1:(∀k x y,k+1=i→l[k]? =some x→l[i]? =some y→x.toT.cmp y.toT<0)→UnivTo l (i+1):=fun hc j hj=>by
   rcases Nat.lt_or_ge j i with h6|h6
   ·exact hall j h6
   ·obtain rfl : j = i := by omega
    exact⟨fun t' ht'=>by rw[ht]at ht';cases ht';exact hg,hc⟩
  refine ifd (fun hi0=>?_) (fun hi0=>?_)
  ·have w_ := aSo (l := l) (i := i - 1) (by omega)
   obtain⟨t',ht'⟩:=w_
   have w_:=Tm.elem hsl ht'
   obtain⟨ad',p',hel',hr'⟩:=w_
   have hg':=(hall (i-1) (by omega)).1 t' ht'
   obtain⟨x,_,rfl⟩:=hg.1.lift
   obtain⟨y,_,rfl⟩:=hg'.1.lift
   refine aB (by omega) (by omega) ?_
   refine eIn (by rw[show((i:Int)-1)=((i-1:Nat):Int) by omega];exact hel') ?_
   refine cGv (fK y x hr' hr) ?_
   refine ifd (fun hc=>(fun e=>rGv e rfl) ?_) (fun hc=>?_)
   ·refine bad fun k => ?_
    have:=k.asc (i-1) _ _ ht' (by rw[show i-1+1=i by omega];exact ht)
    rw[T.toT_tm,T.toT_tm]at this
    omega
   ·refine aB (by omega) (by omega) ⟨i + 1, ⟨by omega, ok1 fun k a b hk ha hb => ?_⟩, by omega, ⟨⟨rfl, rfl, rfl, rfl, trivial⟩, trivial, rfl, rfl⟩⟩
    obtain rfl:k=i-1:=by omega
    rw[ht']at ha;rw[ht]at hb;cases ha;cases hb
    rw[T.toT_tm,T.toT_tm];omega
  ·exact aB (by omega) (by omega) ⟨i+1,⟨by omega,ok1 fun k a b hk _ _=>by omega⟩,by omega,⟨⟨rfl,rfl,rfl,rfl,trivial⟩,trivial,rfl,rfl⟩⟩
 ·obtain rfl : i = l.length := by omega
  refine cGv (dC _ _ _ _) ?_
  refine rGv (isI ?_) rfl
  exact⟨fun h=>hall.all (by omega) (by omega),fun h=>⟨by have:=h.pos;omega,by have:=h.max;omega⟩⟩
end
end Go.Vx
namespace Go.Vx
open Go.Proofs Classical
def dU(vs:List T):List B:=vs.zipIdx.map fun p=>⟨(p.2:Int),p.1⟩
theorem fI(vs:List T):(dU vs).length=vs.length:=by simp[dU]
theorem kF{vs:List T}{i:Nat}{x:T}(h:vs[i]? =some x):(dU vs)[i]? =some ⟨(i:Int),x⟩:=by simp[dU,h]
theorem gV(vs:List T)(i:Nat):(dU vs).take i=dU (vs.take i):=by
 refine List.ext_getElem? fun k=>?_
 simp only[dU,List.getElem?_take,List.getElem?_map,List.getElem?_zipIdx]
 split<;>simp
section
variable {μ:Mem}
theorem iG{size n most:Nat}(h1:1≤size)(h8:size≤8)(hm:most≤100000)(hn:n≤1000)(hm1:1≤most):
  Spec Tryz.prog 71 [.int .i64 size,.int .i64 n,.int .i64 most] μ fun r μ'=>qHm size n most r∧μ'=μ:=by
 refine Spec.forget (Spec.mk Tryz.func71 (by kernel_rfl) ?_)
 refine lIn (fun z:Nat×Nat=>z.1≤n∧z.2=size ^ z.1∧z.2≤8*most) (fun(i,k)=>⟨[(0,.val (.int .i64 size)),(1,.val (.int .i64 n)),(2,.val (.int .i64 most)),(7,.val (.int .i64 (k:Nat))),(8,.val (.int .i64 (i:Nat)))],[],0,μ,Mem.nil⟩) (fun z=>n-z.1)
  (0,1) ⟨Nat.zero_le _,rfl,by dsimp only;omega⟩ (fun(_,_)=>⟨rfl,rfl⟩) ⟨⟨rfl,rfl,rfl,rfl,rfl,trivial⟩,trivial,rfl,rfl⟩ ?_
 rintro⟨i,k⟩ ⟨hi,hk,hb⟩
 dsimp only at hi hk hb
 have mono:size ^ i≤size ^ n:=Nat.pow_le_pow_right h1 hi
 refine ifd (fun g1=>?_) (fun g1=>?_)
 ·refine ifd (fun g2 => ?_) (fun g2 => ?_)
  ·have hks:k*size≤8*most:=by
    have:=Nat.mul_le_mul (show k≤most by omega) h8
    omega
   refine nEq (x:=((k*size:Nat):Int)) (by rw[←Int.natCast_mul];exact aA (by omega) (by omega)) ?_
   exact aB (by omega) (by omega) ⟨(i+1,k*size),⟨by dsimp only;omega,by dsimp only;rw[hk,Nat.pow_succ],hks⟩,by dsimp only;omega,⟨⟨rfl,rfl,rfl,rfl,rfl,trivial⟩,trivial,rfl,rfl⟩⟩
  ·exact rPl ⟨k,rfl,fun h=>by omega,fun h=>by omega⟩
 ·obtain rfl : i = n := by omega
  exact rPl ⟨k,rfl,fun _=>hk,fun h=>by omega⟩
def eB(n:Nat):List Int:=(List.range n).map fun i:Nat=>(i:Int)
theorem kA(n:Nat):(eB n).length=n:=by simp[eB]
theorem vC{n i:Nat}(h:i<n):(eB n)[i]? =some (i:Int):=by simp[eB,h]
set_option maxHeartbeats 1000000 in
theorem fG{U:List T}{ub vb:Option Addr}{uc vc n w:Nat}(hu:Sl μ 4 ub U.length ((U.map T.tm).map Tm.d))(hU:0<U.length)(hU8:U.length≤8)(hv:Sl μ 1 vb n ((eB n).map D.i))(hn:n≤1000)(hw:w≤100000):
  Spec Tryz.prog 72 [.slice vb n vc,.slice ub U.length uc,.int .i64 w] μ fun v μ'=>RepV μ' (.sl 5 (((dU (cN U n w)).map B.bd).map Bd.d)) v:=by
 refine Spec.mk Tryz.func72 (by kernel_rfl) ?_
 intro r10
 refine lIn (fun z:Nat×Option Nat×Nat×List Value=>z.1≤n∧Rows μ 5 (((dU ((cN U n w).take z.1)).map B.bd).map Bd.d) z.2.2.2)
  (fun(i,b,c,ys)=>⟨[(1,.val (.slice ub U.length uc)),(2,.val (.int .i64 ((w / U.length ^ i:Nat):Int))),(7,.row 0 b ys.length c),(11,.val (.slice vb n vc)),(12,.val (.int .i64 n)),(13,.val (.int .i64 i))],[(0,some (.row b c 100 5 ys))],1,μ,Mem.nil⟩) (fun z=>n-z.1)
  (0,some r10,0,[]) ⟨Nat.zero_le _,.nil⟩ (fun(_,_,_,_)=>⟨rfl,rfl⟩) ⟨⟨rfl,by rw[Nat.pow_zero,Nat.div_one];rfl,rfl,rfl,rfl,rfl,trivial⟩,⟨rfl,trivial⟩,rfl,rfl⟩ ?_
 rintro⟨i,b,c,ys⟩ ⟨hi,hrows⟩
 dsimp only at hi hrows
 have hlen:=hrows.len
 simp only[List.length_map,fI,List.length_take,cV]at hlen
 have hdw:w / U.length ^ i≤w:=Nat.div_le_self _ _
 refine ifd (fun h=>?_) (fun h=>?_)
 ·have w_ := Ints.elem hv (vC (n := n) (i := i) (by omega))
  obtain⟨ad,hel⟩:=w_
  refine eIn hel ?_
  refine aE (by omega) ?_
  refine nEq (x:=((w / U.length ^ i % U.length:Nat):Int)) rfl ?_
  have w_:=sA hu hU (w / U.length ^ i)
  obtain⟨ad2,p,hel2,hr⟩:=w_
  refine eIn hel2 ?_
  intro r27
  refine gIn ?_ ?_ fun b' c' _=>?_
  ·show(ys.length+1)*64≤_;omega
  ·exact Nat.le_trans (m:=100000000) (show ys.length+1≤_ by omega) (by decide)
  refine aE (by omega) ?_
  refine nEq (x:=((w / U.length ^ (i+1):Nat):Int)) ?_ ?_
  ·have e : w / U.length ^ (i + 1) = w / U.length ^ i / U.length := by rw [Nat.pow_succ, Nat.div_div_eq_div_mul]
   rw[e]
   have hd2:w / U.length ^ i / U.length≤w / U.length ^ i:=Nat.div_le_self _ _
   show IntKind.i64.wrap ((w / U.length ^ i / U.length:Nat):Int)=_
   generalize w / U.length ^ i / U.length=m at hd2 ⊢
   exact aA (by omega) (by omega)
  refine aB (by omega) (by omega) ⟨(i+1,b',c',_),⟨by dsimp only;omega,?_⟩,by dsimp only;omega,⟨⟨rfl,rfl,rfl,rfl,rfl,rfl,trivial⟩,⟨rfl,trivial⟩,rfl,rfl⟩⟩
  dsimp only
  rw[←gV,List.take_add_one,kF (qW U i n w (by omega)),Option.toList_some,gV]
  simp only[List.map_append,List.map_cons,List.map_nil]
  exact hrows.append (Rows.one (RepV.bd hr) (Bd.d_n _))
 ·obtain rfl : i = n := by omega
  rw[List.take_of_length_le (by rw[cV];omega)]at hrows
  refine rFz [0] fun μ' hle' hno hrow=> .inl ?_
  exact Rows.sl hrow (hrows.mono hle') (Nat.le_trans (m:=100000000) (by omega) (by decide))
theorem eK{l:List F}{base:Option Addr}{cap:Nat}(hsl:Sl μ 2 base l.length ((l.map F.fc).map Fc.d))(hn:l.length≤10000000)(hl:∀f∈l,f.args.length≤1000000):
  Spec Tryz.prog 74 [.slice base l.length cap] μ fun v μ'=>RepV μ' (.sl 2 ((l.map F.fc).map Fc.d)) v:=by
 refine Spec.mkO [6] Tryz.func74 (by kernel_rfl) ?_
 intro r6 hm6 ho6
 refine lIn (fun p:Nat×Nat×Nat×Nat×List Value×Mem×Mem=>p.1≤l.length∧p.2.2.2.2.1.length=p.2.2.2.1∧RowO p.2.2.2.2.2.2 p.2.1 p.2.2.1 41 2 p.2.2.2.2.1∧Apart p.2.2.2.2.2.1 p.2.2.2.2.2.2∧μ.Le p.2.2.2.2.2.1∧Rows p.2.2.2.2.2.1 2 (((l.take p.1).map F.fc).map Fc.d) p.2.2.2.2.1)
  (fun(i,b,c,m,ys,μ',h)=>⟨[(3,.val (.slice (some ⟨b,0,none⟩) m c)),(7,.val (.slice base l.length cap)),(8,.val (.int .i64 l.length)),(9,.val (.int .i64 i))],[],0,μ',h⟩) (fun p=>l.length-p.1)
  (0,r6,0,0,[],μ,_) ⟨by simp,rfl,⟨[],Mem.set_at _ _ _,by simp,by simp,by simp,rfl,rfl⟩,(dY μ).set hm6,Mem.Le.refl _,.nil⟩ (fun(_,_,_,_,_,_,_)=>⟨rfl,rfl⟩) ⟨⟨rfl,rfl,rfl,rfl,trivial⟩,trivial,rfl,rfl⟩ ?_
 clear hm6 ho6
 rintro⟨i,b,c,m,ys,μ',h⟩ ⟨hi,hm,hb,hap,hle,hrows⟩
 dsimp only at hi hm hb hap hle hrows
 have hlen:=hrows.len
 simp only[List.length_map,List.length_take]at hlen
 refine ifd (fun hlt=>?_) (fun hlt=>?_)
 ·have w_ := aSo (l := l) (i := i) (by omega)
  obtain⟨f,hf⟩:=w_
  have w_:=F.elem (hsl.mono hle) hf
  obtain⟨ad,p,hel,hr,hs⟩:=w_
  refine eIn hel ?_
  intro r5
  have hfl:=hl f (mAt hf)
  refine cDa hap (dG hs (by omega)) fun v1 μ1 hle1 hap1 hR=>?_
  have w_:=Rep.sl hR
  obtain⟨b4,c4,rfl,_⟩:=w_
  rw[List.length_map,List.length_map]at hR ⊢
  intro r20
  refine fD ys hm hb ?_ ?_ fun b' c' o hrow hor=>?_
  ·show(m+1)*40≤_;omega
  ·exact Nat.le_trans (m:=100000000) (show m+1≤_ by omega) (by decide)
  refine aB (by omega) (by omega) ⟨(i+1,b',c',m+1,_,μ1,_),⟨by dsimp only;omega,by dsimp only;rw[List.length_append,hm];rfl,hrow,hap1.set (mO hb hap1 hor),hle.trans hle1,?_⟩,by dsimp only;omega,⟨⟨rfl,rfl,rfl,rfl,trivial⟩,trivial,rfl,rfl⟩⟩
  dsimp only
  rw[List.take_add_one,hf,Option.toList_some]
  simp only[List.map_append,List.map_cons,List.map_nil]
  exact(hrows.mono hle1).append (Rows.one (F.mkV hR) (Fc.d_n _))
 ·obtain rfl : i = l.length := by omega
  rw[List.take_length]at hrows
  refine eO _ Mem.nil (Parts.nil_right _) ?_
  obtain⟨cs,hcell,hlen0,hcap,hone,hcs,htake⟩:=hb
  have hb2:μ' b=none:=by
   cases e:μ' b with
   |none=>rfl
   |some o=>have:=hap b (by simp[e]);rw[hcell]at this;cases this
  have hrow:RowAt (μ'.join h) (some b) c 2 ys:=⟨hlen0,hone,_,_,by rw[Mem.join_get,hb2];exact hcell,by simpa using hcs,by simpa using htake⟩
  subst hm
  exact Rows.sl hrow (hrows.mono (Mem.le_join _ _)) (Nat.le_trans (m:=100000000) (by omega) (by decide))
end
end Go.Vx
namespace Go.Vx
open Go.Proofs Classical
def fC(p:Pg)(u:List Tm)(b:List Fc):Prop:=
 aJ p u≠none∧p.Pos∧(∀f∈b,FactFits p f)∧(∀f∈b.map Fc.f,∀a∈f.args,a∈u.map Tm.toT)∧AscF (b.map Fc.f) b.length
noncomputable def aU(p:Pg)(u:List Tm):Option (List Ru):=if p.Pos then aJ p u else none
section
variable {μ:Mem}
theorem mT{p:Pg}{U:List T}{f:Fc}{ub lb:Option Addr}{uc lc:Nat}(hf:FactFits p f)(hu:Sl μ 4 ub U.length ((U.map T.tm).map Tm.d))(hl:Sl μ 4 lb f.args.length (f.args.map Tm.d)):
  aP Tryz.prog 131 [.slice ub U.length uc,.slice lb f.args.length lc] μ (.bool (decide (∀a∈f.f.args,a∈U))):=by
 have e:f.args=f.f.args.map T.tm:=(congrArg Fc.args hf.lift.1).symm
 have el:f.args.length=f.f.args.length:=(List.length_map ..).symm
 rw[el]at hl ⊢
 rw[e]at hl
 exact iY hu hl
theorem eS{p:Pg}{U:List T}{b:List Fc}{v:Value}{ub fb:Option Addr}{uc fc:Nat}(hp:RepV μ p.d v)(hu:Sl μ 4 ub U.length ((U.map T.tm).map Tm.d))(hb:Sl μ 2 fb b.length (b.map Fc.d)):
  aP Tryz.prog 58 [v,.slice ub U.length uc,.slice fb b.length fc] μ (.bool (decide ((∀f∈b,FactFits p f)∧(∀f∈b.map Fc.f,∀a∈f.args,a∈U)∧AscF (b.map Fc.f) b.length))):=by
 have hp0:=hp
 have w_:=Pg.inv hp
 obtain⟨q0,rfl,hrl⟩:=w_
 have hn:=aH hb.max
 refine Spec.forget (Spec.mk Tryz.func58 (by kernel_rfl) ?_)
 intro r3
 refine lIn (fun i:Nat=>i≤b.length∧(∀f∈b.take i,FactFits p f∧∀a∈f.f.args,a∈U)∧AscF (b.map Fc.f) i)
  (fun i=>⟨[(1,.val (.slice ub U.length uc)),(2,.val (.slice fb b.length fc)),(3,.loc 0 r3 0),(9,.val (.slice fb b.length fc)),(10,.val (.int .i64 b.length)),(11,.val (.int .i64 i))],[(0,some (.cells r3 [.val (.slice q0.1 p.rels.length q0.2)] 25))],1,μ,Mem.nil⟩) (fun i=>b.length-i)
  0 ⟨Nat.zero_le _,by simp,fun j x y hj _ _=>by omega⟩ (fun _=>⟨rfl,rfl⟩) ⟨⟨rfl,rfl,rfl,rfl,rfl,rfl,trivial⟩,⟨rfl,trivial⟩,rfl,rfl⟩ ?_
 rintro i ⟨hi,hall,hasc⟩
 refine ifd (fun hlt=>?_) (fun hlt=>?_)
 ·have w_ := aSo (l := b) (i := i) (by omega)
  obtain⟨f,hf⟩:=w_
  have hfm:=mAt hf
  have w_:=Fc.elemA hb hf
  obtain⟨ad,q,hel,hrf,hA⟩:=w_
  have hA:Sl μ 4 q.1 f.args.length (f.args.map Tm.d):=hA
  refine eIn hel ?_
  intro r8
  refine cGv (gB hp0 hrf) ?_
  refine aK (fun h=>rPl (isF fun k=>h (k.1 f hfm))) (fun hfit=>?_)
  refine cGv (mT hfit hu hA) ?_
  refine aK (fun h=>rPl (isF fun k=>h (k.2.1 f.f (List.mem_map_of_mem hfm)))) (fun hin=>?_)
  have hall':∀x∈b.take (i+1),FactFits p x∧∀a∈x.f.args,a∈U:=by
   rw[List.take_add_one,hf,Option.toList_some]
   intro y hy
   rcases List.mem_append.1 hy with hy|hy
   ·exact hall y hy
   ·rw[List.mem_singleton.1 hy];exact⟨hfit,hin⟩
  have hfe:(b.map Fc.f)[i]? =some f.f:=by rw[List.getElem?_map,hf];rfl
  refine ifd (fun hi0=>?_) (fun hi0=>?_)
  ·have w_ := aSo (l := b) (i := i - 1) (by omega)
   obtain⟨g,hg⟩:=w_
   have w_:=Fc.elemA hb hg
   obtain⟨ad',q',hel',hrg,_⟩:=w_
   have hgfit:=(hall g (by rw[List.mem_iff_getElem?];exact⟨i-1,by rw[List.getElem?_take,if_pos (by omega)];exact hg⟩)).1
   have hge:(b.map Fc.f)[i-1]? =some g.f:=by rw[List.getElem?_map,hg];rfl
   refine aB (by omega) (by omega) ?_
   refine eIn (by rw[show((i:Int)-1)=((i-1:Nat):Int) by omega];exact hel') ?_
   refine cGv (dH (f:=g.f) (g:=f.f) (by rw[hgfit.lift.1];exact hrg) (by rw[hfit.lift.1];exact hrf)) ?_
   refine ifd (fun hc=>rPl (isF fun k=>?_)) (fun hc=>?_)
   ·have := k.2.2 (i - 1) g.f f.f (by omega) hge (by rw [show i - 1 + 1 = i by omega]; exact hfe)
    omega
   ·refine aB (by omega) (by omega) ⟨i + 1, ⟨by omega, hall', hasc.next fun x y _ hx hy => ?_⟩, by omega, ⟨⟨rfl, rfl, rfl, rfl, rfl, rfl, trivial⟩, ⟨rfl, trivial⟩, rfl, rfl⟩⟩
    rw[hge]at hx;rw[hfe]at hy;cases hx;cases hy
    omega
  ·exact aB (by omega) (by omega) ⟨i+1,⟨by omega,hall',hasc.next fun x y h0 _ _=>by omega⟩,by omega,⟨⟨rfl,rfl,rfl,rfl,rfl,rfl,trivial⟩,⟨rfl,trivial⟩,rfl,rfl⟩⟩
 ·obtain rfl : i = b.length := by omega
  rw[List.take_length]at hall
  refine rPl (isT ⟨fun f hf=>(hall f hf).1,fun f hf=>?_,hasc⟩)
  have w_:=List.mem_map.1 hf
  obtain⟨x,hx,rfl⟩:=w_
  exact(hall x hx).2
theorem cT{p:Pg}{u:List Tm}{v:Value}{ub:Option Addr}{uc:Nat}(hp:RepV μ p.d v)(hu:Sl μ 4 ub u.length (u.map Tm.d)):
  Spec Tryz.prog 57 [v,.slice ub u.length uc] μ fun v μ'=>xJ (fun y tv=>RepV μ' (.sl 6 ((y.map Ru.rd).map RuD.d)) tv) (aU p u) v:=by
 have hp0:=hp
 have w_:=Pg.inv hp
 obtain⟨q,rfl,hrl⟩:=w_
 refine Spec.mk Tryz.func57 (by kernel_rfl) ?_
 intro r2
 refine cPl (cW hp0) fun v1 μ1 hle1 hR=>?_
 obtain rfl:=hR
 refine aK (fun h=>rPl (by rw[aU,if_neg h];rfl)) (fun hpos=>?_)
 refine cGv (cA (hu.mono hle1)) ?_
 refine aK (fun h=>rPl (by rw[aU,if_pos hpos,aJ,if_neg fun k=>h k.2];rfl)) (fun huok=>?_)
 have w_:=huok.lift
 obtain⟨U,rfl,hUg,hUl⟩:=w_
 have hgo:aU p (U.map T.tm)=bK p U:=by rw[aU,if_pos hpos,aJ,if_pos ⟨hpos.1,huok⟩,bW]
 rw[hgo]
 have h1:=huok.pos
 have h8:=huok.max
 rw[List.length_map]at h1 h8 hu ⊢
 refine cPl (dM (hp0.mono hle1) hpos.1 (hu.mono hle1) h1 h8) fun v2 μ2 hle2 hR=>?_
 cases hL:bK p U with
 |none=>
  rw[hL]at hR
  obtain rfl:=hR
  exact rPl rfl
 |some y=>
  rw[hL]at hR
  obtain⟨tv,rfl,hR⟩:=hR
  exact rPl ⟨tv,rfl,hR⟩
end
end Go.Vx
namespace Go.Vx
open Go.Proofs Classical
theorem cC(L:List F)(f:F):(aX L f).length≤L.length+1:=fT _
theorem jV{L:List F}{f:F}(hL:Asc3 bC L)(h:f∈L):aX L f=L:=(hL.uniq cmpF_ord (fX L f) fun x=>by
 rw[mem_insF]
 exact⟨.inr,fun k=>k.elim (fun e=>e ▸ h) id⟩).symm
theorem gE{L:List F}{f:F}{k:Nat}(hL:Asc3 bC L)(h1:∀x∈L.take k,bC x f<0)(h2:∀x∈L.drop k,bC f x<0):L.take k++f::L.drop k=aX L f:=by
 refine Asc3.uniq cmpF_ord ?_ (fX L f) fun x=>?_
 ·have := hL.ins cmpF_ord h1 h2
  simpa[tC]using this
 ·rw [mem_insF, List.mem_append, List.mem_cons]
  have:x∈L↔x∈L.take k∨x∈L.drop k:=by rw[←List.mem_append,List.take_append_drop]
  rw[this]
  constructor
  ·rintro (h | h | h)
   ·exact .inr (.inl h)
   ·exact .inl h
   ·exact .inr (.inr h)
  ·rintro (h | h | h)
   ·exact .inr (.inl h)
   ·exact .inl h
   ·exact .inr (.inr h)
theorem lA{rs:List Ru}{pos neg:List F}{i:Nat}{r:Ru}(h:rs[i]? =some r):dI rs pos neg (i+1)=dI rs pos neg i++(if lQ pos neg r then [r.head]else []):=by
 rw[dI,List.take_add_one,h,Option.toList_some,List.filter_append,List.map_append,←dI]
 congr 1
 by_cases k:lQ pos neg r<;>simp[k]
section
variable {rs:List Ru} {S out:List F}
end
section
variable {rs:List Ru} {base out:List F}
end
theorem qF{rs:List Ru}:∀{n:Nat},(∀m,m<n→cO rs (stF rs m) []≠stF rs m)→n≤(stF rs n).length
 |0,_=>Nat.zero_le _
 |n+1,h=>by
  have ih:=qF (n:=n) fun m hm=>h m (by omega)
  have h1:=(gF rs n).more fun e=>h n (by omega) (kW cmpF_ord (gF rs n).asc (oT rs _ _) (gF rs n).sub e).symm
  have h2:(stF rs (n+1)).length=(cO rs (stF rs n) []).length:=rfl
  omega
section
variable {rs:List Ru} {model B out:List F}
end
end Go.Vx
namespace Go.Vx
open Go.Proofs Classical
section
variable {μ:Mem}
theorem dP{L:List F}{f:F}{v w:Value}(hL:Asc3 bC L)(h:FsV μ L v)(hf:RepV μ f.fc.d w)(hn:L.length≤10000000):
  Spec Tryz.prog 73 [v,w] μ fun r μ'=>FsV μ' (aX L f) r:=by
 have w_:=FsV.sl h
 obtain⟨b,c,rfl,hlc,hs⟩:=w_
 have hf0:=hf
 have w_:=F.inv hf
 obtain⟨p,rfl,hfs⟩:=w_
 have w_:=Rep.src h
 obtain⟨vs,hrows,hvs,hcap,hsrc⟩:=w_
 refine Spec.mk Tryz.func73 (by kernel_rfl) ?_
 intro r3
 refine lIn (fun k:Nat=>k≤L.length∧∀x∈L.drop k,¬bC x f<0)
  (fun k=>⟨[(0,.val (.slice b L.length c)),(3,.loc 0 r3 0),(5,.val (.int .i64 k))],[(0,some (.cells r3 [.val (.string f.rel),.val (.slice p.1 f.args.length p.2)] 41))],1,μ,Mem.nil⟩) (fun k=>k)
  L.length ⟨Nat.le_refl _,by simp⟩ (fun _=>⟨rfl,rfl⟩) ⟨⟨rfl,rfl,rfl,trivial⟩,⟨rfl,trivial⟩,rfl,rfl⟩ ?_
 rintro k ⟨hk,hge⟩
 refine ifd (fun h0=>?_) (fun h0=>?_)
 ·obtain ⟨k, rfl⟩ : ∃ k', k = k' + 1 := ⟨k - 1, by omega⟩
  have w_:=aSo (l:=L) (i:=k) (by omega)
  obtain⟨y,hy⟩:=w_
  have w_:=F.elem hs hy
  obtain⟨ad3,p3,hel3,hry,hsy⟩:=w_
  refine nEq (x:=(k:Int)) (by rw[aA (by omega) (by omega)];omega) ?_
  refine eIn hel3 ?_
  refine cGv (cJ hry hf0) ?_
  refine ifd (fun hc=>?_) (fun hc=>?_)
  ·refine nEq (x := (k : Int)) (by rw [aA (by omega) (by omega)]; omega) ⟨k, ⟨by omega, fun x hx => ?_⟩, by omega, ⟨⟨rfl, rfl, rfl, trivial⟩, ⟨rfl, trivial⟩, rfl, rfl⟩⟩
   rw[bJ hy]at hx
   rcases List.mem_cons.1 hx with rfl|hx
   ·omega
   ·exact hge x hx
  ·have hlt3 := hL.take_lt cmpF_ord hy (e := f) (by omega)
   generalize k+1=k at*
   refine ifd (fun hkl=>?_) (fun hkl=>?_)
   ·have w_ := aSo (l := L) (i := k) (by omega)
    obtain⟨y2,hy2⟩:=w_
    have w_:=F.elem hs hy2
    obtain⟨ad4,p4,hel4,hry2,hsy2⟩:=w_
    refine eIn hel4 ?_
    refine cGv (cJ hry2 hf0) ?_
    refine ifd (fun hc2=>?_) (fun hc2=>?_)
    ·have : f ∈ L := by rw [← (cmpF_ord.zero _ _).1 hc2]; exact mAt hy2
     rw[jV hL this]
     exact rPl h
    ·have hgt3 : ∀ x ∈ L.drop k, bC f x < 0 := hL.drop_gt cmpF_ord hy2 (cmpF_ord.ge_pos (hge y2 (by rw [bJ hy2]; simp)) hc2)
     intro r70
     refine aF 0 k rfl rfl (by omega) (by omega) ?_
     refine aG _ (hsrc 0 k (by omega) hk) ?_
     refine gIn ?_ ?_ fun b1 c1 _=>?_
     ·show(0+_)*40≤_;simp;omega
     ·exact Nat.le_trans (m:=2000000000) (by simp;omega) (by decide)
     intro r77
     refine gIn ?_ ?_ fun b2 c2 _=>?_
     ·show(_+1)*40≤_;simp;omega
     ·exact Nat.le_trans (m:=2000000000) (by simp;omega) (by decide)
     refine aF k L.length rfl rfl hk (by omega) ?_
     refine aG _ (hsrc k L.length hk (Nat.le_refl _)) ?_
     refine gIn ?_ ?_ fun b3 c3 _=>?_
     ·show(_+_)*40≤_;simp;omega
     ·exact Nat.le_trans (m:=3000000000) (by simp;omega) (by decide)
     have hr2:=(hrows.take k).append ((Rows.one hf0 (Fc.d_n _)).append (hrows.drop k))
     have ev:(([]:List Value)++(vs.drop 0).take (k-0)++[.agg #[.string f.rel,.slice p.1 f.args.length p.2]]++(vs.drop k).take (L.length-k))=vs.take k++([.agg #[.string f.rel,.slice p.1 f.args.length p.2]]++vs.drop k):=by
      simp
      rw[List.take_of_length_le (by simp;omega)]
     have hins:=gE hL hlt3 hgt3
     have e2:((aX L f).map F.fc).map Fc.d=((L.map F.fc).map Fc.d).take k++([f.fc.d]++((L.map F.fc).map Fc.d).drop k):=by rw[←hins];simp
     have e3:(vs.take k++([Value.agg #[.string f.rel,.slice p.1 f.args.length p.2]]++vs.drop k)).length=(aX L f).length:=by rw[←hins];simp;omega
     refine rFz [1] fun μ2 hle2 hno2 hrow2=> .inl ?_
     rw[ev]at hrow2
     have e4:(aX L f).length≤L.length+1:=cC L f
     have:=Rows.sl hrow2 (hr2.mono hle2) (Nat.le_trans (m:=3000000000) (by rw[e3];omega) (by decide))
     rw[←e2]at this
     rw[ev]
     exact this
   ·have hgt3:∀x∈L.drop k,bC f x<0:=by
     rw[List.drop_of_length_le (by omega)];simp
    intro r70
    refine aF 0 k rfl rfl (by omega) (by omega) ?_
    refine aG _ (hsrc 0 k (by omega) hk) ?_
    refine gIn ?_ ?_ fun b1 c1 _=>?_
    ·show(0+_)*40≤_;simp;omega
    ·exact Nat.le_trans (m:=2000000000) (by simp;omega) (by decide)
    intro r77
    refine gIn ?_ ?_ fun b2 c2 _=>?_
    ·show(_+1)*40≤_;simp;omega
    ·exact Nat.le_trans (m:=2000000000) (by simp;omega) (by decide)
    refine aF k L.length rfl rfl hk (by omega) ?_
    refine aG _ (hsrc k L.length hk (Nat.le_refl _)) ?_
    refine gIn ?_ ?_ fun b3 c3 _=>?_
    ·show(_+_)*40≤_;simp;omega
    ·exact Nat.le_trans (m:=3000000000) (by simp;omega) (by decide)
    have hr2:=(hrows.take k).append ((Rows.one hf0 (Fc.d_n _)).append (hrows.drop k))
    have ev:(([]:List Value)++(vs.drop 0).take (k-0)++[.agg #[.string f.rel,.slice p.1 f.args.length p.2]]++(vs.drop k).take (L.length-k))=vs.take k++([.agg #[.string f.rel,.slice p.1 f.args.length p.2]]++vs.drop k):=by
     simp
     rw[List.take_of_length_le (by simp;omega)]
    have hins:=gE hL hlt3 hgt3
    have e2:((aX L f).map F.fc).map Fc.d=((L.map F.fc).map Fc.d).take k++([f.fc.d]++((L.map F.fc).map Fc.d).drop k):=by rw[←hins];simp
    have e3:(vs.take k++([Value.agg #[.string f.rel,.slice p.1 f.args.length p.2]]++vs.drop k)).length=(aX L f).length:=by rw[←hins];simp;omega
    refine rFz [1] fun μ2 hle2 hno2 hrow2=> .inl ?_
    rw[ev]at hrow2
    have e4:(aX L f).length≤L.length+1:=cC L f
    have:=Rows.sl hrow2 (hr2.mono hle2) (Nat.le_trans (m:=3000000000) (by rw[e3];omega) (by decide))
    rw[←e2]at this
    rw[ev]
    exact this
 ·have hk0 : k = 0 := by omega
  have hlt3:∀x∈L.take k,bC x f<0:=by rw[hk0];simp
  refine ifd (fun hkl=>?_) (fun hkl=>?_)
  ·have w_ := aSo (l := L) (i := k) (by omega)
   obtain⟨y2,hy2⟩:=w_
   have w_:=F.elem hs hy2
   obtain⟨ad4,p4,hel4,hry2,hsy2⟩:=w_
   refine eIn hel4 ?_
   refine cGv (cJ hry2 hf0) ?_
   refine ifd (fun hc2=>?_) (fun hc2=>?_)
   ·have : f ∈ L := by rw [← (cmpF_ord.zero _ _).1 hc2]; exact mAt hy2
    rw[jV hL this]
    exact rPl h
   ·have hgt3 : ∀ x ∈ L.drop k, bC f x < 0 := hL.drop_gt cmpF_ord hy2 (cmpF_ord.ge_pos (hge y2 (by rw [bJ hy2]; simp)) hc2)
    intro r70
    refine aF 0 k rfl rfl (by omega) (by omega) ?_
    refine aG _ (hsrc 0 k (by omega) hk) ?_
    refine gIn ?_ ?_ fun b1 c1 _=>?_
    ·show(0+_)*40≤_;simp;omega
    ·exact Nat.le_trans (m:=2000000000) (by simp;omega) (by decide)
    intro r77
    refine gIn ?_ ?_ fun b2 c2 _=>?_
    ·show(_+1)*40≤_;simp;omega
    ·exact Nat.le_trans (m:=2000000000) (by simp;omega) (by decide)
    refine aF k L.length rfl rfl hk (by omega) ?_
    refine aG _ (hsrc k L.length hk (Nat.le_refl _)) ?_
    refine gIn ?_ ?_ fun b3 c3 _=>?_
    ·show(_+_)*40≤_;simp;omega
    ·exact Nat.le_trans (m:=3000000000) (by simp;omega) (by decide)
    have hr2:=(hrows.take k).append ((Rows.one hf0 (Fc.d_n _)).append (hrows.drop k))
    have ev:(([]:List Value)++(vs.drop 0).take (k-0)++[.agg #[.string f.rel,.slice p.1 f.args.length p.2]]++(vs.drop k).take (L.length-k))=vs.take k++([.agg #[.string f.rel,.slice p.1 f.args.length p.2]]++vs.drop k):=by
     simp
     rw[List.take_of_length_le (by simp;omega)]
    have hins:=gE hL hlt3 hgt3
    have e2:((aX L f).map F.fc).map Fc.d=((L.map F.fc).map Fc.d).take k++([f.fc.d]++((L.map F.fc).map Fc.d).drop k):=by rw[←hins];simp
    have e3:(vs.take k++([Value.agg #[.string f.rel,.slice p.1 f.args.length p.2]]++vs.drop k)).length=(aX L f).length:=by rw[←hins];simp;omega
    refine rFz [1] fun μ2 hle2 hno2 hrow2=> .inl ?_
    rw[ev]at hrow2
    have e4:(aX L f).length≤L.length+1:=cC L f
    have:=Rows.sl hrow2 (hr2.mono hle2) (Nat.le_trans (m:=3000000000) (by rw[e3];omega) (by decide))
    rw[←e2]at this
    rw[ev]
    exact this
  ·have hgt3:∀x∈L.drop k,bC f x<0:=by
    rw[List.drop_of_length_le (by omega)];simp
   intro r70
   refine aF 0 k rfl rfl (by omega) (by omega) ?_
   refine aG _ (hsrc 0 k (by omega) hk) ?_
   refine gIn ?_ ?_ fun b1 c1 _=>?_
   ·show(0+_)*40≤_;simp;omega
   ·exact Nat.le_trans (m:=2000000000) (by simp;omega) (by decide)
   intro r77
   refine gIn ?_ ?_ fun b2 c2 _=>?_
   ·show(_+1)*40≤_;simp;omega
   ·exact Nat.le_trans (m:=2000000000) (by simp;omega) (by decide)
   refine aF k L.length rfl rfl hk (by omega) ?_
   refine aG _ (hsrc k L.length hk (Nat.le_refl _)) ?_
   refine gIn ?_ ?_ fun b3 c3 _=>?_
   ·show(_+_)*40≤_;simp;omega
   ·exact Nat.le_trans (m:=3000000000) (by simp;omega) (by decide)
   have hr2:=(hrows.take k).append ((Rows.one hf0 (Fc.d_n _)).append (hrows.drop k))
   have ev:(([]:List Value)++(vs.drop 0).take (k-0)++[.agg #[.string f.rel,.slice p.1 f.args.length p.2]]++(vs.drop k).take (L.length-k))=vs.take k++([.agg #[.string f.rel,.slice p.1 f.args.length p.2]]++vs.drop k):=by
    simp
    rw[List.take_of_length_le (by simp;omega)]
   have hins:=gE hL hlt3 hgt3
   have e2:((aX L f).map F.fc).map Fc.d=((L.map F.fc).map Fc.d).take k++([f.fc.d]++((L.map F.fc).map Fc.d).drop k):=by rw[←hins];simp
   have e3:(vs.take k++([Value.agg #[.string f.rel,.slice p.1 f.args.length p.2]]++vs.drop k)).length=(aX L f).length:=by rw[←hins];simp;omega
   refine rFz [1] fun μ2 hle2 hno2 hrow2=> .inl ?_
   rw[ev]at hrow2
   have e4:(aX L f).length≤L.length+1:=cC L f
   have:=Rows.sl hrow2 (hr2.mono hle2) (Nat.le_trans (m:=3000000000) (by rw[e3];omega) (by decide))
   rw[←e2]at this
   rw[ev]
   exact this
end
end Go.Vx
namespace Go.Vx
open Go.Proofs Classical
section
variable {μ:Mem}
end
section
variable {μ:Mem}
set_option maxHeartbeats 1000000 in
theorem eI{rs:List Ru}{S:List F}{b b3:Option Addr}{c c3:Nat}(hr:Sl μ 6 b3 rs.length ((rs.map Ru.rd).map RuD.d))(hn:rs.length≤10000000)(hS:Asc3 bC S)(hSn:S.length≤1000000000)(hs:Sl μ 2 b S.length ((S.map F.fc).map Fc.d)):
  Spec Tryz.prog 132 [.slice b3 rs.length c3,.slice b S.length c] μ fun r μ'=>FsV μ' (cO rs S S) r:=by
 refine Spec.mk Tryz.func132 (by kernel_rfl) ?_
 intro r13
 refine lIn (fun z:Nat×Option Nat×Nat×List Value=>z.1≤rs.length∧Rows μ 2 (((dI rs S S z.1).map F.fc).map Fc.d) z.2.2.2)
  (fun(i,bo,co,ys)=>⟨[(1,.val (.slice b S.length c)),(5,.row 0 bo ys.length co),(14,.val (.slice b3 rs.length c3)),(15,.val (.int .i64 rs.length)),(16,.val (.int .i64 i))],[(0,some (.row bo co 41 2 ys))],1,μ,Mem.nil⟩) (fun z=>rs.length-z.1)
  (0,some r13,0,[]) ⟨Nat.zero_le _,by simpa[dI]using .nil⟩ (fun(_,_,_,_)=>⟨rfl,rfl⟩) ⟨⟨rfl,rfl,rfl,rfl,rfl,trivial⟩,⟨rfl,trivial⟩,rfl,rfl⟩ ?_
 rintro⟨i,bo,co,ys⟩ ⟨hi,hrows⟩
 dsimp only at hi hrows
 have hyl:=hrows.len
 simp only[List.length_map]at hyl
 have hhl:=pM rs S S i
 refine ifd (fun hlt=>?_) (fun hlt=>?_)
 rotate_left
 ·obtain rfl : i = rs.length := by omega
  refine aW [0] ?_
  intro μ1 hle1 hno1 hat1
  have hrep:=Rows.sl hat1 (hrows.mono hle1) (Nat.le_trans (m:=100000000) (by omega) (by decide))
  refine bH (bE hrep (by omega)) fun v μ2 hle2 hR=>?_
  rw[pK]at hR
  exact rPl hR
 have w_:=aSo (l:=rs) (i:=i) (by omega)
 obtain⟨r,hri⟩:=w_
 have w_:=Ru.elem hr hri
 obtain⟨ad,p,hel,hrv,hat⟩:=w_
 have hsucc:=lA (pos:=S) (neg:=S) hri
 refine eIn hel ?_
 intro r7
 have hmp:=aH hat.pos.max
 have hmn:=aH hat.neg.max
 refine lIn (fun z:Nat×Bool=>z.1≤r.pos.length∧(z.2=true↔∀f∈r.pos.take z.1,f∈S))
  (fun (j, fine) => ⟨[(1, .val (.slice b S.length c)), (5, .row 0 bo ys.length co), (7, .loc 1 r7 0), (8, .val (.bool fine)), (14, .val (.slice b3 rs.length c3)), (15, .val (.int .i64 rs.length)), (16, .val (.int .i64 i)), (21, .val (.slice p.2.2.1.1 r.pos.length p.2.2.1.2)), (22, .val (.int .i64 r.pos.length)), (23, .val (.int .i64 j))],
   [(0,some (.row bo co 41 2 ys)),(1,some (.cells r7 (vals (r.cs p)) 106))],2,μ,Mem.nil⟩) (fun z=>r.pos.length-z.1)
  (0,true) ⟨Nat.zero_le _,by simp⟩ (fun(_,_)=>⟨rfl,rfl⟩) ⟨⟨rfl,rfl,rfl,rfl,rfl,rfl,rfl,rfl,rfl,rfl,trivial⟩,⟨rfl,rfl,trivial⟩,rfl,rfl⟩ ?_
 rintro⟨j,fine⟩ ⟨hj,hfine⟩
 dsimp only at hj hfine
 refine ifd (fun hlt2=>?_) (fun hlt2=>?_)
 ·have w_ := aSo (l := r.pos) (i := j) (by omega)
  obtain⟨f,hf⟩:=w_
  have w_:=F.elem hat.pos hf
  obtain⟨ad2,p2,hel2,hrf,_⟩:=w_
  have hstep:=jM (P:=fun f=>f∈S) hf
  refine eIn hel2 ?_
  intro r10
  refine iIn (fun hk=>?_) (fun hk=>?_)
  ·refine cGv (bM hS hSn hs hrf) ?_
   refine aB (by omega) (by omega) ⟨(j+1,decide (f∈S)),⟨by dsimp only;omega,?_⟩,by dsimp only;omega,⟨⟨rfl,rfl,rfl,rfl,rfl,rfl,rfl,rfl,rfl,rfl,trivial⟩,⟨rfl,rfl,trivial⟩,rfl,rfl⟩⟩
   dsimp only
   rw[hstep,←hfine,decide_eq_true_eq]
   exact⟨fun h=>⟨hk,h⟩,fun h=>h.2⟩
  ·refine aB (by omega) (by omega) ⟨(j + 1, false), ⟨by dsimp only; omega, ?_⟩, by dsimp only; omega, ⟨⟨rfl, rfl, rfl, rfl, rfl, rfl, rfl, rfl, rfl, rfl, trivial⟩, ⟨rfl, rfl, trivial⟩, rfl, rfl⟩⟩
   dsimp only
   rw[hstep,←hfine,hk]
   simp
 obtain rfl:j=r.pos.length:=by omega
 rw[List.take_length]at hfine
 refine lIn (fun z:Nat×Bool=>z.1≤r.neg.length∧(z.2=true↔(∀f∈r.pos,f∈S)∧∀f∈r.neg.take z.1,f∉S))
  (fun (j, fine) => ⟨[(1, .val (.slice b S.length c)), (5, .row 0 bo ys.length co), (7, .loc 1 r7 0), (8, .val (.bool fine)), (14, .val (.slice b3 rs.length c3)), (15, .val (.int .i64 rs.length)), (16, .val (.int .i64 i)), (35, .val (.slice p.2.2.2.1 r.neg.length p.2.2.2.2)), (36, .val (.int .i64 r.neg.length)), (37, .val (.int .i64 j))],
   [(0,some (.row bo co 41 2 ys)),(1,some (.cells r7 (vals (r.cs p)) 106))],2,μ,Mem.nil⟩) (fun z=>r.neg.length-z.1)
  (0,fine) ⟨Nat.zero_le _,by simpa using hfine⟩ (fun(_,_)=>⟨rfl,rfl⟩) ⟨⟨rfl,rfl,rfl,rfl,rfl,rfl,rfl,rfl,rfl,rfl,trivial⟩,⟨rfl,rfl,trivial⟩,rfl,rfl⟩ ?_
 clear hfine hlt2 hj
 rintro⟨j,fine⟩ ⟨hj,hfine⟩
 dsimp only at hj hfine
 refine ifd (fun hlt2=>?_) (fun hlt2=>?_)
 ·have w_ := aSo (l := r.neg) (i := j) (by omega)
  obtain⟨f,hf⟩:=w_
  have w_:=F.elem hat.neg hf
  obtain⟨ad2,p2,hel2,hrf,_⟩:=w_
  have hstep:=jM (P:=fun f=>f∉S) hf
  refine eIn hel2 ?_
  intro r10
  refine iIn (fun hk=>?_) (fun hk=>?_)
  ·refine cGv (bM hS hSn hs hrf) ?_
   refine aB (by omega) (by omega) ⟨(j+1,!decide (f∈S)),⟨by dsimp only;omega,?_⟩,by dsimp only;omega,⟨⟨rfl,rfl,rfl,rfl,rfl,rfl,rfl,rfl,rfl,rfl,trivial⟩,⟨rfl,rfl,trivial⟩,rfl,rfl⟩⟩
   dsimp only
   rw[hstep,←and_assoc,←hfine,Bool.not_eq_true',decide_eq_false_iff_not]
   exact⟨fun h=>⟨hk,h⟩,fun h=>h.2⟩
  ·refine aB (by omega) (by omega) ⟨(j + 1, false), ⟨by dsimp only; omega, ?_⟩, by dsimp only; omega, ⟨⟨rfl, rfl, rfl, rfl, rfl, rfl, rfl, rfl, rfl, rfl, trivial⟩, ⟨rfl, rfl, trivial⟩, rfl, rfl⟩⟩
   dsimp only
   rw[hstep,←and_assoc,←hfine,hk]
   simp
 obtain rfl:j=r.neg.length:=by omega
 rw[List.take_length]at hfine
 replace hfine:fine=true↔lQ S S r:=hfine
 refine iIn (fun hk=>?_) (fun hk=>?_)
 ·rw [if_pos (hfine.1 hk)] at hsucc
  intro r53
  refine gIn ?_ ?_ fun b' c' _=>?_
  ·show(ys.length+1)*40≤_;omega
  ·exact Nat.le_trans (m:=100000000) (show ys.length+1≤_ by omega) (by decide)
  refine aB (by omega) (by omega) ⟨(i+1,b',c',_),⟨by dsimp only;omega,?_⟩,by dsimp only;omega,⟨⟨rfl,rfl,rfl,rfl,rfl,trivial⟩,⟨rfl,trivial⟩,rfl,rfl⟩⟩
  dsimp only
  rw[hsucc]
  simp only[List.map_append,List.map_cons,List.map_nil]
  exact hrows.append (Rows.one hat.head (Fc.d_n _))
 ·rw [if_neg (fun k => by rw [hfine.2 k] at hk; cases hk), List.append_nil] at hsucc
  refine aB (by omega) (by omega) ⟨(i+1,bo,co,ys),⟨by dsimp only;omega,?_⟩,by dsimp only;omega,⟨⟨rfl,rfl,rfl,rfl,rfl,trivial⟩,⟨rfl,trivial⟩,rfl,rfl⟩⟩
  dsimp only
  rw[hsucc];exact hrows
end
end Go.Vx
namespace Go.Vx
open Go.Proofs Classical
noncomputable def dK(p:Pg)(u:List Tm)(b:List Fc):Option (List F):=if fC p u b then(aJ p u).map fun rs=>lfp rs (b.map Fc.f)else none
theorem gJ{p:Pg}{u:List Tm}{b:List Fc}{y:List F}(h:dK p u b=some y):p.Ok∧FsOk p y∧y.length≤b.length+2000∧fC p u b:=by
 rw[dK]at h
 split at h
 ·rename_i hb
  cases hg:aJ p u with
  |none=>rw[hg]at h;cases h
  |some rs=>
   rw[hg,Option.map_some]at h
   cases h
   have w_:=bI hg
   obtain⟨h1,h2⟩:=w_
   have hl:=sI rs (b.map Fc.f)
   rw[List.length_map]at hl
   have h3:=cE hb.2.2.1
   exact⟨(bB hg).1,tX h2 fun f hf=>by
    have:f.fc∈(b.map Fc.f).map F.fc:=List.mem_map_of_mem hf
    rw[h3]at this
    exact hb.2.2.1 _ this,by omega,hb⟩
 ·cases h
section
variable {μ:Mem}
theorem bG{p:Pg}{u:List Tm}{l:List Fc}{v:Value}{ub fb:Option Addr}{uc fc:Nat}(hp:RepV μ p.d v)(hu:Sl μ 4 ub u.length (u.map Tm.d))(hb:RepV μ (.sl 2 (l.map Fc.d)) (.slice fb l.length fc))(hn:l.length≤2000000):
  Spec Tryz.prog 14 [v,.slice ub u.length uc,.slice fb l.length fc] μ fun v μ'=>vA (fun y tv=>Fresh μ μ' (.sl 2 ((y.map F.fc).map Fc.d)) tv) (dK p u l) v:=by
 have hp0:=hp
 have w_:=Pg.inv hp
 obtain⟨q,rfl,hrl⟩:=w_
 have hb0:=hb
 have hbs:=pC hb
 refine Spec.mk Tryz.func14 (by kernel_rfl) ?_
 intro r3
 refine cPl (cT hp0 hu) fun v1 μ1 hle1 hR=>?_
 have hposg:∀{rs},aU p u=some rs→p.Pos∧aJ p u=some rs:=fun {rs} h=>by
  rw[aU]at h
  split at h
  ·rename_i k;exact⟨k,h⟩
  ·cases h
 cases hP:aU p u with
 |none=>
  rw[hP]at hR
  obtain rfl:=hR
  refine iIn (fun _=>rPl ?_) (fun h=>nomatch h)
  rw[dK,if_neg fun k=>k.1 (by rw[aU,if_pos k.2.1]at hP;exact hP)];rfl
 |some rs=>
 rw[hP]at hR
 obtain⟨tv,rfl,hR⟩:=hR
 have hR:RsV μ1 rs tv:=hR
 have w_:=hposg hP
 obtain⟨hpos,hL⟩:=w_
 have w_:=RsV.sl hR
 obtain⟨b1,c1,rfl,hrs⟩:=w_
 have w_:=bI hL
 obtain⟨hrl2,hro⟩:=w_
 have hok:=bB hL
 have hpo:=hok.1
 have w_:=hok.2.lift
 obtain⟨U,rfl,hUg,hUl⟩:=w_
 refine iIn (fun h=>nomatch h) (fun _=>?_)
 have hu':=hu
 rw[List.length_map]at hu' ⊢
 refine cGv (eS (hp0.mono hle1) (hu'.mono hle1) (hbs.mono hle1)) ?_
 refine aK (fun h=>rPl ?_) (fun hall=>?_)
 ·rw[dK,if_neg fun k=>h (by have:=k.2.2;rwa [bW]at this)];rfl
 have hBP:fC p (U.map T.tm) l:=⟨by rw[hL];exact(fun h=>nomatch h),hpos,by rw[bW];exact hall⟩
 have hlift:=cE hall.1
 have hb1:FsV μ1 (l.map Fc.f) (.slice fb l.length fc):=by
  show RepV μ1 (.sl 2 (((l.map Fc.f).map F.fc).map Fc.d)) _
  rw[hlift];exact RepV.mono hle1 hb0
 have hbase:=gJ (p:=p) (u:=U.map T.tm) (b:=l) (y:=lfp rs (l.map Fc.f)) (by rw[dK,if_pos hBP,hL];rfl)
 have hgo:=hbase.2.1.len hpo
 have hgl:=hbase.2.2.1
 refine cPl (oM hrs (by omega) hb1 (by rw[List.length_map];omega)) fun v3 μ3 hle3 hR3=>?_
 refine cPl (bD hR3 (by omega) fun f hf=>Nat.le_trans (hgo f hf) (by decide)) fun v4 μ4 hle4 hR4=>?_
 refine rPl ?_
 rw[dK,if_pos hBP,hL]
 exact⟨_,rfl,hR4.mono (hle1.trans hle3) (Mem.Le.refl _)⟩
end
end Go.Vx
namespace Go.Vx
open Go.Proofs Classical
theorem yH{p:Pg}{u:List Tm}{rs:List Ru}(hpos:p.Pos)(h:aJ p u=some rs):∀r∈rs,r.neg=[]:=by
 have hok:=bB h
 rw[aJ,if_pos hok,bK]at h
 split at h
 ·cases h
  intro r hr
  have w_:=List.mem_flatMap.1 hr
  obtain⟨rel,hrel,hr⟩:=w_
  rw[dJ]at hr
  split at hr
  ·simp at hr
  ·rename_i L hL
   rw[bO,List.mem_flatMap]at hr
   obtain⟨i,hi,hr⟩:=hr
   rw[List.mem_range]at hi
   have w_:=aSo (l:=L) (i:=i) hi
   obtain⟨c,hc⟩:=w_
   have ec:L.getD i []=c:=by rw[List.getD_eq_getElem?_getD,hc];rfl
   rw[ec,cH,List.mem_filterMap]at hr
   obtain⟨w,-,hr⟩:=hr
   rw[gT]at hr
   split at hr
   ·cases hr
    show pZ _ c=[]
    rw[pZ,List.map_eq_nil_iff,List.filter_eq_nil_iff]
    intro g hg
    rw[decide_eq_true_eq]
    exact hpos.2 rel hrel g (Gl.cl_all _ hL c (mAt hc) g hg).1
   ·cases hr
 ·cases h
theorem qAi{rs:List Ru}(h:∀r∈rs,r.neg=[])(S neg:List F):cO rs S neg=cO rs S []:=by
 rw[cO,cO]
 refine congrArg (fun l=>dA (l.map Ru.head)) (List.filter_congr fun r hr=>decide_eq_decide.2 ?_)
 rw[lQ,lQ,h r hr]
 exact⟨fun k=>⟨k.1,fun _ hx=>nomatch hx⟩,fun k=>⟨k.1,fun _ hx=>nomatch hx⟩⟩
def fsD(L:List F):D:= .sl 2 ((L.map F.fc).map Fc.d)
noncomputable def stD(rs:List Ru)(n:Nat):List D:=(List.range (n+1)).map fun i=>fsD (stF rs i)
theorem qAw(rs:List Ru)(n:Nat):stD rs (n+1)=stD rs n++[fsD (stF rs (n+1))]:=by
 rw[stD,List.range_succ,List.map_append];rfl
theorem qE(rs:List Ru)(n:Nat):(stD rs n).length=n+1:=by rw[stD,List.length_map,List.length_range]
theorem rR(rs:List Ru)(n:Nat):(stD rs n)[n]? =some (fsD (stF rs n)):=by
 rw[stD,List.getElem?_map,List.getElem?_range (by omega)];rfl
theorem Rows.val{μ:Mem}{es:Nat}{ds:List D}{ys:List Value}(h:Rows μ es ds ys){i:Nat}{d:D}(hd:ds[i]? =some d):∃v,ys[i]? =some v∧RepV μ d v:=by
 have hl:=(List.getElem?_eq_some_iff.1 hd).1
 have w_:=aSo (l:=ys) (i:=i) (by have:=h.len;omega)
 obtain⟨v,hv⟩:=w_
 exact⟨v,hv,h.atI hd hv⟩
noncomputable def eV(p:Pg)(u:List Tm):Option (List F):=(aU p u).map fun rs=>lfp rs []
noncomputable def qRy(P:List F→Value→Prop)(o:Option (List F))(v:Value):Prop:=match o with
 |none=>v= .tuple #[.slice none 0 0,.int .i64 0,.bool false]
 |some y=>∃tv,∃n:Nat,v= .tuple #[tv,.int .i64 n,.bool true]∧P y tv
theorem wB{p:Pg}{u:List Tm}{y:List F}(h:eV p u=some y):p.Ok∧FsOk p y∧y.length≤2000∧Asc3 bC y:=by
 cases hP:aU p u with
 |none=>rw[eV,hP]at h;cases h
 |some rs=>
  rw[eV,hP]at h
  cases h
  rw[aU]at hP
  split at hP
  ·rename_i hpos
   have w_:=bI hP
   obtain⟨h1,h2⟩:=w_
   refine⟨hpos.1,tX h2 (fun _ h=>nomatch h),?_,kU _ _⟩
   have:=sI rs []
   simp only[List.length_nil]at this
   show(lfp rs []).length≤2000
   omega
  ·cases hP
section
variable {μ:Mem}
set_option maxHeartbeats 1000000 in
theorem rS{rs:List Ru}{b3:Option Addr}{c3:Nat}(hr:Sl μ 6 b3 rs.length ((rs.map Ru.rd).map RuD.d))(hn:rs.length≤2000)(hneg:∀r∈rs,r.neg=[]):
  Spec Tryz.prog 61 [.slice b3 rs.length c3] μ fun v μ'=>∃n,LastSt rs n∧RepV μ' (.sl 1 (stD rs n)) v:=by
 refine Spec.mk Tryz.func61 (by kernel_rfl) ?_
 intro r6 μ1 hle1 hno1 hat1 r7
 refine lIn (fun z:Nat×Option Nat×Nat×List Value×Mem=>(∀m,m<z.1→cO rs (stF rs m) []≠stF rs m)∧μ.Le z.2.2.2.2∧Rows z.2.2.2.2 1 (stD rs z.1) z.2.2.2.1)
  (fun(_,bo,co,ys,μ')=>⟨[(0,.val (.slice b3 rs.length c3)),(3,.row 1 bo ys.length co)],[(1,some (.row bo co 29 1 ys))],2,μ',Mem.nil⟩) (fun z=>rs.length+1-z.1)
  (0,some r7,1,_,μ1) ⟨(fun m h=>by omega),hle1,Rows.one (d:=fsD []) (Rows.sl (μ:=μ1) (ds:=[]) hat1 .nil (Nat.zero_le _)) rfl⟩ (fun(_,_,_,_,_)=>⟨rfl,rfl⟩) ⟨⟨rfl,rfl,trivial⟩,⟨rfl,trivial⟩,rfl,rfl⟩ ?_
 rintro⟨n,bo,co,ys,μ'⟩ ⟨hne,hle,hrows⟩
 dsimp only at hne hle hrows
 have hyl:=hrows.len
 rw[qE]at hyl
 have hsl:=qF hne
 have hrl:=(gF rs n).len
 have w_:=hrows.val (rR rs n)
 obtain⟨w,hw,hwr⟩:=w_
 have hwr:FsV μ' (stF rs n) w:=hwr
 have w_:=FsV.sl hwr
 obtain⟨b5,c5,rfl,-,hso⟩:=w_
 refine aB (by omega) (by omega) ?_
 refine bV n (by omega) (by omega) (bU _ hw ?_)
 refine cPl (eI (hr.mono hle) (by omega) (gF rs n).asc (by omega) hso) fun v4 μ4 hle4 hR4=>?_
 rw[qAi hneg]at hR4
 have w_:=FsV.sl hR4
 obtain⟨b6,c6,rfl,-,hs6⟩:=w_
 refine aB (by omega) (by omega) ?_
 refine bV n (by omega) (by omega) (bU _ hw ?_)
 refine cGv (eC hs6 (hso.mono hle4)) ?_
 refine ifd (fun he=>?_) (fun he=>?_)
 ·refine rFz [1] fun μ5 hle5 hno5 hat5 => .inl ⟨n, ⟨he, hne⟩, ?_⟩
  exact Rows.sl hat5 (hrows.mono (hle4.trans hle5)) (Nat.le_trans (m:=100000) (by omega) (by decide))
 ·intro r25
  refine gIn ?_ ?_ fun b' c' _=>?_
  ·show(ys.length+1)*24≤_;omega
  ·exact Nat.le_trans (m:=100000) (show ys.length+1≤_ by omega) (by decide)
  have hne':∀m,m<n+1→cO rs (stF rs m) []≠stF rs m:=fun m hm=>by
   rcases Nat.lt_or_ge m n with k|k
   ·exact hne m k
   ·obtain rfl : m = n := by omega
    exact he
  have hs2:=qF hne'
  have hr2:=(gF rs (n+1)).len
  refine⟨(n+1,b',c',_,μ4),⟨hne',hle.trans hle4,?_⟩,by dsimp only;omega,⟨⟨rfl,rfl,trivial⟩,⟨rfl,trivial⟩,rfl,rfl⟩⟩
  dsimp only
  rw[qAw]
  exact(hrows.mono hle4).append (Rows.one (d:=fsD (stF rs (n+1))) hR4 rfl)
theorem qAv{rs:List Ru}{n:Nat}{b:Option Addr}(h:Sl μ 1 b (n+1) (stD rs n)):∃ad,∃q:Option Addr×Nat,ElemAt μ b (n+1) 1 n ad [.slice q.1 (stF rs n).length q.2]∧FsV μ (stF rs n) (.slice q.1 (stF rs n).length q.2):=by
 have w_:=h.get n (fsD (stF rs n)) (rR rs n)
 obtain⟨ad,cs,h1,h2⟩:=w_
 have h3:Rep μ (fsD (stF rs n)) cs:=h2
 have hl:=Rep.len _ _ h3
 match cs,hl with
 |[v],_=>
  have h4:FsV μ (stF rs n) v:=h3
  have w_:=FsV.sl h4
  obtain⟨b5,c5,rfl,-,_⟩:=w_
  exact⟨ad,(b5,c5),h1,h4⟩
theorem qGr{rs:List Ru}{n:Nat}{v:Value}(h:RepV μ (.sl 1 (stD rs n)) v):∃b c,v= .slice b (n+1) c∧Sl μ 1 b (n+1) (stD rs n):=by
 have w_:=Rep.sl h
 obtain⟨b,c,rfl,hs⟩:=w_
 have hs2:=hs.1
 rw[qE]at hs hs2
 exact⟨b,c,by rw[qE],hs⟩
theorem gK{p:Pg}{u:List Tm}{v:Value}{ub:Option Addr}{uc:Nat}(hp:RepV μ p.d v)(hu:Sl μ 4 ub u.length (u.map Tm.d)):
  Spec Tryz.prog 15 [v,.slice ub u.length uc] μ fun v μ'=>qRy (fun y tv=>Fresh μ μ' (fsD y) tv) (eV p u) v:=by
 have hp0:=hp
 have w_:=Pg.inv hp
 obtain⟨q,rfl,hrl⟩:=w_
 refine Spec.mk Tryz.func15 (by kernel_rfl) ?_
 intro r2
 refine cPl (cT hp0 hu) fun v1 μ1 hle1 hR=>?_
 cases hP:aU p u with
 |none=>
  rw[hP]at hR
  obtain rfl:=hR
  refine iIn (fun _=>rPl (by rw[eV,hP];rfl)) (fun h=>nomatch h)
 |some rs=>
 rw[hP]at hR
 obtain⟨tv,rfl,hR⟩:=hR
 have hR:RsV μ1 rs tv:=hR
 have w_:=RsV.sl hR
 obtain⟨b1,c1,rfl,hrs⟩:=w_
 have hL:eV p u=some (lfp rs []):=by rw[eV,hP];rfl
 have hk:=wB hL
 have hpg:p.Pos∧aJ p u=some rs:=by
  rw[aU]at hP
  split at hP
  ·rename_i k;exact⟨k,hP⟩
  ·cases hP
 refine iIn (fun h=>nomatch h) (fun _=>?_)
 refine cPl (rS hrs (bI hpg.2).1 (yH hpg.1 hpg.2)) fun v2 μ2 hle2 hR2=>?_
 obtain⟨n,hlast,hR2⟩:=hR2
 have w_:=qGr hR2
 obtain⟨b2,c2,rfl,hs2⟩:=w_
 have hsl:=qF hlast.2
 rw[←hlast.eq]at hL hk
 refine aB (by omega) (by omega) ?_
 have w_:=qAv hs2
 obtain⟨ad,q2,hel,hfs⟩:=w_
 rw[show(((n+1:Nat):Int)-1)=(n:Int) by omega]
 refine eIn hel ?_
 refine cPl (bD hfs (by omega) fun f hf=>Nat.le_trans (hk.2.1.len hk.1 f hf) (by decide)) fun v4 μ4 hle4 hR4=>?_
 refine aB (by omega) (by omega) ?_
 refine rPl ?_
 rw[hL]
 exact⟨_,n,by rw[show(((n+1:Nat):Int)-1)=(n:Int) by omega],hR4.mono (hle1.trans hle2) (Mem.Le.refl _)⟩
end
end Go.Vx
namespace Go.Vx
open Go.Proofs Classical
section
variable {μ:Mem}
theorem RepS.take:∀(ds:List D) (a:Nat) {cs:List Value},RepS μ ds cs→∃c1 c2,cs=c1++c2∧RepS μ (ds.take a) c1
 |[],a,cs,_=>⟨[],cs,rfl,by rw[List.take_nil];exact rfl⟩
 |d::r,0,cs,_=>⟨[],cs,rfl,rfl⟩
 |d::r,a+1,cs,h=>by
  obtain⟨c1,c2,e,h1,h2⟩:=h
  have w_:=RepS.take r a h2
  obtain⟨c3,c4,e2,h3⟩:=w_
  exact⟨c1++c3,c4,by rw[e,e2,List.append_assoc],c1,c3,rfl,h1,h3⟩
theorem Rep.cut{es n c a:Nat}{base:Option Addr}{xs:List D}(h:RepV μ (.sl es xs) (.slice base n c))(ha:a≤n):RepV μ (.sl es (xs.take a)) (.slice (if c=0 then base else base.map (·.add (0*es))) (a-0) (c-0)):=by
 have e:(if c=0 then base else base.map (·.add (0*es)))=base:=by
  split
  ·rfl
  ·cases base<;>simp[Addr.add]
 rw[e,Nat.sub_zero,Nat.sub_zero]
 obtain⟨b2,c2,e2,hl,hn,hor⟩:=h
 have e3:=(List.cons.inj e2).1
 cases e3
 have hta:(xs.take a).length=a:=by rw[List.length_take];omega
 refine⟨base,c,by rw[hta],⟨by rw[hta];exact Nat.le_trans ha hl.le,by rw[hta];exact Nat.le_trans ha hl.max⟩,fun x hx=>hn x (List.mem_of_mem_take hx),?_⟩
 rcases hor with h|⟨a0,flat,h1,h2,h3⟩
 ·exact .inl (by rw[h,List.take_nil])
 ·have w_ := RepS.take xs a h3
  obtain⟨c1,c2,e4,h4⟩:=w_
  exact .inr ⟨a0,c1,h1,fun j v hj=>h2 j v (by rw[e4,List.getElem?_append_left (List.getElem?_eq_some_iff.1 hj).1];exact hj),h4⟩
end
end Go.Vx
namespace Go.Vx
open Go.Proofs Classical
theorem qGe{rs:List Ru}{b b':List F}(h:∀f∈b,f∈lfp rs b'):∀f∈lfp rs b,f∈lfp rs b':=fun f hf=>by
 rw[mem_lfp]at hf ⊢
 exact hf.up fun x hx=>mem_lfp.1 (h x hx)
theorem mW{rs:List Ru}{b:List F}{f:F}(h:f∈b):f∈lfp rs b:=mem_lfp.2 (.base h)
end Go.Vx
namespace Go.Vx
open Go.Proofs Classical
section
variable {μ:Mem}
set_option maxHeartbeats 1000000 in
theorem fQ{p:Pg}{U:List T}{L:List F}{rs:List Ru}{v:Value}{ub fb:Option Addr}{uc fc:Nat}(hp:RepV μ p.d v)(hu:Sl μ 4 ub U.length ((U.map T.tm).map Tm.d))(hb:FsV μ L (.slice fb L.length fc))(hn:L.length≤2000000)
  (hok:p.Ok) (huok:UnivOk (U.map T.tm)) (hall:∀f∈L,FactFits p f.fc) (hL:bK p U=some rs):
  Spec Tryz.prog 62 [v,.slice ub U.length uc,.slice fb L.length fc] μ fun v μ'=>∃tv,v= .tuple #[tv,.bool true]∧FsV μ' (cO rs (dA L) (dA L)) tv:=by
 have hp0:=hp
 have w_:=Pg.inv hp
 obtain⟨q,rfl,hrl⟩:=w_
 have h1:=huok.pos
 have h8:=huok.max
 rw[List.length_map]at h1 h8
 have hgo:aJ p (U.map T.tm)=some rs:=by rw[aJ,if_pos ⟨hok,huok⟩,bW];exact hL
 have w_:=bI hgo
 obtain⟨hrl2,hro⟩:=w_
 have hbs:=FsV.sl hb
 refine Spec.mk Tryz.func62 (by kernel_rfl) ?_
 intro r3
 refine cPl (bX hp0) fun v1 μ1 hle1 hR=>?_
 obtain rfl:=hR
 refine iIn (fun h=>absurd hok (nd h)) (fun _=>?_)
 have hU:=cA (cap:=uc) (l:=U.map T.tm) (base:=ub) (μ:=μ1) (by rw[List.length_map];exact hu.mono hle1)
 rw[List.length_map]at hU
 refine cGv hU ?_
 refine iIn (fun h=>absurd huok (nd h)) (fun _=>?_)
 obtain⟨bq,cq,eq_,-,hsq⟩:=hbs
 obtain⟨rfl,-,rfl⟩:=Value.slice.inj eq_
 refine lIn (fun i:Nat=>i≤L.length)
  (fun i=>⟨[(1,.val (.slice ub U.length uc)),(2,.val (.slice fb L.length fc)),(3,.loc 0 r3 0),(20,.val (.slice fb L.length fc)),(21,.val (.int .i64 L.length)),(22,.val (.int .i64 i))],[(0,some (.cells r3 [.val (.slice q.1 p.rels.length q.2)] 25))],1,μ1,Mem.nil⟩) (fun i=>L.length-i)
  0 (Nat.zero_le _) (fun _=>⟨rfl,rfl⟩) ⟨⟨rfl,rfl,rfl,rfl,rfl,rfl,trivial⟩,⟨rfl,trivial⟩,rfl,rfl⟩ ?_
 intro i hi
 refine ifd (fun hlt=>?_) (fun hlt=>?_)
 ·have w_ := aSo (l := L) (i := i) (by omega)
  obtain⟨f,hf⟩:=w_
  have w_:=F.elemV (hsq.mono hle1) hf
  obtain⟨ad,q2,hel,hrf⟩:=w_
  refine eIn hel ?_
  intro r9
  refine cGv (gB (hp0.mono hle1) hrf) ?_
  refine aK (fun h=>absurd (hall f (mAt hf)) h) (fun h=>?_)
  exact aB (by omega) (by omega) ⟨i+1,by omega,by omega,⟨⟨rfl,rfl,rfl,rfl,rfl,rfl,trivial⟩,⟨rfl,trivial⟩,rfl,rfl⟩⟩
 refine cPl (dM (hp0.mono hle1) hok (hu.mono hle1) h1 h8) fun v2 μ2 hle2 hR=>?_
 rw[hL]at hR
 obtain⟨tv,rfl,hR⟩:=hR
 have w_:=RsV.sl hR
 obtain⟨b1,c1,rfl,hrs⟩:=w_
 refine iIn (fun h=>nomatch h) (fun _=>?_)
 refine cPl (bE ((hb.mono hle1).mono hle2) (by omega)) fun v3 μ3 hle3 hR3=>?_
 have w_:=FsV.sl hR3
 obtain⟨b2,c2,rfl,-,hs2⟩:=w_
 have hsl:=fT L
 refine cPl (eI (hrs.mono hle3) (by omega) (cU _) (by omega) hs2) fun v4 μ4 hle4 hR4=>?_
 refine cPl (bD hR4 ?_ ?_) fun v5 μ5 hle5 hR5=>?_
 ·have:=sL rs (dA L) (dA L);omega
 ·intro f hf
  have w_:=mem_nextF.1 hf
  obtain⟨r,hr,_,rfl⟩:=w_
  exact Nat.le_trans (hro r hr).hlen (by decide)
 ·exact rPl ⟨_,rfl,hR5.rep⟩
def tP(rs:List Ru)(L:List F):Prop:=∀f∈cO rs (dA L) (dA L),f∈L
set_option maxHeartbeats 1000000 in
theorem jU{p:Pg}{U:List T}{L:List F}{rs:List Ru}{v:Value}{ub fb:Option Addr}{uc fc:Nat}(hp:RepV μ p.d v)(hu:Sl μ 4 ub U.length ((U.map T.tm).map Tm.d))(hb:FsV μ L (.slice fb L.length fc))(hn:L.length≤2000000)
  (hok:p.Ok) (huok:UnivOk (U.map T.tm)) (hall:∀f∈L,FactFits p f.fc) (hL:bK p U=some rs):
  Spec Tryz.prog 16 [v,.slice ub U.length uc,.slice fb L.length fc] μ fun v _=>v= .bool (decide (tP rs L)):=by
 have hp0:=hp
 have w_:=Pg.inv hp
 obtain⟨q,rfl,hrl⟩:=w_
 have hcon:=fQ (uc:=uc) hp0 hu hb hn hok huok hall hL
 refine Spec.mk Tryz.func16 (by kernel_rfl) ?_
 intro r3
 refine cPl hcon fun v1 μ1 hle1 hR=>?_
 obtain⟨tv,rfl,hR⟩:=hR
 have w_:=FsV.sl hR
 obtain⟨b1,c1,rfl,-,hs1⟩:=w_
 refine iIn (fun h=>nomatch h) (fun _=>?_)
 refine cPl (bE (hb.mono hle1) (by omega)) fun v2 μ2 hle2 hR2=>?_
 have w_:=FsV.sl hR2
 obtain⟨b2,c2,rfl,-,hs2⟩:=w_
 have hsl:=fT L
 have hmx:=aH hs1.max
 generalize hN:cO rs (dA L) (dA L)=N at*
 refine lIn (fun i:Nat=>i≤N.length∧∀(j:Nat) x,j<i→N[j]? =some x→x∈L)
  (fun i=>⟨[(9,.val (.slice b2 (dA L).length c2)),(23,.val (.slice b1 N.length c1)),(24,.val (.int .i64 N.length)),(25,.val (.int .i64 i))],[],1,μ2,Mem.nil⟩) (fun i=>N.length-i)
  0 ⟨Nat.zero_le _,fun j x hj=>by omega⟩ (fun _=>⟨rfl,rfl⟩) ⟨⟨rfl,rfl,rfl,rfl,trivial⟩,trivial,rfl,rfl⟩ ?_
 rintro i ⟨hi,hin⟩
 refine ifd (fun hlt=>?_) (fun hlt=>?_)
 ·have w_ := aSo (l := N) (i := i) (by omega)
  obtain⟨x,hx⟩:=w_
  have w_:=F.elemV (hs1.mono hle2) hx
  obtain⟨ad,p2,hel,hrx⟩:=w_
  refine eIn hel ?_
  intro r11
  refine cGv (bM (cU _) (by omega) hs2 hrx) ?_
  refine aK (fun h=>?_) (fun h=>?_)
  ·refine rPl ?_
   rw[decide_eq_false]
   intro k
   rw[tP,hN]at k
   exact h (mem_ascF.2 (k x (List.mem_of_getElem? hx)))
  ·refine aB (by omega) (by omega) ⟨i + 1, ⟨by omega, fun j y hj hy => ?_⟩, by omega, ⟨⟨rfl, rfl, rfl, rfl, trivial⟩, trivial, rfl, rfl⟩⟩
   by_cases e:j=i
   ·subst e;rw[hx]at hy;cases hy;exact mem_ascF.1 h
   ·exact hin j y (by omega) hy
 ·refine rPl ?_
  rw[decide_eq_true]
  intro f hf
  rw[hN]at hf
  have w_:=List.getElem?_of_mem hf
  obtain⟨j,hj⟩:=w_
  exact hin j f (by have:=(List.getElem?_eq_some_iff.1 hj).1;omega) hj
end
end Go.Vx
namespace Go.Vx
open Go.Proofs Classical
theorem Gl.Sh_wd{g:Gl}(h:g.Sh):g.d.wd:=by
 revert h
 refine Gl.ind (q:=fun g=>g.Sh→g.d.wd) (fun g ih h=>?_) g
 have w_:=iH h.top.tm
 obtain⟨xs,hxs,hok⟩:=w_
 have hk0:=h.top.k0
 have hk1:=h.top.k1
 have hnm:g.name.size≤maxLen:=by
  by_cases h9:g.kind=9
  ·exact Nat.le_trans (h.top.rel h9).2.2.1 (by decide)
  ·rw[h.top.nm h9];exact Nat.zero_le _
 rw[Gl.d_eq,hxs]
 refine⟨⟨by omega,by omega⟩,hnm,jS fun x hx=>(hok x hx).1,D.wds_of fun d hd=>?_,trivial⟩
 have w_:=List.mem_map.1 hd
 obtain⟨y,hy,rfl⟩:=w_
 exact ih y hy (h.sub y hy)
theorem Pg.Ok.wd{p:Pg}(hp:p.Ok):p.d.wd:=by
 rw[Pg.d_eq]
 refine⟨D.wds_of fun d hd=>?_,trivial⟩
 have w_:=List.mem_map.1 hd
 obtain⟨r,hr,rfl⟩:=w_
 have w_:=List.getElem?_of_mem hr
 obtain⟨i,hi⟩:=w_
 have h:=hp.2 i r hi
 have:=h.ar0
 have:=h.ar4
 have:=h.lo0
 have:=h.lo8
 rw[Rl.d_eq]
 exact⟨Nat.le_trans h.name.2.2.1 (by decide),⟨by omega,by omega⟩,⟨by omega,by omega⟩,Gl.Sh_wd h.body,trivial⟩
structure FsU (p:Pg) (U:List T) (L:List F):Prop where
 fit:FsOk p L
 uni:∀f∈L,∀a∈f.args,a∈U
 asc:Asc3 bC L
theorem FsU.nil(p:Pg)(U:List T):FsU p U []:=⟨(fun _ h=>nomatch h),(fun _ h=>nomatch h),List.Pairwise.nil⟩
theorem FsU.sub{p:Pg}{U:List T}{L M:List F}(h:FsU p U L)(hs:M.Sublist L):FsU p U M:=
 ⟨fun f hf=>h.fit f (hs.subset hf),fun f hf=>h.uni f (hs.subset hf),List.Pairwise.sublist hs h.asc⟩
theorem FsU.ins{p:Pg}{U:List T}{L:List F}{f:F}(h:FsU p U L)(hf:FactFits p f.fc)(hu:∀a∈f.args,a∈U):FsU p U (aX L f):=
 {
  fit:=fun x hx=>(mem_insF.1 hx).elim (fun h1=>by rw[h1];exact hf) (h.fit x)
  uni:=fun x hx=>(mem_insF.1 hx).elim (fun h1=>by rw[h1];exact hu) (h.uni x)
  asc:=fX L f}
theorem FsU.base{p:Pg}{U:List T}{L:List F}{rs:List Ru}(h:FsU p U L)(hp:p.Pos)(hg:aJ p (U.map T.tm)=some rs):fC p (U.map T.tm) (L.map F.fc):=
 ⟨by rw[hg];exact(fun h=>nomatch h),hp,h.fit.lift,by rw[F.fcs,bW];exact h.uni,by rw[F.fcs,List.length_map];exact AscF.of h.asc _⟩
end Go.Vx
namespace Go.Vx
open Go.Proofs Classical
theorem F.mkE{μ:Mem}{f:F}{b:Option Addr}{n c:Nat}(h:RepV μ (.sl 4 ((f.args.map T.tm).map Tm.d)) (.slice b n c)):RepV μ f.fc.d (.agg #[.string f.rel,.slice b n c]):=by
 rw[Fc.d_eq]
 exact⟨_,rfl,RepS.str (RepS.last h)⟩
section
variable {μ:Mem}
set_option maxHeartbeats 4000000 in
theorem fZ{p:Pg}{U:List T}{v:Value}{ub:Option Addr}{uc:Nat}(hp:RepV μ p.d v)(hu:Sl μ 4 ub U.length ((U.map T.tm).map Tm.d))(hok:p.Ok)(hne:p.rels≠[])(huok:UnivOk (U.map T.tm))(hU2:U.length≤2):
  Spec Tryz.prog 22 [v,.slice ub U.length uc] μ fun r μ'=>∃L tv,r= .tuple #[tv,.bool true]∧FsU p U L∧1≤L.length∧L.length≤200∧FsV μ' L tv:=by
 have hp0:=hp
 have w_:=Pg.inv hp
 obtain⟨q,rfl,hrl⟩:=w_
 have hU1:1≤U.length:=by have:=huok.pos;rwa [List.length_map]at this
 have hgnd:∀a∈U,tN a.tm:=fun a ha=>huok.gnd _ (List.mem_map_of_mem ha)
 have hmu:Sl μ 4 ub (U.map T.tm).length ((U.map T.tm).map Tm.d):=by rw[List.length_map];exact hu
 have hwu:D.wds ((U.map T.tm).map Tm.d):=jS fun a ha=>by
  have:=(hgnd a ha).1.toT.1.1
  rwa [T.toT_tm]at this
 have hn8:=hok.1
 refine Spec.mk Tryz.func22 (by kernel_rfl) ?_
 intro r2
 refine cPl (bY hp0 hok.wd) fun v1 μ1 hle1 hR=>?_
 obtain rfl:=hR
 refine aK (fun h=>absurd hok h) (fun _=>?_)
 have hus:=cY (cap:=uc) (hmu.mono hle1) hwu
 rw[List.length_map]at hus
 refine cGv hus ?_
 refine aK (fun h=>absurd huok h) (fun _=>?_)
 intro r22
 refine lFz (fun z:Nat×List F×(Option Addr×Nat)×Mem=>z.1≤p.rels.length∧μ1.Le z.2.2.2∧FsU p U z.2.1∧z.2.1.length≤16*z.1∧(0<z.1→1≤z.2.1.length)∧FsV z.2.2.2 z.2.1 (.slice z.2.2.1.1 z.2.1.length z.2.2.1.2))
  (fun(i,L,(b,c),μ')=>⟨[(1,.val (.slice ub U.length uc)),(6,.val (.slice b L.length c)),(24,.val (.slice q.1 p.rels.length q.2)),(25,.val (.int .i64 p.rels.length)),(26,.val (.int .i64 i))],[],2,μ',Mem.nil⟩) (fun z=>p.rels.length-z.1) [1]
  (fun(_,_,(_,_),_)=>⟨rfl,rfl⟩) ?_ ?_
 ·intro μ' hle hno hat
  exact⟨(0,[],(some ⟨r22,0,none⟩,0),μ'),⟨Nat.zero_le _,hle,FsU.nil p U,Nat.zero_le _,fun h=>absurd h (Nat.lt_irrefl 0),Rows.sl hat .nil (Nat.zero_le _)⟩,⟨⟨rfl,rfl,rfl,rfl,rfl,trivial⟩,trivial,rfl,rfl⟩⟩
 rintro⟨i,L,⟨b,c⟩,μ'⟩ ⟨hi,hle,hL,hlen,hpos,hrL⟩
 dsimp only at hi hle hL hlen hpos hrL
 refine ifd (fun hlt=>?_) (fun hlt=>?_)
 rotate_left
 ·obtain rfl : i = p.rels.length := by omega
  have h1:0<p.rels.length:=List.length_pos_iff.2 hne
  refine ifd (fun h=>absurd h (by omega)) (fun _=>?_)
  have w_:=FsV.sl hrL
  obtain⟨b',c',e,-,hs⟩:=w_
  have w_:=Value.slice.inj e
  obtain⟨rfl,_,rfl⟩:=w_
  refine cPl (eK hs (by omega) fun f hf=>Nat.le_trans (hL.fit.len hok f hf) (by decide)) fun v2 μ2 hle2 hR2=>?_
  exact rPl ⟨L,v2,rfl,hL,hpos h1,by omega,hR2⟩
 have w_:=aSo (l:=p.rels) (i:=i) (by omega)
 obtain⟨r,hr⟩:=w_
 have w_:=Rl.elemA ((hrl.mono hle1).mono hle) hr
 obtain⟨ad,q2,hel,hrv,hb⟩:=w_
 have hrok:=hok.2 i r hr
 have w_:=Int.eq_ofNat_of_zero_le hrok.ar0
 obtain⟨a,ha⟩:=w_
 have har4:=hrok.ar4
 have ha4:a≤4:=by omega
 refine eIn hel ?_
 intro r8
 have hwsp:=iG (μ:=μ') (size:=U.length) (n:=a) (most:=2000) hU1 (by omega) (by omega) (by omega) (by omega)
 rw[←ha]at hwsp
 have hW16:U.length ^ a≤16:=Nat.le_trans (Nat.pow_le_pow_left hU2 a) (Nat.le_trans (Nat.pow_le_pow_right (by decide) ha4) (by decide))
 refine cPl hwsp fun v4 μ4 hle4 hR4=>?_
 obtain⟨⟨W,rfl,hW1,hW2⟩,e4⟩:=hR4
 obtain rfl:=e4.symm
 have w_:=hW1 (by omega)
 obtain rfl:=w_
 have hWpos:0<U.length ^ a:=Nat.pow_pos (by omega)
 refine lIn (fun z:Nat×List F×(Option Addr×Nat)×Mem=>z.1≤U.length ^ a∧μ'.Le z.2.2.2∧FsU p U z.2.1∧z.2.1.length≤16*i+z.1∧(0<z.1→1≤z.2.1.length)∧FsV z.2.2.2 z.2.1 (.slice z.2.2.1.1 z.2.1.length z.2.2.1.2))
  (fun(k,L,(b,c),μ')=>⟨[(1,.val (.slice ub U.length uc)),(6,.val (.slice b L.length c)),(8,.loc 2 r8 0),(9,.val (.int .i64 ((U.length ^ a:Nat):Int))),(10,.val (.int .i64 k)),(24,.val (.slice q.1 p.rels.length q.2)),(25,.val (.int .i64 p.rels.length)),(26,.val (.int .i64 i))],[(2,some (.cells r8 [.val (.string r.name),.val (.int .i64 r.arity),.val (.int .i64 r.locals),.val (.int .i64 r.body.kind),.val (.string r.body.name),.val (.slice q2.1.1 r.body.terms.length q2.1.2),.val (.slice q2.2.1 r.body.goals.length q2.2.2)] 63))],3,μ',Mem.nil⟩) (fun z=>U.length ^ a-z.1)
  (0,L,(b,c),μ') ⟨Nat.zero_le _,Mem.Le.refl _,hL,by dsimp only;omega,fun h=>absurd h (Nat.lt_irrefl 0),hrL⟩ (fun(_,_,(_,_),_)=>⟨rfl,rfl⟩) ⟨⟨rfl,rfl,rfl,rfl,rfl,rfl,rfl,rfl,trivial⟩,⟨rfl,trivial⟩,rfl,rfl⟩ ?_
 clear hL hlen hrL hpos
 rintro⟨k,L,⟨b,c⟩,μ2⟩ ⟨hk,hle2,hL,hlen,hpos,hrL⟩
 dsimp only at hk hle2 hL hlen hpos hrL
 refine ifd (fun hkl=>?_) (fun hkl=>?_)
 rotate_left
 ·refine aB (by omega) (by omega) ⟨[],(i+1,L,(b,c),μ2),⟨by dsimp only;omega,hle.trans hle2,hL,by dsimp only;omega,fun _=>hpos (by omega),hrL⟩,by dsimp only;omega,⟨⟨rfl,rfl,rfl,rfl,rfl,trivial⟩,trivial,rfl,rfl⟩⟩
 refine ifd (fun _=>?_) (fun h=>absurd h (by omega))
 intro r11 r48
 refine aF 0 a rfl ha (Nat.zero_le _) (by omega) ?_
 refine aW [4] fun μ3 hle3 hno3 hat3=>?_
 have hri:RepV μ3 (.sl 1 ((eB 4).map D.i)) (.slice (some ⟨r48,0,none⟩) 4 4):=Ints.sl (l:=eB 4) hat3 (by decide)
 have hrc:=Rep.cut hri ha4
 have etk:((eB 4).map D.i).take a=(eB a).map D.i:=by
  rw[←List.map_take]
  congr 1
  rw[eB,eB,←List.map_take,List.take_range]
  congr 2;omega
 rw[etk]at hrc
 have w_:=Rep.sl hrc
 obtain⟨vb,vc,evb,hvs⟩:=w_
 have w_:=Value.slice.inj evb
 obtain⟨rfl,_,_⟩:=w_
 rw[List.length_map,kA]at hvs
 have hval:=fG (μ:=μ3) (U:=U) (n:=a) (w:=k) (uc:=uc) (vc:=4-0) ((((hu.mono hle1).mono hle).mono hle2).mono hle3) (by omega) (by omega) hvs (by omega) (by omega)
 refine bH hval fun v5 μ5 hle5 hR5=>?_
 have w_:=Rep.sl hR5
 obtain⟨bb,bc,rfl,hbs⟩:=w_
 rw[List.length_map,List.length_map,fI,cV]at hbs ⊢
 have hdl:(cN U a k).length=a:=cV U a k
 refine cX (fun z:Nat×Option Nat×Nat×List Value=>z.1≤a∧Rows μ5 4 ((((cN U a k).take z.1).map T.tm).map Tm.d) z.2.2.2)
  (fun(j,b2,c2,ys)=>⟨[(1,.val (.slice ub U.length uc)),(6,.val (.slice b L.length c)),(8,.loc 2 r8 0),(9,.val (.int .i64 ((U.length ^ a:Nat):Int))),(10,.val (.int .i64 k)),(11,.loc 3 r11 0),(24,.val (.slice q.1 p.rels.length q.2)),(25,.val (.int .i64 p.rels.length)),(26,.val (.int .i64 i)),(54,.val (.slice bb a bc)),(55,.val (.int .i64 a)),(56,.val (.int .i64 j))],[(2,some (.cells r8 [.val (.string r.name),.val (.int .i64 r.arity),.val (.int .i64 r.locals),.val (.int .i64 r.body.kind),.val (.string r.body.name),.val (.slice q2.1.1 r.body.terms.length q2.1.2),.val (.slice q2.2.1 r.body.goals.length q2.2.2)] 63)),(3,some (.cells r11 [.val (.string r.name),.row 5 b2 ys.length c2] 41)),(5,some (.row b2 c2 75 4 ys))],6,μ5,Mem.nil⟩) (fun z=>a-z.1)
  (0,none,0,[]) ⟨Nat.zero_le _,.nil⟩ (fun(_,_,_,_)=>⟨rfl,rfl⟩) ?_ ?_
 ·exact⟨⟨⟨_,rfl,.inl rfl⟩,⟨_,rfl,.inl rfl⟩,⟨_,rfl,.inl rfl⟩,⟨_,rfl,.inl rfl⟩,⟨_,rfl,.inl rfl⟩,⟨_,rfl,.inl rfl⟩,⟨_,rfl,.inl rfl⟩,⟨_,rfl,.inl rfl⟩,⟨_,rfl,.inl rfl⟩,⟨_,rfl,.inl rfl⟩,⟨_,rfl,.inl rfl⟩,⟨_,rfl,.inl rfl⟩,trivial⟩,⟨.inl rfl,.inr (.inr ⟨_,_,_,_,rfl,rfl,.inl rfl,.inr ⟨5,rfl,rfl,Nat.le_refl _⟩,trivial⟩),.inr (.inl ⟨_,_,rfl,Nat.le_refl _⟩),trivial⟩,rfl,rfl⟩
 rintro⟨j,b2,c2,ys⟩ ⟨hj,hrows⟩
 dsimp only at hj hrows
 have hyl:=hrows.len
 simp only[List.length_map,List.length_take,cV]at hyl
 refine ifd (fun hja=>?_) (fun hja=>?_)
 ·have w_ := aSo (l := cN U a k) (i := j) (by omega)
  obtain⟨x,hx⟩:=w_
  have w_:=B.elem hbs (kF hx)
  obtain⟨ad3,p3,hel3,hto⟩:=w_
  refine eIn hel3 ?_
  intro r13 r64
  refine gIn ?_ ?_ fun b' n' _=>?_
  ·show(ys.length+1)*56≤_;omega
  ·exact Nat.le_trans (m:=100000000) (show ys.length+1≤_ by omega) (by decide)
  refine aB (by omega) (by omega) ⟨(j+1,b',n',_),⟨by dsimp only;omega,?_⟩,by dsimp only;omega,⟨⟨rfl,rfl,rfl,rfl,rfl,rfl,rfl,rfl,rfl,rfl,rfl,rfl,trivial⟩,⟨rfl,rfl,rfl,trivial⟩,rfl,rfl⟩⟩
  dsimp only
  rw[List.take_add_one,hx,Option.toList_some]
  simp only[List.map_append,List.map_cons,List.map_nil]
  exact hrows.append (Rows.one hto (Tm.d_n _))
 obtain rfl:j=a:=by omega
 rw[List.take_of_length_le (by omega)]at hrows
 refine aW [5] fun μ6 hle6 hno6 hat6=>?_
 have hcap:ys.length≤4:=by omega
 have hrow:=Rows.sl hat6 (hrows.mono hle6) (Nat.le_trans (m:=4) hcap (by decide))
 have hfr:RepV μ6 (F.fc ⟨r.name,cN U j k⟩).d (.agg #[.string r.name,.slice (b2.map fun r=>⟨r,0,none⟩) ys.length c2]):=F.mkE hrow
 have hdm:∀y∈cN U j k,y∈U:=oK U (by omega) _ _
 have hfit:FactFits p (F.fc ⟨r.name,cN U j k⟩):=by
  refine⟨⟨i,r,hrok.at_,hr,?_⟩,fun t ht=>?_⟩
  ·show r.arity = (((cN U j k).map T.tm).length : Int)
   rw[List.length_map,hdl,ha]
  ·have w_ := List.mem_map.1 ht
   obtain⟨y,hy,rfl⟩:=w_
   exact hgnd y (hdm y hy)
 have hle36:=(hle3.trans hle5).trans hle6
 refine bH (dP hL.asc (RepV.mono hle36 hrL) hfr (by omega)) fun v7 μ7 hle7 hR7=>?_
 have w_:=FsV.sl hR7
 obtain⟨b7,c7,rfl,-,-⟩:=w_
 have hl7:=cC L ⟨r.name,cN U j k⟩
 refine aB (by omega) (by omega) ⟨(k+1,aX L ⟨r.name,cN U j k⟩,(b7,c7),μ7),⟨by dsimp only;omega,hle2.trans (hle36.trans hle7),hL.ins hfit hdm,by dsimp only;omega,fun _=>List.length_pos_of_mem (mem_insF.2 (.inl rfl)),hR7⟩,by dsimp only;omega,⟨⟨rfl,rfl,rfl,rfl,rfl,rfl,rfl,rfl,trivial⟩,⟨rfl,trivial⟩,rfl,rfl⟩⟩
theorem gG{base:Option Addr}{n cap:Nat}{p:Pg}{U:List T}{v:Value}{ub:Option Addr}{uc:Nat}(hb:Bytes μ base n)(m:Int)(hm:m≤1000000)(hp:RepV μ p.d v)(hu:Sl μ 4 ub U.length ((U.map T.tm).map Tm.d))(hok:p.Ok)(hne:p.rels≠[])(huok:UnivOk (U.map T.tm))(hU2:U.length≤2):
  Spec Tryz.prog 13 [.slice base n cap,.int .i64 m,v,.slice ub U.length uc] μ fun r μ'=>∃L,FsU p U L∧L.length≤200∧FsV μ' L r:=by
 have hp0:=hp
 have w_:=Pg.inv hp
 obtain⟨q,rfl,hrl⟩:=w_
 refine Spec.mk Tryz.func13 (by kernel_rfl) ?_
 intro r6
 refine cOw (jG hb m hm) fun v μ1 h1 hle1 hap1 hR=>?_
 obtain⟨e,r,rfl,ho,hc1⟩:=hR
 obtain rfl:=e.symm
 refine cPl (fZ hp0 hu hok hne huok hU2) fun v2 μ2 hle2 hR2=>?_
 obtain⟨A,tv,rfl,hA,hA1,hA2,hrA⟩:=hR2
 have w_:=FsV.sl hrA
 obtain⟨ab,ac,rfl,-,hsA⟩:=w_
 intro r24
 refine lIn (fun z:Nat×List F×Option Nat×Nat×List Value×Mem=>z.1≤A.length∧z.2.1.Sublist (A.take z.1)∧Rows μ2 2 ((z.2.1.map F.fc).map Fc.d) z.2.2.2.2.1∧Cur μ2 Mem.nil r z.2.2.2.2.2)
  (fun(i,M,b,c,ys,h')=>⟨[(9,.val (.pointer (some ⟨r,0,none⟩))),(12,.row 1 b ys.length c),(25,.val (.slice ab A.length ac)),(26,.val (.int .i64 A.length)),(27,.val (.int .i64 i))],[(1,some (.row b c 41 2 ys))],2,μ2,h'⟩) (fun z=>A.length-z.1)
  (0,[],some r24,0,[],h1) ⟨Nat.zero_le _,by simp,.nil,hc1.mono hle2⟩ (fun(_,_,_,_,_,_)=>⟨rfl,rfl⟩) ⟨⟨rfl,rfl,rfl,rfl,rfl,trivial⟩,⟨rfl,trivial⟩,rfl,rfl⟩ ?_
 clear hc1
 rintro⟨i,M,b,c,ys,h2⟩ ⟨hi,hsub,hrows,hc2⟩
 dsimp only at hi hsub hrows hc2
 have hyl:=hrows.len
 simp only[List.length_map]at hyl
 have hMl:=hsub.length_le
 rw[List.length_take]at hMl
 refine ifd (fun hlt=>?_) (fun hlt=>?_)
 ·have w_ := aSo (l := A) (i := i) (by omega)
  obtain⟨f,hf⟩:=w_
  have w_:=F.elemV hsA hf
  obtain⟨ad,p2,hel,hrf⟩:=w_
  have htk:A.take (i+1)=A.take i++[f]:=by rw[List.take_add_one,hf,Option.toList_some]
  refine eIn hel ?_
  intro r14
  refine cOw (eJ hc2.at 3) fun v μ3 h3 hle3 hap3 hR3=>?_
  obtain⟨e,hc3,bo,rfl⟩:=hR3
  obtain rfl:=e.symm
  refine iIn (fun _=>?_) (fun _=>?_)
  ·intro r35
   refine gIn ?_ ?_ fun b' c' _=>?_
   ·show(ys.length+1)*40≤_;omega
   ·exact Nat.le_trans (m:=100000000) (show ys.length+1≤_ by omega) (by decide)
   refine aB (by omega) (by omega) ⟨(i+1,M++[f],b',c',_,h3),⟨by dsimp only;omega,by dsimp only;rw[htk];exact hsub.append (List.Sublist.refl _),?_,hc2.trans hc3⟩,by dsimp only;omega,⟨⟨rfl,rfl,rfl,rfl,rfl,trivial⟩,⟨rfl,trivial⟩,rfl,rfl⟩⟩
   dsimp only
   simp only[List.map_append,List.map_cons,List.map_nil]
   exact hrows.append (Rows.one hrf (Fc.d_n _))
  ·refine aB (by omega) (by omega) ⟨(i+1,M,b,c,ys,h3),⟨by dsimp only;omega,by dsimp only;rw[htk];exact hsub.trans (List.sublist_append_left ..),hrows,hc2.trans hc3⟩,by dsimp only;omega,⟨⟨rfl,rfl,rfl,rfl,rfl,trivial⟩,⟨rfl,trivial⟩,rfl,rfl⟩⟩
 ·obtain rfl : i = A.length := by omega
  rw[List.take_length]at hsub
  refine rFz [1] fun μ3 hle3 hno3 hat3=> .inl ⟨M,hA.sub hsub,by have:=hsub.length_le;omega,?_⟩
  exact Rows.sl hat3 (hrows.mono hle3) (Nat.le_trans (m:=100000000) (by omega) (by decide))
end
end Go.Vx
namespace Go.Vx
open Go.Proofs Classical
theorem qOw(rs:List Ru)(L:List F):tP rs (lfp rs L):=fun f hf=>by
 have w_:=mem_nextF.1 hf
 obtain⟨r,hr,hfr,rfl⟩:=w_
 exact mem_lfp.2 (.rule hr fun x hx=>mem_lfp.1 (mem_ascF.1 (hfr.1 x hx)))
section
variable {μ:Mem}
set_option maxHeartbeats 2000000 in
theorem qEx{base:Option Addr}{n cap:Nat}(hb:Bytes μ base n):
  Spec Tryz.prog 3 [.slice base n cap] μ fun r _=>r= .bool true:=by
 refine Spec.mk Tryz.func3 (by kernel_rfl) ?_
 refine ifd (fun h=>rPl rfl) (fun h=>?_)
 refine cPl (gX hb 0 (by decide) 1 (.inl rfl)) fun v1 μ1 hle1 hR=>?_
 obtain⟨p,hp,hrp⟩:=hR
 have w_:=Pg.invV hrp
 obtain⟨q,rfl⟩:=w_
 intro r3
 refine cPl (gD (hb.mono hle1) 60 (by decide) 2 (by decide) (by decide)) fun v2 μ2 hle2 hR=>?_
 obtain⟨U,hU,hrU⟩:=hR
 have w_:=Rep.sl hrU
 obtain⟨ub,uc,rfl,hus⟩:=w_
 rw[List.length_map,List.length_map]at hus ⊢
 have hus0:Sl μ2 4 ub (U.map T.tm).length ((U.map T.tm).map Tm.d):=by rw[List.length_map];exact hus
 have hgr:bK p U=some (aN p U):=mA hp.small2 hU.max
 have hgo:aJ p (U.map T.tm)=some (aN p U):=by rw[aJ,if_pos ⟨hp.ok,hU.ok (by decide)⟩,bW];exact hgr
 have hrp2:=hrp.mono hle2
 have hpos:=hp.pos (by decide)
 refine cPl (gG ((hb.mono hle1).mono hle2) 80 (by decide) hrp2 hus hp.ok hp.ne (hU.ok (by decide)) hU.max) fun v3 μ3 hle3 hR3=>?_
 obtain⟨L,hL,hLl,hrL⟩:=hR3
 have w_:=FsV.sl hrL
 obtain⟨fb,fc,rfl,-,hsL⟩:=w_
 have hbase:=hL.base hpos hgo
 have hbm:dK p (U.map T.tm) (L.map F.fc)=some (lfp (aN p U) L):=by rw[dK,if_pos hbase,hgo,Option.map_some,F.fcs]
 have hnil:fC p (U.map T.tm) []:=(FsU.nil p U).base hpos hgo
 have hnm:dK p (U.map T.tm) []=some (lfp (aN p U) []):=by rw[dK,if_pos hnil,hgo];rfl
 have hlm:eV p (U.map T.tm)=some (lfp (aN p U) []):=by rw[eV,aU,if_pos hpos,hgo];rfl
 have hbs:=bG (μ:=μ3) (l:=L.map F.fc) (fb:=fb) (fc:=fc) (uc:=uc) (hrp2.mono hle3) (hus0.mono hle3) (by rw[List.length_map];exact hrL) (by rw[List.length_map];omega)
 rw[List.length_map,List.length_map]at hbs
 refine cPl hbs fun v4 μ4 hle4 hR4=>?_
 rw[hbm]at hR4
 obtain⟨tv4,rfl,hR4⟩:=hR4
 have w_:=FsV.sl hR4.rep
 obtain⟨b4,c4,rfl,-,hs4⟩:=w_
 have hls:=gK (μ:=μ4) (uc:=uc) ((hrp2.mono hle3).mono hle4) ((hus0.mono hle3).mono hle4)
 rw[List.length_map]at hls
 refine cPl hls fun v5 μ5 hle5 hR5=>?_
 rw[hlm]at hR5
 obtain⟨tv5,n5,rfl,hR5⟩:=hR5
 have w_:=FsV.sl hR5.rep
 obtain⟨b5,c5,rfl,-,hs5⟩:=w_
 have hns:=bG (μ:=μ5) (l:=[]) (fb:=none) (fc:=0) (uc:=uc) (((hrp2.mono hle3).mono hle4).mono hle5) (((hus0.mono hle3).mono hle4).mono hle5) (Rep.nilSl 2) (Nat.zero_le _)
 rw[List.length_map]at hns
 refine cPl hns fun v6 μ6 hle6 hR6=>?_
 rw[hnm]at hR6
 obtain⟨tv6,rfl,hR6⟩:=hR6
 have w_:=FsV.sl hR6.rep
 obtain⟨b6,c6,rfl,-,hs6⟩:=w_
 have hk:=gJ hbm
 rw[List.length_map]at hk
 have hle46:=hle5.trans hle6
 refine iIn (fun _=>?_) (fun h=>nomatch h)
 refine iIn (fun _=>?_) (fun h=>nomatch h)
 refine iIn (fun _=>?_) (fun h=>nomatch h)
 have hle36:=(hle3.trans hle4).trans hle46
 refine cPl (jU (uc:=uc) (hrp2.mono hle36) (hus.mono hle36) (hR4.rep.mono hle46) (by omega) hp.ok (hU.ok (by decide)) hk.2.1 hgr) fun v7 μ7 hle7 hR7=>?_
 rw[decide_eq_true (qOw (aN p U) L)]at hR7
 subst hR7
 refine iIn (fun _=>?_) (fun h=>nomatch h)
 have hle47:=hle46.trans hle7
 refine cGv (cK (hsL.mono (hle4.trans hle47)) (hs4.mono hle47)) ?_
 refine iIn (fun _=>?_) (fun h=>absurd (fun f hf=>mW hf) (of_decide_eq_false h))
 refine cGv (cK ((hs5.mono hle6).mono hle7) (hs4.mono hle47)) ?_
 refine iIn (fun _=>?_) (fun h=>absurd (qGe fun _ (hf:_∈[])=>absurd hf List.not_mem_nil) (of_decide_eq_false h))
 refine ifd (fun _=>?_) (fun h=>absurd rfl h)
 refine cGv (cK (hs6.mono hle7) ((hs5.mono hle6).mono hle7)) ?_
 refine rPl ?_
 rw[decide_eq_true fun f hf=>hf]
end
end Go.Vx
