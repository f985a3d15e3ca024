/- Texts of the proof, part M3. -/
import Derived.Sort.AssemblyPlain
import Derived.Test.YtcmehajdmepcgaaGreatDoorM2
namespace Go.Vx
open Go.Proofs Classical
def sgn(b:Bool):Int:=if b then -1 else 1
noncomputable def eH(x y:Tm)(rest:Int):Int:=
 if x.kind≠y.kind then sgn (decide (x.kind<y.kind))else if x.num≠y.num then sgn (decide (x.num<y.num))else if x.name≠y.name then sgn (Op.bytesLess x.name.data.toList y.name.data.toList)else rest
noncomputable def T.cmp:T→T→Int
 | .pair a b,.pair c d=>if a.cmp c=0 then b.cmp d else a.cmp c
 | .pair a b,.nil=>eH (T.pair a b).tm T.nil.tm 0
 | .pair a b,.var n=>eH (T.pair a b).tm (T.var n).tm 0
 | .pair a b,.sym n=>eH (T.pair a b).tm (T.sym n).tm 0
 | .pair a b,.num n=>eH (T.pair a b).tm (T.num n).tm 0
 | .nil,y=>eH T.nil.tm y.tm 0
 | .var n,y=>eH (T.var n).tm y.tm 0
 | .sym n,y=>eH (T.sym n).tm y.tm 0
 | .num n,y=>eH (T.num n).tm y.tm 0
theorem vH(b:Bool):sgn b≠0:=by cases b<;>simp[sgn]
theorem wK{x y:Tm}{r:Int}:eH x y r=0↔x.kind=y.kind∧x.num=y.num∧x.name=y.name∧r=0:=by
 unfold eH
 split
 ·rename_i h;exact⟨fun k=>absurd k (vH _),fun k=>absurd k.1 h⟩
 ·split
  ·rename_i h;exact⟨fun k=>absurd k (vH _),fun k=>absurd k.2.1 h⟩
  ·split
   ·rename_i h;exact⟨fun k=>absurd k (vH _),fun k=>absurd k.2.2.1 h⟩
   ·rename_i h1 h2 h3
    exact⟨fun k=>⟨Classical.not_not.1 h1,Classical.not_not.1 h2,Classical.not_not.1 h3,k⟩,fun k=>k.2.2.2⟩
theorem T.cmp_zero:∀x y:T,x.cmp y=0↔x=y:=by
 intro x
 induction x with
 |pair a b iha ihb=>
  intro y
  cases y with
  |pair c d=>
   rw[T.cmp,T.pair.injEq,←iha,←ihb]
   split
   ·rename_i h;exact⟨fun k=>⟨h,k⟩,fun k=>k.2⟩
   ·rename_i h;exact⟨fun k=>absurd k h,fun k=>absurd k.1 h⟩
  |_=>rw[T.cmp,wK];simp[T.tm,Tm.kind]
 |_=>
  intro y
  rw[T.cmp,wK]
  cases y<;>simp[T.tm,Tm.kind,Tm.num,Tm.name]
theorem hd1{x y:Tm}{r:Int}(h:¬x.kind=y.kind):eH x y r=sgn (decide (x.kind<y.kind)):=by rw[eH,if_pos h]
theorem hd2{x y:Tm}{r:Int}(h1:x.kind=y.kind)(h:¬x.num=y.num):eH x y r=sgn (decide (x.num<y.num)):=by rw[eH,if_neg (fun k=>k h1),if_pos h]
theorem hd3{x y:Tm}{r:Int}(h1:x.kind=y.kind)(h2:x.num=y.num)(h:¬x.name=y.name):eH x y r=sgn (Op.bytesLess x.name.data.toList y.name.data.toList):=by rw[eH,if_neg (fun k=>k h1),if_neg (fun k=>k h2),if_pos h]
theorem hd4{x y:Tm}{r:Int}(h1:x.kind=y.kind)(h2:x.num=y.num)(h:x.name=y.name):eH x y r=r:=by rw[eH,if_neg (fun k=>k h1),if_neg (fun k=>k h2),if_neg (fun k=>k h)]
section
variable {μ:Mem}
theorem dS(b:Bool):aQ Tryz.prog 114 [.bool b] μ (.int .i64 (sgn b)):=by
 refine Spec.mk Tryz.func114 (by kernel_rfl) ?_
 refine iIn (fun h1=>rGv ?_ rfl) (fun h1=>rGv ?_ rfl)
 ·rw[h1];rfl
 ·rw[h1];rfl
noncomputable def T.rest:T→T→Int
 | .pair a b,.pair c d=>if a.cmp c=0 then b.cmp d else a.cmp c
 |_,_=>0
theorem T.cmp_eq(x y:T):x.cmp y=eH x.tm y.tm (x.rest y):=by
 cases x with
 |pair a b=>
  cases y with
  |pair c d=>rw[T.cmp,hd4 (x:=(T.pair a b).tm) (y:=(T.pair c d).tm) rfl rfl rfl];rfl
  |_=>rw[T.cmp];rfl
 |_=>rw[T.cmp];rfl
theorem T.rest_at{x y:T}{i:Nat}{p q:T}(h:∀j p q,j<i→x.args[j]? =some p→y.args[j]? =some q→p.cmp q=0)(hp:x.args[i]? =some p)(hq:y.args[i]? =some q)(hne:p.cmp q≠0):x.rest y=p.cmp q:=by
 cases x with
 |pair a b=>
  cases y with
  |pair c d=>
   simp only[T.rest]
   match i,hp,hq with
   |0,hp,hq=>cases hp;cases hq;rw[if_neg hne]
   |1,hp,hq=>
    cases hp;cases hq
    have:=h 0 a c (by omega) rfl rfl
    rw[if_pos this]
   |i+2,hp,hq=>simp[T.args]at hp
  |_=>simp[T.args]at hq
 |_=>simp[T.args]at hp
theorem T.rest_zero{x y:T}(h:∀(j:Nat) p q,j<x.args.length→x.args[j]? =some p→y.args[j]? =some q→p.cmp q=0):x.rest y=0:=by
 cases x with
 |pair a b=>
  cases y with
  |pair c d=>
   have h0:=h 0 a c (by simp[T.args]) rfl rfl
   have h1:=h 1 b d (by simp[T.args]) rfl rfl
   simp only[T.rest]
   rw[if_pos h0,h1]
  |_=>rfl
 |_=>rfl
theorem T.args_kind{x y:T}(h:x.tm.kind=y.tm.kind):x.args.length=y.args.length:=by
 cases x<;>cases y<;>simp_all [T.tm,Tm.kind,T.args]
theorem T.arg{μ:Mem}{x:T}{base:Option Addr}(h:Sl μ 4 base x.args.length ((x.args.map T.tm).map Tm.d)){i:Nat}{y:T}(hy:x.args[i]? =some y):∃ad,∃p:Option Addr×Nat,ElemAt μ base x.args.length 4 i ad (y.tm.cs p)∧RepV μ y.tm.d (.agg (y.tm.cs p).toArray):=
 Tm.elem h (by simp[hy])
theorem iV:∀(x y:T) {v w:Value},RepV μ x.tm.d v→RepV μ y.tm.d w→aQ Tryz.prog 74 [v,w] μ (.int .i64 (x.cmp y)):=
 T.ind fun x ih y v w hv hw=>by
  have w_:=T.inv hv
  obtain⟨b1,c1,rfl,hs1⟩:=w_
  have w_:=T.inv hw
  obtain⟨b2,c2,rfl,hs2⟩:=w_
  have hn:=T.args_le x
  rw[T.cmp_eq]
  refine Spec.mk Tryz.func74 (by kernel_rfl) ?_
  intro r1 r2
  refine aL (fun h=>?_) (fun h1=>?_)
  ·exact cGv (dS _) (rGv (by rw[hd1 h]) rfl)
  refine aL (fun h=>?_) (fun h2=>?_)
  ·exact cGv (dS _) (rGv (by rw[hd2 h1 h]) rfl)
  refine aL (fun h=>?_) (fun h3=>?_)
  ·exact cGv (dS _) (rGv (by rw[hd3 h1 h2 h]) rfl)
  rw[hd4 h1 h2 h3]
  have hlen:=T.args_kind h1
  refine lIn (fun i:Nat=>i≤x.args.length∧∀j p q,j<i→x.args[j]? =some p→y.args[j]? =some q→p.cmp q=0) (fun i=>⟨[(2,.loc 0 r1 0),(3,.loc 1 r2 0),(5,.val (.int .i64 i))],[(0,some (.cells r1 [.val (.int .i64 x.tm.kind),.val (.int .i64 x.tm.num),.val (.string x.tm.name),.val (.slice b1 x.args.length c1)] 57)),(1,some (.cells r2 [.val (.int .i64 y.tm.kind),.val (.int .i64 y.tm.num),.val (.string y.tm.name),.val (.slice b2 y.args.length c2)] 57))],2,μ,Mem.nil⟩) (fun i=>x.args.length-i)
   0 ⟨by omega,fun j p q hj=>by omega⟩ (fun i=>⟨rfl,rfl⟩) ⟨⟨rfl,rfl,rfl,trivial⟩,⟨rfl,rfl,trivial⟩,rfl,rfl⟩ ?_
  rintro i ⟨hi,hz⟩
  refine ifd (fun h=>?_) (fun h=>?_)
  ·refine ifd (fun h' => ?_) (fun h' => by omega)
   have w_:=aSo (l:=x.args) (i:=i) (by omega)
   obtain⟨p,hp⟩:=w_
   have w_:=aSo (l:=y.args) (i:=i) (by omega)
   obtain⟨q,hq⟩:=w_
   have w_:=T.arg hs1 hp
   obtain⟨ad1,p1,e1,g1⟩:=w_
   have w_:=T.arg hs2 hq
   obtain⟨ad2,p2,e2,g2⟩:=w_
   refine eIn e1 (eIn e2 (cGv (ih p (mAt hp) q g1 g2) ?_))
   refine aL (fun h5=>?_) (fun h5=>?_)
   ·rw[T.rest_at hz hp hq h5];exact rGv rfl rfl
   ·refine aC (by omega) (by omega) ⟨i + 1, ⟨by omega, fun j p' q' hj hp' hq' => ?_⟩, by omega, ⟨⟨rfl, rfl, rfl, trivial⟩, ⟨rfl, rfl, trivial⟩, rfl, rfl⟩⟩
    rcases Nat.lt_or_ge j i with h6|h6
    ·exact hz j p' q' h6 hp' hq'
    ·obtain rfl : j = i := by omega
     rw[hp]at hp';rw[hq]at hq';cases hp';cases hq';exact h5
  ·obtain rfl : i = x.args.length := by omega
   rw[T.rest_zero hz]
   exact rGv rfl rfl
theorem eZ(x y:T){v w:Value}(hv:RepV μ x.tm.d v)(hw:RepV μ y.tm.d w):aQ Tryz.prog 75 [v,w] μ (.bool (decide (x=y))):=by
 have w_:=Tm.invV hv
 obtain⟨p,rfl⟩:=w_
 have w_:=Tm.invV hw
 obtain⟨q,rfl⟩:=w_
 refine Spec.mk Tryz.func75 (by kernel_rfl) ?_
 intro r1 r2
 exact cGv (iV x y hv hw) (rGv (isI (T.cmp_zero x y)) rfl)
def varV(n:Int):Value:= .agg #[.int .i64 1,.int .i64 n,.string ⟨#[]⟩,.slice none 0 0]
theorem qMe(n:Int):OwnV (T.var n).tm.d Mem.nil (varV n):=by
 rw[T.d_eq]
 exact⟨_,rfl,OwnS.int (OwnS.int (OwnS.str (OwnS.last (Own.nilSl 4))))⟩
theorem tU(n:Int):RepV μ (T.var n).tm.d (varV n):=(qMe n).rep (fun _ _ h=>nomatch h)
theorem sK(n:Int):aQ Tryz.prog 77 [.int .i64 n] μ (varV n):=by
 refine Spec.mk Tryz.func77 (by kernel_rfl) ?_
 intro r1
 exact rGv rfl rfl
end
end Go.Vx
namespace Go.Vx
open Go.Proofs Classical
theorem qMr{n:Int}(h:0≤n∧n≤100000):(T.var n).tm.d.wd:=by
 rw[T.d_eq]
 exact⟨⟨show(-9223372036854775808:Int)≤1 by decide,show(1:Int)≤9223372036854775807 by decide⟩,⟨show _≤n by omega,show n≤_ by omega⟩,Nat.zero_le _,trivial,trivial⟩
theorem T.good_wd:∀{x:T},x.good→x.tm.d.wd
 | .nil,_=>by
  rw[T.d_eq]
  exact⟨⟨show(-9223372036854775808:Int)≤0 by decide,show(0:Int)≤9223372036854775807 by decide⟩,⟨show(-9223372036854775808:Int)≤0 by decide,show(0:Int)≤9223372036854775807 by decide⟩,Nat.zero_le _,trivial,trivial⟩
 | .var n,h=>qMr h
 | .sym s,h=>by
  rw[T.d_eq]
  exact⟨⟨show(-9223372036854775808:Int)≤2 by decide,show(2:Int)≤9223372036854775807 by decide⟩,⟨show(-9223372036854775808:Int)≤0 by decide,show(0:Int)≤9223372036854775807 by decide⟩,Nat.le_trans h.2.1 (by decide),trivial,trivial⟩
 | .num n,h=>by
  have h1: -1000000000≤n∧n≤1000000000:=h
  rw[T.d_eq]
  exact⟨⟨show(-9223372036854775808:Int)≤3 by decide,show(3:Int)≤9223372036854775807 by decide⟩,⟨show _≤n by omega,show n≤_ by omega⟩,Nat.zero_le _,trivial,trivial⟩
 | .pair a b,h=>by
  rw[T.d_eq]
  exact⟨⟨show(-9223372036854775808:Int)≤4 by decide,show(4:Int)≤9223372036854775807 by decide⟩,⟨show(-9223372036854775808:Int)≤0 by decide,show(0:Int)≤9223372036854775807 by decide⟩,Nat.zero_le _,⟨T.good_wd h.1,T.good_wd h.2,trivial⟩,trivial⟩
theorem kG:∀{l:List T},(∀x∈l,x.good)→D.wds ((l.map T.tm).map Tm.d)
 |[],_=>trivial
 |x::l,h=>⟨T.good_wd (h x (by simp)),kG fun y hy=>h y (by simp[hy])⟩
end Go.Vx
namespace Go.Vx
open Go.Proofs Classical
section
variable {P:Program} {f:FuncId} {args:List Value} {μ h H:Mem}
theorem Mem.set_at(m:Mem)(r:Nat)(o:Obj):(m.set r o) r=some o:=by rw[Mem.set_get,if_pos rfl]
theorem Mem.set_ne{m:Mem}{b r:Nat}{o:Obj}(h:b≠r):(m.set r o) b=m b:=by rw[Mem.set_get,if_neg h]
theorem Apart.set{r:Nat}{o:Obj}(k:Apart μ h)(hr:μ r=none):Apart μ (h.set r o):=fun b hb=>by
 by_cases e:b=r
 ·subst e;exact absurd hr hb
 ·rw[Mem.set_ne e];exact k b hb
theorem RowO.set_ne{r cap b:Nat}{ty:TypeId}{es:Nat}{xs:List Value}{o:Obj}(k:RowO h r cap ty es xs)(hb:r≠b):RowO (h.set b o) r cap ty es xs:=by
 obtain⟨cs,h1,h2⟩:=k
 exact⟨cs,by rw[Mem.set_ne hb];exact h1,h2⟩
theorem RowO.rowAt{r cap:Nat}{ty:TypeId}{es:Nat}{xs:List Value}(k:RowO h r cap ty es xs)(hl:h.Le μ):RowAt μ (some r) cap es xs:=by
 obtain⟨cs,h1,h2,h3,h4,h5,h6⟩:=k
 exact⟨h2,h4,cs.toArray,ty,hl _ _ h1,by simpa using h5,by simpa using h6⟩
theorem RowO.len{r cap:Nat}{ty:TypeId}{es:Nat}{xs:List Value}(k:RowO h r cap ty es xs):xs.length≤maxLen:=by
 obtain⟨cs,h1,h2,h3,_⟩:=k
 exact h3
theorem RowO.rep{r cap:Nat}{ty:TypeId}{es:Nat}{xs:List Value}{ds:List D}(k:RowO h r cap ty es xs)(hl:h.Le μ)(hr:Rows μ es ds xs):RepV μ (.sl es ds) (.slice (some ⟨r,0,none⟩) xs.length cap):=
 Rows.sl (k.rowAt hl) hr k.len
theorem RowO.obj{r cap:Nat}{ty:TypeId}{es:Nat}{xs:List Value}(k:RowO h r cap ty es xs):∃cs:List Value,h r=some (.cells cs.toArray ty (0,0)):=by
 obtain⟨cs,h1,_⟩:=k
 exact⟨cs,h1⟩
def oK(v:Value):Prop:=∃n,v= .int .i64 n
theorem MapOk.weaken{ok ok':Value→Prop}{l:List (Value×Value)}(k:MapOk ok l)(hk:∀v,ok v→ok' v):MapOk ok' l:=⟨fun p hp=>hk _ (k.keys p hp),k.nodup⟩
theorem MapOk.int{l:List (Value×Value)}(k:MapOk oK l){n:Int}(v:Value):MapOk oK (dH l (.int .i64 n) v):=k.set ⟨n,rfl⟩ v
variable {dr:Bool} {s:St} {K:Value→St→Prop}
end
section
variable {μ:Mem}
end
end Go.Vx
namespace Go.Vx
open Go.Proofs Classical
theorem bJ{h:Mem}{r i:Nat}{cs:List Value}{x:Value}{ty:TypeId}(hc:h r=some (.cells cs.toArray ty (0,0)))(hi:cs[i]? =some x):∀j v,[x][j]? =some v→h.cell ((⟨r,i,none⟩:Addr).add j)=some v:=fun j v hj=>by
 match j,hj with
 |0,hj=>cases hj;simp[Mem.cell,Addr.add_lit',hc,hi]
end Go.Vx
namespace Go.Vx
open Go.Proofs Classical
section
variable {μ:Mem}
theorem Rep.val:∀{d:D} {c:List Value},Rep μ d c→∃v,RepV μ d v∧aB v=c
 | .st fs,c,h=>⟨.agg c.toArray,⟨c,rfl,h⟩,by simp[aB]⟩
 | .i n,c,h=>by
  have h2:c=[.int .i64 n]:=h
  subst h2;exact⟨_,h,rfl⟩
 | .b x,c,h=>by
  have h2:c=[.bool x]:=h
  subst h2;exact⟨_,h,rfl⟩
 | .s x,c,h=>by
  have h2:c=[.string x]:=h
  subst h2;exact⟨_,h,rfl⟩
 | .sl es xs,c,h=>by
  obtain⟨base,cap,h1,h2⟩:=h
  subst h1
  exact⟨_,⟨base,cap,rfl,h2⟩,rfl⟩
theorem RepS.rows{es:Nat}:∀{l:List D} {flat:List Value},RepS μ l flat→(∀x∈l,x.n=es)→∃vs,Rows μ es l vs∧vs.flatMap aB=flat
 |[],flat,h,_=>by
  have h:flat=[]:=h
  subst h;exact⟨[],.nil,rfl⟩
 |d::l,flat,h,hn=>by
  obtain⟨c1,c2,rfl,h1,h2⟩:=h
  have w_:=Rep.val h1
  obtain⟨v,hv,rfl⟩:=w_
  have w_:=RepS.rows h2 fun x hx=>hn x (by simp[hx])
  obtain⟨vs,hr,rfl⟩:=w_
  exact⟨v::vs,.cons hv (hn d (by simp)) hr,by simp⟩
theorem Rows.take{es:Nat}:∀{ds:List D} {vs:List Value} (k:Nat),Rows μ es ds vs→Rows μ es (ds.take k) (vs.take k)
 |_,_,0,_=>by simpa using Rows.nil
 |_,_,k+1,.nil=>by simpa using Rows.nil
 |_,_,k+1,.cons h hn r=>by simpa using Rows.cons h hn (r.take k)
theorem Rows.drop{es:Nat}:∀{ds:List D} {vs:List Value} (k:Nat),Rows μ es ds vs→Rows μ es (ds.drop k) (vs.drop k)
 |_,_,0,h=>by simpa using h
 |_,_,k+1,.nil=>by simpa using Rows.nil
 |_,_,k+1,.cons h hn r=>by simpa using r.drop k
theorem Rows.size{es:Nat}:∀{ds:List D} {vs:List Value},Rows μ es ds vs→∀v∈vs,(aB v).length=es∧∀u∈aB v,u.oneCell'=true
 |_,_,.nil,v,hv=>by simp at hv
 |_,_,.cons h hn r,v,hv=>by
  rcases List.mem_cons.1 hv with rfl|hv
  ·exact⟨by rw[Rep.len _ _ h.cells];exact hn,Rep.one _ _ h.cells⟩
  ·exact r.size v hv
theorem Rep.src{es n cap:Nat}{base:Option Addr}{ds:List D}(h:RepV μ (.sl es ds) (.slice base n cap)):
  ∃vs,Rows μ es ds vs∧vs.length=n∧n≤cap∧∀a b,a≤b→b≤n→uD μ (if cap=a then base else base.map (·.add (a*es))) (b-a) es ((vs.drop a).take (b-a)):=by
 have h':Rep μ (.sl es ds) [.slice base n cap]:=h
 have hcap:=Rep.lens h'
 obtain⟨b0,c0,h1,h2,h3,h4⟩:=h'
 simp only[List.cons.injEq,and_true]at h1
 have w_:=Value.slice.inj h1
 obtain⟨rfl,rfl,rfl⟩:=w_
 have:∃vs,Rows μ es ds vs∧(ds=[]∨∃a0,base=some a0∧CellsAt μ a0 (vs.flatMap aB)):=by
  rcases h4 with rfl|⟨a0,flat,g1,g2,g3⟩
  ·exact⟨[],.nil,.inl rfl⟩
  ·have w_ := RepS.rows g3 h3
   obtain⟨vs,hr,rfl⟩:=w_
   exact⟨vs,hr,.inr ⟨a0,g1,g2⟩⟩
 obtain⟨vs,hr,hc⟩:=this
 have hlen:=hr.len
 refine⟨vs,hr,hlen.symm,hcap,fun a b hab hb=>⟨by simp;omega,fun y hy=>hr.size y (List.mem_of_mem_drop (List.mem_of_mem_take hy)),?_⟩⟩
 rcases Nat.eq_or_lt_of_le hab with e|hlt
 ·exact .inl (by omega)
 ·right
  rcases hc with e|⟨a0,e,hcell⟩
  ·subst e;simp at hb;omega
  ·subst e
   refine⟨a0.add (a*es),by rw[if_neg (by omega)];rfl,fun j v hj=>?_⟩
   rw[add_add]
   refine hcell _ _ ?_
   have e1:vs.flatMap aB=(vs.take a).flatMap aB++(((vs.drop a).take (b-a)).flatMap aB++((vs.drop a).drop (b-a)).flatMap aB):=by
    rw[←List.flatMap_append,List.take_append_drop,←List.flatMap_append,List.take_append_drop]
   have e2:((vs.take a).flatMap aB).length=a*es:=by
    rw[fH (es:=es) (vs.take a) fun y hy=>(hr.size y (List.mem_of_mem_take hy)).1]
    congr 1;simp;omega
   rw[e1,List.getElem?_append_right (by omega),e2,Nat.add_sub_cancel_left,List.getElem?_append_left (List.getElem?_eq_some_iff.1 hj).1]
   exact hj
def rP{α:Type}(l:List α)(x:α)(k:Nat):List α:=l.take k++([x]++l.drop k)
theorem qJx{α:Type}(l:List α)(x y:α)(k:Nat):y∈rP l x k↔y=x∨y∈l:=by
 have h2:y∈l↔y∈l.take k∨y∈l.drop k:=by rw[←List.mem_append,List.take_append_drop]
 simp only[rP,List.mem_append,List.mem_singleton,h2]
 constructor
 ·rintro(h|h|h)<;>simp[h]
 ·rintro(h|h|h)<;>simp[h]
theorem qBy{α:Type}(l:List α)(x:α)(k:Nat):(rP l x k).length=l.length+1:=by
 have:=congrArg List.length (List.take_append_drop k l)
 simp only[rP,List.length_append,List.length_singleton]at*
 omega
theorem T.vars_range:∀{x:T},x.good→∀n∈x.vars,0≤n∧n≤100000
 | .var n,h,m,hm=>by
  simp only[T.vars,List.mem_singleton]at hm
  subst hm;exact h
 | .pair a b,h,m,hm=>by
  simp only[T.vars,List.mem_append]at hm
  exact hm.elim (T.vars_range h.1 m) (T.vars_range h.2 m)
 | .nil,_,m,hm=>by simp[T.vars]at hm
 | .sym _,_,m,hm=>by simp[T.vars]at hm
 | .num _,_,m,hm=>by simp[T.vars]at hm
theorem nodup_range{N:Nat}:∀{l:List Int},l.Nodup→(∀n∈l,0≤n∧n<N)→l.length≤N:=by
 induction N with
 |zero=>
  intro l _ h
  cases l with
  |nil=>simp
  |cons a l=>have:=h a (by simp);omega
 |succ N ih=>
  intro l hn h
  have h1:=ih (l:=l.erase (N:Int)) (hn.erase _) fun n hm=>by
   rw[hn.mem_erase_iff]at hm
   have:=h n hm.2
   have h2:n≠(N:Int):=hm.1
   omega
  have h2:l.length≤(l.erase (N:Int)).length+1:=by
   rw[List.length_erase];split<;>omega
  omega
end
end Go.Vx
namespace Go.Vx
open Go.Proofs Classical
section
variable {μ:Mem}
theorem fI{α:Type}{l:List α}(h:l.length=1):∃v,l=[v]:=List.length_eq_one_iff.1 h
variable {μ1 μ':Mem}
end
end Go.Vx
namespace Go.Vx
open Go.Proofs Classical
inductive Gl where
 |mk (kind:Int) (name:ByteArray) (terms:List Tm) (goals:List Gl)
def Gl.kind:Gl→Int| .mk a _ _ _=>a
def Gl.name:Gl→ByteArray| .mk _ a _ _=>a
def Gl.terms:Gl→List Tm| .mk _ _ a _=>a
def Gl.goals:Gl→List Gl| .mk _ _ _ a=>a
theorem Gl.ind{q:Gl→Prop}(h:∀x:Gl,(∀y∈x.goals,q y)→q x):∀x,q x
 | .mk a0 a1 a2 a3=>h _ fun y hy=>have _:=hy;Gl.ind h y
termination_by x=>x
decreasing_by all_goals (first|exact Nat.lt_of_lt_of_le (List.sizeOf_lt_of_mem hy) (by simp only[Gl.goals,Gl.mk.sizeOf_spec];omega)|decreasing_tactic)
mutual
def Gl.d:Gl→D
 | .mk a0 a1 a2 a3=> .st [.i a0,.s a1,.sl 4 (a2.map Tm.d),.sl 4 (Gl.ds a3)]
def Gl.ds:List Gl→List D
 |[]=>[]
 |t::r=>t.d::Gl.ds r
end
theorem Gl.ds_map:∀l:List Gl,Gl.ds l=l.map Gl.d
 |[]=>rfl
 |t::r=>by simp[Gl.ds,Gl.ds_map r]
theorem Gl.d_eq(x:Gl):x.d= .st [.i x.kind,.s x.name,.sl 4 (x.terms.map Tm.d),.sl 4 (x.goals.map Gl.d)]:=by
 cases x
 rw[Gl.d,Gl.ds_map]
 rfl
theorem Gl.d_n(x:Gl):x.d.n=4:=by
 rw[Gl.d_eq]
 simp only[D.n,D.ns]
abbrev Gl.P:=(Option Addr×Nat)×(Option Addr×Nat)
def Gl.cs(x:Gl)(p:Gl.P):List Value:=[.int .i64 x.kind,.string x.name,.slice p.1.1 x.terms.length p.1.2,.slice p.2.1 x.goals.length p.2.2]
section
variable {μ:Mem}
def Gl.At(μ:Mem)(x:Gl)(p:Gl.P):Prop:=Sl μ 4 p.1.1 x.terms.length (x.terms.map Tm.d)∧Sl μ 4 p.2.1 x.goals.length (x.goals.map Gl.d)
theorem Gl.invA{x:Gl}{cs:List Value}(h:Rep μ x.d cs):∃p:Gl.P,cs=x.cs p∧Gl.At μ x p:=by
 rw[Gl.d_eq]at h
 obtain⟨a0,t0,rfl,h0,h⟩:=h
 have h0:a0=[.int .i64 x.kind]:=h0
 subst h0
 obtain⟨a1,t1,rfl,h1,h⟩:=h
 have h1:a1=[.string x.name]:=h1
 subst h1
 obtain⟨a2,t2,rfl,h2,h⟩:=h
 have w_:=fI (Rep.len _ _ h2)
 obtain⟨v2,rfl⟩:=w_
 have w_:=Rep.sl h2
 obtain⟨b2,c2,rfl,s2⟩:=w_
 rw[List.length_map]at s2
 obtain⟨a3,t3,rfl,h3,h⟩:=h
 have w_:=fI (Rep.len _ _ h3)
 obtain⟨v3,rfl⟩:=w_
 have w_:=Rep.sl h3
 obtain⟨b3,c3,rfl,s3⟩:=w_
 rw[List.length_map]at s3
 obtain rfl:t3=[]:=h
 exact⟨((b2,c2),(b3,c3)),by simp[Gl.cs],⟨s2,s3⟩⟩
theorem Gl.rep{x:Gl}{cs:List Value}(h:Rep μ x.d cs):RepV μ x.d (.agg cs.toArray):=by
 rw[Gl.d_eq]at h ⊢;exact⟨cs,rfl,h⟩
theorem Gl.invR{x:Gl}{cs:List Value}(h:Rep μ x.d cs):∃p:Gl.P,cs=x.cs p∧RepV μ x.d (.agg (x.cs p).toArray):=by
 have w_:=Gl.invA h
 obtain⟨p,e,_⟩:=w_
 subst e
 exact⟨p,rfl,Gl.rep h⟩
theorem Gl.inv{x:Gl}{v:Value}(h:RepV μ x.d v):∃p:Gl.P,v= .agg #[.int .i64 x.kind,.string x.name,.slice p.1.1 x.terms.length p.1.2,.slice p.2.1 x.goals.length p.2.2]∧Gl.At μ x p:=by
 have h2:∃cs,v= .agg (List.toArray cs)∧Rep μ x.d cs:=by rw[Gl.d_eq]at h ⊢;exact h
 obtain⟨cs,rfl,h3⟩:=h2
 have w_:=Gl.invA h3
 obtain⟨p,rfl,hA⟩:=w_
 exact⟨p,rfl,hA⟩
theorem Gl.invV{x:Gl}{v:Value}(h:RepV μ x.d v):∃p:Gl.P,v= .agg #[.int .i64 x.kind,.string x.name,.slice p.1.1 x.terms.length p.1.2,.slice p.2.1 x.goals.length p.2.2]:=by
 have w_:=Gl.inv h
 obtain⟨p,h,_⟩:=w_
 exact⟨p,h⟩
theorem Gl.elemA{l:List Gl}{base:Option Addr}{n:Nat}(h:Sl μ 4 base n (l.map Gl.d)){i:Nat}{x:Gl}(hx:l[i]? =some x):∃ad,∃p:Gl.P,ElemAt μ base n 4 i ad (x.cs p)∧RepV μ x.d (.agg (x.cs p).toArray)∧Gl.At μ x p:=by
 have w_:=h.get i x.d (by simp[hx])
 obtain⟨ad,cs,h1,h2⟩:=w_
 have w_:=Gl.invA h2
 obtain⟨p,rfl,hA⟩:=w_
 exact⟨ad,p,h1,Gl.rep h2,hA⟩
theorem Gl.elem{l:List Gl}{base:Option Addr}{n:Nat}(h:Sl μ 4 base n (l.map Gl.d)){i:Nat}{x:Gl}(hx:l[i]? =some x):∃ad,∃p:Gl.P,ElemAt μ base n 4 i ad (x.cs p)∧RepV μ x.d (.agg (x.cs p).toArray):=by
 have w_:=Gl.elemA h hx
 obtain⟨ad,p,h1,h2,_⟩:=w_
 exact⟨ad,p,h1,h2⟩
end
end Go.Vx
namespace Go.Vx
open Go.Proofs Classical
structure Rl where
 name:ByteArray
 arity:Int
 locals:Int
 body:Gl
def Rl.d(x:Rl):D:= .st [.s x.name,.i x.arity,.i x.locals,x.body.d]
theorem Rl.d_eq(x:Rl):x.d= .st [.s x.name,.i x.arity,.i x.locals,x.body.d]:=rfl
theorem Rl.d_n(x:Rl):x.d.n=7:=by
 rw[Rl.d_eq]
 simp only[D.n,D.ns,Gl.d_n]
abbrev Rl.P:=Gl.P
def Rl.cs(x:Rl)(p:Rl.P):List Value:=[.string x.name,.int .i64 x.arity,.int .i64 x.locals,.int .i64 x.body.kind,.string x.body.name,.slice p.1.1 x.body.terms.length p.1.2,.slice p.2.1 x.body.goals.length p.2.2]
section
variable {μ:Mem}
def Rl.At(μ:Mem)(x:Rl)(p:Rl.P):Prop:=RepV μ x.body.d (.agg (x.body.cs p).toArray)
theorem Rl.invA{x:Rl}{cs:List Value}(h:Rep μ x.d cs):∃p:Rl.P,cs=x.cs p∧Rl.At μ x p:=by
 rw[Rl.d_eq]at h
 obtain⟨a0,t0,rfl,h0,h⟩:=h
 have h0:a0=[.string x.name]:=h0
 subst h0
 obtain⟨a1,t1,rfl,h1,h⟩:=h
 have h1:a1=[.int .i64 x.arity]:=h1
 subst h1
 obtain⟨a2,t2,rfl,h2,h⟩:=h
 have h2:a2=[.int .i64 x.locals]:=h2
 subst h2
 obtain⟨a3,t3,rfl,h3,h⟩:=h
 have w_:=Gl.invR h3
 obtain⟨p3,rfl,r3⟩:=w_
 obtain rfl:t3=[]:=h
 exact⟨p3,by simp[Rl.cs,Gl.cs],r3⟩
theorem Rl.rep{x:Rl}{cs:List Value}(h:Rep μ x.d cs):RepV μ x.d (.agg cs.toArray):=by
 rw[Rl.d_eq]at h ⊢;exact⟨cs,rfl,h⟩
theorem Rl.inv{x:Rl}{v:Value}(h:RepV μ x.d v):∃p:Rl.P,v= .agg #[.string x.name,.int .i64 x.arity,.int .i64 x.locals,.int .i64 x.body.kind,.string x.body.name,.slice p.1.1 x.body.terms.length p.1.2,.slice p.2.1 x.body.goals.length p.2.2]∧Rl.At μ x p:=by
 have h2:∃cs,v= .agg (List.toArray cs)∧Rep μ x.d cs:=by rw[Rl.d_eq]at h ⊢;exact h
 obtain⟨cs,rfl,h3⟩:=h2
 have w_:=Rl.invA h3
 obtain⟨p,rfl,hA⟩:=w_
 exact⟨p,rfl,hA⟩
theorem Rl.invV{x:Rl}{v:Value}(h:RepV μ x.d v):∃p:Rl.P,v= .agg #[.string x.name,.int .i64 x.arity,.int .i64 x.locals,.int .i64 x.body.kind,.string x.body.name,.slice p.1.1 x.body.terms.length p.1.2,.slice p.2.1 x.body.goals.length p.2.2]:=by
 have w_:=Rl.inv h
 obtain⟨p,h,_⟩:=w_
 exact⟨p,h⟩
theorem Rl.elemA{l:List Rl}{base:Option Addr}{n:Nat}(h:Sl μ 7 base n (l.map Rl.d)){i:Nat}{x:Rl}(hx:l[i]? =some x):∃ad,∃p:Rl.P,ElemAt μ base n 7 i ad (x.cs p)∧RepV μ x.d (.agg (x.cs p).toArray)∧Rl.At μ x p:=by
 have w_:=h.get i x.d (by simp[hx])
 obtain⟨ad,cs,h1,h2⟩:=w_
 have w_:=Rl.invA h2
 obtain⟨p,rfl,hA⟩:=w_
 exact⟨ad,p,h1,Rl.rep h2,hA⟩
theorem Rl.elem{l:List Rl}{base:Option Addr}{n:Nat}(h:Sl μ 7 base n (l.map Rl.d)){i:Nat}{x:Rl}(hx:l[i]? =some x):∃ad,∃p:Rl.P,ElemAt μ base n 7 i ad (x.cs p)∧RepV μ x.d (.agg (x.cs p).toArray):=by
 have w_:=Rl.elemA h hx
 obtain⟨ad,p,h1,h2,_⟩:=w_
 exact⟨ad,p,h1,h2⟩
end
end Go.Vx
namespace Go.Vx
open Go.Proofs Classical
structure Pg where
 rels:List Rl
def Pg.d(x:Pg):D:= .st [.sl 7 (x.rels.map Rl.d)]
theorem Pg.d_eq(x:Pg):x.d= .st [.sl 7 (x.rels.map Rl.d)]:=rfl
abbrev Pg.P:=(Option Addr×Nat)
def Pg.cs(x:Pg)(p:Pg.P):List Value:=[.slice p.1 x.rels.length p.2]
section
variable {μ:Mem}
def Pg.At(μ:Mem)(x:Pg)(p:Pg.P):Prop:=Sl μ 7 p.1 x.rels.length (x.rels.map Rl.d)
theorem Pg.invA{x:Pg}{cs:List Value}(h:Rep μ x.d cs):∃p:Pg.P,cs=x.cs p∧Pg.At μ x p:=by
 rw[Pg.d_eq]at h
 obtain⟨a0,t0,rfl,h0,h⟩:=h
 have w_:=fI (Rep.len _ _ h0)
 obtain⟨v0,rfl⟩:=w_
 have w_:=Rep.sl h0
 obtain⟨b0,c0,rfl,s0⟩:=w_
 rw[List.length_map]at s0
 obtain rfl:t0=[]:=h
 exact⟨(b0,c0),by simp[Pg.cs],s0⟩
theorem Pg.inv{x:Pg}{v:Value}(h:RepV μ x.d v):∃p:Pg.P,v= .agg #[.slice p.1 x.rels.length p.2]∧Pg.At μ x p:=by
 have h2:∃cs,v= .agg (List.toArray cs)∧Rep μ x.d cs:=by rw[Pg.d_eq]at h ⊢;exact h
 obtain⟨cs,rfl,h3⟩:=h2
 have w_:=Pg.invA h3
 obtain⟨p,rfl,hA⟩:=w_
 exact⟨p,rfl,hA⟩
theorem Pg.invV{x:Pg}{v:Value}(h:RepV μ x.d v):∃p:Pg.P,v= .agg #[.slice p.1 x.rels.length p.2]:=by
 have w_:=Pg.inv h
 obtain⟨p,h,_⟩:=w_
 exact⟨p,h⟩
end
end Go.Vx
namespace Go.Vx
open Go.Proofs Classical
structure Fc where
 rel:ByteArray
 args:List Tm
def Fc.d(x:Fc):D:= .st [.s x.rel,.sl 4 (x.args.map Tm.d)]
theorem Fc.d_eq(x:Fc):x.d= .st [.s x.rel,.sl 4 (x.args.map Tm.d)]:=rfl
theorem Fc.d_n(x:Fc):x.d.n=2:=by
 rw[Fc.d_eq]
 simp only[D.n,D.ns]
abbrev Fc.P:=(Option Addr×Nat)
def Fc.cs(x:Fc)(p:Fc.P):List Value:=[.string x.rel,.slice p.1 x.args.length p.2]
section
variable {μ:Mem}
def Fc.At(μ:Mem)(x:Fc)(p:Fc.P):Prop:=Sl μ 4 p.1 x.args.length (x.args.map Tm.d)
theorem Fc.invA{x:Fc}{cs:List Value}(h:Rep μ x.d cs):∃p:Fc.P,cs=x.cs p∧Fc.At μ x p:=by
 rw[Fc.d_eq]at h
 obtain⟨a0,t0,rfl,h0,h⟩:=h
 have h0:a0=[.string x.rel]:=h0
 subst h0
 obtain⟨a1,t1,rfl,h1,h⟩:=h
 have w_:=fI (Rep.len _ _ h1)
 obtain⟨v1,rfl⟩:=w_
 have w_:=Rep.sl h1
 obtain⟨b1,c1,rfl,s1⟩:=w_
 rw[List.length_map]at s1
 obtain rfl:t1=[]:=h
 exact⟨(b1,c1),by simp[Fc.cs],s1⟩
theorem Fc.rep{x:Fc}{cs:List Value}(h:Rep μ x.d cs):RepV μ x.d (.agg cs.toArray):=by
 rw[Fc.d_eq]at h ⊢;exact⟨cs,rfl,h⟩
theorem Fc.inv{x:Fc}{v:Value}(h:RepV μ x.d v):∃p:Fc.P,v= .agg #[.string x.rel,.slice p.1 x.args.length p.2]∧Fc.At μ x p:=by
 have h2:∃cs,v= .agg (List.toArray cs)∧Rep μ x.d cs:=by rw[Fc.d_eq]at h ⊢;exact h
 obtain⟨cs,rfl,h3⟩:=h2
 have w_:=Fc.invA h3
 obtain⟨p,rfl,hA⟩:=w_
 exact⟨p,rfl,hA⟩
theorem Fc.elemA{l:List Fc}{base:Option Addr}{n:Nat}(h:Sl μ 2 base n (l.map Fc.d)){i:Nat}{x:Fc}(hx:l[i]? =some x):∃ad,∃p:Fc.P,ElemAt μ base n 2 i ad (x.cs p)∧RepV μ x.d (.agg (x.cs p).toArray)∧Fc.At μ x p:=by
 have w_:=h.get i x.d (by simp[hx])
 obtain⟨ad,cs,h1,h2⟩:=w_
 have w_:=Fc.invA h2
 obtain⟨p,rfl,hA⟩:=w_
 exact⟨ad,p,h1,Fc.rep h2,hA⟩
theorem Fc.elem{l:List Fc}{base:Option Addr}{n:Nat}(h:Sl μ 2 base n (l.map Fc.d)){i:Nat}{x:Fc}(hx:l[i]? =some x):∃ad,∃p:Fc.P,ElemAt μ base n 2 i ad (x.cs p)∧RepV μ x.d (.agg (x.cs p).toArray):=by
 have w_:=Fc.elemA h hx
 obtain⟨ad,p,h1,h2,_⟩:=w_
 exact⟨ad,p,h1,h2⟩
end
end Go.Vx
namespace Go.Vx
open Go.Proofs Classical
inductive Pf where
 |mk (rel:ByteArray) (clause:Int) (values:List Tm) (kids:List Pf)
def Pf.rel:Pf→ByteArray| .mk a _ _ _=>a
def Pf.clause:Pf→Int| .mk _ a _ _=>a
def Pf.values:Pf→List Tm| .mk _ _ a _=>a
def Pf.kids:Pf→List Pf| .mk _ _ _ a=>a
theorem Pf.ind{q:Pf→Prop}(h:∀x:Pf,(∀y∈x.kids,q y)→q x):∀x,q x
 | .mk a0 a1 a2 a3=>h _ fun y hy=>have _:=hy;Pf.ind h y
termination_by x=>x
decreasing_by all_goals (first|exact Nat.lt_of_lt_of_le (List.sizeOf_lt_of_mem hy) (by simp only[Pf.kids,Pf.mk.sizeOf_spec];omega)|decreasing_tactic)
mutual
def Pf.d:Pf→D
 | .mk a0 a1 a2 a3=> .st [.s a0,.i a1,.sl 4 (a2.map Tm.d),.sl 4 (Pf.ds a3)]
def Pf.ds:List Pf→List D
 |[]=>[]
 |t::r=>t.d::Pf.ds r
end
theorem Pf.ds_map:∀l:List Pf,Pf.ds l=l.map Pf.d
 |[]=>rfl
 |t::r=>by simp[Pf.ds,Pf.ds_map r]
theorem Pf.d_eq(x:Pf):x.d= .st [.s x.rel,.i x.clause,.sl 4 (x.values.map Tm.d),.sl 4 (x.kids.map Pf.d)]:=by
 cases x
 rw[Pf.d,Pf.ds_map]
 rfl
theorem Pf.d_n(x:Pf):x.d.n=4:=by
 rw[Pf.d_eq]
 simp only[D.n,D.ns]
abbrev Pf.P:=(Option Addr×Nat)×(Option Addr×Nat)
def Pf.cs(x:Pf)(p:Pf.P):List Value:=[.string x.rel,.int .i64 x.clause,.slice p.1.1 x.values.length p.1.2,.slice p.2.1 x.kids.length p.2.2]
section
variable {μ:Mem}
def Pf.At(μ:Mem)(x:Pf)(p:Pf.P):Prop:=Sl μ 4 p.1.1 x.values.length (x.values.map Tm.d)∧Sl μ 4 p.2.1 x.kids.length (x.kids.map Pf.d)
theorem Pf.invA{x:Pf}{cs:List Value}(h:Rep μ x.d cs):∃p:Pf.P,cs=x.cs p∧Pf.At μ x p:=by
 rw[Pf.d_eq]at h
 obtain⟨a0,t0,rfl,h0,h⟩:=h
 have h0:a0=[.string x.rel]:=h0
 subst h0
 obtain⟨a1,t1,rfl,h1,h⟩:=h
 have h1:a1=[.int .i64 x.clause]:=h1
 subst h1
 obtain⟨a2,t2,rfl,h2,h⟩:=h
 obtain⟨v2,rfl⟩:=fI (Rep.len _ _ h2)
 obtain⟨b2,c2,rfl,s2⟩:=Rep.sl h2
 rw[List.length_map]at s2
 obtain⟨a3,t3,rfl,h3,h⟩:=h
 obtain⟨v3,rfl⟩:=fI (Rep.len _ _ h3)
 obtain⟨b3,c3,rfl,s3⟩:=Rep.sl h3
 rw[List.length_map]at s3
 obtain rfl:t3=[]:=h
 exact⟨((b2,c2),(b3,c3)),by simp[Pf.cs],⟨s2,s3⟩⟩
theorem Pf.rep{x:Pf}{cs:List Value}(h:Rep μ x.d cs):RepV μ x.d (.agg cs.toArray):=by
 rw[Pf.d_eq]at h ⊢;exact⟨cs,rfl,h⟩
theorem Pf.inv{x:Pf}{v:Value}(h:RepV μ x.d v):∃p:Pf.P,v= .agg #[.string x.rel,.int .i64 x.clause,.slice p.1.1 x.values.length p.1.2,.slice p.2.1 x.kids.length p.2.2]∧Pf.At μ x p:=by
 have h2:∃cs,v= .agg (List.toArray cs)∧Rep μ x.d cs:=by rw[Pf.d_eq]at h ⊢;exact h
 obtain⟨cs,rfl,h3⟩:=h2
 obtain⟨p,rfl,hA⟩:=Pf.invA h3
 exact⟨p,rfl,hA⟩
theorem Pf.invV{x:Pf}{v:Value}(h:RepV μ x.d v):∃p:Pf.P,v= .agg #[.string x.rel,.int .i64 x.clause,.slice p.1.1 x.values.length p.1.2,.slice p.2.1 x.kids.length p.2.2]:=by
 obtain⟨p,h,_⟩:=Pf.inv h
 exact⟨p,h⟩
theorem Pf.elemA{l:List Pf}{base:Option Addr}{n:Nat}(h:Sl μ 4 base n (l.map Pf.d)){i:Nat}{x:Pf}(hx:l[i]? =some x):∃ad,∃p:Pf.P,ElemAt μ base n 4 i ad (x.cs p)∧RepV μ x.d (.agg (x.cs p).toArray)∧Pf.At μ x p:=by
 obtain⟨ad,cs,h1,h2⟩:=h.get i x.d (by simp[hx])
 obtain⟨p,rfl,hA⟩:=Pf.invA h2
 exact⟨ad,p,h1,Pf.rep h2,hA⟩
theorem Pf.elem{l:List Pf}{base:Option Addr}{n:Nat}(h:Sl μ 4 base n (l.map Pf.d)){i:Nat}{x:Pf}(hx:l[i]? =some x):∃ad,∃p:Pf.P,ElemAt μ base n 4 i ad (x.cs p)∧RepV μ x.d (.agg (x.cs p).toArray):=by
 obtain⟨ad,p,h1,h2,_⟩:=Pf.elemA h hx
 exact⟨ad,p,h1,h2⟩
end
end Go.Vx
namespace Go.Vx
open Go.Proofs Classical
mutual
def Gl.cnt:Gl→Nat
 | .mk _ _ _ l=>1+Gl.cnts l
def Gl.cnts:List Gl→Nat
 |[]=>0
 |t::r=>t.cnt+Gl.cnts r
end
theorem Gl.cnt_eq1(g:Gl):g.cnt=1+Gl.cnts g.goals:=by cases g;rfl
theorem Gl.cnt_pos(g:Gl):1≤g.cnt:=by rw[Gl.cnt_eq1];omega
theorem Gl.cnts_append:∀(a c:List Gl),Gl.cnts (a++c)=Gl.cnts a+Gl.cnts c
 |[],c=>by simp[Gl.cnts]
 |d::r,c=>by simp[Gl.cnts,Gl.cnts_append r c,Nat.add_assoc]
theorem Gl.cnts_take{xs:List Gl}{j:Nat}{x:Gl}(h:xs[j]? =some x):Gl.cnts (xs.take (j+1))=Gl.cnts (xs.take j)+x.cnt:=by
 rw[List.take_add_one,h,Option.toList_some,Gl.cnts_append];simp[Gl.cnts]
theorem Gl.cnts_le(xs:List Gl)(j:Nat):Gl.cnts (xs.take j)≤Gl.cnts xs:=by
 have:=Gl.cnts_append (xs.take j) (xs.drop j)
 rw[List.take_append_drop]at this;omega
structure TopOk (g:Gl):Prop where
 tm:∀t∈g.terms,t.Ok
 k0:0≤g.kind
 k1:g.kind≤10
 nm:g.kind≠9→g.name=⟨#[]⟩
 rel:g.kind=9→iT g.name
 ln9:g.kind=9→g.terms.length≤4
 ln2:g.kind=2∨g.kind=3∨g.kind=6→g.terms.length=2
 ln1:g.kind=4∨g.kind=5→g.terms.length=1
 ln0:g.kind=0∨g.kind=1∨g.kind=7∨g.kind=8∨g.kind=10→g.terms.length=0
 gl:g.goals.length≤8
 gl0:g.kind<7∨g.kind=9→g.goals.length=0
 gl1:g.kind=10→g.goals.length=1
 sy:g.kind=6→∀a,g.terms[0]? =some a→a.kind=2
 cl:g.kind=10→∀b,g.goals[0]? =some b→b.kind=9
inductive Gl.Sh:Gl→Prop
 |mk {g:Gl} (top:TopOk g) (sub:∀x∈g.goals,x.Sh):g.Sh
theorem Gl.Sh.top{g:Gl}(h:g.Sh):TopOk g:=by cases h;assumption
theorem Gl.Sh.sub{g:Gl}(h:g.Sh):∀x∈g.goals,x.Sh:=by cases h;assumption
def Gl.Ok(g:Gl):Prop:=g.Sh∧g.cnt≤80
section
variable {μ:Mem}
theorem nP:∀(g:Gl) {v:Value} {most:Int},RepV μ g.d v→ -1000000000000≤most→most≤1000000000000→aQ Tryz.prog 107 [v,.int .i64 most] μ (.int .i64 (bX g.cnt most)):=
 Gl.ind fun g ih v most hv h1 h2=>by
  have w_:=Gl.inv hv
  obtain⟨p,rfl,-,hsl⟩:=w_
  have hn:=aI hsl.max
  have hge:=Gl.cnt_eq1 g
  generalize hl:g.goals=l at*
  refine Spec.mk Tryz.func107 (by kernel_rfl) ?_
  intro r
  refine lIn (fun i:Nat=>i≤l.length) (fun i=>⟨[(1,.val (.int .i64 most)),(5,.val (.int .i64 (bX (1+Gl.cnts (l.take i):Nat) most))),(9,.val (.slice p.2.1 l.length p.2.2)),(10,.val (.int .i64 l.length)),(11,.val (.int .i64 i))],[],1,μ,Mem.nil⟩) (fun i=>l.length-i)
   0 (by omega) (fun i=>⟨rfl,rfl⟩) ⟨⟨rfl,by show some (SV.val (.int .i64 _))=some (SV.val (.int .i64 _));congr 3;simp[Gl.cnts,bX];omega,rfl,rfl,rfl,trivial⟩,trivial,rfl,rfl⟩ ?_
  intro i hi
  refine ifd (fun h=>?_) (fun h=>?_)
  ·have w_ := aSo (l := l) (i := i) (by omega)
   obtain⟨t,ht⟩:=w_
   have hc:=Gl.cnts_take ht
   have hc':=Gl.cnts_le l (i+1)
   have w_:=Gl.elem hsl ht
   obtain⟨ad,p,hel,hr⟩:=w_
   refine eIn hel ?_
   intro r2
   refine ifd (fun h=>rGv ?_ rfl) (fun h=>?_)
   ·simp only [bX] at h ⊢
    congr 1;omega
   ·have hb : bX (1 + Gl.cnts (l.take i) : Nat) most ≤ 1000000000001 ∧ 1 ≤ bX (1 + Gl.cnts (l.take i) : Nat) most := by unfold bX; omega
    refine aC (by omega) (by omega) ?_
    refine cGv (ih t (mAt ht) hr (by omega) (by omega)) ?_
    refine nEq (x:=bX (1+Gl.cnts (l.take (i+1)):Nat) most) ?_ ?_
    ·have hb2:bX (t.cnt:Int) (most-bX (1+Gl.cnts (l.take i):Nat) most)≤1000000000001∧1≤bX (t.cnt:Int) (most-bX (1+Gl.cnts (l.take i):Nat) most):=by
      have:=t.cnt_pos
      unfold bX at hb h ⊢
      omega
     rw[aA (by omega) (by omega),hc]
     unfold bX at h ⊢;omega
    ·exact aC (by omega) (by omega) ⟨i+1,by omega,by omega,⟨⟨rfl,rfl,rfl,rfl,rfl,trivial⟩,trivial,rfl,rfl⟩⟩
  ·obtain rfl : i = l.length := by omega
   rw[List.take_length]
   exact rGv (by rw[hge]) rfl
theorem qLn{n k:Nat}(hk:k≤10):([.int .i64 0,.int .i64 0,.int .i64 2,.int .i64 2,.int .i64 1,.int .i64 1,.int .i64 2,.int .i64 0,.int .i64 0,.int .i64 n,.int .i64 0]:List Value)[k]? =some (.int .i64 (if k=2∨k=3∨k=6 then 2 else if k=4∨k=5 then 1 else if k=9 then n else 0)):=by
 match k,hk with
 |0,_=>rfl
 |1,_=>rfl
 |2,_=>rfl
 |3,_=>rfl
 |4,_=>rfl
 |5,_=>rfl
 |6,_=>rfl
 |7,_=>rfl
 |8,_=>rfl
 |9,_=>rfl
 |10,_=>rfl
theorem xD:∀(g:Gl) {v:Value},RepV μ g.d v→g.d.wd→aQ Tryz.prog 148 [v] μ (.bool (decide g.Sh)):=
 Gl.ind fun g ih v hv hw=>by
  have w_:=Gl.inv hv
  obtain⟨p,rfl,hts,hgs⟩:=w_
  have hn1:=aI hts.max
  have hn2:=aI hgs.max
  rw[Gl.d_eq]at hw
  have hs:g.name.size≤maxLen:=hw.2.1
  have wt:D.wds (g.terms.map Tm.d):=hw.2.2.1
  have wg:D.wds (g.goals.map Gl.d):=hw.2.2.2.1
  have bad:¬TopOk g→Value.bool false= .bool (decide g.Sh):=fun h=>isF fun k=>h k.top
  refine Spec.mk Tryz.func148 (by kernel_rfl) ?_
  intro r
  refine cGv (bU _ _ _ _) ?_
  refine aL (fun h=>rGv (bad fun T=>h ⟨T.k0,T.k1⟩) rfl) (fun hk=>?_)
  refine aL (fun h9=>aL (fun hne=>rGv (bad fun T=>hne (T.nm h9)) rfl) (fun hnm=>?_)) (fun h9=>?_)
  all_goals refine cGv (xA hts wt) ?_
  all_goals refine aL (fun h=>rGv (bad fun T=>h T.tm) rfl) (fun htm=>?_)
  all_goals intro r2
  all_goals obtain⟨k,hk'⟩:∃k:Nat,g.kind=k:=⟨g.kind.toNat,by omega⟩
  all_goals refine bK k hk' (by omega) (bL _ (qLn (by omega)) ?_)
  all_goals refine aL (fun hlen=>rGv (bad fun T=>hlen ?_) rfl) (fun hlen=>?_)
  any_goals (have e9:=T.ln9;have e2:=T.ln2;have e1:=T.ln1;have e0:=T.ln0;have:=T.gl;omega)
  all_goals refine ifd (fun h4=>rGv (bad fun T=>?_) rfl) (fun h4=>?_)
  any_goals (have e9:=T.ln9;have e2:=T.ln2;have e1:=T.ln1;have e0:=T.ln0;have:=T.gl;omega)
  all_goals refine ifd (fun h7=>ifd (fun h0=>rGv (bad fun T=>?_) rfl) (fun h0=>?_)) (fun h7=>?_)
  any_goals (have e9:=T.gl0;omega)
  all_goals refine ifd (fun h8=>rGv (bad fun T=>?_) rfl) (fun h8=>?_)
  any_goals (have e9:=T.gl;omega)
  all_goals refine lIn (fun i:Nat=>i≤g.goals.length∧∀t∈g.goals.take i,t.Sh) (fun i=>⟨[(1,.loc 0 r 0),(61,.val (.slice p.2.1 g.goals.length p.2.2)),(62,.val (.int .i64 g.goals.length)),(63,.val (.int .i64 i))],[(0,some (.cells r [.val (.int .i64 g.kind),.val (.string g.name),.val (.slice p.1.1 g.terms.length p.1.2),.val (.slice p.2.1 g.goals.length p.2.2)] 73))],2,μ,Mem.nil⟩) (fun i=>g.goals.length-i) 0 ⟨by omega,by simp⟩ (fun i=>⟨rfl,rfl⟩) ⟨⟨rfl,rfl,rfl,rfl,trivial⟩,⟨rfl,trivial⟩,rfl,rfl⟩ ?_
  all_goals rintro i ⟨hi,hall⟩
  all_goals refine ifd (fun h=>?_) (fun h=>?_)
  any_goals
   have w_:=aSo (l:=g.goals) (i:=i) (by omega)
   obtain⟨t,ht⟩:=w_
   have w_:=Gl.elem hgs ht
   obtain⟨ad,p,hel,hr⟩:=w_
   refine eIn hel ?_
   intro r3
   refine cGv (ih t (mAt ht) hr (D.wds_mem wg _ (mAt (lX (f:=Gl.d) ht)))) ?_
   refine aL (fun h=>rGv (isF fun S=>h (S.sub t (mAt ht))) rfl) (fun h=>?_)
   refine aC (by omega) (by omega) ⟨i+1,⟨by omega,fun x hx=>?_⟩,by omega,⟨⟨rfl,rfl,rfl,rfl,trivial⟩,⟨rfl,trivial⟩,rfl,rfl⟩⟩
   rw[List.take_add_one,ht,Option.toList_some,List.mem_append,List.mem_singleton]at hx
   rcases hx with hx|rfl
   ·exact hall x hx
   ·exact h
  all_goals obtain rfl:i=g.goals.length:=by omega
  all_goals rw[List.take_length]at hall
  all_goals
   have mk:(g.kind=9→iT g.name)→(g.kind=10→g.goals.length=1)→(g.kind=9→g.goals.length=0)→(g.kind=6→∀a,g.terms[0]? =some a→a.kind=2)→(g.kind=10→∀b,g.goals[0]? =some b→b.kind=9)→g.Sh:=fun a b c d e=>
    .mk ⟨htm,by omega,by omega,by first|exact fun _=>hnm|exact fun h=>absurd h9 h,a,by omega,by omega,by omega,by omega,by omega,by omega,b,d,e⟩ hall
  all_goals refine ifd (fun h6=>?_) (fun h6=>?_)
  any_goals
   have w_:=aSo (l:=g.terms) (i:=0) (by omega)
   obtain⟨a,ha⟩:=w_
   have w_:=Tm.elem hts ha
   obtain⟨ad,p,hel,hr⟩:=w_
   refine eIn hel ?_
   exact rGv (isI ⟨fun hh=>mk (by omega) (by omega) (by omega) (fun _ x hx=>by rw[ha]at hx;cases hx;exact hh) (by omega),fun S=>S.top.sy h6 a ha⟩) rfl
  all_goals refine ifd (fun h9=>?_) (fun h9=>?_)
  any_goals omega
  any_goals
   refine ifd (fun h0=>cGv (gO _ hs _) (rGv (isI ⟨fun hh=>mk (fun _=>hh) (by omega) (by omega) (by omega) (by omega),fun S=>S.top.rel h9⟩) rfl)) (fun h0=>rGv (isF fun S=>?_) rfl)
   have:=S.top.gl0;omega
  all_goals refine ifd (fun h10=>?_) (fun h10=>rGv (isT (mk (by omega) (by omega) (by omega) (by omega) (by omega))) rfl)
  any_goals omega
  all_goals refine ifd (fun h1=>?_) (fun h1=>rGv (isF fun S=>h1 ?_) rfl)
  any_goals (have:=S.top.gl1;omega)
  all_goals
   have w_:=aSo (l:=g.goals) (i:=0) (by omega)
   obtain⟨b,hb⟩:=w_
   have w_:=Gl.elem hgs hb
   obtain⟨ad,p,hel,hr⟩:=w_
   refine eIn hel ?_
   exact rGv (isI ⟨fun hh=>mk (by omega) (by omega) (by omega) (by omega) (fun _ x hx=>by rw[hb]at hx;cases hx;exact hh),fun S=>S.top.cl h10 b hb⟩) rfl
end
end Go.Vx
namespace Go.Vx
open Go.Proofs Classical
noncomputable def Gl.nodes(t:Gl)(room:Int):Int:=if t.Sh∧(t.cnt:Int)≤room then t.cnt else -1
theorem Gl.nodes_neg{t:Gl}{room:Int}(h:¬(t.Sh∧(t.cnt:Int)≤room)):Value.int .i64 (-1)= .int .i64 (t.nodes room):=by rw[Gl.nodes,if_neg h]
theorem Gl.nodes_pos{t:Gl}{room:Int}(h:t.Sh)(h2:(t.cnt:Int)≤room):t.nodes room=t.cnt:=by rw[Gl.nodes,if_pos ⟨h,h2⟩]
theorem Gl.nodes_lt{t:Gl}{room:Int}(h:t.nodes room<0):¬(t.Sh∧(t.cnt:Int)≤room):=fun k=>by rw[Gl.nodes,if_pos k]at h;omega
theorem Gl.nodes_ge{t:Gl}{room:Int}(h:¬t.nodes room<0):t.Sh∧(t.cnt:Int)≤room∧t.nodes room=t.cnt:=by
 by_cases k:t.Sh∧(t.cnt:Int)≤room
 ·exact⟨k.1,k.2,by rw[Gl.nodes,if_pos k]⟩
 ·rw[Gl.nodes,if_neg k]at h;omega
section
variable {μ:Mem}
theorem fQ(g:Gl){v:Value}(hv:RepV μ g.d v)(hw:g.d.wd):aQ Tryz.prog 104 [v] μ (.bool (decide g.Ok)):=by
 have w_:=Gl.invV hv
 obtain⟨p,rfl⟩:=w_
 refine Spec.mk Tryz.func104 (by kernel_rfl) ?_
 intro r
 refine cGv (nP g hv (by decide) (by decide)) ?_
 refine ifd (fun h=>?_) (fun h=>rGv (isF fun hh=>?_) rfl)
 ·refine cGv (xD g hv hw) (rGv (isI ⟨fun hh => ⟨hh, ?_⟩, fun hh => hh.1⟩) rfl)
  unfold bX at h;omega
 ·have:=hh.2;unfold bX at h;omega
end
end Go.Vx
namespace Go.Vx
open Go.Proofs Classical
section
variable {μ:Mem}
theorem eJ{xs:List T}{base:Option Addr}{cap:Nat}(hsl:Sl μ 4 base xs.length ((xs.map T.tm).map Tm.d))(hn:xs.length≤10000000):
  Spec Tryz.prog 81 [.slice base xs.length cap] μ fun v μ'=>RepV μ' (.sl 4 ((xs.map T.tm).map Tm.d)) v:=by
 refine Spec.mk Tryz.func81 (by kernel_rfl) ?_
 intro r6
 refine lIn (fun p:Nat×Option Nat×Nat×List Value×Mem=>p.1≤xs.length∧μ.Le p.2.2.2.2∧Rows p.2.2.2.2 4 (((xs.take p.1).map T.tm).map Tm.d) p.2.2.2.1)
  (fun(i,b,c,ys,μ')=>⟨[(3,.row 0 b ys.length c),(7,.val (.slice base xs.length cap)),(8,.val (.int .i64 xs.length)),(9,.val (.int .i64 i))],[(0,some (.row b c 57 4 ys))],1,μ',Mem.nil⟩) (fun p=>xs.length-p.1)
  (0,some r6,0,[],μ) ⟨by simp,Mem.Le.refl _,.nil⟩ (fun(_,_,_,_,_)=>⟨rfl,rfl⟩) ⟨⟨rfl,rfl,rfl,rfl,trivial⟩,⟨rfl,trivial⟩,rfl,rfl⟩ ?_
 rintro⟨i,b,c,ys,μ'⟩ ⟨hi,hle,hrows⟩
 dsimp only at hi hle hrows
 have hlen:=hrows.len
 simp only[List.length_map,List.length_take]at hlen
 refine ifd (fun h=>?_) (fun h=>?_)
 ·have w_ := aSo (l := xs) (i := i) (by omega)
  obtain⟨x,hx'⟩:=w_
  have w_:=Tm.elem (i:=i) (t:=x.tm) (hsl.mono hle) (by simp[hx'])
  obtain⟨ad,p,hel,hto⟩:=w_
  refine eIn hel ?_
  intro r
  refine cPl (pY _ hto) fun v4 μ4 hle4 hR4=>?_
  have w_:=Tm.invV hR4
  obtain⟨q,rfl⟩:=w_
  intro r5
  refine gIn ?_ ?_ fun b' c' _=>?_
  ·show(ys.length+1)*56≤_;omega
  ·exact Nat.le_trans (m:=100000000) (show ys.length+1≤_ by omega) (by decide)
  refine aC (by omega) (by omega) ⟨(i+1,b',c',_,μ4),⟨by dsimp only;omega,hle.trans hle4,?_⟩,by dsimp only;omega,⟨⟨rfl,rfl,rfl,rfl,trivial⟩,⟨rfl,trivial⟩,rfl,rfl⟩⟩
  dsimp only
  rw[List.take_add_one,hx',Option.toList_some]
  simp only[List.map_append,List.map_cons,List.map_nil]
  exact(hrows.mono hle4).append (Rows.one hR4 (Tm.d_n _))
 ·obtain rfl : i = xs.length := by omega
  rw[List.take_length]at hrows
  refine rFz [0] fun μ' hle' hno hrow=> .inl ?_
  exact Rows.sl hrow (hrows.mono hle') (Nat.le_trans (m:=100000000) (by omega) (by decide))
theorem RepS.cons1{d:D}{r:List D}{v:Value}{cs:List Value}(k1:Rep μ d [v])(k2:RepS μ r cs):RepS μ (d::r) (v::cs):=⟨[v],cs,rfl,k1,k2⟩
theorem qAp:∀(g:Gl) {μ:Mem} {v:Value},RepV μ g.d v→g.Sh→Spec Tryz.prog 149 [v] μ fun v μ'=>RepV μ' g.d v:=
 Gl.ind fun g ih μ v hv hS=>by
  have w_:=Gl.inv hv
  obtain⟨p,rfl,hts,hgs⟩:=w_
  have w_:=eY hS.top.tm
  obtain⟨xs,hxs,hok⟩:=w_
  have hg8:=hS.top.gl
  have hx4:xs.length≤4:=by
   have T:=hS.top
   have e9:=T.ln9;have e2:=T.ln2;have e1:=T.ln1;have e0:=T.ln0;have k0:=T.k0;have k1:=T.k1
   have:g.terms.length=xs.length:=by rw[hxs,List.length_map]
   omega
  rw[hxs,List.length_map]at hts ⊢
  refine Spec.mk Tryz.func149 (by kernel_rfl) ?_
  intro r1 r2
  refine cPl (eJ hts (by omega)) fun v1 μ1 hle1 hR1=>?_
  have w_:=Rep.sl hR1
  obtain⟨b1,c1,rfl,hs1⟩:=w_
  intro r3
  have hgs1:=hgs.mono hle1
  refine bS (fun p:Nat×Option Nat×Nat×List Value×Mem=>p.1≤g.goals.length∧μ1.Le p.2.2.2.2∧Rows p.2.2.2.2 4 ((g.goals.take p.1).map Gl.d) p.2.2.2.1)
   (fun (i, b, c, ys, μ') => ⟨[(2, .loc 1 r2 0), (3, .loc 2 r3 0), (15, .val (.slice p.2.1 g.goals.length p.2.2)), (16, .val (.int .i64 g.goals.length)), (17, .val (.int .i64 i))],
    [(1,some (.cells r2 [.val (.int .i64 0),.val (.string ⟨#[]⟩),.val (.slice none 0 0),.val (.slice none 0 0)] 73)),(2,some (.cells r3 [.val (.int .i64 g.kind),.val (.string g.name),.val (.slice b1 ((xs.map T.tm).map Tm.d).length c1),.row 3 b ys.length c] 73)),(3,some (.row b c 73 4 ys))],4,μ',Mem.nil⟩) (fun p=>g.goals.length-p.1)
   (0,none,0,[],μ1) ⟨by simp,Mem.Le.refl _,.nil⟩ (fun(_,_,_,_,_)=>⟨rfl,rfl⟩) ⟨⟨⟨_,rfl,.inl rfl⟩,⟨_,rfl,.inl rfl⟩,⟨_,rfl,.inl rfl⟩,⟨_,rfl,.inl rfl⟩,⟨_,rfl,.inl rfl⟩,trivial⟩,⟨.inl rfl,.inr (.inr ⟨_,_,_,_,rfl,rfl,.inl rfl,.inl rfl,.inl rfl,.inr ⟨3,rfl,rfl,Nat.le_refl _⟩,trivial⟩),.inr (.inl ⟨_,_,rfl,Nat.le_refl _⟩),trivial⟩,rfl,rfl⟩ ?_
  rintro⟨i,b,c,ys,μ'⟩ ⟨hi,hle,hrows⟩
  dsimp only at hi hle hrows
  have hlen:=hrows.len
  simp only[List.length_map,List.length_take]at hlen
  refine ifd (fun h=>?_) (fun h=>?_)
  ·have w_ := aSo (l := g.goals) (i := i) (by omega)
   obtain⟨t,ht⟩:=w_
   have w_:=Gl.elem (hgs1.mono hle) ht
   obtain⟨ad,p3,hel,hr⟩:=w_
   refine eIn hel ?_
   intro r4
   refine cPl (ih t (mAt ht) hr (hS.sub t (mAt ht))) fun v' μ'' hle2 hR=>?_
   have w_:=Gl.invV hR
   obtain⟨q,rfl⟩:=w_
   intro r5
   refine gIn ?_ ?_ fun b' c' _=>?_
   ·show(ys.length+1)*72≤_;omega
   ·exact Nat.le_trans (m:=100000000) (show ys.length+1≤_ by omega) (by decide)
   have hsucc:(g.goals.take (i+1)).map Gl.d=(g.goals.take i).map Gl.d++[t.d]:=by
    rw[List.take_add_one,ht,Option.toList_some];simp
   exact aC (by omega) (by omega) ⟨(i+1,b',c',_,μ''),⟨by dsimp only;omega,hle.trans hle2,by rw[hsucc];exact(hrows.mono hle2).append (Rows.one hR (Gl.d_n _))⟩,by dsimp only;omega,⟨⟨rfl,rfl,rfl,rfl,rfl,trivial⟩,⟨rfl,rfl,rfl,trivial⟩,rfl,rfl⟩⟩
  ·obtain rfl : i = g.goals.length := by omega
   rw[List.take_length]at hrows
   refine rFz [3] fun μ2 hle2 hno hrow=> .inl ?_
   rw[Gl.d_eq,hxs]
   exact⟨_,rfl,RepS.int (RepS.str (RepS.cons1 ((hR1.mono hle).mono hle2) (RepS.last (Rows.sl hrow (hrows.mono hle2) (Nat.le_trans (m:=100000000) (by omega) (by decide))))))⟩
end
end Go.Vx
namespace Go.Vx
open Go.Proofs Classical
mutual
noncomputable def Gl.put(f:Int→Option T):Gl→Gl
 | .mk k s ts gs=> .mk k s (ts.map fun t=>(t.toT.subst f).tm) (Gl.puts f gs)
noncomputable def Gl.puts(f:Int→Option T):List Gl→List Gl
 |[]=>[]
 |g::r=>g.put f::Gl.puts f r
end
theorem Gl.puts_map(f:Int→Option T):∀l:List Gl,Gl.puts f l=l.map (Gl.put f)
 |[]=>rfl
 |t::r=>by simp[Gl.puts,Gl.puts_map f r]
theorem Gl.put_kind(f:Int→Option T)(g:Gl):(g.put f).kind=g.kind:=by cases g;rfl
theorem Gl.put_name(f:Int→Option T)(g:Gl):(g.put f).name=g.name:=by cases g;rfl
theorem Gl.put_terms(f:Int→Option T)(g:Gl):(g.put f).terms=g.terms.map fun t=>(t.toT.subst f).tm:=by cases g;rfl
theorem Gl.put_goals(f:Int→Option T)(g:Gl):(g.put f).goals=g.goals.map (Gl.put f):=by cases g;rw[Gl.put];exact Gl.puts_map f _
theorem mT{xs:List T}:(xs.map T.tm).map Tm.toT=xs:=by
 rw[List.map_map]
 exact(List.map_congr_left fun x _=>T.toT_tm x).trans (List.map_id _)
section
variable {μ:Mem}
theorem qDo{bs:List B}{b0:Option Addr}{c0:Nat}:∀(g:Gl) {μ:Mem} {v:Value},RepV μ g.d v→g.Sh→Sl μ 5 b0 bs.length ((bs.map B.bd).map Bd.d)→Spec Tryz.prog 112 [v,.slice b0 bs.length c0] μ fun v μ'=>RepV μ' (g.put (sub bs)).d v:=
 Gl.ind fun g ih μ v hv hS hsl=>by
  have w_:=Gl.inv hv
  obtain⟨p,rfl,hts,hgs⟩:=w_
  have w_:=eY hS.top.tm
  obtain⟨xs,hxs,hok⟩:=w_
  have hg8:=hS.top.gl
  have hx4:xs.length≤4:=by
   have T:=hS.top
   have e9:=T.ln9;have e2:=T.ln2;have e1:=T.ln1;have e0:=T.ln0;have k0:=T.k0;have k1:=T.k1
   have:g.terms.length=xs.length:=by rw[hxs,List.length_map]
   omega
  have hput:(g.put (sub bs)).d= .st [.i g.kind,.s g.name,.sl 4 (((xs.map (T.subst (sub bs))).map T.tm).map Tm.d),.sl 4 ((g.goals.map (Gl.put (sub bs))).map Gl.d)]:=by
   rw[Gl.d_eq,Gl.put_kind,Gl.put_name,Gl.put_goals,Gl.put_terms,hxs]
   simp[List.map_map,Function.comp_def,T.toT_tm]
  rw[hxs,List.length_map]at hts ⊢
  refine Spec.mk Tryz.func112 (by kernel_rfl) ?_
  intro r1 r2 r3
  refine bS (fun p:Nat×Option Nat×Nat×List Value×Mem=>p.1≤xs.length∧μ.Le p.2.2.2.2∧Rows p.2.2.2.2 4 ((((xs.take p.1).map (T.subst (sub bs))).map T.tm).map Tm.d) p.2.2.2.1)
   (fun (i, b, c, ys, μ') => ⟨[(1, .val (.slice b0 bs.length c0)), (2, .loc 0 r1 0), (4, .loc 1 r2 0), (5, .loc 2 r3 0), (16, .val (.slice p.1.1 xs.length p.1.2)), (17, .val (.int .i64 xs.length)), (18, .val (.int .i64 i))],
    [(0,some (.cells r1 [.val (.int .i64 g.kind),.val (.string g.name),.val (.slice p.1.1 xs.length p.1.2),.val (.slice p.2.1 g.goals.length p.2.2)] 73)),(1,some (.cells r2 [.val (.int .i64 0),.val (.string ⟨#[]⟩),.val (.slice none 0 0),.val (.slice none 0 0)] 73)),(2,some (.cells r3 [.val (.int .i64 g.kind),.val (.string g.name),.row 3 b ys.length c,.val (.slice none 0 0)] 73)),(3,some (.row b c 57 4 ys))],4,μ',Mem.nil⟩) (fun p=>xs.length-p.1)
   (0,none,0,[],μ) ⟨by simp,Mem.Le.refl _,.nil⟩ (fun(_,_,_,_,_)=>⟨rfl,rfl⟩) ⟨⟨⟨_,rfl,.inl rfl⟩,⟨_,rfl,.inl rfl⟩,⟨_,rfl,.inl rfl⟩,⟨_,rfl,.inl rfl⟩,⟨_,rfl,.inl rfl⟩,⟨_,rfl,.inl rfl⟩,⟨_,rfl,.inl rfl⟩,trivial⟩,⟨.inl rfl,.inl rfl,.inr (.inr ⟨_,_,_,_,rfl,rfl,.inl rfl,.inl rfl,.inr ⟨3,rfl,rfl,Nat.le_refl _⟩,.inl rfl,trivial⟩),.inr (.inl ⟨_,_,rfl,Nat.le_refl _⟩),trivial⟩,rfl,rfl⟩ ?_
  rintro⟨i,b,c,ys,μ'⟩ ⟨hi,hle,hrows⟩
  dsimp only at hi hle hrows
  have hlen:=hrows.len
  simp only[List.length_map,List.length_take]at hlen
  refine ifd (fun h=>?_) (fun h=>?_)
  ·have w_ := aSo (l := xs) (i := i) (by omega)
   obtain⟨t,ht⟩:=w_
   have ht':(xs.map T.tm)[i]? =some t.tm:=by simp[ht]
   have w_:=Tm.elem (hts.mono hle) ht'
   obtain⟨ad,p3,hel,hr⟩:=w_
   refine eIn hel ?_
   intro r4
   refine cPl (qDl t (hsl.mono hle) hr) fun v' μ'' hle2 hR=>?_
   have w_:=Tm.invV hR
   obtain⟨q,rfl⟩:=w_
   intro r5
   refine gIn ?_ ?_ fun b' c' _=>?_
   ·show(ys.length+1)*56≤_;omega
   ·exact Nat.le_trans (m:=100000000) (show ys.length+1≤_ by omega) (by decide)
   refine aC (by omega) (by omega) ⟨(i+1,b',c',_,μ''),⟨by dsimp only;omega,hle.trans hle2,?_⟩,by dsimp only;omega,⟨⟨rfl,rfl,rfl,rfl,rfl,rfl,rfl,trivial⟩,⟨rfl,rfl,rfl,rfl,trivial⟩,rfl,rfl⟩⟩
   dsimp only
   rw[List.take_add_one,ht,Option.toList_some]
   simp only[List.map_append,List.map_cons,List.map_nil]
   exact(hrows.mono hle2).append (Rows.one hR (Tm.d_n _))
  ·obtain rfl : i = xs.length := by omega
   rw[List.take_length]at hrows
   have hgs1:=hgs.mono hle
   refine bS (fun p:Nat×Option Nat×Nat×List Value×Mem=>p.1≤g.goals.length∧μ'.Le p.2.2.2.2∧Rows p.2.2.2.2 4 (((g.goals.take p.1).map (Gl.put (sub bs))).map Gl.d) p.2.2.2.1)
    (fun (i, b2, c2, zs, μ'') => ⟨[(1, .val (.slice b0 bs.length c0)), (4, .loc 1 r2 0), (5, .loc 2 r3 0), (32, .val (.slice p.2.1 g.goals.length p.2.2)), (33, .val (.int .i64 g.goals.length)), (34, .val (.int .i64 i))],
     [(1,some (.cells r2 [.val (.int .i64 0),.val (.string ⟨#[]⟩),.val (.slice none 0 0),.val (.slice none 0 0)] 73)),(2,some (.cells r3 [.val (.int .i64 g.kind),.val (.string g.name),.row 3 b ys.length c,.row 4 b2 zs.length c2] 73)),(3,some (.row b c 57 4 ys)),(4,some (.row b2 c2 73 4 zs))],5,μ'',Mem.nil⟩) (fun p=>g.goals.length-p.1)
    (0,none,0,[],μ') ⟨by simp,Mem.Le.refl _,.nil⟩ (fun(_,_,_,_,_)=>⟨rfl,rfl⟩) ⟨⟨⟨_,rfl,.inl rfl⟩,⟨_,rfl,.inl rfl⟩,⟨_,rfl,.inl rfl⟩,⟨_,rfl,.inl rfl⟩,⟨_,rfl,.inl rfl⟩,⟨_,rfl,.inl rfl⟩,trivial⟩,⟨.inl rfl,.inr (.inr ⟨_,_,_,_,rfl,rfl,.inl rfl,.inl rfl,.inl rfl,.inr ⟨4,rfl,rfl,Nat.le_refl _⟩,trivial⟩),.inl rfl,.inr (.inl ⟨_,_,rfl,Nat.le_refl _⟩),trivial⟩,rfl,rfl⟩ ?_
   rintro⟨i,b2,c2,zs,μ''⟩ ⟨hi,hle3,hrows2⟩
   dsimp only at hi hle3 hrows2
   have hlen2:=hrows2.len
   simp only[List.length_map,List.length_take]at hlen2
   refine ifd (fun h=>?_) (fun h=>?_)
   ·have w_ := aSo (l := g.goals) (i := i) (by omega)
    obtain⟨t,ht⟩:=w_
    have w_:=Gl.elem (hgs1.mono hle3) ht
    obtain⟨ad,p3,hel,hr⟩:=w_
    refine eIn hel ?_
    intro r4
    refine cPl (ih t (mAt ht) hr (hS.sub t (mAt ht)) ((hsl.mono hle).mono hle3)) fun v' μ3 hle4 hR=>?_
    have w_:=Gl.invV hR
    obtain⟨q,rfl⟩:=w_
    intro r5
    refine gIn ?_ ?_ fun b' c' _=>?_
    ·show(zs.length+1)*72≤_;omega
    ·exact Nat.le_trans (m:=100000000) (show zs.length+1≤_ by omega) (by decide)
    refine aC (by omega) (by omega) ⟨(i+1,b',c',_,μ3),⟨by dsimp only;omega,hle3.trans hle4,?_⟩,by dsimp only;omega,⟨⟨rfl,rfl,rfl,rfl,rfl,rfl,trivial⟩,⟨rfl,rfl,rfl,rfl,trivial⟩,rfl,rfl⟩⟩
    dsimp only
    rw[List.take_add_one,ht,Option.toList_some]
    simp only[List.map_append,List.map_cons,List.map_nil]
    exact(hrows2.mono hle4).append (Rows.one hR (Gl.d_n _))
   ·obtain rfl : i = g.goals.length := by omega
    rw[List.take_length]at hrows2
    refine rFz [3,4] fun μ2 hle5 hno hrow=>fun μ3 hle6 hno2 hrow2=> .inl ?_
    rw[hput]
    exact⟨_,rfl,RepS.int (RepS.str (RepS.cons1 ((Rows.sl hrow (((hrows.mono hle3)).mono hle5) (Nat.le_trans (m:=100000000) (by omega) (by decide))).mono hle6) (RepS.last (Rows.sl hrow2 ((hrows2.mono hle5).mono hle6) (Nat.le_trans (m:=100000000) (by omega) (by decide))))))⟩
end
end Go.Vx
namespace Go.Vx
open Go.Proofs Classical
theorem Mem.Le.none{μ μ':Mem}{b:Nat}(h:μ.Le μ')(k:μ' b=none):μ b=none:=by
 cases e:μ b with
 |none=>rfl
 |some o=>rw[h b o e]at k;cases k
section
variable {μ:Mem}
end
end Go.Vx
namespace Go.Vx
open Go.Proofs Classical
open Go.Sort
def aX(h0:Mem)(r:Nat)(ty:TypeId)(rest:List Value)(d:Array Int):Mem:=h0.set r (.cells (List.toArray ([]++(d.toList.map (Value.int .i64)++rest))) ty (0,0))
section
variable {μ h0:Mem} {r:Nat} {ty:TypeId} {rest:List Value} {d:Array Int}
end
end Go.Vx
namespace Go.Vx
open Go.Proofs Classical
open Go.Sort
def RowS(h0:Mem)(r:Nat)(ty:TypeId)(rest:List Value)(d:Array Int)(rs:Nat)(s:Int):Mem:=aX (h0.set rs (.cells #[.int .i64 s] 3 (0,0))) r ty rest d
section
variable {μ h0:Mem} {r rs:Nat} {ty:TypeId} {rest:List Value} {d:Array Int} {s:Int}
theorem RowS.at(hne:rs≠r):RowS h0 r ty rest d rs s rs=some (.cells #[.int .i64 s] 3 (0,0)):=by
 rw[RowS,aX,Mem.set_ne hne,Mem.set_at]
theorem RowS.parts(hne:rs≠r)(hs:h0 rs=none):Parts (RowS h0 r ty rest d rs s) (Mem.nil.set rs (.cells #[.int .i64 s] 3 (0,0))) (aX h0 r ty rest d):=fun b=>by
 by_cases h:b=rs
 ·subst h
  exact .inl ⟨by rw[RowS.at hne,Mem.set_at],by rw[aX,Mem.set_ne hne];exact hs⟩
 ·refine .inr ⟨?_, by rw [Mem.set_ne h]; rfl⟩
  rw[RowS,aX,aX]
  by_cases h2:b=r
  ·subst h2;rw[Mem.set_at,Mem.set_at]
  ·rw[Mem.set_ne h2,Mem.set_ne h2,Mem.set_ne h]
end
end Go.Vx
namespace Go.Vx
open Go.Proofs Classical
open Go.Sort
section
variable {μ h0:Mem} {r rs:Nat} {ty:TypeId} {rest:List Value} {d:Array Int} {s:Int}
def RowX(h0:Mem)(r:Nat)(ty:TypeId)(rest:List Value)(d:Array Int)(rs:Nat)(s:Int):Mem:=aX (h0.set rs (.cells #[.int .u64 s] 245 (0,0))) r ty rest d
theorem RowX.at(hne:rs≠r):RowX h0 r ty rest d rs s rs=some (.cells #[.int .u64 s] 245 (0,0)):=by
 rw[RowX,aX,Mem.set_ne hne,Mem.set_at]
theorem RowX.parts(hne:rs≠r)(hs:h0 rs=none):Parts (RowX h0 r ty rest d rs s) (Mem.nil.set rs (.cells #[.int .u64 s] 245 (0,0))) (aX h0 r ty rest d):=fun b=>by
 by_cases h:b=rs
 ·subst h
  exact .inl ⟨by rw[RowX.at hne,Mem.set_at],by rw[aX,Mem.set_ne hne];exact hs⟩
 ·refine .inr ⟨?_, by rw [Mem.set_ne h]; rfl⟩
  rw[RowX,aX,aX]
  by_cases h2:b=r
  ·subst h2;rw[Mem.set_at,Mem.set_at]
  ·rw[Mem.set_ne h2,Mem.set_ne h2,Mem.set_ne h]
end
end Go.Vx
namespace Go.Vx
open Go.Proofs Classical
mutual
def Gl.all:Gl→List Gl
 | .mk k s ts gs=> .mk k s ts gs::Gl.alls gs
def Gl.alls:List Gl→List Gl
 |[]=>[]
 |g::r=>g.all++Gl.alls r
end
theorem Gl.alls_map:∀l:List Gl,Gl.alls l=l.flatMap Gl.all
 |[]=>rfl
 |g::r=>by simp[Gl.alls,Gl.alls_map r]
theorem Gl.all_eq(g:Gl):g.all=g::g.goals.flatMap Gl.all:=by
 cases g
 rw[Gl.all,Gl.alls_map]
 rfl
theorem Gl.Sh.all:∀(g:Gl),g.Sh→∀x∈g.all,x.Sh:=
 Gl.ind fun g ih h x hx=>by
  rw[Gl.all_eq]at hx
  rcases List.mem_cons.1 hx with rfl|hx
  ·exact h
  ·have w_ := List.mem_flatMap.1 hx
   obtain⟨y,hy,hx⟩:=w_
   exact ih y hy (h.sub y hy) x hx
noncomputable def Gl.tvars(g:Gl):List Int:=(g.terms.map Tm.toT).flatMap T.vars
noncomputable def Gl.vars(g:Gl):List Int:=g.all.flatMap Gl.tvars
theorem toTs_tm'{xs:List T}:(xs.map T.tm).map Tm.toT=xs:=by
 rw[List.map_map]
 exact(List.map_congr_left fun x _=>T.toT_tm x).trans (List.map_id _)
section
variable {μ:Mem}
theorem Gl.vars_range{g:Gl}(h:g.Sh):∀n∈g.vars,0≤n∧n≤100000:=fun n hn=>by
 have w_:=List.mem_flatMap.1 hn
 obtain⟨x,hx,hn⟩:=w_
 have w_:=eY (h.all g x hx).top.tm
 obtain⟨xs,hxs,hxo⟩:=w_
 rw[Gl.tvars,hxs,toTs_tm']at hn
 have w_:=List.mem_flatMap.1 hn
 obtain⟨t,ht,hn⟩:=w_
 exact T.vars_range (hxo t ht).1 n hn
end
end Go.Vx
namespace Go.Vx
open Go.Proofs Classical
noncomputable def dQ:List Rl→Nat→ByteArray→Int
 |[],_,_=> -1
 |r::l,i,s=>if r.name=s then i else dQ l (i+1) s
noncomputable def dA(p:Pg)(s:ByteArray):Int:=dQ p.rels 0 s
theorem kY{s:ByteArray}:∀{l:List Rl} {i:Nat},0≤dQ l i s→∃(j:Nat) (r:Rl),dQ l i s=((i+j:Nat):Int)∧l[j]? =some r∧r.name=s
 |[],i,h=>by simp[dQ]at h
 |r::l,i,h=>by
  rw[dQ]at h ⊢
  by_cases e:r.name=s
  ·rw[if_pos e];exact⟨0,r,by simp,rfl,e⟩
  ·rw [if_neg e] at h ⊢
   have w_:=kY h
   obtain⟨j,r',h1,h2,h3⟩:=w_
   exact⟨j+1,r',by rw[h1];congr 1;omega,h2,h3⟩
def cC(p:Pg)(g:Gl):Prop:=g.kind=9→∃(i:Nat) (r:Rl),dA p g.name=i∧p.rels[i]? =some r∧r.arity=g.terms.length
section
variable {μ:Mem}
theorem eW{p:Pg}{s:ByteArray}{v:Value}(hv:RepV μ p.d v):aQ Tryz.prog 55 [v,.string s] μ (.int .i64 (dA p s)):=by
 have w_:=Pg.inv hv
 obtain⟨q,rfl,hsl⟩:=w_
 have hn:=aI hsl.max
 refine Spec.mk Tryz.func55 (by kernel_rfl) ?_
 intro r
 refine lIn (fun i:Nat=>i≤p.rels.length∧dQ (p.rels.drop i) i s=dA p s) (fun i=>⟨[(1,.val (.string s)),(8,.val (.slice q.1 p.rels.length q.2)),(9,.val (.int .i64 p.rels.length)),(10,.val (.int .i64 i))],[],1,μ,Mem.nil⟩) (fun i=>p.rels.length-i)
  0 ⟨by omega,rfl⟩ (fun _=>⟨rfl,rfl⟩) ⟨⟨rfl,rfl,rfl,rfl,trivial⟩,trivial,rfl,rfl⟩ ?_
 rintro i ⟨hi,hJ⟩
 refine ifd (fun hlt=>?_) (fun hlt=>?_)
 ·have w_ := aSo (l := p.rels) (i := i) (by omega)
  obtain⟨x,hx⟩:=w_
  have w_:=Rl.elem hsl hx
  obtain⟨ad,q2,hel,hr⟩:=w_
  rw[cB hx,dQ]at hJ
  refine eIn hel ?_
  intro r2
  refine ifd (fun e=>?_) (fun e=>?_)
  ·rw [if_pos e] at hJ
   exact rGv (by rw[←hJ]) rfl
  ·rw [if_neg e] at hJ
   exact aC (by omega) (by omega) ⟨i+1,⟨by omega,hJ⟩,by omega,⟨⟨rfl,rfl,rfl,rfl,trivial⟩,trivial,rfl,rfl⟩⟩
 ·obtain rfl : i = p.rels.length := by omega
  rw[List.drop_length]at hJ
  exact rGv (by rw[←hJ];rfl) rfl
theorem vQ{p:Pg}{s:ByteArray}(h:0≤dA p s):∃(j:Nat) (r:Rl),dA p s=(j:Int)∧p.rels[j]? =some r:=by
 have w_:=kY h
 obtain⟨j,r,h1,h2,h3⟩:=w_
 exact⟨j,r,by rw[dA,h1];simp,h2⟩
theorem oZ{p:Pg}{g:Gl}(h9:g.kind=9){j:Nat}{r:Rl}(e:dA p g.name=(j:Int))(hr:p.rels[j]? =some r):cC p g↔r.arity=g.terms.length:=by
 constructor
 ·intro h
  have w_:=h h9
  obtain⟨i,r',h1,h2,h3⟩:=w_
  rw[e]at h1
  obtain rfl:j=i:=by omega
  rw[hr]at h2;cases h2
  exact h3
 ·intro h _
  exact⟨j,r,e,hr,h⟩
theorem pR{p:Pg}{g:Gl}(h9:g.kind=9)(h:¬0≤dA p g.name):¬cC p g:=fun k=>by
 have w_:=k h9
 obtain⟨i,r',h1,_,_⟩:=w_
 omega
inductive FitAll (p:Pg):Gl→Prop
 |mk {g:Gl} (top:cC p g) (sub:∀x∈g.goals,FitAll p x):FitAll p g
theorem FitAll.top{p:Pg}{g:Gl}(h:FitAll p g):cC p g:=by cases h;assumption
theorem FitAll.sub{p:Pg}{g:Gl}(h:FitAll p g):∀x∈g.goals,FitAll p x:=by cases h;assumption
theorem wU{p:Pg}{vp:Value}(hp:RepV μ p.d vp):∀(g:Gl) {v:Value},g.Sh→RepV μ g.d v→aQ Tryz.prog 105 [vp,v] μ (.bool (decide (FitAll p g))):=by
 have w_:=Pg.inv hp
 obtain⟨q,rfl,hrl⟩:=w_
 refine Gl.ind fun g ih v hS hv=>?_
 have w_:=Gl.inv hv
 obtain⟨q2,rfl,hts,hgs⟩:=w_
 have hn:=aI hgs.max
 refine Spec.mk Tryz.func105 (by kernel_rfl) ?_
 intro r1 r2
 refine ifd (fun h9=>?_) (fun h9=>?_)
 ·have hg0 : g.goals = [] := List.eq_nil_of_length_eq_zero (hS.top.gl0 (.inr h9))
  have hiff:FitAll p g↔cC p g:=⟨fun h=>h.top,fun h=> .mk h (by rw[hg0];simp)⟩
  refine cGv (eW hp) ?_
  refine ifd (fun h0=>?_) (fun h0=>rGv (isF fun h=>pR h9 h0 h.top) rfl)
  have w_:=vQ h0
  obtain⟨j,rl,e,hr⟩:=w_
  have w_:=Rl.elem hrl hr
  obtain⟨ad,q3,hel,hrr⟩:=w_
  rw[e]
  refine eIn hel ?_
  exact rGv (isI ((oZ h9 e hr).symm.trans hiff.symm)) rfl
 ·refine lIn (fun i:Nat=>i≤g.goals.length∧∀x∈g.goals.take i,FitAll p x) (fun i=>⟨[(2,.loc 0 r1 0),(30,.val (.slice q2.2.1 g.goals.length q2.2.2)),(31,.val (.int .i64 g.goals.length)),(32,.val (.int .i64 i))],[(0,some (.cells r1 [.val (.slice q.1 p.rels.length q.2)] 25))],2,μ,Mem.nil⟩) (fun i=>g.goals.length-i)
   0 ⟨by omega,by simp⟩ (fun _=>⟨rfl,rfl⟩) ⟨⟨rfl,rfl,rfl,rfl,trivial⟩,⟨rfl,trivial⟩,rfl,rfl⟩ ?_
  rintro i ⟨hi,hall⟩
  refine ifd (fun hlt=>?_) (fun hlt=>?_)
  ·have w_ := aSo (l := g.goals) (i := i) (by omega)
   obtain⟨t,ht⟩:=w_
   have w_:=Gl.elem hgs ht
   obtain⟨ad,q3,hel,hr⟩:=w_
   refine eIn hel ?_
   intro r3
   refine cGv (ih t (mAt ht) (hS.sub t (mAt ht)) hr) ?_
   refine aL (fun h=>rGv (isF fun S=>h (S.sub t (mAt ht))) rfl) (fun h=>?_)
   refine aC (by omega) (by omega) ⟨i+1,⟨by omega,fun x hx=>?_⟩,by omega,⟨⟨rfl,rfl,rfl,rfl,trivial⟩,⟨rfl,trivial⟩,rfl,rfl⟩⟩
   rw[List.take_add_one,ht,Option.toList_some,List.mem_append,List.mem_singleton]at hx
   rcases hx with hx|rfl
   ·exact hall x hx
   ·exact h
  ·obtain rfl : i = g.goals.length := by omega
   rw[List.take_length]at hall
   exact rGv (isT (.mk (fun h=>absurd h h9) hall)) rfl
end
end Go.Vx
namespace Go.Vx
open Go.Proofs Classical
theorem FitAll.all{p:Pg}:∀{g:Gl},FitAll p g→∀x∈g.all,cC p x:=fun {g}=>by
 refine Gl.ind (q:=fun g=>FitAll p g→∀x∈g.all,cC p x) (fun g ih h x hx=>?_) g
 rw[Gl.all_eq]at hx
 rcases List.mem_cons.1 hx with rfl|hx
 ·exact h.top
 ·have w_ := List.mem_flatMap.1 hx
  obtain⟨y,hy,hx⟩:=w_
  exact ih y hy (h.sub y hy) x hx
theorem FitAll.of{p:Pg}:∀{g:Gl},(∀x∈g.all,cC p x)→FitAll p g:=fun {g}=>by
 refine Gl.ind (q:=fun g=>(∀x∈g.all,cC p x)→FitAll p g) (fun g ih h=>?_) g
 rw[Gl.all_eq]at h
 exact .mk (h g (by simp)) fun y hy=>ih y hy fun x hx=>h x (List.mem_cons_of_mem _ (List.mem_flatMap.2 ⟨y,hy,hx⟩))
section
variable {μ:Mem}
end
end Go.Vx
namespace Go.Vx
open Go.Proofs Classical
structure RelOk (p:Pg) (i:Nat) (r:Rl):Prop where
 at_:dA p r.name=i
 name:iT r.name
 ar0:0≤r.arity
 ar4:r.arity≤4
 lo0:0≤r.locals
 lo8:r.locals≤8
 body:r.body.Sh
 size:r.body.cnt≤60
 vars:∀n∈r.body.vars,n<r.arity+r.locals
 calls:FitAll p r.body
def Pg.Ok(p:Pg):Prop:=p.rels.length≤8∧∀(i:Nat) (r:Rl),p.rels[i]? =some r→RelOk p i r
section
variable {μ:Mem}
noncomputable def Gl.count(g:Gl):Int:=if g.Ok then g.cnt else 0
theorem oE(g:Gl){v:Value}(hv:RepV μ g.d v)(hw:g.d.wd):aQ Tryz.prog 59 [v] μ (.int .i64 g.count):=by
 have w_:=Gl.invV hv
 obtain⟨p,rfl⟩:=w_
 refine Spec.mk Tryz.func59 (by kernel_rfl) ?_
 intro r
 refine cGv (fQ g hv hw) ?_
 refine aL (fun h=>rGv (by rw[Gl.count,if_neg h]) rfl) (fun h=>?_)
 refine cGv (nP g hv (by decide) (by decide)) ?_
 refine rGv ?_ rfl
 congr 1
 have:=h.2
 have:=g.cnt_pos
 rw[Gl.count,if_pos h,bX]
 omega
end
end Go.Vx
namespace Go.Vx
open Go.Proofs Classical
theorem kT{l:List Int}{n:Int}{k:Nat}(hs:l.Pairwise (·<·))(h1:∀y∈l.take k,y<n)(h2:∀y∈l.drop k,n<y):(aY l n k).Pairwise (·<·):=by
 unfold aY
 rw[List.pairwise_append]
 refine⟨hs.sublist (List.take_sublist _ _),?_,?_⟩
 ·rw [List.singleton_append, List.pairwise_cons]
  exact⟨h2,hs.sublist (List.drop_sublist _ _)⟩
 ·intro a ha b hb
  rcases List.mem_append.1 hb with hb|hb
  ·rw[List.mem_singleton]at hb;subst hb;exact h1 a ha
  ·have:=h1 a ha;have:=h2 b hb;omega
theorem qCd{l:List Int}(hs:l.Pairwise (·<·)){i j:Nat}{x y:Int}(h:i<j)(hx:l[i]? =some x)(hy:l[j]? =some y):x<y:=by
 have w_:=List.getElem?_eq_some_iff.1 hx
 obtain⟨h1,rfl⟩:=w_
 have w_:=List.getElem?_eq_some_iff.1 hy
 obtain⟨h2,rfl⟩:=w_
 exact List.pairwise_iff_getElem.1 hs i j h1 h2 h
theorem take_lt{l:List Int}(hs:l.Pairwise (·<·)){k:Nat}{n:Int}(h:k=0∨∃x,l[k-1]? =some x∧x<n):∀y∈l.take k,y<n:=fun y hy=>by
 have w_:=List.mem_iff_getElem?.1 hy
 obtain⟨i,hi⟩:=w_
 rw[List.getElem?_take]at hi
 split at hi
 ·rename_i hik
  rcases h with rfl|⟨x,hx,hxn⟩
  ·omega
  ·rcases Nat.lt_or_ge i (k - 1) with h1 | h1
   ·have:=qCd hs h1 hi hx;omega
   ·obtain rfl : i = k - 1 := by omega
    rw[hx]at hi;cases hi;exact hxn
 ·cases hi
theorem drop_gt{l:List Int}(hs:l.Pairwise (·<·)){k:Nat}{n:Int}(h:∀(j:Nat) y,k≤j→l[j]? =some y→n≤y)(hne:∀y,l[k]? =some y→y≠n):∀y∈l.drop k,n<y:=fun y hy=>by
 have w_:=List.mem_iff_getElem?.1 hy
 obtain⟨i,hi⟩:=w_
 rw[List.getElem?_drop]at hi
 have h1:=h (k+i) y (by omega) hi
 rcases Nat.eq_zero_or_pos i with rfl|h2
 ·have := hne y (by simpa using hi)
  omega
 ·have hk : k < l.length := by have := (List.getElem?_eq_some_iff.1 hi).1; omega
  have hkk:l[k]? =some l[k]:=List.getElem?_eq_getElem hk
  have h3:=h k _ (Nat.le_refl _) hkk
  have:=qCd hs (by omega:k<k+i) hkk hi
  omega
section
variable {μ:Mem}
theorem sW{l:List Int}{v:Value}{n:Int}(hv:RepV μ (.sl 1 (l.map D.i)) v)(hb:l.length≤1000000000)(hs:l.Pairwise (·<·)):Spec Tryz.prog 152 [v,.int .i64 n] μ fun v μ'=>∃r:List Int,RepV μ' (.sl 1 (r.map D.i)) v∧(∀x,x∈r↔x=n∨x∈l)∧r.Pairwise (·<·):=by
 have w_:=Rep.sl hv
 obtain⟨base,cap,rfl,hsl⟩:=w_
 have hcap:=Rep.lens hv
 rw[List.length_map]at hsl hcap hv ⊢
 refine Spec.mk Tryz.func152 (by kernel_rfl) ?_
 refine lIn (fun k:Nat=>k≤l.length∧∀(j:Nat) y,k≤j→l[j]? =some y→n≤y) (fun k=>⟨[(0,.val (.slice base l.length cap)),(1,.val (.int .i64 n)),(5,.val (.int .i64 k))],[],0,μ,Mem.nil⟩) (fun k=>k)
  l.length ⟨Nat.le_refl _,fun j y hj hy=>absurd (List.getElem?_eq_some_iff.1 hy).1 (by omega)⟩ (fun i=>⟨rfl,rfl⟩) ⟨⟨rfl,rfl,rfl,trivial⟩,trivial,rfl,rfl⟩ ?_
 rintro k ⟨hk,hge⟩
 refine ifd (fun h1=>?_) (fun h1=>?_)
 ·have w_ := aSo (l := l) (i := k - 1) (by omega)
  obtain⟨x,hx⟩:=w_
  have w_:=Ints.elem hsl hx
  obtain⟨ad,hel⟩:=w_
  refine nEq (x:=((k-1:Nat):Int)) (by rw[aA (by omega) (by omega)];omega) ?_
  refine eIn hel ?_
  refine ifd (fun h2=>?_) (fun h2=>?_)
  ·refine nEq (x := ((k - 1 : Nat) : Int)) (by rw [aA (by omega) (by omega)]; omega) ⟨k - 1, ⟨by omega, fun j y hj hy => ?_⟩, by omega, ⟨⟨rfl, rfl, rfl, trivial⟩, trivial, rfl, rfl⟩⟩
   rcases Nat.lt_or_ge j k with h3|h3
   ·obtain rfl : j = k - 1 := by omega
    rw[hx]at hy;cases hy;exact h2
   ·exact hge j y h3 hy
  ·have htk := take_lt hs (k := k) (n := n) (.inr ⟨x, hx, by omega⟩)
   refine ifd (fun h3=>?_) (fun h3=>?_)
   ·have w_ := aSo (l := l) (i := k) (by omega)
    obtain⟨y,hy⟩:=w_
    have w_:=Ints.elem hsl hy
    obtain⟨ad2,hel2⟩:=w_
    refine eIn hel2 ?_
    refine ifd (fun h4=>rPl ⟨l,hv,fun x=>⟨.inr,fun hx=>hx.elim (fun e=>by rw[e,←h4];exact mAt hy) id⟩,hs⟩) (fun h4=>?_)
    have hgt:=drop_gt hs hge (fun z hz=>by rw[hy]at hz;cases hz;exact h4)
    intro r0
    refine aE 0 k rfl rfl (by omega) (by omega) ?_
    refine aN _ (Ints.src hsl (a:=0) (b:=k) (by omega) hk hcap) ?_
    refine gIn ?_ ?_ fun b1 c1 _=>?_
    ·show(0+(aF _).length)*8≤_;simp[aF];omega
    ·show 0+(aF _).length≤9223372036854775807;simp[aF];omega
    intro r1
    refine gIn ?_ ?_ fun b2 c2 _=>?_
    ·show(([]++aF _).length+1)*8≤_;simp[aF];omega
    ·show([]++aF _).length+1≤9223372036854775807;simp[aF];omega
    refine aE k l.length rfl rfl hk (by omega) ?_
    refine aN _ (Ints.src hsl (a:=k) (b:=l.length) hk (Nat.le_refl _) hcap) ?_
    refine gIn ?_ ?_ fun b3 c3 _=>?_
    ·show(([]++aF _++[_]).length+(aF _).length)*8≤_;simp[aF];omega
    ·show([]++aF _++[_]).length+(aF _).length≤9223372036854775807;simp[aF];omega
    refine rFz [0] fun μ' hle hno hrow=> .inl ⟨aY l n k,?_,dM l n k,kT hs htk hgt⟩
    have e:[]++aF ((l.drop 0).take (k-0))++[.int .i64 n]++aF ((l.drop k).take (l.length-k))=aF (aY l n k):=by
     simp[aF,aY]
     rw[List.take_of_length_le (by simp)]
    rw[e]at hrow ⊢
    exact Ints.sl hrow (Nat.le_trans (m:=2000000000) (by simp[aY];omega) (by decide))
   ·have hgt := drop_gt hs hge (fun z hz => by have := (List.getElem?_eq_some_iff.1 hz).1; omega)
    intro r0
    refine aE 0 k rfl rfl (by omega) (by omega) ?_
    refine aN _ (Ints.src hsl (a:=0) (b:=k) (by omega) hk hcap) ?_
    refine gIn ?_ ?_ fun b1 c1 _=>?_
    ·show(0+(aF _).length)*8≤_;simp[aF];omega
    ·show 0+(aF _).length≤9223372036854775807;simp[aF];omega
    intro r1
    refine gIn ?_ ?_ fun b2 c2 _=>?_
    ·show(([]++aF _).length+1)*8≤_;simp[aF];omega
    ·show([]++aF _).length+1≤9223372036854775807;simp[aF];omega
    refine aE k l.length rfl rfl hk (by omega) ?_
    refine aN _ (Ints.src hsl (a:=k) (b:=l.length) hk (Nat.le_refl _) hcap) ?_
    refine gIn ?_ ?_ fun b3 c3 _=>?_
    ·show(([]++aF _++[_]).length+(aF _).length)*8≤_;simp[aF];omega
    ·show([]++aF _++[_]).length+(aF _).length≤9223372036854775807;simp[aF];omega
    refine rFz [0] fun μ' hle hno hrow=> .inl ⟨aY l n k,?_,dM l n k,kT hs htk hgt⟩
    have e:[]++aF ((l.drop 0).take (k-0))++[.int .i64 n]++aF ((l.drop k).take (l.length-k))=aF (aY l n k):=by
     simp[aF,aY]
     rw[List.take_of_length_le (by simp)]
    rw[e]at hrow ⊢
    exact Ints.sl hrow (Nat.le_trans (m:=2000000000) (by simp[aY];omega) (by decide))
 ·have htk := take_lt hs (k := k) (n := n) (.inl (by omega))
  refine ifd (fun h3=>?_) (fun h3=>?_)
  ·have w_ := aSo (l := l) (i := k) (by omega)
   obtain⟨y,hy⟩:=w_
   have w_:=Ints.elem hsl hy
   obtain⟨ad2,hel2⟩:=w_
   refine eIn hel2 ?_
   refine ifd (fun h4=>rPl ⟨l,hv,fun x=>⟨.inr,fun hx=>hx.elim (fun e=>by rw[e,←h4];exact mAt hy) id⟩,hs⟩) (fun h4=>?_)
   have hgt:=drop_gt hs hge (fun z hz=>by rw[hy]at hz;cases hz;exact h4)
   intro r0
   refine aE 0 k rfl rfl (by omega) (by omega) ?_
   refine aN _ (Ints.src hsl (a:=0) (b:=k) (by omega) hk hcap) ?_
   refine gIn ?_ ?_ fun b1 c1 _=>?_
   ·show(0+(aF _).length)*8≤_;simp[aF];omega
   ·show 0+(aF _).length≤9223372036854775807;simp[aF];omega
   intro r1
   refine gIn ?_ ?_ fun b2 c2 _=>?_
   ·show(([]++aF _).length+1)*8≤_;simp[aF];omega
   ·show([]++aF _).length+1≤9223372036854775807;simp[aF];omega
   refine aE k l.length rfl rfl hk (by omega) ?_
   refine aN _ (Ints.src hsl (a:=k) (b:=l.length) hk (Nat.le_refl _) hcap) ?_
   refine gIn ?_ ?_ fun b3 c3 _=>?_
   ·show(([]++aF _++[_]).length+(aF _).length)*8≤_;simp[aF];omega
   ·show([]++aF _++[_]).length+(aF _).length≤9223372036854775807;simp[aF];omega
   refine rFz [0] fun μ' hle hno hrow=> .inl ⟨aY l n k,?_,dM l n k,kT hs htk hgt⟩
   have e:[]++aF ((l.drop 0).take (k-0))++[.int .i64 n]++aF ((l.drop k).take (l.length-k))=aF (aY l n k):=by
    simp[aF,aY]
    rw[List.take_of_length_le (by simp)]
   rw[e]at hrow ⊢
   exact Ints.sl hrow (Nat.le_trans (m:=2000000000) (by simp[aY];omega) (by decide))
  ·have hgt := drop_gt hs hge (fun z hz => by have := (List.getElem?_eq_some_iff.1 hz).1; omega)
   intro r0
   refine aE 0 k rfl rfl (by omega) (by omega) ?_
   refine aN _ (Ints.src hsl (a:=0) (b:=k) (by omega) hk hcap) ?_
   refine gIn ?_ ?_ fun b1 c1 _=>?_
   ·show(0+(aF _).length)*8≤_;simp[aF];omega
   ·show 0+(aF _).length≤9223372036854775807;simp[aF];omega
   intro r1
   refine gIn ?_ ?_ fun b2 c2 _=>?_
   ·show(([]++aF _).length+1)*8≤_;simp[aF];omega
   ·show([]++aF _).length+1≤9223372036854775807;simp[aF];omega
   refine aE k l.length rfl rfl hk (by omega) ?_
   refine aN _ (Ints.src hsl (a:=k) (b:=l.length) hk (Nat.le_refl _) hcap) ?_
   refine gIn ?_ ?_ fun b3 c3 _=>?_
   ·show(([]++aF _++[_]).length+(aF _).length)*8≤_;simp[aF];omega
   ·show([]++aF _++[_]).length+(aF _).length≤9223372036854775807;simp[aF];omega
   refine rFz [0] fun μ' hle hno hrow=> .inl ⟨aY l n k,?_,dM l n k,kT hs htk hgt⟩
   have e:[]++aF ((l.drop 0).take (k-0))++[.int .i64 n]++aF ((l.drop k).take (l.length-k))=aF (aY l n k):=by
    simp[aF,aY]
    rw[List.take_of_length_le (by simp)]
   rw[e]at hrow ⊢
   exact Ints.sl hrow (Nat.le_trans (m:=2000000000) (by simp[aY];omega) (by decide))
structure VL (l:List Int):Prop where
 srt:l.Pairwise (·<·)
 rng:∀x∈l,0≤x∧x≤100000
theorem VL.len{l:List Int}(h:VL l):l.length≤100001:=by
 refine nodup_range (N:=100001) ?_ fun n hn=>by have:=h.rng n hn;omega
 rw[List.nodup_iff_pairwise_ne]
 exact h.srt.imp fun hab e=>by omega
def qDg(μ':Mem)(l vs:List Int)(v:Value):Prop:=∃r:List Int,RepV μ' (.sl 1 (r.map D.i)) v∧(∀x,x∈r↔x∈vs∨x∈l)∧VL r
theorem xQ:∀(x:T) {μ:Mem} {l:List Int} {w v:Value},x.good→RepV μ x.tm.d w→RepV μ (.sl 1 (l.map D.i)) v→VL l→Spec Tryz.prog 111 [w,v] μ fun v μ'=>qDg μ' l x.vars v:=
 T.ind fun x ih μ l w v hgd hw hv hb=>by
  have hrng:=T.vars_range hgd
  have w_:=T.inv hw
  obtain⟨base,cap,rfl,hsl⟩:=w_
  have hn:=aI hsl.max
  refine Spec.mk Tryz.func111 (by kernel_rfl) ?_
  intro r
  refine ifd (fun h=>?_) (fun h=>?_)
  ·have e : x.vars = [x.tm.num] := by cases x <;> simp_all [T.vars, T.tm, Tm.kind, Tm.num]
   refine cPl (sW hv (by have:=hb.len;omega) hb.srt) fun v' μ' hle hR=>rPl ?_
   obtain⟨r,h1,h2,h3⟩:=hR
   refine⟨r,h1,by simpa[e]using h2,h3,fun y hy=>?_⟩
   rcases(h2 y).1 hy with rfl|hy
   ·exact hrng _ (by rw[e];simp)
   ·exact hb.rng y hy
  have e:=T.vars_args h
  have hgs:∀y∈x.args,y.good:=fun y hy=>by
   cases x with
   |pair a b=>
    simp only[T.args,List.mem_cons,List.not_mem_nil,or_false]at hy
    rcases hy with rfl|rfl
    ·exact hgd.1
    ·exact hgd.2
   |_=>simp[T.args]at hy
  refine lIn (fun p:Nat×Value×Mem=>p.1≤x.args.length∧μ.Le p.2.2∧qDg p.2.2 l ((x.args.take p.1).flatMap T.vars) p.2.1)
   (fun(i,v,μ')=>⟨[(1,.val v),(15,.val (.slice base x.args.length cap)),(16,.val (.int .i64 x.args.length)),(17,.val (.int .i64 i))],[],1,μ',Mem.nil⟩) (fun p=>x.args.length-p.1)
   (0,v,μ) ⟨by simp,Mem.Le.refl μ,l,hv,by simp,hb⟩ (fun(_,_,_)=>⟨rfl,rfl⟩) ⟨⟨rfl,rfl,rfl,rfl,trivial⟩,trivial,rfl,rfl⟩ ?_
  rintro⟨i,v,μ'⟩ ⟨hi,hle,r,h1,h2,h3⟩
  dsimp only at hi hle h1 h2 h3
  refine ifd (fun h=>?_) (fun h=>?_)
  ·have w_ := aSo (l := x.args) (i := i) (by omega)
   obtain⟨t,ht⟩:=w_
   have ht':(x.args.map T.tm)[i]? =some t.tm:=by simp[ht]
   have w_:=Tm.elem (hsl.mono hle) ht'
   obtain⟨ad,p,hel,hr⟩:=w_
   have hsucc:(x.args.take (i+1)).flatMap T.vars=(x.args.take i).flatMap T.vars++t.vars:=by
    rw[List.take_add_one,ht,Option.toList_some,List.flatMap_append];simp
   refine eIn hel ?_
   intro r2
   refine cPl (ih t (mAt ht) (hgs t (mAt ht)) hr h1 h3) fun v' μ'' hle2 hR=>?_
   obtain⟨q,g1,g2,g3⟩:=hR
   refine aC (by omega) (by omega) ⟨(i+1,v',μ''),⟨by dsimp only;omega,hle.trans hle2,q,g1,fun y=>?_,g3⟩,by dsimp only;omega,⟨⟨rfl,rfl,rfl,rfl,trivial⟩,trivial,rfl,rfl⟩⟩
   dsimp only
   rw[g2,h2,hsucc,List.mem_append]
   constructor
   ·rintro(h|h|h)<;>simp[h]
   ·rintro((h|h)|h)<;>simp[h]
  ·obtain rfl : i = x.args.length := by omega
   rw[List.take_length]at h2
   exact rPl ⟨r,h1,by rw[e];exact h2,h3⟩
end
end Go.Vx
namespace Go.Vx
open Go.Proofs Classical
theorem Gl.vars_eq(g:Gl):g.vars=g.tvars++g.goals.flatMap Gl.vars:=by
 rw[Gl.vars,Gl.all_eq,List.flatMap_cons,List.flatMap_assoc]
 rfl
section
variable {μ:Mem}
theorem qAh:∀(g:Gl) {μ:Mem} {l:List Int} {w v:Value},g.Sh→RepV μ g.d w→RepV μ (.sl 1 (l.map D.i)) v→VL l→Spec Tryz.prog 106 [w,v] μ fun v μ'=>qDg μ' l g.vars v:=
 Gl.ind fun g ih μ l w v hS hw hv hb=>by
  have w_:=Gl.inv hw
  obtain⟨p,rfl,hts,hgs⟩:=w_
  have w_:=eY hS.top.tm
  obtain⟨xs,hxs,hxo⟩:=w_
  have htv:g.tvars=xs.flatMap T.vars:=by rw[Gl.tvars,hxs,toTs_tm']
  rw[hxs,List.length_map]at hts ⊢
  have hn:=aI hts.max
  have hn2:=aI hgs.max
  refine Spec.mk Tryz.func106 (by kernel_rfl) ?_
  intro r1
  refine lIn (fun p:Nat×Value×Mem=>p.1≤xs.length∧μ.Le p.2.2∧qDg p.2.2 l ((xs.take p.1).flatMap T.vars) p.2.1)
   (fun(i,v,μ')=>⟨[(1,.val v),(2,.loc 0 r1 0),(10,.val (.slice p.1.1 xs.length p.1.2)),(11,.val (.int .i64 xs.length)),(12,.val (.int .i64 i))],[(0,some (.cells r1 [.val (.int .i64 g.kind),.val (.string g.name),.val (.slice p.1.1 xs.length p.1.2),.val (.slice p.2.1 g.goals.length p.2.2)] 73))],1,μ',Mem.nil⟩) (fun p=>xs.length-p.1)
   (0,v,μ) ⟨by simp,Mem.Le.refl μ,l,hv,by simp,hb⟩ (fun(_,_,_)=>⟨rfl,rfl⟩) ⟨⟨rfl,rfl,rfl,rfl,rfl,trivial⟩,⟨rfl,trivial⟩,rfl,rfl⟩ ?_
  rintro⟨i,v,μ'⟩ ⟨hi,hle,r,h1,h2,h3⟩
  dsimp only at hi hle h1 h2 h3
  refine ifd (fun h=>?_) (fun h=>?_)
  ·have w_ := aSo (l := xs) (i := i) (by omega)
   obtain⟨t,ht⟩:=w_
   have w_:=Tm.elem (i:=i) (t:=t.tm) (hts.mono hle) (by simp[ht])
   obtain⟨ad,p3,hel,hr⟩:=w_
   have hsucc:(xs.take (i+1)).flatMap T.vars=(xs.take i).flatMap T.vars++t.vars:=by
    rw[List.take_add_one,ht,Option.toList_some,List.flatMap_append];simp
   refine eIn hel ?_
   intro r2
   refine cPl (xQ t (hxo t (mAt ht)).1 hr h1 h3) fun v' μ'' hle2 hR=>?_
   obtain⟨q,g1,g2,g3⟩:=hR
   refine aC (by omega) (by omega) ⟨(i+1,v',μ''),⟨by dsimp only;omega,hle.trans hle2,q,g1,fun y=>?_,g3⟩,by dsimp only;omega,⟨⟨rfl,rfl,rfl,rfl,rfl,trivial⟩,⟨rfl,trivial⟩,rfl,rfl⟩⟩
   dsimp only
   rw[g2,h2,hsucc,List.mem_append]
   constructor
   ·rintro(h|h|h)<;>simp[h]
   ·rintro((h|h)|h)<;>simp[h]
  ·obtain rfl : i = xs.length := by omega
   rw[List.take_length]at h2
   have hgs1:=hgs.mono hle
   refine lIn (fun x:Nat×Value×Mem=>x.1≤g.goals.length∧μ'.Le x.2.2∧qDg x.2.2 l (g.tvars++(g.goals.take x.1).flatMap Gl.vars) x.2.1)
    (fun(i,v,μ'')=>⟨[(1,.val v),(21,.val (.slice p.2.1 g.goals.length p.2.2)),(22,.val (.int .i64 g.goals.length)),(23,.val (.int .i64 i))],[],1,μ'',Mem.nil⟩) (fun x=>g.goals.length-x.1)
    (0,v,μ') ⟨by simp,Mem.Le.refl μ',r,h1,by simpa[htv]using h2,h3⟩ (fun(_,_,_)=>⟨rfl,rfl⟩) ⟨⟨rfl,rfl,rfl,rfl,trivial⟩,trivial,rfl,rfl⟩ ?_
   rintro⟨i,v2,μ2⟩ ⟨hi,hle2,r2,k1,k2,k3⟩
   dsimp only at hi hle2 k1 k2 k3
   refine ifd (fun h=>?_) (fun h=>?_)
   ·have w_ := aSo (l := g.goals) (i := i) (by omega)
    obtain⟨t,ht⟩:=w_
    have w_:=Gl.elem (hgs1.mono hle2) ht
    obtain⟨ad,p3,hel,hr⟩:=w_
    have hsucc:(g.goals.take (i+1)).flatMap Gl.vars=(g.goals.take i).flatMap Gl.vars++t.vars:=by
     rw[List.take_add_one,ht,Option.toList_some,List.flatMap_append];simp
    refine eIn hel ?_
    intro r3
    refine cPl (ih t (mAt ht) (hS.sub t (mAt ht)) hr k1 k3) fun v' μ3 hle3 hR=>?_
    obtain⟨q,g1,g2,g3⟩:=hR
    refine aC (by omega) (by omega) ⟨(i+1,v',μ3),⟨by dsimp only;omega,hle2.trans hle3,q,g1,fun y=>?_,g3⟩,by dsimp only;omega,⟨⟨rfl,rfl,rfl,rfl,trivial⟩,trivial,rfl,rfl⟩⟩
    dsimp only
    rw[g2,k2,hsucc,←List.append_assoc,List.mem_append (s:=g.tvars++_)]
    constructor
    ·rintro(h|h|h)<;>simp[h]
    ·rintro((h|h)|h)<;>simp[h]
   ·obtain rfl : i = g.goals.length := by omega
    rw[List.take_length,←Gl.vars_eq]at k2
    exact rPl ⟨r2,k1,k2,k3⟩
theorem VL.last{l:List Int}(h:VL l){n x:Int}(hx:l[l.length-1]? =some x):(∀y∈l,y<n)↔x<n:=by
 constructor
 ·intro k;exact k x (List.mem_of_getElem? hx)
 ·intro k y hy
  have w_:=List.mem_iff_getElem?.1 hy
  obtain⟨i,hi⟩:=w_
  have hil:=(List.getElem?_eq_some_iff.1 hi).1
  rcases Nat.lt_or_ge i (l.length-1)with h1|h1
  ·have:=qCd h.srt h1 hi hx;omega
  ·obtain rfl : i = l.length - 1 := by omega
   rw[hx]at hi;cases hi;exact k
def Fits(p:Pg)(g:Gl)(n:Int):Prop:=g.Ok∧FitAll p g∧∀m∈g.vars,m<n
theorem qBv{p:Pg}{g:Gl}{n:Int}{vp v:Value}(hp:RepV μ p.d vp)(hv:RepV μ g.d v)(hw:g.d.wd):Spec Tryz.prog 58 [vp,v,.int .i64 n] μ fun r _=>r= .bool (decide (Fits p g n)):=by
 have w_:=Pg.inv hp
 obtain⟨q,rfl,hrl⟩:=w_
 have w_:=Gl.invV hv
 obtain⟨q2,rfl⟩:=w_
 refine Spec.mk Tryz.func58 (by kernel_rfl) ?_
 intro r1 r2
 refine cGv (fQ g hv hw) ?_
 refine aL (fun h=>rPl (isF fun k=>h k.1)) (fun h1=>?_)
 refine cGv (wU hp g h1.1 hv) ?_
 refine aL (fun h=>rPl (isF fun k=>h k.2.1)) (fun h2=>?_)
 refine cPl (qAh (l:=[]) (v:= .slice none 0 0) g h1.1 hv ⟨none,0,rfl,⟨Nat.zero_le _,Nat.zero_le _⟩,by simp,.inl rfl⟩ ⟨List.Pairwise.nil,by simp⟩) fun v1 μ1 hle1 hR=>?_
 obtain⟨r,g1,g2,g3⟩:=hR
 have w_:=Rep.sl g1
 obtain⟨b,c,rfl,hsl⟩:=w_
 rw[List.length_map]at hsl ⊢
 have hlen:=g3.len
 have hmem:∀x,x∈r↔x∈g.vars:=fun x=>by rw[g2];simp
 refine ifd (fun h=>rPl (isT ⟨h1,h2,fun m hm=>?_⟩)) (fun h=>?_)
 ·have h3 : r = [] := List.eq_nil_of_length_eq_zero (by omega)
  have:=(hmem m).2 hm
  rw[h3]at this;simp at this
 ·have w_ := aSo (l := r) (i := r.length - 1) (by omega)
  obtain⟨x,hx⟩:=w_
  have w_:=Ints.elem hsl hx
  obtain⟨ad,hel⟩:=w_
  refine nEq (x:=((r.length-1:Nat):Int)) (by rw[aA (by omega) (by omega)];omega) ?_
  refine eIn hel ?_
  refine rPl (isI ⟨fun k=>⟨h1,h2,fun m hm=>((VL.last g3 hx).2 k) m ((hmem m).2 hm)⟩,fun k=>(VL.last g3 hx).1 fun y hy=>k.2.2 y ((hmem y).1 hy)⟩)
end
end Go.Vx
namespace Go.Vx
open Go.Proofs Classical
section
variable {μ:Mem}
theorem bP{p:Pg}{v:Value}(hp:RepV μ p.d v)(hw:p.d.wd):Spec Tryz.prog 28 [v] μ fun r _=>r= .bool (decide p.Ok):=by
 have w_:=Pg.inv hp
 obtain⟨q,rfl,hrl⟩:=w_
 have hws:D.wds (p.rels.map Rl.d):=by rw[Pg.d_eq]at hw;exact hw.1
 refine Spec.mk Tryz.func28 (by kernel_rfl) ?_
 intro r1
 refine ifd (fun h8=>rPl (isF fun h=>by have:=h.1;omega)) (fun h8=>?_)
 refine lIn (fun x:Nat×Mem=>x.1≤p.rels.length∧μ.Le x.2∧∀(j:Nat) (r:Rl),j<x.1→p.rels[j]? =some r→RelOk p j r)
  (fun(i,μ')=>⟨[(1,.loc 0 r1 0),(10,.val (.slice q.1 p.rels.length q.2)),(11,.val (.int .i64 p.rels.length)),(12,.val (.int .i64 i))],[(0,some (.cells r1 [.val (.slice q.1 p.rels.length q.2)] 25))],1,μ',Mem.nil⟩) (fun x=>p.rels.length-x.1)
  (0,μ) ⟨by simp,Mem.Le.refl _,fun j r hj=>by simp at hj⟩ (fun(_,_)=>⟨rfl,rfl⟩) ⟨⟨rfl,rfl,rfl,rfl,trivial⟩,⟨rfl,trivial⟩,rfl,rfl⟩ ?_
 rintro⟨i,μ'⟩ ⟨hi,hle,hall⟩
 dsimp only at hi hle hall
 refine ifd (fun hlt=>?_) (fun hlt=>?_)
 ·have w_ := aSo (l := p.rels) (i := i) (by omega)
  obtain⟨x,hx⟩:=w_
  have w_:=Rl.elemA (hrl.mono hle) hx
  obtain⟨ad,q2,hel,hr,hb⟩:=w_
  have hb:RepV μ' x.body.d (.agg (x.body.cs q2).toArray):=hb
  have hxw:x.d.wd:=D.wds_mem hws _ (mAt (lX (f:=Rl.d) hx))
  rw[Rl.d_eq]at hxw
  have hnm:x.name.size≤maxLen:=hxw.1
  have hbw:x.body.d.wd:=hxw.2.2.2.1
  have bad:¬RelOk p i x→Value.bool false= .bool (decide p.Ok):=fun h=>isF fun k=>h (k.2 i x hx)
  refine eIn hel ?_
  intro r2
  refine cGv (eW (hp.mono hle)) ?_
  refine aL (fun h=>rPl (bad fun k=>h k.at_)) (fun g2=>?_)
  refine cGv (gO _ hnm _) ?_
  refine aL (fun h=>rPl (bad fun k=>h k.name)) (fun g1=>?_)
  refine cGv (bU _ _ _ _) ?_
  refine aL (fun h=>rPl (bad fun k=>h ⟨k.ar0,k.ar4⟩)) (fun g3=>?_)
  refine cGv (bU _ _ _ _) ?_
  refine aL (fun h=>rPl (bad fun k=>h ⟨k.lo0,k.lo8⟩)) (fun g4=>?_)
  refine aC (by omega) (by omega) ?_
  refine cPl (qBv (hp.mono hle) hb hbw) fun v1 μ1 hle1 hR=>?_
  obtain rfl:=hR
  refine aL (fun h=>rPl (bad fun k=>h ⟨⟨k.body,by have:=k.size;omega⟩,k.calls,k.vars⟩)) (fun g5=>?_)
  refine cGv (oE x.body (hb.mono hle1) hbw) ?_
  have hc:x.body.count=x.body.cnt:=by rw[Gl.count,if_pos g5.1]
  refine ifd (fun h=>rPl (bad fun k=>by have:=k.size;omega)) (fun g6=>?_)
  have hok:RelOk p i x:=⟨g2,g1,by omega,by omega,by omega,by omega,g5.1.1,by omega,g5.2.2,g5.2.1⟩
  refine aC (by omega) (by omega) ⟨(i+1,μ1),⟨by dsimp only;omega,hle.trans hle1,fun j r hj hr=>?_⟩,by dsimp only;omega,⟨⟨rfl,rfl,rfl,rfl,trivial⟩,⟨rfl,trivial⟩,rfl,rfl⟩⟩
  rcases Nat.lt_or_ge j i with h6|h6
  ·exact hall j r h6 hr
  ·obtain rfl : j = i := by omega
   rw[hx]at hr;cases hr;exact hok
 ·obtain rfl : i = p.rels.length := by omega
  exact rPl (isT ⟨by omega,fun j r hr=>hall j r (List.getElem?_eq_some_iff.1 hr).1 hr⟩)
end
end Go.Vx
namespace Go.Vx
open Go.Proofs Classical
section
variable {μ:Mem}
theorem Rep.srcAll{es n cap:Nat}{base:Option Addr}{ds:List D}(h:RepV μ (.sl es ds) (.slice base n cap)):∃vs,Rows μ es ds vs∧vs.length=n∧uD μ base n es vs:=by
 have w_:=Rep.src h
 obtain⟨vs,hrows,hvl,hcap,hsrc⟩:=w_
 have:=hsrc 0 n (Nat.zero_le _) (Nat.le_refl _)
 have e1:(if cap=0 then base else base.map (·.add (0*es)))=base:=by
  split
  ·rfl
  ·cases base with
   |none=>rfl
   |some a=>simp[Addr.add]
 rw[e1,Nat.sub_zero,List.drop_zero,List.take_of_length_le (by omega)]at this
 exact⟨vs,hrows,hvl,this⟩
end
end Go.Vx
namespace Go.Vx
open Go.Proofs Classical
def T.hasSym(s:ByteArray):T→Prop
 | .sym a=>a=s
 | .pair a b=>a.hasSym s∨b.hasSym s
 | .nil=>False
 | .var _=>False
 | .num _=>False
theorem T.hasSym_args(s:ByteArray)(x:T):x.hasSym s↔(x.tm.kind=2∧x.tm.name=s)∨∃y∈x.args,y.hasSym s:=by
 cases x<;>simp[T.hasSym,T.tm,Tm.kind,Tm.name,T.args]
section
variable {μ:Mem}
theorem qAc{h:Mem}{r r' cap es:Nat}{ty:TypeId}{ys:List Value}(hb:RowO h r cap ty es ys)(hap:Apart μ h)(hor:r'=r∨(h r'=none∧μ r'=none)):μ r'=none:=by
 rcases hor with rfl|⟨_,h2⟩
 ·obtain ⟨cs, h1, _⟩ := hb
  cases e:μ r' with
  |none=>rfl
  |some o=>have:=hap r' (by simp[e]);rw[h1]at this;cases this
 ·exact h2
set_option maxHeartbeats 4000000 in
theorem RepV.bd{n:Int}{x:T}{q:Option Addr×Nat}(h:RepV μ x.tm.d (.agg (x.tm.cs q).toArray)):RepV μ (B.bd ⟨n,x⟩).d (.agg (Value.int .i64 n::x.tm.cs q).toArray):=by
 have hc:=RepV.cells h
 have e:aB (.agg (x.tm.cs q).toArray)=x.tm.cs q:=by simp[aB]
 rw[e]at hc
 exact⟨_,rfl,RepS.int (RepS.last hc)⟩
theorem qK(s:ByteArray):∀(x:T) {v:Value},RepV μ x.tm.d v→aQ Tryz.prog 154 [v,.string s] μ (.bool (decide (x.hasSym s))):=
 T.ind fun x ih v hv=>by
  have w_:=T.inv hv
  obtain⟨base,cap,rfl,hsl⟩:=w_
  have hn:=aI hsl.max
  refine Spec.mk Tryz.func154 (by kernel_rfl) ?_
  intro r
  refine lIn (fun i:Nat=>i≤x.args.length∧∀j y,j<i→x.args[j]? =some y→¬y.hasSym s)
   (fun i=>⟨[(1,.val (.string s)),(2,.loc 0 r 0),(8,.val (.slice base x.args.length cap)),(9,.val (.int .i64 x.args.length)),(10,.val (.int .i64 i))],[(0,some (.cells r [.val (.int .i64 x.tm.kind),.val (.int .i64 x.tm.num),.val (.string x.tm.name),.val (.slice base x.args.length cap)] 57))],1,μ,Mem.nil⟩) (fun i=>x.args.length-i)
   0 ⟨by omega,fun j y hj=>by omega⟩ (fun _=>⟨rfl,rfl⟩) ⟨⟨rfl,rfl,rfl,rfl,rfl,trivial⟩,⟨rfl,trivial⟩,rfl,rfl⟩ ?_
  rintro i ⟨hi,hno⟩
  refine ifd (fun h=>?_) (fun h=>?_)
  ·have w_ := aSo (l := x.args) (i := i) (by omega)
   obtain⟨t,ht⟩:=w_
   have w_:=T.arg hsl ht
   obtain⟨ad,p,hel,hto⟩:=w_
   refine eIn hel ?_
   intro r2
   refine cGv (ih t (mAt ht) hto) ?_
   refine ifd (fun hy=>rGv (isT ((T.hasSym_args s x).2 (.inr ⟨t,mAt ht,hy⟩))) rfl) (fun hy=>?_)
   refine aC (by omega) (by omega) ⟨i+1,⟨by omega,fun j y hj hy2=>?_⟩,by omega,⟨⟨rfl,rfl,rfl,rfl,rfl,trivial⟩,⟨rfl,trivial⟩,rfl,rfl⟩⟩
   rcases Nat.lt_or_ge j i with h6|h6
   ·exact hno j y h6 hy2
   ·obtain rfl : j = i := by omega
    rw[ht]at hy2;cases hy2;exact hy
  ·obtain rfl : i = x.args.length := by omega
   have hn2:¬∃y∈x.args,y.hasSym s:=fun⟨y,hy,h2⟩=>by
    have w_:=List.mem_iff_getElem?.1 hy
    obtain⟨j,hj⟩:=w_
    exact hno j y (List.getElem?_eq_some_iff.1 hj).1 hj h2
   refine ifd (fun h2=>?_) (fun h2=>rGv (isF fun k=>((T.hasSym_args s x).1 k).elim (fun k=>h2 k.1) hn2) rfl)
   refine rGv ?_ rfl
   congr 1
   rw[Bool.eq_iff_iff,decide_eq_true_eq,decide_eq_true_eq]
   exact⟨fun k=>(T.hasSym_args s x).2 (.inl ⟨h2,k⟩),fun k=>((T.hasSym_args s x).1 k).elim (fun k=>k.2) fun k=>absurd k hn2⟩
end
end Go.Vx
namespace Go.Vx
open Go.Proofs Classical
structure Ord3 {α:Type} (c:α→α→Int):Prop where
 zero:∀x y,c x y=0↔x=y
 anti:∀x y,c x y<0↔0<c y x
 trans:∀x y z,c x y<0→c y z<0→c x z<0
def eL(p q:Int):Int:=if p=0 then q else p
theorem yD{p q:Int}:eL p q=0↔p=0∧q=0:=by unfold eL;split<;>omega
theorem yG{p q p' q':Int}(h1:p<0↔0<p')(h2:p'<0↔0<p)(h3:p=0→(q<0↔0<q')):eL p q<0↔0<eL p' q':=by
 unfold eL
 split
 ·rename_i h
  rw[if_pos (by omega)];exact h3 h
 ·rw[if_neg (by omega)];exact h1
theorem tS{p1 q1 p2 q2 p3 q3:Int}(t:p1<0→p2<0→p3<0)(e1:p1=0→p3=p2)(e2:p2=0→p3=p1)(r:p1=0→p2=0→q1<0→q2<0→q3<0):eL p1 q1<0→eL p2 q2<0→eL p3 q3<0:=by
 unfold eL
 intro h1 h2
 by_cases k1:p1=0
 ·rw [if_pos k1] at h1
  have:=e1 k1
  by_cases k2:p2=0
  ·rw [if_pos k2] at h2
   rw[if_pos (by omega)];exact r k1 k2 h1 h2
  ·rw [if_neg k2] at h2
   rw[if_neg (by omega)];omega
 ·rw [if_neg k1] at h1
  by_cases k2:p2=0
  ·have := e2 k2
   rw[if_neg (by omega)];omega
  ·rw [if_neg k2] at h2
   have:=t h1 h2
   rw[if_neg (by omega)];exact this
theorem Ord3.lex_trans{α:Type}{c:α→α→Int}(h:Ord3 c){x y z:α}{q1 q2 q3:Int}(r:x=y→y=z→q1<0→q2<0→q3<0):eL (c x y) q1<0→eL (c y z) q2<0→eL (c x z) q3<0:=
 tS (h.trans x y z) (fun e=>by rw[(h.zero _ _).1 e]) (fun e=>by rw[(h.zero _ _).1 e]) fun e1 e2=>r ((h.zero _ _).1 e1) ((h.zero _ _).1 e2)
theorem Ord3.lex_anti{α:Type}{c:α→α→Int}(h:Ord3 c){x y:α}{q q':Int}(r:x=y→(q<0↔0<q')):eL (c x y) q<0↔0<eL (c y x) q':=
 yG (h.anti x y) (h.anti y x) fun e=>r ((h.zero _ _).1 e)
def jY(a b:Int):Int:=if a=b then 0 else sgn (decide (a<b))
theorem cInt_ord:Ord3 jY where
 zero x y:=by
  unfold jY sgn
  by_cases h:x=y
  ·simp[h]
  ·by_cases g:x<y<;>simp[h,g]
 anti x y:=by
  unfold jY sgn
  by_cases h:x=y
  ·simp[h]
  ·rw [if_neg h, if_neg (Ne.symm h)]
   by_cases g:x<y
   ·have g2 : ¬ y < x := by omega
    simp[g,g2]
   ·have g2 : y < x := by omega
    simp[g,g2]
 trans x y z:=by
  unfold jY sgn
  by_cases h:x=y<;>by_cases h2:y=z<;>by_cases h3:x=z<;>by_cases g:x<y<;>by_cases g2:y<z<;>by_cases g3:x<z<;>simp[h,h2,h3,g,g2,g3]<;>omega
theorem yV:∀l:List UInt8,Op.bytesLess l l=false
 |[]=>rfl
 |a::l=>by rw[Op.bytesLess];simp[yV l]
theorem qCr:∀x y z:List UInt8,Op.bytesLess x y=true→Op.bytesLess y z=true→Op.bytesLess x z=true
 |x,y,[],h1,h2=>by simp[Op.bytesLess]at h2
 |x,[],c::z,h1,h2=>by cases x<;>simp[Op.bytesLess]at h1
 |[],b::y,c::z,h1,h2=>rfl
 |a::x,b::y,c::z,h1,h2=>by
  simp only[Op.bytesLess,Bool.or_eq_true,decide_eq_true_eq,Bool.and_eq_true,beq_iff_eq]at h1 h2 ⊢
  rcases h1 with h1|⟨rfl,h1⟩
  ·rcases h2 with h2 | ⟨rfl, h2⟩
   ·exact .inl (UInt8.lt_trans h1 h2)
   ·exact .inl h1
  ·rcases h2 with h2 | ⟨rfl, h2⟩
   ·exact .inl h2
   ·exact .inr ⟨rfl,qCr x y z h1 h2⟩
theorem qMx{x y:List UInt8}(h:x≠y):Op.bytesLess y x= !Op.bytesLess x y:=by
 rw[←gJ x y]
 have:(x==y)=false:=by simpa using h
 rw[this,Bool.or_false]
theorem qLr{x y:ByteArray}(h:¬x=y):x.data.toList≠y.data.toList:=fun k=>h (by
 cases x;cases y
 simp only[ByteArray.mk.injEq]
 exact Array.ext' k)
noncomputable def mI(a b:ByteArray):Int:=if a=b then 0 else sgn (Op.bytesLess a.data.toList b.data.toList)
theorem cName_ord:Ord3 mI where
 zero x y:=by
  unfold mI
  by_cases h:x=y
  ·simp[h]
  ·rw[if_neg h];exact⟨fun k=>absurd k (vH _),fun k=>absurd k h⟩
 anti x y:=by
  unfold mI
  by_cases h:x=y
  ·simp[h]
  ·rw [if_neg h, if_neg (Ne.symm h), qMx (qLr h)]
   cases Op.bytesLess x.data.toList y.data.toList<;>simp[sgn]
 trans x y z:=by
  unfold mI
  intro h1 h2
  split at h1
  ·omega
  split at h2
  ·omega
  have k1:Op.bytesLess x.data.toList y.data.toList=true:=by
   cases e:Op.bytesLess x.data.toList y.data.toList with
   |true=>rfl
   |false=>rw[e]at h1;simp[sgn]at h1
  have k2:Op.bytesLess y.data.toList z.data.toList=true:=by
   cases e:Op.bytesLess y.data.toList z.data.toList with
   |true=>rfl
   |false=>rw[e]at h2;simp[sgn]at h2
  have k3:=qCr _ _ _ k1 k2
  have k4:¬x=z:=fun e=>by
   rw[e,yV]at k3;exact absurd k3 (by decide)
  rw[if_neg k4,k3]
  decide
theorem jI(x y:Tm)(r:Int):eH x y r=eL (jY x.kind y.kind) (eL (jY x.num y.num) (eL (mI x.name y.name) r)):=by
 unfold eH eL jY mI
 by_cases h1:x.kind=y.kind<;>by_cases h2:x.num=y.num<;>by_cases h3:x.name=y.name<;>simp[h1,h2,h3,vH]
theorem T.cmp_anti:∀x y:T,x.cmp y<0↔0<y.cmp x:=by
 intro x
 induction x with
 |pair a b iha ihb=>
  intro y
  rw[T.cmp_eq,T.cmp_eq y,jI,jI]
  refine cInt_ord.lex_anti fun _=>cInt_ord.lex_anti fun _=>cName_ord.lex_anti fun _=>?_
  cases y with
  |pair c d=>
   show eL (a.cmp c) (b.cmp d)<0↔0<eL (c.cmp a) (d.cmp b)
   refine yG (iha c) ?_ fun _=>ihb d
   have h1:=iha c;have h2:=T.cmp_zero a c;have h3:=T.cmp_zero c a
   by_cases e:a=c
   ·have:=h2.2 e;have:=h3.2 e.symm;omega
   ·have : a.cmp c ≠ 0 := fun k => e (h2.1 k)
    have:c.cmp a≠0:=fun k=>e (h3.1 k).symm
    omega
  |_=>exact Iff.rfl
 |_=>
  intro y
  rw[T.cmp_eq,T.cmp_eq y,jI,jI]
  refine cInt_ord.lex_anti fun _=>cInt_ord.lex_anti fun _=>cName_ord.lex_anti fun _=>?_
  cases y<;>exact Iff.rfl
theorem T.cmp_trans:∀x y z:T,x.cmp y<0→y.cmp z<0→x.cmp z<0:=by
 intro x
 induction x with
 |pair a b iha ihb=>
  intro y z
  rw[T.cmp_eq,T.cmp_eq y,T.cmp_eq _ z,jI,jI,jI]
  refine cInt_ord.lex_trans fun _ _=>cInt_ord.lex_trans fun _ _=>cName_ord.lex_trans fun _ _=>?_
  cases y with
  |pair c d=>
   cases z with
   |pair e f=>
    show eL (a.cmp c) (b.cmp d)<0→eL (c.cmp e) (d.cmp f)<0→eL (a.cmp e) (b.cmp f)<0
    exact tS (iha c e) (fun k=>by rw[(T.cmp_zero _ _).1 k]) (fun k=>by rw[(T.cmp_zero _ _).1 k]) fun _ _=>ihb d f
   |_=>exact fun _ h=>absurd h (Int.lt_irrefl 0)
  |_=>exact fun h=>absurd h (Int.lt_irrefl 0)
 |_=>
  intro y z
  rw[T.cmp_eq,T.cmp_eq y,T.cmp_eq _ z,jI,jI,jI]
  refine cInt_ord.lex_trans fun _ _=>cInt_ord.lex_trans fun _ _=>cName_ord.lex_trans fun _ _=>?_
  exact fun h=>absurd h (Int.lt_irrefl 0)
theorem T.cmp_ord:Ord3 T.cmp:=⟨T.cmp_zero,T.cmp_anti,T.cmp_trans⟩
def bM{α:Type}(c:α→α→Int):List α→List α→Int
 |[],[]=>0
 |[],_::_=> -1
 |_::_,[]=>1
 |a::l,b::m=>eL (c a b) (bM c l m)
theorem qCn{α:Type}{c:α→α→Int}(h:Ord3 c):Ord3 (bM c) where
 zero:=by
  intro x
  induction x with
  |nil=>intro y;cases y<;>simp[bM]
  |cons a l ih=>
   intro y
   cases y with
   |nil=>simp[bM]
   |cons b m=>rw[bM,yD,h.zero,ih,List.cons.injEq]
 anti:=by
  intro x
  induction x with
  |nil=>intro y;cases y<;>simp[bM]
  |cons a l ih=>
   intro y
   cases y with
   |nil=>simp[bM]
   |cons b m=>rw[bM,bM];exact h.lex_anti fun _=>ih m
 trans:=by
  intro x
  induction x with
  |nil=>intro y z;cases y<;>cases z<;>simp[bM]
  |cons a l ih=>
   intro y z
   cases y with
   |nil=>simp[bM]
   |cons b m=>
    cases z with
    |nil=>simp[bM]
    |cons e n=>rw[bM,bM,bM];exact h.lex_trans fun _ _=>ih m n
end Go.Vx
namespace Go.Vx
open Go.Proofs Classical
section
variable {α:Type} {c:α→α→Int}
def Asc3(c:α→α→Int)(l:List α):Prop:=l.Pairwise fun a b=>c a b<0
theorem Ord3.irrefl(h:Ord3 c)(x:α):¬c x x<0:=by have:=(h.zero x x).2 rfl;omega
theorem Ord3.ge_pos(h:Ord3 c){x y:α}(h1:¬c x y<0)(h2:c x y≠0):c y x<0:=(h.anti y x).2 (by omega)
theorem Asc3.nodup(h:Ord3 c){l:List α}(hl:Asc3 c l):l.Nodup:=hl.imp fun {a b} k e=>by subst e;exact h.irrefl _ k
theorem Asc3.uniq(h:Ord3 c){l m:List α}(hl:Asc3 c l)(hm:Asc3 c m)(e:∀x,x∈l↔x∈m):l=m:=by
 have hp:l.Perm m:=(List.perm_ext_iff_of_nodup (hl.nodup h) (hm.nodup h)).2 e
 refine List.Perm.eq_of_pairwise (le:=fun a b=>c a b<0) (fun a b _ _ h1 h2=>?_) hl hm hp
 have:=(h.anti a b).1 h1
 omega
theorem Asc3.ins(h:Ord3 c){l:List α}{e:α}{k:Nat}(hl:Asc3 c l)(h1:∀x∈l.take k,c x e<0)(h2:∀x∈l.drop k,c e x<0):Asc3 c (rP l e k):=by
 rw[rP,Asc3,List.pairwise_append]
 refine⟨hl.sublist (List.take_sublist _ _),?_,fun a ha b hb=>?_⟩
 ·exact List.pairwise_cons.2 ⟨h2,hl.sublist (List.drop_sublist _ _)⟩
 ·rcases List.mem_cons.1 hb with rfl | hb
  ·exact h1 a ha
  ·exact h.trans _ _ _ (h1 a ha) (h2 b hb)
theorem Asc3.take_lt(h:Ord3 c){l:List α}(hl:Asc3 c l){k:Nat}{y e:α}(hy:l[k]? =some y)(hc:c y e<0):∀x∈l.take (k+1),c x e<0:=by
 rw[List.take_add_one,hy,Option.toList_some]
 intro x hx
 rcases List.mem_append.1 hx with hx|hx
 ·rw [Asc3, ← List.take_append_drop k l, List.pairwise_append] at hl
  exact h.trans _ _ _ (hl.2.2 x hx y (by rw[cB hy];simp)) hc
 ·rw[List.mem_singleton.1 hx];exact hc
theorem Asc3.drop_gt(h:Ord3 c){l:List α}(hl:Asc3 c l){k:Nat}{y e:α}(hy:l[k]? =some y)(hc:c e y<0):∀x∈l.drop k,c e x<0:=by
 rw[cB hy]
 intro x hx
 rcases List.mem_cons.1 hx with rfl|hx
 ·exact hc
 ·rw [Asc3, ← List.take_append_drop k l, List.pairwise_append, cB hy, List.pairwise_cons] at hl
  exact h.trans _ _ _ hc (hl.2.1.1 x hx)
theorem wE(h:Ord3 c)(e:α):∀l:List α,Asc3 c l→e∈l∨∃k,(∀x∈l.take k,c x e<0)∧∀x∈l.drop k,c e x<0
 |[],_=> .inr ⟨0,by simp,by simp⟩
 |a::l,hl=>by
  have w_:=List.pairwise_cons.1 hl
  obtain⟨ha,hl⟩:=w_
  by_cases h0:c e a=0
  ·exact .inl (by rw[(h.zero _ _).1 h0];simp)
  ·by_cases h1 : c e a < 0
   ·exact .inr ⟨0,by simp,fun x hx=>by
     rcases List.mem_cons.1 hx with rfl|hx
     ·exact h1
     ·exact h.trans _ _ _ h1 (ha x hx)⟩
   ·have h3 := h.ge_pos h1 h0
    rcases wE h e l hl with k|⟨k,k1,k2⟩
    ·exact .inl (List.mem_cons_of_mem _ k)
    ·exact .inr ⟨k+1,fun x hx=>by
      rw[List.take_succ_cons]at hx
      rcases List.mem_cons.1 hx with rfl|hx
      ·exact h3
      ·exact k1 x hx,fun x hx=>k2 x (by simpa using hx)⟩
theorem iN(h:Ord3 c):∀l:List α,∃m,Asc3 c m∧m.length≤l.length∧∀x,x∈m↔x∈l
 |[]=>⟨[],List.Pairwise.nil,Nat.le_refl _,fun _=>Iff.rfl⟩
 |a::l=>by
  have w_:=iN h l
  obtain⟨m,h1,h9,h2⟩:=w_
  rcases wE h a m h1 with k|⟨k,k1,k2⟩
  ·exact⟨m,h1,by rw[List.length_cons];omega,fun x=>by
    rw[h2 x,List.mem_cons]
    exact⟨.inr,fun g=>g.elim (fun e=>by subst e;exact(h2 _).1 k) id⟩⟩
  ·exact⟨rP m a k,h1.ins h k1 k2,by rw[qBy,List.length_cons];omega,fun x=>by rw[qJx,h2 x,List.mem_cons]⟩
noncomputable def qCs(h:Ord3 c)(l:List α):List α:=(iN h l).choose
theorem mZ(h:Ord3 c)(l:List α):Asc3 c (qCs h l):=(iN h l).choose_spec.1
theorem xV(h:Ord3 c)(l:List α):(qCs h l).length≤l.length:=(iN h l).choose_spec.2.1
theorem jW(h:Ord3 c)(l:List α)(x:α):x∈qCs h l↔x∈l:=(iN h l).choose_spec.2.2 x
theorem qEn(h:Ord3 c){l m:List α}(hm:Asc3 c m)(e:∀x,x∈m↔x∈l):m=qCs h l:=hm.uniq h (mZ h l) fun x=>by rw[e,jW]
end
end Go.Vx
namespace Go.Vx
open Go.Proofs Classical
open Go.Sort
open Go.Extern Go.Extern.Rtype Go.RowKit Go.Lib
section
variable {P:Program} {μ h0:Mem} {r:Nat} {ty:TypeId} {rest:List Value} {d:Array Value} {es:Nat}
end
section
variable {μ h0:Mem} {lf sf:FuncId} {lb sb:List Value} {n:Nat}
end
section
variable {α:Type} [Inhabited α] {enc:α→Value} {μ h0:Mem} {r:Nat} {ty t e:TypeId} {i ie:TypeInfo} {ke:Nat} {ti:TI} {rest:List Value} {d0:Array α} {n cap:Nat} {lf:FuncId} {lb:List Value} {lt:α→α→Bool}
end
section
variable {μ h0:Mem} {r:Nat} {ty:TypeId} {rest:List Value} {es:Nat}
theorem qLi{n:Nat}{i:Int}{K:Addr→List Value→Prop}{K':Addr→Prop}(k:Nat)(e:i=k)(hk:k<n)(h:K' ⟨r,k*es,none⟩):elemVC μ (some ⟨r,0,none⟩) n es i K K':=by
 subst e
 refine cS ⟨r,0,none⟩ rfl (by omega) (by omega) ?_
 have:(⟨r,0,none⟩:Addr).add ((k:Int).toNat*es)=⟨r,k*es,none⟩:=by rw[Addr.add_lit'];simp
 rw[this];exact h
end
end Go.Vx
namespace Go.Vx
open Go.Proofs Classical
theorem sP{α:Type}{c:α→α→Int}{l m:List α}{i:Nat}(h:¬(i<l.length∧i<m.length))(h2:i≤l.length)(h3:i≤m.length)(e:bM c (l.drop i) (m.drop i)=bM c l m):bM c l m=jY l.length m.length:=by
 rw[←e]
 rcases Nat.lt_or_ge i l.length with k|k
 ·obtain rfl : i = m.length := by omega
  rw[List.drop_length]
  have w_:=aSo k
  obtain⟨x,hx⟩:=w_
  rw[cB hx,bM,jY,if_neg (by omega),decide_eq_false (by omega)]
  rfl
 ·obtain rfl : i = l.length := by omega
  rw[List.drop_length]
  rcases Nat.eq_or_lt_of_le h3 with k2|k2
  ·rw[k2,List.drop_length,bM,jY,if_pos rfl]
  ·have w_ := aSo k2
   obtain⟨x,hx⟩:=w_
   rw[cB hx,bM,jY,if_neg (by omega),decide_eq_true (by omega)]
   rfl
theorem tM{p q:Int}(h:p≠0):eL p q=p:=by rw[eL,if_neg h]
theorem tH{p q:Int}(h:p=0):eL p q=q:=by rw[eL,if_pos h]
section
variable {μ:Mem}
end
end Go.Vx
namespace Go.Vx
open Go.Proofs Classical
def Gl.Pos(g:Gl):Prop:=∀x∈g.all,x.kind≠10
theorem Gl.pos_eq(g:Gl):g.Pos↔g.kind≠10∧∀x∈g.goals,x.Pos:=by
 unfold Gl.Pos
 rw[Gl.all_eq]
 constructor
 ·exact fun h=>⟨h g (by simp),fun x hx y hy=>h y (List.mem_cons_of_mem _ (List.mem_flatMap.2 ⟨x,hx,hy⟩))⟩
 ·rintro ⟨h1, h2⟩ x hx
  rcases List.mem_cons.1 hx with rfl|hx
  ·exact h1
  ·have w_ := List.mem_flatMap.1 hx
   obtain⟨y,hy,hx⟩:=w_
   exact h2 y hy x hx
def Pg.Pos(p:Pg):Prop:=p.Ok∧∀r∈p.rels,r.body.Pos
section
variable {μ:Mem}
theorem qBc:∀(g:Gl) {v:Value},RepV μ g.d v→aQ Tryz.prog 71 [v,.bool false] μ (.bool (decide g.Pos)):=
 Gl.ind fun g ih v hv=>by
  have w_:=Gl.inv hv
  obtain⟨p,rfl,hts,hgs⟩:=w_
  have hn:=aI hgs.max
  refine Spec.mk Tryz.func71 (by kernel_rfl) ?_
  intro r
  refine lIn (fun i:Nat=>i≤g.goals.length∧∀(j:Nat) x,j<i→g.goals[j]? =some x→x.Pos)
   (fun i=>⟨[(1,.val (.bool false)),(2,.loc 0 r 0),(8,.val (.slice p.2.1 g.goals.length p.2.2)),(9,.val (.int .i64 g.goals.length)),(10,.val (.int .i64 i))],[(0,some (.cells r [.val (.int .i64 g.kind),.val (.string g.name),.val (.slice p.1.1 g.terms.length p.1.2),.val (.slice p.2.1 g.goals.length p.2.2)] 73))],1,μ,Mem.nil⟩) (fun i=>g.goals.length-i)
   0 ⟨Nat.zero_le _,fun j x h=>by omega⟩ (fun _=>⟨rfl,rfl⟩) ⟨⟨rfl,rfl,rfl,rfl,rfl,trivial⟩,⟨rfl,trivial⟩,rfl,rfl⟩ ?_
  rintro i ⟨hi,hall⟩
  refine ifd (fun hlt=>?_) (fun hlt=>?_)
  ·have w_ := aSo (l := g.goals) (i := i) (by omega)
   obtain⟨t,ht⟩:=w_
   have w_:=Gl.elem hgs ht
   obtain⟨ad,p3,hel,hr⟩:=w_
   refine eIn hel ?_
   intro r2
   refine cGv (ih t (mAt ht) hr) ?_
   refine aL (fun h=>rGv ?_ rfl) (fun h=>?_)
   ·rw[decide_eq_false fun k=>h (((Gl.pos_eq g).1 k).2 t (mAt ht))]
   ·refine aC (by omega) (by omega) ⟨i + 1, ⟨by omega, fun j y hj hy => ?_⟩, by omega, ⟨⟨rfl, rfl, rfl, rfl, rfl, trivial⟩, ⟨rfl, trivial⟩, rfl, rfl⟩⟩
    rcases Nat.lt_or_ge j i with h6|h6
    ·exact hall j y h6 hy
    ·obtain rfl : j = i := by omega
     rw[ht]at hy;cases hy;exact h
  ·obtain rfl : i = g.goals.length := by omega
   have hsub:∀x∈g.goals,x.Pos:=fun x hx=>by
    have w_:=List.mem_iff_getElem?.1 hx
    obtain⟨j,hj⟩:=w_
    exact hall j x (List.getElem?_eq_some_iff.1 hj).1 hj
   refine aL (fun h=>?_) (fun h=>?_)
   ·refine iIn (fun h => nomatch h) (fun _ => ?_)
    exact rGv (by rw[decide_eq_true ((Gl.pos_eq g).2 ⟨h,hsub⟩)];rfl) rfl
   ·exact rGv (by rw[decide_eq_false fun k=>((Gl.pos_eq g).1 k).1 h]) rfl
theorem qFa{p:Pg}{v:Value}(hp:RepV μ p.d v)(hw:p.d.wd):Spec Tryz.prog 37 [v,.bool false] μ fun r _=>r= .bool (decide p.Pos):=by
 have w_:=Pg.inv hp
 obtain⟨q,rfl,hrl⟩:=w_
 refine Spec.mk Tryz.func37 (by kernel_rfl) ?_
 intro r1
 refine cPl (bP hp hw) fun v1 μ1 hle1 hR=>?_
 obtain rfl:=hR
 refine aL (fun h=>rPl (isF fun k=>h k.1)) (fun hok=>?_)
 have hn:=hok.1
 refine lIn (fun i:Nat=>i≤p.rels.length∧∀(j:Nat) x,j<i→p.rels[j]? =some x→x.body.Pos)
  (fun i=>⟨[(1,.val (.bool false)),(11,.val (.slice q.1 p.rels.length q.2)),(12,.val (.int .i64 p.rels.length)),(13,.val (.int .i64 i))],[],1,μ1,Mem.nil⟩) (fun i=>p.rels.length-i)
  0 ⟨Nat.zero_le _,fun j x h=>by omega⟩ (fun _=>⟨rfl,rfl⟩) ⟨⟨rfl,rfl,rfl,rfl,trivial⟩,trivial,rfl,rfl⟩ ?_
 rintro i ⟨hi,hall⟩
 refine ifd (fun hlt=>?_) (fun hlt=>?_)
 ·have w_ := aSo (l := p.rels) (i := i) (by omega)
  obtain⟨x,hx⟩:=w_
  have w_:=Rl.elemA (hrl.mono hle1) hx
  obtain⟨ad,q2,hel,hr,hb⟩:=w_
  have hb:RepV μ1 x.body.d (.agg (x.body.cs q2).toArray):=hb
  refine eIn hel ?_
  intro r2
  refine cGv (qBc x.body hb) ?_
  refine aL (fun h=>rPl (isF fun k=>h (k.2 x (mAt hx)))) (fun h=>?_)
  refine aC (by omega) (by omega) ⟨i+1,⟨by omega,fun j y hj hy=>?_⟩,by omega,⟨⟨rfl,rfl,rfl,rfl,trivial⟩,trivial,rfl,rfl⟩⟩
  rcases Nat.lt_or_ge j i with h6|h6
  ·exact hall j y h6 hy
  ·obtain rfl : j = i := by omega
   rw[hx]at hy;cases hy;exact h
 ·obtain rfl : i = p.rels.length := by omega
  exact rPl (isT ⟨hok,fun x hx=>by
   have w_:=List.mem_iff_getElem?.1 hx
   obtain⟨j,hj⟩:=w_
   exact hall j x (List.getElem?_eq_some_iff.1 hj).1 hj⟩)
theorem gA{p:Pg}{v:Value}(hp:RepV μ p.d v)(hw:p.d.wd):Spec Tryz.prog 16 [v] μ fun r _=>r= .bool (decide p.Pos):=by
 have w_:=Pg.inv hp
 obtain⟨q,rfl,hrl⟩:=w_
 refine Spec.mk Tryz.func16 (by kernel_rfl) ?_
 intro r1
 refine cPl (qFa hp hw) fun v1 μ1 hle1 hR=>?_
 obtain rfl:=hR
 exact rPl rfl
end
end Go.Vx
namespace Go.Vx
open Go.Proofs Classical
def eB(a l:List (List Gl)):List (List Gl):=a.flatMap fun x=>l.map fun y=>x++y
mutual
noncomputable def Gl.cl:Gl→Option (List (List Gl))
 | .mk k s ts gs=>if k=0 then some [[]]else if k=1 then some []else if k=8 then Gl.clOr gs []else if k=7 then Gl.clAnd gs [[]]else some [[.mk k s ts gs]]
noncomputable def Gl.clOr:List Gl→List (List Gl)→Option (List (List Gl))
 |[],acc=>some acc
 |g::r,acc=>(g.cl).bind fun l=>if(acc++l).length≤64 then Gl.clOr r (acc++l)else none
noncomputable def Gl.clAnd:List Gl→List (List Gl)→Option (List (List Gl))
 |[],acc=>some acc
 |g::r,acc=>(g.cl).bind fun l=>if(eB acc l).length≤64 then Gl.clAnd r (eB acc l)else none
end
theorem Gl.cl_eq(g:Gl):g.cl=if g.kind=0 then some [[]]else if g.kind=1 then some []else if g.kind=8 then Gl.clOr g.goals []else if g.kind=7 then Gl.clAnd g.goals [[]]else some [[g]]:=by
 cases g;rw[Gl.cl];rfl
theorem gW(a l:List (List Gl)):(eB a l).length=a.length*l.length:=by
 unfold eB
 induction a with
 |nil=>simp
 |cons x a ih=>rw[List.flatMap_cons,List.length_append,ih,List.length_map,List.length_cons,Nat.succ_mul];omega
theorem jX{a l:List (List Gl)}{z:List Gl}(h:z∈eB a l):∃x∈a,∃y∈l,z=x++y:=by
 have w_:=List.mem_flatMap.1 h
 obtain⟨x,hx,h⟩:=w_
 have w_:=List.mem_map.1 h
 obtain⟨y,hy,rfl⟩:=w_
 exact⟨x,hx,y,hy,rfl⟩
theorem vC{a l:List (List Gl)}{j:Nat}{x:List Gl}(h:a[j]? =some x):eB (a.take (j+1)) l=eB (a.take j) l++l.map fun y=>x++y:=by
 rw[eB,List.take_add_one,h,Option.toList_some,List.flatMap_append]
 simp[eB]
def csD(c:List Gl):D:= .sl 4 (c.map Gl.d)
section
variable {μ:Mem}
abbrev Cls(μ:Mem)(L:List (List Gl))(v:Value):Prop:=RepV μ (.sl 1 (L.map csD)) v
theorem qIf{c:List Gl}{v:Value}(h:RepV μ (csD c) v):∃p:Option Addr×Nat,v= .slice p.1 c.length p.2:=by
 have w_:=Rep.sl (xs:=c.map Gl.d) h
 obtain⟨b,k,rfl,_⟩:=w_
 exact⟨(b,k),by rw[List.length_map]⟩
theorem gD{L:List (List Gl)}{base:Option Addr}{n:Nat}(h:Sl μ 1 base n (L.map csD)){i:Nat}{c:List Gl}(hc:L[i]? =some c):
  ∃ad,∃p:Option Addr×Nat,ElemAt μ base n 1 i ad [.slice p.1 c.length p.2]∧RepV μ (csD c) (.slice p.1 c.length p.2):=by
 have w_:=h.get i (csD c) (by simp[hc])
 obtain⟨ad,cs,h1,h2⟩:=w_
 have h3:Rep μ (.sl 4 (c.map Gl.d)) cs:=h2
 have hl:=Rep.len _ _ h3
 match cs,hl with
 |[v],_=>
  have w_:=qIf (c:=c) h3
  obtain⟨p,rfl⟩:=w_
  exact⟨ad,p,h1,h3⟩
theorem Cls.sl{L:List (List Gl)}{b:Option Addr}{n c:Nat}(h:Cls μ L (.slice b n c)):Sl μ 1 b L.length (L.map csD)∧n=L.length:=by
 have w_:=Rep.sl h
 obtain⟨b',c',e1,hs⟩:=w_
 have w_:=Value.slice.inj e1
 obtain⟨rfl,e2,_⟩:=w_
 rw[List.length_map]at hs e2
 exact⟨hs,e2⟩
theorem Cls.inv{L:List (List Gl)}{v:Value}(h:Cls μ L v):∃p:Option Addr×Nat,v= .slice p.1 L.length p.2:=by
 have w_:=Rep.sl h
 obtain⟨b,k,rfl,_⟩:=w_
 exact⟨(b,k),by rw[List.length_map]⟩
theorem tP{c:List Gl}{p:Option Addr×Nat}(h:RepV μ (csD c) (.slice p.1 c.length p.2)):∃vs,Rows μ 4 (c.map Gl.d) vs∧vs.length=c.length∧uD μ p.1 c.length 4 vs:=Rep.srcAll h
structure ClsOk (μ:Mem) (g:Gl) (v:Value) (L:List (List Gl)):Prop where
 rep:Cls μ L v
 cl:g.cl=if L.length≤64 then some L else none
 len:∀c∈L,c.length≤g.cnt
 max:L.length≤4096
set_option maxHeartbeats 8000000 in
theorem sY:∀(g:Gl) {μ:Mem} {v:Value},RepV μ g.d v→g.Sh→g.cnt≤80→Spec Tryz.prog 108 [v] μ fun v μ'=>∃L,ClsOk μ' g v L:=
 Gl.ind fun g ih μ v hv hS hcnt=>by
  have hv0:=hv
  have w_:=Gl.inv hv
  obtain⟨p,rfl,hts,hgs⟩:=w_
  have hg8:=hS.top.gl
  have hce:=Gl.cnt_eq1 g
  refine Spec.mk Tryz.func108 (by kernel_rfl) ?_
  intro r1 r15
  refine ifd (fun h0=>?_) (fun h0=>?_)
  ·intro r20 μ1 hle1 hno1 hat1 r21
   refine rFz [3] fun μ2 hle2 hno2 hat2=> .inl ⟨[[]],?_,?_,?_,?_⟩
   ·exact Rows.sl hat2 (Rows.one (d:=csD []) ((Rows.sl (μ:=μ1) (ds:=[]) hat1 .nil (Nat.zero_le _)).mono hle2) rfl) (show 1≤maxLen by decide)
   ·rw[Gl.cl_eq,if_pos h0];rfl
   ·simp
   ·simp
  refine ifd (fun h1=>?_) (fun h1=>?_)
  ·refine rFz [1] fun μ2 hle2 hno2 hat2 => .inl ⟨[], ?_, ?_, ?_, ?_⟩
   ·exact Rows.sl hat2 .nil (Nat.zero_le _)
   ·rw[Gl.cl_eq,if_neg h0,if_pos h1];rfl
   ·simp
   ·simp
  refine ifd (fun h8=>?_) (fun h8=>?_)
  ·have hcl : g.cl = Gl.clOr g.goals [] := by rw [Gl.cl_eq, if_neg h0, if_neg h1, if_pos h8]
   refine lIn (fun q:Nat×List (List Gl)×Option Nat×Nat×List Value×Mem=>q.1≤g.goals.length∧μ.Le q.2.2.2.2.2∧Rows q.2.2.2.2.2 1 (q.2.1.map csD) q.2.2.2.2.1∧g.cl=(if q.2.1.length≤64 then Gl.clOr (g.goals.drop q.1) q.2.1 else none)∧(∀c∈q.2.1,c.length≤Gl.cnts (g.goals.take q.1))∧q.2.1.length≤64*q.1)
    (fun(i,acc,b,c,ys,μ')=>⟨[(3,.row 1 b ys.length c),(28,.val (.slice p.2.1 g.goals.length p.2.2)),(29,.val (.int .i64 g.goals.length)),(30,.val (.int .i64 i))],[(1,some (.row b c 71 1 ys))],2,μ',Mem.nil⟩) (fun q=>g.goals.length-q.1)
    (0,[],some r15,0,[],μ) ⟨Nat.zero_le _,Mem.Le.refl _,.nil,by rw[hcl];rfl,by simp,by simp⟩ (fun(_,_,_,_,_,_)=>⟨rfl,rfl⟩) ⟨⟨rfl,rfl,rfl,rfl,trivial⟩,⟨rfl,trivial⟩,rfl,rfl⟩ ?_
   rintro⟨i,acc,b,c,ys,μ'⟩ ⟨hi,hle,hrows,hJ,hlen,hmax⟩
   dsimp only at hi hle hrows hJ hlen hmax
   have hyl:=hrows.len
   rw[List.length_map]at hyl
   refine ifd (fun hlt=>?_) (fun hlt=>?_)
   ·have w_ := aSo (l := g.goals) (i := i) (by omega)
    obtain⟨x,hx⟩:=w_
    have w_:=Gl.elem (hgs.mono hle) hx
    obtain⟨ad,q,hel,hr⟩:=w_
    have hxc:=Gl.cnts_take hx
    have hxl:=Gl.cnts_le g.goals (i+1)
    refine eIn hel ?_
    intro r5
    refine cPl (ih x (mAt hx) hr (hS.sub x (mAt hx)) (by omega)) fun v1 μ1 hle1 hR=>?_
    obtain⟨L,hL⟩:=hR
    obtain⟨pv,rfl⟩:=hL.rep.inv
    have w_:=Rep.srcAll hL.rep
    obtain⟨vs,hvr,hvl,hsrc⟩:=w_
    have hLm:=hL.max
    rw[cB hx,Gl.clOr,hL.cl]at hJ
    refine aN vs hsrc ?_
    refine gIn ?_ ?_ fun b9 c9 _=>?_
    ·show(ys.length+vs.length)*24≤_;omega
    ·exact Nat.le_trans (m:=100000000) (show ys.length+vs.length≤_ by omega) (by decide)
    refine ifd (fun h64=>?_) (fun h64=>?_)
    ·refine rPl ⟨L, hL.rep, ?_, fun c hc => Nat.le_trans (hL.len c hc) (by omega), hLm⟩
     rw[if_neg (show ¬L.length≤64 by omega)]at hJ ⊢
     rw[hJ]
     split<;>rfl
    ·rw [if_pos (show L.length ≤ 64 by omega), Option.bind_some] at hJ
     refine aC (by omega) (by omega) ⟨(i+1,acc++L,b9,c9,_,μ1),⟨by dsimp only;omega,hle.trans hle1,?_,?_,?_,?_⟩,by dsimp only;omega,⟨⟨rfl,rfl,rfl,rfl,trivial⟩,⟨rfl,trivial⟩,rfl,rfl⟩⟩
     ·dsimp only
      rw[List.map_append]
      exact(hrows.mono hle1).append hvr
     ·dsimp only
      rw[hJ]
      by_cases ha:acc.length≤64
      ·rw[if_pos ha]
      ·rw[if_neg ha,if_neg (by rw[List.length_append];omega)]
     ·dsimp only
      intro c hc
      rcases List.mem_append.1 hc with hc|hc
      ·have:=hlen c hc;omega
      ·have:=hL.len c hc;omega
     ·dsimp only
      rw[List.length_append];omega
   ·obtain rfl : i = g.goals.length := by omega
    rw[List.drop_length,Gl.clOr]at hJ
    rw[List.take_length]at hlen
    refine rFz [1] fun μ2 hle2 hno2 hat2=> .inl ⟨acc,?_,hJ,fun c hc=>by have:=hlen c hc;omega,by omega⟩
    exact Rows.sl hat2 (hrows.mono hle2) (Nat.le_trans (m:=100000000) (by omega) (by decide))
  refine ifd (fun h7=>?_) (fun h7=>?_)
  rotate_left
  ·intro r96 μ1 hle1 hno1 hat1 r97
   refine gIn ?_ ?_ fun b9 c9 _=>?_
   ·show(0+1)*24≤_;decide
   ·show 0+1≤maxLen;decide
   refine rFz [1] fun μ2 hle2 hno2 hat2=> .inl ⟨[[g]],?_,?_,?_,?_⟩
   ·refine Rows.sl hat2 (Rows.one (d:=csD [g]) ((Rows.sl (μ:=μ1) (ds:=[g.d]) hat1 (Rows.one (hv0.mono hle1) (Gl.d_n g)) (show 1≤maxLen by decide)).mono hle2) rfl) (show 1≤maxLen by decide)
   ·rw[Gl.cl_eq,if_neg h0,if_neg h1,if_neg h8,if_neg h7];rfl
   ·intro c hc
    rw[List.mem_singleton.1 hc]
    have:=g.cnt_pos
    simpa using this
   ·simp
  have hcl:g.cl=Gl.clAnd g.goals [[]]:=by rw[Gl.cl_eq,if_neg h0,if_neg h1,if_neg h8,if_pos h7]
  intro r48 μ1 hle1 hno1 hat1 r49
  refine gIn ?_ ?_ fun b9 c9 _=>?_
  ·show(0+1)*24≤_;decide
  ·show 0+1≤maxLen;decide
  refine lFz (fun q:Nat×List (List Gl)×Option Addr×Nat×Mem=>q.1≤g.goals.length∧μ.Le q.2.2.2.2∧Cls q.2.2.2.2 q.2.1 (.slice q.2.2.1 q.2.1.length q.2.2.2.1)∧g.cl=Gl.clAnd (g.goals.drop q.1) q.2.1∧(∀c∈q.2.1,c.length≤Gl.cnts (g.goals.take q.1))∧q.2.1.length≤64)
   (fun(i,acc,b,c,μ')=>⟨[(3,.val (.slice b acc.length c)),(52,.val (.slice p.2.1 g.goals.length p.2.2)),(53,.val (.int .i64 g.goals.length)),(54,.val (.int .i64 i))],[],0,μ',Mem.nil⟩) (fun q=>g.goals.length-q.1) [1]
   (fun(_,_,_,_,_)=>⟨rfl,rfl⟩) (fun μ2 hle2 hno2 hat2=>⟨(0,[[]],b9.map (fun r=>⟨r,0,none⟩),c9,μ2),⟨Nat.zero_le _,hle1.trans hle2,Rows.sl hat2 (Rows.one (d:=csD []) ((Rows.sl (μ:=μ1) (ds:=[]) hat1 .nil (Nat.zero_le _)).mono hle2) rfl) (show 1≤maxLen by decide),hcl,by simp,by simp⟩,⟨rfl,rfl,rfl,rfl,trivial⟩,trivial,rfl,rfl⟩) ?_
  rintro⟨i,acc,b,c,μ'⟩ ⟨hi,hle,hacc,hJ,hlen,hmax⟩
  dsimp only at hi hle hacc hJ hlen hmax
  refine ifd (fun hlt=>?_) (fun hlt=>?_)
  rotate_left
  ·obtain rfl : i = g.goals.length := by omega
   rw[List.drop_length,Gl.clAnd]at hJ
   rw[List.take_length]at hlen
   exact rPl ⟨acc,hacc,by rw[hJ,if_pos hmax],fun c hc=>by have:=hlen c hc;omega,by omega⟩
  have w_:=aSo (l:=g.goals) (i:=i) (by omega)
  obtain⟨x,hx⟩:=w_
  have w_:=Gl.elem (hgs.mono hle) hx
  obtain⟨ad,q,hel,hr⟩:=w_
  have hxc:=Gl.cnts_take hx
  have hxl:=Gl.cnts_le g.goals (i+1)
  refine eIn hel ?_
  intro r8
  refine cPl (ih x (mAt hx) hr (hS.sub x (mAt hx)) (by omega)) fun v3 μ3 hle3 hR=>?_
  obtain⟨L,hL⟩:=hR
  obtain⟨pv,rfl⟩:=hL.rep.inv
  have hLm:=hL.max
  rw[cB hx,Gl.clAnd,hL.cl]at hJ
  refine ifd (fun h64=>?_) (fun h64=>?_)
  ·refine rPl ⟨L, hL.rep, ?_, fun c hc => Nat.le_trans (hL.len c hc) (by omega), hLm⟩
   rw[if_neg (show ¬L.length≤64 by omega)]at hJ ⊢
   exact hJ
  rw[if_pos (show L.length≤64 by omega),Option.bind_some]at hJ
  intro r64
  have hasl:=(Cls.sl (RepV.mono hle3 hacc)).1
  refine lIn (fun q:Nat×Option Nat×Nat×List Value×Mem=>q.1≤acc.length∧μ3.Le q.2.2.2.2∧Rows q.2.2.2.2 1 ((eB (acc.take q.1) L).map csD) q.2.2.2.1)
   (fun(j,b1,c1,ys,μ4)=>⟨[(9,.val (.slice pv.1 L.length pv.2)),(10,.row 1 b1 ys.length c1),(52,.val (.slice p.2.1 g.goals.length p.2.2)),(53,.val (.int .i64 g.goals.length)),(54,.val (.int .i64 i)),(65,.val (.slice b acc.length c)),(66,.val (.int .i64 acc.length)),(67,.val (.int .i64 j))],[(1,some (.row b1 c1 71 1 ys))],2,μ4,Mem.nil⟩) (fun q=>acc.length-q.1)
   (0,some r64,0,[],μ3) ⟨Nat.zero_le _,Mem.Le.refl _,.nil⟩ (fun(_,_,_,_,_)=>⟨rfl,rfl⟩) ⟨⟨rfl,rfl,rfl,rfl,rfl,rfl,rfl,rfl,trivial⟩,⟨rfl,trivial⟩,rfl,rfl⟩ ?_
  rintro⟨j,b1,c1,ys,μ4⟩ ⟨hj,hle4,hrows⟩
  dsimp only at hj hle4 hrows
  have hyl:=hrows.len
  rw[List.length_map,gW,List.length_take]at hyl
  have hmul:min j acc.length*L.length≤64*64:=Nat.mul_le_mul (by omega) (by omega)
  refine ifd (fun hlt2=>?_) (fun hlt2=>?_)
  ·have w_ := aSo (l := acc) (i := j) (by omega)
   obtain⟨xa,hxa⟩:=w_
   have w_:=gD (hasl.mono hle4) hxa
   obtain⟨ad2,pa,hel2,hra⟩:=w_
   have hxal:=hlen xa (mAt hxa)
   have hmul2:j*L.length≤64*64:=Nat.mul_le_mul (by omega) (by omega)
   rw[Nat.min_eq_left (by omega)]at hyl
   refine eIn hel2 ?_
   refine lIn (fun q:Nat×Option Nat×Nat×List Value×Mem=>q.1≤L.length∧μ4.Le q.2.2.2.2∧Rows q.2.2.2.2 1 ((eB (acc.take j) L++(L.take q.1).map fun y=>xa++y).map csD) q.2.2.2.1)
    (fun(k,b1,c1,ys,μ5)=>⟨[(9,.val (.slice pv.1 L.length pv.2)),(10,.row 1 b1 ys.length c1),(12,.val (.slice pa.1 xa.length pa.2)),(52,.val (.slice p.2.1 g.goals.length p.2.2)),(53,.val (.int .i64 g.goals.length)),(54,.val (.int .i64 i)),(65,.val (.slice b acc.length c)),(66,.val (.int .i64 acc.length)),(67,.val (.int .i64 j)),(71,.val (.slice pv.1 L.length pv.2)),(72,.val (.int .i64 L.length)),(73,.val (.int .i64 k))],[(1,some (.row b1 c1 71 1 ys))],2,μ5,Mem.nil⟩) (fun q=>L.length-q.1)
    (0,b1,c1,ys,μ4) ⟨Nat.zero_le _,Mem.Le.refl _,by simpa using hrows⟩ (fun(_,_,_,_,_)=>⟨rfl,rfl⟩) ⟨⟨rfl,rfl,rfl,rfl,rfl,rfl,rfl,rfl,rfl,rfl,rfl,rfl,trivial⟩,⟨rfl,trivial⟩,rfl,rfl⟩ ?_
   clear hrows
   rintro⟨k,b2,c2,zs,μ5⟩ ⟨hk,hle5,hrows2⟩
   dsimp only at hk hle5 hrows2
   have hzl:=hrows2.len
   rw[List.length_map,List.length_append,gW,List.length_map,List.length_take,List.length_take,Nat.min_eq_left (show j≤acc.length by omega),Nat.min_eq_left hk]at hzl
   refine ifd (fun hlt3=>?_) (fun hlt3=>?_)
   ·have w_ := aSo (l := L) (i := k) (by omega)
    obtain⟨y,hy⟩:=w_
    have w_:=gD (((Cls.sl hL.rep).1.mono hle4).mono hle5) hy
    obtain⟨ad3,py,hel3,hry⟩:=w_
    have hyl2:=hL.len y (mAt hy)
    have w_:=tP (hra.mono hle5)
    obtain⟨vx,hvx,hvxl,hsx⟩:=w_
    have w_:=tP hry
    obtain⟨vy,hvy,hvyl,hsy⟩:=w_
    refine eIn hel3 ?_
    intro r78
    refine aN vx hsx ?_
    refine gIn ?_ ?_ fun b6 c6 _=>?_
    ·show(0+vx.length)*72≤_;omega
    ·exact Nat.le_trans (m:=100000000) (show 0+vx.length≤_ by omega) (by decide)
    refine aN vy hsy ?_
    refine gIn ?_ ?_ fun b7 c7 _=>?_
    ·show((([]:List Value)++vx).length+vy.length)*72≤_;simp;omega
    ·exact Nat.le_trans (m:=100000000) (show(([]:List Value)++vx).length+vy.length≤_ by simp;omega) (by decide)
    intro μ6 hle6 hno6 hat6 r83
    refine gIn ?_ ?_ fun b8 c8 _=>?_
    ·show(zs.length+1)*24≤_;omega
    ·exact Nat.le_trans (m:=100000000) (show zs.length+1≤_ by omega) (by decide)
    have hrow:RepV μ6 (csD (xa++y)) (.slice (b7.map fun r=>⟨r,0,none⟩) (([]:List Value)++vx++vy).length c7):=by
     have:=Rows.sl hat6 ((hvx.append hvy).mono hle6) (Nat.le_trans (m:=100000000) (by simp;omega) (by decide))
     rw[←List.map_append]at this
     exact this
    refine aC (by omega) (by omega) ⟨(k+1,b8,c8,_,μ6),⟨by dsimp only;omega,hle5.trans hle6,?_⟩,by dsimp only;omega,⟨⟨rfl,rfl,rfl,rfl,rfl,rfl,rfl,rfl,rfl,rfl,rfl,rfl,trivial⟩,⟨rfl,trivial⟩,rfl,rfl⟩⟩
    dsimp only
    rw[List.take_add_one,hy,Option.toList_some,List.map_append (f:=fun y=>xa++y),←List.append_assoc,List.map_append (f:=csD)]
    exact(hrows2.mono hle6).append (Rows.one hrow rfl)
   ·obtain rfl : k = L.length := by omega
    rw[List.take_length,←vC hxa]at hrows2
    exact aC (by omega) (by omega) ⟨(j+1,b2,c2,zs,μ5),⟨by dsimp only;omega,hle4.trans hle5,hrows2⟩,by dsimp only;omega,⟨⟨rfl,rfl,rfl,rfl,rfl,rfl,rfl,rfl,trivial⟩,⟨rfl,trivial⟩,rfl,rfl⟩⟩
  ·obtain rfl : j = acc.length := by omega
   rw[List.take_length]at hrows
   rw[Nat.min_self]at hyl hmul
   have hpl:=gW acc L
   have hzlen:∀c∈eB acc L,c.length≤Gl.cnts (g.goals.take (i+1)):=fun c hc=>by
    have w_:=jX hc
    obtain⟨u,hu,w,hw,rfl⟩:=w_
    have h1:=hlen u hu
    have h2:=hL.len w hw
    rw[List.length_append];omega
   refine ifd (fun hb=>?_) (fun hb=>?_)
   ·refine rFz [1] fun μ5 hle5 hno5 hat5 => .inl ⟨eB acc L, ?_, ?_, fun c hc => by have := hzlen c hc; omega, by omega⟩
    ·have := Rows.sl hat5 (hrows.mono hle5) (Nat.le_trans (m := 100000000) (by omega) (by decide))
     exact this
    ·rw [if_neg (by omega)] at hJ ⊢
     exact hJ
   ·rw [if_pos (by omega)] at hJ
    refine aC (by omega) (by omega) ⟨[1],fun μ5 hle5 hno5 hat5=>⟨(i+1,eB acc L,b1.map (fun r=>⟨r,0,none⟩),c1,μ5),⟨by dsimp only;omega,((hle.trans hle3).trans hle4).trans hle5,?_,hJ,hzlen,by dsimp only;omega⟩,by dsimp only;omega,⟨⟨?_,rfl,rfl,rfl,trivial⟩,trivial,rfl,rfl⟩⟩⟩
    ·have := Rows.sl hat5 (hrows.mono hle5) (Nat.le_trans (m := 100000000) (by omega) (by decide))
     rw[←hyl,←hpl]at this
     exact this
    ·show some (SV.val (.slice _ _ _)) = some (SV.val (.slice _ _ _))
     rw[hpl,hyl]
end
end Go.Vx
namespace Go.Vx
open Go.Proofs Classical
theorem qFg{a l:List (List Gl)}{m n:Nat}(h1:∀c∈a,c.length≤m)(h2:∀c∈l,c.length≤n):∀c∈eB a l,c.length≤m+n:=fun c hc=>by
 have w_:=jX hc
 obtain⟨u,hu,w,hw,rfl⟩:=w_
 have:=h1 u hu
 have:=h2 w hw
 rw[List.length_append];omega
mutual
theorem Gl.cl_bnd:∀(g:Gl) {L:List (List Gl)},g.cl=some L→(∀c∈L,c.length≤g.cnt)∧L.length≤64
 | .mk k s ts gs,L,h=>by
  rw[Gl.cl]at h
  rw[Gl.cnt]
  split at h
  ·cases h;simp
  split at h
  ·cases h;simp
  split at h
  ·have := Gl.clOr_bnd gs (acc := []) (n := 0) (by simp) (by simp) h
   exact⟨fun c hc=>by have:=this.1 c hc;omega,this.2⟩
  split at h
  ·have := Gl.clAnd_bnd gs (acc := [[]]) (n := 0) (by simp) (by simp) h
   exact⟨fun c hc=>by have:=this.1 c hc;omega,this.2⟩
  ·cases h
   refine⟨fun c hc=>?_,by simp⟩
   rw[List.mem_singleton.1 hc,List.length_singleton];omega
theorem Gl.clOr_bnd:∀(gs:List Gl) {acc L:List (List Gl)} {n:Nat},(∀c∈acc,c.length≤n)→acc.length≤64→Gl.clOr gs acc=some L→(∀c∈L,c.length≤n+Gl.cnts gs)∧L.length≤64
 |[],acc,L,n,h1,h2,h=>by
  rw[Gl.clOr]at h;cases h
  exact⟨fun c hc=>Nat.le_trans (h1 c hc) (Nat.le_add_right _ _),h2⟩
 |g::gs,acc,L,n,h1,h2,h=>by
  rw[Gl.clOr]at h
  cases e:g.cl with
  |none=>rw[e]at h;cases h
  |some l=>
   rw[e,Option.bind_some]at h
   have hb:=Gl.cl_bnd g e
   split at h
   ·rename_i h64
    have:=Gl.clOr_bnd gs (acc:=acc++l) (n:=n+g.cnt) (fun c hc=>by
     rcases List.mem_append.1 hc with hc|hc
     ·have:=h1 c hc;omega
     ·have:=hb.1 c hc;omega) h64 h
    rw[Gl.cnts]
    exact⟨fun c hc=>by have:=this.1 c hc;omega,this.2⟩
   ·cases h
theorem Gl.clAnd_bnd:∀(gs:List Gl) {acc L:List (List Gl)} {n:Nat},(∀c∈acc,c.length≤n)→acc.length≤64→Gl.clAnd gs acc=some L→(∀c∈L,c.length≤n+Gl.cnts gs)∧L.length≤64
 |[],acc,L,n,h1,h2,h=>by
  rw[Gl.clAnd]at h;cases h
  exact⟨fun c hc=>Nat.le_trans (h1 c hc) (Nat.le_add_right _ _),h2⟩
 |g::gs,acc,L,n,h1,h2,h=>by
  rw[Gl.clAnd]at h
  cases e:g.cl with
  |none=>rw[e]at h;cases h
  |some l=>
   rw[e,Option.bind_some]at h
   have hb:=Gl.cl_bnd g e
   split at h
   ·rename_i h64
    have:=Gl.clAnd_bnd gs (acc:=eB acc l) (n:=n+g.cnt) (qFg h1 hb.1) h64 h
    rw[Gl.cnts]
    exact⟨fun c hc=>by have:=this.1 c hc;omega,this.2⟩
   ·cases h
end
def optC(P:List (List Gl)→Value→Prop)(o:Option (List (List Gl)))(v:Value):Prop:=match o with
 |some L=>∃tv,v= .tuple #[tv,.bool true]∧P L tv
 |none=>v= .tuple #[.slice none 0 0,.bool false]
section
variable {μ:Mem}
end
end Go.Vx
namespace Go.Vx
open Go.Proofs Classical
section
variable {μ:Mem}
theorem qBk{c:List Gl}{base:Option Addr}{cap:Nat}(hsl:Sl μ 4 base c.length (c.map Gl.d))(hn:c.length≤1000000)(hS:∀x∈c,x.Sh):
  Spec Tryz.prog 109 [.slice base c.length cap] μ fun v μ'=>RepV μ' (csD c) v:=by
 refine Spec.mk Tryz.func109 (by kernel_rfl) ?_
 intro r6
 refine lIn (fun p:Nat×Option Nat×Nat×List Value×Mem=>p.1≤c.length∧μ.Le p.2.2.2.2∧Rows p.2.2.2.2 4 ((c.take p.1).map Gl.d) p.2.2.2.1)
  (fun(i,b,k,ys,μ')=>⟨[(3,.row 0 b ys.length k),(7,.val (.slice base c.length cap)),(8,.val (.int .i64 c.length)),(9,.val (.int .i64 i))],[(0,some (.row b k 73 4 ys))],1,μ',Mem.nil⟩) (fun p=>c.length-p.1)
  (0,some r6,0,[],μ) ⟨by simp,Mem.Le.refl _,.nil⟩ (fun(_,_,_,_,_)=>⟨rfl,rfl⟩) ⟨⟨rfl,rfl,rfl,rfl,trivial⟩,⟨rfl,trivial⟩,rfl,rfl⟩ ?_
 rintro⟨i,b,k,ys,μ'⟩ ⟨hi,hle,hrows⟩
 dsimp only at hi hle hrows
 have hlen:=hrows.len
 simp only[List.length_map,List.length_take]at hlen
 refine ifd (fun h=>?_) (fun h=>?_)
 ·have w_ := aSo (l := c) (i := i) (by omega)
  obtain⟨x,hx⟩:=w_
  have w_:=Gl.elem (hsl.mono hle) hx
  obtain⟨ad,p,hel,hr⟩:=w_
  refine eIn hel ?_
  intro r5
  refine cPl (qAp x hr (hS x (mAt hx))) fun v4 μ4 hle4 hR4=>?_
  have w_:=Gl.invV hR4
  obtain⟨q,rfl⟩:=w_
  intro r16
  refine gIn ?_ ?_ fun b' c' _=>?_
  ·show(ys.length+1)*72≤_;omega
  ·exact Nat.le_trans (m:=100000000) (show ys.length+1≤_ by omega) (by decide)
  refine aC (by omega) (by omega) ⟨(i+1,b',c',_,μ4),⟨by dsimp only;omega,hle.trans hle4,?_⟩,by dsimp only;omega,⟨⟨rfl,rfl,rfl,rfl,trivial⟩,⟨rfl,trivial⟩,rfl,rfl⟩⟩
  dsimp only
  rw[List.take_add_one,hx,Option.toList_some,List.map_append]
  exact(hrows.mono hle4).append (Rows.one hR4 (Gl.d_n _))
 ·obtain rfl : i = c.length := by omega
  rw[List.take_length]at hrows
  refine rFz [0] fun μ' hle' hno hrow=> .inl ?_
  exact Rows.sl hrow (hrows.mono hle') (Nat.le_trans (m:=100000000) (by omega) (by decide))
mutual
theorem Gl.cl_Sh:∀(g:Gl) {L:List (List Gl)},g.Sh→g.cl=some L→∀c∈L,∀x∈c,x.Sh
 | .mk k s ts gs,L,hS,h=>by
  have hsub:∀x∈gs,x.Sh:=hS.sub
  rw[Gl.cl]at h
  split at h
  ·cases h;simp
  split at h
  ·cases h;simp
  split at h
  ·exact Gl.clOr_Sh gs hsub (by simp) h
  split at h
  ·exact Gl.clAnd_Sh gs hsub (by simp) h
  ·cases h
   intro c hc x hx
   rw[List.mem_singleton.1 hc]at hx
   rw[List.mem_singleton.1 hx];exact hS
theorem Gl.clOr_Sh:∀(gs:List Gl) {acc L:List (List Gl)},(∀x∈gs,x.Sh)→(∀c∈acc,∀x∈c,x.Sh)→Gl.clOr gs acc=some L→∀c∈L,∀x∈c,x.Sh
 |[],acc,L,_,h1,h=>by
  rw[Gl.clOr]at h;cases h;exact h1
 |g::gs,acc,L,hS,h1,h=>by
  rw[Gl.clOr]at h
  cases e:g.cl with
  |none=>rw[e]at h;cases h
  |some l=>
   rw[e,Option.bind_some]at h
   have hb:=Gl.cl_Sh g (hS g (by simp)) e
   split at h
   ·exact Gl.clOr_Sh gs (acc:=acc++l) (fun x hx=>hS x (by simp[hx])) (fun c hc=>by
     rcases List.mem_append.1 hc with hc|hc
     ·exact h1 c hc
     ·exact hb c hc) h
   ·cases h
theorem Gl.clAnd_Sh:∀(gs:List Gl) {acc L:List (List Gl)},(∀x∈gs,x.Sh)→(∀c∈acc,∀x∈c,x.Sh)→Gl.clAnd gs acc=some L→∀c∈L,∀x∈c,x.Sh
 |[],acc,L,_,h1,h=>by
  rw[Gl.clAnd]at h;cases h;exact h1
 |g::gs,acc,L,hS,h1,h=>by
  rw[Gl.clAnd]at h
  cases e:g.cl with
  |none=>rw[e]at h;cases h
  |some l=>
   rw[e,Option.bind_some]at h
   have hb:=Gl.cl_Sh g (hS g (by simp)) e
   split at h
   ·exact Gl.clAnd_Sh gs (acc:=eB acc l) (fun x hx=>hS x (by simp[hx])) (fun c hc=>by
     have w_:=jX hc
     obtain⟨u,hu,w,hw,rfl⟩:=w_
     intro x hx
     rcases List.mem_append.1 hx with hx|hx
     ·exact h1 u hu x hx
     ·exact hb w hw x hx) h
   ·cases h
end
theorem lV{g:Gl}{v:Value}(hv:RepV μ g.d v)(hw:g.d.wd)(hok:g.Ok):Spec Tryz.prog 61 [v] μ fun v μ'=>optC (Cls μ') g.cl v:=by
 have hv0:=hv
 have w_:=Gl.inv hv
 obtain⟨p,rfl,-,-⟩:=w_
 refine Spec.mk Tryz.func61 (by kernel_rfl) ?_
 intro r1
 refine cGv (fQ g hv0 hw) ?_
 refine aL (fun h=>absurd hok h) (fun _=>?_)
 refine cPl (sY g hv0 hok.1 hok.2) fun v1 μ1 hle1 hR=>?_
 obtain⟨L,hL⟩:=hR
 obtain⟨pv,rfl⟩:=hL.rep.inv
 have hcl:=hL.cl
 refine ifd (fun h64=>?_) (fun h64=>?_)
 ·rw [if_neg (by omega)] at hcl
  exact rPl (by rw[hcl];rfl)
 rw[if_pos (by omega)]at hcl
 rw[hcl]
 have hSh:=Gl.cl_Sh g hok.1 hcl
 have hbd:=Gl.cl_bnd g hcl
 have h80:=hok.2
 have hsl:=(Cls.sl hL.rep).1
 intro r16
 refine lIn (fun p:Nat×Option Nat×Nat×List Value×Mem=>p.1≤L.length∧μ1.Le p.2.2.2.2∧Rows p.2.2.2.2 1 ((L.take p.1).map csD) p.2.2.2.1)
  (fun(i,b,k,ys,μ')=>⟨[(5,.row 1 b ys.length k),(17,.val (.slice pv.1 L.length pv.2)),(18,.val (.int .i64 L.length)),(19,.val (.int .i64 i))],[(1,some (.row b k 71 1 ys))],2,μ',Mem.nil⟩) (fun p=>L.length-p.1)
  (0,some r16,0,[],μ1) ⟨by simp,Mem.Le.refl _,.nil⟩ (fun(_,_,_,_,_)=>⟨rfl,rfl⟩) ⟨⟨rfl,rfl,rfl,rfl,trivial⟩,⟨rfl,trivial⟩,rfl,rfl⟩ ?_
 rintro⟨i,b,k,ys,μ'⟩ ⟨hi,hle,hrows⟩
 dsimp only at hi hle hrows
 have hlen:=hrows.len
 simp only[List.length_map,List.length_take]at hlen
 refine ifd (fun h=>?_) (fun h=>?_)
 ·have w_ := aSo (l := L) (i := i) (by omega)
  obtain⟨c,hc⟩:=w_
  have w_:=gD (hsl.mono hle) hc
  obtain⟨ad,pc,hel,hrc⟩:=w_
  have hcl2:=hbd.1 c (mAt hc)
  have hcs:Sl μ' 4 pc.1 c.length (c.map Gl.d):=by
   have w_:=Rep.sl (xs:=c.map Gl.d) hrc
   obtain⟨b',c',e1,hs⟩:=w_
   have w_:=Value.slice.inj e1
   obtain⟨rfl,_,_⟩:=w_
   simpa using hs
  refine eIn hel ?_
  refine cPl (qBk hcs (by omega) (hSh c (mAt hc))) fun v4 μ4 hle4 hR4=>?_
  have w_:=qIf hR4
  obtain⟨q,rfl⟩:=w_
  intro r26
  refine gIn ?_ ?_ fun b' c' _=>?_
  ·show(ys.length+1)*24≤_;omega
  ·exact Nat.le_trans (m:=100000000) (show ys.length+1≤_ by omega) (by decide)
  refine aC (by omega) (by omega) ⟨(i+1,b',c',_,μ4),⟨by dsimp only;omega,hle.trans hle4,?_⟩,by dsimp only;omega,⟨⟨rfl,rfl,rfl,rfl,trivial⟩,⟨rfl,trivial⟩,rfl,rfl⟩⟩
  dsimp only
  rw[List.take_add_one,hc,Option.toList_some,List.map_append]
  exact(hrows.mono hle4).append (Rows.one hR4 rfl)
 ·obtain rfl : i = L.length := by omega
  rw[List.take_length]at hrows
  refine rFz [1] fun μ' hle' hno hrow=> .inl ⟨_,rfl,?_⟩
  exact Rows.sl hrow (hrows.mono hle') (Nat.le_trans (m:=100000000) (by omega) (by decide))
end
end Go.Vx
namespace Go.Vx
open Go.Proofs Classical
def T.occ(n:Int):T→Prop
 | .var m=>m=n
 | .pair a b=>a.occ n∨b.occ n
 |_=>False
end Go.Vx
namespace Go.Vx
open Go.Proofs Classical
def Gl.single(x:Gl):Prop:=x.kind≠0∧x.kind≠1∧x.kind≠7∧x.kind≠8
mutual
theorem Gl.cl_all:∀(g:Gl) {L:List (List Gl)},g.cl=some L→∀c∈L,∀x∈c,x∈g.all∧x.single
 | .mk k s ts gs,L,h=>by
  have hsub:∀y∈gs,∀x∈y.all,x∈(Gl.mk k s ts gs).all:=fun y hy x hx=>by
   rw[Gl.all_eq]
   exact List.mem_cons_of_mem _ (List.mem_flatMap.2 ⟨y,hy,hx⟩)
  rw[Gl.cl]at h
  split at h
  ·cases h;simp
  rename_i h0
  split at h
  ·cases h;simp
  rename_i h1
  split at h
  ·exact Gl.clOr_all gs (fun x=>x∈(Gl.mk k s ts gs).all∧x.single) (fun y hy x hx hs=>⟨hsub y hy x hx,hs⟩) (by simp) h
  rename_i h8
  split at h
  ·exact Gl.clAnd_all gs (fun x=>x∈(Gl.mk k s ts gs).all∧x.single) (fun y hy x hx hs=>⟨hsub y hy x hx,hs⟩) (by simp) h
  ·rename_i h7
   cases h
   intro c hc x hx
   rw[List.mem_singleton.1 hc]at hx
   rw[List.mem_singleton.1 hx]
   exact⟨by rw[Gl.all_eq];simp,h0,h1,h7,h8⟩
theorem Gl.clOr_all:∀(gs:List Gl) (Q:Gl→Prop) {acc L:List (List Gl)},(∀y∈gs,∀x∈y.all,x.single→Q x)→(∀c∈acc,∀x∈c,Q x)→Gl.clOr gs acc=some L→∀c∈L,∀x∈c,Q x
 |[],Q,acc,L,_,h1,h=>by
  rw[Gl.clOr]at h;cases h;exact h1
 |g::gs,Q,acc,L,hQ,h1,h=>by
  rw[Gl.clOr]at h
  cases e:g.cl with
  |none=>rw[e]at h;cases h
  |some l=>
   rw[e,Option.bind_some]at h
   have hb:=Gl.cl_all g e
   split at h
   ·exact Gl.clOr_all gs Q (acc:=acc++l) (fun y hy=>hQ y (by simp[hy])) (fun c hc x hx=>by
     rcases List.mem_append.1 hc with hc|hc
     ·exact h1 c hc x hx
     ·exact hQ g (by simp) x (hb c hc x hx).1 (hb c hc x hx).2) h
   ·cases h
theorem Gl.clAnd_all:∀(gs:List Gl) (Q:Gl→Prop) {acc L:List (List Gl)},(∀y∈gs,∀x∈y.all,x.single→Q x)→(∀c∈acc,∀x∈c,Q x)→Gl.clAnd gs acc=some L→∀c∈L,∀x∈c,Q x
 |[],Q,acc,L,_,h1,h=>by
  rw[Gl.clAnd]at h;cases h;exact h1
 |g::gs,Q,acc,L,hQ,h1,h=>by
  rw[Gl.clAnd]at h
  cases e:g.cl with
  |none=>rw[e]at h;cases h
  |some l=>
   rw[e,Option.bind_some]at h
   have hb:=Gl.cl_all g e
   split at h
   ·exact Gl.clAnd_all gs Q (acc:=eB acc l) (fun y hy=>hQ y (by simp[hy])) (fun c hc=>by
     have w_:=jX hc
     obtain⟨u,hu,w,hw,rfl⟩:=w_
     intro x hx
     rcases List.mem_append.1 hx with hx|hx
     ·exact h1 u hu x hx
     ·exact hQ g (by simp) x (hb w hw x hx).1 (hb w hw x hx).2) h
   ·cases h
end
section
variable {μ:Mem}
end
end Go.Vx
namespace Go.Vx
open Go.Proofs Classical
section
variable {μ:Mem}
theorem qLe{p:Pg}(hw:p.d.wd){i:Nat}{x:Rl}(hx:p.rels[i]? =some x):x.body.d.wd:=by
 have hw2:D.wds (p.rels.map Rl.d):=by rw[Pg.d_eq]at hw;exact hw.1
 have h:=D.wds_mem hw2 _ (mAt (lX (f:=Rl.d) hx))
 rw[Rl.d_eq]at h;exact h.2.2.2.1
set_option maxHeartbeats 8000000 in
end
end Go.Vx
namespace Go.Vx
open Go.Proofs Classical
structure RuD where
 rel:ByteArray
 hargs:List Tm
 clause:Int
 vals:List Tm
 pos:List Fc
 neg:List Fc
def RuD.d(x:RuD):D:= .st [.s x.rel,.sl 4 (x.hargs.map Tm.d),.i x.clause,.sl 4 (x.vals.map Tm.d),.sl 2 (x.pos.map Fc.d),.sl 2 (x.neg.map Fc.d)]
theorem RuD.d_eq(x:RuD):x.d= .st [.s x.rel,.sl 4 (x.hargs.map Tm.d),.i x.clause,.sl 4 (x.vals.map Tm.d),.sl 2 (x.pos.map Fc.d),.sl 2 (x.neg.map Fc.d)]:=rfl
theorem RuD.d_n(x:RuD):x.d.n=6:=by
 rw[RuD.d_eq]
 simp only[D.n,D.ns]
abbrev RuD.P:=(Option Addr×Nat)×(Option Addr×Nat)×(Option Addr×Nat)×(Option Addr×Nat)
def RuD.cs(x:RuD)(p:RuD.P):List Value:=[.string x.rel,.slice p.1.1 x.hargs.length p.1.2,.int .i64 x.clause,.slice p.2.1.1 x.vals.length p.2.1.2,.slice p.2.2.1.1 x.pos.length p.2.2.1.2,.slice p.2.2.2.1 x.neg.length p.2.2.2.2]
section
variable {μ:Mem}
def RuD.At(μ:Mem)(x:RuD)(p:RuD.P):Prop:=Sl μ 4 p.1.1 x.hargs.length (x.hargs.map Tm.d)∧Sl μ 4 p.2.1.1 x.vals.length (x.vals.map Tm.d)∧Sl μ 2 p.2.2.1.1 x.pos.length (x.pos.map Fc.d)∧Sl μ 2 p.2.2.2.1 x.neg.length (x.neg.map Fc.d)
theorem RuD.invA{x:RuD}{cs:List Value}(h:Rep μ x.d cs):∃p:RuD.P,cs=x.cs p∧RuD.At μ x p:=by
 rw[RuD.d_eq]at h
 obtain⟨a0,t0,rfl,h0,h⟩:=h
 have h0:a0=[.string x.rel]:=h0
 subst h0
 obtain⟨a1,t1,rfl,h1,h⟩:=h
 have w_:=fI (Rep.len _ _ h1)
 obtain⟨v1,rfl⟩:=w_
 have w_:=Rep.sl h1
 obtain⟨b1,c1,rfl,s1⟩:=w_
 rw[List.length_map]at s1
 obtain⟨a2,t2,rfl,h2,h⟩:=h
 have h2:a2=[.int .i64 x.clause]:=h2
 subst h2
 obtain⟨a3,t3,rfl,h3,h⟩:=h
 have w_:=fI (Rep.len _ _ h3)
 obtain⟨v3,rfl⟩:=w_
 have w_:=Rep.sl h3
 obtain⟨b3,c3,rfl,s3⟩:=w_
 rw[List.length_map]at s3
 obtain⟨a4,t4,rfl,h4,h⟩:=h
 have w_:=fI (Rep.len _ _ h4)
 obtain⟨v4,rfl⟩:=w_
 have w_:=Rep.sl h4
 obtain⟨b4,c4,rfl,s4⟩:=w_
 rw[List.length_map]at s4
 obtain⟨a5,t5,rfl,h5,h⟩:=h
 have w_:=fI (Rep.len _ _ h5)
 obtain⟨v5,rfl⟩:=w_
 have w_:=Rep.sl h5
 obtain⟨b5,c5,rfl,s5⟩:=w_
 rw[List.length_map]at s5
 obtain rfl:t5=[]:=h
 exact⟨((b1,c1),(b3,c3),(b4,c4),(b5,c5)),by simp[RuD.cs],⟨s1,s3,s4,s5⟩⟩
theorem RuD.rep{x:RuD}{cs:List Value}(h:Rep μ x.d cs):RepV μ x.d (.agg cs.toArray):=by
 rw[RuD.d_eq]at h ⊢;exact⟨cs,rfl,h⟩
theorem RuD.inv{x:RuD}{v:Value}(h:RepV μ x.d v):∃p:RuD.P,v= .agg #[.string x.rel,.slice p.1.1 x.hargs.length p.1.2,.int .i64 x.clause,.slice p.2.1.1 x.vals.length p.2.1.2,.slice p.2.2.1.1 x.pos.length p.2.2.1.2,.slice p.2.2.2.1 x.neg.length p.2.2.2.2]∧RuD.At μ x p:=by
 have h2:∃cs,v= .agg (List.toArray cs)∧Rep μ x.d cs:=by rw[RuD.d_eq]at h ⊢;exact h
 obtain⟨cs,rfl,h3⟩:=h2
 have w_:=RuD.invA h3
 obtain⟨p,rfl,hA⟩:=w_
 exact⟨p,rfl,hA⟩
theorem RuD.elemA{l:List RuD}{base:Option Addr}{n:Nat}(h:Sl μ 6 base n (l.map RuD.d)){i:Nat}{x:RuD}(hx:l[i]? =some x):∃ad,∃p:RuD.P,ElemAt μ base n 6 i ad (x.cs p)∧RepV μ x.d (.agg (x.cs p).toArray)∧RuD.At μ x p:=by
 have w_:=h.get i x.d (by simp[hx])
 obtain⟨ad,cs,h1,h2⟩:=w_
 have w_:=RuD.invA h2
 obtain⟨p,rfl,hA⟩:=w_
 exact⟨ad,p,h1,RuD.rep h2,hA⟩
theorem RuD.elem{l:List RuD}{base:Option Addr}{n:Nat}(h:Sl μ 6 base n (l.map RuD.d)){i:Nat}{x:RuD}(hx:l[i]? =some x):∃ad,∃p:RuD.P,ElemAt μ base n 6 i ad (x.cs p)∧RepV μ x.d (.agg (x.cs p).toArray):=by
 have w_:=RuD.elemA h hx
 obtain⟨ad,p,h1,h2,_⟩:=w_
 exact⟨ad,p,h1,h2⟩
end
end Go.Vx
namespace Go.Vx
open Go.Proofs Classical
noncomputable abbrev pL:List T→List T→Int:=bM T.cmp
theorem cmpL_ord:Ord3 pL:=qCn T.cmp_ord
structure F where
 rel:ByteArray
 args:List T
def F.fc(f:F):Fc:=⟨f.rel,f.args.map T.tm⟩
noncomputable def fN(a b:F):Int:=eL (mI a.rel b.rel) (pL a.args b.args)
theorem cmpF_ord:Ord3 fN where
 zero x y:=by
  rw[fN,yD,cName_ord.zero,cmpL_ord.zero]
  cases x;cases y;simp
 anti x y:=cName_ord.lex_anti fun _=>cmpL_ord.anti _ _
 trans x y z:=cName_ord.lex_trans fun _ _=>cmpL_ord.trans _ _ _
noncomputable abbrev lY(l:List F):List F:=qCs cmpF_ord l
theorem fV{α:Type}:∀{a b:List α},a.Nodup→(∀x∈a,x∈b)→a.length≤b.length
 |[],_,_,_=>Nat.zero_le _
 |x::a,b,hn,h=>by
  have w_:=List.nodup_cons.1 hn
  obtain⟨h1,h2⟩:=w_
  have w_:=List.append_of_mem (h x (by simp))
  obtain⟨s,t,rfl⟩:=w_
  have:=fV (a:=a) (b:=s++t) h2 fun y hy=>by
   have h3:=h y (by simp[hy])
   rcases List.mem_append.1 h3 with h3|h3
   ·simp[h3]
   ·rcases List.mem_cons.1 h3 with rfl | h3
    ·exact absurd hy h1
    ·simp[h3]
  simp only[List.length_append,List.length_cons]at*
  omega
theorem qGw{α:Type}{a b:List α}(hn:a.Nodup)(h:∀x∈a,x∈b)(hl:b.length≤a.length):∀x∈b,x∈a:=fun x hx=>Classical.byContradiction fun k=>by
 have:=fV (a:=x::a) (b:=b) (List.nodup_cons.2 ⟨k,hn⟩) fun y hy=>by
  rcases List.mem_cons.1 hy with rfl|hy
  ·exact hx
  ·exact h y hy
 rw[List.length_cons]at this;omega
theorem wA{α:Type}{c:α→α→Int}(ho:Ord3 c){a b:List α}(ha:Asc3 c a)(hb:Asc3 c b)(h:∀x∈a,x∈b)(hl:b.length=a.length):a=b:=
 ha.uniq ho hb fun x=>⟨h x,qGw (ha.nodup ho) h (by omega) x⟩
theorem qKy{α:Type}{c:α→α→Int}(ho:Ord3 c){a b:List α}(ha:Asc3 c a)(_hb:Asc3 c b)(h:∀x∈a,x∈b)(hne:b.length≠a.length):a.length<b.length:=by
 have:=fV (ha.nodup ho) h
 omega
structure Ru where
 head:F
 clause:Int
 vals:List T
 pos:List F
 neg:List F
def eT(vs:List T)(n:Int):Option T:=if 0≤n then vs[n.toNat]? else none
noncomputable def iZ(vs:List T)(g:Gl):F:=⟨g.name,g.terms.map fun t=>t.toT.subst (eT vs)⟩
def Gl.kid(g:Gl):Gl:=g.goals.getD 0 (.mk 0 ⟨#[]⟩ [] [])
def eP(k:Int)(xs:List T):Prop:=
 if k=0 then True else if k=2 then xs[0]? =xs[1]? else if k=3 then xs[0]?≠xs[1]? else if k=4 then ∃x,xs[0]? =some x∧x.tm.kind=2
 else if k=5 then ∃x,xs[0]? =some x∧x.tm.kind=3 else if k=6 then ∃x y,xs[0]? =some x∧xs[1]? =some y∧¬y.hasSym x.tm.name else False
def okG(U vs:List T)(g:Gl):Prop:=
 if g.kind=9 then ∀a∈(iZ vs g).args,a∈U else if g.kind=10 then ∀a∈(iZ vs g.kid).args,a∈U else eP g.kind (g.terms.map fun t=>t.toT.subst (eT vs))
noncomputable def dD(vs:List T)(c:List Gl):List F:=(c.filter fun g=>decide (g.kind=9)).map (iZ vs)
noncomputable def iO(vs:List T)(c:List Gl):List F:=(c.filter fun g=>decide (g.kind=10)).map fun g=>iZ vs g.kid
noncomputable def fD(r:Rl)(i:Nat)(c:List Gl)(vs:List T):Ru:=⟨⟨r.name,vs.take r.arity.toNat⟩,i,vs,dD vs c,iO vs c⟩
def eM(U:List T):Nat→Nat→List T
 |0,_=>[]
 |n+1,w=>U.getD (w % U.length) .nil::eM U n (w / U.length)
theorem jR(U:List T):∀n w,(eM U n w).length=n
 |0,_=>rfl
 |n+1,w=>by rw[eM,List.length_cons,jR U n]
theorem qCt(U:List T):∀k n w,k<n→(eM U n w)[k]? =some (U.getD (w / U.length ^ k % U.length) .nil)
 |k,0,w,h=>by omega
 |0,n+1,w,h=>by simp[eM]
 |k+1,n+1,w,h=>by
  rw[eM,List.getElem?_cons_succ,qCt U k n _ (by omega),Nat.div_div_eq_div_mul,←Nat.pow_succ']
theorem vJ(U:List T)(hU:0<U.length):∀n w,∀x∈eM U n w,x∈U
 |0,w,x,h=>by simp[eM]at h
 |n+1,w,x,h=>by
  rcases List.mem_cons.1 h with rfl|h
  ·rw [List.getD_eq_getElem?_getD, List.getElem?_eq_getElem (Nat.mod_lt _ hU)]
   exact List.getElem_mem _
  ·exact vJ U hU n _ x h
noncomputable def jL(U:List T)(r:Rl)(i:Nat)(c:List Gl)(w:Nat):Option Ru:=
 if ∀g∈c,okG U (eM U (r.arity+r.locals).toNat w) g then some (fD r i c (eM U (r.arity+r.locals).toNat w))else none
noncomputable def cX(U:List T)(r:Rl)(i:Nat)(c:List Gl)(w:Nat):List Ru:=(List.range w).filterMap (jL U r i c)
noncomputable def cM(U:List T)(r:Rl)(L:List (List Gl))(k:Nat):List Ru:=(List.range k).flatMap fun i=>cX U r i (L.getD i []) (U.length ^ (r.arity+r.locals).toNat)
noncomputable def gK(U:List T)(r:Rl):List Ru:=match r.body.cl with
 |none=>[]
 |some L=>cM U r L L.length
noncomputable def oX(p:Pg)(U:List T):List Ru:=p.rels.flatMap (gK U)
def waysOk(p:Pg)(U:List T):Prop:=∀r∈p.rels,r.body.cl≠none∧U.length ^ (r.arity+r.locals).toNat≤4096
noncomputable def iS(p:Pg)(U:List T):Option (List Ru):=if waysOk p U∧(oX p U).length≤2000 then some (oX p U)else none
theorem sM(U:List T)(r:Rl)(i:Nat)(c:List Gl)(w:Nat):cX U r i c (w+1)=cX U r i c w++(jL U r i c w).toList:=by
 rw[cX,List.range_succ,List.filterMap_append]
 cases h:jL U r i c w<;>simp[h,cX]
theorem qDy{U:List T}{r:Rl}{L:List (List Gl)}{k:Nat}{c:List Gl}(h:L[k]? =some c):cM U r L (k+1)=cM U r L k++cX U r k c (U.length ^ (r.arity+r.locals).toNat):=by
 rw[cM,List.range_succ,List.flatMap_append]
 congr 1
 simp[List.getD_eq_getElem?_getD,h]
theorem qDx{p:Pg}{U:List T}{i:Nat}{r:Rl}(h:p.rels[i]? =some r):(p.rels.take (i+1)).flatMap (gK U)=(p.rels.take i).flatMap (gK U)++gK U r:=by
 rw[List.take_add_one,h,Option.toList_some,List.flatMap_append]
 simp
def vP(pos neg:List F)(r:Ru):Prop:=(∀f∈r.pos,f∈pos)∧∀f∈r.neg,f∉neg
noncomputable def eI(rs:List Ru)(pos neg:List F):List F:=lY ((rs.filter fun r=>decide (vP pos neg r)).map Ru.head)
theorem qO{rs:List Ru}{pos neg:List F}{f:F}:f∈eI rs pos neg↔∃r∈rs,vP pos neg r∧r.head=f:=by
 rw[eI,jW,List.mem_map]
 constructor
 ·rintro ⟨r, h1, h2⟩
  rw[List.mem_filter,decide_eq_true_eq]at h1
  exact⟨r,h1.1,h1.2,h2⟩
 ·rintro ⟨r, h1, h2, h3⟩
  exact⟨r,by rw[List.mem_filter,decide_eq_true_eq];exact⟨h1,h2⟩,h3⟩
inductive Der (rs:List Ru) (base:List F):F→Prop
 |base {f:F} (h:f∈base):Der rs base f
 |rule {r:Ru} (h:r∈rs) (hp:∀f∈r.pos,Der rs base f):Der rs base r.head
noncomputable def lfp(rs:List Ru)(base:List F):List F:=lY ((base++rs.map Ru.head).filter fun f=>decide (Der rs base f))
theorem mem_lfp{rs:List Ru}{base:List F}{f:F}:f∈lfp rs base↔Der rs base f:=by
 rw[lfp,jW,List.mem_filter,decide_eq_true_eq]
 refine⟨fun h=>h.2,fun h=>⟨?_,h⟩⟩
 cases h with
 |base h=>exact List.mem_append_left _ h
 |rule h _=>exact List.mem_append_right _ (List.mem_map_of_mem h)
theorem qIi(rs:List Ru)(base:List F):Asc3 fN (lfp rs base):=mZ cmpF_ord _
theorem lfp_eq{rs:List Ru}{base S:List F}(ha:Asc3 fN S)(hb:∀f∈base,f∈S)(hd:∀f∈S,Der rs base f)(hc:∀r∈rs,(∀f∈r.pos,f∈S)→r.head∈S):S=lfp rs base:=
 ha.uniq cmpF_ord (qIi _ _) fun x=>by
  rw[mem_lfp]
  refine⟨hd x,fun h=>?_⟩
  induction h with
  |base h=>exact hb _ h
  |rule h _ ih=>exact hc _ h ih
noncomputable def nB(rs:List Ru)(S:List F):List Ru:=rs.filter fun r=>decide (∀f∈r.neg,f∉S)
theorem mem_unlessR{rs:List Ru}{S:List F}{r:Ru}:r∈nB rs S↔r∈rs∧∀f∈r.neg,f∉S:=by
 rw[nB,List.mem_filter,decide_eq_true_eq]
end Go.Vx
namespace Go.Vx
open Go.Proofs Classical
section
variable {μ:Mem}
theorem T.elemL{xs:List T}{base:Option Addr}{n:Nat}(h:Sl μ 4 base n ((xs.map T.tm).map Tm.d)){i:Nat}{x:T}(hx:xs[i]? =some x):∃ad,∃p:Option Addr×Nat,ElemAt μ base n 4 i ad (x.tm.cs p)∧RepV μ x.tm.d (.agg (x.tm.cs p).toArray):=
 Tm.elem h (by simp[hx])
theorem uJ{xs ys:List T}{base base2:Option Addr}{cap cap2:Nat}(hsl:Sl μ 4 base xs.length ((xs.map T.tm).map Tm.d))(hsl2:Sl μ 4 base2 ys.length ((ys.map T.tm).map Tm.d)):
  aQ Tryz.prog 115 [.slice base xs.length cap,.slice base2 ys.length cap2] μ (.int .i64 (pL xs ys)):=by
 refine Spec.mk Tryz.func115 (by kernel_rfl) ?_
 have hm1:=aI hsl.max
 have hm2:=aI hsl2.max
 refine lIn (fun i:Nat=>i≤xs.length∧i≤ys.length∧pL (xs.drop i) (ys.drop i)=pL xs ys)
  (fun i=>⟨[(0,.val (.slice base xs.length cap)),(1,.val (.slice base2 ys.length cap2)),(5,.val (.int .i64 i))],[],0,μ,Mem.nil⟩) (fun i=>xs.length-i)
  0 ⟨Nat.zero_le _,Nat.zero_le _,rfl⟩ (fun _=>⟨rfl,rfl⟩) ⟨⟨rfl,rfl,rfl,trivial⟩,trivial,rfl,rfl⟩ ?_
 rintro i ⟨hi,hj,hJ⟩
 have fin:¬(i<xs.length∧i<ys.length)→pL xs ys=jY xs.length ys.length:=fun h=>sP h hi hj hJ
 refine ifd (fun h1=>?_) (fun h1=>?_)
 ·refine ifd (fun h2 => ?_) (fun h2 => ?_)
  ·have w_ := aSo (l := xs) (i := i) (by omega)
   obtain⟨x,hx⟩:=w_
   have w_:=aSo (l:=ys) (i:=i) (by omega)
   obtain⟨y,hy⟩:=w_
   have w_:=T.elemL hsl hx
   obtain⟨ad,p,hel,hto⟩:=w_
   have w_:=T.elemL hsl2 hy
   obtain⟨ad2,p2,hel2,hto2⟩:=w_
   rw[cB hx,cB hy,pL,bM]at hJ
   refine eIn hel (eIn hel2 ?_)
   refine cGv (iV _ _ hto hto2) ?_
   refine aL (fun h5=>?_) (fun h5=>?_)
   ·rw [tM h5] at hJ
    exact rGv (congrArg (Value.int .i64) hJ) rfl
   ·rw [tH h5] at hJ
    exact aC (by omega) (by omega) ⟨i+1,⟨by omega,by omega,hJ⟩,by omega,⟨⟨rfl,rfl,rfl,trivial⟩,trivial,rfl,rfl⟩⟩
  ·have hf := fin (by omega)
   refine aL (fun h3=>?_) (fun h3=>?_)
   ·refine cGv (dS _) ?_
    exact rGv (by rw[hf,jY,if_neg h3]) rfl
   ·exact rGv (by rw[hf,jY,if_pos h3]) rfl
 ·have hf := fin (by omega)
  refine aL (fun h3=>?_) (fun h3=>?_)
  ·refine cGv (dS _) ?_
   exact rGv (by rw[hf,jY,if_neg h3]) rfl
  ·exact rGv (by rw[hf,jY,if_pos h3]) rfl
theorem F.inv{f:F}{v:Value}(h:RepV μ f.fc.d v):∃p:Fc.P,v= .agg #[.string f.rel,.slice p.1 f.args.length p.2]∧Sl μ 4 p.1 f.args.length ((f.args.map T.tm).map Tm.d):=by
 have w_:=Fc.inv h
 obtain⟨p,rfl,hA⟩:=w_
 have e:f.fc.args.length=f.args.length:=List.length_map ..
 have hA:Sl μ 4 p.1 f.fc.args.length ((f.args.map T.tm).map Tm.d):=hA
 rw[e]at hA ⊢
 exact⟨p,rfl,hA⟩
def F.cs(f:F)(p:Fc.P):List Value:=[.string f.rel,.slice p.1 f.args.length p.2]
theorem F.elem{l:List F}{base:Option Addr}{n:Nat}(h:Sl μ 2 base n ((l.map F.fc).map Fc.d)){i:Nat}{f:F}(hf:l[i]? =some f):∃ad,∃p:Fc.P,ElemAt μ base n 2 i ad (f.cs p)∧RepV μ f.fc.d (.agg (f.cs p).toArray)∧Sl μ 4 p.1 f.args.length ((f.args.map T.tm).map Tm.d):=by
 have w_:=Fc.elemA h (i:=i) (x:=f.fc) (by simp[hf])
 obtain⟨ad,p,h1,h2,h3⟩:=w_
 have e:f.fc.cs p=f.cs p:=by
  show [_,Value.slice p.1 (f.args.map T.tm).length p.2]=_
  rw[List.length_map];rfl
 rw[e]at h1 h2
 have h3:Sl μ 4 p.1 (f.args.map T.tm).length ((f.args.map T.tm).map Tm.d):=h3
 rw[List.length_map]at h3
 exact⟨ad,p,h1,h2,h3⟩
theorem F.mkV{f:F}{b:Option Addr}{c:Nat}(h:RepV μ (.sl 4 ((f.args.map T.tm).map Tm.d)) (.slice b f.args.length c)):RepV μ f.fc.d (.agg #[.string f.rel,.slice b f.args.length c]):=by
 rw[Fc.d_eq]
 exact⟨_,rfl,RepS.str (RepS.last h)⟩
theorem eR{f g:F}{v w:Value}(hv:RepV μ f.fc.d v)(hw:RepV μ g.fc.d w):aQ Tryz.prog 64 [v,w] μ (.int .i64 (fN f g)):=by
 have w_:=F.inv hv
 obtain⟨p,rfl,hs⟩:=w_
 have w_:=F.inv hw
 obtain⟨q,rfl,hs2⟩:=w_
 refine Spec.mk Tryz.func64 (by kernel_rfl) ?_
 intro r1 r2
 rw[fN]
 refine aL (fun h=>?_) (fun h=>?_)
 ·have e:eL (mI f.rel g.rel) (pL f.args g.args)=sgn (Op.bytesLess f.rel.data.toList g.rel.data.toList):=by
   rw[tM (fun k=>h ((cName_ord.zero _ _).1 k)),mI,if_neg h]
  rw[e]
  refine cGv (dS _) ?_
  exact rGv rfl rfl
 ·rw [tH ((cName_ord.zero _ _).2 h)]
  refine cGv (uJ hs hs2) ?_
  exact rGv rfl rfl
end
end Go.Vx
namespace Go.Vx
open Go.Proofs Classical
def sU(t:Tm):Prop:=t.Ok∧t.toT.vars=[]
structure UnivOk (l:List Tm):Prop where
 pos:1≤l.length
 max:l.length≤8
 gnd:∀t∈l,sU t
 asc:∀(i:Nat) x y,l[i]? =some x→l[i+1]? =some y→x.toT.cmp y.toT<0
theorem UnivOk.lift{l:List Tm}(h:UnivOk l):∃U:List T,l=U.map T.tm∧(∀x∈U,x.ok∧x.vars=[])∧U.length=l.length:=by
 have w_:=eY fun t ht=>(h.gnd t ht).1
 obtain⟨U,rfl,hU⟩:=w_
 refine⟨U,rfl,fun x hx=>⟨hU x hx,?_⟩,by rw[List.length_map]⟩
 have:=(h.gnd x.tm (List.mem_map_of_mem hx)).2
 rwa [T.toT_tm]at this
def qMg(p:Pg)(f:Fc):Prop:=∃(k:Nat) (r:Rl),dA p f.rel=(k:Int)∧p.rels[k]? =some r∧r.arity=(f.args.length:Int)
def FactFits(p:Pg)(f:Fc):Prop:=qMg p f∧∀t∈f.args,sU t
noncomputable def Fc.f(x:Fc):F:=⟨x.rel,x.args.map Tm.toT⟩
theorem FactFits.lift{p:Pg}{x:Fc}(h:FactFits p x):x.f.fc=x∧∀a∈x.f.args,a.ok∧a.vars=[]:=by
 have w_:=eY fun t ht=>(h.2 t ht).1
 obtain⟨xs,hxs,hok⟩:=w_
 have e:x.f.args=xs:=by show x.args.map Tm.toT=xs;rw[hxs,mT]
 refine⟨?_,fun a ha=>?_⟩
 ·show Fc.mk x.rel (x.f.args.map T.tm) = x
  rw[e,←hxs]
 ·rw [e] at ha
  refine⟨hok a ha,?_⟩
  have:=(h.2 a.tm (by rw[hxs];exact List.mem_map_of_mem ha)).2
  rwa [T.toT_tm]at this
section
variable {μ:Mem}
theorem fC(t:Tm){v:Value}(hv:RepV μ t.d v)(hw:t.d.wd):aQ Tryz.prog 62 [v] μ (.bool (decide (sU t))):=by
 by_cases h:t.Ok
 ·obtain ⟨x, hx, rfl⟩ := h.lift
  have:=oT x hv hx hw
  have e:(decide (x.vars=[]))=decide (sU x.tm):=decide_eq_decide.2 ⟨fun k=>⟨h,by rw[T.toT_tm];exact k⟩,fun k=>by have:=k.2;rwa [T.toT_tm]at this⟩
  rwa [e]at this
 ·have w_ := Tm.invV hv
  obtain⟨p,rfl⟩:=w_
  refine Spec.mk Tryz.func62 (by kernel_rfl) ?_
  intro r
  refine cGv (fL t hv hw) ?_
  refine ifd (fun k=>absurd k h) (fun _=>?_)
  exact rGv (by rw[decide_eq_false fun k=>h k.1]) rfl
def UnivTo(l:List Tm)(i:Nat):Prop:=∀j,j<i→(∀t,l[j]? =some t→sU t)∧∀k x y,k+1=j→l[k]? =some x→l[j]? =some y→x.toT.cmp y.toT<0
theorem UnivTo.all{l:List Tm}(h:UnivTo l l.length)(h1:1≤l.length)(h8:l.length≤8):UnivOk l where
 pos:=h1
 max:=h8
 gnd t ht:=by
  have w_:=List.mem_iff_getElem?.1 ht
  obtain⟨j,hj⟩:=w_
  exact(h j (List.getElem?_eq_some_iff.1 hj).1).1 t hj
 asc i x y hx hy:=(h (i+1) (List.getElem?_eq_some_iff.1 hy).1).2 i x y rfl hx hy
theorem mH{l:List Tm}{base:Option Addr}{cap:Nat}(hsl:Sl μ 4 base l.length (l.map Tm.d))(hw:D.wds (l.map Tm.d)):
  aQ Tryz.prog 121 [.slice base l.length cap] μ (.bool (decide (UnivOk l))):=by
 have hn:=aI hsl.max
 have bad:¬UnivOk l→Value.bool false= .bool (decide (UnivOk l)):=fun k=>isF k
 refine Spec.mk Tryz.func121 (by kernel_rfl) ?_
 refine lIn (fun i:Nat=>i≤l.length∧UnivTo l i)
  (fun i=>⟨[(0,.val (.slice base l.length cap)),(5,.val (.slice base l.length cap)),(6,.val (.int .i64 l.length)),(7,.val (.int .i64 i))],[],0,μ,Mem.nil⟩) (fun i=>l.length-i)
  0 ⟨Nat.zero_le _,fun j hj=>by omega⟩ (fun _=>⟨rfl,rfl⟩) ⟨⟨rfl,rfl,rfl,rfl,trivial⟩,trivial,rfl,rfl⟩ ?_
 rintro i ⟨hi,hall⟩
 refine ifd (fun hlt=>?_) (fun hlt=>?_)
 ·have w_ := aSo (l := l) (i := i) (by omega)
  obtain⟨t,ht⟩:=w_
  have w_:=Tm.elem hsl ht
  obtain⟨ad,p,hel,hr⟩:=w_
  refine eIn hel ?_
  intro r4
  refine cGv (fC t hr (D.wds_mem hw _ (mAt (lX (f:=Tm.d) ht)))) ?_
  refine aL (fun h=>rGv (bad fun k=>h (k.gnd t (mAt ht))) rfl) (fun hg=>?_)
  have ok1:(∀k x y,k+1=i→l[k]? =some x→l[i]? =some y→x.toT.cmp y.toT<0)→UnivTo l (i+1):=fun hc j hj=>by
   rcases Nat.lt_or_ge j i with h6|h6
   ·exact hall j h6
   ·obtain rfl : j = i := by omega
    exact⟨fun t' ht'=>by rw[ht]at ht';cases ht';exact hg,hc⟩
  refine ifd (fun hi0=>?_) (fun hi0=>?_)
  ·have w_ := aSo (l := l) (i := i - 1) (by omega)
   obtain⟨t',ht'⟩:=w_
   have w_:=Tm.elem hsl ht'
   obtain⟨ad',p',hel',hr'⟩:=w_
   have hg':=(hall (i-1) (by omega)).1 t' ht'
   obtain⟨x,_,rfl⟩:=hg.1.lift
   obtain⟨y,_,rfl⟩:=hg'.1.lift
   refine aC (by omega) (by omega) ?_
   refine eIn (by rw[show((i:Int)-1)=((i-1:Nat):Int) by omega];exact hel') ?_
   refine cGv (iV y x hr' hr) ?_
   refine ifd (fun hc=>(fun e=>rGv e rfl) ?_) (fun hc=>?_)
   ·refine bad fun k => ?_
    have:=k.asc (i-1) _ _ ht' (by rw[show i-1+1=i by omega];exact ht)
    rw[T.toT_tm,T.toT_tm]at this
    omega
   ·refine aC (by omega) (by omega) ⟨i + 1, ⟨by omega, ok1 fun k a b hk ha hb => ?_⟩, by omega, ⟨⟨rfl, rfl, rfl, rfl, trivial⟩, trivial, rfl, rfl⟩⟩
    obtain rfl:k=i-1:=by omega
    rw[ht']at ha;rw[ht]at hb;cases ha;cases hb
    rw[T.toT_tm,T.toT_tm];omega
  ·exact aC (by omega) (by omega) ⟨i+1,⟨by omega,ok1 fun k a b hk _ _=>by omega⟩,by omega,⟨⟨rfl,rfl,rfl,rfl,trivial⟩,trivial,rfl,rfl⟩⟩
 ·obtain rfl : i = l.length := by omega
  refine cGv (bU _ _ _ _) ?_
  refine rGv (isI ?_) rfl
  exact⟨fun h=>hall.all (by omega) (by omega),fun h=>⟨by have:=h.pos;omega,by have:=h.max;omega⟩⟩
noncomputable def zD(p:Pg)(s:ByteArray):Int:=if p.Ok then dA p s else -1
theorem pP{p:Pg}{s:ByteArray}{v:Value}(hp:RepV μ p.d v)(hw:p.d.wd):Spec Tryz.prog 82 [v,.string s] μ fun r _=>r= .int .i64 (zD p s):=by
 have hp0:=hp
 have w_:=Pg.inv hp
 obtain⟨q,rfl,_⟩:=w_
 refine Spec.mk Tryz.func82 (by kernel_rfl) ?_
 intro r2
 refine cPl (bP hp0 hw) fun v1 μ1 hle1 hR=>?_
 obtain rfl:=hR
 refine aL (fun h=>rPl (by rw[zD,if_neg h])) (fun h=>?_)
 refine cGv (eW (hp0.mono hle1)) ?_
 exact rPl (by rw[zD,if_pos h])
end
end Go.Vx
namespace Go.Vx
open Go.Proofs Classical
def iA(vs:List T):List B:=vs.zipIdx.map fun p=>⟨(p.2:Int),p.1⟩
theorem qHo:∀(vs:List T) (k:Nat) (n:Int),sub ((vs.zipIdx k).map fun p=>⟨(p.2:Int),p.1⟩) n=if(k:Int)≤n then vs[(n-k).toNat]? else none
 |[],k,n=>by simp[sub]
 |x::vs,k,n=>by
  rw[List.zipIdx_cons,List.map_cons,sub,qHo vs (k+1) n]
  by_cases h:(k:Int)=n
  ·subst h;simp
  ·rw [if_neg h]
   by_cases h2:(k:Int)≤n
   ·rw [if_pos (by omega), if_pos h2]
    obtain⟨m,hm⟩:∃m:Nat,(n-k).toNat=m+1:=⟨(n-k).toNat-1,by omega⟩
    rw[hm,List.getElem?_cons_succ]
    congr 1;omega
   ·rw[if_neg (by omega),if_neg h2]
theorem qKc(vs:List T):sub (iA vs)=eT vs:=funext fun n=>by
 rw[iA,qHo vs 0 n,eT]
 simp
theorem hO(vs:List T):(iA vs).length=vs.length:=by simp[iA]
theorem vV{vs:List T}{i:Nat}{x:T}(h:vs[i]? =some x):(iA vs)[i]? =some ⟨(i:Int),x⟩:=by simp[iA,h]
theorem kM(vs:List T)(i:Nat):(iA vs).take i=iA (vs.take i):=by
 refine List.ext_getElem? fun k=>?_
 simp only[iA,List.getElem?_take,List.getElem?_map,List.getElem?_zipIdx]
 split<;>simp
def WaysR(size n most:Nat)(r:Value):Prop:=∃w:Nat,r= .int .i64 w∧(size ^ n≤most→w=size ^ n)∧(most<size ^ n→most<w)
section
variable {μ:Mem}
theorem qAf{size n most:Nat}(h1:1≤size)(h8:size≤8)(hm:most≤100000)(hn:n≤1000)(hm1:1≤most):
  Spec Tryz.prog 122 [.int .i64 size,.int .i64 n,.int .i64 most] μ fun r μ'=>WaysR size n most r∧μ'=μ:=by
 refine Spec.forget (Spec.mk Tryz.func122 (by kernel_rfl) ?_)
 refine lIn (fun z:Nat×Nat=>z.1≤n∧z.2=size ^ z.1∧z.2≤8*most) (fun(i,k)=>⟨[(0,.val (.int .i64 size)),(1,.val (.int .i64 n)),(2,.val (.int .i64 most)),(7,.val (.int .i64 (k:Nat))),(8,.val (.int .i64 (i:Nat)))],[],0,μ,Mem.nil⟩) (fun z=>n-z.1)
  (0,1) ⟨Nat.zero_le _,rfl,by dsimp only;omega⟩ (fun(_,_)=>⟨rfl,rfl⟩) ⟨⟨rfl,rfl,rfl,rfl,rfl,trivial⟩,trivial,rfl,rfl⟩ ?_
 rintro⟨i,k⟩ ⟨hi,hk,hb⟩
 dsimp only at hi hk hb
 have mono:size ^ i≤size ^ n:=Nat.pow_le_pow_right h1 hi
 refine ifd (fun g1=>?_) (fun g1=>?_)
 ·refine ifd (fun g2 => ?_) (fun g2 => ?_)
  ·have hks:k*size≤8*most:=by
    have:=Nat.mul_le_mul (show k≤most by omega) h8
    omega
   refine nEq (x:=((k*size:Nat):Int)) (by rw[←Int.natCast_mul];exact aA (by omega) (by omega)) ?_
   exact aC (by omega) (by omega) ⟨(i+1,k*size),⟨by dsimp only;omega,by dsimp only;rw[hk,Nat.pow_succ],hks⟩,by dsimp only;omega,⟨⟨rfl,rfl,rfl,rfl,rfl,trivial⟩,trivial,rfl,rfl⟩⟩
  ·exact rPl ⟨k,rfl,fun h=>by omega,fun h=>by omega⟩
 ·obtain rfl : i = n := by omega
  exact rPl ⟨k,rfl,fun _=>hk,fun h=>by omega⟩
theorem qKb{U:List T}{ub:Option Addr}(hu:Sl μ 4 ub U.length ((U.map T.tm).map Tm.d))(hU:0<U.length)(w:Nat):∃ad,∃p:Option Addr×Nat,ElemAt μ ub U.length 4 ((w % U.length:Nat):Int) ad ((U.getD (w % U.length) .nil).tm.cs p)∧RepV μ (U.getD (w % U.length) .nil).tm.d (.agg ((U.getD (w % U.length) .nil).tm.cs p).toArray):=
 T.elemL hu (by rw[List.getD_eq_getElem?_getD,List.getElem?_eq_getElem (Nat.mod_lt _ hU)];rfl)
def lU(n:Nat):List Int:=(List.range n).map fun i:Nat=>(i:Int)
theorem pS(n:Nat):(lU n).length=n:=by simp[lU]
theorem rngI_at{n i:Nat}(h:i<n):(lU n)[i]? =some (i:Int):=by simp[lU,h]
set_option maxHeartbeats 1000000 in
theorem vS{U:List T}{ub vb:Option Addr}{uc vc n w:Nat}(hu:Sl μ 4 ub U.length ((U.map T.tm).map Tm.d))(hU:0<U.length)(hU8:U.length≤8)(hv:Sl μ 1 vb n ((lU n).map D.i))(hn:n≤1000)(hw:w≤100000):
  Spec Tryz.prog 123 [.slice vb n vc,.slice ub U.length uc,.int .i64 w] μ fun v μ'=>RepV μ' (.sl 5 (((iA (eM U n w)).map B.bd).map Bd.d)) v:=by
 refine Spec.mk Tryz.func123 (by kernel_rfl) ?_
 intro r10
 refine lIn (fun z:Nat×Option Nat×Nat×List Value=>z.1≤n∧Rows μ 5 (((iA ((eM U n w).take z.1)).map B.bd).map Bd.d) z.2.2.2)
  (fun(i,b,c,ys)=>⟨[(1,.val (.slice ub U.length uc)),(2,.val (.int .i64 ((w / U.length ^ i:Nat):Int))),(7,.row 0 b ys.length c),(11,.val (.slice vb n vc)),(12,.val (.int .i64 n)),(13,.val (.int .i64 i))],[(0,some (.row b c 110 5 ys))],1,μ,Mem.nil⟩) (fun z=>n-z.1)
  (0,some r10,0,[]) ⟨Nat.zero_le _,.nil⟩ (fun(_,_,_,_)=>⟨rfl,rfl⟩) ⟨⟨rfl,by rw[Nat.pow_zero,Nat.div_one];rfl,rfl,rfl,rfl,rfl,trivial⟩,⟨rfl,trivial⟩,rfl,rfl⟩ ?_
 rintro⟨i,b,c,ys⟩ ⟨hi,hrows⟩
 dsimp only at hi hrows
 have hlen:=hrows.len
 simp only[List.length_map,hO,List.length_take,jR]at hlen
 have hdw:w / U.length ^ i≤w:=Nat.div_le_self _ _
 refine ifd (fun h=>?_) (fun h=>?_)
 ·have w_ := Ints.elem hv (rngI_at (n := n) (i := i) (by omega))
  obtain⟨ad,hel⟩:=w_
  refine eIn hel ?_
  refine aD (by omega) ?_
  refine nEq (x:=((w / U.length ^ i % U.length:Nat):Int)) rfl ?_
  have w_:=qKb hu hU (w / U.length ^ i)
  obtain⟨ad2,p,hel2,hr⟩:=w_
  refine eIn hel2 ?_
  intro r27
  refine gIn ?_ ?_ fun b' c' _=>?_
  ·show(ys.length+1)*64≤_;omega
  ·exact Nat.le_trans (m:=100000000) (show ys.length+1≤_ by omega) (by decide)
  refine aD (by omega) ?_
  refine nEq (x:=((w / U.length ^ (i+1):Nat):Int)) ?_ ?_
  ·have e : w / U.length ^ (i + 1) = w / U.length ^ i / U.length := by rw [Nat.pow_succ, Nat.div_div_eq_div_mul]
   rw[e]
   have hd2:w / U.length ^ i / U.length≤w / U.length ^ i:=Nat.div_le_self _ _
   show IntKind.i64.wrap ((w / U.length ^ i / U.length:Nat):Int)=_
   generalize w / U.length ^ i / U.length=m at hd2 ⊢
   exact aA (by omega) (by omega)
  refine aC (by omega) (by omega) ⟨(i+1,b',c',_),⟨by dsimp only;omega,?_⟩,by dsimp only;omega,⟨⟨rfl,rfl,rfl,rfl,rfl,rfl,trivial⟩,⟨rfl,trivial⟩,rfl,rfl⟩⟩
  dsimp only
  rw[←kM,List.take_add_one,vV (qCt U i n w (by omega)),Option.toList_some,kM]
  simp only[List.map_append,List.map_cons,List.map_nil]
  exact hrows.append (Rows.one (RepV.bd hr) (Bd.d_n _))
 ·obtain rfl : i = n := by omega
  rw[List.take_of_length_le (by rw[jR];omega)]at hrows
  refine rFz [0] fun μ' hle' hno hrow=> .inl ?_
  exact Rows.sl hrow (hrows.mono hle') (Nat.le_trans (m:=100000000) (by omega) (by decide))
theorem qR{U:List T}{ub:Option Addr}{uc:Nat}{x:T}{v:Value}(hu:Sl μ 4 ub U.length ((U.map T.tm).map Tm.d))(hv:RepV μ x.tm.d v):
  aQ Tryz.prog 157 [.slice ub U.length uc,v] μ (.bool (decide (x∈U))):=by
 have hn:=aI hu.max
 have w_:=Tm.invV hv
 obtain⟨p,rfl⟩:=w_
 refine Spec.mk Tryz.func157 (by kernel_rfl) ?_
 intro r3
 refine lIn (fun i:Nat=>i≤U.length∧x∉U.take i)
  (fun i=>⟨[(3,.loc 0 r3 0),(7,.val (.slice ub U.length uc)),(8,.val (.int .i64 U.length)),(9,.val (.int .i64 i))],[(0,some (.cells r3 [.val (.int .i64 x.tm.kind),.val (.int .i64 x.tm.num),.val (.string x.tm.name),.val (.slice p.1 x.tm.args.length p.2)] 57))],1,μ,Mem.nil⟩) (fun i=>U.length-i)
  0 ⟨Nat.zero_le _,by simp⟩ (fun _=>⟨rfl,rfl⟩) ⟨⟨rfl,rfl,rfl,rfl,trivial⟩,⟨rfl,trivial⟩,rfl,rfl⟩ ?_
 rintro i ⟨hi,hnot⟩
 refine ifd (fun h=>?_) (fun h=>?_)
 ·have w_ := aSo (l := U) (i := i) (by omega)
  obtain⟨y,hy⟩:=w_
  have w_:=T.elemL hu hy
  obtain⟨ad,q,hel,hr⟩:=w_
  refine eIn hel ?_
  intro r6
  refine cGv (eZ y x hr hv) ?_
  refine ifd (fun h2=>rGv ?_ rfl) (fun h2=>?_)
  ·rw[decide_eq_true (by rw[←h2];exact mAt hy)]
  ·refine aC (by omega) (by omega) ⟨i + 1, ⟨by omega, ?_⟩, by omega, ⟨⟨rfl, rfl, rfl, rfl, trivial⟩, ⟨rfl, trivial⟩, rfl, rfl⟩⟩
   rw[List.take_add_one,hy,Option.toList_some,List.mem_append,List.mem_singleton]
   exact fun k=>k.elim hnot fun k=>h2 k.symm
 ·obtain rfl : i = U.length := by omega
  rw[List.take_length]at hnot
  exact rGv (by rw[decide_eq_false hnot]) rfl
theorem mM{U:List T}{ub fb:Option Addr}{uc fc:Nat}{l:List F}(hu:Sl μ 4 ub U.length ((U.map T.tm).map Tm.d))(hl:Sl μ 2 fb l.length ((l.map F.fc).map Fc.d)):
  aQ Tryz.prog 124 [.slice fb l.length fc,.slice ub U.length uc] μ (.bool (decide (∀f∈l,∀a∈f.args,a∈U))):=by
 have hn:=aI hl.max
 refine Spec.mk Tryz.func124 (by kernel_rfl) ?_
 refine lIn (fun i:Nat=>i≤l.length∧∀f∈l.take i,∀a∈f.args,a∈U)
  (fun i=>⟨[(1,.val (.slice ub U.length uc)),(9,.val (.slice fb l.length fc)),(10,.val (.int .i64 l.length)),(11,.val (.int .i64 i))],[],0,μ,Mem.nil⟩) (fun i=>l.length-i)
  0 ⟨Nat.zero_le _,by simp⟩ (fun _=>⟨rfl,rfl⟩) ⟨⟨rfl,rfl,rfl,rfl,trivial⟩,trivial,rfl,rfl⟩ ?_
 rintro i ⟨hi,hall⟩
 refine ifd (fun h=>?_) (fun h=>?_)
 ·have w_ := aSo (l := l) (i := i) (by omega)
  obtain⟨f,hf⟩:=w_
  have w_:=F.elem hl hf
  obtain⟨ad,p,hel,hr,hs⟩:=w_
  have hm:=aI hs.max
  refine eIn hel ?_
  intro r6
  refine lIn (fun k:Nat=>k≤f.args.length∧∀a∈f.args.take k,a∈U)
   (fun k=>⟨[(1,.val (.slice ub U.length uc)),(9,.val (.slice fb l.length fc)),(10,.val (.int .i64 l.length)),(11,.val (.int .i64 i)),(16,.val (.slice p.1 f.args.length p.2)),(17,.val (.int .i64 f.args.length)),(18,.val (.int .i64 k))],[],1,μ,Mem.nil⟩) (fun k=>f.args.length-k)
   0 ⟨Nat.zero_le _,by simp⟩ (fun _=>⟨rfl,rfl⟩) ⟨⟨rfl,rfl,rfl,rfl,rfl,rfl,rfl,trivial⟩,trivial,rfl,rfl⟩ ?_
  rintro k ⟨hk,hargs⟩
  refine ifd (fun h2=>?_) (fun h2=>?_)
  ·have w_ := aSo (l := f.args) (i := k) (by omega)
   obtain⟨a,ha⟩:=w_
   have w_:=T.elemL hs ha
   obtain⟨ad2,q,hel2,hr2⟩:=w_
   refine eIn hel2 ?_
   intro r8
   refine cGv (qR hu hr2) ?_
   refine aL (fun h3=>rGv ?_ rfl) (fun h3=>?_)
   ·rw[decide_eq_false fun k=>h3 (k f (mAt hf) a (mAt ha))]
   ·refine aC (by omega) (by omega) ⟨k + 1, ⟨by omega, ?_⟩, by omega, ⟨⟨rfl, rfl, rfl, rfl, rfl, rfl, rfl, trivial⟩, trivial, rfl, rfl⟩⟩
    rw[List.take_add_one,ha,Option.toList_some]
    intro y hy
    rcases List.mem_append.1 hy with hy|hy
    ·exact hargs y hy
    ·rw[List.mem_singleton.1 hy];exact h3
  ·obtain rfl : k = f.args.length := by omega
   rw[List.take_length]at hargs
   refine aC (by omega) (by omega) ⟨i+1,⟨by omega,?_⟩,by omega,⟨⟨rfl,rfl,rfl,rfl,trivial⟩,trivial,rfl,rfl⟩⟩
   rw[List.take_add_one,hf,Option.toList_some]
   intro y hy
   rcases List.mem_append.1 hy with hy|hy
   ·exact hall y hy
   ·rw[List.mem_singleton.1 hy];exact hargs
 ·obtain rfl : i = l.length := by omega
  rw[List.take_length]at hall
  exact rGv (by rw[decide_eq_true hall]) rfl
theorem F.fc_args(f:F):f.fc.args=f.args.map T.tm:=rfl
theorem lA{l:List F}{base:Option Addr}{cap:Nat}(hsl:Sl μ 2 base l.length ((l.map F.fc).map Fc.d))(hn:l.length≤10000000)(hl:∀f∈l,f.args.length≤1000000):
  Spec Tryz.prog 42 [.slice base l.length cap] μ fun v μ'=>RepV μ' (.sl 2 ((l.map F.fc).map Fc.d)) v:=by
 refine Spec.mkO [6] Tryz.func42 (by kernel_rfl) ?_
 intro r6 hm6 ho6
 refine lIn (fun p:Nat×Nat×Nat×Nat×List Value×Mem×Mem=>p.1≤l.length∧p.2.2.2.2.1.length=p.2.2.2.1∧RowO p.2.2.2.2.2.2 p.2.1 p.2.2.1 54 2 p.2.2.2.2.1∧Apart p.2.2.2.2.2.1 p.2.2.2.2.2.2∧μ.Le p.2.2.2.2.2.1∧Rows p.2.2.2.2.2.1 2 (((l.take p.1).map F.fc).map Fc.d) p.2.2.2.2.1)
  (fun(i,b,c,m,ys,μ',h)=>⟨[(3,.val (.slice (some ⟨b,0,none⟩) m c)),(7,.val (.slice base l.length cap)),(8,.val (.int .i64 l.length)),(9,.val (.int .i64 i))],[],0,μ',h⟩) (fun p=>l.length-p.1)
  (0,r6,0,0,[],μ,_) ⟨by simp,rfl,⟨[],Mem.set_at _ _ _,by simp,by simp,by simp,rfl,rfl⟩,(fK μ).set hm6,Mem.Le.refl _,.nil⟩ (fun(_,_,_,_,_,_,_)=>⟨rfl,rfl⟩) ⟨⟨rfl,rfl,rfl,rfl,trivial⟩,trivial,rfl,rfl⟩ ?_
 clear hm6 ho6
 rintro⟨i,b,c,m,ys,μ',h⟩ ⟨hi,hm,hb,hap,hle,hrows⟩
 dsimp only at hi hm hb hap hle hrows
 have hlen:=hrows.len
 simp only[List.length_map,List.length_take]at hlen
 refine ifd (fun hlt=>?_) (fun hlt=>?_)
 ·have w_ := aSo (l := l) (i := i) (by omega)
  obtain⟨f,hf⟩:=w_
  have w_:=F.elem (hsl.mono hle) hf
  obtain⟨ad,p,hel,hr,hs⟩:=w_
  refine eIn hel ?_
  intro r5
  have hfl:=hl f (mAt hf)
  refine cDa hap (eJ hs (by omega)) fun v1 μ1 hle1 hap1 hR=>?_
  have w_:=Rep.sl hR
  obtain⟨b4,c4,rfl,_⟩:=w_
  rw[List.length_map,List.length_map]at hR ⊢
  intro r20
  refine nG ys hm hb ?_ ?_ fun b' c' o hrow hor=>?_
  ·show(m+1)*40≤_;omega
  ·exact Nat.le_trans (m:=100000000) (show m+1≤_ by omega) (by decide)
  refine aC (by omega) (by omega) ⟨(i+1,b',c',m+1,_,μ1,_),⟨by dsimp only;omega,by dsimp only;rw[List.length_append,hm];rfl,hrow,hap1.set (qAc hb hap1 hor),hle.trans hle1,?_⟩,by dsimp only;omega,⟨⟨rfl,rfl,rfl,rfl,trivial⟩,trivial,rfl,rfl⟩⟩
  dsimp only
  rw[List.take_add_one,hf,Option.toList_some]
  simp only[List.map_append,List.map_cons,List.map_nil]
  exact(hrows.mono hle1).append (Rows.one (F.mkV hR) (Fc.d_n _))
 ·obtain rfl : i = l.length := by omega
  rw[List.take_length]at hrows
  refine dZ _ Mem.nil (Parts.nil_right _) ?_
  obtain⟨cs,hcell,hlen0,hcap,hone,hcs,htake⟩:=hb
  have hb2:μ' b=none:=by
   cases e:μ' b with
   |none=>rfl
   |some o=>have:=hap b (by simp[e]);rw[hcell]at this;cases this
  have hrow:RowAt (μ'.join h) (some b) c 2 ys:=⟨hlen0,hone,_,_,by rw[Mem.join_get,hb2];exact hcell,by simpa using hcs,by simpa using htake⟩
  subst hm
  exact Rows.sl hrow (hrows.mono (Mem.le_join _ _)) (Nat.le_trans (m:=100000000) (by omega) (by decide))
theorem yY{xs:List T}(h:xs.length=2):∃x y,xs=[x,y]:=by
 match xs,h with
 |[x,y],_=>exact⟨x,y,rfl⟩
theorem one_of'{xs:List T}(h:xs.length=1):∃x,xs=[x]:=by
 match xs,h with
 |[x],_=>exact⟨x,rfl⟩
structure SimpleLen (k:Int) (n:Nat):Prop where
 two:k=2∨k=3∨k=6→n=2
 one:k=4∨k=5→n=1
theorem testT_2{x y:T}:eP 2 [x,y]↔x=y:=by simp[eP]
theorem testT_3{x y:T}:eP 3 [x,y]↔x≠y:=by simp[eP]
theorem testT_4{x:T}:eP 4 [x]↔x.tm.kind=2:=by simp[eP]
theorem testT_5{x:T}:eP 5 [x]↔x.tm.kind=3:=by simp[eP]
theorem testT_6{x y:T}:eP 6 [x,y]↔¬y.hasSym x.tm.name:=by simp[eP]
theorem qBl{g:Gl}{xs:List T}{v:Value}(hv:RepV μ g.d v)(hx:g.terms=xs.map T.tm)(hl:SimpleLen g.kind xs.length):
  aQ Tryz.prog 113 [v] μ (.bool (decide (eP g.kind xs))):=by
 have w_:=Gl.inv hv
 obtain⟨p,rfl,hts,-⟩:=w_
 rw[hx]at hts ⊢
 rw[List.length_map]at hts ⊢
 refine Spec.mk Tryz.func113 (by kernel_rfl) ?_
 intro r1
 refine ifd (fun h=>rGv (by rw[h];simp[eP]) rfl) (fun h0=>?_)
 refine ifd (fun h=>?_) (fun h2=>?_)
 ·have w_ := yY (hl.two (by omega))
  obtain⟨x,y,rfl⟩:=w_
  have w_:=T.elemL hts (i:=0) (x:=x) rfl
  obtain⟨ad1,p1,e1,g1⟩:=w_
  have w_:=T.elemL hts (i:=1) (x:=y) rfl
  obtain⟨ad2,p2,e2,g2⟩:=w_
  refine eIn e1 (eIn e2 (cGv (eZ x y g1 g2) (rGv ?_ rfl)))
  rw[h];exact congrArg Value.bool (decide_eq_decide.2 testT_2.symm)
 refine ifd (fun h=>?_) (fun h3=>?_)
 ·have w_ := yY (hl.two (by omega))
  obtain⟨x,y,rfl⟩:=w_
  have w_:=T.elemL hts (i:=0) (x:=x) rfl
  obtain⟨ad1,p1,e1,g1⟩:=w_
  have w_:=T.elemL hts (i:=1) (x:=y) rfl
  obtain⟨ad2,p2,e2,g2⟩:=w_
  refine eIn e1 (eIn e2 (cGv (eZ x y g1 g2) (rGv ?_ rfl)))
  rw[h,←decide_not];exact congrArg Value.bool (decide_eq_decide.2 testT_3.symm)
 refine ifd (fun h=>?_) (fun h4=>?_)
 ·have w_ := one_of' (hl.one (by omega))
  obtain⟨x,rfl⟩:=w_
  have w_:=T.elemL hts (i:=0) (x:=x) rfl
  obtain⟨ad1,p1,e1,g1⟩:=w_
  refine eIn e1 (rGv ?_ rfl)
  rw[h];exact congrArg Value.bool (decide_eq_decide.2 testT_4.symm)
 refine ifd (fun h=>?_) (fun h5=>?_)
 ·have w_ := one_of' (hl.one (by omega))
  obtain⟨x,rfl⟩:=w_
  have w_:=T.elemL hts (i:=0) (x:=x) rfl
  obtain⟨ad1,p1,e1,g1⟩:=w_
  refine eIn e1 (rGv ?_ rfl)
  rw[h];exact congrArg Value.bool (decide_eq_decide.2 testT_5.symm)
 refine ifd (fun h=>?_) (fun h6=>?_)
 ·have w_ := yY (hl.two (by omega))
  obtain⟨x,y,rfl⟩:=w_
  have w_:=T.elemL hts (i:=0) (x:=x) rfl
  obtain⟨ad1,p1,e1,g1⟩:=w_
  have w_:=T.elemL hts (i:=1) (x:=y) rfl
  obtain⟨ad2,p2,e2,g2⟩:=w_
  refine eIn e2 (eIn e1 (cGv (qK x.tm.name y g2) (rGv ?_ rfl)))
  rw[h,←decide_not];exact congrArg Value.bool (decide_eq_decide.2 testT_6.symm)
 refine rGv ?_ rfl
 rw[decide_eq_false]
 unfold eP
 rw[if_neg h0,if_neg h2,if_neg h3,if_neg h4,if_neg h5,if_neg h6]
 exact id
end
end Go.Vx
namespace Go.Vx
open Go.Proofs Classical
def Ru.rd(r:Ru):RuD:=⟨r.head.rel,r.head.args.map T.tm,r.clause,r.vals.map T.tm,r.pos.map F.fc,r.neg.map F.fc⟩
structure ClG (g:Gl):Prop where
 sh:g.Sh
 one:g.kind≠7∧g.kind≠8
def okS(vs:List T)(g:Gl):Prop:=g.kind≠9→g.kind≠10→eP g.kind (g.terms.map fun t=>t.toT.subst (eT vs))
theorem qGj(vs:List T)(g:Gl):(iZ vs g).fc.args=(g.put (eT vs)).terms:=by
 rw[Gl.put_terms,F.fc_args]
 show(g.terms.map _).map _=_
 rw[List.map_map];rfl
theorem Gl.kid_at{g:Gl}(h:g.goals.length=1):g.goals[0]? =some g.kid:=by
 rw[Gl.kid,List.getD_eq_getElem?_getD]
 have w_:=aSo (l:=g.goals) (i:=0) (by omega)
 obtain⟨x,hx⟩:=w_
 rw[hx];rfl
theorem hC{vs:List T}{c:List Gl}{j:Nat}{g:Gl}(h:c[j]? =some g):dD vs (c.take (j+1))=dD vs (c.take j)++(if g.kind=9 then [iZ vs g]else []):=by
 rw[dD,List.take_add_one,h,Option.toList_some,List.filter_append,List.map_append]
 congr 1
 by_cases k:g.kind=9<;>simp[k]
theorem rG{vs:List T}{c:List Gl}{j:Nat}{g:Gl}(h:c[j]? =some g):iO vs (c.take (j+1))=iO vs (c.take j)++(if g.kind=10 then [iZ vs g.kid]else []):=by
 rw[iO,List.take_add_one,h,Option.toList_some,List.filter_append,List.map_append]
 congr 1
 by_cases k:g.kind=10<;>simp[k]
theorem ClG.simple{g:Gl}(h:ClG g):SimpleLen g.kind g.terms.length:=⟨h.sh.top.ln2,h.sh.top.ln1⟩
section
variable {μ:Mem}
theorem Gl.termsV{g:Gl}{k n ts gs:Value}(h:RepV μ g.d (.agg #[k,n,ts,gs])):RepV μ (.sl 4 (g.terms.map Tm.d)) ts:=by
 rw[Gl.d_eq]at h
 obtain⟨cs,e,h⟩:=h
 obtain⟨a0,t0,rfl,h0,h⟩:=h
 obtain⟨a1,t1,rfl,h1,h⟩:=h
 obtain⟨a2,t2,rfl,h2,h⟩:=h
 obtain⟨a3,t3,rfl,h3,h⟩:=h
 obtain rfl:t3=[]:=h
 have h0:a0=[.int .i64 g.kind]:=h0
 have h1:a1=[.string g.name]:=h1
 subst h0 h1
 have w_:=fI (Rep.len _ _ h2)
 obtain⟨v2,rfl⟩:=w_
 have w_:=fI (Rep.len _ _ h3)
 obtain⟨v3,rfl⟩:=w_
 have e2:[k,n,ts,gs]=[.int .i64 g.kind,.string g.name,v2,v3]:=congrArg (fun v=>match v with|Value.agg a=>a.toList|_=>[]) e
 have e3:ts=v2:=(List.cons.inj (List.cons.inj (List.cons.inj e2).2).2).1
 rw[e3];exact h2
theorem yP{vs:List T}{g:Gl}{k n gs:Value}{b:Option Addr}{m c:Nat}(h:RepV μ (g.put (eT vs)).d (.agg #[k,n,.slice b m c,gs])):RepV μ (iZ vs g).fc.d (.agg #[.string g.name,.slice b m c]):=by
 have h1:=Gl.termsV h
 rw[Fc.d_eq,qGj]
 exact⟨_,rfl,RepS.str (RepS.last h1)⟩
theorem zP{es:Nat}:∀{ys:List Value},(∀x∈ys,(aB x).length=es)→(ys.flatMap aB).length=ys.length*es
 |[],_=>by simp
 |y::ys,h=>by
  rw[List.flatMap_cons,List.length_append,zP fun x hx=>h x (by simp[hx]),h y (by simp),List.length_cons,Nat.succ_mul];omega
theorem RowAt.cut{b:Option Nat}{k es:Nat}{ys:List Value}(h:RowAt μ b k es ys)(a:Nat):RowAt μ b k es (ys.take a):=by
 cases b with
 |none=>
  have h:ys=[]:=h
  subst h
  exact List.take_nil
 |some r=>
  obtain⟨h1,h2,arr,ty,h3,h4,h5⟩:=h
  have hl:(ys.take a).length≤ys.length:=by rw[List.length_take];omega
  refine⟨by omega,fun x hx=>h2 x (List.mem_of_mem_take hx),arr,ty,h3,h4,?_⟩
  have e:((ys.take a).flatMap aB).length=(ys.take a).length*es:=zP fun x hx=>(h2 x (List.mem_of_mem_take hx)).1
  have e1:arr.toList.take ((ys.take a).length*es)=(arr.toList.take (ys.length*es)).take ((ys.take a).length*es):=by
   rw[List.take_take]
   congr 1
   have:=Nat.mul_le_mul_right es hl
   omega
  rw[e1,h5]
  conv=>lhs;rw[←List.take_append_drop a ys]
  rw[List.flatMap_append,List.take_left' (by rw[e];simp)]
theorem headSl{vs:List T}{a k:Nat}{b:Option Nat}{ys:List Value}(h:RowAt μ b k 4 ys)(hr:Rows μ 4 ((vs.map T.tm).map Tm.d) ys)(ha:a≤vs.length)(hm:vs.length≤1000):
  RepV μ (.sl 4 (((vs.take a).map T.tm).map Tm.d)) (.slice (if k=0 then(b.map fun r=>(⟨r,0,none⟩:Addr))else(b.map fun r=>(⟨r,0,none⟩:Addr)).map (·.add (0*4))) (a-0) (k-0)):=by
 have e:(if k=0 then(b.map fun r=>(⟨r,0,none⟩:Addr))else(b.map fun r=>(⟨r,0,none⟩:Addr)).map (·.add (0*4)))=b.map fun r=>(⟨r,0,none⟩:Addr):=by
  split
  ·rfl
  ·cases b<;>simp[Addr.add]
 rw[e,Nat.sub_zero,Nat.sub_zero]
 have hl:=hr.len
 simp only[List.length_map]at hl
 have hr2:Rows μ 4 (((vs.take a).map T.tm).map Tm.d) (ys.take a):=by
  have:=hr.take a
  simpa[List.map_take]using this
 have hyl:(ys.take a).length=a:=by rw[List.length_take];omega
 have ht:RowAt μ b k 4 (ys.take a):=RowAt.cut h a
 have:=Rows.sl ht hr2 (Nat.le_trans (m:=1000) (by omega) (by decide))
 rwa [hyl]at this
set_option maxHeartbeats 16000000 in
set_option maxRecDepth 20000 in
theorem pH{r:Rl}{v:Value}{c:List Gl}{cb bb:Option Addr}{cc bc a:Nat}{vs:List T}{i:Nat}(hr:RepV μ r.d v)(ha:r.arity=(a:Int))(hal:a≤vs.length)(hvs:vs.length≤12)
  (hc:Sl μ 4 cb c.length (c.map Gl.d)) (hcl:c.length≤1000) (hcs:∀g∈c,ClG g) (hb:Sl μ 5 bb vs.length (((iA vs).map B.bd).map Bd.d)):
  Spec Tryz.prog 63 [v,.int .i64 i,.slice cb c.length cc,.slice bb vs.length bc] μ fun res μ'=>∃(ru:Ru) (rv:Value),res= .tuple #[rv,.bool (decide (∀g∈c,okS vs g))]∧RepV μ' ru.rd.d rv∧((∀g∈c,okS vs g)→ru=fD r i c vs):=by
 have w_:=Rl.invV hr
 obtain⟨q,rfl⟩:=w_
 refine Spec.mk Tryz.func63 (by kernel_rfl) ?_
 intro r4 r8 r10
 refine bS (fun z:Nat×Option Nat×Nat×List Value=>z.1≤vs.length∧z.1≤z.2.2.1∧Rows μ 4 (((vs.take z.1).map T.tm).map Tm.d) z.2.2.2)
  (fun(k,b,n,ys)=>⟨[(2,.val (.slice cb c.length cc)),(3,.val (.slice bb vs.length bc)),(4,.loc 0 r4 0),(8,.loc 1 r8 0),(10,.loc 2 r10 0),(18,.val (.slice bb vs.length bc)),(19,.val (.int .i64 vs.length)),(20,.val (.int .i64 k))],[(0,some (.cells r4 [.val (.string r.name),.val (.int .i64 r.arity),.val (.int .i64 r.locals),.val (.int .i64 r.body.kind),.val (.string r.body.name),.val (.slice q.1.1 r.body.terms.length q.1.2),.val (.slice q.2.1 r.body.goals.length q.2.2)] 75)),(1,some (.cells r8 [.val (.string ⟨#[]⟩),.val (.slice none 0 0),.val (.int .i64 0),.val (.slice none 0 0),.val (.slice none 0 0),.val (.slice none 0 0)] 112)),(2,some (.cells r10 [.val (.string ⟨#[]⟩),.val (.slice none 0 0),.val (.int .i64 i),.row 3 b ys.length n,.val (.slice none 0 0),.val (.slice none 0 0)] 112)),(3,some (.row b n 57 4 ys))],4,μ,Mem.nil⟩) (fun z=>vs.length-z.1)
  (0,none,0,[]) ⟨Nat.zero_le _,Nat.le_refl _,.nil⟩ (fun(_,_,_,_)=>⟨rfl,rfl⟩) ?_ ?_
 ·exact⟨⟨⟨_,rfl,.inl rfl⟩,⟨_,rfl,.inl rfl⟩,⟨_,rfl,.inl rfl⟩,⟨_,rfl,.inl rfl⟩,⟨_,rfl,.inl rfl⟩,⟨_,rfl,.inl rfl⟩,⟨_,rfl,.inl rfl⟩,⟨_,rfl,.inl rfl⟩,trivial⟩,⟨.inl rfl,.inl rfl,.inr (.inr ⟨_,_,_,_,rfl,rfl,.inl rfl,.inl rfl,.inl rfl,.inr ⟨3,rfl,rfl,Nat.le_refl _⟩,.inl rfl,.inl rfl,trivial⟩),.inr (.inl ⟨_,_,rfl,Nat.le_refl _⟩),trivial⟩,rfl,rfl⟩
 rintro⟨k,b,n,ys⟩ ⟨hk,hkn,hrows⟩
 dsimp only at hk hkn hrows
 have hlen:=hrows.len
 simp only[List.length_map,List.length_take]at hlen
 refine ifd (fun hlt=>?_) (fun hlt=>?_)
 ·have w_ := aSo (l := vs) (i := k) (by omega)
  obtain⟨x,hx⟩:=w_
  have w_:=B.elem hb (vV hx)
  obtain⟨ad,p,hel,hto⟩:=w_
  refine eIn hel ?_
  intro r12 r28
  refine rV ?_ ?_ fun b' n' hcap _=>?_
  ·show(ys.length+1)*56≤_;omega
  ·exact Nat.le_trans (m:=100000000) (show ys.length+1≤_ by omega) (by decide)
  have hcap:ys.length+1≤n':=hcap
  refine aC (by omega) (by omega) ⟨(k+1,b',n',_),⟨by dsimp only;omega,by dsimp only;omega,?_⟩,by dsimp only;omega,⟨⟨rfl,rfl,rfl,rfl,rfl,rfl,rfl,rfl,trivial⟩,⟨rfl,rfl,rfl,rfl,trivial⟩,rfl,rfl⟩⟩
  dsimp only
  rw[List.take_add_one,hx,Option.toList_some]
  simp only[List.map_append,List.map_cons,List.map_nil]
  exact hrows.append (Rows.one hto (Tm.d_n _))
 obtain rfl:k=vs.length:=by omega
 rw[List.take_length]at hrows
 refine aE 0 a rfl ha (Nat.zero_le _) (by omega) ?_
 refine bS (fun z:Nat×(Option Nat×Nat×List Value)×(Option Nat×Nat×List Value)×Mem=>z.1≤c.length∧μ.Le z.2.2.2∧Rows z.2.2.2 2 (((dD vs (c.take z.1)).map F.fc).map Fc.d) z.2.1.2.2∧Rows z.2.2.2 2 (((iO vs (c.take z.1)).map F.fc).map Fc.d) z.2.2.1.2.2∧∀g∈c.take z.1,okS vs g)
  (fun(j,(pb,pc,ps),(nb,nc,ns),μ')=>⟨[(3,.val (.slice bb vs.length bc)),(8,.loc 1 r8 0),(10,.loc 2 r10 0),(41,.val (.slice cb c.length cc)),(42,.val (.int .i64 c.length)),(43,.val (.int .i64 j))],[(1,some (.cells r8 [.val (.string ⟨#[]⟩),.val (.slice none 0 0),.val (.int .i64 0),.val (.slice none 0 0),.val (.slice none 0 0),.val (.slice none 0 0)] 112)),(2,some (.cells r10 [.val (.string r.name),.val (.slice (if n=0 then(b.map fun r=>(⟨r,0,none⟩:Addr))else(b.map fun r=>(⟨r,0,none⟩:Addr)).map (·.add (0*4))) (a-0) (n-0)),.val (.int .i64 i),.row 3 b ys.length n,.row 4 pb ps.length pc,.row 5 nb ns.length nc] 112)),(3,some (.row b n 57 4 ys)),(4,some (.row pb pc 54 2 ps)),(5,some (.row nb nc 54 2 ns))],6,μ',Mem.nil⟩) (fun z=>c.length-z.1)
  (0,(none,0,[]),(none,0,[]),μ) ⟨Nat.zero_le _,Mem.Le.refl _,.nil,.nil,by simp⟩ (fun(_,(_,_,_),(_,_,_),_)=>⟨rfl,rfl⟩) ?_ ?_
 ·exact⟨⟨⟨_,rfl,.inl rfl⟩,⟨_,rfl,.inl rfl⟩,⟨_,rfl,.inl rfl⟩,⟨_,rfl,.inl rfl⟩,⟨_,rfl,.inl rfl⟩,⟨_,rfl,.inl rfl⟩,trivial⟩,⟨.inl rfl,.inr (.inr ⟨_,_,_,_,rfl,rfl,.inl rfl,.inl rfl,.inl rfl,.inl rfl,.inr ⟨4,rfl,rfl,Nat.le_refl _⟩,.inr ⟨5,rfl,rfl,Nat.le_succ 4⟩,trivial⟩),.inl rfl,.inr (.inl ⟨_,_,rfl,Nat.le_refl _⟩),.inr (.inl ⟨_,_,rfl,Nat.le_succ 4⟩),trivial⟩,rfl,rfl⟩
 rintro⟨j,⟨pb,pc,ps⟩,⟨nb,nc,ns⟩,μ'⟩ ⟨hj,hle,hps,hns,hall⟩
 dsimp only at hj hle hps hns hall
 have hpl:=hps.len
 have hnl:=hns.len
 have hpf:(dD vs (c.take j)).length≤1000:=by
  rw[dD,List.length_map]
  exact Nat.le_trans (List.length_filter_le _ _) (by rw[List.length_take];omega)
 have hnf:(iO vs (c.take j)).length≤1000:=by
  rw[iO,List.length_map]
  exact Nat.le_trans (List.length_filter_le _ _) (by rw[List.length_take];omega)
 simp only[List.length_map]at hpl hnl
 have fin:∀μ2 μ3 μ4:Mem,μ'.Le μ2→RowAt μ2 b n 4 ys→μ2.Le μ3→RowAt μ3 pb pc 2 ps→μ3.Le μ4→RowAt μ4 nb nc 2 ns→
   RepV μ4 (Ru.rd ⟨⟨r.name,vs.take a⟩,i,vs,dD vs (c.take j),iO vs (c.take j)⟩).d (.agg #[.string r.name,.slice (if n=0 then(b.map fun r=>(⟨r,0,none⟩:Addr))else(b.map fun r=>(⟨r,0,none⟩:Addr)).map (·.add (0*4))) (a-0) (n-0),.int .i64 i,.slice (b.map fun r=>(⟨r,0,none⟩:Addr)) ys.length n,.slice (pb.map fun r=>(⟨r,0,none⟩:Addr)) ps.length pc,.slice (nb.map fun r=>(⟨r,0,none⟩:Addr)) ns.length nc]):=by
  intro μ2 μ3 μ4 h1 h2 h3 h4 h5 h6
  have hmax:(1000:Nat)≤maxLen:=by decide
  have k1:=headSl h2 (hrows.mono (hle.trans h1)) hal (by omega)
  have k2:=Rows.sl h2 (hrows.mono (hle.trans h1)) (Nat.le_trans (m:=1000) (by omega) hmax)
  have k3:=Rows.sl h4 (hps.mono (h1.trans h3)) (Nat.le_trans (m:=1000) (by omega) hmax)
  have k4:=Rows.sl h6 (hns.mono ((h1.trans h3).trans h5)) (Nat.le_trans (m:=1000) (by omega) hmax)
  rw[RuD.d_eq]
  exact⟨_,rfl,RepS.str (RepS.cons1 (k1.mono (h3.trans h5)) (RepS.int (RepS.cons1 (k2.mono (h3.trans h5)) (RepS.cons1 (k3.mono h5) (RepS.last k4)))))⟩
 refine ifd (fun hlt=>?_) (fun hlt=>?_)
 rotate_left
 ·obtain rfl : j = c.length := by omega
  rw[List.take_length]at hall fin
  refine rFz [3,4,5] fun μ2 hle2 hno2 hat2 μ3 hle3 hno3 hat3 μ4 hle4 hno4 hat4=> .inl ⟨_,_,?_,fin μ2 μ3 μ4 hle2 hat2 hle3 hat3 hle4 hat4,fun _=>by rw[fD,ha];rfl⟩
  rw[decide_eq_true hall]
 have w_:=aSo (l:=c) (i:=j) (by omega)
 obtain⟨g,hg⟩:=w_
 have w_:=Gl.elem (hc.mono hle) hg
 obtain⟨ad,pg,hel,hrg⟩:=w_
 have hG:=hcs g (mAt hg)
 refine eIn hel ?_
 intro r14
 have hput:=qDo (bs:=iA vs) (b0:=bb) (c0:=bc) g hrg hG.sh (by rw[hO];exact hb.mono hle)
 rw[hO,qKc]at hput
 refine cPl hput fun v1 μ1 hle1 hR=>?_
 have w_:=Gl.invV hR
 obtain⟨p1,rfl⟩:=w_
 intro r15
 have all1:okS vs g→∀x∈c.take (j+1),okS vs x:=fun h x hx=>by
  rw[List.take_add_one,hg,Option.toList_some]at hx
  rcases List.mem_append.1 hx with hx|hx
  ·exact hall x hx
  ·rw[List.mem_singleton.1 hx];exact h
 refine ifd (fun h9=>?_) (fun h9=>?_)
 ·intro r61
  refine gIn ?_ ?_ fun b' c' _=>?_
  ·show(ps.length+1)*40≤_;omega
  ·exact Nat.le_trans (m:=100000000) (show ps.length+1≤_ by omega) (by decide)
  refine aC (by omega) (by omega) ⟨(j+1,(b',c',_),(nb,nc,ns),μ1),⟨by dsimp only;omega,hle.trans hle1,?_,?_,all1 fun k=>absurd h9 k⟩,by dsimp only;omega,⟨⟨rfl,rfl,rfl,rfl,rfl,rfl,trivial⟩,⟨rfl,rfl,rfl,rfl,rfl,trivial⟩,rfl,rfl⟩⟩
  ·dsimp only
   rw[hC hg,if_pos h9]
   simp only[List.map_append,List.map_cons,List.map_nil]
   have:=yP hR
   rw[Gl.put_name]
   exact(hps.mono hle1).append (Rows.one this (Fc.d_n _))
  ·dsimp only
   rw[rG hg,if_neg (by omega),List.append_nil]
   exact hns.mono hle1
 refine ifd (fun h10=>?_) (fun h10=>?_)
 ·have hgl := hG.sh.top.gl1 h10
  have w_:=Gl.inv hR
  obtain⟨q1,e1,_,hgs⟩:=w_
  have hkid:(g.put (eT vs)).goals[0]? =some (g.kid.put (eT vs)):=by rw[Gl.put_goals,List.getElem?_map,Gl.kid_at hgl];rfl
  have w_:=Gl.elem hgs hkid
  obtain⟨ad2,pk,hel2,hrk⟩:=w_
  have hp:q1=p1:=by
   have h2:=congrArg (fun v=>match v with|Value.agg a=>(a[2]?,a[3]?)|_=>(none,none)) e1
   simp at h2
   exact Prod.ext (Prod.ext h2.1.1.symm h2.1.2.symm) (Prod.ext h2.2.1.symm h2.2.2.symm)
  subst hp
  refine eIn hel2 ?_
  refine eIn hel2 ?_
  intro r81
  refine gIn ?_ ?_ fun b' c' _=>?_
  ·show(ns.length+1)*40≤_;omega
  ·exact Nat.le_trans (m:=100000000) (show ns.length+1≤_ by omega) (by decide)
  refine aC (by omega) (by omega) ⟨(j+1,(pb,pc,ps),(b',c',_),μ1),⟨by dsimp only;omega,hle.trans hle1,?_,?_,all1 fun _ k=>absurd h10 k⟩,by dsimp only;omega,⟨⟨rfl,rfl,rfl,rfl,rfl,rfl,trivial⟩,⟨rfl,rfl,rfl,rfl,rfl,trivial⟩,rfl,rfl⟩⟩
  ·dsimp only
   rw[hC hg,if_neg h9,List.append_nil]
   exact hps.mono hle1
  ·dsimp only
   rw[rG hg,if_pos h10]
   simp only[List.map_append,List.map_cons,List.map_nil]
   have:=yP (vs:=vs) (g:=g.kid) hrk
   rw[Gl.put_name]
   exact(hns.mono hle1).append (Rows.one this (Fc.d_n _))
 have hterms:(g.put (eT vs)).terms=(g.terms.map fun t=>t.toT.subst (eT vs)).map T.tm:=by rw[Gl.put_terms,List.map_map];rfl
 refine cGv (qBl hR hterms (by rw[Gl.put_kind,List.length_map];exact hG.simple)) ?_
 rw[Gl.put_kind]
 refine aL (fun hf=>?_) (fun hf=>?_)
 ·refine rFz [3, 4, 5] fun μ2 hle2 hno2 hat2 μ3 hle3 hno3 hat3 μ4 hle4 hno4 hat4 => .inl ⟨_, _, ?_, fin μ2 μ3 μ4 (hle1.trans hle2) hat2 hle3 hat3 hle4 hat4, fun k => absurd (k g (mAt hg) h9 h10) hf⟩
  rw[decide_eq_false fun k=>hf (k g (mAt hg) h9 h10)]
 ·refine aC (by omega) (by omega) ⟨(j + 1, (pb, pc, ps), (nb, nc, ns), μ1), ⟨by dsimp only; omega, hle.trans hle1, ?_, ?_, all1 fun _ _ => hf⟩, by dsimp only; omega, ⟨⟨rfl, rfl, rfl, rfl, rfl, rfl, trivial⟩, ⟨rfl, rfl, rfl, rfl, rfl, trivial⟩, rfl, rfl⟩⟩
  ·dsimp only
   rw[hC hg,if_neg h9,List.append_nil]
   exact hps.mono hle1
  ·dsimp only
   rw[rG hg,if_neg h10,List.append_nil]
   exact hns.mono hle1
end
end Go.Vx
namespace Go.Vx
open Go.Proofs Classical
section
variable {μ:Mem}
theorem qKv{p:Pg}{f:Fc}{k:Nat}(hk:dA p f.rel=(k:Int)){r:Rl}(hr:p.rels[k]? =some r):qMg p f↔r.arity=(f.args.length:Int):=by
 constructor
 ·rintro ⟨k', r', h1, h2, h3⟩
  have e:k'=k:=by omega
  rw[e,hr]at h2;cases h2;exact h3
 ·exact fun h=>⟨k,r,hk,hr,h⟩
theorem jU{p:Pg}{s:ByteArray}(h:0≤dA p s):∃(k:Nat) (r:Rl),dA p s=(k:Int)∧p.rels[k]? =some r∧r.name=s:=by
 have w_:=kY (l:=p.rels) (i:=0) (s:=s) h
 obtain⟨j,r,h1,h2,h3⟩:=w_
 exact⟨j,r,by rw[dA,h1];congr 1;omega,h2,h3⟩
theorem qL{p:Pg}{f:Fc}{v w:Value}(hp:RepV μ p.d v)(hw:p.d.wd)(hf:RepV μ f.d w)(hwf:f.d.wd):
  Spec Tryz.prog 43 [v,w] μ fun r _=>r= .bool (decide (p.Ok∧FactFits p f)):=by
 have hp0:=hp
 have w_:=Pg.inv hp
 obtain⟨q0,rfl,hrl⟩:=w_
 have w_:=Fc.inv hf
 obtain⟨q,rfl,hA⟩:=w_
 have hA:Sl μ 4 q.1 f.args.length (f.args.map Tm.d):=hA
 have hn:=aI hA.max
 refine Spec.mk Tryz.func43 (by kernel_rfl) ?_
 intro r2 r3
 refine cPl (pP hp0 hw) fun v1 μ1 hle1 hR=>?_
 obtain rfl:=hR
 refine ifd (fun hneg=>rPl (isF fun k=>?_)) (fun hge=>?_)
 ·obtain ⟨k', r', h1, _⟩ := k.2.1
  rw[zD,if_pos k.1]at hneg
  omega
 have hok:p.Ok:=Classical.byContradiction fun k=>by rw[zD,if_neg k]at hge;exact hge (by decide)
 rw[zD,if_pos hok]at hge ⊢
 have w_:=jU (show 0≤dA p f.rel by omega)
 obtain⟨k,r,hk,hr,_⟩:=w_
 have hfor:=qKv hk hr
 rw[hk]
 have w_:=Rl.elemA (hrl.mono hle1) hr
 obtain⟨ad,q2,hel,_,_⟩:=w_
 refine eIn hel ?_
 refine aL (fun h=>rPl (isF fun k=>h (hfor.1 k.2.1).symm)) (fun har=>?_)
 refine lIn (fun i:Nat=>i≤f.args.length∧∀t∈f.args.take i,sU t)
  (fun i=>⟨[(27,.val (.slice q.1 f.args.length q.2)),(28,.val (.int .i64 f.args.length)),(29,.val (.int .i64 i))],[],2,μ1,Mem.nil⟩) (fun i=>f.args.length-i)
  0 ⟨Nat.zero_le _,by simp⟩ (fun _=>⟨rfl,rfl⟩) ⟨⟨rfl,rfl,rfl,trivial⟩,trivial,rfl,rfl⟩ ?_
 rintro i ⟨hi,hall⟩
 refine ifd (fun hlt=>?_) (fun hlt=>?_)
 ·have w_ := aSo (l := f.args) (i := i) (by omega)
  obtain⟨t,ht⟩:=w_
  have w_:=Tm.elem (hA.mono hle1) ht
  obtain⟨ad,pt,hel,hrt⟩:=w_
  refine eIn hel ?_
  intro r7
  refine cGv (fC t hrt (D.wds_mem (by rw[Fc.d_eq]at hwf;exact hwf.2.1) _ (mAt (lX (f:=Tm.d) ht)))) ?_
  refine aL (fun h=>rPl (isF fun k=>h (k.2.2 t (mAt ht)))) (fun h=>?_)
  refine aC (by omega) (by omega) ⟨i+1,⟨by omega,?_⟩,by omega,⟨⟨rfl,rfl,rfl,trivial⟩,trivial,rfl,rfl⟩⟩
  rw[List.take_add_one,ht,Option.toList_some]
  intro y hy
  rcases List.mem_append.1 hy with hy|hy
  ·exact hall y hy
  ·rw[List.mem_singleton.1 hy];exact h
 ·obtain rfl : i = f.args.length := by omega
  rw[List.take_length]at hall
  exact rPl (isT ⟨hok,hfor.2 har.symm,hall⟩)
end
end Go.Vx
namespace Go.Vx
open Go.Proofs Classical
def optRu(P:List Ru→Value→Prop)(o:Option (List Ru))(v:Value):Prop:=match o with
 |some y=>∃tv,v= .tuple #[tv,.bool true]∧P y tv
 |none=>v= .tuple #[.slice none 0 0,.bool false]
noncomputable def dP(p:Pg)(l:List Tm):Option (List Ru):=if p.Ok∧UnivOk l then iS p (l.map Tm.toT)else none
theorem oC{U:List T}{r:Rl}{i:Nat}{c:List Gl}{w:Nat}:∀m,∃X,cX U r i c (w+m)=cX U r i c w++X
 |0=>⟨[],by simp⟩
 |m+1=>by
  have w_:=oC (U:=U) (r:=r) (i:=i) (c:=c) (w:=w) m
  obtain⟨X,hX⟩:=w_
  exact⟨X++(jL U r i c (w+m)).toList,by rw[←Nat.add_assoc,sM,hX,List.append_assoc]⟩
theorem qJw{α:Type}{A B:List α}(h:2000<(A.take 2001).length):(A++B).take 2001=A.take 2001:=by
 rw[List.length_take]at h
 rw[List.take_append_of_le_length (by omega)]
theorem qDj{α:Type}{A:List α}(h:(A.take 2001).length≤2000):A.length≤2000:=by
 rw[List.length_take]at h;omega
theorem okG_iff{U vs:List T}{c:List Gl}:(∀g∈c,okG U vs g)↔(∀g∈c,okS vs g)∧(∀f∈dD vs c,∀a∈f.args,a∈U)∧∀f∈iO vs c,∀a∈f.args,a∈U:=by
 constructor
 ·intro h
  refine⟨fun g hg h9 h10=>?_,fun f hf=>?_,fun f hf=>?_⟩
  ·have := h g hg
   rwa [okG,if_neg h9,if_neg h10]at this
  ·have w_ := List.mem_map.1 hf
   obtain⟨g,hg,rfl⟩:=w_
   have w_:=List.mem_filter.1 hg
   obtain⟨hg,h9⟩:=w_
   have h9:g.kind=9:=of_decide_eq_true h9
   have:=h g hg
   rwa [okG,if_pos h9]at this
  ·have w_ := List.mem_map.1 hf
   obtain⟨g,hg,rfl⟩:=w_
   have w_:=List.mem_filter.1 hg
   obtain⟨hg,h10⟩:=w_
   have h10:g.kind=10:=of_decide_eq_true h10
   have:=h g hg
   rwa [okG,if_neg (by omega),if_pos h10]at this
 ·rintro ⟨h1, h2, h3⟩ g hg
  rw[okG]
  split
  ·rename_i h9
   exact h2 _ (List.mem_map.2 ⟨g,List.mem_filter.2 ⟨hg,by simpa using h9⟩,rfl⟩)
  ·rename_i h9
   split
   ·rename_i h10
    exact h3 _ (List.mem_map.2 ⟨g,List.mem_filter.2 ⟨hg,by simpa using h10⟩,rfl⟩)
   ·rename_i h10
    exact h1 g hg h9 h10
theorem ClG.of{p:Pg}(hp:p.Ok){i:Nat}{r:Rl}(hi:p.rels[i]? =some r){L:List (List Gl)}(hL:r.body.cl=some L){c:List Gl}(hc:c∈L){g:Gl}(hg:g∈c):ClG g:=by
 have w_:=Gl.cl_all r.body hL c hc g hg
 obtain⟨h1,h2⟩:=w_
 exact⟨(hp.2 i r hi).body.all _ g h1,h2.2.2.1,h2.2.2.2⟩
theorem Gl.Sh.lens4{g:Gl}(h:g.Sh):g.terms.length≤4:=by
 have T:=h.top
 have e9:=T.ln9;have e2:=T.ln2;have e1:=T.ln1;have e0:=T.ln0;have k0:=T.k0;have k1:=T.k1
 omega
theorem yM{g:Gl}(h:ClG g)(vs:List T):(iZ vs g).args.length≤4:=by
 show(g.terms.map _).length≤4
 rw[List.length_map]
 exact h.sh.lens4
theorem qEo{vs:List T}{c:List Gl}(h:∀g∈c,ClG g):∀f∈dD vs c,f.args.length≤4:=fun f hf=>by
 have w_:=List.mem_map.1 hf
 obtain⟨g,hg,rfl⟩:=w_
 exact yM (h g (List.mem_filter.1 hg).1) vs
theorem ClG.kid{g:Gl}(h:ClG g)(h10:g.kind=10):ClG g.kid:=by
 have hk:=Gl.kid_at (h.sh.top.gl1 h10)
 have:=h.sh.top.cl h10 _ hk
 exact⟨h.sh.sub _ (mAt hk),by omega,by omega⟩
theorem qNc{vs:List T}{c:List Gl}(h:∀g∈c,ClG g):∀f∈iO vs c,f.args.length≤4:=fun f hf=>by
 have w_:=List.mem_map.1 hf
 obtain⟨g,hg,rfl⟩:=w_
 have w_:=List.mem_filter.1 hg
 obtain⟨hg,h10⟩:=w_
 exact yM ((h g hg).kid (of_decide_eq_true h10)) vs
theorem qIq{vs:List T}{c:List Gl}:(dD vs c).length≤c.length:=by
 rw[dD,List.length_map];exact List.length_filter_le _ _
theorem negF_le{vs:List T}{c:List Gl}:(iO vs c).length≤c.length:=by
 rw[iO,List.length_map];exact List.length_filter_le _ _
section
variable {μ:Mem}
theorem Ru.inv{r:Ru}{v:Value}(h:RepV μ r.rd.d v):∃p:RuD.P,v= .agg #[.string r.head.rel,.slice p.1.1 r.head.args.length p.1.2,.int .i64 r.clause,.slice p.2.1.1 r.vals.length p.2.1.2,.slice p.2.2.1.1 r.pos.length p.2.2.1.2,.slice p.2.2.2.1 r.neg.length p.2.2.2.2]∧
  Sl μ 4 p.1.1 r.head.args.length ((r.head.args.map T.tm).map Tm.d)∧Sl μ 4 p.2.1.1 r.vals.length ((r.vals.map T.tm).map Tm.d)∧Sl μ 2 p.2.2.1.1 r.pos.length ((r.pos.map F.fc).map Fc.d)∧Sl μ 2 p.2.2.2.1 r.neg.length ((r.neg.map F.fc).map Fc.d):=by
 have w_:=RuD.inv h
 obtain⟨p,rfl,h1,h2,h3,h4⟩:=w_
 have e1:r.rd.hargs.length=r.head.args.length:=List.length_map ..
 have e2:r.rd.vals.length=r.vals.length:=List.length_map ..
 have e3:r.rd.pos.length=r.pos.length:=List.length_map ..
 have e4:r.rd.neg.length=r.neg.length:=List.length_map ..
 rw[e1]at h1;rw[e2]at h2;rw[e3]at h3;rw[e4]at h4
 rw[e1,e2,e3,e4]
 exact⟨p,rfl,h1,h2,h3,h4⟩
theorem Ru.mkV{r:Ru}{b1 b2 b3 b4:Option Addr}{c1 c2 c3 c4:Nat}(h1:RepV μ (.sl 4 ((r.head.args.map T.tm).map Tm.d)) (.slice b1 r.head.args.length c1))(h2:RepV μ (.sl 4 ((r.vals.map T.tm).map Tm.d)) (.slice b2 r.vals.length c2))
  (h3:RepV μ (.sl 2 ((r.pos.map F.fc).map Fc.d)) (.slice b3 r.pos.length c3)) (h4:RepV μ (.sl 2 ((r.neg.map F.fc).map Fc.d)) (.slice b4 r.neg.length c4)):
  RepV μ r.rd.d (.agg #[.string r.head.rel,.slice b1 r.head.args.length c1,.int .i64 r.clause,.slice b2 r.vals.length c2,.slice b3 r.pos.length c3,.slice b4 r.neg.length c4]):=by
 rw[RuD.d_eq]
 exact⟨_,rfl,RepS.str (RepS.cons1 h1 (RepS.int (RepS.cons1 h2 (RepS.cons1 h3 (RepS.last h4)))))⟩
set_option maxHeartbeats 8000000 in
set_option maxRecDepth 20000 in
theorem lN{p:Pg}{l:List Tm}{v:Value}{ub:Option Addr}{uc:Nat}(hp:RepV μ p.d v)(hw:p.d.wd)(hu:Sl μ 4 ub l.length (l.map Tm.d))(hwu:D.wds (l.map Tm.d)):
  Spec Tryz.prog 79 [v,.slice ub l.length uc] μ fun v μ'=>optRu (fun y tv=>RepV μ' (.sl 6 ((y.map Ru.rd).map RuD.d)) tv) (dP p l) v:=by
 have hp0:=hp
 have w_:=Pg.inv hp
 obtain⟨q,rfl,hrl⟩:=w_
 refine Spec.mk Tryz.func79 (by kernel_rfl) ?_
 intro r2
 refine cPl (bP hp0 hw) fun v1 μ1 hle1 hR=>?_
 obtain rfl:=hR
 refine aL (fun h=>rPl (by rw[dP,if_neg fun k=>h k.1];rfl)) (fun hok=>?_)
 refine cGv (mH (hu.mono hle1) hwu) ?_
 refine aL (fun h=>rPl (by rw[dP,if_neg fun k=>h k.2];rfl)) (fun huok=>?_)
 obtain⟨U,rfl,hUg,hUl⟩:=huok.lift
 have hgo:dP p (U.map T.tm)=iS p U:=by rw[dP,if_pos ⟨hok,huok⟩,mT]
 rw[hgo]
 have hU1:1≤U.length:=by rw[hUl];exact huok.pos
 have hU8:U.length≤8:=by rw[hUl];exact huok.max
 rw[←hUl]at hu ⊢
 clear hgo hUl huok hUg hwu
 have hn:=hok.1
 intro r27
 refine lIn (fun z:Nat×Option Nat×Nat×List Value×Mem=>z.1≤p.rels.length∧μ1.Le z.2.2.2.2∧Rows z.2.2.2.2 6 (((((p.rels.take z.1).flatMap (gK U)).take 2001).map Ru.rd).map RuD.d) z.2.2.2.1∧∀r∈p.rels.take z.1,r.body.cl≠none∧U.length ^ (r.arity+r.locals).toNat≤4096)
  (fun(i,b,c,ys,μ')=>⟨[(1,.val (.slice ub U.length uc)),(6,.row 1 b ys.length c),(29,.val (.slice q.1 p.rels.length q.2)),(30,.val (.int .i64 p.rels.length)),(31,.val (.int .i64 i))],[(1,some (.row b c 112 6 ys))],2,μ',Mem.nil⟩) (fun z=>p.rels.length-z.1)
  (0,some r27,0,[],μ1) ⟨Nat.zero_le _,Mem.Le.refl _,.nil,by simp⟩ (fun(_,_,_,_,_)=>⟨rfl,rfl⟩) ⟨⟨rfl,rfl,rfl,rfl,rfl,trivial⟩,⟨rfl,trivial⟩,rfl,rfl⟩ ?_
 rintro⟨i,b,c,ys,μ'⟩ ⟨hi,hle,hrows,hways⟩
 dsimp only at hi hle hrows hways
 have hyl:=hrows.len
 simp only[List.length_map]at hyl
 refine ifd (fun hlt=>?_) (fun hlt=>?_)
 rotate_left
 ·obtain rfl : i = p.rels.length := by omega
  rw[List.take_length]at hrows hways hyl
  have hall:(p.rels.flatMap (gK U))=oX p U:=rfl
  rw[hall]at hrows hyl
  refine ifd (fun hbig=>rPl ?_) (fun hbig=>?_)
  ·rw[iS,if_neg fun k=>by have:=k.2;rw[List.length_take]at hyl;omega];rfl
  ·have hle2 : (oX p U).length ≤ 2000 := qDj (by omega)
   rw[List.take_of_length_le (by omega)]at hrows
   rw[iS,if_pos ⟨hways,hle2⟩]
   refine rFz [1] fun μ2 hle2 hno hat=> .inl ⟨_,rfl,?_⟩
   exact Rows.sl hat (hrows.mono hle2) (Nat.le_trans (m:=100000) (by rw[List.length_take]at hyl;omega) (by decide))
 have w_:=aSo (l:=p.rels) (i:=i) (by omega)
 obtain⟨r,hr⟩:=w_
 have w_:=Rl.elemA ((hrl.mono hle1).mono hle) hr
 obtain⟨ad,q2,hel,hrv,hb⟩:=w_
 have hb:RepV μ' r.body.d (.agg (r.body.cs q2).toArray):=hb
 have hrok:=hok.2 i r hr
 have w_:=Int.eq_ofNat_of_zero_le hrok.ar0
 obtain⟨a,ha⟩:=w_
 have w_:=Int.eq_ofNat_of_zero_le hrok.lo0
 obtain⟨lo,hlo⟩:=w_
 have har4:=hrok.ar4
 have hlo8:=hrok.lo8
 have hnn:(r.arity+r.locals).toNat=a+lo:=by omega
 have hsz:=hrok.size
 refine eIn hel ?_
 intro r8 r35
 refine lIn (fun z:Nat×Option Nat×Nat=>z.1≤a+lo)
  (fun(n,vb,vc)=>⟨[(1,.val (.slice ub U.length uc)),(6,.row 1 b ys.length c),(8,.loc 2 r8 0),(9,.row 3 vb (aF (lU n)).length vc),(10,.val (.int .i64 n)),(29,.val (.slice q.1 p.rels.length q.2)),(30,.val (.int .i64 p.rels.length)),(31,.val (.int .i64 i))],[(1,some (.row b c 112 6 ys)),(2,some (.cells r8 [.val (.string r.name),.val (.int .i64 r.arity),.val (.int .i64 r.locals),.val (.int .i64 r.body.kind),.val (.string r.body.name),.val (.slice q2.1.1 r.body.terms.length q2.1.2),.val (.slice q2.2.1 r.body.goals.length q2.2.2)] 75)),(3,some (.row vb vc 3 1 (aF (lU n))))],4,μ',Mem.nil⟩) (fun z=>a+lo-z.1)
  (0,some r35,0) (Nat.zero_le _) (fun(_,_,_)=>⟨rfl,rfl⟩) ⟨⟨rfl,rfl,rfl,rfl,rfl,rfl,rfl,rfl,trivial⟩,⟨rfl,rfl,rfl,trivial⟩,rfl,rfl⟩ ?_
 rintro⟨n,vb,vc⟩ hn2
 dsimp only at hn2
 have hil:(aF (lU n)).length=n:=by rw[aF,List.length_map,pS]
 refine nEq (x:=((a+lo:Nat):Int)) (by rw[aA (by omega) (by omega)];omega) ?_
 refine ifd (fun h2=>?_) (fun h2=>?_)
 ·intro r47
  refine gIn ?_ ?_ fun b' c' _=>?_
  ·show(_+1)*8≤_;omega
  ·exact Nat.le_trans (m:=1000) (show _+1≤_ by omega) (by decide)
  have ez:aF (lU (n+1))=aF (lU n)++[.int .i64 (n:Int)]:=by simp[aF,lU,List.range_succ]
  refine aC (by omega) (by omega) ⟨(n+1,b',c'),by dsimp only;omega,by dsimp only;omega,?_⟩
  dsimp only
  rw[ez]
  exact⟨⟨rfl,rfl,rfl,by rw[List.length_append];rfl,rfl,rfl,rfl,rfl,trivial⟩,⟨rfl,rfl,rfl,trivial⟩,rfl,rfl⟩
 obtain rfl:n=a+lo:=by omega
 refine cPl (lV hb (qLe hw hr) ⟨hrok.body,by omega⟩) fun v3 μ3 hle3 hR3=>?_
 have hwsp:=qAf (μ:=μ3) (size:=U.length) (n:=(aF (lU (a+lo))).length) (most:=4096) hU1 hU8 (by omega) (by omega) (by omega)
 cases hL:r.body.cl with
 |none=>
  rw[hL]at hR3
  obtain rfl:=hR3
  refine cPl hwsp fun v4 μ4 hle4 hR4=>?_
  obtain⟨⟨W,rfl,_,_⟩,rfl⟩:=hR4
  refine iIn (fun _=>rPl ?_) (fun h=>nomatch h)
  rw[iS,if_neg fun k=>(k.1 r (mAt hr)).1 hL];rfl
 |some L=>
 rw[hL]at hR3
 obtain⟨tv,rfl,hLr⟩:=hR3
 obtain⟨pv,rfl⟩:=hLr.inv
 refine cPl hwsp fun v4 μ4 hle4 hR4=>?_
 obtain⟨⟨W,rfl,hW1,hW2⟩,e4⟩:=hR4
 obtain rfl:=e4.symm
 rw[hil]at hW1 hW2
 refine iIn (fun h=>nomatch h) (fun _=>?_)
 refine ifd (fun hbig=>rPl ?_) (fun hsmall=>?_)
 ·rw[iS,if_neg fun k=>by
   have h1:=(k.1 r (mAt hr)).2
   rw[hnn]at h1
   have:=hW1 h1
   omega];rfl
 have hWle:U.length ^ (a+lo)≤4096:=Nat.le_of_not_lt fun h=>by have:=hW2 h;omega
 have w_:=hW1 hWle
 obtain rfl:=w_
 have hLs:=(Cls.sl hLr).1
 have hLb:=Gl.cl_bnd r.body hL
 generalize hpre:(p.rels.take i).flatMap (gK U)=pre at*
 refine lFz (fun z:Nat×Option Nat×Nat×List Value×Mem×(Option Nat×Nat)=>z.1≤L.length∧μ3.Le z.2.2.2.2.1∧Sl z.2.2.2.2.1 1 (z.2.2.2.2.2.1.map fun r=>(⟨r,0,none⟩:Addr)) (a+lo) ((lU (a+lo)).map D.i)∧Rows z.2.2.2.2.1 6 ((((pre++cM U r L z.1).take 2001).map Ru.rd).map RuD.d) z.2.2.2.1)
  (fun(k,b,c,ys,μ',vb,vc)=>⟨[(1,.val (.slice ub U.length uc)),(6,.row 1 b ys.length c),(8,.loc 2 r8 0),(9,.val (.slice (vb.map fun r=>(⟨r,0,none⟩:Addr)) (aF (lU (a+lo))).length vc)),(13,.val (.int .i64 ((U.length ^ (a+lo):Nat):Int))),(29,.val (.slice q.1 p.rels.length q.2)),(30,.val (.int .i64 p.rels.length)),(31,.val (.int .i64 i)),(66,.val (.slice pv.1 L.length pv.2)),(67,.val (.int .i64 L.length)),(68,.val (.int .i64 k))],[(1,some (.row b c 112 6 ys)),(2,some (.cells r8 [.val (.string r.name),.val (.int .i64 r.arity),.val (.int .i64 r.locals),.val (.int .i64 r.body.kind),.val (.string r.body.name),.val (.slice q2.1.1 r.body.terms.length q2.1.2),.val (.slice q2.2.1 r.body.goals.length q2.2.2)] 75))],4,μ',Mem.nil⟩) (fun z=>L.length-z.1) [3]
  (fun(_,_,_,_,_,_,_)=>⟨rfl,rfl⟩) ?_ ?_
 ·intro μf hlef hnof hatf
  have hsl:=Ints.sl hatf (Nat.le_trans (m:=1000) (by rw[pS];omega) (by decide))
  rw[hil]at hsl
  have w_:=Rep.sl hsl
  obtain⟨bz,cz,ez,hzs⟩:=w_
  have w_:=Value.slice.inj ez
  obtain⟨e1,_,_⟩:=w_
  rw[←e1,List.length_map,pS]at hzs
  refine⟨(0,b,c,ys,μf,vb,vc),⟨Nat.zero_le _,hlef,hzs,?_⟩,⟨⟨rfl,rfl,rfl,rfl,rfl,rfl,rfl,rfl,rfl,rfl,rfl,trivial⟩,⟨rfl,rfl,trivial⟩,rfl,rfl⟩⟩
  have e0:pre++cM U r L 0=pre:=by simp[cM]
  dsimp only
  rw[e0]
  exact(hrows.mono hle3).mono hlef
 clear hrows hyl hil
 rintro⟨k,b,c,ys,μ5,vb,vc⟩ ⟨hk,hle5,hvs,hrows⟩
 dsimp only at hk hle5 hvs hrows
 have hil:(aF (lU (a+lo))).length=a+lo:=by rw[aF,List.length_map,pS]
 refine ifd (fun hltk=>?_) (fun hltk=>?_)
 rotate_left
 ·obtain rfl : k = L.length := by omega
  refine aC (by omega) (by omega) ⟨(i+1,b,c,ys,μ5),⟨by dsimp only;omega,(hle.trans hle3).trans hle5,?_,?_⟩,by dsimp only;omega,⟨⟨rfl,rfl,rfl,rfl,rfl,trivial⟩,⟨rfl,trivial⟩,rfl,rfl⟩⟩
  ·dsimp only
   rw[qDx hr,hpre]
   have e:gK U r=cM U r L L.length:=by rw[gK,hL]
   rw[e];exact hrows
  ·dsimp only
   intro x hx
   rw[List.take_add_one,hr,Option.toList_some]at hx
   rcases List.mem_append.1 hx with hx|hx
   ·exact hways x hx
   ·rw [List.mem_singleton.1 hx, hL, hnn]
    exact⟨(fun h=>nomatch h),hWle⟩
 have w_:=aSo (l:=L) (i:=k) (by omega)
 obtain⟨cl,hcl⟩:=w_
 have w_:=gD (hLs.mono hle5) hcl
 obtain⟨adc,pc,helc,hrc⟩:=w_
 have hcs:Sl μ5 4 pc.1 cl.length (cl.map Gl.d):=by
  have w_:=Rep.sl (xs:=cl.map Gl.d) hrc
  obtain⟨b',c',e1,hs⟩:=w_
  have w_:=Value.slice.inj e1
  obtain⟨rfl,_,_⟩:=w_
  simpa using hs
 have hcb:=hLb.1 cl (mAt hcl)
 have hG:∀g∈cl,ClG g:=fun g hg=>ClG.of hok hr hL (mAt hcl) hg
 refine eIn helc ?_
 refine lIn (fun z:Nat×Option Nat×Nat×List Value×Mem=>z.1≤U.length ^ (a+lo)∧μ5.Le z.2.2.2.2∧Rows z.2.2.2.2 6 ((((pre++cM U r L k++cX U r k cl z.1).take 2001).map Ru.rd).map RuD.d) z.2.2.2.1)
  (fun(w,b,c,ys,μ')=>⟨[(1,.val (.slice ub U.length uc)),(6,.row 1 b ys.length c),(8,.loc 2 r8 0),(9,.val (.slice (vb.map fun r=>(⟨r,0,none⟩:Addr)) (aF (lU (a+lo))).length vc)),(13,.val (.int .i64 ((U.length ^ (a+lo):Nat):Int))),(14,.val (.int .i64 k)),(15,.val (.slice pc.1 cl.length pc.2)),(16,.val (.int .i64 (w:Nat))),(29,.val (.slice q.1 p.rels.length q.2)),(30,.val (.int .i64 p.rels.length)),(31,.val (.int .i64 i)),(66,.val (.slice pv.1 L.length pv.2)),(67,.val (.int .i64 L.length)),(68,.val (.int .i64 k))],[(1,some (.row b c 112 6 ys)),(2,some (.cells r8 [.val (.string r.name),.val (.int .i64 r.arity),.val (.int .i64 r.locals),.val (.int .i64 r.body.kind),.val (.string r.body.name),.val (.slice q2.1.1 r.body.terms.length q2.1.2),.val (.slice q2.2.1 r.body.goals.length q2.2.2)] 75))],4,μ',Mem.nil⟩) (fun z=>U.length ^ (a+lo)-z.1)
  (0,b,c,ys,μ5) ⟨Nat.zero_le _,Mem.Le.refl _,by simpa[cX]using hrows⟩ (fun(_,_,_,_,_)=>⟨rfl,rfl⟩) ⟨⟨rfl,rfl,rfl,rfl,rfl,rfl,rfl,rfl,rfl,rfl,rfl,rfl,rfl,rfl,trivial⟩,⟨rfl,rfl,trivial⟩,rfl,rfl⟩ ?_
 clear hrows
 rintro⟨w,b,c,ys,μ6⟩ ⟨hw6,hle6,hrows⟩
 dsimp only at hw6 hle6 hrows
 have hyl:=hrows.len
 simp only[List.length_map]at hyl
 have done:(pre++cM U r L k++cX U r k cl w).take 2001=(pre++cM U r L (k+1)).take 2001→∃i':Nat×Option Nat×Nat×List Value×Mem×(Option Nat×Nat),i'=(k+1,b,c,ys,μ6,vb,vc)∧(k+1≤L.length∧μ3.Le μ6∧Sl μ6 1 (vb.map fun r=>(⟨r,0,none⟩:Addr)) (a+lo) ((lU (a+lo)).map D.i)∧Rows μ6 6 ((((pre++cM U r L (k+1)).take 2001).map Ru.rd).map RuD.d) ys):=fun e=>
  ⟨_,rfl,by omega,hle5.trans hle6,hvs.mono hle6,by rw[←e];exact hrows⟩
 have hsucc:=qDy (U:=U) (r:=r) hcl
 rw[hnn]at hsucc
 refine ifd (fun hltw=>?_) (fun hltw=>?_)
 rotate_left
 ·obtain rfl : w = U.length ^ (a + lo) := by omega
  have w_:=done (by rw[hsucc,List.append_assoc])
  obtain⟨i',rfl,hI⟩:=w_
  exact aC (by omega) (by omega) ⟨[],(k+1,b,c,ys,μ6,vb,vc),hI,by dsimp only;omega,⟨⟨rfl,rfl,rfl,rfl,rfl,rfl,rfl,rfl,rfl,rfl,rfl,trivial⟩,⟨rfl,rfl,trivial⟩,rfl,rfl⟩⟩
 refine ifd (fun hroom=>?_) (fun hroom=>?_)
 rotate_left
 ·have w_ := oC (U := U) (r := r) (i := k) (c := cl) (w := w) (U.length ^ (a + lo) - w)
  obtain⟨X,hX⟩:=w_
  rw[show w+(U.length ^ (a+lo)-w)=U.length ^ (a+lo) by omega]at hX
  obtain⟨i',rfl,hI⟩:=done (by
   rw[hsucc,hX,←List.append_assoc,←List.append_assoc]
   exact(qJw (by omega)).symm)
  exact aC (by omega) (by omega) ⟨[],(k+1,b,c,ys,μ6,vb,vc),hI,by dsimp only;omega,⟨⟨rfl,rfl,rfl,rfl,rfl,rfl,rfl,rfl,rfl,rfl,rfl,trivial⟩,⟨rfl,rfl,trivial⟩,rfl,rfl⟩⟩
 have hA:=qDj (A:=pre++cM U r L k++cX U r k cl w) (by omega)
 have hA1:(pre++cM U r L k++cX U r k cl w).take 2001=pre++cM U r L k++cX U r k cl w:=List.take_of_length_le (by omega)
 rw[hA1]at hrows hyl
 have hnext:=sM U r k cl w
 have hu6:=(((hu.mono hle1).mono hle).mono hle3).mono (hle5.trans hle6)
 have hvals:=vS (uc:=uc) (vc:=vc) (n:=a+lo) (w:=w) hu6 (by omega) hU8 (hvs.mono hle6) (by omega) (by omega)
 rw[←hil]at hvals
 refine cPl hvals fun v7 μ7 hle7 hR7=>?_
 rw[hil]at hR7
 have w_:=Rep.sl hR7
 obtain⟨b7,c7,e7,hs7⟩:=w_
 simp only[List.length_map,hO]at e7 hs7
 subst e7
 have hdl:=jR U (a+lo) w
 have hrv7:=(hrv.mono hle3).mono ((hle5.trans hle6).trans hle7)
 refine cPl (pH (i:=k) (vs:=eM U (a+lo) w) (a:=a) hrv7 ha (by omega) (by omega) ((hcs.mono hle6).mono hle7) (by omega) hG hs7) fun v8 μ8 hle8 hR8=>?_
 obtain⟨ru,rv,rfl,hrr,hru⟩:=hR8
 have w_:=Ru.inv hrr
 obtain⟨pr,rfl,h81,h82,h83,h84⟩:=w_
 intro r17
 have hu8:=(hu6.mono hle7).mono hle8
 have hmono:=(hle6.trans hle7).trans hle8
 have skip:¬(∀g∈cl,okG U (eM U (a+lo) w) g)→Rows μ8 6 ((((pre++cM U r L k++cX U r k cl (w+1)).take 2001).map Ru.rd).map RuD.d) ys:=fun h=>by
  rw[hnext,jL,hnn,if_neg h,Option.toList_none,List.append_nil,hA1]
  exact(hrows.mono hle7).mono hle8
 refine ifd (fun hS=>?_) (fun hS=>?_)
 rotate_left
 ·exact aC (by omega) (by omega) ⟨(w+1,b,c,ys,μ8),⟨by dsimp only;omega,hmono,skip fun k=>hS (okG_iff.1 k).1⟩,by dsimp only;omega,⟨⟨rfl,rfl,rfl,rfl,rfl,rfl,rfl,rfl,rfl,rfl,rfl,rfl,rfl,rfl,trivial⟩,⟨rfl,rfl,trivial⟩,rfl,rfl⟩⟩
 have w_:=hru hS
 obtain rfl:=w_
 refine cGv (mM hu8 h83) ?_
 refine ifd (fun hP=>?_) (fun hP=>?_)
 rotate_left
 ·exact aC (by omega) (by omega) ⟨(w+1,b,c,ys,μ8),⟨by dsimp only;omega,hmono,skip fun k=>hP (okG_iff.1 k).2.1⟩,by dsimp only;omega,⟨⟨rfl,rfl,rfl,rfl,rfl,rfl,rfl,rfl,rfl,rfl,rfl,rfl,rfl,rfl,trivial⟩,⟨rfl,rfl,trivial⟩,rfl,rfl⟩⟩
 refine cGv (mM hu8 h84) ?_
 refine ifd (fun hN=>?_) (fun hN=>?_)
 rotate_left
 ·exact aC (by omega) (by omega) ⟨(w+1,b,c,ys,μ8),⟨by dsimp only;omega,hmono,skip fun k=>hN (okG_iff.1 k).2.2⟩,by dsimp only;omega,⟨⟨rfl,rfl,rfl,rfl,rfl,rfl,rfl,rfl,rfl,rfl,rfl,rfl,rfl,rfl,trivial⟩,⟨rfl,rfl,trivial⟩,rfl,rfl⟩⟩
 have hOk:=okG_iff.2 ⟨hS,hP,hN⟩
 have lens:(fD r k cl (eM U (a+lo) w)).vals.length≤12∧(fD r k cl (eM U (a+lo) w)).head.args.length≤12∧(fD r k cl (eM U (a+lo) w)).pos.length≤1000∧(fD r k cl (eM U (a+lo) w)).neg.length≤1000:=by
  refine⟨by show(eM U (a+lo) w).length≤12;omega,by show((eM U (a+lo) w).take _).length≤12;rw[List.length_take];omega,?_,?_⟩
  ·have := qIq (vs := eM U (a + lo) w) (c := cl)
   show(dD _ cl).length≤1000;omega
  ·have := negF_le (vs := eM U (a + lo) w) (c := cl)
   show(iO _ cl).length≤1000;omega
 have lpos:∀f∈(fD r k cl (eM U (a+lo) w)).pos,f.args.length≤4:=qEo hG
 have lneg:∀f∈(fD r k cl (eM U (a+lo) w)).neg,f.args.length≤4:=qNc hG
 have hat1:jL U r k cl w=some (fD r k cl (eM U (a+lo) w)):=by rw[jL,hnn,if_pos hOk]
 generalize fD r k cl (eM U (a+lo) w)=R at*
 refine cPl (eJ h82 (by omega)) fun v9 μ9 hle9 hR9=>?_
 have w_:=Rep.sl hR9
 obtain⟨b9,c9,e,hs9⟩:=w_
 simp only[List.length_map]at e hs9
 subst e
 refine cPl (eJ (h81.mono hle9) (by omega)) fun v10 μ10 hle10 hR10=>?_
 have w_:=Rep.sl hR10
 obtain⟨b10,c10,e,hs10⟩:=w_
 simp only[List.length_map]at e hs10
 subst e
 refine cPl (lA ((h83.mono hle9).mono hle10) (by omega) (fun f hf=>by have:=lpos f hf;omega)) fun v11 μ11 hle11 hR11=>?_
 have w_:=Rep.sl hR11
 obtain⟨b11,c11,e,hs11⟩:=w_
 simp only[List.length_map]at e hs11
 subst e
 refine cPl (lA (((h84.mono hle9).mono hle10).mono hle11) (by omega) (fun f hf=>by have:=lneg f hf;omega)) fun v12 μ12 hle12 hR12=>?_
 have w_:=Rep.sl hR12
 obtain⟨b12,c12,e,hs12⟩:=w_
 simp only[List.length_map]at e hs12
 subst e
 intro r127
 refine gIn ?_ ?_ fun b' c' _=>?_
 ·show(ys.length+1)*120≤_;omega
 ·exact Nat.le_trans (m:=100000) (show ys.length+1≤_ by omega) (by decide)
 refine aC (by omega) (by omega) ⟨(w+1,b',c',_,μ12),⟨by dsimp only;omega,hmono.trans (((hle9.trans hle10).trans hle11).trans hle12),?_⟩,by dsimp only;omega,⟨⟨rfl,rfl,rfl,rfl,rfl,rfl,rfl,rfl,rfl,rfl,rfl,rfl,rfl,rfl,trivial⟩,⟨rfl,rfl,trivial⟩,rfl,rfl⟩⟩
 dsimp only
 have hlen2:(pre++cM U r L k++cX U r k cl w++[R]).length≤2001:=by
  rw[List.length_append]
  simp only[List.length_singleton]
  omega
 rw[hnext,hat1,Option.toList_some,←List.append_assoc,List.take_of_length_le hlen2,List.map_append,List.map_append]
 refine((((((hrows.mono hle7).mono hle8).mono hle9).mono hle10).mono hle11).mono hle12).append (Rows.one ?_ (RuD.d_n _))
 exact Ru.mkV (((hR10.mono hle11).mono hle12)) (((hR9.mono hle10).mono hle11).mono hle12) (hR11.mono hle12) hR12
end
end Go.Vx
namespace Go.Vx
open Go.Proofs Classical
theorem Gl.all_trans:∀(b:Gl) {g x:Gl},g∈b.all→x∈g.all→x∈b.all:=
 Gl.ind fun b ih g x hg hx=>by
  rw[Gl.all_eq]at hg
  rcases List.mem_cons.1 hg with rfl|hg
  ·exact hx
  ·have w_ := List.mem_flatMap.1 hg
   obtain⟨y,hy,hg⟩:=w_
   rw[Gl.all_eq]
   exact List.mem_cons_of_mem _ (List.mem_flatMap.2 ⟨y,hy,ih y hy hg hx⟩)
structure ClV (n:Nat) (g:Gl) (xs:List T):Prop where
 terms:g.terms=xs.map T.tm
 len:xs.length≤4
 low:∀x∈xs,∀m∈x.vars,0≤m∧m<(n:Int)
theorem ClV.mk1{r:Rl}{p:Pg}{i:Nat}(h:RelOk p i r){g:Gl}(hg:g∈r.body.all){n:Nat}(hn:r.arity+r.locals=(n:Int)):∃xs,ClV n g xs:=by
 have hS:=h.body.all _ g hg
 have w_:=eY hS.top.tm
 obtain⟨xs,hxs,hok⟩:=w_
 refine⟨xs,hxs,by have:=hS.lens4;rw[hxs,List.length_map]at this;exact this,fun x hx m hm=>?_⟩
 have hv:m∈r.body.vars:=by
  rw[Gl.vars]
  refine List.mem_flatMap.2 ⟨g,hg,List.mem_flatMap.2 ⟨x,?_,hm⟩⟩
  rw[hxs,mT];exact hx
 have h1:=h.vars m hv
 have h2:=Gl.vars_range h.body m hv
 omega
theorem ClV.of{p:Pg}(hp:p.Ok){i:Nat}{r:Rl}(hi:p.rels[i]? =some r){L:List (List Gl)}(hL:r.body.cl=some L){c:List Gl}(hc:c∈L){g:Gl}(hg:g∈c){n:Nat}(hn:r.arity+r.locals=(n:Int)):
  (∃xs,ClV n g xs)∧(g.kind=10→∃xs,ClV n g.kid xs):=by
 have w_:=Gl.cl_all r.body hL c hc g hg
 obtain⟨h1,h2⟩:=w_
 have hrel:=hp.2 i r hi
 refine⟨ClV.mk1 hrel h1 hn,fun h10=>ClV.mk1 hrel (Gl.all_trans _ h1 ?_) hn⟩
 have hk:=Gl.kid_at ((hrel.body.all _ g h1).top.gl1 h10)
 rw[Gl.all_eq]
 refine List.mem_cons_of_mem _ (List.mem_flatMap.2 ⟨_,mAt hk,?_⟩)
 rw[Gl.all_eq];simp
section
variable {μ:Mem}
theorem RowAt.up{μ':Mem}{b:Option Nat}{k es:Nat}{ys:List Value}(h:RowAt μ b k es ys)(hle:μ.Le μ'):RowAt μ' b k es ys:=by
 cases b with
 |none=>exact h
 |some r=>
  obtain⟨h1,h2,arr,ty,h3,h4⟩:=h
  exact⟨h1,h2,arr,ty,hle _ _ h3,h4⟩
theorem Rows.atI{es:Nat}:∀{ds:List D} {xs:List Value},Rows μ es ds xs→∀{i:Nat} {d:D} {v:Value},ds[i]? =some d→xs[i]? =some v→RepV μ d v
 |_,_,.nil,i,d,v,h,_=>by simp at h
 |_,_,.cons h1 _ h,0,d,v,e1,e2=>by cases e1;cases e2;exact h1
 |_,_,.cons _ _ h,i+1,d,v,e1,e2=>Rows.atI h (i:=i) (by simpa using e1) (by simpa using e2)
set_option maxHeartbeats 16000000 in
set_option maxRecDepth 20000 in
end
end Go.Vx
namespace Go.Vx
open Go.Proofs Classical
noncomputable def fJ(p:Pg)(u:List Tm):Option (List Ru):=if p.Pos then dP p u else none
theorem qAd{p:Pg}{u:List Tm}{y:List Ru}(h:dP p u=some y):p.Ok∧UnivOk u:=by
 unfold dP at h
 split at h
 ·assumption
 ·cases h
section
variable {μ:Mem}
end
end Go.Vx
namespace Go.Vx
open Go.Proofs Classical
def PureK(n:Int):Prop:=n≠10∧¬(3≤n∧n≤6)
def Gl.Pure(g:Gl):Prop:=∀x∈g.all,PureK x.kind
theorem Gl.pure_eq(g:Gl):g.Pure↔PureK g.kind∧∀x∈g.goals,x.Pure:=by
 unfold Gl.Pure
 rw[Gl.all_eq]
 constructor
 ·exact fun h=>⟨h g (by simp),fun x hx y hy=>h y (List.mem_cons_of_mem _ (List.mem_flatMap.2 ⟨x,hx,hy⟩))⟩
 ·rintro ⟨h1, h2⟩ x hx
  rcases List.mem_cons.1 hx with rfl|hx
  ·exact h1
  ·have w_ := List.mem_flatMap.1 hx
   obtain⟨y,hy,hx⟩:=w_
   exact h2 y hy x hx
def Pg.Pure(p:Pg):Prop:=p.Ok∧∀r∈p.rels,r.body.Pure
section
variable {μ:Mem}
theorem isN{p q:Prop}[Decidable p](h:¬p↔q):Value.bool (!decide p)= .bool (decide q):=by
 by_cases k:p
 ·rw[decide_eq_true k,decide_eq_false fun hq=>h.2 hq k];rfl
 ·rw[decide_eq_false k,decide_eq_true (h.1 k)];rfl
theorem xH:∀(g:Gl) {v:Value},RepV μ g.d v→aQ Tryz.prog 71 [v,.bool true] μ (.bool (decide g.Pure)):=
 Gl.ind fun g ih v hv=>by
  have w_:=Gl.inv hv
  obtain⟨p,rfl,hts,hgs⟩:=w_
  have hn:=aI hgs.max
  refine Spec.mk Tryz.func71 (by kernel_rfl) ?_
  intro r
  refine lIn (fun i:Nat=>i≤g.goals.length∧∀(j:Nat) x,j<i→g.goals[j]? =some x→x.Pure)
   (fun i=>⟨[(1,.val (.bool true)),(2,.loc 0 r 0),(8,.val (.slice p.2.1 g.goals.length p.2.2)),(9,.val (.int .i64 g.goals.length)),(10,.val (.int .i64 i))],[(0,some (.cells r [.val (.int .i64 g.kind),.val (.string g.name),.val (.slice p.1.1 g.terms.length p.1.2),.val (.slice p.2.1 g.goals.length p.2.2)] 73))],1,μ,Mem.nil⟩) (fun i=>g.goals.length-i)
   0 ⟨Nat.zero_le _,fun j x h=>by omega⟩ (fun _=>⟨rfl,rfl⟩) ⟨⟨rfl,rfl,rfl,rfl,rfl,trivial⟩,⟨rfl,trivial⟩,rfl,rfl⟩ ?_
  rintro i ⟨hi,hall⟩
  refine ifd (fun hlt=>?_) (fun hlt=>?_)
  ·have w_ := aSo (l := g.goals) (i := i) (by omega)
   obtain⟨t,ht⟩:=w_
   have w_:=Gl.elem hgs ht
   obtain⟨ad,p3,hel,hr⟩:=w_
   refine eIn hel ?_
   intro r2
   refine cGv (ih t (mAt ht) hr) ?_
   refine aL (fun h=>rGv ?_ rfl) (fun h=>?_)
   ·rw[decide_eq_false fun k=>h (((Gl.pure_eq g).1 k).2 t (mAt ht))]
   ·refine aC (by omega) (by omega) ⟨i + 1, ⟨by omega, fun j y hj hy => ?_⟩, by omega, ⟨⟨rfl, rfl, rfl, rfl, rfl, trivial⟩, ⟨rfl, trivial⟩, rfl, rfl⟩⟩
    rcases Nat.lt_or_ge j i with h6|h6
    ·exact hall j y h6 hy
    ·obtain rfl : j = i := by omega
     rw[ht]at hy;cases hy;exact h
  ·obtain rfl : i = g.goals.length := by omega
   have hsub:∀x∈g.goals,x.Pure:=fun x hx=>by
    have w_:=List.mem_iff_getElem?.1 hx
    obtain⟨j,hj⟩:=w_
    exact hall j x (List.getElem?_eq_some_iff.1 hj).1 hj
   refine aL (fun h=>?_) (fun h=>?_)
   ·refine iIn (fun _ => ?_) (fun h => nomatch h)
    refine cGv (bU _ _ _ _) ?_
    refine rGv ?_ rfl
    refine isN ?_
    rw[Gl.pure_eq]
    exact⟨fun k=>⟨⟨h,k⟩,hsub⟩,fun k=>k.1.2⟩
   ·exact rGv (by rw[decide_eq_false fun k=>((Gl.pure_eq g).1 k).1.1 h]) rfl
theorem qCa{p:Pg}{v:Value}(hp:RepV μ p.d v)(hw:p.d.wd):Spec Tryz.prog 37 [v,.bool true] μ fun r _=>r= .bool (decide p.Pure):=by
 have w_:=Pg.inv hp
 obtain⟨q,rfl,hrl⟩:=w_
 refine Spec.mk Tryz.func37 (by kernel_rfl) ?_
 intro r1
 refine cPl (bP hp hw) fun v1 μ1 hle1 hR=>?_
 obtain rfl:=hR
 refine aL (fun h=>rPl (isF fun k=>h k.1)) (fun hok=>?_)
 have hn:=hok.1
 refine lIn (fun i:Nat=>i≤p.rels.length∧∀(j:Nat) x,j<i→p.rels[j]? =some x→x.body.Pure)
  (fun i=>⟨[(1,.val (.bool true)),(11,.val (.slice q.1 p.rels.length q.2)),(12,.val (.int .i64 p.rels.length)),(13,.val (.int .i64 i))],[],1,μ1,Mem.nil⟩) (fun i=>p.rels.length-i)
  0 ⟨Nat.zero_le _,fun j x h=>by omega⟩ (fun _=>⟨rfl,rfl⟩) ⟨⟨rfl,rfl,rfl,rfl,trivial⟩,trivial,rfl,rfl⟩ ?_
 rintro i ⟨hi,hall⟩
 refine ifd (fun hlt=>?_) (fun hlt=>?_)
 ·have w_ := aSo (l := p.rels) (i := i) (by omega)
  obtain⟨x,hx⟩:=w_
  have w_:=Rl.elemA (hrl.mono hle1) hx
  obtain⟨ad,q2,hel,hr,hb⟩:=w_
  have hb:RepV μ1 x.body.d (.agg (x.body.cs q2).toArray):=hb
  refine eIn hel ?_
  intro r2
  refine cGv (xH x.body hb) ?_
  refine aL (fun h=>rPl (isF fun k=>h (k.2 x (mAt hx)))) (fun h=>?_)
  refine aC (by omega) (by omega) ⟨i+1,⟨by omega,fun j y hj hy=>?_⟩,by omega,⟨⟨rfl,rfl,rfl,rfl,trivial⟩,trivial,rfl,rfl⟩⟩
  rcases Nat.lt_or_ge j i with h6|h6
  ·exact hall j y h6 hy
  ·obtain rfl : j = i := by omega
   rw[hx]at hy;cases hy;exact h
 ·obtain rfl : i = p.rels.length := by omega
  exact rPl (isT ⟨hok,fun x hx=>by
   have w_:=List.mem_iff_getElem?.1 hx
   obtain⟨j,hj⟩:=w_
   exact hall j x (List.getElem?_eq_some_iff.1 hj).1 hj⟩)
theorem qY{p:Pg}{v:Value}(hp:RepV μ p.d v)(hw:p.d.wd):Spec Tryz.prog 17 [v] μ fun r _=>r= .bool (decide p.Pure):=by
 have w_:=Pg.inv hp
 obtain⟨q,rfl,hrl⟩:=w_
 refine Spec.mk Tryz.func17 (by kernel_rfl) ?_
 intro r1
 refine cPl (qCa hp hw) fun v1 μ1 hle1 hR=>?_
 obtain rfl:=hR
 exact rPl rfl
end
end Go.Vx
namespace Go.Vx
open Go.Proofs Classical
section
variable {μ:Mem}
theorem cA{k:Int}{a b:Option Addr×Nat×Nat}:aQ Tryz.prog 73 [.int .i64 k,.slice a.1 a.2.1 a.2.2,.slice b.1 b.2.1 b.2.2] μ (.agg #[.int .i64 k,.string ⟨#[]⟩,.slice a.1 a.2.1 a.2.2,.slice b.1 b.2.1 b.2.2]):=by
 refine Spec.mk Tryz.func73 (by kernel_rfl) ?_
 intro r6
 exact rGv rfl rfl
set_option maxHeartbeats 1000000 in
set_option maxHeartbeats 1000000 in
end
end Go.Vx
namespace Go.Vx
open Go.Proofs Classical
theorem RowO.cut{h:Mem}{r cap:Nat}{ty:TypeId}{es:Nat}{xs:List Value}{cs:List Value}{k j:Nat}{x x':Value}{vs:List Value}(h1:xs.length≤cap)(h2:xs.length≤maxLen)(h3:∀x∈xs,(aB x).length=es∧∀u∈aB x,u.oneCell'=true)(h4:cs.length=cap*es)(h5:cs.take (xs.length*es)=xs.flatMap aB)
  (hx:xs[k]? =some x) (hv:aB x'=(aB x).take j++vs++(aB x).drop (j+vs.length)) (hj:j+vs.length≤es) (ho:∀u∈vs,u.oneCell'=true):
  RowO (h.set r (.cells (List.toArray (cs.take (k*es+j)++vs++cs.drop (k*es+j+vs.length))) ty (0,0))) r cap ty es (xs.set k x'):=by
 have hk:=(List.getElem?_eq_some_iff.1 hx).1
 have hxm:=List.mem_of_getElem? hx
 have hxl:=(h3 x hxm).1
 obtain⟨A,B,rfl,hA⟩:∃A B,xs=A++x::B∧A.length=k:=⟨xs.take k,xs.drop (k+1),by
  rw[←(List.getElem?_eq_some_iff.1 hx).2]
  rw[List.getElem_cons_drop,List.take_append_drop],by rw[List.length_take];omega⟩
 subst hA
 have fA:(A.flatMap aB).length=A.length*es:=fH A fun y hy=>(h3 y (by simp[hy])).1
 have fB:(B.flatMap aB).length=B.length*es:=fH B fun y hy=>(h3 y (by simp[hy])).1
 obtain⟨rest,hrest⟩:∃rest,cs=A.flatMap aB++aB x++B.flatMap aB++rest:=⟨cs.drop ((A++x::B).length*es),by
  have h6:=List.take_append_drop ((A++x::B).length*es) cs
  rw[h5]at h6
  refine h6.symm.trans ?_
  simp⟩
 have e1:cs.take (A.length*es+j)=A.flatMap aB++(aB x).take j:=by
  rw[hrest,List.append_assoc,List.append_assoc,←fA,List.take_length_add_append,List.take_append_of_le_length (by omega)]
 have e2:cs.drop (A.length*es+j+vs.length)=(aB x).drop (j+vs.length)++B.flatMap aB++rest:=by
  rw[hrest,List.append_assoc,List.append_assoc,←fA,Nat.add_assoc,List.drop_length_add_append,List.drop_append_of_le_length (by omega),List.append_assoc]
 have e3:(A++x::B).set A.length x'=A++x'::B:=by simp
 rw[e3]
 have hx'l:(aB x').length=es:=by
  rw[hv];simp only[List.length_append,List.length_take,List.length_drop];omega
 refine⟨_,Mem.set_at _ _ _,by simpa using h1,by simpa using h2,fun y hy=>?_,?_,?_⟩
 ·rcases List.mem_append.1 hy with hy | hy
  ·exact h3 y (by simp[hy])
  rcases List.mem_cons.1 hy with rfl|hy
  ·refine ⟨hx'l, fun u hu => ?_⟩
   rw[hv]at hu
   simp only[List.mem_append]at hu
   rcases hu with(hu|hu)|hu
   ·exact(h3 x hxm).2 u (List.mem_of_mem_take hu)
   ·exact ho u hu
   ·exact(h3 x hxm).2 u (List.mem_of_mem_drop hu)
  ·exact h3 y (by simp[hy])
 ·have h4' := h4
  rw[hrest]at h4'
  rw[e1,e2]
  simp only[List.length_append,List.length_take,List.length_drop]at h4' ⊢
  omega
 ·rw [e1, e2]
  have:A.flatMap aB++(aB x).take j++vs++((aB x).drop (j+vs.length)++B.flatMap aB++rest)=(A++x'::B).flatMap aB++rest:=by
   simp[hv]
  rw[this]
  have hfl:((A++x'::B).flatMap aB).length=(A++x'::B).length*es:=fH _ fun y hy=>by
   rcases List.mem_append.1 hy with hy|hy
   ·exact(h3 y (by simp[hy])).1
   rcases List.mem_cons.1 hy with rfl|hy
   ·exact hx'l
   ·exact(h3 y (by simp[hy])).1
  rw[←hfl,List.take_left]
theorem iU{h:Mem}{ad:Addr}{vs:List Value}{K:Mem→Prop}{r cap:Nat}{ty:TypeId}{es:Nat}{xs:List Value}{k j:Nat}{x:Value}(x':Value)(hr:RowO h r cap ty es xs)(hx:xs[k]? =some x)(ha:ad=⟨r,k*es+j,none⟩)(hv:aB x'=(aB x).take j++vs++(aB x).drop (j+vs.length))(hj:j+vs.length≤es)(ho:∀u∈vs,u.oneCell'=true)
  (hK:∀o,RowO (h.set r o) r cap ty es (xs.set k x')→K (h.set r o)):stoVC h ad vs K:=by
 subst ha
 obtain⟨cs,hc,h1,h2,h3,h4,h5⟩:=hr
 have hk:=(List.getElem?_eq_some_iff.1 hx).1
 refine sIn cs ty hc rfl ?_ (hK _ (RowO.cut h1 h2 h3 h4 h5 hx hv hj ho))
 show k*es+j+vs.length≤cs.length
 rw[h4]
 have:=Nat.mul_le_mul_right es (show k+1≤cap by omega)
 rw[Nat.succ_mul]at this
 omega
theorem RowO.cell{h:Mem}{r cap:Nat}{ty:TypeId}{es:Nat}{xs:List Value}{k j:Nat}{x u:Value}(hr:RowO h r cap ty es xs)(hx:xs[k]? =some x)(hu:(aB x)[j]? =some u):h.cell ⟨r,k*es+j,none⟩=some u:=by
 obtain⟨cs,hc,h1,h2,h3,h4,h5⟩:=hr
 obtain⟨A,B,rfl,hA⟩:∃A B,xs=A++x::B∧A.length=k:=⟨xs.take k,xs.drop (k+1),by
  rw[←(List.getElem?_eq_some_iff.1 hx).2]
  rw[List.getElem_cons_drop,List.take_append_drop],by rw[List.length_take];have:=(List.getElem?_eq_some_iff.1 hx).1;omega⟩
 subst hA
 have fA:(A.flatMap aB).length=A.length*es:=fH A fun y hy=>(h3 y (by simp[hy])).1
 have hj:=(List.getElem?_eq_some_iff.1 hu).1
 obtain⟨rest,hrest⟩:∃rest,cs=A.flatMap aB++(aB x++rest):=⟨B.flatMap aB++cs.drop ((A++x::B).length*es),by
  have h6:=List.take_append_drop ((A++x::B).length*es) cs
  rw[h5]at h6
  refine h6.symm.trans ?_
  simp⟩
 have e:cs[A.length*es+j]? =some u:=by
  rw[hrest,List.getElem?_append_right (by omega),fA,show A.length*es+j-A.length*es=j by omega,List.getElem?_append_left hj,hu]
 simp[Mem.cell,hc,e]
end Go.Vx
namespace Go.Vx
open Go.Proofs Classical
theorem qFn{a b:List F}(h:∀x,x∈a↔x∈b):lY a=lY b:=qEn cmpF_ord (mZ _ _) fun x=>by rw[jW,h]
theorem ascF_id{L:List F}(h:Asc3 fN L):lY L=L:=(qEn cmpF_ord h fun _=>Iff.rfl).symm
theorem wI(L:List F):Asc3 fN (lY L):=mZ _ _
theorem qEc{L:List F}{x:F}:x∈lY L↔x∈L:=jW _ _ _
theorem uH(L:List F):(lY L).length≤L.length:=xV _ _
noncomputable def jT(L:List F)(f:F):List F:=lY (f::L)
theorem qEm{L:List F}{f x:F}:x∈jT L f↔x=f∨x∈L:=by rw[jT,qEc,List.mem_cons]
theorem qCx(L:List F)(f:F):Asc3 fN (jT L f):=wI _
theorem pZ(L:List F)(f:F):(jT L f).length≤L.length+1:=uH _
theorem qCz{L:List F}{f:F}(hL:Asc3 fN L)(h:f∈L):jT L f=L:=(hL.uniq cmpF_ord (qCx L f) fun x=>by
 rw[qEm]
 exact⟨.inr,fun k=>k.elim (fun e=>e ▸ h) id⟩).symm
theorem tF{L:List F}{f:F}{k:Nat}(hL:Asc3 fN L)(h1:∀x∈L.take k,fN x f<0)(h2:∀x∈L.drop k,fN f x<0):L.take k++f::L.drop k=jT L f:=by
 refine Asc3.uniq cmpF_ord ?_ (qCx L f) fun x=>?_
 ·have := hL.ins cmpF_ord h1 h2
  simpa[rP]using this
 ·rw [qEm, List.mem_append, List.mem_cons]
  have:x∈L↔x∈L.take k∨x∈L.drop k:=by rw[←List.mem_append,List.take_append_drop]
  rw[this]
  constructor
  ·rintro (h | h | h)
   ·exact .inr (.inl h)
   ·exact .inl h
   ·exact .inr (.inr h)
  ·rintro (h | h | h)
   ·exact .inr (.inl h)
   ·exact .inl h
   ·exact .inr (.inr h)
noncomputable def eE(rs:List Ru)(pos neg:List F)(i:Nat):List F:=((rs.take i).filter fun r=>decide (vP pos neg r)).map Ru.head
theorem qDv{rs:List Ru}{pos neg:List F}{i:Nat}{r:Ru}(h:rs[i]? =some r):eE rs pos neg (i+1)=eE rs pos neg i++(if vP pos neg r then [r.head]else []):=by
 rw[eE,List.take_add_one,h,Option.toList_some,List.filter_append,List.map_append,←eE]
 congr 1
 by_cases k:vP pos neg r<;>simp[k]
theorem tZ(rs:List Ru)(pos neg:List F):lY (eE rs pos neg rs.length)=eI rs pos neg:=by rw[eE,List.take_length,eI]
theorem vI(rs:List Ru)(pos neg:List F)(i:Nat):(eE rs pos neg i).length≤i:=by
 rw[eE,List.length_map]
 exact Nat.le_trans (List.length_filter_le _ _) (List.length_take_le _ _)
theorem qKe(rs:List Ru)(pos neg:List F):(eI rs pos neg).length≤rs.length:=by
 rw[←tZ]
 exact Nat.le_trans (uH _) (vI _ _ _ _)
theorem kD(rs:List Ru)(pos neg:List F):Asc3 fN (eI rs pos neg):=wI _
theorem qFr{rs:List Ru}{pos pos' neg:List F}(h:∀f∈pos,f∈pos'){f:F}(hf:f∈eI rs pos neg):f∈eI rs pos' neg:=by
 rw[qO]at hf ⊢
 obtain⟨r,h1,h2,h3⟩:=hf
 exact⟨r,h1,⟨fun x hx=>h x (h2.1 x hx),h2.2⟩,h3⟩
theorem lfp_len(rs:List Ru)(base:List F):(lfp rs base).length≤base.length+rs.length:=by
 rw[lfp]
 refine Nat.le_trans (xV _ _) (Nat.le_trans (List.length_filter_le _ _) ?_)
 rw[List.length_append,List.length_map]
 exact Nat.le_refl _
structure RedI (rs:List Ru) (S out:List F):Prop where
 asc:Asc3 fN out
 der:∀f∈out,Der (nB rs S) [] f
 sub:∀f∈out,f∈eI rs out S
section
variable {rs:List Ru} {S out:List F}
theorem RedI.nil(rs:List Ru)(S:List F):RedI rs S []:=⟨List.Pairwise.nil,(fun _ h=>nomatch h),(fun _ h=>nomatch h)⟩
theorem RedI.next(h:RedI rs S out):RedI rs S (eI rs out S):=by
 refine⟨kD _ _ _,fun f hf=>?_,fun f hf=>qFr h.sub hf⟩
 rw[qO]at hf
 obtain⟨r,h1,h2,rfl⟩:=hf
 exact .rule (mem_unlessR.2 ⟨h1,h2.2⟩) fun x hx=>h.der x (h2.1 x hx)
theorem RedI.done(h:RedI rs S out)(e:(eI rs out S).length=out.length):out=lfp (nB rs S) []:=by
 have e2:=wA cmpF_ord h.asc (kD rs out S) h.sub e
 refine lfp_eq h.asc (fun _ h=>nomatch h) h.der fun r hr hp=>?_
 rw[e2,qO]
 rw[mem_unlessR]at hr
 exact⟨r,hr.1,⟨hp,hr.2⟩,rfl⟩
theorem RedI.more(h:RedI rs S out)(e:(eI rs out S).length≠out.length):out.length<(eI rs out S).length:=qKy cmpF_ord h.asc (kD _ _ _) h.sub e
theorem RedI.len(h:RedI rs S out):out.length≤rs.length:=Nat.le_trans (fV (h.asc.nodup cmpF_ord) h.sub) (qKe _ _ _)
end
section
variable {rs:List Ru} {base out:List F}
end
noncomputable def stF(rs:List Ru):Nat→List F
 |0=>[]
 |n+1=>eI rs (stF rs n) []
theorem fY(rs:List Ru):∀n,RedI rs [] (stF rs n)
 |0=>RedI.nil _ _
 |n+1=>(fY rs n).next
theorem qEp(rs:List Ru):nB rs []=rs:=by
 rw[nB]
 exact List.filter_eq_self.2 fun r _=>by simp
def LastSt(rs:List Ru)(n:Nat):Prop:=eI rs (stF rs n) []=stF rs n∧∀m,m<n→eI rs (stF rs m) []≠stF rs m
theorem LastSt.eq{rs:List Ru}{n:Nat}(h:LastSt rs n):stF rs n=lfp rs []:=by
 have:=(fY rs n).done (by rw[h.1])
 rwa [qEp]at this
theorem vG{rs:List Ru}:∀{n:Nat},(∀m,m<n→eI rs (stF rs m) []≠stF rs m)→n≤(stF rs n).length
 |0,_=>Nat.zero_le _
 |n+1,h=>by
  have ih:=vG (n:=n) fun m hm=>h m (by omega)
  have h1:=(fY rs n).more fun e=>h n (by omega) (wA cmpF_ord (fY rs n).asc (kD rs _ _) (fY rs n).sub e).symm
  have h2:(stF rs (n+1)).length=(eI rs (stF rs n) []).length:=rfl
  omega
section
variable {rs:List Ru} {model B out:List F}
end
end Go.Vx
namespace Go.Vx
open Go.Proofs Classical
abbrev FsV(μ:Mem)(L:List F)(v:Value):Prop:=RepV μ (.sl 2 ((L.map F.fc).map Fc.d)) v
abbrev RsV(μ:Mem)(rs:List Ru)(v:Value):Prop:=RepV μ (.sl 6 ((rs.map Ru.rd).map RuD.d)) v
section
variable {μ:Mem}
theorem FsV.sl{L:List F}{v:Value}(h:FsV μ L v):∃b c,v= .slice b L.length c∧L.length≤c∧Sl μ 2 b L.length ((L.map F.fc).map Fc.d):=by
 have w_:=Rep.sl h
 obtain⟨b,c,rfl,hs⟩:=w_
 have hl:=Rep.lens h
 simp only[List.length_map]at hs hl ⊢
 exact⟨b,c,rfl,hl,hs⟩
theorem RsV.sl{L:List Ru}{v:Value}(h:RsV μ L v):∃b c,v= .slice b L.length c∧Sl μ 6 b L.length ((L.map Ru.rd).map RuD.d):=by
 have w_:=Rep.sl h
 obtain⟨b,c,rfl,hs⟩:=w_
 simp only[List.length_map]at hs ⊢
 exact⟨b,c,rfl,hs⟩
theorem FsV.nil(b:Option Addr)(c:Nat):FsV μ [] (.slice b 0 c):=⟨b,c,rfl,⟨Nat.zero_le _,Nat.zero_le _⟩,(fun _ h=>nomatch h),.inl rfl⟩
def Ru.cs(r:Ru)(p:RuD.P):List Value:=[.string r.head.rel,.slice p.1.1 r.head.args.length p.1.2,.int .i64 r.clause,.slice p.2.1.1 r.vals.length p.2.1.2,.slice p.2.2.1.1 r.pos.length p.2.2.1.2,.slice p.2.2.2.1 r.neg.length p.2.2.2.2]
structure Ru.At (μ:Mem) (r:Ru) (p:RuD.P):Prop where
 head:RepV μ r.head.fc.d (.agg #[.string r.head.rel,.slice p.1.1 r.head.args.length p.1.2])
 pos:Sl μ 2 p.2.2.1.1 r.pos.length ((r.pos.map F.fc).map Fc.d)
 neg:Sl μ 2 p.2.2.2.1 r.neg.length ((r.neg.map F.fc).map Fc.d)
theorem Ru.at{r:Ru}{p:RuD.P}(h:RepV μ r.rd.d (.agg (r.cs p).toArray)):r.At μ p:=by
 have h0:=h
 rw[RuD.d_eq]at h
 obtain⟨cs,e,h⟩:=h
 have e:=(Value.agg.inj e)
 have e:cs=r.cs p:=by
  have:=congrArg Array.toList e
  simpa using this.symm
 subst e
 have w_:=Ru.inv h0
 obtain⟨q,e,h1,h2,h3,h4⟩:=w_
 have e:=Value.agg.inj e
 have e:r.cs p=r.cs q:=by simpa[Ru.cs]using congrArg Array.toList e
 simp only[Ru.cs,List.cons.injEq,Value.slice.injEq,true_and,and_true]at e
 obtain⟨⟨e1,e2⟩,⟨e3,e4⟩,⟨e5,e6⟩,e7,e8⟩:=e
 refine⟨?_,by rw[e5];exact h3,by rw[e7];exact h4⟩
 obtain⟨c1,c2,k1,k2,k3⟩:=h
 obtain⟨d1,d2,m1,m2,m3⟩:=k3
 have l1:c1=[.string r.head.rel]:=k2
 subst l1
 obtain⟨b,c,l2,l3⟩:=m2
 subst l2
 subst m1
 simp only[Ru.cs,List.cons_append,List.nil_append,List.cons.injEq,true_and]at k1
 obtain⟨k1,_⟩:=k1
 refine F.mkV ?_
 rw[k1]
 exact⟨b,c,rfl,l3⟩
theorem Ru.elem{l:List Ru}{base:Option Addr}{n:Nat}(h:Sl μ 6 base n ((l.map Ru.rd).map RuD.d)){i:Nat}{r:Ru}(hr:l[i]? =some r):∃ad,∃p:RuD.P,ElemAt μ base n 6 i ad (r.cs p)∧RepV μ r.rd.d (.agg (r.cs p).toArray)∧r.At μ p:=by
 have w_:=RuD.elem h (i:=i) (x:=r.rd) (by simp[hr])
 obtain⟨ad,p,h1,h2⟩:=w_
 have e:r.rd.cs p=r.cs p:=by
  show [_,Value.slice p.1.1 (r.head.args.map T.tm).length p.1.2,_,Value.slice p.2.1.1 (r.vals.map T.tm).length p.2.1.2,Value.slice p.2.2.1.1 (r.pos.map F.fc).length p.2.2.1.2,Value.slice p.2.2.2.1 (r.neg.map F.fc).length p.2.2.2.2]=_
  simp only[List.length_map];rfl
 rw[e]at h1 h2
 exact⟨ad,p,h1,h2,Ru.at h2⟩
theorem uN{L:List F}{f:F}{v w:Value}(hL:Asc3 fN L)(h:FsV μ L v)(hf:RepV μ f.fc.d w)(hn:L.length≤10000000):
  Spec Tryz.prog 158 [v,w] μ fun r μ'=>FsV μ' (jT L f) r:=by
 have w_:=FsV.sl h
 obtain⟨b,c,rfl,hlc,hs⟩:=w_
 have hf0:=hf
 have w_:=F.inv hf
 obtain⟨p,rfl,hfs⟩:=w_
 have w_:=Rep.src h
 obtain⟨vs,hrows,hvs,hcap,hsrc⟩:=w_
 refine Spec.mk Tryz.func158 (by kernel_rfl) ?_
 intro r3
 refine lIn (fun k:Nat=>k≤L.length∧∀x∈L.drop k,¬fN x f<0)
  (fun k=>⟨[(0,.val (.slice b L.length c)),(3,.loc 0 r3 0),(5,.val (.int .i64 k))],[(0,some (.cells r3 [.val (.string f.rel),.val (.slice p.1 f.args.length p.2)] 54))],1,μ,Mem.nil⟩) (fun k=>k)
  L.length ⟨Nat.le_refl _,by simp⟩ (fun _=>⟨rfl,rfl⟩) ⟨⟨rfl,rfl,rfl,trivial⟩,⟨rfl,trivial⟩,rfl,rfl⟩ ?_
 rintro k ⟨hk,hge⟩
 refine ifd (fun h0=>?_) (fun h0=>?_)
 ·obtain ⟨k, rfl⟩ : ∃ k', k = k' + 1 := ⟨k - 1, by omega⟩
  have w_:=aSo (l:=L) (i:=k) (by omega)
  obtain⟨y,hy⟩:=w_
  have w_:=F.elem hs hy
  obtain⟨ad3,p3,hel3,hry,hsy⟩:=w_
  refine nEq (x:=(k:Int)) (by rw[aA (by omega) (by omega)];omega) ?_
  refine eIn hel3 ?_
  refine cGv (eR hry hf0) ?_
  refine ifd (fun hc=>?_) (fun hc=>?_)
  ·refine nEq (x := (k : Int)) (by rw [aA (by omega) (by omega)]; omega) ⟨k, ⟨by omega, fun x hx => ?_⟩, by omega, ⟨⟨rfl, rfl, rfl, trivial⟩, ⟨rfl, trivial⟩, rfl, rfl⟩⟩
   rw[cB hy]at hx
   rcases List.mem_cons.1 hx with rfl|hx
   ·omega
   ·exact hge x hx
  ·have hlt3 := hL.take_lt cmpF_ord hy (e := f) (by omega)
   generalize k+1=k at*
   refine ifd (fun hkl=>?_) (fun hkl=>?_)
   ·have w_ := aSo (l := L) (i := k) (by omega)
    obtain⟨y2,hy2⟩:=w_
    have w_:=F.elem hs hy2
    obtain⟨ad4,p4,hel4,hry2,hsy2⟩:=w_
    refine eIn hel4 ?_
    refine cGv (eR hry2 hf0) ?_
    refine ifd (fun hc2=>?_) (fun hc2=>?_)
    ·have : f ∈ L := by rw [← (cmpF_ord.zero _ _).1 hc2]; exact mAt hy2
     rw[qCz hL this]
     exact rPl h
    ·have hgt3 : ∀ x ∈ L.drop k, fN f x < 0 := hL.drop_gt cmpF_ord hy2 (cmpF_ord.ge_pos (hge y2 (by rw [cB hy2]; simp)) hc2)
     intro r70
     refine aE 0 k rfl rfl (by omega) (by omega) ?_
     refine aN _ (hsrc 0 k (by omega) hk) ?_
     refine gIn ?_ ?_ fun b1 c1 _=>?_
     ·show(0+_)*40≤_;simp;omega
     ·exact Nat.le_trans (m:=2000000000) (by simp;omega) (by decide)
     intro r77
     refine gIn ?_ ?_ fun b2 c2 _=>?_
     ·show(_+1)*40≤_;simp;omega
     ·exact Nat.le_trans (m:=2000000000) (by simp;omega) (by decide)
     refine aE k L.length rfl rfl hk (by omega) ?_
     refine aN _ (hsrc k L.length hk (Nat.le_refl _)) ?_
     refine gIn ?_ ?_ fun b3 c3 _=>?_
     ·show(_+_)*40≤_;simp;omega
     ·exact Nat.le_trans (m:=3000000000) (by simp;omega) (by decide)
     have hr2:=(hrows.take k).append ((Rows.one hf0 (Fc.d_n _)).append (hrows.drop k))
     have ev:(([]:List Value)++(vs.drop 0).take (k-0)++[.agg #[.string f.rel,.slice p.1 f.args.length p.2]]++(vs.drop k).take (L.length-k))=vs.take k++([.agg #[.string f.rel,.slice p.1 f.args.length p.2]]++vs.drop k):=by
      simp
      rw[List.take_of_length_le (by simp;omega)]
     have hins:=tF hL hlt3 hgt3
     have e2:((jT L f).map F.fc).map Fc.d=((L.map F.fc).map Fc.d).take k++([f.fc.d]++((L.map F.fc).map Fc.d).drop k):=by rw[←hins];simp
     have e3:(vs.take k++([Value.agg #[.string f.rel,.slice p.1 f.args.length p.2]]++vs.drop k)).length=(jT L f).length:=by rw[←hins];simp;omega
     refine rFz [1] fun μ2 hle2 hno2 hrow2=> .inl ?_
     rw[ev]at hrow2
     have e4:(jT L f).length≤L.length+1:=pZ L f
     have:=Rows.sl hrow2 (hr2.mono hle2) (Nat.le_trans (m:=3000000000) (by rw[e3];omega) (by decide))
     rw[←e2]at this
     rw[ev]
     exact this
   ·have hgt3:∀x∈L.drop k,fN f x<0:=by
     rw[List.drop_of_length_le (by omega)];simp
    intro r70
    refine aE 0 k rfl rfl (by omega) (by omega) ?_
    refine aN _ (hsrc 0 k (by omega) hk) ?_
    refine gIn ?_ ?_ fun b1 c1 _=>?_
    ·show(0+_)*40≤_;simp;omega
    ·exact Nat.le_trans (m:=2000000000) (by simp;omega) (by decide)
    intro r77
    refine gIn ?_ ?_ fun b2 c2 _=>?_
    ·show(_+1)*40≤_;simp;omega
    ·exact Nat.le_trans (m:=2000000000) (by simp;omega) (by decide)
    refine aE k L.length rfl rfl hk (by omega) ?_
    refine aN _ (hsrc k L.length hk (Nat.le_refl _)) ?_
    refine gIn ?_ ?_ fun b3 c3 _=>?_
    ·show(_+_)*40≤_;simp;omega
    ·exact Nat.le_trans (m:=3000000000) (by simp;omega) (by decide)
    have hr2:=(hrows.take k).append ((Rows.one hf0 (Fc.d_n _)).append (hrows.drop k))
    have ev:(([]:List Value)++(vs.drop 0).take (k-0)++[.agg #[.string f.rel,.slice p.1 f.args.length p.2]]++(vs.drop k).take (L.length-k))=vs.take k++([.agg #[.string f.rel,.slice p.1 f.args.length p.2]]++vs.drop k):=by
     simp
     rw[List.take_of_length_le (by simp;omega)]
    have hins:=tF hL hlt3 hgt3
    have e2:((jT L f).map F.fc).map Fc.d=((L.map F.fc).map Fc.d).take k++([f.fc.d]++((L.map F.fc).map Fc.d).drop k):=by rw[←hins];simp
    have e3:(vs.take k++([Value.agg #[.string f.rel,.slice p.1 f.args.length p.2]]++vs.drop k)).length=(jT L f).length:=by rw[←hins];simp;omega
    refine rFz [1] fun μ2 hle2 hno2 hrow2=> .inl ?_
    rw[ev]at hrow2
    have e4:(jT L f).length≤L.length+1:=pZ L f
    have:=Rows.sl hrow2 (hr2.mono hle2) (Nat.le_trans (m:=3000000000) (by rw[e3];omega) (by decide))
    rw[←e2]at this
    rw[ev]
    exact this
 ·have hk0 : k = 0 := by omega
  have hlt3:∀x∈L.take k,fN x f<0:=by rw[hk0];simp
  refine ifd (fun hkl=>?_) (fun hkl=>?_)
  ·have w_ := aSo (l := L) (i := k) (by omega)
   obtain⟨y2,hy2⟩:=w_
   have w_:=F.elem hs hy2
   obtain⟨ad4,p4,hel4,hry2,hsy2⟩:=w_
   refine eIn hel4 ?_
   refine cGv (eR hry2 hf0) ?_
   refine ifd (fun hc2=>?_) (fun hc2=>?_)
   ·have : f ∈ L := by rw [← (cmpF_ord.zero _ _).1 hc2]; exact mAt hy2
    rw[qCz hL this]
    exact rPl h
   ·have hgt3 : ∀ x ∈ L.drop k, fN f x < 0 := hL.drop_gt cmpF_ord hy2 (cmpF_ord.ge_pos (hge y2 (by rw [cB hy2]; simp)) hc2)
    intro r70
    refine aE 0 k rfl rfl (by omega) (by omega) ?_
    refine aN _ (hsrc 0 k (by omega) hk) ?_
    refine gIn ?_ ?_ fun b1 c1 _=>?_
    ·show(0+_)*40≤_;simp;omega
    ·exact Nat.le_trans (m:=2000000000) (by simp;omega) (by decide)
    intro r77
    refine gIn ?_ ?_ fun b2 c2 _=>?_
    ·show(_+1)*40≤_;simp;omega
    ·exact Nat.le_trans (m:=2000000000) (by simp;omega) (by decide)
    refine aE k L.length rfl rfl hk (by omega) ?_
    refine aN _ (hsrc k L.length hk (Nat.le_refl _)) ?_
    refine gIn ?_ ?_ fun b3 c3 _=>?_
    ·show(_+_)*40≤_;simp;omega
    ·exact Nat.le_trans (m:=3000000000) (by simp;omega) (by decide)
    have hr2:=(hrows.take k).append ((Rows.one hf0 (Fc.d_n _)).append (hrows.drop k))
    have ev:(([]:List Value)++(vs.drop 0).take (k-0)++[.agg #[.string f.rel,.slice p.1 f.args.length p.2]]++(vs.drop k).take (L.length-k))=vs.take k++([.agg #[.string f.rel,.slice p.1 f.args.length p.2]]++vs.drop k):=by
     simp
     rw[List.take_of_length_le (by simp;omega)]
    have hins:=tF hL hlt3 hgt3
    have e2:((jT L f).map F.fc).map Fc.d=((L.map F.fc).map Fc.d).take k++([f.fc.d]++((L.map F.fc).map Fc.d).drop k):=by rw[←hins];simp
    have e3:(vs.take k++([Value.agg #[.string f.rel,.slice p.1 f.args.length p.2]]++vs.drop k)).length=(jT L f).length:=by rw[←hins];simp;omega
    refine rFz [1] fun μ2 hle2 hno2 hrow2=> .inl ?_
    rw[ev]at hrow2
    have e4:(jT L f).length≤L.length+1:=pZ L f
    have:=Rows.sl hrow2 (hr2.mono hle2) (Nat.le_trans (m:=3000000000) (by rw[e3];omega) (by decide))
    rw[←e2]at this
    rw[ev]
    exact this
  ·have hgt3:∀x∈L.drop k,fN f x<0:=by
    rw[List.drop_of_length_le (by omega)];simp
   intro r70
   refine aE 0 k rfl rfl (by omega) (by omega) ?_
   refine aN _ (hsrc 0 k (by omega) hk) ?_
   refine gIn ?_ ?_ fun b1 c1 _=>?_
   ·show(0+_)*40≤_;simp;omega
   ·exact Nat.le_trans (m:=2000000000) (by simp;omega) (by decide)
   intro r77
   refine gIn ?_ ?_ fun b2 c2 _=>?_
   ·show(_+1)*40≤_;simp;omega
   ·exact Nat.le_trans (m:=2000000000) (by simp;omega) (by decide)
   refine aE k L.length rfl rfl hk (by omega) ?_
   refine aN _ (hsrc k L.length hk (Nat.le_refl _)) ?_
   refine gIn ?_ ?_ fun b3 c3 _=>?_
   ·show(_+_)*40≤_;simp;omega
   ·exact Nat.le_trans (m:=3000000000) (by simp;omega) (by decide)
   have hr2:=(hrows.take k).append ((Rows.one hf0 (Fc.d_n _)).append (hrows.drop k))
   have ev:(([]:List Value)++(vs.drop 0).take (k-0)++[.agg #[.string f.rel,.slice p.1 f.args.length p.2]]++(vs.drop k).take (L.length-k))=vs.take k++([.agg #[.string f.rel,.slice p.1 f.args.length p.2]]++vs.drop k):=by
    simp
    rw[List.take_of_length_le (by simp;omega)]
   have hins:=tF hL hlt3 hgt3
   have e2:((jT L f).map F.fc).map Fc.d=((L.map F.fc).map Fc.d).take k++([f.fc.d]++((L.map F.fc).map Fc.d).drop k):=by rw[←hins];simp
   have e3:(vs.take k++([Value.agg #[.string f.rel,.slice p.1 f.args.length p.2]]++vs.drop k)).length=(jT L f).length:=by rw[←hins];simp;omega
   refine rFz [1] fun μ2 hle2 hno2 hrow2=> .inl ?_
   rw[ev]at hrow2
   have e4:(jT L f).length≤L.length+1:=pZ L f
   have:=Rows.sl hrow2 (hr2.mono hle2) (Nat.le_trans (m:=3000000000) (by rw[e3];omega) (by decide))
   rw[←e2]at this
   rw[ev]
   exact this
theorem mD{L:List F}{f:F}{b:Option Addr}{c:Nat}{w:Value}(hs:Sl μ 2 b L.length ((L.map F.fc).map Fc.d))(hf:RepV μ f.fc.d w):
  aQ Tryz.prog 127 [.slice b L.length c,w] μ (.bool (decide (f∈L))):=by
 have hf0:=hf
 have w_:=F.inv hf
 obtain⟨p,rfl,hfs⟩:=w_
 have hn:=aI hs.max
 refine Spec.mk Tryz.func127 (by kernel_rfl) ?_
 intro r3
 refine lIn (fun k:Nat=>k≤L.length∧f∉L.take k)
  (fun k=>⟨[(3,.loc 0 r3 0),(7,.val (.slice b L.length c)),(8,.val (.int .i64 L.length)),(9,.val (.int .i64 k))],[(0,some (.cells r3 [.val (.string f.rel),.val (.slice p.1 f.args.length p.2)] 54))],1,μ,Mem.nil⟩) (fun k=>L.length-k)
  0 ⟨Nat.zero_le _,by simp⟩ (fun _=>⟨rfl,rfl⟩) ⟨⟨rfl,rfl,rfl,rfl,trivial⟩,⟨rfl,trivial⟩,rfl,rfl⟩ ?_
 rintro k ⟨hk,hno⟩
 refine ifd (fun hlt=>?_) (fun hlt=>?_)
 ·have w_ := aSo (l := L) (i := k) (by omega)
  obtain⟨y,hy⟩:=w_
  have w_:=F.elem hs hy
  obtain⟨ad3,p3,hel3,hry,hsy⟩:=w_
  refine eIn hel3 ?_
  intro r6
  refine cGv (eR hry hf0) ?_
  refine ifd (fun hc=>?_) (fun hc=>?_)
  ·refine rGv ?_ rfl
   rw[decide_eq_true]
   rw[←(cmpF_ord.zero _ _).1 hc];exact mAt hy
  ·refine aC (by omega) (by omega) ⟨k + 1, ⟨by omega, ?_⟩, by omega, ⟨⟨rfl, rfl, rfl, rfl, trivial⟩, ⟨rfl, trivial⟩, rfl, rfl⟩⟩
   rw[List.take_add_one,hy,Option.toList_some,List.mem_append,List.mem_singleton]
   rintro(k1|k1)
   ·exact hno k1
   ·exact hc ((cmpF_ord.zero _ _).2 k1.symm)
 ·obtain rfl : k = L.length := by omega
  rw[List.take_length]at hno
  refine rGv ?_ rfl
  rw[decide_eq_false hno]
theorem sC{α:Type}{l:List α}{i:Nat}{x:α}{P:α→Prop}(h:∀y∈l.take i,P y)(hx:l[i]? =some x)(hp:P x):∀y∈l.take (i+1),P y:=by
 rw[List.take_add_one,hx,Option.toList_some]
 intro y hy
 rcases List.mem_append.1 hy with k|k
 ·exact h y k
 ·rw[List.mem_singleton.1 k];exact hp
theorem nO{r:Ru}{pos neg:List F}{v:Value}{b b2:Option Addr}{c c2:Nat}(hr:RepV μ r.rd.d v)(hs:Sl μ 2 b pos.length ((pos.map F.fc).map Fc.d))(hs2:Sl μ 2 b2 neg.length ((neg.map F.fc).map Fc.d)):
  aQ Tryz.prog 84 [v,.slice b pos.length c,.slice b2 neg.length c2] μ (.bool (decide (vP pos neg r))):=by
 have w_:=Ru.inv hr
 obtain⟨p,rfl,-,-,h3,h4⟩:=w_
 have hm1:=aI h3.max
 have hm2:=aI h4.max
 refine Spec.mk Tryz.func84 (by kernel_rfl) ?_
 intro r3
 refine lIn (fun k:Nat=>k≤r.pos.length∧∀f∈r.pos.take k,f∈pos)
  (fun k=>⟨[(1,.val (.slice b pos.length c)),(2,.val (.slice b2 neg.length c2)),(3,.loc 0 r3 0),(12,.val (.slice p.2.2.1.1 r.pos.length p.2.2.1.2)),(13,.val (.int .i64 r.pos.length)),(14,.val (.int .i64 k))],[(0,some (.cells r3 (vals (r.cs p)) 112))],1,μ,Mem.nil⟩) (fun k=>r.pos.length-k)
  0 ⟨Nat.zero_le _,by simp⟩ (fun _=>⟨rfl,rfl⟩) ⟨⟨rfl,rfl,rfl,rfl,rfl,rfl,trivial⟩,⟨rfl,trivial⟩,rfl,rfl⟩ ?_
 rintro k ⟨hk,hall⟩
 refine ifd (fun hlt=>?_) (fun hlt=>?_)
 ·have w_ := aSo (l := r.pos) (i := k) (by omega)
  obtain⟨y,hy⟩:=w_
  have w_:=F.elem h3 hy
  obtain⟨ad3,p3,hel3,hry,hsy⟩:=w_
  refine eIn hel3 ?_
  intro r8
  refine cGv (mD hs hry) ?_
  refine aL (fun h=>rGv (isF fun k=>h (k.1 y (mAt hy))) rfl) (fun h=>?_)
  ·exact aC (by omega) (by omega) ⟨k+1,⟨by omega,sC hall hy h⟩,by omega,⟨⟨rfl,rfl,rfl,rfl,rfl,rfl,trivial⟩,⟨rfl,trivial⟩,rfl,rfl⟩⟩
 obtain rfl:k=r.pos.length:=by omega
 rw[List.take_length]at hall
 refine lIn (fun k:Nat=>k≤r.neg.length∧∀f∈r.neg.take k,f∉neg)
  (fun k=>⟨[(2,.val (.slice b2 neg.length c2)),(24,.val (.slice p.2.2.2.1 r.neg.length p.2.2.2.2)),(25,.val (.int .i64 r.neg.length)),(26,.val (.int .i64 k))],[],1,μ,Mem.nil⟩) (fun k=>r.neg.length-k)
  0 ⟨Nat.zero_le _,by simp⟩ (fun _=>⟨rfl,rfl⟩) ⟨⟨rfl,rfl,rfl,rfl,trivial⟩,trivial,rfl,rfl⟩ ?_
 rintro k ⟨hk,hall2⟩
 refine ifd (fun hlt=>?_) (fun hlt=>?_)
 ·have w_ := aSo (l := r.neg) (i := k) (by omega)
  obtain⟨y,hy⟩:=w_
  have w_:=F.elem h4 hy
  obtain⟨ad3,p3,hel3,hry,hsy⟩:=w_
  refine eIn hel3 ?_
  intro r8
  refine cGv (mD hs2 hry) ?_
  refine ifd (fun h=>rGv (isF fun k=>(k.2 y (mAt hy)) h) rfl) (fun h=>?_)
  ·exact aC (by omega) (by omega) ⟨k+1,⟨by omega,sC hall2 hy h⟩,by omega,⟨⟨rfl,rfl,rfl,rfl,trivial⟩,trivial,rfl,rfl⟩⟩
 obtain rfl:k=r.neg.length:=by omega
 rw[List.take_length]at hall2
 exact rGv (isT ⟨hall,hall2⟩) rfl
theorem qAo{rs:List Ru}{pos neg:List F}{b b2 b3:Option Addr}{c c2 c3:Nat}(hr:Sl μ 6 b3 rs.length ((rs.map Ru.rd).map RuD.d))(hn:rs.length≤10000000)(hs:Sl μ 2 b pos.length ((pos.map F.fc).map Fc.d))(hs2:Sl μ 2 b2 neg.length ((neg.map F.fc).map Fc.d)):
  Spec Tryz.prog 125 [.slice b3 rs.length c3,.slice b pos.length c,.slice b2 neg.length c2] μ fun r μ'=>FsV μ' (eI rs pos neg) r:=by
 refine Spec.mk Tryz.func125 (by kernel_rfl) ?_
 intro r10
 refine lFz (fun z:Nat×Option Addr×Nat×Mem=>z.1≤rs.length∧μ.Le z.2.2.2∧FsV z.2.2.2 (lY (eE rs pos neg z.1)) (.slice z.2.1 (lY (eE rs pos neg z.1)).length z.2.2.1))
  (fun(i,b4,c4,μ')=>⟨[(1,.val (.slice b pos.length c)),(2,.val (.slice b2 neg.length c2)),(7,.val (.slice b4 (lY (eE rs pos neg i)).length c4)),(11,.val (.slice b3 rs.length c3)),(12,.val (.int .i64 rs.length)),(13,.val (.int .i64 i))],[],0,μ',Mem.nil⟩) (fun z=>rs.length-z.1) [0]
  (fun(_,_,_,_)=>⟨rfl,rfl⟩) (fun μ1 hle1 hno1 hat1=>?_) ?_
 ·have e0 : lY (eE rs pos neg 0) = [] := by simp [eE, ascF_id (L := []) List.Pairwise.nil]
  refine⟨(0,some ⟨r10,0,none⟩,0,μ1),⟨Nat.zero_le _,hle1,?_⟩,⟨rfl,rfl,?_,rfl,rfl,rfl,trivial⟩,trivial,rfl,rfl⟩
  ·dsimp only;rw[e0];exact FsV.nil _ _
  ·dsimp only;rw[e0];rfl
 rintro⟨i,b4,c4,μ'⟩ ⟨hi,hle,hout⟩
 dsimp only at hi hle hout
 refine ifd (fun hlt=>?_) (fun hlt=>?_)
 rotate_left
 ·obtain rfl : i = rs.length := by omega
  rw[tZ]at hout ⊢
  exact rPl hout
 have w_:=aSo (l:=rs) (i:=i) (by omega)
 obtain⟨r,hri⟩:=w_
 have w_:=Ru.elem (hr.mono hle) hri
 obtain⟨ad,p,hel,hrv,hat⟩:=w_
 have hlen:(lY (eE rs pos neg i)).length≤i:=Nat.le_trans (uH _) (vI _ _ _ _)
 have hsucc:=qDv (pos:=pos) (neg:=neg) hri
 refine eIn hel ?_
 intro r9
 refine cGv (nO hrv (hs.mono hle) (hs2.mono hle)) ?_
 refine ifd (fun hf=>?_) (fun hf=>?_)
 ·rw [if_pos hf] at hsucc
  refine cPl (uN (wI _) hout hat.head (by omega)) fun v4 μ4 hle4 hR4=>?_
  have e:jT (lY (eE rs pos neg i)) r.head=lY (eE rs pos neg (i+1)):=qFn fun x=>by
   rw[List.mem_cons,qEc,hsucc,List.mem_append,List.mem_singleton];exact Or.comm
  rw[e]at hR4
  have w_:=FsV.sl hR4
  obtain⟨b5,c5,rfl,-,-⟩:=w_
  exact aC (by omega) (by omega) ⟨[],(i+1,b5,c5,μ4),⟨by dsimp only;omega,hle.trans hle4,hR4⟩,by dsimp only;omega,⟨⟨rfl,rfl,rfl,rfl,rfl,rfl,trivial⟩,trivial,rfl,rfl⟩⟩
 ·rw [if_neg hf, List.append_nil] at hsucc
  refine aC (by omega) (by omega) ⟨[],(i+1,b4,c4,μ'),⟨by dsimp only;omega,hle,?_⟩,by dsimp only;omega,⟨⟨rfl,rfl,?_,rfl,rfl,rfl,trivial⟩,trivial,rfl,rfl⟩⟩
  ·dsimp only;rw[hsucc];exact hout
  ·dsimp only;rw[hsucc];rfl
end
end Go.Vx
namespace Go.Vx
open Go.Proofs Classical
section
variable {μ:Mem}
theorem slF_nil:Sl μ 2 none 0 ((([]:List F).map F.fc).map Fc.d):=⟨rfl,Nat.zero_le _,fun i x h=>by simp at h⟩
end
end Go.Vx
namespace Go.Vx
open Go.Proofs Classical
open Go.Sort
noncomputable instance:Inhabited F:=⟨⟨⟨#[]⟩,[]⟩⟩
section
variable {μ h0:Mem} {r:Nat} {ty:TypeId} {rest:List Value}
end
section
variable {μ:Mem}
end
end Go.Vx
