/- Texts of the proof, part M3. -/
import Derived.Sort.AssemblyPlain
import Derived.Test.YtcmehajdmepcgaaGreatM2
namespace Go.Vx
open Go.Proofs Classical
section
variable {P:Program} {f:FuncId} {args:List Value} {μ h H:Mem}
theorem Mem.set_at(m:Mem)(r:Nat)(o:Obj):(m.set r o) r=some o:=by rw[Mem.set_get,if_pos rfl]
theorem Mem.set_ne{m:Mem}{b r:Nat}{o:Obj}(h:b≠r):(m.set r o) b=m b:=by rw[Mem.set_get,if_neg h]
theorem qJm{a b:Nat}{x y:Obj}(h1:h a=some x)(h2:h b=some y)(hne:x≠y):a≠b:=fun e=>by
 subst e;rw[h1]at h2;cases h2;exact hne rfl
theorem qFk{a b:Nat}{x:Obj}(h1:h a=some x)(h2:h b=none):a≠b:=fun e=>by
 subst e;rw[h1]at h2;cases h2
theorem Apart.set{r:Nat}{o:Obj}(k:Apart μ h)(hr:μ r=none):Apart μ (h.set r o):=fun b hb=>by
 by_cases e:b=r
 ·subst e;exact absurd hr hb
 ·rw[Mem.set_ne e];exact k b hb
theorem RowO.set_ne{r cap b:Nat}{ty:TypeId}{es:Nat}{xs:List Value}{o:Obj}(k:RowO h r cap ty es xs)(hb:r≠b):RowO (h.set b o) r cap ty es xs:=by
 obtain⟨cs,h1,h2⟩:=k
 exact⟨cs,by rw[Mem.set_ne hb];exact h1,h2⟩
theorem RowO.rowAt{r cap:Nat}{ty:TypeId}{es:Nat}{xs:List Value}(k:RowO h r cap ty es xs)(hl:h.Le μ):RowAt μ (some r) cap es xs:=by
 obtain⟨cs,h1,h2,h3,h4,h5,h6⟩:=k
 exact⟨h2,h4,cs.toArray,ty,hl _ _ h1,by simpa using h5,by simpa using h6⟩
theorem RowO.len{r cap:Nat}{ty:TypeId}{es:Nat}{xs:List Value}(k:RowO h r cap ty es xs):xs.length≤maxLen:=by
 obtain⟨cs,h1,h2,h3,_⟩:=k
 exact h3
theorem RowO.rep{r cap:Nat}{ty:TypeId}{es:Nat}{xs:List Value}{ds:List D}(k:RowO h r cap ty es xs)(hl:h.Le μ)(hr:Rows μ es ds xs):RepV μ (.sl es ds) (.slice (some ⟨r,0,none⟩) xs.length cap):=
 Rows.sl (k.rowAt hl) hr k.len
theorem RowO.obj{r cap:Nat}{ty:TypeId}{es:Nat}{xs:List Value}(k:RowO h r cap ty es xs):∃cs:List Value,h r=some (.cells cs.toArray ty (0,0)):=by
 obtain⟨cs,h1,_⟩:=k
 exact⟨cs,h1⟩
def kY(v:Value):Prop:=∃n,v= .int .i64 n
theorem MapOk.weaken{ok ok':Value→Prop}{l:List (Value×Value)}(k:MapOk ok l)(hk:∀v,ok v→ok' v):MapOk ok' l:=⟨fun p hp=>hk _ (k.keys p hp),k.nodup⟩
theorem MapOk.int{l:List (Value×Value)}(k:MapOk kY l){n:Int}(v:Value):MapOk kY (dM l (.int .i64 n) v):=k.set ⟨n,rfl⟩ v
theorem iD(l:List (Value×Value))(n m:Int)(v:Value):fI (dM l (.int .i64 n) v) (.int .i64 m)=if m=n then some v else fI l (.int .i64 m):=by
 rw[zX]
 by_cases e:m=n
 ·subst e;rw[if_pos rfl,if_pos rfl]
 ·rw[if_neg e,if_neg (by simp[e])]
def Grown(es:Nat)(μ μ':Mem)(ds:List D)(ys:List Value):Prop:=∃g,OwnRows es ds ys g∧g.Le μ'∧∀b,g b≠none→μ b=none
theorem Grown.nil(es:Nat)(μ μ':Mem):Grown es μ μ' [] []:=⟨Mem.nil,OwnRows.nil es,(fun _ _ h=>nomatch h),fun _ h=>absurd rfl h⟩
theorem Grown.snoc{es:Nat}{μ μ' μ'':Mem}{ds:List D}{ys:List Value}{d:D}{v:Value}(k:Grown es μ μ' ds ys)(h0:μ.Le μ')(hv:Fresh μ' μ'' d v)(h1:μ'.Le μ'')(hn:d.n=es):Grown es μ μ'' (ds++[d]) (ys++[v]):=by
 obtain⟨g,a,b,c⟩:=k
 obtain⟨g',a',b',c'⟩:=hv
 refine⟨g.join g',a.snoc a' hn (lG b c'),iS (b.trans h1) b',fun x hx=>?_⟩
 rcases kA hx with h|h
 ·exact c x h
 ·have h3 := c' x h
  cases h4:μ x with
  |none=>rfl
  |some o=>rw[h0 x o h4]at h3;cases h3
theorem Grown.mono{es:Nat}{μ μ' μ'':Mem}{ds:List D}{ys:List Value}(k:Grown es μ μ' ds ys)(h:μ'.Le μ''):Grown es μ μ'' ds ys:=by
 obtain⟨g,a,b,c⟩:=k
 exact⟨g,a,b.trans h,c⟩
theorem Grown.len{es:Nat}{μ μ':Mem}{ds:List D}{ys:List Value}(k:Grown es μ μ' ds ys):ds.length=ys.length:=by
 obtain⟨g,a,_⟩:=k
 exact a.len
theorem Grown.fresh{es:Nat}{μ μ1 μ':Mem}{b:Option Nat}{cap:Nat}{ds:List D}{ys:List Value}(k:Grown es μ μ1 ds ys)(h0:μ.Le μ1)(h1:μ1.Le μ')(hb:∀r,b=some r→μ1 r=none)(hr:RowAt μ' b cap es ys)(hm:ys.length≤maxLen):
  Fresh μ μ' (.sl es ds) (.slice (b.map fun r=>⟨r,0,none⟩) ys.length cap):=by
 obtain⟨g,a,b',c⟩:=k
 exact Fresh.ofRow a b' c h0 h1 hb hr hm
variable {dr:Bool} {s:St} {K:Value→St→Prop}
end
section
variable {μ:Mem}
theorem lF{S:Type}(J:S→Mem→Prop)(step:S→Int→S)(Q:S→Int→Prop){k:FuncId}{caps:List Value}
  (hc:∀s h n,Q s n→J s h→SpecH Tryz.prog k (.int .i64 n::caps) μ h fun r μ' h'=>r= .tuple #[]∧μ'=μ∧J (step s n) h'):
  ∀(x:T) {v:Value} (s:S) (h:Mem),RepV μ x.tm.d v→(∀pre n post,x.vars=pre++n::post→Q (pre.foldl step s) n)→J s h→SpecH Tryz.prog 95 [v,.func (.func k) #[] caps.toArray] μ h fun r μ' h'=>r= .tuple #[]∧μ'=μ∧J (x.vars.foldl step s) h'
 | .var n,v,s,h,hv,hq,hj=>by
  have w_:=Tm.inv hv
  obtain⟨base,cap,rfl,hsl⟩:=w_
  refine SpecH.mk [] Tryz.func95 (by kernel_rfl) ?_
  intro r
  refine ifd (fun _=>?_) (fun h=>absurd rfl h)
  refine cOw (hc s h n (hq [] n [] rfl) hj) fun v μ' h' hle hap hR=>?_
  obtain⟨rfl,e2,hj'⟩:=hR
  obtain rfl:=e2.symm
  refine ifd (fun h=>absurd h (by decide)) (fun _=>?_)
  exact rPl ⟨rfl,rfl,hj'⟩
 | .nil,v,s,h,hv,hq,hj=>by
  have w_:=Tm.inv hv
  obtain⟨base,cap,rfl,hsl⟩:=w_
  refine SpecH.mk [] Tryz.func95 (by kernel_rfl) ?_
  intro r
  refine ifd (fun h=>absurd h (by decide)) (fun _=>?_)
  refine ifd (fun h=>absurd h (by decide)) (fun _=>?_)
  exact rPl ⟨rfl,rfl,hj⟩
 | .sym _,v,s,h,hv,hq,hj=>by
  have w_:=Tm.inv hv
  obtain⟨base,cap,rfl,hsl⟩:=w_
  refine SpecH.mk [] Tryz.func95 (by kernel_rfl) ?_
  intro r
  refine ifd (fun h=>absurd h (by decide)) (fun _=>?_)
  refine ifd (fun h=>absurd h (by decide)) (fun _=>?_)
  exact rPl ⟨rfl,rfl,hj⟩
 | .num _,v,s,h,hv,hq,hj=>by
  have w_:=Tm.inv hv
  obtain⟨base,cap,rfl,hsl⟩:=w_
  refine SpecH.mk [] Tryz.func95 (by kernel_rfl) ?_
  intro r
  refine ifd (fun h=>absurd h (by decide)) (fun _=>?_)
  refine ifd (fun h=>absurd h (by decide)) (fun _=>?_)
  exact rPl ⟨rfl,rfl,hj⟩
 | .pair a b,v,s,h,hv,hq,hj=>by
  have w_:=Tm.inv hv
  obtain⟨base,cap,rfl,hsl⟩:=w_
  have w_:=T.parts hsl
  obtain⟨ad,ad',p,p',h1,h2,hra,hrb⟩:=w_
  refine SpecH.mk [] Tryz.func95 (by kernel_rfl) ?_
  intro r
  refine ifd (fun h=>absurd h (by decide)) (fun _=>?_)
  refine ifd (fun _=>?_) (fun h=>absurd rfl h)
  refine eIn h1 (cOw (lF J step Q hc a s h hra (fun pre n post e=>hq pre n (post++b.vars) (by simp[T.vars,e])) hj) fun v μ' h' hle hap hR=>?_)
  obtain⟨rfl,e2,hj'⟩:=hR
  obtain rfl:=e2.symm
  refine eIn h2 (cOw (lF J step Q hc b _ h' hrb (fun pre n post e=>by
   have:=hq (a.vars++pre) n post (by simp[T.vars,e])
   rwa [List.foldl_append]at this) hj') fun v μ' h' hle hap hR=>?_)
  obtain⟨rfl,e2,hj'⟩:=hR
  obtain rfl:=e2.symm
  exact rPl ⟨rfl,rfl,by simpa[T.vars,List.foldl_append]using hj'⟩
end
end Go.Vx
namespace Go.Vx
open Go.Proofs Classical
theorem mA{h:Mem}{r i:Nat}{cs:List Value}{x:Value}{ty:TypeId}(hc:h r=some (.cells cs.toArray ty (0,0)))(hi:cs[i]? =some x):∀j v,[x][j]? =some v→h.cell ((⟨r,i,none⟩:Addr).add j)=some v:=fun j v hj=>by
 match j,hj with
 |0,hj=>cases hj;simp[Mem.cell,Addr.add_lit',hc,hi]
end Go.Vx
namespace Go.Vx
open Go.Proofs Classical
section
variable {μ:Mem}
theorem Rep.val:∀{d:D} {c:List Value},Rep μ d c→∃v,RepV μ d v∧aB v=c
 | .st fs,c,h=>⟨.agg c.toArray,⟨c,rfl,h⟩,by simp[aB]⟩
 | .i n,c,h=>by
  have h2:c=[.int .i64 n]:=h
  subst h2;exact⟨_,h,rfl⟩
 | .b x,c,h=>by
  have h2:c=[.bool x]:=h
  subst h2;exact⟨_,h,rfl⟩
 | .s x,c,h=>by
  have h2:c=[.string x]:=h
  subst h2;exact⟨_,h,rfl⟩
 | .sl es xs,c,h=>by
  obtain⟨base,cap,h1,h2⟩:=h
  subst h1
  exact⟨_,⟨base,cap,rfl,h2⟩,rfl⟩
theorem RepS.rows{es:Nat}:∀{l:List D} {flat:List Value},RepS μ l flat→(∀x∈l,x.n=es)→∃vs,Rows μ es l vs∧vs.flatMap aB=flat
 |[],flat,h,_=>by
  have h:flat=[]:=h
  subst h;exact⟨[],.nil,rfl⟩
 |d::l,flat,h,hn=>by
  obtain⟨c1,c2,rfl,h1,h2⟩:=h
  have w_:=Rep.val h1
  obtain⟨v,hv,rfl⟩:=w_
  have w_:=RepS.rows h2 fun x hx=>hn x (by simp[hx])
  obtain⟨vs,hr,rfl⟩:=w_
  exact⟨v::vs,.cons hv (hn d (by simp)) hr,by simp⟩
theorem Rows.take{es:Nat}:∀{ds:List D} {vs:List Value} (k:Nat),Rows μ es ds vs→Rows μ es (ds.take k) (vs.take k)
 |_,_,0,_=>by simpa using Rows.nil
 |_,_,k+1,.nil=>by simpa using Rows.nil
 |_,_,k+1,.cons h hn r=>by simpa using Rows.cons h hn (r.take k)
theorem Rows.drop{es:Nat}:∀{ds:List D} {vs:List Value} (k:Nat),Rows μ es ds vs→Rows μ es (ds.drop k) (vs.drop k)
 |_,_,0,h=>by simpa using h
 |_,_,k+1,.nil=>by simpa using Rows.nil
 |_,_,k+1,.cons h hn r=>by simpa using r.drop k
theorem Rows.size{es:Nat}:∀{ds:List D} {vs:List Value},Rows μ es ds vs→∀v∈vs,(aB v).length=es∧∀u∈aB v,u.oneCell'=true
 |_,_,.nil,v,hv=>by simp at hv
 |_,_,.cons h hn r,v,hv=>by
  rcases List.mem_cons.1 hv with rfl|hv
  ·exact⟨by rw[Rep.len _ _ h.cells];exact hn,Rep.one _ _ h.cells⟩
  ·exact r.size v hv
theorem Rep.src{es n cap:Nat}{base:Option Addr}{ds:List D}(h:RepV μ (.sl es ds) (.slice base n cap)):
  ∃vs,Rows μ es ds vs∧vs.length=n∧n≤cap∧∀a b,a≤b→b≤n→pQ μ (if cap=a then base else base.map (·.add (a*es))) (b-a) es ((vs.drop a).take (b-a)):=by
 have h':Rep μ (.sl es ds) [.slice base n cap]:=h
 have hcap:=Rep.lens h'
 obtain⟨b0,c0,h1,h2,h3,h4⟩:=h'
 simp only[List.cons.injEq,and_true]at h1
 have w_:=Value.slice.inj h1
 obtain⟨rfl,rfl,rfl⟩:=w_
 have:∃vs,Rows μ es ds vs∧(ds=[]∨∃a0,base=some a0∧CellsAt μ a0 (vs.flatMap aB)):=by
  rcases h4 with rfl|⟨a0,flat,g1,g2,g3⟩
  ·exact⟨[],.nil,.inl rfl⟩
  ·have w_ := RepS.rows g3 h3
   obtain⟨vs,hr,rfl⟩:=w_
   exact⟨vs,hr,.inr ⟨a0,g1,g2⟩⟩
 obtain⟨vs,hr,hc⟩:=this
 have hlen:=hr.len
 refine⟨vs,hr,hlen.symm,hcap,fun a b hab hb=>⟨by simp;omega,fun y hy=>hr.size y (List.mem_of_mem_drop (List.mem_of_mem_take hy)),?_⟩⟩
 rcases Nat.eq_or_lt_of_le hab with e|hlt
 ·exact .inl (by omega)
 ·right
  rcases hc with e|⟨a0,e,hcell⟩
  ·subst e;simp at hb;omega
  ·subst e
   refine⟨a0.add (a*es),by rw[if_neg (by omega)];rfl,fun j v hj=>?_⟩
   rw[add_add]
   refine hcell _ _ ?_
   have e1:vs.flatMap aB=(vs.take a).flatMap aB++(((vs.drop a).take (b-a)).flatMap aB++((vs.drop a).drop (b-a)).flatMap aB):=by
    rw[←List.flatMap_append,List.take_append_drop,←List.flatMap_append,List.take_append_drop]
   have e2:((vs.take a).flatMap aB).length=a*es:=by
    rw[dC (es:=es) (vs.take a) fun y hy=>(hr.size y (List.mem_of_mem_take hy)).1]
    congr 1;simp;omega
   rw[e1,List.getElem?_append_right (by omega),e2,Nat.add_sub_cancel_left,List.getElem?_append_left (List.getElem?_eq_some_iff.1 hj).1]
   exact hj
def uW{α:Type}(l:List α)(x:α)(k:Nat):List α:=l.take k++([x]++l.drop k)
theorem qKc{α:Type}(l:List α)(x y:α)(k:Nat):y∈uW l x k↔y=x∨y∈l:=by
 have h2:y∈l↔y∈l.take k∨y∈l.drop k:=by rw[←List.mem_append,List.take_append_drop]
 simp only[uW,List.mem_append,List.mem_singleton,h2]
 constructor
 ·rintro(h|h|h)<;>simp[h]
 ·rintro(h|h|h)<;>simp[h]
theorem qBw{α:Type}(l:List α)(x:α)(k:Nat):(uW l x k).length=l.length+1:=by
 have:=congrArg List.length (List.take_append_drop k l)
 simp only[uW,List.length_append,List.length_singleton]at*
 omega
theorem qHj:∀{l:List Int} (_:l.Nodup) {i:Nat} {n:Int},l[i]? =some n→l.idxOf n=i
 |[],_,i,n,h=>by simp at h
 |a::l,hn,0,n,h=>by
  simp only[List.getElem?_cons_zero,Option.some.injEq]at h
  subst h;simp
 |a::l,hn,i+1,n,h=>by
  simp only[List.getElem?_cons_succ]at h
  simp only[List.nodup_cons]at hn
  have hne:¬a=n:=fun e=>hn.1 (by subst e;exact List.mem_of_getElem? h)
  have hb:(a==n)=false:=by simp[hne]
  rw[List.idxOf_cons,hb,qHj hn.2 h]
  rfl
theorem T.vars_range:∀{x:T},x.good→∀n∈x.vars,0≤n∧n≤100000
 | .var n,h,m,hm=>by
  simp only[T.vars,List.mem_singleton]at hm
  subst hm;exact h
 | .pair a b,h,m,hm=>by
  simp only[T.vars,List.mem_append]at hm
  exact hm.elim (T.vars_range h.1 m) (T.vars_range h.2 m)
 | .nil,_,m,hm=>by simp[T.vars]at hm
 | .sym _,_,m,hm=>by simp[T.vars]at hm
 | .num _,_,m,hm=>by simp[T.vars]at hm
theorem nodup_range{N:Nat}:∀{l:List Int},l.Nodup→(∀n∈l,0≤n∧n<N)→l.length≤N:=by
 induction N with
 |zero=>
  intro l _ h
  cases l with
  |nil=>simp
  |cons a l=>have:=h a (by simp);omega
 |succ N ih=>
  intro l hn h
  have h1:=ih (l:=l.erase (N:Int)) (hn.erase _) fun n hm=>by
   rw[hn.mem_erase_iff]at hm
   have:=h n hm.2
   have h2:n≠(N:Int):=hm.1
   omega
  have h2:l.length≤(l.erase (N:Int)).length+1:=by
   rw[List.length_erase];split<;>omega
  omega
end
end Go.Vx
namespace Go.Vx
open Go.Proofs Classical
noncomputable def fits(bs:List B)(x:T):Option T:=fit (x.subst (sub bs))
section
variable {μ:Mem}
end
end Go.Vx
namespace Go.Vx
open Go.Proofs Classical
section
variable {μ:Mem}
theorem jB{α:Type}{l:List α}(h:l.length=1):∃v,l=[v]:=List.length_eq_one_iff.1 h
def FreshS(μ μ':Mem)(ds:List D)(cs:List Value):Prop:=∃g:Mem,OwnS ds g cs∧g.Le μ'∧∀b,g b≠none→μ b=none
variable {μ1 μ':Mem}
theorem FreshS.nil:FreshS μ μ' [] []:=⟨Mem.nil,⟨rfl,rfl⟩,(fun _ _ h=>nomatch h),fun _ h=>absurd rfl h⟩
theorem FreshS.int{n:Int}{ds:List D}{cs:List Value}(k:FreshS μ μ' ds cs):FreshS μ μ' (.i n::ds) (.int .i64 n::cs):=by
 obtain⟨g,a,b,c⟩:=k
 exact⟨g,OwnS.int a,b,c⟩
theorem FreshS.str{n:ByteArray}{ds:List D}{cs:List Value}(k:FreshS μ μ' ds cs):FreshS μ μ' (.s n::ds) (.string n::cs):=by
 obtain⟨g,a,b,c⟩:=k
 exact⟨g,OwnS.str a,b,c⟩
theorem FreshS.cons{d:D}{v:Value}{ds:List D}{cs:List Value}(k1:Fresh μ μ1 d v)(h1:μ.Le μ1)(h2:μ1.Le μ')(k:FreshS μ1 μ' ds cs):FreshS μ μ' (d::ds) (aB v++cs):=by
 obtain⟨g1,a1,b1,c1⟩:=k1
 obtain⟨g,a,b,c⟩:=k
 refine⟨g1.join g,OwnS.cons (Parts.join (lG b1 c)) a1.cells a,iS (b1.trans h2) b,fun x hx=>?_⟩
 rcases kA hx with h|h
 ·exact c1 x h
 ·have h3 := c x h
  cases h0:μ x with
  |none=>rfl
  |some o=>rw[h1 x o h0]at h3;cases h3
theorem FreshS.st{ds:List D}{cs:List Value}(k:FreshS μ μ' ds cs):Fresh μ μ' (.st ds) (.agg cs.toArray):=by
 obtain⟨g,a,b,c⟩:=k
 exact⟨g,⟨cs,rfl,a⟩,b,c⟩
end
end Go.Vx
namespace Go.Vx
open Go.Proofs Classical
inductive Gl where
 |mk (kind:Int) (name:ByteArray) (terms:List Tm) (goals:List Gl)
def Gl.kind:Gl→Int| .mk a _ _ _=>a
def Gl.name:Gl→ByteArray| .mk _ a _ _=>a
def Gl.terms:Gl→List Tm| .mk _ _ a _=>a
def Gl.goals:Gl→List Gl| .mk _ _ _ a=>a
theorem Gl.ind{q:Gl→Prop}(h:∀x:Gl,(∀y∈x.goals,q y)→q x):∀x,q x
 | .mk a0 a1 a2 a3=>h _ fun y hy=>have _:=hy;Gl.ind h y
termination_by x=>x
decreasing_by all_goals (first|exact Nat.lt_of_lt_of_le (List.sizeOf_lt_of_mem hy) (by simp only[Gl.goals,Gl.mk.sizeOf_spec];omega)|decreasing_tactic)
mutual
def Gl.d:Gl→D
 | .mk a0 a1 a2 a3=> .st [.i a0,.s a1,.sl 4 (a2.map Tm.d),.sl 4 (Gl.ds a3)]
def Gl.ds:List Gl→List D
 |[]=>[]
 |t::r=>t.d::Gl.ds r
end
theorem Gl.ds_map:∀l:List Gl,Gl.ds l=l.map Gl.d
 |[]=>rfl
 |t::r=>by simp[Gl.ds,Gl.ds_map r]
theorem Gl.d_eq(x:Gl):x.d= .st [.i x.kind,.s x.name,.sl 4 (x.terms.map Tm.d),.sl 4 (x.goals.map Gl.d)]:=by
 cases x
 rw[Gl.d,Gl.ds_map]
 rfl
theorem Gl.d_n(x:Gl):x.d.n=4:=by
 rw[Gl.d_eq]
 simp only[D.n,D.ns]
abbrev Gl.P:=(Option Addr×Nat)×(Option Addr×Nat)
def Gl.cs(x:Gl)(p:Gl.P):List Value:=[.int .i64 x.kind,.string x.name,.slice p.1.1 x.terms.length p.1.2,.slice p.2.1 x.goals.length p.2.2]
section
variable {μ:Mem}
def Gl.At(μ:Mem)(x:Gl)(p:Gl.P):Prop:=Sl μ 4 p.1.1 x.terms.length (x.terms.map Tm.d)∧Sl μ 4 p.2.1 x.goals.length (x.goals.map Gl.d)
theorem Gl.invA{x:Gl}{cs:List Value}(h:Rep μ x.d cs):∃p:Gl.P,cs=x.cs p∧Gl.At μ x p:=by
 rw[Gl.d_eq]at h
 obtain⟨a0,t0,rfl,h0,h⟩:=h
 have h0:a0=[.int .i64 x.kind]:=h0
 subst h0
 obtain⟨a1,t1,rfl,h1,h⟩:=h
 have h1:a1=[.string x.name]:=h1
 subst h1
 obtain⟨a2,t2,rfl,h2,h⟩:=h
 have w_:=jB (Rep.len _ _ h2)
 obtain⟨v2,rfl⟩:=w_
 have w_:=Rep.sl h2
 obtain⟨b2,c2,rfl,s2⟩:=w_
 rw[List.length_map]at s2
 obtain⟨a3,t3,rfl,h3,h⟩:=h
 have w_:=jB (Rep.len _ _ h3)
 obtain⟨v3,rfl⟩:=w_
 have w_:=Rep.sl h3
 obtain⟨b3,c3,rfl,s3⟩:=w_
 rw[List.length_map]at s3
 obtain rfl:t3=[]:=h
 exact⟨((b2,c2),(b3,c3)),by simp[Gl.cs],⟨s2,s3⟩⟩
theorem Gl.rep{x:Gl}{cs:List Value}(h:Rep μ x.d cs):RepV μ x.d (.agg cs.toArray):=by
 rw[Gl.d_eq]at h ⊢;exact⟨cs,rfl,h⟩
theorem Gl.invR{x:Gl}{cs:List Value}(h:Rep μ x.d cs):∃p:Gl.P,cs=x.cs p∧RepV μ x.d (.agg (x.cs p).toArray):=by
 have w_:=Gl.invA h
 obtain⟨p,e,_⟩:=w_
 subst e
 exact⟨p,rfl,Gl.rep h⟩
theorem Gl.inv{x:Gl}{v:Value}(h:RepV μ x.d v):∃p:Gl.P,v= .agg #[.int .i64 x.kind,.string x.name,.slice p.1.1 x.terms.length p.1.2,.slice p.2.1 x.goals.length p.2.2]∧Gl.At μ x p:=by
 have h2:∃cs,v= .agg (List.toArray cs)∧Rep μ x.d cs:=by rw[Gl.d_eq]at h ⊢;exact h
 obtain⟨cs,rfl,h3⟩:=h2
 have w_:=Gl.invA h3
 obtain⟨p,rfl,hA⟩:=w_
 exact⟨p,rfl,hA⟩
theorem Gl.invV{x:Gl}{v:Value}(h:RepV μ x.d v):∃p:Gl.P,v= .agg #[.int .i64 x.kind,.string x.name,.slice p.1.1 x.terms.length p.1.2,.slice p.2.1 x.goals.length p.2.2]:=by
 have w_:=Gl.inv h
 obtain⟨p,h,_⟩:=w_
 exact⟨p,h⟩
theorem Gl.elemA{l:List Gl}{base:Option Addr}{n:Nat}(h:Sl μ 4 base n (l.map Gl.d)){i:Nat}{x:Gl}(hx:l[i]? =some x):∃ad,∃p:Gl.P,ElemAt μ base n 4 i ad (x.cs p)∧RepV μ x.d (.agg (x.cs p).toArray)∧Gl.At μ x p:=by
 have w_:=h.get i x.d (by simp[hx])
 obtain⟨ad,cs,h1,h2⟩:=w_
 have w_:=Gl.invA h2
 obtain⟨p,rfl,hA⟩:=w_
 exact⟨ad,p,h1,Gl.rep h2,hA⟩
theorem Gl.elem{l:List Gl}{base:Option Addr}{n:Nat}(h:Sl μ 4 base n (l.map Gl.d)){i:Nat}{x:Gl}(hx:l[i]? =some x):∃ad,∃p:Gl.P,ElemAt μ base n 4 i ad (x.cs p)∧RepV μ x.d (.agg (x.cs p).toArray):=by
 have w_:=Gl.elemA h hx
 obtain⟨ad,p,h1,h2,_⟩:=w_
 exact⟨ad,p,h1,h2⟩
end
end Go.Vx
namespace Go.Vx
open Go.Proofs Classical
structure Rl where
 name:ByteArray
 arity:Int
 locals:Int
 body:Gl
def Rl.d(x:Rl):D:= .st [.s x.name,.i x.arity,.i x.locals,x.body.d]
theorem Rl.d_eq(x:Rl):x.d= .st [.s x.name,.i x.arity,.i x.locals,x.body.d]:=rfl
theorem Rl.d_n(x:Rl):x.d.n=7:=by
 rw[Rl.d_eq]
 simp only[D.n,D.ns,Gl.d_n]
abbrev Rl.P:=Gl.P
def Rl.cs(x:Rl)(p:Rl.P):List Value:=[.string x.name,.int .i64 x.arity,.int .i64 x.locals,.int .i64 x.body.kind,.string x.body.name,.slice p.1.1 x.body.terms.length p.1.2,.slice p.2.1 x.body.goals.length p.2.2]
section
variable {μ:Mem}
def Rl.At(μ:Mem)(x:Rl)(p:Rl.P):Prop:=RepV μ x.body.d (.agg (x.body.cs p).toArray)
theorem Rl.invA{x:Rl}{cs:List Value}(h:Rep μ x.d cs):∃p:Rl.P,cs=x.cs p∧Rl.At μ x p:=by
 rw[Rl.d_eq]at h
 obtain⟨a0,t0,rfl,h0,h⟩:=h
 have h0:a0=[.string x.name]:=h0
 subst h0
 obtain⟨a1,t1,rfl,h1,h⟩:=h
 have h1:a1=[.int .i64 x.arity]:=h1
 subst h1
 obtain⟨a2,t2,rfl,h2,h⟩:=h
 have h2:a2=[.int .i64 x.locals]:=h2
 subst h2
 obtain⟨a3,t3,rfl,h3,h⟩:=h
 have w_:=Gl.invR h3
 obtain⟨p3,rfl,r3⟩:=w_
 obtain rfl:t3=[]:=h
 exact⟨p3,by simp[Rl.cs,Gl.cs],r3⟩
theorem Rl.rep{x:Rl}{cs:List Value}(h:Rep μ x.d cs):RepV μ x.d (.agg cs.toArray):=by
 rw[Rl.d_eq]at h ⊢;exact⟨cs,rfl,h⟩
theorem Rl.inv{x:Rl}{v:Value}(h:RepV μ x.d v):∃p:Rl.P,v= .agg #[.string x.name,.int .i64 x.arity,.int .i64 x.locals,.int .i64 x.body.kind,.string x.body.name,.slice p.1.1 x.body.terms.length p.1.2,.slice p.2.1 x.body.goals.length p.2.2]∧Rl.At μ x p:=by
 have h2:∃cs,v= .agg (List.toArray cs)∧Rep μ x.d cs:=by rw[Rl.d_eq]at h ⊢;exact h
 obtain⟨cs,rfl,h3⟩:=h2
 have w_:=Rl.invA h3
 obtain⟨p,rfl,hA⟩:=w_
 exact⟨p,rfl,hA⟩
theorem Rl.invV{x:Rl}{v:Value}(h:RepV μ x.d v):∃p:Rl.P,v= .agg #[.string x.name,.int .i64 x.arity,.int .i64 x.locals,.int .i64 x.body.kind,.string x.body.name,.slice p.1.1 x.body.terms.length p.1.2,.slice p.2.1 x.body.goals.length p.2.2]:=by
 have w_:=Rl.inv h
 obtain⟨p,h,_⟩:=w_
 exact⟨p,h⟩
theorem Rl.elemA{l:List Rl}{base:Option Addr}{n:Nat}(h:Sl μ 7 base n (l.map Rl.d)){i:Nat}{x:Rl}(hx:l[i]? =some x):∃ad,∃p:Rl.P,ElemAt μ base n 7 i ad (x.cs p)∧RepV μ x.d (.agg (x.cs p).toArray)∧Rl.At μ x p:=by
 have w_:=h.get i x.d (by simp[hx])
 obtain⟨ad,cs,h1,h2⟩:=w_
 have w_:=Rl.invA h2
 obtain⟨p,rfl,hA⟩:=w_
 exact⟨ad,p,h1,Rl.rep h2,hA⟩
theorem Rl.elem{l:List Rl}{base:Option Addr}{n:Nat}(h:Sl μ 7 base n (l.map Rl.d)){i:Nat}{x:Rl}(hx:l[i]? =some x):∃ad,∃p:Rl.P,ElemAt μ base n 7 i ad (x.cs p)∧RepV μ x.d (.agg (x.cs p).toArray):=by
 have w_:=Rl.elemA h hx
 obtain⟨ad,p,h1,h2,_⟩:=w_
 exact⟨ad,p,h1,h2⟩
end
end Go.Vx
namespace Go.Vx
open Go.Proofs Classical
structure Pg where
 rels:List Rl
def Pg.d(x:Pg):D:= .st [.sl 7 (x.rels.map Rl.d)]
theorem Pg.d_eq(x:Pg):x.d= .st [.sl 7 (x.rels.map Rl.d)]:=rfl
abbrev Pg.P:=(Option Addr×Nat)
def Pg.cs(x:Pg)(p:Pg.P):List Value:=[.slice p.1 x.rels.length p.2]
section
variable {μ:Mem}
def Pg.At(μ:Mem)(x:Pg)(p:Pg.P):Prop:=Sl μ 7 p.1 x.rels.length (x.rels.map Rl.d)
theorem Pg.invA{x:Pg}{cs:List Value}(h:Rep μ x.d cs):∃p:Pg.P,cs=x.cs p∧Pg.At μ x p:=by
 rw[Pg.d_eq]at h
 obtain⟨a0,t0,rfl,h0,h⟩:=h
 have w_:=jB (Rep.len _ _ h0)
 obtain⟨v0,rfl⟩:=w_
 have w_:=Rep.sl h0
 obtain⟨b0,c0,rfl,s0⟩:=w_
 rw[List.length_map]at s0
 obtain rfl:t0=[]:=h
 exact⟨(b0,c0),by simp[Pg.cs],s0⟩
theorem Pg.inv{x:Pg}{v:Value}(h:RepV μ x.d v):∃p:Pg.P,v= .agg #[.slice p.1 x.rels.length p.2]∧Pg.At μ x p:=by
 have h2:∃cs,v= .agg (List.toArray cs)∧Rep μ x.d cs:=by rw[Pg.d_eq]at h ⊢;exact h
 obtain⟨cs,rfl,h3⟩:=h2
 have w_:=Pg.invA h3
 obtain⟨p,rfl,hA⟩:=w_
 exact⟨p,rfl,hA⟩
theorem Pg.invV{x:Pg}{v:Value}(h:RepV μ x.d v):∃p:Pg.P,v= .agg #[.slice p.1 x.rels.length p.2]:=by
 have w_:=Pg.inv h
 obtain⟨p,h,_⟩:=w_
 exact⟨p,h⟩
end
end Go.Vx
namespace Go.Vx
open Go.Proofs Classical
structure Fc where
 rel:ByteArray
 args:List Tm
def Fc.d(x:Fc):D:= .st [.s x.rel,.sl 4 (x.args.map Tm.d)]
theorem Fc.d_eq(x:Fc):x.d= .st [.s x.rel,.sl 4 (x.args.map Tm.d)]:=rfl
theorem Fc.d_n(x:Fc):x.d.n=2:=by
 rw[Fc.d_eq]
 simp only[D.n,D.ns]
abbrev Fc.P:=(Option Addr×Nat)
def Fc.cs(x:Fc)(p:Fc.P):List Value:=[.string x.rel,.slice p.1 x.args.length p.2]
section
variable {μ:Mem}
def Fc.At(μ:Mem)(x:Fc)(p:Fc.P):Prop:=Sl μ 4 p.1 x.args.length (x.args.map Tm.d)
theorem Fc.invA{x:Fc}{cs:List Value}(h:Rep μ x.d cs):∃p:Fc.P,cs=x.cs p∧Fc.At μ x p:=by
 rw[Fc.d_eq]at h
 obtain⟨a0,t0,rfl,h0,h⟩:=h
 have h0:a0=[.string x.rel]:=h0
 subst h0
 obtain⟨a1,t1,rfl,h1,h⟩:=h
 have w_:=jB (Rep.len _ _ h1)
 obtain⟨v1,rfl⟩:=w_
 have w_:=Rep.sl h1
 obtain⟨b1,c1,rfl,s1⟩:=w_
 rw[List.length_map]at s1
 obtain rfl:t1=[]:=h
 exact⟨(b1,c1),by simp[Fc.cs],s1⟩
theorem Fc.rep{x:Fc}{cs:List Value}(h:Rep μ x.d cs):RepV μ x.d (.agg cs.toArray):=by
 rw[Fc.d_eq]at h ⊢;exact⟨cs,rfl,h⟩
theorem Fc.inv{x:Fc}{v:Value}(h:RepV μ x.d v):∃p:Fc.P,v= .agg #[.string x.rel,.slice p.1 x.args.length p.2]∧Fc.At μ x p:=by
 have h2:∃cs,v= .agg (List.toArray cs)∧Rep μ x.d cs:=by rw[Fc.d_eq]at h ⊢;exact h
 obtain⟨cs,rfl,h3⟩:=h2
 have w_:=Fc.invA h3
 obtain⟨p,rfl,hA⟩:=w_
 exact⟨p,rfl,hA⟩
theorem Fc.elemA{l:List Fc}{base:Option Addr}{n:Nat}(h:Sl μ 2 base n (l.map Fc.d)){i:Nat}{x:Fc}(hx:l[i]? =some x):∃ad,∃p:Fc.P,ElemAt μ base n 2 i ad (x.cs p)∧RepV μ x.d (.agg (x.cs p).toArray)∧Fc.At μ x p:=by
 have w_:=h.get i x.d (by simp[hx])
 obtain⟨ad,cs,h1,h2⟩:=w_
 have w_:=Fc.invA h2
 obtain⟨p,rfl,hA⟩:=w_
 exact⟨ad,p,h1,Fc.rep h2,hA⟩
theorem Fc.elem{l:List Fc}{base:Option Addr}{n:Nat}(h:Sl μ 2 base n (l.map Fc.d)){i:Nat}{x:Fc}(hx:l[i]? =some x):∃ad,∃p:Fc.P,ElemAt μ base n 2 i ad (x.cs p)∧RepV μ x.d (.agg (x.cs p).toArray):=by
 have w_:=Fc.elemA h hx
 obtain⟨ad,p,h1,h2,_⟩:=w_
 exact⟨ad,p,h1,h2⟩
end
end Go.Vx
namespace Go.Vx
open Go.Proofs Classical
mutual
def Gl.cnt:Gl→Nat
 | .mk _ _ _ l=>1+Gl.cnts l
def Gl.cnts:List Gl→Nat
 |[]=>0
 |t::r=>t.cnt+Gl.cnts r
end
theorem Gl.cnt_eq1(g:Gl):g.cnt=1+Gl.cnts g.goals:=by cases g;rfl
theorem Gl.cnt_pos(g:Gl):1≤g.cnt:=by rw[Gl.cnt_eq1];omega
theorem Gl.cnts_append:∀(a c:List Gl),Gl.cnts (a++c)=Gl.cnts a+Gl.cnts c
 |[],c=>by simp[Gl.cnts]
 |d::r,c=>by simp[Gl.cnts,Gl.cnts_append r c,Nat.add_assoc]
theorem Gl.cnts_take{xs:List Gl}{j:Nat}{x:Gl}(h:xs[j]? =some x):Gl.cnts (xs.take (j+1))=Gl.cnts (xs.take j)+x.cnt:=by
 rw[List.take_add_one,h,Option.toList_some,Gl.cnts_append];simp[Gl.cnts]
theorem Gl.cnts_le(xs:List Gl)(j:Nat):Gl.cnts (xs.take j)≤Gl.cnts xs:=by
 have:=Gl.cnts_append (xs.take j) (xs.drop j)
 rw[List.take_append_drop]at this;omega
structure TopOk (g:Gl):Prop where
 tm:∀t∈g.terms,t.Ok
 k0:0≤g.kind
 k1:g.kind≤10
 nm:g.kind≠9→g.name=⟨#[]⟩
 rel:g.kind=9→gJ g.name
 ln9:g.kind=9→g.terms.length≤4
 ln2:g.kind=2∨g.kind=3∨g.kind=6→g.terms.length=2
 ln1:g.kind=4∨g.kind=5→g.terms.length=1
 ln0:g.kind=0∨g.kind=1∨g.kind=7∨g.kind=8∨g.kind=10→g.terms.length=0
 gl:g.goals.length≤8
 gl0:g.kind<7∨g.kind=9→g.goals.length=0
 gl1:g.kind=10→g.goals.length=1
 sy:g.kind=6→∀a,g.terms[0]? =some a→a.kind=2
 cl:g.kind=10→∀b,g.goals[0]? =some b→b.kind=9
inductive Gl.Sh:Gl→Prop
 |mk {g:Gl} (top:TopOk g) (sub:∀x∈g.goals,x.Sh):g.Sh
theorem Gl.Sh.top{g:Gl}(h:g.Sh):TopOk g:=by cases h;assumption
theorem Gl.Sh.sub{g:Gl}(h:g.Sh):∀x∈g.goals,x.Sh:=by cases h;assumption
def Gl.Ok(g:Gl):Prop:=g.Sh∧g.cnt≤80
section
variable {μ:Mem}
theorem nS:∀(g:Gl) {v:Value} {most:Int},RepV μ g.d v→ -1000000000000≤most→most≤1000000000000→aP Tryz.prog 123 [v,.int .i64 most] μ (.int .i64 (eF g.cnt most)):=
 Gl.ind fun g ih v most hv h1 h2=>by
  have w_:=Gl.inv hv
  obtain⟨p,rfl,-,hsl⟩:=w_
  have hn:=aJ hsl.max
  have hge:=Gl.cnt_eq1 g
  generalize hl:g.goals=l at*
  refine Spec.mk Tryz.func123 (by kernel_rfl) ?_
  intro r
  refine lIn (fun i:Nat=>i≤l.length) (fun i=>⟨[(1,.val (.int .i64 most)),(5,.val (.int .i64 (eF (1+Gl.cnts (l.take i):Nat) most))),(9,.val (.slice p.2.1 l.length p.2.2)),(10,.val (.int .i64 l.length)),(11,.val (.int .i64 i))],[],1,μ,Mem.nil⟩) (fun i=>l.length-i)
   0 (by omega) (fun i=>⟨rfl,rfl⟩) ⟨⟨rfl,by show some (SV.val (.int .i64 _))=some (SV.val (.int .i64 _));congr 3;simp[Gl.cnts,eF];omega,rfl,rfl,rfl,trivial⟩,trivial,rfl,rfl⟩ ?_
  intro i hi
  refine ifd (fun h=>?_) (fun h=>?_)
  ·have w_ := aSo (l := l) (i := i) (by omega)
   obtain⟨t,ht⟩:=w_
   have hc:=Gl.cnts_take ht
   have hc':=Gl.cnts_le l (i+1)
   have w_:=Gl.elem hsl ht
   obtain⟨ad,p,hel,hr⟩:=w_
   refine eIn hel ?_
   intro r2
   refine ifd (fun h=>rGv ?_ rfl) (fun h=>?_)
   ·simp only [eF] at h ⊢
    congr 1;omega
   ·have hb : eF (1 + Gl.cnts (l.take i) : Nat) most ≤ 1000000000001 ∧ 1 ≤ eF (1 + Gl.cnts (l.take i) : Nat) most := by unfold eF; omega
    refine aC (by omega) (by omega) ?_
    refine cGv (ih t (mAt ht) hr (by omega) (by omega)) ?_
    refine nEq (x:=eF (1+Gl.cnts (l.take (i+1)):Nat) most) ?_ ?_
    ·have hb2:eF (t.cnt:Int) (most-eF (1+Gl.cnts (l.take i):Nat) most)≤1000000000001∧1≤eF (t.cnt:Int) (most-eF (1+Gl.cnts (l.take i):Nat) most):=by
      have:=t.cnt_pos
      unfold eF at hb h ⊢
      omega
     rw[aA (by omega) (by omega),hc]
     unfold eF at h ⊢;omega
    ·exact aC (by omega) (by omega) ⟨i+1,by omega,by omega,⟨⟨rfl,rfl,rfl,rfl,rfl,trivial⟩,trivial,rfl,rfl⟩⟩
  ·obtain rfl : i = l.length := by omega
   rw[List.take_length]
   exact rGv (by rw[hge]) rfl
theorem qMo{n k:Nat}(hk:k≤10):([.int .i64 0,.int .i64 0,.int .i64 2,.int .i64 2,.int .i64 1,.int .i64 1,.int .i64 2,.int .i64 0,.int .i64 0,.int .i64 n,.int .i64 0]:List Value)[k]? =some (.int .i64 (if k=2∨k=3∨k=6 then 2 else if k=4∨k=5 then 1 else if k=9 then n else 0)):=by
 match k,hk with
 |0,_=>rfl
 |1,_=>rfl
 |2,_=>rfl
 |3,_=>rfl
 |4,_=>rfl
 |5,_=>rfl
 |6,_=>rfl
 |7,_=>rfl
 |8,_=>rfl
 |9,_=>rfl
 |10,_=>rfl
theorem xM:∀(g:Gl) {v:Value},RepV μ g.d v→g.d.wd→aP Tryz.prog 148 [v] μ (.bool (decide g.Sh)):=
 Gl.ind fun g ih v hv hw=>by
  have w_:=Gl.inv hv
  obtain⟨p,rfl,hts,hgs⟩:=w_
  have hn1:=aJ hts.max
  have hn2:=aJ hgs.max
  rw[Gl.d_eq]at hw
  have hs:g.name.size≤maxLen:=hw.2.1
  have wt:D.wds (g.terms.map Tm.d):=hw.2.2.1
  have wg:D.wds (g.goals.map Gl.d):=hw.2.2.2.1
  have bad:¬TopOk g→Value.bool false= .bool (decide g.Sh):=fun h=>isF fun k=>h k.top
  refine Spec.mk Tryz.func148 (by kernel_rfl) ?_
  intro r
  refine cGv (cC _ _ _ _) ?_
  refine aM (fun h=>rGv (bad fun T=>h ⟨T.k0,T.k1⟩) rfl) (fun hk=>?_)
  refine aM (fun h9=>aM (fun hne=>rGv (bad fun T=>hne (T.nm h9)) rfl) (fun hnm=>?_)) (fun h9=>?_)
  all_goals refine cGv (xA hts wt) ?_
  all_goals refine aM (fun h=>rGv (bad fun T=>h T.tm) rfl) (fun htm=>?_)
  all_goals intro r2
  all_goals obtain⟨k,hk'⟩:∃k:Nat,g.kind=k:=⟨g.kind.toNat,by omega⟩
  all_goals refine aZ k hk' (by omega) (bA _ (qMo (by omega)) ?_)
  all_goals refine aM (fun hlen=>rGv (bad fun T=>hlen ?_) rfl) (fun hlen=>?_)
  any_goals (have e9:=T.ln9;have e2:=T.ln2;have e1:=T.ln1;have e0:=T.ln0;have:=T.gl;omega)
  all_goals refine ifd (fun h4=>rGv (bad fun T=>?_) rfl) (fun h4=>?_)
  any_goals (have e9:=T.ln9;have e2:=T.ln2;have e1:=T.ln1;have e0:=T.ln0;have:=T.gl;omega)
  all_goals refine ifd (fun h7=>ifd (fun h0=>rGv (bad fun T=>?_) rfl) (fun h0=>?_)) (fun h7=>?_)
  any_goals (have e9:=T.gl0;omega)
  all_goals refine ifd (fun h8=>rGv (bad fun T=>?_) rfl) (fun h8=>?_)
  any_goals (have e9:=T.gl;omega)
  all_goals refine lIn (fun i:Nat=>i≤g.goals.length∧∀t∈g.goals.take i,t.Sh) (fun i=>⟨[(1,.loc 0 r 0),(61,.val (.slice p.2.1 g.goals.length p.2.2)),(62,.val (.int .i64 g.goals.length)),(63,.val (.int .i64 i))],[(0,some (.cells r [.val (.int .i64 g.kind),.val (.string g.name),.val (.slice p.1.1 g.terms.length p.1.2),.val (.slice p.2.1 g.goals.length p.2.2)] 31))],2,μ,Mem.nil⟩) (fun i=>g.goals.length-i) 0 ⟨by omega,by simp⟩ (fun i=>⟨rfl,rfl⟩) ⟨⟨rfl,rfl,rfl,rfl,trivial⟩,⟨rfl,trivial⟩,rfl,rfl⟩ ?_
  all_goals rintro i ⟨hi,hall⟩
  all_goals refine ifd (fun h=>?_) (fun h=>?_)
  any_goals
   have w_:=aSo (l:=g.goals) (i:=i) (by omega)
   obtain⟨t,ht⟩:=w_
   have w_:=Gl.elem hgs ht
   obtain⟨ad,p,hel,hr⟩:=w_
   refine eIn hel ?_
   intro r3
   refine cGv (ih t (mAt ht) hr (D.wds_mem wg _ (mAt (qGn (f:=Gl.d) ht)))) ?_
   refine aM (fun h=>rGv (isF fun S=>h (S.sub t (mAt ht))) rfl) (fun h=>?_)
   refine aC (by omega) (by omega) ⟨i+1,⟨by omega,fun x hx=>?_⟩,by omega,⟨⟨rfl,rfl,rfl,rfl,trivial⟩,⟨rfl,trivial⟩,rfl,rfl⟩⟩
   rw[List.take_add_one,ht,Option.toList_some,List.mem_append,List.mem_singleton]at hx
   rcases hx with hx|rfl
   ·exact hall x hx
   ·exact h
  all_goals obtain rfl:i=g.goals.length:=by omega
  all_goals rw[List.take_length]at hall
  all_goals
   have mk:(g.kind=9→gJ g.name)→(g.kind=10→g.goals.length=1)→(g.kind=9→g.goals.length=0)→(g.kind=6→∀a,g.terms[0]? =some a→a.kind=2)→(g.kind=10→∀b,g.goals[0]? =some b→b.kind=9)→g.Sh:=fun a b c d e=>
    .mk ⟨htm,by omega,by omega,by first|exact fun _=>hnm|exact fun h=>absurd h9 h,a,by omega,by omega,by omega,by omega,by omega,by omega,b,d,e⟩ hall
  all_goals refine ifd (fun h6=>?_) (fun h6=>?_)
  any_goals
   have w_:=aSo (l:=g.terms) (i:=0) (by omega)
   obtain⟨a,ha⟩:=w_
   have w_:=Tm.elem hts ha
   obtain⟨ad,p,hel,hr⟩:=w_
   refine eIn hel ?_
   exact rGv (isI ⟨fun hh=>mk (by omega) (by omega) (by omega) (fun _ x hx=>by rw[ha]at hx;cases hx;exact hh) (by omega),fun S=>S.top.sy h6 a ha⟩) rfl
  all_goals refine ifd (fun h9=>?_) (fun h9=>?_)
  any_goals omega
  any_goals
   refine ifd (fun h0=>cGv (gK _ hs _) (rGv (isI ⟨fun hh=>mk (fun _=>hh) (by omega) (by omega) (by omega) (by omega),fun S=>S.top.rel h9⟩) rfl)) (fun h0=>rGv (isF fun S=>?_) rfl)
   have:=S.top.gl0;omega
  all_goals refine ifd (fun h10=>?_) (fun h10=>rGv (isT (mk (by omega) (by omega) (by omega) (by omega) (by omega))) rfl)
  any_goals omega
  all_goals refine ifd (fun h1=>?_) (fun h1=>rGv (isF fun S=>h1 ?_) rfl)
  any_goals (have:=S.top.gl1;omega)
  all_goals
   have w_:=aSo (l:=g.goals) (i:=0) (by omega)
   obtain⟨b,hb⟩:=w_
   have w_:=Gl.elem hgs hb
   obtain⟨ad,p,hel,hr⟩:=w_
   refine eIn hel ?_
   exact rGv (isI ⟨fun hh=>mk (by omega) (by omega) (by omega) (by omega) (fun _ x hx=>by rw[hb]at hx;cases hx;exact hh),fun S=>S.top.cl h10 b hb⟩) rfl
end
end Go.Vx
namespace Go.Vx
open Go.Proofs Classical
noncomputable def Gl.nodes(t:Gl)(room:Int):Int:=if t.Sh∧(t.cnt:Int)≤room then t.cnt else -1
theorem Gl.nodes_neg{t:Gl}{room:Int}(h:¬(t.Sh∧(t.cnt:Int)≤room)):Value.int .i64 (-1)= .int .i64 (t.nodes room):=by rw[Gl.nodes,if_neg h]
theorem Gl.nodes_pos{t:Gl}{room:Int}(h:t.Sh)(h2:(t.cnt:Int)≤room):t.nodes room=t.cnt:=by rw[Gl.nodes,if_pos ⟨h,h2⟩]
theorem Gl.nodes_lt{t:Gl}{room:Int}(h:t.nodes room<0):¬(t.Sh∧(t.cnt:Int)≤room):=fun k=>by rw[Gl.nodes,if_pos k]at h;omega
theorem Gl.nodes_ge{t:Gl}{room:Int}(h:¬t.nodes room<0):t.Sh∧(t.cnt:Int)≤room∧t.nodes room=t.cnt:=by
 by_cases k:t.Sh∧(t.cnt:Int)≤room
 ·exact⟨k.1,k.2,by rw[Gl.nodes,if_pos k]⟩
 ·rw[Gl.nodes,if_neg k]at h;omega
noncomputable def qBg:List (Value×Value):=dM (dM (dM (dM (dM [] (.int .i64 2) (.int .i64 2)) (.int .i64 3) (.int .i64 2)) (.int .i64 4) (.int .i64 1)) (.int .i64 5) (.int .i64 1)) (.int .i64 6) (.int .i64 2)
theorem jP(k:Int):fI qBg (.int .i64 k)=if k=6 then some (.int .i64 2)else if k=5 then some (.int .i64 1)else if k=4 then some (.int .i64 1)else if k=3 then some (.int .i64 2)else if k=2 then some (.int .i64 2)else none:=by
 unfold qBg
 rw[iD,iD,iD,iD,iD]
 rfl
section
variable {μ:Mem}
theorem jJ(g:Gl){v:Value}(hv:RepV μ g.d v)(hw:g.d.wd):aP Tryz.prog 120 [v] μ (.bool (decide g.Ok)):=by
 have w_:=Gl.invV hv
 obtain⟨p,rfl⟩:=w_
 refine Spec.mk Tryz.func120 (by kernel_rfl) ?_
 intro r
 refine cGv (nS g hv (by decide) (by decide)) ?_
 refine ifd (fun h=>?_) (fun h=>rGv (isF fun hh=>?_) rfl)
 ·refine cGv (xM g hv hw) (rGv (isI ⟨fun hh => ⟨hh, ?_⟩, fun hh => hh.1⟩) rfl)
  unfold eF at h;omega
 ·have:=hh.2;unfold eF at h;omega
theorem uR:∀(g:Gl) {v:Value} {room:Int},RepV μ g.d v→ -1000000000000≤room→room≤1000000000000→aP Tryz.prog 63 [v,.int .i64 room] μ (.int .i64 (g.nodes room)):=
 Gl.ind fun g ih v room hv hr1 hr2=>by
  have w_:=Gl.inv hv
  obtain⟨p,rfl,hts,hgs⟩:=w_
  have hn1:=aJ hts.max
  have hn2:=aJ hgs.max
  have hpos:=g.cnt_pos
  have hce:=g.cnt_eq1
  have bad:¬TopOk g→Value.int .i64 (-1)= .int .i64 (g.nodes room):=fun h=>Gl.nodes_neg fun k=>h k.1.top
  refine Spec.mkO [18] Tryz.func63 (by kernel_rfl) ?_
  intro r
  refine ifd (fun h=>rGv (Gl.nodes_neg fun k=>by omega) rfl) (fun h1=>?_)
  refine cGv (oS hts) ?_
  refine aM (fun h=>rGv (bad fun T=>h T.tm) rfl) (fun htm=>?_)
  intro rM hmM hoM
  have k0:MapOk kY []:=MapOk.nil
  have k1:=k0.int (n:=2) (.int .i64 2)
  have k2:=k1.int (n:=3) (.int .i64 2)
  have k3:=k2.int (n:=4) (.int .i64 1)
  have k4:=k3.int (n:=5) (.int .i64 1)
  have k5:=k4.int (n:=6) (.int .i64 2)
  refine fL _ (Mem.set_at _ _ _) (k0.weaken (by rintro _ ⟨n,rfl⟩;rfl)) rfl ?_
  refine fL _ (Mem.set_at _ _ _) (k1.weaken (by rintro _ ⟨n,rfl⟩;rfl)) rfl ?_
  refine fL _ (Mem.set_at _ _ _) (k2.weaken (by rintro _ ⟨n,rfl⟩;rfl)) rfl ?_
  refine fL _ (Mem.set_at _ _ _) (k3.weaken (by rintro _ ⟨n,rfl⟩;rfl)) rfl ?_
  refine fL _ (Mem.set_at _ _ _) (k4.weaken (by rintro _ ⟨n,rfl⟩;rfl)) rfl ?_
  generalize hh:Mem.set (Mem.set (Mem.set (Mem.set (Mem.set (Mem.set _ rM _) rM _) rM _) rM _) rM _) rM _=h0
  have hm:h0 rM=some (bN qBg):=by subst hh;exact Mem.set_at _ _ _
  clear hh hmM hoM
  have one:TopOk g→g.goals.length=0→Value.int .i64 1= .int .i64 (g.nodes room):=fun T h=>by
   have e:g.goals=[]:=List.eq_nil_of_length_eq_zero h
   have hc:g.cnt=1:=by rw[hce,e];rfl
   rw[Gl.nodes_pos (.mk T (by rw[e];simp)) (by omega),hc];rfl
  have htm:∀t∈g.terms,t.Ok:=htm
  rcases(by omega:g.kind=6∨g.kind=5∨g.kind=4∨g.kind=3∨g.kind=2∨¬(2≤g.kind∧g.kind≤6))with e|e|e|e|e|e
  ·refine eO qBg (some (.int .i64 2)) hm (k5.weaken (by rintro _ ⟨n, rfl⟩; rfl)) rfl (by rw [jP]; simp [e]) ?_
   repeat (refine ifd (fun h=>?_) (fun h=>?_)<;>try (exfalso;omega))
   refine aM (fun h=>rGv (bad fun T=>h (T.nm (by omega))) rfl) (fun hnm=>?_)
   refine aM (fun h=>rGv (bad fun T=>h (by have:=T.gl0;omega)) rfl) (fun hg0=>?_)
   refine aM (fun h=>rGv (bad fun T=>h (by have:=T.ln2;omega)) rfl) (fun hl=>?_)
   refine ifd (fun _=>?_) (fun h=>absurd e h)
   have w_:=aSo (l:=g.terms) (i:=0) (by omega)
   obtain⟨a,ha⟩:=w_
   have w_:=Tm.elem hts ha
   obtain⟨ad,p,hel,hr⟩:=w_
   refine eIn hel ?_
   refine aM (fun h=>rGv (bad fun T=>h (T.sy e a ha)) rfl) (fun h=>?_)
   exact rGv (one ⟨htm,by omega,by omega,fun _=>hnm,by omega,by omega,by omega,by omega,by omega,by omega,by omega,by omega,fun _ x hx=>by rw[ha]at hx;cases hx;exact h,by omega⟩ (by omega)) rfl
  ·refine eO qBg (some (.int .i64 1)) hm (k5.weaken (by rintro _ ⟨n, rfl⟩; rfl)) rfl (by rw [jP]; simp [e]) ?_
   repeat (refine ifd (fun h=>?_) (fun h=>?_)<;>try (exfalso;omega))
   refine aM (fun h=>rGv (bad fun T=>h (T.nm (by omega))) rfl) (fun hnm=>?_)
   refine aM (fun h=>rGv (bad fun T=>h (by have:=T.gl0;omega)) rfl) (fun hg0=>?_)
   refine aM (fun h=>rGv (bad fun T=>h (by have:=T.ln1;omega)) rfl) (fun hl=>?_)
   refine ifd (fun h=>by omega) (fun h=>?_)
   exact rGv (one ⟨htm,by omega,by omega,fun _=>hnm,by omega,by omega,by omega,by omega,by omega,by omega,by omega,by omega,by omega,by omega⟩ (by omega)) rfl
  ·refine eO qBg (some (.int .i64 1)) hm (k5.weaken (by rintro _ ⟨n, rfl⟩; rfl)) rfl (by rw [jP]; simp [e]) ?_
   repeat (refine ifd (fun h=>?_) (fun h=>?_)<;>try (exfalso;omega))
   refine aM (fun h=>rGv (bad fun T=>h (T.nm (by omega))) rfl) (fun hnm=>?_)
   refine aM (fun h=>rGv (bad fun T=>h (by have:=T.gl0;omega)) rfl) (fun hg0=>?_)
   refine aM (fun h=>rGv (bad fun T=>h (by have:=T.ln1;omega)) rfl) (fun hl=>?_)
   refine ifd (fun h=>by omega) (fun h=>?_)
   exact rGv (one ⟨htm,by omega,by omega,fun _=>hnm,by omega,by omega,by omega,by omega,by omega,by omega,by omega,by omega,by omega,by omega⟩ (by omega)) rfl
  ·refine eO qBg (some (.int .i64 2)) hm (k5.weaken (by rintro _ ⟨n, rfl⟩; rfl)) rfl (by rw [jP]; simp [e]) ?_
   repeat (refine ifd (fun h=>?_) (fun h=>?_)<;>try (exfalso;omega))
   refine aM (fun h=>rGv (bad fun T=>h (T.nm (by omega))) rfl) (fun hnm=>?_)
   refine aM (fun h=>rGv (bad fun T=>h (by have:=T.gl0;omega)) rfl) (fun hg0=>?_)
   refine aM (fun h=>rGv (bad fun T=>h (by have:=T.ln2;omega)) rfl) (fun hl=>?_)
   refine ifd (fun h=>by omega) (fun h=>?_)
   exact rGv (one ⟨htm,by omega,by omega,fun _=>hnm,by omega,by omega,by omega,by omega,by omega,by omega,by omega,by omega,by omega,by omega⟩ (by omega)) rfl
  ·refine eO qBg (some (.int .i64 2)) hm (k5.weaken (by rintro _ ⟨n, rfl⟩; rfl)) rfl (by rw [jP]; simp [e]) ?_
   repeat (refine ifd (fun h=>?_) (fun h=>?_)<;>try (exfalso;omega))
   refine aM (fun h=>rGv (bad fun T=>h (T.nm (by omega))) rfl) (fun hnm=>?_)
   refine aM (fun h=>rGv (bad fun T=>h (by have:=T.gl0;omega)) rfl) (fun hg0=>?_)
   refine aM (fun h=>rGv (bad fun T=>h (by have:=T.ln2;omega)) rfl) (fun hl=>?_)
   refine ifd (fun h=>by omega) (fun h=>?_)
   exact rGv (one ⟨htm,by omega,by omega,fun _=>hnm,by omega,by omega,by omega,by omega,by omega,by omega,by omega,by omega,by omega,by omega⟩ (by omega)) rfl
  ·refine eO qBg none hm (k5.weaken (by rintro _ ⟨n, rfl⟩; rfl)) rfl (by rw [jP, if_neg (by omega), if_neg (by omega), if_neg (by omega), if_neg (by omega), if_neg (by omega)]) ?_
   by_cases e2:g.kind=0∨g.kind=1
   ·repeat' (refine ifd (fun h => ?_) (fun h => ?_) <;> try (exfalso; omega))
    all_goals
     refine aM (fun h=>rGv (bad fun T=>h (T.nm (by omega))) rfl) (fun hnm=>?_)
     refine aM (fun h=>rGv (bad fun T=>h (by have:=T.gl0;omega)) rfl) (fun hg0=>?_)
     refine aM (fun h=>rGv (bad fun T=>h (by have:=T.ln0;omega)) rfl) (fun hl=>?_)
     refine ifd (fun h=>by omega) (fun h=>?_)
     exact rGv (one ⟨htm,by omega,by omega,fun _=>hnm,by omega,by omega,by omega,by omega,by omega,by omega,by omega,by omega,by omega,by omega⟩ (by omega)) rfl
   ·by_cases e9 : g.kind = 9
    ·repeat (refine ifd (fun h => ?_) (fun h => ?_) <;> try (exfalso; omega))
     refine cGv (gL _ _) ?_
     refine aM (fun h=>rGv (bad fun T=>h (T.rel e9)) rfl) (fun hnm=>?_)
     refine aM (fun h=>rGv (bad fun T=>h (by have:=T.gl0;omega)) rfl) (fun hg0=>?_)
     refine ifd (fun h=>rGv (bad fun T=>by have:=T.ln9;omega) rfl) (fun hl=>?_)
     exact rGv (one ⟨htm,by omega,by omega,by omega,fun _=>hnm,by omega,by omega,by omega,by omega,by omega,by omega,by omega,by omega,by omega⟩ (by omega)) rfl
    ·by_cases e3 : g.kind = 7 ∨ g.kind = 8 ∨ g.kind = 10
     ·have fin:∀k:Int,k=1+(Gl.cnts g.goals:Nat)→TopOk g→(∀x∈g.goals,x.Sh)→k≤room→Value.int .i64 k= .int .i64 (g.nodes room):=fun k hk T hS hr=>by
       rw[Gl.nodes_pos (.mk T hS) (by omega),hce,hk];congr 1
      have top:g.name=⟨#[]⟩→g.terms.length=0→g.goals.length≤8→(g.kind=10→g.goals.length=1)→(g.kind=10→∀b,g.goals[0]? =some b→b.kind=9)→TopOk g:=fun a b c d f=>
       ⟨htm,by omega,by omega,fun _=>a,by omega,by omega,by omega,by omega,by omega,c,by omega,d,by omega,f⟩
      repeat' (refine ifd (fun h=>?_) (fun h=>?_)<;>try (exfalso;omega))
      ·refine aM (fun h => rGv (bad fun T => h (T.nm (by omega))) rfl) (fun hnm => ?_)
       refine aM (fun h=>rGv (bad fun T=>h (by have:=T.ln0;omega)) rfl) (fun hl=>?_)
       refine ifd (fun h=>rGv (bad fun T=>by have:=T.gl;omega) rfl) (fun h8=>?_)
       have T:=top hnm (by omega) (by omega) (by omega) (by omega)
       refine lIn (fun i:Nat=>i≤g.goals.length∧(∀x∈g.goals.take i,x.Sh)∧1+(Gl.cnts (g.goals.take i):Int)≤room) (fun i=>⟨[(1,.val (.int .i64 room)),(6,.val (.int .i64 (1+(Gl.cnts (g.goals.take i):Int)))),(124,.val (.slice p.2.1 g.goals.length p.2.2)),(125,.val (.int .i64 g.goals.length)),(126,.val (.int .i64 i))],[],1,μ,h0⟩) (fun i=>g.goals.length-i)
        0 ⟨by omega,by simp,by simp[Gl.cnts];omega⟩ (fun i=>⟨rfl,rfl⟩) ⟨⟨rfl,rfl,rfl,rfl,rfl,trivial⟩,trivial,rfl,rfl⟩ ?_
       rintro i ⟨hi,hall,hle⟩
       refine ifd (fun h=>?_) (fun h=>?_)
       ·have w_ := aSo (l := g.goals) (i := i) (by omega)
        obtain⟨t,ht⟩:=w_
        have hc:=Gl.cnts_take ht
        have hc':=Gl.cnts_le g.goals (i+1)
        have w_:=Gl.elem hgs ht
        obtain⟨ad,p3,hel,hr⟩:=w_
        refine eIn hel ?_
        intro r2
        refine aC (by omega) (by omega) ?_
        refine cGv (ih t (mAt ht) hr (by omega) (by omega)) ?_
        refine ifd (fun h=>rGv (Gl.nodes_neg fun k=>Gl.nodes_lt h ⟨k.1.sub t (mAt ht),by omega⟩) rfl) (fun h=>?_)
        have w_:=Gl.nodes_ge h
        obtain⟨hS,hcnt,he⟩:=w_
        refine nEq (x:=1+(Gl.cnts (g.goals.take (i+1)):Int)) (by rw[he,aA (by omega) (by omega),hc];omega) ?_
        refine aC (by omega) (by omega) ⟨i+1,⟨by omega,fun x hx=>?_,by omega⟩,by omega,⟨⟨rfl,rfl,rfl,rfl,rfl,trivial⟩,trivial,rfl,rfl⟩⟩
        rw[List.take_add_one,ht,Option.toList_some,List.mem_append,List.mem_singleton]at hx
        rcases hx with hx|rfl
        ·exact hall x hx
        ·exact hS
       ·obtain rfl : i = g.goals.length := by omega
        rw[List.take_length]at hall hle
        exact rGv (fin _ (by rw[List.take_length]) T hall (by rw[List.take_length];exact hle)) rfl
      ·refine aM (fun h => rGv (bad fun T => h (T.nm (by omega))) rfl) (fun hnm => ?_)
       refine aM (fun h=>rGv (bad fun T=>h (by have:=T.ln0;omega)) rfl) (fun hl=>?_)
       refine ifd (fun h=>rGv (bad fun T=>by have:=T.gl;omega) rfl) (fun h8=>?_)
       have T:=top hnm (by omega) (by omega) (by omega) (by omega)
       refine lIn (fun i:Nat=>i≤g.goals.length∧(∀x∈g.goals.take i,x.Sh)∧1+(Gl.cnts (g.goals.take i):Int)≤room) (fun i=>⟨[(1,.val (.int .i64 room)),(6,.val (.int .i64 (1+(Gl.cnts (g.goals.take i):Int)))),(124,.val (.slice p.2.1 g.goals.length p.2.2)),(125,.val (.int .i64 g.goals.length)),(126,.val (.int .i64 i))],[],1,μ,h0⟩) (fun i=>g.goals.length-i)
        0 ⟨by omega,by simp,by simp[Gl.cnts];omega⟩ (fun i=>⟨rfl,rfl⟩) ⟨⟨rfl,rfl,rfl,rfl,rfl,trivial⟩,trivial,rfl,rfl⟩ ?_
       rintro i ⟨hi,hall,hle⟩
       refine ifd (fun h=>?_) (fun h=>?_)
       ·have w_ := aSo (l := g.goals) (i := i) (by omega)
        obtain⟨t,ht⟩:=w_
        have hc:=Gl.cnts_take ht
        have hc':=Gl.cnts_le g.goals (i+1)
        have w_:=Gl.elem hgs ht
        obtain⟨ad,p3,hel,hr⟩:=w_
        refine eIn hel ?_
        intro r2
        refine aC (by omega) (by omega) ?_
        refine cGv (ih t (mAt ht) hr (by omega) (by omega)) ?_
        refine ifd (fun h=>rGv (Gl.nodes_neg fun k=>Gl.nodes_lt h ⟨k.1.sub t (mAt ht),by omega⟩) rfl) (fun h=>?_)
        have w_:=Gl.nodes_ge h
        obtain⟨hS,hcnt,he⟩:=w_
        refine nEq (x:=1+(Gl.cnts (g.goals.take (i+1)):Int)) (by rw[he,aA (by omega) (by omega),hc];omega) ?_
        refine aC (by omega) (by omega) ⟨i+1,⟨by omega,fun x hx=>?_,by omega⟩,by omega,⟨⟨rfl,rfl,rfl,rfl,rfl,trivial⟩,trivial,rfl,rfl⟩⟩
        rw[List.take_add_one,ht,Option.toList_some,List.mem_append,List.mem_singleton]at hx
        rcases hx with hx|rfl
        ·exact hall x hx
        ·exact hS
       ·obtain rfl : i = g.goals.length := by omega
        rw[List.take_length]at hall hle
        exact rGv (fin _ (by rw[List.take_length]) T hall (by rw[List.take_length];exact hle)) rfl
      ·refine aM (fun h => rGv (bad fun T => h (T.nm (by omega))) rfl) (fun hnm => ?_)
       refine aM (fun h=>rGv (bad fun T=>h (by have:=T.ln0;omega)) rfl) (fun hl=>?_)
       refine aM (fun h=>rGv (bad fun T=>h (by have:=T.gl1;omega)) rfl) (fun hg1=>?_)
       have w_:=aSo (l:=g.goals) (i:=0) (by omega)
       obtain⟨b,hb⟩:=w_
       have w_:=Gl.elem hgs hb
       obtain⟨ad,p2,hel,hr⟩:=w_
       refine eIn hel ?_
       refine aM (fun h=>rGv (bad fun T=>h (T.cl (by omega) b hb)) rfl) (fun hb9=>?_)
       have T:=top hnm (by omega) (by omega) (by omega) (fun _ x hx=>by rw[hb]at hx;cases hx;exact hb9)
       refine lIn (fun i:Nat=>i≤g.goals.length∧(∀x∈g.goals.take i,x.Sh)∧1+(Gl.cnts (g.goals.take i):Int)≤room) (fun i=>⟨[(1,.val (.int .i64 room)),(6,.val (.int .i64 (1+(Gl.cnts (g.goals.take i):Int)))),(124,.val (.slice p.2.1 g.goals.length p.2.2)),(125,.val (.int .i64 g.goals.length)),(126,.val (.int .i64 i))],[],1,μ,h0⟩) (fun i=>g.goals.length-i)
        0 ⟨by omega,by simp,by simp[Gl.cnts];omega⟩ (fun i=>⟨rfl,rfl⟩) ⟨⟨rfl,rfl,rfl,rfl,rfl,trivial⟩,trivial,rfl,rfl⟩ ?_
       rintro i ⟨hi,hall,hle⟩
       refine ifd (fun h=>?_) (fun h=>?_)
       ·have w_ := aSo (l := g.goals) (i := i) (by omega)
        obtain⟨t,ht⟩:=w_
        have hc:=Gl.cnts_take ht
        have hc':=Gl.cnts_le g.goals (i+1)
        have w_:=Gl.elem hgs ht
        obtain⟨ad,p3,hel,hr⟩:=w_
        refine eIn hel ?_
        intro r2
        refine aC (by omega) (by omega) ?_
        refine cGv (ih t (mAt ht) hr (by omega) (by omega)) ?_
        refine ifd (fun h=>rGv (Gl.nodes_neg fun k=>Gl.nodes_lt h ⟨k.1.sub t (mAt ht),by omega⟩) rfl) (fun h=>?_)
        have w_:=Gl.nodes_ge h
        obtain⟨hS,hcnt,he⟩:=w_
        refine nEq (x:=1+(Gl.cnts (g.goals.take (i+1)):Int)) (by rw[he,aA (by omega) (by omega),hc];omega) ?_
        refine aC (by omega) (by omega) ⟨i+1,⟨by omega,fun x hx=>?_,by omega⟩,by omega,⟨⟨rfl,rfl,rfl,rfl,rfl,trivial⟩,trivial,rfl,rfl⟩⟩
        rw[List.take_add_one,ht,Option.toList_some,List.mem_append,List.mem_singleton]at hx
        rcases hx with hx|rfl
        ·exact hall x hx
        ·exact hS
       ·obtain rfl : i = g.goals.length := by omega
        rw[List.take_length]at hall hle
        exact rGv (fin _ (by rw[List.take_length]) T hall (by rw[List.take_length];exact hle)) rfl
     ·repeat (refine ifd (fun h => ?_) (fun h => ?_) <;> try (exfalso; omega))
      exact rGv (bad fun T=>by have:=T.k0;have:=T.k1;omega) rfl
end
end Go.Vx
namespace Go.Vx
open Go.Proofs Classical
section
variable {μ:Mem}
theorem RepS.cons1{d:D}{r:List D}{v:Value}{cs:List Value}(k1:Rep μ d [v])(k2:RepS μ r cs):RepS μ (d::r) (v::cs):=⟨[v],cs,rfl,k1,k2⟩
end
end Go.Vx
namespace Go.Vx
open Go.Proofs Classical
mutual
noncomputable def Gl.put(f:Int→Option T):Gl→Gl
 | .mk k s ts gs=> .mk k s (ts.map fun t=>(t.toT.subst f).tm) (Gl.puts f gs)
noncomputable def Gl.puts(f:Int→Option T):List Gl→List Gl
 |[]=>[]
 |g::r=>g.put f::Gl.puts f r
end
theorem kJ{xs:List T}:(xs.map T.tm).map Tm.toT=xs:=by
 rw[List.map_map]
 exact(List.map_congr_left fun x _=>T.toT_tm x).trans (List.map_id _)
section
variable {μ:Mem}
end
end Go.Vx
namespace Go.Vx
open Go.Proofs Classical
theorem mJ{g k:Mem}{b:Nat}(h:(g.join k) b=none):g b=none∧k b=none:=by
 rw[Mem.join_get]at h
 cases hg:g b with
 |none=>rw[hg]at h;exact⟨rfl,h⟩
 |some o=>rw[hg]at h;cases h
theorem Mem.Le.none{μ μ':Mem}{b:Nat}(h:μ.Le μ')(k:μ' b=none):μ b=none:=by
 cases e:μ b with
 |none=>rfl
 |some o=>rw[h b o e]at k;cases k
theorem vN{g k:Mem}{b:Nat}(h1:g b=none)(h2:k b=none):(g.join k) b=none:=by
 rw[Mem.join_get,h1];exact h2
theorem Grown.two{es1 es2:Nat}{μ μ1 μ2 μ3 μ4:Mem}{ds1 ds2:List D}{ys1 ys2:List Value}{b1 b2:Option Nat}{cap1 cap2:Nat}(k1:Grown es1 μ μ1 ds1 ys1)(k2:Grown es2 μ1 μ2 ds2 ys2)(h0:μ.Le μ1)(h1:μ1.Le μ2)(h2:μ2.Le μ3)(h3:μ3.Le μ4)
  (hb1:∀r,b1=some r→μ2 r=none) (hr1:RowAt μ3 b1 cap1 es1 ys1) (hm1:ys1.length≤maxLen) (hb2:∀r,b2=some r→μ3 r=none) (hr2:RowAt μ4 b2 cap2 es2 ys2) (hm2:ys2.length≤maxLen):
  FreshS μ μ4 [.sl es1 ds1,.sl es2 ds2] [.slice (b1.map fun r=>⟨r,0,none⟩) ys1.length cap1,.slice (b2.map fun r=>⟨r,0,none⟩) ys2.length cap2]:=by
 obtain⟨g1,a1,l1,f1⟩:=k1
 obtain⟨g2,a2,l2,f2⟩:=k2
 have F1:=Fresh.ofRow (μ:=μ.join g2) (μ1:=μ2) (μ':=μ3) a1 (l1.trans h1) (fun x hx=>vN (f1 x hx) (by
  cases e:g2 x with
  |none=>rfl
  |some o=>
   have h4:=f2 x (by simp[e])
   exact absurd (l1.none h4) hx)) (iS (h0.trans h1) l2) h2 hb1 hr1 hm1
 obtain⟨G1,A1,L1,N1⟩:=F1
 have F2:=Fresh.ofRow (μ:=μ.join G1) (μ1:=μ3) (μ':=μ4) a2 (l2.trans h2) (fun x hx=>vN (h0.none (f2 x hx)) (by
  cases e:G1 x with
  |none=>rfl
  |some o=>exact absurd (mJ (N1 x (by simp[e]))).2 hx)) (iS ((h0.trans h1).trans h2) L1) h3 hb2 hr2 hm2
 obtain⟨G2,A2,L2,N2⟩:=F2
 have ap:Apart G1 G2:=fun x hx=>by
  cases e:G2 x with
  |none=>rfl
  |some o=>exact absurd (mJ (N2 x (by simp[e]))).2 hx
 refine⟨G1.join G2,OwnS.cons (Parts.join ap) A1.cells (OwnS.last A2.cells),iS (L1.trans h3) L2,fun x hx=>?_⟩
 rcases kA hx with h|h
 ·exact(mJ (N1 x h)).1
 ·exact(mJ (N2 x h)).1
section
variable {μ:Mem}
end
end Go.Vx
namespace Go.Vx
open Go.Proofs Classical
open Go.Sort
def aY(h0:Mem)(r:Nat)(ty:TypeId)(rest:List Value)(d:Array Int):Mem:=h0.set r (.cells (List.toArray ([]++(d.toList.map (Value.int .i64)++rest))) ty (0,0))
theorem arr_at{d:Array Int}{k:Nat}(h:k<d.size):d.toList[k]? =some d[k]!:=by
 rw[Array.getElem?_toList,getElem!_pos d k h,Array.getElem?_eq_getElem h]
section
variable {μ h0:Mem} {r:Nat} {ty:TypeId} {rest:List Value} {d:Array Int}
theorem aK{n:Nat}{i:Int}{K:Addr→List Value→Prop}{K':Addr→Prop}(k:Nat)(e:i=k)(hk:k<n)(h:K' ⟨r,k,none⟩):elemVC μ (some ⟨r,0,none⟩) n 1 i K K':=by
 subst e
 refine dU ⟨r,0,none⟩ rfl (by omega) (by omega) ?_
 have:(⟨r,0,none⟩:Addr).add ((k:Int).toNat*1)=⟨r,k,none⟩:=by rw[Addr.add_lit'];simp
 rw[this];exact h
theorem rdI{k:Nat}{K:List Value→Prop}(hk:k<d.size)(h:K [.int .i64 d[k]!]):extVC μ (aY h0 r ty rest d) ⟨r,k,none⟩ 1 K:=
 own_at (pre:=[]) (j:=k) (by simp) (by rw[List.getElem?_map,arr_at hk];rfl) h
theorem wrI{k:Nat}{v:Int}{K:Mem→Prop}(hk:k<d.size)(h:K (aY h0 r ty rest (d.setIfInBounds k v))):stoVC (aY h0 r ty rest d) ⟨r,k,none⟩ [.int .i64 v] K:=by
 refine sto_at (pre:=[]) (j:=k) (by simp) (by simpa using hk) ?_
 have e:(d.toList.map (Value.int .i64)).set k (.int .i64 v)=(d.setIfInBounds k v).toList.map (Value.int .i64):=by
  rw[Array.toList_setIfInBounds,List.map_set]
 rw[e];exact h
theorem swp_size(d:Array Int)(i j:Nat):(swp d i j).size=d.size:=by simp[swp]
theorem qGt(x:Int):aP Tryz.prog 181 [.int .i64 x] μ (.bool false):=by
 refine Spec.mk Tryz.func181 (by kernel_rfl) ?_
 exact rGv (by simp) rfl
theorem aV(x y:Int):aP Tryz.prog 171 [.int .i64 x,.int .i64 y] μ (.bool (ltInt x y)):=by
 refine Spec.mk Tryz.func171 (by kernel_rfl) ?_
 refine cGv (qGt x) ?_
 refine iIn (fun h=>nomatch h) (fun _=>?_)
 exact rGv rfl rfl
theorem oI{n a b:Nat}{cap:Nat}(hd:d.size=n)(ha:a≤b)(hb:b≤n)(hn:n≤1000000000000):
  SpecH Tryz.prog 165 [.slice (some ⟨r,0,none⟩) n cap,.int .i64 a,.int .i64 b] μ (aY h0 r ty rest d) fun v μ' h'=>v= .tuple #[]∧μ'=μ∧h'=aY h0 r ty rest (insertionSort ltInt d a b):=by
 refine SpecH.mk [] Tryz.func165 (by kernel_rfl) ?_
 rw[insertionSort]
 generalize hD:insOuter ltInt a b (a+1) d=D
 refine nEq (x:=((a+1:Nat):Int)) (by rw[aA (by omega) (by omega)];omega) ?_
 refine lIn (fun p:Nat×Array Int=>a+1≤p.1∧p.1≤max b (a+1)∧p.2.size=n∧insOuter ltInt a b p.1 p.2=D)
  (fun(i,d)=>⟨[(0,.val (.slice (some ⟨r,0,none⟩) n cap)),(1,.val (.int .i64 a)),(2,.val (.int .i64 b)),(6,.val (.int .i64 i))],[],0,μ,aY h0 r ty rest d⟩) (fun p=>b-p.1)
  (a+1,d) ⟨by omega,by omega,hd,hD⟩ (fun(_,_)=>⟨rfl,rfl⟩) ⟨⟨rfl,rfl,rfl,rfl,trivial⟩,trivial,rfl,rfl⟩ ?_
 rintro⟨i,d1⟩ ⟨hi1,hi2,hs,hJ⟩
 dsimp only at hi1 hi2 hs hJ
 rw[insOuter]at hJ
 refine ifd (fun h=>?_) (fun h=>?_)
 ·rw [if_pos (by omega)] at hJ
  refine lIn (fun p:Nat×Array Int=>p.1<n∧p.2.size=n∧insInner ltInt a p.1 p.2=insInner ltInt a i d1)
   (fun(j,d)=>⟨[(0,.val (.slice (some ⟨r,0,none⟩) n cap)),(1,.val (.int .i64 a)),(2,.val (.int .i64 b)),(6,.val (.int .i64 i)),(7,.val (.int .i64 j))],[],0,μ,aY h0 r ty rest d⟩) (fun p=>p.1)
   (i,d1) ⟨by omega,hs,rfl⟩ (fun(_,_)=>⟨rfl,rfl⟩) ⟨⟨rfl,rfl,rfl,rfl,rfl,trivial⟩,trivial,rfl,rfl⟩ ?_
  rintro⟨j,d2⟩ ⟨hj,hs2,hJ2⟩
  dsimp only at hj hs2 hJ2
  refine ifd (fun hja=>?_) (fun hja=>?_)
  ·obtain ⟨j, rfl⟩ : ∃ k, j = k + 1 := ⟨j - 1, by omega⟩
   rw[insInner]at hJ2
   refine aK (j+1) rfl (by omega) ?_
   refine rdI (by omega) ?_
   refine nEq (x:=((j:Nat):Int)) (by rw[aA (by omega) (by omega)];omega) ?_
   refine aK j rfl (by omega) ?_
   refine rdI (by omega) ?_
   refine cGv (aV _ _) ?_
   have g:decide (j+1>a)=true:=decide_eq_true (by omega)
   refine iIn (fun hl=>?_) (fun hl=>?_)
   ·rw [g, hl, Bool.and_self, if_pos rfl] at hJ2
    refine nEq (x:=((j:Nat):Int)) (by rw[aA (by omega) (by omega)];omega) ?_
    refine nEq (x:=((j:Nat):Int)) (by rw[aA (by omega) (by omega)];omega) ?_
    refine aK j rfl (by omega) ?_
    refine rdI (by omega) ?_
    refine aK (j+1) rfl (by omega) ?_
    refine rdI (by omega) ?_
    refine aK (j+1) rfl (by omega) ?_
    refine wrI (by omega) ?_
    refine aK j rfl (by omega) ?_
    refine wrI (by simp;omega) ?_
    refine nEq (x:=((j:Nat):Int)) (by rw[aA (by omega) (by omega)];omega) ?_
    exact⟨(j,swp d2 (j+1) j),⟨by dsimp only;omega,by dsimp only;rw[swp_size];exact hs2,hJ2⟩,by dsimp only;omega,⟨⟨rfl,rfl,rfl,rfl,rfl,trivial⟩,trivial,rfl,rfl⟩⟩
   ·rw [hl, Bool.and_false, if_neg (by simp)] at hJ2
    exact aC (by omega) (by omega) ⟨(i+1,d2),⟨by dsimp only;omega,by dsimp only;omega,hs2,by dsimp only;rw[hJ2];exact hJ⟩,by dsimp only;omega,⟨⟨rfl,rfl,rfl,rfl,trivial⟩,trivial,rfl,rfl⟩⟩
  ·have hJ3:insInner ltInt a j d2=d2:=by
    cases j with
    |zero=>rfl
    |succ j=>rw[insInner,if_neg];simp;omega
   rw[hJ3]at hJ2
   exact aC (by omega) (by omega) ⟨(i+1,d2),⟨by dsimp only;omega,by dsimp only;omega,hs2,by dsimp only;rw[hJ2];exact hJ⟩,by dsimp only;omega,⟨⟨rfl,rfl,rfl,rfl,trivial⟩,trivial,rfl,rfl⟩⟩
 ·rw [if_neg (by omega)] at hJ
  exact rPl ⟨rfl,rfl,by rw[hJ]⟩
end
end Go.Vx
namespace Go.Vx
open Go.Proofs Classical
open Go.Sort
section
variable {μ h0:Mem} {r:Nat} {ty:TypeId} {rest:List Value} {d:Array Int}
theorem iX{n a b:Nat}{cap:Nat}(hd:d.size=n)(hb1:1≤b)(ha:a≤b)(hb:b≤n)(hn:n≤1000000000000):
  SpecH Tryz.prog 169 [.slice (some ⟨r,0,none⟩) n cap,.int .i64 a,.int .i64 b] μ (aY h0 r ty rest d) fun v μ' h'=>v= .tuple #[]∧μ'=μ∧h'=aY h0 r ty rest (reverseRange d a b):=by
 refine SpecH.mk [] Tryz.func169 (by kernel_rfl) ?_
 rw[reverseRange]
 generalize hD:reverseLoop a (b-1) d=D
 refine nEq (x:=((b-1:Nat):Int)) (by rw[aA (by omega) (by omega)];omega) ?_
 refine lIn (fun p:Nat×Nat×Array Int=>p.2.1<n∧p.1≤n∧p.2.2.size=n∧reverseLoop p.1 p.2.1 p.2.2=D)
  (fun(i,j,d)=>⟨[(0,.val (.slice (some ⟨r,0,none⟩) n cap)),(6,.val (.int .i64 i)),(7,.val (.int .i64 j))],[],0,μ,aY h0 r ty rest d⟩) (fun p=>p.2.1)
  (a,b-1,d) ⟨by dsimp only;omega,by dsimp only;omega,hd,hD⟩ (fun(_,_,_)=>⟨rfl,rfl⟩) ⟨⟨rfl,rfl,rfl,trivial⟩,trivial,rfl,rfl⟩ ?_
 rintro⟨i,j,d1⟩ ⟨hj,hi,hs,hJ⟩
 dsimp only at hj hi hs hJ
 rw[reverseLoop]at hJ
 refine ifd (fun h=>?_) (fun h=>?_)
 ·rw [if_pos (by omega)] at hJ
  refine aK (j) (by omega) (by omega) ?_
  refine rdI (by omega) ?_
  refine aK (i) (by omega) (by omega) ?_
  refine rdI (by omega) ?_
  refine aK (i) (by omega) (by omega) ?_
  refine wrI (by omega) ?_
  refine aK (j) (by omega) (by omega) ?_
  refine wrI (by simp;omega) ?_
  refine nEq (x:=((i+1:Nat):Int)) (by rw[aA (by omega) (by omega)];omega) ?_
  refine nEq (x:=((j-1:Nat):Int)) (by rw[aA (by omega) (by omega)];omega) ?_
  exact⟨(i+1,j-1,swp d1 i j),⟨by dsimp only;omega,by dsimp only;omega,by dsimp only;rw[swp_size];exact hs,hJ⟩,by dsimp only;omega,⟨⟨rfl,rfl,rfl,trivial⟩,trivial,rfl,rfl⟩⟩
 ·rw [if_neg (by omega)] at hJ
  exact rPl ⟨rfl,rfl,by rw[hJ]⟩
theorem nG{n lo hi first:Nat}{cap:Nat}(hd:d.size=n)(hb:first+hi≤n)(hl:lo≤n)(hn:n≤1000000000000):
  SpecH Tryz.prog 176 [.slice (some ⟨r,0,none⟩) n cap,.int .i64 lo,.int .i64 hi,.int .i64 first] μ (aY h0 r ty rest d) fun v μ' h'=>v= .tuple #[]∧μ'=μ∧h'=aY h0 r ty rest (siftDown ltInt hi first lo d):=by
 refine SpecH.mk [] Tryz.func176 (by kernel_rfl) ?_
 generalize hD:siftDown ltInt hi first lo d=D
 refine lIn (fun p:Nat×Array Int=>p.1≤n∧p.2.size=n∧siftDown ltInt hi first p.1 p.2=D)
  (fun(i,d)=>⟨[(0,.val (.slice (some ⟨r,0,none⟩) n cap)),(2,.val (.int .i64 hi)),(3,.val (.int .i64 first)),(8,.val (.int .i64 i))],[],0,μ,aY h0 r ty rest d⟩) (fun p=>hi-p.1)
  (lo,d) ⟨hl,hd,hD⟩ (fun(_,_)=>⟨rfl,rfl⟩) ⟨⟨rfl,rfl,rfl,rfl,trivial⟩,trivial,rfl,rfl⟩ ?_
 rintro⟨i,d1⟩ ⟨hi1,hs,hJ⟩
 dsimp only at hi1 hs hJ
 rw[siftDown]at hJ
 refine nEq (x:=((2*i:Nat):Int)) (by rw[aA (by omega) (by omega)];omega) ?_
 refine nEq (x:=((2*i+1:Nat):Int)) (by rw[aA (by omega) (by omega)];omega) ?_
 refine ifd (fun h=>?_) (fun h=>?_)
 ·rw [dif_pos (by omega)] at hJ
  exact rPl ⟨rfl,rfl,by rw[hJ]⟩
 rw[dif_neg (by omega)]at hJ
 refine nEq (x:=((2*i+1+1:Nat):Int)) (by rw[aA (by omega) (by omega)];omega) ?_
 refine ifd (fun h2=>?_) (fun h2=>?_)
 ·refine nEq (x := ((first + (2 * i + 1) : Nat) : Int)) (by rw [aA (by omega) (by omega)]; omega) ?_
  refine aK (first+(2*i+1)) (by omega) (by omega) ?_
  refine rdI (by omega) ?_
  refine nEq (x:=((first+(2*i+1):Nat):Int)) (by rw[aA (by omega) (by omega)];omega) ?_
  refine nEq (x:=((first+(2*i+1)+1:Nat):Int)) (by rw[aA (by omega) (by omega)];omega) ?_
  refine aK (first+(2*i+1)+1) (by omega) (by omega) ?_
  refine rdI (by omega) ?_
  refine cGv (aV _ _) ?_
  have g:decide (2*i+1+1<hi)=true:=decide_eq_true (by omega)
  refine iIn (fun hl=>?_) (fun hl=>?_)
  ·rw [g, hl, Bool.and_self, if_pos rfl] at hJ
   refine nEq (x:=((2*i+2:Nat):Int)) (by rw[aA (by omega) (by omega)];omega) ?_
   refine nEq (x:=((first+i:Nat):Int)) (by rw[aA (by omega) (by omega)];omega) ?_
   refine aK (first+i) (by omega) (by omega) ?_
   refine rdI (by omega) ?_
   refine nEq (x:=((first+(2*i+2):Nat):Int)) (by rw[aA (by omega) (by omega)];omega) ?_
   refine aK (first+(2*i+2)) (by omega) (by omega) ?_
   refine rdI (by omega) ?_
   refine cGv (aV _ _) ?_
   refine iIn (fun hl=>?_) (fun hl=>?_)
   ·rw [if_pos (by simpa using hl)] at hJ
    exact rPl ⟨rfl,rfl,by rw[hJ]⟩
   ·rw [if_neg (by simpa using hl)] at hJ
    try rw[dif_pos (by omega)]at hJ
    refine nEq (x:=((first+i:Nat):Int)) (by rw[aA (by omega) (by omega)];omega) ?_
    refine nEq (x:=((first+(2*i+2):Nat):Int)) (by rw[aA (by omega) (by omega)];omega) ?_
    refine nEq (x:=((first+(2*i+2):Nat):Int)) (by rw[aA (by omega) (by omega)];omega) ?_
    refine aK (first+(2*i+2)) (by omega) (by omega) ?_
    refine rdI (by omega) ?_
    refine nEq (x:=((first+i:Nat):Int)) (by rw[aA (by omega) (by omega)];omega) ?_
    refine aK (first+i) (by omega) (by omega) ?_
    refine rdI (by omega) ?_
    refine aK (first+i) (by omega) (by omega) ?_
    refine wrI (by omega) ?_
    refine aK (first+(2*i+2)) (by omega) (by omega) ?_
    refine wrI (by simp;omega) ?_
    exact⟨(2*i+2,swp d1 (first+i) (first+(2*i+2))),⟨by dsimp only;omega,by dsimp only;rw[swp_size];exact hs,hJ⟩,by dsimp only;omega,⟨⟨rfl,rfl,rfl,rfl,trivial⟩,trivial,rfl,rfl⟩⟩
  ·rw [hl, Bool.and_false, if_neg (by simp)] at hJ
   refine nEq (x:=((first+i:Nat):Int)) (by rw[aA (by omega) (by omega)];omega) ?_
   refine aK (first+i) (by omega) (by omega) ?_
   refine rdI (by omega) ?_
   refine nEq (x:=((first+(2*i+1):Nat):Int)) (by rw[aA (by omega) (by omega)];omega) ?_
   refine aK (first+(2*i+1)) (by omega) (by omega) ?_
   refine rdI (by omega) ?_
   refine cGv (aV _ _) ?_
   refine iIn (fun hl=>?_) (fun hl=>?_)
   ·rw [if_pos (by simpa using hl)] at hJ
    exact rPl ⟨rfl,rfl,by rw[hJ]⟩
   ·rw [if_neg (by simpa using hl)] at hJ
    try rw[dif_pos (by omega)]at hJ
    refine nEq (x:=((first+i:Nat):Int)) (by rw[aA (by omega) (by omega)];omega) ?_
    refine nEq (x:=((first+(2*i+1):Nat):Int)) (by rw[aA (by omega) (by omega)];omega) ?_
    refine nEq (x:=((first+(2*i+1):Nat):Int)) (by rw[aA (by omega) (by omega)];omega) ?_
    refine aK (first+(2*i+1)) (by omega) (by omega) ?_
    refine rdI (by omega) ?_
    refine nEq (x:=((first+i:Nat):Int)) (by rw[aA (by omega) (by omega)];omega) ?_
    refine aK (first+i) (by omega) (by omega) ?_
    refine rdI (by omega) ?_
    refine aK (first+i) (by omega) (by omega) ?_
    refine wrI (by omega) ?_
    refine aK (first+(2*i+1)) (by omega) (by omega) ?_
    refine wrI (by simp;omega) ?_
    exact⟨(2*i+1,swp d1 (first+i) (first+(2*i+1))),⟨by dsimp only;omega,by dsimp only;rw[swp_size];exact hs,hJ⟩,by dsimp only;omega,⟨⟨rfl,rfl,rfl,rfl,trivial⟩,trivial,rfl,rfl⟩⟩
 ·have g : decide (2 * i + 1 + 1 < hi) = false := decide_eq_false (by omega)
  rw[g,Bool.false_and,if_neg (by simp)]at hJ
  refine nEq (x:=((first+i:Nat):Int)) (by rw[aA (by omega) (by omega)];omega) ?_
  refine aK (first+i) (by omega) (by omega) ?_
  refine rdI (by omega) ?_
  refine nEq (x:=((first+(2*i+1):Nat):Int)) (by rw[aA (by omega) (by omega)];omega) ?_
  refine aK (first+(2*i+1)) (by omega) (by omega) ?_
  refine rdI (by omega) ?_
  refine cGv (aV _ _) ?_
  refine iIn (fun hl=>?_) (fun hl=>?_)
  ·rw [if_pos (by simpa using hl)] at hJ
   exact rPl ⟨rfl,rfl,by rw[hJ]⟩
  ·rw [if_neg (by simpa using hl)] at hJ
   try rw[dif_pos (by omega)]at hJ
   refine nEq (x:=((first+i:Nat):Int)) (by rw[aA (by omega) (by omega)];omega) ?_
   refine nEq (x:=((first+(2*i+1):Nat):Int)) (by rw[aA (by omega) (by omega)];omega) ?_
   refine nEq (x:=((first+(2*i+1):Nat):Int)) (by rw[aA (by omega) (by omega)];omega) ?_
   refine aK (first+(2*i+1)) (by omega) (by omega) ?_
   refine rdI (by omega) ?_
   refine nEq (x:=((first+i:Nat):Int)) (by rw[aA (by omega) (by omega)];omega) ?_
   refine aK (first+i) (by omega) (by omega) ?_
   refine rdI (by omega) ?_
   refine aK (first+i) (by omega) (by omega) ?_
   refine wrI (by omega) ?_
   refine aK (first+(2*i+1)) (by omega) (by omega) ?_
   refine wrI (by simp;omega) ?_
   exact⟨(2*i+1,swp d1 (first+i) (first+(2*i+1))),⟨by dsimp only;omega,by dsimp only;rw[swp_size];exact hs,hJ⟩,by dsimp only;omega,⟨⟨rfl,rfl,rfl,rfl,trivial⟩,trivial,rfl,rfl⟩⟩
theorem nU(hi first:Nat):∀(m root:Nat) (d:Array Int),hi-root≤m→(siftDown ltInt hi first root d).size=d.size:=by
 intro m
 induction m with
 |zero=>
  intro root d h
  rw[siftDown,dif_pos (by omega)]
 |succ m ih=>
  intro root d h
  rw[siftDown]
  repeat' split
  all_goals first
   |rfl
   |(rw[ih _ _ (by omega),Go.Sort.swp_size])
theorem xP{n a b:Nat}{cap:Nat}(hd:d.size=n)(ha:a<b)(hb:b≤n)(hn:n≤1000000000000):
  SpecH Tryz.prog 166 [.slice (some ⟨r,0,none⟩) n cap,.int .i64 a,.int .i64 b] μ (aY h0 r ty rest d) fun v μ' h'=>v= .tuple #[]∧μ'=μ∧h'=aY h0 r ty rest (heapSort ltInt d a b):=by
 refine SpecH.mk [] Tryz.func166 (by kernel_rfl) ?_
 rw[heapSort]
 generalize hD1:heapBuild ltInt (b-a) a ((b-a-1) / 2+1) d=D1
 generalize hD:heapPop ltInt a (b-a) D1=D
 refine nEq (x:=((b-a:Nat):Int)) (by rw[aA (by omega) (by omega)];omega) ?_
 refine nEq (x:=((b-a-1:Nat):Int)) (by rw[aA (by omega) (by omega)];omega) ?_
 refine aD (by decide) ?_
 refine nEq (x:=(((b-a-1) / 2+1:Nat):Int)-1) (by rw[Int.tdiv_eq_ediv_of_nonneg (by omega),aA (by omega) (by omega)];omega) ?_
 refine lIn (fun p:Nat×Array Int=>p.1≤b-a∧p.2.size=n∧heapBuild ltInt (b-a) a p.1 p.2=D1)
  (fun(k,d)=>⟨[(0,.val (.slice (some ⟨r,0,none⟩) n cap)),(6,.val (.int .i64 a)),(7,.val (.int .i64 0)),(8,.val (.int .i64 (b-a:Nat))),(9,.val (.int .i64 ((k:Int)-1)))],[],0,μ,aY h0 r ty rest d⟩) (fun p=>p.1)
  ((b-a-1) / 2+1,d) ⟨by dsimp only;omega,hd,hD1⟩ (fun(_,_)=>⟨rfl,rfl⟩) ⟨⟨rfl,rfl,rfl,rfl,rfl,trivial⟩,trivial,rfl,rfl⟩ ?_
 rintro⟨k,d1⟩ ⟨hk,hs,hJ⟩
 dsimp only at hk hs hJ
 refine ifd (fun h=>?_) (fun h=>?_)
 ·obtain ⟨k, rfl⟩ : ∃ m, k = m + 1 := ⟨k - 1, by omega⟩
  rw[heapBuild]at hJ
  have e:(((k+1:Nat):Int)-1)=(k:Nat):=by omega
  rw[e]
  refine cOw (nG (lo:=k) (hi:=b-a) (first:=a) hs (by omega) (by omega) hn) fun v μ' h' hle hap hR=>?_
  obtain⟨rfl,e2,rfl⟩:=hR
  obtain rfl:=e2.symm
  refine nEq (x:=(k:Int)-1) (by rw[aA (by omega) (by omega)]) ?_
  exact⟨(k,siftDown ltInt (b-a) a k d1),⟨by dsimp only;omega,by dsimp only;rw[nU _ _ _ _ _ (Nat.le_refl _)];exact hs,hJ⟩,by dsimp only;omega,⟨⟨rfl,rfl,rfl,rfl,rfl,trivial⟩,trivial,rfl,rfl⟩⟩
 obtain rfl:k=0:=by omega
 have hJ:d1=D1:=hJ
 subst hJ
 refine nEq (x:=((b-a:Nat):Int)-1) (by rw[aA (by omega) (by omega)]) ?_
 refine lIn (fun p:Nat×Array Int=>p.1≤b-a∧p.2.size=n∧heapPop ltInt a p.1 p.2=D)
  (fun(k,d)=>⟨[(0,.val (.slice (some ⟨r,0,none⟩) n cap)),(6,.val (.int .i64 a)),(7,.val (.int .i64 0)),(10,.val (.int .i64 ((k:Int)-1)))],[],0,μ,aY h0 r ty rest d⟩) (fun p=>p.1)
  (b-a,d1) ⟨by dsimp only;omega,hs,hD⟩ (fun(_,_)=>⟨rfl,rfl⟩) ⟨⟨rfl,rfl,rfl,rfl,trivial⟩,trivial,rfl,rfl⟩ ?_
 rintro⟨k,d2⟩ ⟨hk,hs2,hJ⟩
 dsimp only at hk hs2 hJ
 refine ifd (fun h=>?_) (fun h=>?_)
 ·obtain ⟨k, rfl⟩ : ∃ m, k = m + 1 := ⟨k - 1, by omega⟩
  rw[heapPop]at hJ
  have e:(((k+1:Nat):Int)-1)=(k:Nat):=by omega
  rw[e]
  refine nEq (x:=((a+k:Nat):Int)) (by rw[aA (by omega) (by omega)];omega) ?_
  refine nEq (x:=((a+k:Nat):Int)) (by rw[aA (by omega) (by omega)];omega) ?_
  refine aK (a+k) (by omega) (by omega) ?_
  refine rdI (by omega) ?_
  refine aK (a) (by omega) (by omega) ?_
  refine rdI (by omega) ?_
  refine aK (a) (by omega) (by omega) ?_
  refine wrI (by omega) ?_
  refine aK (a+k) (by omega) (by omega) ?_
  refine wrI (by simp;omega) ?_
  refine cOw (nG (d:=swp d2 a (a+k)) (lo:=0) (hi:=k) (first:=a) ((Go.Sort.swp_size _ _ _).trans hs2) (by omega) (by omega) hn) fun v μ' h' hle hap hR=>?_
  obtain⟨rfl,e2,rfl⟩:=hR
  obtain rfl:=e2.symm
  refine nEq (x:=(k:Int)-1) (by rw[aA (by omega) (by omega)]) ?_
  exact⟨(k,_),⟨by dsimp only;omega,by dsimp only;rw[nU _ _ _ _ _ (Nat.le_refl _),Go.Sort.swp_size];exact hs2,hJ⟩,by dsimp only;omega,⟨⟨rfl,rfl,rfl,rfl,trivial⟩,trivial,rfl,rfl⟩⟩
 obtain rfl:k=0:=by omega
 have hJ:d2=D:=hJ
 subst hJ
 exact rPl ⟨rfl,rfl,rfl⟩
end
end Go.Vx
namespace Go.Vx
open Go.Proofs Classical
open Go.Sort
def RowS(h0:Mem)(r:Nat)(ty:TypeId)(rest:List Value)(d:Array Int)(rs:Nat)(s:Int):Mem:=aY (h0.set rs (.cells #[.int .i64 s] 3 (0,0))) r ty rest d
section
variable {μ h0:Mem} {r rs:Nat} {ty:TypeId} {rest:List Value} {d:Array Int} {s:Int}
theorem RowS.at(hne:rs≠r):RowS h0 r ty rest d rs s rs=some (.cells #[.int .i64 s] 3 (0,0)):=by
 rw[RowS,aY,Mem.set_ne hne,Mem.set_at]
theorem rdS{K:List Value→Prop}(hne:rs≠r)(h:K [.int .i64 s]):extVC μ (RowS h0 r ty rest d rs s) ⟨rs,0,none⟩ 1 K:=oIn _ rfl (bX (RowS.at hne)) h
theorem Mem.set_comm{m:Mem}{a b:Nat}{x y:Obj}(h:a≠b):(m.set a x).set b y=(m.set b y).set a x:=by
 funext k
 simp only[Mem.set_get]
 by_cases h1:k=b
 ·subst h1;rw[if_pos rfl,if_neg (fun e=>h e.symm),if_pos rfl]
 ·rw [if_neg h1]
  by_cases h2:k=a
  ·rw[if_pos h2,if_pos h2]
  ·rw[if_neg h2,if_neg h2,if_neg h1]
theorem wrS{v:Int}{K:Mem→Prop}(hne:rs≠r)(h:K (RowS h0 r ty rest d rs v)):stoVC (RowS h0 r ty rest d rs s) ⟨rs,0,none⟩ [.int .i64 v] K:=by
 refine sIn [.int .i64 s] 3 (RowS.at hne) rfl (Nat.le_refl _) ?_
 have e:Mem.set (RowS h0 r ty rest d rs s) rs (.cells #[.int .i64 v] 3 (0,0))=RowS h0 r ty rest d rs v:=by
  rw[RowS,aY,Mem.set_comm (fun e=>hne e.symm),Mem.set_set]
  rfl
 show K (Mem.set (RowS h0 r ty rest d rs s) rs (.cells #[.int .i64 v] 3 (0,0)))
 rw[e];exact h
theorem lO{n a b cap:Nat}(hne:rs≠r)(hd:d.size=n)(ha:a<n)(hb:b<n):
  SpecH Tryz.prog 182 [.slice (some ⟨r,0,none⟩) n cap,.int .i64 a,.int .i64 b,.pointer (some ⟨rs,0,none⟩)] μ (RowS h0 r ty rest d rs s) fun v μ' h'=>
   ∃x y:Nat,((x=a∧y=b)∨(x=b∧y=a))∧v= .tuple #[.int .i64 x,.int .i64 y]∧μ'=μ∧∃s',h'=RowS h0 r ty rest d rs s':=by
 refine SpecH.mk [] Tryz.func182 (by kernel_rfl) ?_
 refine aK (b) (by omega) (by omega) ?_
 refine rdI (by omega) ?_
 refine aK (a) (by omega) (by omega) ?_
 refine rdI (by omega) ?_
 refine cGv (aV _ _) ?_
 refine iIn (fun hl=>?_) (fun hl=>?_)
 ·refine rdS hne ?_
  refine aT fun x _=>?_
  refine wrS hne ?_
  exact rPl ⟨b,a,.inr ⟨rfl,rfl⟩,rfl,rfl,_,rfl⟩
 ·exact rPl ⟨a,b,.inl ⟨rfl,rfl⟩,rfl,rfl,_,rfl⟩
theorem mD{n a b c cap:Nat}(hne:rs≠r)(hd:d.size=n)(ha:a<n)(hb:b<n)(hc:c<n):
  SpecH Tryz.prog 180 [.slice (some ⟨r,0,none⟩) n cap,.int .i64 a,.int .i64 b,.int .i64 c,.pointer (some ⟨rs,0,none⟩)] μ (RowS h0 r ty rest d rs s) fun v μ' h'=>
   ∃x:Nat,(x=a∨x=b∨x=c)∧v= .int .i64 x∧μ'=μ∧∃s',h'=RowS h0 r ty rest d rs s':=by
 refine SpecH.mk [] Tryz.func180 (by kernel_rfl) ?_
 refine cOw (lO hne hd ha hb) fun v μ' h' hle hap hR=>?_
 obtain⟨x1,y1,o1,rfl,e1,s1,rfl⟩:=hR
 obtain rfl:=e1.symm
 refine cOw (lO (a:=y1) (b:=c) hne hd (by omega) hc) fun v μ' h' hle hap hR=>?_
 obtain⟨x2,y2,o2,rfl,e2,s2,rfl⟩:=hR
 obtain rfl:=e2.symm
 refine cOw (lO (a:=x1) (b:=x2) hne hd (by omega) (by omega)) fun v μ' h' hle hap hR=>?_
 obtain⟨x3,y3,o3,rfl,e3,s3,rfl⟩:=hR
 obtain rfl:=e3.symm
 exact rPl ⟨y3,by omega,rfl,rfl,_,rfl⟩
theorem eC{n a cap:Nat}(hne:rs≠r)(hd:d.size=n)(ha:1≤a)(hb:a+1<n)(hn:n≤1000000000000):
  SpecH Tryz.prog 179 [.slice (some ⟨r,0,none⟩) n cap,.int .i64 a,.pointer (some ⟨rs,0,none⟩)] μ (RowS h0 r ty rest d rs s) fun v μ' h'=>
   ∃x:Nat,(x+1=a∨x=a∨x=a+1)∧v= .int .i64 x∧μ'=μ∧∃s',h'=RowS h0 r ty rest d rs s':=by
 refine SpecH.mk [] Tryz.func179 (by kernel_rfl) ?_
 refine nEq (x:=((a-1:Nat):Int)) (by rw[aA (by omega) (by omega)];omega) ?_
 refine nEq (x:=((a+1:Nat):Int)) (by rw[aA (by omega) (by omega)];omega) ?_
 refine cOw (mD (a:=a-1) (b:=a) (c:=a+1) hne hd (by omega) (by omega) (by omega)) fun v μ' h' hle hap hR=>?_
 obtain⟨x1,o1,rfl,e1,s1,rfl⟩:=hR
 obtain rfl:=e1.symm
 exact rPl ⟨x1,by omega,rfl,rfl,_,rfl⟩
theorem RowS.parts(hne:rs≠r)(hs:h0 rs=none):Parts (RowS h0 r ty rest d rs s) (Mem.nil.set rs (.cells #[.int .i64 s] 3 (0,0))) (aY h0 r ty rest d):=fun b=>by
 by_cases h:b=rs
 ·subst h
  exact .inl ⟨by rw[RowS.at hne,Mem.set_at],by rw[aY,Mem.set_ne hne];exact hs⟩
 ·refine .inr ⟨?_, by rw [Mem.set_ne h]; rfl⟩
  rw[RowS,aY,aY]
  by_cases h2:b=r
  ·subst h2;rw[Mem.set_at,Mem.set_at]
  ·rw[Mem.set_ne h2,Mem.set_ne h2,Mem.set_ne h]
set_option maxHeartbeats 4000000 in
theorem jT{n a b cap:Nat}(hr:h0 r=none)(hd:d.size=n)(ha:a<b)(hb:b≤n)(hn:n≤1000000000000):
  SpecH Tryz.prog 168 [.slice (some ⟨r,0,none⟩) n cap,.int .i64 a,.int .i64 b] μ (aY h0 r ty rest d) fun v _μ' h'=>
   ∃p k:Nat,a≤p∧p<b∧k≤2∧v= .tuple #[.int .i64 p,.int .i64 k]∧h'=aY h0 r ty rest d:=by
 refine SpecH.mk [9] Tryz.func168 (by kernel_rfl) ?_
 refine nEq (x:=((b-a:Nat):Int)) (by rw[aA (by omega) (by omega)];omega) ?_
 intro rs hm ho
 have hne:rs≠r:=fun e=>by
  subst e
  have:aY h0 rs ty rest d rs=none:=ho
  rw[aY,Mem.set_at]at this;cases this
 have hs0:h0 rs=none:=by
  have:aY h0 r ty rest d rs=none:=ho
  rwa [aY,Mem.set_ne hne]at this
 have e0:Mem.set (aY h0 r ty rest d) rs (.cells #[.int .i64 0] 3 (0,0))=RowS h0 r ty rest d rs 0:=by
  rw[RowS,aY,aY,Mem.set_comm (fun e=>hne e.symm)]
 generalize hH:Mem.set (aY h0 r ty rest d) rs _=H
 obtain rfl:H=RowS h0 r ty rest d rs 0:=hH.symm.trans e0
 clear e0 hH ho hm
 refine aD (by decide) ?_
 refine nEq (x:=(((b-a) / 4:Nat):Int)) (by rw[Int.tdiv_eq_ediv_of_nonneg (by omega),aA (by omega) (by omega)];omega) ?_
 refine nEq (x:=(((b-a) / 4*1:Nat):Int)) (by rw[aA (by omega) (by omega)];omega) ?_
 refine nEq (x:=((a+(b-a) / 4*1:Nat):Int)) (by rw[aA (by omega) (by omega)];omega) ?_
 refine aD (by decide) ?_
 refine nEq (x:=(((b-a) / 4:Nat):Int)) (by rw[Int.tdiv_eq_ediv_of_nonneg (by omega),aA (by omega) (by omega)];omega) ?_
 refine nEq (x:=(((b-a) / 4*2:Nat):Int)) (by rw[aA (by omega) (by omega)];omega) ?_
 refine nEq (x:=((a+(b-a) / 4*2:Nat):Int)) (by rw[aA (by omega) (by omega)];omega) ?_
 refine aD (by decide) ?_
 refine nEq (x:=(((b-a) / 4:Nat):Int)) (by rw[Int.tdiv_eq_ediv_of_nonneg (by omega),aA (by omega) (by omega)];omega) ?_
 refine nEq (x:=(((b-a) / 4*3:Nat):Int)) (by rw[aA (by omega) (by omega)];omega) ?_
 refine nEq (x:=((a+(b-a) / 4*3:Nat):Int)) (by rw[aA (by omega) (by omega)];omega) ?_
 refine ifd (fun h8=>?_) (fun h8=>?_)
 ·refine ifd (fun h50 => ?_) (fun h50 => ?_)
  ·refine cOw (eC (a := a + (b - a) / 4 * 1) hne hd (by omega) (by omega) hn) fun v μ' h' hle hap hR => ?_
   obtain⟨x1,o1,rfl,e1,s1,rfl⟩:=hR
   obtain rfl:=e1.symm
   refine cOw (eC (a:=a+(b-a) / 4*2) hne hd (by omega) (by omega) hn) fun v μ' h' hle hap hR=>?_
   obtain⟨x2,o2,rfl,e1,s2,rfl⟩:=hR
   obtain rfl:=e1.symm
   refine cOw (eC (a:=a+(b-a) / 4*3) hne hd (by omega) (by omega) hn) fun v μ' h' hle hap hR=>?_
   obtain⟨x3,o3,rfl,e1,s3,rfl⟩:=hR
   obtain rfl:=e1.symm
   refine cOw (mD (a:=x1) (b:=x2) (c:=x3) hne hd (by omega) (by omega) (by omega)) fun v μ' h' hle hap hR=>?_
   obtain⟨x4,o4,rfl,e1,s4,rfl⟩:=hR
   obtain rfl:=e1.symm
   refine rdS hne ?_
   refine ifd (fun h1=>?_) (fun h1=>?_)
   ·exact dJ _ _ (RowS.parts hne hs0) ⟨x4,1,by omega,by omega,by omega,rfl,rfl⟩
   refine ifd (fun h1=>?_) (fun h1=>?_)
   ·exact dJ _ _ (RowS.parts hne hs0) ⟨x4,2,by omega,by omega,by omega,rfl,rfl⟩
   exact dJ _ _ (RowS.parts hne hs0) ⟨x4,0,by omega,by omega,by omega,rfl,rfl⟩
  ·refine cOw (mD (a := a + (b - a) / 4 * 1) (b := a + (b - a) / 4 * 2) (c := a + (b - a) / 4 * 3) hne hd (by omega) (by omega) (by omega)) fun v μ' h' hle hap hR => ?_
   obtain⟨x4,o4,rfl,e1,s4,rfl⟩:=hR
   obtain rfl:=e1.symm
   refine rdS hne ?_
   refine ifd (fun h1=>?_) (fun h1=>?_)
   ·exact dJ _ _ (RowS.parts hne hs0) ⟨x4,1,by omega,by omega,by omega,rfl,rfl⟩
   refine ifd (fun h1=>?_) (fun h1=>?_)
   ·exact dJ _ _ (RowS.parts hne hs0) ⟨x4,2,by omega,by omega,by omega,rfl,rfl⟩
   exact dJ _ _ (RowS.parts hne hs0) ⟨x4,0,by omega,by omega,by omega,rfl,rfl⟩
 ·refine rdS hne ?_
  refine ifd (fun h1=>?_) (fun h1=>?_)
  ·exact dJ _ _ (RowS.parts hne hs0) ⟨a+(b-a) / 4*2,1,by omega,by omega,by omega,rfl,rfl⟩
  refine ifd (fun h1=>?_) (fun h1=>?_)
  ·exact dJ _ _ (RowS.parts hne hs0) ⟨a+(b-a) / 4*2,2,by omega,by omega,by omega,rfl,rfl⟩
  exact dJ _ _ (RowS.parts hne hs0) ⟨a+(b-a) / 4*2,0,by omega,by omega,by omega,rfl,rfl⟩
end
end Go.Vx
namespace Go.Vx
open Go.Proofs Classical
open Go.Sort
theorem cO{x k:Nat}(h:2 ^ k≤x):bitsLen x=bitsLen (x / 2 ^ k)+k:=by
 have hpos:0<2 ^ k:=Nat.two_pow_pos k
 apply Nat.le_antisymm
 ·rw [bitsLen_le_iff, Nat.pow_add]
  have:=lt_two_pow_bitsLen (x / 2 ^ k)
  rw[Nat.div_lt_iff_lt_mul hpos]at this
  exact this
 ·have h1:k<bitsLen x:=by
   rcases Nat.lt_or_ge k (bitsLen x)with h2|h2
   ·exact h2
   ·have:=(bitsLen_le_iff x k).1 h2;omega
  have h3:bitsLen (x / 2 ^ k)≤bitsLen x-k:=by
   rw[bitsLen_le_iff,Nat.div_lt_iff_lt_mul hpos,←Nat.pow_add]
   have:bitsLen x-k+k=bitsLen x:=by omega
   rw[this];exact lt_two_pow_bitsLen x
  omega
section
variable {μ:Mem}
theorem qGw{x:Nat}(hx:x<18446744073709551616):aP Tryz.prog 175 [.int .u64 x] μ (.int .i64 (bitsLen x)):=by
 obtain⟨L,hL⟩:∃L,L=bitsLen x:=⟨_,rfl⟩
 rw[←hL]
 refine Spec.mk Tryz.func175 (by kernel_rfl) ?_
 refine ifd (fun h1=>?_) (fun h1=>?_)
 ·refine aD (by decide) ?_
  refine nEq (x:=((x / 4294967296:Nat):Int)) (by
   show(x:Int).fdiv 4294967296=_
   rw[Int.fdiv_eq_ediv_of_nonneg _ (by decide)];rfl) ?_
  have b1:bitsLen x=bitsLen (x / 4294967296)+32:=cO (k:=32) (by omega)
  have b2:x / 4294967296<4294967296:=by omega
  generalize x / 4294967296=y at*
  refine ifd (fun h2=>?_) (fun h2=>?_)
  ·refine aD (by decide) ?_
   refine nEq (x:=((y / 65536:Nat):Int)) (by
    show(y:Int).fdiv 65536=_
    rw[Int.fdiv_eq_ediv_of_nonneg _ (by decide)];rfl) ?_
   have b3:bitsLen y=bitsLen (y / 65536)+16:=cO (k:=16) (by omega)
   have b4:y / 65536<65536:=by omega
   generalize y / 65536=z at*
   refine nEq (x:=32+16) (by decide) ?_
   refine ifd (fun h3=>?_) (fun h3=>?_)
   ·refine aD (by decide) ?_
    refine nEq (x:=((z / 256:Nat):Int)) (by
     show(z:Int).fdiv 256=_
     rw[Int.fdiv_eq_ediv_of_nonneg _ (by decide)];rfl) ?_
    have b5:bitsLen z=bitsLen (z / 256)+8:=cO (k:=8) (by omega)
    have b6:z / 256<256:=by omega
    generalize z / 256=w at*
    refine nEq (x:=32+16+8) (by decide) ?_
    have b7:bitsLen w≤8:=(bitsLen_le_iff w 8).2 b6
    refine nEq (x:=(w:Int)) (by
     show(w:Int) % 256=_
     omega) ?_
    refine aN w (UInt8.ofNat (bitsLen w)) rfl ?_ ?_
    ·clear b5 b7
     try clear hw
     revert w
     decide+kernel
    refine nEq (x:=(bitsLen w:Int)) (by
     rw[UInt8.toNat_ofNat',Nat.mod_eq_of_lt (by omega),aA (by omega) (by omega)]) ?_
    refine nEq (x:=(L:Int)) (by rw[aA (by omega) (by omega)];omega) ?_
    exact rGv rfl rfl
   ·obtain ⟨w, hw⟩ : ∃ w, w = z := ⟨_, rfl⟩
    have b5:bitsLen z=bitsLen w+0:=by rw[hw];rfl
    have b6:w<256:=by omega
    rw[←hw]
    have b7:bitsLen w≤8:=(bitsLen_le_iff w 8).2 b6
    refine nEq (x:=(w:Int)) (by
     show(w:Int) % 256=_
     omega) ?_
    refine aN w (UInt8.ofNat (bitsLen w)) rfl ?_ ?_
    ·clear b5 b7
     try clear hw
     revert w
     decide+kernel
    refine nEq (x:=(bitsLen w:Int)) (by
     rw[UInt8.toNat_ofNat',Nat.mod_eq_of_lt (by omega),aA (by omega) (by omega)]) ?_
    refine nEq (x:=(L:Int)) (by rw[aA (by omega) (by omega)];omega) ?_
    exact rGv rfl rfl
  ·obtain ⟨z, hz⟩ : ∃ z, z = y := ⟨_, rfl⟩
   have b3:bitsLen y=bitsLen z+0:=by rw[hz];rfl
   have b4:z<65536:=by omega
   rw[←hz]
   refine ifd (fun h3=>?_) (fun h3=>?_)
   ·refine aD (by decide) ?_
    refine nEq (x:=((z / 256:Nat):Int)) (by
     show(z:Int).fdiv 256=_
     rw[Int.fdiv_eq_ediv_of_nonneg _ (by decide)];rfl) ?_
    have b5:bitsLen z=bitsLen (z / 256)+8:=cO (k:=8) (by omega)
    have b6:z / 256<256:=by omega
    generalize z / 256=w at*
    refine nEq (x:=32+8) (by decide) ?_
    have b7:bitsLen w≤8:=(bitsLen_le_iff w 8).2 b6
    refine nEq (x:=(w:Int)) (by
     show(w:Int) % 256=_
     omega) ?_
    refine aN w (UInt8.ofNat (bitsLen w)) rfl ?_ ?_
    ·clear b5 b7
     try clear hw
     revert w
     decide+kernel
    refine nEq (x:=(bitsLen w:Int)) (by
     rw[UInt8.toNat_ofNat',Nat.mod_eq_of_lt (by omega),aA (by omega) (by omega)]) ?_
    refine nEq (x:=(L:Int)) (by rw[aA (by omega) (by omega)];omega) ?_
    exact rGv rfl rfl
   ·obtain ⟨w, hw⟩ : ∃ w, w = z := ⟨_, rfl⟩
    have b5:bitsLen z=bitsLen w+0:=by rw[hw];rfl
    have b6:w<256:=by omega
    rw[←hw]
    have b7:bitsLen w≤8:=(bitsLen_le_iff w 8).2 b6
    refine nEq (x:=(w:Int)) (by
     show(w:Int) % 256=_
     omega) ?_
    refine aN w (UInt8.ofNat (bitsLen w)) rfl ?_ ?_
    ·clear b5 b7
     try clear hw
     revert w
     decide+kernel
    refine nEq (x:=(bitsLen w:Int)) (by
     rw[UInt8.toNat_ofNat',Nat.mod_eq_of_lt (by omega),aA (by omega) (by omega)]) ?_
    refine nEq (x:=(L:Int)) (by rw[aA (by omega) (by omega)];omega) ?_
    exact rGv rfl rfl
 ·obtain ⟨y, hy⟩ : ∃ y, y = x := ⟨_, rfl⟩
  have b1:bitsLen x=bitsLen y+0:=by rw[hy];rfl
  have b2:y<4294967296:=by omega
  rw[←hy]
  refine ifd (fun h2=>?_) (fun h2=>?_)
  ·refine aD (by decide) ?_
   refine nEq (x:=((y / 65536:Nat):Int)) (by
    show(y:Int).fdiv 65536=_
    rw[Int.fdiv_eq_ediv_of_nonneg _ (by decide)];rfl) ?_
   have b3:bitsLen y=bitsLen (y / 65536)+16:=cO (k:=16) (by omega)
   have b4:y / 65536<65536:=by omega
   generalize y / 65536=z at*
   refine nEq (x:=0+16) (by decide) ?_
   refine ifd (fun h3=>?_) (fun h3=>?_)
   ·refine aD (by decide) ?_
    refine nEq (x:=((z / 256:Nat):Int)) (by
     show(z:Int).fdiv 256=_
     rw[Int.fdiv_eq_ediv_of_nonneg _ (by decide)];rfl) ?_
    have b5:bitsLen z=bitsLen (z / 256)+8:=cO (k:=8) (by omega)
    have b6:z / 256<256:=by omega
    generalize z / 256=w at*
    refine nEq (x:=0+16+8) (by decide) ?_
    have b7:bitsLen w≤8:=(bitsLen_le_iff w 8).2 b6
    refine nEq (x:=(w:Int)) (by
     show(w:Int) % 256=_
     omega) ?_
    refine aN w (UInt8.ofNat (bitsLen w)) rfl ?_ ?_
    ·clear b5 b7
     try clear hw
     revert w
     decide+kernel
    refine nEq (x:=(bitsLen w:Int)) (by
     rw[UInt8.toNat_ofNat',Nat.mod_eq_of_lt (by omega),aA (by omega) (by omega)]) ?_
    refine nEq (x:=(L:Int)) (by rw[aA (by omega) (by omega)];omega) ?_
    exact rGv rfl rfl
   ·obtain ⟨w, hw⟩ : ∃ w, w = z := ⟨_, rfl⟩
    have b5:bitsLen z=bitsLen w+0:=by rw[hw];rfl
    have b6:w<256:=by omega
    rw[←hw]
    have b7:bitsLen w≤8:=(bitsLen_le_iff w 8).2 b6
    refine nEq (x:=(w:Int)) (by
     show(w:Int) % 256=_
     omega) ?_
    refine aN w (UInt8.ofNat (bitsLen w)) rfl ?_ ?_
    ·clear b5 b7
     try clear hw
     revert w
     decide+kernel
    refine nEq (x:=(bitsLen w:Int)) (by
     rw[UInt8.toNat_ofNat',Nat.mod_eq_of_lt (by omega),aA (by omega) (by omega)]) ?_
    refine nEq (x:=(L:Int)) (by rw[aA (by omega) (by omega)];omega) ?_
    exact rGv rfl rfl
  ·obtain ⟨z, hz⟩ : ∃ z, z = y := ⟨_, rfl⟩
   have b3:bitsLen y=bitsLen z+0:=by rw[hz];rfl
   have b4:z<65536:=by omega
   rw[←hz]
   refine ifd (fun h3=>?_) (fun h3=>?_)
   ·refine aD (by decide) ?_
    refine nEq (x:=((z / 256:Nat):Int)) (by
     show(z:Int).fdiv 256=_
     rw[Int.fdiv_eq_ediv_of_nonneg _ (by decide)];rfl) ?_
    have b5:bitsLen z=bitsLen (z / 256)+8:=cO (k:=8) (by omega)
    have b6:z / 256<256:=by omega
    generalize z / 256=w at*
    refine nEq (x:=0+8) (by decide) ?_
    have b7:bitsLen w≤8:=(bitsLen_le_iff w 8).2 b6
    refine nEq (x:=(w:Int)) (by
     show(w:Int) % 256=_
     omega) ?_
    refine aN w (UInt8.ofNat (bitsLen w)) rfl ?_ ?_
    ·clear b5 b7
     try clear hw
     revert w
     decide+kernel
    refine nEq (x:=(bitsLen w:Int)) (by
     rw[UInt8.toNat_ofNat',Nat.mod_eq_of_lt (by omega),aA (by omega) (by omega)]) ?_
    refine nEq (x:=(L:Int)) (by rw[aA (by omega) (by omega)];omega) ?_
    exact rGv rfl rfl
   ·obtain ⟨w, hw⟩ : ∃ w, w = z := ⟨_, rfl⟩
    have b5:bitsLen z=bitsLen w+0:=by rw[hw];rfl
    have b6:w<256:=by omega
    rw[←hw]
    have b7:bitsLen w≤8:=(bitsLen_le_iff w 8).2 b6
    refine nEq (x:=(w:Int)) (by
     show(w:Int) % 256=_
     omega) ?_
    refine aN w (UInt8.ofNat (bitsLen w)) rfl ?_ ?_
    ·clear b5 b7
     try clear hw
     revert w
     decide+kernel
    refine nEq (x:=(bitsLen w:Int)) (by
     rw[UInt8.toNat_ofNat',Nat.mod_eq_of_lt (by omega),aA (by omega) (by omega)]) ?_
    refine nEq (x:=(L:Int)) (by rw[aA (by omega) (by omega)];omega) ?_
    exact rGv rfl rfl
theorem qFi{x:Nat}(hx:x<18446744073709551616):aP Tryz.prog 163 [.int .u64 x] μ (.int .i64 (bitsLen x)):=by
 refine Spec.mk Tryz.func163 (by kernel_rfl) ?_
 refine cGv (qGw hx) ?_
 exact rGv rfl rfl
theorem and_le{x m:Int}(h0:0≤m)(h1:m<18446744073709551616):0≤bits .and .u64 x m∧bits .and .u64 x m≤m:=by
 have e:bits .and .u64 x m=(((BitVec.ofInt 64 x &&& BitVec.ofInt 64 m).toNat:Nat):Int) % 18446744073709551616:=rfl
 have h2:(BitVec.ofInt 64 m).toNat=m.toNat:=by
  rw[BitVec.toNat_ofInt]
  congr 1
  exact Int.emod_eq_of_lt h0 h1
 have h3:(BitVec.ofInt 64 x &&& BitVec.ofInt 64 m).toNat≤m.toNat:=by
  rw[BitVec.toNat_and,h2]
  exact Nat.and_le_right
 rw[e]
 omega
end
end Go.Vx
namespace Go.Vx
open Go.Proofs Classical
open Go.Sort
section
variable {μ h0:Mem} {r rs:Nat} {ty:TypeId} {rest:List Value} {d:Array Int} {s:Int}
theorem nA{x:Nat}(hx:x≤1000000000000):aP Tryz.prog 177 [.int .i64 x] μ (.int .u64 ((2 ^ bitsLen x:Nat):Int)):=by
 refine Spec.mk Tryz.func177 (by kernel_rfl) ?_
 have h1:bitsLen x≤40:=(bitsLen_le_iff x 40).2 (by omega)
 have h2:2 ^ bitsLen x≤2 ^ 40:=Nat.pow_le_pow_right (by decide) h1
 have h3:(2:Nat) ^ 40=1099511627776:=by decide
 refine nEq (x:=(x:Int)) (by
  show(x:Int) % 18446744073709551616=_
  omega) ?_
 refine cGv (qFi (by omega)) ?_
 refine aD (by omega) ?_
 refine nEq (x:=((2 ^ bitsLen x:Nat):Int)) (by
  have e:min ((bitsLen x:Int).toNat) IntKind.u64.bits=bitsLen x:=by
   show min ((bitsLen x:Int).toNat) 64=bitsLen x
   omega
  rw[e]
  have h4:((2:Int) ^ bitsLen x)=((2 ^ bitsLen x:Nat):Int):=by rw[Int.natCast_pow];rfl
  show(1*(2:Int) ^ bitsLen x) % 18446744073709551616=_
  rw[Int.one_mul,h4]
  generalize 2 ^ bitsLen x=P at*
  omega) ?_
 exact rGv rfl rfl
def RowX(h0:Mem)(r:Nat)(ty:TypeId)(rest:List Value)(d:Array Int)(rs:Nat)(s:Int):Mem:=aY (h0.set rs (.cells #[.int .u64 s] 202 (0,0))) r ty rest d
theorem RowX.at(hne:rs≠r):RowX h0 r ty rest d rs s rs=some (.cells #[.int .u64 s] 202 (0,0)):=by
 rw[RowX,aY,Mem.set_ne hne,Mem.set_at]
theorem rdX{K:List Value→Prop}(hne:rs≠r)(h:K [.int .u64 s]):extVC μ (RowX h0 r ty rest d rs s) ⟨rs,0,none⟩ 1 K:=oIn _ rfl (bX (RowX.at hne)) h
theorem wrX{v:Int}{K:Mem→Prop}(hne:rs≠r)(h:K (RowX h0 r ty rest d rs v)):stoVC (RowX h0 r ty rest d rs s) ⟨rs,0,none⟩ [.int .u64 v] K:=by
 refine sIn [.int .u64 s] 202 (RowX.at hne) rfl (Nat.le_refl _) ?_
 have e:Mem.set (RowX h0 r ty rest d rs s) rs (.cells #[.int .u64 v] 202 (0,0))=RowX h0 r ty rest d rs v:=by
  rw[RowX,aY,Mem.set_comm (fun e=>hne e.symm),Mem.set_set]
  rfl
 show K (Mem.set (RowX h0 r ty rest d rs s) rs (.cells #[.int .u64 v] 202 (0,0)))
 rw[e];exact h
theorem RowX.parts(hne:rs≠r)(hs:h0 rs=none):Parts (RowX h0 r ty rest d rs s) (Mem.nil.set rs (.cells #[.int .u64 s] 202 (0,0))) (aY h0 r ty rest d):=fun b=>by
 by_cases h:b=rs
 ·subst h
  exact .inl ⟨by rw[RowX.at hne,Mem.set_at],by rw[aY,Mem.set_ne hne];exact hs⟩
 ·refine .inr ⟨?_, by rw [Mem.set_ne h]; rfl⟩
  rw[RowX,aY,aY]
  by_cases h2:b=r
  ·subst h2;rw[Mem.set_at,Mem.set_at]
  ·rw[Mem.set_ne h2,Mem.set_ne h2,Mem.set_ne h]
theorem qJi(hne:rs≠r):SpecH Tryz.prog 178 [.pointer (some ⟨rs,0,none⟩)] μ (RowX h0 r ty rest d rs s) fun v μ' h'=>∃s',v= .int .u64 s'∧μ'=μ∧h'=RowX h0 r ty rest d rs s':=by
 refine SpecH.mk [] Tryz.func178 (by kernel_rfl) ?_
 refine rdX hne ?_
 refine rdX hne ?_
 refine aD (by decide) ?_
 refine aT fun _ _=>?_
 refine aT fun _ _=>?_
 refine wrX hne ?_
 refine rdX hne ?_
 refine rdX hne ?_
 refine aD (by decide) ?_
 refine aT fun _ _=>?_
 refine aT fun _ _=>?_
 refine wrX hne ?_
 refine rdX hne ?_
 refine rdX hne ?_
 refine aD (by decide) ?_
 refine aT fun _ _=>?_
 refine aT fun _ _=>?_
 refine wrX hne ?_
 refine rdX hne ?_
 exact rPl ⟨_,rfl,rfl,rfl⟩
theorem oH{n a b cap:Nat}(hr:h0 r=none)(hd:d.size=n)(ha:a+8≤b)(hb:b≤n)(hn:n≤1000000000000):
  SpecH Tryz.prog 167 [.slice (some ⟨r,0,none⟩) n cap,.int .i64 a,.int .i64 b] μ (aY h0 r ty rest d) fun v _μ' h'=>v= .tuple #[]∧∃d',PermIn a b d d'∧h'=aY h0 r ty rest d':=by
 refine SpecH.mk [7] Tryz.func167 (by kernel_rfl) ?_
 refine nEq (x:=((b-a:Nat):Int)) (by rw[aA (by omega) (by omega)];omega) ?_
 refine ifd (fun h8=>?_) (fun h8=>by omega)
 refine aT fun s0 _=>?_
 intro rs hm ho
 have hne:rs≠r:=fun e=>by
  subst e
  have:aY h0 rs ty rest d rs=none:=ho
  rw[aY,Mem.set_at]at this;cases this
 have hs0:h0 rs=none:=by
  have:aY h0 r ty rest d rs=none:=ho
  rwa [aY,Mem.set_ne hne]at this
 have e0:Mem.set (aY h0 r ty rest d) rs (.cells #[.int .u64 0] 202 (0,0))=RowX h0 r ty rest d rs 0:=by
  rw[RowX,aY,aY,Mem.set_comm (fun e=>hne e.symm)]
 generalize hH:Mem.set (aY h0 r ty rest d) rs _=H
 obtain rfl:H=RowX h0 r ty rest d rs 0:=hH.symm.trans e0
 clear e0 hH ho hm
 refine wrX hne ?_
 refine cGv (nA (x:=b-a) (by omega)) ?_
 have hP1:1≤2 ^ bitsLen (b-a):=Nat.two_pow_pos _
 have hP2:2 ^ bitsLen (b-a)≤2*(b-a):=two_pow_bitsLen_le (by omega)
 generalize 2 ^ bitsLen (b-a)=P at*
 refine aD (by decide) ?_
 refine nEq (x:=(((b-a) / 4:Nat):Int)) (by rw[Int.tdiv_eq_ediv_of_nonneg (by omega),aA (by omega) (by omega)];omega) ?_
 refine nEq (x:=(((b-a) / 4*2:Nat):Int)) (by rw[aA (by omega) (by omega)];omega) ?_
 refine nEq (x:=((a+(b-a) / 4*2:Nat):Int)) (by rw[aA (by omega) (by omega)];omega) ?_
 refine nEq (x:=((a+(b-a) / 4*2-1:Nat):Int)) (by rw[aA (by omega) (by omega)];omega) ?_
 refine lIn (fun p:Nat×Array Int×Int=>a+(b-a) / 4*2≤p.1+1∧p.1≤a+(b-a) / 4*2+2∧PermIn a b d p.2.1)
  (fun(i,d,s)=>⟨[(0,.val (.slice (some ⟨r,0,none⟩) n cap)),(1,.val (.int .i64 a)),(6,.val (.int .i64 (b-a:Nat))),(7,.val (.pointer (some ⟨rs,0,none⟩))),(8,.val (.int .u64 P)),(9,.val (.int .i64 i))],[],0,μ,RowX h0 r ty rest d rs s⟩) (fun p=>a+(b-a) / 4*2+3-p.1)
  (a+(b-a) / 4*2-1,d,s0) ⟨by dsimp only;omega,by dsimp only;omega,permIn_refl _ _ _⟩ (fun(_,_,_)=>⟨rfl,rfl⟩) ⟨⟨rfl,rfl,rfl,rfl,rfl,rfl,trivial⟩,trivial,rfl,rfl⟩ ?_
 rintro⟨i,d1,s1⟩ ⟨hi1,hi2,hp⟩
 dsimp only at hi1 hi2 hp
 have hs1:d1.size=n:=hp.1.trans hd
 refine aD (by decide) ?_
 refine nEq (x:=(((b-a) / 4:Nat):Int)) (by rw[Int.tdiv_eq_ediv_of_nonneg (by omega),aA (by omega) (by omega)];omega) ?_
 refine nEq (x:=(((b-a) / 4*2:Nat):Int)) (by rw[aA (by omega) (by omega)];omega) ?_
 refine nEq (x:=((a+(b-a) / 4*2:Nat):Int)) (by rw[aA (by omega) (by omega)];omega) ?_
 refine nEq (x:=((a+(b-a) / 4*2+1:Nat):Int)) (by rw[aA (by omega) (by omega)];omega) ?_
 refine ifd (fun hle=>?_) (fun hle=>?_)
 rotate_left
 ·exact dJ _ _ (RowX.parts hne hs0) ⟨rfl,d1,hp,rfl⟩
 refine cOw (qJi hne) fun v μ' h' hle' hap hR=>?_
 obtain⟨s2,rfl,e1,rfl⟩:=hR
 obtain rfl:=e1.symm
 refine nEq (x:=((P-1:Nat):Int)) (by
  show((P:Int)-1) % 18446744073709551616=_
  omega) ?_
 refine aT fun y hy=>?_
 have w_:=and_le (x:=s2) (m:=((P-1:Nat):Int)) (by omega) (by omega)
 obtain⟨hy1,hy2⟩:=w_
 rw[←hy]at hy1 hy2
 have w_:=Int.eq_ofNat_of_zero_le hy1
 obtain⟨o,rfl⟩:=w_
 clear hy
 refine nEq (x:=(o:Int)) (aA (by omega) (by omega)) ?_
 refine ifd (fun ho=>?_) (fun ho=>?_)
 ·refine nEq (x := ((o - (b - a) : Nat) : Int)) (by rw [aA (by omega) (by omega)]; omega) ?_
  have ho2:o-(b-a)<b-a:=by omega
  generalize o-(b-a)=q at*
  refine nEq (x:=((a+q:Nat):Int)) (by rw[aA (by omega) (by omega)];omega) ?_
  refine nEq (x:=((a+q:Nat):Int)) (by rw[aA (by omega) (by omega)];omega) ?_
  refine aK (a+q) (by omega) (by omega) ?_
  refine rdI (by omega) ?_
  refine aK (i) (by omega) (by omega) ?_
  refine rdI (by omega) ?_
  refine aK (i) (by omega) (by omega) ?_
  refine wrI (by omega) ?_
  refine aK (a+q) (by omega) (by omega) ?_
  refine wrI (by simp;omega) ?_
  refine nEq (x:=((i+1:Nat):Int)) (by rw[aA (by omega) (by omega)];omega) ?_
  exact⟨(i+1,swp d1 i (a+q),s2),⟨by dsimp only;omega,by dsimp only;omega,permIn_trans _ _ _ _ _ hp (swp_permIn d1 a b i (a+q) (by omega) (by omega) (by omega) (by omega) (by omega))⟩,by dsimp only;omega,⟨⟨rfl,rfl,rfl,rfl,rfl,rfl,trivial⟩,trivial,rfl,rfl⟩⟩
 ·refine nEq (x := ((a + o : Nat) : Int)) (by rw [aA (by omega) (by omega)]; omega) ?_
  refine nEq (x:=((a+o:Nat):Int)) (by rw[aA (by omega) (by omega)];omega) ?_
  refine aK (a+o) (by omega) (by omega) ?_
  refine rdI (by omega) ?_
  refine aK (i) (by omega) (by omega) ?_
  refine rdI (by omega) ?_
  refine aK (i) (by omega) (by omega) ?_
  refine wrI (by omega) ?_
  refine aK (a+o) (by omega) (by omega) ?_
  refine wrI (by simp;omega) ?_
  refine nEq (x:=((i+1:Nat):Int)) (by rw[aA (by omega) (by omega)];omega) ?_
  exact⟨(i+1,swp d1 i (a+o),s2),⟨by dsimp only;omega,by dsimp only;omega,permIn_trans _ _ _ _ _ hp (swp_permIn d1 a b i (a+o) (by omega) (by omega) (by omega) (by omega) (by omega))⟩,by dsimp only;omega,⟨⟨rfl,rfl,rfl,rfl,rfl,rfl,trivial⟩,trivial,rfl,rfl⟩⟩
end
end Go.Vx
namespace Go.Vx
open Go.Proofs Classical
open Go.Sort
section
variable {μ h0:Mem} {r:Nat} {ty:TypeId} {rest:List Value} {d:Array Int}
theorem bF{n a b pivot:Nat}{cap:Nat}(hd:d.size=n)(hap:a≤pivot)(hpb:pivot<b)(hb:b≤n)(hn:n≤1000000000000):
  SpecH Tryz.prog 172 [.slice (some ⟨r,0,none⟩) n cap,.int .i64 a,.int .i64 b,.int .i64 pivot] μ (aY h0 r ty rest d) fun v μ' h'=>v= .int .i64 (partitionEqual ltInt d a b pivot).1∧μ'=μ∧h'=aY h0 r ty rest (partitionEqual ltInt d a b pivot).2:=by
 refine SpecH.mk [] Tryz.func172 (by kernel_rfl) ?_
 rw[partitionEqual]
 generalize hR:partEqLoop ltInt a (a+1) (b-1) (swp d a pivot)=R
 refine aK (pivot) (by omega) (by omega) ?_
 refine rdI (by omega) ?_
 refine aK (a) (by omega) (by omega) ?_
 refine rdI (by omega) ?_
 refine aK (a) (by omega) (by omega) ?_
 refine wrI (by omega) ?_
 refine aK (pivot) (by omega) (by omega) ?_
 refine wrI (by simp;omega) ?_
 refine nEq (x:=((a+1:Nat):Int)) (by rw[aA (by omega) (by omega)];omega) ?_
 refine nEq (x:=((b-1:Nat):Int)) (by rw[aA (by omega) (by omega)];omega) ?_
 refine lIn (fun p:Nat×Nat×Array Int=>a<p.1∧p.1≤p.2.1+2∧p.2.1<b∧p.2.2.size=n∧partEqLoop ltInt a p.1 p.2.1 p.2.2=R)
  (fun(i,j,d)=>⟨[(0,.val (.slice (some ⟨r,0,none⟩) n cap)),(1,.val (.int .i64 a)),(9,.val (.int .i64 i)),(10,.val (.int .i64 j))],[],0,μ,aY h0 r ty rest d⟩) (fun p=>p.2.1+1-p.1)
  (a+1,b-1,swp d a pivot) ⟨by dsimp only;omega,by dsimp only;omega,by dsimp only;omega,by dsimp only;rw[Go.Sort.swp_size];exact hd,hR⟩ (fun(_,_,_)=>⟨rfl,rfl⟩) ⟨⟨rfl,rfl,rfl,rfl,trivial⟩,trivial,rfl,rfl⟩ ?_
 clear hR
 rintro⟨i,j,d1⟩ ⟨hai,hij0,hjb,hs,hR⟩
 dsimp only at hai hij0 hjb hs hR
 rw[partEqLoop_eq]at hR
 generalize hU:scanUp (fun x=> !ltInt d1[a]! x) d1 j i=U at*
 refine lIn (fun i':Nat=>i≤i'∧i'≤j+2∧scanUp (fun x=> !ltInt d1[a]! x) d1 j i'=U) (fun i'=>⟨[(0,.val (.slice (some ⟨r,0,none⟩) n cap)),(1,.val (.int .i64 a)),(9,.val (.int .i64 i')),(10,.val (.int .i64 j))],[],0,μ,aY h0 r ty rest d1⟩) (fun i'=>j+1-i')
  i ⟨by omega,by omega,hU⟩ (fun _=>⟨rfl,rfl⟩) ⟨⟨rfl,rfl,rfl,rfl,trivial⟩,trivial,rfl,rfl⟩ ?_
 clear hU
 rintro i' ⟨h1,h2,hU⟩
 rw[scanUp]at hU
 refine ifd (fun hij=>?_) (fun hij=>?_)
 refine aK (a) (by omega) (by omega) ?_
 refine rdI (by omega) ?_
 refine aK (i') (by omega) (by omega) ?_
 refine rdI (by omega) ?_
 refine cGv (aV _ _) ?_
 refine iIn (fun hl=>?_) (fun hl=>?_)
 ·rw [if_pos (by simp only [Bool.and_eq_true, decide_eq_true_eq]; exact ⟨by omega, hl⟩)] at hU
  refine nEq (x:=((i'+1:Nat):Int)) (by rw[aA (by omega) (by omega)];omega) ?_
  exact⟨i'+1,⟨by omega,by omega,hU⟩,by omega,⟨⟨rfl,rfl,rfl,rfl,trivial⟩,trivial,rfl,rfl⟩⟩
 rw[if_neg (by simp only[Bool.and_eq_true,hl];simp)]at hU
 rotate_left
 rw[if_neg (by simp;omega)]at hU
 obtain rfl:=hU
 rotate_left
 obtain rfl:=hU
 rotate_left
 all_goals
  generalize hV:scanDown (fun x=>ltInt d1[a]! x) d1 i' j=V at*
  refine lIn (fun j':Nat=>j'≤j∧0≤j'∧scanDown (fun x=>ltInt d1[a]! x) d1 i' j'=V) (fun j'=>⟨[(0,.val (.slice (some ⟨r,0,none⟩) n cap)),(1,.val (.int .i64 a)),(9,.val (.int .i64 i')),(10,.val (.int .i64 j'))],[],0,μ,aY h0 r ty rest d1⟩) (fun j'=>j')
   j ⟨by omega,by omega,hV⟩ (fun _=>⟨rfl,rfl⟩) ⟨⟨rfl,rfl,rfl,rfl,trivial⟩,trivial,rfl,rfl⟩ ?_
  clear hV
  rintro j' ⟨g1,g2,hV⟩
  refine ifd (fun hij2=>?_) (fun hij2=>?_)
  obtain⟨k,rfl⟩:∃k,j'=k+1:=⟨j'-1,by omega⟩
  rw[scanDown]at hV
  refine aK (a) (by omega) (by omega) ?_
  refine rdI (by omega) ?_
  refine aK (k+1) (by omega) (by omega) ?_
  refine rdI (by omega) ?_
  refine cGv (aV _ _) ?_
  refine iIn (fun hl=>?_) (fun hl=>?_)
  ·rw [if_pos (by simp only [Bool.and_eq_true, decide_eq_true_eq]; exact ⟨by omega, hl⟩)] at hV
   refine nEq (x:=((k:Nat):Int)) (by rw[aA (by omega) (by omega)];omega) ?_
   exact⟨k,⟨by omega,by omega,hV⟩,by omega,⟨⟨rfl,rfl,rfl,rfl,trivial⟩,trivial,rfl,rfl⟩⟩
  rw[if_neg (by simp only[Bool.and_eq_true,hl];simp)]at hV
  obtain rfl:=hV
  generalize k+1=j' at*
  rotate_left
  replace hV:j'=V:=by
   cases j' with
   |zero=>exact hV
   |succ k=>rwa [scanDown,if_neg (by simp;omega)]at hV
  obtain rfl:=hV
  rotate_left
 all_goals
  refine ifd (fun hgt=>?_) (fun hgt=>?_)
  ·rw [if_pos (by omega)] at hR
   subst hR
   exact rPl ⟨rfl,rfl,rfl⟩
  ·rw [if_neg (by omega)] at hR
   refine aK (j') (by omega) (by omega) ?_
   refine rdI (by omega) ?_
   refine aK (i') (by omega) (by omega) ?_
   refine rdI (by omega) ?_
   refine aK (i') (by omega) (by omega) ?_
   refine wrI (by omega) ?_
   refine aK (j') (by omega) (by omega) ?_
   refine wrI (by simp;omega) ?_
   refine nEq (x:=((i'+1:Nat):Int)) (by rw[aA (by omega) (by omega)];omega) ?_
   refine nEq (x:=((j'-1:Nat):Int)) (by rw[aA (by omega) (by omega)];omega) ?_
   exact⟨(i'+1,j'-1,swp d1 i' j'),⟨by dsimp only;omega,by dsimp only;omega,by dsimp only;omega,by dsimp only;rw[Go.Sort.swp_size];exact hs,hR⟩,by dsimp only;omega,⟨⟨rfl,rfl,rfl,rfl,trivial⟩,trivial,rfl,rfl⟩⟩
set_option maxHeartbeats 4000000 in
theorem aU{n a b pivot:Nat}{cap:Nat}(hd:d.size=n)(hap:a≤pivot)(hpb:pivot<b)(hb:b≤n)(hn:n≤1000000000000):
  SpecH Tryz.prog 173 [.slice (some ⟨r,0,none⟩) n cap,.int .i64 a,.int .i64 b,.int .i64 pivot] μ (aY h0 r ty rest d) fun v μ' h'=>(∃ap,v= .tuple #[.int .i64 (partition ltInt d a b pivot).1,.bool ap])∧μ'=μ∧h'=aY h0 r ty rest (partition ltInt d a b pivot).2.2:=by
 refine SpecH.mk [] Tryz.func173 (by kernel_rfl) ?_
 rw[partition_fst,partition_arr]
 have hsz:∀m i j (d:Array Int),j+1-i≤m→(partLoop ltInt a i j d).2.size=d.size:=fun m=>by
  induction m with
  |zero=>
   intro i j d h
   rw[partLoop_eq]
   have h1:=scanUp_ge (fun x=>ltInt x d[a]!) d j i
   have h2:=scanDown_le (fun x=> !ltInt x d[a]!) d (scanUp (fun x=>ltInt x d[a]!) d j i) j
   rw[if_pos (by omega)]
  |succ m ih=>
   intro i j d h
   rw[partLoop_eq]
   split
   ·rfl
   ·rename_i hg
    have:=partLoop_guard ltInt a i j d hg
    rw[ih _ _ _ (by omega),Go.Sort.swp_size]
 have hRs:=hsz _ (a+1) (b-1) (swp d a pivot) (Nat.le_refl _)
 rw[Go.Sort.swp_size]at hRs
 generalize hR:partLoop ltInt a (a+1) (b-1) (swp d a pivot)=R at*
 refine aK (pivot) (by omega) (by omega) ?_
 refine rdI (by omega) ?_
 refine aK (a) (by omega) (by omega) ?_
 refine rdI (by omega) ?_
 refine aK (a) (by omega) (by omega) ?_
 refine wrI (by omega) ?_
 refine aK (pivot) (by omega) (by omega) ?_
 refine wrI (by simp;omega) ?_
 refine nEq (x:=((a+1:Nat):Int)) (by rw[aA (by omega) (by omega)];omega) ?_
 refine nEq (x:=((b-1:Nat):Int)) (by rw[aA (by omega) (by omega)];omega) ?_
 have hs:(swp d a pivot).size=n:=by rw[Go.Sort.swp_size];exact hd
 have hsw:swp d a pivot=(d.setIfInBounds a d[pivot]!).setIfInBounds pivot d[a]!:=rfl
 rw[hsw]at hR hs
 generalize (d.setIfInBounds a d[pivot]!).setIfInBounds pivot d[a]! =d1 at*
 clear hsw hsz
 obtain⟨i,hi⟩:∃i,i=a+1:=⟨_,rfl⟩
 obtain⟨j,hj⟩:∃j,j=b-1:=⟨_,rfl⟩
 have hai:a<i:=by omega
 have hij0:i≤j+2:=by omega
 have hjb:j<b:=by omega
 rw[←hi,←hj]at hR ⊢
 clear hi hj
 rw[partLoop_eq]at hR
 generalize hU:scanUp (fun x=>ltInt x d1[a]!) d1 j i=U at*
 refine lIn (fun i':Nat=>i≤i'∧i'≤j+2∧scanUp (fun x=>ltInt x d1[a]!) d1 j i'=U) (fun i'=>⟨[(0,.val (.slice (some ⟨r,0,none⟩) n cap)),(1,.val (.int .i64 a)),(10,.val (.int .i64 i')),(11,.val (.int .i64 j))],[],0,μ,aY h0 r ty rest d1⟩) (fun i'=>j+1-i')
  i ⟨by omega,by omega,hU⟩ (fun _=>⟨rfl,rfl⟩) ⟨⟨rfl,rfl,rfl,rfl,trivial⟩,trivial,rfl,rfl⟩ ?_
 clear hU
 rintro i' ⟨h1,h2,hU⟩
 rw[scanUp]at hU
 refine ifd (fun hij=>?_) (fun hij=>?_)
 refine aK (i') (by omega) (by omega) ?_
 refine rdI (by omega) ?_
 refine aK (a) (by omega) (by omega) ?_
 refine rdI (by omega) ?_
 refine cGv (aV _ _) ?_
 refine iIn (fun hl=>?_) (fun hl=>?_)
 ·rw [if_pos (by simp only [Bool.and_eq_true, decide_eq_true_eq]; exact ⟨by omega, hl⟩)] at hU
  refine nEq (x:=((i'+1:Nat):Int)) (by rw[aA (by omega) (by omega)];omega) ?_
  exact⟨i'+1,⟨by omega,by omega,hU⟩,by omega,⟨⟨rfl,rfl,rfl,rfl,trivial⟩,trivial,rfl,rfl⟩⟩
 rw[if_neg (by simp only[Bool.and_eq_true,hl];simp)]at hU
 rotate_left
 rw[if_neg (by simp;omega)]at hU
 obtain rfl:=hU
 rotate_left
 obtain rfl:=hU
 rotate_left
 all_goals
  generalize hV:scanDown (fun x=> !ltInt x d1[a]!) d1 i' j=V at*
  refine lIn (fun j':Nat=>j'≤j∧0≤j'∧scanDown (fun x=> !ltInt x d1[a]!) d1 i' j'=V) (fun j'=>⟨[(0,.val (.slice (some ⟨r,0,none⟩) n cap)),(1,.val (.int .i64 a)),(10,.val (.int .i64 i')),(11,.val (.int .i64 j'))],[],0,μ,aY h0 r ty rest d1⟩) (fun j'=>j')
   j ⟨by omega,by omega,hV⟩ (fun _=>⟨rfl,rfl⟩) ⟨⟨rfl,rfl,rfl,rfl,trivial⟩,trivial,rfl,rfl⟩ ?_
  clear hV
  rintro j' ⟨g1,g2,hV⟩
  refine ifd (fun hij2=>?_) (fun hij2=>?_)
  obtain⟨k,rfl⟩:∃k,j'=k+1:=⟨j'-1,by omega⟩
  rw[scanDown]at hV
  refine aK (k+1) (by omega) (by omega) ?_
  refine rdI (by omega) ?_
  refine aK (a) (by omega) (by omega) ?_
  refine rdI (by omega) ?_
  refine cGv (aV _ _) ?_
  refine iIn (fun hl=>?_) (fun hl=>?_)
  ·rw [if_pos (by simp only [Bool.and_eq_true, decide_eq_true_eq]; exact ⟨by omega, hl⟩)] at hV
   refine nEq (x:=((k:Nat):Int)) (by rw[aA (by omega) (by omega)];omega) ?_
   exact⟨k,⟨by omega,by omega,hV⟩,by omega,⟨⟨rfl,rfl,rfl,rfl,trivial⟩,trivial,rfl,rfl⟩⟩
  rw[if_neg (by simp only[Bool.and_eq_true,hl];simp)]at hV
  obtain rfl:=hV
  generalize k+1=j' at*
  rotate_left
  replace hV:j'=V:=by
   cases j' with
   |zero=>exact hV
   |succ k=>rwa [scanDown,if_neg (by simp;omega)]at hV
  obtain rfl:=hV
  rotate_left
 all_goals
  refine ifd (fun hgt=>?_) (fun hgt=>?_)
  ·rw [if_pos (by omega)] at hR
   subst hR
   refine aK (a) (by omega) (by omega) ?_
   refine rdI (by omega) ?_
   refine aK (j') (by omega) (by omega) ?_
   refine rdI (by omega) ?_
   refine aK (j') (by omega) (by omega) ?_
   refine wrI (by omega) ?_
   refine aK (a) (by omega) (by omega) ?_
   refine wrI (by simp;omega) ?_
   exact rPl ⟨⟨_,rfl⟩,rfl,rfl⟩
  ·rw [if_neg (by omega)] at hR
   refine aK (j') (by omega) (by omega) ?_
   refine rdI (by omega) ?_
   refine aK (i') (by omega) (by omega) ?_
   refine rdI (by omega) ?_
   refine aK (i') (by omega) (by omega) ?_
   refine wrI (by omega) ?_
   refine aK (j') (by omega) (by omega) ?_
   refine wrI (by simp;omega) ?_
   refine nEq (x:=((i'+1:Nat):Int)) (by rw[aA (by omega) (by omega)];omega) ?_
   refine nEq (x:=((j'-1:Nat):Int)) (by rw[aA (by omega) (by omega)];omega) ?_
   refine lIn (fun p:Nat×Nat×Array Int=>a<p.1∧p.1≤p.2.1+2∧p.2.1<b∧p.2.2.size=n∧partLoop ltInt a p.1 p.2.1 p.2.2=R)
    (fun(i,j,d)=>⟨[(0,.val (.slice (some ⟨r,0,none⟩) n cap)),(1,.val (.int .i64 a)),(10,.val (.int .i64 i)),(11,.val (.int .i64 j))],[],0,μ,aY h0 r ty rest d⟩) (fun p=>p.2.1+1-p.1)
    (i'+1,j'-1,swp d1 i' j') ⟨by dsimp only;omega,by dsimp only;omega,by dsimp only;omega,by dsimp only;rw[Go.Sort.swp_size];exact hs,hR⟩ (fun(_,_,_)=>⟨rfl,rfl⟩) ⟨⟨rfl,rfl,rfl,rfl,trivial⟩,trivial,rfl,rfl⟩ ?_
   clear hR hgt hs hai hij0 hjb h1 h2 g1 g2
   rintro⟨i,j,d1⟩ ⟨hai,hij0,hjb,hs,hR⟩
   dsimp only at hai hij0 hjb hs hR
   rw[partLoop_eq]at hR
   generalize hU:scanUp (fun x=>ltInt x d1[a]!) d1 j i=U at*
   refine lIn (fun i':Nat=>i≤i'∧i'≤j+2∧scanUp (fun x=>ltInt x d1[a]!) d1 j i'=U) (fun i'=>⟨[(0,.val (.slice (some ⟨r,0,none⟩) n cap)),(1,.val (.int .i64 a)),(10,.val (.int .i64 i')),(11,.val (.int .i64 j))],[],0,μ,aY h0 r ty rest d1⟩) (fun i'=>j+1-i')
    i ⟨by omega,by omega,hU⟩ (fun _=>⟨rfl,rfl⟩) ⟨⟨rfl,rfl,rfl,rfl,trivial⟩,trivial,rfl,rfl⟩ ?_
   clear hU
   rintro i' ⟨h1,h2,hU⟩
   rw[scanUp]at hU
   refine ifd (fun hij=>?_) (fun hij=>?_)
   refine aK (i') (by omega) (by omega) ?_
   refine rdI (by omega) ?_
   refine aK (a) (by omega) (by omega) ?_
   refine rdI (by omega) ?_
   refine cGv (aV _ _) ?_
   refine iIn (fun hl=>?_) (fun hl=>?_)
   ·rw [if_pos (by simp only [Bool.and_eq_true, decide_eq_true_eq]; exact ⟨by omega, hl⟩)] at hU
    refine nEq (x:=((i'+1:Nat):Int)) (by rw[aA (by omega) (by omega)];omega) ?_
    exact⟨i'+1,⟨by omega,by omega,hU⟩,by omega,⟨⟨rfl,rfl,rfl,rfl,trivial⟩,trivial,rfl,rfl⟩⟩
   rw[if_neg (by simp only[Bool.and_eq_true,hl];simp)]at hU
   rotate_left
   rw[if_neg (by simp;omega)]at hU
   obtain rfl:=hU
   rotate_left
   obtain rfl:=hU
   rotate_left
   all_goals
    generalize hV:scanDown (fun x=> !ltInt x d1[a]!) d1 i' j=V at*
    refine lIn (fun j':Nat=>j'≤j∧0≤j'∧scanDown (fun x=> !ltInt x d1[a]!) d1 i' j'=V) (fun j'=>⟨[(0,.val (.slice (some ⟨r,0,none⟩) n cap)),(1,.val (.int .i64 a)),(10,.val (.int .i64 i')),(11,.val (.int .i64 j'))],[],0,μ,aY h0 r ty rest d1⟩) (fun j'=>j')
     j ⟨by omega,by omega,hV⟩ (fun _=>⟨rfl,rfl⟩) ⟨⟨rfl,rfl,rfl,rfl,trivial⟩,trivial,rfl,rfl⟩ ?_
    clear hV
    rintro j' ⟨g1,g2,hV⟩
    refine ifd (fun hij2=>?_) (fun hij2=>?_)
    obtain⟨k,rfl⟩:∃k,j'=k+1:=⟨j'-1,by omega⟩
    rw[scanDown]at hV
    refine aK (k+1) (by omega) (by omega) ?_
    refine rdI (by omega) ?_
    refine aK (a) (by omega) (by omega) ?_
    refine rdI (by omega) ?_
    refine cGv (aV _ _) ?_
    refine iIn (fun hl=>?_) (fun hl=>?_)
    ·rw [if_pos (by simp only [Bool.and_eq_true, decide_eq_true_eq]; exact ⟨by omega, hl⟩)] at hV
     refine nEq (x:=((k:Nat):Int)) (by rw[aA (by omega) (by omega)];omega) ?_
     exact⟨k,⟨by omega,by omega,hV⟩,by omega,⟨⟨rfl,rfl,rfl,rfl,trivial⟩,trivial,rfl,rfl⟩⟩
    rw[if_neg (by simp only[Bool.and_eq_true,hl];simp)]at hV
    obtain rfl:=hV
    generalize k+1=j' at*
    rotate_left
    replace hV:j'=V:=by
     cases j' with
     |zero=>exact hV
     |succ k=>rwa [scanDown,if_neg (by simp;omega)]at hV
    obtain rfl:=hV
    rotate_left
   all_goals
    refine ifd (fun hgt=>?_) (fun hgt=>?_)
    ·rw [if_pos (by omega)] at hR
     subst hR
     refine aK (a) (by omega) (by omega) ?_
     refine rdI (by omega) ?_
     refine aK (j') (by omega) (by omega) ?_
     refine rdI (by omega) ?_
     refine aK (j') (by omega) (by omega) ?_
     refine wrI (by omega) ?_
     refine aK (a) (by omega) (by omega) ?_
     refine wrI (by simp;omega) ?_
     exact rPl ⟨⟨_,rfl⟩,rfl,rfl⟩
    ·rw [if_neg (by omega)] at hR
     refine aK (j') (by omega) (by omega) ?_
     refine rdI (by omega) ?_
     refine aK (i') (by omega) (by omega) ?_
     refine rdI (by omega) ?_
     refine aK (i') (by omega) (by omega) ?_
     refine wrI (by omega) ?_
     refine aK (j') (by omega) (by omega) ?_
     refine wrI (by simp;omega) ?_
     refine nEq (x:=((i'+1:Nat):Int)) (by rw[aA (by omega) (by omega)];omega) ?_
     refine nEq (x:=((j'-1:Nat):Int)) (by rw[aA (by omega) (by omega)];omega) ?_
     exact⟨(i'+1,j'-1,swp d1 i' j'),⟨by dsimp only;omega,by dsimp only;omega,by dsimp only;omega,by dsimp only;rw[Go.Sort.swp_size];exact hs,hR⟩,by dsimp only;omega,⟨⟨rfl,rfl,rfl,rfl,trivial⟩,trivial,rfl,rfl⟩⟩
end
end Go.Vx
namespace Go.Vx
open Go.Proofs Classical
open Go.Sort
section
variable {μ h0:Mem} {r:Nat} {ty:TypeId} {rest:List Value} {d:Array Int}
set_option maxHeartbeats 8000000 in
theorem eB{n a b:Nat}{cap:Nat}(hd:d.size=n)(ha:a<b)(hb:b≤n)(hn:n≤1000000000000):
  SpecH Tryz.prog 170 [.slice (some ⟨r,0,none⟩) n cap,.int .i64 a,.int .i64 b] μ (aY h0 r ty rest d) fun v μ' h'=>v= .bool (partialInsertionSort ltInt d a b).2∧μ'=μ∧h'=aY h0 r ty rest (partialInsertionSort ltInt d a b).1:=by
 refine SpecH.mk [] Tryz.func170 (by kernel_rfl) ?_
 rw[partialInsertionSort]
 generalize hR:partialIns ltInt a b 5 (a+1) d=R
 refine nEq (x:=((a+1:Nat):Int)) (by rw[aA (by omega) (by omega)];omega) ?_
 refine lIn (fun p:Nat×Nat×Array Int=>p.1≤5∧a<p.2.1∧p.2.1≤b∧p.2.2.size=n∧partialIns ltInt a b p.1 p.2.1 p.2.2=R)
  (fun(t,i,d)=>⟨[(0,.val (.slice (some ⟨r,0,none⟩) n cap)),(1,.val (.int .i64 a)),(2,.val (.int .i64 b)),(7,.val (.int .i64 i)),(8,.val (.int .i64 (5-(t:Int))))],[],0,μ,aY h0 r ty rest d⟩) (fun p=>p.1)
  (5,a+1,d) ⟨by dsimp only;omega,by dsimp only;omega,by dsimp only;omega,hd,hR⟩ (fun(_,_,_)=>⟨rfl,rfl⟩) ⟨⟨rfl,rfl,rfl,rfl,rfl,trivial⟩,trivial,rfl,rfl⟩ ?_
 clear hR
 rintro⟨t,i,d1⟩ ⟨ht,hai,hib,hs,hR⟩
 dsimp only at ht hai hib hs hR
 refine ifd (fun h5=>?_) (fun h5=>?_)
 rotate_left
 ·obtain rfl : t = 0 := by omega
  rw[partialIns]at hR
  subst hR
  exact rPl ⟨rfl,rfl,rfl⟩
 obtain⟨t,rfl⟩:∃k,t=k+1:=⟨t-1,by omega⟩
 rw[partialIns_succ]at hR
 generalize hS:scanSorted ltInt d1 b i=S at*
 refine lIn (fun i':Nat=>i≤i'∧i'≤b∧scanSorted ltInt d1 b i'=S) (fun i'=>⟨[(0,.val (.slice (some ⟨r,0,none⟩) n cap)),(1,.val (.int .i64 a)),(2,.val (.int .i64 b)),(7,.val (.int .i64 i')),(8,.val (.int .i64 (5-((t+1:Nat):Int))))],[],0,μ,aY h0 r ty rest d1⟩) (fun i'=>b-i')
  i ⟨by omega,by omega,hS⟩ (fun _=>⟨rfl,rfl⟩) ⟨⟨rfl,rfl,rfl,rfl,rfl,trivial⟩,trivial,rfl,rfl⟩ ?_
 clear hS
 rintro i' ⟨h1,h2,hS⟩
 rw[scanSorted]at hS
 refine ifd (fun hlt=>?_) (fun hlt=>?_)
 rotate_left
 ·rw [if_neg (by simp; omega)] at hS
  obtain rfl:=hS
  rw[if_pos (by omega)]at hR
  subst hR
  refine ifd (fun _=>?_) (fun h=>absurd (by omega) h)
  exact rPl ⟨rfl,rfl,rfl⟩
 refine aK (i') (by omega) (by omega) ?_
 refine rdI (by omega) ?_
 refine nEq (x:=((i'-1:Nat):Int)) (by rw[aA (by omega) (by omega)];omega) ?_
 refine aK (i'-1) (by omega) (by omega) ?_
 refine rdI (by omega) ?_
 refine cGv (aV _ _) ?_
 refine iIn (fun hl=>?_) (fun hl=>?_)
 ·rw [if_pos (by simp only [Bool.and_eq_true, decide_eq_true_eq]; exact ⟨by omega, hl⟩)] at hS
  refine nEq (x:=((i'+1:Nat):Int)) (by rw[aA (by omega) (by omega)];omega) ?_
  exact⟨i'+1,⟨by omega,by omega,hS⟩,by omega,⟨⟨rfl,rfl,rfl,rfl,rfl,trivial⟩,trivial,rfl,rfl⟩⟩
 rw[if_neg (by simp only[Bool.and_eq_true,hl];simp)]at hS
 obtain rfl:=hS
 refine ifd (fun h=>absurd h (by omega)) (fun _=>?_)
 rw[if_neg (by omega)]at hR
 refine nEq (x:=((b-a:Nat):Int)) (by rw[aA (by omega) (by omega)];omega) ?_
 refine ifd (fun h50=>?_) (fun h50=>?_)
 ·rw [if_pos (by omega)] at hR
  subst hR
  exact rPl ⟨rfl,rfl,rfl⟩
 rw[if_neg (by omega)]at hR
 refine nEq (x:=((i'-1:Nat):Int)) (by rw[aA (by omega) (by omega)];omega) ?_
 refine nEq (x:=((i'-1:Nat):Int)) (by rw[aA (by omega) (by omega)];omega) ?_
 refine aK (i'-1) (by omega) (by omega) ?_
 refine rdI (by omega) ?_
 refine aK (i') (by omega) (by omega) ?_
 refine rdI (by omega) ?_
 refine aK (i') (by omega) (by omega) ?_
 refine wrI (by omega) ?_
 refine aK (i'-1) (by omega) (by omega) ?_
 refine wrI (by simp;omega) ?_
 have hsw:swp d1 i' (i'-1)=(d1.setIfInBounds i' d1[i'-1]!).setIfInBounds (i'-1) d1[i']!:=rfl
 have hs2:(swp d1 i' (i'-1)).size=n:=by rw[Go.Sort.swp_size];exact hs
 rw[hsw]at hR hs2
 generalize (d1.setIfInBounds i' d1[i'-1]!).setIfInBounds (i'-1) d1[i']! =d2 at*
 clear hsw
 refine nEq (x:=((i'-a:Nat):Int)) (by rw[aA (by omega) (by omega)];omega) ?_
 unfold fixDown at hR
 refine ifd (fun hd2=>?_) (fun hd2=>?_)
 ·rw [if_pos (by omega)] at hR
  refine nEq (x:=((i'-1:Nat):Int)) (by rw[aA (by omega) (by omega)];omega) ?_
  generalize hD:shiftDown ltInt (i'-1) d2=D2 at*
  refine lIn (fun p:Nat×Array Int=>p.1≤i'-1∧p.2.size=n∧shiftDown ltInt p.1 p.2=D2) (fun(j,d)=>⟨[(0,.val (.slice (some ⟨r,0,none⟩) n cap)),(1,.val (.int .i64 a)),(2,.val (.int .i64 b)),(7,.val (.int .i64 i')),(8,.val (.int .i64 (5-((t+1:Nat):Int)))),(9,.val (.int .i64 j))],[],0,μ,aY h0 r ty rest d⟩) (fun p=>p.1)
   (i'-1,d2) ⟨by dsimp only;omega,hs2,hD⟩ (fun(_,_)=>⟨rfl,rfl⟩) ⟨⟨rfl,rfl,rfl,rfl,rfl,rfl,trivial⟩,trivial,rfl,rfl⟩ ?_
  clear hD
  rintro⟨j,d3⟩ ⟨hj,hs3,hD⟩
  dsimp only at hj hs3 hD
  refine ifd (fun hj1=>?_) (fun hj1=>?_)
  ·obtain ⟨k, rfl⟩ : ∃ k, j = k + 1 := ⟨j - 1, by omega⟩
   rw[shiftDown]at hD
   refine aK (k+1) (by omega) (by omega) ?_
   refine rdI (by omega) ?_
   refine nEq (x:=((k:Nat):Int)) (by rw[aA (by omega) (by omega)];omega) ?_
   refine aK (k) (by omega) (by omega) ?_
   refine rdI (by omega) ?_
   refine cGv (aV _ _) ?_
   refine iIn (fun hl2=>?_) (fun hl2=>?_)
   ·rw [if_pos hl2] at hD
    obtain rfl:=hD
    refine nEq (x:=((b-i':Nat):Int)) (by rw[aA (by omega) (by omega)];omega) ?_
    unfold fixUp at hR
    refine ifd (fun hu2=>?_) (fun hu2=>?_)
    ·rw [if_pos (by omega)] at hR
     refine nEq (x:=((i'+1:Nat):Int)) (by rw[aA (by omega) (by omega)];omega) ?_
     generalize hE:shiftUp ltInt b (i'+1) d3=D4 at*
     refine lIn (fun p:Nat×Array Int=>i'+1≤p.1∧p.1≤b+1∧p.2.size=n∧shiftUp ltInt b p.1 p.2=D4) (fun(j,d)=>⟨[(0,.val (.slice (some ⟨r,0,none⟩) n cap)),(1,.val (.int .i64 a)),(2,.val (.int .i64 b)),(7,.val (.int .i64 i')),(8,.val (.int .i64 (5-((t+1:Nat):Int)))),(10,.val (.int .i64 j))],[],0,μ,aY h0 r ty rest d⟩) (fun p=>b-p.1)
      (i'+1,d3) ⟨by dsimp only;omega,by dsimp only;omega,hs3,hE⟩ (fun(_,_)=>⟨rfl,rfl⟩) ⟨⟨rfl,rfl,rfl,rfl,rfl,rfl,trivial⟩,trivial,rfl,rfl⟩ ?_
     clear hE
     rintro⟨j2,d5⟩ ⟨hj2,hjb2,hs5,hE⟩
     dsimp only at hj2 hjb2 hs5 hE
     rw[shiftUp]at hE
     refine ifd (fun hj1=>?_) (fun hj1=>?_)
     ·rw [if_pos (by omega)] at hE
      refine aK (j2) (by omega) (by omega) ?_
      refine rdI (by omega) ?_
      refine nEq (x:=((j2-1:Nat):Int)) (by rw[aA (by omega) (by omega)];omega) ?_
      refine aK (j2-1) (by omega) (by omega) ?_
      refine rdI (by omega) ?_
      refine cGv (aV _ _) ?_
      refine iIn (fun hl3=>?_) (fun hl3=>?_)
      ·rw [if_pos hl3] at hE
       obtain rfl:=hE
       refine nEq (x:=5-(t:Int)) (by rw[aA (by omega) (by omega)];omega) ?_
       exact⟨(t,i',d5),⟨by dsimp only;omega,by dsimp only;omega,by dsimp only;omega,hs5,hR⟩,by dsimp only;omega,⟨⟨rfl,rfl,rfl,rfl,rfl,trivial⟩,trivial,rfl,rfl⟩⟩
      ·rw [if_neg (by simp only [hl3]; simp)] at hE
       refine nEq (x:=((j2-1:Nat):Int)) (by rw[aA (by omega) (by omega)];omega) ?_
       refine nEq (x:=((j2-1:Nat):Int)) (by rw[aA (by omega) (by omega)];omega) ?_
       refine aK (j2-1) (by omega) (by omega) ?_
       refine rdI (by omega) ?_
       refine aK (j2) (by omega) (by omega) ?_
       refine rdI (by omega) ?_
       refine aK (j2) (by omega) (by omega) ?_
       refine wrI (by omega) ?_
       refine aK (j2-1) (by omega) (by omega) ?_
       refine wrI (by simp;omega) ?_
       refine nEq (x:=((j2+1:Nat):Int)) (by rw[aA (by omega) (by omega)];omega) ?_
       exact⟨(j2+1,swp d5 j2 (j2-1)),⟨by dsimp only;omega,by dsimp only;omega,by dsimp only;rw[Go.Sort.swp_size];exact hs5,hE⟩,by dsimp only;omega,⟨⟨rfl,rfl,rfl,rfl,rfl,rfl,trivial⟩,trivial,rfl,rfl⟩⟩
     ·rw [if_neg (by omega)] at hE
      obtain rfl:=hE
      refine nEq (x:=5-(t:Int)) (by rw[aA (by omega) (by omega)];omega) ?_
      exact⟨(t,i',d5),⟨by dsimp only;omega,by dsimp only;omega,by dsimp only;omega,hs5,hR⟩,by dsimp only;omega,⟨⟨rfl,rfl,rfl,rfl,rfl,trivial⟩,trivial,rfl,rfl⟩⟩
    ·rw [if_neg (by omega)] at hR
     refine nEq (x:=5-(t:Int)) (by rw[aA (by omega) (by omega)];omega) ?_
     exact⟨(t,i',d3),⟨by dsimp only;omega,by dsimp only;omega,by dsimp only;omega,hs3,hR⟩,by dsimp only;omega,⟨⟨rfl,rfl,rfl,rfl,rfl,trivial⟩,trivial,rfl,rfl⟩⟩
   ·rw [if_neg (by simp only [hl2]; simp)] at hD
    refine nEq (x:=((k:Nat):Int)) (by rw[aA (by omega) (by omega)];omega) ?_
    refine nEq (x:=((k:Nat):Int)) (by rw[aA (by omega) (by omega)];omega) ?_
    refine aK (k) (by omega) (by omega) ?_
    refine rdI (by omega) ?_
    refine aK (k+1) (by omega) (by omega) ?_
    refine rdI (by omega) ?_
    refine aK (k+1) (by omega) (by omega) ?_
    refine wrI (by omega) ?_
    refine aK (k) (by omega) (by omega) ?_
    refine wrI (by simp;omega) ?_
    refine nEq (x:=((k:Nat):Int)) (by rw[aA (by omega) (by omega)];omega) ?_
    exact⟨(k,swp d3 (k+1) k),⟨by dsimp only;omega,by dsimp only;rw[Go.Sort.swp_size];exact hs3,hD⟩,by dsimp only;omega,⟨⟨rfl,rfl,rfl,rfl,rfl,rfl,trivial⟩,trivial,rfl,rfl⟩⟩
  ·obtain rfl : j = 0 := by omega
   have hD:d3=D2:=hD
   obtain rfl:=hD
   refine nEq (x:=((b-i':Nat):Int)) (by rw[aA (by omega) (by omega)];omega) ?_
   unfold fixUp at hR
   refine ifd (fun hu2=>?_) (fun hu2=>?_)
   ·rw [if_pos (by omega)] at hR
    refine nEq (x:=((i'+1:Nat):Int)) (by rw[aA (by omega) (by omega)];omega) ?_
    generalize hE:shiftUp ltInt b (i'+1) d3=D4 at*
    refine lIn (fun p:Nat×Array Int=>i'+1≤p.1∧p.1≤b+1∧p.2.size=n∧shiftUp ltInt b p.1 p.2=D4) (fun(j,d)=>⟨[(0,.val (.slice (some ⟨r,0,none⟩) n cap)),(1,.val (.int .i64 a)),(2,.val (.int .i64 b)),(7,.val (.int .i64 i')),(8,.val (.int .i64 (5-((t+1:Nat):Int)))),(10,.val (.int .i64 j))],[],0,μ,aY h0 r ty rest d⟩) (fun p=>b-p.1)
     (i'+1,d3) ⟨by dsimp only;omega,by dsimp only;omega,hs3,hE⟩ (fun(_,_)=>⟨rfl,rfl⟩) ⟨⟨rfl,rfl,rfl,rfl,rfl,rfl,trivial⟩,trivial,rfl,rfl⟩ ?_
    clear hE
    rintro⟨j2,d5⟩ ⟨hj2,hjb2,hs5,hE⟩
    dsimp only at hj2 hjb2 hs5 hE
    rw[shiftUp]at hE
    refine ifd (fun hj1=>?_) (fun hj1=>?_)
    ·rw [if_pos (by omega)] at hE
     refine aK (j2) (by omega) (by omega) ?_
     refine rdI (by omega) ?_
     refine nEq (x:=((j2-1:Nat):Int)) (by rw[aA (by omega) (by omega)];omega) ?_
     refine aK (j2-1) (by omega) (by omega) ?_
     refine rdI (by omega) ?_
     refine cGv (aV _ _) ?_
     refine iIn (fun hl3=>?_) (fun hl3=>?_)
     ·rw [if_pos hl3] at hE
      obtain rfl:=hE
      refine nEq (x:=5-(t:Int)) (by rw[aA (by omega) (by omega)];omega) ?_
      exact⟨(t,i',d5),⟨by dsimp only;omega,by dsimp only;omega,by dsimp only;omega,hs5,hR⟩,by dsimp only;omega,⟨⟨rfl,rfl,rfl,rfl,rfl,trivial⟩,trivial,rfl,rfl⟩⟩
     ·rw [if_neg (by simp only [hl3]; simp)] at hE
      refine nEq (x:=((j2-1:Nat):Int)) (by rw[aA (by omega) (by omega)];omega) ?_
      refine nEq (x:=((j2-1:Nat):Int)) (by rw[aA (by omega) (by omega)];omega) ?_
      refine aK (j2-1) (by omega) (by omega) ?_
      refine rdI (by omega) ?_
      refine aK (j2) (by omega) (by omega) ?_
      refine rdI (by omega) ?_
      refine aK (j2) (by omega) (by omega) ?_
      refine wrI (by omega) ?_
      refine aK (j2-1) (by omega) (by omega) ?_
      refine wrI (by simp;omega) ?_
      refine nEq (x:=((j2+1:Nat):Int)) (by rw[aA (by omega) (by omega)];omega) ?_
      exact⟨(j2+1,swp d5 j2 (j2-1)),⟨by dsimp only;omega,by dsimp only;omega,by dsimp only;rw[Go.Sort.swp_size];exact hs5,hE⟩,by dsimp only;omega,⟨⟨rfl,rfl,rfl,rfl,rfl,rfl,trivial⟩,trivial,rfl,rfl⟩⟩
    ·rw [if_neg (by omega)] at hE
     obtain rfl:=hE
     refine nEq (x:=5-(t:Int)) (by rw[aA (by omega) (by omega)];omega) ?_
     exact⟨(t,i',d5),⟨by dsimp only;omega,by dsimp only;omega,by dsimp only;omega,hs5,hR⟩,by dsimp only;omega,⟨⟨rfl,rfl,rfl,rfl,rfl,trivial⟩,trivial,rfl,rfl⟩⟩
   ·rw [if_neg (by omega)] at hR
    refine nEq (x:=5-(t:Int)) (by rw[aA (by omega) (by omega)];omega) ?_
    exact⟨(t,i',d3),⟨by dsimp only;omega,by dsimp only;omega,by dsimp only;omega,hs3,hR⟩,by dsimp only;omega,⟨⟨rfl,rfl,rfl,rfl,rfl,trivial⟩,trivial,rfl,rfl⟩⟩
 ·rw [if_neg (by omega)] at hR
  refine nEq (x:=((b-i':Nat):Int)) (by rw[aA (by omega) (by omega)];omega) ?_
  unfold fixUp at hR
  refine ifd (fun hu2=>?_) (fun hu2=>?_)
  ·rw [if_pos (by omega)] at hR
   refine nEq (x:=((i'+1:Nat):Int)) (by rw[aA (by omega) (by omega)];omega) ?_
   generalize hE:shiftUp ltInt b (i'+1) d2=D4 at*
   refine lIn (fun p:Nat×Array Int=>i'+1≤p.1∧p.1≤b+1∧p.2.size=n∧shiftUp ltInt b p.1 p.2=D4) (fun(j,d)=>⟨[(0,.val (.slice (some ⟨r,0,none⟩) n cap)),(1,.val (.int .i64 a)),(2,.val (.int .i64 b)),(7,.val (.int .i64 i')),(8,.val (.int .i64 (5-((t+1:Nat):Int)))),(10,.val (.int .i64 j))],[],0,μ,aY h0 r ty rest d⟩) (fun p=>b-p.1)
    (i'+1,d2) ⟨by dsimp only;omega,by dsimp only;omega,hs2,hE⟩ (fun(_,_)=>⟨rfl,rfl⟩) ⟨⟨rfl,rfl,rfl,rfl,rfl,rfl,trivial⟩,trivial,rfl,rfl⟩ ?_
   clear hE
   rintro⟨j2,d5⟩ ⟨hj2,hjb2,hs5,hE⟩
   dsimp only at hj2 hjb2 hs5 hE
   rw[shiftUp]at hE
   refine ifd (fun hj1=>?_) (fun hj1=>?_)
   ·rw [if_pos (by omega)] at hE
    refine aK (j2) (by omega) (by omega) ?_
    refine rdI (by omega) ?_
    refine nEq (x:=((j2-1:Nat):Int)) (by rw[aA (by omega) (by omega)];omega) ?_
    refine aK (j2-1) (by omega) (by omega) ?_
    refine rdI (by omega) ?_
    refine cGv (aV _ _) ?_
    refine iIn (fun hl3=>?_) (fun hl3=>?_)
    ·rw [if_pos hl3] at hE
     obtain rfl:=hE
     refine nEq (x:=5-(t:Int)) (by rw[aA (by omega) (by omega)];omega) ?_
     exact⟨(t,i',d5),⟨by dsimp only;omega,by dsimp only;omega,by dsimp only;omega,hs5,hR⟩,by dsimp only;omega,⟨⟨rfl,rfl,rfl,rfl,rfl,trivial⟩,trivial,rfl,rfl⟩⟩
    ·rw [if_neg (by simp only [hl3]; simp)] at hE
     refine nEq (x:=((j2-1:Nat):Int)) (by rw[aA (by omega) (by omega)];omega) ?_
     refine nEq (x:=((j2-1:Nat):Int)) (by rw[aA (by omega) (by omega)];omega) ?_
     refine aK (j2-1) (by omega) (by omega) ?_
     refine rdI (by omega) ?_
     refine aK (j2) (by omega) (by omega) ?_
     refine rdI (by omega) ?_
     refine aK (j2) (by omega) (by omega) ?_
     refine wrI (by omega) ?_
     refine aK (j2-1) (by omega) (by omega) ?_
     refine wrI (by simp;omega) ?_
     refine nEq (x:=((j2+1:Nat):Int)) (by rw[aA (by omega) (by omega)];omega) ?_
     exact⟨(j2+1,swp d5 j2 (j2-1)),⟨by dsimp only;omega,by dsimp only;omega,by dsimp only;rw[Go.Sort.swp_size];exact hs5,hE⟩,by dsimp only;omega,⟨⟨rfl,rfl,rfl,rfl,rfl,rfl,trivial⟩,trivial,rfl,rfl⟩⟩
   ·rw [if_neg (by omega)] at hE
    obtain rfl:=hE
    refine nEq (x:=5-(t:Int)) (by rw[aA (by omega) (by omega)];omega) ?_
    exact⟨(t,i',d5),⟨by dsimp only;omega,by dsimp only;omega,by dsimp only;omega,hs5,hR⟩,by dsimp only;omega,⟨⟨rfl,rfl,rfl,rfl,rfl,trivial⟩,trivial,rfl,rfl⟩⟩
  ·rw [if_neg (by omega)] at hR
   refine nEq (x:=5-(t:Int)) (by rw[aA (by omega) (by omega)];omega) ?_
   exact⟨(t,i',d2),⟨by dsimp only;omega,by dsimp only;omega,by dsimp only;omega,hs2,hR⟩,by dsimp only;omega,⟨⟨rfl,rfl,rfl,rfl,rfl,trivial⟩,trivial,rfl,rfl⟩⟩
end
end Go.Vx
namespace Go.Vx
open Go.Proofs Classical
open Go.Sort
section
variable {h0:Mem} {r:Nat} {ty:TypeId} {rest:List Value}
set_option maxHeartbeats 16000000 in
theorem qAu{n cap:Nat}(hr:h0 r=none)(hn:n≤1000000000000):∀(m:Nat) (a b limit:Nat) (d:Array Int) (μ:Mem),b-a<m→a≤b→b≤n→d.size=n→limit≤64→Below ltInt a b d→
  SpecH Tryz.prog 162 [.slice (some ⟨r,0,none⟩) n cap,.int .i64 a,.int .i64 b,.int .i64 limit] μ (aY h0 r ty rest d) fun v _μ' h'=>v= .tuple #[]∧∃d',PermIn a b d d'∧SortedIn ltInt a b d'∧h'=aY h0 r ty rest d':=by
 intro m
 induction m with
 |zero=>intro a b limit d μ h;omega
 |succ m ih=>
 intro a0 b0 limit0 d0 μ hm hab0 hb0 hd0 hl0 hB0
 refine SpecH.mk [] Tryz.func162 (by kernel_rfl) ?_
 refine lIn (fun p:Nat×Nat×Nat×Bool×Bool×Array Int×Mem=>p.1≤p.2.1∧p.2.1≤n∧p.2.1-p.1≤b0-a0∧p.2.2.1≤64∧p.2.2.2.2.2.1.size=n∧Below ltInt p.1 p.2.1 p.2.2.2.2.2.1∧μ.Le p.2.2.2.2.2.2∧∀R,PermIn p.1 p.2.1 p.2.2.2.2.2.1 R→SortedIn ltInt p.1 p.2.1 R→PermIn a0 b0 d0 R∧SortedIn ltInt a0 b0 R)
  (fun(a,b,limit,wb,wp,d,μ')=>⟨[(0,.val (.slice (some ⟨r,0,none⟩) n cap)),(1,.val (.int .i64 a)),(2,.val (.int .i64 b)),(3,.val (.int .i64 limit)),(8,.val (.bool wb)),(9,.val (.bool wp))],[],0,μ',aY h0 r ty rest d⟩) (fun p=>p.2.1-p.1)
  (a0,b0,limit0,true,true,d0,μ) ⟨hab0,hb0,Nat.le_refl _,hl0,hd0,hB0,Mem.Le.refl _,fun R h1 h2=>⟨h1,h2⟩⟩ (fun(_,_,_,_,_,_,_)=>⟨rfl,rfl⟩) ⟨⟨rfl,rfl,rfl,rfl,rfl,rfl,trivial⟩,trivial,rfl,rfl⟩ ?_
 rintro⟨a,b,limit,wb,wp,d,μ1⟩ ⟨hab,hb,hlen,hlim,hs,hB,hle,hfin⟩
 dsimp only at hab hb hlen hlim hs hB hle hfin
 refine nEq (x:=((b-a:Nat):Int)) (by rw[aA (by omega) (by omega)];omega) ?_
 refine ifd (fun h12=>?_) (fun h12=>?_)
 ·refine cOw (oI hs hab hb hn) fun v μ' h' hle' hap hR => ?_
  obtain⟨rfl,e1,rfl⟩:=hR
  have q:=insertionSort_holds (lt:=ltInt) swo_ltInt d a b hab (by omega)
  exact rPl ⟨rfl,_,(hfin _ q.1 q.2).1,(hfin _ q.1 q.2).2,rfl⟩
 refine ifd (fun hl=>?_) (fun hl=>?_)
 ·refine cOw (xP hs (by omega) hb hn) fun v μ' h' hle' hap hR => ?_
  obtain⟨rfl,e1,rfl⟩:=hR
  have q:=heapSort_holds (lt:=ltInt) swo_ltInt d a b hab (by omega)
  exact rPl ⟨rfl,_,(hfin _ q.1 q.2).1,(hfin _ q.1 q.2).2,rfl⟩
 cases wb with
 |false=>
  refine iIn (fun _=>?_) (fun h=>nomatch h)
  refine cOw (oH hr hs (by omega) hb hn) fun v μ2 h' hle' hap hR=>?_
  obtain⟨rfl,d1,p1,rfl⟩:=hR
  replace hB:=hB.perm (by omega) p1
  replace hfin:=fun R h1 h2=>hfin R (permIn_trans _ _ _ _ _ p1 h1) h2
  have hs1:d1.size=n:=p1.1.trans hs
  replace hle:=hle.trans hle'
  clear hs p1 hle'
  refine nEq (x:=((limit-1:Nat):Int)) (by rw[aA (by omega) (by omega)];omega) ?_
  refine cOw (jT hr hs1 (by omega) hb hn) fun v μ3 h' hle' hap hR=>?_
  obtain⟨p,k,hp1,hp2,hk,rfl,rfl⟩:=hR
  replace hle:=hle.trans hle'
  clear hle' hap
  refine ifd (fun hk2=>?_) (fun hk2=>?_)
  ·refine cOw (iX hs1 (by omega) hab hb hn) fun v μ4 h' hle' hap hR => ?_
   obtain⟨rfl,e1,rfl⟩:=hR
   obtain rfl:=e1.symm
   clear hle' hap
   have p2:=reverseRange_holds d1 a b hab (by omega)
   generalize reverseRange d1 a b=d2 at*
   replace hB:=hB.perm (by omega) p2
   replace hfin:=fun R h1 h2=>hfin R (permIn_trans _ _ _ _ _ p2 h1) h2
   have hs2:d2.size=n:=p2.1.trans hs1
   clear p2
   refine nEq (x:=((b-1:Nat):Int)) (by rw[aA (by omega) (by omega)];omega) ?_
   refine nEq (x:=((p-a:Nat):Int)) (by rw[aA (by omega) (by omega)];omega) ?_
   refine nEq (x:=(((b-1)-(p-a):Nat):Int)) (by rw[aA (by omega) (by omega)];omega) ?_
   refine iIn (fun h=>nomatch h) (fun _=>?_)
   refine ifd (fun ha0=>?_) (fun ha0=>?_)
   ·refine nEq (x := ((a - 1 : Nat) : Int)) (by rw [aA (by omega) (by omega)]; omega) ?_
    refine aK (a-1) (by omega) (by omega) ?_
    refine rdI (by omega) ?_
    refine aK ((b-1)-(p-a)) (by omega) (by omega) ?_
    refine rdI (by omega) ?_
    refine cGv (aV _ _) ?_
    refine iIn (fun hnl=>?_) (fun hnl=>?_)
    ·refine cOw (bF (pivot := (b - 1) - (p - a)) hs2 (by omega) (by omega) hb hn) fun v μ6 h' hle' hap hR => ?_
     obtain⟨rfl,e1,rfl⟩:=hR
     obtain rfl:=e1.symm
     obtain⟨mid,d4,hx⟩:∃mid d4,partitionEqual ltInt d2 a b ((b-1)-(p-a))=(mid,d4):=⟨_,_,rfl⟩
     rw[hx]
     have q:=round_eq swo_ltInt (partitionEqual_holds ltInt) (by omega) (by omega) (by omega) (by omega) hB (by simpa using hnl) hx
     have qa:=q.1
     exact⟨(mid,b,limit-1,false,wp,d4,_),⟨q.2.1,hb,by dsimp only;omega,by dsimp only;omega,q.2.2.1.trans hs2,q.2.2.2.1,hle,fun R h1 h2=>hfin R (q.2.2.2.2 R h1 h2).1 (q.2.2.2.2 R h1 h2).2⟩,by dsimp only;omega,⟨⟨rfl,rfl,rfl,rfl,rfl,rfl,trivial⟩,trivial,rfl,rfl⟩⟩
    ·refine cOw (aU (pivot := (b - 1) - (p - a)) hs2 (by omega) (by omega) hb hn) fun v μ6 h' hle' hap hR => ?_
     obtain⟨⟨ap,rfl⟩,e1,rfl⟩:=hR
     obtain rfl:=e1.symm
     obtain⟨mid,ap',d4,hx⟩:∃mid ap' d4,partition ltInt d2 a b ((b-1)-(p-a))=(mid,ap',d4):=⟨_,_,_,rfl⟩
     rw[hx]
     have w_:=round_part swo_ltInt (partition_holds ltInt) (by omega) (by omega) (by omega) hB hx
     obtain⟨q1,q2,q3,q4,q5,q6,q7⟩:=w_
     refine nEq (x:=((mid-a:Nat):Int)) (by rw[aA (by omega) (by omega)];omega) ?_
     refine nEq (x:=((b-mid:Nat):Int)) (by rw[aA (by omega) (by omega)];omega) ?_
     refine aD (by decide) ?_
     refine nEq (x:=(((b-a) / 8:Nat):Int)) (by rw[Int.tdiv_eq_ediv_of_nonneg (by omega),aA (by omega) (by omega)];omega) ?_
     refine ifd (fun hlt=>?_) (fun hlt=>?_)
     ·refine cOw (ih a mid (limit - 1) d4 _ (by omega) (by omega) (by omega) (q3.trans hs2) (by omega) q4) fun v μ7 h' hle7 hap hR => ?_
      obtain⟨rfl,L,g1,g2,rfl⟩:=hR
      have w_:=q6 L g1 g2
      obtain⟨g3,g4⟩:=w_
      refine nEq (x:=((mid+1:Nat):Int)) (by rw[aA (by omega) (by omega)];omega) ?_
      exact⟨(mid+1,b,limit-1,_,ap,L,μ7),⟨by dsimp only;omega,hb,by dsimp only;omega,by dsimp only;omega,g1.1.trans (q3.trans hs2),g3,hle.trans hle7,fun R h1 h2=>hfin R (g4 R h1 h2).1 (g4 R h1 h2).2⟩,by dsimp only;omega,⟨⟨rfl,rfl,rfl,rfl,rfl,rfl,trivial⟩,trivial,rfl,rfl⟩⟩
     ·refine nEq (x := ((mid + 1 : Nat) : Int)) (by rw [aA (by omega) (by omega)]; omega) ?_
      refine cOw (ih (mid+1) b (limit-1) d4 _ (by omega) (by omega) (by omega) (q3.trans hs2) (by omega) q5) fun v μ7 h' hle7 hap hR=>?_
      obtain⟨rfl,L,g1,g2,rfl⟩:=hR
      have w_:=q7 L g1 g2
      obtain⟨g3,g4⟩:=w_
      exact⟨(a,mid,limit-1,_,ap,L,μ7),⟨by dsimp only;omega,by dsimp only;omega,by dsimp only;omega,by dsimp only;omega,g1.1.trans (q3.trans hs2),g3,hle.trans hle7,fun R h1 h2=>hfin R (g4 R h1 h2).1 (g4 R h1 h2).2⟩,by dsimp only;omega,⟨⟨rfl,rfl,rfl,rfl,rfl,rfl,trivial⟩,trivial,rfl,rfl⟩⟩
   ·refine cOw (aU (pivot := (b - 1) - (p - a)) hs2 (by omega) (by omega) hb hn) fun v μ6 h' hle' hap hR => ?_
    obtain⟨⟨ap,rfl⟩,e1,rfl⟩:=hR
    obtain rfl:=e1.symm
    obtain⟨mid,ap',d4,hx⟩:∃mid ap' d4,partition ltInt d2 a b ((b-1)-(p-a))=(mid,ap',d4):=⟨_,_,_,rfl⟩
    rw[hx]
    have w_:=round_part swo_ltInt (partition_holds ltInt) (by omega) (by omega) (by omega) hB hx
    obtain⟨q1,q2,q3,q4,q5,q6,q7⟩:=w_
    refine nEq (x:=((mid-a:Nat):Int)) (by rw[aA (by omega) (by omega)];omega) ?_
    refine nEq (x:=((b-mid:Nat):Int)) (by rw[aA (by omega) (by omega)];omega) ?_
    refine aD (by decide) ?_
    refine nEq (x:=(((b-a) / 8:Nat):Int)) (by rw[Int.tdiv_eq_ediv_of_nonneg (by omega),aA (by omega) (by omega)];omega) ?_
    refine ifd (fun hlt=>?_) (fun hlt=>?_)
    ·refine cOw (ih a mid (limit - 1) d4 _ (by omega) (by omega) (by omega) (q3.trans hs2) (by omega) q4) fun v μ7 h' hle7 hap hR => ?_
     obtain⟨rfl,L,g1,g2,rfl⟩:=hR
     have w_:=q6 L g1 g2
     obtain⟨g3,g4⟩:=w_
     refine nEq (x:=((mid+1:Nat):Int)) (by rw[aA (by omega) (by omega)];omega) ?_
     exact⟨(mid+1,b,limit-1,_,ap,L,μ7),⟨by dsimp only;omega,hb,by dsimp only;omega,by dsimp only;omega,g1.1.trans (q3.trans hs2),g3,hle.trans hle7,fun R h1 h2=>hfin R (g4 R h1 h2).1 (g4 R h1 h2).2⟩,by dsimp only;omega,⟨⟨rfl,rfl,rfl,rfl,rfl,rfl,trivial⟩,trivial,rfl,rfl⟩⟩
    ·refine nEq (x := ((mid + 1 : Nat) : Int)) (by rw [aA (by omega) (by omega)]; omega) ?_
     refine cOw (ih (mid+1) b (limit-1) d4 _ (by omega) (by omega) (by omega) (q3.trans hs2) (by omega) q5) fun v μ7 h' hle7 hap hR=>?_
     obtain⟨rfl,L,g1,g2,rfl⟩:=hR
     have w_:=q7 L g1 g2
     obtain⟨g3,g4⟩:=w_
     exact⟨(a,mid,limit-1,_,ap,L,μ7),⟨by dsimp only;omega,by dsimp only;omega,by dsimp only;omega,by dsimp only;omega,g1.1.trans (q3.trans hs2),g3,hle.trans hle7,fun R h1 h2=>hfin R (g4 R h1 h2).1 (g4 R h1 h2).2⟩,by dsimp only;omega,⟨⟨rfl,rfl,rfl,rfl,rfl,rfl,trivial⟩,trivial,rfl,rfl⟩⟩
  ·refine iIn (fun h => nomatch h) (fun _ => ?_)
   refine ifd (fun ha0=>?_) (fun ha0=>?_)
   ·refine nEq (x := ((a - 1 : Nat) : Int)) (by rw [aA (by omega) (by omega)]; omega) ?_
    refine aK (a-1) (by omega) (by omega) ?_
    refine rdI (by omega) ?_
    refine aK (p) (by omega) (by omega) ?_
    refine rdI (by omega) ?_
    refine cGv (aV _ _) ?_
    refine iIn (fun hnl=>?_) (fun hnl=>?_)
    ·refine cOw (bF (pivot := p) hs1 (by omega) (by omega) hb hn) fun v μ6 h' hle' hap hR => ?_
     obtain⟨rfl,e1,rfl⟩:=hR
     obtain rfl:=e1.symm
     obtain⟨mid,d4,hx⟩:∃mid d4,partitionEqual ltInt d1 a b (p)=(mid,d4):=⟨_,_,rfl⟩
     rw[hx]
     have q:=round_eq swo_ltInt (partitionEqual_holds ltInt) (by omega) (by omega) (by omega) (by omega) hB (by simpa using hnl) hx
     have qa:=q.1
     exact⟨(mid,b,limit-1,false,wp,d4,_),⟨q.2.1,hb,by dsimp only;omega,by dsimp only;omega,q.2.2.1.trans hs1,q.2.2.2.1,hle,fun R h1 h2=>hfin R (q.2.2.2.2 R h1 h2).1 (q.2.2.2.2 R h1 h2).2⟩,by dsimp only;omega,⟨⟨rfl,rfl,rfl,rfl,rfl,rfl,trivial⟩,trivial,rfl,rfl⟩⟩
    ·refine cOw (aU (pivot := p) hs1 (by omega) (by omega) hb hn) fun v μ6 h' hle' hap hR => ?_
     obtain⟨⟨ap,rfl⟩,e1,rfl⟩:=hR
     obtain rfl:=e1.symm
     obtain⟨mid,ap',d4,hx⟩:∃mid ap' d4,partition ltInt d1 a b (p)=(mid,ap',d4):=⟨_,_,_,rfl⟩
     rw[hx]
     have w_:=round_part swo_ltInt (partition_holds ltInt) (by omega) (by omega) (by omega) hB hx
     obtain⟨q1,q2,q3,q4,q5,q6,q7⟩:=w_
     refine nEq (x:=((mid-a:Nat):Int)) (by rw[aA (by omega) (by omega)];omega) ?_
     refine nEq (x:=((b-mid:Nat):Int)) (by rw[aA (by omega) (by omega)];omega) ?_
     refine aD (by decide) ?_
     refine nEq (x:=(((b-a) / 8:Nat):Int)) (by rw[Int.tdiv_eq_ediv_of_nonneg (by omega),aA (by omega) (by omega)];omega) ?_
     refine ifd (fun hlt=>?_) (fun hlt=>?_)
     ·refine cOw (ih a mid (limit - 1) d4 _ (by omega) (by omega) (by omega) (q3.trans hs1) (by omega) q4) fun v μ7 h' hle7 hap hR => ?_
      obtain⟨rfl,L,g1,g2,rfl⟩:=hR
      have w_:=q6 L g1 g2
      obtain⟨g3,g4⟩:=w_
      refine nEq (x:=((mid+1:Nat):Int)) (by rw[aA (by omega) (by omega)];omega) ?_
      exact⟨(mid+1,b,limit-1,_,ap,L,μ7),⟨by dsimp only;omega,hb,by dsimp only;omega,by dsimp only;omega,g1.1.trans (q3.trans hs1),g3,hle.trans hle7,fun R h1 h2=>hfin R (g4 R h1 h2).1 (g4 R h1 h2).2⟩,by dsimp only;omega,⟨⟨rfl,rfl,rfl,rfl,rfl,rfl,trivial⟩,trivial,rfl,rfl⟩⟩
     ·refine nEq (x := ((mid + 1 : Nat) : Int)) (by rw [aA (by omega) (by omega)]; omega) ?_
      refine cOw (ih (mid+1) b (limit-1) d4 _ (by omega) (by omega) (by omega) (q3.trans hs1) (by omega) q5) fun v μ7 h' hle7 hap hR=>?_
      obtain⟨rfl,L,g1,g2,rfl⟩:=hR
      have w_:=q7 L g1 g2
      obtain⟨g3,g4⟩:=w_
      exact⟨(a,mid,limit-1,_,ap,L,μ7),⟨by dsimp only;omega,by dsimp only;omega,by dsimp only;omega,by dsimp only;omega,g1.1.trans (q3.trans hs1),g3,hle.trans hle7,fun R h1 h2=>hfin R (g4 R h1 h2).1 (g4 R h1 h2).2⟩,by dsimp only;omega,⟨⟨rfl,rfl,rfl,rfl,rfl,rfl,trivial⟩,trivial,rfl,rfl⟩⟩
   ·refine cOw (aU (pivot := p) hs1 (by omega) (by omega) hb hn) fun v μ6 h' hle' hap hR => ?_
    obtain⟨⟨ap,rfl⟩,e1,rfl⟩:=hR
    obtain rfl:=e1.symm
    obtain⟨mid,ap',d4,hx⟩:∃mid ap' d4,partition ltInt d1 a b (p)=(mid,ap',d4):=⟨_,_,_,rfl⟩
    rw[hx]
    have w_:=round_part swo_ltInt (partition_holds ltInt) (by omega) (by omega) (by omega) hB hx
    obtain⟨q1,q2,q3,q4,q5,q6,q7⟩:=w_
    refine nEq (x:=((mid-a:Nat):Int)) (by rw[aA (by omega) (by omega)];omega) ?_
    refine nEq (x:=((b-mid:Nat):Int)) (by rw[aA (by omega) (by omega)];omega) ?_
    refine aD (by decide) ?_
    refine nEq (x:=(((b-a) / 8:Nat):Int)) (by rw[Int.tdiv_eq_ediv_of_nonneg (by omega),aA (by omega) (by omega)];omega) ?_
    refine ifd (fun hlt=>?_) (fun hlt=>?_)
    ·refine cOw (ih a mid (limit - 1) d4 _ (by omega) (by omega) (by omega) (q3.trans hs1) (by omega) q4) fun v μ7 h' hle7 hap hR => ?_
     obtain⟨rfl,L,g1,g2,rfl⟩:=hR
     have w_:=q6 L g1 g2
     obtain⟨g3,g4⟩:=w_
     refine nEq (x:=((mid+1:Nat):Int)) (by rw[aA (by omega) (by omega)];omega) ?_
     exact⟨(mid+1,b,limit-1,_,ap,L,μ7),⟨by dsimp only;omega,hb,by dsimp only;omega,by dsimp only;omega,g1.1.trans (q3.trans hs1),g3,hle.trans hle7,fun R h1 h2=>hfin R (g4 R h1 h2).1 (g4 R h1 h2).2⟩,by dsimp only;omega,⟨⟨rfl,rfl,rfl,rfl,rfl,rfl,trivial⟩,trivial,rfl,rfl⟩⟩
    ·refine nEq (x := ((mid + 1 : Nat) : Int)) (by rw [aA (by omega) (by omega)]; omega) ?_
     refine cOw (ih (mid+1) b (limit-1) d4 _ (by omega) (by omega) (by omega) (q3.trans hs1) (by omega) q5) fun v μ7 h' hle7 hap hR=>?_
     obtain⟨rfl,L,g1,g2,rfl⟩:=hR
     have w_:=q7 L g1 g2
     obtain⟨g3,g4⟩:=w_
     exact⟨(a,mid,limit-1,_,ap,L,μ7),⟨by dsimp only;omega,by dsimp only;omega,by dsimp only;omega,by dsimp only;omega,g1.1.trans (q3.trans hs1),g3,hle.trans hle7,fun R h1 h2=>hfin R (g4 R h1 h2).1 (g4 R h1 h2).2⟩,by dsimp only;omega,⟨⟨rfl,rfl,rfl,rfl,rfl,rfl,trivial⟩,trivial,rfl,rfl⟩⟩
 |true=>
  refine iIn (fun h=>nomatch h) (fun _=>?_)
  have hs1:=hs
  refine cOw (jT hr hs1 (by omega) hb hn) fun v μ3 h' hle' hap hR=>?_
  obtain⟨p,k,hp1,hp2,hk,rfl,rfl⟩:=hR
  replace hle:=hle.trans hle'
  clear hle' hap
  refine ifd (fun hk2=>?_) (fun hk2=>?_)
  ·refine cOw (iX hs1 (by omega) hab hb hn) fun v μ4 h' hle' hap hR => ?_
   obtain⟨rfl,e1,rfl⟩:=hR
   obtain rfl:=e1.symm
   clear hle' hap
   have p2:=reverseRange_holds d a b hab (by omega)
   generalize reverseRange d a b=d2 at*
   replace hB:=hB.perm (by omega) p2
   replace hfin:=fun R h1 h2=>hfin R (permIn_trans _ _ _ _ _ p2 h1) h2
   have hs2:d2.size=n:=p2.1.trans hs1
   clear p2
   refine nEq (x:=((b-1:Nat):Int)) (by rw[aA (by omega) (by omega)];omega) ?_
   refine nEq (x:=((p-a:Nat):Int)) (by rw[aA (by omega) (by omega)];omega) ?_
   refine nEq (x:=(((b-1)-(p-a):Nat):Int)) (by rw[aA (by omega) (by omega)];omega) ?_
   refine iIn (fun _=>?_) (fun h=>nomatch h)
   refine iIn (fun hwp=>?_) (fun hwp=>?_)
   ·refine ifd (fun _ => ?_) (fun h => absurd rfl h)
    refine cOw (eB hs2 (by omega) hb hn) fun v μ5 h' hle' hap hR=>?_
    obtain⟨rfl,e1,rfl⟩:=hR
    obtain rfl:=e1.symm
    clear hle' hap
    have q:=partialInsertionSort_holds (lt:=ltInt) swo_ltInt d2 a b (by omega) (by omega) hB
    refine iIn (fun hok=>?_) (fun hok=>?_)
    ·exact rPl ⟨rfl,_,(hfin _ q.1 (q.2 hok)).1,(hfin _ q.1 (q.2 hok)).2,rfl⟩
    ·have q1 := q.1
     clear q hok
     generalize (partialInsertionSort ltInt d2 a b).1=d3 at*
     replace hB:=hB.perm (by omega) q1
     replace hfin:=fun R h1 h2=>hfin R (permIn_trans _ _ _ _ _ q1 h1) h2
     have hs3:d3.size=n:=q1.1.trans hs2
     clear q1
     refine ifd (fun ha0=>?_) (fun ha0=>?_)
     ·refine nEq (x := ((a - 1 : Nat) : Int)) (by rw [aA (by omega) (by omega)]; omega) ?_
      refine aK (a-1) (by omega) (by omega) ?_
      refine rdI (by omega) ?_
      refine aK ((b-1)-(p-a)) (by omega) (by omega) ?_
      refine rdI (by omega) ?_
      refine cGv (aV _ _) ?_
      refine iIn (fun hnl=>?_) (fun hnl=>?_)
      ·refine cOw (bF (pivot := (b - 1) - (p - a)) hs3 (by omega) (by omega) hb hn) fun v μ6 h' hle' hap hR => ?_
       obtain⟨rfl,e1,rfl⟩:=hR
       obtain rfl:=e1.symm
       obtain⟨mid,d4,hx⟩:∃mid d4,partitionEqual ltInt d3 a b ((b-1)-(p-a))=(mid,d4):=⟨_,_,rfl⟩
       rw[hx]
       have q:=round_eq swo_ltInt (partitionEqual_holds ltInt) (by omega) (by omega) (by omega) (by omega) hB (by simpa using hnl) hx
       have qa:=q.1
       exact⟨(mid,b,limit,true,wp,d4,_),⟨q.2.1,hb,by dsimp only;omega,by dsimp only;omega,q.2.2.1.trans hs3,q.2.2.2.1,hle,fun R h1 h2=>hfin R (q.2.2.2.2 R h1 h2).1 (q.2.2.2.2 R h1 h2).2⟩,by dsimp only;omega,⟨⟨rfl,rfl,rfl,rfl,rfl,rfl,trivial⟩,trivial,rfl,rfl⟩⟩
      ·refine cOw (aU (pivot := (b - 1) - (p - a)) hs3 (by omega) (by omega) hb hn) fun v μ6 h' hle' hap hR => ?_
       obtain⟨⟨ap,rfl⟩,e1,rfl⟩:=hR
       obtain rfl:=e1.symm
       obtain⟨mid,ap',d4,hx⟩:∃mid ap' d4,partition ltInt d3 a b ((b-1)-(p-a))=(mid,ap',d4):=⟨_,_,_,rfl⟩
       rw[hx]
       have w_:=round_part swo_ltInt (partition_holds ltInt) (by omega) (by omega) (by omega) hB hx
       obtain⟨q1,q2,q3,q4,q5,q6,q7⟩:=w_
       refine nEq (x:=((mid-a:Nat):Int)) (by rw[aA (by omega) (by omega)];omega) ?_
       refine nEq (x:=((b-mid:Nat):Int)) (by rw[aA (by omega) (by omega)];omega) ?_
       refine aD (by decide) ?_
       refine nEq (x:=(((b-a) / 8:Nat):Int)) (by rw[Int.tdiv_eq_ediv_of_nonneg (by omega),aA (by omega) (by omega)];omega) ?_
       refine ifd (fun hlt=>?_) (fun hlt=>?_)
       ·refine cOw (ih a mid (limit) d4 _ (by omega) (by omega) (by omega) (q3.trans hs3) (by omega) q4) fun v μ7 h' hle7 hap hR => ?_
        obtain⟨rfl,L,g1,g2,rfl⟩:=hR
        have w_:=q6 L g1 g2
        obtain⟨g3,g4⟩:=w_
        refine nEq (x:=((mid+1:Nat):Int)) (by rw[aA (by omega) (by omega)];omega) ?_
        exact⟨(mid+1,b,limit,_,ap,L,μ7),⟨by dsimp only;omega,hb,by dsimp only;omega,by dsimp only;omega,g1.1.trans (q3.trans hs3),g3,hle.trans hle7,fun R h1 h2=>hfin R (g4 R h1 h2).1 (g4 R h1 h2).2⟩,by dsimp only;omega,⟨⟨rfl,rfl,rfl,rfl,rfl,rfl,trivial⟩,trivial,rfl,rfl⟩⟩
       ·refine nEq (x := ((mid + 1 : Nat) : Int)) (by rw [aA (by omega) (by omega)]; omega) ?_
        refine cOw (ih (mid+1) b (limit) d4 _ (by omega) (by omega) (by omega) (q3.trans hs3) (by omega) q5) fun v μ7 h' hle7 hap hR=>?_
        obtain⟨rfl,L,g1,g2,rfl⟩:=hR
        have w_:=q7 L g1 g2
        obtain⟨g3,g4⟩:=w_
        exact⟨(a,mid,limit,_,ap,L,μ7),⟨by dsimp only;omega,by dsimp only;omega,by dsimp only;omega,by dsimp only;omega,g1.1.trans (q3.trans hs3),g3,hle.trans hle7,fun R h1 h2=>hfin R (g4 R h1 h2).1 (g4 R h1 h2).2⟩,by dsimp only;omega,⟨⟨rfl,rfl,rfl,rfl,rfl,rfl,trivial⟩,trivial,rfl,rfl⟩⟩
     ·refine cOw (aU (pivot := (b - 1) - (p - a)) hs3 (by omega) (by omega) hb hn) fun v μ6 h' hle' hap hR => ?_
      obtain⟨⟨ap,rfl⟩,e1,rfl⟩:=hR
      obtain rfl:=e1.symm
      obtain⟨mid,ap',d4,hx⟩:∃mid ap' d4,partition ltInt d3 a b ((b-1)-(p-a))=(mid,ap',d4):=⟨_,_,_,rfl⟩
      rw[hx]
      have w_:=round_part swo_ltInt (partition_holds ltInt) (by omega) (by omega) (by omega) hB hx
      obtain⟨q1,q2,q3,q4,q5,q6,q7⟩:=w_
      refine nEq (x:=((mid-a:Nat):Int)) (by rw[aA (by omega) (by omega)];omega) ?_
      refine nEq (x:=((b-mid:Nat):Int)) (by rw[aA (by omega) (by omega)];omega) ?_
      refine aD (by decide) ?_
      refine nEq (x:=(((b-a) / 8:Nat):Int)) (by rw[Int.tdiv_eq_ediv_of_nonneg (by omega),aA (by omega) (by omega)];omega) ?_
      refine ifd (fun hlt=>?_) (fun hlt=>?_)
      ·refine cOw (ih a mid (limit) d4 _ (by omega) (by omega) (by omega) (q3.trans hs3) (by omega) q4) fun v μ7 h' hle7 hap hR => ?_
       obtain⟨rfl,L,g1,g2,rfl⟩:=hR
       have w_:=q6 L g1 g2
       obtain⟨g3,g4⟩:=w_
       refine nEq (x:=((mid+1:Nat):Int)) (by rw[aA (by omega) (by omega)];omega) ?_
       exact⟨(mid+1,b,limit,_,ap,L,μ7),⟨by dsimp only;omega,hb,by dsimp only;omega,by dsimp only;omega,g1.1.trans (q3.trans hs3),g3,hle.trans hle7,fun R h1 h2=>hfin R (g4 R h1 h2).1 (g4 R h1 h2).2⟩,by dsimp only;omega,⟨⟨rfl,rfl,rfl,rfl,rfl,rfl,trivial⟩,trivial,rfl,rfl⟩⟩
      ·refine nEq (x := ((mid + 1 : Nat) : Int)) (by rw [aA (by omega) (by omega)]; omega) ?_
       refine cOw (ih (mid+1) b (limit) d4 _ (by omega) (by omega) (by omega) (q3.trans hs3) (by omega) q5) fun v μ7 h' hle7 hap hR=>?_
       obtain⟨rfl,L,g1,g2,rfl⟩:=hR
       have w_:=q7 L g1 g2
       obtain⟨g3,g4⟩:=w_
       exact⟨(a,mid,limit,_,ap,L,μ7),⟨by dsimp only;omega,by dsimp only;omega,by dsimp only;omega,by dsimp only;omega,g1.1.trans (q3.trans hs3),g3,hle.trans hle7,fun R h1 h2=>hfin R (g4 R h1 h2).1 (g4 R h1 h2).2⟩,by dsimp only;omega,⟨⟨rfl,rfl,rfl,rfl,rfl,rfl,trivial⟩,trivial,rfl,rfl⟩⟩
   ·refine ifd (fun ha0 => ?_) (fun ha0 => ?_)
    ·refine nEq (x := ((a - 1 : Nat) : Int)) (by rw [aA (by omega) (by omega)]; omega) ?_
     refine aK (a-1) (by omega) (by omega) ?_
     refine rdI (by omega) ?_
     refine aK ((b-1)-(p-a)) (by omega) (by omega) ?_
     refine rdI (by omega) ?_
     refine cGv (aV _ _) ?_
     refine iIn (fun hnl=>?_) (fun hnl=>?_)
     ·refine cOw (bF (pivot := (b - 1) - (p - a)) hs2 (by omega) (by omega) hb hn) fun v μ6 h' hle' hap hR => ?_
      obtain⟨rfl,e1,rfl⟩:=hR
      obtain rfl:=e1.symm
      obtain⟨mid,d4,hx⟩:∃mid d4,partitionEqual ltInt d2 a b ((b-1)-(p-a))=(mid,d4):=⟨_,_,rfl⟩
      rw[hx]
      have q:=round_eq swo_ltInt (partitionEqual_holds ltInt) (by omega) (by omega) (by omega) (by omega) hB (by simpa using hnl) hx
      have qa:=q.1
      exact⟨(mid,b,limit,true,wp,d4,_),⟨q.2.1,hb,by dsimp only;omega,by dsimp only;omega,q.2.2.1.trans hs2,q.2.2.2.1,hle,fun R h1 h2=>hfin R (q.2.2.2.2 R h1 h2).1 (q.2.2.2.2 R h1 h2).2⟩,by dsimp only;omega,⟨⟨rfl,rfl,rfl,rfl,rfl,rfl,trivial⟩,trivial,rfl,rfl⟩⟩
     ·refine cOw (aU (pivot := (b - 1) - (p - a)) hs2 (by omega) (by omega) hb hn) fun v μ6 h' hle' hap hR => ?_
      obtain⟨⟨ap,rfl⟩,e1,rfl⟩:=hR
      obtain rfl:=e1.symm
      obtain⟨mid,ap',d4,hx⟩:∃mid ap' d4,partition ltInt d2 a b ((b-1)-(p-a))=(mid,ap',d4):=⟨_,_,_,rfl⟩
      rw[hx]
      have w_:=round_part swo_ltInt (partition_holds ltInt) (by omega) (by omega) (by omega) hB hx
      obtain⟨q1,q2,q3,q4,q5,q6,q7⟩:=w_
      refine nEq (x:=((mid-a:Nat):Int)) (by rw[aA (by omega) (by omega)];omega) ?_
      refine nEq (x:=((b-mid:Nat):Int)) (by rw[aA (by omega) (by omega)];omega) ?_
      refine aD (by decide) ?_
      refine nEq (x:=(((b-a) / 8:Nat):Int)) (by rw[Int.tdiv_eq_ediv_of_nonneg (by omega),aA (by omega) (by omega)];omega) ?_
      refine ifd (fun hlt=>?_) (fun hlt=>?_)
      ·refine cOw (ih a mid (limit) d4 _ (by omega) (by omega) (by omega) (q3.trans hs2) (by omega) q4) fun v μ7 h' hle7 hap hR => ?_
       obtain⟨rfl,L,g1,g2,rfl⟩:=hR
       have w_:=q6 L g1 g2
       obtain⟨g3,g4⟩:=w_
       refine nEq (x:=((mid+1:Nat):Int)) (by rw[aA (by omega) (by omega)];omega) ?_
       exact⟨(mid+1,b,limit,_,ap,L,μ7),⟨by dsimp only;omega,hb,by dsimp only;omega,by dsimp only;omega,g1.1.trans (q3.trans hs2),g3,hle.trans hle7,fun R h1 h2=>hfin R (g4 R h1 h2).1 (g4 R h1 h2).2⟩,by dsimp only;omega,⟨⟨rfl,rfl,rfl,rfl,rfl,rfl,trivial⟩,trivial,rfl,rfl⟩⟩
      ·refine nEq (x := ((mid + 1 : Nat) : Int)) (by rw [aA (by omega) (by omega)]; omega) ?_
       refine cOw (ih (mid+1) b (limit) d4 _ (by omega) (by omega) (by omega) (q3.trans hs2) (by omega) q5) fun v μ7 h' hle7 hap hR=>?_
       obtain⟨rfl,L,g1,g2,rfl⟩:=hR
       have w_:=q7 L g1 g2
       obtain⟨g3,g4⟩:=w_
       exact⟨(a,mid,limit,_,ap,L,μ7),⟨by dsimp only;omega,by dsimp only;omega,by dsimp only;omega,by dsimp only;omega,g1.1.trans (q3.trans hs2),g3,hle.trans hle7,fun R h1 h2=>hfin R (g4 R h1 h2).1 (g4 R h1 h2).2⟩,by dsimp only;omega,⟨⟨rfl,rfl,rfl,rfl,rfl,rfl,trivial⟩,trivial,rfl,rfl⟩⟩
    ·refine cOw (aU (pivot := (b - 1) - (p - a)) hs2 (by omega) (by omega) hb hn) fun v μ6 h' hle' hap hR => ?_
     obtain⟨⟨ap,rfl⟩,e1,rfl⟩:=hR
     obtain rfl:=e1.symm
     obtain⟨mid,ap',d4,hx⟩:∃mid ap' d4,partition ltInt d2 a b ((b-1)-(p-a))=(mid,ap',d4):=⟨_,_,_,rfl⟩
     rw[hx]
     have w_:=round_part swo_ltInt (partition_holds ltInt) (by omega) (by omega) (by omega) hB hx
     obtain⟨q1,q2,q3,q4,q5,q6,q7⟩:=w_
     refine nEq (x:=((mid-a:Nat):Int)) (by rw[aA (by omega) (by omega)];omega) ?_
     refine nEq (x:=((b-mid:Nat):Int)) (by rw[aA (by omega) (by omega)];omega) ?_
     refine aD (by decide) ?_
     refine nEq (x:=(((b-a) / 8:Nat):Int)) (by rw[Int.tdiv_eq_ediv_of_nonneg (by omega),aA (by omega) (by omega)];omega) ?_
     refine ifd (fun hlt=>?_) (fun hlt=>?_)
     ·refine cOw (ih a mid (limit) d4 _ (by omega) (by omega) (by omega) (q3.trans hs2) (by omega) q4) fun v μ7 h' hle7 hap hR => ?_
      obtain⟨rfl,L,g1,g2,rfl⟩:=hR
      have w_:=q6 L g1 g2
      obtain⟨g3,g4⟩:=w_
      refine nEq (x:=((mid+1:Nat):Int)) (by rw[aA (by omega) (by omega)];omega) ?_
      exact⟨(mid+1,b,limit,_,ap,L,μ7),⟨by dsimp only;omega,hb,by dsimp only;omega,by dsimp only;omega,g1.1.trans (q3.trans hs2),g3,hle.trans hle7,fun R h1 h2=>hfin R (g4 R h1 h2).1 (g4 R h1 h2).2⟩,by dsimp only;omega,⟨⟨rfl,rfl,rfl,rfl,rfl,rfl,trivial⟩,trivial,rfl,rfl⟩⟩
     ·refine nEq (x := ((mid + 1 : Nat) : Int)) (by rw [aA (by omega) (by omega)]; omega) ?_
      refine cOw (ih (mid+1) b (limit) d4 _ (by omega) (by omega) (by omega) (q3.trans hs2) (by omega) q5) fun v μ7 h' hle7 hap hR=>?_
      obtain⟨rfl,L,g1,g2,rfl⟩:=hR
      have w_:=q7 L g1 g2
      obtain⟨g3,g4⟩:=w_
      exact⟨(a,mid,limit,_,ap,L,μ7),⟨by dsimp only;omega,by dsimp only;omega,by dsimp only;omega,by dsimp only;omega,g1.1.trans (q3.trans hs2),g3,hle.trans hle7,fun R h1 h2=>hfin R (g4 R h1 h2).1 (g4 R h1 h2).2⟩,by dsimp only;omega,⟨⟨rfl,rfl,rfl,rfl,rfl,rfl,trivial⟩,trivial,rfl,rfl⟩⟩
  ·refine iIn (fun _ => ?_) (fun h => nomatch h)
   refine iIn (fun hwp=>?_) (fun hwp=>?_)
   ·refine ifd (fun hk1 => ?_) (fun hk1 => ?_)
    ·refine cOw (eB hs1 (by omega) hb hn) fun v μ5 h' hle' hap hR => ?_
     obtain⟨rfl,e1,rfl⟩:=hR
     obtain rfl:=e1.symm
     clear hle' hap
     have q:=partialInsertionSort_holds (lt:=ltInt) swo_ltInt d a b (by omega) (by omega) hB
     refine iIn (fun hok=>?_) (fun hok=>?_)
     ·exact rPl ⟨rfl,_,(hfin _ q.1 (q.2 hok)).1,(hfin _ q.1 (q.2 hok)).2,rfl⟩
     ·have q1 := q.1
      clear q hok
      generalize (partialInsertionSort ltInt d a b).1=d3 at*
      replace hB:=hB.perm (by omega) q1
      replace hfin:=fun R h1 h2=>hfin R (permIn_trans _ _ _ _ _ q1 h1) h2
      have hs3:d3.size=n:=q1.1.trans hs1
      clear q1
      refine ifd (fun ha0=>?_) (fun ha0=>?_)
      ·refine nEq (x := ((a - 1 : Nat) : Int)) (by rw [aA (by omega) (by omega)]; omega) ?_
       refine aK (a-1) (by omega) (by omega) ?_
       refine rdI (by omega) ?_
       refine aK (p) (by omega) (by omega) ?_
       refine rdI (by omega) ?_
       refine cGv (aV _ _) ?_
       refine iIn (fun hnl=>?_) (fun hnl=>?_)
       ·refine cOw (bF (pivot := p) hs3 (by omega) (by omega) hb hn) fun v μ6 h' hle' hap hR => ?_
        obtain⟨rfl,e1,rfl⟩:=hR
        obtain rfl:=e1.symm
        obtain⟨mid,d4,hx⟩:∃mid d4,partitionEqual ltInt d3 a b (p)=(mid,d4):=⟨_,_,rfl⟩
        rw[hx]
        have q:=round_eq swo_ltInt (partitionEqual_holds ltInt) (by omega) (by omega) (by omega) (by omega) hB (by simpa using hnl) hx
        have qa:=q.1
        exact⟨(mid,b,limit,true,wp,d4,_),⟨q.2.1,hb,by dsimp only;omega,by dsimp only;omega,q.2.2.1.trans hs3,q.2.2.2.1,hle,fun R h1 h2=>hfin R (q.2.2.2.2 R h1 h2).1 (q.2.2.2.2 R h1 h2).2⟩,by dsimp only;omega,⟨⟨rfl,rfl,rfl,rfl,rfl,rfl,trivial⟩,trivial,rfl,rfl⟩⟩
       ·refine cOw (aU (pivot := p) hs3 (by omega) (by omega) hb hn) fun v μ6 h' hle' hap hR => ?_
        obtain⟨⟨ap,rfl⟩,e1,rfl⟩:=hR
        obtain rfl:=e1.symm
        obtain⟨mid,ap',d4,hx⟩:∃mid ap' d4,partition ltInt d3 a b (p)=(mid,ap',d4):=⟨_,_,_,rfl⟩
        rw[hx]
        have w_:=round_part swo_ltInt (partition_holds ltInt) (by omega) (by omega) (by omega) hB hx
        obtain⟨q1,q2,q3,q4,q5,q6,q7⟩:=w_
        refine nEq (x:=((mid-a:Nat):Int)) (by rw[aA (by omega) (by omega)];omega) ?_
        refine nEq (x:=((b-mid:Nat):Int)) (by rw[aA (by omega) (by omega)];omega) ?_
        refine aD (by decide) ?_
        refine nEq (x:=(((b-a) / 8:Nat):Int)) (by rw[Int.tdiv_eq_ediv_of_nonneg (by omega),aA (by omega) (by omega)];omega) ?_
        refine ifd (fun hlt=>?_) (fun hlt=>?_)
        ·refine cOw (ih a mid (limit) d4 _ (by omega) (by omega) (by omega) (q3.trans hs3) (by omega) q4) fun v μ7 h' hle7 hap hR => ?_
         obtain⟨rfl,L,g1,g2,rfl⟩:=hR
         have w_:=q6 L g1 g2
         obtain⟨g3,g4⟩:=w_
         refine nEq (x:=((mid+1:Nat):Int)) (by rw[aA (by omega) (by omega)];omega) ?_
         exact⟨(mid+1,b,limit,_,ap,L,μ7),⟨by dsimp only;omega,hb,by dsimp only;omega,by dsimp only;omega,g1.1.trans (q3.trans hs3),g3,hle.trans hle7,fun R h1 h2=>hfin R (g4 R h1 h2).1 (g4 R h1 h2).2⟩,by dsimp only;omega,⟨⟨rfl,rfl,rfl,rfl,rfl,rfl,trivial⟩,trivial,rfl,rfl⟩⟩
        ·refine nEq (x := ((mid + 1 : Nat) : Int)) (by rw [aA (by omega) (by omega)]; omega) ?_
         refine cOw (ih (mid+1) b (limit) d4 _ (by omega) (by omega) (by omega) (q3.trans hs3) (by omega) q5) fun v μ7 h' hle7 hap hR=>?_
         obtain⟨rfl,L,g1,g2,rfl⟩:=hR
         have w_:=q7 L g1 g2
         obtain⟨g3,g4⟩:=w_
         exact⟨(a,mid,limit,_,ap,L,μ7),⟨by dsimp only;omega,by dsimp only;omega,by dsimp only;omega,by dsimp only;omega,g1.1.trans (q3.trans hs3),g3,hle.trans hle7,fun R h1 h2=>hfin R (g4 R h1 h2).1 (g4 R h1 h2).2⟩,by dsimp only;omega,⟨⟨rfl,rfl,rfl,rfl,rfl,rfl,trivial⟩,trivial,rfl,rfl⟩⟩
      ·refine cOw (aU (pivot := p) hs3 (by omega) (by omega) hb hn) fun v μ6 h' hle' hap hR => ?_
       obtain⟨⟨ap,rfl⟩,e1,rfl⟩:=hR
       obtain rfl:=e1.symm
       obtain⟨mid,ap',d4,hx⟩:∃mid ap' d4,partition ltInt d3 a b (p)=(mid,ap',d4):=⟨_,_,_,rfl⟩
       rw[hx]
       have w_:=round_part swo_ltInt (partition_holds ltInt) (by omega) (by omega) (by omega) hB hx
       obtain⟨q1,q2,q3,q4,q5,q6,q7⟩:=w_
       refine nEq (x:=((mid-a:Nat):Int)) (by rw[aA (by omega) (by omega)];omega) ?_
       refine nEq (x:=((b-mid:Nat):Int)) (by rw[aA (by omega) (by omega)];omega) ?_
       refine aD (by decide) ?_
       refine nEq (x:=(((b-a) / 8:Nat):Int)) (by rw[Int.tdiv_eq_ediv_of_nonneg (by omega),aA (by omega) (by omega)];omega) ?_
       refine ifd (fun hlt=>?_) (fun hlt=>?_)
       ·refine cOw (ih a mid (limit) d4 _ (by omega) (by omega) (by omega) (q3.trans hs3) (by omega) q4) fun v μ7 h' hle7 hap hR => ?_
        obtain⟨rfl,L,g1,g2,rfl⟩:=hR
        have w_:=q6 L g1 g2
        obtain⟨g3,g4⟩:=w_
        refine nEq (x:=((mid+1:Nat):Int)) (by rw[aA (by omega) (by omega)];omega) ?_
        exact⟨(mid+1,b,limit,_,ap,L,μ7),⟨by dsimp only;omega,hb,by dsimp only;omega,by dsimp only;omega,g1.1.trans (q3.trans hs3),g3,hle.trans hle7,fun R h1 h2=>hfin R (g4 R h1 h2).1 (g4 R h1 h2).2⟩,by dsimp only;omega,⟨⟨rfl,rfl,rfl,rfl,rfl,rfl,trivial⟩,trivial,rfl,rfl⟩⟩
       ·refine nEq (x := ((mid + 1 : Nat) : Int)) (by rw [aA (by omega) (by omega)]; omega) ?_
        refine cOw (ih (mid+1) b (limit) d4 _ (by omega) (by omega) (by omega) (q3.trans hs3) (by omega) q5) fun v μ7 h' hle7 hap hR=>?_
        obtain⟨rfl,L,g1,g2,rfl⟩:=hR
        have w_:=q7 L g1 g2
        obtain⟨g3,g4⟩:=w_
        exact⟨(a,mid,limit,_,ap,L,μ7),⟨by dsimp only;omega,by dsimp only;omega,by dsimp only;omega,by dsimp only;omega,g1.1.trans (q3.trans hs3),g3,hle.trans hle7,fun R h1 h2=>hfin R (g4 R h1 h2).1 (g4 R h1 h2).2⟩,by dsimp only;omega,⟨⟨rfl,rfl,rfl,rfl,rfl,rfl,trivial⟩,trivial,rfl,rfl⟩⟩
    ·refine ifd (fun ha0 => ?_) (fun ha0 => ?_)
     ·refine nEq (x := ((a - 1 : Nat) : Int)) (by rw [aA (by omega) (by omega)]; omega) ?_
      refine aK (a-1) (by omega) (by omega) ?_
      refine rdI (by omega) ?_
      refine aK (p) (by omega) (by omega) ?_
      refine rdI (by omega) ?_
      refine cGv (aV _ _) ?_
      refine iIn (fun hnl=>?_) (fun hnl=>?_)
      ·refine cOw (bF (pivot := p) hs1 (by omega) (by omega) hb hn) fun v μ6 h' hle' hap hR => ?_
       obtain⟨rfl,e1,rfl⟩:=hR
       obtain rfl:=e1.symm
       obtain⟨mid,d4,hx⟩:∃mid d4,partitionEqual ltInt d a b (p)=(mid,d4):=⟨_,_,rfl⟩
       rw[hx]
       have q:=round_eq swo_ltInt (partitionEqual_holds ltInt) (by omega) (by omega) (by omega) (by omega) hB (by simpa using hnl) hx
       have qa:=q.1
       exact⟨(mid,b,limit,true,wp,d4,_),⟨q.2.1,hb,by dsimp only;omega,by dsimp only;omega,q.2.2.1.trans hs1,q.2.2.2.1,hle,fun R h1 h2=>hfin R (q.2.2.2.2 R h1 h2).1 (q.2.2.2.2 R h1 h2).2⟩,by dsimp only;omega,⟨⟨rfl,rfl,rfl,rfl,rfl,rfl,trivial⟩,trivial,rfl,rfl⟩⟩
      ·refine cOw (aU (pivot := p) hs1 (by omega) (by omega) hb hn) fun v μ6 h' hle' hap hR => ?_
       obtain⟨⟨ap,rfl⟩,e1,rfl⟩:=hR
       obtain rfl:=e1.symm
       obtain⟨mid,ap',d4,hx⟩:∃mid ap' d4,partition ltInt d a b (p)=(mid,ap',d4):=⟨_,_,_,rfl⟩
       rw[hx]
       have w_:=round_part swo_ltInt (partition_holds ltInt) (by omega) (by omega) (by omega) hB hx
       obtain⟨q1,q2,q3,q4,q5,q6,q7⟩:=w_
       refine nEq (x:=((mid-a:Nat):Int)) (by rw[aA (by omega) (by omega)];omega) ?_
       refine nEq (x:=((b-mid:Nat):Int)) (by rw[aA (by omega) (by omega)];omega) ?_
       refine aD (by decide) ?_
       refine nEq (x:=(((b-a) / 8:Nat):Int)) (by rw[Int.tdiv_eq_ediv_of_nonneg (by omega),aA (by omega) (by omega)];omega) ?_
       refine ifd (fun hlt=>?_) (fun hlt=>?_)
       ·refine cOw (ih a mid (limit) d4 _ (by omega) (by omega) (by omega) (q3.trans hs1) (by omega) q4) fun v μ7 h' hle7 hap hR => ?_
        obtain⟨rfl,L,g1,g2,rfl⟩:=hR
        have w_:=q6 L g1 g2
        obtain⟨g3,g4⟩:=w_
        refine nEq (x:=((mid+1:Nat):Int)) (by rw[aA (by omega) (by omega)];omega) ?_
        exact⟨(mid+1,b,limit,_,ap,L,μ7),⟨by dsimp only;omega,hb,by dsimp only;omega,by dsimp only;omega,g1.1.trans (q3.trans hs1),g3,hle.trans hle7,fun R h1 h2=>hfin R (g4 R h1 h2).1 (g4 R h1 h2).2⟩,by dsimp only;omega,⟨⟨rfl,rfl,rfl,rfl,rfl,rfl,trivial⟩,trivial,rfl,rfl⟩⟩
       ·refine nEq (x := ((mid + 1 : Nat) : Int)) (by rw [aA (by omega) (by omega)]; omega) ?_
        refine cOw (ih (mid+1) b (limit) d4 _ (by omega) (by omega) (by omega) (q3.trans hs1) (by omega) q5) fun v μ7 h' hle7 hap hR=>?_
        obtain⟨rfl,L,g1,g2,rfl⟩:=hR
        have w_:=q7 L g1 g2
        obtain⟨g3,g4⟩:=w_
        exact⟨(a,mid,limit,_,ap,L,μ7),⟨by dsimp only;omega,by dsimp only;omega,by dsimp only;omega,by dsimp only;omega,g1.1.trans (q3.trans hs1),g3,hle.trans hle7,fun R h1 h2=>hfin R (g4 R h1 h2).1 (g4 R h1 h2).2⟩,by dsimp only;omega,⟨⟨rfl,rfl,rfl,rfl,rfl,rfl,trivial⟩,trivial,rfl,rfl⟩⟩
     ·refine cOw (aU (pivot := p) hs1 (by omega) (by omega) hb hn) fun v μ6 h' hle' hap hR => ?_
      obtain⟨⟨ap,rfl⟩,e1,rfl⟩:=hR
      obtain rfl:=e1.symm
      obtain⟨mid,ap',d4,hx⟩:∃mid ap' d4,partition ltInt d a b (p)=(mid,ap',d4):=⟨_,_,_,rfl⟩
      rw[hx]
      have w_:=round_part swo_ltInt (partition_holds ltInt) (by omega) (by omega) (by omega) hB hx
      obtain⟨q1,q2,q3,q4,q5,q6,q7⟩:=w_
      refine nEq (x:=((mid-a:Nat):Int)) (by rw[aA (by omega) (by omega)];omega) ?_
      refine nEq (x:=((b-mid:Nat):Int)) (by rw[aA (by omega) (by omega)];omega) ?_
      refine aD (by decide) ?_
      refine nEq (x:=(((b-a) / 8:Nat):Int)) (by rw[Int.tdiv_eq_ediv_of_nonneg (by omega),aA (by omega) (by omega)];omega) ?_
      refine ifd (fun hlt=>?_) (fun hlt=>?_)
      ·refine cOw (ih a mid (limit) d4 _ (by omega) (by omega) (by omega) (q3.trans hs1) (by omega) q4) fun v μ7 h' hle7 hap hR => ?_
       obtain⟨rfl,L,g1,g2,rfl⟩:=hR
       have w_:=q6 L g1 g2
       obtain⟨g3,g4⟩:=w_
       refine nEq (x:=((mid+1:Nat):Int)) (by rw[aA (by omega) (by omega)];omega) ?_
       exact⟨(mid+1,b,limit,_,ap,L,μ7),⟨by dsimp only;omega,hb,by dsimp only;omega,by dsimp only;omega,g1.1.trans (q3.trans hs1),g3,hle.trans hle7,fun R h1 h2=>hfin R (g4 R h1 h2).1 (g4 R h1 h2).2⟩,by dsimp only;omega,⟨⟨rfl,rfl,rfl,rfl,rfl,rfl,trivial⟩,trivial,rfl,rfl⟩⟩
      ·refine nEq (x := ((mid + 1 : Nat) : Int)) (by rw [aA (by omega) (by omega)]; omega) ?_
       refine cOw (ih (mid+1) b (limit) d4 _ (by omega) (by omega) (by omega) (q3.trans hs1) (by omega) q5) fun v μ7 h' hle7 hap hR=>?_
       obtain⟨rfl,L,g1,g2,rfl⟩:=hR
       have w_:=q7 L g1 g2
       obtain⟨g3,g4⟩:=w_
       exact⟨(a,mid,limit,_,ap,L,μ7),⟨by dsimp only;omega,by dsimp only;omega,by dsimp only;omega,by dsimp only;omega,g1.1.trans (q3.trans hs1),g3,hle.trans hle7,fun R h1 h2=>hfin R (g4 R h1 h2).1 (g4 R h1 h2).2⟩,by dsimp only;omega,⟨⟨rfl,rfl,rfl,rfl,rfl,rfl,trivial⟩,trivial,rfl,rfl⟩⟩
   ·refine ifd (fun ha0 => ?_) (fun ha0 => ?_)
    ·refine nEq (x := ((a - 1 : Nat) : Int)) (by rw [aA (by omega) (by omega)]; omega) ?_
     refine aK (a-1) (by omega) (by omega) ?_
     refine rdI (by omega) ?_
     refine aK (p) (by omega) (by omega) ?_
     refine rdI (by omega) ?_
     refine cGv (aV _ _) ?_
     refine iIn (fun hnl=>?_) (fun hnl=>?_)
     ·refine cOw (bF (pivot := p) hs1 (by omega) (by omega) hb hn) fun v μ6 h' hle' hap hR => ?_
      obtain⟨rfl,e1,rfl⟩:=hR
      obtain rfl:=e1.symm
      obtain⟨mid,d4,hx⟩:∃mid d4,partitionEqual ltInt d a b (p)=(mid,d4):=⟨_,_,rfl⟩
      rw[hx]
      have q:=round_eq swo_ltInt (partitionEqual_holds ltInt) (by omega) (by omega) (by omega) (by omega) hB (by simpa using hnl) hx
      have qa:=q.1
      exact⟨(mid,b,limit,true,wp,d4,_),⟨q.2.1,hb,by dsimp only;omega,by dsimp only;omega,q.2.2.1.trans hs1,q.2.2.2.1,hle,fun R h1 h2=>hfin R (q.2.2.2.2 R h1 h2).1 (q.2.2.2.2 R h1 h2).2⟩,by dsimp only;omega,⟨⟨rfl,rfl,rfl,rfl,rfl,rfl,trivial⟩,trivial,rfl,rfl⟩⟩
     ·refine cOw (aU (pivot := p) hs1 (by omega) (by omega) hb hn) fun v μ6 h' hle' hap hR => ?_
      obtain⟨⟨ap,rfl⟩,e1,rfl⟩:=hR
      obtain rfl:=e1.symm
      obtain⟨mid,ap',d4,hx⟩:∃mid ap' d4,partition ltInt d a b (p)=(mid,ap',d4):=⟨_,_,_,rfl⟩
      rw[hx]
      have w_:=round_part swo_ltInt (partition_holds ltInt) (by omega) (by omega) (by omega) hB hx
      obtain⟨q1,q2,q3,q4,q5,q6,q7⟩:=w_
      refine nEq (x:=((mid-a:Nat):Int)) (by rw[aA (by omega) (by omega)];omega) ?_
      refine nEq (x:=((b-mid:Nat):Int)) (by rw[aA (by omega) (by omega)];omega) ?_
      refine aD (by decide) ?_
      refine nEq (x:=(((b-a) / 8:Nat):Int)) (by rw[Int.tdiv_eq_ediv_of_nonneg (by omega),aA (by omega) (by omega)];omega) ?_
      refine ifd (fun hlt=>?_) (fun hlt=>?_)
      ·refine cOw (ih a mid (limit) d4 _ (by omega) (by omega) (by omega) (q3.trans hs1) (by omega) q4) fun v μ7 h' hle7 hap hR => ?_
       obtain⟨rfl,L,g1,g2,rfl⟩:=hR
       have w_:=q6 L g1 g2
       obtain⟨g3,g4⟩:=w_
       refine nEq (x:=((mid+1:Nat):Int)) (by rw[aA (by omega) (by omega)];omega) ?_
       exact⟨(mid+1,b,limit,_,ap,L,μ7),⟨by dsimp only;omega,hb,by dsimp only;omega,by dsimp only;omega,g1.1.trans (q3.trans hs1),g3,hle.trans hle7,fun R h1 h2=>hfin R (g4 R h1 h2).1 (g4 R h1 h2).2⟩,by dsimp only;omega,⟨⟨rfl,rfl,rfl,rfl,rfl,rfl,trivial⟩,trivial,rfl,rfl⟩⟩
      ·refine nEq (x := ((mid + 1 : Nat) : Int)) (by rw [aA (by omega) (by omega)]; omega) ?_
       refine cOw (ih (mid+1) b (limit) d4 _ (by omega) (by omega) (by omega) (q3.trans hs1) (by omega) q5) fun v μ7 h' hle7 hap hR=>?_
       obtain⟨rfl,L,g1,g2,rfl⟩:=hR
       have w_:=q7 L g1 g2
       obtain⟨g3,g4⟩:=w_
       exact⟨(a,mid,limit,_,ap,L,μ7),⟨by dsimp only;omega,by dsimp only;omega,by dsimp only;omega,by dsimp only;omega,g1.1.trans (q3.trans hs1),g3,hle.trans hle7,fun R h1 h2=>hfin R (g4 R h1 h2).1 (g4 R h1 h2).2⟩,by dsimp only;omega,⟨⟨rfl,rfl,rfl,rfl,rfl,rfl,trivial⟩,trivial,rfl,rfl⟩⟩
    ·refine cOw (aU (pivot := p) hs1 (by omega) (by omega) hb hn) fun v μ6 h' hle' hap hR => ?_
     obtain⟨⟨ap,rfl⟩,e1,rfl⟩:=hR
     obtain rfl:=e1.symm
     obtain⟨mid,ap',d4,hx⟩:∃mid ap' d4,partition ltInt d a b (p)=(mid,ap',d4):=⟨_,_,_,rfl⟩
     rw[hx]
     have w_:=round_part swo_ltInt (partition_holds ltInt) (by omega) (by omega) (by omega) hB hx
     obtain⟨q1,q2,q3,q4,q5,q6,q7⟩:=w_
     refine nEq (x:=((mid-a:Nat):Int)) (by rw[aA (by omega) (by omega)];omega) ?_
     refine nEq (x:=((b-mid:Nat):Int)) (by rw[aA (by omega) (by omega)];omega) ?_
     refine aD (by decide) ?_
     refine nEq (x:=(((b-a) / 8:Nat):Int)) (by rw[Int.tdiv_eq_ediv_of_nonneg (by omega),aA (by omega) (by omega)];omega) ?_
     refine ifd (fun hlt=>?_) (fun hlt=>?_)
     ·refine cOw (ih a mid (limit) d4 _ (by omega) (by omega) (by omega) (q3.trans hs1) (by omega) q4) fun v μ7 h' hle7 hap hR => ?_
      obtain⟨rfl,L,g1,g2,rfl⟩:=hR
      have w_:=q6 L g1 g2
      obtain⟨g3,g4⟩:=w_
      refine nEq (x:=((mid+1:Nat):Int)) (by rw[aA (by omega) (by omega)];omega) ?_
      exact⟨(mid+1,b,limit,_,ap,L,μ7),⟨by dsimp only;omega,hb,by dsimp only;omega,by dsimp only;omega,g1.1.trans (q3.trans hs1),g3,hle.trans hle7,fun R h1 h2=>hfin R (g4 R h1 h2).1 (g4 R h1 h2).2⟩,by dsimp only;omega,⟨⟨rfl,rfl,rfl,rfl,rfl,rfl,trivial⟩,trivial,rfl,rfl⟩⟩
     ·refine nEq (x := ((mid + 1 : Nat) : Int)) (by rw [aA (by omega) (by omega)]; omega) ?_
      refine cOw (ih (mid+1) b (limit) d4 _ (by omega) (by omega) (by omega) (q3.trans hs1) (by omega) q5) fun v μ7 h' hle7 hap hR=>?_
      obtain⟨rfl,L,g1,g2,rfl⟩:=hR
      have w_:=q7 L g1 g2
      obtain⟨g3,g4⟩:=w_
      exact⟨(a,mid,limit,_,ap,L,μ7),⟨by dsimp only;omega,by dsimp only;omega,by dsimp only;omega,by dsimp only;omega,g1.1.trans (q3.trans hs1),g3,hle.trans hle7,fun R h1 h2=>hfin R (g4 R h1 h2).1 (g4 R h1 h2).2⟩,by dsimp only;omega,⟨⟨rfl,rfl,rfl,rfl,rfl,rfl,trivial⟩,trivial,rfl,rfl⟩⟩
end
end Go.Vx
namespace Go.Vx
open Go.Proofs Classical
open Go.Sort
section
variable {h0 μ:Mem} {r:Nat} {ty:TypeId} {rest:List Value}
theorem qJg{n cap:Nat}{d:Array Int}(hr:h0 r=none)(hd:d.size=n)(hn:n≤1000000000000):
  SpecH Tryz.prog 158 [.slice (some ⟨r,0,none⟩) n cap] μ (aY h0 r ty rest d) fun v _μ' h'=>v= .tuple #[]∧h'=aY h0 r ty rest (d.toList.mergeSort fun x y=>decide (x≤y)).toArray:=by
 refine SpecH.mk [] Tryz.func158 (by kernel_rfl) ?_
 refine nEq (x:=(n:Int)) (by
  show(n:Int) % 18446744073709551616=_
  omega) ?_
 refine cGv (qFi (by omega)) ?_
 have hL:bitsLen n≤40:=(bitsLen_le_iff n 40).2 (by omega)
 refine cOw (qAu hr hn (n+1) 0 n (bitsLen n) d μ (by omega) (by omega) (Nat.le_refl _) hd (by omega) (.inl rfl)) fun v μ' h' hle hap hR=>?_
 obtain⟨rfl,d',p1,p2,rfl⟩:=hR
 have e:=sorted_unique_holds (lt:=ltInt) swo_ltInt (fun x y h1 h2=>by
  simp only[ltInt,decide_eq_false_iff_not]at h1 h2
  omega) d d' (by rw[hd];exact p1) (by rw[hd];exact p2)
 have e2:(fun x y=> !ltInt y x)=fun x y:Int=>decide (x≤y):=by
  funext x y
  simp only[ltInt]
  by_cases h:x≤y
  ·rw[decide_eq_true h,decide_eq_false (by omega)];rfl
  ·rw[decide_eq_false h,decide_eq_true (by omega)];rfl
 rw[e2]at e
 refine rPl ⟨rfl,?_⟩
 rw[←e]
theorem qJw{n cap:Nat}{d:Array Int}(hr:h0 r=none)(hd:d.size=n)(hn:n≤1000000000000):
  SpecH Tryz.prog 150 [.slice (some ⟨r,0,none⟩) n cap] μ (aY h0 r ty rest d) fun v _μ' h'=>v= .tuple #[]∧h'=aY h0 r ty rest (d.toList.mergeSort fun x y=>decide (x≤y)).toArray:=by
 refine SpecH.mk [] Tryz.func150 (by kernel_rfl) ?_
 refine cOw (qJg hr hd hn) fun v μ' h' hle hap hR=>?_
 obtain⟨rfl,rfl⟩:=hR
 exact rPl ⟨rfl,rfl⟩
end
end Go.Vx
namespace Go.Vx
open Go.Proofs Classical
open Go.Sort
theorem zI{l:List (Value×Value)}(h:MapOk kY l):∃ks:List Int,l.map Prod.fst=aO ks∧ks.Nodup:=by
 have h1:∀(l:List (Value×Value)),(∀p∈l,kY p.1)→∃ks:List Int,l.map Prod.fst=aO ks:=fun l=>by
  induction l with
  |nil=>intro _;exact⟨[],rfl⟩
  |cons p l ih=>
   intro h
   have w_:=ih fun q hq=>h q (by simp[hq])
   obtain⟨ks,hks⟩:=w_
   have w_:=h p (by simp)
   obtain⟨n,hn⟩:=w_
   exact⟨n::ks,by rw[List.map_cons,hks,hn];rfl⟩
 have w_:=h1 l h.keys
 obtain⟨ks,hks⟩:=w_
 refine⟨ks,hks,?_⟩
 have hn:=h.nodup
 rw[hks,aO]at hn
 exact List.Pairwise.of_map (S:=fun a b=>a≠b) _ (fun a b hab e=>hab (by rw[e])) hn
theorem yQ{l:List (Value×Value)}{ks:List Int}(h:l.map Prod.fst=aO ks)(n:Int):(fI l (.int .i64 n)).isSome↔n∈ks:=by
 have e:n∈ks↔Value.int .i64 n∈l.map Prod.fst:=by
  rw[h,aO,List.mem_map]
  exact⟨fun k=>⟨n,k,rfl⟩,fun⟨m,k,e⟩=>by cases e;exact k⟩
 rw[e]
 clear e h
 induction l with
 |nil=>simp[fI]
 |cons p l ih=>
  obtain⟨a,v⟩:=p
  rw[fI]
  by_cases h:a= .int .i64 n
  ·rw[if_pos h];simp[h]
  ·rw [if_neg h]
   refine ih.trans ?_
   simp only[List.map_cons,List.mem_cons]
   exact⟨.inr,fun k=>k.elim (fun e=>absurd e.symm h) id⟩
theorem yY{N:Nat}{l:List Nat}(h:l.Nodup)(hb:∀j∈l,j<N):l.length≤N:=by
 have h1:(l.map fun j:Nat=>(j:Int)).Nodup:=List.Pairwise.map (S:=fun a b=>a≠b) _ (fun a b hab e=>hab (by omega)) h
 have:=nodup_range (N:=N) h1 fun n hn=>by
  have w_:=List.mem_map.1 hn
  obtain⟨j,hj,rfl⟩:=w_
  have:=hb j hj;omega
 rwa [List.length_map]at this
theorem qFb:∀l:List Int,OwnRows 1 (l.map D.i) (aO l) Mem.nil
 |[]=>OwnRows.nil 1
 | n :: l => ⟨by
   have:=(qFb l).own
   exact OwnS.int this,by
   intro x hx
   have w_:=List.mem_map.1 hx
   obtain⟨m,_,rfl⟩:=w_
   rfl,by simp[aO]⟩
theorem srt_lt(D:List Int)(h:D.Nodup):(D.mergeSort fun x y=>decide (x≤y)).Pairwise (·<·):=by
 have h1:=List.pairwise_mergeSort (le:=fun x y:Int=>decide (x≤y)) (fun a b c h1 h2=>by simp at*;omega) (fun a b=>by simp;omega) D
 have h2:(D.mergeSort fun x y=>decide (x≤y)).Nodup:=((List.mergeSort_perm D _).nodup_iff).2 h
 rw[List.nodup_iff_pairwise_ne]at h2
 exact List.Pairwise.imp (fun⟨a,b⟩=>by simp at a;omega) (h1.and h2)
theorem tL{ks:List Int}{j:Nat}(h:j<ks.length):ks[j]? =some (ks.getD j 0):=by
 rw[List.getD_eq_getElem?_getD,List.getElem?_eq_getElem h];rfl
theorem picked{ks:List Int}(hnd:ks.Nodup){seen:List Nat}(hsn:seen.Nodup)(hsl:∀j∈seen,j<ks.length):(seen.map fun j=>ks.getD j 0).Nodup:=by
 rw[List.nodup_iff_pairwise_ne,List.pairwise_map]
 rw[List.nodup_iff_pairwise_ne]at hsn
 refine hsn.imp_of_mem fun {a b} ha hb hab e=>hab ?_
 have h1:=qHj hnd (tL (hsl a ha))
 have h2:=qHj hnd (tL (hsl b hb))
 rw[e]at h1
 omega
theorem qFj{ks:List Int}{seen:List Nat}(hsl:∀j∈seen,j<ks.length)(hall:∀j,j<ks.length→j∈seen)(n:Int):n∈(seen.map fun j=>ks.getD j 0)↔n∈ks:=by
 rw[List.mem_map]
 constructor
 ·rintro ⟨j, hj, rfl⟩
  exact List.mem_of_getElem? (tL (hsl j hj))
 ·intro h
  have w_:=List.mem_iff_getElem?.1 h
  obtain⟨j,hj⟩:=w_
  have hjl:=(List.getElem?_eq_some_iff.1 hj).1
  refine⟨j,hall j hjl,?_⟩
  rw[tL hjl]at hj
  exact Option.some.inj hj
section
variable {μ h:Mem}
theorem tG{m:Nat}{l:List (Value×Value)}(hm:h m=some (bN l))(hk:MapOk kY l)(hn:l.length≤1000000):
  SpecH Tryz.prog 129 [.map (some m)] μ h fun v μ' h'=>h'=h∧∃xs:List Int,(∀n,n∈xs↔(fI l (.int .i64 n)).isSome)∧xs.Pairwise (·<·)∧Fresh μ μ' (.sl 1 (xs.map D.i)) v:=by
 have w_:=zI hk
 obtain⟨ks,hks,hnd⟩:=w_
 have hkl:ks.length=l.length:=by
  have:=congrArg List.length hks
  simpa[aO]using this.symm
 refine SpecH.mk [] Tryz.func129 (by kernel_rfl) ?_
 intro r5
 refine qFu l hm ?_
 intro ri hmi hoi
 have hne:m≠ri:=qFk hm hoi
 refine lIn (fun p:List Nat×Option Nat×Nat×List Value=>p.2.1≠none∧p.1.Nodup∧(∀j∈p.1,j<l.length)∧p.2.2.2=aO (p.1.map fun j=>ks.getD j 0))
  (fun(seen,b,c,ys)=>⟨[(3,.row 0 b ys.length c),(7,.val (.pointer (some ⟨ri,0,none⟩)))],[(0,some (.row b c 3 1 ys))],1,μ,h.set ri (cZ m l.length seen l.length)⟩) (fun p=>l.length-p.1.length)
  ([],some r5,0,[]) ⟨by simp,by simp,by simp,rfl⟩ (fun(_,_,_,_)=>⟨rfl,rfl⟩) ⟨⟨rfl,rfl,trivial⟩,⟨rfl,trivial⟩,rfl,rfl⟩ ?_
 rintro⟨seen,b,c,ys⟩ ⟨hb,hsn,hsl,hys⟩
 dsimp only at hb hsn hsl hys
 have hslen:=yY hsn hsl
 refine qGo m seen l.length l (Mem.set_at _ _ _) ((Mem.set_ne hne).trans hm) (Nat.le_refl _) (fun hall=>?_) (fun j k v hj hns=>?_)
 rotate_left
 ·have hjl := (List.getElem?_eq_some_iff.1 hj).1
  have hkj:k= .int .i64 (ks.getD j 0):=by
   have h1:(l.map Prod.fst)[j]? =some k:=by simp[hj]
   rw[hks,aO,List.getElem?_map]at h1
   have h2:j<ks.length:=by omega
   rw[List.getElem?_eq_getElem h2]at h1
   simp only[Option.map_some,Option.some.injEq]at h1
   rw[←h1,List.getD_eq_getElem?_getD,List.getElem?_eq_getElem h2];rfl
  subst hkj
  rw[Mem.set_set]
  refine iIn (fun _=>?_) (fun h=>nomatch h)
  refine qKb m l.length seen j l _ v (Mem.set_at _ _ _) ((Mem.set_ne hne).trans hm) hj ?_
  intro r6
  have hyl:ys.length=seen.length:=by rw[hys];simp[aO]
  refine gIn ?_ ?_ fun b' c' hb'=>?_
  ·show(ys.length+1)*8≤_;omega
  ·exact Nat.le_trans (m:=100000000) (show ys.length+1≤_ by omega) (by decide)
  have hsl2:∀i∈seen++[j],i<l.length:=fun i hi=>by
   rcases List.mem_append.1 hi with hi|hi
   ·exact hsl i hi
   ·rw[List.mem_singleton]at hi;subst hi;exact hjl
  have hsn2:(seen++[j]).Nodup:=by
   rw[List.nodup_append]
   refine⟨hsn,by simp,fun a ha b hb e=>?_⟩
   rw[List.mem_singleton]at hb
   subst hb;subst e;exact hns ha
  have hs3:=yY hsn2 hsl2
  rw[List.length_append,List.length_singleton]at hs3
  exact⟨(seen++[j],b',c',ys++[.int .i64 (ks.getD j 0)]),⟨by
   dsimp only
   intro e
   have:=hb' e
   simp at this,hsn2,hsl2,by dsimp only;rw[List.map_append,aO,List.map_append,hys];rfl⟩,by dsimp only;rw[List.length_append,List.length_singleton];omega,⟨⟨rfl,rfl,trivial⟩,⟨rfl,trivial⟩,rfl,rfl⟩⟩
 ·refine iIn (fun h => nomatch h) (fun _ => ?_)
  have hp:=picked hnd hsn (by rw[hkl];exact hsl)
  have hpm:=qFj (by rw[hkl];exact hsl) (by rw[hkl];exact hall) (ks:=ks) (seen:=seen)
  have hDs:(seen.map (fun j=>ks.getD j 0)).length=seen.length:=by simp
  generalize seen.map (fun j=>ks.getD j 0)=D at*
  subst hys
  have w_:=Option.ne_none_iff_exists'.1 hb
  obtain⟨b0,rfl⟩:=w_
  have hDl:(aO D).length=D.length:=by simp[aO]
  refine wJ [] [0] (fun h=>nomatch h) ?_
  intro h' hmem hgiven
  obtain⟨hb0,hlen,hcap,hone,cs,rfl,hcs,htake⟩:=hgiven
  replace hb0:(Mem.set h ri (cZ m l.length seen l.length)) b0=none:=hb0
  replace hmem:μ b0=none:=hmem b0 rfl
  obtain⟨rest,rfl⟩:∃rest,cs=aO D++rest:=by
   refine⟨cs.drop ((aO D).length*1),?_⟩
   rw[mW]at htake
   conv=>lhs;rw[←List.take_append_drop ((aO D).length*1) cs,htake]
  have hD6:D.length≤1000000000000:=by omega
  refine rT (qJw (h0:=h.set ri (cZ m l.length seen l.length)) (r:=b0) (ty:=3) (rest:=rest) (d:=D.toArray) hb0 (by simp[aO]) (by omega)) fun v μ' h'' hle hap hR=>?_
  obtain⟨rfl,rfl⟩:=hR
  have f1:(D.toArray.toList.mergeSort fun x y=>decide (x≤y)).Pairwise (·<·):=srt_lt D hp
  have f2:∀n,n∈(D.toArray.toList.mergeSort fun x y=>decide (x≤y))↔n∈D:=fun n=>(List.mergeSort_perm D _).mem_iff
  have f3:(D.toArray.toList.mergeSort fun x y=>decide (x≤y)).length=D.length:=(List.mergeSort_perm D _).length_eq
  generalize (D.toArray.toList.mergeSort fun x y=>decide (x≤y))=S at*
  have hbr:b0≠ri:=fun e=>by subst e;rw[Mem.set_at]at hb0;cases hb0
  have hhb:h b0=none:=by rwa [Mem.set_ne hbr]at hb0
  have hb1:μ' b0=none:=by
   cases e:μ' b0 with
   |none=>rfl
   |some o=>have:=hap b0 (by simp[e]);rw[aY,Mem.set_at]at this;cases this
  have hSl:(aO S).length=S.length:=by simp[aO]
  refine dJ ((Mem.nil.set ri (cZ m l.length seen l.length)).set b0 (.cells (List.toArray ([]++(S.toArray.toList.map (Value.int .i64)++rest))) 3 (0,0))) h ?_ ⟨rfl,S,fun n=>(f2 n).trans ((hpm n).trans (yQ hks n).symm),f1,?_⟩
  ·show Parts (aY (h.set ri (cZ m l.length seen l.length)) b0 3 rest S.toArray) _ h
   replace hoi:h ri=none:=hoi
   intro x
   by_cases h1:x=b0
   ·subst h1;exact .inl ⟨by rw[aY,Mem.set_at,Mem.set_at],hhb⟩
   ·by_cases h2 : x = ri
    ·subst h2;exact .inl ⟨by rw[aY,Mem.set_ne h1,Mem.set_ne h1,Mem.set_at,Mem.set_at],hoi⟩
    ·exact .inr ⟨by rw[aY,Mem.set_ne h1,Mem.set_ne h2],by rw[Mem.set_ne h1,Mem.set_ne h2];rfl⟩
  ·have F:=Fresh.ofRow (μ:=μ) (μ1:=μ) (μ':=μ'.join ((Mem.nil.set ri (cZ m l.length seen l.length)).set b0 (.cells (List.toArray ([]++(S.toArray.toList.map (Value.int .i64)++rest))) 3 (0,0)))) (b:=some b0) (cap:=c) (qFb S) (fun _ _ h=>nomatch h) (fun _ h=>absurd rfl h) (Mem.Le.refl _) (hle.trans (Mem.le_join _ _)) (fun r e=>by cases e;exact hmem)
    ⟨by omega, fun x hx => by
     have w_:=List.mem_map.1 hx
     obtain⟨n,_,rfl⟩:=w_
     exact⟨rfl,by simp[aB,Value.oneCell']⟩,_,_,by rw[Mem.join_get,hb1,Mem.set_at],by
      simp only[List.length_append,aO,List.length_map]at hcs
      simp[f3];omega,by rw[mW];simp[aO]⟩ (Nat.le_trans (m:=1000000) (by omega) (by decide))
   have e:(aO D).length=(aO S).length:=by omega
   show Fresh μ _ (.sl 1 (S.map Go.Vx.D.i)) (.slice _ (aO D).length c)
   rw[e];exact F
end
end Go.Vx
namespace Go.Vx
open Go.Proofs Classical
mutual
def Gl.all:Gl→List Gl
 | .mk k s ts gs=> .mk k s ts gs::Gl.alls gs
def Gl.alls:List Gl→List Gl
 |[]=>[]
 |g::r=>g.all++Gl.alls r
end
theorem Gl.alls_map:∀l:List Gl,Gl.alls l=l.flatMap Gl.all
 |[]=>rfl
 |g::r=>by simp[Gl.alls,Gl.alls_map r]
theorem Gl.all_eq(g:Gl):g.all=g::g.goals.flatMap Gl.all:=by
 cases g
 rw[Gl.all,Gl.alls_map]
 rfl
theorem Gl.Sh.all:∀(g:Gl),g.Sh→∀x∈g.all,x.Sh:=
 Gl.ind fun g ih h x hx=>by
  rw[Gl.all_eq]at hx
  rcases List.mem_cons.1 hx with rfl|hx
  ·exact h
  ·have w_ := List.mem_flatMap.1 hx
   obtain⟨y,hy,hx⟩:=w_
   exact ih y hy (h.sub y hy) x hx
noncomputable def Gl.tvars(g:Gl):List Int:=(g.terms.map Tm.toT).flatMap T.vars
noncomputable def Gl.vars(g:Gl):List Int:=g.all.flatMap Gl.tvars
theorem uL{α:Type}:∀(l s:List α),l.foldl (fun s n=>s++[n]) s=s++l
 |[],s=>by simp
 |a::l,s=>by rw[List.foldl_cons,uL l];simp
theorem yF{α β:Type}(f:α→List β):∀(l:List α) (s:List β),l.foldl (fun s x=>s++f x) s=s++l.flatMap f
 |[],s=>by simp
 |a::l,s=>by rw[List.foldl_cons,yF f l];simp
theorem toTs_tm'{xs:List T}:(xs.map T.tm).map Tm.toT=xs:=by
 rw[List.map_map]
 exact(List.map_congr_left fun x _=>T.toT_tm x).trans (List.map_id _)
section
variable {μ:Mem}
theorem kR{S:Type}(J:S→Mem→Prop)(step:S→Gl→S)(Q:Gl→Prop){k:FuncId}{caps:List Value}
  (hc:∀s h g v,Q g→RepV μ g.d v→J s h→SpecH Tryz.prog k (v::caps) μ h fun r μ' h'=>r= .tuple #[]∧μ'=μ∧J (step s g) h'):
  ∀(g:Gl) {v:Value} (s:S) (h:Mem),RepV μ g.d v→(∀x∈g.all,Q x)→J s h→SpecH Tryz.prog 100 [v,.func (.func k) #[] caps.toArray] μ h fun r μ' h'=>r= .tuple #[]∧μ'=μ∧J (g.all.foldl step s) h':=
 Gl.ind fun g ih v s h hv hq hj=>by
  have w_:=Gl.inv hv
  obtain⟨p,rfl,hts,hgs⟩:=w_
  have hn:=aJ hgs.max
  rw[Gl.all_eq]at hq ⊢
  rw[List.foldl_cons]
  refine SpecH.mk [] Tryz.func100 (by kernel_rfl) ?_
  intro r
  refine cOw (hc s h g _ (hq g (by simp)) hv hj) fun v μ' h' hle hap hR=>?_
  obtain⟨rfl,e2,hj'⟩:=hR
  obtain rfl:=e2.symm
  refine lIn (fun p:Nat×Mem=>p.1≤g.goals.length∧J (((g.goals.take p.1).flatMap Gl.all).foldl step (step s g)) p.2)
   (fun(i,h)=>⟨[(1,.val (.func (.func k) #[] caps.toArray)),(10,.val (.slice p.2.1 g.goals.length p.2.2)),(11,.val (.int .i64 g.goals.length)),(12,.val (.int .i64 i))],[],1,μ,h⟩) (fun p=>g.goals.length-p.1)
   (0,h') ⟨by simp,by simpa using hj'⟩ (fun(_,_)=>⟨rfl,rfl⟩) ⟨⟨rfl,rfl,rfl,rfl,trivial⟩,trivial,rfl,rfl⟩ ?_
  rintro⟨i,h1⟩ ⟨hi,hj1⟩
  dsimp only at hi hj1
  refine ifd (fun hlt=>?_) (fun hlt=>?_)
  ·have w_ := aSo (l := g.goals) (i := i) (by omega)
   obtain⟨t,ht⟩:=w_
   have w_:=Gl.elem hgs ht
   obtain⟨ad,p3,hel,hr⟩:=w_
   refine eIn hel ?_
   intro r4
   refine cOw (ih t (mAt ht) _ h1 hr (fun x hx=>hq x (List.mem_cons_of_mem _ (List.mem_flatMap.2 ⟨t,mAt ht,hx⟩))) hj1) fun v μ' h' hle hap hR=>?_
   obtain⟨rfl,e2,hj2⟩:=hR
   obtain rfl:=e2.symm
   refine aC (by omega) (by omega) ⟨(i+1,h'),⟨by dsimp only;omega,?_⟩,by dsimp only;omega,⟨⟨rfl,rfl,rfl,rfl,trivial⟩,trivial,rfl,rfl⟩⟩
   dsimp only
   rw[List.take_add_one,ht,Option.toList_some,List.flatMap_append,List.foldl_append]
   simpa using hj2
  ·obtain rfl : i = g.goals.length := by omega
   rw[List.take_length]at hj1
   exact rPl ⟨rfl,rfl,hj1⟩
def iM(rm:Nat)(s:List Int)(h:Mem):Prop:=∃r l,h rm=some (.cells #[.map (some r)] 172 (0,0))∧h r=some (bN l)∧MapOk kY l∧∀n,(fI l (.int .i64 n)).isSome↔n∈s
theorem tF{rm:Nat}{s:List Int}{h:Mem}{n:Int}(H:iM rm s h):SpecH Tryz.prog 128 [.int .i64 n,.pointer (some ⟨rm,0,none⟩)] μ h fun r μ' h'=>r= .tuple #[]∧μ'=μ∧iM rm (s++[n]) h':=by
 obtain⟨r,l,h1,h2,hk,hg⟩:=H
 have e1:rm≠r:=qJm h1 h2 (by simp[bN])
 refine SpecH.mk [] Tryz.func128 (by kernel_rfl) ?_
 refine oIn [.map (some r)] rfl (bX h1) ?_
 refine fL l h2 (hk.weaken (by rintro _ ⟨n,rfl⟩;rfl)) rfl ?_
 refine rPl ⟨rfl,rfl,r,_,?_,Mem.set_at _ _ _,hk.int _,fun m=>?_⟩
 ·dsimp only;rw[Mem.set_ne e1];exact h1
 ·rw [iD, List.mem_append, List.mem_singleton]
  by_cases e:m=n
  ·simp[e]
  ·rw[if_neg e,hg];simp[e]
theorem wB{rm:Nat}{s:List Int}{h:Mem}{g:Gl}{v:Value}(hok:∀t∈g.terms,t.Ok)(hv:RepV μ g.d v)(H:iM rm s h):SpecH Tryz.prog 127 [v,.pointer (some ⟨rm,0,none⟩)] μ h fun r μ' h'=>r= .tuple #[]∧μ'=μ∧iM rm (s++g.tvars) h':=by
 have w_:=Gl.inv hv
 obtain⟨p,rfl,hts,hgs⟩:=w_
 have w_:=gO hok
 obtain⟨xs,hxs,hxo⟩:=w_
 have htv:g.tvars=xs.flatMap T.vars:=by
  rw[Gl.tvars,hxs,List.map_map]
  congr 1
  exact(List.map_congr_left fun x _=>T.toT_tm x).trans (List.map_id _)
 rw[htv]
 rw[hxs,List.length_map]at hts ⊢
 have hn:=aJ hts.max
 refine SpecH.mk [] Tryz.func127 (by kernel_rfl) ?_
 intro r
 refine lIn (fun p:Nat×Mem=>p.1≤xs.length∧iM rm (s++(xs.take p.1).flatMap T.vars) p.2)
  (fun(i,h)=>⟨[(1,.val (.pointer (some ⟨rm,0,none⟩))),(6,.val (.slice p.1.1 xs.length p.1.2)),(7,.val (.int .i64 xs.length)),(8,.val (.int .i64 i))],[],1,μ,h⟩) (fun p=>xs.length-p.1)
  (0,h) ⟨by simp,by simpa using H⟩ (fun(_,_)=>⟨rfl,rfl⟩) ⟨⟨rfl,rfl,rfl,rfl,trivial⟩,trivial,rfl,rfl⟩ ?_
 rintro⟨i,h1⟩ ⟨hi,hj1⟩
 dsimp only at hi hj1
 refine ifd (fun hlt=>?_) (fun hlt=>?_)
 ·have w_ := aSo (l := xs) (i := i) (by omega)
  obtain⟨x,hx'⟩:=w_
  have w_:=Tm.elem (i:=i) (t:=x.tm) hts (by simp[hx'])
  obtain⟨ad,p3,hel,hto⟩:=w_
  refine eIn hel ?_
  intro r4
  refine cOw (lF (iM rm) (fun s n=>s++[n]) (fun _ _=>True) (fun s h n _ hj=>tF hj) x _ h1 hto (fun _ _ _ _=>trivial) hj1) fun v μ' h' hle hap hR=>?_
  obtain⟨rfl,e2,hj2⟩:=hR
  obtain rfl:=e2.symm
  rw[uL]at hj2
  refine aC (by omega) (by omega) ⟨(i+1,h'),⟨by dsimp only;omega,?_⟩,by dsimp only;omega,⟨⟨rfl,rfl,rfl,rfl,trivial⟩,trivial,rfl,rfl⟩⟩
  dsimp only
  rw[List.take_add_one,hx',Option.toList_some,List.flatMap_append]
  simpa using hj2
 ·obtain rfl : i = xs.length := by omega
  rw[List.take_length]at hj1
  exact rPl ⟨rfl,rfl,hj1⟩
theorem Gl.vars_range{g:Gl}(h:g.Sh):∀n∈g.vars,0≤n∧n≤100000:=fun n hn=>by
 have w_:=List.mem_flatMap.1 hn
 obtain⟨x,hx,hn⟩:=w_
 have w_:=gO (h.all g x hx).top.tm
 obtain⟨xs,hxs,hxo⟩:=w_
 rw[Gl.tvars,hxs,toTs_tm']at hn
 have w_:=List.mem_flatMap.1 hn
 obtain⟨t,ht,hn⟩:=w_
 exact T.vars_range (hxo t ht).1 n hn
theorem xN{g:Gl}{v:Value}(hS:g.Sh)(hv:RepV μ g.d v):Spec Tryz.prog 99 [v] μ fun v μ'=>∃xs:List Int,(∀n,n∈xs↔n∈g.vars)∧xs.Pairwise (·<·)∧Fresh μ μ' (.sl 1 (xs.map D.i)) v:=by
 have w_:=Gl.invV hv
 obtain⟨p,rfl⟩:=w_
 refine Spec.mkO [3,4] Tryz.func99 (by kernel_rfl) ?_
 intro r
 intro rM hmM hoM r3 hm3 ho3
 refine sIn [.map none] 172 (Mem.set_at _ _ _) rfl (Nat.le_refl _) ?_
 dsimp only at hmM hoM hm3 ho3
 have n1:rM≠r3:=fun e=>by subst e;simp[Mem.set_get]at ho3
 generalize hh:Mem.set (Mem.set _ r3 _) r3 _=h0
 have H0:iM r3 [] h0:=by
  subst hh
  refine⟨rM,[],?_,?_,MapOk.nil,fun n=>by simp[fI]⟩
  ·rw[Mem.set_at];rfl
  ·dsimp only;rw[Mem.set_ne n1,Mem.set_ne n1,Mem.set_at]
 refine cOw (kR (iM r3) (fun s g=>s++g.tvars) (fun g=>∀t∈g.terms,t.Ok) (fun s h g v hq hv hj=>wB hq hv hj) g [] h0 hv (fun x hx=>(Gl.Sh.all g hS x hx).top.tm) H0) fun v μ' h' hle hap hR=>?_
 obtain⟨rfl,e2,hj⟩:=hR
 obtain rfl:=e2.symm
 rw[yF]at hj
 obtain⟨r,l,h1,h2,hk,hg⟩:=hj
 have hlen:l.length≤1000000:=by
  have w_:=zI hk
  obtain⟨ks,hks,hnd⟩:=w_
  have:=nodup_range (N:=100001) hnd fun n hn=>by
   have h3:=(hg n).1 ((yQ hks n).2 hn)
   have:=Gl.vars_range hS n (by simpa[Gl.vars]using h3)
   omega
  have h4:=congrArg List.length hks
  simp only[aO,List.length_map]at h4
  omega
 refine oIn [.map (some r)] rfl (bX h1) ?_
 refine cOw (tG h2 hk hlen) fun v μ2 h2' hle2 hap2 hR2=>?_
 obtain⟨rfl,xs,g1,g2,g3⟩:=hR2
 exact rPl ⟨xs,fun n=>(g1 n).trans ((hg n).trans (by simp[Gl.vars])),g2,g3⟩
theorem vP{g:Gl}{v:Value}{n:Int}(hS:g.Sh)(hv:RepV μ g.d v):Spec Tryz.prog 64 [v,.int .i64 n] μ fun r _=>r= .bool (decide (∀m∈g.vars,m<n)):=by
 have w_:=Gl.invV hv
 obtain⟨p,rfl⟩:=w_
 refine Spec.mk Tryz.func64 (by kernel_rfl) ?_
 intro r
 refine cPl (xN hS hv) fun v1 μ1 hle1 hR=>?_
 obtain⟨xs,g1,g2,g3⟩:=hR
 have w_:=Rep.sl g3.rep
 obtain⟨b,c,rfl,hsl⟩:=w_
 rw[List.length_map]at hsl ⊢
 have hn:=aJ hsl.max
 refine lIn (fun i:Nat=>i≤xs.length∧∀m∈xs.take i,m<n) (fun i=>⟨[(1,.val (.int .i64 n)),(8,.val (.slice b xs.length c)),(9,.val (.int .i64 xs.length)),(10,.val (.int .i64 i))],[],1,μ1,Mem.nil⟩) (fun i=>xs.length-i)
  0 ⟨by simp,by simp⟩ (fun _=>⟨rfl,rfl⟩) ⟨⟨rfl,rfl,rfl,rfl,trivial⟩,trivial,rfl,rfl⟩ ?_
 rintro i ⟨hi,hall⟩
 refine ifd (fun hlt=>?_) (fun hlt=>?_)
 ·have w_ := aSo (l := xs) (i := i) (by omega)
  obtain⟨x,hx⟩:=w_
  have w_:=Ints.elem hsl hx
  obtain⟨ad,hel⟩:=w_
  refine eIn hel ?_
  refine ifd (fun hge=>rPl (isF fun hh=>?_)) (fun hge=>?_)
  ·have:=hh x ((g1 x).1 (mAt hx));omega
  refine aC (by omega) (by omega) ⟨i+1,⟨by omega,fun y hy=>?_⟩,by omega,⟨⟨rfl,rfl,rfl,rfl,trivial⟩,trivial,rfl,rfl⟩⟩
  rw[List.take_add_one,hx,Option.toList_some,List.mem_append,List.mem_singleton]at hy
  rcases hy with hy|rfl
  ·exact hall y hy
  ·omega
 ·obtain rfl : i = xs.length := by omega
  rw[List.take_length]at hall
  exact rPl (isT fun m hm=>hall m ((g1 m).2 hm))
end
end Go.Vx
namespace Go.Vx
open Go.Proofs Classical
noncomputable def bO:List Rl→Nat→ByteArray→Int
 |[],_,_=> -1
 |r::l,i,s=>if r.name=s then i else bO l (i+1) s
noncomputable def cE(p:Pg)(s:ByteArray):Int:=bO p.rels 0 s
theorem jY{s:ByteArray}:∀{l:List Rl} {i:Nat},0≤bO l i s→∃(j:Nat) (r:Rl),bO l i s=((i+j:Nat):Int)∧l[j]? =some r∧r.name=s
 |[],i,h=>by simp[bO]at h
 |r::l,i,h=>by
  rw[bO]at h ⊢
  by_cases e:r.name=s
  ·rw[if_pos e];exact⟨0,r,by simp,rfl,e⟩
  ·rw [if_neg e] at h ⊢
   have w_:=jY h
   obtain⟨j,r',h1,h2,h3⟩:=w_
   exact⟨j+1,r',by rw[h1];congr 1;omega,h2,h3⟩
def bP(p:Pg)(g:Gl):Prop:=g.kind=9→∃(i:Nat) (r:Rl),cE p g.name=i∧p.rels[i]? =some r∧r.arity=g.terms.length
section
variable {μ:Mem}
theorem jF{p:Pg}{s:ByteArray}{v:Value}(hv:RepV μ p.d v):aP Tryz.prog 55 [v,.string s] μ (.int .i64 (cE p s)):=by
 have w_:=Pg.inv hv
 obtain⟨q,rfl,hsl⟩:=w_
 have hn:=aJ hsl.max
 refine Spec.mk Tryz.func55 (by kernel_rfl) ?_
 intro r
 refine lIn (fun i:Nat=>i≤p.rels.length∧bO (p.rels.drop i) i s=cE p s) (fun i=>⟨[(1,.val (.string s)),(8,.val (.slice q.1 p.rels.length q.2)),(9,.val (.int .i64 p.rels.length)),(10,.val (.int .i64 i))],[],1,μ,Mem.nil⟩) (fun i=>p.rels.length-i)
  0 ⟨by omega,rfl⟩ (fun _=>⟨rfl,rfl⟩) ⟨⟨rfl,rfl,rfl,rfl,trivial⟩,trivial,rfl,rfl⟩ ?_
 rintro i ⟨hi,hJ⟩
 refine ifd (fun hlt=>?_) (fun hlt=>?_)
 ·have w_ := aSo (l := p.rels) (i := i) (by omega)
  obtain⟨x,hx⟩:=w_
  have w_:=Rl.elem hsl hx
  obtain⟨ad,q2,hel,hr⟩:=w_
  rw[iN hx,bO]at hJ
  refine eIn hel ?_
  intro r2
  refine ifd (fun e=>?_) (fun e=>?_)
  ·rw [if_pos e] at hJ
   exact rGv (by rw[←hJ]) rfl
  ·rw [if_neg e] at hJ
   exact aC (by omega) (by omega) ⟨i+1,⟨by omega,hJ⟩,by omega,⟨⟨rfl,rfl,rfl,rfl,trivial⟩,trivial,rfl,rfl⟩⟩
 ·obtain rfl : i = p.rels.length := by omega
  rw[List.drop_length]at hJ
  exact rGv (by rw[←hJ];rfl) rfl
theorem pF{p:Pg}{s:ByteArray}{v:Value}(hv:RepV μ p.d v):aP Tryz.prog 84 [v,.string s] μ (.int .i64 (cE p s)):=by
 have w_:=Pg.inv hv
 obtain⟨q,rfl,hsl⟩:=w_
 have hn:=aJ hsl.max
 refine Spec.mk Tryz.func84 (by kernel_rfl) ?_
 intro r
 refine lIn (fun i:Nat=>i≤p.rels.length∧bO (p.rels.drop i) i s=cE p s) (fun i=>⟨[(1,.val (.string s)),(8,.val (.slice q.1 p.rels.length q.2)),(9,.val (.int .i64 p.rels.length)),(10,.val (.int .i64 i))],[],1,μ,Mem.nil⟩) (fun i=>p.rels.length-i)
  0 ⟨by omega,rfl⟩ (fun _=>⟨rfl,rfl⟩) ⟨⟨rfl,rfl,rfl,rfl,trivial⟩,trivial,rfl,rfl⟩ ?_
 rintro i ⟨hi,hJ⟩
 refine ifd (fun hlt=>?_) (fun hlt=>?_)
 ·have w_ := aSo (l := p.rels) (i := i) (by omega)
  obtain⟨x,hx⟩:=w_
  have w_:=Rl.elem hsl hx
  obtain⟨ad,q2,hel,hr⟩:=w_
  rw[iN hx,bO]at hJ
  refine eIn hel ?_
  intro r2
  refine ifd (fun e=>?_) (fun e=>?_)
  ·rw [if_pos e] at hJ
   exact rGv (by rw[←hJ]) rfl
  ·rw [if_neg e] at hJ
   exact aC (by omega) (by omega) ⟨i+1,⟨by omega,hJ⟩,by omega,⟨⟨rfl,rfl,rfl,rfl,trivial⟩,trivial,rfl,rfl⟩⟩
 ·obtain rfl : i = p.rels.length := by omega
  rw[List.drop_length]at hJ
  exact rGv (by rw[←hJ];rfl) rfl
theorem vQ{p:Pg}{s:ByteArray}(h:0≤cE p s):∃(j:Nat) (r:Rl),cE p s=(j:Int)∧p.rels[j]? =some r:=by
 have w_:=jY h
 obtain⟨j,r,h1,h2,h3⟩:=w_
 exact⟨j,r,by rw[cE,h1];simp,h2⟩
theorem qD{p:Pg}{g:Gl}(h9:g.kind=9){j:Nat}{r:Rl}(e:cE p g.name=(j:Int))(hr:p.rels[j]? =some r):bP p g↔r.arity=g.terms.length:=by
 constructor
 ·intro h
  have w_:=h h9
  obtain⟨i,r',h1,h2,h3⟩:=w_
  rw[e]at h1
  obtain rfl:j=i:=by omega
  rw[hr]at h2;cases h2
  exact h3
 ·intro h _
  exact⟨j,r,e,hr,h⟩
theorem qH{p:Pg}{g:Gl}(h9:g.kind=9)(h:¬0≤cE p g.name):¬bP p g:=fun k=>by
 have w_:=k h9
 obtain⟨i,r',h1,_,_⟩:=w_
 omega
inductive FitAll (p:Pg):Gl→Prop
 |mk {g:Gl} (top:bP p g) (sub:∀x∈g.goals,FitAll p x):FitAll p g
theorem FitAll.top{p:Pg}{g:Gl}(h:FitAll p g):bP p g:=by cases h;assumption
theorem FitAll.sub{p:Pg}{g:Gl}(h:FitAll p g):∀x∈g.goals,FitAll p x:=by cases h;assumption
theorem xY{p:Pg}{vp:Value}(hp:RepV μ p.d vp):∀(g:Gl) {v:Value},g.Sh→RepV μ g.d v→aP Tryz.prog 121 [vp,v] μ (.bool (decide (FitAll p g))):=by
 have w_:=Pg.inv hp
 obtain⟨q,rfl,hrl⟩:=w_
 refine Gl.ind fun g ih v hS hv=>?_
 have w_:=Gl.inv hv
 obtain⟨q2,rfl,hts,hgs⟩:=w_
 have hn:=aJ hgs.max
 refine Spec.mk Tryz.func121 (by kernel_rfl) ?_
 intro r1 r2
 refine ifd (fun h9=>?_) (fun h9=>?_)
 ·have hg0 : g.goals = [] := List.eq_nil_of_length_eq_zero (hS.top.gl0 (.inr h9))
  have hiff:FitAll p g↔bP p g:=⟨fun h=>h.top,fun h=> .mk h (by rw[hg0];simp)⟩
  refine cGv (pF hp) ?_
  refine ifd (fun h0=>?_) (fun h0=>rGv (isF fun h=>qH h9 h0 h.top) rfl)
  have w_:=vQ h0
  obtain⟨j,rl,e,hr⟩:=w_
  have w_:=Rl.elem hrl hr
  obtain⟨ad,q3,hel,hrr⟩:=w_
  rw[e]
  refine eIn hel ?_
  exact rGv (isI ((qD h9 e hr).symm.trans hiff.symm)) rfl
 ·refine lIn (fun i:Nat=>i≤g.goals.length∧∀x∈g.goals.take i,FitAll p x) (fun i=>⟨[(2,.loc 0 r1 0),(30,.val (.slice q2.2.1 g.goals.length q2.2.2)),(31,.val (.int .i64 g.goals.length)),(32,.val (.int .i64 i))],[(0,some (.cells r1 [.val (.slice q.1 p.rels.length q.2)] 25))],2,μ,Mem.nil⟩) (fun i=>g.goals.length-i)
   0 ⟨by omega,by simp⟩ (fun _=>⟨rfl,rfl⟩) ⟨⟨rfl,rfl,rfl,rfl,trivial⟩,⟨rfl,trivial⟩,rfl,rfl⟩ ?_
  rintro i ⟨hi,hall⟩
  refine ifd (fun hlt=>?_) (fun hlt=>?_)
  ·have w_ := aSo (l := g.goals) (i := i) (by omega)
   obtain⟨t,ht⟩:=w_
   have w_:=Gl.elem hgs ht
   obtain⟨ad,q3,hel,hr⟩:=w_
   refine eIn hel ?_
   intro r3
   refine cGv (ih t (mAt ht) (hS.sub t (mAt ht)) hr) ?_
   refine aM (fun h=>rGv (isF fun S=>h (S.sub t (mAt ht))) rfl) (fun h=>?_)
   refine aC (by omega) (by omega) ⟨i+1,⟨by omega,fun x hx=>?_⟩,by omega,⟨⟨rfl,rfl,rfl,rfl,trivial⟩,⟨rfl,trivial⟩,rfl,rfl⟩⟩
   rw[List.take_add_one,ht,Option.toList_some,List.mem_append,List.mem_singleton]at hx
   rcases hx with hx|rfl
   ·exact hall x hx
   ·exact h
  ·obtain rfl : i = g.goals.length := by omega
   rw[List.take_length]at hall
   exact rGv (isT (.mk (fun h=>absurd h h9) hall)) rfl
end
end Go.Vx
namespace Go.Vx
open Go.Proofs Classical
theorem FitAll.all{p:Pg}:∀{g:Gl},FitAll p g→∀x∈g.all,bP p x:=fun {g}=>by
 refine Gl.ind (q:=fun g=>FitAll p g→∀x∈g.all,bP p x) (fun g ih h x hx=>?_) g
 rw[Gl.all_eq]at hx
 rcases List.mem_cons.1 hx with rfl|hx
 ·exact h.top
 ·have w_ := List.mem_flatMap.1 hx
  obtain⟨y,hy,hx⟩:=w_
  exact ih y hy (h.sub y hy) x hx
theorem FitAll.of{p:Pg}:∀{g:Gl},(∀x∈g.all,bP p x)→FitAll p g:=fun {g}=>by
 refine Gl.ind (q:=fun g=>(∀x∈g.all,bP p x)→FitAll p g) (fun g ih h=>?_) g
 rw[Gl.all_eq]at h
 exact .mk (h g (by simp)) fun y hy=>ih y hy fun x hx=>h x (List.mem_cons_of_mem _ (List.mem_flatMap.2 ⟨y,hy,hx⟩))
theorem zS{α:Type}(f:α→Prop):∀(l:List α) (b:Bool),l.foldl (fun b x=>b&&decide (f x)) b=(b&&decide (∀x∈l,f x))
 |[],b=>by simp
 |a::l,b=>by
  rw[List.foldl_cons,zS f l,Bool.and_assoc]
  congr 1
  by_cases h:f a
  ·simp[h]
  ·simp[h]
section
variable {μ:Mem}
theorem tR{p:Pg}{q:Pg.P}{rp rf:Nat}{b:Bool}{h:Mem}{g:Gl}{v:Value}(hp:RepV μ p.d (.agg #[.slice q.1 p.rels.length q.2]))(hrl:Sl μ 7 q.1 p.rels.length (p.rels.map Rl.d))(hat:μ rp=some (.cells #[.slice q.1 p.rels.length q.2] 25 (0,0)))
  (hv:RepV μ g.d v) (hf:h rf=some (.cells #[.bool b] 4 (0,0))):
  SpecH Tryz.prog 101 [v,.pointer (some ⟨rp,0,none⟩),.pointer (some ⟨rf,0,none⟩)] μ h fun r μ' h'=>r= .tuple #[]∧μ'=μ∧h' rf=some (.cells #[.bool (b&&decide (bP p g))] 4 (0,0)):=by
 have w_:=Gl.inv hv
 obtain⟨q2,rfl,hts,hgs⟩:=w_
 refine SpecH.mk [] Tryz.func101 (by kernel_rfl) ?_
 intro r
 refine ifd (fun h9=>?_) (fun h9=>?_)
 rotate_left
 ·have : bP p g := fun k => absurd k h9
  exact rPl ⟨rfl,rfl,by rw[decide_eq_true this,Bool.and_true];exact hf⟩
 refine bM [.slice q.1 p.rels.length q.2] rfl (bX hat) ?_
 refine cGv (jF hp) ?_
 refine ifd (fun h0=>?_) (fun h0=>?_)
 ·have : ¬ bP p g := qH h9 (by omega)
  refine sIn [.bool b] 4 hf rfl (Nat.le_refl _) ?_
  exact rPl ⟨rfl,rfl,by rw[decide_eq_false this,Bool.and_false];exact Mem.set_at _ _ _⟩
 ·have w_ := vQ (Int.not_lt.1 h0)
  obtain⟨j,rl,e,hr⟩:=w_
  have w_:=Rl.elem hrl hr
  obtain⟨ad,q3,hel,hrr⟩:=w_
  have hiff:=qD h9 e hr
  refine bM [.slice q.1 p.rels.length q.2] rfl (fun j v hj=>by show μ.cell (((⟨rp,0,none⟩:Addr).add 0).add j)=some v;rw[add_add,Nat.zero_add];exact bX hat j v hj) ?_
  rw[e]
  refine eIn hel ?_
  refine aM (fun hne=>?_) (fun heq=>?_)
  ·have : ¬ bP p g := fun k => hne (hiff.1 k)
   refine sIn [.bool b] 4 hf rfl (Nat.le_refl _) ?_
   exact rPl ⟨rfl,rfl,by rw[decide_eq_false this,Bool.and_false];exact Mem.set_at _ _ _⟩
  ·have : bP p g := hiff.2 heq
   exact rPl ⟨rfl,rfl,by rw[decide_eq_true this,Bool.and_true];exact hf⟩
theorem wW{p:Pg}{vp v:Value}{g:Gl}(hp:RepV μ p.d vp)(hv:RepV μ g.d v):Spec Tryz.prog 65 [vp,v] μ fun r _=>r= .bool (decide (FitAll p g)):=by
 have w_:=Pg.inv hp
 obtain⟨q,rfl,hrl⟩:=w_
 have w_:=Gl.invV hv
 obtain⟨q2,rfl⟩:=w_
 refine Spec.mkO [5] Tryz.func65 (by kernel_rfl) ?_
 intro r1 r2
 intro rf hmf hof
 refine sIn [.bool false] 4 (Mem.set_at _ _ _) rfl (Nat.le_refl _) ?_
 generalize hh:Mem.set (Mem.set _ rf _) rf _=h0
 have hf0:h0 rf=some (.cells #[.bool true] 4 (0,0)):=by subst hh;rw[Mem.set_at];rfl
 refine wJ [0] [] (fun _=>rfl) ?_
 intro μ1 hle1 hno1 hat1
 refine rT (kR (fun b h=>h rf=some (.cells #[.bool b] 4 (0,0))) (fun b x=>b&&decide (bP p x)) (fun _=>True) (fun b h x w _ hw hj=>tR (hp.mono hle1) (hrl.mono hle1) hat1 hw hj) g true h0 (hv.mono hle1) (fun _ _=>trivial) hf0) fun v μ2 h' hle hap hR=>?_
 obtain⟨rfl,e2,hj⟩:=hR
 obtain rfl:=e2.symm
 rw[zS,Bool.true_and]at hj
 refine oIn [.bool _] rfl (bX hj) ?_
 exact rPl (isI ⟨fun h=>FitAll.of h,fun h=>h.all⟩)
end
end Go.Vx
namespace Go.Vx
open Go.Proofs Classical
structure RelOk (p:Pg) (i:Nat) (r:Rl):Prop where
 at_:cE p r.name=i
 name:gJ r.name
 ar0:0≤r.arity
 ar4:r.arity≤4
 lo0:0≤r.locals
 lo8:r.locals≤8
 body:r.body.Sh
 size:r.body.cnt≤60
 vars:∀n∈r.body.vars,n<r.arity+r.locals
 calls:FitAll p r.body
def Pg.Ok(p:Pg):Prop:=p.rels.length≤8∧∀(i:Nat) (r:Rl),p.rels[i]? =some r→RelOk p i r
section
variable {μ:Mem}
theorem eH{p:Pg}{v:Value}(hp:RepV μ p.d v):Spec Tryz.prog 34 [v] μ fun r _=>r= .bool (decide p.Ok):=by
 have w_:=Pg.inv hp
 obtain⟨q,rfl,hrl⟩:=w_
 refine Spec.mk Tryz.func34 (by kernel_rfl) ?_
 intro r1
 refine ifd (fun h8=>rPl (isF fun h=>by have:=h.1;omega)) (fun h8=>?_)
 refine lIn (fun x:Nat×Mem=>x.1≤p.rels.length∧μ.Le x.2∧∀(j:Nat) (r:Rl),j<x.1→p.rels[j]? =some r→RelOk p j r)
  (fun(i,μ')=>⟨[(1,.loc 0 r1 0),(10,.val (.slice q.1 p.rels.length q.2)),(11,.val (.int .i64 p.rels.length)),(12,.val (.int .i64 i))],[(0,some (.cells r1 [.val (.slice q.1 p.rels.length q.2)] 25))],1,μ',Mem.nil⟩) (fun x=>p.rels.length-x.1)
  (0,μ) ⟨by simp,Mem.Le.refl _,fun j r hj=>by simp at hj⟩ (fun(_,_)=>⟨rfl,rfl⟩) ⟨⟨rfl,rfl,rfl,rfl,trivial⟩,⟨rfl,trivial⟩,rfl,rfl⟩ ?_
 rintro⟨i,μ'⟩ ⟨hi,hle,hall⟩
 dsimp only at hi hle hall
 refine ifd (fun hlt=>?_) (fun hlt=>?_)
 ·have w_ := aSo (l := p.rels) (i := i) (by omega)
  obtain⟨x,hx⟩:=w_
  have w_:=Rl.elemA (hrl.mono hle) hx
  obtain⟨ad,q2,hel,hr,hb⟩:=w_
  have hb:RepV μ' x.body.d (.agg (x.body.cs q2).toArray):=hb
  have bad:¬RelOk p i x→Value.bool false= .bool (decide p.Ok):=fun h=>isF fun k=>h (k.2 i x hx)
  refine eIn hel ?_
  intro r2
  refine cGv (gL _ _) ?_
  refine aM (fun h=>rPl (bad fun k=>h k.name)) (fun g1=>?_)
  refine cGv (jF (hp.mono hle)) ?_
  refine aM (fun h=>rPl (bad fun k=>h k.at_)) (fun g2=>?_)
  refine ifd (fun h=>rPl (bad fun k=>by have:=k.ar0;omega)) (fun g3=>?_)
  refine ifd (fun h=>rPl (bad fun k=>by have:=k.ar4;omega)) (fun g4=>?_)
  refine ifd (fun h=>rPl (bad fun k=>by have:=k.lo0;omega)) (fun g5=>?_)
  refine ifd (fun h=>rPl (bad fun k=>by have:=k.lo8;omega)) (fun g6=>?_)
  refine cGv (uR x.body hb (by decide) (by decide)) ?_
  refine ifd (fun h=>rPl (bad fun k=>Gl.nodes_lt h ⟨k.body,by have:=k.size;omega⟩)) (fun h=>?_)
  have w_:=Gl.nodes_ge h
  obtain⟨g7,g8,_⟩:=w_
  refine aC (by omega) (by omega) ?_
  refine cPl (vP g7 hb) fun v1 μ1 hle1 hR=>?_
  obtain rfl:=hR
  refine aM (fun h=>rPl (bad fun k=>h k.vars)) (fun g9=>?_)
  refine cPl (wW ((hp.mono hle).mono hle1) (hb.mono hle1)) fun v2 μ2 hle2 hR=>?_
  obtain rfl:=hR
  refine aM (fun h=>rPl (bad fun k=>h k.calls)) (fun g10=>?_)
  have hok:RelOk p i x:=⟨g2,g1,by omega,by omega,by omega,by omega,g7,by omega,g9,g10⟩
  refine aC (by omega) (by omega) ⟨(i+1,μ2),⟨by dsimp only;omega,(hle.trans hle1).trans hle2,fun j r hj hr=>?_⟩,by dsimp only;omega,⟨⟨rfl,rfl,rfl,rfl,trivial⟩,⟨rfl,trivial⟩,rfl,rfl⟩⟩
  rcases Nat.lt_or_ge j i with h6|h6
  ·exact hall j r h6 hr
  ·obtain rfl : j = i := by omega
   rw[hx]at hr;cases hr;exact hok
 ·obtain rfl : i = p.rels.length := by omega
  exact rPl (isT ⟨by omega,fun j r hr=>hall j r (List.getElem?_eq_some_iff.1 hr).1 hr⟩)
noncomputable def Gl.count(g:Gl):Int:=if g.Ok then g.cnt else 0
theorem oQ(g:Gl){v:Value}(hv:RepV μ g.d v)(hw:g.d.wd):aP Tryz.prog 87 [v] μ (.int .i64 g.count):=by
 have w_:=Gl.invV hv
 obtain⟨p,rfl⟩:=w_
 refine Spec.mk Tryz.func87 (by kernel_rfl) ?_
 intro r
 refine cGv (jJ g hv hw) ?_
 refine aM (fun h=>rGv (by rw[Gl.count,if_neg h]) rfl) (fun h=>?_)
 refine cGv (nS g hv (by decide) (by decide)) ?_
 refine rGv ?_ rfl
 congr 1
 have:=h.2
 have:=g.cnt_pos
 rw[Gl.count,if_pos h,eF]
 omega
end
end Go.Vx
namespace Go.Vx
open Go.Proofs Classical
theorem kW{l:List Int}{n:Int}{k:Nat}(hs:l.Pairwise (·<·))(h1:∀y∈l.take k,y<n)(h2:∀y∈l.drop k,n<y):(cU l n k).Pairwise (·<·):=by
 unfold cU
 rw[List.pairwise_append]
 refine⟨hs.sublist (List.take_sublist _ _),?_,?_⟩
 ·rw [List.singleton_append, List.pairwise_cons]
  exact⟨h2,hs.sublist (List.drop_sublist _ _)⟩
 ·intro a ha b hb
  rcases List.mem_append.1 hb with hb|hb
  ·rw[List.mem_singleton]at hb;subst hb;exact h1 a ha
  ·have:=h1 a ha;have:=h2 b hb;omega
theorem qAs{l:List Int}(hs:l.Pairwise (·<·)){i j:Nat}{x y:Int}(h:i<j)(hx:l[i]? =some x)(hy:l[j]? =some y):x<y:=by
 have w_:=List.getElem?_eq_some_iff.1 hx
 obtain⟨h1,rfl⟩:=w_
 have w_:=List.getElem?_eq_some_iff.1 hy
 obtain⟨h2,rfl⟩:=w_
 exact List.pairwise_iff_getElem.1 hs i j h1 h2 h
theorem qIv{l:List Int}(hs:l.Pairwise (·<·)){k:Nat}{n:Int}(h:k=0∨∃x,l[k-1]? =some x∧x<n):∀y∈l.take k,y<n:=fun y hy=>by
 have w_:=List.mem_iff_getElem?.1 hy
 obtain⟨i,hi⟩:=w_
 rw[List.getElem?_take]at hi
 split at hi
 ·rename_i hik
  rcases h with rfl|⟨x,hx,hxn⟩
  ·omega
  ·rcases Nat.lt_or_ge i (k - 1) with h1 | h1
   ·have:=qAs hs h1 hi hx;omega
   ·obtain rfl : i = k - 1 := by omega
    rw[hx]at hi;cases hi;exact hxn
 ·cases hi
theorem tI{l:List Int}(hs:l.Pairwise (·<·)){k:Nat}{n:Int}(h:∀(j:Nat) y,k≤j→l[j]? =some y→n≤y)(hne:∀y,l[k]? =some y→y≠n):∀y∈l.drop k,n<y:=fun y hy=>by
 have w_:=List.mem_iff_getElem?.1 hy
 obtain⟨i,hi⟩:=w_
 rw[List.getElem?_drop]at hi
 have h1:=h (k+i) y (by omega) hi
 rcases Nat.eq_zero_or_pos i with rfl|h2
 ·have := hne y (by simpa using hi)
  omega
 ·have hk : k < l.length := by have := (List.getElem?_eq_some_iff.1 hi).1; omega
  have hkk:l[k]? =some l[k]:=List.getElem?_eq_getElem hk
  have h3:=h k _ (Nat.le_refl _) hkk
  have:=qAs hs (by omega:k<k+i) hkk hi
  omega
section
variable {μ:Mem}
theorem sX{l:List Int}{v:Value}{n:Int}(hv:RepV μ (.sl 1 (l.map D.i)) v)(hb:l.length≤1000000000)(hs:l.Pairwise (·<·)):Spec Tryz.prog 157 [v,.int .i64 n] μ fun v μ'=>∃r:List Int,RepV μ' (.sl 1 (r.map D.i)) v∧(∀x,x∈r↔x=n∨x∈l)∧r.Pairwise (·<·):=by
 have w_:=Rep.sl hv
 obtain⟨base,cap,rfl,hsl⟩:=w_
 have hcap:=Rep.lens hv
 rw[List.length_map]at hsl hcap hv ⊢
 refine Spec.mk Tryz.func157 (by kernel_rfl) ?_
 refine lIn (fun k:Nat=>k≤l.length∧∀(j:Nat) y,k≤j→l[j]? =some y→n≤y) (fun k=>⟨[(0,.val (.slice base l.length cap)),(1,.val (.int .i64 n)),(5,.val (.int .i64 k))],[],0,μ,Mem.nil⟩) (fun k=>k)
  l.length ⟨Nat.le_refl _,fun j y hj hy=>absurd (List.getElem?_eq_some_iff.1 hy).1 (by omega)⟩ (fun i=>⟨rfl,rfl⟩) ⟨⟨rfl,rfl,rfl,trivial⟩,trivial,rfl,rfl⟩ ?_
 rintro k ⟨hk,hge⟩
 refine ifd (fun h1=>?_) (fun h1=>?_)
 ·have w_ := aSo (l := l) (i := k - 1) (by omega)
  obtain⟨x,hx⟩:=w_
  have w_:=Ints.elem hsl hx
  obtain⟨ad,hel⟩:=w_
  refine nEq (x:=((k-1:Nat):Int)) (by rw[aA (by omega) (by omega)];omega) ?_
  refine eIn hel ?_
  refine ifd (fun h2=>?_) (fun h2=>?_)
  ·refine nEq (x := ((k - 1 : Nat) : Int)) (by rw [aA (by omega) (by omega)]; omega) ⟨k - 1, ⟨by omega, fun j y hj hy => ?_⟩, by omega, ⟨⟨rfl, rfl, rfl, trivial⟩, trivial, rfl, rfl⟩⟩
   rcases Nat.lt_or_ge j k with h3|h3
   ·obtain rfl : j = k - 1 := by omega
    rw[hx]at hy;cases hy;exact h2
   ·exact hge j y h3 hy
  ·have htk := qIv hs (k := k) (n := n) (.inr ⟨x, hx, by omega⟩)
   refine ifd (fun h3=>?_) (fun h3=>?_)
   ·have w_ := aSo (l := l) (i := k) (by omega)
    obtain⟨y,hy⟩:=w_
    have w_:=Ints.elem hsl hy
    obtain⟨ad2,hel2⟩:=w_
    refine eIn hel2 ?_
    refine ifd (fun h4=>rPl ⟨l,hv,fun x=>⟨.inr,fun hx=>hx.elim (fun e=>by rw[e,←h4];exact mAt hy) id⟩,hs⟩) (fun h4=>?_)
    have hgt:=tI hs hge (fun z hz=>by rw[hy]at hz;cases hz;exact h4)
    intro r0
    refine aQ 0 k rfl rfl (by omega) (by omega) ?_
    refine bB _ (Ints.src hsl (a:=0) (b:=k) (by omega) hk hcap) ?_
    refine gIn ?_ ?_ fun b1 c1 _=>?_
    ·show(0+(aO _).length)*8≤_;simp[aO];omega
    ·show 0+(aO _).length≤9223372036854775807;simp[aO];omega
    intro r1
    refine gIn ?_ ?_ fun b2 c2 _=>?_
    ·show(([]++aO _).length+1)*8≤_;simp[aO];omega
    ·show([]++aO _).length+1≤9223372036854775807;simp[aO];omega
    refine aQ k l.length rfl rfl hk (by omega) ?_
    refine bB _ (Ints.src hsl (a:=k) (b:=l.length) hk (Nat.le_refl _) hcap) ?_
    refine gIn ?_ ?_ fun b3 c3 _=>?_
    ·show(([]++aO _++[_]).length+(aO _).length)*8≤_;simp[aO];omega
    ·show([]++aO _++[_]).length+(aO _).length≤9223372036854775807;simp[aO];omega
    refine rFz [0] fun μ' hle hno hrow=> .inl ⟨cU l n k,?_,kH l n k,kW hs htk hgt⟩
    have e:[]++aO ((l.drop 0).take (k-0))++[.int .i64 n]++aO ((l.drop k).take (l.length-k))=aO (cU l n k):=by
     simp[aO,cU]
     rw[List.take_of_length_le (by simp)]
    rw[e]at hrow ⊢
    exact Ints.sl hrow (Nat.le_trans (m:=2000000000) (by simp[cU];omega) (by decide))
   ·have hgt := tI hs hge (fun z hz => by have := (List.getElem?_eq_some_iff.1 hz).1; omega)
    intro r0
    refine aQ 0 k rfl rfl (by omega) (by omega) ?_
    refine bB _ (Ints.src hsl (a:=0) (b:=k) (by omega) hk hcap) ?_
    refine gIn ?_ ?_ fun b1 c1 _=>?_
    ·show(0+(aO _).length)*8≤_;simp[aO];omega
    ·show 0+(aO _).length≤9223372036854775807;simp[aO];omega
    intro r1
    refine gIn ?_ ?_ fun b2 c2 _=>?_
    ·show(([]++aO _).length+1)*8≤_;simp[aO];omega
    ·show([]++aO _).length+1≤9223372036854775807;simp[aO];omega
    refine aQ k l.length rfl rfl hk (by omega) ?_
    refine bB _ (Ints.src hsl (a:=k) (b:=l.length) hk (Nat.le_refl _) hcap) ?_
    refine gIn ?_ ?_ fun b3 c3 _=>?_
    ·show(([]++aO _++[_]).length+(aO _).length)*8≤_;simp[aO];omega
    ·show([]++aO _++[_]).length+(aO _).length≤9223372036854775807;simp[aO];omega
    refine rFz [0] fun μ' hle hno hrow=> .inl ⟨cU l n k,?_,kH l n k,kW hs htk hgt⟩
    have e:[]++aO ((l.drop 0).take (k-0))++[.int .i64 n]++aO ((l.drop k).take (l.length-k))=aO (cU l n k):=by
     simp[aO,cU]
     rw[List.take_of_length_le (by simp)]
    rw[e]at hrow ⊢
    exact Ints.sl hrow (Nat.le_trans (m:=2000000000) (by simp[cU];omega) (by decide))
 ·have htk := qIv hs (k := k) (n := n) (.inl (by omega))
  refine ifd (fun h3=>?_) (fun h3=>?_)
  ·have w_ := aSo (l := l) (i := k) (by omega)
   obtain⟨y,hy⟩:=w_
   have w_:=Ints.elem hsl hy
   obtain⟨ad2,hel2⟩:=w_
   refine eIn hel2 ?_
   refine ifd (fun h4=>rPl ⟨l,hv,fun x=>⟨.inr,fun hx=>hx.elim (fun e=>by rw[e,←h4];exact mAt hy) id⟩,hs⟩) (fun h4=>?_)
   have hgt:=tI hs hge (fun z hz=>by rw[hy]at hz;cases hz;exact h4)
   intro r0
   refine aQ 0 k rfl rfl (by omega) (by omega) ?_
   refine bB _ (Ints.src hsl (a:=0) (b:=k) (by omega) hk hcap) ?_
   refine gIn ?_ ?_ fun b1 c1 _=>?_
   ·show(0+(aO _).length)*8≤_;simp[aO];omega
   ·show 0+(aO _).length≤9223372036854775807;simp[aO];omega
   intro r1
   refine gIn ?_ ?_ fun b2 c2 _=>?_
   ·show(([]++aO _).length+1)*8≤_;simp[aO];omega
   ·show([]++aO _).length+1≤9223372036854775807;simp[aO];omega
   refine aQ k l.length rfl rfl hk (by omega) ?_
   refine bB _ (Ints.src hsl (a:=k) (b:=l.length) hk (Nat.le_refl _) hcap) ?_
   refine gIn ?_ ?_ fun b3 c3 _=>?_
   ·show(([]++aO _++[_]).length+(aO _).length)*8≤_;simp[aO];omega
   ·show([]++aO _++[_]).length+(aO _).length≤9223372036854775807;simp[aO];omega
   refine rFz [0] fun μ' hle hno hrow=> .inl ⟨cU l n k,?_,kH l n k,kW hs htk hgt⟩
   have e:[]++aO ((l.drop 0).take (k-0))++[.int .i64 n]++aO ((l.drop k).take (l.length-k))=aO (cU l n k):=by
    simp[aO,cU]
    rw[List.take_of_length_le (by simp)]
   rw[e]at hrow ⊢
   exact Ints.sl hrow (Nat.le_trans (m:=2000000000) (by simp[cU];omega) (by decide))
  ·have hgt := tI hs hge (fun z hz => by have := (List.getElem?_eq_some_iff.1 hz).1; omega)
   intro r0
   refine aQ 0 k rfl rfl (by omega) (by omega) ?_
   refine bB _ (Ints.src hsl (a:=0) (b:=k) (by omega) hk hcap) ?_
   refine gIn ?_ ?_ fun b1 c1 _=>?_
   ·show(0+(aO _).length)*8≤_;simp[aO];omega
   ·show 0+(aO _).length≤9223372036854775807;simp[aO];omega
   intro r1
   refine gIn ?_ ?_ fun b2 c2 _=>?_
   ·show(([]++aO _).length+1)*8≤_;simp[aO];omega
   ·show([]++aO _).length+1≤9223372036854775807;simp[aO];omega
   refine aQ k l.length rfl rfl hk (by omega) ?_
   refine bB _ (Ints.src hsl (a:=k) (b:=l.length) hk (Nat.le_refl _) hcap) ?_
   refine gIn ?_ ?_ fun b3 c3 _=>?_
   ·show(([]++aO _++[_]).length+(aO _).length)*8≤_;simp[aO];omega
   ·show([]++aO _++[_]).length+(aO _).length≤9223372036854775807;simp[aO];omega
   refine rFz [0] fun μ' hle hno hrow=> .inl ⟨cU l n k,?_,kH l n k,kW hs htk hgt⟩
   have e:[]++aO ((l.drop 0).take (k-0))++[.int .i64 n]++aO ((l.drop k).take (l.length-k))=aO (cU l n k):=by
    simp[aO,cU]
    rw[List.take_of_length_le (by simp)]
   rw[e]at hrow ⊢
   exact Ints.sl hrow (Nat.le_trans (m:=2000000000) (by simp[cU];omega) (by decide))
structure VL (l:List Int):Prop where
 srt:l.Pairwise (·<·)
 rng:∀x∈l,0≤x∧x≤100000
theorem VL.len{l:List Int}(h:VL l):l.length≤100001:=by
 refine nodup_range (N:=100001) ?_ fun n hn=>by have:=h.rng n hn;omega
 rw[List.nodup_iff_pairwise_ne]
 exact h.srt.imp fun hab e=>by omega
def qEx(μ':Mem)(l vs:List Int)(v:Value):Prop:=∃r:List Int,RepV μ' (.sl 1 (r.map D.i)) v∧(∀x,x∈r↔x∈vs∨x∈l)∧VL r
theorem wV:∀(x:T) {μ:Mem} {l:List Int} {w v:Value},x.good→RepV μ x.tm.d w→RepV μ (.sl 1 (l.map D.i)) v→VL l→Spec Tryz.prog 149 [w,v] μ fun v μ'=>qEx μ' l x.vars v:=
 T.ind fun x ih μ l w v hgd hw hv hb=>by
  have hrng:=T.vars_range hgd
  have w_:=T.inv hw
  obtain⟨base,cap,rfl,hsl⟩:=w_
  have hn:=aJ hsl.max
  refine Spec.mk Tryz.func149 (by kernel_rfl) ?_
  intro r
  refine ifd (fun h=>?_) (fun h=>?_)
  ·have e : x.vars = [x.tm.num] := by cases x <;> simp_all [T.vars, T.tm, Tm.kind, Tm.num]
   refine cPl (sX hv (by have:=hb.len;omega) hb.srt) fun v' μ' hle hR=>rPl ?_
   obtain⟨r,h1,h2,h3⟩:=hR
   refine⟨r,h1,by simpa[e]using h2,h3,fun y hy=>?_⟩
   rcases(h2 y).1 hy with rfl|hy
   ·exact hrng _ (by rw[e];simp)
   ·exact hb.rng y hy
  have e:=T.vars_args h
  have hgs:∀y∈x.args,y.good:=fun y hy=>by
   cases x with
   |pair a b=>
    simp only[T.args,List.mem_cons,List.not_mem_nil,or_false]at hy
    rcases hy with rfl|rfl
    ·exact hgd.1
    ·exact hgd.2
   |_=>simp[T.args]at hy
  refine lIn (fun p:Nat×Value×Mem=>p.1≤x.args.length∧μ.Le p.2.2∧qEx p.2.2 l ((x.args.take p.1).flatMap T.vars) p.2.1)
   (fun(i,v,μ')=>⟨[(1,.val v),(15,.val (.slice base x.args.length cap)),(16,.val (.int .i64 x.args.length)),(17,.val (.int .i64 i))],[],1,μ',Mem.nil⟩) (fun p=>x.args.length-p.1)
   (0,v,μ) ⟨by simp,Mem.Le.refl μ,l,hv,by simp,hb⟩ (fun(_,_,_)=>⟨rfl,rfl⟩) ⟨⟨rfl,rfl,rfl,rfl,trivial⟩,trivial,rfl,rfl⟩ ?_
  rintro⟨i,v,μ'⟩ ⟨hi,hle,r,h1,h2,h3⟩
  dsimp only at hi hle h1 h2 h3
  refine ifd (fun h=>?_) (fun h=>?_)
  ·have w_ := aSo (l := x.args) (i := i) (by omega)
   obtain⟨t,ht⟩:=w_
   have ht':(x.args.map T.tm)[i]? =some t.tm:=by simp[ht]
   have w_:=Tm.elem (hsl.mono hle) ht'
   obtain⟨ad,p,hel,hr⟩:=w_
   have hsucc:(x.args.take (i+1)).flatMap T.vars=(x.args.take i).flatMap T.vars++t.vars:=by
    rw[List.take_add_one,ht,Option.toList_some,List.flatMap_append];simp
   refine eIn hel ?_
   intro r2
   refine cPl (ih t (mAt ht) (hgs t (mAt ht)) hr h1 h3) fun v' μ'' hle2 hR=>?_
   obtain⟨q,g1,g2,g3⟩:=hR
   refine aC (by omega) (by omega) ⟨(i+1,v',μ''),⟨by dsimp only;omega,hle.trans hle2,q,g1,fun y=>?_,g3⟩,by dsimp only;omega,⟨⟨rfl,rfl,rfl,rfl,trivial⟩,trivial,rfl,rfl⟩⟩
   dsimp only
   rw[g2,h2,hsucc,List.mem_append]
   constructor
   ·rintro(h|h|h)<;>simp[h]
   ·rintro((h|h)|h)<;>simp[h]
  ·obtain rfl : i = x.args.length := by omega
   rw[List.take_length]at h2
   exact rPl ⟨r,h1,by rw[e];exact h2,h3⟩
end
end Go.Vx
namespace Go.Vx
open Go.Proofs Classical
theorem Gl.vars_eq(g:Gl):g.vars=g.tvars++g.goals.flatMap Gl.vars:=by
 rw[Gl.vars,Gl.all_eq,List.flatMap_cons,List.flatMap_assoc]
 rfl
section
variable {μ:Mem}
theorem qBl:∀(g:Gl) {μ:Mem} {l:List Int} {w v:Value},g.Sh→RepV μ g.d w→RepV μ (.sl 1 (l.map D.i)) v→VL l→Spec Tryz.prog 122 [w,v] μ fun v μ'=>qEx μ' l g.vars v:=
 Gl.ind fun g ih μ l w v hS hw hv hb=>by
  have w_:=Gl.inv hw
  obtain⟨p,rfl,hts,hgs⟩:=w_
  have w_:=gO hS.top.tm
  obtain⟨xs,hxs,hxo⟩:=w_
  have htv:g.tvars=xs.flatMap T.vars:=by rw[Gl.tvars,hxs,toTs_tm']
  rw[hxs,List.length_map]at hts ⊢
  have hn:=aJ hts.max
  have hn2:=aJ hgs.max
  refine Spec.mk Tryz.func122 (by kernel_rfl) ?_
  intro r1
  refine lIn (fun p:Nat×Value×Mem=>p.1≤xs.length∧μ.Le p.2.2∧qEx p.2.2 l ((xs.take p.1).flatMap T.vars) p.2.1)
   (fun(i,v,μ')=>⟨[(1,.val v),(2,.loc 0 r1 0),(10,.val (.slice p.1.1 xs.length p.1.2)),(11,.val (.int .i64 xs.length)),(12,.val (.int .i64 i))],[(0,some (.cells r1 [.val (.int .i64 g.kind),.val (.string g.name),.val (.slice p.1.1 xs.length p.1.2),.val (.slice p.2.1 g.goals.length p.2.2)] 31))],1,μ',Mem.nil⟩) (fun p=>xs.length-p.1)
   (0,v,μ) ⟨by simp,Mem.Le.refl μ,l,hv,by simp,hb⟩ (fun(_,_,_)=>⟨rfl,rfl⟩) ⟨⟨rfl,rfl,rfl,rfl,rfl,trivial⟩,⟨rfl,trivial⟩,rfl,rfl⟩ ?_
  rintro⟨i,v,μ'⟩ ⟨hi,hle,r,h1,h2,h3⟩
  dsimp only at hi hle h1 h2 h3
  refine ifd (fun h=>?_) (fun h=>?_)
  ·have w_ := aSo (l := xs) (i := i) (by omega)
   obtain⟨t,ht⟩:=w_
   have w_:=Tm.elem (i:=i) (t:=t.tm) (hts.mono hle) (by simp[ht])
   obtain⟨ad,p3,hel,hr⟩:=w_
   have hsucc:(xs.take (i+1)).flatMap T.vars=(xs.take i).flatMap T.vars++t.vars:=by
    rw[List.take_add_one,ht,Option.toList_some,List.flatMap_append];simp
   refine eIn hel ?_
   intro r2
   refine cPl (wV t (hxo t (mAt ht)).1 hr h1 h3) fun v' μ'' hle2 hR=>?_
   obtain⟨q,g1,g2,g3⟩:=hR
   refine aC (by omega) (by omega) ⟨(i+1,v',μ''),⟨by dsimp only;omega,hle.trans hle2,q,g1,fun y=>?_,g3⟩,by dsimp only;omega,⟨⟨rfl,rfl,rfl,rfl,rfl,trivial⟩,⟨rfl,trivial⟩,rfl,rfl⟩⟩
   dsimp only
   rw[g2,h2,hsucc,List.mem_append]
   constructor
   ·rintro(h|h|h)<;>simp[h]
   ·rintro((h|h)|h)<;>simp[h]
  ·obtain rfl : i = xs.length := by omega
   rw[List.take_length]at h2
   have hgs1:=hgs.mono hle
   refine lIn (fun x:Nat×Value×Mem=>x.1≤g.goals.length∧μ'.Le x.2.2∧qEx x.2.2 l (g.tvars++(g.goals.take x.1).flatMap Gl.vars) x.2.1)
    (fun(i,v,μ'')=>⟨[(1,.val v),(21,.val (.slice p.2.1 g.goals.length p.2.2)),(22,.val (.int .i64 g.goals.length)),(23,.val (.int .i64 i))],[],1,μ'',Mem.nil⟩) (fun x=>g.goals.length-x.1)
    (0,v,μ') ⟨by simp,Mem.Le.refl μ',r,h1,by simpa[htv]using h2,h3⟩ (fun(_,_,_)=>⟨rfl,rfl⟩) ⟨⟨rfl,rfl,rfl,rfl,trivial⟩,trivial,rfl,rfl⟩ ?_
   rintro⟨i,v2,μ2⟩ ⟨hi,hle2,r2,k1,k2,k3⟩
   dsimp only at hi hle2 k1 k2 k3
   refine ifd (fun h=>?_) (fun h=>?_)
   ·have w_ := aSo (l := g.goals) (i := i) (by omega)
    obtain⟨t,ht⟩:=w_
    have w_:=Gl.elem (hgs1.mono hle2) ht
    obtain⟨ad,p3,hel,hr⟩:=w_
    have hsucc:(g.goals.take (i+1)).flatMap Gl.vars=(g.goals.take i).flatMap Gl.vars++t.vars:=by
     rw[List.take_add_one,ht,Option.toList_some,List.flatMap_append];simp
    refine eIn hel ?_
    intro r3
    refine cPl (ih t (mAt ht) (hS.sub t (mAt ht)) hr k1 k3) fun v' μ3 hle3 hR=>?_
    obtain⟨q,g1,g2,g3⟩:=hR
    refine aC (by omega) (by omega) ⟨(i+1,v',μ3),⟨by dsimp only;omega,hle2.trans hle3,q,g1,fun y=>?_,g3⟩,by dsimp only;omega,⟨⟨rfl,rfl,rfl,rfl,trivial⟩,trivial,rfl,rfl⟩⟩
    dsimp only
    rw[g2,k2,hsucc,←List.append_assoc,List.mem_append (s:=g.tvars++_)]
    constructor
    ·rintro(h|h|h)<;>simp[h]
    ·rintro((h|h)|h)<;>simp[h]
   ·obtain rfl : i = g.goals.length := by omega
    rw[List.take_length,←Gl.vars_eq]at k2
    exact rPl ⟨r2,k1,k2,k3⟩
theorem VL.last{l:List Int}(h:VL l){n x:Int}(hx:l[l.length-1]? =some x):(∀y∈l,y<n)↔x<n:=by
 constructor
 ·intro k;exact k x (List.mem_of_getElem? hx)
 ·intro k y hy
  have w_:=List.mem_iff_getElem?.1 hy
  obtain⟨i,hi⟩:=w_
  have hil:=(List.getElem?_eq_some_iff.1 hi).1
  rcases Nat.lt_or_ge i (l.length-1)with h1|h1
  ·have:=qAs h.srt h1 hi hx;omega
  ·obtain rfl : i = l.length - 1 := by omega
   rw[hx]at hi;cases hi;exact k
def Fits(p:Pg)(g:Gl)(n:Int):Prop:=g.Ok∧FitAll p g∧∀m∈g.vars,m<n
theorem qBr{p:Pg}{g:Gl}{n:Int}{vp v:Value}(hp:RepV μ p.d vp)(hv:RepV μ g.d v)(hw:g.d.wd):Spec Tryz.prog 86 [vp,v,.int .i64 n] μ fun r _=>r= .bool (decide (Fits p g n)):=by
 have w_:=Pg.inv hp
 obtain⟨q,rfl,hrl⟩:=w_
 have w_:=Gl.invV hv
 obtain⟨q2,rfl⟩:=w_
 refine Spec.mk Tryz.func86 (by kernel_rfl) ?_
 intro r1 r2
 refine cGv (jJ g hv hw) ?_
 refine aM (fun h=>rPl (isF fun k=>h k.1)) (fun h1=>?_)
 refine cGv (xY hp g h1.1 hv) ?_
 refine aM (fun h=>rPl (isF fun k=>h k.2.1)) (fun h2=>?_)
 refine cPl (qBl (l:=[]) (v:= .slice none 0 0) g h1.1 hv ⟨none,0,rfl,⟨Nat.zero_le _,Nat.zero_le _⟩,by simp,.inl rfl⟩ ⟨List.Pairwise.nil,by simp⟩) fun v1 μ1 hle1 hR=>?_
 obtain⟨r,g1,g2,g3⟩:=hR
 have w_:=Rep.sl g1
 obtain⟨b,c,rfl,hsl⟩:=w_
 rw[List.length_map]at hsl ⊢
 have hlen:=g3.len
 have hmem:∀x,x∈r↔x∈g.vars:=fun x=>by rw[g2];simp
 refine ifd (fun h=>rPl (isT ⟨h1,h2,fun m hm=>?_⟩)) (fun h=>?_)
 ·have h3 : r = [] := List.eq_nil_of_length_eq_zero (by omega)
  have:=(hmem m).2 hm
  rw[h3]at this;simp at this
 ·have w_ := aSo (l := r) (i := r.length - 1) (by omega)
  obtain⟨x,hx⟩:=w_
  have w_:=Ints.elem hsl hx
  obtain⟨ad,hel⟩:=w_
  refine nEq (x:=((r.length-1:Nat):Int)) (by rw[aA (by omega) (by omega)];omega) ?_
  refine eIn hel ?_
  refine rPl (isI ⟨fun k=>⟨h1,h2,fun m hm=>((VL.last g3 hx).2 k) m ((hmem m).2 hm)⟩,fun k=>(VL.last g3 hx).1 fun y hy=>k.2.2 y ((hmem y).1 hy)⟩)
end
end Go.Vx
namespace Go.Vx
open Go.Proofs Classical
section
variable {μ:Mem}
theorem eE{p:Pg}{v:Value}(hp:RepV μ p.d v)(hw:p.d.wd):Spec Tryz.prog 49 [v] μ fun r _=>r= .bool (decide p.Ok):=by
 have w_:=Pg.inv hp
 obtain⟨q,rfl,hrl⟩:=w_
 have hws:D.wds (p.rels.map Rl.d):=by rw[Pg.d_eq]at hw;exact hw.1
 refine Spec.mk Tryz.func49 (by kernel_rfl) ?_
 intro r1
 refine ifd (fun h8=>rPl (isF fun h=>by have:=h.1;omega)) (fun h8=>?_)
 refine lIn (fun x:Nat×Mem=>x.1≤p.rels.length∧μ.Le x.2∧∀(j:Nat) (r:Rl),j<x.1→p.rels[j]? =some r→RelOk p j r)
  (fun(i,μ')=>⟨[(1,.loc 0 r1 0),(10,.val (.slice q.1 p.rels.length q.2)),(11,.val (.int .i64 p.rels.length)),(12,.val (.int .i64 i))],[(0,some (.cells r1 [.val (.slice q.1 p.rels.length q.2)] 25))],1,μ',Mem.nil⟩) (fun x=>p.rels.length-x.1)
  (0,μ) ⟨by simp,Mem.Le.refl _,fun j r hj=>by simp at hj⟩ (fun(_,_)=>⟨rfl,rfl⟩) ⟨⟨rfl,rfl,rfl,rfl,trivial⟩,⟨rfl,trivial⟩,rfl,rfl⟩ ?_
 rintro⟨i,μ'⟩ ⟨hi,hle,hall⟩
 dsimp only at hi hle hall
 refine ifd (fun hlt=>?_) (fun hlt=>?_)
 ·have w_ := aSo (l := p.rels) (i := i) (by omega)
  obtain⟨x,hx⟩:=w_
  have w_:=Rl.elemA (hrl.mono hle) hx
  obtain⟨ad,q2,hel,hr,hb⟩:=w_
  have hb:RepV μ' x.body.d (.agg (x.body.cs q2).toArray):=hb
  have hxw:x.d.wd:=D.wds_mem hws _ (mAt (qGn (f:=Rl.d) hx))
  rw[Rl.d_eq]at hxw
  have hnm:x.name.size≤maxLen:=hxw.1
  have hbw:x.body.d.wd:=hxw.2.2.2.1
  have bad:¬RelOk p i x→Value.bool false= .bool (decide p.Ok):=fun h=>isF fun k=>h (k.2 i x hx)
  refine eIn hel ?_
  intro r2
  refine cGv (pF (hp.mono hle)) ?_
  refine aM (fun h=>rPl (bad fun k=>h k.at_)) (fun g2=>?_)
  refine cGv (gK _ hnm _) ?_
  refine aM (fun h=>rPl (bad fun k=>h k.name)) (fun g1=>?_)
  refine cGv (cC _ _ _ _) ?_
  refine aM (fun h=>rPl (bad fun k=>h ⟨k.ar0,k.ar4⟩)) (fun g3=>?_)
  refine cGv (cC _ _ _ _) ?_
  refine aM (fun h=>rPl (bad fun k=>h ⟨k.lo0,k.lo8⟩)) (fun g4=>?_)
  refine aC (by omega) (by omega) ?_
  refine cPl (qBr (hp.mono hle) hb hbw) fun v1 μ1 hle1 hR=>?_
  obtain rfl:=hR
  refine aM (fun h=>rPl (bad fun k=>h ⟨⟨k.body,by have:=k.size;omega⟩,k.calls,k.vars⟩)) (fun g5=>?_)
  refine cGv (oQ x.body (hb.mono hle1) hbw) ?_
  have hc:x.body.count=x.body.cnt:=by rw[Gl.count,if_pos g5.1]
  refine ifd (fun h=>rPl (bad fun k=>by have:=k.size;omega)) (fun g6=>?_)
  have hok:RelOk p i x:=⟨g2,g1,by omega,by omega,by omega,by omega,g5.1.1,by omega,g5.2.2,g5.2.1⟩
  refine aC (by omega) (by omega) ⟨(i+1,μ1),⟨by dsimp only;omega,hle.trans hle1,fun j r hj hr=>?_⟩,by dsimp only;omega,⟨⟨rfl,rfl,rfl,rfl,trivial⟩,⟨rfl,trivial⟩,rfl,rfl⟩⟩
  rcases Nat.lt_or_ge j i with h6|h6
  ·exact hall j r h6 hr
  ·obtain rfl : j = i := by omega
   rw[hx]at hr;cases hr;exact hok
 ·obtain rfl : i = p.rels.length := by omega
  exact rPl (isT ⟨by omega,fun j r hr=>hall j r (List.getElem?_eq_some_iff.1 hr).1 hr⟩)
end
end Go.Vx
namespace Go.Vx
open Go.Proofs Classical
section
variable {μ:Mem}
theorem Rep.srcAll{es n cap:Nat}{base:Option Addr}{ds:List D}(h:RepV μ (.sl es ds) (.slice base n cap)):∃vs,Rows μ es ds vs∧vs.length=n∧pQ μ base n es vs:=by
 have w_:=Rep.src h
 obtain⟨vs,hrows,hvl,hcap,hsrc⟩:=w_
 have:=hsrc 0 n (Nat.zero_le _) (Nat.le_refl _)
 have e1:(if cap=0 then base else base.map (·.add (0*es)))=base:=by
  split
  ·rfl
  ·cases base with
   |none=>rfl
   |some a=>simp[Addr.add]
 rw[e1,Nat.sub_zero,List.drop_zero,List.take_of_length_le (by omega)]at this
 exact⟨vs,hrows,hvl,this⟩
end
end Go.Vx
namespace Go.Vx
open Go.Proofs Classical
def T.hasSym(s:ByteArray):T→Prop
 | .sym a=>a=s
 | .pair a b=>a.hasSym s∨b.hasSym s
 | .nil=>False
 | .var _=>False
 | .num _=>False
theorem T.hasSym_args(s:ByteArray)(x:T):x.hasSym s↔(x.tm.kind=2∧x.tm.name=s)∨∃y∈x.args,y.hasSym s:=by
 cases x<;>simp[T.hasSym,T.tm,Tm.kind,Tm.name,T.args]
section
variable {μ:Mem}
theorem rS{h:Mem}{r r' cap es:Nat}{ty:TypeId}{ys:List Value}(hb:RowO h r cap ty es ys)(hap:Apart μ h)(hor:r'=r∨(h r'=none∧μ r'=none)):μ r'=none:=by
 rcases hor with rfl|⟨_,h2⟩
 ·obtain ⟨cs, h1, _⟩ := hb
  cases e:μ r' with
  |none=>rfl
  |some o=>have:=hap r' (by simp[e]);rw[h1]at this;cases this
 ·exact h2
theorem uT(s:ByteArray):∀(x:T) {v:Value},RepV μ x.tm.d v→aP Tryz.prog 143 [v,.string s] μ (.bool (decide (x.hasSym s))):=
 T.ind fun x ih v hv=>by
  have w_:=T.inv hv
  obtain⟨b1,c1,rfl,hs1⟩:=w_
  refine Spec.mk Tryz.func143 (by kernel_rfl) ?_
  intro r
  refine ifd (fun h4=>?_) (fun h4=>?_)
  ·have w_ := T.kind4 h4
   obtain⟨a,b,rfl⟩:=w_
   have w_:=T.arg hs1 (i:=0) rfl
   obtain⟨ad1,p1,e1,g1⟩:=w_
   have w_:=T.arg hs1 (i:=1) rfl
   obtain⟨ad3,p3,e3,g3⟩:=w_
   refine eIn e1 (cGv (ih a (by simp[T.args]) g1) ?_)
   refine ifd (fun h=>rGv (isT (.inl h)) rfl) (fun h=>?_)
   refine eIn e3 (cGv (ih b (by simp[T.args]) g3) (rGv ?_ rfl))
   congr 1
   rw[Bool.eq_iff_iff,decide_eq_true_eq,decide_eq_true_eq]
   exact⟨.inr,fun k=>k.elim (fun k=>absurd k h) id⟩
  ·have hno:¬∃y∈x.args,y.hasSym s:=fun⟨y,hy,_⟩=>by
    cases x<;>first|(simp[T.args]at hy;done)|exact h4 rfl
   refine ifd (fun h2=>rGv ?_ rfl) (fun h2=>rGv (isF fun k=>((T.hasSym_args s x).1 k).elim (fun k=>h2 k.1) hno) rfl)
   congr 1
   rw[Bool.eq_iff_iff,decide_eq_true_eq,decide_eq_true_eq]
   exact⟨fun k=>(T.hasSym_args s x).2 (.inl ⟨h2,k⟩),fun k=>((T.hasSym_args s x).1 k).elim (fun k=>k.2) fun k=>absurd k hno⟩
end
end Go.Vx
namespace Go.Vx
open Go.Sort
section
variable {α:Type} {lt:α→α→Bool}
theorem wM(hS:SWO lt){x y:α}(h:lt x y=true):lt y x=false:=by
 cases g:lt y x with
 |false=>rfl
 |true=>have:=hS.trans _ _ _ h g;rw[hS.irrefl]at this;cases this
theorem zU(hS:SWO lt){x y z:α}(h:lt x z=true)(g:lt x y=false):lt y z=true:=by
 cases k:lt y z with
 |true=>rfl
 |false=>have:=hS.ntrans _ _ _ g k;rw[h]at this;cases this
theorem lt_of_not'(hS:SWO lt){x y z:α}(h:lt x z=true)(g:lt y z=false):lt x y=true:=by
 cases k:lt x y with
 |true=>rfl
 |false=>have:=hS.ntrans _ _ _ k g;rw[h]at this;cases this
end
section
variable {α:Type} [Inhabited α] {lt:α→α→Bool} {d c R:Array α}
structure Sw (a b n:Nat) (d d':Array α):Prop where
 size:d'.size=d.size
 fst:∀t,t<n→d'[a+t]! =d[b+t]!
 snd:∀t,t<n→d'[b+t]! =d[a+t]!
 out:∀k,k<a∨a+n≤k→k<b∨b+n≤k→d'[k]! =d[k]!
theorem Sw.nil(a b:Nat)(d:Array α):Sw a b 0 d d:=⟨rfl,fun t h=>by omega,fun t h=>by omega,fun _ _ _=>rfl⟩
theorem Sw.step{a b n:Nat}(h:Sw a b n d c)(h1:a+n<b)(h2:b+n<d.size):Sw a b (n+1) d (swp c (a+n) (b+n)):=by
 have g:∀k,(swp c (a+n) (b+n))[k]! =if k=b+n then c[a+n]! else if k=a+n then c[b+n]! else c[k]!:=fun k=>swp_get c (by rw[h.size];omega) (by rw[h.size];omega) k
 refine⟨by rw[Go.Sort.swp_size,h.size],fun t ht=>?_,fun t ht=>?_,fun k hk1 hk2=>?_⟩
 ·rw [g, if_neg (by omega)]
  by_cases e:t=n
  ·subst e;rw[if_pos rfl,h.out _ (by omega) (by omega)]
  ·rw[if_neg (by omega),h.fst t (by omega)]
 ·rw [g]
  by_cases e:t=n
  ·subst e;rw[if_pos rfl,h.out _ (by omega) (by omega)]
  ·rw[if_neg (by omega),if_neg (by omega),h.snd t (by omega)]
 ·rw[g,if_neg (by omega),if_neg (by omega),h.out k (by omega) (by omega)]
structure Rot (a m b:Nat) (d d':Array α):Prop where
 size:d'.size=d.size
 out:∀k,k<a∨b≤k→d'[k]! =d[k]!
 lo:∀t,t<b-m→d'[a+t]! =d[m+t]!
 hi:∀t,t<m-a→d'[a+(b-m)+t]! =d[a+t]!
theorem Rot.same{m i:Nat}(hi:i≤m)(s:Sw (m-i) m i d R):Rot (m-i) m (m+i) d R where
 size:=s.size
 out k hk:=s.out k (by omega) (by omega)
 lo t ht:=s.fst t (by omega)
 hi t ht:=by rw[show m-i+(m+i-m)+t=m+t by omega];exact s.snd t (by omega)
theorem Rot.gt{m i j:Nat}(hi:i≤m)(hj:j<i)(s:Sw (m-i) m j d c)(r:Rot (m-(i-j)) m (m+j) c R):Rot (m-i) m (m+j) d R where
 size:=r.size.trans s.size
 out k hk:=by rw[r.out k (by omega),s.out k (by omega) (by omega)]
 lo t ht:=by rw[r.out _ (by omega),s.fst t (by omega)]
 hi t ht:=by
  by_cases h:t<j
  ·have := r.lo t (by omega)
   rw[show m-i+(m+j-m)+t=m-(i-j)+t by omega,this,s.snd t h]
  ·obtain ⟨u, rfl⟩ : ∃ u, t = j + u := ⟨t - j, by omega⟩
   have:=r.hi u (by omega)
   rw[show m-i+(m+j-m)+(j+u)=m-(i-j)+(m+j-m)+u by omega,this,s.out _ (by omega) (by omega),show m-(i-j)+u=m-i+(j+u) by omega]
theorem Rot.ls{m i j:Nat}(hi:i≤m)(hj:i<j)(s:Sw (m-i) (m+j-i) i d c)(r:Rot (m-i) m (m+(j-i)) c R):Rot (m-i) m (m+j) d R where
 size:=r.size.trans s.size
 out k hk:=by rw[r.out k (by omega),s.out k (by omega) (by omega)]
 lo t ht:=by
  by_cases h:t<j-i
  ·rw[r.lo t (by omega),s.out _ (by omega) (by omega)]
  ·obtain ⟨u, rfl⟩ : ∃ u, t = j - i + u := ⟨t - (j - i), by omega⟩
   have:=r.hi u (by omega)
   rw[show m-i+(j-i+u)=m-i+(m+(j-i)-m)+u by omega,this,s.fst u (by omega),show m+j-i+u=m+(j-i+u) by omega]
 hi t ht:=by
  rw[show m-i+(m+j-m)+t=m+j-i+t by omega,r.out _ (by omega),s.snd t (by omega)]
section
variable {s m e:Nat}
theorem Rot.at1(r:Rot s m e d R){k:Nat}(h:k<s):R[k]! =d[k]!:=r.out k (.inl h)
theorem Rot.at2(r:Rot s m e d R){k:Nat}(h:s≤k)(h2:k<s+(e-m)):R[k]! =d[m+(k-s)]!:=by
 have:=r.lo (k-s) (by omega)
 rwa [show s+(k-s)=k by omega]at this
theorem Rot.at3(r:Rot s m e d R){k:Nat}(hm:m≤e)(h:s+(e-m)≤k)(h2:k<e)(hs:s≤m):R[k]! =d[s+(k-(s+(e-m)))]!:=by
 have:=r.hi (k-(s+(e-m))) (by omega)
 rwa [show s+(e-m)+(k-(s+(e-m)))=k by omega]at this
theorem Rot.at4(r:Rot s m e d R){k:Nat}(h:e≤k):R[k]! =d[k]!:=r.out k (.inr h)
def Split(lt:α→α→Bool)(a q b:Nat)(d:Array α):Prop:=∀x y,a≤x→x<q→q≤y→y<b→lt d[y]! d[x]! =false
theorem aE{a q b:Nat}(h1:SortedIn lt a q d)(h2:SortedIn lt q b d)(h:Split lt a q b d):SortedIn lt a b d:=fun i j hi hij hj=>by
 by_cases h3:j<q
 ·exact h1 i j hi hij h3
 ·by_cases h4 : i < q
  ·exact h i j hi h4 (by omega) hj
  ·exact h2 i j (by omega) hij hj
structure Cut (lt:α→α→Bool) (a s m e b:Nat) (d:Array α):Prop where
 sa:a≤s
 sm:s≤m
 me:m≤e
 eb:e≤b
 lo:∀x y,a≤x→x<s→e≤y→y<b→lt d[y]! d[x]! =false
 hi:∀x y,s≤x→x<m→m≤y→y<e→lt d[x]! d[y]! =false
theorem Cut.split{a b:Nat}(k:Cut lt a s m e b d)(h1:SortedIn lt a m d)(h2:SortedIn lt m b d)(r:Rot s m e d R):Split lt a (s+(e-m)) b R:=fun x y hx hxq hy hyb=>by
 have:=k.sa;have:=k.sm;have:=k.me;have:=k.eb
 by_cases g1:x<s
 ·rw [r.at1 g1]
  by_cases g2:y<e
  ·rw[r.at3 k.me hy g2 k.sm];exact h1 _ _ hx (by omega) (by omega)
  ·rw[r.at4 (by omega)];exact k.lo _ _ hx g1 (by omega) hyb
 ·rw [r.at2 (by omega) hxq]
  by_cases g2:y<e
  ·rw[r.at3 k.me hy g2 k.sm];exact k.hi _ _ (by omega) (by omega) (by omega) (by omega)
  ·rw[r.at4 (by omega)];exact h2 _ _ (by omega) (by omega) hyb
theorem Rot.s1{a:Nat}(r:Rot s m e d R)(h1:SortedIn lt a m d)(hs:s≤m):SortedIn lt a s R:=fun i j hi hij hj=>by
 rw[r.at1 hj,r.at1 (by omega)];exact h1 _ _ hi hij (by omega)
theorem Rot.s2{b:Nat}(r:Rot s m e d R)(h2:SortedIn lt m b d)(he:e≤b)(hm:m≤e):SortedIn lt s (s+(e-m)) R:=fun i j hi hij hj=>by
 rw[r.at2 (by omega) hj,r.at2 hi (by omega)];exact h2 _ _ (by omega) (by omega) (by omega)
theorem Rot.s3{a:Nat}(r:Rot s m e d R)(h1:SortedIn lt a m d)(ha:a≤s)(hs:s≤m)(hm:m≤e):SortedIn lt (s+(e-m)) e R:=fun i j hi hij hj=>by
 rw[r.at3 hm (by omega) hj hs,r.at3 hm hi (by omega) hs];exact h1 _ _ (by omega) (by omega) (by omega)
theorem Rot.s4{b:Nat}(r:Rot s m e d R)(h2:SortedIn lt m b d)(hm:m≤e):SortedIn lt e b R:=fun i j hi hij hj=>by
 rw[r.at4 (by omega),r.at4 (by omega)];exact h2 _ _ (by omega) hij hj
theorem Rot.up{a i:Nat}(h:Rot a (a+1) (i+1) d c)(ha:a≤i)(hi:i+1<d.size):Rot a (a+1) (i+2) d (swp c i (i+1)):=by
 have g:∀k,(swp c i (i+1))[k]! =if k=i+1 then c[i]! else if k=i then c[i+1]! else c[k]!:=fun k=>swp_get c (by rw[h.size];omega) (by rw[h.size];omega) k
 refine⟨by rw[Go.Sort.swp_size,h.size],fun k hk=>?_,fun t ht=>?_,fun t ht=>?_⟩
 ·rw[g,if_neg (by omega),if_neg (by omega),h.out k (by omega)]
 ·rw [g, if_neg (by omega)]
  by_cases e:a+t=i
  ·rw[if_pos e,h.out _ (by omega),show a+1+t=i+1 by omega]
  ·rw[if_neg e,h.lo t (by omega)]
 ·obtain rfl : t = 0 := by omega
  rw[g,if_pos (by omega)]
  have:=h.hi 0 (by omega)
  rwa [show a+(i+1-(a+1))+0=i by omega]at this
theorem Rot.up0(a:Nat)(d:Array α):Rot a (a+1) (a+1) d d:=⟨rfl,fun _ _=>rfl,fun t h=>by omega,fun t h=>by congr 1;omega⟩
theorem Rot.down{k m:Nat}(h:Rot (k+1) m (m+1) d c)(hk:k<m)(hm:m<d.size):Rot k m (m+1) d (swp c (k+1) k):=by
 have g:∀x,(swp c (k+1) k)[x]! =if x=k then c[k+1]! else if x=k+1 then c[k]! else c[x]!:=fun x=>swp_get c (by rw[h.size];omega) (by rw[h.size];omega) x
 refine⟨by rw[Go.Sort.swp_size,h.size],fun x hx=>?_,fun t ht=>?_,fun t ht=>?_⟩
 ·rw[g,if_neg (by omega),if_neg (by omega),h.out x (by omega)]
 ·obtain rfl : t = 0 := by omega
  rw[g,if_pos (by omega)]
  have:=h.lo 0 (by omega)
  rwa [show k+1+0=k+1 by omega]at this
 ·rw [g, if_neg (by omega)]
  cases t with
  |zero=>rw[if_pos (by omega),h.out _ (by omega)];congr 1
  |succ t=>
   rw[if_neg (by omega)]
   have:=h.hi t (by omega)
   rw[show k+(m+1-m)+(t+1)=k+1+(m+1-m)+t by omega,this,show k+1+t=k+(t+1) by omega]
theorem Rot.down0(m:Nat)(d:Array α):Rot m m (m+1) d d:=⟨rfl,fun _ _=>rfl,fun t h=>by congr 1,fun t h=>by omega⟩
end
end
end Go.Vx
namespace Go.Vx
open Go.Proofs Classical
structure Ord3 {α:Type} (c:α→α→Int):Prop where
 zero:∀x y,c x y=0↔x=y
 anti:∀x y,c x y<0↔0<c y x
 trans:∀x y z,c x y<0→c y z<0→c x z<0
def eV(p q:Int):Int:=if p=0 then q else p
theorem yD{p q:Int}:eV p q=0↔p=0∧q=0:=by unfold eV;split<;>omega
theorem yL{p q p' q':Int}(h1:p<0↔0<p')(h2:p'<0↔0<p)(h3:p=0→(q<0↔0<q')):eV p q<0↔0<eV p' q':=by
 unfold eV
 split
 ·rename_i h
  rw[if_pos (by omega)];exact h3 h
 ·rw[if_neg (by omega)];exact h1
theorem uS{p1 q1 p2 q2 p3 q3:Int}(t:p1<0→p2<0→p3<0)(e1:p1=0→p3=p2)(e2:p2=0→p3=p1)(r:p1=0→p2=0→q1<0→q2<0→q3<0):eV p1 q1<0→eV p2 q2<0→eV p3 q3<0:=by
 unfold eV
 intro h1 h2
 by_cases k1:p1=0
 ·rw [if_pos k1] at h1
  have:=e1 k1
  by_cases k2:p2=0
  ·rw [if_pos k2] at h2
   rw[if_pos (by omega)];exact r k1 k2 h1 h2
  ·rw [if_neg k2] at h2
   rw[if_neg (by omega)];omega
 ·rw [if_neg k1] at h1
  by_cases k2:p2=0
  ·have := e2 k2
   rw[if_neg (by omega)];omega
  ·rw [if_neg k2] at h2
   have:=t h1 h2
   rw[if_neg (by omega)];exact this
theorem Ord3.lex_trans{α:Type}{c:α→α→Int}(h:Ord3 c){x y z:α}{q1 q2 q3:Int}(r:x=y→y=z→q1<0→q2<0→q3<0):eV (c x y) q1<0→eV (c y z) q2<0→eV (c x z) q3<0:=
 uS (h.trans x y z) (fun e=>by rw[(h.zero _ _).1 e]) (fun e=>by rw[(h.zero _ _).1 e]) fun e1 e2=>r ((h.zero _ _).1 e1) ((h.zero _ _).1 e2)
theorem Ord3.lex_anti{α:Type}{c:α→α→Int}(h:Ord3 c){x y:α}{q q':Int}(r:x=y→(q<0↔0<q')):eV (c x y) q<0↔0<eV (c y x) q':=
 yL (h.anti x y) (h.anti y x) fun e=>r ((h.zero _ _).1 e)
def oA(a b:Int):Int:=if a=b then 0 else sgn (decide (a<b))
theorem cInt_ord:Ord3 oA where
 zero x y:=by
  unfold oA sgn
  by_cases h:x=y
  ·simp[h]
  ·by_cases g:x<y<;>simp[h,g]
 anti x y:=by
  unfold oA sgn
  by_cases h:x=y
  ·simp[h]
  ·rw [if_neg h, if_neg (Ne.symm h)]
   by_cases g:x<y
   ·have g2 : ¬ y < x := by omega
    simp[g,g2]
   ·have g2 : y < x := by omega
    simp[g,g2]
 trans x y z:=by
  unfold oA sgn
  by_cases h:x=y<;>by_cases h2:y=z<;>by_cases h3:x=z<;>by_cases g:x<y<;>by_cases g2:y<z<;>by_cases g3:x<z<;>simp[h,h2,h3,g,g2,g3]<;>omega
theorem qAh:∀l:List UInt8,Op.bytesLess l l=false
 |[]=>rfl
 |a::l=>by rw[Op.bytesLess];simp[qAh l]
theorem qCq:∀x y z:List UInt8,Op.bytesLess x y=true→Op.bytesLess y z=true→Op.bytesLess x z=true
 |x,y,[],h1,h2=>by simp[Op.bytesLess]at h2
 |x,[],c::z,h1,h2=>by cases x<;>simp[Op.bytesLess]at h1
 |[],b::y,c::z,h1,h2=>rfl
 |a::x,b::y,c::z,h1,h2=>by
  simp only[Op.bytesLess,Bool.or_eq_true,decide_eq_true_eq,Bool.and_eq_true,beq_iff_eq]at h1 h2 ⊢
  rcases h1 with h1|⟨rfl,h1⟩
  ·rcases h2 with h2 | ⟨rfl, h2⟩
   ·exact .inl (UInt8.lt_trans h1 h2)
   ·exact .inl h1
  ·rcases h2 with h2 | ⟨rfl, h2⟩
   ·exact .inl h2
   ·exact .inr ⟨rfl,qCq x y z h1 h2⟩
theorem qMx{x y:List UInt8}(h:x≠y):Op.bytesLess y x= !Op.bytesLess x y:=by
 rw[←gG x y]
 have:(x==y)=false:=by simpa using h
 rw[this,Bool.or_false]
theorem qMh{x y:ByteArray}(h:¬x=y):x.data.toList≠y.data.toList:=fun k=>h (by
 cases x;cases y
 simp only[ByteArray.mk.injEq]
 exact Array.ext' k)
noncomputable def qJ(a b:ByteArray):Int:=if a=b then 0 else sgn (Op.bytesLess a.data.toList b.data.toList)
theorem cName_ord:Ord3 qJ where
 zero x y:=by
  unfold qJ
  by_cases h:x=y
  ·simp[h]
  ·rw[if_neg h];exact⟨fun k=>absurd k (vK _),fun k=>absurd k h⟩
 anti x y:=by
  unfold qJ
  by_cases h:x=y
  ·simp[h]
  ·rw [if_neg h, if_neg (Ne.symm h), qMx (qMh h)]
   cases Op.bytesLess x.data.toList y.data.toList<;>simp[sgn]
 trans x y z:=by
  unfold qJ
  intro h1 h2
  split at h1
  ·omega
  split at h2
  ·omega
  have k1:Op.bytesLess x.data.toList y.data.toList=true:=by
   cases e:Op.bytesLess x.data.toList y.data.toList with
   |true=>rfl
   |false=>rw[e]at h1;simp[sgn]at h1
  have k2:Op.bytesLess y.data.toList z.data.toList=true:=by
   cases e:Op.bytesLess y.data.toList z.data.toList with
   |true=>rfl
   |false=>rw[e]at h2;simp[sgn]at h2
  have k3:=qCq _ _ _ k1 k2
  have k4:¬x=z:=fun e=>by
   rw[e,qAh]at k3;exact absurd k3 (by decide)
  rw[if_neg k4,k3]
  decide
theorem jC(x y:Tm)(r:Int):eK x y r=eV (oA x.kind y.kind) (eV (oA x.num y.num) (eV (qJ x.name y.name) r)):=by
 unfold eK eV oA qJ
 by_cases h1:x.kind=y.kind<;>by_cases h2:x.num=y.num<;>by_cases h3:x.name=y.name<;>simp[h1,h2,h3,vK]
theorem T.cmp_anti:∀x y:T,x.cmp y<0↔0<y.cmp x:=by
 intro x
 induction x with
 |pair a b iha ihb=>
  intro y
  rw[T.cmp_eq,T.cmp_eq y,jC,jC]
  refine cInt_ord.lex_anti fun _=>cInt_ord.lex_anti fun _=>cName_ord.lex_anti fun _=>?_
  cases y with
  |pair c d=>
   show eV (a.cmp c) (b.cmp d)<0↔0<eV (c.cmp a) (d.cmp b)
   refine yL (iha c) ?_ fun _=>ihb d
   have h1:=iha c;have h2:=T.cmp_zero a c;have h3:=T.cmp_zero c a
   by_cases e:a=c
   ·have:=h2.2 e;have:=h3.2 e.symm;omega
   ·have : a.cmp c ≠ 0 := fun k => e (h2.1 k)
    have:c.cmp a≠0:=fun k=>e (h3.1 k).symm
    omega
  |_=>exact Iff.rfl
 |_=>
  intro y
  rw[T.cmp_eq,T.cmp_eq y,jC,jC]
  refine cInt_ord.lex_anti fun _=>cInt_ord.lex_anti fun _=>cName_ord.lex_anti fun _=>?_
  cases y<;>exact Iff.rfl
theorem T.cmp_trans:∀x y z:T,x.cmp y<0→y.cmp z<0→x.cmp z<0:=by
 intro x
 induction x with
 |pair a b iha ihb=>
  intro y z
  rw[T.cmp_eq,T.cmp_eq y,T.cmp_eq _ z,jC,jC,jC]
  refine cInt_ord.lex_trans fun _ _=>cInt_ord.lex_trans fun _ _=>cName_ord.lex_trans fun _ _=>?_
  cases y with
  |pair c d=>
   cases z with
   |pair e f=>
    show eV (a.cmp c) (b.cmp d)<0→eV (c.cmp e) (d.cmp f)<0→eV (a.cmp e) (b.cmp f)<0
    exact uS (iha c e) (fun k=>by rw[(T.cmp_zero _ _).1 k]) (fun k=>by rw[(T.cmp_zero _ _).1 k]) fun _ _=>ihb d f
   |_=>exact fun _ h=>absurd h (Int.lt_irrefl 0)
  |_=>exact fun h=>absurd h (Int.lt_irrefl 0)
 |_=>
  intro y z
  rw[T.cmp_eq,T.cmp_eq y,T.cmp_eq _ z,jC,jC,jC]
  refine cInt_ord.lex_trans fun _ _=>cInt_ord.lex_trans fun _ _=>cName_ord.lex_trans fun _ _=>?_
  exact fun h=>absurd h (Int.lt_irrefl 0)
theorem T.cmp_ord:Ord3 T.cmp:=⟨T.cmp_zero,T.cmp_anti,T.cmp_trans⟩
def bJ{α:Type}(c:α→α→Int):List α→List α→Int
 |[],[]=>0
 |[],_::_=> -1
 |_::_,[]=>1
 |a::l,b::m=>eV (c a b) (bJ c l m)
theorem qDr{α:Type}{c:α→α→Int}(h:Ord3 c):Ord3 (bJ c) where
 zero:=by
  intro x
  induction x with
  |nil=>intro y;cases y<;>simp[bJ]
  |cons a l ih=>
   intro y
   cases y with
   |nil=>simp[bJ]
   |cons b m=>rw[bJ,yD,h.zero,ih,List.cons.injEq]
 anti:=by
  intro x
  induction x with
  |nil=>intro y;cases y<;>simp[bJ]
  |cons a l ih=>
   intro y
   cases y with
   |nil=>simp[bJ]
   |cons b m=>rw[bJ,bJ];exact h.lex_anti fun _=>ih m
 trans:=by
  intro x
  induction x with
  |nil=>intro y z;cases y<;>cases z<;>simp[bJ]
  |cons a l ih=>
   intro y z
   cases y with
   |nil=>simp[bJ]
   |cons b m=>
    cases z with
    |nil=>simp[bJ]
    |cons e n=>rw[bJ,bJ,bJ];exact h.lex_trans fun _ _=>ih m n
theorem Ord3.swo{α:Type}{c:α→α→Int}(h:Ord3 c):Go.Sort.SWO fun x y=>decide (c x y<0) where
 irrefl x:=by have:=(h.zero x x).2 rfl;simp;omega
 trans x y z h1 h2:=by
  simp only[decide_eq_true_eq]at*
  exact h.trans _ _ _ h1 h2
 ntrans x y z h1 h2:=by
  simp only[decide_eq_false_iff_not]at*
  intro h3
  by_cases e:x=y
  ·subst e;exact h2 h3
  ·by_cases e2 : y = z
   ·subst e2;exact h1 h3
   ·have a1 := h.anti x y; have a2 := h.anti y x; have z1 := h.zero x y; have z2 := h.zero y x
    have b1:=h.anti y z;have b2:=h.anti z y;have w1:=h.zero y z;have w2:=h.zero z y
    have p1:c x y≠0:=fun k=>e (z1.1 k)
    have p2:c y z≠0:=fun k=>e2 (w1.1 k)
    have q1:c y x<0:=a2.2 (by omega)
    have q2:c z y<0:=b2.2 (by omega)
    have q3:=h.trans _ _ _ q2 q1
    have a3:=h.anti x z
    omega
end Go.Vx
namespace Go.Vx
open Go.Proofs Classical
section
variable {α:Type} {c:α→α→Int}
def Asc3(c:α→α→Int)(l:List α):Prop:=l.Pairwise fun a b=>c a b<0
theorem Ord3.irrefl(h:Ord3 c)(x:α):¬c x x<0:=by have:=(h.zero x x).2 rfl;omega
theorem Ord3.ge_pos(h:Ord3 c){x y:α}(h1:¬c x y<0)(h2:c x y≠0):c y x<0:=(h.anti y x).2 (by omega)
theorem Ord3.ne_comm(h:Ord3 c){x y:α}(h2:c x y≠0):c y x≠0:=fun k=>h2 ((h.zero _ _).2 ((h.zero _ _).1 k).symm)
theorem Ord3.le_lt(h:Ord3 c){x y z:α}(h1:¬c y x<0)(h2:c y z<0):c x z<0:=by
 by_cases e:c y x=0
 ·rw[←(h.zero _ _).1 e];exact h2
 ·exact h.trans _ _ _ (h.ge_pos h1 e) h2
theorem Asc3.nodup(h:Ord3 c){l:List α}(hl:Asc3 c l):l.Nodup:=hl.imp fun {a b} k e=>by subst e;exact h.irrefl _ k
theorem Asc3.uniq(h:Ord3 c){l m:List α}(hl:Asc3 c l)(hm:Asc3 c m)(e:∀x,x∈l↔x∈m):l=m:=by
 have hp:l.Perm m:=(List.perm_ext_iff_of_nodup (hl.nodup h) (hm.nodup h)).2 e
 refine List.Perm.eq_of_pairwise (le:=fun a b=>c a b<0) (fun a b _ _ h1 h2=>?_) hl hm hp
 have:=(h.anti a b).1 h1
 omega
theorem Asc3.ins(h:Ord3 c){l:List α}{e:α}{k:Nat}(hl:Asc3 c l)(h1:∀x∈l.take k,c x e<0)(h2:∀x∈l.drop k,c e x<0):Asc3 c (uW l e k):=by
 rw[uW,Asc3,List.pairwise_append]
 refine⟨hl.sublist (List.take_sublist _ _),?_,fun a ha b hb=>?_⟩
 ·exact List.pairwise_cons.2 ⟨h2,hl.sublist (List.drop_sublist _ _)⟩
 ·rcases List.mem_cons.1 hb with rfl | hb
  ·exact h1 a ha
  ·exact h.trans _ _ _ (h1 a ha) (h2 b hb)
theorem vB(h:Ord3 c)(e:α):∀l:List α,Asc3 c l→e∈l∨∃k,(∀x∈l.take k,c x e<0)∧∀x∈l.drop k,c e x<0
 |[],_=> .inr ⟨0,by simp,by simp⟩
 |a::l,hl=>by
  have w_:=List.pairwise_cons.1 hl
  obtain⟨ha,hl⟩:=w_
  by_cases h0:c e a=0
  ·exact .inl (by rw[(h.zero _ _).1 h0];simp)
  ·by_cases h1 : c e a < 0
   ·exact .inr ⟨0,by simp,fun x hx=>by
     rcases List.mem_cons.1 hx with rfl|hx
     ·exact h1
     ·exact h.trans _ _ _ h1 (ha x hx)⟩
   ·have h3 := h.ge_pos h1 h0
    rcases vB h e l hl with k|⟨k,k1,k2⟩
    ·exact .inl (List.mem_cons_of_mem _ k)
    ·exact .inr ⟨k+1,fun x hx=>by
      rw[List.take_succ_cons]at hx
      rcases List.mem_cons.1 hx with rfl|hx
      ·exact h3
      ·exact k1 x hx,fun x hx=>k2 x (by simpa using hx)⟩
theorem hZ(h:Ord3 c):∀l:List α,∃m,Asc3 c m∧m.length≤l.length∧∀x,x∈m↔x∈l
 |[]=>⟨[],List.Pairwise.nil,Nat.le_refl _,fun _=>Iff.rfl⟩
 |a::l=>by
  have w_:=hZ h l
  obtain⟨m,h1,h9,h2⟩:=w_
  rcases vB h a m h1 with k|⟨k,k1,k2⟩
  ·exact⟨m,h1,by rw[List.length_cons];omega,fun x=>by
    rw[h2 x,List.mem_cons]
    exact⟨.inr,fun g=>g.elim (fun e=>by subst e;exact(h2 _).1 k) id⟩⟩
  ·exact⟨uW m a k,h1.ins h k1 k2,by rw[qBw,List.length_cons];omega,fun x=>by rw[qKc,h2 x,List.mem_cons]⟩
noncomputable def qHy(h:Ord3 c)(l:List α):List α:=(hZ h l).choose
theorem yS(h:Ord3 c)(l:List α):Asc3 c (qHy h l):=(hZ h l).choose_spec.1
theorem yV(h:Ord3 c)(l:List α):(qHy h l).length≤l.length:=(hZ h l).choose_spec.2.1
theorem qW(h:Ord3 c)(l:List α)(x:α):x∈qHy h l↔x∈l:=(hZ h l).choose_spec.2.2 x
end
end Go.Vx
