/- Texts of the proof, part M4. -/
import Derived.Lib.ReflectliteSwap
import Derived.Test.YtcmehajdmepcgaaGreatM3
namespace Go.Vx
open Go.Proofs Classical
open Go.Sort
abbrev uC(lf sf:FuncId)(lb sb:List Value):Value:= .agg #[.func (.func lf) #[] lb.toArray,.func (.func sf) #[] sb.toArray]
abbrev nC(r:Nat)(lf sf:FuncId)(lb sb:List Value):List (Nat×Option LB):=[(0,some (.cells r [.val (.func (.func lf) #[] lb.toArray),.val (.func (.func sf) #[] sb.toArray)] 151))]
structure SortBy {α:Type} [Inhabited α] (lf sf:FuncId) (lb sb:List Value) (n:Nat) (lt:α→α→Bool) (μ0:Mem) (J:Array α→Mem) (V:Array α→Prop):Prop where
 max:n≤1000000000000
 size:∀{d},V d→d.size=n
 sw:∀{d:Array α} {i j:Nat},V d→i<n→j<n→V (swp d i j)
 dom:∀{d d':Array α} {b:Nat},V d→V d'→J d b=none→J d' b=none
 less:∀{μ:Mem} {d:Array α} {i j:Nat},μ0.Le μ→V d→i<n→j<n→SpecH Tryz.prog lf (.int .i64 i:: .int .i64 j::lb) μ (J d) fun v μ' h'=>v= .bool (lt d[i]! d[j]!)∧μ'=μ∧h'=J d
 swap:∀{μ:Mem} {d:Array α} {i j:Nat},μ0.Le μ→V d→i<n→j<n→SpecH Tryz.prog sf (.int .i64 i:: .int .i64 j::sb) μ (J d) fun v μ' h'=>v= .tuple #[]∧μ'=μ∧h'=J (swp d i j)
section
variable {α:Type} [Inhabited α] {lf sf:FuncId} {lb sb:List Value} {n:Nat} {lt:α→α→Bool} {μ0:Mem} {J:Array α→Mem} {V:Array α→Prop} {μ:Mem} {d:Array α}
theorem gH(H:SortBy lf sf lb sb n lt μ0 J V){a b:Nat}(hle:μ0.Le μ)(hV:V d)(ha:a≤b)(hb:b≤n):
  SpecH Tryz.prog 139 [uC lf sf lb sb,.int .i64 a,.int .i64 b] μ (J d) fun v μ' h'=>v= .tuple #[]∧μ'=μ∧h'=J (insertionSort lt d a b)∧V (insertionSort lt d a b):=by
 have hn:=H.max
 refine SpecH.mk [] Tryz.func139 (by kernel_rfl) ?_
 intro r1
 rw[insertionSort]
 generalize hD:insOuter lt a b (a+1) d=D
 refine nEq (x:=((a+1:Nat):Int)) (by rw[aA (by omega) (by omega)];omega) ?_
 refine lIn (fun p:Nat×Array α=>a+1≤p.1∧p.1≤max b (a+1)∧V p.2∧insOuter lt a b p.1 p.2=D)
  (fun(i,d)=>⟨[(1,.val (.int .i64 a)),(2,.val (.int .i64 b)),(3,.loc 0 r1 0),(6,.val (.int .i64 i))],nC r1 lf sf lb sb,1,μ,J d⟩) (fun p=>b-p.1)
  (a+1,d) ⟨by omega,by omega,hV,hD⟩ (fun(_,_)=>⟨rfl,rfl⟩) ⟨⟨rfl,rfl,rfl,rfl,trivial⟩,⟨rfl,trivial⟩,rfl,rfl⟩ ?_
 rintro⟨i,d1⟩ ⟨hi1,hi2,hs,hJ⟩
 dsimp only at hi1 hi2 hs hJ
 rw[insOuter]at hJ
 refine ifd (fun h=>?_) (fun h=>?_)
 ·rw [if_pos (by omega)] at hJ
  refine lIn (fun p:Nat×Array α=>p.1<n∧V p.2∧insInner lt a p.1 p.2=insInner lt a i d1)
   (fun(j,d)=>⟨[(1,.val (.int .i64 a)),(2,.val (.int .i64 b)),(3,.loc 0 r1 0),(6,.val (.int .i64 i)),(7,.val (.int .i64 j))],nC r1 lf sf lb sb,1,μ,J d⟩) (fun p=>p.1)
   (i,d1) ⟨by omega,hs,rfl⟩ (fun(_,_)=>⟨rfl,rfl⟩) ⟨⟨rfl,rfl,rfl,rfl,rfl,trivial⟩,⟨rfl,trivial⟩,rfl,rfl⟩ ?_
  rintro⟨j,d2⟩ ⟨hj,hs2,hJ2⟩
  dsimp only at hj hs2 hJ2
  refine ifd (fun hja=>?_) (fun hja=>?_)
  ·obtain ⟨j, rfl⟩ : ∃ k, j = k + 1 := ⟨j - 1, by omega⟩
   rw[insInner]at hJ2
   refine nEq (x:=((j:Nat):Int)) (by rw[aA (by omega) (by omega)];omega) ?_
   refine cOw (H.less hle hs2 (i:=j+1) (j:=j) (by omega) (by omega)) fun v μ' h' hle' hap hR=>?_
   obtain⟨rfl,e2,rfl⟩:=hR
   obtain rfl:=e2.symm
   clear hle' hap
   have g:decide (j+1>a)=true:=decide_eq_true (by omega)
   refine iIn (fun hl=>?_) (fun hl=>?_)
   ·rw [g, hl, Bool.and_self, if_pos rfl] at hJ2
    refine nEq (x:=((j:Nat):Int)) (by rw[aA (by omega) (by omega)];omega) ?_
    refine cOw (H.swap hle hs2 (i:=j+1) (j:=j) (by omega) (by omega)) fun v μ' h' hle' hap hR=>?_
    obtain⟨rfl,e2,rfl⟩:=hR
    obtain rfl:=e2.symm
    clear hle' hap
    refine nEq (x:=((j:Nat):Int)) (by rw[aA (by omega) (by omega)];omega) ?_
    exact⟨(j,swp d2 (j+1) j),⟨by dsimp only;omega,H.sw hs2 (by omega) (by omega),hJ2⟩,by dsimp only;omega,⟨⟨rfl,rfl,rfl,rfl,rfl,trivial⟩,⟨rfl,trivial⟩,rfl,rfl⟩⟩
   ·rw [hl, Bool.and_false, if_neg (by simp)] at hJ2
    exact aC (by omega) (by omega) ⟨(i+1,d2),⟨by dsimp only;omega,by dsimp only;omega,hs2,by dsimp only;rw[hJ2];exact hJ⟩,by dsimp only;omega,⟨⟨rfl,rfl,rfl,rfl,trivial⟩,⟨rfl,trivial⟩,rfl,rfl⟩⟩
  ·have hJ3:insInner lt a j d2=d2:=by
    cases j with
    |zero=>rfl
    |succ j=>rw[insInner,if_neg];simp;omega
   rw[hJ3]at hJ2
   exact aC (by omega) (by omega) ⟨(i+1,d2),⟨by dsimp only;omega,by dsimp only;omega,hs2,by dsimp only;rw[hJ2];exact hJ⟩,by dsimp only;omega,⟨⟨rfl,rfl,rfl,rfl,trivial⟩,⟨rfl,trivial⟩,rfl,rfl⟩⟩
 ·rw [if_neg (by omega)] at hJ
  subst hJ
  exact rPl ⟨rfl,rfl,rfl,hs⟩
end
end Go.Vx
namespace Go.Vx
open Go.Proofs Classical
open Go.Sort
open Go.Extern Go.Extern.Rtype Go.RowKit Go.Lib
section
variable {P:Program} {f:FuncId} {args:List Value} {μ h0:Mem}
theorem SpecH.ext{R:Value→Mem→Mem→Prop}(h:∀w,Holds μ w→Holds h0 w→Apart μ h0→∃v w' μ' h',(callFunc f args.toArray).run P w= .ok (.value v) w'∧R v μ' h'∧Step μ h0 w μ' h' w'):SpecH P f args μ h0 R:=
 ⟨trivial, fun w h1 h2 h3 => by
  have w_:=h w h1 h2 h3
  obtain⟨v,w',μ',h',e,hr,hS⟩:=w_
  exact .inr ⟨v,w',e,v,μ',h',rfl,hr,hS⟩⟩
theorem Step.same{w:World}(h1:Holds μ w)(h2:Holds h0 w)(h3:Apart μ h0):Step μ h0 w μ h0 w:=
 ⟨Mem.Le.refl _,h1,h2,h3,fun _b h h'=>absurd h h',fun _b h=> .inr h,Nat.le_refl _,fun _ _ _=>rfl,rfl,rfl,rfl⟩
theorem Step.row{w:World}{r:Nat}{cs cs':Array Value}{ty:TypeId}(h1:Holds μ w)(h2:Holds h0 w)(h3:Apart μ h0)(hr:h0 r=some (.cells cs ty (0,0))):Step μ h0 w μ (h0.set r (.cells cs' ty (0,0))) (w.setRow r cs'):=by
 have hne:∀b,μ b≠none→b≠r:=fun b hb e=>by
  subst e;rw[h3 b hb]at hr;cases hr
 have hg:w.heap[r]? =some (.cells cs ty (0,0)):=h2 _ _ hr
 refine⟨Mem.Le.refl _,fun b o hb=>?_,fun b o hb=>?_,fun b hb=>?_,fun b h h'=>absurd h h',fun b h=>?_,by simp,fun b _ hb=>setRow_other w r b _ fun e=>?_,rfl,rfl,rfl⟩
 ·rw[setRow_other w r b _ (hne b (by simp[hb]))];exact h1 b o hb
 ·rw [Mem.set_get] at hb
  split at hb
  ·rename_i e;subst e;cases hb;rw[setRow_heap w b _ _ ty (0,0) hg]
  ·rename_i e;rw[setRow_other w r b _ e];exact h2 b o hb
 ·rw[Mem.set_ne (hne b hb)];exact h3 b hb
 ·by_cases e : b = r
  ·subst e;exact .inr (by rw[hr];simp)
  ·rw[Mem.set_ne e]at h;exact .inr h
 ·subst e;rw[hr]at hb;cases hb
theorem Step.alloc{w:World}{o:Obj}(h1:Holds μ w)(h2:Holds h0 w)(h3:Apart μ h0):Step μ h0 w (μ.set w.heap.size o) h0 (w.alloc o)∧μ w.heap.size=none:=by
 have hlt:∀b o,w.heap[b]? =some o→b<w.heap.size:=fun b o h=>(Array.getElem?_eq_some_iff.1 h).1
 have hm:μ w.heap.size=none:=by
  cases e:μ w.heap.size with
  |none=>rfl
  |some o=>have:=hlt _ _ (h1 _ _ e);omega
 have hh:h0 w.heap.size=none:=by
  cases e:h0 w.heap.size with
  |none=>rfl
  |some o=>have:=hlt _ _ (h2 _ _ e);omega
 have hk:∀b,b<w.heap.size→(w.alloc o).heap[b]? =w.heap[b]?:=fun b hb=>by
  show(w.heap.push o)[b]? =_
  rw[Array.getElem?_push,if_neg (by omega)]
 refine⟨⟨fun b x hb=>?_,fun b x hb=>?_,fun b x hb=>?_,fun b hb=>?_,fun b h h'=>?_,fun b h=> .inr h,by show w.heap.size≤(w.heap.push o).size;simp,fun b hb _=>hk b hb,rfl,rfl,rfl⟩,hm⟩
 ·rw[Mem.set_ne (fun e=>by subst e;rw[hm]at hb;cases hb)];exact hb
 ·rw [Mem.set_get] at hb
  split at hb
  ·rename_i e;subst e;cases hb;show(w.heap.push o)[w.heap.size]? =some o;simp
  ·rw[hk b (hlt _ _ (h1 _ _ hb))];exact h1 _ _ hb
 ·rw[hk b (hlt _ _ (h2 _ _ hb))];exact h2 _ _ hb
 ·rw [Mem.set_get] at hb
  split at hb
  ·rename_i e;subst e;exact hh
  ·exact h3 b hb
 ·rw [Mem.set_get] at h'
  split at h'
  ·rename_i e;subst e;exact .inl (Nat.le_refl _)
  ·exact absurd h h'
end
structure SlTy (t e:TypeId) (i ie:TypeInfo) (ke:Nat):Prop where
 hi:Tryz.prog.info? t=some i
 hd:i.desc= .slice e
 pk:Tryz.prog.packed t=false
 hie:Tryz.prog.info? e=some ie
 hke:∀w,(Extern.Rtype.kind e).run Tryz.prog w= .ok ke w
 h9:swapperK 2 ie ke=9
theorem SlTy.nine{t e:TypeId}{i ie:TypeInfo}{ke:Nat}(T:SlTy t e i ie ke){n:Nat}(h:2≤n):swapperK n ie ke=9:=by
 rw[←T.h9]
 unfold swapperK
 have h0:(n==0)=false:=by simp;omega
 have h1:(n==1)=false:=by simp;omega
 have h2:((2:Nat)==0)=false:=rfl
 have h3:((2:Nat)==1)=false:=rfl
 simp only[h0,h1,h2,h3]
section
variable {μ:Mem}
theorem qBh{t e:TypeId}{i ie:TypeInfo}{ke:Nat}(T:SlTy t e i ie ke)(p:Option Addr)(n c:Nat):Spec Tryz.prog 103 [.iface t (.slice p n c)] μ fun v μ'=>∃r,v= .agg #[typeHandle Tryz.prog t,.pointer (some ⟨r,0,none⟩),.int .u64 151]∧μ' r=some (.cells #[.slice p n c] t (0,0)):=by
 refine SpecH.ext fun w h1 h2 h3=>?_
 have hv:=run_valueOf_slice (P:=Tryz.prog) t e i T.hi T.hd p n c w
 refine⟨_,_,_,_,?_,⟨w.heap.size,rfl,Mem.set_at _ _ _⟩,(Step.alloc h1 h2 h3).1⟩
 rw[run_callFunc_extern Tryz.func103 (by kernel_rfl) (by kernel_rfl) (by kernel_rfl) (e:=fun args=>Extern.ReflectliteValue.unpack (args.getD 0 (.tuple #[]))) (by kernel_rfl),
  show Sem.run Tryz.prog ((fun args:Array Value=>Extern.ReflectliteValue.unpack (args.getD 0 (.tuple #[]))) #[.iface t (.slice p n c)]) w=_ from hv]
 rfl
theorem xG{t e:TypeId}{i ie:TypeInfo}{ke:Nat}(T:SlTy t e i ie ke){p:Option Addr}{n c r:Nat}(hr:μ r=some (.cells #[.slice p n c] t (0,0))):aP Tryz.prog 106 [.agg #[typeHandle Tryz.prog t,.pointer (some ⟨r,0,none⟩),.int .u64 151]] μ (.int .i64 n):=by
 refine SpecH.ext fun w h1 h2 h3=>?_
 have hc:w.cell? ⟨r,0,none⟩=some (.slice p n c):=by simp[World.cell?,h1 _ _ hr]
 have hl:=run_valueLen_slice (P:=Tryz.prog) t e i T.hi T.hd T.pk ⟨r,0,none⟩ p n c w hc
 refine⟨_,_,_,_,?_,⟨rfl,rfl⟩,Step.same h1 h2 h3⟩
 rw[run_callFunc_extern Tryz.func106 (by kernel_rfl) (by kernel_rfl) (by kernel_rfl) (e:=Extern.ReflectliteValue.method (Extern.ReflectliteValue.valueError "reflectlite.Value.Len" 0) Extern.ReflectliteValue.len) (by kernel_rfl),hl]
 rfl
theorem qBc{t e:TypeId}{i ie:TypeInfo}{ke:Nat}(T:SlTy t e i ie ke)(p:Option Addr){n:Nat}(c:Nat):∃(k:FuncId) (bs:List Value),(2≤n→k=138∧bs=[.slice p n c,typeHandle Tryz.prog e])∧aP Tryz.prog 104 [.iface t (.slice p n c)] μ (.func (.func k) #[] bs.toArray):=by
 have go:∀(f:Nat) (bs:List Value),Tryz.prog.funcs.findIdx? (·.name== "internal/reflectlite" ++ ".Swapper$" ++toString (swapperK n ie ke))=some f→(if swapperK n ie ke≤2 then(#[]:Array Value)else #[.slice p n c,typeHandle Tryz.prog e])=bs.toArray→
   aP Tryz.prog 104 [.iface t (.slice p n c)] μ (.func (.func f) #[] bs.toArray):=fun f bs hf hbs=>by
  refine SpecH.ext fun w h1 h2 h3=>?_
  have hs:=run_swapper_slice (P:=Tryz.prog) t e i ie T.hi T.hd T.hie ke T.hke p n c f hf w
  rw[hbs]at hs
  refine⟨_,_,_,_,?_,⟨rfl,rfl⟩,Step.same h1 h2 h3⟩
  rw[run_callFunc_extern Tryz.func104 (by kernel_rfl) (by kernel_rfl) (by kernel_rfl) (e:=Extern.ReflectliteSwapper.swapper "internal/reflectlite" (Extern.ReflectliteValue.valueError "Swapper")) (by kernel_rfl),hs]
  rfl
 by_cases h2:2≤n
 ·refine ⟨138, [.slice p n c, typeHandle Tryz.prog e], fun _ => ⟨rfl, rfl⟩, go _ _ ?_ ?_⟩
  ·rw[T.nine h2];kernel_rfl
  ·rw[T.nine h2];rfl
 ·by_cases h0 : n = 0
  ·subst h0
   refine⟨130,[],fun h=>by omega,go _ _ ?_ ?_⟩
   ·have : swapperK 0 ie ke = 1 := rfl
    have e:Tryz.prog.funcs.findIdx? (·.name== "internal/reflectlite" ++ ".Swapper$" ++toString (1:Nat))=some 130:=by kernel_rfl
    rw[this];exact e
   ·rfl
  ·obtain rfl : n = 1 := by omega
   refine⟨131,[],fun h=>by omega,go _ _ ?_ ?_⟩
   ·have : swapperK 1 ie ke = 2 := rfl
    have e:Tryz.prog.funcs.findIdx? (·.name== "internal/reflectlite" ++ ".Swapper$" ++toString (2:Nat))=some 131:=by kernel_rfl
    rw[this];exact e
   ·rfl
end
end Go.Vx
namespace Go.Vx
open Go.Proofs Classical
open Go.Sort
open Go.Extern Go.Extern.Rtype Go.RowKit Go.Lib
def RowV(h0:Mem)(r:Nat)(ty:TypeId)(rest:List Value)(d:Array Value):Mem:=h0.set r (.cells (List.toArray (d.toList.flatMap aB++rest)) ty (0,0))
def Els(es:Nat)(d:Array Value):Prop:=∀x∈d.toList,(aB x).length=es∧∀u∈aB x,u.oneCell'=true
theorem uZ{es:Nat}:∀{l:List Value},(∀y∈l,(aB y).length=es)→∀{i:Nat},i<l.length→∀{y:Value},(aB y).length=es→∀rest:List Value,
  (l.flatMap aB++rest).take (i*es)++aB y++(l.flatMap aB++rest).drop (i*es+es)=(l.set i y).flatMap aB++rest
 |[],_,i,hi,_,_,_=>by simp at hi
 |z::r,hl,0,_,y,hy,rest=>by
  have hz:=hl z (by simp)
  simp only[Nat.zero_mul,List.take_zero,List.nil_append,Nat.zero_add,List.set_cons_zero,List.flatMap_cons,List.append_assoc]
  rw[←hz,List.drop_left]
 |z::r,hl,i+1,hi,y,hy,rest=>by
  have hz:=hl z (by simp)
  have ih:=uZ (l:=r) (fun y h=>hl y (List.mem_cons_of_mem _ h)) (i:=i) (by simpa using hi) hy rest
  simp only[List.set_cons_succ,List.flatMap_cons,List.append_assoc]at ih ⊢
  have e1:(i+1)*es=(aB z).length+i*es:=by rw[hz,Nat.add_mul,Nat.one_mul,Nat.add_comm]
  rw[e1,List.take_length_add_append,Nat.add_assoc,List.drop_length_add_append,List.append_assoc,ih]
theorem qAp{d:Array Value}{k:Nat}(h:k<d.size):d.toList[k]? =some d[k]!:=by
 rw[Array.getElem?_toList,getElem!_pos d k h,Array.getElem?_eq_getElem h]
theorem vD{d:Array Value}{k:Nat}(h:k<d.size):d[k]!∈d.toList:=List.mem_of_getElem? (qAp h)
theorem Els.perm{es n:Nat}{d d':Array Value}(hn:d.size=n)(h:Els es d)(p:PermIn 0 n d d'):Els es d':=fun x hx=>by
 have w_:=List.mem_iff_getElem?.1 hx
 obtain⟨i,hi⟩:=w_
 have hi2:i<d'.size:=by have:=(List.getElem?_eq_some_iff.1 hi).1;simpa using this
 rw[qAp hi2]at hi
 cases hi
 exact permIn_all d d' 0 n (fun x=>(aB x).length=es∧∀u∈aB x,u.oneCell'=true) (by omega) p (fun j _ hj=>h _ (vD (by omega))) i (by omega) (by rw[p.1]at hi2;omega)
section
variable {P:Program} {μ h0:Mem} {r:Nat} {ty:TypeId} {rest:List Value} {d:Array Value} {es:Nat}
theorem RowV.cell(hE:Els es d){i c:Nat}{v:Value}(hi:i<d.size)(hv:(aB d[i]!)[c]? =some v):(RowV h0 r ty rest d).cell ⟨r,i*es+c,none⟩=some v:=by
 have h:=qIr (fun y hy=>(hE y hy).1) (qAp hi) hv
 simp only[Mem.cell,RowV,Mem.set_at,Option.isSome_none]
 have h2:=(List.getElem?_eq_some_iff.1 h).1
 simp only[List.getElem?_toArray]
 rw[List.getElem?_append_left h2,h]
 rfl
theorem qDi{e:TypeId}{ti:TI}(hti:TIok P e ti)(w:World)(a:Addr)(x:Value)(hl:(aB x).length=ti.size)(h:∀j v,(aB x)[j]? =some v→w.cell? (a.add j)=some v)(h1:ti.agg=false→ti.size=1)(h2:∀u∈aB x,u.oneCell'=true):
  ∃y,(loadVar e a).run P w= .ok y w∧aB y=aB x:=by
 have hr:=cM hti w a (aB x) hl h h1
 refine⟨_,hr,?_⟩
 cases hg:ti.agg with
 |true=>simp[aB]
 |false=>
  rw[h1 hg]at hl
  match hc:aB x,hl with
  |[u],_=>
   have:=h2 u (by rw[hc];simp)
   simp only[Bool.false_eq_true,if_false,List.getD_cons_zero]
   cases u<;>first|rfl|(simp[Value.oneCell']at this)
theorem qFm{e:TypeId}{ti:TI}(hti:TIok Tryz.prog e ti)(h1:ti.agg=false→ti.size=1)(hE:Els ti.size d){n cap i j:Nat}(hd:d.size=n)(hi:i<n)(hj:j<n):
  SpecH Tryz.prog 138 [.int .i64 i,.int .i64 j,.slice (some ⟨r,0,none⟩) n cap,typeHandle Tryz.prog e] μ (RowV h0 r ty rest d) fun v μ' h'=>v= .tuple #[]∧μ'=μ∧h'=RowV h0 r ty rest (swp d i j):=by
 refine SpecH.ext fun w hm hh ha=>?_
 subst hd
 have hX:=hE _ (vD hi)
 have hY:=hE _ (vD hj)
 have hcell:∀k,k<d.size→∀c v,(aB d[k]!)[c]? =some v→w.cell? ((⟨r,k*ti.size,none⟩:Addr).add c)=some v:=fun k hk c v hv=>by
  rw[Addr.add_lit'];exact hh.cell (RowV.cell hE hk hv)
 have w_:=qDi hti w ⟨r,i*ti.size,none⟩ d[i]! hX.1 (hcell i hi) h1 hX.2
 obtain⟨X,l1,eX⟩:=w_
 have w_:=qDi hti w ⟨r,j*ti.size,none⟩ d[j]! hY.1 (hcell j hj) h1 hY.2
 obtain⟨Y,l2,eY⟩:=w_
 have hb:∀k,k<d.size→k*ti.size+ti.size≤d.size*ti.size:=fun k hk=>by
  have:=Nat.mul_le_mul_right ti.size (show k+1≤d.size from hk);rwa [Nat.add_mul,Nat.one_mul]at this
 have hlen:(d.toList.flatMap aB).length=d.size*ti.size:=by rw[dC _ fun y hy=>(hE y hy).1];simp
 have hg:w.heap[r]? =some (.cells (List.toArray (d.toList.flatMap aB++rest)) ty (0,0)):=hh _ _ (Mem.set_at _ _ _)
 have s1:=eZ hti w r (i*ti.size) _ ty hg Y (by rw[eY];exact hY.1) (by have:=hb i hi;simp[hlen];omega) (by rw[eY];exact hY.2)
 have e1:=uZ (fun y hy=>(hE y hy).1) (l:=d.toList) (i:=i) (by simpa using hi) (y:=d[j]!) hY.1 rest
 rw[eY,hY.1]at s1
 simp only[e1]at s1
 have hE2:∀y∈d.toList.set i d[j]!,(aB y).length=ti.size:=fun y hy=>by
  rcases List.mem_or_eq_of_mem_set hy with h|h
  ·exact(hE y h).1
  ·subst h;exact hY.1
 have hlen2:((d.toList.set i d[j]!).flatMap aB).length=d.size*ti.size:=by rw[dC _ hE2];simp
 have hg2:(w.setRow r (List.toArray ((d.toList.set i d[j]!).flatMap aB++rest))).heap[r]? =some (.cells (List.toArray ((d.toList.set i d[j]!).flatMap aB++rest)) ty (0,0)):=setRow_heap w r _ _ ty (0,0) hg
 have s2:=eZ hti _ r (j*ti.size) _ ty hg2 X (by rw[eX];exact hX.1) (by have:=hb j hj;simp[hlen2];omega) (by rw[eX];exact hX.2)
 have e2:=uZ hE2 (i:=j) (by simpa using hj) (y:=d[i]!) hX.1 rest
 rw[eX,hX.1]at s2
 simp only[e2]at s2
 have hsw:(d.toList.set i d[j]!).set j d[i]! =(swp d i j).toList:=by rw[swp,Array.toList_setIfInBounds,Array.toList_setIfInBounds]
 rw[hsw]at s2
 have hss:∀z z',(w.setRow r z).setRow r z'=w.setRow r z':=fun z z'=>setRow_setRow w r z z'
 have hS:=Step.row (cs':=List.toArray ((swp d i j).toList.flatMap aB++rest)) hm hh ha (Mem.set_at _ _ _)
 refine⟨.tuple #[],w.setRow r (List.toArray ((swp d i j).toList.flatMap aB++rest)),μ,RowV h0 r ty rest (swp d i j),?_,⟨rfl,rfl,rfl⟩,?_⟩
 rotate_left
 ·rw[RowV,Mem.set_set]at hS;exact hS
 rw[run_callFunc_extern Tryz.func138 (by kernel_rfl) (by kernel_rfl) (by kernel_rfl) (e:=Extern.ReflectliteSwapper.swap false) (by kernel_rfl)]
 show(Sem.run _ (ReflectliteSwapper.swap false #[.int .i64 i,.int .i64 j,.slice (some ⟨r,0,none⟩) d.size cap,typeHandle Tryz.prog e]) w).andThen _=_
 have i0:¬((i:Int)<0):=by omega
 have i1:¬((i:Int)≥d.size):=by omega
 have j0:¬((j:Int)<0):=by omega
 have j1:¬((j:Int)≥d.size):=by omega
 rw[rl_swap]
 simp[i0,i1,j0,j1,ofHandle,handleType,typeHandle,ReflectliteSwapper.exchange,hti.run_sizeOf,Addr.add_lit',l1,l2,s1,s2,hss,Result.andThen]
end
section
variable {μ h0:Mem} {lf sf:FuncId} {lb sb:List Value} {n:Nat}
theorem nE(hn:n≤1):SpecH Tryz.prog 139 [uC lf sf lb sb,.int .i64 0,.int .i64 n] μ h0 fun v μ' h'=>v= .tuple #[]∧μ'=μ∧h'=h0:=by
 refine SpecH.mk [] Tryz.func139 (by kernel_rfl) ?_
 intro r1
 refine nEq (x:=((1:Nat):Int)) (by decide) ?_
 refine lIn (fun i:Nat=>i=1)
  (fun i=>⟨[(1,.val (.int .i64 0)),(2,.val (.int .i64 n)),(3,.loc 0 r1 0),(6,.val (.int .i64 i))],nC r1 lf sf lb sb,1,μ,h0⟩) (fun i=>n-i)
  1 rfl (fun _=>⟨rfl,rfl⟩) ⟨⟨rfl,rfl,rfl,rfl,trivial⟩,⟨rfl,trivial⟩,rfl,rfl⟩ ?_
 rintro i rfl
 refine ifd (fun h=>by omega) (fun h=>?_)
 exact rPl ⟨rfl,rfl,rfl⟩
end
section
variable {α:Type} [Inhabited α] {enc:α→Value} {μ h0:Mem} {r:Nat} {ty t e:TypeId} {i ie:TypeInfo} {ke:Nat} {ti:TI} {rest:List Value} {d0:Array α} {n cap:Nat} {lf:FuncId} {lb:List Value} {lt:α→α→Bool}
theorem mO{d:Array α}{k:Nat}(h:k<d.size):(d.map enc)[k]! =enc d[k]!:=by
 rw[getElem!_pos _ k (by simpa using h),getElem!_pos d k h,Array.getElem_map]
theorem swp_map{d:Array α}{a b:Nat}(ha:a<d.size)(hb:b<d.size):(swp d a b).map enc=swp (d.map enc) a b:=by
 unfold swp
 rw[mO hb,mO ha]
 simp
theorem qGr{d d':Array α}(hn:d.size=n)(p:PermIn 0 n d d'):PermIn 0 n (d.map enc) (d'.map enc):=by
 obtain⟨h1,h2,h3⟩:=p
 refine⟨by simp[h1],fun k hk=>?_,?_⟩
 ·have hk2 : n ≤ k := by omega
  rw[getElem!_neg _ k (by simp;omega),getElem!_neg _ k (by simp;omega)]
 ·have e1 : d'.extract 0 n = d' := by rw [← hn, ← h1]; exact Array.extract_size
  have e2:d.extract 0 n=d:=by rw[←hn];exact Array.extract_size
  have e3:(d'.map enc).extract 0 n=d'.map enc:=by rw[←hn,←h1,show d'.size=(d'.map enc).size by simp];exact Array.extract_size
  have e4:(d.map enc).extract 0 n=d.map enc:=by rw[←hn,show d.size=(d.map enc).size by simp];exact Array.extract_size
  rw[e1,e2]at h3
  rw[e3,e4]
  simpa using h3.map enc
theorem sI{d d':Array α}(hn:d.size=n)(p:PermIn 0 n d d'):d'.toList.Perm d.toList:=by
 obtain⟨h1,h2,h3⟩:=p
 have e1:d'.extract 0 n=d':=by rw[←hn,←h1];exact Array.extract_size
 have e2:d.extract 0 n=d:=by rw[←hn];exact Array.extract_size
 rwa [e1,e2]at h3
theorem SortBy.row(hti:TIok Tryz.prog e ti)(h1:ti.agg=false→ti.size=1)(hE:Els ti.size (d0.map enc))(hn:d0.size=n)(hmax:n≤1000000000000)
  (less:∀{μ':Mem} {d:Array α} {i j:Nat},μ.Le μ'→PermIn 0 n d0 d→i<n→j<n→SpecH Tryz.prog lf (.int .i64 i:: .int .i64 j::lb) μ' (RowV h0 r ty rest (d.map enc)) fun v μ'' h'=>v= .bool (lt d[i]! d[j]!)∧μ''=μ'∧h'=RowV h0 r ty rest (d.map enc)):
  SortBy lf 138 lb [.slice (some ⟨r,0,none⟩) n cap,typeHandle Tryz.prog e] n lt μ (fun d=>RowV h0 r ty rest (d.map enc)) (PermIn 0 n d0) where
 max:=hmax
 size hV:=hV.1.trans hn
 sw hV hi hj:=permIn_trans _ _ _ _ _ hV (swp_permIn _ _ _ _ _ (Nat.zero_le _) hi (Nat.zero_le _) hj (by rw[hV.1,hn];exact Nat.le_refl _))
 dom {d d' b} _ _ hb:=by
  simp only[RowV,Mem.set_get]at hb ⊢
  split at hb
  ·cases hb
  ·rename_i e;rw[if_neg e];exact hb
 less hle hV hi hj:=less hle hV hi hj
 swap {μ d i j} hle hV hi hj:=by
  have hs:d.size=n:=hV.1.trans hn
  have:=qFm (μ:=μ) (h0:=h0) (r:=r) (ty:=ty) (rest:=rest) (cap:=cap) hti h1 (d:=d.map enc) (hE.perm (by simp[hn]) (qGr hn hV)) (by simpa using hs) hi hj
  rwa [←swp_map (by omega) (by omega)]at this
end
section
variable {μ h0:Mem} {r:Nat} {ty:TypeId} {rest:List Value} {es:Nat}
theorem qAr{n:Nat}{i:Int}{K:Addr→List Value→Prop}{K':Addr→Prop}(k:Nat)(e:i=k)(hk:k<n)(h:K' ⟨r,k*es,none⟩):elemVC μ (some ⟨r,0,none⟩) n es i K K':=by
 subst e
 refine dU ⟨r,0,none⟩ rfl (by omega) (by omega) ?_
 have:(⟨r,0,none⟩:Addr).add ((k:Int).toNat*es)=⟨r,k*es,none⟩:=by rw[Addr.add_lit'];simp
 rw[this];exact h
end
end Go.Vx
namespace Go.Vx
open Go.Proofs Classical
open Go.Sort
section
variable {α:Type} [Inhabited α] {lf sf:FuncId} {lb sb:List Value} {n:Nat} {lt:α→α→Bool} {μ0:Mem} {J:Array α→Mem} {V:Array α→Prop} {μ:Mem} {d:Array α}
theorem gD(H:SortBy lf sf lb sb n lt μ0 J V){a b k:Nat}(hle:μ0.Le μ)(hV:V d)(ha:a+k≤b)(hb:b+k≤n):
  SpecH Tryz.prog 159 [uC lf sf lb sb,.int .i64 a,.int .i64 b,.int .i64 k] μ (J d) fun v μ' h'=>v= .tuple #[]∧μ'=μ∧∃d',Sw a b k d d'∧PermIn a (b+k) d d'∧h'=J d'∧V d':=by
 have hn:=H.max
 refine SpecH.mk [] Tryz.func159 (by kernel_rfl) ?_
 intro r1
 have hs0:=H.size hV
 refine lIn (fun p:Nat×Array α=>p.1≤k∧V p.2∧Sw a b p.1 d p.2∧PermIn a (b+k) d p.2)
  (fun(i,c)=>⟨[(1,.val (.int .i64 a)),(2,.val (.int .i64 b)),(3,.val (.int .i64 k)),(4,.loc 0 r1 0),(8,.val (.int .i64 i))],nC r1 lf sf lb sb,1,μ,J c⟩) (fun p=>k-p.1)
  (0,d) ⟨Nat.zero_le _,hV,Sw.nil _ _ _,permIn_refl _ _ _⟩ (fun(_,_)=>⟨rfl,rfl⟩) ⟨⟨rfl,rfl,rfl,rfl,rfl,trivial⟩,⟨rfl,trivial⟩,rfl,rfl⟩ ?_
 rintro⟨i,c⟩ ⟨hi,hs,hsw,hp⟩
 dsimp only at hi hs hsw hp
 refine ifd (fun h=>?_) (fun h=>?_)
 ·refine nEq (x := ((a + i : Nat) : Int)) (by rw [aA (by omega) (by omega)]; omega) ?_
  refine nEq (x:=((b+i:Nat):Int)) (by rw[aA (by omega) (by omega)];omega) ?_
  refine cOw (H.swap hle hs (i:=a+i) (j:=b+i) (by omega) (by omega)) fun v μ' h' hle' hap hR=>?_
  obtain⟨rfl,e2,rfl⟩:=hR
  obtain rfl:=e2.symm
  clear hle' hap
  refine nEq (x:=((i+1:Nat):Int)) (by rw[aA (by omega) (by omega)];omega) ?_
  exact⟨(i+1,swp c (a+i) (b+i)),⟨by dsimp only;omega,H.sw hs (by omega) (by omega),hsw.step (by omega) (by omega),permIn_trans _ _ _ _ _ hp (swp_permIn _ _ _ _ _ (by omega) (by omega) (by omega) (by omega) (by rw[H.size hs];exact hb))⟩,by dsimp only;omega,⟨⟨rfl,rfl,rfl,rfl,rfl,trivial⟩,⟨rfl,trivial⟩,rfl,rfl⟩⟩
 ·obtain rfl : i = k := by omega
  exact rPl ⟨rfl,rfl,c,hsw,hp,rfl,hs⟩
theorem oX(H:SortBy lf sf lb sb n lt μ0 J V){a m b:Nat}(hle:μ0.Le μ)(hV:V d)(ha:a<m)(hm:m<b)(hb:b≤n):
  SpecH Tryz.prog 151 [uC lf sf lb sb,.int .i64 a,.int .i64 m,.int .i64 b] μ (J d) fun v μ' h'=>v= .tuple #[]∧μ'=μ∧∃d',Rot a m b d d'∧PermIn a b d d'∧h'=J d'∧V d':=by
 have hn:=H.max
 refine SpecH.mk [] Tryz.func151 (by kernel_rfl) ?_
 intro r1
 have hs0:=H.size hV
 refine nEq (x:=((m-a:Nat):Int)) (by rw[aA (by omega) (by omega)];omega) ?_
 refine nEq (x:=((b-m:Nat):Int)) (by rw[aA (by omega) (by omega)];omega) ?_
 refine lIn (fun p:Nat×Nat×Array α=>1≤p.1∧p.1≤m-a∧1≤p.2.1∧p.2.1≤b-m∧V p.2.2∧PermIn a b d p.2.2∧∀R,Rot (m-p.1) m (m+p.2.1) p.2.2 R→Rot a m b d R)
  (fun(i,j,c)=>⟨[(2,.val (.int .i64 m)),(4,.loc 0 r1 0),(8,.val (.int .i64 i)),(9,.val (.int .i64 j))],nC r1 lf sf lb sb,1,μ,J c⟩) (fun p=>p.1+p.2.1)
  (m - a, b - m, d) ⟨by dsimp only; omega, Nat.le_refl _, by dsimp only; omega, Nat.le_refl _, hV, permIn_refl _ _ _, fun R hR => by
   dsimp only at hR
   rwa [show m-(m-a)=a by omega,show m+(b-m)=b by omega]at hR⟩ (fun(_,_,_)=>⟨rfl,rfl⟩) ⟨⟨rfl,rfl,rfl,rfl,trivial⟩,⟨rfl,trivial⟩,rfl,rfl⟩ ?_
 rintro⟨i,j,c⟩ ⟨hi1,hi2,hj1,hj2,hs,hp,hR⟩
 dsimp only at hi1 hi2 hj1 hj2 hs hp hR
 refine aM (fun h=>?_) (fun h=>?_)
 ·refine ifd (fun h2 => ?_) (fun h2 => ?_)
  ·refine nEq (x := ((m - i : Nat) : Int)) (by rw [aA (by omega) (by omega)]; omega) ?_
   refine cOw (gD H hle hs (a:=m-i) (b:=m) (k:=j) (by omega) (by omega)) fun v μ' h' hle' hap hR=>?_
   obtain⟨rfl,e2,d2,hsw,hp2,rfl,hV2⟩:=hR
   obtain rfl:=e2.symm
   clear hle' hap
   refine nEq (x:=((i-j:Nat):Int)) (by rw[aA (by omega) (by omega)];omega) ?_
   exact⟨(i-j,j,d2),⟨by dsimp only;omega,by dsimp only;omega,hj1,hj2,hV2,permIn_trans _ _ _ _ _ hp (permIn_mono _ _ _ _ _ _ (by omega) (by omega) (by rw[H.size hs];exact hb) hp2),fun R r=>hR R (Rot.gt (by omega) (by omega) hsw r)⟩,by dsimp only;omega,⟨⟨rfl,rfl,rfl,rfl,trivial⟩,⟨rfl,trivial⟩,rfl,rfl⟩⟩
  ·refine nEq (x := ((m - i : Nat) : Int)) (by rw [aA (by omega) (by omega)]; omega) ?_
   refine nEq (x:=((m+j:Nat):Int)) (by rw[aA (by omega) (by omega)];omega) ?_
   refine nEq (x:=((m+j-i:Nat):Int)) (by rw[aA (by omega) (by omega)];omega) ?_
   refine cOw (gD H hle hs (a:=m-i) (b:=m+j-i) (k:=i) (by omega) (by omega)) fun v μ' h' hle' hap hR=>?_
   obtain⟨rfl,e2,d2,hsw,hp2,rfl,hV2⟩:=hR
   obtain rfl:=e2.symm
   clear hle' hap
   refine nEq (x:=((j-i:Nat):Int)) (by rw[aA (by omega) (by omega)];omega) ?_
   exact⟨(i,j-i,d2),⟨hi1,hi2,by dsimp only;omega,by dsimp only;omega,hV2,permIn_trans _ _ _ _ _ hp (permIn_mono _ _ _ _ _ _ (by omega) (by omega) (by rw[H.size hs];exact hb) hp2),fun R r=>hR R (Rot.ls (by omega) (by omega) hsw r)⟩,by dsimp only;omega,⟨⟨rfl,rfl,rfl,rfl,trivial⟩,⟨rfl,trivial⟩,rfl,rfl⟩⟩
 ·obtain rfl : i = j := by omega
  refine nEq (x:=((m-i:Nat):Int)) (by rw[aA (by omega) (by omega)];omega) ?_
  refine cOw (gD H hle hs (a:=m-i) (b:=m) (k:=i) (by omega) (by omega)) fun v μ' h' hle' hap hR=>?_
  obtain⟨rfl,e2,d2,hsw,hp2,rfl,hV2⟩:=hR
  obtain rfl:=e2.symm
  clear hle' hap
  exact rPl ⟨rfl,rfl,d2,hR d2 (Rot.same (by omega) hsw),permIn_trans _ _ _ _ _ hp (permIn_mono _ _ _ _ _ _ (by omega) (by omega) (by rw[H.size hs];exact hb) hp2),rfl,hV2⟩
end
end Go.Vx
namespace Go.Vx
open Go.Proofs Classical
open Go.Sort
section
variable {α:Type} [Inhabited α] {lt:α→α→Bool} {d d':Array α} {a q b s m e:Nat}
theorem Split.permL(h:Split lt a q b d)(hq:q≤d.size)(p:PermIn a q d d'):Split lt a q b d':=fun x y h1 h2 h3 h4=>by
 rw[p.2.1 y (by omega)]
 exact permIn_all _ _ _ _ (fun v=>lt d[y]! v=false) hq p (fun i hi hj=>h i y hi hj h3 h4) x h1 h2
theorem Split.permR(h:Split lt a q b d)(hq:b≤d.size)(p:PermIn q b d d'):Split lt a q b d':=fun x y h1 h2 h3 h4=>by
 rw[p.2.1 x (by omega)]
 exact permIn_all _ _ _ _ (fun v=>lt v d[x]! =false) hq p (fun i hi hj=>h x i h1 h2 hi hj) y h3 h4
theorem SortedIn.same(h:SortedIn lt a b d)(e:∀k,a≤k→k<b→d'[k]! =d[k]!):SortedIn lt a b d':=fun i j hi hij hj=>by
 rw[e j (by omega) hj,e i hi (by omega)];exact h i j hi hij hj
theorem SortedIn.one(a:Nat)(d:Array α):SortedIn lt a (a+1) d:=fun i j hi hij hj=>by omega
theorem cH(hO:SWO lt)(h:SortedIn lt a b d){i j:Nat}(hi:a≤i)(hij:i≤j)(hj:j<b):lt d[j]! d[i]! =false:=by
 rcases Nat.eq_or_lt_of_le hij with e|e
 ·rw[e];exact hO.irrefl _
 ·exact h i j hi e hj
theorem Rot.left(_h:s≤m)(hm:m=e)(d:Array α):Rot s m e d d:=⟨rfl,fun _ _=>rfl,fun t ht=>by omega,fun t ht=>by congr 1;omega⟩
theorem Rot.right(h:s=m)(_hm:m≤e)(d:Array α):Rot s m e d d:=⟨rfl,fun _ _=>rfl,fun t ht=>by congr 1;omega,fun t ht=>by omega⟩
theorem qDp(hO:SWO lt){i:Nat}{R:Array α}(h2:SortedIn lt (a+1) b d)(hi:a+1≤i)(hib:i≤b)(lo:∀x,a+1≤x→x<i→lt d[x]! d[a]! =true)(hi':∀x,i≤x→x<b→lt d[x]! d[a]! =false)
  (r:Rot a (a+1) i d R):SortedIn lt a b R:=by
 have hq:a+(i-(a+1))=i-1:=by omega
 have h1:SortedIn lt a (a+1) d:=SortedIn.one a d
 have hc:Cut lt a a (a+1) i b d:=⟨Nat.le_refl _,by omega,hi,hib,fun x y h3 h4=>by omega,fun x y h3 h4 h5 h6=>by
  obtain rfl:x=a:=by omega
  exact wM hO (lo y h5 h6)⟩
 have S:=hc.split h1 h2 r
 have s2:=r.s2 h2 hib hi
 have s3:=r.s3 h1 (Nat.le_refl _) (by omega) hi
 have s4:=r.s4 h2 hi
 rw[hq]at S s2 s3
 refine aE s2 (aE s3 s4 fun x y h3 h4 h5 h6=>?_) S
 obtain rfl:x=i-1:=by omega
 have e3:=r.at3 (k:=i-1) hi (by omega) (by omega) (by omega)
 rw[e3,r.at4 h5,show a+(i-1-(a+(i-(a+1))))=a by omega]
 exact hi' y h5 h6
theorem qFt(hO:SWO lt){i:Nat}{R:Array α}(h1:SortedIn lt a m d)(hi:a≤i)(him:i≤m)(lo:∀x,a≤x→x<i→lt d[m]! d[x]! =false)(hi':∀x,i≤x→x<m→lt d[m]! d[x]! =true)
  (r:Rot i m (m+1) d R):SortedIn lt a (m+1) R:=by
 have hq:i+(m+1-m)=i+1:=by omega
 have h2:SortedIn lt m (m+1) d:=SortedIn.one m d
 have hc:Cut lt a i m (m+1) (m+1) d:=⟨hi,him,by omega,Nat.le_refl _,fun x y h3 h4 h5 h6=>by omega,fun x y h3 h4 h5 h6=>by
  obtain rfl:y=m:=by omega
  exact wM hO (hi' x h3 h4)⟩
 have S:=hc.split h1 h2 r
 have s1:=r.s1 h1 him
 have s2:=r.s2 h2 (Nat.le_refl _) (by omega)
 have s3:=r.s3 h1 hi him (by omega)
 rw[hq]at S s2 s3
 refine aE (aE s1 s2 fun x y h3 h4 h5 h6=>?_) s3 S
 obtain rfl:y=i:=by omega
 have e2:=r.at2 (k:=y) (Nat.le_refl _) (by omega)
 rw[e2,r.at1 h4,show m+(y-y)=m by omega]
 exact lo x h3 h4
theorem yR(hO:SWO lt){mid s0 r0:Nat}(h1:SortedIn lt a m d)(h2:SortedIn lt m b d)(ha:a≤s0)(hr:r0≤m)(hs:s0≤s)(hsr:s≤r0)(hse:s+e=mid+m)(hme:m≤e)(heb:e≤b)
  (hs0:s0=a∨s0+b=mid+m) (hr0:r0=m∨r0=mid)
  (lo:∀x,s0≤x→x<s→lt d[mid+m-1-x]! d[x]! =false) (hi:∀x,s≤x→x<r0→lt d[mid+m-1-x]! d[x]! =true):Cut lt a s m e b d:=by
 refine⟨by omega,by omega,hme,heb,fun x y h3 h4 h5 h6=>?_,fun x y h3 h4 h5 h6=>?_⟩
 ·rcases Nat.eq_or_lt_of_le hs with g | g
  ·rcases hs0 with g2|g2<;>omega
  ·have k1 := lo (s - 1) (by omega) (by omega)
   have k2:=cH hO h1 (i:=x) (j:=s-1) h3 (by omega) (by omega)
   have k3:=cH hO h2 (i:=mid+m-1-(s-1)) (j:=y) (by omega) (by omega) h6
   exact hO.ntrans _ _ _ k3 (hO.ntrans _ _ _ k1 k2)
 ·rcases Nat.eq_or_lt_of_le hsr with g | g
  ·rcases hr0 with g2|g2<;>omega
  ·have k1 := wM hO (hi s (Nat.le_refl _) g)
   have k2:=cH hO h1 (i:=s) (j:=x) (by omega) h3 h4
   have k3:=cH hO h2 (i:=y) (j:=mid+m-1-s) h5 (by omega) (by omega)
   exact hO.ntrans _ _ _ k2 (hO.ntrans _ _ _ k1 k3)
theorem eP{mid:Nat}(h1:SortedIn lt a m d)(h2:SortedIn lt m b d)(k:Cut lt a s m e b d)(r:Rot s m e d d')(hmid:s+e=mid+m):
  Split lt a mid b d'∧SortedIn lt a s d'∧SortedIn lt s mid d'∧SortedIn lt mid e d'∧SortedIn lt e b d':=by
 have hme:=k.me
 have e:s+(e-m)=mid:=by omega
 have A:=k.split h1 h2 r
 have s2:=r.s2 h2 k.eb k.me
 have s3:=r.s3 h1 k.sa k.sm k.me
 rw[e]at A s2 s3
 exact⟨A,r.s1 h1 k.sm,s2,s3,r.s4 h2 k.me⟩
theorem qDw(hO:SWO lt){p c x:Nat}(h1:SortedIn lt a m d)(h2:SortedIn lt m b d)(h:lt d[p-c]! d[c]! =false)(hx:a≤x)(hxc:x≤c)(hc:c<m)(hm:m≤p-c)(hp:p-x<b):lt d[p-x]! d[x]! =false:=
 hO.ntrans _ _ _ (cH hO h2 (i:=p-c) (j:=p-x) hm (by omega) hp) (hO.ntrans _ _ _ h (cH hO h1 hx hxc hc))
theorem qCh(hO:SWO lt){p c x:Nat}(h1:SortedIn lt a m d)(h2:SortedIn lt m b d)(h:lt d[p-c]! d[c]! =true)(hc:a≤c)(hxc:c≤x)(hx:x<m)(hm:m≤p-x)(hp:p-c<b):lt d[p-x]! d[x]! =true:=
 zU hO (lt_of_not' hO h (cH hO h1 hc hxc hx)) (cH hO h2 (i:=p-x) (j:=p-c) hm (by omega) hp)
end
section
variable {α:Type} [Inhabited α] {lf sf:FuncId} {lb sb:List Value} {n:Nat} {lt:α→α→Bool} {μ0:Mem} {J:Array α→Mem} {V:Array α→Prop}
set_option maxHeartbeats 8000000 in
theorem lH(H:SortBy lf sf lb sb n lt μ0 J V)(hO:SWO lt):∀(k a m b:Nat) (d:Array α) (μ:Mem),b-a≤k→a<m→m<b→b≤n→V d→μ0.Le μ→SortedIn lt a m d→SortedIn lt m b d→
  SpecH Tryz.prog 140 [uC lf sf lb sb,.int .i64 a,.int .i64 m,.int .i64 b] μ (J d) fun v μ' h'=>v= .tuple #[]∧μ'=μ∧∃d',PermIn a b d d'∧SortedIn lt a b d'∧h'=J d'∧V d':=by
 intro k
 induction k with
 |zero=>intro a m b d μ hk ham hmb;omega
 |succ k IH=>
 intro a m b d μ hk ham hmb hb hV hle h1 h2
 have hn:=H.max
 have hs0:=H.size hV
 refine SpecH.mk [] Tryz.func140 (by kernel_rfl) ?_
 intro r1
 refine nEq (x:=((m-a:Nat):Int)) (by rw[aA (by omega) (by omega)];omega) ?_
 refine ifd (fun g1=>?_) (fun g1=>?_)
 ·obtain rfl : m = a + 1 := by omega
  refine lIn (fun p:Nat×Nat=>a+1≤p.1∧p.1≤p.2∧p.2≤b∧(∀x,a+1≤x→x<p.1→lt d[x]! d[a]! =true)∧∀x,p.2≤x→x<b→lt d[x]! d[a]! =false)
   (fun(i,j)=>⟨[(1,.val (.int .i64 a)),(2,.val (.int .i64 (a+1:Nat))),(3,.val (.int .i64 b)),(4,.loc 0 r1 0),(8,.val (.int .i64 i)),(9,.val (.int .i64 j))],nC r1 lf sf lb sb,1,μ,J d⟩) (fun p=>p.2-p.1)
   (a+1,b) ⟨Nat.le_refl _,by dsimp only;omega,Nat.le_refl _,fun x h3 h4=>by dsimp only at h4;omega,fun x h3 h4=>by dsimp only at h3;omega⟩ (fun(_,_)=>⟨rfl,rfl⟩) ⟨⟨rfl,rfl,rfl,rfl,rfl,rfl,trivial⟩,⟨rfl,trivial⟩,rfl,rfl⟩ ?_
  rintro⟨i,j⟩ ⟨hi,hij,hj,lo,hi'⟩
  dsimp only at hi hij hj lo hi'
  refine ifd (fun h=>?_) (fun h=>?_)
  ·refine aC (by omega) (by omega) ?_
   refine nEq (mS (by omega) (by omega)) ?_
   refine aD (by omega) ?_
   refine nEq (x:=(((i+j) / 2:Nat):Int)) ?_ ?_
   ·show Int.fdiv ((i : Int) + j) (2 ^ (min (Int.toNat 1) 64)) = _
    rw[show min (Int.toNat 1) 64=1 from rfl,show(2:Int) ^ 1=2 from rfl,Int.fdiv_eq_ediv_of_nonneg _ (by omega)]
    omega
   refine aC (by omega) (by omega) ?_
   generalize hc:(i+j) / 2=c
   refine cOw (H.less hle hV (i:=c) (j:=a) (by omega) (by omega)) fun v μ' h' hle' hap hR=>?_
   obtain⟨rfl,e2,rfl⟩:=hR
   obtain rfl:=e2.symm
   clear hle' hap
   refine iIn (fun hl=>?_) (fun hl=>?_)
   ·refine nEq (x := ((c + 1 : Nat) : Int)) (by rw [aA (by omega) (by omega)]; omega) ?_
    exact⟨(c+1,j),⟨by dsimp only;omega,by dsimp only;omega,hj,fun x h3 h4=>by
     dsimp only at h4
     exact zU hO hl (cH hO h2 h3 (by omega) (by omega)),hi'⟩,by dsimp only;omega,⟨⟨rfl,rfl,rfl,rfl,rfl,rfl,trivial⟩,⟨rfl,trivial⟩,rfl,rfl⟩⟩
   ·exact⟨(i,c),⟨hi,by dsimp only;omega,by dsimp only;omega,lo,fun x h3 h4=>by
     dsimp only at h3
     exact hO.ntrans _ _ _ (cH hO h2 (by omega) h3 h4) hl⟩,by dsimp only;omega,⟨⟨rfl,rfl,rfl,rfl,rfl,rfl,trivial⟩,⟨rfl,trivial⟩,rfl,rfl⟩⟩
  ·obtain rfl : i = j := by omega
   refine lIn (fun p:Nat×Array α=>a≤p.1∧p.1+1≤i∧V p.2∧Rot a (a+1) (p.1+1) d p.2∧PermIn a b d p.2)
    (fun(k,c)=>⟨[(1,.val (.int .i64 a)),(2,.val (.int .i64 (a+1:Nat))),(3,.val (.int .i64 b)),(4,.loc 0 r1 0),(8,.val (.int .i64 i)),(11,.val (.int .i64 k))],nC r1 lf sf lb sb,1,μ,J c⟩) (fun p=>i-p.1)
    (a,d) ⟨Nat.le_refl _,hi,hV,Rot.up0 _ _,permIn_refl _ _ _⟩ (fun(_,_)=>⟨rfl,rfl⟩) ⟨⟨rfl,rfl,rfl,rfl,rfl,rfl,trivial⟩,⟨rfl,trivial⟩,rfl,rfl⟩ ?_
   rintro⟨k,c⟩ ⟨hk1,hk2,hs,hr,hp⟩
   dsimp only at hk1 hk2 hs hr hp
   refine nEq (x:=((i-1:Nat):Int)) (by rw[aA (by omega) (by omega)];omega) ?_
   refine ifd (fun h3=>?_) (fun h3=>?_)
   ·refine nEq (x := ((k + 1 : Nat) : Int)) (by rw [aA (by omega) (by omega)]; omega) ?_
    refine cOw (H.swap hle hs (i:=k) (j:=k+1) (by omega) (by omega)) fun v μ' h' hle' hap hR=>?_
    obtain⟨rfl,e2,rfl⟩:=hR
    obtain rfl:=e2.symm
    clear hle' hap
    refine nEq (x:=((k+1:Nat):Int)) (by rw[aA (by omega) (by omega)];omega) ?_
    exact⟨(k+1,swp c k (k+1)),⟨by dsimp only;omega,by dsimp only;omega,H.sw hs (by omega) (by omega),hr.up hk1 (by omega),permIn_trans _ _ _ _ _ hp (swp_permIn _ _ _ _ _ (by omega) (by omega) (by omega) (by omega) (by rw[H.size hs];exact hb))⟩,by dsimp only;omega,⟨⟨rfl,rfl,rfl,rfl,rfl,rfl,trivial⟩,⟨rfl,trivial⟩,rfl,rfl⟩⟩
   ·obtain rfl : i = k + 1 := by omega
    exact rPl ⟨rfl,rfl,c,hp,qDp hO h2 hi hj lo hi' hr,rfl,hs⟩
 refine nEq (x:=((b-m:Nat):Int)) (by rw[aA (by omega) (by omega)];omega) ?_
 refine ifd (fun g2=>?_) (fun g2=>?_)
 ·obtain rfl : b = m + 1 := by omega
  refine lIn (fun p:Nat×Nat=>a≤p.1∧p.1≤p.2∧p.2≤m∧(∀x,a≤x→x<p.1→lt d[m]! d[x]! =false)∧∀x,p.2≤x→x<m→lt d[m]! d[x]! =true)
   (fun(i,j)=>⟨[(1,.val (.int .i64 a)),(2,.val (.int .i64 m)),(3,.val (.int .i64 (m+1:Nat))),(4,.loc 0 r1 0),(12,.val (.int .i64 i)),(13,.val (.int .i64 j))],nC r1 lf sf lb sb,1,μ,J d⟩) (fun p=>p.2-p.1)
   (a,m) ⟨Nat.le_refl _,by dsimp only;omega,Nat.le_refl _,fun x h3 h4=>by dsimp only at h4;omega,fun x h3 h4=>by dsimp only at h3;omega⟩ (fun(_,_)=>⟨rfl,rfl⟩) ⟨⟨rfl,rfl,rfl,rfl,rfl,rfl,trivial⟩,⟨rfl,trivial⟩,rfl,rfl⟩ ?_
  rintro⟨i,j⟩ ⟨hi,hij,hj,lo,hi'⟩
  dsimp only at hi hij hj lo hi'
  refine ifd (fun h=>?_) (fun h=>?_)
  ·refine aC (by omega) (by omega) ?_
   refine nEq (mS (by omega) (by omega)) ?_
   refine aD (by omega) ?_
   refine nEq (x:=(((i+j) / 2:Nat):Int)) ?_ ?_
   ·show Int.fdiv ((i : Int) + j) (2 ^ (min (Int.toNat 1) 64)) = _
    rw[show min (Int.toNat 1) 64=1 from rfl,show(2:Int) ^ 1=2 from rfl,Int.fdiv_eq_ediv_of_nonneg _ (by omega)]
    omega
   refine aC (by omega) (by omega) ?_
   generalize hc:(i+j) / 2=c
   refine cOw (H.less hle hV (i:=m) (j:=c) (by omega) (by omega)) fun v μ' h' hle' hap hR=>?_
   obtain⟨rfl,e2,rfl⟩:=hR
   obtain rfl:=e2.symm
   clear hle' hap
   refine iIn (fun hl=>?_) (fun hl=>?_)
   ·have hl' : lt d[m]! d[c]! = false := by simpa using hl
    refine nEq (x:=((c+1:Nat):Int)) (by rw[aA (by omega) (by omega)];omega) ?_
    exact⟨(c+1,j),⟨by dsimp only;omega,by dsimp only;omega,hj,fun x h3 h4=>by
     dsimp only at h4
     exact hO.ntrans _ _ _ hl' (cH hO h1 h3 (by omega) (by omega)),hi'⟩,by dsimp only;omega,⟨⟨rfl,rfl,rfl,rfl,rfl,rfl,trivial⟩,⟨rfl,trivial⟩,rfl,rfl⟩⟩
   ·have hl' : lt d[m]! d[c]! = true := by simpa using hl
    exact⟨(i,c),⟨hi,by dsimp only;omega,by dsimp only;omega,lo,fun x h3 h4=>by
     dsimp only at h3
     exact lt_of_not' hO hl' (cH hO h1 (by omega) h3 h4)⟩,by dsimp only;omega,⟨⟨rfl,rfl,rfl,rfl,rfl,rfl,trivial⟩,⟨rfl,trivial⟩,rfl,rfl⟩⟩
  ·obtain rfl : i = j := by omega
   refine lIn (fun p:Nat×Array α=>i≤p.1∧p.1≤m∧V p.2∧Rot p.1 m (m+1) d p.2∧PermIn a (m+1) d p.2)
    (fun(k,c)=>⟨[(1,.val (.int .i64 a)),(2,.val (.int .i64 m)),(3,.val (.int .i64 (m+1:Nat))),(4,.loc 0 r1 0),(12,.val (.int .i64 i)),(15,.val (.int .i64 k))],nC r1 lf sf lb sb,1,μ,J c⟩) (fun p=>p.1)
    (m,d) ⟨hj,Nat.le_refl _,hV,Rot.down0 _ _,permIn_refl _ _ _⟩ (fun(_,_)=>⟨rfl,rfl⟩) ⟨⟨rfl,rfl,rfl,rfl,rfl,rfl,trivial⟩,⟨rfl,trivial⟩,rfl,rfl⟩ ?_
   rintro⟨k,c⟩ ⟨hk1,hk2,hs,hr,hp⟩
   dsimp only at hk1 hk2 hs hr hp
   refine ifd (fun h3=>?_) (fun h3=>?_)
   ·obtain ⟨k, rfl⟩ : ∃ k', k = k' + 1 := ⟨k - 1, by omega⟩
    refine nEq (x:=((k:Nat):Int)) (by rw[aA (by omega) (by omega)];omega) ?_
    refine cOw (H.swap hle hs (i:=k+1) (j:=k) (by omega) (by omega)) fun v μ' h' hle' hap hR=>?_
    obtain⟨rfl,e2,rfl⟩:=hR
    obtain rfl:=e2.symm
    clear hle' hap
    refine nEq (x:=((k:Nat):Int)) (by rw[aA (by omega) (by omega)];omega) ?_
    exact⟨(k,swp c (k+1) k),⟨by dsimp only;omega,by dsimp only;omega,H.sw hs (by omega) (by omega),hr.down (by omega) (by omega),permIn_trans _ _ _ _ _ hp (swp_permIn _ _ _ _ _ (by omega) (by omega) (by omega) (by omega) (by rw[H.size hs];exact hb))⟩,by dsimp only;omega,⟨⟨rfl,rfl,rfl,rfl,rfl,rfl,trivial⟩,⟨rfl,trivial⟩,rfl,rfl⟩⟩
   ·obtain rfl : k = i := by omega
    exact rPl ⟨rfl,rfl,c,hp,qFt hO h1 hi hj lo hi' hr,rfl,hs⟩
 refine aC (by omega) (by omega) ?_
 refine nEq (mS (by omega) (by omega)) ?_
 refine aD (by omega) ?_
 refine nEq (x:=(((a+b) / 2:Nat):Int)) ?_ ?_
 ·show Int.fdiv ((a : Int) + b) (2 ^ (min (Int.toNat 1) 64)) = _
  rw[show min (Int.toNat 1) 64=1 from rfl,show(2:Int) ^ 1=2 from rfl,Int.fdiv_eq_ediv_of_nonneg _ (by omega)]
  omega
 refine aC (by omega) (by omega) ?_
 generalize hmid:(a+b) / 2=mid
 refine nEq (x:=((mid+m:Nat):Int)) (by rw[aA (by omega) (by omega)];omega) ?_
 refine ifd (fun g3=>?_) (fun g3=>?_)
 ·refine nEq (x := ((mid + m - b : Nat) : Int)) (by rw [aA (by omega) (by omega)]; omega) ?_
  refine nEq (x:=((mid+m-1:Nat):Int)) (by rw[aA (by omega) (by omega)];omega) ?_
  refine lIn (fun p:Nat×Nat=>mid+m-b≤p.1∧p.1≤p.2∧p.2≤mid∧(∀x,mid+m-b≤x→x<p.1→lt d[mid+m-1-x]! d[x]! =false)∧∀x,p.2≤x→x<mid→lt d[mid+m-1-x]! d[x]! =true)
   (fun(i,j)=>⟨[(1,.val (.int .i64 a)),(2,.val (.int .i64 m)),(3,.val (.int .i64 b)),(4,.loc 0 r1 0),(16,.val (.int .i64 mid)),(17,.val (.int .i64 (mid+m:Nat))),(18,.val (.int .i64 i)),(19,.val (.int .i64 j)),(20,.val (.int .i64 (mid+m-1:Nat)))],nC r1 lf sf lb sb,1,μ,J d⟩) (fun p=>p.2-p.1)
   (mid+m-b,mid) ⟨Nat.le_refl _,by dsimp only;omega,Nat.le_refl _,fun x h3 h4=>by dsimp only at h4;omega,fun x h3 h4=>by dsimp only at h3;omega⟩ (fun(_,_)=>⟨rfl,rfl⟩) ⟨⟨rfl,rfl,rfl,rfl,rfl,rfl,rfl,rfl,rfl,trivial⟩,⟨rfl,trivial⟩,rfl,rfl⟩ ?_
  rintro⟨i,j⟩ ⟨hi,hij,hj,lo,hi'⟩
  dsimp only at hi hij hj lo hi'
  refine ifd (fun h=>?_) (fun h=>?_)
  ·refine aC (by omega) (by omega) ?_
   refine nEq (mS (by omega) (by omega)) ?_
   refine aD (by omega) ?_
   refine nEq (x:=(((i+j) / 2:Nat):Int)) ?_ ?_
   ·show Int.fdiv ((i : Int) + j) (2 ^ (min (Int.toNat 1) 64)) = _
    rw[show min (Int.toNat 1) 64=1 from rfl,show(2:Int) ^ 1=2 from rfl,Int.fdiv_eq_ediv_of_nonneg _ (by omega)]
    omega
   refine aC (by omega) (by omega) ?_
   generalize hc:(i+j) / 2=c
   refine nEq (x:=((mid+m-1-c:Nat):Int)) (by rw[aA (by omega) (by omega)];omega) ?_
   refine cOw (H.less hle hV (i:=mid+m-1-c) (j:=c) (by omega) (by omega)) fun v μ' h' hle' hap hR=>?_
   obtain⟨rfl,e2,rfl⟩:=hR
   obtain rfl:=e2.symm
   clear hle' hap
   refine iIn (fun hl=>?_) (fun hl=>?_)
   ·have hl' : lt d[mid + m - 1 - c]! d[c]! = false := by simpa using hl
    refine nEq (x:=((c+1:Nat):Int)) (by rw[aA (by omega) (by omega)];omega) ?_
    exact⟨(c+1,j),⟨by dsimp only;omega,by dsimp only;omega,hj,fun x h3 h4=>by
     dsimp only at h4
     exact qDw hO h1 h2 hl' (by omega) (by omega) (by omega) (by omega) (by omega),hi'⟩,by dsimp only;omega,⟨⟨rfl,rfl,rfl,rfl,rfl,rfl,rfl,rfl,rfl,trivial⟩,⟨rfl,trivial⟩,rfl,rfl⟩⟩
   ·have hl' : lt d[mid + m - 1 - c]! d[c]! = true := by simpa using hl
    exact⟨(i,c),⟨hi,by dsimp only;omega,by dsimp only;omega,lo,fun x h3 h4=>by
     dsimp only at h3
     exact qCh hO h1 h2 hl' (by omega) h3 (by omega) (by omega) (by omega)⟩,by dsimp only;omega,⟨⟨rfl,rfl,rfl,rfl,rfl,rfl,rfl,rfl,rfl,trivial⟩,⟨rfl,trivial⟩,rfl,rfl⟩⟩
  obtain rfl:i=j:=by omega
  obtain⟨e,he⟩:∃e,e=mid+m-i:=⟨_,rfl⟩
  have hcut:Cut lt a i m e b d:=yR (mid:=mid) (s0:=mid+m-b) (r0:=mid) hO h1 h2 (by omega) (by omega) hi hj (by omega) (by omega) (by omega) (by omega) (by omega) lo hi'
  refine nEq (x:=((e:Nat):Int)) (by rw[aA (by omega) (by omega)];omega) ?_
  refine ifd (fun k1=>?_) (fun k1=>?_)
  ·refine ifd (fun k2 => ?_) (fun k2 => ?_)
   ·refine cOw (oX H hle hV (a := i) (m := m) (b := e) (by omega) (by omega) (by omega)) fun v μ' h' hle' hap hR => ?_
    obtain⟨rfl,e2,d1,hr,hp1,rfl,hV1⟩:=hR
    obtain rfl:=e2.symm
    clear hle' hap
    replace hp1:PermIn a b d d1:=permIn_mono _ _ _ _ _ _ (by omega) (by omega) (by omega) hp1
    have w_:=eP (mid:=mid) h1 h2 hcut (hr) (by omega)
    obtain⟨S,s1,s2,s3,s4⟩:=w_
    refine ifd (fun k3=>?_) (fun k3=>?_)
    ·refine ifd (fun k4 => ?_) (fun k4 => ?_)
     ·refine cOw (IH a i mid d1 _ (by omega) (by omega) (by omega) (by omega) hV1 hle s1 s2) fun v μ' h' hle' hap hR => ?_
      obtain⟨rfl,e2,d4,hp4,hs4,rfl,hV4⟩:=hR
      obtain rfl:=e2.symm
      clear hle' hap
      have hz4:mid≤(d1).size:=by rw[H.size hV1];omega
      refine ifd (fun k5=>?_) (fun k5=>?_)
      ·refine ifd (fun k6 => ?_) (fun k6 => ?_)
       ·refine cOw (IH _ e b d4 _ (by omega) (by omega) (by omega) (by omega) hV4 hle (SortedIn.same s3 fun k h5 h6 => hp4.2.1 k (by omega)) (SortedIn.same s4 fun k h5 h6 => hp4.2.1 k (by omega))) fun v μ' h' hle' hap hR => ?_
        obtain⟨rfl,e2,d5,hp5,hs5,rfl,hV5⟩:=hR
        obtain rfl:=e2.symm
        clear hle' hap
        exact rPl ⟨rfl,rfl,d5,permIn_trans _ _ _ _ _ (permIn_trans _ _ _ _ _ hp1 (permIn_mono _ _ _ _ _ _ (Nat.le_refl _) (by omega) (by rw[H.size hV1];exact hb) hp4)) (permIn_mono _ _ _ _ _ _ (by omega) (Nat.le_refl _) (by rw[H.size hV4];exact hb) hp5),aE (SortedIn.same hs4 fun k h5 h6=>hp5.2.1 k (by omega)) hs5 (Split.permR (S.permL hz4 hp4) (by rw[H.size hV4];exact hb) hp5),rfl,hV5⟩
       ·have k7 : e = b := by omega
        exact rPl ⟨rfl,rfl,d4,(permIn_trans _ _ _ _ _ hp1 (permIn_mono _ _ _ _ _ _ (Nat.le_refl _) (by omega) (by rw[H.size hV1];exact hb) hp4)),aE hs4 (by have h:=(SortedIn.same s3 fun k h5 h6=>hp4.2.1 k (by omega));rwa [k7]at h) (S.permL hz4 hp4),rfl,hV4⟩
      ·have k7 : e = mid := by omega
       exact rPl ⟨rfl,rfl,d4,(permIn_trans _ _ _ _ _ hp1 (permIn_mono _ _ _ _ _ _ (Nat.le_refl _) (by omega) (by rw[H.size hV1];exact hb) hp4)),aE hs4 (by have h:=(SortedIn.same s4 fun k h5 h6=>hp4.2.1 k (by omega));rwa [k7]at h) (S.permL hz4 hp4),rfl,hV4⟩
     ·obtain rfl : mid = i := by omega
      refine ifd (fun k5=>?_) (fun k5=>?_)
      ·refine ifd (fun k6 => ?_) (fun k6 => ?_)
       ·refine cOw (IH _ e b d1 _ (by omega) (by omega) (by omega) (by omega) hV1 hle s3 s4) fun v μ' h' hle' hap hR => ?_
        obtain⟨rfl,e2,d5,hp5,hs5,rfl,hV5⟩:=hR
        obtain rfl:=e2.symm
        clear hle' hap
        exact rPl ⟨rfl,rfl,d5,permIn_trans _ _ _ _ _ hp1 (permIn_mono _ _ _ _ _ _ (by omega) (Nat.le_refl _) (by rw[H.size hV1];exact hb) hp5),aE (SortedIn.same s1 fun k h5 h6=>hp5.2.1 k (by omega)) hs5 (Split.permR S (by rw[H.size hV1];exact hb) hp5),rfl,hV5⟩
       ·have k7 : e = b := by omega
        exact rPl ⟨rfl,rfl,d1,hp1,aE s1 (by have h:=s3;rwa [k7]at h) S,rfl,hV1⟩
      ·have k7 : e = mid := by omega
       exact rPl ⟨rfl,rfl,d1,hp1,aE s1 (by have h:=s4;rwa [k7]at h) S,rfl,hV1⟩
    ·obtain rfl : a = i := by omega
     refine ifd (fun k5=>?_) (fun k5=>?_)
     ·refine ifd (fun k6 => ?_) (fun k6 => ?_)
      ·refine cOw (IH _ e b d1 _ (by omega) (by omega) (by omega) (by omega) hV1 hle s3 s4) fun v μ' h' hle' hap hR => ?_
       obtain⟨rfl,e2,d5,hp5,hs5,rfl,hV5⟩:=hR
       obtain rfl:=e2.symm
       clear hle' hap
       exact rPl ⟨rfl,rfl,d5,permIn_trans _ _ _ _ _ hp1 (permIn_mono _ _ _ _ _ _ (by omega) (Nat.le_refl _) (by rw[H.size hV1];exact hb) hp5),aE (SortedIn.same s2 fun k h5 h6=>hp5.2.1 k (by omega)) hs5 (Split.permR S (by rw[H.size hV1];exact hb) hp5),rfl,hV5⟩
      ·have k7 : e = b := by omega
       exact rPl ⟨rfl,rfl,d1,hp1,aE s2 (by have h:=s3;rwa [k7]at h) S,rfl,hV1⟩
     ·have k7 : e = mid := by omega
      exact rPl ⟨rfl,rfl,d1,hp1,aE s2 (by have h:=s4;rwa [k7]at h) S,rfl,hV1⟩
   ·have w_ := eP (mid := mid) h1 h2 hcut (Rot.left (by omega) (by omega) d) (by omega)
    obtain⟨S,s1,s2,s3,s4⟩:=w_
    refine ifd (fun k3=>?_) (fun k3=>?_)
    ·refine ifd (fun k4 => ?_) (fun k4 => ?_)
     ·refine cOw (IH a i mid d _ (by omega) (by omega) (by omega) (by omega) hV hle s1 s2) fun v μ' h' hle' hap hR => ?_
      obtain⟨rfl,e2,d4,hp4,hs4,rfl,hV4⟩:=hR
      obtain rfl:=e2.symm
      clear hle' hap
      have hz4:mid≤(d).size:=by rw[H.size hV];omega
      refine ifd (fun k5=>?_) (fun k5=>?_)
      ·refine ifd (fun k6 => ?_) (fun k6 => ?_)
       ·refine cOw (IH _ e b d4 _ (by omega) (by omega) (by omega) (by omega) hV4 hle (SortedIn.same s3 fun k h5 h6 => hp4.2.1 k (by omega)) (SortedIn.same s4 fun k h5 h6 => hp4.2.1 k (by omega))) fun v μ' h' hle' hap hR => ?_
        obtain⟨rfl,e2,d5,hp5,hs5,rfl,hV5⟩:=hR
        obtain rfl:=e2.symm
        clear hle' hap
        exact rPl ⟨rfl,rfl,d5,permIn_trans _ _ _ _ _ (permIn_trans _ _ _ _ _ (permIn_refl d a b) (permIn_mono _ _ _ _ _ _ (Nat.le_refl _) (by omega) (by rw[H.size hV];exact hb) hp4)) (permIn_mono _ _ _ _ _ _ (by omega) (Nat.le_refl _) (by rw[H.size hV4];exact hb) hp5),aE (SortedIn.same hs4 fun k h5 h6=>hp5.2.1 k (by omega)) hs5 (Split.permR (S.permL hz4 hp4) (by rw[H.size hV4];exact hb) hp5),rfl,hV5⟩
       ·have k7 : e = b := by omega
        exact rPl ⟨rfl,rfl,d4,(permIn_trans _ _ _ _ _ (permIn_refl d a b) (permIn_mono _ _ _ _ _ _ (Nat.le_refl _) (by omega) (by rw[H.size hV];exact hb) hp4)),aE hs4 (by have h:=(SortedIn.same s3 fun k h5 h6=>hp4.2.1 k (by omega));rwa [k7]at h) (S.permL hz4 hp4),rfl,hV4⟩
      ·have k7 : e = mid := by omega
       exact rPl ⟨rfl,rfl,d4,(permIn_trans _ _ _ _ _ (permIn_refl d a b) (permIn_mono _ _ _ _ _ _ (Nat.le_refl _) (by omega) (by rw[H.size hV];exact hb) hp4)),aE hs4 (by have h:=(SortedIn.same s4 fun k h5 h6=>hp4.2.1 k (by omega));rwa [k7]at h) (S.permL hz4 hp4),rfl,hV4⟩
     ·obtain rfl : mid = i := by omega
      refine ifd (fun k5=>?_) (fun k5=>?_)
      ·refine ifd (fun k6 => ?_) (fun k6 => ?_)
       ·refine cOw (IH _ e b d _ (by omega) (by omega) (by omega) (by omega) hV hle s3 s4) fun v μ' h' hle' hap hR => ?_
        obtain⟨rfl,e2,d5,hp5,hs5,rfl,hV5⟩:=hR
        obtain rfl:=e2.symm
        clear hle' hap
        exact rPl ⟨rfl,rfl,d5,permIn_trans _ _ _ _ _ (permIn_refl d a b) (permIn_mono _ _ _ _ _ _ (by omega) (Nat.le_refl _) (by rw[H.size hV];exact hb) hp5),aE (SortedIn.same s1 fun k h5 h6=>hp5.2.1 k (by omega)) hs5 (Split.permR S (by rw[H.size hV];exact hb) hp5),rfl,hV5⟩
       ·have k7 : e = b := by omega
        exact rPl ⟨rfl,rfl,d,(permIn_refl d a b),aE s1 (by have h:=s3;rwa [k7]at h) S,rfl,hV⟩
      ·have k7 : e = mid := by omega
       exact rPl ⟨rfl,rfl,d,(permIn_refl d a b),aE s1 (by have h:=s4;rwa [k7]at h) S,rfl,hV⟩
    ·obtain rfl : a = i := by omega
     refine ifd (fun k5=>?_) (fun k5=>?_)
     ·refine ifd (fun k6 => ?_) (fun k6 => ?_)
      ·refine cOw (IH _ e b d _ (by omega) (by omega) (by omega) (by omega) hV hle s3 s4) fun v μ' h' hle' hap hR => ?_
       obtain⟨rfl,e2,d5,hp5,hs5,rfl,hV5⟩:=hR
       obtain rfl:=e2.symm
       clear hle' hap
       exact rPl ⟨rfl,rfl,d5,permIn_trans _ _ _ _ _ (permIn_refl d a b) (permIn_mono _ _ _ _ _ _ (by omega) (Nat.le_refl _) (by rw[H.size hV];exact hb) hp5),aE (SortedIn.same s2 fun k h5 h6=>hp5.2.1 k (by omega)) hs5 (Split.permR S (by rw[H.size hV];exact hb) hp5),rfl,hV5⟩
      ·have k7 : e = b := by omega
       exact rPl ⟨rfl,rfl,d,(permIn_refl d a b),aE s2 (by have h:=s3;rwa [k7]at h) S,rfl,hV⟩
     ·have k7 : e = mid := by omega
      exact rPl ⟨rfl,rfl,d,(permIn_refl d a b),aE s2 (by have h:=s4;rwa [k7]at h) S,rfl,hV⟩
  ·have w_ := eP (mid := mid) h1 h2 hcut (Rot.right (by omega) (by omega) d) (by omega)
   obtain⟨S,s1,s2,s3,s4⟩:=w_
   refine ifd (fun k3=>?_) (fun k3=>?_)
   ·refine ifd (fun k4 => ?_) (fun k4 => ?_)
    ·refine cOw (IH a i mid d _ (by omega) (by omega) (by omega) (by omega) hV hle s1 s2) fun v μ' h' hle' hap hR => ?_
     obtain⟨rfl,e2,d4,hp4,hs4,rfl,hV4⟩:=hR
     obtain rfl:=e2.symm
     clear hle' hap
     have hz4:mid≤(d).size:=by rw[H.size hV];omega
     refine ifd (fun k5=>?_) (fun k5=>?_)
     ·refine ifd (fun k6 => ?_) (fun k6 => ?_)
      ·refine cOw (IH _ e b d4 _ (by omega) (by omega) (by omega) (by omega) hV4 hle (SortedIn.same s3 fun k h5 h6 => hp4.2.1 k (by omega)) (SortedIn.same s4 fun k h5 h6 => hp4.2.1 k (by omega))) fun v μ' h' hle' hap hR => ?_
       obtain⟨rfl,e2,d5,hp5,hs5,rfl,hV5⟩:=hR
       obtain rfl:=e2.symm
       clear hle' hap
       exact rPl ⟨rfl,rfl,d5,permIn_trans _ _ _ _ _ (permIn_trans _ _ _ _ _ (permIn_refl d a b) (permIn_mono _ _ _ _ _ _ (Nat.le_refl _) (by omega) (by rw[H.size hV];exact hb) hp4)) (permIn_mono _ _ _ _ _ _ (by omega) (Nat.le_refl _) (by rw[H.size hV4];exact hb) hp5),aE (SortedIn.same hs4 fun k h5 h6=>hp5.2.1 k (by omega)) hs5 (Split.permR (S.permL hz4 hp4) (by rw[H.size hV4];exact hb) hp5),rfl,hV5⟩
      ·have k7 : e = b := by omega
       exact rPl ⟨rfl,rfl,d4,(permIn_trans _ _ _ _ _ (permIn_refl d a b) (permIn_mono _ _ _ _ _ _ (Nat.le_refl _) (by omega) (by rw[H.size hV];exact hb) hp4)),aE hs4 (by have h:=(SortedIn.same s3 fun k h5 h6=>hp4.2.1 k (by omega));rwa [k7]at h) (S.permL hz4 hp4),rfl,hV4⟩
     ·have k7 : e = mid := by omega
      exact rPl ⟨rfl,rfl,d4,(permIn_trans _ _ _ _ _ (permIn_refl d a b) (permIn_mono _ _ _ _ _ _ (Nat.le_refl _) (by omega) (by rw[H.size hV];exact hb) hp4)),aE hs4 (by have h:=(SortedIn.same s4 fun k h5 h6=>hp4.2.1 k (by omega));rwa [k7]at h) (S.permL hz4 hp4),rfl,hV4⟩
    ·obtain rfl : mid = i := by omega
     refine ifd (fun k5=>?_) (fun k5=>?_)
     ·refine ifd (fun k6 => ?_) (fun k6 => ?_)
      ·refine cOw (IH _ e b d _ (by omega) (by omega) (by omega) (by omega) hV hle s3 s4) fun v μ' h' hle' hap hR => ?_
       obtain⟨rfl,e2,d5,hp5,hs5,rfl,hV5⟩:=hR
       obtain rfl:=e2.symm
       clear hle' hap
       exact rPl ⟨rfl,rfl,d5,permIn_trans _ _ _ _ _ (permIn_refl d a b) (permIn_mono _ _ _ _ _ _ (by omega) (Nat.le_refl _) (by rw[H.size hV];exact hb) hp5),aE (SortedIn.same s1 fun k h5 h6=>hp5.2.1 k (by omega)) hs5 (Split.permR S (by rw[H.size hV];exact hb) hp5),rfl,hV5⟩
      ·have k7 : e = b := by omega
       exact rPl ⟨rfl,rfl,d,(permIn_refl d a b),aE s1 (by have h:=s3;rwa [k7]at h) S,rfl,hV⟩
     ·have k7 : e = mid := by omega
      exact rPl ⟨rfl,rfl,d,(permIn_refl d a b),aE s1 (by have h:=s4;rwa [k7]at h) S,rfl,hV⟩
   ·obtain rfl : a = i := by omega
    refine ifd (fun k5=>?_) (fun k5=>?_)
    ·refine ifd (fun k6 => ?_) (fun k6 => ?_)
     ·refine cOw (IH _ e b d _ (by omega) (by omega) (by omega) (by omega) hV hle s3 s4) fun v μ' h' hle' hap hR => ?_
      obtain⟨rfl,e2,d5,hp5,hs5,rfl,hV5⟩:=hR
      obtain rfl:=e2.symm
      clear hle' hap
      exact rPl ⟨rfl,rfl,d5,permIn_trans _ _ _ _ _ (permIn_refl d a b) (permIn_mono _ _ _ _ _ _ (by omega) (Nat.le_refl _) (by rw[H.size hV];exact hb) hp5),aE (SortedIn.same s2 fun k h5 h6=>hp5.2.1 k (by omega)) hs5 (Split.permR S (by rw[H.size hV];exact hb) hp5),rfl,hV5⟩
     ·have k7 : e = b := by omega
      exact rPl ⟨rfl,rfl,d,(permIn_refl d a b),aE s2 (by have h:=s3;rwa [k7]at h) S,rfl,hV⟩
    ·have k7 : e = mid := by omega
     exact rPl ⟨rfl,rfl,d,(permIn_refl d a b),aE s2 (by have h:=s4;rwa [k7]at h) S,rfl,hV⟩
 ·refine nEq (x := ((mid + m - 1 : Nat) : Int)) (by rw [aA (by omega) (by omega)]; omega) ?_
  refine lIn (fun p:Nat×Nat=>a≤p.1∧p.1≤p.2∧p.2≤m∧(∀x,a≤x→x<p.1→lt d[mid+m-1-x]! d[x]! =false)∧∀x,p.2≤x→x<m→lt d[mid+m-1-x]! d[x]! =true)
   (fun(i,j)=>⟨[(1,.val (.int .i64 a)),(2,.val (.int .i64 m)),(3,.val (.int .i64 b)),(4,.loc 0 r1 0),(16,.val (.int .i64 mid)),(17,.val (.int .i64 (mid+m:Nat))),(18,.val (.int .i64 i)),(19,.val (.int .i64 j)),(20,.val (.int .i64 (mid+m-1:Nat)))],nC r1 lf sf lb sb,1,μ,J d⟩) (fun p=>p.2-p.1)
   (a,m) ⟨Nat.le_refl _,by dsimp only;omega,Nat.le_refl _,fun x h3 h4=>by dsimp only at h4;omega,fun x h3 h4=>by dsimp only at h3;omega⟩ (fun(_,_)=>⟨rfl,rfl⟩) ⟨⟨rfl,rfl,rfl,rfl,rfl,rfl,rfl,rfl,rfl,trivial⟩,⟨rfl,trivial⟩,rfl,rfl⟩ ?_
  rintro⟨i,j⟩ ⟨hi,hij,hj,lo,hi'⟩
  dsimp only at hi hij hj lo hi'
  refine ifd (fun h=>?_) (fun h=>?_)
  ·refine aC (by omega) (by omega) ?_
   refine nEq (mS (by omega) (by omega)) ?_
   refine aD (by omega) ?_
   refine nEq (x:=(((i+j) / 2:Nat):Int)) ?_ ?_
   ·show Int.fdiv ((i : Int) + j) (2 ^ (min (Int.toNat 1) 64)) = _
    rw[show min (Int.toNat 1) 64=1 from rfl,show(2:Int) ^ 1=2 from rfl,Int.fdiv_eq_ediv_of_nonneg _ (by omega)]
    omega
   refine aC (by omega) (by omega) ?_
   generalize hc:(i+j) / 2=c
   refine nEq (x:=((mid+m-1-c:Nat):Int)) (by rw[aA (by omega) (by omega)];omega) ?_
   refine cOw (H.less hle hV (i:=mid+m-1-c) (j:=c) (by omega) (by omega)) fun v μ' h' hle' hap hR=>?_
   obtain⟨rfl,e2,rfl⟩:=hR
   obtain rfl:=e2.symm
   clear hle' hap
   refine iIn (fun hl=>?_) (fun hl=>?_)
   ·have hl' : lt d[mid + m - 1 - c]! d[c]! = false := by simpa using hl
    refine nEq (x:=((c+1:Nat):Int)) (by rw[aA (by omega) (by omega)];omega) ?_
    exact⟨(c+1,j),⟨by dsimp only;omega,by dsimp only;omega,hj,fun x h3 h4=>by
     dsimp only at h4
     exact qDw hO h1 h2 hl' (by omega) (by omega) (by omega) (by omega) (by omega),hi'⟩,by dsimp only;omega,⟨⟨rfl,rfl,rfl,rfl,rfl,rfl,rfl,rfl,rfl,trivial⟩,⟨rfl,trivial⟩,rfl,rfl⟩⟩
   ·have hl' : lt d[mid + m - 1 - c]! d[c]! = true := by simpa using hl
    exact⟨(i,c),⟨hi,by dsimp only;omega,by dsimp only;omega,lo,fun x h3 h4=>by
     dsimp only at h3
     exact qCh hO h1 h2 hl' (by omega) h3 (by omega) (by omega) (by omega)⟩,by dsimp only;omega,⟨⟨rfl,rfl,rfl,rfl,rfl,rfl,rfl,rfl,rfl,trivial⟩,⟨rfl,trivial⟩,rfl,rfl⟩⟩
  obtain rfl:i=j:=by omega
  obtain⟨e,he⟩:∃e,e=mid+m-i:=⟨_,rfl⟩
  have hcut:Cut lt a i m e b d:=yR (mid:=mid) (s0:=a) (r0:=m) hO h1 h2 (by omega) (by omega) hi hj (by omega) (by omega) (by omega) (by omega) (by omega) lo hi'
  refine nEq (x:=((e:Nat):Int)) (by rw[aA (by omega) (by omega)];omega) ?_
  refine ifd (fun k1=>?_) (fun k1=>?_)
  ·refine ifd (fun k2 => ?_) (fun k2 => ?_)
   ·refine cOw (oX H hle hV (a := i) (m := m) (b := e) (by omega) (by omega) (by omega)) fun v μ' h' hle' hap hR => ?_
    obtain⟨rfl,e2,d1,hr,hp1,rfl,hV1⟩:=hR
    obtain rfl:=e2.symm
    clear hle' hap
    replace hp1:PermIn a b d d1:=permIn_mono _ _ _ _ _ _ (by omega) (by omega) (by omega) hp1
    have w_:=eP (mid:=mid) h1 h2 hcut (hr) (by omega)
    obtain⟨S,s1,s2,s3,s4⟩:=w_
    refine ifd (fun k3=>?_) (fun k3=>?_)
    ·refine ifd (fun k4 => ?_) (fun k4 => ?_)
     ·refine cOw (IH a i mid d1 _ (by omega) (by omega) (by omega) (by omega) hV1 hle s1 s2) fun v μ' h' hle' hap hR => ?_
      obtain⟨rfl,e2,d4,hp4,hs4,rfl,hV4⟩:=hR
      obtain rfl:=e2.symm
      clear hle' hap
      have hz4:mid≤(d1).size:=by rw[H.size hV1];omega
      refine ifd (fun k5=>?_) (fun k5=>?_)
      ·refine ifd (fun k6 => ?_) (fun k6 => ?_)
       ·refine cOw (IH _ e b d4 _ (by omega) (by omega) (by omega) (by omega) hV4 hle (SortedIn.same s3 fun k h5 h6 => hp4.2.1 k (by omega)) (SortedIn.same s4 fun k h5 h6 => hp4.2.1 k (by omega))) fun v μ' h' hle' hap hR => ?_
        obtain⟨rfl,e2,d5,hp5,hs5,rfl,hV5⟩:=hR
        obtain rfl:=e2.symm
        clear hle' hap
        exact rPl ⟨rfl,rfl,d5,permIn_trans _ _ _ _ _ (permIn_trans _ _ _ _ _ hp1 (permIn_mono _ _ _ _ _ _ (Nat.le_refl _) (by omega) (by rw[H.size hV1];exact hb) hp4)) (permIn_mono _ _ _ _ _ _ (by omega) (Nat.le_refl _) (by rw[H.size hV4];exact hb) hp5),aE (SortedIn.same hs4 fun k h5 h6=>hp5.2.1 k (by omega)) hs5 (Split.permR (S.permL hz4 hp4) (by rw[H.size hV4];exact hb) hp5),rfl,hV5⟩
       ·have k7 : e = b := by omega
        exact rPl ⟨rfl,rfl,d4,(permIn_trans _ _ _ _ _ hp1 (permIn_mono _ _ _ _ _ _ (Nat.le_refl _) (by omega) (by rw[H.size hV1];exact hb) hp4)),aE hs4 (by have h:=(SortedIn.same s3 fun k h5 h6=>hp4.2.1 k (by omega));rwa [k7]at h) (S.permL hz4 hp4),rfl,hV4⟩
      ·have k7 : e = mid := by omega
       exact rPl ⟨rfl,rfl,d4,(permIn_trans _ _ _ _ _ hp1 (permIn_mono _ _ _ _ _ _ (Nat.le_refl _) (by omega) (by rw[H.size hV1];exact hb) hp4)),aE hs4 (by have h:=(SortedIn.same s4 fun k h5 h6=>hp4.2.1 k (by omega));rwa [k7]at h) (S.permL hz4 hp4),rfl,hV4⟩
     ·obtain rfl : mid = i := by omega
      refine ifd (fun k5=>?_) (fun k5=>?_)
      ·refine ifd (fun k6 => ?_) (fun k6 => ?_)
       ·refine cOw (IH _ e b d1 _ (by omega) (by omega) (by omega) (by omega) hV1 hle s3 s4) fun v μ' h' hle' hap hR => ?_
        obtain⟨rfl,e2,d5,hp5,hs5,rfl,hV5⟩:=hR
        obtain rfl:=e2.symm
        clear hle' hap
        exact rPl ⟨rfl,rfl,d5,permIn_trans _ _ _ _ _ hp1 (permIn_mono _ _ _ _ _ _ (by omega) (Nat.le_refl _) (by rw[H.size hV1];exact hb) hp5),aE (SortedIn.same s1 fun k h5 h6=>hp5.2.1 k (by omega)) hs5 (Split.permR S (by rw[H.size hV1];exact hb) hp5),rfl,hV5⟩
       ·have k7 : e = b := by omega
        exact rPl ⟨rfl,rfl,d1,hp1,aE s1 (by have h:=s3;rwa [k7]at h) S,rfl,hV1⟩
      ·have k7 : e = mid := by omega
       exact rPl ⟨rfl,rfl,d1,hp1,aE s1 (by have h:=s4;rwa [k7]at h) S,rfl,hV1⟩
    ·obtain rfl : a = i := by omega
     refine ifd (fun k5=>?_) (fun k5=>?_)
     ·refine ifd (fun k6 => ?_) (fun k6 => ?_)
      ·refine cOw (IH _ e b d1 _ (by omega) (by omega) (by omega) (by omega) hV1 hle s3 s4) fun v μ' h' hle' hap hR => ?_
       obtain⟨rfl,e2,d5,hp5,hs5,rfl,hV5⟩:=hR
       obtain rfl:=e2.symm
       clear hle' hap
       exact rPl ⟨rfl,rfl,d5,permIn_trans _ _ _ _ _ hp1 (permIn_mono _ _ _ _ _ _ (by omega) (Nat.le_refl _) (by rw[H.size hV1];exact hb) hp5),aE (SortedIn.same s2 fun k h5 h6=>hp5.2.1 k (by omega)) hs5 (Split.permR S (by rw[H.size hV1];exact hb) hp5),rfl,hV5⟩
      ·have k7 : e = b := by omega
       exact rPl ⟨rfl,rfl,d1,hp1,aE s2 (by have h:=s3;rwa [k7]at h) S,rfl,hV1⟩
     ·have k7 : e = mid := by omega
      exact rPl ⟨rfl,rfl,d1,hp1,aE s2 (by have h:=s4;rwa [k7]at h) S,rfl,hV1⟩
   ·have w_ := eP (mid := mid) h1 h2 hcut (Rot.left (by omega) (by omega) d) (by omega)
    obtain⟨S,s1,s2,s3,s4⟩:=w_
    refine ifd (fun k3=>?_) (fun k3=>?_)
    ·refine ifd (fun k4 => ?_) (fun k4 => ?_)
     ·refine cOw (IH a i mid d _ (by omega) (by omega) (by omega) (by omega) hV hle s1 s2) fun v μ' h' hle' hap hR => ?_
      obtain⟨rfl,e2,d4,hp4,hs4,rfl,hV4⟩:=hR
      obtain rfl:=e2.symm
      clear hle' hap
      have hz4:mid≤(d).size:=by rw[H.size hV];omega
      refine ifd (fun k5=>?_) (fun k5=>?_)
      ·refine ifd (fun k6 => ?_) (fun k6 => ?_)
       ·refine cOw (IH _ e b d4 _ (by omega) (by omega) (by omega) (by omega) hV4 hle (SortedIn.same s3 fun k h5 h6 => hp4.2.1 k (by omega)) (SortedIn.same s4 fun k h5 h6 => hp4.2.1 k (by omega))) fun v μ' h' hle' hap hR => ?_
        obtain⟨rfl,e2,d5,hp5,hs5,rfl,hV5⟩:=hR
        obtain rfl:=e2.symm
        clear hle' hap
        exact rPl ⟨rfl,rfl,d5,permIn_trans _ _ _ _ _ (permIn_trans _ _ _ _ _ (permIn_refl d a b) (permIn_mono _ _ _ _ _ _ (Nat.le_refl _) (by omega) (by rw[H.size hV];exact hb) hp4)) (permIn_mono _ _ _ _ _ _ (by omega) (Nat.le_refl _) (by rw[H.size hV4];exact hb) hp5),aE (SortedIn.same hs4 fun k h5 h6=>hp5.2.1 k (by omega)) hs5 (Split.permR (S.permL hz4 hp4) (by rw[H.size hV4];exact hb) hp5),rfl,hV5⟩
       ·have k7 : e = b := by omega
        exact rPl ⟨rfl,rfl,d4,(permIn_trans _ _ _ _ _ (permIn_refl d a b) (permIn_mono _ _ _ _ _ _ (Nat.le_refl _) (by omega) (by rw[H.size hV];exact hb) hp4)),aE hs4 (by have h:=(SortedIn.same s3 fun k h5 h6=>hp4.2.1 k (by omega));rwa [k7]at h) (S.permL hz4 hp4),rfl,hV4⟩
      ·have k7 : e = mid := by omega
       exact rPl ⟨rfl,rfl,d4,(permIn_trans _ _ _ _ _ (permIn_refl d a b) (permIn_mono _ _ _ _ _ _ (Nat.le_refl _) (by omega) (by rw[H.size hV];exact hb) hp4)),aE hs4 (by have h:=(SortedIn.same s4 fun k h5 h6=>hp4.2.1 k (by omega));rwa [k7]at h) (S.permL hz4 hp4),rfl,hV4⟩
     ·obtain rfl : mid = i := by omega
      refine ifd (fun k5=>?_) (fun k5=>?_)
      ·refine ifd (fun k6 => ?_) (fun k6 => ?_)
       ·refine cOw (IH _ e b d _ (by omega) (by omega) (by omega) (by omega) hV hle s3 s4) fun v μ' h' hle' hap hR => ?_
        obtain⟨rfl,e2,d5,hp5,hs5,rfl,hV5⟩:=hR
        obtain rfl:=e2.symm
        clear hle' hap
        exact rPl ⟨rfl,rfl,d5,permIn_trans _ _ _ _ _ (permIn_refl d a b) (permIn_mono _ _ _ _ _ _ (by omega) (Nat.le_refl _) (by rw[H.size hV];exact hb) hp5),aE (SortedIn.same s1 fun k h5 h6=>hp5.2.1 k (by omega)) hs5 (Split.permR S (by rw[H.size hV];exact hb) hp5),rfl,hV5⟩
       ·have k7 : e = b := by omega
        exact rPl ⟨rfl,rfl,d,(permIn_refl d a b),aE s1 (by have h:=s3;rwa [k7]at h) S,rfl,hV⟩
      ·have k7 : e = mid := by omega
       exact rPl ⟨rfl,rfl,d,(permIn_refl d a b),aE s1 (by have h:=s4;rwa [k7]at h) S,rfl,hV⟩
    ·obtain rfl : a = i := by omega
     refine ifd (fun k5=>?_) (fun k5=>?_)
     ·refine ifd (fun k6 => ?_) (fun k6 => ?_)
      ·refine cOw (IH _ e b d _ (by omega) (by omega) (by omega) (by omega) hV hle s3 s4) fun v μ' h' hle' hap hR => ?_
       obtain⟨rfl,e2,d5,hp5,hs5,rfl,hV5⟩:=hR
       obtain rfl:=e2.symm
       clear hle' hap
       exact rPl ⟨rfl,rfl,d5,permIn_trans _ _ _ _ _ (permIn_refl d a b) (permIn_mono _ _ _ _ _ _ (by omega) (Nat.le_refl _) (by rw[H.size hV];exact hb) hp5),aE (SortedIn.same s2 fun k h5 h6=>hp5.2.1 k (by omega)) hs5 (Split.permR S (by rw[H.size hV];exact hb) hp5),rfl,hV5⟩
      ·have k7 : e = b := by omega
       exact rPl ⟨rfl,rfl,d,(permIn_refl d a b),aE s2 (by have h:=s3;rwa [k7]at h) S,rfl,hV⟩
     ·have k7 : e = mid := by omega
      exact rPl ⟨rfl,rfl,d,(permIn_refl d a b),aE s2 (by have h:=s4;rwa [k7]at h) S,rfl,hV⟩
  ·have w_ := eP (mid := mid) h1 h2 hcut (Rot.right (by omega) (by omega) d) (by omega)
   obtain⟨S,s1,s2,s3,s4⟩:=w_
   refine ifd (fun k3=>?_) (fun k3=>?_)
   ·refine ifd (fun k4 => ?_) (fun k4 => ?_)
    ·refine cOw (IH a i mid d _ (by omega) (by omega) (by omega) (by omega) hV hle s1 s2) fun v μ' h' hle' hap hR => ?_
     obtain⟨rfl,e2,d4,hp4,hs4,rfl,hV4⟩:=hR
     obtain rfl:=e2.symm
     clear hle' hap
     have hz4:mid≤(d).size:=by rw[H.size hV];omega
     refine ifd (fun k5=>?_) (fun k5=>?_)
     ·refine ifd (fun k6 => ?_) (fun k6 => ?_)
      ·refine cOw (IH _ e b d4 _ (by omega) (by omega) (by omega) (by omega) hV4 hle (SortedIn.same s3 fun k h5 h6 => hp4.2.1 k (by omega)) (SortedIn.same s4 fun k h5 h6 => hp4.2.1 k (by omega))) fun v μ' h' hle' hap hR => ?_
       obtain⟨rfl,e2,d5,hp5,hs5,rfl,hV5⟩:=hR
       obtain rfl:=e2.symm
       clear hle' hap
       exact rPl ⟨rfl,rfl,d5,permIn_trans _ _ _ _ _ (permIn_trans _ _ _ _ _ (permIn_refl d a b) (permIn_mono _ _ _ _ _ _ (Nat.le_refl _) (by omega) (by rw[H.size hV];exact hb) hp4)) (permIn_mono _ _ _ _ _ _ (by omega) (Nat.le_refl _) (by rw[H.size hV4];exact hb) hp5),aE (SortedIn.same hs4 fun k h5 h6=>hp5.2.1 k (by omega)) hs5 (Split.permR (S.permL hz4 hp4) (by rw[H.size hV4];exact hb) hp5),rfl,hV5⟩
      ·have k7 : e = b := by omega
       exact rPl ⟨rfl,rfl,d4,(permIn_trans _ _ _ _ _ (permIn_refl d a b) (permIn_mono _ _ _ _ _ _ (Nat.le_refl _) (by omega) (by rw[H.size hV];exact hb) hp4)),aE hs4 (by have h:=(SortedIn.same s3 fun k h5 h6=>hp4.2.1 k (by omega));rwa [k7]at h) (S.permL hz4 hp4),rfl,hV4⟩
     ·have k7 : e = mid := by omega
      exact rPl ⟨rfl,rfl,d4,(permIn_trans _ _ _ _ _ (permIn_refl d a b) (permIn_mono _ _ _ _ _ _ (Nat.le_refl _) (by omega) (by rw[H.size hV];exact hb) hp4)),aE hs4 (by have h:=(SortedIn.same s4 fun k h5 h6=>hp4.2.1 k (by omega));rwa [k7]at h) (S.permL hz4 hp4),rfl,hV4⟩
    ·obtain rfl : mid = i := by omega
     refine ifd (fun k5=>?_) (fun k5=>?_)
     ·refine ifd (fun k6 => ?_) (fun k6 => ?_)
      ·refine cOw (IH _ e b d _ (by omega) (by omega) (by omega) (by omega) hV hle s3 s4) fun v μ' h' hle' hap hR => ?_
       obtain⟨rfl,e2,d5,hp5,hs5,rfl,hV5⟩:=hR
       obtain rfl:=e2.symm
       clear hle' hap
       exact rPl ⟨rfl,rfl,d5,permIn_trans _ _ _ _ _ (permIn_refl d a b) (permIn_mono _ _ _ _ _ _ (by omega) (Nat.le_refl _) (by rw[H.size hV];exact hb) hp5),aE (SortedIn.same s1 fun k h5 h6=>hp5.2.1 k (by omega)) hs5 (Split.permR S (by rw[H.size hV];exact hb) hp5),rfl,hV5⟩
      ·have k7 : e = b := by omega
       exact rPl ⟨rfl,rfl,d,(permIn_refl d a b),aE s1 (by have h:=s3;rwa [k7]at h) S,rfl,hV⟩
     ·have k7 : e = mid := by omega
      exact rPl ⟨rfl,rfl,d,(permIn_refl d a b),aE s1 (by have h:=s4;rwa [k7]at h) S,rfl,hV⟩
   ·obtain rfl : a = i := by omega
    refine ifd (fun k5=>?_) (fun k5=>?_)
    ·refine ifd (fun k6 => ?_) (fun k6 => ?_)
     ·refine cOw (IH _ e b d _ (by omega) (by omega) (by omega) (by omega) hV hle s3 s4) fun v μ' h' hle' hap hR => ?_
      obtain⟨rfl,e2,d5,hp5,hs5,rfl,hV5⟩:=hR
      obtain rfl:=e2.symm
      clear hle' hap
      exact rPl ⟨rfl,rfl,d5,permIn_trans _ _ _ _ _ (permIn_refl d a b) (permIn_mono _ _ _ _ _ _ (by omega) (Nat.le_refl _) (by rw[H.size hV];exact hb) hp5),aE (SortedIn.same s2 fun k h5 h6=>hp5.2.1 k (by omega)) hs5 (Split.permR S (by rw[H.size hV];exact hb) hp5),rfl,hV5⟩
     ·have k7 : e = b := by omega
      exact rPl ⟨rfl,rfl,d,(permIn_refl d a b),aE s2 (by have h:=s3;rwa [k7]at h) S,rfl,hV⟩
    ·have k7 : e = mid := by omega
     exact rPl ⟨rfl,rfl,d,(permIn_refl d a b),aE s2 (by have h:=s4;rwa [k7]at h) S,rfl,hV⟩
end
end Go.Vx
namespace Go.Vx
open Go.Proofs Classical
open Go.Sort
def Bl{α:Type}[Inhabited α](lt:α→α→Bool)(n s:Nat)(d:Array α):Prop:=∀t,SortedIn lt (t*s) (min n (t*s+s)) d
section
variable {α:Type} [Inhabited α] {lt:α→α→Bool} {n s q:Nat} {d d':Array α}
theorem SortedIn.none{a b:Nat}(h:b≤a):SortedIn lt a b d:=fun i j hi hij hj=>by omega
theorem Bl.grow(h:∀t,t<q→SortedIn lt (t*s) (t*s+s) d)(p:PermIn (q*s) (q*s+s) d d')(h2:SortedIn lt (q*s) (q*s+s) d'):∀t,t<q+1→SortedIn lt (t*s) (t*s+s) d':=fun t ht=>by
 rcases Nat.eq_or_lt_of_le (Nat.le_of_lt_succ ht)with e|e
 ·rw[e];exact h2
 ·have h3 : t * s + s ≤ q * s := by rw [← Nat.succ_mul]; exact Nat.mul_le_mul_right s e
  exact SortedIn.same (h t e) fun k h5 h6=>p.2.1 k (by omega)
theorem Bl.last(h:∀t,t<q→SortedIn lt (t*s) (t*s+s) d)(h1:q*s≤n)(hn:n<q*s+s)(p:PermIn (q*s) n d d')(h2:SortedIn lt (q*s) n d'):Bl lt n s d':=fun t=>by
 rcases Nat.lt_trichotomy t q with e|e|e
 ·have h3 : t * s + s ≤ q * s := by rw [← Nat.succ_mul]; exact Nat.mul_le_mul_right s e
  rw[Nat.min_eq_right (by omega)]
  exact SortedIn.same (h t e) fun k h5 h6=>p.2.1 k (by omega)
 ·rw[e,Nat.min_eq_left (by omega)];exact h2
 ·have h3 : q * s + s ≤ t * s := by rw [← Nat.succ_mul]; exact Nat.mul_le_mul_right s e
  exact SortedIn.none (by omega)
theorem twice(q s:Nat):q*(2*s)=2*q*s:=by rw[←Nat.mul_assoc,Nat.mul_comm q 2]
theorem Bl.keep{a b m:Nat}(h:∀t,m≤t→SortedIn lt (t*s) (min n (t*s+s)) d){m':Nat}(hm:m≤m')(p:PermIn a b d d')(hb:b≤m'*s):∀t,m'≤t→SortedIn lt (t*s) (min n (t*s+s)) d':=fun t ht=>
 SortedIn.same (h t (by omega)) fun k h5 h6=>p.2.1 k (.inr (by have:=Nat.mul_le_mul_right s ht;omega))
end
section
variable {α:Type} [Inhabited α] {lf sf:FuncId} {lb sb:List Value} {n:Nat} {lt:α→α→Bool} {μ0:Mem} {J:Array α→Mem} {V:Array α→Prop} {μ:Mem} {d0:Array α}
set_option maxHeartbeats 1000000 in
theorem qBo(H:SortBy lf sf lb sb n lt μ0 J V)(hO:SWO lt)(hle:μ0.Le μ)(hV:V d0):
  SpecH Tryz.prog 105 [uC lf sf lb sb,.int .i64 n] μ (J d0) fun v μ' h'=>v= .tuple #[]∧μ'=μ∧∃d',PermIn 0 n d0 d'∧SortedIn lt 0 n d'∧h'=J d'∧V d':=by
 have hn:=H.max
 refine SpecH.mk [] Tryz.func105 (by kernel_rfl) ?_
 intro r1
 refine lIn (fun p:Nat×Array α=>p.1*20≤n∧V p.2∧PermIn 0 n d0 p.2∧∀t,t<p.1→SortedIn lt (t*20) (t*20+20) p.2)
  (fun(q,c)=>⟨[(1,.val (.int .i64 n)),(2,.loc 0 r1 0),(4,.val (.int .i64 20)),(5,.val (.int .i64 (q*20:Nat))),(6,.val (.int .i64 (q*20+20:Nat)))],nC r1 lf sf lb sb,1,μ,J c⟩) (fun p=>n-p.1*20)
  (0,d0) ⟨by simp,hV,permIn_refl _ _ _,fun t h=>by simp at h⟩ (fun(_,_)=>⟨rfl,rfl⟩) ⟨⟨rfl,rfl,rfl,rfl,rfl,trivial⟩,⟨rfl,trivial⟩,rfl,rfl⟩ ?_
 rintro⟨q,c⟩ ⟨hq,hs,hp,hB⟩
 dsimp only at hq hs hp hB
 have hcs:=H.size hs
 refine ifd (fun h=>?_) (fun h=>?_)
 ·have hI := insertionSort_holds hO c (q * 20) (q * 20 + 20) (by omega) (by omega)
  refine cOw (gH H hle hs (a:=q*20) (b:=q*20+20) (by omega) (by omega)) fun v μ' h' hle' hap hR=>?_
  obtain⟨rfl,e2,rfl,hV2⟩:=hR
  obtain rfl:=e2.symm
  clear hle' hap
  refine nEq (x:=(((q+1)*20+20:Nat):Int)) (by rw[aA (by omega) (by omega)];omega) ?_
  refine⟨(q+1,insertionSort lt c (q*20) (q*20+20)),⟨by dsimp only;omega,hV2,permIn_trans _ _ _ _ _ hp (permIn_mono _ _ _ _ _ _ (Nat.zero_le _) (by omega) (by omega) hI.1),Bl.grow hB hI.1 hI.2⟩,by dsimp only;omega,⟨⟨rfl,rfl,rfl,?_,rfl,trivial⟩,⟨rfl,trivial⟩,rfl,rfl⟩⟩
  show some _=some _
  rw[show(q+1)*20=q*20+20 by omega]
 have hI:=insertionSort_holds hO c (q*20) n (by omega) (by omega)
 refine cOw (gH H hle hs (a:=q*20) (b:=n) (by omega) (by omega)) fun v μ' h' hle' hap hR=>?_
 obtain⟨rfl,e2,rfl,hV2⟩:=hR
 obtain rfl:=e2.symm
 clear hle' hap
 have hp2:=permIn_trans _ _ _ _ _ hp (permIn_mono _ _ _ _ _ _ (Nat.zero_le _) (Nat.le_refl _) (by omega) hI.1)
 have hB2:Bl lt n 20 (insertionSort lt c (q*20) n):=Bl.last hB hq (by omega) hI.1 hI.2
 generalize insertionSort lt c (q*20) n=d1 at*
 refine lIn (fun p:Nat×Nat×Nat×Array α=>20≤p.1∧p.1≤2*n+20∧V p.2.2.2∧PermIn 0 n d0 p.2.2.2∧Bl lt n p.1 p.2.2.2)
  (fun(s,a,b,c)=>⟨[(1,.val (.int .i64 n)),(2,.loc 0 r1 0),(4,.val (.int .i64 s))],nC r1 lf sf lb sb,1,μ,J c⟩) (fun p=>n-p.1)
  (20,q*20,n,d1) ⟨Nat.le_refl _,by dsimp only;omega,hV2,hp2,hB2⟩ (fun(_,_,_,_)=>⟨rfl,rfl⟩) ⟨⟨rfl,rfl,rfl,trivial⟩,⟨rfl,trivial⟩,rfl,rfl⟩ ?_
 clear hV2 hp2 hB2 hI hB hp hs hcs h hq
 rintro⟨s,a,b,c⟩ ⟨hs1,hs2,hs,hp,hB⟩
 dsimp only at hs1 hs2 hs hp hB
 refine ifd (fun h=>?_) (fun h=>?_)
 ·refine nEq (x := ((2 * s : Nat) : Int)) (by rw [aA (by omega) (by omega)]; omega) ?_
  refine lIn (fun p:Nat×Array α=>p.1*(2*s)≤n∧V p.2∧PermIn 0 n d0 p.2∧(∀t,t<p.1→SortedIn lt (t*(2*s)) (t*(2*s)+2*s) p.2)∧∀t,2*p.1≤t→SortedIn lt (t*s) (min n (t*s+s)) p.2)
   (fun(q,c)=>⟨[(1,.val (.int .i64 n)),(2,.loc 0 r1 0),(4,.val (.int .i64 s)),(5,.val (.int .i64 (q*(2*s):Nat))),(6,.val (.int .i64 (q*(2*s)+2*s:Nat)))],nC r1 lf sf lb sb,1,μ,J c⟩) (fun p=>n-p.1*(2*s))
   (0,c) ⟨by simp,hs,hp,fun t h=>by simp at h,fun t _=>hB t⟩ (fun(_,_)=>⟨rfl,rfl⟩) ⟨⟨rfl,rfl,rfl,by show some _=some _;rw[Nat.zero_mul];rfl,by show some _=some _;rw[Nat.zero_mul,Nat.zero_add],trivial⟩,⟨rfl,trivial⟩,rfl,rfl⟩ ?_
  clear hp hs hB
  rintro⟨q,c⟩ ⟨hq,hs,hp,hL,hB⟩
  dsimp only at hq hs hp hL hB
  have hcs:=H.size hs
  have e1:2*q*s=q*(2*s):=(twice q s).symm
  have e2:(2*q+1)*s=q*(2*s)+s:=by rw[Nat.succ_mul,e1]
  have e3:(2*(q+1))*s=q*(2*s)+2*s:=by rw[←twice,Nat.succ_mul]
  have e4:(q+1)*(2*s)=q*(2*s)+2*s:=Nat.succ_mul _ _
  have b1:=hB (2*q) (Nat.le_refl _)
  have b2:=hB (2*q+1) (by omega)
  rw[e1]at b1
  rw[e2]at b2
  refine ifd (fun h2=>?_) (fun h2=>?_)
  ·rw [Nat.min_eq_right (by omega)] at b1 b2
   refine nEq (x:=((q*(2*s)+s:Nat):Int)) (by rw[aA (by omega) (by omega)];omega) ?_
   refine cOw (lH H hO (n+1) (q*(2*s)) (q*(2*s)+s) (q*(2*s)+2*s) c _ (by omega) (by omega) (by omega) (by omega) hs hle b1 (by rw[show q*(2*s)+2*s=q*(2*s)+s+s by omega];exact b2)) fun v μ' h' hle' hap hR=>?_
   obtain⟨rfl,e2,d4,hp4,hs4,rfl,hV4⟩:=hR
   obtain rfl:=e2.symm
   clear hle' hap
   refine nEq (x:=((2*s:Nat):Int)) (by rw[aA (by omega) (by omega)];omega) ?_
   refine nEq (x:=(((q+1)*(2*s)+2*s:Nat):Int)) (by rw[aA (by omega) (by omega),e4];omega) ?_
   refine⟨(q+1,d4),⟨by dsimp only;omega,hV4,permIn_trans _ _ _ _ _ hp (permIn_mono _ _ _ _ _ _ (Nat.zero_le _) (by omega) (by omega) hp4),Bl.grow hL hp4 hs4,Bl.keep hB (by dsimp only;omega) hp4 (by dsimp only;omega)⟩,by dsimp only;omega,⟨⟨rfl,rfl,rfl,?_,rfl,trivial⟩,⟨rfl,trivial⟩,rfl,rfl⟩⟩
   show some _=some _
   rw[e4]
  ·refine nEq (x := ((q * (2 * s) + s : Nat) : Int)) (by rw [aA (by omega) (by omega)]; omega) ?_
   refine ifd (fun h3=>?_) (fun h3=>?_)
   ·rw [Nat.min_eq_right (by omega)] at b1
    rw[Nat.min_eq_left (by omega)]at b2
    refine cOw (lH H hO (n+1) (q*(2*s)) (q*(2*s)+s) n c _ (by omega) (by omega) (by omega) (by omega) hs hle b1 b2) fun v μ' h' hle' hap hR=>?_
    obtain⟨rfl,e2,d4,hp4,hs4,rfl,hV4⟩:=hR
    obtain rfl:=e2.symm
    clear hle' hap
    refine nEq (x:=((2*s:Nat):Int)) (by rw[aA (by omega) (by omega)];omega) ?_
    exact⟨(2*s,0,0,d4),⟨by dsimp only;omega,by dsimp only;omega,hV4,permIn_trans _ _ _ _ _ hp (permIn_mono _ _ _ _ _ _ (Nat.zero_le _) (by omega) (by omega) hp4),Bl.last hL (by dsimp only;omega) (by dsimp only;omega) hp4 hs4⟩,by dsimp only;omega,⟨⟨rfl,rfl,rfl,trivial⟩,⟨rfl,trivial⟩,rfl,rfl⟩⟩
   ·rw [Nat.min_eq_left (by omega)] at b1
    refine nEq (x:=((2*s:Nat):Int)) (by rw[aA (by omega) (by omega)];omega) ?_
    exact⟨(2*s,0,0,c),⟨by dsimp only;omega,by dsimp only;omega,hs,hp,Bl.last hL (by dsimp only;omega) (by dsimp only;omega) (permIn_refl _ _ _) b1⟩,by dsimp only;omega,⟨⟨rfl,rfl,rfl,trivial⟩,⟨rfl,trivial⟩,rfl,rfl⟩⟩
 ·have hz := hB 0
  rw[Nat.zero_mul,Nat.zero_add,Nat.min_eq_left (by omega)]at hz
  exact rPl ⟨rfl,rfl,c,hp,hz,rfl,hs⟩
end
section
variable {α:Type} [Inhabited α] {enc:α→Value} {μ h0:Mem} {r:Nat} {ty t e:TypeId} {i ie:TypeInfo} {ke:Nat} {ti:TI} {rest:List Value} {d0:Array α} {n cap:Nat} {lf:FuncId} {lb:List Value} {lt:α→α→Bool}
theorem qBf{sf:FuncId}{sb:List Value}(hn:n≤1):SpecH Tryz.prog 105 [uC lf sf lb sb,.int .i64 n] μ h0 fun v μ' h'=>v= .tuple #[]∧μ'=μ∧h'=h0:=by
 refine SpecH.mk [] Tryz.func105 (by kernel_rfl) ?_
 intro r1
 refine lIn (fun _:Unit=>True)
  (fun _=>⟨[(1,.val (.int .i64 n)),(2,.loc 0 r1 0),(4,.val (.int .i64 20)),(5,.val (.int .i64 0)),(6,.val (.int .i64 20))],nC r1 lf sf lb sb,1,μ,h0⟩) (fun _=>0)
  () trivial (fun _=>⟨rfl,rfl⟩) ⟨⟨rfl,rfl,rfl,rfl,rfl,trivial⟩,⟨rfl,trivial⟩,rfl,rfl⟩ ?_
 intro _ _
 refine ifd (fun h=>by omega) (fun h=>?_)
 refine cOw (nE hn) fun v μ' h' hle' hap hR=>?_
 obtain⟨rfl,e1,rfl⟩:=hR
 obtain rfl:=e1.symm
 refine lIn (fun _:Unit=>True)
  (fun _=>⟨[(1,.val (.int .i64 n)),(2,.loc 0 r1 0),(4,.val (.int .i64 20))],nC r1 lf sf lb sb,1,μ,h'⟩) (fun _=>0)
  () trivial (fun _=>⟨rfl,rfl⟩) ⟨⟨rfl,rfl,rfl,trivial⟩,⟨rfl,trivial⟩,rfl,rfl⟩ ?_
 intro _ _
 refine ifd (fun h=>by omega) (fun h=>?_)
 exact rPl ⟨rfl,rfl,rfl⟩
theorem tB(T:SlTy t e i ie ke)(hti:TIok Tryz.prog e ti)(h1:ti.agg=false→ti.size=1)(hE:Els ti.size (d0.map enc))(hn:d0.size=n)(hmax:n≤1000000000000)(hO:SWO lt)
  (less:∀{μ':Mem} {d:Array α} {i j:Nat},μ.Le μ'→PermIn 0 n d0 d→i<n→j<n→SpecH Tryz.prog lf (.int .i64 i:: .int .i64 j::lb) μ' (RowV h0 r ty rest (d.map enc)) fun v μ'' h'=>v= .bool (lt d[i]! d[j]!)∧μ''=μ'∧h'=RowV h0 r ty rest (d.map enc)):
  SpecH Tryz.prog 68 [.iface t (.slice (some ⟨r,0,none⟩) n cap),.func (.func lf) #[] lb.toArray] μ (RowV h0 r ty rest (d0.map enc)) fun v _ h'=>v= .tuple #[]∧∃d',PermIn 0 n d0 d'∧SortedIn lt 0 n d'∧h'=RowV h0 r ty rest (d'.map enc):=by
 refine SpecH.mk [] Tryz.func68 (by kernel_rfl) ?_
 refine cPl (qBh T _ _ _) fun v μ1 hle1 hR=>?_
 obtain⟨rv,rfl,hrv⟩:=hR
 intro r4
 have w_:=qBc (μ:=μ1) T (some ⟨r,0,none⟩) (n:=n) cap
 obtain⟨k,bs,hk,hsw⟩:=w_
 refine cGv hsw ?_
 refine cGv (xG T hrv) ?_
 by_cases h2:2≤n
 ·have w_ := hk h2
  obtain⟨rfl,rfl⟩:=w_
  refine cOw (qBo (SortBy.row (cap:=cap) hti h1 hE hn hmax less) hO hle1 (permIn_refl _ _ _)) fun v μ' h' hle hap hR=>?_
  obtain⟨rfl,_,d',p1,p2,rfl,_⟩:=hR
  exact rPl ⟨rfl,d',p1,p2,rfl⟩
 ·refine cOw (qBf (by omega)) fun v μ' h' hle hap hR => ?_
  obtain⟨rfl,e1,rfl⟩:=hR
  exact rPl ⟨rfl,d0,permIn_refl _ _ _,fun a b _ h3 h4=>by omega,rfl⟩
end
end Go.Vx
namespace Go.Vx
open Go.Proofs Classical
theorem qDd{α:Type}{c:α→α→Int}{l m:List α}{i:Nat}(h:¬(i<l.length∧i<m.length))(h2:i≤l.length)(h3:i≤m.length)(e:bJ c (l.drop i) (m.drop i)=bJ c l m):bJ c l m=oA l.length m.length:=by
 rw[←e]
 rcases Nat.lt_or_ge i l.length with k|k
 ·obtain rfl : i = m.length := by omega
  rw[List.drop_length]
  have w_:=aSo k
  obtain⟨x,hx⟩:=w_
  rw[iN hx,bJ,oA,if_neg (by omega),decide_eq_false (by omega)]
  rfl
 ·obtain rfl : i = l.length := by omega
  rw[List.drop_length]
  rcases Nat.eq_or_lt_of_le h3 with k2|k2
  ·rw[k2,List.drop_length,bJ,oA,if_pos rfl]
  ·have w_ := aSo k2
   obtain⟨x,hx⟩:=w_
   rw[iN hx,bJ,oA,if_neg (by omega),decide_eq_true (by omega)]
   rfl
theorem qHw{p q:Int}(h:p≠0):eV p q=p:=by rw[eV,if_neg h]
theorem qIl{p q:Int}(h:p=0):eV p q=q:=by rw[eV,if_pos h]
section
variable {μ:Mem}
theorem nR(a b:Int):aP Tryz.prog 102 [.int .i64 a,.int .i64 b] μ (.int .i64 (oA a b)):=by
 by_cases h:a=b
 ·rw [oA, if_pos h]
  refine Spec.mk Tryz.func102 (by kernel_rfl) ?_
  refine ifd (fun h1=>by omega) (fun h1=>?_)
  exact ifd (fun h2=>by omega) (fun h2=>rGv rfl rfl)
 ·rw[oA,if_neg h];exact iE a b h
end
end Go.Vx
namespace Go.Vx
open Go.Proofs Classical
def Gl.Pos(g:Gl):Prop:=∀x∈g.all,x.kind≠10
theorem Gl.pos_eq(g:Gl):g.Pos↔g.kind≠10∧∀x∈g.goals,x.Pos:=by
 unfold Gl.Pos
 rw[Gl.all_eq]
 constructor
 ·exact fun h=>⟨h g (by simp),fun x hx y hy=>h y (List.mem_cons_of_mem _ (List.mem_flatMap.2 ⟨x,hx,hy⟩))⟩
 ·rintro ⟨h1, h2⟩ x hx
  rcases List.mem_cons.1 hx with rfl|hx
  ·exact h1
  ·have w_ := List.mem_flatMap.1 hx
   obtain⟨y,hy,hx⟩:=w_
   exact h2 y hy x hx
def Pg.Pos(p:Pg):Prop:=p.Ok∧∀r∈p.rels,r.body.Pos
section
variable {μ:Mem}
theorem qBd:∀(g:Gl) {v:Value},RepV μ g.d v→aP Tryz.prog 88 [v,.bool false] μ (.bool (decide g.Pos)):=
 Gl.ind fun g ih v hv=>by
  have w_:=Gl.inv hv
  obtain⟨p,rfl,hts,hgs⟩:=w_
  have hn:=aJ hgs.max
  refine Spec.mk Tryz.func88 (by kernel_rfl) ?_
  intro r
  refine lIn (fun i:Nat=>i≤g.goals.length∧∀(j:Nat) x,j<i→g.goals[j]? =some x→x.Pos)
   (fun i=>⟨[(1,.val (.bool false)),(2,.loc 0 r 0),(8,.val (.slice p.2.1 g.goals.length p.2.2)),(9,.val (.int .i64 g.goals.length)),(10,.val (.int .i64 i))],[(0,some (.cells r [.val (.int .i64 g.kind),.val (.string g.name),.val (.slice p.1.1 g.terms.length p.1.2),.val (.slice p.2.1 g.goals.length p.2.2)] 31))],1,μ,Mem.nil⟩) (fun i=>g.goals.length-i)
   0 ⟨Nat.zero_le _,fun j x h=>by omega⟩ (fun _=>⟨rfl,rfl⟩) ⟨⟨rfl,rfl,rfl,rfl,rfl,trivial⟩,⟨rfl,trivial⟩,rfl,rfl⟩ ?_
  rintro i ⟨hi,hall⟩
  refine ifd (fun hlt=>?_) (fun hlt=>?_)
  ·have w_ := aSo (l := g.goals) (i := i) (by omega)
   obtain⟨t,ht⟩:=w_
   have w_:=Gl.elem hgs ht
   obtain⟨ad,p3,hel,hr⟩:=w_
   refine eIn hel ?_
   intro r2
   refine cGv (ih t (mAt ht) hr) ?_
   refine aM (fun h=>rGv ?_ rfl) (fun h=>?_)
   ·rw[decide_eq_false fun k=>h (((Gl.pos_eq g).1 k).2 t (mAt ht))]
   ·refine aC (by omega) (by omega) ⟨i + 1, ⟨by omega, fun j y hj hy => ?_⟩, by omega, ⟨⟨rfl, rfl, rfl, rfl, rfl, trivial⟩, ⟨rfl, trivial⟩, rfl, rfl⟩⟩
    rcases Nat.lt_or_ge j i with h6|h6
    ·exact hall j y h6 hy
    ·obtain rfl : j = i := by omega
     rw[ht]at hy;cases hy;exact h
  ·obtain rfl : i = g.goals.length := by omega
   have hsub:∀x∈g.goals,x.Pos:=fun x hx=>by
    have w_:=List.mem_iff_getElem?.1 hx
    obtain⟨j,hj⟩:=w_
    exact hall j x (List.getElem?_eq_some_iff.1 hj).1 hj
   refine aM (fun h=>?_) (fun h=>?_)
   ·refine iIn (fun h => nomatch h) (fun _ => ?_)
    exact rGv (by rw[decide_eq_true ((Gl.pos_eq g).2 ⟨h,hsub⟩)];rfl) rfl
   ·exact rGv (by rw[decide_eq_false fun k=>((Gl.pos_eq g).1 k).1 h]) rfl
theorem qCt{p:Pg}{v:Value}(hp:RepV μ p.d v)(hw:p.d.wd):Spec Tryz.prog 51 [v,.bool false] μ fun r _=>r= .bool (decide p.Pos):=by
 have w_:=Pg.inv hp
 obtain⟨q,rfl,hrl⟩:=w_
 refine Spec.mk Tryz.func51 (by kernel_rfl) ?_
 intro r1
 refine cPl (eE hp hw) fun v1 μ1 hle1 hR=>?_
 obtain rfl:=hR
 refine aM (fun h=>rPl (isF fun k=>h k.1)) (fun hok=>?_)
 have hn:=hok.1
 refine lIn (fun i:Nat=>i≤p.rels.length∧∀(j:Nat) x,j<i→p.rels[j]? =some x→x.body.Pos)
  (fun i=>⟨[(1,.val (.bool false)),(11,.val (.slice q.1 p.rels.length q.2)),(12,.val (.int .i64 p.rels.length)),(13,.val (.int .i64 i))],[],1,μ1,Mem.nil⟩) (fun i=>p.rels.length-i)
  0 ⟨Nat.zero_le _,fun j x h=>by omega⟩ (fun _=>⟨rfl,rfl⟩) ⟨⟨rfl,rfl,rfl,rfl,trivial⟩,trivial,rfl,rfl⟩ ?_
 rintro i ⟨hi,hall⟩
 refine ifd (fun hlt=>?_) (fun hlt=>?_)
 ·have w_ := aSo (l := p.rels) (i := i) (by omega)
  obtain⟨x,hx⟩:=w_
  have w_:=Rl.elemA (hrl.mono hle1) hx
  obtain⟨ad,q2,hel,hr,hb⟩:=w_
  have hb:RepV μ1 x.body.d (.agg (x.body.cs q2).toArray):=hb
  refine eIn hel ?_
  intro r2
  refine cGv (qBd x.body hb) ?_
  refine aM (fun h=>rPl (isF fun k=>h (k.2 x (mAt hx)))) (fun h=>?_)
  refine aC (by omega) (by omega) ⟨i+1,⟨by omega,fun j y hj hy=>?_⟩,by omega,⟨⟨rfl,rfl,rfl,rfl,trivial⟩,trivial,rfl,rfl⟩⟩
  rcases Nat.lt_or_ge j i with h6|h6
  ·exact hall j y h6 hy
  ·obtain rfl : j = i := by omega
   rw[hx]at hy;cases hy;exact h
 ·obtain rfl : i = p.rels.length := by omega
  exact rPl (isT ⟨hok,fun x hx=>by
   have w_:=List.mem_iff_getElem?.1 hx
   obtain⟨j,hj⟩:=w_
   exact hall j x (List.getElem?_eq_some_iff.1 hj).1 hj⟩)
theorem mG{p:Pg}{v:Value}(hp:RepV μ p.d v)(hw:p.d.wd):Spec Tryz.prog 18 [v] μ fun r _=>r= .bool (decide p.Pos):=by
 have w_:=Pg.inv hp
 obtain⟨q,rfl,hrl⟩:=w_
 refine Spec.mk Tryz.func18 (by kernel_rfl) ?_
 intro r1
 refine cPl (qCt hp hw) fun v1 μ1 hle1 hR=>?_
 obtain rfl:=hR
 exact rPl rfl
theorem wA(n:Int):aP Tryz.prog 153 [.int .i64 n] μ (.bool (decide (n=10))):=by
 refine Spec.mk Tryz.func153 (by kernel_rfl) ?_
 exact rGv rfl rfl
theorem xQ{H:Mem}{r3:Nat}(r:Nat)(b:Bool){g:Gl}{v:Value}(hv:RepV μ g.d v)(hne:r3≠r)(h3:H r3=some (.cells #[.func (.func 153) #[] #[]] 182 (0,0))):
  SpecH Tryz.prog 160 [v,.pointer (some ⟨r,0,none⟩),.pointer (some ⟨r3,0,none⟩)] μ (oF H r b) fun r' μ' h'=>r'= .tuple #[]∧μ'=μ∧h'=oF H r (b||decide (g.kind=10)):=by
 have w_:=Gl.inv hv
 obtain⟨p,rfl,-,-⟩:=w_
 refine SpecH.mk [] Tryz.func160 (by kernel_rfl) ?_
 intro r0
 refine oIn [.bool b] rfl (bX (set_self _ _ _)) ?_
 refine iIn (fun hb=>?_) (fun hb=>?_)
 ·refine sIn (h := oF H r b) (a := ⟨r, 0, none⟩) [.bool b] 4 (set_self _ _ _) rfl (Nat.le_refl _) ?_
  exact rPl ⟨rfl,rfl,by rw[hb];exact Mem.set_set _ _ _ _⟩
 ·refine oIn [.func (.func 153) #[] #[]] rfl (bX ((Mem.set_ne hne).trans h3)) ?_
  refine cGv (wA _) ?_
  refine sIn (h:=oF H r b) (a:=⟨r,0,none⟩) [.bool b] 4 (set_self _ _ _) rfl (Nat.le_refl _) ?_
  exact rPl ⟨rfl,rfl,by rw[hb];exact Mem.set_set _ _ _ _⟩
theorem qIe:∀(l:List Gl) (b:Bool),l.foldl (fun b g=>b||decide (g.kind=10)) b=(b|| !decide (∀x∈l,x.kind≠10))
 |[],b=>by simp
 |a::l,b=>by
  rw[List.foldl_cons,qIe l]
  by_cases h:a.kind=10<;>cases b<;>simp[h]
theorem qCe{g:Gl}{v:Value}(hv:RepV μ g.d v):Spec Tryz.prog 152 [v,.func (.func 153) #[] #[]] μ fun r μ'=>r= .bool (!decide g.Pos)∧μ'=μ:=by
 have w_:=Gl.inv hv
 obtain⟨p,rfl,-,-⟩:=w_
 refine Spec.mkO [3,5] Tryz.func152 (by kernel_rfl) ?_
 intro r1 r3 hm3 ho3 r5 hm5 ho5
 have hne:r3≠r5:=fun e=>by
  subst e
  have h:Mem.set Mem.nil r3 _ r3=none:=ho5
  rw[Mem.set_at]at h;cases h
 refine sIn [.bool false] 4 (Mem.set_at _ _ _) rfl (Nat.le_refl _) ?_
 refine cOw (R:=fun r μ' h'=>r= .tuple #[]∧μ'=μ∧h'=oF (Mem.nil.set r3 (.cells #[.func (.func 153) #[] #[]] 182 (0,0))) r5 (g.all.foldl (fun b g=>b||decide (g.kind=10)) false)) ?_ fun v μ' h' hle hap hR=>?_
 ·have:=kR (μ:=μ) (fun b h=>h=oF (Mem.nil.set r3 (.cells #[.func (.func 153) #[] #[]] 182 (0,0))) r5 b) (fun b g=>b||decide (g.kind=10)) (fun _=>True) (k:=160) (caps:=[.pointer (some ⟨r5,0,none⟩),.pointer (some ⟨r3,0,none⟩)])
   (fun s h x v _ hx hj=>by subst hj;exact xQ r5 s hx hne (Mem.set_at _ _ _)) g false _ hv (fun _ _=>trivial) rfl
  have e:∀X:Mem,((X.set r5 (.cells #[.bool false] 4 (0,0))).set r5 (.cells #[.bool false] 4 (0,0)))=oF X r5 false:=fun X=>Mem.set_set _ _ _ _
  rw[←e]at this
  exact this
 obtain⟨rfl,e4,rfl⟩:=hR
 obtain rfl:=e4.symm
 rw[qIe,Bool.false_or]
 refine oIn [.bool (!decide (∀x∈g.all,x.kind≠10))] rfl (bX (set_self _ _ _)) ?_
 exact rPl ⟨congrArg (fun b=>Value.bool (!b)) (decide_eq_decide.2 Iff.rfl),rfl⟩
theorem wU{g:Gl}{v:Value}(hv:RepV μ g.d v):Spec Tryz.prog 141 [v] μ fun r μ'=>r= .bool (!decide g.Pos)∧μ'=μ:=by
 have hv0:=hv
 have w_:=Gl.inv hv
 obtain⟨p,rfl,-,-⟩:=w_
 refine Spec.mk Tryz.func141 (by kernel_rfl) ?_
 intro r1
 refine cPl (qCe hv0) fun v1 μ1 hle1 hR=>?_
 obtain⟨rfl,e⟩:=hR
 obtain rfl:=e.symm
 exact rPl ⟨rfl,rfl⟩
theorem xS{p:Pg}{v:Value}(hp:RepV μ p.d v):Spec Tryz.prog 108 [v] μ fun r μ'=>r= .bool (decide (∀r∈p.rels,r.body.Pos))∧μ'=μ:=by
 have w_:=Pg.inv hp
 obtain⟨q,rfl,hrl⟩:=w_
 have hn:=aJ hrl.max
 refine Spec.mk Tryz.func108 (by kernel_rfl) ?_
 intro r1
 refine lIn (fun i:Nat=>i≤p.rels.length∧∀(j:Nat) x,j<i→p.rels[j]? =some x→x.body.Pos)
  (fun i=>⟨[(6,.val (.slice q.1 p.rels.length q.2)),(7,.val (.int .i64 p.rels.length)),(8,.val (.int .i64 i))],[],1,μ,Mem.nil⟩) (fun i=>p.rels.length-i)
  0 ⟨Nat.zero_le _,fun j x h=>by omega⟩ (fun _=>⟨rfl,rfl⟩) ⟨⟨rfl,rfl,rfl,trivial⟩,trivial,rfl,rfl⟩ ?_
 rintro i ⟨hi,hall⟩
 refine ifd (fun hlt=>?_) (fun hlt=>?_)
 ·have w_ := aSo (l := p.rels) (i := i) (by omega)
  obtain⟨x,hx⟩:=w_
  have w_:=Rl.elemA hrl hx
  obtain⟨ad,q2,hel,hr,hb⟩:=w_
  have hb:RepV μ x.body.d (.agg (x.body.cs q2).toArray):=hb
  refine eIn hel ?_
  intro r2
  refine cPl (wU hb) fun v1 μ1 hle1 hR=>?_
  obtain⟨rfl,e⟩:=hR
  obtain rfl:=e.symm
  refine iIn (fun h=>rPl ⟨isF fun k=>?_,rfl⟩) (fun h=>?_)
  ·have:=k x (mAt hx);simp[this]at h
  ·have hpos : x.body.Pos := by simpa using h
   refine aC (by omega) (by omega) ⟨i+1,⟨by omega,fun j y hj hy=>?_⟩,by omega,⟨⟨rfl,rfl,rfl,trivial⟩,trivial,rfl,rfl⟩⟩
   rcases Nat.lt_or_ge j i with h6|h6
   ·exact hall j y h6 hy
   ·obtain rfl : j = i := by omega
    rw[hx]at hy;cases hy;exact hpos
 ·obtain rfl : i = p.rels.length := by omega
  exact rPl ⟨isT fun x hx=>by
   have w_:=List.mem_iff_getElem?.1 hx
   obtain⟨j,hj⟩:=w_
   exact hall j x (List.getElem?_eq_some_iff.1 hj).1 hj,rfl⟩
theorem lR{p:Pg}{v:Value}(hp:RepV μ p.d v):Spec Tryz.prog 71 [v] μ fun r _=>r= .bool (decide p.Pos):=by
 have w_:=Pg.inv hp
 obtain⟨q,rfl,hrl⟩:=w_
 refine Spec.mk Tryz.func71 (by kernel_rfl) ?_
 intro r1
 refine cPl (eH hp) fun v1 μ1 hle1 hR=>?_
 obtain rfl:=hR
 refine ifd (fun hok=>?_) (fun hok=>rPl (isF fun k=>hok k.1))
 refine cPl (xS (hp.mono hle1)) fun v2 μ2 hle2 hR=>?_
 obtain⟨rfl,e⟩:=hR
 refine rPl ?_
 by_cases h:∀r∈p.rels,r.body.Pos
 ·rw[decide_eq_true h,decide_eq_true (show p.Pos from⟨hok,h⟩)]
 ·rw[decide_eq_false h,decide_eq_false fun k:p.Pos=>h k.2]
end
end Go.Vx
namespace Go.Vx
open Go.Proofs Classical
def dI(a l:List (List Gl)):List (List Gl):=a.flatMap fun x=>l.map fun y=>x++y
mutual
noncomputable def Gl.cl:Gl→Option (List (List Gl))
 | .mk k s ts gs=>if k=0 then some [[]]else if k=1 then some []else if k=8 then Gl.clOr gs []else if k=7 then Gl.clAnd gs [[]]else some [[.mk k s ts gs]]
noncomputable def Gl.clOr:List Gl→List (List Gl)→Option (List (List Gl))
 |[],acc=>some acc
 |g::r,acc=>(g.cl).bind fun l=>if(acc++l).length≤64 then Gl.clOr r (acc++l)else none
noncomputable def Gl.clAnd:List Gl→List (List Gl)→Option (List (List Gl))
 |[],acc=>some acc
 |g::r,acc=>(g.cl).bind fun l=>if(dI acc l).length≤64 then Gl.clAnd r (dI acc l)else none
end
theorem Gl.cl_eq(g:Gl):g.cl=if g.kind=0 then some [[]]else if g.kind=1 then some []else if g.kind=8 then Gl.clOr g.goals []else if g.kind=7 then Gl.clAnd g.goals [[]]else some [[g]]:=by
 cases g;rw[Gl.cl];rfl
theorem mM(a l:List (List Gl)):(dI a l).length=a.length*l.length:=by
 unfold dI
 induction a with
 |nil=>simp
 |cons x a ih=>rw[List.flatMap_cons,List.length_append,ih,List.length_map,List.length_cons,Nat.succ_mul];omega
theorem rP{a l:List (List Gl)}{z:List Gl}(h:z∈dI a l):∃x∈a,∃y∈l,z=x++y:=by
 have w_:=List.mem_flatMap.1 h
 obtain⟨x,hx,h⟩:=w_
 have w_:=List.mem_map.1 h
 obtain⟨y,hy,rfl⟩:=w_
 exact⟨x,hx,y,hy,rfl⟩
theorem qGm{a l:List (List Gl)}{j:Nat}{x:List Gl}(h:a[j]? =some x):dI (a.take (j+1)) l=dI (a.take j) l++l.map fun y=>x++y:=by
 rw[dI,List.take_add_one,h,Option.toList_some,List.flatMap_append]
 simp[dI]
def csD(c:List Gl):D:= .sl 4 (c.map Gl.d)
section
variable {μ:Mem}
abbrev Cls(μ:Mem)(L:List (List Gl))(v:Value):Prop:=RepV μ (.sl 1 (L.map csD)) v
theorem csD_inv{c:List Gl}{v:Value}(h:RepV μ (csD c) v):∃p:Option Addr×Nat,v= .slice p.1 c.length p.2:=by
 have w_:=Rep.sl (xs:=c.map Gl.d) h
 obtain⟨b,k,rfl,_⟩:=w_
 exact⟨(b,k),by rw[List.length_map]⟩
theorem uN{L:List (List Gl)}{base:Option Addr}{n:Nat}(h:Sl μ 1 base n (L.map csD)){i:Nat}{c:List Gl}(hc:L[i]? =some c):
  ∃ad,∃p:Option Addr×Nat,ElemAt μ base n 1 i ad [.slice p.1 c.length p.2]∧RepV μ (csD c) (.slice p.1 c.length p.2):=by
 have w_:=h.get i (csD c) (by simp[hc])
 obtain⟨ad,cs,h1,h2⟩:=w_
 have h3:Rep μ (.sl 4 (c.map Gl.d)) cs:=h2
 have hl:=Rep.len _ _ h3
 match cs,hl with
 |[v],_=>
  have w_:=csD_inv (c:=c) h3
  obtain⟨p,rfl⟩:=w_
  exact⟨ad,p,h1,h3⟩
theorem Cls.sl{L:List (List Gl)}{b:Option Addr}{n c:Nat}(h:Cls μ L (.slice b n c)):Sl μ 1 b L.length (L.map csD)∧n=L.length:=by
 have w_:=Rep.sl h
 obtain⟨b',c',e1,hs⟩:=w_
 have w_:=Value.slice.inj e1
 obtain⟨rfl,e2,_⟩:=w_
 rw[List.length_map]at hs e2
 exact⟨hs,e2⟩
theorem Cls.inv{L:List (List Gl)}{v:Value}(h:Cls μ L v):∃p:Option Addr×Nat,v= .slice p.1 L.length p.2:=by
 have w_:=Rep.sl h
 obtain⟨b,k,rfl,_⟩:=w_
 exact⟨(b,k),by rw[List.length_map]⟩
theorem qIu{c:List Gl}{p:Option Addr×Nat}(h:RepV μ (csD c) (.slice p.1 c.length p.2)):∃vs,Rows μ 4 (c.map Gl.d) vs∧vs.length=c.length∧pQ μ p.1 c.length 4 vs:=Rep.srcAll h
set_option maxHeartbeats 8000000 in
end
end Go.Vx
namespace Go.Vx
open Go.Proofs Classical
theorem qGz{a l:List (List Gl)}{m n:Nat}(h1:∀c∈a,c.length≤m)(h2:∀c∈l,c.length≤n):∀c∈dI a l,c.length≤m+n:=fun c hc=>by
 have w_:=rP hc
 obtain⟨u,hu,w,hw,rfl⟩:=w_
 have:=h1 u hu
 have:=h2 w hw
 rw[List.length_append];omega
mutual
theorem Gl.cl_bnd:∀(g:Gl) {L:List (List Gl)},g.cl=some L→(∀c∈L,c.length≤g.cnt)∧L.length≤64
 | .mk k s ts gs,L,h=>by
  rw[Gl.cl]at h
  rw[Gl.cnt]
  split at h
  ·cases h;simp
  split at h
  ·cases h;simp
  split at h
  ·have := Gl.clOr_bnd gs (acc := []) (n := 0) (by simp) (by simp) h
   exact⟨fun c hc=>by have:=this.1 c hc;omega,this.2⟩
  split at h
  ·have := Gl.clAnd_bnd gs (acc := [[]]) (n := 0) (by simp) (by simp) h
   exact⟨fun c hc=>by have:=this.1 c hc;omega,this.2⟩
  ·cases h
   refine⟨fun c hc=>?_,by simp⟩
   rw[List.mem_singleton.1 hc,List.length_singleton];omega
theorem Gl.clOr_bnd:∀(gs:List Gl) {acc L:List (List Gl)} {n:Nat},(∀c∈acc,c.length≤n)→acc.length≤64→Gl.clOr gs acc=some L→(∀c∈L,c.length≤n+Gl.cnts gs)∧L.length≤64
 |[],acc,L,n,h1,h2,h=>by
  rw[Gl.clOr]at h;cases h
  exact⟨fun c hc=>Nat.le_trans (h1 c hc) (Nat.le_add_right _ _),h2⟩
 |g::gs,acc,L,n,h1,h2,h=>by
  rw[Gl.clOr]at h
  cases e:g.cl with
  |none=>rw[e]at h;cases h
  |some l=>
   rw[e,Option.bind_some]at h
   have hb:=Gl.cl_bnd g e
   split at h
   ·rename_i h64
    have:=Gl.clOr_bnd gs (acc:=acc++l) (n:=n+g.cnt) (fun c hc=>by
     rcases List.mem_append.1 hc with hc|hc
     ·have:=h1 c hc;omega
     ·have:=hb.1 c hc;omega) h64 h
    rw[Gl.cnts]
    exact⟨fun c hc=>by have:=this.1 c hc;omega,this.2⟩
   ·cases h
theorem Gl.clAnd_bnd:∀(gs:List Gl) {acc L:List (List Gl)} {n:Nat},(∀c∈acc,c.length≤n)→acc.length≤64→Gl.clAnd gs acc=some L→(∀c∈L,c.length≤n+Gl.cnts gs)∧L.length≤64
 |[],acc,L,n,h1,h2,h=>by
  rw[Gl.clAnd]at h;cases h
  exact⟨fun c hc=>Nat.le_trans (h1 c hc) (Nat.le_add_right _ _),h2⟩
 |g::gs,acc,L,n,h1,h2,h=>by
  rw[Gl.clAnd]at h
  cases e:g.cl with
  |none=>rw[e]at h;cases h
  |some l=>
   rw[e,Option.bind_some]at h
   have hb:=Gl.cl_bnd g e
   split at h
   ·rename_i h64
    have:=Gl.clAnd_bnd gs (acc:=dI acc l) (n:=n+g.cnt) (qGz h1 hb.1) h64 h
    rw[Gl.cnts]
    exact⟨fun c hc=>by have:=this.1 c hc;omega,this.2⟩
   ·cases h
end
def optC(P:List (List Gl)→Value→Prop)(o:Option (List (List Gl)))(v:Value):Prop:=match o with
 |some L=>∃tv,v= .tuple #[tv,.bool true]∧P L tv
 |none=>v= .tuple #[.slice none 0 0,.bool false]
section
variable {μ:Mem}
set_option maxHeartbeats 8000000 in
theorem vR:∀(g:Gl) {μ:Mem} {v:Value},RepV μ g.d v→g.Sh→g.cnt≤80→Spec Tryz.prog 109 [v] μ fun v μ'=>optC (Cls μ') g.cl v:=
 Gl.ind fun g ih μ v hv hS hcnt=>by
  have hv0:=hv
  have w_:=Gl.inv hv
  obtain⟨p,rfl,hts,hgs⟩:=w_
  have hg8:=hS.top.gl
  have hce:=Gl.cnt_eq1 g
  refine Spec.mk Tryz.func109 (by kernel_rfl) ?_
  intro r1 r19
  refine ifd (fun h0=>?_) (fun h0=>?_)
  ·intro r27 μ1 hle1 hno1 hat1 r28
   refine rFz [3] fun μ2 hle2 hno2 hat2=> .inl ?_
   rw[Gl.cl_eq,if_pos h0]
   exact⟨_,rfl,Rows.sl hat2 (Rows.one (d:=csD []) ((Rows.sl (μ:=μ1) (ds:=[]) hat1 .nil (Nat.zero_le _)).mono hle2) rfl) (show 1≤maxLen by decide)⟩
  refine ifd (fun h1=>?_) (fun h1=>?_)
  ·refine rFz [1] fun μ2 hle2 hno2 hat2 => .inl ?_
   rw[Gl.cl_eq,if_neg h0,if_pos h1]
   exact⟨_,rfl,Rows.sl hat2 .nil (Nat.zero_le _)⟩
  refine ifd (fun h8=>?_) (fun h8=>?_)
  ·have hcl : g.cl = Gl.clOr g.goals [] := by rw [Gl.cl_eq, if_neg h0, if_neg h1, if_pos h8]
   refine lIn (fun q:Nat×List (List Gl)×Option Nat×Nat×List Value×Mem=>q.1≤g.goals.length∧μ.Le q.2.2.2.2.2∧Rows q.2.2.2.2.2 1 (q.2.1.map csD) q.2.2.2.2.1∧g.cl=Gl.clOr (g.goals.drop q.1) q.2.1∧q.2.1.length≤64)
    (fun(i,acc,b,c,ys,μ')=>⟨[(4,.row 1 b ys.length c),(34,.val (.slice p.2.1 g.goals.length p.2.2)),(35,.val (.int .i64 g.goals.length)),(36,.val (.int .i64 i))],[(1,some (.row b c 29 1 ys))],2,μ',Mem.nil⟩) (fun q=>g.goals.length-q.1)
    (0,[],some r19,0,[],μ) ⟨Nat.zero_le _,Mem.Le.refl _,.nil,hcl,by simp⟩ (fun(_,_,_,_,_,_)=>⟨rfl,rfl⟩) ⟨⟨rfl,rfl,rfl,rfl,trivial⟩,⟨rfl,trivial⟩,rfl,rfl⟩ ?_
   rintro⟨i,acc,b,c,ys,μ'⟩ ⟨hi,hle,hrows,hJ,hmax⟩
   dsimp only at hi hle hrows hJ hmax
   have hyl:=hrows.len
   rw[List.length_map]at hyl
   refine ifd (fun hlt=>?_) (fun hlt=>?_)
   ·have w_ := aSo (l := g.goals) (i := i) (by omega)
    obtain⟨x,hx⟩:=w_
    have w_:=Gl.elem (hgs.mono hle) hx
    obtain⟨ad,q,hel,hr⟩:=w_
    have hxc:=Gl.cnts_take hx
    have hxl:=Gl.cnts_le g.goals (i+1)
    refine eIn hel ?_
    intro r5
    refine cPl (ih x (mAt hx) hr (hS.sub x (mAt hx)) (by omega)) fun v1 μ1 hle1 hR=>?_
    rw[iN hx,Gl.clOr]at hJ
    cases e:x.cl with
    |none=>
     rw[e]at hR hJ
     obtain rfl:=hR
     refine iIn (fun _=>?_) (fun h=>nomatch h)
     exact rPl (by rw[hJ];rfl)
    |some L=>
     rw[e]at hR
     rw[e,Option.bind_some]at hJ
     obtain⟨tv,rfl,hLr⟩:=hR
     obtain⟨pv,rfl⟩:=hLr.inv
     have hLb:=Gl.cl_bnd x e
     have w_:=Rep.srcAll hLr
     obtain⟨vs,hvr,hvl,hsrc⟩:=w_
     refine iIn (fun h=>nomatch h) (fun _=>?_)
     refine bB vs hsrc ?_
     refine gIn ?_ ?_ fun b9 c9 _=>?_
     ·show(ys.length+vs.length)*24≤_;omega
     ·exact Nat.le_trans (m:=100000000) (show ys.length+vs.length≤_ by omega) (by decide)
     have hal:(ys++vs).length=(acc++L).length:=by rw[List.length_append,List.length_append];omega
     refine ifd (fun h64=>?_) (fun h64=>?_)
     ·rw [if_neg (by omega)] at hJ
      exact rPl (by rw[hJ];rfl)
     ·rw [if_pos (by omega)] at hJ
      refine aC (by omega) (by omega) ⟨(i+1,acc++L,b9,c9,_,μ1),⟨by dsimp only;omega,hle.trans hle1,?_,hJ,by dsimp only;omega⟩,by dsimp only;omega,⟨⟨rfl,rfl,rfl,rfl,trivial⟩,⟨rfl,trivial⟩,rfl,rfl⟩⟩
      dsimp only
      rw[List.map_append]
      exact(hrows.mono hle1).append hvr
   ·obtain rfl : i = g.goals.length := by omega
    rw[List.drop_length,Gl.clOr]at hJ
    refine rFz [1] fun μ2 hle2 hno2 hat2=> .inl ?_
    rw[hJ]
    exact⟨_,rfl,Rows.sl hat2 (hrows.mono hle2) (Nat.le_trans (m:=100000000) (by omega) (by decide))⟩
  refine ifd (fun h7=>?_) (fun h7=>?_)
  rotate_left
  ·intro r23 μ1 hle1 hno1 hat1 r24
   refine rFz [3] fun μ2 hle2 hno2 hat2=> .inl ?_
   rw[Gl.cl_eq,if_neg h0,if_neg h1,if_neg h8,if_neg h7]
   exact⟨_,rfl,Rows.sl hat2 (Rows.one (d:=csD [g]) ((Rows.sl (μ:=μ1) (ds:=[g.d]) hat1 (Rows.one (hv0.mono hle1) (Gl.d_n g)) (show 1≤maxLen by decide)).mono hle2) rfl) (show 1≤maxLen by decide)⟩
  have hcl:g.cl=Gl.clAnd g.goals [[]]:=by rw[Gl.cl_eq,if_neg h0,if_neg h1,if_neg h8,if_pos h7]
  intro r56 μ1 hle1 hno1 hat1 r57
  refine lFz (fun q:Nat×List (List Gl)×Option Addr×Nat×Mem=>q.1≤g.goals.length∧μ.Le q.2.2.2.2∧Cls q.2.2.2.2 q.2.1 (.slice q.2.2.1 q.2.1.length q.2.2.2.1)∧g.cl=Gl.clAnd (g.goals.drop q.1) q.2.1∧(∀c∈q.2.1,c.length≤Gl.cnts (g.goals.take q.1))∧q.2.1.length≤64)
   (fun(i,acc,b,c,μ')=>⟨[(4,.val (.slice b acc.length c)),(9,.val (.bool false)),(59,.val (.slice p.2.1 g.goals.length p.2.2)),(60,.val (.int .i64 g.goals.length)),(61,.val (.int .i64 i))],[],0,μ',Mem.nil⟩) (fun q=>g.goals.length-q.1) [3]
   (fun(_,_,_,_,_)=>⟨rfl,rfl⟩) (fun μ2 hle2 hno2 hat2=>⟨(0,[[]],some ⟨r57,0,none⟩,1,μ2),⟨Nat.zero_le _,hle1.trans hle2,Rows.sl hat2 (Rows.one (d:=csD []) ((Rows.sl (μ:=μ1) (ds:=[]) hat1 .nil (Nat.zero_le _)).mono hle2) rfl) (show 1≤maxLen by decide),hcl,by simp,by simp⟩,⟨rfl,rfl,rfl,rfl,rfl,trivial⟩,trivial,rfl,rfl⟩) ?_
  rintro⟨i,acc,b,c,μ'⟩ ⟨hi,hle,hacc,hJ,hlen,hmax⟩
  dsimp only at hi hle hacc hJ hlen hmax
  refine ifd (fun hlt=>?_) (fun hlt=>?_)
  rotate_left
  ·obtain rfl : i = g.goals.length := by omega
   rw[List.drop_length,Gl.clAnd]at hJ
   exact rPl (by rw[hJ];exact⟨_,rfl,hacc⟩)
  have w_:=aSo (l:=g.goals) (i:=i) (by omega)
  obtain⟨x,hx⟩:=w_
  have w_:=Gl.elem (hgs.mono hle) hx
  obtain⟨ad,q,hel,hr⟩:=w_
  have hxc:=Gl.cnts_take hx
  have hxl:=Gl.cnts_le g.goals (i+1)
  refine eIn hel ?_
  intro r11
  refine cPl (ih x (mAt hx) hr (hS.sub x (mAt hx)) (by omega)) fun v3 μ3 hle3 hR=>?_
  rw[iN hx,Gl.clAnd]at hJ
  obtain⟨o,e⟩:∃o,x.cl=o:=⟨_,rfl⟩
  rw[e]at hR hJ
  match o,e,hR,hJ with
  |none,e,hR,hJ=>
  obtain rfl:=hR
  refine iIn (fun _=>?_) (fun h=>nomatch h)
  exact rPl (by rw[hJ];rfl)
  |some L,e,hR,hJ=>
  obtain⟨tv,rfl,hLr⟩:=hR
  obtain⟨pv,rfl⟩:=hLr.inv
  have hLb:=Gl.cl_bnd x e
  have hLl:=hLb.1
  have hLm:=hLb.2
  rw[Option.bind_some]at hJ
  refine iIn (fun h=>nomatch h) (fun _=>?_)
  intro r64
  have hasl:=(Cls.sl (RepV.mono hle3 hacc)).1
  refine lIn (fun q:Nat×Option Nat×Nat×List Value×Mem=>q.1≤acc.length∧μ3.Le q.2.2.2.2∧Rows q.2.2.2.2 1 ((dI (acc.take q.1) L).map csD) q.2.2.2.1)
   (fun(j,b1,c1,ys,μ4)=>⟨[(9,.val (.bool false)),(12,.val (.slice pv.1 L.length pv.2)),(14,.row 1 b1 ys.length c1),(59,.val (.slice p.2.1 g.goals.length p.2.2)),(60,.val (.int .i64 g.goals.length)),(61,.val (.int .i64 i)),(73,.val (.slice b acc.length c)),(74,.val (.int .i64 acc.length)),(75,.val (.int .i64 j))],[(1,some (.row b1 c1 29 1 ys))],2,μ4,Mem.nil⟩) (fun q=>acc.length-q.1)
   (0,some r64,0,[],μ3) ⟨Nat.zero_le _,Mem.Le.refl _,.nil⟩ (fun(_,_,_,_,_)=>⟨rfl,rfl⟩) ⟨⟨rfl,rfl,rfl,rfl,rfl,rfl,rfl,rfl,rfl,trivial⟩,⟨rfl,trivial⟩,rfl,rfl⟩ ?_
  rintro⟨j,b1,c1,ys,μ4⟩ ⟨hj,hle4,hrows⟩
  dsimp only at hj hle4 hrows
  have hyl:=hrows.len
  rw[List.length_map,mM,List.length_take]at hyl
  have hmul:min j acc.length*L.length≤64*64:=Nat.mul_le_mul (by omega) (by omega)
  refine ifd (fun hlt2=>?_) (fun hlt2=>?_)
  ·have w_ := aSo (l := acc) (i := j) (by omega)
   obtain⟨xa,hxa⟩:=w_
   have w_:=uN (hasl.mono hle4) hxa
   obtain⟨ad2,pa,hel2,hra⟩:=w_
   have hxal:=hlen xa (mAt hxa)
   have hmul2:j*L.length≤64*64:=Nat.mul_le_mul (by omega) (by omega)
   rw[Nat.min_eq_left (by omega)]at hyl
   refine eIn hel2 ?_
   refine lIn (fun q:Nat×Option Nat×Nat×List Value×Mem=>q.1≤L.length∧μ4.Le q.2.2.2.2∧Rows q.2.2.2.2 1 ((dI (acc.take j) L++(L.take q.1).map fun y=>xa++y).map csD) q.2.2.2.1)
    (fun(k,b1,c1,ys,μ5)=>⟨[(9,.val (.bool false)),(12,.val (.slice pv.1 L.length pv.2)),(14,.row 1 b1 ys.length c1),(16,.val (.slice pa.1 xa.length pa.2)),(59,.val (.slice p.2.1 g.goals.length p.2.2)),(60,.val (.int .i64 g.goals.length)),(61,.val (.int .i64 i)),(73,.val (.slice b acc.length c)),(74,.val (.int .i64 acc.length)),(75,.val (.int .i64 j)),(79,.val (.slice pv.1 L.length pv.2)),(80,.val (.int .i64 L.length)),(81,.val (.int .i64 k))],[(1,some (.row b1 c1 29 1 ys))],2,μ5,Mem.nil⟩) (fun q=>L.length-q.1)
    (0,b1,c1,ys,μ4) ⟨Nat.zero_le _,Mem.Le.refl _,by simpa using hrows⟩ (fun(_,_,_,_,_)=>⟨rfl,rfl⟩) ⟨⟨rfl,rfl,rfl,rfl,rfl,rfl,rfl,rfl,rfl,rfl,rfl,rfl,rfl,trivial⟩,⟨rfl,trivial⟩,rfl,rfl⟩ ?_
   clear hrows
   rintro⟨k,b2,c2,zs,μ5⟩ ⟨hk,hle5,hrows2⟩
   dsimp only at hk hle5 hrows2
   have hzl:=hrows2.len
   rw[List.length_map,List.length_append,mM,List.length_map,List.length_take,List.length_take,Nat.min_eq_left (show j≤acc.length by omega),Nat.min_eq_left hk]at hzl
   refine ifd (fun hlt3=>?_) (fun hlt3=>?_)
   ·have w_ := aSo (l := L) (i := k) (by omega)
    obtain⟨y,hy⟩:=w_
    have w_:=uN (((Cls.sl hLr).1.mono hle4).mono hle5) hy
    obtain⟨ad3,py,hel3,hry⟩:=w_
    have hyl2:=hLl y (mAt hy)
    have w_:=qIu (hra.mono hle5)
    obtain⟨vx,hvx,hvxl,hsx⟩:=w_
    have w_:=qIu hry
    obtain⟨vy,hvy,hvyl,hsy⟩:=w_
    refine eIn hel3 ?_
    intro r78
    refine bB vx hsx ?_
    refine gIn ?_ ?_ fun b6 c6 _=>?_
    ·show(0+vx.length)*72≤_;omega
    ·exact Nat.le_trans (m:=100000000) (show 0+vx.length≤_ by omega) (by decide)
    refine bB vy hsy ?_
    refine gIn ?_ ?_ fun b7 c7 _=>?_
    ·show((([]:List Value)++vx).length+vy.length)*72≤_;simp;omega
    ·exact Nat.le_trans (m:=100000000) (show(([]:List Value)++vx).length+vy.length≤_ by simp;omega) (by decide)
    intro μ6 hle6 hno6 hat6 r83
    refine gIn ?_ ?_ fun b8 c8 _=>?_
    ·show(zs.length+1)*24≤_;omega
    ·exact Nat.le_trans (m:=100000000) (show zs.length+1≤_ by omega) (by decide)
    have hrow:RepV μ6 (csD (xa++y)) (.slice (b7.map fun r=>⟨r,0,none⟩) (([]:List Value)++vx++vy).length c7):=by
     have:=Rows.sl hat6 ((hvx.append hvy).mono hle6) (Nat.le_trans (m:=100000000) (by simp;omega) (by decide))
     rw[←List.map_append]at this
     exact this
    refine aC (by omega) (by omega) ⟨(k+1,b8,c8,_,μ6),⟨by dsimp only;omega,hle5.trans hle6,?_⟩,by dsimp only;omega,⟨⟨rfl,rfl,rfl,rfl,rfl,rfl,rfl,rfl,rfl,rfl,rfl,rfl,rfl,trivial⟩,⟨rfl,trivial⟩,rfl,rfl⟩⟩
    dsimp only
    rw[List.take_add_one,hy,Option.toList_some,List.map_append (f:=fun y=>xa++y),←List.append_assoc,List.map_append (f:=csD)]
    exact(hrows2.mono hle6).append (Rows.one hrow rfl)
   ·obtain rfl : k = L.length := by omega
    rw[List.take_length,←qGm hxa]at hrows2
    exact aC (by omega) (by omega) ⟨(j+1,b2,c2,zs,μ5),⟨by dsimp only;omega,hle4.trans hle5,hrows2⟩,by dsimp only;omega,⟨⟨rfl,rfl,rfl,rfl,rfl,rfl,rfl,rfl,rfl,trivial⟩,⟨rfl,trivial⟩,rfl,rfl⟩⟩
  ·obtain rfl : j = acc.length := by omega
   rw[List.take_length]at hrows
   rw[Nat.min_self]at hyl hmul
   have hpl:=mM acc L
   have hzlen:∀c∈dI acc L,c.length≤Gl.cnts (g.goals.take (i+1)):=fun c hc=>by
    have w_:=rP hc
    obtain⟨u,hu,w,hw,rfl⟩:=w_
    have h1:=hlen u hu
    have h2:=hLl w hw
    rw[List.length_append];omega
   refine iIn (fun h=>nomatch h) (fun _=>?_)
   refine ifd (fun hb=>?_) (fun hb=>?_)
   ·rw [if_neg (by omega)] at hJ
    exact rPl (by rw[hJ];rfl)
   ·rw [if_pos (by omega)] at hJ
    refine aC (by omega) (by omega) ⟨[1],fun μ5 hle5 hno5 hat5=>⟨(i+1,dI acc L,b1.map (fun r=>⟨r,0,none⟩),c1,μ5),⟨by dsimp only;omega,((hle.trans hle3).trans hle4).trans hle5,?_,hJ,hzlen,by dsimp only;omega⟩,by dsimp only;omega,⟨⟨?_,?_,rfl,rfl,rfl,trivial⟩,trivial,rfl,rfl⟩⟩⟩
    ·have := Rows.sl hat5 (hrows.mono hle5) (Nat.le_trans (m := 100000000) (by omega) (by decide))
     rw[←hyl,←hpl]at this
     exact this
    ·show some (SV.val (.slice _ _ _)) = some (SV.val (.slice _ _ _))
     rw[hpl,hyl]
    ·show some (SV.val (.bool _)) = some (SV.val (.bool _))
     rw[decide_eq_false hb]
end
end Go.Vx
namespace Go.Vx
open Go.Proofs Classical
def T.occ(n:Int):T→Prop
 | .var m=>m=n
 | .pair a b=>a.occ n∨b.occ n
 |_=>False
end Go.Vx
namespace Go.Vx
open Go.Proofs Classical
def Gl.single(x:Gl):Prop:=x.kind≠0∧x.kind≠1∧x.kind≠7∧x.kind≠8
mutual
theorem Gl.cl_all:∀(g:Gl) {L:List (List Gl)},g.cl=some L→∀c∈L,∀x∈c,x∈g.all∧x.single
 | .mk k s ts gs,L,h=>by
  have hsub:∀y∈gs,∀x∈y.all,x∈(Gl.mk k s ts gs).all:=fun y hy x hx=>by
   rw[Gl.all_eq]
   exact List.mem_cons_of_mem _ (List.mem_flatMap.2 ⟨y,hy,hx⟩)
  rw[Gl.cl]at h
  split at h
  ·cases h;simp
  rename_i h0
  split at h
  ·cases h;simp
  rename_i h1
  split at h
  ·exact Gl.clOr_all gs (fun x=>x∈(Gl.mk k s ts gs).all∧x.single) (fun y hy x hx hs=>⟨hsub y hy x hx,hs⟩) (by simp) h
  rename_i h8
  split at h
  ·exact Gl.clAnd_all gs (fun x=>x∈(Gl.mk k s ts gs).all∧x.single) (fun y hy x hx hs=>⟨hsub y hy x hx,hs⟩) (by simp) h
  ·rename_i h7
   cases h
   intro c hc x hx
   rw[List.mem_singleton.1 hc]at hx
   rw[List.mem_singleton.1 hx]
   exact⟨by rw[Gl.all_eq];simp,h0,h1,h7,h8⟩
theorem Gl.clOr_all:∀(gs:List Gl) (Q:Gl→Prop) {acc L:List (List Gl)},(∀y∈gs,∀x∈y.all,x.single→Q x)→(∀c∈acc,∀x∈c,Q x)→Gl.clOr gs acc=some L→∀c∈L,∀x∈c,Q x
 |[],Q,acc,L,_,h1,h=>by
  rw[Gl.clOr]at h;cases h;exact h1
 |g::gs,Q,acc,L,hQ,h1,h=>by
  rw[Gl.clOr]at h
  cases e:g.cl with
  |none=>rw[e]at h;cases h
  |some l=>
   rw[e,Option.bind_some]at h
   have hb:=Gl.cl_all g e
   split at h
   ·exact Gl.clOr_all gs Q (acc:=acc++l) (fun y hy=>hQ y (by simp[hy])) (fun c hc x hx=>by
     rcases List.mem_append.1 hc with hc|hc
     ·exact h1 c hc x hx
     ·exact hQ g (by simp) x (hb c hc x hx).1 (hb c hc x hx).2) h
   ·cases h
theorem Gl.clAnd_all:∀(gs:List Gl) (Q:Gl→Prop) {acc L:List (List Gl)},(∀y∈gs,∀x∈y.all,x.single→Q x)→(∀c∈acc,∀x∈c,Q x)→Gl.clAnd gs acc=some L→∀c∈L,∀x∈c,Q x
 |[],Q,acc,L,_,h1,h=>by
  rw[Gl.clAnd]at h;cases h;exact h1
 |g::gs,Q,acc,L,hQ,h1,h=>by
  rw[Gl.clAnd]at h
  cases e:g.cl with
  |none=>rw[e]at h;cases h
  |some l=>
   rw[e,Option.bind_some]at h
   have hb:=Gl.cl_all g e
   split at h
   ·exact Gl.clAnd_all gs Q (acc:=dI acc l) (fun y hy=>hQ y (by simp[hy])) (fun c hc=>by
     have w_:=rP hc
     obtain⟨u,hu,w,hw,rfl⟩:=w_
     intro x hx
     rcases List.mem_append.1 hx with hx|hx
     ·exact h1 u hu x hx
     ·exact hQ g (by simp) x (hb w hw x hx).1 (hb w hw x hx).2) h
   ·cases h
end
section
variable {μ:Mem}
end
end Go.Vx
namespace Go.Vx
open Go.Proofs Classical
section
variable {μ:Mem}
theorem qGs{a b:T}{va vb:Value}(ha:RepV μ a.tm.d va)(hb:RepV μ b.tm.d vb):Spec Tryz.prog 98 [va,vb] μ fun v μ'=>RepV μ' (T.pair a b).tm.d v:=by
 have w_:=Tm.invV ha
 obtain⟨p,rfl⟩:=w_
 have w_:=Tm.invV hb
 obtain⟨q,rfl⟩:=w_
 refine Spec.mk Tryz.func98 (by kernel_rfl) ?_
 intro r1 r2 r3 r4
 refine rFz [3] fun μ' hle hno hrow=> .inl ?_
 rw[T.tm,Tm.d_mk]
 exact⟨_,rfl,RepS.int (RepS.int (RepS.str (RepS.last (Rows.sl hrow (.cons (ha.mono hle) (Tm.d_n _) (.cons (hb.mono hle) (Tm.d_n _) .nil)) (show 2≤maxLen by decide)))))⟩
theorem qEt{k:FuncId}{caps:List Value}{f:Int→Option T}(J:Mem→Mem→Prop)(hJ:∀{μ' μ'' h':Mem},μ'.Le μ''→J μ' h'→J μ'' h'):∀(x:T) {μ h:Mem} {v:Value},
  (∀μ' h',μ.Le μ'→J μ' h'→∀n∈x.vars,SpecH Tryz.prog k (.int .i64 n::caps) μ' h' fun v μ'' h''=>qGv (fun y tv=>RepV μ'' y.tm.d tv) (f n) v∧J μ'' h'')→J μ h→RepV μ x.tm.d v→
  SpecH Tryz.prog 60 [v,.func (.func k) #[] caps.toArray] μ h fun v μ' h'=>RepV μ' (x.subst f).tm.d v∧J μ' h':=by
 intro x
 induction x with
 |var n=>
  intro μ h v hk hj hv
  have w_:=Tm.invV hv
  obtain⟨p,rfl⟩:=w_
  refine SpecH.mk [] Tryz.func60 (by kernel_rfl) ?_
  intro r1 r2
  refine ifd (fun _=>?_) (fun h=>absurd rfl h)
  refine cOw (hk μ h (Mem.Le.refl μ) hj n (by simp[T.vars])) fun v' μ' h' hle hap hR=>?_
  obtain⟨hR,hj'⟩:=hR
  simp only[T.subst]
  cases hs:f n with
  |some y=>
   rw[hs]at hR
   obtain⟨tv,rfl,htv⟩:=hR
   have w_:=Tm.invV htv
   obtain⟨q,rfl⟩:=w_
   intro r3
   refine iIn (fun _=>?_) (fun h=>nomatch h)
   refine cPl (fQ y htv) fun v2 μ2 hle2 hR2=>?_
   have w_:=Tm.invV hR2.rep
   obtain⟨q2,rfl⟩:=w_
   exact rPl ⟨hR2.rep,hJ hle2 hj'⟩
  |none=>
   rw[hs]at hR
   obtain rfl:=hR
   intro r3
   refine iIn (fun h=>nomatch h) (fun _=>?_)
   exact rPl ⟨hv.mono hle,hj'⟩
 |pair a b iha ihb=>
  intro μ h v hk hj hv
  have w_:=Tm.inv hv
  obtain⟨base',cap',rfl,hsa⟩:=w_
  have w_:=T.parts hsa
  obtain⟨ad,ad',p,p',h1,h2,hra,hrb⟩:=w_
  refine SpecH.mk [] Tryz.func60 (by kernel_rfl) ?_
  intro r1 r2
  refine ifd (fun h=>absurd h (by simp)) (fun _=>?_)
  refine ifd (fun _=>?_) (fun h=>absurd rfl h)
  refine eIn h1 ?_
  refine eIn h2 ?_
  refine cOw (iha (fun μ' h' g1 g2 n hn=>hk μ' h' g1 g2 n (by simp[T.vars,hn])) hj hra) fun v1 μ1 h1' hle1 hap1 hR1=>?_
  obtain⟨hR1,hj1⟩:=hR1
  refine cOw (ihb (fun μ' h' g1 g2 n hn=>hk μ' h' (hle1.trans g1) g2 n (by simp[T.vars,hn])) hj1 (hrb.mono hle1)) fun v2 μ2 h2' hle2 hap2 hR2=>?_
  obtain⟨hR2,hj2⟩:=hR2
  refine cPl (qGs (hR1.mono hle2) hR2) fun v3 μ3 hle3 hR3=>?_
  have w_:=Tm.invV hR3
  obtain⟨q,rfl⟩:=w_
  exact rPl ⟨hR3,hJ hle3 hj2⟩
 |_=>
  intro μ h v hk hj hv
  have w_:=Tm.invV hv
  obtain⟨p,rfl⟩:=w_
  refine SpecH.mk [] Tryz.func60 (by kernel_rfl) ?_
  intro r1 r2
  refine ifd (fun h=>absurd h (by simp[T.tm,Tm.kind])) (fun _=>?_)
  refine ifd (fun h=>absurd h (by simp[T.tm,Tm.kind])) (fun _=>?_)
  exact rPl ⟨hv,hj⟩
end
end Go.Vx
namespace Go.Vx
open Go.Proofs Classical
structure RuD where
 rel:ByteArray
 hargs:List Tm
 clause:Int
 vals:List Tm
 pos:List Fc
 neg:List Fc
def RuD.d(x:RuD):D:= .st [.s x.rel,.sl 4 (x.hargs.map Tm.d),.i x.clause,.sl 4 (x.vals.map Tm.d),.sl 2 (x.pos.map Fc.d),.sl 2 (x.neg.map Fc.d)]
theorem RuD.d_eq(x:RuD):x.d= .st [.s x.rel,.sl 4 (x.hargs.map Tm.d),.i x.clause,.sl 4 (x.vals.map Tm.d),.sl 2 (x.pos.map Fc.d),.sl 2 (x.neg.map Fc.d)]:=rfl
theorem RuD.d_n(x:RuD):x.d.n=6:=by
 rw[RuD.d_eq]
 simp only[D.n,D.ns]
abbrev RuD.P:=(Option Addr×Nat)×(Option Addr×Nat)×(Option Addr×Nat)×(Option Addr×Nat)
def RuD.cs(x:RuD)(p:RuD.P):List Value:=[.string x.rel,.slice p.1.1 x.hargs.length p.1.2,.int .i64 x.clause,.slice p.2.1.1 x.vals.length p.2.1.2,.slice p.2.2.1.1 x.pos.length p.2.2.1.2,.slice p.2.2.2.1 x.neg.length p.2.2.2.2]
section
variable {μ:Mem}
def RuD.At(μ:Mem)(x:RuD)(p:RuD.P):Prop:=Sl μ 4 p.1.1 x.hargs.length (x.hargs.map Tm.d)∧Sl μ 4 p.2.1.1 x.vals.length (x.vals.map Tm.d)∧Sl μ 2 p.2.2.1.1 x.pos.length (x.pos.map Fc.d)∧Sl μ 2 p.2.2.2.1 x.neg.length (x.neg.map Fc.d)
theorem RuD.invA{x:RuD}{cs:List Value}(h:Rep μ x.d cs):∃p:RuD.P,cs=x.cs p∧RuD.At μ x p:=by
 rw[RuD.d_eq]at h
 obtain⟨a0,t0,rfl,h0,h⟩:=h
 have h0:a0=[.string x.rel]:=h0
 subst h0
 obtain⟨a1,t1,rfl,h1,h⟩:=h
 have w_:=jB (Rep.len _ _ h1)
 obtain⟨v1,rfl⟩:=w_
 have w_:=Rep.sl h1
 obtain⟨b1,c1,rfl,s1⟩:=w_
 rw[List.length_map]at s1
 obtain⟨a2,t2,rfl,h2,h⟩:=h
 have h2:a2=[.int .i64 x.clause]:=h2
 subst h2
 obtain⟨a3,t3,rfl,h3,h⟩:=h
 have w_:=jB (Rep.len _ _ h3)
 obtain⟨v3,rfl⟩:=w_
 have w_:=Rep.sl h3
 obtain⟨b3,c3,rfl,s3⟩:=w_
 rw[List.length_map]at s3
 obtain⟨a4,t4,rfl,h4,h⟩:=h
 have w_:=jB (Rep.len _ _ h4)
 obtain⟨v4,rfl⟩:=w_
 have w_:=Rep.sl h4
 obtain⟨b4,c4,rfl,s4⟩:=w_
 rw[List.length_map]at s4
 obtain⟨a5,t5,rfl,h5,h⟩:=h
 have w_:=jB (Rep.len _ _ h5)
 obtain⟨v5,rfl⟩:=w_
 have w_:=Rep.sl h5
 obtain⟨b5,c5,rfl,s5⟩:=w_
 rw[List.length_map]at s5
 obtain rfl:t5=[]:=h
 exact⟨((b1,c1),(b3,c3),(b4,c4),(b5,c5)),by simp[RuD.cs],⟨s1,s3,s4,s5⟩⟩
theorem RuD.rep{x:RuD}{cs:List Value}(h:Rep μ x.d cs):RepV μ x.d (.agg cs.toArray):=by
 rw[RuD.d_eq]at h ⊢;exact⟨cs,rfl,h⟩
theorem RuD.inv{x:RuD}{v:Value}(h:RepV μ x.d v):∃p:RuD.P,v= .agg #[.string x.rel,.slice p.1.1 x.hargs.length p.1.2,.int .i64 x.clause,.slice p.2.1.1 x.vals.length p.2.1.2,.slice p.2.2.1.1 x.pos.length p.2.2.1.2,.slice p.2.2.2.1 x.neg.length p.2.2.2.2]∧RuD.At μ x p:=by
 have h2:∃cs,v= .agg (List.toArray cs)∧Rep μ x.d cs:=by rw[RuD.d_eq]at h ⊢;exact h
 obtain⟨cs,rfl,h3⟩:=h2
 have w_:=RuD.invA h3
 obtain⟨p,rfl,hA⟩:=w_
 exact⟨p,rfl,hA⟩
theorem RuD.elemA{l:List RuD}{base:Option Addr}{n:Nat}(h:Sl μ 6 base n (l.map RuD.d)){i:Nat}{x:RuD}(hx:l[i]? =some x):∃ad,∃p:RuD.P,ElemAt μ base n 6 i ad (x.cs p)∧RepV μ x.d (.agg (x.cs p).toArray)∧RuD.At μ x p:=by
 have w_:=h.get i x.d (by simp[hx])
 obtain⟨ad,cs,h1,h2⟩:=w_
 have w_:=RuD.invA h2
 obtain⟨p,rfl,hA⟩:=w_
 exact⟨ad,p,h1,RuD.rep h2,hA⟩
theorem RuD.elem{l:List RuD}{base:Option Addr}{n:Nat}(h:Sl μ 6 base n (l.map RuD.d)){i:Nat}{x:RuD}(hx:l[i]? =some x):∃ad,∃p:RuD.P,ElemAt μ base n 6 i ad (x.cs p)∧RepV μ x.d (.agg (x.cs p).toArray):=by
 have w_:=RuD.elemA h hx
 obtain⟨ad,p,h1,h2,_⟩:=w_
 exact⟨ad,p,h1,h2⟩
end
end Go.Vx
namespace Go.Vx
open Go.Proofs Classical
noncomputable abbrev qEi:List T→List T→Int:=bJ T.cmp
theorem cmpL_ord:Ord3 qEi:=qDr T.cmp_ord
structure F where
 rel:ByteArray
 args:List T
def F.fc(f:F):Fc:=⟨f.rel,f.args.map T.tm⟩
noncomputable def fP(a b:F):Int:=eV (qJ a.rel b.rel) (qEi a.args b.args)
theorem cmpF_ord:Ord3 fP where
 zero x y:=by
  rw[fP,yD,cName_ord.zero,cmpL_ord.zero]
  cases x;cases y;simp
 anti x y:=cName_ord.lex_anti fun _=>cmpL_ord.anti _ _
 trans x y z:=cName_ord.lex_trans fun _ _=>cmpL_ord.trans _ _ _
noncomputable abbrev iJ(l:List F):List F:=qHy cmpF_ord l
theorem fS{α:Type}:∀{a b:List α},a.Nodup→(∀x∈a,x∈b)→a.length≤b.length
 |[],_,_,_=>Nat.zero_le _
 |x::a,b,hn,h=>by
  have w_:=List.nodup_cons.1 hn
  obtain⟨h1,h2⟩:=w_
  have w_:=List.append_of_mem (h x (by simp))
  obtain⟨s,t,rfl⟩:=w_
  have:=fS (a:=a) (b:=s++t) h2 fun y hy=>by
   have h3:=h y (by simp[hy])
   rcases List.mem_append.1 h3 with h3|h3
   ·simp[h3]
   ·rcases List.mem_cons.1 h3 with rfl | h3
    ·exact absurd hy h1
    ·simp[h3]
  simp only[List.length_append,List.length_cons]at*
  omega
theorem qFy{α:Type}{a b:List α}(hn:a.Nodup)(h:∀x∈a,x∈b)(hl:b.length≤a.length):∀x∈b,x∈a:=fun x hx=>Classical.byContradiction fun k=>by
 have:=fS (a:=x::a) (b:=b) (List.nodup_cons.2 ⟨k,hn⟩) fun y hy=>by
  rcases List.mem_cons.1 hy with rfl|hy
  ·exact hx
  ·exact h y hy
 rw[List.length_cons]at this;omega
theorem qEb{α:Type}{c:α→α→Int}(ho:Ord3 c){a b:List α}(ha:Asc3 c a)(hb:Asc3 c b)(h:∀x∈a,x∈b)(hl:b.length=a.length):a=b:=
 ha.uniq ho hb fun x=>⟨h x,qFy (ha.nodup ho) h (by omega) x⟩
theorem qLs{α:Type}{c:α→α→Int}(ho:Ord3 c){a b:List α}(ha:Asc3 c a)(_hb:Asc3 c b)(h:∀x∈a,x∈b)(hne:b.length≠a.length):a.length<b.length:=by
 have:=fS (ha.nodup ho) h
 omega
structure Ru where
 head:F
 clause:Int
 vals:List T
 pos:List F
 neg:List F
def bV(vs:List T)(n:Int):Option T:=if 0≤n then vs[n.toNat]? else none
noncomputable def bW(vs:List T)(g:Gl):F:=⟨g.name,g.terms.map fun t=>t.toT.subst (bV vs)⟩
def Gl.kid(g:Gl):Gl:=g.goals.getD 0 (.mk 0 ⟨#[]⟩ [] [])
def gA(k:Int)(xs:List T):Prop:=
 if k=0 then True else if k=2 then xs[0]? =xs[1]? else if k=3 then xs[0]?≠xs[1]? else if k=4 then ∃x,xs[0]? =some x∧x.tm.kind=2
 else if k=5 then ∃x,xs[0]? =some x∧x.tm.kind=3 else if k=6 then ∃x y,xs[0]? =some x∧xs[1]? =some y∧¬y.hasSym x.tm.name else False
def okG(U vs:List T)(g:Gl):Prop:=
 if g.kind=9 then ∀a∈(bW vs g).args,a∈U else if g.kind=10 then ∀a∈(bW vs g.kid).args,a∈U else gA g.kind (g.terms.map fun t=>t.toT.subst (bV vs))
noncomputable def iI(vs:List T)(c:List Gl):List F:=(c.filter fun g=>decide (g.kind=9)).map (bW vs)
noncomputable def wG(vs:List T)(c:List Gl):List F:=(c.filter fun g=>decide (g.kind=10)).map fun g=>bW vs g.kid
noncomputable def kB(r:Rl)(i:Nat)(c:List Gl)(vs:List T):Ru:=⟨⟨r.name,vs.take r.arity.toNat⟩,i,vs,iI vs c,wG vs c⟩
def gN(U:List T):Nat→Nat→List T
 |0,_=>[]
 |n+1,w=>U.getD (w % U.length) .nil::gN U n (w / U.length)
theorem pJ(U:List T):∀n w,(gN U n w).length=n
 |0,_=>rfl
 |n+1,w=>by rw[gN,List.length_cons,pJ U n]
theorem oU(U:List T):∀k n w,k<n→(gN U n w)[k]? =some (U.getD (w / U.length ^ k % U.length) .nil)
 |k,0,w,h=>by omega
 |0,n+1,w,h=>by simp[gN]
 |k+1,n+1,w,h=>by
  rw[gN,List.getElem?_cons_succ,oU U k n _ (by omega),Nat.div_div_eq_div_mul,←Nat.pow_succ']
theorem tY(U:List T)(hU:0<U.length):∀n w,∀x∈gN U n w,x∈U
 |0,w,x,h=>by simp[gN]at h
 |n+1,w,x,h=>by
  rcases List.mem_cons.1 h with rfl|h
  ·rw [List.getD_eq_getElem?_getD, List.getElem?_eq_getElem (Nat.mod_lt _ hU)]
   exact List.getElem_mem _
  ·exact tY U hU n _ x h
noncomputable def fN(U:List T)(r:Rl)(i:Nat)(c:List Gl)(w:Nat):Option Ru:=
 if ∀g∈c,okG U (gN U (r.arity+r.locals).toNat w) g then some (kB r i c (gN U (r.arity+r.locals).toNat w))else none
noncomputable def bR(U:List T)(r:Rl)(i:Nat)(c:List Gl)(w:Nat):List Ru:=(List.range w).filterMap (fN U r i c)
noncomputable def bI(U:List T)(r:Rl)(L:List (List Gl))(k:Nat):List Ru:=(List.range k).flatMap fun i=>bR U r i (L.getD i []) (U.length ^ (r.arity+r.locals).toNat)
noncomputable def bU(U:List T)(r:Rl):List Ru:=match r.body.cl with
 |none=>[]
 |some L=>bI U r L L.length
noncomputable def aS(p:Pg)(U:List T):List Ru:=p.rels.flatMap (bU U)
def qNq(p:Pg)(U:List T):Prop:=∀r∈p.rels,r.body.cl≠none∧U.length ^ (r.arity+r.locals).toNat≤4096
noncomputable def cQ(p:Pg)(U:List T):Option (List Ru):=if qNq p U∧(aS p U).length≤2000 then some (aS p U)else none
theorem sO(U:List T)(r:Rl)(i:Nat)(c:List Gl)(w:Nat):bR U r i c (w+1)=bR U r i c w++(fN U r i c w).toList:=by
 rw[bR,List.range_succ,List.filterMap_append]
 cases h:fN U r i c w<;>simp[h,bR]
theorem lP{U:List T}{r:Rl}{L:List (List Gl)}{k:Nat}{c:List Gl}(h:L[k]? =some c):bI U r L (k+1)=bI U r L k++bR U r k c (U.length ^ (r.arity+r.locals).toNat):=by
 rw[bI,List.range_succ,List.flatMap_append]
 congr 1
 simp[List.getD_eq_getElem?_getD,h]
theorem mH{p:Pg}{U:List T}{i:Nat}{r:Rl}(h:p.rels[i]? =some r):(p.rels.take (i+1)).flatMap (bU U)=(p.rels.take i).flatMap (bU U)++bU U r:=by
 rw[List.take_add_one,h,Option.toList_some,List.flatMap_append]
 simp
def sD(pos neg:List F)(r:Ru):Prop:=(∀f∈r.pos,f∈pos)∧∀f∈r.neg,f∉neg
noncomputable def dD(rs:List Ru)(pos neg:List F):List F:=iJ ((rs.filter fun r=>decide (sD pos neg r)).map Ru.head)
theorem rN{rs:List Ru}{pos neg:List F}{f:F}:f∈dD rs pos neg↔∃r∈rs,sD pos neg r∧r.head=f:=by
 rw[dD,qW,List.mem_map]
 constructor
 ·rintro ⟨r, h1, h2⟩
  rw[List.mem_filter,decide_eq_true_eq]at h1
  exact⟨r,h1.1,h1.2,h2⟩
 ·rintro ⟨r, h1, h2, h3⟩
  exact⟨r,by rw[List.mem_filter,decide_eq_true_eq];exact⟨h1,h2⟩,h3⟩
inductive Der (rs:List Ru) (base:List F):F→Prop
 |base {f:F} (h:f∈base):Der rs base f
 |rule {r:Ru} (h:r∈rs) (hp:∀f∈r.pos,Der rs base f):Der rs base r.head
noncomputable def lfp(rs:List Ru)(base:List F):List F:=iJ ((base++rs.map Ru.head).filter fun f=>decide (Der rs base f))
theorem mem_lfp{rs:List Ru}{base:List F}{f:F}:f∈lfp rs base↔Der rs base f:=by
 rw[lfp,qW,List.mem_filter,decide_eq_true_eq]
 refine⟨fun h=>h.2,fun h=>⟨?_,h⟩⟩
 cases h with
 |base h=>exact List.mem_append_left _ h
 |rule h _=>exact List.mem_append_right _ (List.mem_map_of_mem h)
theorem qAw(rs:List Ru)(base:List F):Asc3 fP (lfp rs base):=yS cmpF_ord _
theorem lfp_eq{rs:List Ru}{base S:List F}(ha:Asc3 fP S)(hb:∀f∈base,f∈S)(hd:∀f∈S,Der rs base f)(hc:∀r∈rs,(∀f∈r.pos,f∈S)→r.head∈S):S=lfp rs base:=
 ha.uniq cmpF_ord (qAw _ _) fun x=>by
  rw[mem_lfp]
  refine⟨hd x,fun h=>?_⟩
  induction h with
  |base h=>exact hb _ h
  |rule h _ ih=>exact hc _ h ih
noncomputable def mQ(rs:List Ru)(S:List F):List Ru:=rs.filter fun r=>decide (∀f∈r.neg,f∉S)
theorem mem_unlessR{rs:List Ru}{S:List F}{r:Ru}:r∈mQ rs S↔r∈rs∧∀f∈r.neg,f∉S:=by
 rw[mQ,List.mem_filter,decide_eq_true_eq]
end Go.Vx
namespace Go.Vx
open Go.Proofs Classical
section
variable {μ:Mem}
theorem T.elemL{xs:List T}{base:Option Addr}{n:Nat}(h:Sl μ 4 base n ((xs.map T.tm).map Tm.d)){i:Nat}{x:T}(hx:xs[i]? =some x):∃ad,∃p:Option Addr×Nat,ElemAt μ base n 4 i ad (x.tm.cs p)∧RepV μ x.tm.d (.agg (x.tm.cs p).toArray):=
 Tm.elem h (by simp[hx])
theorem nB{xs ys:List T}{base base2:Option Addr}{cap cap2:Nat}(hsl:Sl μ 4 base xs.length ((xs.map T.tm).map Tm.d))(hsl2:Sl μ 4 base2 ys.length ((ys.map T.tm).map Tm.d)):
  aP Tryz.prog 107 [.slice base xs.length cap,.slice base2 ys.length cap2] μ (.int .i64 (qEi xs ys)):=by
 refine Spec.mk Tryz.func107 (by kernel_rfl) ?_
 have hm1:=aJ hsl.max
 have hm2:=aJ hsl2.max
 refine lIn (fun i:Nat=>i≤xs.length∧i≤ys.length∧qEi (xs.drop i) (ys.drop i)=qEi xs ys)
  (fun i=>⟨[(0,.val (.slice base xs.length cap)),(1,.val (.slice base2 ys.length cap2)),(5,.val (.int .i64 i))],[],0,μ,Mem.nil⟩) (fun i=>xs.length-i)
  0 ⟨Nat.zero_le _,Nat.zero_le _,rfl⟩ (fun _=>⟨rfl,rfl⟩) ⟨⟨rfl,rfl,rfl,trivial⟩,trivial,rfl,rfl⟩ ?_
 rintro i ⟨hi,hj,hJ⟩
 have fin:¬(i<xs.length∧i<ys.length)→qEi xs ys=oA xs.length ys.length:=fun h=>qDd h hi hj hJ
 refine ifd (fun h1=>?_) (fun h1=>?_)
 ·refine ifd (fun h2 => ?_) (fun h2 => ?_)
  ·have w_ := aSo (l := xs) (i := i) (by omega)
   obtain⟨x,hx⟩:=w_
   have w_:=aSo (l:=ys) (i:=i) (by omega)
   obtain⟨y,hy⟩:=w_
   have w_:=T.elemL hsl hx
   obtain⟨ad,p,hel,hto⟩:=w_
   have w_:=T.elemL hsl2 hy
   obtain⟨ad2,p2,hel2,hto2⟩:=w_
   rw[iN hx,iN hy,qEi,bJ]at hJ
   refine eIn hel (eIn hel2 ?_)
   refine cGv (gC _ _ hto hto2) ?_
   refine aM (fun h5=>?_) (fun h5=>?_)
   ·rw [qHw h5] at hJ
    exact rGv (congrArg (Value.int .i64) hJ) rfl
   ·rw [qIl h5] at hJ
    exact aC (by omega) (by omega) ⟨i+1,⟨by omega,by omega,hJ⟩,by omega,⟨⟨rfl,rfl,rfl,trivial⟩,trivial,rfl,rfl⟩⟩
  ·refine cGv (nR _ _) ?_
   exact rGv (by rw[fin (by omega)]) rfl
 ·refine cGv (nR _ _) ?_
  exact rGv (by rw[fin (by omega)]) rfl
theorem F.inv{f:F}{v:Value}(h:RepV μ f.fc.d v):∃p:Fc.P,v= .agg #[.string f.rel,.slice p.1 f.args.length p.2]∧Sl μ 4 p.1 f.args.length ((f.args.map T.tm).map Tm.d):=by
 have w_:=Fc.inv h
 obtain⟨p,rfl,hA⟩:=w_
 have e:f.fc.args.length=f.args.length:=List.length_map ..
 have hA:Sl μ 4 p.1 f.fc.args.length ((f.args.map T.tm).map Tm.d):=hA
 rw[e]at hA ⊢
 exact⟨p,rfl,hA⟩
def F.cs(f:F)(p:Fc.P):List Value:=[.string f.rel,.slice p.1 f.args.length p.2]
theorem F.elem{l:List F}{base:Option Addr}{n:Nat}(h:Sl μ 2 base n ((l.map F.fc).map Fc.d)){i:Nat}{f:F}(hf:l[i]? =some f):∃ad,∃p:Fc.P,ElemAt μ base n 2 i ad (f.cs p)∧RepV μ f.fc.d (.agg (f.cs p).toArray)∧Sl μ 4 p.1 f.args.length ((f.args.map T.tm).map Tm.d):=by
 have w_:=Fc.elemA h (i:=i) (x:=f.fc) (by simp[hf])
 obtain⟨ad,p,h1,h2,h3⟩:=w_
 have e:f.fc.cs p=f.cs p:=by
  show [_,Value.slice p.1 (f.args.map T.tm).length p.2]=_
  rw[List.length_map];rfl
 rw[e]at h1 h2
 have h3:Sl μ 4 p.1 (f.args.map T.tm).length ((f.args.map T.tm).map Tm.d):=h3
 rw[List.length_map]at h3
 exact⟨ad,p,h1,h2,h3⟩
theorem F.mkV{f:F}{b:Option Addr}{c:Nat}(h:RepV μ (.sl 4 ((f.args.map T.tm).map Tm.d)) (.slice b f.args.length c)):RepV μ f.fc.d (.agg #[.string f.rel,.slice b f.args.length c]):=by
 rw[Fc.d_eq]
 exact⟨_,rfl,RepS.str (RepS.last h)⟩
theorem dG{f g:F}{v w:Value}(hv:RepV μ f.fc.d v)(hw:RepV μ g.fc.d w):aP Tryz.prog 70 [v,w] μ (.int .i64 (fP f g)):=by
 have w_:=F.inv hv
 obtain⟨p,rfl,hs⟩:=w_
 have w_:=F.inv hw
 obtain⟨q,rfl,hs2⟩:=w_
 refine Spec.mk Tryz.func70 (by kernel_rfl) ?_
 intro r1 r2
 rw[fP]
 refine aM (fun h=>?_) (fun h=>?_)
 ·have e:eV (qJ f.rel g.rel) (qEi f.args g.args)=sgn (Op.bytesLess f.rel.data.toList g.rel.data.toList):=by
   rw[qHw (fun k=>h ((cName_ord.zero _ _).1 k)),qJ,if_neg h]
  rw[e]
  refine iIn (fun h4=>rGv ?_ rfl) (fun h4=>rGv ?_ rfl)
  ·rw[h4];rfl
  ·rw[h4];rfl
 ·rw [qIl ((cName_ord.zero _ _).2 h)]
  refine cGv (nB hs hs2) ?_
  exact rGv rfl rfl
end
end Go.Vx
namespace Go.Vx
open Go.Proofs Classical
def qOi(t:Tm):Prop:=t.Ok∧t.toT.vars=[]
structure UnivOk (l:List Tm):Prop where
 pos:1≤l.length
 max:l.length≤8
 gnd:∀t∈l,qOi t
 asc:∀(i:Nat) x y,l[i]? =some x→l[i+1]? =some y→x.toT.cmp y.toT<0
theorem UnivOk.lift{l:List Tm}(h:UnivOk l):∃U:List T,l=U.map T.tm∧(∀x∈U,x.ok∧x.vars=[])∧U.length=l.length:=by
 have w_:=gO fun t ht=>(h.gnd t ht).1
 obtain⟨U,rfl,hU⟩:=w_
 refine⟨U,rfl,fun x hx=>⟨hU x hx,?_⟩,by rw[List.length_map]⟩
 have:=(h.gnd x.tm (List.mem_map_of_mem hx)).2
 rwa [T.toT_tm]at this
def relFor(p:Pg)(f:Fc):Prop:=∃(k:Nat) (r:Rl),cE p f.rel=(k:Int)∧p.rels[k]? =some r∧r.arity=(f.args.length:Int)
def FactFits(p:Pg)(f:Fc):Prop:=relFor p f∧∀t∈f.args,qOi t
section
variable {μ:Mem}
theorem iK(t:Tm){v:Value}(hv:RepV μ t.d v):aP Tryz.prog 25 [v] μ (.bool (decide (qOi t))):=by
 have hv0:=hv
 have w_:=Tm.invV hv
 obtain⟨p,rfl⟩:=w_
 refine Spec.forget (Spec.mk Tryz.func25 (by kernel_rfl) ?_)
 intro r
 refine cGv (fO t hv0) ?_
 refine ifd (fun h=>?_) (fun h=>?_)
 ·obtain ⟨x, hx, rfl⟩ := h.lift
  refine cGv (xZ x hv0) ?_
  refine rPl (isI ⟨fun k=>⟨h,by rw[T.toT_tm];exact k⟩,fun k=>by have:=k.2;rwa [T.toT_tm]at this⟩)
 ·exact rPl (isF fun k=>h k.1)
def UnivTo(l:List Tm)(i:Nat):Prop:=∀j,j<i→(∀t,l[j]? =some t→qOi t)∧∀k x y,k+1=j→l[k]? =some x→l[j]? =some y→x.toT.cmp y.toT<0
theorem UnivTo.all{l:List Tm}(h:UnivTo l l.length)(h1:1≤l.length)(h8:l.length≤8):UnivOk l where
 pos:=h1
 max:=h8
 gnd t ht:=by
  have w_:=List.mem_iff_getElem?.1 ht
  obtain⟨j,hj⟩:=w_
  exact(h j (List.getElem?_eq_some_iff.1 hj).1).1 t hj
 asc i x y hx hy:=(h (i+1) (List.getElem?_eq_some_iff.1 hy).1).2 i x y rfl hx hy
theorem lU{l:List Tm}{base:Option Addr}{cap:Nat}(hsl:Sl μ 4 base l.length (l.map Tm.d)):
  aP Tryz.prog 72 [.slice base l.length cap] μ (.bool (decide (UnivOk l))):=by
 have hn:=aJ hsl.max
 have bad:¬UnivOk l→Value.bool false= .bool (decide (UnivOk l)):=fun k=>isF k
 refine Spec.mk Tryz.func72 (by kernel_rfl) ?_
 refine ifd (fun h=>rGv (bad fun k=>by have:=k.pos;omega) rfl) (fun h1=>?_)
 refine ifd (fun h=>rGv (bad fun k=>by have:=k.max;omega) rfl) (fun h8=>?_)
 refine lIn (fun i:Nat=>i≤l.length∧UnivTo l i)
  (fun i=>⟨[(0,.val (.slice base l.length cap)),(13,.val (.slice base l.length cap)),(14,.val (.int .i64 l.length)),(15,.val (.int .i64 i))],[],0,μ,Mem.nil⟩) (fun i=>l.length-i)
  0 ⟨Nat.zero_le _,fun j hj=>by omega⟩ (fun _=>⟨rfl,rfl⟩) ⟨⟨rfl,rfl,rfl,rfl,trivial⟩,trivial,rfl,rfl⟩ ?_
 rintro i ⟨hi,hall⟩
 refine ifd (fun hlt=>?_) (fun hlt=>?_)
 ·have w_ := aSo (l := l) (i := i) (by omega)
  obtain⟨t,ht⟩:=w_
  have w_:=Tm.elem hsl ht
  obtain⟨ad,p,hel,hr⟩:=w_
  refine eIn hel ?_
  intro r4
  refine cGv (iK t hr) ?_
  refine aM (fun h=>rGv (bad fun k=>h (k.gnd t (mAt ht))) rfl) (fun hg=>?_)
  have ok1:(∀k x y,k+1=i→l[k]? =some x→l[i]? =some y→x.toT.cmp y.toT<0)→UnivTo l (i+1):=fun hc j hj=>by
   rcases Nat.lt_or_ge j i with h6|h6
   ·exact hall j h6
   ·obtain rfl : j = i := by omega
    exact⟨fun t' ht'=>by rw[ht]at ht';cases ht';exact hg,hc⟩
  refine ifd (fun hi0=>?_) (fun hi0=>?_)
  ·have w_ := aSo (l := l) (i := i - 1) (by omega)
   obtain⟨t',ht'⟩:=w_
   have w_:=Tm.elem hsl ht'
   obtain⟨ad',p',hel',hr'⟩:=w_
   have hg':=(hall (i-1) (by omega)).1 t' ht'
   obtain⟨x,_,rfl⟩:=hg.1.lift
   obtain⟨y,_,rfl⟩:=hg'.1.lift
   refine aC (by omega) (by omega) ?_
   refine eIn (by rw[show((i:Int)-1)=((i-1:Nat):Int) by omega];exact hel') ?_
   refine cGv (gC y x hr' hr) ?_
   refine ifd (fun hc=>(fun e=>rGv e rfl) ?_) (fun hc=>?_)
   ·refine bad fun k => ?_
    have:=k.asc (i-1) _ _ ht' (by rw[show i-1+1=i by omega];exact ht)
    rw[T.toT_tm,T.toT_tm]at this
    omega
   ·refine aC (by omega) (by omega) ⟨i + 1, ⟨by omega, ok1 fun k a b hk ha hb => ?_⟩, by omega, ⟨⟨rfl, rfl, rfl, rfl, trivial⟩, trivial, rfl, rfl⟩⟩
    obtain rfl:k=i-1:=by omega
    rw[ht']at ha;rw[ht]at hb;cases ha;cases hb
    rw[T.toT_tm,T.toT_tm];omega
  ·exact aC (by omega) (by omega) ⟨i+1,⟨by omega,ok1 fun k a b hk _ _=>by omega⟩,by omega,⟨⟨rfl,rfl,rfl,rfl,trivial⟩,trivial,rfl,rfl⟩⟩
 ·obtain rfl : i = l.length := by omega
  exact rGv (isT (hall.all (by omega) (by omega))) rfl
noncomputable def fY(p:Pg)(s:ByteArray):Int:=if p.Ok then cE p s else -1
end
end Go.Vx
namespace Go.Vx
open Go.Proofs Classical
def WaysR(size n most:Nat)(r:Value):Prop:=∃w:Nat,r= .int .i64 w∧(size ^ n≤most→w=size ^ n)∧(most<size ^ n→most<w)
section
variable {μ:Mem}
theorem qKo{U:List T}{ub:Option Addr}(hu:Sl μ 4 ub U.length ((U.map T.tm).map Tm.d))(hU:0<U.length)(w:Nat):∃ad,∃p:Option Addr×Nat,ElemAt μ ub U.length 4 ((w % U.length:Nat):Int) ad ((U.getD (w % U.length) .nil).tm.cs p)∧RepV μ (U.getD (w % U.length) .nil).tm.d (.agg ((U.getD (w % U.length) .nil).tm.cs p).toArray):=
 T.elemL hu (by rw[List.getD_eq_getElem?_getD,List.getElem?_eq_getElem (Nat.mod_lt _ hU)];rfl)
set_option maxHeartbeats 1000000 in
theorem F.fc_args(f:F):f.fc.args=f.args.map T.tm:=rfl
theorem qMg{xs:List T}(h:xs.length=2):∃x y,xs=[x,y]:=by
 match xs,h with
 |[x,y],_=>exact⟨x,y,rfl⟩
theorem one_of'{xs:List T}(h:xs.length=1):∃x,xs=[x]:=by
 match xs,h with
 |[x],_=>exact⟨x,rfl⟩
structure SimpleLen (k:Int) (n:Nat):Prop where
 two:k=2∨k=3∨k=6→n=2
 one:k=4∨k=5→n=1
theorem testT_2{x y:T}:gA 2 [x,y]↔x=y:=by simp[gA]
theorem testT_3{x y:T}:gA 3 [x,y]↔x≠y:=by simp[gA]
theorem testT_4{x:T}:gA 4 [x]↔x.tm.kind=2:=by simp[gA]
theorem testT_5{x:T}:gA 5 [x]↔x.tm.kind=3:=by simp[gA]
theorem testT_6{x y:T}:gA 6 [x,y]↔¬y.hasSym x.tm.name:=by simp[gA]
end
end Go.Vx
namespace Go.Vx
open Go.Proofs Classical
def Ru.rd(r:Ru):RuD:=⟨r.head.rel,r.head.args.map T.tm,r.clause,r.vals.map T.tm,r.pos.map F.fc,r.neg.map F.fc⟩
structure ClG (g:Gl):Prop where
 sh:g.Sh
 one:g.kind≠7∧g.kind≠8
def okS(vs:List T)(g:Gl):Prop:=g.kind≠9→g.kind≠10→gA g.kind (g.terms.map fun t=>t.toT.subst (bV vs))
theorem Gl.kid_at{g:Gl}(h:g.goals.length=1):g.goals[0]? =some g.kid:=by
 rw[Gl.kid,List.getD_eq_getElem?_getD]
 have w_:=aSo (l:=g.goals) (i:=0) (by omega)
 obtain⟨x,hx⟩:=w_
 rw[hx];rfl
theorem qV{vs:List T}{c:List Gl}{j:Nat}{g:Gl}(h:c[j]? =some g):iI vs (c.take (j+1))=iI vs (c.take j)++(if g.kind=9 then [bW vs g]else []):=by
 rw[iI,List.take_add_one,h,Option.toList_some,List.filter_append,List.map_append]
 congr 1
 by_cases k:g.kind=9<;>simp[k]
theorem rU{vs:List T}{c:List Gl}{j:Nat}{g:Gl}(h:c[j]? =some g):wG vs (c.take (j+1))=wG vs (c.take j)++(if g.kind=10 then [bW vs g.kid]else []):=by
 rw[wG,List.take_add_one,h,Option.toList_some,List.filter_append,List.map_append]
 congr 1
 by_cases k:g.kind=10<;>simp[k]
theorem ClG.simple{g:Gl}(h:ClG g):SimpleLen g.kind g.terms.length:=⟨h.sh.top.ln2,h.sh.top.ln1⟩
section
variable {μ:Mem}
theorem yX{es:Nat}:∀{ys:List Value},(∀x∈ys,(aB x).length=es)→(ys.flatMap aB).length=ys.length*es
 |[],_=>by simp
 |y::ys,h=>by
  rw[List.flatMap_cons,List.length_append,yX fun x hx=>h x (by simp[hx]),h y (by simp),List.length_cons,Nat.succ_mul];omega
theorem RowAt.cut{b:Option Nat}{k es:Nat}{ys:List Value}(h:RowAt μ b k es ys)(a:Nat):RowAt μ b k es (ys.take a):=by
 cases b with
 |none=>
  have h:ys=[]:=h
  subst h
  exact List.take_nil
 |some r=>
  obtain⟨h1,h2,arr,ty,h3,h4,h5⟩:=h
  have hl:(ys.take a).length≤ys.length:=by rw[List.length_take];omega
  refine⟨by omega,fun x hx=>h2 x (List.mem_of_mem_take hx),arr,ty,h3,h4,?_⟩
  have e:((ys.take a).flatMap aB).length=(ys.take a).length*es:=yX fun x hx=>(h2 x (List.mem_of_mem_take hx)).1
  have e1:arr.toList.take ((ys.take a).length*es)=(arr.toList.take (ys.length*es)).take ((ys.take a).length*es):=by
   rw[List.take_take]
   congr 1
   have:=Nat.mul_le_mul_right es hl
   omega
  rw[e1,h5]
  conv=>lhs;rw[←List.take_append_drop a ys]
  rw[List.flatMap_append,List.take_left' (by rw[e];simp)]
theorem headSl{vs:List T}{a k:Nat}{b:Option Nat}{ys:List Value}(h:RowAt μ b k 4 ys)(hr:Rows μ 4 ((vs.map T.tm).map Tm.d) ys)(ha:a≤vs.length)(hm:vs.length≤1000):
  RepV μ (.sl 4 (((vs.take a).map T.tm).map Tm.d)) (.slice (if k=0 then(b.map fun r=>(⟨r,0,none⟩:Addr))else(b.map fun r=>(⟨r,0,none⟩:Addr)).map (·.add (0*4))) (a-0) (k-0)):=by
 have e:(if k=0 then(b.map fun r=>(⟨r,0,none⟩:Addr))else(b.map fun r=>(⟨r,0,none⟩:Addr)).map (·.add (0*4)))=b.map fun r=>(⟨r,0,none⟩:Addr):=by
  split
  ·rfl
  ·cases b<;>simp[Addr.add]
 rw[e,Nat.sub_zero,Nat.sub_zero]
 have hl:=hr.len
 simp only[List.length_map]at hl
 have hr2:Rows μ 4 (((vs.take a).map T.tm).map Tm.d) (ys.take a):=by
  have:=hr.take a
  simpa[List.map_take]using this
 have hyl:(ys.take a).length=a:=by rw[List.length_take];omega
 have ht:RowAt μ b k 4 (ys.take a):=RowAt.cut h a
 have:=Rows.sl ht hr2 (Nat.le_trans (m:=1000) (by omega) (by decide))
 rwa [hyl]at this
set_option maxHeartbeats 16000000 in
set_option maxRecDepth 20000 in
end
end Go.Vx
namespace Go.Vx
open Go.Proofs Classical
def qMp(P:List Ru→Value→Prop)(o:Option (List Ru))(v:Value):Prop:=match o with
 |some y=>∃tv,v= .tuple #[tv,.bool true]∧P y tv
 |none=>v= .tuple #[.slice none 0 0,.bool false]
noncomputable def dL(p:Pg)(l:List Tm):Option (List Ru):=if p.Ok∧UnivOk l then cQ p (l.map Tm.toT)else none
theorem nT{U:List T}{r:Rl}{i:Nat}{c:List Gl}{w:Nat}:∀m,∃X,bR U r i c (w+m)=bR U r i c w++X
 |0=>⟨[],by simp⟩
 |m+1=>by
  have w_:=nT (U:=U) (r:=r) (i:=i) (c:=c) (w:=w) m
  obtain⟨X,hX⟩:=w_
  exact⟨X++(fN U r i c (w+m)).toList,by rw[←Nat.add_assoc,sO,hX,List.append_assoc]⟩
theorem okG_iff{U vs:List T}{c:List Gl}:(∀g∈c,okG U vs g)↔(∀g∈c,okS vs g)∧(∀f∈iI vs c,∀a∈f.args,a∈U)∧∀f∈wG vs c,∀a∈f.args,a∈U:=by
 constructor
 ·intro h
  refine⟨fun g hg h9 h10=>?_,fun f hf=>?_,fun f hf=>?_⟩
  ·have := h g hg
   rwa [okG,if_neg h9,if_neg h10]at this
  ·have w_ := List.mem_map.1 hf
   obtain⟨g,hg,rfl⟩:=w_
   have w_:=List.mem_filter.1 hg
   obtain⟨hg,h9⟩:=w_
   have h9:g.kind=9:=of_decide_eq_true h9
   have:=h g hg
   rwa [okG,if_pos h9]at this
  ·have w_ := List.mem_map.1 hf
   obtain⟨g,hg,rfl⟩:=w_
   have w_:=List.mem_filter.1 hg
   obtain⟨hg,h10⟩:=w_
   have h10:g.kind=10:=of_decide_eq_true h10
   have:=h g hg
   rwa [okG,if_neg (by omega),if_pos h10]at this
 ·rintro ⟨h1, h2, h3⟩ g hg
  rw[okG]
  split
  ·rename_i h9
   exact h2 _ (List.mem_map.2 ⟨g,List.mem_filter.2 ⟨hg,by simpa using h9⟩,rfl⟩)
  ·rename_i h9
   split
   ·rename_i h10
    exact h3 _ (List.mem_map.2 ⟨g,List.mem_filter.2 ⟨hg,by simpa using h10⟩,rfl⟩)
   ·rename_i h10
    exact h1 g hg h9 h10
theorem ClG.of{p:Pg}(hp:p.Ok){i:Nat}{r:Rl}(hi:p.rels[i]? =some r){L:List (List Gl)}(hL:r.body.cl=some L){c:List Gl}(hc:c∈L){g:Gl}(hg:g∈c):ClG g:=by
 have w_:=Gl.cl_all r.body hL c hc g hg
 obtain⟨h1,h2⟩:=w_
 exact⟨(hp.2 i r hi).body.all _ g h1,h2.2.2.1,h2.2.2.2⟩
theorem Gl.Sh.lens4{g:Gl}(h:g.Sh):g.terms.length≤4:=by
 have T:=h.top
 have e9:=T.ln9;have e2:=T.ln2;have e1:=T.ln1;have e0:=T.ln0;have k0:=T.k0;have k1:=T.k1
 omega
theorem qKh{g:Gl}(h:ClG g)(vs:List T):(bW vs g).args.length≤4:=by
 show(g.terms.map _).length≤4
 rw[List.length_map]
 exact h.sh.lens4
theorem qLp{vs:List T}{c:List Gl}(h:∀g∈c,ClG g):∀f∈iI vs c,f.args.length≤4:=fun f hf=>by
 have w_:=List.mem_map.1 hf
 obtain⟨g,hg,rfl⟩:=w_
 exact qKh (h g (List.mem_filter.1 hg).1) vs
theorem qIx{vs:List T}{c:List Gl}:(iI vs c).length≤c.length:=by
 rw[iI,List.length_map];exact List.length_filter_le _ _
theorem negF_le{vs:List T}{c:List Gl}:(wG vs c).length≤c.length:=by
 rw[wG,List.length_map];exact List.length_filter_le _ _
section
variable {μ:Mem}
theorem Ru.inv{r:Ru}{v:Value}(h:RepV μ r.rd.d v):∃p:RuD.P,v= .agg #[.string r.head.rel,.slice p.1.1 r.head.args.length p.1.2,.int .i64 r.clause,.slice p.2.1.1 r.vals.length p.2.1.2,.slice p.2.2.1.1 r.pos.length p.2.2.1.2,.slice p.2.2.2.1 r.neg.length p.2.2.2.2]∧
  Sl μ 4 p.1.1 r.head.args.length ((r.head.args.map T.tm).map Tm.d)∧Sl μ 4 p.2.1.1 r.vals.length ((r.vals.map T.tm).map Tm.d)∧Sl μ 2 p.2.2.1.1 r.pos.length ((r.pos.map F.fc).map Fc.d)∧Sl μ 2 p.2.2.2.1 r.neg.length ((r.neg.map F.fc).map Fc.d):=by
 have w_:=RuD.inv h
 obtain⟨p,rfl,h1,h2,h3,h4⟩:=w_
 have e1:r.rd.hargs.length=r.head.args.length:=List.length_map ..
 have e2:r.rd.vals.length=r.vals.length:=List.length_map ..
 have e3:r.rd.pos.length=r.pos.length:=List.length_map ..
 have e4:r.rd.neg.length=r.neg.length:=List.length_map ..
 rw[e1]at h1;rw[e2]at h2;rw[e3]at h3;rw[e4]at h4
 rw[e1,e2,e3,e4]
 exact⟨p,rfl,h1,h2,h3,h4⟩
set_option maxHeartbeats 8000000 in
set_option maxRecDepth 20000 in
end
end Go.Vx
namespace Go.Vx
open Go.Proofs Classical
theorem valF_at{vs:List T}{n:Int}(h0:0≤n)(h1:n<vs.length):∃x,bV vs n=some x∧vs[n.toNat]? =some x:=by
 have w_:=aSo (l:=vs) (i:=n.toNat) (by omega)
 obtain⟨x,hx⟩:=w_
 exact⟨x,by rw[bV,if_pos h0,hx],hx⟩
section
variable {μ:Mem}
theorem zN{size n most:Nat}(h1:1≤size)(h8:size≤8)(hm:most≤100000)(hn:n≤1000)(hm1:1≤most):
  Spec Tryz.prog 110 [.int .i64 size,.int .i64 n,.int .i64 most] μ fun r μ'=>WaysR size n most r∧μ'=μ:=by
 refine Spec.forget (Spec.mk Tryz.func110 (by kernel_rfl) ?_)
 refine lIn (fun z:Nat×Nat=>z.1≤n∧z.2=size ^ z.1∧z.2≤8*most) (fun(i,k)=>⟨[(0,.val (.int .i64 size)),(1,.val (.int .i64 n)),(2,.val (.int .i64 most)),(7,.val (.int .i64 (k:Nat))),(8,.val (.int .i64 (i:Nat)))],[],0,μ,Mem.nil⟩) (fun z=>n-z.1)
  (0,1) ⟨Nat.zero_le _,rfl,by dsimp only;omega⟩ (fun(_,_)=>⟨rfl,rfl⟩) ⟨⟨rfl,rfl,rfl,rfl,rfl,trivial⟩,trivial,rfl,rfl⟩ ?_
 rintro⟨i,k⟩ ⟨hi,hk,hb⟩
 dsimp only at hi hk hb
 have mono:size ^ i≤size ^ n:=Nat.pow_le_pow_right h1 hi
 have fin:(¬i<n∨¬k≤most)→WaysR size n most (.int .i64 (if((most:Int)+1)<(k:Int)then(most:Int)+1 else(k:Int))):=fun h=>by
  by_cases g:(most:Int)+1<(k:Int)
  ·rw [if_pos g]
   exact⟨most+1,rfl,fun h=>by omega,fun _=>by omega⟩
  ·rw [if_neg g]
   refine⟨k,rfl,fun h2=>?_,fun h2=>?_⟩
   ·rcases h with h | h
    ·obtain rfl : i = n := by omega
     exact hk
    ·omega
   ·rcases h with h | h
    ·obtain rfl : i = n := by omega
     omega
    ·omega
 refine ifd (fun g1=>?_) (fun g1=>?_)
 ·refine ifd (fun g2 => ?_) (fun g2 => ?_)
  ·have hks:k*size≤8*most:=by
    have:=Nat.mul_le_mul (show k≤most by omega) h8
    omega
   refine nEq (x:=((k*size:Nat):Int)) (by rw[←Int.natCast_mul];exact aA (by omega) (by omega)) ?_
   exact aC (by omega) (by omega) ⟨(i+1,k*size),⟨by dsimp only;omega,by dsimp only;rw[hk,Nat.pow_succ],hks⟩,by dsimp only;omega,⟨⟨rfl,rfl,rfl,rfl,rfl,trivial⟩,trivial,rfl,rfl⟩⟩
  ·exact aC (by omega) (by omega) (rPl (fin (.inr (by omega))))
 ·exact aC (by omega) (by omega) (rPl (fin (.inl (by omega))))
theorem qHc{vs:List T}{vb:Option Addr}{vc r3:Nat}{ty:TypeId}{n:Int}(hv:Sl μ 4 vb vs.length ((vs.map T.tm).map Tm.d))(h3:μ r3=some (.cells #[.slice vb vs.length vc] ty (0,0)))(h0:0≤n)(h1:n<vs.length):
  Spec Tryz.prog 154 [.int .i64 n,.pointer (some ⟨r3,0,none⟩)] μ fun v μ'=>qGv (fun y tv=>RepV μ' y.tm.d tv) (bV vs n) v:=by
 have w_:=valF_at h0 h1
 obtain⟨x,hx,hx2⟩:=w_
 have w_:=T.elemL hv hx2
 obtain⟨ad,p,hel,hr⟩:=w_
 rw[hx]
 refine Spec.mk Tryz.func154 (by kernel_rfl) ?_
 intro r
 refine bM [.slice vb vs.length vc] rfl (bX h3) ?_
 refine eIn (by rw[show n=((n.toNat:Nat):Int) by omega];exact hel) ?_
 exact rPl ⟨_,rfl,hr⟩
theorem yG{vs:List T}{vb:Option Addr}{vc:Nat}{x:T}{v:Value}(hv:Sl μ 4 vb vs.length ((vs.map T.tm).map Tm.d))(hx:RepV μ x.tm.d v)(hl:∀n∈x.vars,0≤n∧n<vs.length):
  Spec Tryz.prog 142 [v,.slice vb vs.length vc] μ fun v μ'=>RepV μ' (x.subst (bV vs)).tm.d v:=by
 have hx0:=hx
 have w_:=Tm.invV hx
 obtain⟨p,rfl⟩:=w_
 refine Spec.mk Tryz.func142 (by kernel_rfl) ?_
 intro r2 r3 r4
 refine bD [1] fun μ1 hle1 hno1 hat1=>?_
 refine rT (qEt (f:=bV vs) (fun μ' h'=>h'=Mem.nil∧μ1.Le μ') (fun g1 g2=>⟨g2.1,g2.2.trans g1⟩) x (fun μ' h' g1 g2 n hn=>?_) ⟨rfl,Mem.Le.refl _⟩ (hx0.mono hle1)) fun v1 μ2 h2 hle2 hap2 hR=>?_
 ·obtain ⟨rfl, g2⟩ := g2
  exact SpecH.weaken (Spec.beside (eS _) (qHc (ty:=27) ((hv.mono hle1).mono g2) (g2 _ _ hat1) (hl n hn).1 (hl n hn).2)) fun v μ'' h'' g3 g4 g5=>⟨g5.2,g5.1,g2.trans g3⟩
 ·obtain ⟨hR, rfl, _⟩ := hR
  have w_:=Tm.invV hR
  obtain⟨q,rfl⟩:=w_
  exact rPl hR
theorem uY{xs:List T}{f:Int→Option T}{i:Nat}{x:T}(h:xs[i]? =some x):(xs.map (T.subst f)).take (i+1)=(xs.map (T.subst f)).take i++[x.subst f]:=by
 rw[List.take_add_one,List.getElem?_map,h];rfl
theorem qCo{vs:List T}{g:Gl}{xs:List T}(h:g.terms=xs.map T.tm):(bW vs g).args=xs.map (T.subst (bV vs)):=by
 show g.terms.map _=_
 rw[h,List.map_map]
 exact List.map_congr_left fun x _=>by simp[T.toT_tm]
theorem nN{vs xs:List T}{vb:Option Addr}{vc:Nat}{g:Gl}{v:Value}(hv:Sl μ 4 vb vs.length ((vs.map T.tm).map Tm.d))(hg:RepV μ g.d v)(hx:g.terms=xs.map T.tm)(hx4:xs.length≤4)(hl:∀x∈xs,∀n∈x.vars,0≤n∧n<vs.length):
  Spec Tryz.prog 111 [v,.slice vb vs.length vc] μ fun v μ'=>RepV μ' (bW vs g).fc.d v:=by
 have w_:=Gl.inv hg
 obtain⟨p0,rfl,hts,-⟩:=w_
 have hca:=qCo (vs:=vs) hx
 rw[hx,List.length_map]at hts
 rw[show g.terms.length=xs.length by rw[hx,List.length_map]]
 refine Spec.mk Tryz.func111 (by kernel_rfl) ?_
 intro r2 r4 r5
 refine bS (fun z:Nat×Option Nat×Nat×List Value×Mem=>z.1≤xs.length∧μ.Le z.2.2.2.2∧Rows z.2.2.2.2 4 ((((xs.map (T.subst (bV vs))).take z.1).map T.tm).map Tm.d) z.2.2.2.1)
  (fun(i,b,c,ys,μ')=>⟨[(1,.val (.slice vb vs.length vc)),(4,.loc 1 r4 0),(5,.loc 2 r5 0),(12,.val (.slice p0.1.1 xs.length p0.1.2)),(13,.val (.int .i64 xs.length)),(14,.val (.int .i64 i))],[(1,some (.cells r4 [.val (.string ⟨#[]⟩),.val (.slice none 0 0)] 46)),(2,some (.cells r5 [.val (.string g.name),.row 3 b ys.length c] 46)),(3,some (.row b c 36 4 ys))],4,μ',Mem.nil⟩) (fun z=>xs.length-z.1)
  (0,none,0,[],μ) ⟨Nat.zero_le _,Mem.Le.refl _,.nil⟩ (fun(_,_,_,_,_)=>⟨rfl,rfl⟩) ⟨⟨⟨_,rfl,.inl rfl⟩,⟨_,rfl,.inl rfl⟩,⟨_,rfl,.inl rfl⟩,⟨_,rfl,.inl rfl⟩,⟨_,rfl,.inl rfl⟩,⟨_,rfl,.inl rfl⟩,trivial⟩,⟨.inl rfl,.inr (.inr ⟨_,_,_,_,rfl,rfl,.inl rfl,.inr ⟨3,rfl,rfl,Nat.le_refl _⟩,trivial⟩),.inr (.inl ⟨_,_,rfl,Nat.le_refl _⟩),trivial⟩,rfl,rfl⟩ ?_
 rintro⟨i,b,c,ys,μ'⟩ ⟨hi,hle,hrows⟩
 dsimp only at hi hle hrows
 have hlen:=hrows.len
 simp only[List.length_map,List.length_take]at hlen
 refine ifd (fun hlt=>?_) (fun hlt=>?_)
 ·have w_ := aSo (l := xs) (i := i) (by omega)
  obtain⟨x,hx⟩:=w_
  have w_:=T.elemL (hts.mono hle) hx
  obtain⟨ad,p,hel,hr⟩:=w_
  refine eIn hel ?_
  intro r7
  refine cPl (yG (hv.mono hle) hr (hl x (mAt hx))) fun v1 μ1 hle1 hR=>?_
  have w_:=Tm.invV hR
  obtain⟨q1,rfl⟩:=w_
  intro r23
  refine gIn ?_ ?_ fun b' c' _=>?_
  ·show(ys.length+1)*56≤_;omega
  ·exact Nat.le_trans (m:=1000) (show ys.length+1≤_ by omega) (by decide)
  refine aC (by omega) (by omega) ⟨(i+1,b',c',_,μ1),⟨by dsimp only;omega,hle.trans hle1,?_⟩,by dsimp only;omega,⟨⟨rfl,rfl,rfl,rfl,rfl,rfl,trivial⟩,⟨rfl,rfl,rfl,trivial⟩,rfl,rfl⟩⟩
  dsimp only
  rw[uY hx]
  simp only[List.map_append,List.map_cons,List.map_nil]
  exact(hrows.mono hle1).append (Rows.one hR (Tm.d_n _))
 obtain rfl:i=xs.length:=by omega
 rw[List.take_of_length_le (by rw[List.length_map];omega)]at hrows
 refine rFz [3] fun μ2 hle2 hno2 hat2=> .inl ?_
 have k:=Rows.sl hat2 (hrows.mono hle2) (Nat.le_trans (m:=1000) (by omega) (by decide))
 rw[Fc.d_eq,F.fc_args,hca]
 exact⟨_,rfl,RepS.str (RepS.last k)⟩
theorem lB{U l:List T}{ub lb:Option Addr}{uc lc:Nat}(hu:Sl μ 4 ub U.length ((U.map T.tm).map Tm.d))(hl:Sl μ 4 lb l.length ((l.map T.tm).map Tm.d)):
  aP Tryz.prog 112 [.slice ub U.length uc,.slice lb l.length lc] μ (.bool (decide (∀a∈l,a∈U))):=by
 have hn:=aJ hl.max
 have hm:=aJ hu.max
 refine Spec.mk Tryz.func112 (by kernel_rfl) ?_
 refine lIn (fun i:Nat=>i≤l.length∧∀a∈l.take i,a∈U)
  (fun i=>⟨[(0,.val (.slice ub U.length uc)),(10,.val (.slice lb l.length lc)),(11,.val (.int .i64 l.length)),(12,.val (.int .i64 i))],[],0,μ,Mem.nil⟩) (fun i=>l.length-i)
  0 ⟨Nat.zero_le _,by simp⟩ (fun _=>⟨rfl,rfl⟩) ⟨⟨rfl,rfl,rfl,rfl,trivial⟩,trivial,rfl,rfl⟩ ?_
 rintro i ⟨hi,hall⟩
 refine ifd (fun hlt=>?_) (fun hlt=>?_)
 ·have w_ := aSo (l := l) (i := i) (by omega)
  obtain⟨x,hx⟩:=w_
  have w_:=T.elemL hl hx
  obtain⟨ad,p,hel,hr⟩:=w_
  refine eIn hel ?_
  intro r6
  refine lIn (fun z:Nat×Bool=>z.1≤U.length∧(z.2=true↔x∈U.take z.1))
   (fun(k,f)=>⟨[(0,.val (.slice ub U.length uc)),(6,.loc 0 r6 0),(7,.val (.bool f)),(10,.val (.slice lb l.length lc)),(11,.val (.int .i64 l.length)),(12,.val (.int .i64 i)),(16,.val (.slice ub U.length uc)),(17,.val (.int .i64 U.length)),(18,.val (.int .i64 k))],[(0,some (.cells r6 [.val (.int .i64 x.tm.kind),.val (.int .i64 x.tm.num),.val (.string x.tm.name),.val (.slice p.1 x.tm.args.length p.2)] 36))],1,μ,Mem.nil⟩) (fun z=>U.length-z.1)
   (0,false) ⟨Nat.zero_le _,by simp⟩ (fun(_,_)=>⟨rfl,rfl⟩) ⟨⟨rfl,rfl,rfl,rfl,rfl,rfl,rfl,rfl,rfl,trivial⟩,⟨rfl,trivial⟩,rfl,rfl⟩ ?_
  rintro⟨k,f⟩ ⟨hk,hf⟩
  dsimp only at hk hf
  refine ifd (fun h2=>?_) (fun h2=>?_)
  ·have w_ := aSo (l := U) (i := k) (by omega)
   obtain⟨y,hy⟩:=w_
   have w_:=T.elemL hu hy
   obtain⟨ad2,p2,hel2,hr2⟩:=w_
   have htk:x∈U.take (k+1)↔x∈U.take k∨y=x:=by
    rw[List.take_add_one,hy,Option.toList_some,List.mem_append,List.mem_singleton]
    exact or_congr_right ⟨Eq.symm,Eq.symm⟩
   refine eIn hel2 ?_
   intro r9
   refine iIn (fun hb=>?_) (fun hb=>?_)
   ·refine aC (by omega) (by omega) ⟨(k + 1, true), ⟨by dsimp only; omega, ?_⟩, by dsimp only; omega, ⟨⟨rfl, rfl, rfl, rfl, rfl, rfl, rfl, rfl, rfl, trivial⟩, ⟨rfl, trivial⟩, rfl, rfl⟩⟩
    dsimp only
    rw[htk]
    exact⟨fun _=> .inl (hf.1 hb),fun _=>rfl⟩
   ·refine cGv (dE y x hr2 hr) ?_
    refine aC (by omega) (by omega) ⟨(k+1,decide (y=x)),⟨by dsimp only;omega,?_⟩,by dsimp only;omega,⟨⟨rfl,rfl,rfl,rfl,rfl,rfl,rfl,rfl,rfl,trivial⟩,⟨rfl,trivial⟩,rfl,rfl⟩⟩
    dsimp only
    rw[htk,decide_eq_true_eq]
    exact⟨.inr,fun h=>h.elim (fun h=>by rw[hf.2 h]at hb;cases hb) id⟩
  obtain rfl:k=U.length:=by omega
  rw[List.take_length]at hf
  refine iIn (fun hb=>?_) (fun hb=>?_)
  ·have hb : f = false := by simpa using hb
   refine rGv (isF fun k=>?_) rfl
   rw[hf.2 (k x (mAt hx))]at hb;cases hb
  ·have hb : f = true := by simpa using hb
   refine aC (by omega) (by omega) ⟨i+1,⟨by omega,?_⟩,by omega,⟨⟨rfl,rfl,rfl,rfl,trivial⟩,trivial,rfl,rfl⟩⟩
   rw[List.take_add_one,hx,Option.toList_some]
   intro y hy
   rcases List.mem_append.1 hy with hy|hy
   ·exact hall y hy
   ·rw[List.mem_singleton.1 hy];exact hf.1 hb
 ·obtain rfl : i = l.length := by omega
  rw[List.take_length]at hall
  exact rGv (isT hall) rfl
set_option maxHeartbeats 4000000 in
set_option maxRecDepth 20000 in
theorem xD{vs xs:List T}{vb:Option Addr}{vc:Nat}{g:Gl}{v:Value}(hv:Sl μ 4 vb vs.length ((vs.map T.tm).map Tm.d))(hg:RepV μ g.d v)(hx:g.terms=xs.map T.tm)(hx4:xs.length≤4)(hl:∀x∈xs,∀n∈x.vars,0≤n∧n<vs.length)(hsl:SimpleLen g.kind xs.length):
  Spec Tryz.prog 113 [v,.slice vb vs.length vc] μ fun v _=>v= .bool (decide (gA g.kind (xs.map (T.subst (bV vs))))):=by
 have w_:=Gl.inv hg
 obtain⟨p0,rfl,hts,-⟩:=w_
 rw[hx,List.length_map]at hts
 rw[show g.terms.length=xs.length by rw[hx,List.length_map]]
 refine Spec.mk Tryz.func113 (by kernel_rfl) ?_
 intro r2 r5
 refine bS (fun z:Nat×Option Nat×Nat×List Value×Mem=>z.1≤xs.length∧μ.Le z.2.2.2.2∧Rows z.2.2.2.2 4 ((((xs.map (T.subst (bV vs))).take z.1).map T.tm).map Tm.d) z.2.2.2.1)
  (fun(i,b,c,ys,μ')=>⟨[(1,.val (.slice vb vs.length vc)),(2,.loc 0 r2 0),(5,.loc 1 r5 0),(12,.val (.slice p0.1.1 xs.length p0.1.2)),(13,.val (.int .i64 xs.length)),(14,.val (.int .i64 i))],[(0,some (.cells r2 [.val (.int .i64 g.kind),.val (.string g.name),.val (.slice p0.1.1 xs.length p0.1.2),.val (.slice p0.2.1 g.goals.length p0.2.2)] 31)),(1,some (.cells r5 [.val (.int .i64 g.kind),.val (.string ⟨#[]⟩),.row 2 b ys.length c,.val (.slice none 0 0)] 31)),(2,some (.row b c 36 4 ys))],3,μ',Mem.nil⟩) (fun z=>xs.length-z.1)
  (0,none,0,[],μ) ⟨Nat.zero_le _,Mem.Le.refl _,.nil⟩ (fun(_,_,_,_,_)=>⟨rfl,rfl⟩) ⟨⟨⟨_,rfl,.inl rfl⟩,⟨_,rfl,.inl rfl⟩,⟨_,rfl,.inl rfl⟩,⟨_,rfl,.inl rfl⟩,⟨_,rfl,.inl rfl⟩,⟨_,rfl,.inl rfl⟩,trivial⟩,⟨.inl rfl,.inr (.inr ⟨_,_,_,_,rfl,rfl,.inl rfl,.inl rfl,.inr ⟨2,rfl,rfl,Nat.le_refl _⟩,.inl rfl,trivial⟩),.inr (.inl ⟨_,_,rfl,Nat.le_refl _⟩),trivial⟩,rfl,rfl⟩ ?_
 rintro⟨i,b,c,ys,μ'⟩ ⟨hi,hle,hrows⟩
 dsimp only at hi hle hrows
 have hlen:=hrows.len
 simp only[List.length_map,List.length_take]at hlen
 refine ifd (fun hlt=>?_) (fun hlt=>?_)
 ·have w_ := aSo (l := xs) (i := i) (by omega)
  obtain⟨x,hx⟩:=w_
  have w_:=T.elemL (hts.mono hle) hx
  obtain⟨ad,p,hel,hr⟩:=w_
  refine eIn hel ?_
  intro r7
  refine cPl (yG (hv.mono hle) hr (hl x (mAt hx))) fun v1 μ1 hle1 hR=>?_
  have w_:=Tm.invV hR
  obtain⟨q1,rfl⟩:=w_
  intro r23
  refine gIn ?_ ?_ fun b' c' _=>?_
  ·show(ys.length+1)*56≤_;omega
  ·exact Nat.le_trans (m:=1000) (show ys.length+1≤_ by omega) (by decide)
  refine aC (by omega) (by omega) ⟨(i+1,b',c',_,μ1),⟨by dsimp only;omega,hle.trans hle1,?_⟩,by dsimp only;omega,⟨⟨rfl,rfl,rfl,rfl,rfl,rfl,trivial⟩,⟨rfl,rfl,rfl,trivial⟩,rfl,rfl⟩⟩
  dsimp only
  rw[uY hx]
  simp only[List.map_append,List.map_cons,List.map_nil]
  exact(hrows.mono hle1).append (Rows.one hR (Tm.d_n _))
 obtain rfl:i=xs.length:=by omega
 rw[List.take_of_length_le (by rw[List.length_map];omega)]at hrows
 refine vT [2] fun μ2 hle2 hno2 hat2=>?_
 have hs:Sl μ2 4 (b.map fun r=>(⟨r,0,none⟩:Addr)) ys.length (((xs.map (T.subst (bV vs))).map T.tm).map Tm.d):=by
  have k:=Rows.sl hat2 (hrows.mono hle2) (Nat.le_trans (m:=1000) (by omega) (by decide))
  have w_:=Rep.sl k
  obtain⟨bz,cz,ez,hs⟩:=w_
  have w_:=Value.slice.inj ez
  obtain⟨e1,e2,_⟩:=w_
  rwa [←e1,←e2]at hs
 refine⟨fun h=>?_,fun h0=>?_⟩
 ·have h := of_decide_eq_true h
  exact rPl (by rw[h];simp[gA])
 replace h0:=of_decide_eq_false h0
 refine ifd (fun h=>?_) (fun h2=>?_)
 ·obtain ⟨x, y, hxy⟩ := qMg (xs := xs.map (T.subst (bV vs))) (by rw [List.length_map]; exact hsl.two (by omega))
  rw[hxy]at hs ⊢
  have w_:=T.elemL hs (i:=0) (x:=x) rfl
  obtain⟨ad1,p1,e1,g1⟩:=w_
  have w_:=T.elemL hs (i:=1) (x:=y) rfl
  obtain⟨ad2,p2,e2,g2⟩:=w_
  refine eIn e1 (eIn e2 (cGv (dE x y g1 g2) (rPl ?_)))
  rw[h];exact congrArg Value.bool (decide_eq_decide.2 testT_2.symm)
 refine ifd (fun h=>?_) (fun h3=>?_)
 ·obtain ⟨x, y, hxy⟩ := qMg (xs := xs.map (T.subst (bV vs))) (by rw [List.length_map]; exact hsl.two (by omega))
  rw[hxy]at hs ⊢
  have w_:=T.elemL hs (i:=0) (x:=x) rfl
  obtain⟨ad1,p1,e1,g1⟩:=w_
  have w_:=T.elemL hs (i:=1) (x:=y) rfl
  obtain⟨ad2,p2,e2,g2⟩:=w_
  refine eIn e1 (eIn e2 (cGv (dE x y g1 g2) (rPl ?_)))
  rw[h,←decide_not];exact congrArg Value.bool (decide_eq_decide.2 testT_3.symm)
 refine ifd (fun h=>?_) (fun h4=>?_)
 ·obtain ⟨x, hxy⟩ := one_of' (xs := xs.map (T.subst (bV vs))) (by rw [List.length_map]; exact hsl.one (by omega))
  rw[hxy]at hs ⊢
  have w_:=T.elemL hs (i:=0) (x:=x) rfl
  obtain⟨ad1,p1,e1,g1⟩:=w_
  refine eIn e1 (rPl ?_)
  rw[h];exact congrArg Value.bool (decide_eq_decide.2 testT_4.symm)
 refine ifd (fun h=>?_) (fun h5=>?_)
 ·obtain ⟨x, hxy⟩ := one_of' (xs := xs.map (T.subst (bV vs))) (by rw [List.length_map]; exact hsl.one (by omega))
  rw[hxy]at hs ⊢
  have w_:=T.elemL hs (i:=0) (x:=x) rfl
  obtain⟨ad1,p1,e1,g1⟩:=w_
  refine eIn e1 (rPl ?_)
  rw[h];exact congrArg Value.bool (decide_eq_decide.2 testT_5.symm)
 refine ifd (fun h=>?_) (fun h6=>?_)
 ·obtain ⟨x, y, hxy⟩ := qMg (xs := xs.map (T.subst (bV vs))) (by rw [List.length_map]; exact hsl.two (by omega))
  rw[hxy]at hs ⊢
  have w_:=T.elemL hs (i:=0) (x:=x) rfl
  obtain⟨ad1,p1,e1,g1⟩:=w_
  have w_:=T.elemL hs (i:=1) (x:=y) rfl
  obtain⟨ad2,p2,e2,g2⟩:=w_
  refine eIn e2 (eIn e1 (cGv (uT x.tm.name y g2) (rPl ?_)))
  rw[h,←decide_not];exact congrArg Value.bool (decide_eq_decide.2 testT_6.symm)
 refine rPl ?_
 rw[decide_eq_false]
 unfold gA
 rw[if_neg h0,if_neg h2,if_neg h3,if_neg h4,if_neg h5,if_neg h6]
 exact id
end
end Go.Vx
namespace Go.Vx
open Go.Proofs Classical
theorem Gl.all_trans:∀(b:Gl) {g x:Gl},g∈b.all→x∈g.all→x∈b.all:=
 Gl.ind fun b ih g x hg hx=>by
  rw[Gl.all_eq]at hg
  rcases List.mem_cons.1 hg with rfl|hg
  ·exact hx
  ·have w_ := List.mem_flatMap.1 hg
   obtain⟨y,hy,hg⟩:=w_
   rw[Gl.all_eq]
   exact List.mem_cons_of_mem _ (List.mem_flatMap.2 ⟨y,hy,ih y hy hg hx⟩)
structure ClV (n:Nat) (g:Gl) (xs:List T):Prop where
 terms:g.terms=xs.map T.tm
 len:xs.length≤4
 low:∀x∈xs,∀m∈x.vars,0≤m∧m<(n:Int)
theorem ClV.mk1{r:Rl}{p:Pg}{i:Nat}(h:RelOk p i r){g:Gl}(hg:g∈r.body.all){n:Nat}(hn:r.arity+r.locals=(n:Int)):∃xs,ClV n g xs:=by
 have hS:=h.body.all _ g hg
 have w_:=gO hS.top.tm
 obtain⟨xs,hxs,hok⟩:=w_
 refine⟨xs,hxs,by have:=hS.lens4;rw[hxs,List.length_map]at this;exact this,fun x hx m hm=>?_⟩
 have hv:m∈r.body.vars:=by
  rw[Gl.vars]
  refine List.mem_flatMap.2 ⟨g,hg,List.mem_flatMap.2 ⟨x,?_,hm⟩⟩
  rw[hxs,kJ];exact hx
 have h1:=h.vars m hv
 have h2:=Gl.vars_range h.body m hv
 omega
theorem ClV.of{p:Pg}(hp:p.Ok){i:Nat}{r:Rl}(hi:p.rels[i]? =some r){L:List (List Gl)}(hL:r.body.cl=some L){c:List Gl}(hc:c∈L){g:Gl}(hg:g∈c){n:Nat}(hn:r.arity+r.locals=(n:Int)):
  (∃xs,ClV n g xs)∧(g.kind=10→∃xs,ClV n g.kid xs):=by
 have w_:=Gl.cl_all r.body hL c hc g hg
 obtain⟨h1,h2⟩:=w_
 have hrel:=hp.2 i r hi
 refine⟨ClV.mk1 hrel h1 hn,fun h10=>ClV.mk1 hrel (Gl.all_trans _ h1 ?_) hn⟩
 have hk:=Gl.kid_at ((hrel.body.all _ g h1).top.gl1 h10)
 rw[Gl.all_eq]
 refine List.mem_cons_of_mem _ (List.mem_flatMap.2 ⟨_,mAt hk,?_⟩)
 rw[Gl.all_eq];simp
theorem okG_9{U vs:List T}{g:Gl}(h:g.kind=9):okG U vs g↔∀a∈(bW vs g).args,a∈U:=by rw[okG,if_pos h]
theorem okG_10{U vs:List T}{g:Gl}(h:g.kind=10):okG U vs g↔∀a∈(bW vs g.kid).args,a∈U:=by rw[okG,if_neg (by omega),if_pos h]
theorem qMt{U vs xs:List T}{g:Gl}(h9:g.kind≠9)(h10:g.kind≠10)(hx:g.terms=xs.map T.tm):okG U vs g↔gA g.kind (xs.map (T.subst (bV vs))):=by
 rw[okG,if_neg h9,if_neg h10,hx,List.map_map]
 have e:(List.map ((fun t=>T.subst (bV vs) t.toT) ∘ T.tm) xs)=xs.map (T.subst (bV vs)):=List.map_congr_left fun x _=>by simp[T.toT_tm]
 rw[e]
def qOg(L:List (List Gl)):D:= .sl 1 (L.map csD)
theorem clsD_n(L:List (List Gl)):(qOg L).n=1:=rfl
noncomputable def qKd(r:Rl):List (List Gl):=r.body.cl.getD []
section
variable {μ:Mem}
structure Fill (μ:Mem) (vs:List T) (n k:Nat) (xs:List Value):Prop where
 len:xs.length=n
 done:∀(j:Nat) x,j<k→vs[j]? =some x→∃v,xs[j]? =some v∧RepV μ x.tm.d v
 rest:∀j,k≤j→j<n→xs[j]? =some (.agg #[.int .i64 0,.int .i64 0,.string ⟨#[]⟩,.slice none 0 0])
theorem Fill.start{vs:List T}{n:Nat}:Fill μ vs n 0 (List.replicate n (.agg #[.int .i64 0,.int .i64 0,.string ⟨#[]⟩,.slice none 0 0])):=
 ⟨by simp,fun j x h=>by omega,fun j _ h=>by simp[h]⟩
theorem Fill.step{vs:List T}{n k:Nat}{xs:List Value}(h:Fill μ vs n k xs){x:T}{v:Value}(hx:vs[k]? =some x)(hv:RepV μ x.tm.d v)(hk:k<n):Fill μ vs n (k+1) (xs.set k v):=by
 refine⟨by rw[List.length_set];exact h.len,fun j y hj hy=>?_,fun j hj hn=>?_⟩
 ·by_cases e : j = k
  ·subst e
   rw[hx]at hy;cases hy
   exact⟨v,by rw[List.getElem?_set_self (by rw[h.len];exact hk)],hv⟩
  ·have w_ := h.done j y (by omega) hy
   obtain⟨w,h1,h2⟩:=w_
   exact⟨w,by rw[List.getElem?_set_ne (Ne.symm e)];exact h1,h2⟩
 ·rw[List.getElem?_set_ne (by omega)];exact h.rest j (by omega) hn
theorem RowAt.up{μ':Mem}{b:Option Nat}{k es:Nat}{ys:List Value}(h:RowAt μ b k es ys)(hle:μ.Le μ'):RowAt μ' b k es ys:=by
 cases b with
 |none=>exact h
 |some r=>
  obtain⟨h1,h2,arr,ty,h3,h4⟩:=h
  exact⟨h1,h2,arr,ty,hle _ _ h3,h4⟩
theorem Rows.atI{es:Nat}:∀{ds:List D} {xs:List Value},Rows μ es ds xs→∀{i:Nat} {d:D} {v:Value},ds[i]? =some d→xs[i]? =some v→RepV μ d v
 |_,_,.nil,i,d,v,h,_=>by simp at h
 |_,_,.cons h1 _ h,0,d,v,e1,e2=>by cases e1;cases e2;exact h1
 |_,_,.cons _ _ h,i+1,d,v,e1,e2=>Rows.atI h (i:=i) (by simpa using e1) (by simpa using e2)
theorem Rows.of_at{es:Nat}:∀{ds:List D} {xs:List Value},ds.length=xs.length→(∀(j:Nat) d v,ds[j]? =some d→xs[j]? =some v→RepV μ d v∧d.n=es)→Rows μ es ds xs
 |[],[],_,_=> .nil
 |[],_::_,h,_=>by simp at h
 |_::_,[],h,_=>by simp at h
 |d::ds,x::xs,h,k=> .cons (k 0 d x rfl rfl).1 (k 0 d x rfl rfl).2 (Rows.of_at (by simpa using h) fun j d v h1 h2=>k (j+1) d v (by simpa using h1) (by simpa using h2))
theorem Fill.all{vs:List T}{n:Nat}{xs:List Value}(h:Fill μ vs n n xs)(hl:vs.length=n):Rows μ 4 ((vs.map T.tm).map Tm.d) xs:=
 Rows.of_at (by simp[h.len,hl]) fun j d v h1 h2=>by
  simp only[List.getElem?_map,Option.map_eq_some_iff]at h1
  obtain⟨t,⟨x,hx,rfl⟩,rfl⟩:=h1
  obtain⟨w,h3,h4⟩:=h.done j x (by have:=(List.getElem?_eq_some_iff.1 hx).1;omega) hx
  rw[h2]at h3
  cases h3
  exact⟨h4,Tm.d_n _⟩
set_option maxHeartbeats 16000000 in
set_option maxRecDepth 20000 in
theorem rI{p:Pg}{U:List T}{v:Value}{ub:Option Addr}{uc:Nat}(hp:RepV μ p.d v)(hok:p.Ok)(hu:Sl μ 4 ub U.length ((U.map T.tm).map Tm.d))(hU1:1≤U.length)(hU8:U.length≤8):
  Spec Tryz.prog 73 [v,.slice ub U.length uc] μ fun v μ'=>qMp (fun y tv=>RepV μ' (.sl 6 ((y.map Ru.rd).map RuD.d)) tv) (cQ p U) v:=by
 have hp0:=hp
 have w_:=Pg.inv hp
 obtain⟨q,rfl,hrl⟩:=w_
 have hn:=hok.1
 refine Spec.mk Tryz.func73 (by kernel_rfl) ?_
 intro r2 r28
 refine lIn (fun z:Nat×Option Nat×Nat×List Value×Mem=>z.1≤p.rels.length∧μ.Le z.2.2.2.2∧Rows z.2.2.2.2 1 (((p.rels.take z.1).map qKd).map qOg) z.2.2.2.1∧∀r∈p.rels.take z.1,r.body.cl≠none∧U.length ^ (r.arity+r.locals).toNat≤4096)
  (fun(i,b,c,ys,μ')=>⟨[(1,.val (.slice ub U.length uc)),(2,.loc 0 r2 0),(6,.row 1 b ys.length c),(30,.val (.slice q.1 p.rels.length q.2)),(31,.val (.int .i64 p.rels.length)),(32,.val (.int .i64 i))],[(0,some (.cells r2 [.val (.slice q.1 p.rels.length q.2)] 25)),(1,some (.row b c 155 1 ys))],2,μ',Mem.nil⟩) (fun z=>p.rels.length-z.1)
  (0,some r28,0,[],μ) ⟨Nat.zero_le _,Mem.Le.refl _,.nil,by simp⟩ (fun(_,_,_,_,_)=>⟨rfl,rfl⟩) ⟨⟨rfl,rfl,rfl,rfl,rfl,rfl,trivial⟩,⟨rfl,rfl,trivial⟩,rfl,rfl⟩ ?_
 rintro⟨i,b,c,ys,μ'⟩ ⟨hi,hle,hbod,hways⟩
 dsimp only at hi hle hbod hways
 have hbl:=hbod.len
 simp only[List.length_map,List.length_take]at hbl
 refine ifd (fun hlt=>?_) (fun hlt=>?_)
 ·have w_ := aSo (l := p.rels) (i := i) (by omega)
  obtain⟨r,hr⟩:=w_
  have w_:=Rl.elemA (hrl.mono hle) hr
  obtain⟨ad,q2,hel,hrv,hb⟩:=w_
  have hb:RepV μ' r.body.d (.agg (r.body.cs q2).toArray):=hb
  have hrok:=hok.2 i r hr
  have w_:=Int.eq_ofNat_of_zero_le hrok.ar0
  obtain⟨a,ha⟩:=w_
  have w_:=Int.eq_ofNat_of_zero_le hrok.lo0
  obtain⟨lo,hlo⟩:=w_
  have har4:=hrok.ar4
  have hlo8:=hrok.lo8
  have hsz:=hrok.size
  have hnn:(r.arity+r.locals).toNat=a+lo:=by omega
  refine eIn hel ?_
  intro r8
  refine cPl (vR r.body hb hrok.body (by omega)) fun v3 μ3 hle3 hR3=>?_
  cases hL:r.body.cl with
  |none=>
   rw[hL]at hR3
   obtain rfl:=hR3
   refine iIn (fun _=>rPl ?_) (fun h=>nomatch h)
   rw[cQ,if_neg fun k=>(k.1 r (mAt hr)).1 hL];rfl
  |some L=>
  rw[hL]at hR3
  obtain⟨tv,rfl,hLr⟩:=hR3
  obtain⟨pv,rfl⟩:=hLr.inv
  refine iIn (fun h=>nomatch h) (fun _=>?_)
  refine nEq (x:=((a+lo:Nat):Int)) (by rw[aA (by omega) (by omega)];omega) ?_
  refine cPl (zN (size:=U.length) (n:=a+lo) (most:=4096) hU1 hU8 (by omega) (by omega) (by omega)) fun v4 μ4 hle4 hR4=>?_
  obtain⟨⟨W,rfl,hW1,hW2⟩,e4⟩:=hR4
  obtain rfl:=e4.symm
  refine ifd (fun hbig=>rPl ?_) (fun hsmall=>?_)
  ·rw[cQ,if_neg fun k=>by
    have h1:=(k.1 r (mAt hr)).2
    rw[hnn]at h1
    have:=hW1 h1
    omega];rfl
  have hWle:U.length ^ (a+lo)≤4096:=Nat.le_of_not_lt fun h=>by have:=hW2 h;omega
  intro r57
  refine gIn ?_ ?_ fun b' c' _=>?_
  ·show(ys.length+1)*24≤_;omega
  ·exact Nat.le_trans (m:=1000) (show ys.length+1≤_ by omega) (by decide)
  have hLr2:RepV μ3 (qOg L) (.slice pv.1 L.length pv.2):=hLr
  have hcl:qKd r=L:=by rw[qKd,hL];rfl
  refine aC (by omega) (by omega) ⟨(i+1,b',c',_,μ3),⟨by dsimp only;omega,hle.trans hle3,?_,?_⟩,by dsimp only;omega,⟨⟨rfl,rfl,rfl,rfl,rfl,rfl,trivial⟩,⟨rfl,rfl,trivial⟩,rfl,rfl⟩⟩
  ·dsimp only
   rw[List.take_add_one,hr,Option.toList_some,List.map_append,List.map_append]
   refine(hbod.mono hle3).append (Rows.one (d:=qOg (qKd r)) ?_ (clsD_n _))
   rw[hcl];exact hLr2
  ·dsimp only
   intro x hx
   rw[List.take_add_one,hr,Option.toList_some]at hx
   rcases List.mem_append.1 hx with hx|hx
   ·exact hways x hx
   ·rw [List.mem_singleton.1 hx, hL, hnn]
    exact⟨(fun h=>nomatch h),hWle⟩
 obtain rfl:i=p.rels.length:=by omega
 rw[List.take_length]at hbod hways
 clear hlt hi
 intro r60
 refine lIn (fun z:Nat×Option Nat×Nat×List Value×Mem=>z.1≤p.rels.length∧μ'.Le z.2.2.2.2∧Rows z.2.2.2.2 6 ((((p.rels.take z.1).flatMap (bU U)).map Ru.rd).map RuD.d) z.2.2.2.1∧((p.rels.take z.1).flatMap (bU U)).length≤2000)
  (fun(i,ob,oc,os,μ2)=>⟨[(1,.val (.slice ub U.length uc)),(6,.row 1 b ys.length c),(11,.row 2 ob os.length oc),(62,.val (.slice q.1 p.rels.length q.2)),(63,.val (.int .i64 p.rels.length)),(64,.val (.int .i64 i))],[(1,some (.row b c 155 1 ys)),(2,some (.row ob oc 160 6 os))],3,μ2,Mem.nil⟩) (fun z=>p.rels.length-z.1)
  (0,some r60,0,[],μ') ⟨Nat.zero_le _,Mem.Le.refl _,.nil,by simp⟩ (fun(_,_,_,_,_)=>⟨rfl,rfl⟩) ⟨⟨rfl,rfl,rfl,rfl,rfl,rfl,trivial⟩,⟨rfl,rfl,trivial⟩,rfl,rfl⟩ ?_
 rintro⟨i,ob,oc,os,μ2⟩ ⟨hi,hle2,hrows,hroom⟩
 dsimp only at hi hle2 hrows hroom
 have hol:=hrows.len
 simp only[List.length_map]at hol
 refine ifd (fun hlt=>?_) (fun hlt=>?_)
 rotate_left
 ·obtain rfl : i = p.rels.length := by omega
  rw[List.take_length]at hrows hroom hol
  have hall:(p.rels.flatMap (bU U))=aS p U:=rfl
  rw[hall]at hrows hroom hol
  rw[cQ,if_pos ⟨hways,hroom⟩]
  refine rFz [2] fun μ3 hle3 hno hat=> .inl ⟨_,rfl,?_⟩
  exact Rows.sl hat (hrows.mono hle3) (Nat.le_trans (m:=100000) (by omega) (by decide))
 have w_:=aSo (l:=p.rels) (i:=i) (by omega)
 obtain⟨r,hr⟩:=w_
 have w_:=Rl.elemA ((hrl.mono hle).mono hle2) hr
 obtain⟨ad,q2,hel,hrv,_⟩:=w_
 have hrok:=hok.2 i r hr
 have w_:=Int.eq_ofNat_of_zero_le hrok.ar0
 obtain⟨a,ha⟩:=w_
 have w_:=Int.eq_ofNat_of_zero_le hrok.lo0
 obtain⟨lo,hlo⟩:=w_
 have har4:=hrok.ar4
 have hlo8:=hrok.lo8
 have hsz:=hrok.size
 have hnn:(r.arity+r.locals).toNat=a+lo:=by omega
 have w_:=Option.ne_none_iff_exists'.1 (hways r (mAt hr)).1
 obtain⟨L,hL⟩:=w_
 have hWle:=(hways r (mAt hr)).2
 rw[hnn]at hWle
 have hclr:qKd r=L:=by rw[qKd,hL];rfl
 have hLb:=Gl.cl_bnd r.body hL
 have w_:=aSo (l:=ys) (i:=i) (by omega)
 obtain⟨vL,hvL⟩:=w_
 have hLrep:=Rows.atI hbod (i:=i) (d:=qOg L) (by simp[hr,hclr]) hvL
 have w_:=Rep.sl (xs:=L.map csD) hLrep
 obtain⟨bL,cL,rfl,_⟩:=w_
 rw[List.length_map]at hvL hLrep
 have hLs:Sl μ' 1 bL L.length (L.map csD):=(Cls.sl hLrep).1
 obtain⟨pv,hpv⟩:∃pv:Option Addr×Nat,pv=(bL,cL):=⟨_,rfl⟩
 rw[show bL=pv.1 by rw[hpv]]at hvL hLs
 rw[show cL=pv.2 by rw[hpv]]at hvL
 clear hpv hLrep
 refine eIn hel ?_
 intro r13
 refine nEq (x:=((a+lo:Nat):Int)) (by rw[aA (by omega) (by omega)];omega) ?_
 refine cPl (zN (size:=U.length) (n:=a+lo) (most:=4096) hU1 hU8 (by omega) (by omega) (by omega)) fun v4 μ4 hle4 hR4=>?_
 obtain⟨⟨W,rfl,hW1,_⟩,e4⟩:=hR4
 obtain rfl:=e4.symm
 have w_:=hW1 hWle
 obtain rfl:=w_
 refine aZ i rfl (by omega) ?_
 refine bA _ hvL ?_
 generalize hpre:(p.rels.take i).flatMap (bU U)=pre at*
 have hP:∀k w cl,L[k]? =some cl→w≤U.length ^ (a+lo)→2000<(pre++bI U r L k++bR U r k cl w).length→∀μx:Mem,qMp (fun y tv=>RepV μx (.sl 6 ((y.map Ru.rd).map RuD.d)) tv) (cQ p U) (.tuple #[.slice none 0 0,.bool false]):=fun k w cl hcl hw hbig μx=>by
  rw[cQ,if_neg fun kk=>?_];rfl
  have h1:(aS p U).length≥((p.rels.take (i+1)).flatMap (bU U)).length:=by
   conv=>lhs;rw[aS,←List.take_append_drop (i+1) p.rels]
   rw[List.flatMap_append,List.length_append];omega
  have h2:bU U r=bI U r L L.length:=by rw[bU,hL]
  have h3:∀m,k+1+m≤L.length→(bI U r L (k+1)).length≤(bI U r L (k+1+m)).length:=fun m=>by
   induction m with
   |zero=>intro _;exact Nat.le_refl _
   |succ m ih=>
    intro hm
    have w_:=aSo (l:=L) (i:=k+1+m) (by omega)
    obtain⟨c2,hc2⟩:=w_
    rw[show k+1+(m+1)=k+1+m+1 by omega,lP hc2,List.length_append]
    have:=ih (by omega)
    omega
  have hkl:=(List.getElem?_eq_some_iff.1 hcl).1
  have h4:=h3 (L.length-(k+1)) (by omega)
  rw[show k+1+(L.length-(k+1))=L.length by omega,lP hcl,hnn]at h4
  have w_:=nT (U:=U) (r:=r) (i:=k) (c:=cl) (w:=w) (U.length ^ (a+lo)-w)
  obtain⟨X,hX⟩:=w_
  rw[show w+(U.length ^ (a+lo)-w)=U.length ^ (a+lo) by omega]at hX
  rw[hX]at h4
  rw[mH hr,hpre,h2,List.length_append]at h1
  simp only[List.length_append]at h4 hbig
  have:=kk.2
  omega
 refine lIn (fun z:Nat×Option Nat×Nat×List Value×Mem=>z.1≤L.length∧μ2.Le z.2.2.2.2∧Rows z.2.2.2.2 6 (((pre++bI U r L z.1).map Ru.rd).map RuD.d) z.2.2.2.1∧(pre++bI U r L z.1).length≤2000)
  (fun(k,ob,oc,os,μ5)=>⟨[(1,.val (.slice ub U.length uc)),(6,.row 1 b ys.length c),(11,.row 2 ob os.length oc),(13,.loc 3 r13 0),(14,.val (.int .i64 ((a+lo:Nat):Int))),(15,.val (.int .i64 ((U.length ^ (a+lo):Nat):Int))),(62,.val (.slice q.1 p.rels.length q.2)),(63,.val (.int .i64 p.rels.length)),(64,.val (.int .i64 i)),(81,.val (.slice pv.1 L.length pv.2)),(82,.val (.int .i64 L.length)),(83,.val (.int .i64 k))],[(1,some (.row b c 155 1 ys)),(2,some (.row ob oc 160 6 os)),(3,some (.cells r13 [.val (.string r.name),.val (.int .i64 r.arity),.val (.int .i64 r.locals),.val (.int .i64 r.body.kind),.val (.string r.body.name),.val (.slice q2.1.1 r.body.terms.length q2.1.2),.val (.slice q2.2.1 r.body.goals.length q2.2.2)] 59))],4,μ5,Mem.nil⟩) (fun z=>L.length-z.1)
  (0,ob,oc,os,μ2) ⟨Nat.zero_le _,Mem.Le.refl _,by simpa[bI]using hrows,by simpa[bI]using hroom⟩ (fun(_,_,_,_,_)=>⟨rfl,rfl⟩) ⟨⟨rfl,rfl,rfl,rfl,rfl,rfl,rfl,rfl,rfl,rfl,rfl,rfl,trivial⟩,⟨rfl,rfl,rfl,trivial⟩,rfl,rfl⟩ ?_
 clear hrows hroom hol
 rintro⟨k,ob,oc,os,μ5⟩ ⟨hk,hle5,hrows,hroom⟩
 dsimp only at hk hle5 hrows hroom
 refine ifd (fun hltk=>?_) (fun hltk=>?_)
 rotate_left
 ·obtain rfl : k = L.length := by omega
  have e:bU U r=bI U r L L.length:=by rw[bU,hL]
  refine aC (by omega) (by omega) ⟨(i+1,ob,oc,os,μ5),⟨by dsimp only;omega,hle2.trans hle5,?_,?_⟩,by dsimp only;omega,⟨⟨rfl,rfl,rfl,rfl,rfl,rfl,trivial⟩,⟨rfl,rfl,trivial⟩,rfl,rfl⟩⟩
  ·dsimp only
   rw[mH hr,hpre,e];exact hrows
  ·dsimp only
   rw[mH hr,hpre,e];exact hroom
 have w_:=aSo (l:=L) (i:=k) (by omega)
 obtain⟨cl,hcl⟩:=w_
 have w_:=uN ((hLs.mono hle2).mono hle5) hcl
 obtain⟨adc,pc,helc,hrc⟩:=w_
 have hcs:Sl μ5 4 pc.1 cl.length (cl.map Gl.d):=by
  have w_:=Rep.sl (xs:=cl.map Gl.d) hrc
  obtain⟨b',c',e1,hs⟩:=w_
  have w_:=Value.slice.inj e1
  obtain⟨rfl,_,_⟩:=w_
  simpa using hs
 have hcb:=hLb.1 cl (mAt hcl)
 have hsucc:=lP (U:=U) (r:=r) hcl
 rw[hnn]at hsucc
 refine eIn helc ?_
 refine lFz (fun z:Nat×Option Nat×Nat×List Value×Mem=>z.1≤U.length ^ (a+lo)∧μ5.Le z.2.2.2.2∧Rows z.2.2.2.2 6 (((pre++bI U r L k++bR U r k cl z.1).map Ru.rd).map RuD.d) z.2.2.2.1∧(pre++bI U r L k++bR U r k cl z.1).length≤2000)
  (fun(w,ob,oc,os,μ6)=>⟨[(1,.val (.slice ub U.length uc)),(6,.row 1 b ys.length c),(11,.row 2 ob os.length oc),(13,.loc 3 r13 0),(14,.val (.int .i64 ((a+lo:Nat):Int))),(15,.val (.int .i64 ((U.length ^ (a+lo):Nat):Int))),(16,.val (.int .i64 k)),(17,.val (.slice pc.1 cl.length pc.2)),(18,.val (.int .i64 (w:Nat))),(62,.val (.slice q.1 p.rels.length q.2)),(63,.val (.int .i64 p.rels.length)),(64,.val (.int .i64 i)),(81,.val (.slice pv.1 L.length pv.2)),(82,.val (.int .i64 L.length)),(83,.val (.int .i64 k))],[(1,some (.row b c 155 1 ys)),(2,some (.row ob oc 160 6 os)),(3,some (.cells r13 [.val (.string r.name),.val (.int .i64 r.arity),.val (.int .i64 r.locals),.val (.int .i64 r.body.kind),.val (.string r.body.name),.val (.slice q2.1.1 r.body.terms.length q2.1.2),.val (.slice q2.2.1 r.body.goals.length q2.2.2)] 59))],4,μ6,Mem.nil⟩) (fun z=>U.length ^ (a+lo)-z.1) []
  (fun(_,_,_,_,_)=>⟨rfl,rfl⟩) ⟨(0,ob,oc,os,μ5),⟨Nat.zero_le _,Mem.Le.refl _,by simpa[bR]using hrows,by simpa[bR]using hroom⟩,⟨⟨rfl,rfl,rfl,rfl,rfl,rfl,rfl,rfl,rfl,rfl,rfl,rfl,rfl,rfl,rfl,trivial⟩,⟨rfl,rfl,rfl,trivial⟩,rfl,rfl⟩⟩ ?_
 clear hrows hroom
 rintro⟨w,ob,oc,os,μ6⟩ ⟨hw6,hle6,hrows,hroom⟩
 dsimp only at hw6 hle6 hrows hroom
 have hol:=hrows.len
 simp only[List.length_map]at hol
 refine ifd (fun hltw=>?_) (fun hltw=>?_)
 rotate_left
 ·obtain rfl : w = U.length ^ (a + lo) := by omega
  refine aC (by omega) (by omega) ⟨(k+1,ob,oc,os,μ6),⟨by dsimp only;omega,hle5.trans hle6,?_,?_⟩,by dsimp only;omega,⟨⟨rfl,rfl,rfl,rfl,rfl,rfl,rfl,rfl,rfl,rfl,rfl,rfl,trivial⟩,⟨rfl,rfl,rfl,trivial⟩,rfl,rfl⟩⟩
  ·dsimp only
   rw[hsucc,←List.append_assoc];exact hrows
  ·dsimp only
   rw[hsucc,←List.append_assoc];exact hroom
 have hdl:=pJ U (a+lo) w
 generalize hvs:gN U (a+lo) w=vs at*
 have hu6:=((((hu.mono hle).mono hle2).mono hle5).mono hle6)
 refine qGk (a+lo) rfl rfl (by simp only;omega) (Nat.le_trans (m:=1000) (by omega) (by decide)) ?_
 intro r94
 refine lIn (fun z:Nat×List Value=>z.1≤a+lo∧Fill μ6 vs (a+lo) z.1 z.2)
  (fun(j,xs)=>⟨[(1,.val (.slice ub U.length uc)),(6,.row 1 b ys.length c),(11,.row 2 ob os.length oc),(13,.loc 3 r13 0),(14,.val (.int .i64 ((a+lo:Nat):Int))),(15,.val (.int .i64 ((U.length ^ (a+lo):Nat):Int))),(16,.val (.int .i64 k)),(17,.val (.slice pc.1 cl.length pc.2)),(18,.val (.int .i64 (w:Nat))),(19,.row 4 (some r94) (a+lo) (a+lo)),(20,.val (.int .i64 ((w / U.length ^ j:Nat):Int))),(21,.val (.int .i64 j)),(62,.val (.slice q.1 p.rels.length q.2)),(63,.val (.int .i64 p.rels.length)),(64,.val (.int .i64 i)),(81,.val (.slice pv.1 L.length pv.2)),(82,.val (.int .i64 L.length)),(83,.val (.int .i64 k))],[(1,some (.row b c 155 1 ys)),(2,some (.row ob oc 160 6 os)),(3,some (.cells r13 [.val (.string r.name),.val (.int .i64 r.arity),.val (.int .i64 r.locals),.val (.int .i64 r.body.kind),.val (.string r.body.name),.val (.slice q2.1.1 r.body.terms.length q2.1.2),.val (.slice q2.2.1 r.body.goals.length q2.2.2)] 59)),(4,some (.row (some r94) (a+lo) 36 4 xs))],5,μ6,Mem.nil⟩) (fun z=>a+lo-z.1)
  (0,_) ⟨Nat.zero_le _,Fill.start⟩ (fun(_,_)=>⟨rfl,rfl⟩) ⟨⟨rfl,rfl,rfl,rfl,rfl,rfl,rfl,rfl,rfl,rfl,by rw[Nat.pow_zero,Nat.div_one];rfl,rfl,rfl,rfl,rfl,rfl,rfl,rfl,trivial⟩,⟨rfl,rfl,rfl,rfl,trivial⟩,rfl,rfl⟩ ?_
 rintro⟨j,xs⟩ ⟨hj,hfill⟩
 dsimp only at hj hfill
 have hxl:=hfill.len
 have hdw:w / U.length ^ j≤w:=Nat.div_le_self _ _
 refine ifd (fun hltj=>?_) (fun hltj=>?_)
 ·refine aD (by omega) ?_
  refine nEq (x:=((w / U.length ^ j % U.length:Nat):Int)) rfl ?_
  have w_:=qKo hu6 (by omega) (w / U.length ^ j)
  obtain⟨ad2,p2,hel2,hr2⟩:=w_
  refine eIn hel2 ?_
  refine aZ j rfl (by omega) ?_
  refine bA _ (hfill.rest j (by omega) (by omega)) ?_
  refine aD (by omega) ?_
  refine nEq (x:=((w / U.length ^ (j+1):Nat):Int)) ?_ ?_
  ·have e : w / U.length ^ (j + 1) = w / U.length ^ j / U.length := by rw [Nat.pow_succ, Nat.div_div_eq_div_mul]
   rw[e]
   have hd2:w / U.length ^ j / U.length≤w / U.length ^ j:=Nat.div_le_self _ _
   show IntKind.i64.wrap ((w / U.length ^ j / U.length:Nat):Int)=_
   generalize w / U.length ^ j / U.length=m at hd2 ⊢
   exact aA (by omega) (by omega)
  have hg:=oU U j (a+lo) w (by omega)
  rw[hvs]at hg
  exact aC (by omega) (by omega) ⟨(j+1,_),⟨by dsimp only;omega,hfill.step hg hr2 (by omega)⟩,by dsimp only;omega,⟨⟨rfl,rfl,rfl,rfl,rfl,rfl,rfl,rfl,rfl,rfl,rfl,rfl,rfl,rfl,rfl,rfl,rfl,rfl,trivial⟩,⟨rfl,rfl,rfl,rfl,trivial⟩,rfl,rfl⟩⟩
 obtain rfl:j=a+lo:=by omega
 have hvrows:=hfill.all hdl
 refine aQ 0 a rfl ha (Nat.zero_le _) (by omega) ?_
 intro r22
 refine qKt (fun z:Nat×Bool×(Option Nat×Nat×List Value)×(Option Nat×Nat×List Value)×Mem=>z.1≤cl.length∧μ6.Le z.2.2.2.2∧RowAt z.2.2.2.2 (some r94) (a+lo) 4 xs∧Rows z.2.2.2.2 2 (((iI vs (cl.take z.1)).map F.fc).map Fc.d) z.2.2.1.2.2∧Rows z.2.2.2.2 2 (((wG vs (cl.take z.1)).map F.fc).map Fc.d) z.2.2.2.1.2.2∧(z.2.1=true↔∀g∈cl.take z.1,okG U vs g))
  (fun(m,f,(pb,pc2,ps),(nb,nc,ns),μ7)=>⟨[(1,.val (.slice ub U.length uc)),(6,.row 1 b ys.length c),(11,.row 2 ob os.length oc),(13,.loc 3 r13 0),(14,.val (.int .i64 ((a+lo:Nat):Int))),(15,.val (.int .i64 ((U.length ^ (a+lo):Nat):Int))),(16,.val (.int .i64 k)),(17,.val (.slice pc.1 cl.length pc.2)),(18,.val (.int .i64 (w:Nat))),(19,.val (.slice (some ⟨r94,0,none⟩) (a+lo) (a+lo))),(22,.loc 5 r22 0),(23,.val (.bool f)),(62,.val (.slice q.1 p.rels.length q.2)),(63,.val (.int .i64 p.rels.length)),(64,.val (.int .i64 i)),(81,.val (.slice pv.1 L.length pv.2)),(82,.val (.int .i64 L.length)),(83,.val (.int .i64 k)),(125,.val (.slice pc.1 cl.length pc.2)),(126,.val (.int .i64 cl.length)),(127,.val (.int .i64 m))],[(1,some (.row b c 155 1 ys)),(2,some (.row ob oc 160 6 os)),(3,some (.cells r13 [.val (.string r.name),.val (.int .i64 r.arity),.val (.int .i64 r.locals),.val (.int .i64 r.body.kind),.val (.string r.body.name),.val (.slice q2.1.1 r.body.terms.length q2.1.2),.val (.slice q2.2.1 r.body.goals.length q2.2.2)] 59)),(5,some (.cells r22 [.val (.string r.name),.val (.slice (if a+lo=0 then((some r94).map fun r=>(⟨r,0,none⟩:Addr))else((some r94).map fun r=>(⟨r,0,none⟩:Addr)).map (·.add (0*4))) (a-0) (a+lo-0)),.val (.int .i64 k),.val (.slice (some ⟨r94,0,none⟩) (a+lo) (a+lo)),.row 6 pb ps.length pc2,.row 7 nb ns.length nc] 160)),(6,some (.row pb pc2 46 2 ps)),(7,some (.row nb nc 46 2 ns))],8,μ7,Mem.nil⟩) (fun z=>cl.length-z.1) [4]
  (fun(_,_,(_,_,_),(_,_,_),_)=>⟨rfl,rfl⟩) ?_ ?_
 ·intro μv hlev hnov hatv
  refine⟨(0,true,(none,0,[]),(none,0,[]),μv),⟨Nat.zero_le _,hlev,hatv,.nil,.nil,by simp⟩,?_⟩
  exact⟨⟨⟨_,rfl,.inl rfl⟩,⟨_,rfl,.inl rfl⟩,⟨_,rfl,.inl rfl⟩,⟨_,rfl,.inl rfl⟩,⟨_,rfl,.inl rfl⟩,⟨_,rfl,.inl rfl⟩,⟨_,rfl,.inl rfl⟩,⟨_,rfl,.inl rfl⟩,⟨_,rfl,.inl rfl⟩,⟨_,rfl,.inl rfl⟩,⟨_,rfl,.inl rfl⟩,⟨_,rfl,.inl rfl⟩,⟨_,rfl,.inl rfl⟩,⟨_,rfl,.inl rfl⟩,⟨_,rfl,.inl rfl⟩,⟨_,rfl,.inl rfl⟩,⟨_,rfl,.inl rfl⟩,⟨_,rfl,.inl rfl⟩,⟨_,rfl,.inl rfl⟩,⟨_,rfl,.inl rfl⟩,⟨_,rfl,.inl rfl⟩,trivial⟩,⟨.inl rfl,.inl rfl,.inl rfl,.inr (.inr ⟨_,_,_,_,rfl,rfl,.inl rfl,.inl rfl,.inl rfl,.inl rfl,.inr ⟨6,rfl,rfl,Nat.le_refl _⟩,.inr ⟨7,rfl,rfl,Nat.le_succ 6⟩,trivial⟩),.inr (.inl ⟨_,_,rfl,Nat.le_refl _⟩),.inr (.inl ⟨_,_,rfl,Nat.le_succ 6⟩),trivial⟩,rfl,rfl⟩
 rintro⟨m,f,⟨pb,pc2,ps⟩,⟨nb,nc,ns⟩,μ7⟩ ⟨hm,hle7,hat7,hps,hns,hf⟩
 dsimp only at hm hle7 hat7 hps hns hf
 have hpl:=hps.len
 have hnl:=hns.len
 have hpf:=qIx (vs:=vs) (c:=cl.take m)
 have hnf:=negF_le (vs:=vs) (c:=cl.take m)
 rw[List.length_take]at hpf hnf
 simp only[List.length_map]at hpl hnl
 have hnext:=sO U r k cl w
 have skipE:¬(∀g∈cl,okG U vs g)→bR U r k cl (w+1)=bR U r k cl w:=fun h=>by rw[hnext,fN,hnn,hvs,if_neg h,Option.toList_none,List.append_nil]
 have skip:¬(∀g∈cl,okG U vs g)→∀μ8,μ7.Le μ8→Rows μ8 6 (((pre++bI U r L k++bR U r k cl (w+1)).map Ru.rd).map RuD.d) os:=fun h μ8 h8=>by
  rw[skipE h];exact(hrows.mono hle7).mono h8
 have skipL:¬(∀g∈cl,okG U vs g)→(pre++bI U r L k++bR U r k cl (w+1)).length≤2000:=fun h=>by rw[skipE h];exact hroom
 refine ifd (fun hltm=>?_) (fun hltm=>?_)
 rotate_left
 ·obtain rfl : m = cl.length := by omega
  rw[List.take_length]at hf hps hns
  refine iIn (fun hb=>?_) (fun hb=>?_)
  ·have hOk := hf.1 hb
   have hat1:fN U r k cl w=some (kB r k cl vs):=by rw[fN,hnn,hvs,if_pos hOk]
   intro r177
   refine gIn ?_ ?_ fun b' c' _=>?_
   ·show(os.length+1)*120≤_;omega
   ·exact Nat.le_trans (m:=100000) (show os.length+1≤_ by omega) (by decide)
   have hnew:(pre++bI U r L k++bR U r k cl (w+1)).length=os.length+1:=by
    rw[hnext,hat1,Option.toList_some,←List.append_assoc,List.length_append,List.length_singleton];omega
   refine ifd (fun hbig=>?_) (fun hbig=>?_)
   ·rw [List.length_append, List.length_singleton] at hbig
    exact rPl (hP k (w+1) cl hcl (by omega) (by omega) _)
   rw[List.length_append,List.length_singleton]at hbig
   refine aC (by omega) (by omega) ⟨[6,7],fun μ8 hle8 hno8 hat8 μ9 hle9 hno9 hat9=>⟨(w+1,b',c',_,μ9),⟨by dsimp only;omega,((hle6.trans hle7).trans hle8).trans hle9,?_,by dsimp only;omega⟩,by dsimp only;omega,⟨⟨rfl,rfl,rfl,rfl,rfl,rfl,rfl,rfl,rfl,rfl,rfl,rfl,rfl,rfl,rfl,trivial⟩,⟨rfl,rfl,rfl,trivial⟩,rfl,rfl⟩⟩⟩
   dsimp only
   rw[hnext,hat1,Option.toList_some,←List.append_assoc,List.map_append,List.map_append]
   refine(((hrows.mono hle7).mono hle8).mono hle9).append (Rows.one ?_ (RuD.d_n _))
   have hmax:(1000:Nat)≤maxLen:=by decide
   have hvr:=(hvrows.mono hle7)
   have k1:=headSl hat7 hvr (a:=a) (by omega) (by omega)
   have k2:=Rows.sl hat7 hvr (Nat.le_trans (m:=1000) (by omega) hmax)
   have k3:=Rows.sl hat8 (hps.mono hle8) (Nat.le_trans (m:=1000) (by omega) hmax)
   have k4:=Rows.sl hat9 ((hns.mono hle8).mono hle9) (Nat.le_trans (m:=1000) (by omega) hmax)
   rw[hxl]at k2
   rw[RuD.d_eq]
   have ea:r.arity.toNat=a:=by omega
   show RepV μ9 (.st [.s r.name,.sl 4 (((vs.take r.arity.toNat).map T.tm).map Tm.d),.i (k:Int),.sl 4 ((vs.map T.tm).map Tm.d),.sl 2 (((iI vs cl).map F.fc).map Fc.d),.sl 2 (((wG vs cl).map F.fc).map Fc.d)]) _
   rw[ea]
   exact⟨_,rfl,RepS.str (RepS.cons1 ((k1.mono hle8).mono hle9) (RepS.int (RepS.cons1 ((k2.mono hle8).mono hle9) (RepS.cons1 (k3.mono hle9) (RepS.last k4)))))⟩
  ·have hno : ¬ ∀ g ∈ cl, okG U vs g := fun h => by rw [hf.2 h] at hb; cases hb
   refine ifd (fun h=>by omega) (fun _=>?_)
   exact aC (by omega) (by omega) ⟨[],(w+1,ob,oc,os,μ7),⟨by dsimp only;omega,hle6.trans hle7,skip hno μ7 (Mem.Le.refl _),skipL hno⟩,by dsimp only;omega,⟨⟨rfl,rfl,rfl,rfl,rfl,rfl,rfl,rfl,rfl,rfl,rfl,rfl,rfl,rfl,rfl,trivial⟩,⟨rfl,rfl,rfl,trivial⟩,rfl,rfl⟩⟩
 have w_:=aSo (l:=cl) (i:=m) (by omega)
 obtain⟨g,hg⟩:=w_
 have w_:=Gl.elem (((hcs.mono hle6).mono hle7)) hg
 obtain⟨adg,pg,helg,hrg⟩:=w_
 have hG:=ClG.of hok hr hL (mAt hcl) (mAt hg)
 have w_:=ClV.of hok hr hL (mAt hcl) (mAt hg) (n:=a+lo) (by omega)
 obtain⟨⟨gx,hgx⟩,hkx⟩:=w_
 refine eIn helg ?_
 intro r25
 refine iIn (fun hb=>?_) (fun hb=>?_)
 ·have hb : f = false := by simpa using hb
  subst hb
  have hno:¬∀g∈cl,okG U vs g:=fun h=>by
   have:=hf.2 fun x hx=>h x (List.mem_of_mem_take hx)
   cases this
  refine iIn (fun h=>nomatch h) (fun _=>?_)
  refine ifd (fun h=>by omega) (fun _=>?_)
  exact aC (by omega) (by omega) ⟨[],(w+1,ob,oc,os,μ7),⟨by dsimp only;omega,hle6.trans hle7,skip hno μ7 (Mem.Le.refl _),skipL hno⟩,by dsimp only;omega,⟨⟨rfl,rfl,rfl,rfl,rfl,rfl,rfl,rfl,rfl,rfl,rfl,rfl,rfl,rfl,rfl,trivial⟩,⟨rfl,rfl,rfl,trivial⟩,rfl,rfl⟩⟩
 have hb:f=true:=by simpa using hb
 have hf1:=hf.1 hb
 have hall:∀bb:Bool,(bb=true↔okG U vs g)→(bb=true↔∀x∈cl.take (m+1),okG U vs x):=fun bb h=>by
  rw[h,List.take_add_one,hg,Option.toList_some]
  constructor
  ·intro k x hx
   rcases List.mem_append.1 hx with hx|hx
   ·exact hf1 x hx
   ·rw[List.mem_singleton.1 hx];exact k
  ·exact fun k=>k g (by simp)
 have hvsl:Sl μ7 4 (some ⟨r94,0,none⟩) vs.length ((vs.map T.tm).map Tm.d):=by
  have k2:=Rows.sl hat7 (hvrows.mono hle7) (Nat.le_trans (m:=1000) (by omega) (by decide))
  have w_:=Rep.sl k2
  obtain⟨bz,cz,ez,hs⟩:=w_
  have w_:=Value.slice.inj ez
  obtain⟨e1,e2,_⟩:=w_
  rw[←e1]at hs
  simpa using hs
 have hu7:=hu6.mono hle7
 refine ifd (fun h9=>?_) (fun h9=>?_)
 ·have hcall := nN (vc := a + lo) hvsl hrg hgx.terms hgx.len (fun x hx n hn => by have := hgx.low x hx n hn; omega)
  rw[hdl]at hcall
  refine cPl hcall fun v8 μ8 hle8 hR8=>?_
  have w_:=F.inv (f:=bW vs g) hR8
  obtain⟨pf,rfl,hfs⟩:=w_
  intro r26
  refine cGv (lB (U:=U) (l:=(bW vs g).args) (hu7.mono hle8) hfs) ?_
  intro r150
  refine gIn ?_ ?_ fun b' c' _=>?_
  ·show(ps.length+1)*40≤_;omega
  ·exact Nat.le_trans (m:=100000) (show ps.length+1≤_ by omega) (by decide)
  refine aC (by omega) (by omega) ⟨[],(m+1,decide (∀a∈(bW vs g).args,a∈U),(b',c',_),(nb,nc,ns),μ8),⟨by dsimp only;omega,hle7.trans hle8,RowAt.up hat7 hle8,?_,?_,hall _ (by rw[decide_eq_true_eq,okG_9 h9])⟩,by dsimp only;omega,⟨⟨rfl,rfl,rfl,rfl,rfl,rfl,rfl,rfl,rfl,rfl,rfl,rfl,rfl,rfl,rfl,rfl,rfl,rfl,rfl,rfl,rfl,trivial⟩,⟨rfl,rfl,rfl,rfl,rfl,rfl,trivial⟩,rfl,rfl⟩⟩
  ·dsimp only
   rw[qV hg,if_pos h9]
   simp only[List.map_append,List.map_cons,List.map_nil]
   exact(hps.mono hle8).append (Rows.one hR8 (Fc.d_n _))
  ·dsimp only
   rw[rU hg,if_neg (by omega),List.append_nil]
   exact hns.mono hle8
 refine ifd (fun h10=>?_) (fun h10=>?_)
 ·have hgl := hG.sh.top.gl1 h10
  have w_:=hkx h10
  obtain⟨kx,hkx⟩:=w_
  have w_:=Gl.inv hrg
  obtain⟨q1,e1,_,hgs⟩:=w_
  have w_:=Gl.elem hgs (Gl.kid_at hgl)
  obtain⟨ad2,pk,hel2,hrk⟩:=w_
  have hp:q1=pg:=by
   have h2:=congrArg (fun v=>match v with|Value.agg a=>(a[2]?,a[3]?)|_=>(none,none)) e1
   simp[Gl.cs]at h2
   exact Prod.ext (Prod.ext h2.1.1.symm h2.1.2.symm) (Prod.ext h2.2.1.symm h2.2.2.symm)
  subst hp
  refine eIn hel2 ?_
  have hcall:=nN (vc:=a+lo) hvsl hrk hkx.terms hkx.len (fun x hx n hn=>by have:=hkx.low x hx n hn;omega)
  rw[hdl]at hcall
  refine cPl hcall fun v8 μ8 hle8 hR8=>?_
  have w_:=F.inv (f:=bW vs g.kid) hR8
  obtain⟨pf,rfl,hfs⟩:=w_
  intro r27
  refine cGv (lB (U:=U) (l:=(bW vs g.kid).args) (hu7.mono hle8) hfs) ?_
  intro r170
  refine gIn ?_ ?_ fun b' c' _=>?_
  ·show(ns.length+1)*40≤_;omega
  ·exact Nat.le_trans (m:=100000) (show ns.length+1≤_ by omega) (by decide)
  refine aC (by omega) (by omega) ⟨[],(m+1,decide (∀a∈(bW vs g.kid).args,a∈U),(pb,pc2,ps),(b',c',_),μ8),⟨by dsimp only;omega,hle7.trans hle8,RowAt.up hat7 hle8,?_,?_,hall _ (by rw[decide_eq_true_eq,okG_10 h10])⟩,by dsimp only;omega,⟨⟨rfl,rfl,rfl,rfl,rfl,rfl,rfl,rfl,rfl,rfl,rfl,rfl,rfl,rfl,rfl,rfl,rfl,rfl,rfl,rfl,rfl,trivial⟩,⟨rfl,rfl,rfl,rfl,rfl,rfl,trivial⟩,rfl,rfl⟩⟩
  ·dsimp only
   rw[qV hg,if_neg h9,List.append_nil]
   exact hps.mono hle8
  ·dsimp only
   rw[rU hg,if_pos h10]
   simp only[List.map_append,List.map_cons,List.map_nil]
   exact(hns.mono hle8).append (Rows.one hR8 (Fc.d_n _))
 have htrue:=xD (vc:=a+lo) hvsl hrg hgx.terms hgx.len (fun x hx n hn=>by have:=hgx.low x hx n hn;omega) (by have:=hG.simple;rwa [hgx.terms,List.length_map]at this)
 rw[hdl]at htrue
 refine cPl htrue fun v8 μ8 hle8 hR8=>?_
 obtain rfl:=hR8
 refine aC (by omega) (by omega) ⟨[],(m+1,decide (gA g.kind (gx.map (T.subst (bV vs)))),(pb,pc2,ps),(nb,nc,ns),μ8),⟨by dsimp only;omega,hle7.trans hle8,RowAt.up hat7 hle8,?_,?_,hall _ (by rw[decide_eq_true_eq,qMt h9 h10 hgx.terms])⟩,by dsimp only;omega,⟨⟨rfl,rfl,rfl,rfl,rfl,rfl,rfl,rfl,rfl,rfl,rfl,rfl,rfl,rfl,rfl,rfl,rfl,rfl,rfl,rfl,rfl,trivial⟩,⟨rfl,rfl,rfl,rfl,rfl,rfl,trivial⟩,rfl,rfl⟩⟩
 ·dsimp only
  rw[qV hg,if_neg h9,List.append_nil]
  exact hps.mono hle8
 ·dsimp only
  rw[rU hg,if_neg h10,List.append_nil]
  exact hns.mono hle8
end
end Go.Vx
namespace Go.Vx
open Go.Proofs Classical
noncomputable def cS(p:Pg)(u:List Tm):Option (List Ru):=if p.Pos then dL p u else none
theorem pH{p:Pg}{u:List Tm}{y:List Ru}(h:dL p u=some y):p.Ok∧UnivOk u:=by
 unfold dL at h
 split at h
 ·assumption
 ·cases h
section
variable {μ:Mem}
theorem oL{p:Pg}{u:List Tm}{v:Value}{ub:Option Addr}{uc:Nat}(hp:RepV μ p.d v)(hu:Sl μ 4 ub u.length (u.map Tm.d)):
  Spec Tryz.prog 39 [v,.slice ub u.length uc] μ fun v μ'=>qMp (fun y tv=>RepV μ' (.sl 6 ((y.map Ru.rd).map RuD.d)) tv) (cS p u) v:=by
 have hp0:=hp
 have w_:=Pg.inv hp
 obtain⟨q,rfl,hrl⟩:=w_
 refine Spec.mk Tryz.func39 (by kernel_rfl) ?_
 intro r2
 refine cPl (lR hp0) fun v1 μ1 hle1 hR=>?_
 obtain rfl:=hR
 refine aM (fun h=>rPl (by rw[cS,if_neg h];rfl)) (fun hpos=>?_)
 refine cGv (lU (hu.mono hle1)) ?_
 refine aM (fun h=>rPl (by rw[cS,if_pos hpos,dL,if_neg fun k=>h k.2];rfl)) (fun huok=>?_)
 have w_:=huok.lift
 obtain⟨U,rfl,hUg,hUl⟩:=w_
 have hgo:cS p (U.map T.tm)=cQ p U:=by rw[cS,if_pos hpos,dL,if_pos ⟨hpos.1,huok⟩,kJ]
 rw[hgo]
 have h1:=huok.pos
 have h8:=huok.max
 rw[List.length_map]at h1 h8 hu ⊢
 refine cPl (rI (hp0.mono hle1) hpos.1 (hu.mono hle1) h1 h8) fun v2 μ2 hle2 hR=>?_
 cases hL:cQ p U with
 |none=>
  rw[hL]at hR
  obtain rfl:=hR
  exact rPl rfl
 |some y=>
  rw[hL]at hR
  obtain⟨tv,rfl,hR⟩:=hR
  exact rPl ⟨tv,rfl,hR⟩
end
end Go.Vx
namespace Go.Vx
open Go.Proofs Classical
def PureK(n:Int):Prop:=n≠10∧¬(3≤n∧n≤6)
def Gl.Pure(g:Gl):Prop:=∀x∈g.all,PureK x.kind
theorem Gl.pure_eq(g:Gl):g.Pure↔PureK g.kind∧∀x∈g.goals,x.Pure:=by
 unfold Gl.Pure
 rw[Gl.all_eq]
 constructor
 ·exact fun h=>⟨h g (by simp),fun x hx y hy=>h y (List.mem_cons_of_mem _ (List.mem_flatMap.2 ⟨x,hx,hy⟩))⟩
 ·rintro ⟨h1, h2⟩ x hx
  rcases List.mem_cons.1 hx with rfl|hx
  ·exact h1
  ·have w_ := List.mem_flatMap.1 hx
   obtain⟨y,hy,hx⟩:=w_
   exact h2 y hy x hx
def Pg.Pure(p:Pg):Prop:=p.Ok∧∀r∈p.rels,r.body.Pure
section
variable {μ:Mem}
theorem isN{p q:Prop}[Decidable p](h:¬p↔q):Value.bool (!decide p)= .bool (decide q):=by
 by_cases k:p
 ·rw[decide_eq_true k,decide_eq_false fun hq=>h.2 hq k];rfl
 ·rw[decide_eq_false k,decide_eq_true (h.1 k)];rfl
theorem xV:∀(g:Gl) {v:Value},RepV μ g.d v→aP Tryz.prog 88 [v,.bool true] μ (.bool (decide g.Pure)):=
 Gl.ind fun g ih v hv=>by
  have w_:=Gl.inv hv
  obtain⟨p,rfl,hts,hgs⟩:=w_
  have hn:=aJ hgs.max
  refine Spec.mk Tryz.func88 (by kernel_rfl) ?_
  intro r
  refine lIn (fun i:Nat=>i≤g.goals.length∧∀(j:Nat) x,j<i→g.goals[j]? =some x→x.Pure)
   (fun i=>⟨[(1,.val (.bool true)),(2,.loc 0 r 0),(8,.val (.slice p.2.1 g.goals.length p.2.2)),(9,.val (.int .i64 g.goals.length)),(10,.val (.int .i64 i))],[(0,some (.cells r [.val (.int .i64 g.kind),.val (.string g.name),.val (.slice p.1.1 g.terms.length p.1.2),.val (.slice p.2.1 g.goals.length p.2.2)] 31))],1,μ,Mem.nil⟩) (fun i=>g.goals.length-i)
   0 ⟨Nat.zero_le _,fun j x h=>by omega⟩ (fun _=>⟨rfl,rfl⟩) ⟨⟨rfl,rfl,rfl,rfl,rfl,trivial⟩,⟨rfl,trivial⟩,rfl,rfl⟩ ?_
  rintro i ⟨hi,hall⟩
  refine ifd (fun hlt=>?_) (fun hlt=>?_)
  ·have w_ := aSo (l := g.goals) (i := i) (by omega)
   obtain⟨t,ht⟩:=w_
   have w_:=Gl.elem hgs ht
   obtain⟨ad,p3,hel,hr⟩:=w_
   refine eIn hel ?_
   intro r2
   refine cGv (ih t (mAt ht) hr) ?_
   refine aM (fun h=>rGv ?_ rfl) (fun h=>?_)
   ·rw[decide_eq_false fun k=>h (((Gl.pure_eq g).1 k).2 t (mAt ht))]
   ·refine aC (by omega) (by omega) ⟨i + 1, ⟨by omega, fun j y hj hy => ?_⟩, by omega, ⟨⟨rfl, rfl, rfl, rfl, rfl, trivial⟩, ⟨rfl, trivial⟩, rfl, rfl⟩⟩
    rcases Nat.lt_or_ge j i with h6|h6
    ·exact hall j y h6 hy
    ·obtain rfl : j = i := by omega
     rw[ht]at hy;cases hy;exact h
  ·obtain rfl : i = g.goals.length := by omega
   have hsub:∀x∈g.goals,x.Pure:=fun x hx=>by
    have w_:=List.mem_iff_getElem?.1 hx
    obtain⟨j,hj⟩:=w_
    exact hall j x (List.getElem?_eq_some_iff.1 hj).1 hj
   refine aM (fun h=>?_) (fun h=>?_)
   ·refine iIn (fun _ => ?_) (fun h => nomatch h)
    refine cGv (cC _ _ _ _) ?_
    refine rGv ?_ rfl
    refine isN ?_
    rw[Gl.pure_eq]
    exact⟨fun k=>⟨⟨h,k⟩,hsub⟩,fun k=>k.1.2⟩
   ·exact rGv (by rw[decide_eq_false fun k=>((Gl.pure_eq g).1 k).1.1 h]) rfl
theorem qBt{p:Pg}{v:Value}(hp:RepV μ p.d v)(hw:p.d.wd):Spec Tryz.prog 51 [v,.bool true] μ fun r _=>r= .bool (decide p.Pure):=by
 have w_:=Pg.inv hp
 obtain⟨q,rfl,hrl⟩:=w_
 refine Spec.mk Tryz.func51 (by kernel_rfl) ?_
 intro r1
 refine cPl (eE hp hw) fun v1 μ1 hle1 hR=>?_
 obtain rfl:=hR
 refine aM (fun h=>rPl (isF fun k=>h k.1)) (fun hok=>?_)
 have hn:=hok.1
 refine lIn (fun i:Nat=>i≤p.rels.length∧∀(j:Nat) x,j<i→p.rels[j]? =some x→x.body.Pure)
  (fun i=>⟨[(1,.val (.bool true)),(11,.val (.slice q.1 p.rels.length q.2)),(12,.val (.int .i64 p.rels.length)),(13,.val (.int .i64 i))],[],1,μ1,Mem.nil⟩) (fun i=>p.rels.length-i)
  0 ⟨Nat.zero_le _,fun j x h=>by omega⟩ (fun _=>⟨rfl,rfl⟩) ⟨⟨rfl,rfl,rfl,rfl,trivial⟩,trivial,rfl,rfl⟩ ?_
 rintro i ⟨hi,hall⟩
 refine ifd (fun hlt=>?_) (fun hlt=>?_)
 ·have w_ := aSo (l := p.rels) (i := i) (by omega)
  obtain⟨x,hx⟩:=w_
  have w_:=Rl.elemA (hrl.mono hle1) hx
  obtain⟨ad,q2,hel,hr,hb⟩:=w_
  have hb:RepV μ1 x.body.d (.agg (x.body.cs q2).toArray):=hb
  refine eIn hel ?_
  intro r2
  refine cGv (xV x.body hb) ?_
  refine aM (fun h=>rPl (isF fun k=>h (k.2 x (mAt hx)))) (fun h=>?_)
  refine aC (by omega) (by omega) ⟨i+1,⟨by omega,fun j y hj hy=>?_⟩,by omega,⟨⟨rfl,rfl,rfl,rfl,trivial⟩,trivial,rfl,rfl⟩⟩
  rcases Nat.lt_or_ge j i with h6|h6
  ·exact hall j y h6 hy
  ·obtain rfl : j = i := by omega
   rw[hx]at hy;cases hy;exact h
 ·obtain rfl : i = p.rels.length := by omega
  exact rPl (isT ⟨hok,fun x hx=>by
   have w_:=List.mem_iff_getElem?.1 hx
   obtain⟨j,hj⟩:=w_
   exact hall j x (List.getElem?_eq_some_iff.1 hj).1 hj⟩)
theorem rH{p:Pg}{v:Value}(hp:RepV μ p.d v)(hw:p.d.wd):Spec Tryz.prog 19 [v] μ fun r _=>r= .bool (decide p.Pure):=by
 have w_:=Pg.inv hp
 obtain⟨q,rfl,hrl⟩:=w_
 refine Spec.mk Tryz.func19 (by kernel_rfl) ?_
 intro r1
 refine cPl (qBt hp hw) fun v1 μ1 hle1 hR=>?_
 obtain rfl:=hR
 exact rPl rfl
end
end Go.Vx
namespace Go.Vx
open Go.Proofs Classical
def Tm.Is(t:Tm):Prop:=∃x:T,t=x.tm
def Gl.Mild(g:Gl):Prop:=∀x∈g.all,(∀t∈x.terms,t.Is)∧x.terms.length≤100000∧x.goals.length≤100000
theorem Gl.Mild.top{g:Gl}(h:g.Mild):(∀t∈g.terms,t.Is)∧g.terms.length≤100000∧g.goals.length≤100000:=h g (by rw[Gl.all_eq];simp)
theorem Gl.Mild.sub{g:Gl}(h:g.Mild)(x:Gl)(hx:x∈g.goals):x.Mild:=fun y hy=>h y (by rw[Gl.all_eq];exact List.mem_cons_of_mem _ (List.mem_flatMap.2 ⟨x,hx,hy⟩))
section
variable {μ:Mem}
theorem lX{xs:List T}{base:Option Addr}{cap:Nat}(hsl:Sl μ 4 base xs.length ((xs.map T.tm).map Tm.d))(hn:xs.length≤1000000):
  Spec Tryz.prog 61 [.slice base xs.length cap] μ fun v μ'=>Fresh μ μ' (.sl 4 ((xs.map T.tm).map Tm.d)) v:=by
 refine Spec.mk Tryz.func61 (by kernel_rfl) ?_
 intro r6
 refine lIn (fun p:Nat×Option Nat×Nat×List Value×Mem=>p.1≤xs.length∧μ.Le p.2.2.2.2∧Grown 4 μ p.2.2.2.2 (((xs.take p.1).map T.tm).map Tm.d) p.2.2.2.1)
  (fun(i,b,c,ys,μ')=>⟨[(3,.row 0 b ys.length c),(7,.val (.slice base xs.length cap)),(8,.val (.int .i64 xs.length)),(9,.val (.int .i64 i))],[(0,some (.row b c 36 4 ys))],1,μ',Mem.nil⟩) (fun p=>xs.length-p.1)
  (0,some r6,0,[],μ) ⟨Nat.zero_le _,Mem.Le.refl _,Grown.nil _ _ _⟩ (fun(_,_,_,_,_)=>⟨rfl,rfl⟩) ⟨⟨rfl,rfl,rfl,rfl,trivial⟩,⟨rfl,trivial⟩,rfl,rfl⟩ ?_
 rintro⟨i,b,c,ys,μ'⟩ ⟨hi,hle,hrows⟩
 dsimp only at hi hle hrows
 have hlen:=hrows.len
 simp only[List.length_map,List.length_take]at hlen
 refine ifd (fun hlt=>?_) (fun hlt=>?_)
 ·have w_ := aSo (l := xs) (i := i) (by omega)
  obtain⟨x,hx⟩:=w_
  have w_:=T.elemL (hsl.mono hle) hx
  obtain⟨ad,p,hel,hr⟩:=w_
  refine eIn hel ?_
  intro r5
  refine cPl (fQ x hr) fun v1 μ1 hle1 hR=>?_
  have w_:=Tm.invV hR.rep
  obtain⟨q,rfl⟩:=w_
  intro r16
  refine gIn ?_ ?_ fun b' c' _=>?_
  ·show(ys.length+1)*56≤_;omega
  ·exact Nat.le_trans (m:=100000000) (show ys.length+1≤_ by omega) (by decide)
  refine aC (by omega) (by omega) ⟨(i+1,b',c',_,μ1),⟨by dsimp only;omega,hle.trans hle1,?_⟩,by dsimp only;omega,⟨⟨rfl,rfl,rfl,rfl,trivial⟩,⟨rfl,trivial⟩,rfl,rfl⟩⟩
  dsimp only
  rw[List.take_add_one,hx,Option.toList_some]
  simp only[List.map_append,List.map_cons,List.map_nil]
  exact hrows.snoc hle hR hle1 (Tm.d_n _)
 ·obtain rfl : i = xs.length := by omega
  rw[List.take_length]at hrows
  refine rFz [0] fun μ2 hle2 hno hrow=> .inl ?_
  exact hrows.fresh hle hle2 hno hrow (Nat.le_trans (m:=1000000) (by omega) (by decide))
end
end Go.Vx
namespace Go.Vx
open Go.Proofs Classical
def Gl.Long(nm:ByteArray)(k:Nat)(g:Gl):Prop:=∀x∈g.all,x.kind=9→x.name=nm→k<x.terms.length
theorem Gl.Long.sub{nm:ByteArray}{k:Nat}{g:Gl}(h:g.Long nm k)(x:Gl)(hx:x∈g.goals):x.Long nm k:=fun y hy=>h y (by rw[Gl.all_eq];exact List.mem_cons_of_mem _ (List.mem_flatMap.2 ⟨x,hx,hy⟩))
theorem Gl.Long.top{nm:ByteArray}{k:Nat}{g:Gl}(h:g.Long nm k):g.kind=9→g.name=nm→k<g.terms.length:=h g (by rw[Gl.all_eq];simp)
section
variable {μ:Mem}
set_option maxHeartbeats 1000000 in
end
end Go.Vx
namespace Go.Vx
open Go.Proofs Classical
def SpcOk(p:Pg)(nm:ByteArray)(arg:Int)(t:Tm)(r:Rl):Prop:=(∃k:Nat,fY p nm=(k:Int)∧p.rels[k]? =some r)∧qOi t∧0≤arg∧arg<r.arity
theorem SpcOk.uniq{p:Pg}{nm:ByteArray}{arg:Int}{t:Tm}{r r':Rl}(h:SpcOk p nm arg t r)(h':SpcOk p nm arg t r'):r=r':=by
 obtain⟨⟨k,h1,h2⟩,_⟩:=h
 obtain⟨⟨k',h3,h4⟩,_⟩:=h'
 obtain rfl:k=k':=by omega
 rw[h2]at h4;exact Option.some.inj h4
end Go.Vx
namespace Go.Vx
open Go.Proofs Classical
section
variable {μ:Mem}
theorem bZ{k:Int}{a b:Option Addr×Nat×Nat}:aP Tryz.prog 90 [.int .i64 k,.slice a.1 a.2.1 a.2.2,.slice b.1 b.2.1 b.2.2] μ (.agg #[.int .i64 k,.string ⟨#[]⟩,.slice a.1 a.2.1 a.2.2,.slice b.1 b.2.1 b.2.2]):=by
 refine Spec.mk Tryz.func90 (by kernel_rfl) ?_
 intro r6
 exact rGv rfl rfl
set_option maxHeartbeats 1000000 in
set_option maxHeartbeats 1000000 in
end
end Go.Vx
namespace Go.Vx
open Go.Proofs Classical
theorem RowO.cut{h:Mem}{r cap:Nat}{ty:TypeId}{es:Nat}{xs:List Value}{cs:List Value}{k j:Nat}{x x':Value}{vs:List Value}(h1:xs.length≤cap)(h2:xs.length≤maxLen)(h3:∀x∈xs,(aB x).length=es∧∀u∈aB x,u.oneCell'=true)(h4:cs.length=cap*es)(h5:cs.take (xs.length*es)=xs.flatMap aB)
  (hx:xs[k]? =some x) (hv:aB x'=(aB x).take j++vs++(aB x).drop (j+vs.length)) (hj:j+vs.length≤es) (ho:∀u∈vs,u.oneCell'=true):
  RowO (h.set r (.cells (List.toArray (cs.take (k*es+j)++vs++cs.drop (k*es+j+vs.length))) ty (0,0))) r cap ty es (xs.set k x'):=by
 have hk:=(List.getElem?_eq_some_iff.1 hx).1
 have hxm:=List.mem_of_getElem? hx
 have hxl:=(h3 x hxm).1
 obtain⟨A,B,rfl,hA⟩:∃A B,xs=A++x::B∧A.length=k:=⟨xs.take k,xs.drop (k+1),by
  rw[←(List.getElem?_eq_some_iff.1 hx).2]
  rw[List.getElem_cons_drop,List.take_append_drop],by rw[List.length_take];omega⟩
 subst hA
 have fA:(A.flatMap aB).length=A.length*es:=dC A fun y hy=>(h3 y (by simp[hy])).1
 have fB:(B.flatMap aB).length=B.length*es:=dC B fun y hy=>(h3 y (by simp[hy])).1
 obtain⟨rest,hrest⟩:∃rest,cs=A.flatMap aB++aB x++B.flatMap aB++rest:=⟨cs.drop ((A++x::B).length*es),by
  have h6:=List.take_append_drop ((A++x::B).length*es) cs
  rw[h5]at h6
  refine h6.symm.trans ?_
  simp⟩
 have e1:cs.take (A.length*es+j)=A.flatMap aB++(aB x).take j:=by
  rw[hrest,List.append_assoc,List.append_assoc,←fA,List.take_length_add_append,List.take_append_of_le_length (by omega)]
 have e2:cs.drop (A.length*es+j+vs.length)=(aB x).drop (j+vs.length)++B.flatMap aB++rest:=by
  rw[hrest,List.append_assoc,List.append_assoc,←fA,Nat.add_assoc,List.drop_length_add_append,List.drop_append_of_le_length (by omega),List.append_assoc]
 have e3:(A++x::B).set A.length x'=A++x'::B:=by simp
 rw[e3]
 have hx'l:(aB x').length=es:=by
  rw[hv];simp only[List.length_append,List.length_take,List.length_drop];omega
 refine⟨_,Mem.set_at _ _ _,by simpa using h1,by simpa using h2,fun y hy=>?_,?_,?_⟩
 ·rcases List.mem_append.1 hy with hy | hy
  ·exact h3 y (by simp[hy])
  rcases List.mem_cons.1 hy with rfl|hy
  ·refine ⟨hx'l, fun u hu => ?_⟩
   rw[hv]at hu
   simp only[List.mem_append]at hu
   rcases hu with(hu|hu)|hu
   ·exact(h3 x hxm).2 u (List.mem_of_mem_take hu)
   ·exact ho u hu
   ·exact(h3 x hxm).2 u (List.mem_of_mem_drop hu)
  ·exact h3 y (by simp[hy])
 ·have h4' := h4
  rw[hrest]at h4'
  rw[e1,e2]
  simp only[List.length_append,List.length_take,List.length_drop]at h4' ⊢
  omega
 ·rw [e1, e2]
  have:A.flatMap aB++(aB x).take j++vs++((aB x).drop (j+vs.length)++B.flatMap aB++rest)=(A++x'::B).flatMap aB++rest:=by
   simp[hv]
  rw[this]
  have hfl:((A++x'::B).flatMap aB).length=(A++x'::B).length*es:=dC _ fun y hy=>by
   rcases List.mem_append.1 hy with hy|hy
   ·exact(h3 y (by simp[hy])).1
   rcases List.mem_cons.1 hy with rfl|hy
   ·exact hx'l
   ·exact(h3 y (by simp[hy])).1
  rw[←hfl,List.take_left]
theorem mL{h:Mem}{ad:Addr}{vs:List Value}{K:Mem→Prop}{r cap:Nat}{ty:TypeId}{es:Nat}{xs:List Value}{k j:Nat}{x:Value}(x':Value)(hr:RowO h r cap ty es xs)(hx:xs[k]? =some x)(ha:ad=⟨r,k*es+j,none⟩)(hv:aB x'=(aB x).take j++vs++(aB x).drop (j+vs.length))(hj:j+vs.length≤es)(ho:∀u∈vs,u.oneCell'=true)
  (hK:∀o,RowO (h.set r o) r cap ty es (xs.set k x')→K (h.set r o)):stoVC h ad vs K:=by
 subst ha
 obtain⟨cs,hc,h1,h2,h3,h4,h5⟩:=hr
 have hk:=(List.getElem?_eq_some_iff.1 hx).1
 refine sIn cs ty hc rfl ?_ (hK _ (RowO.cut h1 h2 h3 h4 h5 hx hv hj ho))
 show k*es+j+vs.length≤cs.length
 rw[h4]
 have:=Nat.mul_le_mul_right es (show k+1≤cap by omega)
 rw[Nat.succ_mul]at this
 omega
theorem RowO.cell{h:Mem}{r cap:Nat}{ty:TypeId}{es:Nat}{xs:List Value}{k j:Nat}{x u:Value}(hr:RowO h r cap ty es xs)(hx:xs[k]? =some x)(hu:(aB x)[j]? =some u):h.cell ⟨r,k*es+j,none⟩=some u:=by
 obtain⟨cs,hc,h1,h2,h3,h4,h5⟩:=hr
 obtain⟨A,B,rfl,hA⟩:∃A B,xs=A++x::B∧A.length=k:=⟨xs.take k,xs.drop (k+1),by
  rw[←(List.getElem?_eq_some_iff.1 hx).2]
  rw[List.getElem_cons_drop,List.take_append_drop],by rw[List.length_take];have:=(List.getElem?_eq_some_iff.1 hx).1;omega⟩
 subst hA
 have fA:(A.flatMap aB).length=A.length*es:=dC A fun y hy=>(h3 y (by simp[hy])).1
 have hj:=(List.getElem?_eq_some_iff.1 hu).1
 obtain⟨rest,hrest⟩:∃rest,cs=A.flatMap aB++(aB x++rest):=⟨B.flatMap aB++cs.drop ((A++x::B).length*es),by
  have h6:=List.take_append_drop ((A++x::B).length*es) cs
  rw[h5]at h6
  refine h6.symm.trans ?_
  simp⟩
 have e:cs[A.length*es+j]? =some u:=by
  rw[hrest,List.getElem?_append_right (by omega),fA,show A.length*es+j-A.length*es=j by omega,List.getElem?_append_left hj,hu]
 simp[Mem.cell,hc,e]
end Go.Vx
namespace Go.Vx
open Go.Proofs Classical
theorem vI(L:List F):Asc3 fP (iJ L):=yS _ _
theorem qEz{L:List F}{x:F}:x∈iJ L↔x∈L:=qW _ _ _
theorem qEl(L:List F):(iJ L).length≤L.length:=yV _ _
noncomputable def iZ(rs:List Ru)(pos neg:List F)(i:Nat):List F:=((rs.take i).filter fun r=>decide (sD pos neg r)).map Ru.head
theorem qCv{rs:List Ru}{pos neg:List F}{i:Nat}{r:Ru}(h:rs[i]? =some r):iZ rs pos neg (i+1)=iZ rs pos neg i++(if sD pos neg r then [r.head]else []):=by
 rw[iZ,List.take_add_one,h,Option.toList_some,List.filter_append,List.map_append,←iZ]
 congr 1
 by_cases k:sD pos neg r<;>simp[k]
theorem wO(rs:List Ru)(pos neg:List F):iJ (iZ rs pos neg rs.length)=dD rs pos neg:=by rw[iZ,List.take_length,dD]
theorem vE(rs:List Ru)(pos neg:List F)(i:Nat):(iZ rs pos neg i).length≤i:=by
 rw[iZ,List.length_map]
 exact Nat.le_trans (List.length_filter_le _ _) (List.length_take_le _ _)
theorem qLa(rs:List Ru)(pos neg:List F):(dD rs pos neg).length≤rs.length:=by
 rw[←wO]
 exact Nat.le_trans (qEl _) (vE _ _ _ _)
theorem mP(rs:List Ru)(pos neg:List F):Asc3 fP (dD rs pos neg):=vI _
theorem qGu{rs:List Ru}{pos pos' neg:List F}(h:∀f∈pos,f∈pos'){f:F}(hf:f∈dD rs pos neg):f∈dD rs pos' neg:=by
 rw[rN]at hf ⊢
 obtain⟨r,h1,h2,h3⟩:=hf
 exact⟨r,h1,⟨fun x hx=>h x (h2.1 x hx),h2.2⟩,h3⟩
theorem lfp_len(rs:List Ru)(base:List F):(lfp rs base).length≤base.length+rs.length:=by
 rw[lfp]
 refine Nat.le_trans (yV _ _) (Nat.le_trans (List.length_filter_le _ _) ?_)
 rw[List.length_append,List.length_map]
 exact Nat.le_refl _
structure RedI (rs:List Ru) (S out:List F):Prop where
 asc:Asc3 fP out
 der:∀f∈out,Der (mQ rs S) [] f
 sub:∀f∈out,f∈dD rs out S
section
variable {rs:List Ru} {S out:List F}
theorem RedI.nil(rs:List Ru)(S:List F):RedI rs S []:=⟨List.Pairwise.nil,(fun _ h=>nomatch h),(fun _ h=>nomatch h)⟩
theorem RedI.next(h:RedI rs S out):RedI rs S (dD rs out S):=by
 refine⟨mP _ _ _,fun f hf=>?_,fun f hf=>qGu h.sub hf⟩
 rw[rN]at hf
 obtain⟨r,h1,h2,rfl⟩:=hf
 exact .rule (mem_unlessR.2 ⟨h1,h2.2⟩) fun x hx=>h.der x (h2.1 x hx)
theorem RedI.done(h:RedI rs S out)(e:(dD rs out S).length=out.length):out=lfp (mQ rs S) []:=by
 have e2:=qEb cmpF_ord h.asc (mP rs out S) h.sub e
 refine lfp_eq h.asc (fun _ h=>nomatch h) h.der fun r hr hp=>?_
 rw[e2,rN]
 rw[mem_unlessR]at hr
 exact⟨r,hr.1,⟨hp,hr.2⟩,rfl⟩
theorem RedI.more(h:RedI rs S out)(e:(dD rs out S).length≠out.length):out.length<(dD rs out S).length:=qLs cmpF_ord h.asc (mP _ _ _) h.sub e
theorem RedI.len(h:RedI rs S out):out.length≤rs.length:=Nat.le_trans (fS (h.asc.nodup cmpF_ord) h.sub) (qLa _ _ _)
end
section
variable {rs:List Ru} {base out:List F}
end
noncomputable def stF(rs:List Ru):Nat→List F
 |0=>[]
 |n+1=>dD rs (stF rs n) []
theorem iW(rs:List Ru):∀n,RedI rs [] (stF rs n)
 |0=>RedI.nil _ _
 |n+1=>(iW rs n).next
theorem qDn(rs:List Ru):mQ rs []=rs:=by
 rw[mQ]
 exact List.filter_eq_self.2 fun r _=>by simp
def LastSt(rs:List Ru)(n:Nat):Prop:=dD rs (stF rs n) []=stF rs n∧∀m,m<n→dD rs (stF rs m) []≠stF rs m
theorem LastSt.eq{rs:List Ru}{n:Nat}(h:LastSt rs n):stF rs n=lfp rs []:=by
 have:=(iW rs n).done (by rw[h.1])
 rwa [qDn]at this
theorem qBv{rs:List Ru}:∀{n:Nat},(∀m,m<n→dD rs (stF rs m) []≠stF rs m)→n≤(stF rs n).length
 |0,_=>Nat.zero_le _
 |n+1,h=>by
  have ih:=qBv (n:=n) fun m hm=>h m (by omega)
  have h1:=(iW rs n).more fun e=>h n (by omega) (qEb cmpF_ord (iW rs n).asc (mP rs _ _) (iW rs n).sub e).symm
  have h2:(stF rs (n+1)).length=(dD rs (stF rs n) []).length:=rfl
  omega
section
variable {rs:List Ru} {model B out:List F}
end
end Go.Vx
namespace Go.Vx
open Go.Proofs Classical
abbrev FsV(μ:Mem)(L:List F)(v:Value):Prop:=RepV μ (.sl 2 ((L.map F.fc).map Fc.d)) v
abbrev RsV(μ:Mem)(rs:List Ru)(v:Value):Prop:=RepV μ (.sl 6 ((rs.map Ru.rd).map RuD.d)) v
section
variable {μ:Mem}
theorem FsV.sl{L:List F}{v:Value}(h:FsV μ L v):∃b c,v= .slice b L.length c∧L.length≤c∧Sl μ 2 b L.length ((L.map F.fc).map Fc.d):=by
 have w_:=Rep.sl h
 obtain⟨b,c,rfl,hs⟩:=w_
 have hl:=Rep.lens h
 simp only[List.length_map]at hs hl ⊢
 exact⟨b,c,rfl,hl,hs⟩
theorem RsV.sl{L:List Ru}{v:Value}(h:RsV μ L v):∃b c,v= .slice b L.length c∧Sl μ 6 b L.length ((L.map Ru.rd).map RuD.d):=by
 have w_:=Rep.sl h
 obtain⟨b,c,rfl,hs⟩:=w_
 simp only[List.length_map]at hs ⊢
 exact⟨b,c,rfl,hs⟩
def Ru.cs(r:Ru)(p:RuD.P):List Value:=[.string r.head.rel,.slice p.1.1 r.head.args.length p.1.2,.int .i64 r.clause,.slice p.2.1.1 r.vals.length p.2.1.2,.slice p.2.2.1.1 r.pos.length p.2.2.1.2,.slice p.2.2.2.1 r.neg.length p.2.2.2.2]
structure Ru.At (μ:Mem) (r:Ru) (p:RuD.P):Prop where
 head:RepV μ r.head.fc.d (.agg #[.string r.head.rel,.slice p.1.1 r.head.args.length p.1.2])
 pos:Sl μ 2 p.2.2.1.1 r.pos.length ((r.pos.map F.fc).map Fc.d)
 neg:Sl μ 2 p.2.2.2.1 r.neg.length ((r.neg.map F.fc).map Fc.d)
theorem Ru.at{r:Ru}{p:RuD.P}(h:RepV μ r.rd.d (.agg (r.cs p).toArray)):r.At μ p:=by
 have h0:=h
 rw[RuD.d_eq]at h
 obtain⟨cs,e,h⟩:=h
 have e:=(Value.agg.inj e)
 have e:cs=r.cs p:=by
  have:=congrArg Array.toList e
  simpa using this.symm
 subst e
 have w_:=Ru.inv h0
 obtain⟨q,e,h1,h2,h3,h4⟩:=w_
 have e:=Value.agg.inj e
 have e:r.cs p=r.cs q:=by simpa[Ru.cs]using congrArg Array.toList e
 simp only[Ru.cs,List.cons.injEq,Value.slice.injEq,true_and,and_true]at e
 obtain⟨⟨e1,e2⟩,⟨e3,e4⟩,⟨e5,e6⟩,e7,e8⟩:=e
 refine⟨?_,by rw[e5];exact h3,by rw[e7];exact h4⟩
 obtain⟨c1,c2,k1,k2,k3⟩:=h
 obtain⟨d1,d2,m1,m2,m3⟩:=k3
 have l1:c1=[.string r.head.rel]:=k2
 subst l1
 obtain⟨b,c,l2,l3⟩:=m2
 subst l2
 subst m1
 simp only[Ru.cs,List.cons_append,List.nil_append,List.cons.injEq,true_and]at k1
 obtain⟨k1,_⟩:=k1
 refine F.mkV ?_
 rw[k1]
 exact⟨b,c,rfl,l3⟩
theorem Ru.elem{l:List Ru}{base:Option Addr}{n:Nat}(h:Sl μ 6 base n ((l.map Ru.rd).map RuD.d)){i:Nat}{r:Ru}(hr:l[i]? =some r):∃ad,∃p:RuD.P,ElemAt μ base n 6 i ad (r.cs p)∧RepV μ r.rd.d (.agg (r.cs p).toArray)∧r.At μ p:=by
 have w_:=RuD.elem h (i:=i) (x:=r.rd) (by simp[hr])
 obtain⟨ad,p,h1,h2⟩:=w_
 have e:r.rd.cs p=r.cs p:=by
  show [_,Value.slice p.1.1 (r.head.args.map T.tm).length p.1.2,_,Value.slice p.2.1.1 (r.vals.map T.tm).length p.2.1.2,Value.slice p.2.2.1.1 (r.pos.map F.fc).length p.2.2.1.2,Value.slice p.2.2.2.1 (r.neg.map F.fc).length p.2.2.2.2]=_
  simp only[List.length_map];rfl
 rw[e]at h1 h2
 exact⟨ad,p,h1,h2,Ru.at h2⟩
end
end Go.Vx
namespace Go.Vx
open Go.Proofs Classical
open Go.Sort
abbrev FE:=F×Value
noncomputable instance:Inhabited F:=⟨⟨⟨#[]⟩,[]⟩⟩
theorem slFact:SlTy 39 46 Tryz.t39 Tryz.t46 25:=⟨by kernel_rfl,by kernel_rfl,by kernel_rfl,by kernel_rfl,fun _=>by kernel_rfl,by kernel_rfl⟩
noncomputable def ltF(a b:FE):Bool:=decide (fP a.1 b.1<0)
theorem swo_ltF:SWO ltF:=⟨fun x=>cmpF_ord.swo.irrefl x.1,fun x y z=>cmpF_ord.swo.trans x.1 y.1 z.1,fun x y z=>cmpF_ord.swo.ntrans x.1 y.1 z.1⟩
theorem qEe{S:List F}(hS:∀(a b:Nat) x y,a<b→S[a]? =some x→S[b]? =some y→¬fP y x<0){i:Nat}{e y:F}(hi:S[i+1]? =some e)(hy:S[i]? =some y)(hne:fP y e≠0):∀x∈S.take (i+1),fP x e<0:=by
 have h1:fP y e<0:=cmpF_ord.ge_pos (hS i (i+1) y e (by omega) hy hi) (cmpF_ord.ne_comm hne)
 intro x hx
 have w_:=List.mem_iff_getElem?.1 hx
 obtain⟨t,ht⟩:=w_
 rw[List.getElem?_take]at ht
 split at ht
 ·rename_i hlt
  refine cmpF_ord.le_lt ?_ h1
  rcases Nat.lt_or_ge t i with k|k
  ·exact hS t i x y k ht hy
  ·obtain rfl : t = i := by omega
   rw[hy]at ht;cases ht
   exact cmpF_ord.irrefl _
 ·cases ht
def FElts(μ:Mem)(l:List FE):Prop:=∀p∈l,RepV μ p.1.fc.d p.2
section
variable {μ h0:Mem} {r:Nat} {ty:TypeId} {rest:List Value}
theorem FElts.mono{μ':Mem}{l:List FE}(h:FElts μ l)(hle:μ.Le μ'):FElts μ' l:=fun p hp=>RepV.mono hle (h p hp)
theorem FElts.perm{l m:List FE}(h:FElts μ l)(p:m.Perm l):FElts μ m:=fun q hq=>h q (p.mem_iff.1 hq)
theorem FElts.els{d:Array FE}(h:FElts μ d.toList):Els 2 (d.map Prod.snd):=fun x hx=>by
 simp only[Array.toList_map,List.mem_map]at hx
 obtain⟨p,hp,rfl⟩:=hx
 have w_:=F.inv (h p hp)
 obtain⟨q,e,_⟩:=w_
 rw[e]
 exact⟨rfl,fun u hu=>by simp only[aB,List.mem_cons,List.not_mem_nil,or_false]at hu;rcases hu with rfl|rfl<;>rfl⟩
theorem FElts.at{d:Array FE}{n:Nat}(h:FElts μ d.toList)(hn:d.size=n){i:Nat}(hi:i<n):∃p:Fc.P,d[i]!.2= .agg (d[i]!.1.cs p).toArray∧RepV μ d[i]!.1.fc.d (.agg (d[i]!.1.cs p).toArray):=by
 have hm:d[i]!∈d.toList:=by
  rw[getElem!_pos d i (by omega)]
  exact Array.getElem_mem_toList _
 have hv:=h _ hm
 have w_:=F.inv hv
 obtain⟨p,e,_⟩:=w_
 rw[e]at hv
 exact⟨p,e,hv⟩
theorem rdO{h:Mem}{b:Nat}{d:Array Value}{i:Nat}{x y:Value}{K:List Value→Prop}(hb:h b=some (.cells (List.toArray (d.toList.flatMap aB++rest)) ty (0,0)))(hE:Els 2 d)(hi:i<d.size)(e:d[i]! = .agg #[x,y])(k:K [x,y]):extVC μ h ⟨b,i*2,none⟩ 2 K:=by
 have hh:RowV h b ty rest d=h:=funext fun k=>by
  rw[RowV]
  by_cases e:k=b
  ·subst e;rw[Mem.set_at,hb]
  ·rw[Mem.set_ne e]
 refine oIn [x,y] rfl (fun j z hz=>?_) k
 rw[Addr.add_lit']
 rw[←hh]
 refine RowV.cell hE hi ?_
 rw[e]
 exact hz
theorem tA{rs n cap i j:Nat}{d:Array FE}(hs:h0 rs=some (.cells #[.slice (some ⟨r,0,none⟩) n cap] 39 (0,0)))(hne:rs≠r)(hP:FElts μ d.toList)(hn:d.size=n)(hi:i<n)(hj:j<n):
  SpecH Tryz.prog 69 [.int .i64 i,.int .i64 j,.pointer (some ⟨rs,0,none⟩)] μ (RowV h0 r ty rest (d.map Prod.snd)) fun v μ' h'=>v= .bool (ltF d[i]! d[j]!)∧μ'=μ∧h'=RowV h0 r ty rest (d.map Prod.snd):=by
 have hrs:RowV h0 r ty rest (d.map Prod.snd) rs=some (.cells #[.slice (some ⟨r,0,none⟩) n cap] 39 (0,0)):=(Mem.set_ne hne).trans hs
 have hb:RowV h0 r ty rest (d.map Prod.snd) r=some (.cells (List.toArray ((d.map Prod.snd).toList.flatMap aB++rest)) ty (0,0)):=Mem.set_at _ _ _
 have w_:=hP.at hn hi
 obtain⟨p,e1,hs1⟩:=w_
 have w_:=hP.at hn hj
 obtain⟨q,e2,hs2⟩:=w_
 refine SpecH.mk [] Tryz.func69 (by kernel_rfl) ?_
 refine oIn [.slice (some ⟨r,0,none⟩) n cap] rfl (bX hrs) ?_
 refine qAr i rfl hi ?_
 refine rdO hb hP.els (by simpa[hn]using hi) ((mO (by omega)).trans e1) ?_
 refine oIn [.slice (some ⟨r,0,none⟩) n cap] rfl (bX hrs) ?_
 refine qAr j rfl hj ?_
 refine rdO hb hP.els (by simpa[hn]using hj) ((mO (by omega)).trans e2) ?_
 refine cGv (dG hs1 hs2) ?_
 exact rPl ⟨rfl,rfl,rfl⟩
end
def qLy(μ μ':Mem)(ys:List Value)(v:Value):Prop:=∃b c,∃g:Mem,v= .slice (some ⟨b,0,none⟩) ys.length c∧RowO g b c 46 2 ys∧g.Le μ'∧∀x,g x≠none→μ x=none
theorem fst_at{d:Array FE}{n i:Nat}(hn:d.size=n)(hi:i<n):(d.toList.map Prod.fst)[i]? =some d[i]!.1:=by
 rw[List.getElem?_map,getElem!_pos d i (by omega),Array.getElem?_toList,Array.getElem?_eq_getElem (by omega)]
 rfl
section
variable {μ:Mem}
set_option maxHeartbeats 8000000 in
theorem lM{l:List FE}{base:Option Addr}{cap:Nat}(hsrc:pQ μ base l.length 2 (l.map Prod.snd))(hE:FElts μ l)(hn:l.length≤100000000):
  Spec Tryz.prog 38 [.slice base l.length cap] μ fun v μ'=>∃l':List FE,(∃dl:List FE,dl.Perm l∧l'.Sublist dl)∧l'.map Prod.fst=iJ (l.map Prod.fst)∧qLy μ μ' (l'.map Prod.snd) v:=by
 generalize hvs:l.map Prod.snd=vs at hsrc
 have hvl:vs.length=l.length:=by rw[←hvs,List.length_map]
 refine Spec.mkO [3,7,14] Tryz.func38 (by kernel_rfl) ?_
 intro r22 hm22 ho22
 refine bB _ hsrc ?_
 refine jQ [] rfl ⟨[],Mem.set_at _ _ _,by simp,by simp,by simp,rfl,rfl⟩ ?_ ?_ fun b c o hrow hor=>?_
 ·show(0+_)*40≤_;omega
 ·exact Nat.le_trans (m:=2000000000) (by omega) (by decide)
 generalize hH1:Mem.set (Mem.set _ r22 _) b o=H1
 have hB1:RowO H1 b c 46 2 vs:=by rw[←hH1];exact hrow
 have hap1:Apart μ H1:=by
  rw[←hH1]
  refine((eS μ).set hm22).set ?_
  rcases hor with rfl|h
  ·exact hm22
  ·exact h.2
 clear hrow hor hH1 hm22 ho22
 have hN:0+vs.length=l.length:=by omega
 rw[hN]
 intro r5 hm5 ho5
 refine sIn [.slice none 0 0] 39 (Mem.set_at _ _ _) rfl (Nat.le_refl _) ?_
 obtain⟨cs,hcell,hlen0,hcap,hone,hcs,htake⟩:=hB1
 obtain⟨rest,rfl⟩:∃rest,cs=vs.flatMap aB++rest:=by
  refine⟨cs.drop (vs.length*2),?_⟩
  conv=>lhs;rw[←List.take_append_drop (vs.length*2) cs,htake]
 have hne:r5≠b:=fun e=>by
  have h5:H1 r5=none:=ho5
  rw[e,hcell]at h5;cases h5
 obtain⟨h0,hh0,hsplit⟩:∃h0:Mem,h0 r5=some (.cells #[.slice (some ⟨b,0,none⟩) l.length c] 39 (0,0))∧((H1.set r5 (.cells #[.slice none 0 0] 39 (0,0))).set r5 (.cells #[.slice (some ⟨b,0,none⟩) l.length c] 39 (0,0)))=RowV h0 b 46 rest vs.toArray:=by
  refine⟨fun k=>if k=b then none else((H1.set r5 (.cells #[.slice none 0 0] 39 (0,0))).set r5 (.cells #[.slice (some ⟨b,0,none⟩) l.length c] 39 (0,0))) k,by simp only[if_neg hne];exact Mem.set_at _ _ _,funext fun k=>?_⟩
  rw[RowV]
  by_cases e:k=b
  ·subst e;rw[Mem.set_ne (Ne.symm hne),Mem.set_ne (Ne.symm hne),hcell,Mem.set_at]
  ·conv => rhs; rw [Mem.set_ne e]
   rw[if_neg e]
 have hap2:Apart μ (RowV h0 b 46 rest vs.toArray):=by
  rw[←hsplit]
  exact(hap1.set hm5).set hm5
 have ea:vs.toArray=l.toArray.map Prod.snd:=by simp[hvs]
 have hzn:l.toArray.size=l.length:=by simp
 have hspec:=tB (μ:=μ) (h0:=h0) (r:=b) (ty:=46) (rest:=rest) (cap:=c) (d0:=l.toArray) (lf:=69) (lb:=[.pointer (some ⟨r5,0,none⟩)]) (enc:=Prod.snd) slFact (ttok.get rfl) (fun h=>nomatch h) (FElts.els (μ:=μ) (by simpa using hE)) hzn (by omega) swo_ltF
  fun {μ' d i j} hle' hV hi hj=>tA hh0 hne (FElts.perm (FElts.mono (by simpa using hE) hle') (sI hzn hV)) (hV.1.trans hzn) hi hj
 rw[←ea,←hsplit]at hspec
 refine oIn [.slice (some ⟨b,0,none⟩) l.length c] rfl (bX (Mem.set_at _ _ _)) ?_
 refine cOw hspec fun v μ2 h2 hle2 hap3 hR=>?_
 obtain⟨rfl,d',p1,p2,rfl⟩:=hR
 have hdn:d'.size=l.length:=p1.1.trans hzn
 have hpd:d'.toList.Perm l:=by simpa using sI hzn p1
 have hP2:FElts μ2 d'.toList:=FElts.perm (hE.mono hle2) hpd
 generalize hS:d'.toList.map Prod.fst=S
 have hSp:S.Perm (l.map Prod.fst):=by rw[←hS];exact hpd.map _
 have hSl:S.length=l.length:=by rw[hSp.length_eq,List.length_map]
 have hSat:∀i,i<l.length→S[i]? =some d'[i]!.1:=fun i hi=>by rw[←hS];exact fst_at hdn hi
 have hSS:∀(a b:Nat) x y,a<b→S[a]? =some x→S[b]? =some y→¬fP y x<0:=fun a b' x y hab hx hy=>by
  have hb':=(List.getElem?_eq_some_iff.1 hy).1
  have h3:=p2 a b' (Nat.zero_le _) hab (by omega)
  have h4:=hSat a (by omega)
  have h5:=hSat b' (by omega)
  rw[hx]at h4;rw[hy]at h5
  cases h4;cases h5
  simpa[ltF]using h3
 have hrs:RowV h0 b 46 rest (d'.map Prod.snd) r5=some (.cells #[.slice (some ⟨b,0,none⟩) l.length c] 39 (0,0)):=(Mem.set_ne hne).trans hh0
 have hbb:RowV h0 b 46 rest (d'.map Prod.snd) b=some (.cells (List.toArray ((d'.map Prod.snd).toList.flatMap aB++rest)) 46 (0,0)):=Mem.set_at _ _ _
 clear hspec hsplit hcell hap2 ho5 hm5 hap1 p1 ea htake hcs hone hcap hlen0 hh0
 generalize hHH:RowV h0 b 46 rest (d'.map Prod.snd)=HH at*
 clear hHH
 intro r14 hm14 ho14
 have hr5:r5≠r14:=fun e=>by
  have h5:HH r14=none:=ho14
  rw[←e,hrs]at h5;cases h5
 have hrb:b≠r14:=fun e=>by
  have h5:HH r14=none:=ho14
  rw[←e,hbb]at h5;cases h5
 have hrs0:∀o,(HH.set r14 o) r5=some (.cells #[.slice (some ⟨b,0,none⟩) l.length c] 39 (0,0)):=fun o=>(Mem.set_ne hr5).trans hrs
 have hbb0:∀o,(HH.set r14 o) b=some (.cells (List.toArray ((d'.map Prod.snd).toList.flatMap aB++rest)) 46 (0,0)):=fun o=>(Mem.set_ne hrb).trans hbb
 refine oIn [.slice (some ⟨b,0,none⟩) l.length c] rfl (bX (hrs0 _)) ?_
 refine lIn (fun p:Nat×Nat×Nat×List FE×Mem=>p.1≤l.length∧RowO p.2.2.2.2 p.2.1 p.2.2.1 46 2 (p.2.2.2.1.map Prod.snd)∧Apart μ2 p.2.2.2.2∧p.2.1≠r5∧p.2.1≠b∧p.2.2.2.2 r5=some (.cells #[.slice (some ⟨b,0,none⟩) l.length c] 39 (0,0))∧p.2.2.2.2 b=some (.cells (List.toArray ((d'.map Prod.snd).toList.flatMap aB++rest)) 46 (0,0))∧
   Asc3 fP (p.2.2.2.1.map Prod.fst)∧p.2.2.2.1.length≤p.1∧(∀x,x∈p.2.2.2.1.map Prod.fst↔x∈S.take p.1)∧p.2.2.2.1.Sublist (d'.toList.take p.1))
  (fun(i,b',c',acc,h)=>⟨[(3,.val (.pointer (some ⟨r5,0,none⟩))),(4,.val (.slice (some ⟨b',0,none⟩) acc.length c')),(15,.val (.slice (some ⟨b,0,none⟩) l.length c)),(16,.val (.int .i64 l.length)),(17,.val (.int .i64 i))],[],0,μ2,h⟩) (fun p=>l.length-p.1)
  (0,r14,0,[],_) ⟨Nat.zero_le _,⟨[],Mem.set_at _ _ _,by simp,by simp,by simp,rfl,rfl⟩,hap3.set hm14,hr5.symm,hrb.symm,hrs0 _,hbb0 _,List.Pairwise.nil,Nat.le_refl _,by simp,by simp⟩ (fun(_,_,_,_,_)=>⟨rfl,rfl⟩) ⟨⟨rfl,rfl,rfl,rfl,rfl,trivial⟩,trivial,rfl,rfl⟩ ?_
 clear hrs0 hbb0 hrs hbb hap3 ho14 hm14 hr5 hrb
 rintro⟨i,b',c',acc,h⟩ ⟨hi,hro,hap,hn5,hnb,hrs,hbb,hasc,hlen,hmem,hsub⟩
 dsimp only at hi hro hap hn5 hnb hrs hbb hasc hlen hmem hsub
 refine ifd (fun hlt=>?_) (fun hlt=>?_)
 rotate_left
 ·obtain rfl : i = l.length := by omega
  rw[←hSl,List.take_length]at hmem
  refine dJ _ Mem.nil (Parts.nil_right _) ?_
  refine⟨acc,⟨d'.toList,hpd,hsub.trans (List.take_sublist _ _)⟩,Asc3.uniq cmpF_ord hasc (vI _) fun x=>by rw[hmem,qEz,hSp.mem_iff],?_⟩
  have hro0:=hro
  obtain⟨cs,hcell,hrest⟩:=hro
  refine⟨b',c',Mem.nil.set b' (.cells cs.toArray 46 (0,0)),by rw[List.length_map],⟨cs,Mem.set_at _ _ _,hrest⟩,fun x o hx=>?_,fun x hx=>?_⟩
  ·by_cases e : x = b'
   ·subst e
    rw[Mem.set_at]at hx
    rw[←hx,←hcell]
    exact(Mem.le_join_right hap) _ _ hcell |>.trans hcell.symm
   ·rw[Mem.set_ne e]at hx;cases hx
  ·by_cases e : x = b'
   ·subst e
    have h6:μ2 x=none:=hap.symm x (by rw[hcell];simp)
    cases e2:μ x with
    |none=>rfl
    |some o=>have h7:μ2 x=some o:=hle2 x o e2;rw[h6]at h7;cases h7
   ·rw[Mem.set_ne e]at hx;exact absurd rfl hx
 have hlt:i<l.length:=by omega
 have w_:=hP2.at hdn hlt
 obtain⟨p,ee,hre⟩:=w_
 have hei:=hSat i hlt
 have hdi:d'.toList[i]? =some d'[i]!:=by rw[getElem!_pos d' i (by omega),Array.getElem?_toList,Array.getElem?_eq_getElem (by omega)]
 have htk:∀x,x∈S.take (i+1)↔x∈S.take i∨x=d'[i]!.1:=fun x=>by
  rw[List.take_add_one,hei,Option.toList_some,List.mem_append,List.mem_singleton]
 refine qAr i rfl hlt ?_
 refine rdO hbb hP2.els (by simpa[hdn]using hlt) ((mO (by omega)).trans ee) ?_
 intro r6
 have hnext:(∀x∈S.take i,fP x d'[i]!.1<0)→Asc3 fP ((acc++[d'[i]!]).map Prod.fst)∧(∀x,x∈(acc++[d'[i]!]).map Prod.fst↔x∈S.take (i+1)):=fun hnew=>by
  rw[List.map_append,List.map_cons,List.map_nil]
  refine⟨?_,fun x=>?_⟩
  ·rw [Asc3, List.pairwise_append]
   exact⟨hasc,List.pairwise_singleton _ _,fun x hx y hy=>by rw[List.mem_singleton.1 hy];exact hnew x ((hmem x).1 hx)⟩
  ·rw[List.mem_append,List.mem_singleton,hmem,htk]
 refine ifd (fun h0=>?_) (fun h0=>?_)
 ·have hnew : ∀ x ∈ S.take i, fP x d'[i]!.1 < 0 := by rw [show i = 0 by omega]; simp
  intro r36
  refine jQ _ (List.length_map ..) hro ?_ ?_ fun b9 c9 o hrow hor=>?_
  ·show(acc.length+1)*40≤_;omega
  ·exact Nat.le_trans (m:=2000000000) (show acc.length+1≤_ by omega) (by decide)
  have hn:=hnext hnew
  have h9:b9≠r5∧b9≠b:=by
   rcases hor with rfl|h9
   ·exact⟨hn5,hnb⟩
   ·have h91 : h b9 = none := h9.1
    refine⟨fun e=>?_,fun e=>?_⟩
    ·rw[e,hrs]at h91;cases h91
    ·rw[e,hbb]at h91;cases h91
  refine aC (by omega) (by omega) ⟨(i+1,b9,c9,acc++[d'[i]!],_),⟨by dsimp only;omega,?_,hap.set (rS hro hap hor),h9.1,h9.2,(Mem.set_ne h9.1.symm).trans hrs,(Mem.set_ne h9.2.symm).trans hbb,hn.1,by dsimp only;rw[List.length_append];simp;omega,hn.2,?_⟩,by dsimp only;omega,⟨⟨rfl,?_,rfl,rfl,rfl,trivial⟩,trivial,rfl,rfl⟩⟩
  ·dsimp only
   rw[List.map_append,List.map_cons,List.map_nil,ee]
   exact hrow
  ·dsimp only
   rw[List.take_add_one,hdi,Option.toList_some]
   exact hsub.append (List.Sublist.refl _)
  ·dsimp only;rw[List.length_append];rfl
 ·obtain ⟨i, rfl⟩ : ∃ k, i = k + 1 := ⟨i - 1, by omega⟩
  have hit2:i<l.length:=by omega
  have w_:=hP2.at hdn hit2
  obtain⟨q,eq,hsq⟩:=w_
  have hqi:=hSat i hit2
  refine oIn [.slice (some ⟨b,0,none⟩) l.length c] rfl (bX hrs) ?_
  refine nEq (x:=(i:Int)) (by rw[aA (by omega) (by omega)];omega) ?_
  refine qAr i rfl hit2 ?_
  refine rdO hbb hP2.els (by simpa[hdn]using hit2) ((mO (by omega)).trans eq) ?_
  refine cGv (dG hsq hre) ?_
  refine aM (fun hc=>?_) (fun hc=>?_)
  ·have hnew : ∀ x ∈ S.take (i + 1), fP x d'[i + 1]!.1 < 0 := qEe hSS hei hqi hc
   generalize i+1=i at*
   intro r36
   refine jQ _ (List.length_map ..) hro ?_ ?_ fun b9 c9 o hrow hor=>?_
   ·show(acc.length+1)*40≤_;omega
   ·exact Nat.le_trans (m:=2000000000) (show acc.length+1≤_ by omega) (by decide)
   have hn:=hnext hnew
   have h9:b9≠r5∧b9≠b:=by
    rcases hor with rfl|h9
    ·exact⟨hn5,hnb⟩
    ·have h91 : h b9 = none := h9.1
     refine⟨fun e=>?_,fun e=>?_⟩
     ·rw[e,hrs]at h91;cases h91
     ·rw[e,hbb]at h91;cases h91
   refine aC (by omega) (by omega) ⟨(i+1,b9,c9,acc++[d'[i]!],_),⟨by dsimp only;omega,?_,hap.set (rS hro hap hor),h9.1,h9.2,(Mem.set_ne h9.1.symm).trans hrs,(Mem.set_ne h9.2.symm).trans hbb,hn.1,by dsimp only;rw[List.length_append];simp;omega,hn.2,?_⟩,by dsimp only;omega,⟨⟨rfl,?_,rfl,rfl,rfl,trivial⟩,trivial,rfl,rfl⟩⟩
   ·dsimp only
    rw[List.map_append,List.map_cons,List.map_nil,ee]
    exact hrow
   ·dsimp only
    rw[List.take_add_one,hdi,Option.toList_some]
    exact hsub.append (List.Sublist.refl _)
   ·dsimp only;rw[List.length_append];rfl
  ·refine aC (by omega) (by omega) ⟨(i + 1 + 1, b', c', acc, h), ⟨by dsimp only; omega, hro, hap, hn5, hnb, hrs, hbb, hasc, by dsimp only; omega, fun x => ?_, hsub.trans (by rw [List.take_add_one (i := i + 1)]; exact List.sublist_append_left _ _)⟩, by dsimp only; omega, ⟨⟨rfl, rfl, rfl, rfl, rfl, trivial⟩, trivial, rfl, rfl⟩⟩
   dsimp only
   rw[hmem,htk,←(cmpF_ord.zero _ _).1 hc,List.take_add_one,hqi]
   simp
theorem qMw{l l':List FE}(h:∃dl:List FE,dl.Perm l∧l'.Sublist dl):∀p∈l',p∈l:=fun p hp=>by
 obtain⟨dl,h1,h2⟩:=h
 exact h1.mem_iff.1 (h2.subset hp)
theorem FElts.zip:∀{L:List F} {vs:List Value},Rows μ 2 ((L.map F.fc).map Fc.d) vs→FElts μ (L.zip vs)
 |[],_,_=>fun p hp=>by simp at hp
 |x::L,_,.cons h _ r=>fun p hp=>by
  rcases List.mem_cons.1 hp with rfl|hp
  ·exact h
  ·exact FElts.zip r p hp
theorem FElts.rows:∀{l:List FE},FElts μ l→Rows μ 2 (((l.map Prod.fst).map F.fc).map Fc.d) (l.map Prod.snd)
 |[],_=> .nil
 |p::l,h=> .cons (h p (by simp)) (Fc.d_n _) (FElts.rows fun q hq=>h q (List.mem_cons_of_mem _ hq))
theorem qIa{L:List F}{vs:List Value}(h:L.length=vs.length):(L.zip vs).map Prod.fst=L:=List.map_fst_zip (by omega)
theorem qHu{L:List F}{vs:List Value}(h:L.length=vs.length):(L.zip vs).map Prod.snd=vs:=List.map_snd_zip (by omega)
theorem uH{L:List F}{v:Value}(h:FsV μ L v)(hn:L.length≤100000000):
  Spec Tryz.prog 38 [v] μ fun v μ'=>FsV μ' (iJ L) v:=by
 have w_:=FsV.sl h
 obtain⟨b,c,rfl,hlc,hs⟩:=w_
 have w_:=Rep.srcAll h
 obtain⟨vs,hrows,hvl,hsrc⟩:=w_
 have hE:=FElts.zip hrows
 have hl:(L.zip vs).length=L.length:=by rw[List.length_zip];omega
 have:=lM (l:=L.zip vs) (base:=b) (cap:=c) (by rw[hl,qHu (by omega)];exact hsrc) hE (by omega)
 rw[hl]at this
 refine this.weaken fun v μ' hle hR=>?_
 obtain⟨l',h1,h2,bb,cc,g,rfl,hro,hg,_⟩:=hR
 replace h1:=qMw h1
 have hE':FElts μ' l':=fun p hp=>RepV.mono hle (hE p (h1 p hp))
 rw[qIa (by omega)]at h2
 have:=hro.rep hg hE'.rows
 rw[h2]at this
 exact this
end
end Go.Vx
namespace Go.Vx
open Go.Proofs Classical
theorem qJc{L:List F}(h:Asc3 fP L){i j:Nat}{x y:F}(hij:i<j)(hx:L[i]? =some x)(hy:L[j]? =some y):fP x y<0:=by
 have w_:=List.getElem?_eq_some_iff.1 hx
 obtain⟨h1,rfl⟩:=w_
 have w_:=List.getElem?_eq_some_iff.1 hy
 obtain⟨h2,rfl⟩:=w_
 exact List.pairwise_iff_getElem.1 h i j h1 h2 hij
def qDv(L:List F)(f:F)(i:Int):Prop:=∃x,L[i.toNat]? =some x∧0≤fP x f
section
variable {μ:Mem}
theorem qIo{r:Nat}{x y:Value}{ty:TypeId}(h:μ r=some (.cells #[x,y] ty (0,0))):∀j v,[x,y][j]? =some v→μ.cell ((⟨r,0,none⟩:Addr).add j)=some v:=fun j v hj=>by
 match j,hj with
 |0,hj=>cases hj;simp[Mem.cell,Addr.add_lit',h]
 |1,hj=>cases hj;simp[Mem.cell,Addr.add_lit',h]
theorem xT{L:List F}{f:F}{b:Option Addr}{c i r1 r2:Nat}{p:Fc.P}(hs:Sl μ 2 b L.length ((L.map F.fc).map Fc.d))(hf:RepV μ f.fc.d (.agg #[.string f.rel,.slice p.1 f.args.length p.2]))
  (h1:μ r1=some (.cells #[.slice b L.length c] 39 (0,0))) (h2:μ r2=some (.cells #[.string f.rel,.slice p.1 f.args.length p.2] 46 (0,0))) (hi:i<L.length):
  aP Tryz.prog 145 [.int .i64 i,.pointer (some ⟨r1,0,none⟩),.pointer (some ⟨r2,0,none⟩)] μ (.bool (decide (qDv L f i))):=by
 have w_:=aSo (l:=L) (i:=i) hi
 obtain⟨x,hx⟩:=w_
 have w_:=F.elem hs hx
 obtain⟨ad,q,hel,hrx,_⟩:=w_
 refine Spec.mk Tryz.func145 (by kernel_rfl) ?_
 refine bM [.slice b L.length c] rfl (bX h1) ?_
 refine eIn hel ?_
 refine bM [.string f.rel,.slice p.1 f.args.length p.2] rfl (qIo h2) ?_
 refine cGv (dG hrx hf) ?_
 refine rGv (isI ?_) rfl
 constructor
 ·intro h;exact⟨x,hx,h⟩
 ·rintro ⟨y, hy, h⟩
  have hy:L[i]? =some y:=hy
  rw[hx]at hy;cases hy;exact h
theorem pG{L:List F}{f:F}{b:Option Addr}{c:Nat}{w:Value}(hL:Asc3 fP L)(hn:L.length≤1000000000)(hs:Sl μ 2 b L.length ((L.map F.fc).map Fc.d))(hf:RepV μ f.fc.d w):
  aP Tryz.prog 114 [.slice b L.length c,w] μ (.bool (decide (f∈L))):=by
 have hf0:=hf
 have w_:=F.inv hf
 obtain⟨p,rfl,hfs⟩:=w_
 refine Spec.forget (Spec.mk Tryz.func114 (by kernel_rfl) ?_)
 intro r1 r2
 refine bD [0,1] ?_
 intro μ1 hle1 hno1 hat1 μ2 hle2 hno2 hat2
 have hs2:=(hs.mono hle1).mono hle2
 have hf2:=(hf0.mono hle1).mono hle2
 have e1:μ2 r1=some (.cells #[.slice b L.length c] 39 (0,0)):=hle2 _ _ hat1
 refine cD (qEr (p:=qDv L f) hn fun i hi=>xT hs2 hf2 e1 hat2 hi) fun v μ3 hle3 hR=>?_
 obtain⟨⟨i,rfl,g1,g2,g3⟩,rfl⟩:=hR
 have low:∀(j:Nat),j<i→L[j]?≠some f:=fun j hj hb=>by
  have w_:=aSo (l:=L) (i:=i-1) (by omega)
  obtain⟨y,hy⟩:=w_
  refine g3 (i-1) (by omega) ⟨y,hy,?_⟩
  rcases Nat.lt_or_ge j (i-1)with h|h
  ·have := qJc hL h hb hy
   have:=(cmpF_ord.anti f y).1 this
   omega
  ·obtain rfl : j = i - 1 := by omega
   rw[hb]at hy;cases hy
   have:=(cmpF_ord.zero f f).2 rfl
   omega
 have none:(∀x,L[i]? =some x→fP x f≠0)→f∉L:=fun h hm=>by
  have w_:=List.mem_iff_getElem?.1 hm
  obtain⟨j,hj⟩:=w_
  rcases Nat.lt_or_ge j i with h1|h1
  ·exact low j h1 hj
  ·have hjl := (List.getElem?_eq_some_iff.1 hj).1
   have w_:=aSo (l:=L) (i:=i) (by omega)
   obtain⟨x,hx⟩:=w_
   have w_:=g2 (by omega)
   obtain⟨x',hx',h2⟩:=w_
   have hx':L[i]? =some x':=hx'
   rw[hx]at hx';cases hx'
   have h4:=h x hx
   rcases Nat.eq_or_lt_of_le h1 with h3|h3
   ·subst h3;rw[hj]at hx;cases hx;exact h4 ((cmpF_ord.zero f f).2 rfl)
   ·have:=qJc hL h3 hx hj;omega
 refine bM [.slice b L.length c] rfl (bX e1) ?_
 refine ifd (fun h=>?_) (fun h=>?_)
 ·have w_ := aSo (l := L) (i := i) (by omega)
  obtain⟨x,hx⟩:=w_
  have w_:=F.elem hs2 hx
  obtain⟨ad,q,hel,hrx,_⟩:=w_
  refine bM [.slice b L.length c] rfl (bX e1) ?_
  refine eIn hel ?_
  refine bM [.string f.rel,.slice p.1 f.args.length p.2] rfl (qIo hat2) ?_
  refine cGv (dG hrx hf2) ?_
  refine rPl (isI ?_)
  constructor
  ·intro e;rw[←(cmpF_ord.zero _ _).1 e];exact mAt hx
  ·intro hm
   refine Classical.byContradiction fun k=>none (fun y hy=>?_) hm
   rw[hx]at hy;cases hy;exact k
 ·refine rPl (isF (none fun x hx => ?_))
  have:=(List.getElem?_eq_some_iff.1 hx).1
  omega
theorem wD{L M:List F}{b b2:Option Addr}{c c2:Nat}(hs:Sl μ 2 b L.length ((L.map F.fc).map Fc.d))(hs2:Sl μ 2 b2 M.length ((M.map F.fc).map Fc.d)):
  aP Tryz.prog 75 [.slice b L.length c,.slice b2 M.length c2] μ (.bool (decide (L=M))):=by
 have hm1:=aJ hs.max
 refine Spec.mk Tryz.func75 (by kernel_rfl) ?_
 refine aM (fun h=>rGv (isF fun k=>h (by rw[k])) rfl) (fun he=>?_)
 refine lIn (fun k:Nat=>k≤L.length∧∀j,j<k→L[j]? =M[j]?)
  (fun k=>⟨[(0,.val (.slice b L.length c)),(1,.val (.slice b2 M.length c2)),(12,.val (.int .i64 L.length)),(13,.val (.int .i64 k))],[],0,μ,Mem.nil⟩) (fun k=>L.length-k)
  0 ⟨Nat.zero_le _,fun j h=>by omega⟩ (fun _=>⟨rfl,rfl⟩) ⟨⟨rfl,rfl,rfl,rfl,trivial⟩,trivial,rfl,rfl⟩ ?_
 rintro k ⟨hk,hall⟩
 refine ifd (fun hlt=>?_) (fun hlt=>?_)
 ·have w_ := aSo (l := L) (i := k) (by omega)
  obtain⟨x,hx⟩:=w_
  have w_:=aSo (l:=M) (i:=k) (by omega)
  obtain⟨y,hy⟩:=w_
  have w_:=F.elem hs hx
  obtain⟨ad,q,hel,hrx,_⟩:=w_
  have w_:=F.elem hs2 hy
  obtain⟨ad2,q2,hel2,hry,_⟩:=w_
  refine eIn hel (eIn hel2 ?_)
  refine cGv (dG hrx hry) ?_
  refine aM (fun h=>rGv (isF fun e=>h ?_) rfl) (fun h=>?_)
  ·subst e
   rw[hx]at hy;cases hy
   exact(cmpF_ord.zero _ _).2 rfl
  ·refine aC (by omega) (by omega) ⟨k + 1, ⟨by omega, fun j hj => ?_⟩, by omega, ⟨⟨rfl, rfl, rfl, rfl, trivial⟩, trivial, rfl, rfl⟩⟩
   rcases Nat.lt_or_ge j k with h6|h6
   ·exact hall j h6
   ·obtain rfl : j = k := by omega
    rw[hx,hy,(cmpF_ord.zero _ _).1 h]
 ·obtain rfl : k = L.length := by omega
  refine rGv (isT (List.ext_getElem? fun j=>?_)) rfl
  rcases Nat.lt_or_ge j L.length with h6|h6
  ·exact hall j h6
  ·rw[List.getElem?_eq_none h6,List.getElem?_eq_none (by omega)]
end
theorem qCs{α:Type}{l:List α}{j:Nat}{x:α}{P:α→Prop}(h:l[j]? =some x):(∀y∈l.take (j+1),P y)↔(∀y∈l.take j,P y)∧P x:=by
 rw[List.take_add_one,h,Option.toList_some]
 constructor
 ·exact fun k=>⟨fun y hy=>k y (List.mem_append_left _ hy),k x (by simp)⟩
 ·rintro ⟨h1, h2⟩ y hy
  rcases List.mem_append.1 hy with k|k
  ·exact h1 y k
  ·rw[List.mem_singleton.1 k];exact h2
section
variable {μ:Mem}
set_option maxHeartbeats 1000000 in
theorem pN{rs:List Ru}{S:List F}{b b3:Option Addr}{c c3:Nat}(hr:Sl μ 6 b3 rs.length ((rs.map Ru.rd).map RuD.d))(hn:rs.length≤10000000)(hS:Asc3 fP S)(hSn:S.length≤1000000000)(hs:Sl μ 2 b S.length ((S.map F.fc).map Fc.d)):
  Spec Tryz.prog 74 [.slice b3 rs.length c3,.slice b S.length c] μ fun r μ'=>FsV μ' (dD rs S S) r:=by
 refine Spec.mk Tryz.func74 (by kernel_rfl) ?_
 intro r13
 refine lIn (fun z:Nat×Option Nat×Nat×List Value=>z.1≤rs.length∧Rows μ 2 (((iZ rs S S z.1).map F.fc).map Fc.d) z.2.2.2)
  (fun(i,bo,co,ys)=>⟨[(1,.val (.slice b S.length c)),(5,.row 0 bo ys.length co),(14,.val (.slice b3 rs.length c3)),(15,.val (.int .i64 rs.length)),(16,.val (.int .i64 i))],[(0,some (.row bo co 46 2 ys))],1,μ,Mem.nil⟩) (fun z=>rs.length-z.1)
  (0,some r13,0,[]) ⟨Nat.zero_le _,by simpa[iZ]using .nil⟩ (fun(_,_,_,_)=>⟨rfl,rfl⟩) ⟨⟨rfl,rfl,rfl,rfl,rfl,trivial⟩,⟨rfl,trivial⟩,rfl,rfl⟩ ?_
 rintro⟨i,bo,co,ys⟩ ⟨hi,hrows⟩
 dsimp only at hi hrows
 have hyl:=hrows.len
 simp only[List.length_map]at hyl
 have hhl:=vE rs S S i
 refine ifd (fun hlt=>?_) (fun hlt=>?_)
 rotate_left
 ·obtain rfl : i = rs.length := by omega
  refine bD [0] ?_
  intro μ1 hle1 hno1 hat1
  have hrep:=Rows.sl hat1 (hrows.mono hle1) (Nat.le_trans (m:=100000000) (by omega) (by decide))
  refine cD (uH hrep (by omega)) fun v μ2 hle2 hR=>?_
  rw[wO]at hR
  exact rPl hR
 have w_:=aSo (l:=rs) (i:=i) (by omega)
 obtain⟨r,hri⟩:=w_
 have w_:=Ru.elem hr hri
 obtain⟨ad,p,hel,hrv,hat⟩:=w_
 have hsucc:=qCv (pos:=S) (neg:=S) hri
 refine eIn hel ?_
 intro r7
 have hmp:=aJ hat.pos.max
 have hmn:=aJ hat.neg.max
 refine lIn (fun z:Nat×Bool=>z.1≤r.pos.length∧(z.2=true↔∀f∈r.pos.take z.1,f∈S))
  (fun (j, fine) => ⟨[(1, .val (.slice b S.length c)), (5, .row 0 bo ys.length co), (7, .loc 1 r7 0), (8, .val (.bool fine)), (14, .val (.slice b3 rs.length c3)), (15, .val (.int .i64 rs.length)), (16, .val (.int .i64 i)), (21, .val (.slice p.2.2.1.1 r.pos.length p.2.2.1.2)), (22, .val (.int .i64 r.pos.length)), (23, .val (.int .i64 j))],
   [(0,some (.row bo co 46 2 ys)),(1,some (.cells r7 (vals (r.cs p)) 160))],2,μ,Mem.nil⟩) (fun z=>r.pos.length-z.1)
  (0,true) ⟨Nat.zero_le _,by simp⟩ (fun(_,_)=>⟨rfl,rfl⟩) ⟨⟨rfl,rfl,rfl,rfl,rfl,rfl,rfl,rfl,rfl,rfl,trivial⟩,⟨rfl,rfl,trivial⟩,rfl,rfl⟩ ?_
 rintro⟨j,fine⟩ ⟨hj,hfine⟩
 dsimp only at hj hfine
 refine ifd (fun hlt2=>?_) (fun hlt2=>?_)
 ·have w_ := aSo (l := r.pos) (i := j) (by omega)
  obtain⟨f,hf⟩:=w_
  have w_:=F.elem hat.pos hf
  obtain⟨ad2,p2,hel2,hrf,_⟩:=w_
  have hstep:=qCs (P:=fun f=>f∈S) hf
  refine eIn hel2 ?_
  intro r10
  refine iIn (fun hk=>?_) (fun hk=>?_)
  ·refine cGv (pG hS hSn hs hrf) ?_
   refine aC (by omega) (by omega) ⟨(j+1,decide (f∈S)),⟨by dsimp only;omega,?_⟩,by dsimp only;omega,⟨⟨rfl,rfl,rfl,rfl,rfl,rfl,rfl,rfl,rfl,rfl,trivial⟩,⟨rfl,rfl,trivial⟩,rfl,rfl⟩⟩
   dsimp only
   rw[hstep,←hfine,decide_eq_true_eq]
   exact⟨fun h=>⟨hk,h⟩,fun h=>h.2⟩
  ·refine aC (by omega) (by omega) ⟨(j + 1, false), ⟨by dsimp only; omega, ?_⟩, by dsimp only; omega, ⟨⟨rfl, rfl, rfl, rfl, rfl, rfl, rfl, rfl, rfl, rfl, trivial⟩, ⟨rfl, rfl, trivial⟩, rfl, rfl⟩⟩
   dsimp only
   rw[hstep,←hfine,hk]
   simp
 obtain rfl:j=r.pos.length:=by omega
 rw[List.take_length]at hfine
 refine lIn (fun z:Nat×Bool=>z.1≤r.neg.length∧(z.2=true↔(∀f∈r.pos,f∈S)∧∀f∈r.neg.take z.1,f∉S))
  (fun (j, fine) => ⟨[(1, .val (.slice b S.length c)), (5, .row 0 bo ys.length co), (7, .loc 1 r7 0), (8, .val (.bool fine)), (14, .val (.slice b3 rs.length c3)), (15, .val (.int .i64 rs.length)), (16, .val (.int .i64 i)), (35, .val (.slice p.2.2.2.1 r.neg.length p.2.2.2.2)), (36, .val (.int .i64 r.neg.length)), (37, .val (.int .i64 j))],
   [(0,some (.row bo co 46 2 ys)),(1,some (.cells r7 (vals (r.cs p)) 160))],2,μ,Mem.nil⟩) (fun z=>r.neg.length-z.1)
  (0,fine) ⟨Nat.zero_le _,by simpa using hfine⟩ (fun(_,_)=>⟨rfl,rfl⟩) ⟨⟨rfl,rfl,rfl,rfl,rfl,rfl,rfl,rfl,rfl,rfl,trivial⟩,⟨rfl,rfl,trivial⟩,rfl,rfl⟩ ?_
 clear hfine hlt2 hj
 rintro⟨j,fine⟩ ⟨hj,hfine⟩
 dsimp only at hj hfine
 refine ifd (fun hlt2=>?_) (fun hlt2=>?_)
 ·have w_ := aSo (l := r.neg) (i := j) (by omega)
  obtain⟨f,hf⟩:=w_
  have w_:=F.elem hat.neg hf
  obtain⟨ad2,p2,hel2,hrf,_⟩:=w_
  have hstep:=qCs (P:=fun f=>f∉S) hf
  refine eIn hel2 ?_
  intro r10
  refine iIn (fun hk=>?_) (fun hk=>?_)
  ·refine cGv (pG hS hSn hs hrf) ?_
   refine aC (by omega) (by omega) ⟨(j+1,!decide (f∈S)),⟨by dsimp only;omega,?_⟩,by dsimp only;omega,⟨⟨rfl,rfl,rfl,rfl,rfl,rfl,rfl,rfl,rfl,rfl,trivial⟩,⟨rfl,rfl,trivial⟩,rfl,rfl⟩⟩
   dsimp only
   rw[hstep,←and_assoc,←hfine,Bool.not_eq_true',decide_eq_false_iff_not]
   exact⟨fun h=>⟨hk,h⟩,fun h=>h.2⟩
  ·refine aC (by omega) (by omega) ⟨(j + 1, false), ⟨by dsimp only; omega, ?_⟩, by dsimp only; omega, ⟨⟨rfl, rfl, rfl, rfl, rfl, rfl, rfl, rfl, rfl, rfl, trivial⟩, ⟨rfl, rfl, trivial⟩, rfl, rfl⟩⟩
   dsimp only
   rw[hstep,←and_assoc,←hfine,hk]
   simp
 obtain rfl:j=r.neg.length:=by omega
 rw[List.take_length]at hfine
 replace hfine:fine=true↔sD S S r:=hfine
 refine iIn (fun hk=>?_) (fun hk=>?_)
 ·rw [if_pos (hfine.1 hk)] at hsucc
  intro r53
  refine gIn ?_ ?_ fun b' c' _=>?_
  ·show(ys.length+1)*40≤_;omega
  ·exact Nat.le_trans (m:=100000000) (show ys.length+1≤_ by omega) (by decide)
  refine aC (by omega) (by omega) ⟨(i+1,b',c',_),⟨by dsimp only;omega,?_⟩,by dsimp only;omega,⟨⟨rfl,rfl,rfl,rfl,rfl,trivial⟩,⟨rfl,trivial⟩,rfl,rfl⟩⟩
  dsimp only
  rw[hsucc]
  simp only[List.map_append,List.map_cons,List.map_nil]
  exact hrows.append (Rows.one hat.head (Fc.d_n _))
 ·rw [if_neg (fun k => by rw [hfine.2 k] at hk; cases hk), List.append_nil] at hsucc
  refine aC (by omega) (by omega) ⟨(i+1,bo,co,ys),⟨by dsimp only;omega,?_⟩,by dsimp only;omega,⟨⟨rfl,rfl,rfl,rfl,rfl,trivial⟩,⟨rfl,trivial⟩,rfl,rfl⟩⟩
  dsimp only
  rw[hsucc];exact hrows
set_option maxHeartbeats 1000000 in
set_option maxHeartbeats 1000000 in
end
end Go.Vx
namespace Go.Vx
open Go.Proofs Classical
structure RuOk (p:Pg) (r:Ru):Prop where
 head:FactFits p r.head.fc
 hlen:r.head.args.length≤4
 plen:∀f∈r.pos,f.args.length≤4
 pcnt:r.pos.length≤60
 pok:∀f∈r.pos,∀a∈f.args,a.ok
theorem uM{p:Pg}{u:List Tm}{rs:List Ru}(h:dL p u=some rs):rs.length≤2000∧∀r∈rs,RuOk p r:=by
 have hok:=pH h
 rw[dL,if_pos hok,cQ]at h
 split at h
 ·rename_i hw
  cases h
  refine⟨hw.2,fun r hr=>?_⟩
  have w_:=List.mem_flatMap.1 hr
  obtain⟨rel,hrel,hr⟩:=w_
  have w_:=List.mem_iff_getElem?.1 hrel
  obtain⟨k,hk⟩:=w_
  have hro:=hok.1.2 k rel hk
  rw[bU]at hr
  split at hr
  ·simp at hr
  ·rename_i L hL
   rw[bI,List.mem_flatMap]at hr
   obtain⟨i,hi,hr⟩:=hr
   rw[List.mem_range]at hi
   have w_:=aSo (l:=L) (i:=i) hi
   obtain⟨c,hc⟩:=w_
   have ec:L.getD i []=c:=by rw[List.getD_eq_getElem?_getD,hc];rfl
   rw[ec,bR,List.mem_filterMap]at hr
   obtain⟨w,-,hr⟩:=hr
   rw[fN]at hr
   split at hr
   ·rename_i hokg
    cases hr
    have hG:∀g∈c,ClG g:=fun g hg=>ClG.of hok.1 hk hL (mAt hc) hg
    have w_:=hok.2.lift
    obtain⟨U,hU,hUg,hUl⟩:=w_
    have e1:u.map Tm.toT=U:=by rw[hU,kJ]
    rw[e1]
    have h1:=hok.2.pos
    have har0:=hro.ar0
    have har4:=hro.ar4
    have hlo0:=hro.lo0
    have hlen:((gN U (rel.arity+rel.locals).toNat w).take rel.arity.toNat).length=rel.arity.toNat:=by
     rw[List.length_take,pJ];omega
    refine⟨⟨⟨k,rel,hro.at_,hk,?_⟩,fun t ht=>?_⟩,?_,qLp hG,Nat.le_trans qIx (Nat.le_trans ((Gl.cl_bnd _ hL).1 c (mAt hc)) hro.size),fun f hf a ha=>(hUg a ((okG_iff.1 (by rw[e1]at hokg;exact hokg)).2.1 f hf a ha)).1⟩
    ·show rel.arity = (((gN U (rel.arity + rel.locals).toNat w).take rel.arity.toNat).map T.tm).length
     rw[List.length_map,hlen];omega
    ·have w_ := List.mem_map.1 ht
     obtain⟨x,hx,rfl⟩:=w_
     have hx:=tY U (by omega) _ _ x (List.mem_of_mem_take hx)
     exact⟨T.ok.tm (hUg x hx).1,by rw[T.toT_tm];exact(hUg x hx).2⟩
    ·show ((gN U (rel.arity + rel.locals).toNat w).take rel.arity.toNat).length ≤ 4
     rw[hlen];omega
   ·cases hr
 ·cases h
theorem FactFits.len{p:Pg}(hp:p.Ok){f:Fc}(h:FactFits p f):f.args.length≤4:=by
 obtain⟨⟨k,r,h1,h2,h3⟩,_⟩:=h
 have:=(hp.2 k r h2).ar4
 omega
def FsOk(p:Pg)(L:List F):Prop:=∀f∈L,FactFits p f.fc
theorem FsOk.len{p:Pg}(hp:p.Ok){L:List F}(h:FsOk p L):∀f∈L,f.args.length≤4:=fun f hf=>by
 have:=(h f hf).len hp
 rwa [F.fc_args,List.length_map]at this
theorem lfp_ok{p:Pg}{rs:List Ru}{base:List F}(hr:∀r∈rs,RuOk p r)(hb:FsOk p base):FsOk p (lfp rs base):=fun f hf=>by
 cases mem_lfp.1 hf with
 |base h=>exact hb _ h
 |rule h _=>exact(hr _ h).head
section
variable {μ:Mem}
theorem yA{f:F}{v:Value}(hf:RepV μ f.fc.d v)(hl:f.args.length≤1000000):Spec Tryz.prog 76 [v] μ fun v μ'=>Fresh μ μ' f.fc.d v:=by
 have w_:=F.inv hf
 obtain⟨p,rfl,hfs⟩:=w_
 refine Spec.mk Tryz.func76 (by kernel_rfl) ?_
 intro r1 r2
 refine cPl (lX hfs hl) fun v1 μ1 hle1 hR=>?_
 have w_:=Rep.sl hR.rep
 obtain⟨b,c,rfl,-⟩:=w_
 refine rPl ?_
 have:=(FreshS.str (n:=f.rel) (FreshS.cons hR hle1 (Mem.Le.refl _) FreshS.nil)).st
 exact this
theorem vC{L:List F}{v:Value}(h:FsV μ L v)(hn:L.length≤10000000)(hl:∀f∈L,f.args.length≤1000000):
  Spec Tryz.prog 41 [v] μ fun v μ'=>Fresh μ μ' (.sl 2 ((L.map F.fc).map Fc.d)) v:=by
 have w_:=FsV.sl h
 obtain⟨base,cap,rfl,-,hsl⟩:=w_
 refine Spec.mk Tryz.func41 (by kernel_rfl) ?_
 intro r6
 refine lIn (fun p:Nat×Option Nat×Nat×List Value×Mem=>p.1≤L.length∧μ.Le p.2.2.2.2∧Grown 2 μ p.2.2.2.2 (((L.take p.1).map F.fc).map Fc.d) p.2.2.2.1)
  (fun(i,b,c,ys,μ')=>⟨[(3,.row 0 b ys.length c),(7,.val (.slice base L.length cap)),(8,.val (.int .i64 L.length)),(9,.val (.int .i64 i))],[(0,some (.row b c 46 2 ys))],1,μ',Mem.nil⟩) (fun p=>L.length-p.1)
  (0,some r6,0,[],μ) ⟨Nat.zero_le _,Mem.Le.refl _,Grown.nil _ _ _⟩ (fun(_,_,_,_,_)=>⟨rfl,rfl⟩) ⟨⟨rfl,rfl,rfl,rfl,trivial⟩,⟨rfl,trivial⟩,rfl,rfl⟩ ?_
 rintro⟨i,b,c,ys,μ'⟩ ⟨hi,hle,hgr⟩
 dsimp only at hi hle hgr
 have hyl:=hgr.len
 simp only[List.length_map,List.length_take]at hyl
 refine ifd (fun hlt=>?_) (fun hlt=>?_)
 ·have w_ := aSo (l := L) (i := i) (by omega)
  obtain⟨f,hf⟩:=w_
  have w_:=F.elem (hsl.mono hle) hf
  obtain⟨ad,p,hel,hrf,_⟩:=w_
  refine eIn hel ?_
  intro r5
  refine cPl (yA hrf (hl f (mAt hf))) fun v1 μ1 hle1 hR=>?_
  have w_:=F.inv hR.rep
  obtain⟨q,rfl,_⟩:=w_
  intro r16
  refine gIn ?_ ?_ fun b' c' _=>?_
  ·show(ys.length+1)*40≤_;omega
  ·exact Nat.le_trans (m:=100000000) (show ys.length+1≤_ by omega) (by decide)
  refine aC (by omega) (by omega) ⟨(i+1,b',c',_,μ1),⟨by dsimp only;omega,hle.trans hle1,?_⟩,by dsimp only;omega,⟨⟨rfl,rfl,rfl,rfl,trivial⟩,⟨rfl,trivial⟩,rfl,rfl⟩⟩
  dsimp only
  rw[List.take_add_one,hf,Option.toList_some]
  simp only[List.map_append,List.map_cons,List.map_nil]
  exact hgr.snoc hle hR hle1 (Fc.d_n _)
 ·obtain rfl : i = L.length := by omega
  rw[List.take_length]at hgr
  refine rFz [0] fun μ2 hle2 hno hrow=> .inl ?_
  exact hgr.fresh hle hle2 hno hrow (Nat.le_trans (m:=100000000) (by omega) (by decide))
end
end Go.Vx
