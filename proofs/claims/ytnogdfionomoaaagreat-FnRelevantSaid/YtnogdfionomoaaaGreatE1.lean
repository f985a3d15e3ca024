/- Texts of the proof, part E1. -/
import Derived.Below
import Derived.Carry
import Derived.ChangeArms
import Derived.MapKept
import Derived.Maps.RangeRun
import Derived.Orders
import Derived.RowKit3
import Derived.Sort.AssemblyPlain
import Derived.WalkKit
import Derived.WideKeyMaps
import Derived.Test.YtnogdfionomoaaaGreatM3
namespace Go.Vx
theorem iIn{fr b:Bool}{s:St}{A B:St→Prop}(h:b=true→A s)(k:b=false→B s):ifVC fr b s A B:=⟨.inl ⟨h,k⟩⟩
theorem mX{b:Bool}{s:St}{A B:St→Prop}(fz:List Nat)(h:eG fz s fun s=>(b=true→A s)∧(b=false→B s)):ifVC true b s A B:=⟨.inr ⟨rfl,fz,h⟩⟩
theorem nEq{r x:Int}{K:Int→Prop}(e:r=x)(h:K x):numVC r K:=⟨fun y hy=>by subst hy;subst e;exact h⟩
theorem sIn{h:Mem}{a:Addr}{vs:List Value}{K:Mem→Prop}(cs:List Value)(ty:TypeId)(e:h a.block=some (.cells cs.toArray ty (0,0)))(e1:a.spot=none)(e2:a.off+vs.length≤cs.length)(k:K (h.set a.block (.cells (List.toArray (cs.take a.off++vs++cs.drop (a.off+vs.length))) ty (0,0)))):stoVC h a vs K:=⟨⟨cs,ty,e,e1,e2,k⟩⟩
theorem fM{μ h:Mem}{r n cap:Nat}{ty:TypeId}{es bytes:Nat}{ys:List Value}{K:Nat→Nat→Mem→Prop}(xs:List Value)(e:xs.length=n)(hr:RowO h r cap ty es xs)(h1:(n+ys.length)*bytes≤140737488355328)(h2:n+ys.length≤maxLen)
  (k:∀r' cap' o,RowO (h.set r' o) r' cap' ty es (xs++ys)→(r'=r∨(h r'=none∧μ r'=none))→K r' cap' (h.set r' o)):appVC μ h r n cap ty es bytes ys K:=⟨⟨xs,ty,e,hr,h1,h2,fun r' c' o ty' ht=>by
 have:ty'=ty:=ht.elim id id
 subst this
 exact k r' c' o⟩⟩
theorem dP{μ h:Mem}{r:Nat}{ok:Value→Prop}{key:Value}{K:Option Value→Prop}(l:List (Value×Value))(o:Option Value)(hm:h r=some (eE l))(hk:MapOk ok l)(hok:ok key)(e:gD l key=o)(k:K o):lookVC μ h r ok key K:=⟨⟨hok,l,.inr hm,hk,by rw[e];exact k⟩⟩
theorem vT{μ h:Mem}{r:Nat}{K:Nat→Prop}(l:List (Value×Value))(hm:h r=some (eE l))(k:K l.length):mlenVC μ h r K:=⟨⟨l,.inr hm,k⟩⟩
theorem eN{h:Mem}{r:Nat}{ok:Value→Prop}{key val:Value}{K:Mem→Prop}(l:List (Value×Value))(hm:h r=some (eE l))(hk:MapOk ok l)(hok:ok key)(k:K (h.set r (eE (gZ l key val)))):updVC h r ok key val K:=⟨⟨hok,l,hm,hk,k⟩⟩
theorem vW{μ h:Mem}{r:Nat}{over:Prop}{K:Value→Value→Mem→Prop}(m:Nat)(seen:List Nat)(c:Nat)(l:List (Value×Value))(hr:h r=some (fJ m l.length seen c))(hm:h m=some (eE l))(hc:l.length≤c)
  (h1:(∀j,j<l.length→j∈seen)→over) (h2:∀(j:Nat) k v,l[j]? =some (k,v)→j∉seen→K k v (h.set r (fJ m l.length (seen++[j]) l.length))):nextVC μ h r over K:=⟨⟨m,seen,c,l,hr,.inr hm,hc,h1,h2⟩⟩
theorem yL{μ h:Mem}{r:Nat}{K:Value→Value→Prop}(m n:Nat)(seen:List Nat)(j:Nat)(l:List (Value×Value))(k v:Value)(hr:h r=some (fJ m n (seen++[j]) l.length))(hm:h m=some (eE l))(hj:l[j]? =some (k,v))(c:K k v):entVC μ h r K:=⟨⟨m,n,seen,j,l,k,v,hr,.inr hm,hj,c⟩⟩
theorem aJ{μ:Mem}{base:Option Addr}{n es:Nat}{K:List Value→Prop}(ys:List Value)(h:lW μ base n es ys)(k:K ys):srcVC μ base n es K:=⟨⟨ys,h,k⟩⟩
theorem qBi{need bytes:Nat}{empty:Prop}{K:Option Nat→Nat→Prop}(h:need*bytes≤140737488355328)(h':need≤maxLen)(k:∀base' cap',need≤cap'→(base'=none→empty)→K base' cap'):growVC need bytes empty K:=⟨⟨h,h',k⟩⟩
theorem gIn{need bytes:Nat}{empty:Prop}{K:Option Nat→Nat→Prop}(h:need*bytes≤140737488355328)(h':need≤maxLen)(k:∀base' cap',(base'=none→empty)→K base' cap'):growVC need bytes empty K:=⟨⟨h,h',fun b c _ e=>k b c e⟩⟩
theorem cPl{dr:Bool}{P:Program}{f:FuncId}{args:List Value}{s:St}{K:Value→St→Prop}{R:Value→Mem→Prop}(h:Spec P f args s.mem R)
  (k:∀v μ',s.mem.Le μ'→R v μ'→qGz s μ' fun s=>K v s):callVC dr P f args s K:=⟨⟨[],[],fun _=>rfl,.inl ⟨R,h,k⟩⟩⟩
theorem cOw{dr:Bool}{P:Program}{f:FuncId}{args:List Value}{s:St}{K:Value→St→Prop}{R:Value→Mem→Mem→Prop}(h:SpecH P f args s.mem s.own R)
  (k:∀v μ' h',s.mem.Le μ'→Apart μ' h'→R v μ' h'→lS s μ' h' fun s=>K v s):callVC dr P f args s K:=⟨⟨[],[],fun _=>rfl,.inr ⟨R,h,k⟩⟩⟩
theorem mO{dr:Bool}{P:Program}{f:FuncId}{args:List Value}{s:St}{K:Value→St→Prop}(fz gv:List Nat)(hd:dr=true→gv=[])
  (h : eG fz s fun s => tY gv s fun s => (∃ R, Spec P f args s.mem R ∧ ∀ v μ', s.mem.Le μ' → R v μ' → qGz s μ' fun s => K v s) ∨
   ∃R,SpecH P f args s.mem s.own R∧∀v μ' h',s.mem.Le μ'→Apart μ' h'→R v μ' h'→lS s μ' h' fun s=>K v s):callVC dr P f args s K:=⟨⟨fz,gv,hd,h⟩⟩
theorem lC{P:Program}{f:FuncId}{args:List Value}{μ h0:Mem}{K:Value→Mem→Prop}{K':Value→Mem→Mem→Prop}{R:Value→Mem→Mem→Prop}(h:SpecH P f args μ h0 R)
  (k:∀v μ' h',μ.Le μ'→Apart μ' h'→R v μ' h'→K' v μ' h'):(∃R,Spec P f args μ R∧∀v μ',μ.Le μ'→R v μ'→K v μ')∨∃R,SpecH P f args μ h0 R∧∀v μ' h',μ.Le μ'→Apart μ' h'→R v μ' h'→K' v μ' h':= .inr ⟨R,h,k⟩
theorem aS{dr:Bool}{P:Program}{f:FuncId}{args:List Value}{s:St}{K:Value→St→Prop}(fz:List Nat)
  (h : eG fz s fun s => (∃ R, Spec P f args s.mem R ∧ ∀ v μ', s.mem.Le μ' → R v μ' → qGz s μ' fun s => K v s) ∨
   ∃R,SpecH P f args s.mem s.own R∧∀v μ' h',s.mem.Le μ'→Apart μ' h'→R v μ' h'→lS s μ' h' fun s=>K v s):callVC dr P f args s K:=⟨⟨fz,[],fun _=>rfl,h⟩⟩
theorem bM{P:Program}{f:FuncId}{args:List Value}{μ h0:Mem}{K:Value→Mem→Prop}{K':Value→Mem→Mem→Prop}{R:Value→Mem→Prop}(h:Spec P f args μ R)
  (k:∀v μ',μ.Le μ'→R v μ'→K v μ'):(∃R,Spec P f args μ R∧∀v μ',μ.Le μ'→R v μ'→K v μ')∨∃R,SpecH P f args μ h0 R∧∀v μ' h',μ.Le μ'→Apart μ' h'→R v μ' h'→K' v μ' h':= .inl ⟨R,h,k⟩
theorem rPl{s:St}{v:Value}{R:Value→Mem→Mem→Prop}(h:R v s.mem s.own):retVC s v R:=⟨.inl ⟨[],.inl h⟩⟩
theorem rFz{s:St}{v:Value}{R:Value→Mem→Mem→Prop}(fz:List Nat)(h:eG fz s fun s=>R v s.mem s.own∨∃g k,Parts s.own g k∧R v (s.mem.join g) k):retVC s v R:=⟨.inl ⟨fz,h⟩⟩
theorem gM{s:St}{v:Value}{R:Value→Mem→Mem→Prop}(fz:List Nat)(h:eG fz s fun s=>Apart s.mem s.own→R v s.mem s.own∨∃g k,Parts s.own g k∧R v (s.mem.join g) k):retVC s v R:=⟨.inr ⟨fz,h⟩⟩
theorem cG{s:St}{v:Value}{R:Value→Mem→Mem→Prop}(g k:Mem)(hp:Parts s.own g k)(h:R v (s.mem.join g) k):retVC s v R:=⟨.inl ⟨[],.inr ⟨g,k,hp,h⟩⟩⟩
theorem lIn{body:St→(Ex→St→Prop)→Prop}{s:St}{K:Ex→St→Prop}{ι:Type}(I:ι→Prop)(σ:ι→St)(m:ι→Nat)(i0:ι)(h0:I i0)
  (h1:∀i,gN (σ i).nxt (σ i).env=true∧fE (σ i).nxt (σ i).blk=true) (h2:s.Sub (σ i0))
  (h3 : ∀ i, I i → body (σ i) fun e s' => match e with
   | .normal=>∃i',I i'∧m i'<m i∧s'.Sub (σ i')
   |e=>K e s'):loopVC body s K:=⟨.inl ⟨ι,I,σ,m,i0,h0,h1,.inl h2,h3⟩⟩
theorem aU{body:St→(Ex→St→Prop)→Prop}{s:St}{K:Ex→St→Prop}{ι:Type}(I:ι→Prop)(σ:ι→St)(m:ι→Nat)(i0:ι)(h0:I i0)
  (h1:∀i,gN (σ i).nxt (σ i).env=true∧fE (σ i).nxt (σ i).blk=true) (h2:s.SubN (σ i0))
  (h3 : ∀ i, I i → body (σ i) fun e s' => match e with
   | .normal=>∃i',I i'∧m i'<m i∧s'.Sub (σ i')
   |e=>K e s'):loopVC body s K:=⟨.inl ⟨ι,I,σ,m,i0,h0,h1,.inr h2,h3⟩⟩
theorem qEd{l c:Int}{bytes:Nat}{K:Nat→Prop}(n:Nat)(e:l=n)(e':l=c)(h:n*bytes≤140737488355328)(h':n≤maxLen)(k:K n):makeVC l c bytes K:=⟨⟨e',n,e,h,h',k⟩⟩
theorem lFz{body:St→(Ex→St→Prop)→Prop}{s:St}{K:Ex→St→Prop}{ι:Type}(I:ι→Prop)(σ:ι→St)(m:ι→Nat)(fz:List Nat)
  (h1:∀i,gN (σ i).nxt (σ i).env=true∧fE (σ i).nxt (σ i).blk=true) (h2:eG fz s fun s=>jB fz s fun s=>∃i0,I i0∧s.Sub (σ i0))
  (h3 : ∀ i, I i → body (σ i) fun e s' => match e with
   | .normal=>∃fz,eG fz s' fun s'=>jB fz s' fun s'=>∃i',I i'∧m i'<m i∧s'.Sub (σ i')
   |e=>K e s'):loopVC body s K:=⟨.inr (.inl ⟨ι,I,σ,m,fz,h2,h1,h3⟩)⟩
theorem uQ{body:St→(Ex→St→Prop)→Prop}{s:St}{K:Ex→St→Prop}{ι:Type}(I:ι→Prop)(σ:ι→St)(m:ι→Nat)(fz:List Nat)
  (h1:∀i,gN (σ i).nxt (σ i).env=true∧fE (σ i).nxt (σ i).blk=true) (h2:eG fz s fun s=>jB fz s fun s=>∃i0,I i0∧s.SubN (σ i0))
  (h3 : ∀ i, I i → body (σ i) fun e s' => match e with
   | .normal=>∃fz,eG fz s' fun s'=>jB fz s' fun s'=>∃i',I i'∧m i'<m i∧s'.Sub (σ i')
   |e=>K e s'):loopVC body s K:=⟨.inr (.inr ⟨ι,I,σ,m,fz,h2,h1,h3⟩)⟩
end Go.Vx
namespace Go.Vx
open MapKept (IsKey)
open Classical in
theorem qK(v k':Value):∀(l:List (Value×Value)) (k:Value),gD (gZ l k v) k'=if k'=k then some v else gD l k'
 |[],k=>by
  simp only[gZ,gD]
  by_cases h:k=k'
  ·rw[if_pos h,if_pos h.symm]
  ·rw[if_neg h,if_neg (fun e=>h e.symm)]
 |(a,x)::r,k=>by
  rw[gZ]
  split
  ·rename_i e
   subst e
   rw[gD,gD]
   by_cases h:a=k'
   ·rw[if_pos h,if_pos h.symm]
   ·rw[if_neg h,if_neg (fun e=>h e.symm),if_neg h]
  ·rename_i e
   rw[gD,gD,qK v k' r k]
   by_cases h:a=k'
   ·subst h;rw[if_pos rfl,if_pos rfl,if_neg e]
   ·rw[if_neg h,if_neg h]
section
variable {P:Program} {w:World}
end
end Go.Vx
namespace Go.Vx
section
variable {α:Type} {R:α→List Value→Prop} {μ μ':Mem} {es n:Nat} {base:Option Addr} {xs:List α}
theorem qFl{es:Nat}:∀{ys:List Value},(∀y∈ys,(aD y).length=es)→∀{i:Nat} {y:Value},ys[i]? =some y→∀{j:Nat} {v:Value},(aD y)[j]? =some v→(ys.flatMap aD)[i*es+j]? =some v
 |[],_,i,y,h,_,_,_=>by simp at h
 |z::r,hl,i,y,h,j,v,hv=>by
  have hz:=hl z (by simp)
  match i with
  |0=>
   simp only[List.getElem?_cons_zero,Option.some.injEq]at h
   subst h
   simp only[List.flatMap_cons,Nat.zero_mul,Nat.zero_add]
   rw[List.getElem?_append_left (List.getElem?_eq_some_iff.1 hv).1]
   exact hv
  |i+1=>
   have ih:=qFl (ys:=r) (fun y hy=>hl y (by simp[hy])) (i:=i) (by simpa using h) hv
   simp only[List.flatMap_cons]
   rw[List.getElem?_append_right (by rw[hz,Nat.succ_mul];omega),hz]
   rw[show(i+1)*es+j-es=i*es+j from by rw[Nat.succ_mul];omega]
   exact ih
section
variable {H:Type} {enc:TypeId×Value→H} {P:Program} {w:World} {spare:Nat→Bool} {held:Bool} {fuel:Nat} {t:TypeId} {cs:List Value} {x:DataW H×List MemPlace}
end
end
end Go.Vx
namespace Go.Vx
section
variable {P:Program} {f:FuncId} {args:List Value} {μ h0:Mem}
theorem Mem.sub_le(μ g:Mem):(μ.sub g).Le μ:=fun b o h=>by
 unfold Mem.sub at h
 split at h
 ·cases h
 ·exact h
theorem Mem.sub_none{μ g:Mem}{b:Nat}(h:(μ.sub g) b≠none):g b=none:=by
 unfold Mem.sub at h
 split at h
 ·exact absurd rfl h
 ·assumption
theorem Mem.sub_of{μ g:Mem}{b:Nat}(h:g b=none):(μ.sub g) b=μ b:=by unfold Mem.sub;rw[h]
theorem Mem.join_sub{μ g:Mem}(h:Apart μ g):(μ.join g).sub g=μ:=funext fun b=>by
 cases hg:g b with
 |some o=>
  have:μ b=none:=h.symm b (by simp[hg])
  unfold Mem.sub;rw[hg,this]
 |none=>
  rw[Mem.sub_of hg,Mem.join_get]
  cases μ b with
  |some o=>rfl
  |none=>exact hg
theorem Mem.le_sub{μ μ' g:Mem}(h:μ.Le μ')(ha:Apart μ g):μ.Le (μ'.sub g):=fun b o hb=>by
 rw[Mem.sub_of (ha b (by simp[hb]))];exact h b o hb
theorem Mem.le_join(μ g:Mem):μ.Le (μ.join g):=fun b o h=>by rw[Mem.join_get,h]
theorem Mem.le_join_right{μ g:Mem}(h:Apart μ g):g.Le (μ.join g):=(Parts.join h).right
theorem SpecH.weaken{R R':Value→Mem→Mem→Prop}(h:SpecH P f args μ h0 R)(hk:∀v μ' h',μ.Le μ'→Apart μ' h'→R v μ' h'→R' v μ' h'):SpecH P f args μ h0 R':=
 ⟨h.1,fun w h1 h2 h3=>(h.2 w h1 h2 h3).mono fun _ _ ⟨v,μ',h',e,hr,hS⟩=>⟨v,μ',h',e,hk v μ' h' hS.le hS.apart hr,hS⟩⟩
theorem SpecH.frame{H k:Mem}{R:Value→Mem→Mem→Prop}(hp:Parts H h0 k)(h:SpecH P f args μ h0 R):SpecH P f args μ H fun v μ' H'=>∃h',R v μ' h'∧Parts H' h' k:=by
 refine⟨h.1,fun w hm hH ha=>?_⟩
 have ha0:Apart μ h0:=fun b hb=>by
  have:=ha b hb
  cases h1:h0 b with
  |none=>rfl
  |some o=>rw[hp.left b o h1]at this;cases this
 have hak:Apart μ k:=fun b hb=>by
  have:=ha b hb
  cases h1:k b with
  |none=>rfl
  |some o=>rw[hp.right b o h1]at this;cases this
 refine(h.2 w hm (hH.le hp.left) ha0).mono ?_
 rintro e w' ⟨v,μ',h',rfl,hr,hS⟩
 have hkw:Holds k w:=hH.le hp.right
 have h0k:∀b,k b≠none→h0 b=none:=hp.apart.symm
 have hk':Apart h' k:=fun b hb=>by
  rcases hS.freshH b hb with h|h
  ·cases h1 : k b with
   |none=>rfl
   |some o=>have:=hkw.lt (b:=b) (by simp[h1]);omega
  ·exact hp.apart b h
 refine⟨v,μ',h'.join k,rfl,⟨h',hr,Parts.join hk'⟩,⟨hS.le,hS.mem,hS.own.join fun b o hb=>?_,fun b hb=>?_,fun b hb hb'=>?_,fun b hb=>?_,hS.size,fun b hb hn=>hS.keep b hb ?_,hS.os,hS.tape,hS.output⟩⟩
 ·rw [hS.keep b (hkw.lt (by simp [hb])) (h0k b (by simp [hb]))]
  exact hkw b o hb
 ·rw [Mem.join_get, hS.apart b hb]
  simp only
  by_cases hm0:μ b=none
  ·rcases hS.fresh b hm0 hb with h | h
   ·cases h1 : k b with
    |none=>rfl
    |some o=>have:=hkw.lt (b:=b) (by simp[h1]);omega
   ·exact hp.apart b h
  ·exact hak b hm0
 ·exact(hS.fresh b hb hb').imp id fun h=>by
   cases h1:h0 b with
   |none=>exact absurd h1 h
   |some o=>rw[hp.left b o h1];simp
 ·rw [Mem.join_get] at hb
  cases h1:h' b with
  |some o=>
   exact(hS.freshH b (by simp[h1])).imp id fun h=>by
    cases h2:h0 b with
    |none=>exact absurd h2 h
    |some o=>rw[hp.left b o h2];simp
  |none=>
   rw[h1]at hb
   cases h2:k b with
   |none=>exact absurd h2 hb
   |some o=>rw[hp.right b o h2];exact .inr (by simp)
 ·cases h1 : h0 b with
  |none=>rfl
  |some o=>rw[hp.left b o h1]at hn;cases hn
theorem SpecH.lend{H:Mem}{R:Value→Mem→Prop}(ha:Apart μ H)(h:Spec P f args (μ.join H) R):SpecH P f args μ H fun v μ1 H1=>H1=H∧∃μ',R v μ'∧(μ.join H).Le μ'∧μ1=μ'.sub H:=by
 refine⟨h.1,fun w hm hH _=>(h.2 w (hm.join hH) (kB w) (eA _)).mono ?_⟩
 rintro e w' ⟨v,μ',h',rfl,hr,hS⟩
 refine⟨v,μ'.sub H,H,rfl,⟨rfl,μ',hr,hS.le,rfl⟩,⟨Mem.le_sub ((Mem.le_join μ H).trans hS.le) ha,hS.mem.le (Mem.sub_le _ _),hS.mem.le ((Mem.le_join_right ha).trans hS.le),fun b hb=>Mem.sub_none hb,fun b hb hb'=>?_,fun b hb=> .inr hb,hS.size,fun b hb _=>hS.keep b hb rfl,hS.os,hS.tape,hS.output⟩⟩
 have h1:=Mem.sub_none hb'
 rw[Mem.sub_of h1]at hb'
 refine .inl ((hS.fresh b ?_ hb').resolve_right (fun h=>h rfl))
 rw[Mem.join_get,hb];exact h1
theorem SpecH.lendGives{H:Mem}{x:Value}(ha:Apart μ H)(h:Spec P f args (μ.join H) fun v μ'=>v=x∧μ'=μ.join H):SpecH P f args μ H fun v μ1 H1=>v=x∧μ1=μ∧H1=H:=
 (SpecH.lend ha h).weaken fun v μ1 H1 _ _ ⟨h1,μ',⟨h2,h3⟩,_,h4⟩=>⟨h2,by rw[h4,h3,Mem.join_sub ha],h1⟩
end
theorem qCh{h:Mem}{r i j:Nat}{pre l post:List Value}{ty:TypeId}{v:Value}(hp:pre.length=i)(hv:l[j]? =some v):(h.set r (.cells (List.toArray (pre++(l++post))) ty (0,0))).cell ⟨r,i+j,none⟩=some v:=by
 subst hp
 have hlt:j<l.length:=(List.getElem?_eq_some_iff.1 hv).1
 simp only[Mem.cell,Mem.set_get,if_true]
 simp only[Option.isSome_none,Bool.false_eq_true,if_false,List.getElem?_toArray]
 rw[List.getElem?_append_right (by omega),Nat.add_sub_cancel_left,List.getElem?_append_left hlt]
 exact hv
theorem qKy{h:Mem}{r j:Nat}{ad:Addr}{pre l post:List Value}{ty:TypeId}{v:Value}{K:Mem→Prop}(ha:ad=⟨r,pre.length+j,none⟩)(hj:j<l.length)(k:K (h.set r (.cells (List.toArray (pre++(l.set j v++post))) ty (0,0)))):
  stoVC (h.set r (.cells (List.toArray (pre++(l++post))) ty (0,0))) ad [v] K:=by
 subst ha
 refine sIn (pre++(l++post)) ty (by rw[Mem.set_get,if_pos rfl]) rfl (by simp;omega) ?_
 rw[Mem.set_set]
 have e:(pre++(l++post)).take (pre.length+j)++[v]++(pre++(l++post)).drop (pre.length+j+[v].length)=pre++(l.set j v++post):=by
  rw[List.take_length_add_append,List.length_singleton,Nat.add_assoc,List.drop_length_add_append,List.take_append_of_le_length (by omega),List.drop_append_of_le_length (by omega),List.set_eq_take_append_cons_drop,if_pos hj]
  simp
 simp only at e ⊢
 rw[e]
 exact k
theorem qKj{μ h:Mem}{r j:Nat}{ad:Addr}{pre l post:List Value}{ty:TypeId}{v:Value}{K:List Value→Prop}(ha:ad=⟨r,pre.length+j,none⟩)(hv:l[j]? =some v)(k:K [v]):
  extVC μ (h.set r (.cells (List.toArray (pre++(l++post))) ty (0,0))) ad 1 K:=by
 subst ha
 refine oIn [v] rfl (fun i x hx=>?_) k
 match i with
 |0=>
  simp only[List.getElem?_cons_zero,Option.some.injEq]at hx
  subst hx
  rw[Addr.add_lit',Nat.add_zero]
  exact qCh rfl hv
 |i+1=>simp at hx
end Go.Vx
namespace Go.Vx
theorem Own.nilSl(es:Nat):Own (.sl es []) Mem.nil [.slice none 0 0]:=⟨none,0,rfl,⟨Nat.zero_le _,Nat.zero_le _⟩,by simp,.inl ⟨rfl,rfl⟩⟩
theorem Rep.nilSl{μ:Mem}(es:Nat):Rep μ (.sl es []) [.slice none 0 0]:=⟨none,0,rfl,⟨Nat.zero_le _,Nat.zero_le _⟩,by simp,.inl rfl⟩
theorem OwnRows.snoc{es:Nat}{ds:List D}{ys:List Value}{g g':Mem}{d:D}{v:Value}(k:OwnRows es ds ys g)(k':OwnV d g' v)(hn:d.n=es)(ha:Apart g g'):OwnRows es (ds++[d]) (ys++[v]) (g.join g'):=
 ⟨by
  have:=OwnS.append (Parts.join ha) k.own (OwnS.last k'.cells)
  simpa using this,by
  intro x hx
  rcases List.mem_append.1 hx with h|h
  ·exact k.size x h
  ·simp only[List.mem_singleton]at h;subst h;exact hn,by simp[k.len]⟩
end Go.Vx
namespace Go.Vx
section
variable {P:Program} {f:FuncId} {args:List Value} {μ H:Mem}
theorem Spec.lendOwn{R:Value→Mem→Prop}{R':Value→Mem→Mem→Prop}(ha:Apart μ H)(h:Spec P f args (μ.join H) R)(G:∀v μ1,(μ.join H).Le μ1→R v μ1→∃g:Mem,g.Le μ1∧(∀b,g b≠none→(μ.join H) b=none)∧R' v g μ1):
  SpecH P f args μ H fun v μ2 H2=>∃g μ1,R' v g μ1∧(μ.join H).Le μ1∧Parts H2 H g∧μ2=(μ1.sub H).sub g:=by
 refine⟨h.1,fun w hm hH _=>(h.2 w (hm.join hH) (kB w) (eA _)).mono ?_⟩
 rintro e w' ⟨v,μ1,h1,rfl,hr,hS⟩
 obtain⟨g,hg,hf,hr'⟩:=G v μ1 hS.le hr
 have hgH:Apart H g:=fun b hb=>by
  cases h2:g b with
  |none=>rfl
  |some o=>
   have:=hf b (by simp[h2])
   cases h3:H b with
   |none=>exact absurd h3 hb
   |some o'=>rw[Mem.le_join_right ha b o' h3]at this;cases this
 have hgμ:Apart μ g:=fun b hb=>by
  cases h2:g b with
  |none=>rfl
  |some o=>
   have:=hf b (by simp[h2])
   cases h3:μ b with
   |none=>exact absurd h3 hb
   |some o'=>rw[Mem.le_join μ H b o' h3]at this;cases this
 refine⟨v,(μ1.sub H).sub g,H.join g,rfl,⟨g,μ1,hr',hS.le,Parts.join hgH,rfl⟩,⟨Mem.le_sub (Mem.le_sub ((Mem.le_join μ H).trans hS.le) ha) hgμ,hS.mem.le ((Mem.sub_le _ _).trans (Mem.sub_le _ _)),(hS.mem.le ((Mem.le_join_right ha).trans hS.le)).join (hS.mem.le hg),fun b hb=>?_,fun b hb hb'=>?_,fun b hb=>?_,hS.size,fun b hb _=>hS.keep b hb rfl,hS.os,hS.tape,hS.output⟩⟩
 ·have k1 := Mem.sub_none hb
  rw[Mem.sub_of k1]at hb
  rw[Mem.join_get,Mem.sub_none hb];exact k1
 ·have k1 := Mem.sub_none hb'
  rw[Mem.sub_of k1]at hb'
  have k2:=Mem.sub_none hb'
  rw[Mem.sub_of k2]at hb'
  refine .inl ((hS.fresh b ?_ hb').resolve_right fun h=>h rfl)
  rw[Mem.join_get,hb];exact k2
 ·rcases gW hb with h2 | h2
  ·exact .inr h2
  ·refine .inl ((hS.fresh b (hf b h2) ?_).resolve_right fun h => h rfl)
   cases h3:g b with
   |none=>exact absurd h3 h2
   |some o=>rw[hg b o h3];simp
theorem Spec.beside{R:Value→Mem→Prop}(ha:Apart μ H)(h:Spec P f args μ R):SpecH P f args μ H fun v μ' H'=>H'=H∧R v μ':=by
 refine⟨h.1,fun w hm hH _=>(h.2 w hm (kB w) (eA _)).mono ?_⟩
 rintro e w' ⟨v,μ',h',rfl,hr,hS⟩
 refine⟨v,μ',H,rfl,⟨rfl,hr⟩,⟨hS.le,hS.mem,fun b o hb=>by rw[hS.keep b (hH.lt (by simp[hb])) rfl];exact hH b o hb,fun b hb=>?_,fun b hb hb'=> .inl ((hS.fresh b hb hb').resolve_right fun h=>h rfl),fun b hb=> .inr hb,hS.size,fun b hb _=>hS.keep b hb rfl,hS.os,hS.tape,hS.output⟩⟩
 by_cases hm0:μ b=none
 ·have := (hS.fresh b hm0 hb).resolve_right fun h => h rfl
  cases h1:H b with
  |none=>rfl
  |some o=>have:=hH.lt (b:=b) (by simp[h1]);omega
 ·exact ha b hm0
variable {dr:Bool} {s:St} {K:Value→St→Prop}
theorem qMc{x:Value}(hap:Apart s.mem s.own)(h:Spec P f args (s.mem.join s.own) fun v μ'=>v=x∧μ'=s.mem.join s.own)(k:K x s):callVC dr P f args s K:=
 cOw (SpecH.lendGives hap h) fun v μ' H' _ _ ⟨h1,h2,h3⟩=>by
  subst h1 h2 h3
  cases s
  exact k
theorem cDa{R:Value→Mem→Prop}(hap:Apart s.mem s.own)(h:Spec P f args s.mem R)(k:∀v μ',s.mem.Le μ'→Apart μ' s.own→R v μ'→lS s μ' s.own fun s=>K v s):callVC dr P f args s K:=
 cOw (Spec.beside hap h) fun v μ' H' hle ha' ⟨h1,h2⟩=>by
  subst h1
  exact k v μ' hle ha' h2
end
end Go.Vx
namespace Go.Vx
theorem D.wds_mem:∀{xs:List D},D.wds xs→∀x∈xs,x.wd
 |[],_,x,h=>by cases h
 |d::r,k,x,h=>by
  rcases List.mem_cons.1 h with rfl|h
  ·exact k.1
  ·exact D.wds_mem k.2 x h
theorem lM{α:Type}{f:α→D}{l:List α}{j:Nat}{a:α}(h:l[j]? =some a):(l.map f)[j]? =some (f a):=by simp[h]
theorem aH{n:Nat}(h:n≤maxLen):(n:Int)≤9223372036854775807:=by
 have:=Nat.le_trans h (show maxLen≤9223372036854775807 by decide);omega
end Go.Vx
namespace Go.Vx
open Classical
theorem Sl.headL{μ:Mem}{es n c i:Nat}{base:Option Addr}{xs:List D}(h:Sl μ es base n xs)(hi:i≤n):Sl μ es (if c=0 then base else base.map (·.add (0*es))) (i-0) (xs.take i):=by
 have e:(if c=0 then base else base.map (·.add (0*es)))=base:=by
  split
  ·rfl
  ·cases base with
   |none=>rfl
   |some a=>simp[Addr.add]
 rw[e]
 have hl:=h.len
 refine⟨by rw[List.length_take];omega,Nat.le_trans (by omega) h.max,fun j x hx=>?_⟩
 have hj:=(List.getElem?_eq_some_iff.1 hx).1
 rw[List.length_take]at hj
 rw[List.getElem?_take,if_pos (by omega)]at hx
 have w_:=h.get j x hx
 obtain⟨a,cs,he,hr⟩:=w_
 exact⟨a,cs,⟨he.lo,by omega,he.addr,he.len,he.cell⟩,hr⟩
theorem Sl.tailL{μ:Mem}{es n c i:Nat}{base:Option Addr}{xs:List D}(h:Sl μ es base n xs)(hi:i≤n)(hc:n≤c):Sl μ es (if c=i then base else base.map (·.add (i*es))) (n-i) (xs.drop i):=by
 have hl:=h.len
 refine⟨by rw[List.length_drop];omega,Nat.le_trans (Nat.sub_le _ _) h.max,fun j x hx=>?_⟩
 have hj:=(List.getElem?_eq_some_iff.1 hx).1
 rw[List.length_drop]at hj
 rw[List.getElem?_drop]at hx
 have w_:=h.get (i+j) x hx
 obtain⟨a,cs,he,hr⟩:=w_
 rw[if_neg (by omega)]
 obtain⟨a0,h1,h2⟩:=he.addr
 refine⟨a,cs,⟨by omega,by omega,⟨a0.add (i*es),by rw[h1];rfl,?_⟩,he.len,he.cell⟩,hr⟩
 rw[h2,add_add]
 congr 1
 rw[Int.toNat_natCast,Int.toNat_natCast,Nat.add_mul]
theorem Rep.slC{μ:Mem}{es:Nat}{xs:List D}{v:Value}(h:Rep μ (.sl es xs) [v]):∃base cap,v= .slice base xs.length cap∧Sl μ es base xs.length xs∧xs.length≤cap:=by
 have w_:=Rep.sl h
 obtain⟨b,c,rfl,hs⟩:=w_
 obtain⟨base,cap,h1,h2,_⟩:=h
 simp only[List.cons.injEq,and_true,Value.slice.injEq,true_and]at h1
 obtain⟨rfl,rfl⟩:=h1
 exact⟨b,c,rfl,hs,h2.le⟩
end Go.Vx
namespace Go.Vx
open Go.Proofs Classical
theorem Spec.mkO(os:List Nat){f:FuncId}{fn:Func}{args:List Value}{μ:Mem}{R:Value→Mem→Prop}(hf:Tryz.prog.funcs[f]? =some fn)(hname:(fn.name== "runtime.NumGoroutine")=false)(h:qIk Tryz.prog tt os fn args μ Mem.nil fun v μ' _=>R v μ'):Spec Tryz.prog f args μ R:=
 SpecH.of (T:=Tryz.checked) os ttok hf hname h
theorem aA{n:Int}(h1: -9223372036854775808≤n)(h2:n<9223372036854775808):IntKind.i64.wrap n=n:=by
 have e:IntKind.i64.bits=64:=rfl
 have e2:IntKind.i64.signed=true:=rfl
 simp only[IntKind.wrap,e,e2,Bool.true_and]
 simp only[show(2:Int) ^ 64=18446744073709551616 from rfl,show(2:Int) ^ (64-1)=9223372036854775808 from rfl]
 split<;>rename_i h<;>simp at h<;>omega
theorem aB{n:Int}{K:Int→Prop}(h1: -9223372036854775808≤n)(h2:n<9223372036854775808)(k:K n):numVC (IntKind.i64.wrap n) K:=nEq (aA h1 h2) k
theorem ifd{p:Prop}[d:Decidable p]{fr:Bool}{s:St}{A B:St→Prop}(h:p→A s)(k:¬p→B s):ifVC fr (decide p) s A B:=iIn (fun e=>h (of_decide_eq_true e)) (fun e=>k (of_decide_eq_false e))
theorem aL{p:Prop}[d:Decidable p]{fr:Bool}{s:St}{A B:St→Prop}(h:¬p→A s)(k:p→B s):ifVC fr (!decide p) s A B:=iIn (fun e=>h (by simpa using e)) (fun e=>k (by simpa using e))
abbrev aM(P:Program)(f:FuncId)(args:List Value)(μ:Mem)(x:Value):Prop:=Spec P f args μ fun v μ'=>v=x∧μ'=μ
theorem cGv{dr:Bool}{P:Program}{f:FuncId}{args:List Value}{s:St}{K:Value→St→Prop}{x:Value}(h:aM P f args s.mem x)(k:K x s):callVC dr P f args s K:=
 cPl h fun v μ' _ hR=>by
  obtain⟨rfl,rfl⟩:=hR
  cases s
  exact k
theorem rGv{s:St}{v x:Value}{μ:Mem}(h:v=x)(hm:s.mem=μ):retVC s v fun v μ' _=>v=x∧μ'=μ:=rPl ⟨h,hm⟩
theorem bG(n lo hi:Int)(μ:Mem):aM Tryz.prog 138 [.int .i64 n,.int .i64 lo,.int .i64 hi] μ (.bool (decide (lo≤n∧n≤hi))):=by
 refine Spec.mk Tryz.func138 (by kernel_rfl) ?_
 repeat' (first
  |refine ifd (fun h=>?_) (fun h=>?_)
  |refine aL (fun h=>?_) (fun h=>?_)
  |refine iIn (fun h=>?_) (fun h=>?_)
  |refine aB ?_ ?_ ?_
  |refine aN _ _ rfl (by assumption) ?_)
 all_goals refine rGv ?_ rfl
 ·simp_all
 ·simp;omega
theorem iK{s:ByteArray}{i:Nat}(h:i<s.size):∃b,s.data.toList[i]? =some b:=⟨_,List.getElem?_eq_getElem (by simpa using h)⟩
theorem wR{s:ByteArray}{i:Nat}{b:UInt8}(h:s.data.toList[i]? =some b):i<s.size:=by
 have:=(List.getElem?_eq_some_iff.1 h).1
 simpa using this
theorem fT(s:ByteArray)(μ:Mem):aM Tryz.prog 212 [.string s] μ (.bool (decide (jZ s))):=by
 refine Spec.mk Tryz.func212 (by kernel_rfl) ?_
 refine ifd (fun h1=>rGv ?_ rfl) (fun h1=>?_)
 ·have : ¬ jZ s := fun h => by have := h.1; omega
  simp[this]
 refine ifd (fun h2=>rGv ?_ rfl) (fun h2=>?_)
 ·have : ¬ jZ s := fun h => by have := h.2.1; omega
  simp[this]
 have w_:=iK (s:=s) (i:=0) (by omega)
 obtain⟨b0,hb0⟩:=w_
 have bad:∀{i:Nat} {b},s.data.toList[i]? =some b→¬tR (i==0) b→Value.bool false= .bool (decide (jZ s)):=fun {i b} h k=>by
  have:¬jZ s:=fun g=>k (g.2.2 i b h)
  simp[this]
 refine aN 0 b0 rfl hb0 ?_
 refine ifd (fun h3=>rGv (bad hb0 (by simp[tR];omega)) rfl) (fun h3=>?_)
 refine aN 0 b0 rfl hb0 ?_
 refine ifd (fun h4=>rGv (bad hb0 (by simp[tR];omega)) rfl) (fun h4=>?_)
 refine lIn (fun i:Nat=>1≤i∧i≤s.size∧∀k b,k<i→s.data.toList[k]? =some b→tR (k==0) b) (fun i=>⟨[(0,.val (.string s)),(3,.val (.int .i64 i))],[],0,μ,Mem.nil⟩) (fun i=>s.size-i)
  1 ⟨by omega,by omega,fun k b hk hb=>?_⟩ (fun i=>⟨rfl,rfl⟩) ⟨⟨rfl,rfl,trivial⟩,trivial,rfl,rfl⟩ ?_
 ·have : k = 0 := by omega
  subst this
  rw[hb0]at hb
  cases hb
  exact .inl ⟨by omega,by omega⟩
 rintro i ⟨hi1,hi2,hall⟩
 refine ifd (fun h5=>?_) (fun h5=>rGv ?_ rfl)
 ·have w_ := iK (s := s) (i := i) (by omega)
  obtain⟨b,hb⟩:=w_
  have hi0:(i==0)=false:=by simp;omega
  have next:((97≤b.toNat∧b.toNat≤122)∨(48≤b.toNat∧b.toNat≤57)∨b.toNat=45)→∀k b',k<i+1→s.data.toList[k]? =some b'→tR (k==0) b':=fun g k b' hk hb'=>by
   by_cases e:k=i
   ·subst e;rw[hb]at hb';cases hb';rw[hi0];exact g.imp id fun g=>⟨rfl,g⟩
   ·exact hall k b' (by omega) hb'
  have badb:¬((97≤b.toNat∧b.toNat≤122)∨(48≤b.toNat∧b.toNat≤57)∨b.toNat=45)→Value.bool false= .bool (decide (jZ s)):=fun g=>bad hb fun k=>by
   rw[hi0]at k
   exact g (k.imp id fun k=>k.2)
  repeat' (first
   |refine ifd (fun h=>?_) (fun h=>?_)
   |refine aL (fun h=>?_) (fun h=>?_)
   |refine iIn (fun h=>?_) (fun h=>?_)
   |refine aB ?_ ?_ ?_
   |refine aN _ _ rfl (by assumption) ?_)
  all_goals first
   |(refine rGv (badb ?_) rfl;omega)
   |exact⟨i+1,⟨by omega,by omega,next (by omega)⟩,by omega,⟨⟨rfl,rfl,trivial⟩,trivial,rfl,rfl⟩⟩
   |omega
 ·have : jZ s := ⟨by omega, by omega, fun k b hb => hall k b (by have := wR hb; omega) hb⟩
  simp[this]
theorem cO(s:ByteArray)(hs:s.size≤maxLen)(μ:Mem):aM Tryz.prog 199 [.string s] μ (.bool (decide (jZ s))):=by
 have hs:s.size≤9223372036854775807:=Nat.le_trans hs (by decide)
 refine Spec.mk Tryz.func199 (by kernel_rfl) ?_
 refine lIn (fun i:Nat=>i≤s.size∧∀k b,k<i→s.data.toList[k]? =some b→tR (k==0) b) (fun i=>⟨[(0,.val (.string s)),(3,.val (.int .i64 i))],[],0,μ,Mem.nil⟩) (fun i=>s.size-i)
  0 ⟨by omega,fun k b hk hb=>by omega⟩ (fun i=>⟨rfl,rfl⟩) ⟨⟨rfl,rfl,trivial⟩,trivial,rfl,rfl⟩ ?_
 rintro i ⟨hi2,hall⟩
 refine ifd (fun h5=>?_) (fun h5=>cGv (bG _ _ _ _) (rGv ?_ rfl))
 ·have w_ := iK (s := s) (i := i) (by omega)
  obtain⟨b,hb⟩:=w_
  have hb8:=b.toNat_lt
  have next:((97≤b.toNat∧b.toNat≤122)∨(i≠0∧((48≤b.toNat∧b.toNat≤57)∨b.toNat=45)))→∀k b',k<i+1→s.data.toList[k]? =some b'→tR (k==0) b':=fun g k b' hk hb'=>by
   by_cases e:k=i
   ·subst e;rw[hb]at hb';cases hb';exact g.imp id fun g=>⟨by simp;exact g.1,g.2⟩
   ·exact hall k b' (by omega) hb'
  have badb:¬((97≤b.toNat∧b.toNat≤122)∨(i≠0∧((48≤b.toNat∧b.toNat≤57)∨b.toNat=45)))→Value.bool false= .bool (decide (jZ s)):=fun g=>by
   have:¬jZ s:=fun h=>g ((h.2.2 i b hb).imp id fun k=>⟨by have:=k.1;simpa using this,k.2⟩)
   simp[this]
  repeat' (first
   |refine cGv (bG _ _ _ _) ?_
   |refine ifd (fun h=>?_) (fun h=>?_)
   |refine aL (fun h=>?_) (fun h=>?_)
   |refine iIn (fun h=>?_) (fun h=>?_)
   |refine aB ?_ ?_ ?_
   |refine aN i b rfl hb ?_)
  all_goals first
   |(refine rGv (badb ?_) rfl;omega)
   |exact⟨i+1,⟨by omega,next (by omega)⟩,by omega,⟨⟨rfl,rfl,trivial⟩,trivial,rfl,rfl⟩⟩
   |omega
 ·congr 1
  simp only[decide_eq_decide]
  exact⟨fun h=>⟨by omega,by omega,fun k b hb=>hall k b (by have:=wR hb;omega) hb⟩,fun h=>by have:=h.1;have:=h.2.1;omega⟩
theorem eB(s:ByteArray)(μ:Mem):aM Tryz.prog 151 [.string s] μ (.bool (decide (iJ s))):=by
  refine Spec.mk Tryz.func151 (by kernel_rfl) ?_
  have bad:s∈rsv→Value.bool false= .bool (decide (iJ s)):=fun h=>by
    have:¬iJ s:=fun k=>k.1 h
    simp[this]
  repeat' (first
    |refine ifd (fun h=>?_) (fun h=>?_)<;>try contradiction
    |refine cGv (fT s μ) (rGv ?_ rfl)
    |refine rGv ?_ rfl)
  all_goals first
    |(refine bad ?_;subst_vars;simp[rsv])
    | (have : s ∉ rsv := by simp only [rsv, List.mem_cons, List.not_mem_nil, or_false, not_or]; simp_all
       simp[iJ,this])
theorem eC(s:ByteArray)(hs:s.size≤maxLen)(μ:Mem):aM Tryz.prog 137 [.string s] μ (.bool (decide (iJ s))):=by
  refine Spec.mk Tryz.func137 (by kernel_rfl) ?_
  have bad:s∈rsv→Value.bool false= .bool (decide (iJ s)):=fun h=>by
    have:¬iJ s:=fun k=>k.1 h
    simp[this]
  intro r
  refine lIn (fun i:Nat=>i≤9∧∀x∈rsv.take i,x≠s) (fun i=>⟨[(0,.val (.string s)),(5,.row 0 (some r) 9 9),(6,.val (.int .i64 9)),(7,.val (.int .i64 i))],[(0,some (.row (some r) 9 9 1 (rsv.map .string)))],1,μ,Mem.nil⟩) (fun i=>9-i)
    0 ⟨by omega,by simp⟩ (fun i=>⟨rfl,rfl⟩) ⟨⟨rfl,rfl,rfl,rfl,trivial⟩,⟨rfl,trivial⟩,rfl,rfl⟩ ?_
  rintro i ⟨hi,hall⟩
  refine ifd (fun h=>?_) (fun h=>?_)
  · have hi : i < 9 := by omega
    obtain⟨x,hx⟩:∃x,rsv[i]? =some x:=⟨_,List.getElem?_eq_getElem (by simpa[rsv]using hi)⟩
    refine aX i rfl (by omega) (aW (.string x) (by simp[hx]) ?_)
    refine ifd (fun h=>rGv (bad ?_) rfl) (fun h=>?_)
    · subst h;exact List.mem_of_getElem? hx
    · refine aB (by omega) (by omega) ⟨i + 1, ⟨by omega, fun y hy => ?_⟩, by omega, ⟨⟨rfl, rfl, rfl, rfl, trivial⟩, ⟨rfl, trivial⟩, rfl, rfl⟩⟩
      rw[List.take_add_one,hx]at hy
      simp only[Option.toList_some,List.mem_append,List.mem_singleton]at hy
      rcases hy with hy|rfl
      · exact hall y hy
      · exact h
  · refine cGv (cO s hs μ) (rGv ?_ rfl)
    have hi:i=9:=by omega
    subst hi
    have:s∉rsv:=fun k=>hall s (by simpa[rsv]using k) rfl
    simp[iJ,this]
end Go.Vx
namespace Go.Vx
open Go.Proofs Classical
section
variable {μ:Mem}
theorem qQv{n:Int}(h1:0≤n)(h2:n<256):IntKind.u8.wrap n=n:=by
 have e:IntKind.u8.bits=8:=rfl
 have e2:IntKind.u8.signed=false:=rfl
 simp only[IntKind.wrap,e,e2,Bool.false_and]
 simp only[show(2:Int) ^ 8=256 from rfl]
 simp;omega
theorem yH(a b:List UInt8):(⟨a.toArray⟩:ByteArray)++⟨b.toArray⟩=⟨(a++b).toArray⟩:=by
 have:((⟨a.toArray⟩:ByteArray)++⟨b.toArray⟩).data=(a++b).toArray:=by
  rw[ByteArray.data_append];simp
 cases h:(⟨a.toArray⟩:ByteArray)++⟨b.toArray⟩
 rw[h]at this
 simp only at this
 rw[this]
end
end Go.Vx
namespace Go.Vx
open Go.Proofs Classical
section
variable {μ:Mem}
theorem Tm.invV{t:Tm}{v:Value}(h:RepV μ t.d v):∃p:Option Addr×Nat,v= .agg #[.int .i64 t.kind,.int .i64 t.num,.string t.name,.slice p.1 t.args.length p.2]:=by
 cases t;obtain⟨b,c,h,_⟩:=Tm.inv h;exact⟨(b,c),h⟩
end
end Go.Vx
namespace Go.Vx
open Go.Proofs Classical
structure Bd where
 var:Int
 to:Tm
def Bd.d(b:Bd):D:= .st [.i b.var,b.to.d]
theorem Bd.d_n(b:Bd):b.d.n=5:=by
 have:=Tm.d_n b.to
 simp only[Bd.d,D.n,D.ns,this]
def Bd.cs(b:Bd)(p:Option Addr×Nat):List Value:=[.int .i64 b.var,.int .i64 b.to.kind,.int .i64 b.to.num,.string b.to.name,.slice p.1 b.to.args.length p.2]
section
variable {μ:Mem}
theorem Tm.invC{t:Tm}{cs:List Value}(h:Rep μ t.d cs):∃p:Option Addr×Nat,cs=t.cs p:=by
 cases t
 have w_:=Tm.invS h
 obtain⟨b,c,h,_⟩:=w_
 exact⟨(b,c),h⟩
theorem Bd.invS{b:Bd}{cs:List Value}(h:Rep μ b.d cs):∃p:Option Addr×Nat,cs=b.cs p∧RepV μ b.to.d (.agg (b.to.cs p).toArray):=by
 obtain⟨c1,c2,rfl,rfl,c3,c4,rfl,h3,rfl⟩:=h
 have w_:=Tm.invC h3
 obtain⟨p,rfl⟩:=w_
 exact⟨p,by simp[Bd.cs,Tm.cs],Tm.rep h3⟩
theorem Bd.inv{b:Bd}{v:Value}(h:RepV μ b.d v):∃p:Option Addr×Nat,v= .agg #[.int .i64 b.var,.int .i64 b.to.kind,.int .i64 b.to.num,.string b.to.name,.slice p.1 b.to.args.length p.2]∧RepV μ b.to.d (.agg (b.to.cs p).toArray):=by
 obtain⟨cs,rfl,h⟩:=h
 have w_:=Bd.invS (b:=b) h
 obtain⟨p,rfl,h2⟩:=w_
 exact⟨p,rfl,h2⟩
theorem Bd.elem{l:List Bd}{base:Option Addr}{n:Nat}(h:Sl μ 5 base n (l.map Bd.d)){i:Nat}{b:Bd}(hb:l[i]? =some b):∃ad,∃p:Option Addr×Nat,ElemAt μ base n 5 i ad (b.cs p)∧RepV μ b.d (.agg (b.cs p).toArray):=by
 have w_:=h.get i b.d (by simp[hb])
 obtain⟨ad,cs,h1,h2⟩:=w_
 have w_:=Bd.invS (b:=b) h2
 obtain⟨p,rfl,_⟩:=w_
 exact⟨ad,p,h1,_,rfl,h2⟩
end
end Go.Vx
namespace Go.Vx
open Go.Proofs Classical
theorem Tm.cnt_pos(t:Tm):1≤t.cnt:=by cases t;simp[Tm.cnt]
theorem Tm.Sh_iff(k n:Int)(s:ByteArray)(l:List Tm):(Tm.mk k n s l).Sh↔
  (k=0∧n=0∧s=⟨#[]⟩∧l=[])∨(k=1∧0≤n∧n≤100000∧s=⟨#[]⟩∧l=[])∨(k=2∧n=0∧jZ s∧l=[])∨(k=3∧ -1000000000≤n∧n≤1000000000∧s=⟨#[]⟩∧l=[])∨
  (k=4∧n=0∧s=⟨#[]⟩∧∃a b,l=[a,b]∧a.Sh∧b.Sh):=by
 constructor
 ·rintro ⟨x, hx, e⟩
  cases x<;>simp only[T.tm,Tm.mk.injEq]at e<;>obtain⟨rfl,rfl,rfl,rfl⟩:=e<;>simp only[T.good]at hx
  ·simp
  ·right;left;simp[hx]
  ·right;right;left;simp[hx]
  ·right;right;right;left;simp[hx]
  ·right; right; right; right
   exact⟨rfl,rfl,rfl,_,_,rfl,⟨_,hx.1,rfl⟩,⟨_,hx.2,rfl⟩⟩
 ·rintro (⟨rfl, rfl, rfl, rfl⟩ | ⟨rfl, h1, h2, rfl, rfl⟩ | ⟨rfl, rfl, h1, rfl⟩ | ⟨rfl, h1, h2, rfl, rfl⟩ | ⟨rfl, rfl, rfl, a, b, rfl, ⟨x, h1, rfl⟩, ⟨y, h2, rfl⟩⟩)
  ·exact⟨.nil,trivial,rfl⟩
  ·exact⟨.var n,⟨h1,h2⟩,rfl⟩
  ·exact⟨.sym s,h1,rfl⟩
  ·exact⟨.num n,⟨h1,h2⟩,rfl⟩
  ·exact⟨.pair x y,⟨h1,h2⟩,rfl⟩
theorem Tm.Sh_iff'(k n:Int)(s:ByteArray)(l:List Tm):(Tm.mk k n s l).Sh↔
  (k=0∧n=0∧s=⟨#[]⟩∧l.length=0)∨(k=1∧0≤n∧n≤100000∧s=⟨#[]⟩∧l.length=0)∨(k=2∧n=0∧jZ s∧l.length=0)∨(k=3∧ -1000000000≤n∧n≤1000000000∧s=⟨#[]⟩∧l.length=0)∨
  (k=4∧n=0∧s=⟨#[]⟩∧l.length=2∧∃a b,l=[a,b]∧a.Sh∧b.Sh):=by
 have h0:l.length=0↔l=[]:=List.length_eq_zero_iff
 have h2:(l.length=2∧∃a b,l=[a,b]∧a.Sh∧b.Sh)↔∃a b,l=[a,b]∧a.Sh∧b.Sh:=⟨fun h=>h.2,fun h=>⟨by obtain⟨a,b,rfl,_⟩:=h;rfl,h⟩⟩
 rw[Tm.Sh_iff,h0,h2]
theorem isF{p:Prop}{_:Decidable p}(h:¬p):Value.bool false= .bool (decide p):=by rw[decide_eq_false h]
theorem isT{p:Prop}{_:Decidable p}(h:p):Value.bool true= .bool (decide p):=by rw[decide_eq_true h]
theorem isI{p q:Prop}{_:Decidable p}{_:Decidable q}(h:p↔q):Value.bool (decide p)= .bool (decide q):=by simp only[h]
theorem qCo{α:Type}:∀{l:List α},((l.length:Nat):Int)=2→∃a b,l=[a,b]
 |[a,b],_=>⟨a,b,rfl⟩
 |[],h=>by simp at h
 |[_],h=>by simp at h
 |_::_::_::_,h=>by simp at h;omega
end Go.Vx
namespace Go.Vx
open Go.Proofs Classical
section
variable {μ:Mem}
theorem Tm.cnts_append:∀(a c:List Tm),Tm.cnts (a++c)=Tm.cnts a+Tm.cnts c
 |[],c=>by simp[Tm.cnts]
 |d::r,c=>by simp[Tm.cnts,Tm.cnts_append r c,Nat.add_assoc]
theorem Tm.cnts_take{xs:List Tm}{j:Nat}{x:Tm}(h:xs[j]? =some x):Tm.cnts (xs.take (j+1))=Tm.cnts (xs.take j)+x.cnt:=by
 rw[List.take_add_one,h,Option.toList_some,Tm.cnts_append];simp[Tm.cnts]
theorem Tm.cnts_le(xs:List Tm)(j:Nat):Tm.cnts (xs.take j)≤Tm.cnts xs:=by
 have:=Tm.cnts_append (xs.take j) (xs.drop j)
 rw[List.take_append_drop]at this;omega
def bP(n most:Int):Int:=min n (max most 0+1)
theorem oZ:∀(t:Tm) {v:Value} {most:Int},RepV μ t.d v→ -1000000000000≤most→most≤1000000000000→aM Tryz.prog 246 [v,.int .i64 most] μ (.int .i64 (bP t.cnt most)):=
 Tm.ind fun k n s l ih v most hv h1 h2=>by
  have w_:=Tm.inv hv
  obtain⟨base,cap,rfl,hsl⟩:=w_
  have hn:=aH hsl.max
  refine Spec.mk Tryz.func246 (by kernel_rfl) ?_
  intro r
  refine lIn (fun i:Nat=>i≤l.length) (fun i=>⟨[(1,.val (.int .i64 most)),(5,.val (.int .i64 (bP (1+Tm.cnts (l.take i):Nat) most))),(9,.val (.slice base l.length cap)),(10,.val (.int .i64 l.length)),(11,.val (.int .i64 i))],[],1,μ,Mem.nil⟩) (fun i=>l.length-i)
   0 (by omega) (fun i=>⟨rfl,rfl⟩) ⟨⟨rfl,by show some (SV.val (.int .i64 _))=some (SV.val (.int .i64 _));congr 3;simp[Tm.cnts,bP];omega,rfl,rfl,rfl,trivial⟩,trivial,rfl,rfl⟩ ?_
  intro i hi
  refine ifd (fun h=>?_) (fun h=>?_)
  ·have w_ := aSo (l := l) (i := i) (by omega)
   obtain⟨t,ht⟩:=w_
   have hc:=Tm.cnts_take ht
   have hc':=Tm.cnts_le l (i+1)
   have w_:=Tm.elem hsl ht
   obtain⟨ad,p,hel,hr⟩:=w_
   refine eIn hel ?_
   intro r2
   refine ifd (fun h=>rGv ?_ rfl) (fun h=>?_)
   ·simp only [Tm.cnt, bP] at h ⊢
    congr 1;omega
   ·have hb : bP (1 + Tm.cnts (l.take i) : Nat) most ≤ 1000000000001 ∧ 1 ≤ bP (1 + Tm.cnts (l.take i) : Nat) most := by unfold bP; omega
    refine aB (by omega) (by omega) ?_
    refine cGv (ih t (mAt ht) hr (by omega) (by omega)) ?_
    refine nEq (x:=bP (1+Tm.cnts (l.take (i+1)):Nat) most) ?_ ?_
    ·have hb2:bP (t.cnt:Int) (most-bP (1+Tm.cnts (l.take i):Nat) most)≤1000000000001∧1≤bP (t.cnt:Int) (most-bP (1+Tm.cnts (l.take i):Nat) most):=by
      have:=t.cnt_pos
      unfold bP at hb h ⊢
      omega
     rw[aA (by omega) (by omega),hc]
     unfold bP at h ⊢;omega
    ·exact aB (by omega) (by omega) ⟨i+1,by omega,by omega,⟨⟨rfl,rfl,rfl,rfl,rfl,trivial⟩,trivial,rfl,rfl⟩⟩
  ·obtain rfl : i = l.length := by omega
   rw[List.take_length]
   exact rGv rfl rfl
set_option maxRecDepth 20000 in
theorem jE:∀(t:Tm) {v:Value},RepV μ t.d v→t.d.wd→aM Tryz.prog 247 [v] μ (.bool (decide t.Sh)):=
 Tm.ind fun k n s l ih v hv hw=>by
  have w_:=Tm.inv hv
  obtain⟨base,cap,rfl,hsl⟩:=w_
  have hn:=aH hsl.max
  rw[Tm.d_mk]at hw
  have hs:s.size≤maxLen:=hw.2.2.1
  have hws:=D.wds_mem (xs:=l.map Tm.d) hw.2.2.2.1
  have hiff:=Tm.Sh_iff' k n s l
  refine Spec.mk Tryz.func247 (by kernel_rfl) ?_
  intro r
  repeat' (first
   |refine ifd (fun h=>?_) (fun h=>?_)
   |refine aL (fun h=>?_) (fun h=>?_)
   |refine iIn (fun h=>?_) (fun h=>?_))
  all_goals first
   |(exfalso;clear ih hsl hv hw hws hiff;first|omega|contradiction)
   |(refine rGv (isF fun hS=>?_) rfl;clear ih hsl hv hw hws;rcases hiff.1 hS with⟨e1,e2,e3,e4⟩|⟨e1,e2,e3,e4,e5⟩|⟨e1,e2,e3,e4⟩|⟨e1,e2,e3,e4,e5⟩|⟨e1,e2,e3,e4,e5⟩<;>first|omega|contradiction|(subst_vars;contradiction))
   |(refine rGv (isT (hiff.2 (.inl ⟨?_,?_,?_,?_⟩))) rfl<;>first|omega|assumption)
   |(refine cGv (bG _ _ _ _) (rGv (isI (p:=(0:Int)≤n∧n≤100000) (hiff.trans ⟨fun hh=>?_,fun hh=> .inr (.inl ⟨by omega,hh.1,hh.2,by assumption,by omega⟩)⟩).symm) rfl);rcases hh with⟨e1,e2,e3,e4⟩|⟨e1,e2,e3,e4,e5⟩|⟨e1,e2,e3,e4⟩|⟨e1,e2,e3,e4,e5⟩|⟨e1,e2,e3,e4,e5⟩<;>first|omega|exact⟨by omega,by omega⟩)
   |(refine cGv (bG _ _ _ _) (rGv (isI (p:=(-1000000000:Int)≤n∧n≤1000000000) (hiff.trans ⟨fun hh=>?_,fun hh=> .inr (.inr (.inr (.inl ⟨by omega,hh.1,hh.2,by assumption,by omega⟩)))⟩).symm) rfl);rcases hh with⟨e1,e2,e3,e4⟩|⟨e1,e2,e3,e4,e5⟩|⟨e1,e2,e3,e4⟩|⟨e1,e2,e3,e4,e5⟩|⟨e1,e2,e3,e4,e5⟩<;>first|omega|exact⟨by omega,by omega⟩)
   |(refine cGv (cO s hs _) (rGv (isI (p:=jZ s) (hiff.trans ⟨fun hh=>?_,fun hh=> .inr (.inr (.inl ⟨by omega,by omega,hh,by omega⟩))⟩).symm) rfl);rcases hh with⟨e1,e2,e3,e4⟩|⟨e1,e2,e3,e4,e5⟩|⟨e1,e2,e3,e4⟩|⟨e1,e2,e3,e4,e5⟩|⟨e1,e2,e3,e4,e5⟩<;>first|omega|assumption)
   |skip
  have h2:=h
  have w_:=qCo h2
  obtain⟨a,b,rfl⟩:=w_
  have w_:=Tm.elem (i:=0) hsl rfl
  obtain⟨ad,p,hel,hra⟩:=w_
  have w_:=Tm.elem (i:=1) hsl rfl
  obtain⟨ad',p',hel',hrb⟩:=w_
  refine eIn hel (cGv (ih a (by simp) hra (hws _ (by simp))) ?_)
  refine iIn (fun h=>?_) (fun h=>?_)
  ·refine eIn hel' (cGv (ih b (by simp) hrb (hws _ (by simp))) (rGv (isI (hiff.trans ⟨fun hh => ?_, fun hh => ?_⟩).symm) rfl))
   ·rcases hh with⟨e1,e2,e3,e4⟩|⟨e1,e2,e3,e4,e5⟩|⟨e1,e2,e3,e4⟩|⟨e1,e2,e3,e4,e5⟩|⟨e1,e2,e3,e4,e5⟩<;>first|omega|(obtain⟨a',b',e,e6,e7⟩:=e5;cases e;assumption)
   ·exact .inr (.inr (.inr (.inr ⟨by omega,by omega,by assumption,rfl,a,b,rfl,of_decide_eq_true h,hh⟩)))
  ·refine rGv (isF fun hh => ?_) rfl
   replace hh:=hiff.1 hh
   rcases hh with⟨e1,e2,e3,e4⟩|⟨e1,e2,e3,e4,e5⟩|⟨e1,e2,e3,e4⟩|⟨e1,e2,e3,e4,e5⟩|⟨e1,e2,e3,e4,e5⟩<;>first|omega|(obtain⟨a',b',e,e6,e7⟩:=e5;cases e;exact absurd e6 (of_decide_eq_false h))
noncomputable def Tm.nodes(t:Tm)(room:Int):Int:=if t.Sh∧(t.cnt:Int)≤room then t.cnt else -1
theorem Tm.nodes_neg{t:Tm}{room:Int}(h:¬(t.Sh∧(t.cnt:Int)≤room)):Value.int .i64 (-1)= .int .i64 (t.nodes room):=by rw[Tm.nodes,if_neg h]
theorem Tm.nodes_pos{t:Tm}{room:Int}(h:t.Sh)(h2:(t.cnt:Int)≤room):t.nodes room=t.cnt:=by rw[Tm.nodes,if_pos ⟨h,h2⟩]
theorem Tm.nodes_lt{t:Tm}{room:Int}(h:t.nodes room<0):¬(t.Sh∧(t.cnt:Int)≤room):=fun k=>by rw[Tm.nodes,if_pos k]at h;omega
theorem Tm.nodes_ge{t:Tm}{room:Int}(h:¬t.nodes room<0):t.Sh∧(t.cnt:Int)≤room∧t.nodes room=t.cnt:=by
 by_cases k:t.Sh∧(t.cnt:Int)≤room
 ·exact⟨k.1,k.2,by rw[Tm.nodes,if_pos k]⟩
 ·rw[Tm.nodes,if_neg k]at h;omega
set_option maxRecDepth 20000 in
theorem rJ:∀(t:Tm) {v:Value} {room:Int},RepV μ t.d v→ -1000000000000≤room→room≤1000000000000→aM Tryz.prog 179 [v,.int .i64 room] μ (.int .i64 (t.nodes room)):=
 Tm.ind fun k n s l ih v room hv hr1 hr2=>by
  have w_:=Tm.inv hv
  obtain⟨base,cap,rfl,hsl⟩:=w_
  have hn:=aH hsl.max
  have hiff:=Tm.Sh_iff' k n s l
  have hone:l.length=0→(Tm.mk k n s l).cnt=1:=fun h=>by
   have w_:=List.eq_nil_of_length_eq_zero h
   obtain rfl:=w_
   rfl
  have hpos:=Tm.cnt_pos (.mk k n s l)
  refine Spec.mk Tryz.func179 (by kernel_rfl) ?_
  intro r
  refine ifd (fun h0=>rGv (Tm.nodes_neg fun hh=>by omega) rfl) (fun h0=>?_)
  have hgood:(Tm.mk k n s l).Sh→l.length=0→Value.int .i64 1= .int .i64 ((Tm.mk k n s l).nodes room):=fun h1 h2=>by
   have:=hone h2
   rw[Tm.nodes_pos h1 (by omega),this];rfl
  refine aL (fun hk=>?_) (fun hk=>?_)
  ·repeat' (first
    |refine ifd (fun h=>?_) (fun h=>?_)
    |refine aL (fun h=>?_) (fun h=>?_)
    |refine iIn (fun h=>?_) (fun h=>?_)
    |refine cGv (fT s _) ?_)
   all_goals first
    |(exfalso;clear ih hsl hv hiff;first|omega|contradiction)
    |(refine rGv (Tm.nodes_neg fun hS=>?_) rfl;have hh:=hiff.1 hS.1;clear ih hsl hv;rcases hh with⟨e1,e2,e3,e4⟩|⟨e1,e2,e3,e4,e5⟩|⟨e1,e2,e3,e4⟩|⟨e1,e2,e3,e4,e5⟩|⟨e1,e2,e3,e4,e5⟩<;>first|omega|contradiction|(subst_vars;contradiction))
    |(refine rGv (hgood (hiff.2 (.inl ⟨?_,?_,?_,?_⟩)) (by omega)) rfl<;>first|omega|assumption;done)
    |(refine rGv (hgood (hiff.2 (.inr (.inl ⟨?_,?_,?_,?_,?_⟩))) (by omega)) rfl<;>first|omega|assumption;done)
    |(refine rGv (hgood (hiff.2 (.inr (.inr (.inl ⟨?_,?_,?_,?_⟩)))) (by omega)) rfl<;>first|omega|assumption;done)
    |(refine rGv (hgood (hiff.2 (.inr (.inr (.inr (.inl ⟨?_,?_,?_,?_,?_⟩))))) (by omega)) rfl<;>first|omega|assumption;done)
    |trace_state
  ·refine aL (fun h1 => ?_) (fun h1 => ?_)
   ·refine rGv (Tm.nodes_neg fun hS => ?_) rfl; have hh := hiff.1 hS.1; clear ih hsl hv
    rcases hh with⟨e1,e2,e3,e4⟩|⟨e1,e2,e3,e4,e5⟩|⟨e1,e2,e3,e4⟩|⟨e1,e2,e3,e4,e5⟩|⟨e1,e2,e3,e4,e5⟩<;>omega
   refine aL (fun h2=>?_) (fun h2=>?_)
   ·refine rGv (Tm.nodes_neg fun hS => ?_) rfl; have hh := hiff.1 hS.1; clear ih hsl hv
    rcases hh with⟨e1,e2,e3,e4⟩|⟨e1,e2,e3,e4,e5⟩|⟨e1,e2,e3,e4⟩|⟨e1,e2,e3,e4,e5⟩|⟨e1,e2,e3,e4,e5⟩<;>first|omega|contradiction
   refine aL (fun h3=>?_) (fun h3=>?_)
   ·refine rGv (Tm.nodes_neg fun hS => ?_) rfl; have hh := hiff.1 hS.1; clear ih hsl hv
    rcases hh with⟨e1,e2,e3,e4⟩|⟨e1,e2,e3,e4,e5⟩|⟨e1,e2,e3,e4⟩|⟨e1,e2,e3,e4,e5⟩|⟨e1,e2,e3,e4,e5⟩<;>omega
   have w_:=qCo h3
   obtain⟨a,b,rfl⟩:=w_
   have hcnt:(Tm.mk k n s [a,b]).cnt=1+a.cnt+b.cnt:=by simp[Tm.cnt,Tm.cnts];omega
   have hsh:(Tm.mk k n s [a,b]).Sh→a.Sh∧b.Sh:=fun hS=>by
    have hh:=hiff.1 hS
    rcases hh with⟨e1,e2,e3,e4⟩|⟨e1,e2,e3,e4,e5⟩|⟨e1,e2,e3,e4⟩|⟨e1,e2,e3,e4,e5⟩|⟨e1,e2,e3,e4,e5⟩<;>first|omega|(obtain⟨a',b',e,e6,e7⟩:=e5;cases e;exact⟨e6,e7⟩)
   have w_:=Tm.elem (i:=0) hsl rfl
   obtain⟨ad,p,hel,hra⟩:=w_
   have w_:=Tm.elem (i:=1) hsl rfl
   obtain⟨ad',p',hel',hrb⟩:=w_
   refine eIn hel (aB (by omega) (by omega) (cGv (ih a (by simp) hra (by omega) (by omega)) ?_))
   refine ifd (fun h4=>?_) (fun h4=>?_)
   ·have := Tm.nodes_lt h4
    refine rGv (Tm.nodes_neg fun hS=>this ⟨(hsh hS.1).1,?_⟩) rfl
    have:=hS.2;rw[hcnt]at this;omega
   have w_:=Tm.nodes_ge h4
   obtain⟨g1,g2,g3⟩:=w_
   have:=a.cnt_pos
   refine eIn hel' (aB (by omega) (by omega) (aB (by omega) (by omega) (cGv (ih b (by simp) hrb (by omega) (by omega)) ?_)))
   refine ifd (fun h5=>?_) (fun h5=>?_)
   ·have := Tm.nodes_lt h5
    refine rGv (Tm.nodes_neg fun hS=>this ⟨(hsh hS.1).2,?_⟩) rfl
    have:=hS.2;rw[hcnt]at this;omega
   have w_:=Tm.nodes_ge h5
   obtain⟨g4,g5,g6⟩:=w_
   refine aB (by omega) (by omega) (aB (by omega) (by omega) (rGv ?_ rfl))
   rw[Tm.nodes_pos (hiff.2 (.inr (.inr (.inr (.inr ⟨by omega,by omega,by assumption,rfl,a,b,rfl,g1,g4⟩))))) (by rw[hcnt];omega),hcnt]
   congr 1;omega
end
end Go.Vx
namespace Go.Vx
open Go.Proofs Classical
section
variable {μ:Mem}
theorem fF(t:Tm){v:Value}(hv:RepV μ t.d v)(hw:t.d.wd):aM Tryz.prog 203 [v] μ (.bool (decide t.Ok)):=by
 have w_:=Tm.invV hv
 obtain⟨p,rfl⟩:=w_
 refine Spec.mk Tryz.func203 (by kernel_rfl) ?_
 intro r
 refine cGv (oZ t hv (by decide) (by decide)) ?_
 refine ifd (fun h=>?_) (fun h=>rGv (isF fun hh=>?_) rfl)
 ·refine cGv (jE t hv hw) (rGv (isI ⟨fun hh => ⟨hh, ?_⟩, fun hh => hh.1⟩) rfl)
  unfold bP at h;omega
 ·have:=hh.2;unfold bP at h;omega
theorem fU(t:Tm){v:Value}(hv:RepV μ t.d v):aM Tryz.prog 116 [v] μ (.bool (decide t.Ok)):=by
 have w_:=Tm.invV hv
 obtain⟨p,rfl⟩:=w_
 refine Spec.mk Tryz.func116 (by kernel_rfl) ?_
 intro r
 refine cGv (rJ t hv (by decide) (by decide)) (rGv (isI ⟨fun hh=>?_,fun hh=>?_⟩) rfl)
 ·have w_ := Tm.nodes_ge (by omega : ¬ t.nodes 5000 < 0)
  obtain⟨h1,h2,_⟩:=w_
  exact⟨h1,by omega⟩
 ·rw [Tm.nodes_pos hh.1 (by have := hh.2; omega)]
  have:=t.cnt_pos;omega
theorem oY{l:List Tm}{base:Option Addr}{cap:Nat}(hsl:Sl μ 4 base l.length (l.map Tm.d))(hw:D.wds (l.map Tm.d)):aM Tryz.prog 257 [.slice base l.length cap] μ (.bool (decide (∀t∈l,t.Ok))):=by
  have hn:=aH hsl.max
  refine Spec.mk Tryz.func257 (by kernel_rfl) ?_
  refine lIn (fun i:Nat=>i≤l.length∧∀t∈l.take i,t.Ok) (fun i=>⟨[(5,.val (.slice base l.length cap)),(6,.val (.int .i64 l.length)),(7,.val (.int .i64 i))],[],0,μ,Mem.nil⟩) (fun i=>l.length-i)
   0 ⟨by omega,by simp⟩ (fun i=>⟨rfl,rfl⟩) ⟨⟨rfl,rfl,rfl,trivial⟩,trivial,rfl,rfl⟩ ?_
  rintro i ⟨hi,hall⟩
  refine ifd (fun h=>?_) (fun h=>?_)
  ·have w_ := aSo (l := l) (i := i) (by omega)
   obtain⟨t,ht⟩:=w_
   have w_:=Tm.elem hsl ht
   obtain⟨ad,p,hel,hr⟩:=w_
   refine eIn hel ?_
   intro r
   refine cGv (fF t hr (D.wds_mem hw _ (mAt (lM (f:=Tm.d) ht)))) ?_
   refine aL (fun h=>rGv (isF fun hh=>h (hh t (mAt ht))) rfl) (fun h=>?_)
   refine aB (by omega) (by omega) ⟨i+1,⟨by omega,fun x hx=>?_⟩,by omega,⟨⟨rfl,rfl,rfl,trivial⟩,trivial,rfl,rfl⟩⟩
   rw[List.take_add_one,ht,Option.toList_some,List.mem_append,List.mem_singleton]at hx
   rcases hx with hx|rfl
   ·exact hall x hx
   ·exact h
  ·obtain rfl : i = l.length := by omega
   rw[List.take_length]at hall
   exact rGv (isT hall) rfl
theorem rQ{l:List Tm}{base:Option Addr}{cap:Nat}(hsl:Sl μ 4 base l.length (l.map Tm.d)):aM Tryz.prog 119 [.slice base l.length cap] μ (.bool (decide (∀t∈l,t.Ok))):=by
  have hn:=aH hsl.max
  refine Spec.mk Tryz.func119 (by kernel_rfl) ?_
  refine lIn (fun i:Nat=>i≤l.length∧∀t∈l.take i,t.Ok) (fun i=>⟨[(5,.val (.slice base l.length cap)),(6,.val (.int .i64 l.length)),(7,.val (.int .i64 i))],[],0,μ,Mem.nil⟩) (fun i=>l.length-i)
   0 ⟨by omega,by simp⟩ (fun i=>⟨rfl,rfl⟩) ⟨⟨rfl,rfl,rfl,trivial⟩,trivial,rfl,rfl⟩ ?_
  rintro i ⟨hi,hall⟩
  refine ifd (fun h=>?_) (fun h=>?_)
  ·have w_ := aSo (l := l) (i := i) (by omega)
   obtain⟨t,ht⟩:=w_
   have w_:=Tm.elem hsl ht
   obtain⟨ad,p,hel,hr⟩:=w_
   refine eIn hel ?_
   intro r
   refine cGv (fU t hr) ?_
   refine aL (fun h=>rGv (isF fun hh=>h (hh t (mAt ht))) rfl) (fun h=>?_)
   refine aB (by omega) (by omega) ⟨i+1,⟨by omega,fun x hx=>?_⟩,by omega,⟨⟨rfl,rfl,rfl,trivial⟩,trivial,rfl,rfl⟩⟩
   rw[List.take_add_one,ht,Option.toList_some,List.mem_append,List.mem_singleton]at hx
   rcases hx with hx|rfl
   ·exact hall x hx
   ·exact h
  ·obtain rfl : i = l.length := by omega
   rw[List.take_length]at hall
   exact rGv (isT hall) rfl
end
end Go.Vx
namespace Go.Vx
open Go.Proofs Classical
theorem bJ{μ:Mem}{r:Nat}{x:Value}{ty:TypeId}(h:μ r=some (.cells #[x] ty (0,0))):∀j v,[x][j]? =some v→μ.cell ((⟨r,0,none⟩:Addr).add j)=some v:=fun j v hj=>by
 match j,hj with
 |0,hj=>cases hj;simp[Mem.cell,Addr.add_lit',h]
section
variable {μ:Mem}
theorem T.parts{a b:T}{base:Option Addr}{n:Nat}(h:Sl μ 4 base n ([a.tm,b.tm].map Tm.d)):∃ad ad',∃p p':Option Addr×Nat,ElemAt μ base n 4 ((0:Nat):Int) ad (a.tm.cs p)∧ElemAt μ base n 4 ((1:Nat):Int) ad' (b.tm.cs p')∧RepV μ a.tm.d (.agg (a.tm.cs p).toArray)∧RepV μ b.tm.d (.agg (b.tm.cs p').toArray):=by
 have w_:=Tm.elem (i:=0) h rfl
 obtain⟨ad,p,h1,h2⟩:=w_
 have w_:=Tm.elem (i:=1) h rfl
 obtain⟨ad',p',h3,h4⟩:=w_
 exact⟨ad,ad',p,p',h1,h3,h2,h4⟩
theorem gH{S:Type}(hp:S→Mem)(step:S→Int→S){k:FuncId}{caps:List Value}{Q:Int→Prop}
  (hc:∀s n,Q n→SpecH Tryz.prog k (.int .i64 n::caps) μ (hp s) fun r μ' h'=>r= .tuple #[]∧μ'=μ∧h'=hp (step s n)):
  ∀(x:T) {v:Value} (s:S),RepV μ x.tm.d v→(∀n∈x.vars,Q n)→SpecH Tryz.prog 225 [v,.func (.func k) #[] caps.toArray] μ (hp s) fun r μ' h'=>r= .tuple #[]∧μ'=μ∧h'=hp (x.vars.foldl step s)
 | .var n,v,s,hv,hq=>by
  have w_:=Tm.inv hv
  obtain⟨base,cap,rfl,hsl⟩:=w_
  refine SpecH.mk [] Tryz.func225 (by kernel_rfl) ?_
  intro r
  refine ifd (fun _=>?_) (fun h=>absurd rfl h)
  refine cOw (hc s n (hq n (by simp[T.vars]))) fun v μ' h' hle hap hR=>?_
  obtain⟨rfl,rfl,rfl⟩:=hR
  refine ifd (fun h=>absurd h (by decide)) (fun _=>?_)
  exact rPl ⟨rfl,rfl,rfl⟩
 | .nil,v,s,hv,hq=>by
  have w_:=Tm.inv hv
  obtain⟨base,cap,rfl,hsl⟩:=w_
  refine SpecH.mk [] Tryz.func225 (by kernel_rfl) ?_
  intro r
  refine ifd (fun h=>absurd h (by decide)) (fun _=>?_)
  refine ifd (fun h=>absurd h (by decide)) (fun _=>?_)
  exact rPl ⟨rfl,rfl,rfl⟩
 | .sym _,v,s,hv,hq=>by
  have w_:=Tm.inv hv
  obtain⟨base,cap,rfl,hsl⟩:=w_
  refine SpecH.mk [] Tryz.func225 (by kernel_rfl) ?_
  intro r
  refine ifd (fun h=>absurd h (by decide)) (fun _=>?_)
  refine ifd (fun h=>absurd h (by decide)) (fun _=>?_)
  exact rPl ⟨rfl,rfl,rfl⟩
 | .num _,v,s,hv,hq=>by
  have w_:=Tm.inv hv
  obtain⟨base,cap,rfl,hsl⟩:=w_
  refine SpecH.mk [] Tryz.func225 (by kernel_rfl) ?_
  intro r
  refine ifd (fun h=>absurd h (by decide)) (fun _=>?_)
  refine ifd (fun h=>absurd h (by decide)) (fun _=>?_)
  exact rPl ⟨rfl,rfl,rfl⟩
 | .pair a b,v,s,hv,hq=>by
  have w_:=Tm.inv hv
  obtain⟨base,cap,rfl,hsl⟩:=w_
  have w_:=T.parts hsl
  obtain⟨ad,ad',p,p',h1,h2,hra,hrb⟩:=w_
  refine SpecH.mk [] Tryz.func225 (by kernel_rfl) ?_
  intro r
  refine ifd (fun h=>absurd h (by decide)) (fun _=>?_)
  refine ifd (fun _=>?_) (fun h=>absurd rfl h)
  refine eIn h1 (cOw (gH hp step hc a s hra fun n hn=>hq n (by simp[T.vars,hn])) fun v μ' h' hle hap hR=>?_)
  obtain⟨rfl,e2,rfl⟩:=hR
  obtain rfl:=e2.symm
  refine eIn h2 (cOw (gH hp step hc b _ hrb fun n hn=>hq n (by simp[T.vars,hn])) fun v μ' h' hle hap hR=>?_)
  obtain⟨rfl,e2,rfl⟩:=hR
  obtain rfl:=e2.symm
  exact rPl ⟨rfl,rfl,by simp[T.vars]⟩
def jP(r:Nat)(b:Bool):Mem:=Mem.nil.set r (.cells #[.bool b] 4 (0,0))
theorem xG(r:Nat)(o o':Obj):(Mem.nil.set r o).set r o'=Mem.nil.set r o':=Mem.set_set _ _ _ _
end
end Go.Vx
namespace Go.Vx
open Go.Proofs Classical
section
variable {μ:Mem}
theorem nC(r:Nat)(b:Bool)(n:Int):SpecH Tryz.prog 226 [.int .i64 n,.pointer (some ⟨r,0,none⟩)] μ (jP r b) fun v μ' h'=>v= .tuple #[]∧μ'=μ∧h'=jP r false:=by
 refine SpecH.mk [] Tryz.func226 (by kernel_rfl) ?_
 refine sIn (h:=jP r b) (a:=⟨r,0,none⟩) [.bool b] 4 (set_self _ _ _) rfl ?_ ?_
 ·exact Nat.le_refl _
 exact rPl ⟨rfl,rfl,xG _ _ _⟩
theorem oX(x:T){v:Value}(hv:RepV μ x.tm.d v):aM Tryz.prog 176 [v] μ (.bool (decide (x.vars=[]))):=by
 have w_:=Tm.invV hv
 obtain⟨p,rfl⟩:=w_
 refine Spec.mkO [3] Tryz.func176 (by kernel_rfl) ?_
 intro r r2 h1 h2
 refine sIn [.bool false] 4 (set_self _ _ _) rfl ?_ ?_
 ·exact Nat.le_refl _
 have e:((Mem.nil.set r2 (.cells #[.bool false] 4 (0,0))).set r2 (.cells #[.bool true] 4 (0,0)))=jP r2 true:=xG _ _ _
 refine cOw (R:=fun r μ' h'=>r= .tuple #[]∧μ'=μ∧h'=jP r2 (x.vars.foldl (fun _ _=>false) true)) ?_ fun v μ' h' hle hap hR=>?_
 ·have := gH (jP r2) (fun _ _ => false) (Q := fun _ => True) (fun s n _ => nC r2 s n) x true hv (fun _ _ => trivial)
  rw[←e]at this
  exact this
 obtain⟨rfl,rfl,rfl⟩:=hR
 refine oIn [.bool (x.vars.foldl (fun _ _=>false) true)] rfl (fun j v hj=>?_) ?_
 ·match j, hj with
  |0,hj=>cases hj;simp[jP,Mem.cell,Addr.add_lit',set_self]
 ·refine rPl ⟨?_, rfl⟩
  have:∀(l:List Int) (b:Bool),l.foldl (fun _ _=>false) b=if l=[]then b else false:=fun l=>by
   induction l with
   |nil=>simp
   |cons a l ih=>intro b;simp only[List.foldl_cons,ih];simp
  rw[this]
  by_cases h:x.vars=[]<;>simp[h]
end
end Go.Vx
namespace Go.Vx
open Go.Proofs Classical
theorem iM:∀l:List Int,(aF l).flatMap aD=aF l
 |[]=>rfl
 |n::l=>by
  have:=iM l
  simp only[aF]at this ⊢
  simp[this,aD]
section
variable {μ:Mem}
theorem Ints.src{l:List Int}{base:Option Addr}(h:Sl μ 1 base l.length (l.map D.i)){a b cap:Nat}(hab:a≤b)(hb:b≤l.length)(hc:l.length≤cap):lW μ (if cap=a then base else base.map (·.add (a*1))) (b-a) 1 (aF ((l.drop a).take (b-a))):=by
 refine⟨by simp[aF];omega,fun y hy=>?_,?_⟩
 ·have w_ := List.mem_map.1 hy
  obtain⟨n,_,rfl⟩:=w_
  exact⟨rfl,fun u hu=>by simp[aD]at hu;subst hu;rfl⟩
 ·rcases Nat.eq_or_lt_of_le hab with h0 | h0
  ·exact .inl (by omega)
  ·right
   have w_:=aSo (l:=l) (i:=a) (by omega)
   obtain⟨x,hx⟩:=w_
   have w_:=Ints.elem h hx
   obtain⟨_,hel⟩:=w_
   obtain⟨a0,e,_⟩:=hel.addr
   refine⟨a0.add (a*1),by rw[if_neg (by omega),e];rfl,fun j v hj=>?_⟩
   rw[iM]at hj
   simp only[aF,List.getElem?_map]at hj
   have w_:=Option.map_eq_some_iff.1 hj
   obtain⟨y,hy,rfl⟩:=w_
   rw[List.getElem?_take]at hy
   split at hy
   ·rw [List.getElem?_drop] at hy
    have w_:=Ints.elem h hy
    obtain⟨ad,hel2⟩:=w_
    obtain⟨a1,e1,e2⟩:=hel2.addr
    rw[e]at e1
    cases e1
    have:=hel2.cell 0 _ rfl
    rw[e2,add_add]at this
    rw[add_add]
    rw[←this]
    congr 2
    simp
    omega
   ·cases hy
def aT(l:List Int)(n:Int)(k:Nat):List Int:=l.take k++([n]++l.drop k)
theorem dB(l:List Int)(n:Int)(k:Nat)(x:Int):x∈aT l n k↔x=n∨x∈l:=by
 have:=List.take_append_drop k l
 have h2:x∈l↔x∈l.take k∨x∈l.drop k:=by rw[←List.mem_append,this]
 simp only[aT,List.mem_append,List.mem_singleton,h2]
 constructor
 ·rintro(h|h|h)<;>simp[h]
 ·rintro(h|h|h)<;>simp[h]
def qUr(μ':Mem)(l:List Int)(n:Int)(v:Value):Prop:=∃r:List Int,RepV μ' (.sl 1 (r.map D.i)) v∧(∀x,x∈r↔x=n∨x∈l)∧r.length≤l.length+1
theorem vK{l:List Int}{v:Value}{n:Int}(hv:RepV μ (.sl 1 (l.map D.i)) v)(hb:l.length≤1000000000):Spec Tryz.prog 248 [v,.int .i64 n] μ fun v μ'=>qUr μ' l n v:=by
 have w_:=Rep.sl hv
 obtain⟨base,cap,rfl,hsl⟩:=w_
 have hcap:=Rep.lens hv
 rw[List.length_map]at hsl hcap hv ⊢
 refine Spec.mk Tryz.func248 (by kernel_rfl) ?_
 refine lIn (fun k:Nat=>k≤l.length) (fun k=>⟨[(0,.val (.slice base l.length cap)),(1,.val (.int .i64 n)),(5,.val (.int .i64 k))],[],0,μ,Mem.nil⟩) (fun k=>k)
  l.length (Nat.le_refl _) (fun i=>⟨rfl,rfl⟩) ⟨⟨rfl,rfl,rfl,trivial⟩,trivial,rfl,rfl⟩ ?_
 intro k hk
 refine ifd (fun h1=>?_) (fun h1=>?_)
 ·have w_ := aSo (l := l) (i := k - 1) (by omega)
  obtain⟨x,hx⟩:=w_
  have w_:=Ints.elem hsl hx
  obtain⟨ad,hel⟩:=w_
  refine nEq (x:=((k-1:Nat):Int)) (by rw[aA (by omega) (by omega)];omega) ?_
  refine eIn hel ?_
  refine ifd (fun h2=>?_) (fun h2=>?_)
  ·exact nEq (x:=((k-1:Nat):Int)) (by rw[aA (by omega) (by omega)];omega) ⟨k-1,by omega,by omega,⟨⟨rfl,rfl,rfl,trivial⟩,trivial,rfl,rfl⟩⟩
  ·refine ifd (fun h3 => ?_) (fun h3 => ?_)
   ·have w_ := aSo (l := l) (i := k) (by omega)
    obtain⟨y,hy⟩:=w_
    have w_:=Ints.elem hsl hy
    obtain⟨ad2,hel2⟩:=w_
    refine eIn hel2 ?_
    refine ifd (fun h4=>rPl ⟨l,hv,fun x=>⟨.inr,fun hx=>hx.elim (fun e=>by rw[e,←h4];exact mAt hy) id⟩,by omega⟩) (fun h4=>?_)
    intro r0
    refine aG 0 k rfl rfl (by omega) (by omega) ?_
    refine aJ _ (Ints.src hsl (a:=0) (b:=k) (by omega) hk hcap) ?_
    refine gIn ?_ ?_ fun b1 c1 _=>?_
    ·show(0+(aF _).length)*8≤_;simp[aF];omega
    ·show 0+(aF _).length≤9223372036854775807;simp[aF];omega
    intro r1
    refine gIn ?_ ?_ fun b2 c2 _=>?_
    ·show(([]++aF _).length+1)*8≤_;simp[aF];omega
    ·show([]++aF _).length+1≤9223372036854775807;simp[aF];omega
    refine aG k l.length rfl rfl hk (by omega) ?_
    refine aJ _ (Ints.src hsl (a:=k) (b:=l.length) hk (Nat.le_refl _) hcap) ?_
    refine gIn ?_ ?_ fun b3 c3 _=>?_
    ·show(([]++aF _++[_]).length+(aF _).length)*8≤_;simp[aF];omega
    ·show([]++aF _++[_]).length+(aF _).length≤9223372036854775807;simp[aF];omega
    refine rFz [0] fun μ' hle hno hrow=> .inl ⟨aT l n k,?_,dB l n k,?_⟩
    ·have e:[]++aF ((l.drop 0).take (k-0))++[.int .i64 n]++aF ((l.drop k).take (l.length-k))=aF (aT l n k):=by
      simp[aF,aT]
      rw[List.take_of_length_le (by simp)]
     rw[e]at hrow ⊢
     exact Ints.sl hrow (Nat.le_trans (m:=2000000000) (by simp[aT];omega) (by decide))
    ·simp[aT];omega
   ·intro r0
    refine aG 0 k rfl rfl (by omega) (by omega) ?_
    refine aJ _ (Ints.src hsl (a:=0) (b:=k) (by omega) hk hcap) ?_
    refine gIn ?_ ?_ fun b1 c1 _=>?_
    ·show(0+(aF _).length)*8≤_;simp[aF];omega
    ·show 0+(aF _).length≤9223372036854775807;simp[aF];omega
    intro r1
    refine gIn ?_ ?_ fun b2 c2 _=>?_
    ·show(([]++aF _).length+1)*8≤_;simp[aF];omega
    ·show([]++aF _).length+1≤9223372036854775807;simp[aF];omega
    refine aG k l.length rfl rfl hk (by omega) ?_
    refine aJ _ (Ints.src hsl (a:=k) (b:=l.length) hk (Nat.le_refl _) hcap) ?_
    refine gIn ?_ ?_ fun b3 c3 _=>?_
    ·show(([]++aF _++[_]).length+(aF _).length)*8≤_;simp[aF];omega
    ·show([]++aF _++[_]).length+(aF _).length≤9223372036854775807;simp[aF];omega
    refine rFz [0] fun μ' hle hno hrow=> .inl ⟨aT l n k,?_,dB l n k,?_⟩
    ·have e:[]++aF ((l.drop 0).take (k-0))++[.int .i64 n]++aF ((l.drop k).take (l.length-k))=aF (aT l n k):=by
      simp[aF,aT]
      rw[List.take_of_length_le (by simp)]
     rw[e]at hrow ⊢
     exact Ints.sl hrow (Nat.le_trans (m:=2000000000) (by simp[aT];omega) (by decide))
    ·simp[aT];omega
 ·refine ifd (fun h3 => ?_) (fun h3 => ?_)
  ·have w_ := aSo (l := l) (i := k) (by omega)
   obtain⟨y,hy⟩:=w_
   have w_:=Ints.elem hsl hy
   obtain⟨ad2,hel2⟩:=w_
   refine eIn hel2 ?_
   refine ifd (fun h4=>rPl ⟨l,hv,fun x=>⟨.inr,fun hx=>hx.elim (fun e=>by rw[e,←h4];exact mAt hy) id⟩,by omega⟩) (fun h4=>?_)
   intro r0
   refine aG 0 k rfl rfl (by omega) (by omega) ?_
   refine aJ _ (Ints.src hsl (a:=0) (b:=k) (by omega) hk hcap) ?_
   refine gIn ?_ ?_ fun b1 c1 _=>?_
   ·show(0+(aF _).length)*8≤_;simp[aF];omega
   ·show 0+(aF _).length≤9223372036854775807;simp[aF];omega
   intro r1
   refine gIn ?_ ?_ fun b2 c2 _=>?_
   ·show(([]++aF _).length+1)*8≤_;simp[aF];omega
   ·show([]++aF _).length+1≤9223372036854775807;simp[aF];omega
   refine aG k l.length rfl rfl hk (by omega) ?_
   refine aJ _ (Ints.src hsl (a:=k) (b:=l.length) hk (Nat.le_refl _) hcap) ?_
   refine gIn ?_ ?_ fun b3 c3 _=>?_
   ·show(([]++aF _++[_]).length+(aF _).length)*8≤_;simp[aF];omega
   ·show([]++aF _++[_]).length+(aF _).length≤9223372036854775807;simp[aF];omega
   refine rFz [0] fun μ' hle hno hrow=> .inl ⟨aT l n k,?_,dB l n k,?_⟩
   ·have e:[]++aF ((l.drop 0).take (k-0))++[.int .i64 n]++aF ((l.drop k).take (l.length-k))=aF (aT l n k):=by
     simp[aF,aT]
     rw[List.take_of_length_le (by simp)]
    rw[e]at hrow ⊢
    exact Ints.sl hrow (Nat.le_trans (m:=2000000000) (by simp[aT];omega) (by decide))
   ·simp[aT];omega
  ·intro r0
   refine aG 0 k rfl rfl (by omega) (by omega) ?_
   refine aJ _ (Ints.src hsl (a:=0) (b:=k) (by omega) hk hcap) ?_
   refine gIn ?_ ?_ fun b1 c1 _=>?_
   ·show(0+(aF _).length)*8≤_;simp[aF];omega
   ·show 0+(aF _).length≤9223372036854775807;simp[aF];omega
   intro r1
   refine gIn ?_ ?_ fun b2 c2 _=>?_
   ·show(([]++aF _).length+1)*8≤_;simp[aF];omega
   ·show([]++aF _).length+1≤9223372036854775807;simp[aF];omega
   refine aG k l.length rfl rfl hk (by omega) ?_
   refine aJ _ (Ints.src hsl (a:=k) (b:=l.length) hk (Nat.le_refl _) hcap) ?_
   refine gIn ?_ ?_ fun b3 c3 _=>?_
   ·show(([]++aF _++[_]).length+(aF _).length)*8≤_;simp[aF];omega
   ·show([]++aF _++[_]).length+(aF _).length≤9223372036854775807;simp[aF];omega
   refine rFz [0] fun μ' hle hno hrow=> .inl ⟨aT l n k,?_,dB l n k,?_⟩
   ·have e:[]++aF ((l.drop 0).take (k-0))++[.int .i64 n]++aF ((l.drop k).take (l.length-k))=aF (aT l n k):=by
     simp[aF,aT]
     rw[List.take_of_length_le (by simp)]
    rw[e]at hrow ⊢
    exact Ints.sl hrow (Nat.le_trans (m:=2000000000) (by simp[aT];omega) (by decide))
   ·simp[aT];omega
theorem lY{α β:Type}(f:α→List β)(l:List α)(i:Nat):((l.take i).flatMap f).length≤(l.flatMap f).length:=by
 have:=congrArg (fun l=>(l.flatMap f).length) (List.take_append_drop i l)
 simp only[List.flatMap_append,List.length_append]at this
 omega
theorem T.vars_args{x:T}(h:x.tm.kind≠1):x.vars=x.args.flatMap T.vars:=by
 cases x<;>simp_all [T.vars,T.args,T.tm,Tm.kind]
theorem T.vars_size:∀x:T,x.vars.length≤x.size
 | .nil=>by simp[T.vars]
 | .var _=>by simp[T.vars,T.size]
 | .sym _=>by simp[T.vars]
 | .num _=>by simp[T.vars]
 | .pair a b=>by
  have:=T.vars_size a
  have:=T.vars_size b
  simp[T.vars,T.size];omega
def qIz(μ':Mem)(l vs:List Int)(v:Value):Prop:=∃r:List Int,RepV μ' (.sl 1 (r.map D.i)) v∧(∀x,x∈r↔x∈vs∨x∈l)∧r.length≤l.length+vs.length
theorem zU:∀(x:T) {μ:Mem} {l:List Int} {w v:Value},RepV μ x.tm.d w→RepV μ (.sl 1 (l.map D.i)) v→l.length+x.vars.length≤1000000000→Spec Tryz.prog 204 [w,v] μ fun v μ'=>qIz μ' l x.vars v:=
 T.ind fun x ih μ l w v hw hv hb=>by
  obtain⟨base,cap,rfl,hsl⟩:∃base cap,w= .agg #[.int .i64 x.tm.kind,.int .i64 x.tm.num,.string x.tm.name,.slice base x.args.length cap]∧Sl μ 4 base x.args.length ((x.args.map T.tm).map Tm.d):=by
   have h1:=Tm.inv (k:=x.tm.kind) (n:=x.tm.num) (s:=x.tm.name) (l:=x.tm.args) (v:=w) (by cases x<;>exact hw)
   rw[T.tm_args,List.length_map]at h1
   exact h1
  have hn:=aH hsl.max
  refine Spec.mk Tryz.func204 (by kernel_rfl) ?_
  intro r
  refine ifd (fun h=>?_) (fun h=>?_)
  ·have e : x.vars = [x.tm.num] := by cases x <;> simp_all [T.vars, T.tm, Tm.kind, Tm.num]
   refine cPl (vK hv (by omega)) fun v' μ' hle hR=>rPl ?_
   obtain⟨r,h1,h2,h3⟩:=hR
   exact⟨r,h1,by simpa[e]using h2,by simpa[e]using h3⟩
  have e:=T.vars_args h
  refine lIn (fun p:Nat×Value×Mem=>p.1≤x.args.length∧μ.Le p.2.2∧qIz p.2.2 l ((x.args.take p.1).flatMap T.vars) p.2.1)
   (fun(i,v,μ')=>⟨[(1,.val v),(15,.val (.slice base x.args.length cap)),(16,.val (.int .i64 x.args.length)),(17,.val (.int .i64 i))],[],1,μ',Mem.nil⟩) (fun p=>x.args.length-p.1)
   (0,v,μ) ⟨by simp,Mem.Le.refl μ,l,hv,by simp,by simp⟩ (fun(_,_,_)=>⟨rfl,rfl⟩) ⟨⟨rfl,rfl,rfl,rfl,trivial⟩,trivial,rfl,rfl⟩ ?_
  rintro⟨i,v,μ'⟩ ⟨hi,hle,r,h1,h2,h3⟩
  dsimp only at hi hle h1 h2 h3
  have hpre:((x.args.take i).flatMap T.vars).length≤x.vars.length:=by
   rw[e];exact lY _ _ _
  refine ifd (fun h=>?_) (fun h=>?_)
  ·have w_ := aSo (l := x.args) (i := i) (by omega)
   obtain⟨t,ht⟩:=w_
   have ht':(x.args.map T.tm)[i]? =some t.tm:=by simp[ht]
   have w_:=Tm.elem (hsl.mono hle) ht'
   obtain⟨ad,p,hel,hr⟩:=w_
   have hsucc:(x.args.take (i+1)).flatMap T.vars=(x.args.take i).flatMap T.vars++t.vars:=by
    rw[List.take_add_one,ht,Option.toList_some,List.flatMap_append];simp
   have hall:((x.args.take (i+1)).flatMap T.vars).length≤x.vars.length:=by
    rw[e];exact lY _ _ _
   rw[hsucc,List.length_append]at hall
   refine eIn hel ?_
   intro r2
   refine cPl (ih t (mAt ht) hr h1 (by omega)) fun v' μ'' hle2 hR=>?_
   obtain⟨q,g1,g2,g3⟩:=hR
   refine aB (by omega) (by omega) ⟨(i+1,v',μ''),⟨by dsimp only;omega,hle.trans hle2,q,g1,fun y=>?_,?_⟩,by dsimp only;omega,⟨⟨rfl,rfl,rfl,rfl,trivial⟩,trivial,rfl,rfl⟩⟩
   ·dsimp only
    rw[g2,h2,hsucc,List.mem_append]
    constructor
    ·rintro(h|h|h)<;>simp[h]
    ·rintro((h|h)|h)<;>simp[h]
   ·dsimp only
    rw[hsucc,List.length_append];omega
  ·have hi' : i = x.args.length := by omega
   subst hi'
   rw[List.take_length,←e]at h2 h3
   exact rPl ⟨r,h1,h2,h3⟩
end
end Go.Vx
namespace Go.Vx
open Go.Proofs Classical
section
variable {μ:Mem}
theorem pT(x:T){v:Value}(hv:RepV μ x.tm.d v)(hx:x.ok)(hw:x.tm.d.wd):aM Tryz.prog 141 [v] μ (.bool (decide (x.vars=[]))):=by
 have w_:=Tm.invV hv
 obtain⟨p,rfl⟩:=w_
 have:=T.vars_size x
 have:=hx.2
 refine Spec.forget (Spec.mk Tryz.func141 (by kernel_rfl) ?_)
 intro r
 refine cGv (fF x.tm hv hw) ?_
 refine ifd (fun _=>?_) (fun h=>absurd hx.tm h)
 refine cPl (zU x (l:=[]) hv (Rep.nilSl 1) (by simp;omega)) fun v' μ' hle hR=>?_
 obtain⟨r,h1,h2,h3⟩:=hR
 have w_:=Rep.sl h1
 obtain⟨b,c,rfl,_⟩:=w_
 refine rPl (isI ?_)
 rw[List.length_map]
 constructor
 ·intro hh
  have:r=[]:=List.eq_nil_of_length_eq_zero (by omega)
  subst this
  cases hx:x.vars with
  |nil=>rfl
  |cons a l=>
   have:=(h2 a).2 (.inl (by simp[hx]))
   simp at this
 ·intro hh
  rw[hh]at h3
  simp at h3
  rw[h3];rfl
end
end Go.Vx
namespace Go.Vx
open Go.Proofs Classical
theorem Tm.Ok.toT{t:Tm}(h:t.Ok):t.toT.ok∧t.toT.tm=t:=by
 obtain⟨x,h1,rfl⟩:=h.lift
 rw[T.toT_tm];exact⟨h1,rfl⟩
structure B where
 var:Int
 to:T
def B.bd(b:B):Bd:=⟨b.var,b.to.tm⟩
def sub:List B→Int→Option T
 |[],_=>none
 |b::r,n=>if b.var=n then some b.to else sub r n
theorem bR{α:Type}{l:List α}{i:Nat}{a:α}(h:l[i]? =some a):l.drop i=a::l.drop (i+1):=by
 have w_:=List.getElem?_eq_some_iff.1 h
 obtain⟨h1,h2⟩:=w_
 rw[List.drop_eq_getElem_cons h1,h2]
def qDg(P:T→Value→Prop)(o:Option T)(v:Value):Prop:=match o with
 |some y=>∃tv,v= .tuple #[tv,.bool true]∧P y tv
 |none=>v= .tuple #[.agg #[.int .i64 0,.int .i64 0,.string ⟨#[]⟩,.slice none 0 0],.bool false]
section
variable {μ:Mem}
theorem Bd.toV{b:Bd}{p:Option Addr×Nat}(h:RepV μ b.d (.agg (b.cs p).toArray)):RepV μ b.to.d (.agg (b.to.cs p).toArray):=by
 have w_:=Bd.inv h
 obtain⟨q,e,hto⟩:=w_
 have hq:q=p:=by
  have h2:=congrArg (fun v=>match v with|Value.agg a=>a[4]? |_=>none) e
  simp[Bd.cs]at h2
  exact Prod.ext h2.1.symm h2.2.symm
 rw[←hq];exact hto
theorem fO{a b:T}{va vb:Value}(ha:RepV μ a.tm.d va)(hb:RepV μ b.tm.d vb):Spec Tryz.prog 190 [va,vb] μ fun v μ'=>RepV μ' (T.pair a b).tm.d v:=by
 have w_:=Tm.invV ha
 obtain⟨p,rfl⟩:=w_
 have w_:=Tm.invV hb
 obtain⟨q,rfl⟩:=w_
 refine Spec.mk Tryz.func190 (by kernel_rfl) ?_
 intro r1 r2 r3 r4
 refine rFz [3] fun μ' hle hno hrow=> .inl ?_
 rw[T.tm,Tm.d_mk]
 exact⟨_,rfl,RepS.int (RepS.int (RepS.str (RepS.last (Rows.sl hrow (.cons (ha.mono hle) (Tm.d_n _) (.cons (hb.mono hle) (Tm.d_n _) .nil)) (show 2≤maxLen by decide)))))⟩
theorem qBp{bs:List B}{base:Option Addr}{cap:Nat}{n:Int}(hsl:Sl μ 5 base bs.length ((bs.map B.bd).map Bd.d)):
  Spec Tryz.prog 266 [.slice base bs.length cap,.int .i64 n] μ fun v μ'=>qDg (fun y tv=>RepV μ y.tm.d tv) (sub bs n) v∧μ'=μ:=by
 have hn:=aH hsl.max
 refine Spec.mk Tryz.func266 (by kernel_rfl) ?_
 intro r
 refine lIn (fun i:Nat=>i≤bs.length∧sub bs n=sub (bs.drop i) n) (fun i=>⟨[(1,.val (.int .i64 n)),(4,.loc 0 r 0),(8,.val (.slice base bs.length cap)),(9,.val (.int .i64 bs.length)),(10,.val (.int .i64 i))],[(0,some (.cells r [.val (.int .i64 0),.val (.int .i64 0),.val (.string ⟨#[]⟩),.val (.slice none 0 0)] 75))],1,μ,Mem.nil⟩) (fun i=>bs.length-i)
  0 ⟨by omega,rfl⟩ (fun i=>⟨rfl,rfl⟩) ⟨⟨rfl,rfl,rfl,rfl,rfl,trivial⟩,⟨rfl,trivial⟩,rfl,rfl⟩ ?_
 rintro i ⟨hi,he⟩
 refine ifd (fun h=>?_) (fun h=>?_)
 ·have w_ := aSo (l := bs) (i := i) (by omega)
  obtain⟨b,hb⟩:=w_
  have hb':(bs.map B.bd)[i]? =some b.bd:=by simp[hb]
  have w_:=Bd.elem hsl hb'
  obtain⟨ad,p,hel,hr⟩:=w_
  have hto:=Bd.toV hr
  rw[bR hb]at he
  refine eIn hel ?_
  intro r2
  refine ifd (fun h2=>?_) (fun h2=>?_)
  ·have h2 : b.var = n := h2
   have e2:sub bs n=some b.to:=by rw[he,sub,if_pos h2]
   rw[e2]
   exact rPl ⟨⟨_,rfl,hto⟩,rfl⟩
  ·have h2 : ¬ b.var = n := h2
   have e2:sub bs n=sub (bs.drop (i+1)) n:=by rw[he,sub,if_neg h2]
   exact aB (by omega) (by omega) ⟨i+1,⟨by omega,e2⟩,by omega,⟨⟨rfl,rfl,rfl,rfl,rfl,trivial⟩,⟨rfl,trivial⟩,rfl,rfl⟩⟩
 ·obtain rfl : i = bs.length := by omega
  rw[List.drop_length]at he
  rw[he]
  exact rPl ⟨rfl,rfl⟩
theorem qBq{bs:List B}{base:Option Addr}{cap:Nat}:∀(x:T) {μ:Mem} {v:Value},Sl μ 5 base bs.length ((bs.map B.bd).map Bd.d)→RepV μ x.tm.d v→
  Spec Tryz.prog 262 [.slice base bs.length cap,v] μ fun v μ'=>RepV μ' (x.subst (sub bs)).tm.d v:=by
 intro x
 induction x with
 |var n=>
  intro μ v hsl hv
  have w_:=Tm.invV hv
  obtain⟨p,rfl⟩:=w_
  refine Spec.mk Tryz.func262 (by kernel_rfl) ?_
  intro r1 r2
  refine ifd (fun _=>?_) (fun h=>absurd rfl h)
  refine cPl (qBp hsl) fun v' μ' hle hR=>?_
  obtain⟨hR,e2⟩:=hR
  obtain rfl:=e2.symm
  have hR:qDg (fun y tv=>RepV μ y.tm.d tv) (sub bs n) v':=hR
  simp only[T.subst]
  cases hs:sub bs n with
  |some y=>
   rw[hs]at hR
   obtain⟨tv,rfl,htv⟩:=hR
   have w_:=Tm.invV htv
   obtain⟨q,rfl⟩:=w_
   intro r3
   refine iIn (fun _=>rPl htv) (fun h=>nomatch h)
  |none=>
   rw[hs]at hR
   obtain rfl:=hR
   intro r3
   refine iIn (fun h=>nomatch h) (fun _=>?_)
   refine ifd (fun h=>absurd h (by simp[T.tm,Tm.kind])) (fun _=>?_)
   exact rPl hv
 |pair a b iha ihb=>
  intro μ v hsl hv
  have w_:=Tm.inv hv
  obtain⟨base',cap',rfl,hsa⟩:=w_
  have w_:=T.parts hsa
  obtain⟨ad,ad',p,p',h1,h2,hra,hrb⟩:=w_
  refine Spec.mk Tryz.func262 (by kernel_rfl) ?_
  intro r1 r2
  refine ifd (fun h=>absurd h (by simp)) (fun _=>?_)
  refine ifd (fun _=>?_) (fun h=>absurd rfl h)
  refine eIn h1 ?_
  refine eIn h2 ?_
  refine cPl (iha hsl hra) fun v1 μ1 hle1 hR1=>?_
  refine cPl (ihb (hsl.mono hle1) (hrb.mono hle1)) fun v2 μ2 hle2 hR2=>?_
  refine cPl (fO (hR1.mono hle2) hR2) fun v3 μ3 hle3 hR3=>?_
  have w_:=Tm.invV hR3
  obtain⟨q,rfl⟩:=w_
  exact rPl hR3
 |_=>
  intro μ v hsl hv
  have w_:=Tm.invV hv
  obtain⟨p,rfl⟩:=w_
  refine Spec.mk Tryz.func262 (by kernel_rfl) ?_
  intro r1 r2
  refine ifd (fun h=>absurd h (by simp[T.tm,Tm.kind])) (fun _=>?_)
  refine ifd (fun h=>absurd h (by simp[T.tm,Tm.kind])) (fun _=>?_)
  exact rPl hv
end
end Go.Vx
namespace Go.Vx
open Go.Proofs Classical
theorem T.args_le(x:T):x.args.length≤2:=by cases x<;>simp[T.args]
theorem lO:∀(x:T) {μ:Mem} {v:Value},RepV μ x.tm.d v→Spec Tryz.prog 207 [v] μ fun v μ'=>RepV μ' x.tm.d v:=
 T.ind fun x ih μ v hv=>by
  have w_:=T.inv hv
  obtain⟨base,cap,rfl,hsl⟩:=w_
  have hn:=T.args_le x
  refine Spec.mk Tryz.func207 (by kernel_rfl) ?_
  intro r1 r2 r3
  refine aU (fun p:Nat×Option Nat×Nat×List Value×Mem=>p.1≤x.args.length∧μ.Le p.2.2.2.2∧Rows p.2.2.2.2 4 (((x.args.take p.1).map T.tm).map Tm.d) p.2.2.2.1)
   (fun (i, b, c, ys, μ') => ⟨[(2, .loc 1 r2 0), (3, .loc 2 r3 0), (14, .val (.slice base x.args.length cap)), (15, .val (.int .i64 x.args.length)), (16, .val (.int .i64 i))],
    [(1,some (.cells r2 [.val (.int .i64 0),.val (.int .i64 0),.val (.string ⟨#[]⟩),.val (.slice none 0 0)] 75)),(2,some (.cells r3 [.val (.int .i64 x.tm.kind),.val (.int .i64 x.tm.num),.val (.string x.tm.name),.row 3 b ys.length c] 75)),(3,some (.row b c 75 4 ys))],4,μ',Mem.nil⟩) (fun p=>x.args.length-p.1)
   (0,none,0,[],μ) ⟨by simp,Mem.Le.refl μ,.nil⟩ (fun(_,_,_,_,_)=>⟨rfl,rfl⟩) ⟨⟨⟨_,rfl,.inl rfl⟩,⟨_,rfl,.inl rfl⟩,⟨_,rfl,.inl rfl⟩,⟨_,rfl,.inl rfl⟩,⟨_,rfl,.inl rfl⟩,trivial⟩,⟨.inl rfl,.inr (.inr ⟨_,_,_,_,rfl,rfl,.inl rfl,.inl rfl,.inl rfl,.inr ⟨3,rfl,rfl,Nat.le_refl _⟩,trivial⟩),.inr (.inl ⟨_,_,rfl,Nat.le_refl _⟩),trivial⟩,rfl,rfl⟩ ?_
  rintro⟨i,b,c,ys,μ'⟩ ⟨hi,hle,hrows⟩
  dsimp only at hi hle hrows
  have hlen:=hrows.len
  simp only[List.length_map,List.length_take]at hlen
  refine ifd (fun h=>?_) (fun h=>?_)
  ·have w_ := aSo (l := x.args) (i := i) (by omega)
   obtain⟨t,ht⟩:=w_
   have ht':(x.args.map T.tm)[i]? =some t.tm:=by simp[ht]
   have w_:=Tm.elem (hsl.mono hle) ht'
   obtain⟨ad,p,hel,hr⟩:=w_
   refine eIn hel ?_
   intro r4
   refine cPl (ih t (mAt ht) hr) fun v' μ'' hle2 hR=>?_
   have w_:=Tm.invV hR
   obtain⟨q,rfl⟩:=w_
   intro r5
   refine gIn ?_ ?_ fun b' c' _=>?_
   ·show(ys.length+1)*56≤_;omega
   ·show ys.length+1≤9223372036854775807;omega
   have hsucc:((x.args.take (i+1)).map T.tm).map Tm.d=((x.args.take i).map T.tm).map Tm.d++[t.tm.d]:=by
    rw[List.take_add_one,ht,Option.toList_some];simp
   exact aB (by omega) (by omega) ⟨(i+1,b',c',_,μ''),⟨by dsimp only;omega,hle.trans hle2,by rw[hsucc];exact(hrows.mono hle2).append (Rows.one hR (Tm.d_n _))⟩,by dsimp only;omega,⟨⟨rfl,rfl,rfl,rfl,rfl,trivial⟩,⟨rfl,rfl,rfl,trivial⟩,rfl,rfl⟩⟩
  ·obtain rfl : i = x.args.length := by omega
   rw[List.take_length]at hrows
   refine rFz [3] fun μ2 hle2 hno hrow=> .inl ?_
   rw[T.d_eq]
   exact⟨_,rfl,RepS.int (RepS.int (RepS.str (RepS.last (Rows.sl hrow (hrows.mono hle2) (Nat.le_trans (m:=10) (by omega) (by decide))))))⟩
end Go.Vx
namespace Go.Vx
open Go.Proofs Classical
section
variable {μ:Mem}
theorem sI{μ1 μ2:Mem}{a b:D}{va vb:Value}(na:a.n=4)(nb:b.n=4)(h1:μ.Le μ1)(h2:μ1.Le μ2)(ha:Fresh μ μ1 a va)(hb:Fresh μ1 μ2 b vb):∃g,OwnRows 4 [a,b] [va,vb] g∧g.Le μ2∧∀x,g x≠none→μ x=none:=by
 obtain⟨ga,a1,a2,a3⟩:=ha
 obtain⟨gb,b1,b2,b3⟩:=hb
 have hap:=iF a2 b3
 have k1:=(OwnRows.nil 4).snoc a1 na (Apart.nil_left _)
 have k2:=k1.snoc b1 nb (fun x hx=>hap x (by
  rcases gW hx with h|h
  ·exact absurd rfl h
  ·exact h))
 refine⟨_,k2,eH (eH (fun _ _ h=>nomatch h) (a2.trans h2)) b2,fun x hx=>?_⟩
 rcases gW hx with h|h
 ·rcases gW h with h | h
  ·exact absurd rfl h
  ·exact a3 x h
 ·cases h0 : μ x with
  |none=>rfl
  |some o=>have:=b3 x h;rw[h1 x o h0]at this;cases this
theorem fN:∀(x:T) {μ:Mem} {v:Value},RepV μ x.tm.d v→Spec Tryz.prog 174 [v] μ fun v μ'=>Fresh μ μ' x.tm.d v:=by
 intro x
 induction x with
 |pair a b iha ihb=>
  intro μ v hv
  have w_:=Tm.inv hv
  obtain⟨base',cap',rfl,hsa⟩:=w_
  have w_:=T.parts hsa
  obtain⟨ad,ad',p,p',h1,h2,hra,hrb⟩:=w_
  refine Spec.mk Tryz.func174 (by kernel_rfl) ?_
  intro r1 r2
  refine aL (fun h=>absurd rfl h) (fun _=>?_)
  refine eIn h1 ?_
  refine eIn h2 ?_
  refine cPl (iha hra) fun v1 μ1 hle1 hR1=>?_
  refine cPl (ihb (hrb.mono hle1)) fun v2 μ2 hle2 hR2=>?_
  have w_:=sI (Tm.d_n _) (Tm.d_n _) hle1 hle2 hR1 hR2
  obtain⟨g,k1,k2,k3⟩:=w_
  have w_:=Tm.invV hR1.rep
  obtain⟨q1,rfl⟩:=w_
  have w_:=Tm.invV hR2.rep
  obtain⟨q2,rfl⟩:=w_
  intro r3
  refine rFz [2] fun μ' hle hno hrow=> .inl ?_
  have w_:=Fresh.ofRow k1 k2 k3 (hle1.trans hle2) hle hno hrow (show 2≤maxLen by decide)
  obtain⟨gg,g1,g2,g3⟩:=w_
  rw[T.d_eq]
  exact⟨gg,⟨_,rfl,OwnS.int (OwnS.int (OwnS.str (OwnS.last g1)))⟩,g2,g3⟩
 |_=>
  intro μ v hv
  have w_:=Tm.inv hv
  obtain⟨base',cap',rfl,hsa⟩:=w_
  refine Spec.mk Tryz.func174 (by kernel_rfl) ?_
  intro r1 r2
  refine aL (fun _=>?_) (fun h=>absurd h (by simp))
  refine rPl ?_
  rw[T.d_eq]
  exact⟨Mem.nil,⟨_,rfl,OwnS.int (OwnS.int (OwnS.str (OwnS.last (Own.nilSl 4))))⟩,(fun _ _ h=>nomatch h),fun _ h=>absurd rfl h⟩
end
end Go.Vx
namespace Go.Vx
open Go.Proofs Classical
section
variable {μ:Mem}
theorem oE{n:Int}(h1:0≤n)(h2:n<18446744073709551616):IntKind.u64.wrap n=n:=by
 have e:IntKind.u64.bits=64:=rfl
 have e2:IntKind.u64.signed=false:=rfl
 simp only[IntKind.wrap,e,e2,Bool.false_and]
 simp only[show(2:Int) ^ 64=18446744073709551616 from rfl]
 simp;omega
theorem qAv{k:FuncId}{caps:List Value}{p:Int→Prop}{n:Nat}(hn:n≤1000000000)(hk:∀i:Nat,i<n→aM Tryz.prog k (.int .i64 i::caps) μ (.bool (decide (p i)))):
  Spec Tryz.prog 135 [.int .i64 n,.func (.func k) #[] caps.toArray] μ fun v μ'=>(∃i:Nat,v= .int .i64 i∧i≤n∧(i<n→p i)∧∀j:Nat,j+1=i→¬p j)∧μ'=μ:=by
 refine Spec.mk Tryz.func135 (by kernel_rfl) ?_
 refine lIn (fun q:Nat×Nat=>q.1≤q.2∧q.2≤n∧(q.2<n→p q.2)∧∀j:Nat,j+1=q.1→¬p j) (fun(i,j)=>⟨[(1,.val (.func (.func k) #[] caps.toArray)),(5,.val (.int .i64 i)),(6,.val (.int .i64 j))],[],0,μ,Mem.nil⟩) (fun q=>q.2-q.1)
  (0,n) ⟨by simp,by simp,by simp,fun j hj=>by simp at hj⟩ (fun(_,_)=>⟨rfl,rfl⟩) ⟨⟨rfl,rfl,rfl,trivial⟩,trivial,rfl,rfl⟩ ?_
 rintro⟨i,j⟩ ⟨h1,h2,h3,h4⟩
 dsimp only at h1 h2 h3 h4
 refine ifd (fun h=>?_) (fun h=>?_)
 ·refine aB (by omega) (by omega) ?_
  refine nEq (oE (by omega) (by omega)) ?_
  refine aC (by omega) ?_
  refine nEq (x:=(((i+j) / 2:Nat):Int)) ?_ ?_
  ·show Int.fdiv ((i : Int) + j) (2 ^ (min (Int.toNat 1) 64)) = _
   rw[show min (Int.toNat 1) 64=1 from rfl,show(2:Int) ^ 1=2 from rfl,Int.fdiv_eq_ediv_of_nonneg _ (by omega)]
   omega
  refine aB (by omega) (by omega) ?_
  refine cGv (hk ((i+j) / 2) (by omega)) ?_
  refine aL (fun hp=>?_) (fun hp=>?_)
  ·refine aB (by omega) (by omega) ⟨((i + j) / 2 + 1, j), ⟨by dsimp only; omega, h2, h3, fun m hm => ?_⟩, by dsimp only; omega, ⟨⟨rfl, rfl, rfl, trivial⟩, trivial, rfl, rfl⟩⟩
   dsimp only at hm
   obtain rfl:m=(i+j) / 2:=by omega
   exact hp
  ·exact⟨(i,(i+j) / 2),⟨by dsimp only;omega,by dsimp only;omega,fun _=>hp,h4⟩,by dsimp only;omega,⟨⟨rfl,rfl,rfl,trivial⟩,trivial,rfl,rfl⟩⟩
 ·obtain rfl : i = j := by omega
  exact rPl ⟨⟨i,rfl,h2,h3,h4⟩,rfl⟩
end
end Go.Vx
namespace Go.Vx
open Go.Proofs Classical
section
variable {μ:Mem}
theorem B.elem{bs:List B}{base:Option Addr}{n:Nat}(h:Sl μ 5 base n ((bs.map B.bd).map Bd.d)){i:Nat}{b:B}(hb:bs[i]? =some b):∃ad,∃p:Option Addr×Nat,ElemAt μ base n 5 i ad (b.bd.cs p)∧RepV μ b.to.tm.d (.agg (b.to.tm.cs p).toArray):=by
 have hb':(bs.map B.bd)[i]? =some b.bd:=by simp[hb]
 have w_:=Bd.elem h hb'
 obtain⟨ad,p,h1,h2⟩:=w_
 exact⟨ad,p,h1,Bd.toV h2⟩
end
end Go.Vx
namespace Go.Vx
open Go.Proofs Classical
theorem hd1{x y:Tm}{r:Int}(h:¬x.kind=y.kind):iX x y r=sgn (decide (x.kind<y.kind)):=by rw[iX,if_pos h]
theorem hd2{x y:Tm}{r:Int}(h1:x.kind=y.kind)(h:¬x.num=y.num):iX x y r=sgn (decide (x.num<y.num)):=by rw[iX,if_neg (fun k=>k h1),if_pos h]
theorem hd3{x y:Tm}{r:Int}(h1:x.kind=y.kind)(h2:x.num=y.num)(h:¬x.name=y.name):iX x y r=sgn (Op.bytesLess x.name.data.toList y.name.data.toList):=by rw[iX,if_neg (fun k=>k h1),if_neg (fun k=>k h2),if_pos h]
section
variable {μ:Mem}
theorem eR(a b:Int)(h:¬a=b):aM Tryz.prog 211 [.int .i64 a,.int .i64 b] μ (.int .i64 (sgn (decide (a<b)))):=by
 refine Spec.mk Tryz.func211 (by kernel_rfl) ?_
 refine ifd (fun h1=>rGv ?_ rfl) (fun h1=>?_)
 ·rw[decide_eq_true h1];rfl
 refine ifd (fun h2=>rGv ?_ rfl) (fun h2=>by omega)
 rw[decide_eq_false h1];rfl
theorem dG(b:Bool):aM Tryz.prog 205 [.bool b] μ (.int .i64 (sgn b)):=by
 refine Spec.mk Tryz.func205 (by kernel_rfl) ?_
 refine iIn (fun h1=>rGv ?_ rfl) (fun h1=>rGv ?_ rfl)
 ·rw[h1];rfl
 ·rw[h1];rfl
theorem T.rest_at{x y:T}{i:Nat}{p q:T}(h:∀j p q,j<i→x.args[j]? =some p→y.args[j]? =some q→p.cmp q=0)(hp:x.args[i]? =some p)(hq:y.args[i]? =some q)(hne:p.cmp q≠0):x.rest y=p.cmp q:=by
 cases x with
 |pair a b=>
  cases y with
  |pair c d=>
   simp only[T.rest]
   match i,hp,hq with
   |0,hp,hq=>cases hp;cases hq;rw[if_neg hne]
   |1,hp,hq=>
    cases hp;cases hq
    have:=h 0 a c (by omega) rfl rfl
    rw[if_pos this]
   |i+2,hp,hq=>simp[T.args]at hp
  |_=>simp[T.args]at hq
 |_=>simp[T.args]at hp
theorem T.rest_zero{x y:T}(h:∀(j:Nat) p q,j<x.args.length→x.args[j]? =some p→y.args[j]? =some q→p.cmp q=0):x.rest y=0:=by
 cases x with
 |pair a b=>
  cases y with
  |pair c d=>
   have h0:=h 0 a c (by simp[T.args]) rfl rfl
   have h1:=h 1 b d (by simp[T.args]) rfl rfl
   simp only[T.rest]
   rw[if_pos h0,h1]
  |_=>rfl
 |_=>rfl
theorem T.args_kind{x y:T}(h:x.tm.kind=y.tm.kind):x.args.length=y.args.length:=by
 cases x<;>cases y<;>simp_all [T.tm,Tm.kind,T.args]
theorem T.kind4{x:T}(h:x.tm.kind=4):∃a b,x= .pair a b:=by
 cases x<;>simp_all [T.tm,Tm.kind]
theorem T.arg{μ:Mem}{x:T}{base:Option Addr}(h:Sl μ 4 base x.args.length ((x.args.map T.tm).map Tm.d)){i:Nat}{y:T}(hy:x.args[i]? =some y):∃ad,∃p:Option Addr×Nat,ElemAt μ base x.args.length 4 i ad (y.tm.cs p)∧RepV μ y.tm.d (.agg (y.tm.cs p).toArray):=
 Tm.elem h (by simp[hy])
theorem eV:∀(x y:T) {v w:Value},RepV μ x.tm.d v→RepV μ y.tm.d w→aM Tryz.prog 181 [v,w] μ (.int .i64 (x.cmp y)):=
 T.ind fun x ih y v w hv hw=>by
  have w_:=T.inv hv
  obtain⟨b1,c1,rfl,hs1⟩:=w_
  have w_:=T.inv hw
  obtain⟨b2,c2,rfl,hs2⟩:=w_
  rw[T.cmp_eq]
  refine Spec.mk Tryz.func181 (by kernel_rfl) ?_
  intro r1 r2
  refine aL (fun h=>?_) (fun h1=>?_)
  ·exact cGv (eR _ _ h) (rGv (by rw[hd1 h]) rfl)
  refine aL (fun h=>?_) (fun h2=>?_)
  ·exact cGv (eR _ _ h) (rGv (by rw[hd2 h1 h]) rfl)
  refine aL (fun h=>?_) (fun h3=>?_)
  ·refine iIn (fun h4 => rGv ?_ rfl) (fun h4 => rGv ?_ rfl)
   ·rw[hd3 h1 h2 h,h4];rfl
   ·rw[hd3 h1 h2 h,h4];rfl
  rw[hd4 h1 h2 h3]
  refine aL (fun h=>?_) (fun h4=>?_)
  ·refine rGv ?_ rfl
   have:x.rest y=0:=by cases x<;>first|rfl|exact absurd rfl h
   rw[this]
  have w_:=T.kind4 h4
  obtain⟨a,b,rfl⟩:=w_
  have w_:=T.kind4 (h1 ▸ h4)
  obtain⟨c,d,rfl⟩:=w_
  have w_:=T.arg hs1 (i:=0) rfl
  obtain⟨ad1,p1,e1,g1⟩:=w_
  have w_:=T.arg hs2 (i:=0) rfl
  obtain⟨ad2,p2,e2,g2⟩:=w_
  have w_:=T.arg hs1 (i:=1) rfl
  obtain⟨ad3,p3,e3,g3⟩:=w_
  have w_:=T.arg hs2 (i:=1) rfl
  obtain⟨ad4,p4,e4,g4⟩:=w_
  refine eIn e1 (eIn e2 (cGv (ih a (by simp[T.args]) c g1 g2) ?_))
  simp only[T.rest]
  refine aL (fun h=>?_) (fun h5=>?_)
  ·rw[if_neg h];exact rGv rfl rfl
  ·rw [if_pos h5]
   exact eIn e3 (eIn e4 (cGv (ih b (by simp[T.args]) d g3 g4) (rGv rfl rfl)))
theorem gR:∀(x y:T) {v w:Value},RepV μ x.tm.d v→RepV μ y.tm.d w→aM Tryz.prog 142 [v,w] μ (.int .i64 (x.cmp y)):=
 T.ind fun x ih y v w hv hw=>by
  have w_:=T.inv hv
  obtain⟨b1,c1,rfl,hs1⟩:=w_
  have w_:=T.inv hw
  obtain⟨b2,c2,rfl,hs2⟩:=w_
  have hn:=T.args_le x
  rw[T.cmp_eq]
  refine Spec.mk Tryz.func142 (by kernel_rfl) ?_
  intro r1 r2
  refine aL (fun h=>?_) (fun h1=>?_)
  ·exact cGv (dG _) (rGv (by rw[hd1 h]) rfl)
  refine aL (fun h=>?_) (fun h2=>?_)
  ·exact cGv (dG _) (rGv (by rw[hd2 h1 h]) rfl)
  refine aL (fun h=>?_) (fun h3=>?_)
  ·exact cGv (dG _) (rGv (by rw[hd3 h1 h2 h]) rfl)
  rw[hd4 h1 h2 h3]
  have hlen:=T.args_kind h1
  refine lIn (fun i:Nat=>i≤x.args.length∧∀j p q,j<i→x.args[j]? =some p→y.args[j]? =some q→p.cmp q=0) (fun i=>⟨[(2,.loc 0 r1 0),(3,.loc 1 r2 0),(5,.val (.int .i64 i))],[(0,some (.cells r1 [.val (.int .i64 x.tm.kind),.val (.int .i64 x.tm.num),.val (.string x.tm.name),.val (.slice b1 x.args.length c1)] 75)),(1,some (.cells r2 [.val (.int .i64 y.tm.kind),.val (.int .i64 y.tm.num),.val (.string y.tm.name),.val (.slice b2 y.args.length c2)] 75))],2,μ,Mem.nil⟩) (fun i=>x.args.length-i)
   0 ⟨by omega,fun j p q hj=>by omega⟩ (fun i=>⟨rfl,rfl⟩) ⟨⟨rfl,rfl,rfl,trivial⟩,⟨rfl,rfl,trivial⟩,rfl,rfl⟩ ?_
  rintro i ⟨hi,hz⟩
  refine ifd (fun h=>?_) (fun h=>?_)
  ·refine ifd (fun h' => ?_) (fun h' => by omega)
   have w_:=aSo (l:=x.args) (i:=i) (by omega)
   obtain⟨p,hp⟩:=w_
   have w_:=aSo (l:=y.args) (i:=i) (by omega)
   obtain⟨q,hq⟩:=w_
   have w_:=T.arg hs1 hp
   obtain⟨ad1,p1,e1,g1⟩:=w_
   have w_:=T.arg hs2 hq
   obtain⟨ad2,p2,e2,g2⟩:=w_
   refine eIn e1 (eIn e2 (cGv (ih p (mAt hp) q g1 g2) ?_))
   refine aL (fun h5=>?_) (fun h5=>?_)
   ·rw[T.rest_at hz hp hq h5];exact rGv rfl rfl
   ·refine aB (by omega) (by omega) ⟨i + 1, ⟨by omega, fun j p' q' hj hp' hq' => ?_⟩, by omega, ⟨⟨rfl, rfl, rfl, trivial⟩, ⟨rfl, rfl, trivial⟩, rfl, rfl⟩⟩
    rcases Nat.lt_or_ge j i with h6|h6
    ·exact hz j p' q' h6 hp' hq'
    ·obtain rfl : j = i := by omega
     rw[hp]at hp';rw[hq]at hq';cases hp';cases hq';exact h5
  ·obtain rfl : i = x.args.length := by omega
   rw[T.rest_zero hz]
   exact rGv rfl rfl
theorem eU(x y:T){v w:Value}(hv:RepV μ x.tm.d v)(hw:RepV μ y.tm.d w):aM Tryz.prog 117 [v,w] μ (.bool (decide (x=y))):=by
 have w_:=Tm.invV hv
 obtain⟨p,rfl⟩:=w_
 have w_:=Tm.invV hw
 obtain⟨q,rfl⟩:=w_
 refine Spec.mk Tryz.func117 (by kernel_rfl) ?_
 intro r1 r2
 exact cGv (eV x y hv hw) (rGv (isI (T.cmp_zero x y)) rfl)
theorem eK(x y:T){v w:Value}(hv:RepV μ x.tm.d v)(hw:RepV μ y.tm.d w):aM Tryz.prog 189 [v,w] μ (.bool (decide (x=y))):=by
 have w_:=Tm.invV hv
 obtain⟨p,rfl⟩:=w_
 have w_:=Tm.invV hw
 obtain⟨q,rfl⟩:=w_
 refine Spec.mk Tryz.func189 (by kernel_rfl) ?_
 intro r1 r2
 exact cGv (gR x y hv hw) (rGv (isI (T.cmp_zero x y)) rfl)
def qDi(n:Int):Value:= .agg #[.int .i64 1,.int .i64 n,.string ⟨#[]⟩,.slice none 0 0]
theorem qCp(n:Int):OwnV (T.var n).tm.d Mem.nil (qDi n):=by
 rw[T.d_eq]
 exact⟨_,rfl,OwnS.int (OwnS.int (OwnS.str (OwnS.last (Own.nilSl 4))))⟩
theorem gP(n:Int):RepV μ (T.var n).tm.d (qDi n):=(qCp n).rep (fun _ _ h=>nomatch h)
theorem gS(n:Int):aM Tryz.prog 95 [.int .i64 n] μ (qDi n):=by
 refine Spec.mk Tryz.func95 (by kernel_rfl) ?_
 intro r1
 exact rGv rfl rfl
end
end Go.Vx
namespace Go.Vx
open Go.Proofs Classical
section
variable {μ:Mem}
def pR(H:Mem)(r:Nat)(b:Bool):Mem:=H.set r (.cells #[.bool b] 4 (0,0))
end
end Go.Vx
namespace Go.Vx
open Go.Proofs Classical
section
variable {P:Program} {f:FuncId} {args:List Value} {μ h H:Mem}
theorem yV{a b:Nat}{x y:Obj}(h1:h a=some x)(h2:h b=some y)(hne:x≠y):a≠b:=fun e=>by
 subst e;rw[h1]at h2;cases h2;exact hne rfl
theorem vU{a b:Nat}{x:Obj}(h1:h a=some x)(h2:h b=none):a≠b:=fun e=>by
 subst e;rw[h1]at h2;cases h2
theorem RowO.obj{r cap:Nat}{ty:TypeId}{es:Nat}{xs:List Value}(k:RowO h r cap ty es xs):∃cs:List Value,h r=some (.cells cs.toArray ty (0,0)):=by
 obtain⟨cs,h1,_⟩:=k
 exact⟨cs,h1⟩
theorem MapOk.weaken{ok ok':Value→Prop}{l:List (Value×Value)}(k:MapOk ok l)(hk:∀v,ok v→ok' v):MapOk ok' l:=⟨fun p hp=>hk _ (k.keys p hp),k.nodup⟩
theorem fX(l:List (Value×Value))(n m:Int)(v:Value):gD (gZ l (.int .i64 n) v) (.int .i64 m)=if m=n then some v else gD l (.int .i64 m):=by
 rw[qK]
 by_cases e:m=n
 ·subst e;rw[if_pos rfl,if_pos rfl]
 ·rw[if_neg e,if_neg (by simp[e])]
theorem Grown.snoc{es:Nat}{μ μ' μ'':Mem}{ds:List D}{ys:List Value}{d:D}{v:Value}(k:Grown es μ μ' ds ys)(h0:μ.Le μ')(hv:Fresh μ' μ'' d v)(h1:μ'.Le μ'')(hn:d.n=es):Grown es μ μ'' (ds++[d]) (ys++[v]):=by
 obtain⟨g,a,b,c⟩:=k
 obtain⟨g',a',b',c'⟩:=hv
 refine⟨g.join g',a.snoc a' hn (iF b c'),eH (b.trans h1) b',fun x hx=>?_⟩
 rcases gW hx with h|h
 ·exact c x h
 ·have h3 := c' x h
  cases h4:μ x with
  |none=>rfl
  |some o=>rw[h0 x o h4]at h3;cases h3
theorem Fresh.unlend{μ1:Mem}{d:D}{v:Value}(k:Fresh (μ.join H) μ1 d v)(_ha:Apart μ H):Fresh μ (μ1.sub H) d v:=by
 obtain⟨g,a,b,c⟩:=k
 have c1:∀x,g x≠none→μ x=none∧H x=none:=fun x hx=>by
  have h1:=c x hx
  rw[Mem.join_get]at h1
  cases h2:μ x with
  |none=>rw[h2]at h1;exact⟨rfl,h1⟩
  |some o=>rw[h2]at h1;cases h1
 refine⟨g,a,fun x o hx=>?_,fun x hx=>(c1 x hx).1⟩
 rw[Mem.sub_of (c1 x (by simp[hx])).2]
 exact b x o hx
variable {dr:Bool} {s:St} {K:Value→St→Prop}
theorem qTj{d:D}(hap:Apart s.mem s.own)(h:Spec P f args (s.mem.join s.own) fun v μ'=>Fresh (s.mem.join s.own) μ' d v)
  (k:∀v μ',s.mem.Le μ'→Apart μ' s.own→Fresh s.mem μ' d v→lS s μ' s.own fun s=>K v s):callVC dr P f args s K:=
 cOw (SpecH.lend hap h) fun v μ' H' hle ha' ⟨h1,μ1,h2,_,h4⟩=>by
  subst h1 h4
  exact k v _ hle ha' (h2.unlend hap)
end
section
variable {μ:Mem}
theorem iD{S:Type}(J:S→Mem→Prop)(step:S→Int→S)(Q:S→Int→Prop){k:FuncId}{caps:List Value}
  (hc:∀s h n,Q s n→J s h→SpecH Tryz.prog k (.int .i64 n::caps) μ h fun r μ' h'=>r= .tuple #[]∧μ'=μ∧J (step s n) h'):
  ∀(x:T) {v:Value} (s:S) (h:Mem),RepV μ x.tm.d v→(∀pre n post,x.vars=pre++n::post→Q (pre.foldl step s) n)→J s h→SpecH Tryz.prog 225 [v,.func (.func k) #[] caps.toArray] μ h fun r μ' h'=>r= .tuple #[]∧μ'=μ∧J (x.vars.foldl step s) h'
 | .var n,v,s,h,hv,hq,hj=>by
  have w_:=Tm.inv hv
  obtain⟨base,cap,rfl,hsl⟩:=w_
  refine SpecH.mk [] Tryz.func225 (by kernel_rfl) ?_
  intro r
  refine ifd (fun _=>?_) (fun h=>absurd rfl h)
  refine cOw (hc s h n (hq [] n [] rfl) hj) fun v μ' h' hle hap hR=>?_
  obtain⟨rfl,e2,hj'⟩:=hR
  obtain rfl:=e2.symm
  refine ifd (fun h=>absurd h (by decide)) (fun _=>?_)
  exact rPl ⟨rfl,rfl,hj'⟩
 | .nil,v,s,h,hv,hq,hj=>by
  have w_:=Tm.inv hv
  obtain⟨base,cap,rfl,hsl⟩:=w_
  refine SpecH.mk [] Tryz.func225 (by kernel_rfl) ?_
  intro r
  refine ifd (fun h=>absurd h (by decide)) (fun _=>?_)
  refine ifd (fun h=>absurd h (by decide)) (fun _=>?_)
  exact rPl ⟨rfl,rfl,hj⟩
 | .sym _,v,s,h,hv,hq,hj=>by
  have w_:=Tm.inv hv
  obtain⟨base,cap,rfl,hsl⟩:=w_
  refine SpecH.mk [] Tryz.func225 (by kernel_rfl) ?_
  intro r
  refine ifd (fun h=>absurd h (by decide)) (fun _=>?_)
  refine ifd (fun h=>absurd h (by decide)) (fun _=>?_)
  exact rPl ⟨rfl,rfl,hj⟩
 | .num _,v,s,h,hv,hq,hj=>by
  have w_:=Tm.inv hv
  obtain⟨base,cap,rfl,hsl⟩:=w_
  refine SpecH.mk [] Tryz.func225 (by kernel_rfl) ?_
  intro r
  refine ifd (fun h=>absurd h (by decide)) (fun _=>?_)
  refine ifd (fun h=>absurd h (by decide)) (fun _=>?_)
  exact rPl ⟨rfl,rfl,hj⟩
 | .pair a b,v,s,h,hv,hq,hj=>by
  have w_:=Tm.inv hv
  obtain⟨base,cap,rfl,hsl⟩:=w_
  have w_:=T.parts hsl
  obtain⟨ad,ad',p,p',h1,h2,hra,hrb⟩:=w_
  refine SpecH.mk [] Tryz.func225 (by kernel_rfl) ?_
  intro r
  refine ifd (fun h=>absurd h (by decide)) (fun _=>?_)
  refine ifd (fun _=>?_) (fun h=>absurd rfl h)
  refine eIn h1 (cOw (iD J step Q hc a s h hra (fun pre n post e=>hq pre n (post++b.vars) (by simp[T.vars,e])) hj) fun v μ' h' hle hap hR=>?_)
  obtain⟨rfl,e2,hj'⟩:=hR
  obtain rfl:=e2.symm
  refine eIn h2 (cOw (iD J step Q hc b _ h' hrb (fun pre n post e=>by
   have:=hq (a.vars++pre) n post (by simp[T.vars,e])
   rwa [List.foldl_append]at this) hj') fun v μ' h' hle hap hR=>?_)
  obtain⟨rfl,e2,hj'⟩:=hR
  obtain rfl:=e2.symm
  exact rPl ⟨rfl,rfl,by simpa[T.vars,List.foldl_append]using hj'⟩
end
end Go.Vx
namespace Go.Vx
open Go.Proofs Classical
theorem eZ{h:Mem}{r i:Nat}{cs:List Value}{x:Value}{ty:TypeId}(hc:h r=some (.cells cs.toArray ty (0,0)))(hi:cs[i]? =some x):∀j v,[x][j]? =some v→h.cell ((⟨r,i,none⟩:Addr).add j)=some v:=fun j v hj=>by
 match j,hj with
 |0,hj=>cases hj;simp[Mem.cell,Addr.add_lit',hc,hi]
end Go.Vx
namespace Go.Vx
open Go.Proofs Classical
section
variable {μ:Mem}
theorem Rep.src{es n cap:Nat}{base:Option Addr}{ds:List D}(h:RepV μ (.sl es ds) (.slice base n cap)):
  ∃vs,Rows μ es ds vs∧vs.length=n∧n≤cap∧∀a b,a≤b→b≤n→lW μ (if cap=a then base else base.map (·.add (a*es))) (b-a) es ((vs.drop a).take (b-a)):=by
 have h':Rep μ (.sl es ds) [.slice base n cap]:=h
 have hcap:=Rep.lens h'
 obtain⟨b0,c0,h1,h2,h3,h4⟩:=h'
 simp only[List.cons.injEq,and_true]at h1
 have w_:=Value.slice.inj h1
 obtain⟨rfl,rfl,rfl⟩:=w_
 have:∃vs,Rows μ es ds vs∧(ds=[]∨∃a0,base=some a0∧CellsAt μ a0 (vs.flatMap aD)):=by
  rcases h4 with rfl|⟨a0,flat,g1,g2,g3⟩
  ·exact⟨[],.nil,.inl rfl⟩
  ·have w_ := RepS.rows g3 h3
   obtain⟨vs,hr,rfl⟩:=w_
   exact⟨vs,hr,.inr ⟨a0,g1,g2⟩⟩
 obtain⟨vs,hr,hc⟩:=this
 have hlen:=hr.len
 refine⟨vs,hr,hlen.symm,hcap,fun a b hab hb=>⟨by simp;omega,fun y hy=>hr.size y (List.mem_of_mem_drop (List.mem_of_mem_take hy)),?_⟩⟩
 rcases Nat.eq_or_lt_of_le hab with e|hlt
 ·exact .inl (by omega)
 ·right
  rcases hc with e|⟨a0,e,hcell⟩
  ·subst e;simp at hb;omega
  ·subst e
   refine⟨a0.add (a*es),by rw[if_neg (by omega)];rfl,fun j v hj=>?_⟩
   rw[add_add]
   refine hcell _ _ ?_
   have e1:vs.flatMap aD=(vs.take a).flatMap aD++(((vs.drop a).take (b-a)).flatMap aD++((vs.drop a).drop (b-a)).flatMap aD):=by
    rw[←List.flatMap_append,List.take_append_drop,←List.flatMap_append,List.take_append_drop]
   have e2:((vs.take a).flatMap aD).length=a*es:=by
    rw[eP (es:=es) (vs.take a) fun y hy=>(hr.size y (List.mem_of_mem_take hy)).1]
    congr 1;simp;omega
   rw[e1,List.getElem?_append_right (by omega),e2,Nat.add_sub_cancel_left,List.getElem?_append_left (List.getElem?_eq_some_iff.1 hj).1]
   exact hj
theorem vE:∀{l:List Int} (_:l.Nodup) {i:Nat} {n:Int},l[i]? =some n→l.idxOf n=i
 |[],_,i,n,h=>by simp at h
 |a::l,hn,0,n,h=>by
  simp only[List.getElem?_cons_zero,Option.some.injEq]at h
  subst h;simp
 |a::l,hn,i+1,n,h=>by
  simp only[List.getElem?_cons_succ]at h
  simp only[List.nodup_cons]at hn
  have hne:¬a=n:=fun e=>hn.1 (by subst e;exact List.mem_of_getElem? h)
  have hb:(a==n)=false:=by simp[hne]
  rw[List.idxOf_cons,hb,vE hn.2 h]
  rfl
end
end Go.Vx
namespace Go.Vx
open Go.Proofs Classical
section
variable {μ:Mem}
theorem Gl.invV{x:Gl}{v:Value}(h:RepV μ x.d v):∃p:Gl.P,v= .agg #[.int .i64 x.kind,.string x.name,.slice p.1.1 x.terms.length p.1.2,.slice p.2.1 x.goals.length p.2.2]:=by
 have w_:=Gl.inv h
 obtain⟨p,h,_⟩:=w_
 exact⟨p,h⟩
end
end Go.Vx
namespace Go.Vx
open Go.Proofs Classical
section
variable {μ:Mem}
theorem Rl.invV{x:Rl}{v:Value}(h:RepV μ x.d v):∃p:Rl.P,v= .agg #[.string x.name,.int .i64 x.arity,.int .i64 x.locals,.int .i64 x.body.kind,.string x.body.name,.slice p.1.1 x.body.terms.length p.1.2,.slice p.2.1 x.body.goals.length p.2.2]:=by
 have w_:=Rl.inv h
 obtain⟨p,h,_⟩:=w_
 exact⟨p,h⟩
end
end Go.Vx
namespace Go.Vx
open Go.Proofs Classical
section
variable {μ:Mem}
theorem Pg.invV{x:Pg}{v:Value}(h:RepV μ x.d v):∃p:Pg.P,v= .agg #[.slice p.1 x.rels.length p.2]:=by
 have w_:=Pg.inv h
 obtain⟨p,h,_⟩:=w_
 exact⟨p,h⟩
end
end Go.Vx
namespace Go.Vx
open Go.Proofs Classical
theorem Pf.ind{q:Pf→Prop}(h:∀x:Pf,(∀y∈x.kids,q y)→q x):∀x,q x
 | .mk a0 a1 a2 a3=>h _ fun y hy=>have _:=hy;Pf.ind h y
termination_by x=>x
decreasing_by all_goals (first|exact Nat.lt_of_lt_of_le (List.sizeOf_lt_of_mem hy) (by simp only[Pf.kids,Pf.mk.sizeOf_spec];omega)|decreasing_tactic)
mutual
def Pf.d:Pf→D
 | .mk a0 a1 a2 a3=> .st [.s a0,.i a1,.sl 4 (a2.map Tm.d),.sl 4 (Pf.ds a3)]
def Pf.ds:List Pf→List D
 |[]=>[]
 |t::r=>t.d::Pf.ds r
end
theorem Pf.ds_map:∀l:List Pf,Pf.ds l=l.map Pf.d
 |[]=>rfl
 |t::r=>by simp[Pf.ds,Pf.ds_map r]
theorem Pf.d_eq(x:Pf):x.d= .st [.s x.rel,.i x.clause,.sl 4 (x.values.map Tm.d),.sl 4 (x.kids.map Pf.d)]:=by
 cases x
 rw[Pf.d,Pf.ds_map]
 rfl
theorem Pf.d_n(x:Pf):x.d.n=4:=by
 rw[Pf.d_eq]
 simp only[D.n,D.ns]
abbrev Pf.P:=(Option Addr×Nat)×(Option Addr×Nat)
def Pf.cs(x:Pf)(p:Pf.P):List Value:=[.string x.rel,.int .i64 x.clause,.slice p.1.1 x.values.length p.1.2,.slice p.2.1 x.kids.length p.2.2]
section
variable {μ:Mem}
def Pf.At(μ:Mem)(x:Pf)(p:Pf.P):Prop:=Sl μ 4 p.1.1 x.values.length (x.values.map Tm.d)∧Sl μ 4 p.2.1 x.kids.length (x.kids.map Pf.d)
theorem Pf.invA{x:Pf}{cs:List Value}(h:Rep μ x.d cs):∃p:Pf.P,cs=x.cs p∧Pf.At μ x p:=by
 rw[Pf.d_eq]at h
 obtain⟨a0,t0,rfl,h0,h⟩:=h
 have h0:a0=[.string x.rel]:=h0
 subst h0
 obtain⟨a1,t1,rfl,h1,h⟩:=h
 have h1:a1=[.int .i64 x.clause]:=h1
 subst h1
 obtain⟨a2,t2,rfl,h2,h⟩:=h
 obtain⟨v2,rfl⟩:=gV (Rep.len _ _ h2)
 obtain⟨b2,c2,rfl,s2⟩:=Rep.sl h2
 rw[List.length_map]at s2
 obtain⟨a3,t3,rfl,h3,h⟩:=h
 obtain⟨v3,rfl⟩:=gV (Rep.len _ _ h3)
 obtain⟨b3,c3,rfl,s3⟩:=Rep.sl h3
 rw[List.length_map]at s3
 obtain rfl:t3=[]:=h
 exact⟨((b2,c2),(b3,c3)),by simp[Pf.cs],⟨s2,s3⟩⟩
theorem Pf.rep{x:Pf}{cs:List Value}(h:Rep μ x.d cs):RepV μ x.d (.agg cs.toArray):=by
 rw[Pf.d_eq]at h ⊢;exact⟨cs,rfl,h⟩
theorem Pf.inv{x:Pf}{v:Value}(h:RepV μ x.d v):∃p:Pf.P,v= .agg #[.string x.rel,.int .i64 x.clause,.slice p.1.1 x.values.length p.1.2,.slice p.2.1 x.kids.length p.2.2]∧Pf.At μ x p:=by
 have h2:∃cs,v= .agg (List.toArray cs)∧Rep μ x.d cs:=by rw[Pf.d_eq]at h ⊢;exact h
 obtain⟨cs,rfl,h3⟩:=h2
 obtain⟨p,rfl,hA⟩:=Pf.invA h3
 exact⟨p,rfl,hA⟩
theorem Pf.invV{x:Pf}{v:Value}(h:RepV μ x.d v):∃p:Pf.P,v= .agg #[.string x.rel,.int .i64 x.clause,.slice p.1.1 x.values.length p.1.2,.slice p.2.1 x.kids.length p.2.2]:=by
 obtain⟨p,h,_⟩:=Pf.inv h
 exact⟨p,h⟩
theorem Pf.elemA{l:List Pf}{base:Option Addr}{n:Nat}(h:Sl μ 4 base n (l.map Pf.d)){i:Nat}{x:Pf}(hx:l[i]? =some x):∃ad,∃p:Pf.P,ElemAt μ base n 4 i ad (x.cs p)∧RepV μ x.d (.agg (x.cs p).toArray)∧Pf.At μ x p:=by
 obtain⟨ad,cs,h1,h2⟩:=h.get i x.d (by simp[hx])
 obtain⟨p,rfl,hA⟩:=Pf.invA h2
 exact⟨ad,p,h1,Pf.rep h2,hA⟩
theorem Pf.elem{l:List Pf}{base:Option Addr}{n:Nat}(h:Sl μ 4 base n (l.map Pf.d)){i:Nat}{x:Pf}(hx:l[i]? =some x):∃ad,∃p:Pf.P,ElemAt μ base n 4 i ad (x.cs p)∧RepV μ x.d (.agg (x.cs p).toArray):=by
 obtain⟨ad,p,h1,h2,_⟩:=Pf.elemA h hx
 exact⟨ad,p,h1,h2⟩
end
end Go.Vx
namespace Go.Vx
open Go.Proofs Classical
theorem Gl.cnt_eq1(g:Gl):g.cnt=1+Gl.cnts g.goals:=by cases g;rfl
theorem Gl.cnt_pos(g:Gl):1≤g.cnt:=by rw[Gl.cnt_eq1];omega
theorem Gl.cnts_append:∀(a c:List Gl),Gl.cnts (a++c)=Gl.cnts a+Gl.cnts c
 |[],c=>by simp[Gl.cnts]
 |d::r,c=>by simp[Gl.cnts,Gl.cnts_append r c,Nat.add_assoc]
theorem Gl.cnts_take{xs:List Gl}{j:Nat}{x:Gl}(h:xs[j]? =some x):Gl.cnts (xs.take (j+1))=Gl.cnts (xs.take j)+x.cnt:=by
 rw[List.take_add_one,h,Option.toList_some,Gl.cnts_append];simp[Gl.cnts]
theorem Gl.cnts_le(xs:List Gl)(j:Nat):Gl.cnts (xs.take j)≤Gl.cnts xs:=by
 have:=Gl.cnts_append (xs.take j) (xs.drop j)
 rw[List.take_append_drop]at this;omega
section
variable {μ:Mem}
theorem jF:∀(g:Gl) {v:Value} {most:Int},RepV μ g.d v→ -1000000000000≤most→most≤1000000000000→aM Tryz.prog 202 [v,.int .i64 most] μ (.int .i64 (bP g.cnt most)):=
 Gl.ind fun g ih v most hv h1 h2=>by
  have w_:=Gl.inv hv
  obtain⟨p,rfl,-,hsl⟩:=w_
  have hn:=aH hsl.max
  have hge:=Gl.cnt_eq1 g
  generalize hl:g.goals=l at*
  refine Spec.mk Tryz.func202 (by kernel_rfl) ?_
  intro r
  refine lIn (fun i:Nat=>i≤l.length) (fun i=>⟨[(1,.val (.int .i64 most)),(5,.val (.int .i64 (bP (1+Gl.cnts (l.take i):Nat) most))),(9,.val (.slice p.2.1 l.length p.2.2)),(10,.val (.int .i64 l.length)),(11,.val (.int .i64 i))],[],1,μ,Mem.nil⟩) (fun i=>l.length-i)
   0 (by omega) (fun i=>⟨rfl,rfl⟩) ⟨⟨rfl,by show some (SV.val (.int .i64 _))=some (SV.val (.int .i64 _));congr 3;simp[Gl.cnts,bP];omega,rfl,rfl,rfl,trivial⟩,trivial,rfl,rfl⟩ ?_
  intro i hi
  refine ifd (fun h=>?_) (fun h=>?_)
  ·have w_ := aSo (l := l) (i := i) (by omega)
   obtain⟨t,ht⟩:=w_
   have hc:=Gl.cnts_take ht
   have hc':=Gl.cnts_le l (i+1)
   have w_:=Gl.elem hsl ht
   obtain⟨ad,p,hel,hr⟩:=w_
   refine eIn hel ?_
   intro r2
   refine ifd (fun h=>rGv ?_ rfl) (fun h=>?_)
   ·simp only [bP] at h ⊢
    congr 1;omega
   ·have hb : bP (1 + Gl.cnts (l.take i) : Nat) most ≤ 1000000000001 ∧ 1 ≤ bP (1 + Gl.cnts (l.take i) : Nat) most := by unfold bP; omega
    refine aB (by omega) (by omega) ?_
    refine cGv (ih t (mAt ht) hr (by omega) (by omega)) ?_
    refine nEq (x:=bP (1+Gl.cnts (l.take (i+1)):Nat) most) ?_ ?_
    ·have hb2:bP (t.cnt:Int) (most-bP (1+Gl.cnts (l.take i):Nat) most)≤1000000000001∧1≤bP (t.cnt:Int) (most-bP (1+Gl.cnts (l.take i):Nat) most):=by
      have:=t.cnt_pos
      unfold bP at hb h ⊢
      omega
     rw[aA (by omega) (by omega),hc]
     unfold bP at h ⊢;omega
    ·exact aB (by omega) (by omega) ⟨i+1,by omega,by omega,⟨⟨rfl,rfl,rfl,rfl,rfl,trivial⟩,trivial,rfl,rfl⟩⟩
  ·obtain rfl : i = l.length := by omega
   rw[List.take_length]
   exact rGv (by rw[hge]) rfl
theorem qBo{n k:Nat}(hk:k≤10):([.int .i64 0,.int .i64 0,.int .i64 2,.int .i64 2,.int .i64 1,.int .i64 1,.int .i64 2,.int .i64 0,.int .i64 0,.int .i64 n,.int .i64 0]:List Value)[k]? =some (.int .i64 (if k=2∨k=3∨k=6 then 2 else if k=4∨k=5 then 1 else if k=9 then n else 0)):=by
 match k,hk with
 |0,_=>rfl
 |1,_=>rfl
 |2,_=>rfl
 |3,_=>rfl
 |4,_=>rfl
 |5,_=>rfl
 |6,_=>rfl
 |7,_=>rfl
 |8,_=>rfl
 |9,_=>rfl
 |10,_=>rfl
theorem pB:∀(g:Gl) {v:Value},RepV μ g.d v→g.d.wd→aM Tryz.prog 224 [v] μ (.bool (decide g.Sh)):=
 Gl.ind fun g ih v hv hw=>by
  have w_:=Gl.inv hv
  obtain⟨p,rfl,hts,hgs⟩:=w_
  have hn1:=aH hts.max
  have hn2:=aH hgs.max
  rw[Gl.d_eq]at hw
  have hs:g.name.size≤maxLen:=hw.2.1
  have wt:D.wds (g.terms.map Tm.d):=hw.2.2.1
  have wg:D.wds (g.goals.map Gl.d):=hw.2.2.2.1
  have bad:¬TopOk g→Value.bool false= .bool (decide g.Sh):=fun h=>isF fun k=>h k.top
  refine Spec.mk Tryz.func224 (by kernel_rfl) ?_
  intro r
  refine cGv (bG _ _ _ _) ?_
  refine aL (fun h=>rGv (bad fun T=>h ⟨T.k0,T.k1⟩) rfl) (fun hk=>?_)
  refine aL (fun h9=>aL (fun hne=>rGv (bad fun T=>hne (T.nm h9)) rfl) (fun hnm=>?_)) (fun h9=>?_)
  all_goals refine cGv (oY hts wt) ?_
  all_goals refine aL (fun h=>rGv (bad fun T=>h T.tm) rfl) (fun htm=>?_)
  all_goals intro r2
  all_goals obtain⟨k,hk'⟩:∃k:Nat,g.kind=k:=⟨g.kind.toNat,by omega⟩
  all_goals refine aX k hk' (by omega) (aW _ (qBo (by omega)) ?_)
  all_goals refine aL (fun hlen=>rGv (bad fun T=>hlen ?_) rfl) (fun hlen=>?_)
  any_goals (have e9:=T.ln9;have e2:=T.ln2;have e1:=T.ln1;have e0:=T.ln0;have:=T.gl;omega)
  all_goals refine ifd (fun h4=>rGv (bad fun T=>?_) rfl) (fun h4=>?_)
  any_goals (have e9:=T.ln9;have e2:=T.ln2;have e1:=T.ln1;have e0:=T.ln0;have:=T.gl;omega)
  all_goals refine ifd (fun h7=>ifd (fun h0=>rGv (bad fun T=>?_) rfl) (fun h0=>?_)) (fun h7=>?_)
  any_goals (have e9:=T.gl0;omega)
  all_goals refine ifd (fun h8=>rGv (bad fun T=>?_) rfl) (fun h8=>?_)
  any_goals (have e9:=T.gl;omega)
  all_goals refine lIn (fun i:Nat=>i≤g.goals.length∧∀t∈g.goals.take i,t.Sh) (fun i=>⟨[(1,.loc 0 r 0),(61,.val (.slice p.2.1 g.goals.length p.2.2)),(62,.val (.int .i64 g.goals.length)),(63,.val (.int .i64 i))],[(0,some (.cells r [.val (.int .i64 g.kind),.val (.string g.name),.val (.slice p.1.1 g.terms.length p.1.2),.val (.slice p.2.1 g.goals.length p.2.2)] 61))],2,μ,Mem.nil⟩) (fun i=>g.goals.length-i) 0 ⟨by omega,by simp⟩ (fun i=>⟨rfl,rfl⟩) ⟨⟨rfl,rfl,rfl,rfl,trivial⟩,⟨rfl,trivial⟩,rfl,rfl⟩ ?_
  all_goals rintro i ⟨hi,hall⟩
  all_goals refine ifd (fun h=>?_) (fun h=>?_)
  any_goals
   have w_:=aSo (l:=g.goals) (i:=i) (by omega)
   obtain⟨t,ht⟩:=w_
   have w_:=Gl.elem hgs ht
   obtain⟨ad,p,hel,hr⟩:=w_
   refine eIn hel ?_
   intro r3
   refine cGv (ih t (mAt ht) hr (D.wds_mem wg _ (mAt (lM (f:=Gl.d) ht)))) ?_
   refine aL (fun h=>rGv (isF fun S=>h (S.sub t (mAt ht))) rfl) (fun h=>?_)
   refine aB (by omega) (by omega) ⟨i+1,⟨by omega,fun x hx=>?_⟩,by omega,⟨⟨rfl,rfl,rfl,rfl,trivial⟩,⟨rfl,trivial⟩,rfl,rfl⟩⟩
   rw[List.take_add_one,ht,Option.toList_some,List.mem_append,List.mem_singleton]at hx
   rcases hx with hx|rfl
   ·exact hall x hx
   ·exact h
  all_goals obtain rfl:i=g.goals.length:=by omega
  all_goals rw[List.take_length]at hall
  all_goals
   have mk:(g.kind=9→iJ g.name)→(g.kind=10→g.goals.length=1)→(g.kind=9→g.goals.length=0)→(g.kind=6→∀a,g.terms[0]? =some a→a.kind=2)→(g.kind=10→∀b,g.goals[0]? =some b→b.kind=9)→g.Sh:=fun a b c d e=>
    .mk ⟨htm,by omega,by omega,by first|exact fun _=>hnm|exact fun h=>absurd h9 h,a,by omega,by omega,by omega,by omega,by omega,by omega,b,d,e⟩ hall
  all_goals refine ifd (fun h6=>?_) (fun h6=>?_)
  any_goals
   have w_:=aSo (l:=g.terms) (i:=0) (by omega)
   obtain⟨a,ha⟩:=w_
   have w_:=Tm.elem hts ha
   obtain⟨ad,p,hel,hr⟩:=w_
   refine eIn hel ?_
   exact rGv (isI ⟨fun hh=>mk (by omega) (by omega) (by omega) (fun _ x hx=>by rw[ha]at hx;cases hx;exact hh) (by omega),fun S=>S.top.sy h6 a ha⟩) rfl
  all_goals refine ifd (fun h9=>?_) (fun h9=>?_)
  any_goals omega
  any_goals
   refine ifd (fun h0=>cGv (eC _ hs _) (rGv (isI ⟨fun hh=>mk (fun _=>hh) (by omega) (by omega) (by omega) (by omega),fun S=>S.top.rel h9⟩) rfl)) (fun h0=>rGv (isF fun S=>?_) rfl)
   have:=S.top.gl0;omega
  all_goals refine ifd (fun h10=>?_) (fun h10=>rGv (isT (mk (by omega) (by omega) (by omega) (by omega) (by omega))) rfl)
  any_goals omega
  all_goals refine ifd (fun h1=>?_) (fun h1=>rGv (isF fun S=>h1 ?_) rfl)
  any_goals (have:=S.top.gl1;omega)
  all_goals
   have w_:=aSo (l:=g.goals) (i:=0) (by omega)
   obtain⟨b,hb⟩:=w_
   have w_:=Gl.elem hgs hb
   obtain⟨ad,p,hel,hr⟩:=w_
   refine eIn hel ?_
   exact rGv (isI ⟨fun hh=>mk (by omega) (by omega) (by omega) (by omega) (fun _ x hx=>by rw[hb]at hx;cases hx;exact hh),fun S=>S.top.cl h10 b hb⟩) rfl
end
end Go.Vx
namespace Go.Vx
open Go.Proofs Classical
noncomputable def Gl.nodes(t:Gl)(room:Int):Int:=if t.Sh∧(t.cnt:Int)≤room then t.cnt else -1
theorem Gl.nodes_neg{t:Gl}{room:Int}(h:¬(t.Sh∧(t.cnt:Int)≤room)):Value.int .i64 (-1)= .int .i64 (t.nodes room):=by rw[Gl.nodes,if_neg h]
theorem Gl.nodes_pos{t:Gl}{room:Int}(h:t.Sh)(h2:(t.cnt:Int)≤room):t.nodes room=t.cnt:=by rw[Gl.nodes,if_pos ⟨h,h2⟩]
theorem Gl.nodes_lt{t:Gl}{room:Int}(h:t.nodes room<0):¬(t.Sh∧(t.cnt:Int)≤room):=fun k=>by rw[Gl.nodes,if_pos k]at h;omega
theorem Gl.nodes_ge{t:Gl}{room:Int}(h:¬t.nodes room<0):t.Sh∧(t.cnt:Int)≤room∧t.nodes room=t.cnt:=by
 by_cases k:t.Sh∧(t.cnt:Int)≤room
 ·exact⟨k.1,k.2,by rw[Gl.nodes,if_pos k]⟩
 ·rw[Gl.nodes,if_neg k]at h;omega
noncomputable def qY:List (Value×Value):=gZ (gZ (gZ (gZ (gZ [] (.int .i64 2) (.int .i64 2)) (.int .i64 3) (.int .i64 2)) (.int .i64 4) (.int .i64 1)) (.int .i64 5) (.int .i64 1)) (.int .i64 6) (.int .i64 2)
theorem fV(k:Int):gD qY (.int .i64 k)=if k=6 then some (.int .i64 2)else if k=5 then some (.int .i64 1)else if k=4 then some (.int .i64 1)else if k=3 then some (.int .i64 2)else if k=2 then some (.int .i64 2)else none:=by
 unfold qY
 rw[fX,fX,fX,fX,fX]
 rfl
section
variable {μ:Mem}
theorem cW(g:Gl){v:Value}(hv:RepV μ g.d v)(hw:g.d.wd):aM Tryz.prog 168 [v] μ (.bool (decide g.Ok)):=by
 have w_:=Gl.invV hv
 obtain⟨p,rfl⟩:=w_
 refine Spec.mk Tryz.func168 (by kernel_rfl) ?_
 intro r
 refine cGv (jF g hv (by decide) (by decide)) ?_
 refine ifd (fun h=>?_) (fun h=>rGv (isF fun hh=>?_) rfl)
 ·refine cGv (pB g hv hw) (rGv (isI ⟨fun hh => ⟨hh, ?_⟩, fun hh => hh.1⟩) rfl)
  unfold bP at h;omega
 ·have:=hh.2;unfold bP at h;omega
theorem jS:∀(g:Gl) {v:Value} {room:Int},RepV μ g.d v→ -1000000000000≤room→room≤1000000000000→aM Tryz.prog 152 [v,.int .i64 room] μ (.int .i64 (g.nodes room)):=
 Gl.ind fun g ih v room hv hr1 hr2=>by
  have w_:=Gl.inv hv
  obtain⟨p,rfl,hts,hgs⟩:=w_
  have hn1:=aH hts.max
  have hn2:=aH hgs.max
  have hpos:=g.cnt_pos
  have hce:=g.cnt_eq1
  have bad:¬TopOk g→Value.int .i64 (-1)= .int .i64 (g.nodes room):=fun h=>Gl.nodes_neg fun k=>h k.1.top
  refine Spec.mkO [18] Tryz.func152 (by kernel_rfl) ?_
  intro r
  refine ifd (fun h=>rGv (Gl.nodes_neg fun k=>by omega) rfl) (fun h1=>?_)
  refine cGv (rQ hts) ?_
  refine aL (fun h=>rGv (bad fun T=>h T.tm) rfl) (fun htm=>?_)
  intro rM hmM hoM
  have k0:MapOk mK []:=MapOk.nil
  have k1:=k0.int (n:=2) (.int .i64 2)
  have k2:=k1.int (n:=3) (.int .i64 2)
  have k3:=k2.int (n:=4) (.int .i64 1)
  have k4:=k3.int (n:=5) (.int .i64 1)
  have k5:=k4.int (n:=6) (.int .i64 2)
  refine eN _ (Mem.set_at _ _ _) (k0.weaken (by rintro _ ⟨n,rfl⟩;rfl)) rfl ?_
  refine eN _ (Mem.set_at _ _ _) (k1.weaken (by rintro _ ⟨n,rfl⟩;rfl)) rfl ?_
  refine eN _ (Mem.set_at _ _ _) (k2.weaken (by rintro _ ⟨n,rfl⟩;rfl)) rfl ?_
  refine eN _ (Mem.set_at _ _ _) (k3.weaken (by rintro _ ⟨n,rfl⟩;rfl)) rfl ?_
  refine eN _ (Mem.set_at _ _ _) (k4.weaken (by rintro _ ⟨n,rfl⟩;rfl)) rfl ?_
  generalize hh:Mem.set (Mem.set (Mem.set (Mem.set (Mem.set (Mem.set _ rM _) rM _) rM _) rM _) rM _) rM _=h0
  have hm:h0 rM=some (eE qY):=by subst hh;exact Mem.set_at _ _ _
  clear hh hmM hoM
  have one:TopOk g→g.goals.length=0→Value.int .i64 1= .int .i64 (g.nodes room):=fun T h=>by
   have e:g.goals=[]:=List.eq_nil_of_length_eq_zero h
   have hc:g.cnt=1:=by rw[hce,e];rfl
   rw[Gl.nodes_pos (.mk T (by rw[e];simp)) (by omega),hc];rfl
  have htm:∀t∈g.terms,t.Ok:=htm
  rcases(by omega:g.kind=6∨g.kind=5∨g.kind=4∨g.kind=3∨g.kind=2∨¬(2≤g.kind∧g.kind≤6))with e|e|e|e|e|e
  ·refine dP qY (some (.int .i64 2)) hm (k5.weaken (by rintro _ ⟨n, rfl⟩; rfl)) rfl (by rw [fV]; simp [e]) ?_
   repeat (refine ifd (fun h=>?_) (fun h=>?_)<;>try (exfalso;omega))
   refine aL (fun h=>rGv (bad fun T=>h (T.nm (by omega))) rfl) (fun hnm=>?_)
   refine aL (fun h=>rGv (bad fun T=>h (by have:=T.gl0;omega)) rfl) (fun hg0=>?_)
   refine aL (fun h=>rGv (bad fun T=>h (by have:=T.ln2;omega)) rfl) (fun hl=>?_)
   refine ifd (fun _=>?_) (fun h=>absurd e h)
   have w_:=aSo (l:=g.terms) (i:=0) (by omega)
   obtain⟨a,ha⟩:=w_
   have w_:=Tm.elem hts ha
   obtain⟨ad,p,hel,hr⟩:=w_
   refine eIn hel ?_
   refine aL (fun h=>rGv (bad fun T=>h (T.sy e a ha)) rfl) (fun h=>?_)
   exact rGv (one ⟨htm,by omega,by omega,fun _=>hnm,by omega,by omega,by omega,by omega,by omega,by omega,by omega,by omega,fun _ x hx=>by rw[ha]at hx;cases hx;exact h,by omega⟩ (by omega)) rfl
  ·refine dP qY (some (.int .i64 1)) hm (k5.weaken (by rintro _ ⟨n, rfl⟩; rfl)) rfl (by rw [fV]; simp [e]) ?_
   repeat (refine ifd (fun h=>?_) (fun h=>?_)<;>try (exfalso;omega))
   refine aL (fun h=>rGv (bad fun T=>h (T.nm (by omega))) rfl) (fun hnm=>?_)
   refine aL (fun h=>rGv (bad fun T=>h (by have:=T.gl0;omega)) rfl) (fun hg0=>?_)
   refine aL (fun h=>rGv (bad fun T=>h (by have:=T.ln1;omega)) rfl) (fun hl=>?_)
   refine ifd (fun h=>by omega) (fun h=>?_)
   exact rGv (one ⟨htm,by omega,by omega,fun _=>hnm,by omega,by omega,by omega,by omega,by omega,by omega,by omega,by omega,by omega,by omega⟩ (by omega)) rfl
  ·refine dP qY (some (.int .i64 1)) hm (k5.weaken (by rintro _ ⟨n, rfl⟩; rfl)) rfl (by rw [fV]; simp [e]) ?_
   repeat (refine ifd (fun h=>?_) (fun h=>?_)<;>try (exfalso;omega))
   refine aL (fun h=>rGv (bad fun T=>h (T.nm (by omega))) rfl) (fun hnm=>?_)
   refine aL (fun h=>rGv (bad fun T=>h (by have:=T.gl0;omega)) rfl) (fun hg0=>?_)
   refine aL (fun h=>rGv (bad fun T=>h (by have:=T.ln1;omega)) rfl) (fun hl=>?_)
   refine ifd (fun h=>by omega) (fun h=>?_)
   exact rGv (one ⟨htm,by omega,by omega,fun _=>hnm,by omega,by omega,by omega,by omega,by omega,by omega,by omega,by omega,by omega,by omega⟩ (by omega)) rfl
  ·refine dP qY (some (.int .i64 2)) hm (k5.weaken (by rintro _ ⟨n, rfl⟩; rfl)) rfl (by rw [fV]; simp [e]) ?_
   repeat (refine ifd (fun h=>?_) (fun h=>?_)<;>try (exfalso;omega))
   refine aL (fun h=>rGv (bad fun T=>h (T.nm (by omega))) rfl) (fun hnm=>?_)
   refine aL (fun h=>rGv (bad fun T=>h (by have:=T.gl0;omega)) rfl) (fun hg0=>?_)
   refine aL (fun h=>rGv (bad fun T=>h (by have:=T.ln2;omega)) rfl) (fun hl=>?_)
   refine ifd (fun h=>by omega) (fun h=>?_)
   exact rGv (one ⟨htm,by omega,by omega,fun _=>hnm,by omega,by omega,by omega,by omega,by omega,by omega,by omega,by omega,by omega,by omega⟩ (by omega)) rfl
  ·refine dP qY (some (.int .i64 2)) hm (k5.weaken (by rintro _ ⟨n, rfl⟩; rfl)) rfl (by rw [fV]; simp [e]) ?_
   repeat (refine ifd (fun h=>?_) (fun h=>?_)<;>try (exfalso;omega))
   refine aL (fun h=>rGv (bad fun T=>h (T.nm (by omega))) rfl) (fun hnm=>?_)
   refine aL (fun h=>rGv (bad fun T=>h (by have:=T.gl0;omega)) rfl) (fun hg0=>?_)
   refine aL (fun h=>rGv (bad fun T=>h (by have:=T.ln2;omega)) rfl) (fun hl=>?_)
   refine ifd (fun h=>by omega) (fun h=>?_)
   exact rGv (one ⟨htm,by omega,by omega,fun _=>hnm,by omega,by omega,by omega,by omega,by omega,by omega,by omega,by omega,by omega,by omega⟩ (by omega)) rfl
  ·refine dP qY none hm (k5.weaken (by rintro _ ⟨n, rfl⟩; rfl)) rfl (by rw [fV, if_neg (by omega), if_neg (by omega), if_neg (by omega), if_neg (by omega), if_neg (by omega)]) ?_
   by_cases e2:g.kind=0∨g.kind=1
   ·repeat' (refine ifd (fun h => ?_) (fun h => ?_) <;> try (exfalso; omega))
    all_goals
     refine aL (fun h=>rGv (bad fun T=>h (T.nm (by omega))) rfl) (fun hnm=>?_)
     refine aL (fun h=>rGv (bad fun T=>h (by have:=T.gl0;omega)) rfl) (fun hg0=>?_)
     refine aL (fun h=>rGv (bad fun T=>h (by have:=T.ln0;omega)) rfl) (fun hl=>?_)
     refine ifd (fun h=>by omega) (fun h=>?_)
     exact rGv (one ⟨htm,by omega,by omega,fun _=>hnm,by omega,by omega,by omega,by omega,by omega,by omega,by omega,by omega,by omega,by omega⟩ (by omega)) rfl
   ·by_cases e9 : g.kind = 9
    ·repeat (refine ifd (fun h => ?_) (fun h => ?_) <;> try (exfalso; omega))
     refine cGv (eB _ _) ?_
     refine aL (fun h=>rGv (bad fun T=>h (T.rel e9)) rfl) (fun hnm=>?_)
     refine aL (fun h=>rGv (bad fun T=>h (by have:=T.gl0;omega)) rfl) (fun hg0=>?_)
     refine ifd (fun h=>rGv (bad fun T=>by have:=T.ln9;omega) rfl) (fun hl=>?_)
     exact rGv (one ⟨htm,by omega,by omega,by omega,fun _=>hnm,by omega,by omega,by omega,by omega,by omega,by omega,by omega,by omega,by omega⟩ (by omega)) rfl
    ·by_cases e3 : g.kind = 7 ∨ g.kind = 8 ∨ g.kind = 10
     ·have fin:∀k:Int,k=1+(Gl.cnts g.goals:Nat)→TopOk g→(∀x∈g.goals,x.Sh)→k≤room→Value.int .i64 k= .int .i64 (g.nodes room):=fun k hk T hS hr=>by
       rw[Gl.nodes_pos (.mk T hS) (by omega),hce,hk];congr 1
      have top:g.name=⟨#[]⟩→g.terms.length=0→g.goals.length≤8→(g.kind=10→g.goals.length=1)→(g.kind=10→∀b,g.goals[0]? =some b→b.kind=9)→TopOk g:=fun a b c d f=>
       ⟨htm,by omega,by omega,fun _=>a,by omega,by omega,by omega,by omega,by omega,c,by omega,d,by omega,f⟩
      repeat' (refine ifd (fun h=>?_) (fun h=>?_)<;>try (exfalso;omega))
      ·refine aL (fun h => rGv (bad fun T => h (T.nm (by omega))) rfl) (fun hnm => ?_)
       refine aL (fun h=>rGv (bad fun T=>h (by have:=T.ln0;omega)) rfl) (fun hl=>?_)
       refine ifd (fun h=>rGv (bad fun T=>by have:=T.gl;omega) rfl) (fun h8=>?_)
       have T:=top hnm (by omega) (by omega) (by omega) (by omega)
       refine lIn (fun i:Nat=>i≤g.goals.length∧(∀x∈g.goals.take i,x.Sh)∧1+(Gl.cnts (g.goals.take i):Int)≤room) (fun i=>⟨[(1,.val (.int .i64 room)),(6,.val (.int .i64 (1+(Gl.cnts (g.goals.take i):Int)))),(124,.val (.slice p.2.1 g.goals.length p.2.2)),(125,.val (.int .i64 g.goals.length)),(126,.val (.int .i64 i))],[],1,μ,h0⟩) (fun i=>g.goals.length-i)
        0 ⟨by omega,by simp,by simp[Gl.cnts];omega⟩ (fun i=>⟨rfl,rfl⟩) ⟨⟨rfl,rfl,rfl,rfl,rfl,trivial⟩,trivial,rfl,rfl⟩ ?_
       rintro i ⟨hi,hall,hle⟩
       refine ifd (fun h=>?_) (fun h=>?_)
       ·have w_ := aSo (l := g.goals) (i := i) (by omega)
        obtain⟨t,ht⟩:=w_
        have hc:=Gl.cnts_take ht
        have hc':=Gl.cnts_le g.goals (i+1)
        have w_:=Gl.elem hgs ht
        obtain⟨ad,p3,hel,hr⟩:=w_
        refine eIn hel ?_
        intro r2
        refine aB (by omega) (by omega) ?_
        refine cGv (ih t (mAt ht) hr (by omega) (by omega)) ?_
        refine ifd (fun h=>rGv (Gl.nodes_neg fun k=>Gl.nodes_lt h ⟨k.1.sub t (mAt ht),by omega⟩) rfl) (fun h=>?_)
        have w_:=Gl.nodes_ge h
        obtain⟨hS,hcnt,he⟩:=w_
        refine nEq (x:=1+(Gl.cnts (g.goals.take (i+1)):Int)) (by rw[he,aA (by omega) (by omega),hc];omega) ?_
        refine aB (by omega) (by omega) ⟨i+1,⟨by omega,fun x hx=>?_,by omega⟩,by omega,⟨⟨rfl,rfl,rfl,rfl,rfl,trivial⟩,trivial,rfl,rfl⟩⟩
        rw[List.take_add_one,ht,Option.toList_some,List.mem_append,List.mem_singleton]at hx
        rcases hx with hx|rfl
        ·exact hall x hx
        ·exact hS
       ·obtain rfl : i = g.goals.length := by omega
        rw[List.take_length]at hall hle
        exact rGv (fin _ (by rw[List.take_length]) T hall (by rw[List.take_length];exact hle)) rfl
      ·refine aL (fun h => rGv (bad fun T => h (T.nm (by omega))) rfl) (fun hnm => ?_)
       refine aL (fun h=>rGv (bad fun T=>h (by have:=T.ln0;omega)) rfl) (fun hl=>?_)
       refine ifd (fun h=>rGv (bad fun T=>by have:=T.gl;omega) rfl) (fun h8=>?_)
       have T:=top hnm (by omega) (by omega) (by omega) (by omega)
       refine lIn (fun i:Nat=>i≤g.goals.length∧(∀x∈g.goals.take i,x.Sh)∧1+(Gl.cnts (g.goals.take i):Int)≤room) (fun i=>⟨[(1,.val (.int .i64 room)),(6,.val (.int .i64 (1+(Gl.cnts (g.goals.take i):Int)))),(124,.val (.slice p.2.1 g.goals.length p.2.2)),(125,.val (.int .i64 g.goals.length)),(126,.val (.int .i64 i))],[],1,μ,h0⟩) (fun i=>g.goals.length-i)
        0 ⟨by omega,by simp,by simp[Gl.cnts];omega⟩ (fun i=>⟨rfl,rfl⟩) ⟨⟨rfl,rfl,rfl,rfl,rfl,trivial⟩,trivial,rfl,rfl⟩ ?_
       rintro i ⟨hi,hall,hle⟩
       refine ifd (fun h=>?_) (fun h=>?_)
       ·have w_ := aSo (l := g.goals) (i := i) (by omega)
        obtain⟨t,ht⟩:=w_
        have hc:=Gl.cnts_take ht
        have hc':=Gl.cnts_le g.goals (i+1)
        have w_:=Gl.elem hgs ht
        obtain⟨ad,p3,hel,hr⟩:=w_
        refine eIn hel ?_
        intro r2
        refine aB (by omega) (by omega) ?_
        refine cGv (ih t (mAt ht) hr (by omega) (by omega)) ?_
        refine ifd (fun h=>rGv (Gl.nodes_neg fun k=>Gl.nodes_lt h ⟨k.1.sub t (mAt ht),by omega⟩) rfl) (fun h=>?_)
        have w_:=Gl.nodes_ge h
        obtain⟨hS,hcnt,he⟩:=w_
        refine nEq (x:=1+(Gl.cnts (g.goals.take (i+1)):Int)) (by rw[he,aA (by omega) (by omega),hc];omega) ?_
        refine aB (by omega) (by omega) ⟨i+1,⟨by omega,fun x hx=>?_,by omega⟩,by omega,⟨⟨rfl,rfl,rfl,rfl,rfl,trivial⟩,trivial,rfl,rfl⟩⟩
        rw[List.take_add_one,ht,Option.toList_some,List.mem_append,List.mem_singleton]at hx
        rcases hx with hx|rfl
        ·exact hall x hx
        ·exact hS
       ·obtain rfl : i = g.goals.length := by omega
        rw[List.take_length]at hall hle
        exact rGv (fin _ (by rw[List.take_length]) T hall (by rw[List.take_length];exact hle)) rfl
      ·refine aL (fun h => rGv (bad fun T => h (T.nm (by omega))) rfl) (fun hnm => ?_)
       refine aL (fun h=>rGv (bad fun T=>h (by have:=T.ln0;omega)) rfl) (fun hl=>?_)
       refine aL (fun h=>rGv (bad fun T=>h (by have:=T.gl1;omega)) rfl) (fun hg1=>?_)
       have w_:=aSo (l:=g.goals) (i:=0) (by omega)
       obtain⟨b,hb⟩:=w_
       have w_:=Gl.elem hgs hb
       obtain⟨ad,p2,hel,hr⟩:=w_
       refine eIn hel ?_
       refine aL (fun h=>rGv (bad fun T=>h (T.cl (by omega) b hb)) rfl) (fun hb9=>?_)
       have T:=top hnm (by omega) (by omega) (by omega) (fun _ x hx=>by rw[hb]at hx;cases hx;exact hb9)
       refine lIn (fun i:Nat=>i≤g.goals.length∧(∀x∈g.goals.take i,x.Sh)∧1+(Gl.cnts (g.goals.take i):Int)≤room) (fun i=>⟨[(1,.val (.int .i64 room)),(6,.val (.int .i64 (1+(Gl.cnts (g.goals.take i):Int)))),(124,.val (.slice p.2.1 g.goals.length p.2.2)),(125,.val (.int .i64 g.goals.length)),(126,.val (.int .i64 i))],[],1,μ,h0⟩) (fun i=>g.goals.length-i)
        0 ⟨by omega,by simp,by simp[Gl.cnts];omega⟩ (fun i=>⟨rfl,rfl⟩) ⟨⟨rfl,rfl,rfl,rfl,rfl,trivial⟩,trivial,rfl,rfl⟩ ?_
       rintro i ⟨hi,hall,hle⟩
       refine ifd (fun h=>?_) (fun h=>?_)
       ·have w_ := aSo (l := g.goals) (i := i) (by omega)
        obtain⟨t,ht⟩:=w_
        have hc:=Gl.cnts_take ht
        have hc':=Gl.cnts_le g.goals (i+1)
        have w_:=Gl.elem hgs ht
        obtain⟨ad,p3,hel,hr⟩:=w_
        refine eIn hel ?_
        intro r2
        refine aB (by omega) (by omega) ?_
        refine cGv (ih t (mAt ht) hr (by omega) (by omega)) ?_
        refine ifd (fun h=>rGv (Gl.nodes_neg fun k=>Gl.nodes_lt h ⟨k.1.sub t (mAt ht),by omega⟩) rfl) (fun h=>?_)
        have w_:=Gl.nodes_ge h
        obtain⟨hS,hcnt,he⟩:=w_
        refine nEq (x:=1+(Gl.cnts (g.goals.take (i+1)):Int)) (by rw[he,aA (by omega) (by omega),hc];omega) ?_
        refine aB (by omega) (by omega) ⟨i+1,⟨by omega,fun x hx=>?_,by omega⟩,by omega,⟨⟨rfl,rfl,rfl,rfl,rfl,trivial⟩,trivial,rfl,rfl⟩⟩
        rw[List.take_add_one,ht,Option.toList_some,List.mem_append,List.mem_singleton]at hx
        rcases hx with hx|rfl
        ·exact hall x hx
        ·exact hS
       ·obtain rfl : i = g.goals.length := by omega
        rw[List.take_length]at hall hle
        exact rGv (fin _ (by rw[List.take_length]) T hall (by rw[List.take_length];exact hle)) rfl
     ·repeat (refine ifd (fun h => ?_) (fun h => ?_) <;> try (exfalso; omega))
      exact rGv (bad fun T=>by have:=T.k0;have:=T.k1;omega) rfl
end
end Go.Vx
namespace Go.Vx
open Go.Proofs Classical
section
variable {μ:Mem}
theorem dX{xs:List T}{base:Option Addr}{cap:Nat}(hsl:Sl μ 4 base xs.length ((xs.map T.tm).map Tm.d))(hn:xs.length≤10000000):
  Spec Tryz.prog 144 [.slice base xs.length cap] μ fun v μ'=>RepV μ' (.sl 4 ((xs.map T.tm).map Tm.d)) v:=by
 refine Spec.mk Tryz.func144 (by kernel_rfl) ?_
 intro r6
 refine lIn (fun p:Nat×Option Nat×Nat×List Value×Mem=>p.1≤xs.length∧μ.Le p.2.2.2.2∧Rows p.2.2.2.2 4 (((xs.take p.1).map T.tm).map Tm.d) p.2.2.2.1)
  (fun(i,b,c,ys,μ')=>⟨[(3,.row 0 b ys.length c),(7,.val (.slice base xs.length cap)),(8,.val (.int .i64 xs.length)),(9,.val (.int .i64 i))],[(0,some (.row b c 75 4 ys))],1,μ',Mem.nil⟩) (fun p=>xs.length-p.1)
  (0,some r6,0,[],μ) ⟨by simp,Mem.Le.refl _,.nil⟩ (fun(_,_,_,_,_)=>⟨rfl,rfl⟩) ⟨⟨rfl,rfl,rfl,rfl,trivial⟩,⟨rfl,trivial⟩,rfl,rfl⟩ ?_
 rintro⟨i,b,c,ys,μ'⟩ ⟨hi,hle,hrows⟩
 dsimp only at hi hle hrows
 have hlen:=hrows.len
 simp only[List.length_map,List.length_take]at hlen
 refine ifd (fun h=>?_) (fun h=>?_)
 ·have w_ := aSo (l := xs) (i := i) (by omega)
  obtain⟨x,hx'⟩:=w_
  have w_:=Tm.elem (i:=i) (t:=x.tm) (hsl.mono hle) (by simp[hx'])
  obtain⟨ad,p,hel,hto⟩:=w_
  refine eIn hel ?_
  intro r
  refine cPl (lO _ hto) fun v4 μ4 hle4 hR4=>?_
  have w_:=Tm.invV hR4
  obtain⟨q,rfl⟩:=w_
  intro r5
  refine gIn ?_ ?_ fun b' c' _=>?_
  ·show(ys.length+1)*56≤_;omega
  ·exact Nat.le_trans (m:=100000000) (show ys.length+1≤_ by omega) (by decide)
  refine aB (by omega) (by omega) ⟨(i+1,b',c',_,μ4),⟨by dsimp only;omega,hle.trans hle4,?_⟩,by dsimp only;omega,⟨⟨rfl,rfl,rfl,rfl,trivial⟩,⟨rfl,trivial⟩,rfl,rfl⟩⟩
  dsimp only
  rw[List.take_add_one,hx',Option.toList_some]
  simp only[List.map_append,List.map_cons,List.map_nil]
  exact(hrows.mono hle4).append (Rows.one hR4 (Tm.d_n _))
 ·obtain rfl : i = xs.length := by omega
  rw[List.take_length]at hrows
  refine rFz [0] fun μ' hle' hno hrow=> .inl ?_
  exact Rows.sl hrow (hrows.mono hle') (Nat.le_trans (m:=100000000) (by omega) (by decide))
theorem RepS.cons1{d:D}{r:List D}{v:Value}{cs:List Value}(k1:Rep μ d [v])(k2:RepS μ r cs):RepS μ (d::r) (v::cs):=⟨[v],cs,rfl,k1,k2⟩
theorem lP:∀(g:Gl) {μ:Mem} {v:Value},RepV μ g.d v→g.Sh→Spec Tryz.prog 98 [v] μ fun v μ'=>RepV μ' g.d v:=
 Gl.ind fun g ih μ v hv hS=>by
  have w_:=Gl.inv hv
  obtain⟨p,rfl,hts,hgs⟩:=w_
  have w_:=fD hS.top.tm
  obtain⟨xs,hxs,hok⟩:=w_
  have hg8:=hS.top.gl
  have hx4:xs.length≤4:=by
   have T:=hS.top
   have e9:=T.ln9;have e2:=T.ln2;have e1:=T.ln1;have e0:=T.ln0;have k0:=T.k0;have k1:=T.k1
   have:g.terms.length=xs.length:=by rw[hxs,List.length_map]
   omega
  rw[hxs,List.length_map]at hts ⊢
  refine Spec.mk Tryz.func98 (by kernel_rfl) ?_
  intro r1 r2
  refine cPl (dX hts (by omega)) fun v1 μ1 hle1 hR1=>?_
  have w_:=Rep.sl hR1
  obtain⟨b1,c1,rfl,hs1⟩:=w_
  intro r3
  have hgs1:=hgs.mono hle1
  refine aU (fun p:Nat×Option Nat×Nat×List Value×Mem=>p.1≤g.goals.length∧μ1.Le p.2.2.2.2∧Rows p.2.2.2.2 4 ((g.goals.take p.1).map Gl.d) p.2.2.2.1)
   (fun (i, b, c, ys, μ') => ⟨[(2, .loc 1 r2 0), (3, .loc 2 r3 0), (15, .val (.slice p.2.1 g.goals.length p.2.2)), (16, .val (.int .i64 g.goals.length)), (17, .val (.int .i64 i))],
    [(1,some (.cells r2 [.val (.int .i64 0),.val (.string ⟨#[]⟩),.val (.slice none 0 0),.val (.slice none 0 0)] 61)),(2,some (.cells r3 [.val (.int .i64 g.kind),.val (.string g.name),.val (.slice b1 ((xs.map T.tm).map Tm.d).length c1),.row 3 b ys.length c] 61)),(3,some (.row b c 61 4 ys))],4,μ',Mem.nil⟩) (fun p=>g.goals.length-p.1)
   (0,none,0,[],μ1) ⟨by simp,Mem.Le.refl _,.nil⟩ (fun(_,_,_,_,_)=>⟨rfl,rfl⟩) ⟨⟨⟨_,rfl,.inl rfl⟩,⟨_,rfl,.inl rfl⟩,⟨_,rfl,.inl rfl⟩,⟨_,rfl,.inl rfl⟩,⟨_,rfl,.inl rfl⟩,trivial⟩,⟨.inl rfl,.inr (.inr ⟨_,_,_,_,rfl,rfl,.inl rfl,.inl rfl,.inl rfl,.inr ⟨3,rfl,rfl,Nat.le_refl _⟩,trivial⟩),.inr (.inl ⟨_,_,rfl,Nat.le_refl _⟩),trivial⟩,rfl,rfl⟩ ?_
  rintro⟨i,b,c,ys,μ'⟩ ⟨hi,hle,hrows⟩
  dsimp only at hi hle hrows
  have hlen:=hrows.len
  simp only[List.length_map,List.length_take]at hlen
  refine ifd (fun h=>?_) (fun h=>?_)
  ·have w_ := aSo (l := g.goals) (i := i) (by omega)
   obtain⟨t,ht⟩:=w_
   have w_:=Gl.elem (hgs1.mono hle) ht
   obtain⟨ad,p3,hel,hr⟩:=w_
   refine eIn hel ?_
   intro r4
   refine cPl (ih t (mAt ht) hr (hS.sub t (mAt ht))) fun v' μ'' hle2 hR=>?_
   have w_:=Gl.invV hR
   obtain⟨q,rfl⟩:=w_
   intro r5
   refine gIn ?_ ?_ fun b' c' _=>?_
   ·show(ys.length+1)*72≤_;omega
   ·exact Nat.le_trans (m:=100000000) (show ys.length+1≤_ by omega) (by decide)
   have hsucc:(g.goals.take (i+1)).map Gl.d=(g.goals.take i).map Gl.d++[t.d]:=by
    rw[List.take_add_one,ht,Option.toList_some];simp
   exact aB (by omega) (by omega) ⟨(i+1,b',c',_,μ''),⟨by dsimp only;omega,hle.trans hle2,by rw[hsucc];exact(hrows.mono hle2).append (Rows.one hR (Gl.d_n _))⟩,by dsimp only;omega,⟨⟨rfl,rfl,rfl,rfl,rfl,trivial⟩,⟨rfl,rfl,rfl,trivial⟩,rfl,rfl⟩⟩
  ·obtain rfl : i = g.goals.length := by omega
   rw[List.take_length]at hrows
   refine rFz [3] fun μ2 hle2 hno hrow=> .inl ?_
   rw[Gl.d_eq,hxs]
   exact⟨_,rfl,RepS.int (RepS.str (RepS.cons1 ((hR1.mono hle).mono hle2) (RepS.last (Rows.sl hrow (hrows.mono hle2) (Nat.le_trans (m:=100000000) (by omega) (by decide))))))⟩
end
end Go.Vx
namespace Go.Vx
open Go.Proofs Classical
theorem Gl.puts_map(f:Int→Option T):∀l:List Gl,Gl.puts f l=l.map (Gl.put f)
 |[]=>rfl
 |t::r=>by simp[Gl.puts,Gl.puts_map f r]
theorem Gl.put_kind(f:Int→Option T)(g:Gl):(g.put f).kind=g.kind:=by cases g;rfl
theorem Gl.put_name(f:Int→Option T)(g:Gl):(g.put f).name=g.name:=by cases g;rfl
theorem Gl.put_terms(f:Int→Option T)(g:Gl):(g.put f).terms=g.terms.map fun t=>(t.toT.subst f).tm:=by cases g;rfl
theorem Gl.put_goals(f:Int→Option T)(g:Gl):(g.put f).goals=g.goals.map (Gl.put f):=by cases g;rw[Gl.put];exact Gl.puts_map f _
section
variable {μ:Mem}
theorem qBr{bs:List B}{b0:Option Addr}{c0:Nat}:∀(g:Gl) {μ:Mem} {v:Value},RepV μ g.d v→g.Sh→Sl μ 5 b0 bs.length ((bs.map B.bd).map Bd.d)→Spec Tryz.prog 250 [v,.slice b0 bs.length c0] μ fun v μ'=>RepV μ' (g.put (sub bs)).d v:=
 Gl.ind fun g ih μ v hv hS hsl=>by
  have w_:=Gl.inv hv
  obtain⟨p,rfl,hts,hgs⟩:=w_
  have w_:=fD hS.top.tm
  obtain⟨xs,hxs,hok⟩:=w_
  have hg8:=hS.top.gl
  have hx4:xs.length≤4:=by
   have T:=hS.top
   have e9:=T.ln9;have e2:=T.ln2;have e1:=T.ln1;have e0:=T.ln0;have k0:=T.k0;have k1:=T.k1
   have:g.terms.length=xs.length:=by rw[hxs,List.length_map]
   omega
  have hput:(g.put (sub bs)).d= .st [.i g.kind,.s g.name,.sl 4 (((xs.map (T.subst (sub bs))).map T.tm).map Tm.d),.sl 4 ((g.goals.map (Gl.put (sub bs))).map Gl.d)]:=by
   rw[Gl.d_eq,Gl.put_kind,Gl.put_name,Gl.put_goals,Gl.put_terms,hxs]
   simp[List.map_map,Function.comp_def,T.toT_tm]
  rw[hxs,List.length_map]at hts ⊢
  refine Spec.mk Tryz.func250 (by kernel_rfl) ?_
  intro r1 r2 r3
  refine aU (fun p:Nat×Option Nat×Nat×List Value×Mem=>p.1≤xs.length∧μ.Le p.2.2.2.2∧Rows p.2.2.2.2 4 ((((xs.take p.1).map (T.subst (sub bs))).map T.tm).map Tm.d) p.2.2.2.1)
   (fun (i, b, c, ys, μ') => ⟨[(1, .val (.slice b0 bs.length c0)), (2, .loc 0 r1 0), (4, .loc 1 r2 0), (5, .loc 2 r3 0), (16, .val (.slice p.1.1 xs.length p.1.2)), (17, .val (.int .i64 xs.length)), (18, .val (.int .i64 i))],
    [(0,some (.cells r1 [.val (.int .i64 g.kind),.val (.string g.name),.val (.slice p.1.1 xs.length p.1.2),.val (.slice p.2.1 g.goals.length p.2.2)] 61)),(1,some (.cells r2 [.val (.int .i64 0),.val (.string ⟨#[]⟩),.val (.slice none 0 0),.val (.slice none 0 0)] 61)),(2,some (.cells r3 [.val (.int .i64 g.kind),.val (.string g.name),.row 3 b ys.length c,.val (.slice none 0 0)] 61)),(3,some (.row b c 75 4 ys))],4,μ',Mem.nil⟩) (fun p=>xs.length-p.1)
   (0,none,0,[],μ) ⟨by simp,Mem.Le.refl _,.nil⟩ (fun(_,_,_,_,_)=>⟨rfl,rfl⟩) ⟨⟨⟨_,rfl,.inl rfl⟩,⟨_,rfl,.inl rfl⟩,⟨_,rfl,.inl rfl⟩,⟨_,rfl,.inl rfl⟩,⟨_,rfl,.inl rfl⟩,⟨_,rfl,.inl rfl⟩,⟨_,rfl,.inl rfl⟩,trivial⟩,⟨.inl rfl,.inl rfl,.inr (.inr ⟨_,_,_,_,rfl,rfl,.inl rfl,.inl rfl,.inr ⟨3,rfl,rfl,Nat.le_refl _⟩,.inl rfl,trivial⟩),.inr (.inl ⟨_,_,rfl,Nat.le_refl _⟩),trivial⟩,rfl,rfl⟩ ?_
  rintro⟨i,b,c,ys,μ'⟩ ⟨hi,hle,hrows⟩
  dsimp only at hi hle hrows
  have hlen:=hrows.len
  simp only[List.length_map,List.length_take]at hlen
  refine ifd (fun h=>?_) (fun h=>?_)
  ·have w_ := aSo (l := xs) (i := i) (by omega)
   obtain⟨t,ht⟩:=w_
   have ht':(xs.map T.tm)[i]? =some t.tm:=by simp[ht]
   have w_:=Tm.elem (hts.mono hle) ht'
   obtain⟨ad,p3,hel,hr⟩:=w_
   refine eIn hel ?_
   intro r4
   refine cPl (qBq t (hsl.mono hle) hr) fun v' μ'' hle2 hR=>?_
   have w_:=Tm.invV hR
   obtain⟨q,rfl⟩:=w_
   intro r5
   refine gIn ?_ ?_ fun b' c' _=>?_
   ·show(ys.length+1)*56≤_;omega
   ·exact Nat.le_trans (m:=100000000) (show ys.length+1≤_ by omega) (by decide)
   refine aB (by omega) (by omega) ⟨(i+1,b',c',_,μ''),⟨by dsimp only;omega,hle.trans hle2,?_⟩,by dsimp only;omega,⟨⟨rfl,rfl,rfl,rfl,rfl,rfl,rfl,trivial⟩,⟨rfl,rfl,rfl,rfl,trivial⟩,rfl,rfl⟩⟩
   dsimp only
   rw[List.take_add_one,ht,Option.toList_some]
   simp only[List.map_append,List.map_cons,List.map_nil]
   exact(hrows.mono hle2).append (Rows.one hR (Tm.d_n _))
  ·obtain rfl : i = xs.length := by omega
   rw[List.take_length]at hrows
   have hgs1:=hgs.mono hle
   refine aU (fun p:Nat×Option Nat×Nat×List Value×Mem=>p.1≤g.goals.length∧μ'.Le p.2.2.2.2∧Rows p.2.2.2.2 4 (((g.goals.take p.1).map (Gl.put (sub bs))).map Gl.d) p.2.2.2.1)
    (fun (i, b2, c2, zs, μ'') => ⟨[(1, .val (.slice b0 bs.length c0)), (4, .loc 1 r2 0), (5, .loc 2 r3 0), (32, .val (.slice p.2.1 g.goals.length p.2.2)), (33, .val (.int .i64 g.goals.length)), (34, .val (.int .i64 i))],
     [(1,some (.cells r2 [.val (.int .i64 0),.val (.string ⟨#[]⟩),.val (.slice none 0 0),.val (.slice none 0 0)] 61)),(2,some (.cells r3 [.val (.int .i64 g.kind),.val (.string g.name),.row 3 b ys.length c,.row 4 b2 zs.length c2] 61)),(3,some (.row b c 75 4 ys)),(4,some (.row b2 c2 61 4 zs))],5,μ'',Mem.nil⟩) (fun p=>g.goals.length-p.1)
    (0,none,0,[],μ') ⟨by simp,Mem.Le.refl _,.nil⟩ (fun(_,_,_,_,_)=>⟨rfl,rfl⟩) ⟨⟨⟨_,rfl,.inl rfl⟩,⟨_,rfl,.inl rfl⟩,⟨_,rfl,.inl rfl⟩,⟨_,rfl,.inl rfl⟩,⟨_,rfl,.inl rfl⟩,⟨_,rfl,.inl rfl⟩,trivial⟩,⟨.inl rfl,.inr (.inr ⟨_,_,_,_,rfl,rfl,.inl rfl,.inl rfl,.inl rfl,.inr ⟨4,rfl,rfl,Nat.le_refl _⟩,trivial⟩),.inl rfl,.inr (.inl ⟨_,_,rfl,Nat.le_refl _⟩),trivial⟩,rfl,rfl⟩ ?_
   rintro⟨i,b2,c2,zs,μ''⟩ ⟨hi,hle3,hrows2⟩
   dsimp only at hi hle3 hrows2
   have hlen2:=hrows2.len
   simp only[List.length_map,List.length_take]at hlen2
   refine ifd (fun h=>?_) (fun h=>?_)
   ·have w_ := aSo (l := g.goals) (i := i) (by omega)
    obtain⟨t,ht⟩:=w_
    have w_:=Gl.elem (hgs1.mono hle3) ht
    obtain⟨ad,p3,hel,hr⟩:=w_
    refine eIn hel ?_
    intro r4
    refine cPl (ih t (mAt ht) hr (hS.sub t (mAt ht)) ((hsl.mono hle).mono hle3)) fun v' μ3 hle4 hR=>?_
    have w_:=Gl.invV hR
    obtain⟨q,rfl⟩:=w_
    intro r5
    refine gIn ?_ ?_ fun b' c' _=>?_
    ·show(zs.length+1)*72≤_;omega
    ·exact Nat.le_trans (m:=100000000) (show zs.length+1≤_ by omega) (by decide)
    refine aB (by omega) (by omega) ⟨(i+1,b',c',_,μ3),⟨by dsimp only;omega,hle3.trans hle4,?_⟩,by dsimp only;omega,⟨⟨rfl,rfl,rfl,rfl,rfl,rfl,trivial⟩,⟨rfl,rfl,rfl,rfl,trivial⟩,rfl,rfl⟩⟩
    dsimp only
    rw[List.take_add_one,ht,Option.toList_some]
    simp only[List.map_append,List.map_cons,List.map_nil]
    exact(hrows2.mono hle4).append (Rows.one hR (Gl.d_n _))
   ·obtain rfl : i = g.goals.length := by omega
    rw[List.take_length]at hrows2
    refine rFz [3,4] fun μ2 hle5 hno hrow=>fun μ3 hle6 hno2 hrow2=> .inl ?_
    rw[hput]
    exact⟨_,rfl,RepS.int (RepS.str (RepS.cons1 ((Rows.sl hrow (((hrows.mono hle3)).mono hle5) (Nat.le_trans (m:=100000000) (by omega) (by decide))).mono hle6) (RepS.last (Rows.sl hrow2 ((hrows2.mono hle5).mono hle6) (Nat.le_trans (m:=100000000) (by omega) (by decide))))))⟩
end
end Go.Vx
namespace Go.Vx
open Go.Proofs Classical
theorem Mem.Le.none{μ μ':Mem}{b:Nat}(h:μ.Le μ')(k:μ' b=none):μ b=none:=by
 cases e:μ b with
 |none=>rfl
 |some o=>rw[h b o e]at k;cases k
section
variable {μ:Mem}
end
end Go.Vx
namespace Go.Vx
open Go.Proofs Classical
open Go.Sort
theorem qJe{d:Array Int}{k:Nat}(h:k<d.size):d.toList[k]? =some d[k]!:=by
 rw[Array.getElem?_toList,getElem!_pos d k h,Array.getElem?_eq_getElem h]
section
variable {μ h0:Mem} {r:Nat} {ty:TypeId} {rest:List Value} {d:Array Int}
theorem aK{n:Nat}{i:Int}{K:Addr→List Value→Prop}{K':Addr→Prop}(k:Nat)(e:i=k)(hk:k<n)(h:K' ⟨r,k,none⟩):elemVC μ (some ⟨r,0,none⟩) n 1 i K K':=by
 subst e
 refine cB ⟨r,0,none⟩ rfl (by omega) (by omega) ?_
 have:(⟨r,0,none⟩:Addr).add ((k:Int).toNat*1)=⟨r,k,none⟩:=by rw[Addr.add_lit'];simp
 rw[this];exact h
theorem rdI{k:Nat}{K:List Value→Prop}(hk:k<d.size)(h:K [.int .i64 d[k]!]):extVC μ (aR h0 r ty rest d) ⟨r,k,none⟩ 1 K:=
 qKj (pre:=[]) (j:=k) (by simp) (by rw[List.getElem?_map,qJe hk];rfl) h
theorem wrI{k:Nat}{v:Int}{K:Mem→Prop}(hk:k<d.size)(h:K (aR h0 r ty rest (d.setIfInBounds k v))):stoVC (aR h0 r ty rest d) ⟨r,k,none⟩ [.int .i64 v] K:=by
 refine qKy (pre:=[]) (j:=k) (by simp) (by simpa using hk) ?_
 have e:(d.toList.map (Value.int .i64)).set k (.int .i64 v)=(d.setIfInBounds k v).toList.map (Value.int .i64):=by
  rw[Array.toList_setIfInBounds,List.map_set]
 rw[e];exact h
theorem swp_size(d:Array Int)(i j:Nat):(swp d i j).size=d.size:=by simp[swp]
theorem vG(x:Int):aM Tryz.prog 286 [.int .i64 x] μ (.bool false):=by
 refine Spec.mk Tryz.func286 (by kernel_rfl) ?_
 exact rGv (by simp) rfl
theorem aQ(x y:Int):aM Tryz.prog 276 [.int .i64 x,.int .i64 y] μ (.bool (ltInt x y)):=by
 refine Spec.mk Tryz.func276 (by kernel_rfl) ?_
 refine cGv (vG x) ?_
 refine iIn (fun h=>nomatch h) (fun _=>?_)
 exact rGv rfl rfl
theorem jT{n a b:Nat}{cap:Nat}(hd:d.size=n)(ha:a≤b)(hb:b≤n)(hn:n≤1000000000000):
  SpecH Tryz.prog 270 [.slice (some ⟨r,0,none⟩) n cap,.int .i64 a,.int .i64 b] μ (aR h0 r ty rest d) fun v μ' h'=>v= .tuple #[]∧μ'=μ∧h'=aR h0 r ty rest (insertionSort ltInt d a b):=by
 refine SpecH.mk [] Tryz.func270 (by kernel_rfl) ?_
 rw[insertionSort]
 generalize hD:insOuter ltInt a b (a+1) d=D
 refine nEq (x:=((a+1:Nat):Int)) (by rw[aA (by omega) (by omega)];omega) ?_
 refine lIn (fun p:Nat×Array Int=>a+1≤p.1∧p.1≤max b (a+1)∧p.2.size=n∧insOuter ltInt a b p.1 p.2=D)
  (fun(i,d)=>⟨[(0,.val (.slice (some ⟨r,0,none⟩) n cap)),(1,.val (.int .i64 a)),(2,.val (.int .i64 b)),(6,.val (.int .i64 i))],[],0,μ,aR h0 r ty rest d⟩) (fun p=>b-p.1)
  (a+1,d) ⟨by omega,by omega,hd,hD⟩ (fun(_,_)=>⟨rfl,rfl⟩) ⟨⟨rfl,rfl,rfl,rfl,trivial⟩,trivial,rfl,rfl⟩ ?_
 rintro⟨i,d1⟩ ⟨hi1,hi2,hs,hJ⟩
 dsimp only at hi1 hi2 hs hJ
 rw[insOuter]at hJ
 refine ifd (fun h=>?_) (fun h=>?_)
 ·rw [if_pos (by omega)] at hJ
  refine lIn (fun p:Nat×Array Int=>p.1<n∧p.2.size=n∧insInner ltInt a p.1 p.2=insInner ltInt a i d1)
   (fun(j,d)=>⟨[(0,.val (.slice (some ⟨r,0,none⟩) n cap)),(1,.val (.int .i64 a)),(2,.val (.int .i64 b)),(6,.val (.int .i64 i)),(7,.val (.int .i64 j))],[],0,μ,aR h0 r ty rest d⟩) (fun p=>p.1)
   (i,d1) ⟨by omega,hs,rfl⟩ (fun(_,_)=>⟨rfl,rfl⟩) ⟨⟨rfl,rfl,rfl,rfl,rfl,trivial⟩,trivial,rfl,rfl⟩ ?_
  rintro⟨j,d2⟩ ⟨hj,hs2,hJ2⟩
  dsimp only at hj hs2 hJ2
  refine ifd (fun hja=>?_) (fun hja=>?_)
  ·obtain ⟨j, rfl⟩ : ∃ k, j = k + 1 := ⟨j - 1, by omega⟩
   rw[insInner]at hJ2
   refine aK (j+1) rfl (by omega) ?_
   refine rdI (by omega) ?_
   refine nEq (x:=((j:Nat):Int)) (by rw[aA (by omega) (by omega)];omega) ?_
   refine aK j rfl (by omega) ?_
   refine rdI (by omega) ?_
   refine cGv (aQ _ _) ?_
   have g:decide (j+1>a)=true:=decide_eq_true (by omega)
   refine iIn (fun hl=>?_) (fun hl=>?_)
   ·rw [g, hl, Bool.and_self, if_pos rfl] at hJ2
    refine nEq (x:=((j:Nat):Int)) (by rw[aA (by omega) (by omega)];omega) ?_
    refine nEq (x:=((j:Nat):Int)) (by rw[aA (by omega) (by omega)];omega) ?_
    refine aK j rfl (by omega) ?_
    refine rdI (by omega) ?_
    refine aK (j+1) rfl (by omega) ?_
    refine rdI (by omega) ?_
    refine aK (j+1) rfl (by omega) ?_
    refine wrI (by omega) ?_
    refine aK j rfl (by omega) ?_
    refine wrI (by simp;omega) ?_
    refine nEq (x:=((j:Nat):Int)) (by rw[aA (by omega) (by omega)];omega) ?_
    exact⟨(j,swp d2 (j+1) j),⟨by dsimp only;omega,by dsimp only;rw[swp_size];exact hs2,hJ2⟩,by dsimp only;omega,⟨⟨rfl,rfl,rfl,rfl,rfl,trivial⟩,trivial,rfl,rfl⟩⟩
   ·rw [hl, Bool.and_false, if_neg (by simp)] at hJ2
    exact aB (by omega) (by omega) ⟨(i+1,d2),⟨by dsimp only;omega,by dsimp only;omega,hs2,by dsimp only;rw[hJ2];exact hJ⟩,by dsimp only;omega,⟨⟨rfl,rfl,rfl,rfl,trivial⟩,trivial,rfl,rfl⟩⟩
  ·have hJ3:insInner ltInt a j d2=d2:=by
    cases j with
    |zero=>rfl
    |succ j=>rw[insInner,if_neg];simp;omega
   rw[hJ3]at hJ2
   exact aB (by omega) (by omega) ⟨(i+1,d2),⟨by dsimp only;omega,by dsimp only;omega,hs2,by dsimp only;rw[hJ2];exact hJ⟩,by dsimp only;omega,⟨⟨rfl,rfl,rfl,rfl,trivial⟩,trivial,rfl,rfl⟩⟩
 ·rw [if_neg (by omega)] at hJ
  exact rPl ⟨rfl,rfl,by rw[hJ]⟩
end
end Go.Vx
namespace Go.Vx
open Go.Proofs Classical
open Go.Sort
section
variable {μ h0:Mem} {r:Nat} {ty:TypeId} {rest:List Value} {d:Array Int}
theorem fK{n a b:Nat}{cap:Nat}(hd:d.size=n)(hb1:1≤b)(ha:a≤b)(hb:b≤n)(hn:n≤1000000000000):
  SpecH Tryz.prog 274 [.slice (some ⟨r,0,none⟩) n cap,.int .i64 a,.int .i64 b] μ (aR h0 r ty rest d) fun v μ' h'=>v= .tuple #[]∧μ'=μ∧h'=aR h0 r ty rest (reverseRange d a b):=by
 refine SpecH.mk [] Tryz.func274 (by kernel_rfl) ?_
 rw[reverseRange]
 generalize hD:reverseLoop a (b-1) d=D
 refine nEq (x:=((b-1:Nat):Int)) (by rw[aA (by omega) (by omega)];omega) ?_
 refine lIn (fun p:Nat×Nat×Array Int=>p.2.1<n∧p.1≤n∧p.2.2.size=n∧reverseLoop p.1 p.2.1 p.2.2=D)
  (fun(i,j,d)=>⟨[(0,.val (.slice (some ⟨r,0,none⟩) n cap)),(6,.val (.int .i64 i)),(7,.val (.int .i64 j))],[],0,μ,aR h0 r ty rest d⟩) (fun p=>p.2.1)
  (a,b-1,d) ⟨by dsimp only;omega,by dsimp only;omega,hd,hD⟩ (fun(_,_,_)=>⟨rfl,rfl⟩) ⟨⟨rfl,rfl,rfl,trivial⟩,trivial,rfl,rfl⟩ ?_
 rintro⟨i,j,d1⟩ ⟨hj,hi,hs,hJ⟩
 dsimp only at hj hi hs hJ
 rw[reverseLoop]at hJ
 refine ifd (fun h=>?_) (fun h=>?_)
 ·rw [if_pos (by omega)] at hJ
  refine aK (j) (by omega) (by omega) ?_
  refine rdI (by omega) ?_
  refine aK (i) (by omega) (by omega) ?_
  refine rdI (by omega) ?_
  refine aK (i) (by omega) (by omega) ?_
  refine wrI (by omega) ?_
  refine aK (j) (by omega) (by omega) ?_
  refine wrI (by simp;omega) ?_
  refine nEq (x:=((i+1:Nat):Int)) (by rw[aA (by omega) (by omega)];omega) ?_
  refine nEq (x:=((j-1:Nat):Int)) (by rw[aA (by omega) (by omega)];omega) ?_
  exact⟨(i+1,j-1,swp d1 i j),⟨by dsimp only;omega,by dsimp only;omega,by dsimp only;rw[swp_size];exact hs,hJ⟩,by dsimp only;omega,⟨⟨rfl,rfl,rfl,trivial⟩,trivial,rfl,rfl⟩⟩
 ·rw [if_neg (by omega)] at hJ
  exact rPl ⟨rfl,rfl,by rw[hJ]⟩
theorem jK{n lo hi first:Nat}{cap:Nat}(hd:d.size=n)(hb:first+hi≤n)(hl:lo≤n)(hn:n≤1000000000000):
  SpecH Tryz.prog 281 [.slice (some ⟨r,0,none⟩) n cap,.int .i64 lo,.int .i64 hi,.int .i64 first] μ (aR h0 r ty rest d) fun v μ' h'=>v= .tuple #[]∧μ'=μ∧h'=aR h0 r ty rest (siftDown ltInt hi first lo d):=by
 refine SpecH.mk [] Tryz.func281 (by kernel_rfl) ?_
 generalize hD:siftDown ltInt hi first lo d=D
 refine lIn (fun p:Nat×Array Int=>p.1≤n∧p.2.size=n∧siftDown ltInt hi first p.1 p.2=D)
  (fun(i,d)=>⟨[(0,.val (.slice (some ⟨r,0,none⟩) n cap)),(2,.val (.int .i64 hi)),(3,.val (.int .i64 first)),(8,.val (.int .i64 i))],[],0,μ,aR h0 r ty rest d⟩) (fun p=>hi-p.1)
  (lo,d) ⟨hl,hd,hD⟩ (fun(_,_)=>⟨rfl,rfl⟩) ⟨⟨rfl,rfl,rfl,rfl,trivial⟩,trivial,rfl,rfl⟩ ?_
 rintro⟨i,d1⟩ ⟨hi1,hs,hJ⟩
 dsimp only at hi1 hs hJ
 rw[siftDown]at hJ
 refine nEq (x:=((2*i:Nat):Int)) (by rw[aA (by omega) (by omega)];omega) ?_
 refine nEq (x:=((2*i+1:Nat):Int)) (by rw[aA (by omega) (by omega)];omega) ?_
 refine ifd (fun h=>?_) (fun h=>?_)
 ·rw [dif_pos (by omega)] at hJ
  exact rPl ⟨rfl,rfl,by rw[hJ]⟩
 rw[dif_neg (by omega)]at hJ
 refine nEq (x:=((2*i+1+1:Nat):Int)) (by rw[aA (by omega) (by omega)];omega) ?_
 refine ifd (fun h2=>?_) (fun h2=>?_)
 ·refine nEq (x := ((first + (2 * i + 1) : Nat) : Int)) (by rw [aA (by omega) (by omega)]; omega) ?_
  refine aK (first+(2*i+1)) (by omega) (by omega) ?_
  refine rdI (by omega) ?_
  refine nEq (x:=((first+(2*i+1):Nat):Int)) (by rw[aA (by omega) (by omega)];omega) ?_
  refine nEq (x:=((first+(2*i+1)+1:Nat):Int)) (by rw[aA (by omega) (by omega)];omega) ?_
  refine aK (first+(2*i+1)+1) (by omega) (by omega) ?_
  refine rdI (by omega) ?_
  refine cGv (aQ _ _) ?_
  have g:decide (2*i+1+1<hi)=true:=decide_eq_true (by omega)
  refine iIn (fun hl=>?_) (fun hl=>?_)
  ·rw [g, hl, Bool.and_self, if_pos rfl] at hJ
   refine nEq (x:=((2*i+2:Nat):Int)) (by rw[aA (by omega) (by omega)];omega) ?_
   refine nEq (x:=((first+i:Nat):Int)) (by rw[aA (by omega) (by omega)];omega) ?_
   refine aK (first+i) (by omega) (by omega) ?_
   refine rdI (by omega) ?_
   refine nEq (x:=((first+(2*i+2):Nat):Int)) (by rw[aA (by omega) (by omega)];omega) ?_
   refine aK (first+(2*i+2)) (by omega) (by omega) ?_
   refine rdI (by omega) ?_
   refine cGv (aQ _ _) ?_
   refine iIn (fun hl=>?_) (fun hl=>?_)
   ·rw [if_pos (by simpa using hl)] at hJ
    exact rPl ⟨rfl,rfl,by rw[hJ]⟩
   ·rw [if_neg (by simpa using hl)] at hJ
    try rw[dif_pos (by omega)]at hJ
    refine nEq (x:=((first+i:Nat):Int)) (by rw[aA (by omega) (by omega)];omega) ?_
    refine nEq (x:=((first+(2*i+2):Nat):Int)) (by rw[aA (by omega) (by omega)];omega) ?_
    refine nEq (x:=((first+(2*i+2):Nat):Int)) (by rw[aA (by omega) (by omega)];omega) ?_
    refine aK (first+(2*i+2)) (by omega) (by omega) ?_
    refine rdI (by omega) ?_
    refine nEq (x:=((first+i:Nat):Int)) (by rw[aA (by omega) (by omega)];omega) ?_
    refine aK (first+i) (by omega) (by omega) ?_
    refine rdI (by omega) ?_
    refine aK (first+i) (by omega) (by omega) ?_
    refine wrI (by omega) ?_
    refine aK (first+(2*i+2)) (by omega) (by omega) ?_
    refine wrI (by simp;omega) ?_
    exact⟨(2*i+2,swp d1 (first+i) (first+(2*i+2))),⟨by dsimp only;omega,by dsimp only;rw[swp_size];exact hs,hJ⟩,by dsimp only;omega,⟨⟨rfl,rfl,rfl,rfl,trivial⟩,trivial,rfl,rfl⟩⟩
  ·rw [hl, Bool.and_false, if_neg (by simp)] at hJ
   refine nEq (x:=((first+i:Nat):Int)) (by rw[aA (by omega) (by omega)];omega) ?_
   refine aK (first+i) (by omega) (by omega) ?_
   refine rdI (by omega) ?_
   refine nEq (x:=((first+(2*i+1):Nat):Int)) (by rw[aA (by omega) (by omega)];omega) ?_
   refine aK (first+(2*i+1)) (by omega) (by omega) ?_
   refine rdI (by omega) ?_
   refine cGv (aQ _ _) ?_
   refine iIn (fun hl=>?_) (fun hl=>?_)
   ·rw [if_pos (by simpa using hl)] at hJ
    exact rPl ⟨rfl,rfl,by rw[hJ]⟩
   ·rw [if_neg (by simpa using hl)] at hJ
    try rw[dif_pos (by omega)]at hJ
    refine nEq (x:=((first+i:Nat):Int)) (by rw[aA (by omega) (by omega)];omega) ?_
    refine nEq (x:=((first+(2*i+1):Nat):Int)) (by rw[aA (by omega) (by omega)];omega) ?_
    refine nEq (x:=((first+(2*i+1):Nat):Int)) (by rw[aA (by omega) (by omega)];omega) ?_
    refine aK (first+(2*i+1)) (by omega) (by omega) ?_
    refine rdI (by omega) ?_
    refine nEq (x:=((first+i:Nat):Int)) (by rw[aA (by omega) (by omega)];omega) ?_
    refine aK (first+i) (by omega) (by omega) ?_
    refine rdI (by omega) ?_
    refine aK (first+i) (by omega) (by omega) ?_
    refine wrI (by omega) ?_
    refine aK (first+(2*i+1)) (by omega) (by omega) ?_
    refine wrI (by simp;omega) ?_
    exact⟨(2*i+1,swp d1 (first+i) (first+(2*i+1))),⟨by dsimp only;omega,by dsimp only;rw[swp_size];exact hs,hJ⟩,by dsimp only;omega,⟨⟨rfl,rfl,rfl,rfl,trivial⟩,trivial,rfl,rfl⟩⟩
 ·have g : decide (2 * i + 1 + 1 < hi) = false := decide_eq_false (by omega)
  rw[g,Bool.false_and,if_neg (by simp)]at hJ
  refine nEq (x:=((first+i:Nat):Int)) (by rw[aA (by omega) (by omega)];omega) ?_
  refine aK (first+i) (by omega) (by omega) ?_
  refine rdI (by omega) ?_
  refine nEq (x:=((first+(2*i+1):Nat):Int)) (by rw[aA (by omega) (by omega)];omega) ?_
  refine aK (first+(2*i+1)) (by omega) (by omega) ?_
  refine rdI (by omega) ?_
  refine cGv (aQ _ _) ?_
  refine iIn (fun hl=>?_) (fun hl=>?_)
  ·rw [if_pos (by simpa using hl)] at hJ
   exact rPl ⟨rfl,rfl,by rw[hJ]⟩
  ·rw [if_neg (by simpa using hl)] at hJ
   try rw[dif_pos (by omega)]at hJ
   refine nEq (x:=((first+i:Nat):Int)) (by rw[aA (by omega) (by omega)];omega) ?_
   refine nEq (x:=((first+(2*i+1):Nat):Int)) (by rw[aA (by omega) (by omega)];omega) ?_
   refine nEq (x:=((first+(2*i+1):Nat):Int)) (by rw[aA (by omega) (by omega)];omega) ?_
   refine aK (first+(2*i+1)) (by omega) (by omega) ?_
   refine rdI (by omega) ?_
   refine nEq (x:=((first+i:Nat):Int)) (by rw[aA (by omega) (by omega)];omega) ?_
   refine aK (first+i) (by omega) (by omega) ?_
   refine rdI (by omega) ?_
   refine aK (first+i) (by omega) (by omega) ?_
   refine wrI (by omega) ?_
   refine aK (first+(2*i+1)) (by omega) (by omega) ?_
   refine wrI (by simp;omega) ?_
   exact⟨(2*i+1,swp d1 (first+i) (first+(2*i+1))),⟨by dsimp only;omega,by dsimp only;rw[swp_size];exact hs,hJ⟩,by dsimp only;omega,⟨⟨rfl,rfl,rfl,rfl,trivial⟩,trivial,rfl,rfl⟩⟩
theorem jJ(hi first:Nat):∀(m root:Nat) (d:Array Int),hi-root≤m→(siftDown ltInt hi first root d).size=d.size:=by
 intro m
 induction m with
 |zero=>
  intro root d h
  rw[siftDown,dif_pos (by omega)]
 |succ m ih=>
  intro root d h
  rw[siftDown]
  repeat' split
  all_goals first
   |rfl
   |(rw[ih _ _ (by omega),Go.Sort.swp_size])
theorem oW{n a b:Nat}{cap:Nat}(hd:d.size=n)(ha:a<b)(hb:b≤n)(hn:n≤1000000000000):
  SpecH Tryz.prog 271 [.slice (some ⟨r,0,none⟩) n cap,.int .i64 a,.int .i64 b] μ (aR h0 r ty rest d) fun v μ' h'=>v= .tuple #[]∧μ'=μ∧h'=aR h0 r ty rest (heapSort ltInt d a b):=by
 refine SpecH.mk [] Tryz.func271 (by kernel_rfl) ?_
 rw[heapSort]
 generalize hD1:heapBuild ltInt (b-a) a ((b-a-1) / 2+1) d=D1
 generalize hD:heapPop ltInt a (b-a) D1=D
 refine nEq (x:=((b-a:Nat):Int)) (by rw[aA (by omega) (by omega)];omega) ?_
 refine nEq (x:=((b-a-1:Nat):Int)) (by rw[aA (by omega) (by omega)];omega) ?_
 refine aC (by decide) ?_
 refine nEq (x:=(((b-a-1) / 2+1:Nat):Int)-1) (by rw[Int.tdiv_eq_ediv_of_nonneg (by omega),aA (by omega) (by omega)];omega) ?_
 refine lIn (fun p:Nat×Array Int=>p.1≤b-a∧p.2.size=n∧heapBuild ltInt (b-a) a p.1 p.2=D1)
  (fun(k,d)=>⟨[(0,.val (.slice (some ⟨r,0,none⟩) n cap)),(6,.val (.int .i64 a)),(7,.val (.int .i64 0)),(8,.val (.int .i64 (b-a:Nat))),(9,.val (.int .i64 ((k:Int)-1)))],[],0,μ,aR h0 r ty rest d⟩) (fun p=>p.1)
  ((b-a-1) / 2+1,d) ⟨by dsimp only;omega,hd,hD1⟩ (fun(_,_)=>⟨rfl,rfl⟩) ⟨⟨rfl,rfl,rfl,rfl,rfl,trivial⟩,trivial,rfl,rfl⟩ ?_
 rintro⟨k,d1⟩ ⟨hk,hs,hJ⟩
 dsimp only at hk hs hJ
 refine ifd (fun h=>?_) (fun h=>?_)
 ·obtain ⟨k, rfl⟩ : ∃ m, k = m + 1 := ⟨k - 1, by omega⟩
  rw[heapBuild]at hJ
  have e:(((k+1:Nat):Int)-1)=(k:Nat):=by omega
  rw[e]
  refine cOw (jK (lo:=k) (hi:=b-a) (first:=a) hs (by omega) (by omega) hn) fun v μ' h' hle hap hR=>?_
  obtain⟨rfl,e2,rfl⟩:=hR
  obtain rfl:=e2.symm
  refine nEq (x:=(k:Int)-1) (by rw[aA (by omega) (by omega)]) ?_
  exact⟨(k,siftDown ltInt (b-a) a k d1),⟨by dsimp only;omega,by dsimp only;rw[jJ _ _ _ _ _ (Nat.le_refl _)];exact hs,hJ⟩,by dsimp only;omega,⟨⟨rfl,rfl,rfl,rfl,rfl,trivial⟩,trivial,rfl,rfl⟩⟩
 obtain rfl:k=0:=by omega
 have hJ:d1=D1:=hJ
 subst hJ
 refine nEq (x:=((b-a:Nat):Int)-1) (by rw[aA (by omega) (by omega)]) ?_
 refine lIn (fun p:Nat×Array Int=>p.1≤b-a∧p.2.size=n∧heapPop ltInt a p.1 p.2=D)
  (fun(k,d)=>⟨[(0,.val (.slice (some ⟨r,0,none⟩) n cap)),(6,.val (.int .i64 a)),(7,.val (.int .i64 0)),(10,.val (.int .i64 ((k:Int)-1)))],[],0,μ,aR h0 r ty rest d⟩) (fun p=>p.1)
  (b-a,d1) ⟨by dsimp only;omega,hs,hD⟩ (fun(_,_)=>⟨rfl,rfl⟩) ⟨⟨rfl,rfl,rfl,rfl,trivial⟩,trivial,rfl,rfl⟩ ?_
 rintro⟨k,d2⟩ ⟨hk,hs2,hJ⟩
 dsimp only at hk hs2 hJ
 refine ifd (fun h=>?_) (fun h=>?_)
 ·obtain ⟨k, rfl⟩ : ∃ m, k = m + 1 := ⟨k - 1, by omega⟩
  rw[heapPop]at hJ
  have e:(((k+1:Nat):Int)-1)=(k:Nat):=by omega
  rw[e]
  refine nEq (x:=((a+k:Nat):Int)) (by rw[aA (by omega) (by omega)];omega) ?_
  refine nEq (x:=((a+k:Nat):Int)) (by rw[aA (by omega) (by omega)];omega) ?_
  refine aK (a+k) (by omega) (by omega) ?_
  refine rdI (by omega) ?_
  refine aK (a) (by omega) (by omega) ?_
  refine rdI (by omega) ?_
  refine aK (a) (by omega) (by omega) ?_
  refine wrI (by omega) ?_
  refine aK (a+k) (by omega) (by omega) ?_
  refine wrI (by simp;omega) ?_
  refine cOw (jK (d:=swp d2 a (a+k)) (lo:=0) (hi:=k) (first:=a) ((Go.Sort.swp_size _ _ _).trans hs2) (by omega) (by omega) hn) fun v μ' h' hle hap hR=>?_
  obtain⟨rfl,e2,rfl⟩:=hR
  obtain rfl:=e2.symm
  refine nEq (x:=(k:Int)-1) (by rw[aA (by omega) (by omega)]) ?_
  exact⟨(k,_),⟨by dsimp only;omega,by dsimp only;rw[jJ _ _ _ _ _ (Nat.le_refl _),Go.Sort.swp_size];exact hs2,hJ⟩,by dsimp only;omega,⟨⟨rfl,rfl,rfl,rfl,trivial⟩,trivial,rfl,rfl⟩⟩
 obtain rfl:k=0:=by omega
 have hJ:d2=D:=hJ
 subst hJ
 exact rPl ⟨rfl,rfl,rfl⟩
end
end Go.Vx
namespace Go.Vx
open Go.Proofs Classical
open Go.Sort
section
variable {μ h0:Mem} {r rs:Nat} {ty:TypeId} {rest:List Value} {d:Array Int} {s:Int}
theorem rdS{K:List Value→Prop}(hne:rs≠r)(h:K [.int .i64 s]):extVC μ (RowS h0 r ty rest d rs s) ⟨rs,0,none⟩ 1 K:=oIn _ rfl (bJ (RowS.at hne)) h
theorem Mem.set_comm{m:Mem}{a b:Nat}{x y:Obj}(h:a≠b):(m.set a x).set b y=(m.set b y).set a x:=by
 funext k
 simp only[Mem.set_get]
 by_cases h1:k=b
 ·subst h1;rw[if_pos rfl,if_neg (fun e=>h e.symm),if_pos rfl]
 ·rw [if_neg h1]
  by_cases h2:k=a
  ·rw[if_pos h2,if_pos h2]
  ·rw[if_neg h2,if_neg h2,if_neg h1]
theorem wrS{v:Int}{K:Mem→Prop}(hne:rs≠r)(h:K (RowS h0 r ty rest d rs v)):stoVC (RowS h0 r ty rest d rs s) ⟨rs,0,none⟩ [.int .i64 v] K:=by
 refine sIn [.int .i64 s] 3 (RowS.at hne) rfl (Nat.le_refl _) ?_
 have e:Mem.set (RowS h0 r ty rest d rs s) rs (.cells #[.int .i64 v] 3 (0,0))=RowS h0 r ty rest d rs v:=by
  rw[RowS,aR,Mem.set_comm (fun e=>hne e.symm),Mem.set_set]
  rfl
 show K (Mem.set (RowS h0 r ty rest d rs s) rs (.cells #[.int .i64 v] 3 (0,0)))
 rw[e];exact h
theorem iI{n a b cap:Nat}(hne:rs≠r)(hd:d.size=n)(ha:a<n)(hb:b<n):
  SpecH Tryz.prog 287 [.slice (some ⟨r,0,none⟩) n cap,.int .i64 a,.int .i64 b,.pointer (some ⟨rs,0,none⟩)] μ (RowS h0 r ty rest d rs s) fun v μ' h'=>
   ∃x y:Nat,((x=a∧y=b)∨(x=b∧y=a))∧v= .tuple #[.int .i64 x,.int .i64 y]∧μ'=μ∧∃s',h'=RowS h0 r ty rest d rs s':=by
 refine SpecH.mk [] Tryz.func287 (by kernel_rfl) ?_
 refine aK (b) (by omega) (by omega) ?_
 refine rdI (by omega) ?_
 refine aK (a) (by omega) (by omega) ?_
 refine rdI (by omega) ?_
 refine cGv (aQ _ _) ?_
 refine iIn (fun hl=>?_) (fun hl=>?_)
 ·refine rdS hne ?_
  refine aO fun x _=>?_
  refine wrS hne ?_
  exact rPl ⟨b,a,.inr ⟨rfl,rfl⟩,rfl,rfl,_,rfl⟩
 ·exact rPl ⟨a,b,.inl ⟨rfl,rfl⟩,rfl,rfl,_,rfl⟩
theorem iH{n a b c cap:Nat}(hne:rs≠r)(hd:d.size=n)(ha:a<n)(hb:b<n)(hc:c<n):
  SpecH Tryz.prog 285 [.slice (some ⟨r,0,none⟩) n cap,.int .i64 a,.int .i64 b,.int .i64 c,.pointer (some ⟨rs,0,none⟩)] μ (RowS h0 r ty rest d rs s) fun v μ' h'=>
   ∃x:Nat,(x=a∨x=b∨x=c)∧v= .int .i64 x∧μ'=μ∧∃s',h'=RowS h0 r ty rest d rs s':=by
 refine SpecH.mk [] Tryz.func285 (by kernel_rfl) ?_
 refine cOw (iI hne hd ha hb) fun v μ' h' hle hap hR=>?_
 obtain⟨x1,y1,o1,rfl,e1,s1,rfl⟩:=hR
 obtain rfl:=e1.symm
 refine cOw (iI (a:=y1) (b:=c) hne hd (by omega) hc) fun v μ' h' hle hap hR=>?_
 obtain⟨x2,y2,o2,rfl,e2,s2,rfl⟩:=hR
 obtain rfl:=e2.symm
 refine cOw (iI (a:=x1) (b:=x2) hne hd (by omega) (by omega)) fun v μ' h' hle hap hR=>?_
 obtain⟨x3,y3,o3,rfl,e3,s3,rfl⟩:=hR
 obtain rfl:=e3.symm
 exact rPl ⟨y3,by omega,rfl,rfl,_,rfl⟩
theorem cT{n a cap:Nat}(hne:rs≠r)(hd:d.size=n)(ha:1≤a)(hb:a+1<n)(hn:n≤1000000000000):
  SpecH Tryz.prog 284 [.slice (some ⟨r,0,none⟩) n cap,.int .i64 a,.pointer (some ⟨rs,0,none⟩)] μ (RowS h0 r ty rest d rs s) fun v μ' h'=>
   ∃x:Nat,(x+1=a∨x=a∨x=a+1)∧v= .int .i64 x∧μ'=μ∧∃s',h'=RowS h0 r ty rest d rs s':=by
 refine SpecH.mk [] Tryz.func284 (by kernel_rfl) ?_
 refine nEq (x:=((a-1:Nat):Int)) (by rw[aA (by omega) (by omega)];omega) ?_
 refine nEq (x:=((a+1:Nat):Int)) (by rw[aA (by omega) (by omega)];omega) ?_
 refine cOw (iH (a:=a-1) (b:=a) (c:=a+1) hne hd (by omega) (by omega) (by omega)) fun v μ' h' hle hap hR=>?_
 obtain⟨x1,o1,rfl,e1,s1,rfl⟩:=hR
 obtain rfl:=e1.symm
 exact rPl ⟨x1,by omega,rfl,rfl,_,rfl⟩
theorem RowS.parts(hne:rs≠r)(hs:h0 rs=none):Parts (RowS h0 r ty rest d rs s) (Mem.nil.set rs (.cells #[.int .i64 s] 3 (0,0))) (aR h0 r ty rest d):=fun b=>by
 by_cases h:b=rs
 ·subst h
  exact .inl ⟨by rw[RowS.at hne,Mem.set_at],by rw[aR,Mem.set_ne hne];exact hs⟩
 ·refine .inr ⟨?_, by rw [Mem.set_ne h]; rfl⟩
  rw[RowS,aR,aR]
  by_cases h2:b=r
  ·subst h2;rw[Mem.set_at,Mem.set_at]
  ·rw[Mem.set_ne h2,Mem.set_ne h2,Mem.set_ne h]
set_option maxHeartbeats 4000000 in
theorem fS{n a b cap:Nat}(hr:h0 r=none)(hd:d.size=n)(ha:a<b)(hb:b≤n)(hn:n≤1000000000000):
  SpecH Tryz.prog 273 [.slice (some ⟨r,0,none⟩) n cap,.int .i64 a,.int .i64 b] μ (aR h0 r ty rest d) fun v _μ' h'=>
   ∃p k:Nat,a≤p∧p<b∧k≤2∧v= .tuple #[.int .i64 p,.int .i64 k]∧h'=aR h0 r ty rest d:=by
 refine SpecH.mk [9] Tryz.func273 (by kernel_rfl) ?_
 refine nEq (x:=((b-a:Nat):Int)) (by rw[aA (by omega) (by omega)];omega) ?_
 intro rs hm ho
 have hne:rs≠r:=fun e=>by
  subst e
  have:aR h0 rs ty rest d rs=none:=ho
  rw[aR,Mem.set_at]at this;cases this
 have hs0:h0 rs=none:=by
  have:aR h0 r ty rest d rs=none:=ho
  rwa [aR,Mem.set_ne hne]at this
 have e0:Mem.set (aR h0 r ty rest d) rs (.cells #[.int .i64 0] 3 (0,0))=RowS h0 r ty rest d rs 0:=by
  rw[RowS,aR,aR,Mem.set_comm (fun e=>hne e.symm)]
 generalize hH:Mem.set (aR h0 r ty rest d) rs _=H
 obtain rfl:H=RowS h0 r ty rest d rs 0:=hH.symm.trans e0
 clear e0 hH ho hm
 refine aC (by decide) ?_
 refine nEq (x:=(((b-a) / 4:Nat):Int)) (by rw[Int.tdiv_eq_ediv_of_nonneg (by omega),aA (by omega) (by omega)];omega) ?_
 refine nEq (x:=(((b-a) / 4*1:Nat):Int)) (by rw[aA (by omega) (by omega)];omega) ?_
 refine nEq (x:=((a+(b-a) / 4*1:Nat):Int)) (by rw[aA (by omega) (by omega)];omega) ?_
 refine aC (by decide) ?_
 refine nEq (x:=(((b-a) / 4:Nat):Int)) (by rw[Int.tdiv_eq_ediv_of_nonneg (by omega),aA (by omega) (by omega)];omega) ?_
 refine nEq (x:=(((b-a) / 4*2:Nat):Int)) (by rw[aA (by omega) (by omega)];omega) ?_
 refine nEq (x:=((a+(b-a) / 4*2:Nat):Int)) (by rw[aA (by omega) (by omega)];omega) ?_
 refine aC (by decide) ?_
 refine nEq (x:=(((b-a) / 4:Nat):Int)) (by rw[Int.tdiv_eq_ediv_of_nonneg (by omega),aA (by omega) (by omega)];omega) ?_
 refine nEq (x:=(((b-a) / 4*3:Nat):Int)) (by rw[aA (by omega) (by omega)];omega) ?_
 refine nEq (x:=((a+(b-a) / 4*3:Nat):Int)) (by rw[aA (by omega) (by omega)];omega) ?_
 refine ifd (fun h8=>?_) (fun h8=>?_)
 ·refine ifd (fun h50 => ?_) (fun h50 => ?_)
  ·refine cOw (cT (a := a + (b - a) / 4 * 1) hne hd (by omega) (by omega) hn) fun v μ' h' hle hap hR => ?_
   obtain⟨x1,o1,rfl,e1,s1,rfl⟩:=hR
   obtain rfl:=e1.symm
   refine cOw (cT (a:=a+(b-a) / 4*2) hne hd (by omega) (by omega) hn) fun v μ' h' hle hap hR=>?_
   obtain⟨x2,o2,rfl,e1,s2,rfl⟩:=hR
   obtain rfl:=e1.symm
   refine cOw (cT (a:=a+(b-a) / 4*3) hne hd (by omega) (by omega) hn) fun v μ' h' hle hap hR=>?_
   obtain⟨x3,o3,rfl,e1,s3,rfl⟩:=hR
   obtain rfl:=e1.symm
   refine cOw (iH (a:=x1) (b:=x2) (c:=x3) hne hd (by omega) (by omega) (by omega)) fun v μ' h' hle hap hR=>?_
   obtain⟨x4,o4,rfl,e1,s4,rfl⟩:=hR
   obtain rfl:=e1.symm
   refine rdS hne ?_
   refine ifd (fun h1=>?_) (fun h1=>?_)
   ·exact cG _ _ (RowS.parts hne hs0) ⟨x4,1,by omega,by omega,by omega,rfl,rfl⟩
   refine ifd (fun h1=>?_) (fun h1=>?_)
   ·exact cG _ _ (RowS.parts hne hs0) ⟨x4,2,by omega,by omega,by omega,rfl,rfl⟩
   exact cG _ _ (RowS.parts hne hs0) ⟨x4,0,by omega,by omega,by omega,rfl,rfl⟩
  ·refine cOw (iH (a := a + (b - a) / 4 * 1) (b := a + (b - a) / 4 * 2) (c := a + (b - a) / 4 * 3) hne hd (by omega) (by omega) (by omega)) fun v μ' h' hle hap hR => ?_
   obtain⟨x4,o4,rfl,e1,s4,rfl⟩:=hR
   obtain rfl:=e1.symm
   refine rdS hne ?_
   refine ifd (fun h1=>?_) (fun h1=>?_)
   ·exact cG _ _ (RowS.parts hne hs0) ⟨x4,1,by omega,by omega,by omega,rfl,rfl⟩
   refine ifd (fun h1=>?_) (fun h1=>?_)
   ·exact cG _ _ (RowS.parts hne hs0) ⟨x4,2,by omega,by omega,by omega,rfl,rfl⟩
   exact cG _ _ (RowS.parts hne hs0) ⟨x4,0,by omega,by omega,by omega,rfl,rfl⟩
 ·refine rdS hne ?_
  refine ifd (fun h1=>?_) (fun h1=>?_)
  ·exact cG _ _ (RowS.parts hne hs0) ⟨a+(b-a) / 4*2,1,by omega,by omega,by omega,rfl,rfl⟩
  refine ifd (fun h1=>?_) (fun h1=>?_)
  ·exact cG _ _ (RowS.parts hne hs0) ⟨a+(b-a) / 4*2,2,by omega,by omega,by omega,rfl,rfl⟩
  exact cG _ _ (RowS.parts hne hs0) ⟨a+(b-a) / 4*2,0,by omega,by omega,by omega,rfl,rfl⟩
end
end Go.Vx
namespace Go.Vx
open Go.Proofs Classical
open Go.Sort
theorem bV{x k:Nat}(h:2 ^ k≤x):bitsLen x=bitsLen (x / 2 ^ k)+k:=by
 have hpos:0<2 ^ k:=Nat.two_pow_pos k
 apply Nat.le_antisymm
 ·rw [bitsLen_le_iff, Nat.pow_add]
  have:=lt_two_pow_bitsLen (x / 2 ^ k)
  rw[Nat.div_lt_iff_lt_mul hpos]at this
  exact this
 ·have h1:k<bitsLen x:=by
   rcases Nat.lt_or_ge k (bitsLen x)with h2|h2
   ·exact h2
   ·have:=(bitsLen_le_iff x k).1 h2;omega
  have h3:bitsLen (x / 2 ^ k)≤bitsLen x-k:=by
   rw[bitsLen_le_iff,Nat.div_lt_iff_lt_mul hpos,←Nat.pow_add]
   have:bitsLen x-k+k=bitsLen x:=by omega
   rw[this];exact lt_two_pow_bitsLen x
  omega
section
variable {μ:Mem}
theorem uT{x:Nat}(hx:x<18446744073709551616):aM Tryz.prog 280 [.int .u64 x] μ (.int .i64 (bitsLen x)):=by
 obtain⟨L,hL⟩:∃L,L=bitsLen x:=⟨_,rfl⟩
 rw[←hL]
 refine Spec.mk Tryz.func280 (by kernel_rfl) ?_
 refine ifd (fun h1=>?_) (fun h1=>?_)
 ·refine aC (by decide) ?_
  refine nEq (x:=((x / 4294967296:Nat):Int)) (by
   show(x:Int).fdiv 4294967296=_
   rw[Int.fdiv_eq_ediv_of_nonneg _ (by decide)];rfl) ?_
  have b1:bitsLen x=bitsLen (x / 4294967296)+32:=bV (k:=32) (by omega)
  have b2:x / 4294967296<4294967296:=by omega
  generalize x / 4294967296=y at*
  refine ifd (fun h2=>?_) (fun h2=>?_)
  ·refine aC (by decide) ?_
   refine nEq (x:=((y / 65536:Nat):Int)) (by
    show(y:Int).fdiv 65536=_
    rw[Int.fdiv_eq_ediv_of_nonneg _ (by decide)];rfl) ?_
   have b3:bitsLen y=bitsLen (y / 65536)+16:=bV (k:=16) (by omega)
   have b4:y / 65536<65536:=by omega
   generalize y / 65536=z at*
   refine nEq (x:=32+16) (by decide) ?_
   refine ifd (fun h3=>?_) (fun h3=>?_)
   ·refine aC (by decide) ?_
    refine nEq (x:=((z / 256:Nat):Int)) (by
     show(z:Int).fdiv 256=_
     rw[Int.fdiv_eq_ediv_of_nonneg _ (by decide)];rfl) ?_
    have b5:bitsLen z=bitsLen (z / 256)+8:=bV (k:=8) (by omega)
    have b6:z / 256<256:=by omega
    generalize z / 256=w at*
    refine nEq (x:=32+16+8) (by decide) ?_
    have b7:bitsLen w≤8:=(bitsLen_le_iff w 8).2 b6
    refine nEq (x:=(w:Int)) (by
     show(w:Int) % 256=_
     omega) ?_
    refine aN w (UInt8.ofNat (bitsLen w)) rfl ?_ ?_
    ·clear b5 b7
     try clear hw
     revert w
     decide+kernel
    refine nEq (x:=(bitsLen w:Int)) (by
     rw[UInt8.toNat_ofNat',Nat.mod_eq_of_lt (by omega),aA (by omega) (by omega)]) ?_
    refine nEq (x:=(L:Int)) (by rw[aA (by omega) (by omega)];omega) ?_
    exact rGv rfl rfl
   ·obtain ⟨w, hw⟩ : ∃ w, w = z := ⟨_, rfl⟩
    have b5:bitsLen z=bitsLen w+0:=by rw[hw];rfl
    have b6:w<256:=by omega
    rw[←hw]
    have b7:bitsLen w≤8:=(bitsLen_le_iff w 8).2 b6
    refine nEq (x:=(w:Int)) (by
     show(w:Int) % 256=_
     omega) ?_
    refine aN w (UInt8.ofNat (bitsLen w)) rfl ?_ ?_
    ·clear b5 b7
     try clear hw
     revert w
     decide+kernel
    refine nEq (x:=(bitsLen w:Int)) (by
     rw[UInt8.toNat_ofNat',Nat.mod_eq_of_lt (by omega),aA (by omega) (by omega)]) ?_
    refine nEq (x:=(L:Int)) (by rw[aA (by omega) (by omega)];omega) ?_
    exact rGv rfl rfl
  ·obtain ⟨z, hz⟩ : ∃ z, z = y := ⟨_, rfl⟩
   have b3:bitsLen y=bitsLen z+0:=by rw[hz];rfl
   have b4:z<65536:=by omega
   rw[←hz]
   refine ifd (fun h3=>?_) (fun h3=>?_)
   ·refine aC (by decide) ?_
    refine nEq (x:=((z / 256:Nat):Int)) (by
     show(z:Int).fdiv 256=_
     rw[Int.fdiv_eq_ediv_of_nonneg _ (by decide)];rfl) ?_
    have b5:bitsLen z=bitsLen (z / 256)+8:=bV (k:=8) (by omega)
    have b6:z / 256<256:=by omega
    generalize z / 256=w at*
    refine nEq (x:=32+8) (by decide) ?_
    have b7:bitsLen w≤8:=(bitsLen_le_iff w 8).2 b6
    refine nEq (x:=(w:Int)) (by
     show(w:Int) % 256=_
     omega) ?_
    refine aN w (UInt8.ofNat (bitsLen w)) rfl ?_ ?_
    ·clear b5 b7
     try clear hw
     revert w
     decide+kernel
    refine nEq (x:=(bitsLen w:Int)) (by
     rw[UInt8.toNat_ofNat',Nat.mod_eq_of_lt (by omega),aA (by omega) (by omega)]) ?_
    refine nEq (x:=(L:Int)) (by rw[aA (by omega) (by omega)];omega) ?_
    exact rGv rfl rfl
   ·obtain ⟨w, hw⟩ : ∃ w, w = z := ⟨_, rfl⟩
    have b5:bitsLen z=bitsLen w+0:=by rw[hw];rfl
    have b6:w<256:=by omega
    rw[←hw]
    have b7:bitsLen w≤8:=(bitsLen_le_iff w 8).2 b6
    refine nEq (x:=(w:Int)) (by
     show(w:Int) % 256=_
     omega) ?_
    refine aN w (UInt8.ofNat (bitsLen w)) rfl ?_ ?_
    ·clear b5 b7
     try clear hw
     revert w
     decide+kernel
    refine nEq (x:=(bitsLen w:Int)) (by
     rw[UInt8.toNat_ofNat',Nat.mod_eq_of_lt (by omega),aA (by omega) (by omega)]) ?_
    refine nEq (x:=(L:Int)) (by rw[aA (by omega) (by omega)];omega) ?_
    exact rGv rfl rfl
 ·obtain ⟨y, hy⟩ : ∃ y, y = x := ⟨_, rfl⟩
  have b1:bitsLen x=bitsLen y+0:=by rw[hy];rfl
  have b2:y<4294967296:=by omega
  rw[←hy]
  refine ifd (fun h2=>?_) (fun h2=>?_)
  ·refine aC (by decide) ?_
   refine nEq (x:=((y / 65536:Nat):Int)) (by
    show(y:Int).fdiv 65536=_
    rw[Int.fdiv_eq_ediv_of_nonneg _ (by decide)];rfl) ?_
   have b3:bitsLen y=bitsLen (y / 65536)+16:=bV (k:=16) (by omega)
   have b4:y / 65536<65536:=by omega
   generalize y / 65536=z at*
   refine nEq (x:=0+16) (by decide) ?_
   refine ifd (fun h3=>?_) (fun h3=>?_)
   ·refine aC (by decide) ?_
    refine nEq (x:=((z / 256:Nat):Int)) (by
     show(z:Int).fdiv 256=_
     rw[Int.fdiv_eq_ediv_of_nonneg _ (by decide)];rfl) ?_
    have b5:bitsLen z=bitsLen (z / 256)+8:=bV (k:=8) (by omega)
    have b6:z / 256<256:=by omega
    generalize z / 256=w at*
    refine nEq (x:=0+16+8) (by decide) ?_
    have b7:bitsLen w≤8:=(bitsLen_le_iff w 8).2 b6
    refine nEq (x:=(w:Int)) (by
     show(w:Int) % 256=_
     omega) ?_
    refine aN w (UInt8.ofNat (bitsLen w)) rfl ?_ ?_
    ·clear b5 b7
     try clear hw
     revert w
     decide+kernel
    refine nEq (x:=(bitsLen w:Int)) (by
     rw[UInt8.toNat_ofNat',Nat.mod_eq_of_lt (by omega),aA (by omega) (by omega)]) ?_
    refine nEq (x:=(L:Int)) (by rw[aA (by omega) (by omega)];omega) ?_
    exact rGv rfl rfl
   ·obtain ⟨w, hw⟩ : ∃ w, w = z := ⟨_, rfl⟩
    have b5:bitsLen z=bitsLen w+0:=by rw[hw];rfl
    have b6:w<256:=by omega
    rw[←hw]
    have b7:bitsLen w≤8:=(bitsLen_le_iff w 8).2 b6
    refine nEq (x:=(w:Int)) (by
     show(w:Int) % 256=_
     omega) ?_
    refine aN w (UInt8.ofNat (bitsLen w)) rfl ?_ ?_
    ·clear b5 b7
     try clear hw
     revert w
     decide+kernel
    refine nEq (x:=(bitsLen w:Int)) (by
     rw[UInt8.toNat_ofNat',Nat.mod_eq_of_lt (by omega),aA (by omega) (by omega)]) ?_
    refine nEq (x:=(L:Int)) (by rw[aA (by omega) (by omega)];omega) ?_
    exact rGv rfl rfl
  ·obtain ⟨z, hz⟩ : ∃ z, z = y := ⟨_, rfl⟩
   have b3:bitsLen y=bitsLen z+0:=by rw[hz];rfl
   have b4:z<65536:=by omega
   rw[←hz]
   refine ifd (fun h3=>?_) (fun h3=>?_)
   ·refine aC (by decide) ?_
    refine nEq (x:=((z / 256:Nat):Int)) (by
     show(z:Int).fdiv 256=_
     rw[Int.fdiv_eq_ediv_of_nonneg _ (by decide)];rfl) ?_
    have b5:bitsLen z=bitsLen (z / 256)+8:=bV (k:=8) (by omega)
    have b6:z / 256<256:=by omega
    generalize z / 256=w at*
    refine nEq (x:=0+8) (by decide) ?_
    have b7:bitsLen w≤8:=(bitsLen_le_iff w 8).2 b6
    refine nEq (x:=(w:Int)) (by
     show(w:Int) % 256=_
     omega) ?_
    refine aN w (UInt8.ofNat (bitsLen w)) rfl ?_ ?_
    ·clear b5 b7
     try clear hw
     revert w
     decide+kernel
    refine nEq (x:=(bitsLen w:Int)) (by
     rw[UInt8.toNat_ofNat',Nat.mod_eq_of_lt (by omega),aA (by omega) (by omega)]) ?_
    refine nEq (x:=(L:Int)) (by rw[aA (by omega) (by omega)];omega) ?_
    exact rGv rfl rfl
   ·obtain ⟨w, hw⟩ : ∃ w, w = z := ⟨_, rfl⟩
    have b5:bitsLen z=bitsLen w+0:=by rw[hw];rfl
    have b6:w<256:=by omega
    rw[←hw]
    have b7:bitsLen w≤8:=(bitsLen_le_iff w 8).2 b6
    refine nEq (x:=(w:Int)) (by
     show(w:Int) % 256=_
     omega) ?_
    refine aN w (UInt8.ofNat (bitsLen w)) rfl ?_ ?_
    ·clear b5 b7
     try clear hw
     revert w
     decide+kernel
    refine nEq (x:=(bitsLen w:Int)) (by
     rw[UInt8.toNat_ofNat',Nat.mod_eq_of_lt (by omega),aA (by omega) (by omega)]) ?_
    refine nEq (x:=(L:Int)) (by rw[aA (by omega) (by omega)];omega) ?_
    exact rGv rfl rfl
theorem sP{x:Nat}(hx:x<18446744073709551616):aM Tryz.prog 269 [.int .u64 x] μ (.int .i64 (bitsLen x)):=by
 refine Spec.mk Tryz.func269 (by kernel_rfl) ?_
 refine cGv (uT hx) ?_
 exact rGv rfl rfl
theorem qJb{x m:Int}(h0:0≤m)(h1:m<18446744073709551616):0≤bits .and .u64 x m∧bits .and .u64 x m≤m:=by
 have e:bits .and .u64 x m=(((BitVec.ofInt 64 x &&& BitVec.ofInt 64 m).toNat:Nat):Int) % 18446744073709551616:=rfl
 have h2:(BitVec.ofInt 64 m).toNat=m.toNat:=by
  rw[BitVec.toNat_ofInt]
  congr 1
  exact Int.emod_eq_of_lt h0 h1
 have h3:(BitVec.ofInt 64 x &&& BitVec.ofInt 64 m).toNat≤m.toNat:=by
  rw[BitVec.toNat_and,h2]
  exact Nat.and_le_right
 rw[e]
 omega
end
end Go.Vx
namespace Go.Vx
open Go.Proofs Classical
open Go.Sort
section
variable {μ h0:Mem} {r rs:Nat} {ty:TypeId} {rest:List Value} {d:Array Int} {s:Int}
theorem iZ{x:Nat}(hx:x≤1000000000000):aM Tryz.prog 282 [.int .i64 x] μ (.int .u64 ((2 ^ bitsLen x:Nat):Int)):=by
 refine Spec.mk Tryz.func282 (by kernel_rfl) ?_
 have h1:bitsLen x≤40:=(bitsLen_le_iff x 40).2 (by omega)
 have h2:2 ^ bitsLen x≤2 ^ 40:=Nat.pow_le_pow_right (by decide) h1
 have h3:(2:Nat) ^ 40=1099511627776:=by decide
 refine nEq (x:=(x:Int)) (by
  show(x:Int) % 18446744073709551616=_
  omega) ?_
 refine cGv (sP (by omega)) ?_
 refine aC (by omega) ?_
 refine nEq (x:=((2 ^ bitsLen x:Nat):Int)) (by
  have e:min ((bitsLen x:Int).toNat) IntKind.u64.bits=bitsLen x:=by
   show min ((bitsLen x:Int).toNat) 64=bitsLen x
   omega
  rw[e]
  have h4:((2:Int) ^ bitsLen x)=((2 ^ bitsLen x:Nat):Int):=by rw[Int.natCast_pow];rfl
  show(1*(2:Int) ^ bitsLen x) % 18446744073709551616=_
  rw[Int.one_mul,h4]
  generalize 2 ^ bitsLen x=P at*
  omega) ?_
 exact rGv rfl rfl
theorem rdX{K:List Value→Prop}(hne:rs≠r)(h:K [.int .u64 s]):extVC μ (RowX h0 r ty rest d rs s) ⟨rs,0,none⟩ 1 K:=oIn _ rfl (bJ (RowX.at hne)) h
theorem wrX{v:Int}{K:Mem→Prop}(hne:rs≠r)(h:K (RowX h0 r ty rest d rs v)):stoVC (RowX h0 r ty rest d rs s) ⟨rs,0,none⟩ [.int .u64 v] K:=by
 refine sIn [.int .u64 s] 267 (RowX.at hne) rfl (Nat.le_refl _) ?_
 have e:Mem.set (RowX h0 r ty rest d rs s) rs (.cells #[.int .u64 v] 267 (0,0))=RowX h0 r ty rest d rs v:=by
  rw[RowX,aR,Mem.set_comm (fun e=>hne e.symm),Mem.set_set]
  rfl
 show K (Mem.set (RowX h0 r ty rest d rs s) rs (.cells #[.int .u64 v] 267 (0,0)))
 rw[e];exact h
theorem RowX.parts(hne:rs≠r)(hs:h0 rs=none):Parts (RowX h0 r ty rest d rs s) (Mem.nil.set rs (.cells #[.int .u64 s] 267 (0,0))) (aR h0 r ty rest d):=fun b=>by
 by_cases h:b=rs
 ·subst h
  exact .inl ⟨by rw[RowX.at hne,Mem.set_at],by rw[aR,Mem.set_ne hne];exact hs⟩
 ·refine .inr ⟨?_, by rw [Mem.set_ne h]; rfl⟩
  rw[RowX,aR,aR]
  by_cases h2:b=r
  ·subst h2;rw[Mem.set_at,Mem.set_at]
  ·rw[Mem.set_ne h2,Mem.set_ne h2,Mem.set_ne h]
theorem yB(hne:rs≠r):SpecH Tryz.prog 283 [.pointer (some ⟨rs,0,none⟩)] μ (RowX h0 r ty rest d rs s) fun v μ' h'=>∃s',v= .int .u64 s'∧μ'=μ∧h'=RowX h0 r ty rest d rs s':=by
 refine SpecH.mk [] Tryz.func283 (by kernel_rfl) ?_
 refine rdX hne ?_
 refine rdX hne ?_
 refine aC (by decide) ?_
 refine aO fun _ _=>?_
 refine aO fun _ _=>?_
 refine wrX hne ?_
 refine rdX hne ?_
 refine rdX hne ?_
 refine aC (by decide) ?_
 refine aO fun _ _=>?_
 refine aO fun _ _=>?_
 refine wrX hne ?_
 refine rdX hne ?_
 refine rdX hne ?_
 refine aC (by decide) ?_
 refine aO fun _ _=>?_
 refine aO fun _ _=>?_
 refine wrX hne ?_
 refine rdX hne ?_
 exact rPl ⟨_,rfl,rfl,rfl⟩
theorem jQ{n a b cap:Nat}(hr:h0 r=none)(hd:d.size=n)(ha:a+8≤b)(hb:b≤n)(hn:n≤1000000000000):
  SpecH Tryz.prog 272 [.slice (some ⟨r,0,none⟩) n cap,.int .i64 a,.int .i64 b] μ (aR h0 r ty rest d) fun v _μ' h'=>v= .tuple #[]∧∃d',PermIn a b d d'∧h'=aR h0 r ty rest d':=by
 refine SpecH.mk [7] Tryz.func272 (by kernel_rfl) ?_
 refine nEq (x:=((b-a:Nat):Int)) (by rw[aA (by omega) (by omega)];omega) ?_
 refine ifd (fun h8=>?_) (fun h8=>by omega)
 refine aO fun s0 _=>?_
 intro rs hm ho
 have hne:rs≠r:=fun e=>by
  subst e
  have:aR h0 rs ty rest d rs=none:=ho
  rw[aR,Mem.set_at]at this;cases this
 have hs0:h0 rs=none:=by
  have:aR h0 r ty rest d rs=none:=ho
  rwa [aR,Mem.set_ne hne]at this
 have e0:Mem.set (aR h0 r ty rest d) rs (.cells #[.int .u64 0] 267 (0,0))=RowX h0 r ty rest d rs 0:=by
  rw[RowX,aR,aR,Mem.set_comm (fun e=>hne e.symm)]
 generalize hH:Mem.set (aR h0 r ty rest d) rs _=H
 obtain rfl:H=RowX h0 r ty rest d rs 0:=hH.symm.trans e0
 clear e0 hH ho hm
 refine wrX hne ?_
 refine cGv (iZ (x:=b-a) (by omega)) ?_
 have hP1:1≤2 ^ bitsLen (b-a):=Nat.two_pow_pos _
 have hP2:2 ^ bitsLen (b-a)≤2*(b-a):=two_pow_bitsLen_le (by omega)
 generalize 2 ^ bitsLen (b-a)=P at*
 refine aC (by decide) ?_
 refine nEq (x:=(((b-a) / 4:Nat):Int)) (by rw[Int.tdiv_eq_ediv_of_nonneg (by omega),aA (by omega) (by omega)];omega) ?_
 refine nEq (x:=(((b-a) / 4*2:Nat):Int)) (by rw[aA (by omega) (by omega)];omega) ?_
 refine nEq (x:=((a+(b-a) / 4*2:Nat):Int)) (by rw[aA (by omega) (by omega)];omega) ?_
 refine nEq (x:=((a+(b-a) / 4*2-1:Nat):Int)) (by rw[aA (by omega) (by omega)];omega) ?_
 refine lIn (fun p:Nat×Array Int×Int=>a+(b-a) / 4*2≤p.1+1∧p.1≤a+(b-a) / 4*2+2∧PermIn a b d p.2.1)
  (fun(i,d,s)=>⟨[(0,.val (.slice (some ⟨r,0,none⟩) n cap)),(1,.val (.int .i64 a)),(6,.val (.int .i64 (b-a:Nat))),(7,.val (.pointer (some ⟨rs,0,none⟩))),(8,.val (.int .u64 P)),(9,.val (.int .i64 i))],[],0,μ,RowX h0 r ty rest d rs s⟩) (fun p=>a+(b-a) / 4*2+3-p.1)
  (a+(b-a) / 4*2-1,d,s0) ⟨by dsimp only;omega,by dsimp only;omega,permIn_refl _ _ _⟩ (fun(_,_,_)=>⟨rfl,rfl⟩) ⟨⟨rfl,rfl,rfl,rfl,rfl,rfl,trivial⟩,trivial,rfl,rfl⟩ ?_
 rintro⟨i,d1,s1⟩ ⟨hi1,hi2,hp⟩
 dsimp only at hi1 hi2 hp
 have hs1:d1.size=n:=hp.1.trans hd
 refine aC (by decide) ?_
 refine nEq (x:=(((b-a) / 4:Nat):Int)) (by rw[Int.tdiv_eq_ediv_of_nonneg (by omega),aA (by omega) (by omega)];omega) ?_
 refine nEq (x:=(((b-a) / 4*2:Nat):Int)) (by rw[aA (by omega) (by omega)];omega) ?_
 refine nEq (x:=((a+(b-a) / 4*2:Nat):Int)) (by rw[aA (by omega) (by omega)];omega) ?_
 refine nEq (x:=((a+(b-a) / 4*2+1:Nat):Int)) (by rw[aA (by omega) (by omega)];omega) ?_
 refine ifd (fun hle=>?_) (fun hle=>?_)
 rotate_left
 ·exact cG _ _ (RowX.parts hne hs0) ⟨rfl,d1,hp,rfl⟩
 refine cOw (yB hne) fun v μ' h' hle' hap hR=>?_
 obtain⟨s2,rfl,e1,rfl⟩:=hR
 obtain rfl:=e1.symm
 refine nEq (x:=((P-1:Nat):Int)) (by
  show((P:Int)-1) % 18446744073709551616=_
  omega) ?_
 refine aO fun y hy=>?_
 have w_:=qJb (x:=s2) (m:=((P-1:Nat):Int)) (by omega) (by omega)
 obtain⟨hy1,hy2⟩:=w_
 rw[←hy]at hy1 hy2
 have w_:=Int.eq_ofNat_of_zero_le hy1
 obtain⟨o,rfl⟩:=w_
 clear hy
 refine nEq (x:=(o:Int)) (aA (by omega) (by omega)) ?_
 refine ifd (fun ho=>?_) (fun ho=>?_)
 ·refine nEq (x := ((o - (b - a) : Nat) : Int)) (by rw [aA (by omega) (by omega)]; omega) ?_
  have ho2:o-(b-a)<b-a:=by omega
  generalize o-(b-a)=q at*
  refine nEq (x:=((a+q:Nat):Int)) (by rw[aA (by omega) (by omega)];omega) ?_
  refine nEq (x:=((a+q:Nat):Int)) (by rw[aA (by omega) (by omega)];omega) ?_
  refine aK (a+q) (by omega) (by omega) ?_
  refine rdI (by omega) ?_
  refine aK (i) (by omega) (by omega) ?_
  refine rdI (by omega) ?_
  refine aK (i) (by omega) (by omega) ?_
  refine wrI (by omega) ?_
  refine aK (a+q) (by omega) (by omega) ?_
  refine wrI (by simp;omega) ?_
  refine nEq (x:=((i+1:Nat):Int)) (by rw[aA (by omega) (by omega)];omega) ?_
  exact⟨(i+1,swp d1 i (a+q),s2),⟨by dsimp only;omega,by dsimp only;omega,permIn_trans _ _ _ _ _ hp (swp_permIn d1 a b i (a+q) (by omega) (by omega) (by omega) (by omega) (by omega))⟩,by dsimp only;omega,⟨⟨rfl,rfl,rfl,rfl,rfl,rfl,trivial⟩,trivial,rfl,rfl⟩⟩
 ·refine nEq (x := ((a + o : Nat) : Int)) (by rw [aA (by omega) (by omega)]; omega) ?_
  refine nEq (x:=((a+o:Nat):Int)) (by rw[aA (by omega) (by omega)];omega) ?_
  refine aK (a+o) (by omega) (by omega) ?_
  refine rdI (by omega) ?_
  refine aK (i) (by omega) (by omega) ?_
  refine rdI (by omega) ?_
  refine aK (i) (by omega) (by omega) ?_
  refine wrI (by omega) ?_
  refine aK (a+o) (by omega) (by omega) ?_
  refine wrI (by simp;omega) ?_
  refine nEq (x:=((i+1:Nat):Int)) (by rw[aA (by omega) (by omega)];omega) ?_
  exact⟨(i+1,swp d1 i (a+o),s2),⟨by dsimp only;omega,by dsimp only;omega,permIn_trans _ _ _ _ _ hp (swp_permIn d1 a b i (a+o) (by omega) (by omega) (by omega) (by omega) (by omega))⟩,by dsimp only;omega,⟨⟨rfl,rfl,rfl,rfl,rfl,rfl,trivial⟩,trivial,rfl,rfl⟩⟩
end
end Go.Vx
namespace Go.Vx
open Go.Proofs Classical
open Go.Sort
section
variable {μ h0:Mem} {r:Nat} {ty:TypeId} {rest:List Value} {d:Array Int}
theorem aV{n a b pivot:Nat}{cap:Nat}(hd:d.size=n)(hap:a≤pivot)(hpb:pivot<b)(hb:b≤n)(hn:n≤1000000000000):
  SpecH Tryz.prog 277 [.slice (some ⟨r,0,none⟩) n cap,.int .i64 a,.int .i64 b,.int .i64 pivot] μ (aR h0 r ty rest d) fun v μ' h'=>v= .int .i64 (partitionEqual ltInt d a b pivot).1∧μ'=μ∧h'=aR h0 r ty rest (partitionEqual ltInt d a b pivot).2:=by
 refine SpecH.mk [] Tryz.func277 (by kernel_rfl) ?_
 rw[partitionEqual]
 generalize hR:partEqLoop ltInt a (a+1) (b-1) (swp d a pivot)=R
 refine aK (pivot) (by omega) (by omega) ?_
 refine rdI (by omega) ?_
 refine aK (a) (by omega) (by omega) ?_
 refine rdI (by omega) ?_
 refine aK (a) (by omega) (by omega) ?_
 refine wrI (by omega) ?_
 refine aK (pivot) (by omega) (by omega) ?_
 refine wrI (by simp;omega) ?_
 refine nEq (x:=((a+1:Nat):Int)) (by rw[aA (by omega) (by omega)];omega) ?_
 refine nEq (x:=((b-1:Nat):Int)) (by rw[aA (by omega) (by omega)];omega) ?_
 refine lIn (fun p:Nat×Nat×Array Int=>a<p.1∧p.1≤p.2.1+2∧p.2.1<b∧p.2.2.size=n∧partEqLoop ltInt a p.1 p.2.1 p.2.2=R)
  (fun(i,j,d)=>⟨[(0,.val (.slice (some ⟨r,0,none⟩) n cap)),(1,.val (.int .i64 a)),(9,.val (.int .i64 i)),(10,.val (.int .i64 j))],[],0,μ,aR h0 r ty rest d⟩) (fun p=>p.2.1+1-p.1)
  (a+1,b-1,swp d a pivot) ⟨by dsimp only;omega,by dsimp only;omega,by dsimp only;omega,by dsimp only;rw[Go.Sort.swp_size];exact hd,hR⟩ (fun(_,_,_)=>⟨rfl,rfl⟩) ⟨⟨rfl,rfl,rfl,rfl,trivial⟩,trivial,rfl,rfl⟩ ?_
 clear hR
 rintro⟨i,j,d1⟩ ⟨hai,hij0,hjb,hs,hR⟩
 dsimp only at hai hij0 hjb hs hR
 rw[partEqLoop_eq]at hR
 generalize hU:scanUp (fun x=> !ltInt d1[a]! x) d1 j i=U at*
 refine lIn (fun i':Nat=>i≤i'∧i'≤j+2∧scanUp (fun x=> !ltInt d1[a]! x) d1 j i'=U) (fun i'=>⟨[(0,.val (.slice (some ⟨r,0,none⟩) n cap)),(1,.val (.int .i64 a)),(9,.val (.int .i64 i')),(10,.val (.int .i64 j))],[],0,μ,aR h0 r ty rest d1⟩) (fun i'=>j+1-i')
  i ⟨by omega,by omega,hU⟩ (fun _=>⟨rfl,rfl⟩) ⟨⟨rfl,rfl,rfl,rfl,trivial⟩,trivial,rfl,rfl⟩ ?_
 clear hU
 rintro i' ⟨h1,h2,hU⟩
 rw[scanUp]at hU
 refine ifd (fun hij=>?_) (fun hij=>?_)
 refine aK (a) (by omega) (by omega) ?_
 refine rdI (by omega) ?_
 refine aK (i') (by omega) (by omega) ?_
 refine rdI (by omega) ?_
 refine cGv (aQ _ _) ?_
 refine iIn (fun hl=>?_) (fun hl=>?_)
 ·rw [if_pos (by simp only [Bool.and_eq_true, decide_eq_true_eq]; exact ⟨by omega, hl⟩)] at hU
  refine nEq (x:=((i'+1:Nat):Int)) (by rw[aA (by omega) (by omega)];omega) ?_
  exact⟨i'+1,⟨by omega,by omega,hU⟩,by omega,⟨⟨rfl,rfl,rfl,rfl,trivial⟩,trivial,rfl,rfl⟩⟩
 rw[if_neg (by simp only[Bool.and_eq_true,hl];simp)]at hU
 rotate_left
 rw[if_neg (by simp;omega)]at hU
 obtain rfl:=hU
 rotate_left
 obtain rfl:=hU
 rotate_left
 all_goals
  generalize hV:scanDown (fun x=>ltInt d1[a]! x) d1 i' j=V at*
  refine lIn (fun j':Nat=>j'≤j∧0≤j'∧scanDown (fun x=>ltInt d1[a]! x) d1 i' j'=V) (fun j'=>⟨[(0,.val (.slice (some ⟨r,0,none⟩) n cap)),(1,.val (.int .i64 a)),(9,.val (.int .i64 i')),(10,.val (.int .i64 j'))],[],0,μ,aR h0 r ty rest d1⟩) (fun j'=>j')
   j ⟨by omega,by omega,hV⟩ (fun _=>⟨rfl,rfl⟩) ⟨⟨rfl,rfl,rfl,rfl,trivial⟩,trivial,rfl,rfl⟩ ?_
  clear hV
  rintro j' ⟨g1,g2,hV⟩
  refine ifd (fun hij2=>?_) (fun hij2=>?_)
  obtain⟨k,rfl⟩:∃k,j'=k+1:=⟨j'-1,by omega⟩
  rw[scanDown]at hV
  refine aK (a) (by omega) (by omega) ?_
  refine rdI (by omega) ?_
  refine aK (k+1) (by omega) (by omega) ?_
  refine rdI (by omega) ?_
  refine cGv (aQ _ _) ?_
  refine iIn (fun hl=>?_) (fun hl=>?_)
  ·rw [if_pos (by simp only [Bool.and_eq_true, decide_eq_true_eq]; exact ⟨by omega, hl⟩)] at hV
   refine nEq (x:=((k:Nat):Int)) (by rw[aA (by omega) (by omega)];omega) ?_
   exact⟨k,⟨by omega,by omega,hV⟩,by omega,⟨⟨rfl,rfl,rfl,rfl,trivial⟩,trivial,rfl,rfl⟩⟩
  rw[if_neg (by simp only[Bool.and_eq_true,hl];simp)]at hV
  obtain rfl:=hV
  generalize k+1=j' at*
  rotate_left
  replace hV:j'=V:=by
   cases j' with
   |zero=>exact hV
   |succ k=>rwa [scanDown,if_neg (by simp;omega)]at hV
  obtain rfl:=hV
  rotate_left
 all_goals
  refine ifd (fun hgt=>?_) (fun hgt=>?_)
  ·rw [if_pos (by omega)] at hR
   subst hR
   exact rPl ⟨rfl,rfl,rfl⟩
  ·rw [if_neg (by omega)] at hR
   refine aK (j') (by omega) (by omega) ?_
   refine rdI (by omega) ?_
   refine aK (i') (by omega) (by omega) ?_
   refine rdI (by omega) ?_
   refine aK (i') (by omega) (by omega) ?_
   refine wrI (by omega) ?_
   refine aK (j') (by omega) (by omega) ?_
   refine wrI (by simp;omega) ?_
   refine nEq (x:=((i'+1:Nat):Int)) (by rw[aA (by omega) (by omega)];omega) ?_
   refine nEq (x:=((j'-1:Nat):Int)) (by rw[aA (by omega) (by omega)];omega) ?_
   exact⟨(i'+1,j'-1,swp d1 i' j'),⟨by dsimp only;omega,by dsimp only;omega,by dsimp only;omega,by dsimp only;rw[Go.Sort.swp_size];exact hs,hR⟩,by dsimp only;omega,⟨⟨rfl,rfl,rfl,rfl,trivial⟩,trivial,rfl,rfl⟩⟩
set_option maxHeartbeats 4000000 in
theorem aP{n a b pivot:Nat}{cap:Nat}(hd:d.size=n)(hap:a≤pivot)(hpb:pivot<b)(hb:b≤n)(hn:n≤1000000000000):
  SpecH Tryz.prog 278 [.slice (some ⟨r,0,none⟩) n cap,.int .i64 a,.int .i64 b,.int .i64 pivot] μ (aR h0 r ty rest d) fun v μ' h'=>(∃ap,v= .tuple #[.int .i64 (partition ltInt d a b pivot).1,.bool ap])∧μ'=μ∧h'=aR h0 r ty rest (partition ltInt d a b pivot).2.2:=by
 refine SpecH.mk [] Tryz.func278 (by kernel_rfl) ?_
 rw[partition_fst,partition_arr]
 have hsz:∀m i j (d:Array Int),j+1-i≤m→(partLoop ltInt a i j d).2.size=d.size:=fun m=>by
  induction m with
  |zero=>
   intro i j d h
   rw[partLoop_eq]
   have h1:=scanUp_ge (fun x=>ltInt x d[a]!) d j i
   have h2:=scanDown_le (fun x=> !ltInt x d[a]!) d (scanUp (fun x=>ltInt x d[a]!) d j i) j
   rw[if_pos (by omega)]
  |succ m ih=>
   intro i j d h
   rw[partLoop_eq]
   split
   ·rfl
   ·rename_i hg
    have:=partLoop_guard ltInt a i j d hg
    rw[ih _ _ _ (by omega),Go.Sort.swp_size]
 have hRs:=hsz _ (a+1) (b-1) (swp d a pivot) (Nat.le_refl _)
 rw[Go.Sort.swp_size]at hRs
 generalize hR:partLoop ltInt a (a+1) (b-1) (swp d a pivot)=R at*
 refine aK (pivot) (by omega) (by omega) ?_
 refine rdI (by omega) ?_
 refine aK (a) (by omega) (by omega) ?_
 refine rdI (by omega) ?_
 refine aK (a) (by omega) (by omega) ?_
 refine wrI (by omega) ?_
 refine aK (pivot) (by omega) (by omega) ?_
 refine wrI (by simp;omega) ?_
 refine nEq (x:=((a+1:Nat):Int)) (by rw[aA (by omega) (by omega)];omega) ?_
 refine nEq (x:=((b-1:Nat):Int)) (by rw[aA (by omega) (by omega)];omega) ?_
 have hs:(swp d a pivot).size=n:=by rw[Go.Sort.swp_size];exact hd
 have hsw:swp d a pivot=(d.setIfInBounds a d[pivot]!).setIfInBounds pivot d[a]!:=rfl
 rw[hsw]at hR hs
 generalize (d.setIfInBounds a d[pivot]!).setIfInBounds pivot d[a]! =d1 at*
 clear hsw hsz
 obtain⟨i,hi⟩:∃i,i=a+1:=⟨_,rfl⟩
 obtain⟨j,hj⟩:∃j,j=b-1:=⟨_,rfl⟩
 have hai:a<i:=by omega
 have hij0:i≤j+2:=by omega
 have hjb:j<b:=by omega
 rw[←hi,←hj]at hR ⊢
 clear hi hj
 rw[partLoop_eq]at hR
 generalize hU:scanUp (fun x=>ltInt x d1[a]!) d1 j i=U at*
 refine lIn (fun i':Nat=>i≤i'∧i'≤j+2∧scanUp (fun x=>ltInt x d1[a]!) d1 j i'=U) (fun i'=>⟨[(0,.val (.slice (some ⟨r,0,none⟩) n cap)),(1,.val (.int .i64 a)),(10,.val (.int .i64 i')),(11,.val (.int .i64 j))],[],0,μ,aR h0 r ty rest d1⟩) (fun i'=>j+1-i')
  i ⟨by omega,by omega,hU⟩ (fun _=>⟨rfl,rfl⟩) ⟨⟨rfl,rfl,rfl,rfl,trivial⟩,trivial,rfl,rfl⟩ ?_
 clear hU
 rintro i' ⟨h1,h2,hU⟩
 rw[scanUp]at hU
 refine ifd (fun hij=>?_) (fun hij=>?_)
 refine aK (i') (by omega) (by omega) ?_
 refine rdI (by omega) ?_
 refine aK (a) (by omega) (by omega) ?_
 refine rdI (by omega) ?_
 refine cGv (aQ _ _) ?_
 refine iIn (fun hl=>?_) (fun hl=>?_)
 ·rw [if_pos (by simp only [Bool.and_eq_true, decide_eq_true_eq]; exact ⟨by omega, hl⟩)] at hU
  refine nEq (x:=((i'+1:Nat):Int)) (by rw[aA (by omega) (by omega)];omega) ?_
  exact⟨i'+1,⟨by omega,by omega,hU⟩,by omega,⟨⟨rfl,rfl,rfl,rfl,trivial⟩,trivial,rfl,rfl⟩⟩
 rw[if_neg (by simp only[Bool.and_eq_true,hl];simp)]at hU
 rotate_left
 rw[if_neg (by simp;omega)]at hU
 obtain rfl:=hU
 rotate_left
 obtain rfl:=hU
 rotate_left
 all_goals
  generalize hV:scanDown (fun x=> !ltInt x d1[a]!) d1 i' j=V at*
  refine lIn (fun j':Nat=>j'≤j∧0≤j'∧scanDown (fun x=> !ltInt x d1[a]!) d1 i' j'=V) (fun j'=>⟨[(0,.val (.slice (some ⟨r,0,none⟩) n cap)),(1,.val (.int .i64 a)),(10,.val (.int .i64 i')),(11,.val (.int .i64 j'))],[],0,μ,aR h0 r ty rest d1⟩) (fun j'=>j')
   j ⟨by omega,by omega,hV⟩ (fun _=>⟨rfl,rfl⟩) ⟨⟨rfl,rfl,rfl,rfl,trivial⟩,trivial,rfl,rfl⟩ ?_
  clear hV
  rintro j' ⟨g1,g2,hV⟩
  refine ifd (fun hij2=>?_) (fun hij2=>?_)
  obtain⟨k,rfl⟩:∃k,j'=k+1:=⟨j'-1,by omega⟩
  rw[scanDown]at hV
  refine aK (k+1) (by omega) (by omega) ?_
  refine rdI (by omega) ?_
  refine aK (a) (by omega) (by omega) ?_
  refine rdI (by omega) ?_
  refine cGv (aQ _ _) ?_
  refine iIn (fun hl=>?_) (fun hl=>?_)
  ·rw [if_pos (by simp only [Bool.and_eq_true, decide_eq_true_eq]; exact ⟨by omega, hl⟩)] at hV
   refine nEq (x:=((k:Nat):Int)) (by rw[aA (by omega) (by omega)];omega) ?_
   exact⟨k,⟨by omega,by omega,hV⟩,by omega,⟨⟨rfl,rfl,rfl,rfl,trivial⟩,trivial,rfl,rfl⟩⟩
  rw[if_neg (by simp only[Bool.and_eq_true,hl];simp)]at hV
  obtain rfl:=hV
  generalize k+1=j' at*
  rotate_left
  replace hV:j'=V:=by
   cases j' with
   |zero=>exact hV
   |succ k=>rwa [scanDown,if_neg (by simp;omega)]at hV
  obtain rfl:=hV
  rotate_left
 all_goals
  refine ifd (fun hgt=>?_) (fun hgt=>?_)
  ·rw [if_pos (by omega)] at hR
   subst hR
   refine aK (a) (by omega) (by omega) ?_
   refine rdI (by omega) ?_
   refine aK (j') (by omega) (by omega) ?_
   refine rdI (by omega) ?_
   refine aK (j') (by omega) (by omega) ?_
   refine wrI (by omega) ?_
   refine aK (a) (by omega) (by omega) ?_
   refine wrI (by simp;omega) ?_
   exact rPl ⟨⟨_,rfl⟩,rfl,rfl⟩
  ·rw [if_neg (by omega)] at hR
   refine aK (j') (by omega) (by omega) ?_
   refine rdI (by omega) ?_
   refine aK (i') (by omega) (by omega) ?_
   refine rdI (by omega) ?_
   refine aK (i') (by omega) (by omega) ?_
   refine wrI (by omega) ?_
   refine aK (j') (by omega) (by omega) ?_
   refine wrI (by simp;omega) ?_
   refine nEq (x:=((i'+1:Nat):Int)) (by rw[aA (by omega) (by omega)];omega) ?_
   refine nEq (x:=((j'-1:Nat):Int)) (by rw[aA (by omega) (by omega)];omega) ?_
   refine lIn (fun p:Nat×Nat×Array Int=>a<p.1∧p.1≤p.2.1+2∧p.2.1<b∧p.2.2.size=n∧partLoop ltInt a p.1 p.2.1 p.2.2=R)
    (fun(i,j,d)=>⟨[(0,.val (.slice (some ⟨r,0,none⟩) n cap)),(1,.val (.int .i64 a)),(10,.val (.int .i64 i)),(11,.val (.int .i64 j))],[],0,μ,aR h0 r ty rest d⟩) (fun p=>p.2.1+1-p.1)
    (i'+1,j'-1,swp d1 i' j') ⟨by dsimp only;omega,by dsimp only;omega,by dsimp only;omega,by dsimp only;rw[Go.Sort.swp_size];exact hs,hR⟩ (fun(_,_,_)=>⟨rfl,rfl⟩) ⟨⟨rfl,rfl,rfl,rfl,trivial⟩,trivial,rfl,rfl⟩ ?_
   clear hR hgt hs hai hij0 hjb h1 h2 g1 g2
   rintro⟨i,j,d1⟩ ⟨hai,hij0,hjb,hs,hR⟩
   dsimp only at hai hij0 hjb hs hR
   rw[partLoop_eq]at hR
   generalize hU:scanUp (fun x=>ltInt x d1[a]!) d1 j i=U at*
   refine lIn (fun i':Nat=>i≤i'∧i'≤j+2∧scanUp (fun x=>ltInt x d1[a]!) d1 j i'=U) (fun i'=>⟨[(0,.val (.slice (some ⟨r,0,none⟩) n cap)),(1,.val (.int .i64 a)),(10,.val (.int .i64 i')),(11,.val (.int .i64 j))],[],0,μ,aR h0 r ty rest d1⟩) (fun i'=>j+1-i')
    i ⟨by omega,by omega,hU⟩ (fun _=>⟨rfl,rfl⟩) ⟨⟨rfl,rfl,rfl,rfl,trivial⟩,trivial,rfl,rfl⟩ ?_
   clear hU
   rintro i' ⟨h1,h2,hU⟩
   rw[scanUp]at hU
   refine ifd (fun hij=>?_) (fun hij=>?_)
   refine aK (i') (by omega) (by omega) ?_
   refine rdI (by omega) ?_
   refine aK (a) (by omega) (by omega) ?_
   refine rdI (by omega) ?_
   refine cGv (aQ _ _) ?_
   refine iIn (fun hl=>?_) (fun hl=>?_)
   ·rw [if_pos (by simp only [Bool.and_eq_true, decide_eq_true_eq]; exact ⟨by omega, hl⟩)] at hU
    refine nEq (x:=((i'+1:Nat):Int)) (by rw[aA (by omega) (by omega)];omega) ?_
    exact⟨i'+1,⟨by omega,by omega,hU⟩,by omega,⟨⟨rfl,rfl,rfl,rfl,trivial⟩,trivial,rfl,rfl⟩⟩
   rw[if_neg (by simp only[Bool.and_eq_true,hl];simp)]at hU
   rotate_left
   rw[if_neg (by simp;omega)]at hU
   obtain rfl:=hU
   rotate_left
   obtain rfl:=hU
   rotate_left
   all_goals
    generalize hV:scanDown (fun x=> !ltInt x d1[a]!) d1 i' j=V at*
    refine lIn (fun j':Nat=>j'≤j∧0≤j'∧scanDown (fun x=> !ltInt x d1[a]!) d1 i' j'=V) (fun j'=>⟨[(0,.val (.slice (some ⟨r,0,none⟩) n cap)),(1,.val (.int .i64 a)),(10,.val (.int .i64 i')),(11,.val (.int .i64 j'))],[],0,μ,aR h0 r ty rest d1⟩) (fun j'=>j')
     j ⟨by omega,by omega,hV⟩ (fun _=>⟨rfl,rfl⟩) ⟨⟨rfl,rfl,rfl,rfl,trivial⟩,trivial,rfl,rfl⟩ ?_
    clear hV
    rintro j' ⟨g1,g2,hV⟩
    refine ifd (fun hij2=>?_) (fun hij2=>?_)
    obtain⟨k,rfl⟩:∃k,j'=k+1:=⟨j'-1,by omega⟩
    rw[scanDown]at hV
    refine aK (k+1) (by omega) (by omega) ?_
    refine rdI (by omega) ?_
    refine aK (a) (by omega) (by omega) ?_
    refine rdI (by omega) ?_
    refine cGv (aQ _ _) ?_
    refine iIn (fun hl=>?_) (fun hl=>?_)
    ·rw [if_pos (by simp only [Bool.and_eq_true, decide_eq_true_eq]; exact ⟨by omega, hl⟩)] at hV
     refine nEq (x:=((k:Nat):Int)) (by rw[aA (by omega) (by omega)];omega) ?_
     exact⟨k,⟨by omega,by omega,hV⟩,by omega,⟨⟨rfl,rfl,rfl,rfl,trivial⟩,trivial,rfl,rfl⟩⟩
    rw[if_neg (by simp only[Bool.and_eq_true,hl];simp)]at hV
    obtain rfl:=hV
    generalize k+1=j' at*
    rotate_left
    replace hV:j'=V:=by
     cases j' with
     |zero=>exact hV
     |succ k=>rwa [scanDown,if_neg (by simp;omega)]at hV
    obtain rfl:=hV
    rotate_left
   all_goals
    refine ifd (fun hgt=>?_) (fun hgt=>?_)
    ·rw [if_pos (by omega)] at hR
     subst hR
     refine aK (a) (by omega) (by omega) ?_
     refine rdI (by omega) ?_
     refine aK (j') (by omega) (by omega) ?_
     refine rdI (by omega) ?_
     refine aK (j') (by omega) (by omega) ?_
     refine wrI (by omega) ?_
     refine aK (a) (by omega) (by omega) ?_
     refine wrI (by simp;omega) ?_
     exact rPl ⟨⟨_,rfl⟩,rfl,rfl⟩
    ·rw [if_neg (by omega)] at hR
     refine aK (j') (by omega) (by omega) ?_
     refine rdI (by omega) ?_
     refine aK (i') (by omega) (by omega) ?_
     refine rdI (by omega) ?_
     refine aK (i') (by omega) (by omega) ?_
     refine wrI (by omega) ?_
     refine aK (j') (by omega) (by omega) ?_
     refine wrI (by simp;omega) ?_
     refine nEq (x:=((i'+1:Nat):Int)) (by rw[aA (by omega) (by omega)];omega) ?_
     refine nEq (x:=((j'-1:Nat):Int)) (by rw[aA (by omega) (by omega)];omega) ?_
     exact⟨(i'+1,j'-1,swp d1 i' j'),⟨by dsimp only;omega,by dsimp only;omega,by dsimp only;omega,by dsimp only;rw[Go.Sort.swp_size];exact hs,hR⟩,by dsimp only;omega,⟨⟨rfl,rfl,rfl,rfl,trivial⟩,trivial,rfl,rfl⟩⟩
end
end Go.Vx
namespace Go.Vx
open Go.Proofs Classical
open Go.Sort
section
variable {μ h0:Mem} {r:Nat} {ty:TypeId} {rest:List Value} {d:Array Int}
set_option maxHeartbeats 8000000 in
theorem cP{n a b:Nat}{cap:Nat}(hd:d.size=n)(ha:a<b)(hb:b≤n)(hn:n≤1000000000000):
  SpecH Tryz.prog 275 [.slice (some ⟨r,0,none⟩) n cap,.int .i64 a,.int .i64 b] μ (aR h0 r ty rest d) fun v μ' h'=>v= .bool (partialInsertionSort ltInt d a b).2∧μ'=μ∧h'=aR h0 r ty rest (partialInsertionSort ltInt d a b).1:=by
 refine SpecH.mk [] Tryz.func275 (by kernel_rfl) ?_
 rw[partialInsertionSort]
 generalize hR:partialIns ltInt a b 5 (a+1) d=R
 refine nEq (x:=((a+1:Nat):Int)) (by rw[aA (by omega) (by omega)];omega) ?_
 refine lIn (fun p:Nat×Nat×Array Int=>p.1≤5∧a<p.2.1∧p.2.1≤b∧p.2.2.size=n∧partialIns ltInt a b p.1 p.2.1 p.2.2=R)
  (fun(t,i,d)=>⟨[(0,.val (.slice (some ⟨r,0,none⟩) n cap)),(1,.val (.int .i64 a)),(2,.val (.int .i64 b)),(7,.val (.int .i64 i)),(8,.val (.int .i64 (5-(t:Int))))],[],0,μ,aR h0 r ty rest d⟩) (fun p=>p.1)
  (5,a+1,d) ⟨by dsimp only;omega,by dsimp only;omega,by dsimp only;omega,hd,hR⟩ (fun(_,_,_)=>⟨rfl,rfl⟩) ⟨⟨rfl,rfl,rfl,rfl,rfl,trivial⟩,trivial,rfl,rfl⟩ ?_
 clear hR
 rintro⟨t,i,d1⟩ ⟨ht,hai,hib,hs,hR⟩
 dsimp only at ht hai hib hs hR
 refine ifd (fun h5=>?_) (fun h5=>?_)
 rotate_left
 ·obtain rfl : t = 0 := by omega
  rw[partialIns]at hR
  subst hR
  exact rPl ⟨rfl,rfl,rfl⟩
 obtain⟨t,rfl⟩:∃k,t=k+1:=⟨t-1,by omega⟩
 rw[partialIns_succ]at hR
 generalize hS:scanSorted ltInt d1 b i=S at*
 refine lIn (fun i':Nat=>i≤i'∧i'≤b∧scanSorted ltInt d1 b i'=S) (fun i'=>⟨[(0,.val (.slice (some ⟨r,0,none⟩) n cap)),(1,.val (.int .i64 a)),(2,.val (.int .i64 b)),(7,.val (.int .i64 i')),(8,.val (.int .i64 (5-((t+1:Nat):Int))))],[],0,μ,aR h0 r ty rest d1⟩) (fun i'=>b-i')
  i ⟨by omega,by omega,hS⟩ (fun _=>⟨rfl,rfl⟩) ⟨⟨rfl,rfl,rfl,rfl,rfl,trivial⟩,trivial,rfl,rfl⟩ ?_
 clear hS
 rintro i' ⟨h1,h2,hS⟩
 rw[scanSorted]at hS
 refine ifd (fun hlt=>?_) (fun hlt=>?_)
 rotate_left
 ·rw [if_neg (by simp; omega)] at hS
  obtain rfl:=hS
  rw[if_pos (by omega)]at hR
  subst hR
  refine ifd (fun _=>?_) (fun h=>absurd (by omega) h)
  exact rPl ⟨rfl,rfl,rfl⟩
 refine aK (i') (by omega) (by omega) ?_
 refine rdI (by omega) ?_
 refine nEq (x:=((i'-1:Nat):Int)) (by rw[aA (by omega) (by omega)];omega) ?_
 refine aK (i'-1) (by omega) (by omega) ?_
 refine rdI (by omega) ?_
 refine cGv (aQ _ _) ?_
 refine iIn (fun hl=>?_) (fun hl=>?_)
 ·rw [if_pos (by simp only [Bool.and_eq_true, decide_eq_true_eq]; exact ⟨by omega, hl⟩)] at hS
  refine nEq (x:=((i'+1:Nat):Int)) (by rw[aA (by omega) (by omega)];omega) ?_
  exact⟨i'+1,⟨by omega,by omega,hS⟩,by omega,⟨⟨rfl,rfl,rfl,rfl,rfl,trivial⟩,trivial,rfl,rfl⟩⟩
 rw[if_neg (by simp only[Bool.and_eq_true,hl];simp)]at hS
 obtain rfl:=hS
 refine ifd (fun h=>absurd h (by omega)) (fun _=>?_)
 rw[if_neg (by omega)]at hR
 refine nEq (x:=((b-a:Nat):Int)) (by rw[aA (by omega) (by omega)];omega) ?_
 refine ifd (fun h50=>?_) (fun h50=>?_)
 ·rw [if_pos (by omega)] at hR
  subst hR
  exact rPl ⟨rfl,rfl,rfl⟩
 rw[if_neg (by omega)]at hR
 refine nEq (x:=((i'-1:Nat):Int)) (by rw[aA (by omega) (by omega)];omega) ?_
 refine nEq (x:=((i'-1:Nat):Int)) (by rw[aA (by omega) (by omega)];omega) ?_
 refine aK (i'-1) (by omega) (by omega) ?_
 refine rdI (by omega) ?_
 refine aK (i') (by omega) (by omega) ?_
 refine rdI (by omega) ?_
 refine aK (i') (by omega) (by omega) ?_
 refine wrI (by omega) ?_
 refine aK (i'-1) (by omega) (by omega) ?_
 refine wrI (by simp;omega) ?_
 have hsw:swp d1 i' (i'-1)=(d1.setIfInBounds i' d1[i'-1]!).setIfInBounds (i'-1) d1[i']!:=rfl
 have hs2:(swp d1 i' (i'-1)).size=n:=by rw[Go.Sort.swp_size];exact hs
 rw[hsw]at hR hs2
 generalize (d1.setIfInBounds i' d1[i'-1]!).setIfInBounds (i'-1) d1[i']! =d2 at*
 clear hsw
 refine nEq (x:=((i'-a:Nat):Int)) (by rw[aA (by omega) (by omega)];omega) ?_
 unfold fixDown at hR
 refine ifd (fun hd2=>?_) (fun hd2=>?_)
 ·rw [if_pos (by omega)] at hR
  refine nEq (x:=((i'-1:Nat):Int)) (by rw[aA (by omega) (by omega)];omega) ?_
  generalize hD:shiftDown ltInt (i'-1) d2=D2 at*
  refine lIn (fun p:Nat×Array Int=>p.1≤i'-1∧p.2.size=n∧shiftDown ltInt p.1 p.2=D2) (fun(j,d)=>⟨[(0,.val (.slice (some ⟨r,0,none⟩) n cap)),(1,.val (.int .i64 a)),(2,.val (.int .i64 b)),(7,.val (.int .i64 i')),(8,.val (.int .i64 (5-((t+1:Nat):Int)))),(9,.val (.int .i64 j))],[],0,μ,aR h0 r ty rest d⟩) (fun p=>p.1)
   (i'-1,d2) ⟨by dsimp only;omega,hs2,hD⟩ (fun(_,_)=>⟨rfl,rfl⟩) ⟨⟨rfl,rfl,rfl,rfl,rfl,rfl,trivial⟩,trivial,rfl,rfl⟩ ?_
  clear hD
  rintro⟨j,d3⟩ ⟨hj,hs3,hD⟩
  dsimp only at hj hs3 hD
  refine ifd (fun hj1=>?_) (fun hj1=>?_)
  ·obtain ⟨k, rfl⟩ : ∃ k, j = k + 1 := ⟨j - 1, by omega⟩
   rw[shiftDown]at hD
   refine aK (k+1) (by omega) (by omega) ?_
   refine rdI (by omega) ?_
   refine nEq (x:=((k:Nat):Int)) (by rw[aA (by omega) (by omega)];omega) ?_
   refine aK (k) (by omega) (by omega) ?_
   refine rdI (by omega) ?_
   refine cGv (aQ _ _) ?_
   refine iIn (fun hl2=>?_) (fun hl2=>?_)
   ·rw [if_pos hl2] at hD
    obtain rfl:=hD
    refine nEq (x:=((b-i':Nat):Int)) (by rw[aA (by omega) (by omega)];omega) ?_
    unfold fixUp at hR
    refine ifd (fun hu2=>?_) (fun hu2=>?_)
    ·rw [if_pos (by omega)] at hR
     refine nEq (x:=((i'+1:Nat):Int)) (by rw[aA (by omega) (by omega)];omega) ?_
     generalize hE:shiftUp ltInt b (i'+1) d3=D4 at*
     refine lIn (fun p:Nat×Array Int=>i'+1≤p.1∧p.1≤b+1∧p.2.size=n∧shiftUp ltInt b p.1 p.2=D4) (fun(j,d)=>⟨[(0,.val (.slice (some ⟨r,0,none⟩) n cap)),(1,.val (.int .i64 a)),(2,.val (.int .i64 b)),(7,.val (.int .i64 i')),(8,.val (.int .i64 (5-((t+1:Nat):Int)))),(10,.val (.int .i64 j))],[],0,μ,aR h0 r ty rest d⟩) (fun p=>b-p.1)
      (i'+1,d3) ⟨by dsimp only;omega,by dsimp only;omega,hs3,hE⟩ (fun(_,_)=>⟨rfl,rfl⟩) ⟨⟨rfl,rfl,rfl,rfl,rfl,rfl,trivial⟩,trivial,rfl,rfl⟩ ?_
     clear hE
     rintro⟨j2,d5⟩ ⟨hj2,hjb2,hs5,hE⟩
     dsimp only at hj2 hjb2 hs5 hE
     rw[shiftUp]at hE
     refine ifd (fun hj1=>?_) (fun hj1=>?_)
     ·rw [if_pos (by omega)] at hE
      refine aK (j2) (by omega) (by omega) ?_
      refine rdI (by omega) ?_
      refine nEq (x:=((j2-1:Nat):Int)) (by rw[aA (by omega) (by omega)];omega) ?_
      refine aK (j2-1) (by omega) (by omega) ?_
      refine rdI (by omega) ?_
      refine cGv (aQ _ _) ?_
      refine iIn (fun hl3=>?_) (fun hl3=>?_)
      ·rw [if_pos hl3] at hE
       obtain rfl:=hE
       refine nEq (x:=5-(t:Int)) (by rw[aA (by omega) (by omega)];omega) ?_
       exact⟨(t,i',d5),⟨by dsimp only;omega,by dsimp only;omega,by dsimp only;omega,hs5,hR⟩,by dsimp only;omega,⟨⟨rfl,rfl,rfl,rfl,rfl,trivial⟩,trivial,rfl,rfl⟩⟩
      ·rw [if_neg (by simp only [hl3]; simp)] at hE
       refine nEq (x:=((j2-1:Nat):Int)) (by rw[aA (by omega) (by omega)];omega) ?_
       refine nEq (x:=((j2-1:Nat):Int)) (by rw[aA (by omega) (by omega)];omega) ?_
       refine aK (j2-1) (by omega) (by omega) ?_
       refine rdI (by omega) ?_
       refine aK (j2) (by omega) (by omega) ?_
       refine rdI (by omega) ?_
       refine aK (j2) (by omega) (by omega) ?_
       refine wrI (by omega) ?_
       refine aK (j2-1) (by omega) (by omega) ?_
       refine wrI (by simp;omega) ?_
       refine nEq (x:=((j2+1:Nat):Int)) (by rw[aA (by omega) (by omega)];omega) ?_
       exact⟨(j2+1,swp d5 j2 (j2-1)),⟨by dsimp only;omega,by dsimp only;omega,by dsimp only;rw[Go.Sort.swp_size];exact hs5,hE⟩,by dsimp only;omega,⟨⟨rfl,rfl,rfl,rfl,rfl,rfl,trivial⟩,trivial,rfl,rfl⟩⟩
     ·rw [if_neg (by omega)] at hE
      obtain rfl:=hE
      refine nEq (x:=5-(t:Int)) (by rw[aA (by omega) (by omega)];omega) ?_
      exact⟨(t,i',d5),⟨by dsimp only;omega,by dsimp only;omega,by dsimp only;omega,hs5,hR⟩,by dsimp only;omega,⟨⟨rfl,rfl,rfl,rfl,rfl,trivial⟩,trivial,rfl,rfl⟩⟩
    ·rw [if_neg (by omega)] at hR
     refine nEq (x:=5-(t:Int)) (by rw[aA (by omega) (by omega)];omega) ?_
     exact⟨(t,i',d3),⟨by dsimp only;omega,by dsimp only;omega,by dsimp only;omega,hs3,hR⟩,by dsimp only;omega,⟨⟨rfl,rfl,rfl,rfl,rfl,trivial⟩,trivial,rfl,rfl⟩⟩
   ·rw [if_neg (by simp only [hl2]; simp)] at hD
    refine nEq (x:=((k:Nat):Int)) (by rw[aA (by omega) (by omega)];omega) ?_
    refine nEq (x:=((k:Nat):Int)) (by rw[aA (by omega) (by omega)];omega) ?_
    refine aK (k) (by omega) (by omega) ?_
    refine rdI (by omega) ?_
    refine aK (k+1) (by omega) (by omega) ?_
    refine rdI (by omega) ?_
    refine aK (k+1) (by omega) (by omega) ?_
    refine wrI (by omega) ?_
    refine aK (k) (by omega) (by omega) ?_
    refine wrI (by simp;omega) ?_
    refine nEq (x:=((k:Nat):Int)) (by rw[aA (by omega) (by omega)];omega) ?_
    exact⟨(k,swp d3 (k+1) k),⟨by dsimp only;omega,by dsimp only;rw[Go.Sort.swp_size];exact hs3,hD⟩,by dsimp only;omega,⟨⟨rfl,rfl,rfl,rfl,rfl,rfl,trivial⟩,trivial,rfl,rfl⟩⟩
  ·obtain rfl : j = 0 := by omega
   have hD:d3=D2:=hD
   obtain rfl:=hD
   refine nEq (x:=((b-i':Nat):Int)) (by rw[aA (by omega) (by omega)];omega) ?_
   unfold fixUp at hR
   refine ifd (fun hu2=>?_) (fun hu2=>?_)
   ·rw [if_pos (by omega)] at hR
    refine nEq (x:=((i'+1:Nat):Int)) (by rw[aA (by omega) (by omega)];omega) ?_
    generalize hE:shiftUp ltInt b (i'+1) d3=D4 at*
    refine lIn (fun p:Nat×Array Int=>i'+1≤p.1∧p.1≤b+1∧p.2.size=n∧shiftUp ltInt b p.1 p.2=D4) (fun(j,d)=>⟨[(0,.val (.slice (some ⟨r,0,none⟩) n cap)),(1,.val (.int .i64 a)),(2,.val (.int .i64 b)),(7,.val (.int .i64 i')),(8,.val (.int .i64 (5-((t+1:Nat):Int)))),(10,.val (.int .i64 j))],[],0,μ,aR h0 r ty rest d⟩) (fun p=>b-p.1)
     (i'+1,d3) ⟨by dsimp only;omega,by dsimp only;omega,hs3,hE⟩ (fun(_,_)=>⟨rfl,rfl⟩) ⟨⟨rfl,rfl,rfl,rfl,rfl,rfl,trivial⟩,trivial,rfl,rfl⟩ ?_
    clear hE
    rintro⟨j2,d5⟩ ⟨hj2,hjb2,hs5,hE⟩
    dsimp only at hj2 hjb2 hs5 hE
    rw[shiftUp]at hE
    refine ifd (fun hj1=>?_) (fun hj1=>?_)
    ·rw [if_pos (by omega)] at hE
     refine aK (j2) (by omega) (by omega) ?_
     refine rdI (by omega) ?_
     refine nEq (x:=((j2-1:Nat):Int)) (by rw[aA (by omega) (by omega)];omega) ?_
     refine aK (j2-1) (by omega) (by omega) ?_
     refine rdI (by omega) ?_
     refine cGv (aQ _ _) ?_
     refine iIn (fun hl3=>?_) (fun hl3=>?_)
     ·rw [if_pos hl3] at hE
      obtain rfl:=hE
      refine nEq (x:=5-(t:Int)) (by rw[aA (by omega) (by omega)];omega) ?_
      exact⟨(t,i',d5),⟨by dsimp only;omega,by dsimp only;omega,by dsimp only;omega,hs5,hR⟩,by dsimp only;omega,⟨⟨rfl,rfl,rfl,rfl,rfl,trivial⟩,trivial,rfl,rfl⟩⟩
     ·rw [if_neg (by simp only [hl3]; simp)] at hE
      refine nEq (x:=((j2-1:Nat):Int)) (by rw[aA (by omega) (by omega)];omega) ?_
      refine nEq (x:=((j2-1:Nat):Int)) (by rw[aA (by omega) (by omega)];omega) ?_
      refine aK (j2-1) (by omega) (by omega) ?_
      refine rdI (by omega) ?_
      refine aK (j2) (by omega) (by omega) ?_
      refine rdI (by omega) ?_
      refine aK (j2) (by omega) (by omega) ?_
      refine wrI (by omega) ?_
      refine aK (j2-1) (by omega) (by omega) ?_
      refine wrI (by simp;omega) ?_
      refine nEq (x:=((j2+1:Nat):Int)) (by rw[aA (by omega) (by omega)];omega) ?_
      exact⟨(j2+1,swp d5 j2 (j2-1)),⟨by dsimp only;omega,by dsimp only;omega,by dsimp only;rw[Go.Sort.swp_size];exact hs5,hE⟩,by dsimp only;omega,⟨⟨rfl,rfl,rfl,rfl,rfl,rfl,trivial⟩,trivial,rfl,rfl⟩⟩
    ·rw [if_neg (by omega)] at hE
     obtain rfl:=hE
     refine nEq (x:=5-(t:Int)) (by rw[aA (by omega) (by omega)];omega) ?_
     exact⟨(t,i',d5),⟨by dsimp only;omega,by dsimp only;omega,by dsimp only;omega,hs5,hR⟩,by dsimp only;omega,⟨⟨rfl,rfl,rfl,rfl,rfl,trivial⟩,trivial,rfl,rfl⟩⟩
   ·rw [if_neg (by omega)] at hR
    refine nEq (x:=5-(t:Int)) (by rw[aA (by omega) (by omega)];omega) ?_
    exact⟨(t,i',d3),⟨by dsimp only;omega,by dsimp only;omega,by dsimp only;omega,hs3,hR⟩,by dsimp only;omega,⟨⟨rfl,rfl,rfl,rfl,rfl,trivial⟩,trivial,rfl,rfl⟩⟩
 ·rw [if_neg (by omega)] at hR
  refine nEq (x:=((b-i':Nat):Int)) (by rw[aA (by omega) (by omega)];omega) ?_
  unfold fixUp at hR
  refine ifd (fun hu2=>?_) (fun hu2=>?_)
  ·rw [if_pos (by omega)] at hR
   refine nEq (x:=((i'+1:Nat):Int)) (by rw[aA (by omega) (by omega)];omega) ?_
   generalize hE:shiftUp ltInt b (i'+1) d2=D4 at*
   refine lIn (fun p:Nat×Array Int=>i'+1≤p.1∧p.1≤b+1∧p.2.size=n∧shiftUp ltInt b p.1 p.2=D4) (fun(j,d)=>⟨[(0,.val (.slice (some ⟨r,0,none⟩) n cap)),(1,.val (.int .i64 a)),(2,.val (.int .i64 b)),(7,.val (.int .i64 i')),(8,.val (.int .i64 (5-((t+1:Nat):Int)))),(10,.val (.int .i64 j))],[],0,μ,aR h0 r ty rest d⟩) (fun p=>b-p.1)
    (i'+1,d2) ⟨by dsimp only;omega,by dsimp only;omega,hs2,hE⟩ (fun(_,_)=>⟨rfl,rfl⟩) ⟨⟨rfl,rfl,rfl,rfl,rfl,rfl,trivial⟩,trivial,rfl,rfl⟩ ?_
   clear hE
   rintro⟨j2,d5⟩ ⟨hj2,hjb2,hs5,hE⟩
   dsimp only at hj2 hjb2 hs5 hE
   rw[shiftUp]at hE
   refine ifd (fun hj1=>?_) (fun hj1=>?_)
   ·rw [if_pos (by omega)] at hE
    refine aK (j2) (by omega) (by omega) ?_
    refine rdI (by omega) ?_
    refine nEq (x:=((j2-1:Nat):Int)) (by rw[aA (by omega) (by omega)];omega) ?_
    refine aK (j2-1) (by omega) (by omega) ?_
    refine rdI (by omega) ?_
    refine cGv (aQ _ _) ?_
    refine iIn (fun hl3=>?_) (fun hl3=>?_)
    ·rw [if_pos hl3] at hE
     obtain rfl:=hE
     refine nEq (x:=5-(t:Int)) (by rw[aA (by omega) (by omega)];omega) ?_
     exact⟨(t,i',d5),⟨by dsimp only;omega,by dsimp only;omega,by dsimp only;omega,hs5,hR⟩,by dsimp only;omega,⟨⟨rfl,rfl,rfl,rfl,rfl,trivial⟩,trivial,rfl,rfl⟩⟩
    ·rw [if_neg (by simp only [hl3]; simp)] at hE
     refine nEq (x:=((j2-1:Nat):Int)) (by rw[aA (by omega) (by omega)];omega) ?_
     refine nEq (x:=((j2-1:Nat):Int)) (by rw[aA (by omega) (by omega)];omega) ?_
     refine aK (j2-1) (by omega) (by omega) ?_
     refine rdI (by omega) ?_
     refine aK (j2) (by omega) (by omega) ?_
     refine rdI (by omega) ?_
     refine aK (j2) (by omega) (by omega) ?_
     refine wrI (by omega) ?_
     refine aK (j2-1) (by omega) (by omega) ?_
     refine wrI (by simp;omega) ?_
     refine nEq (x:=((j2+1:Nat):Int)) (by rw[aA (by omega) (by omega)];omega) ?_
     exact⟨(j2+1,swp d5 j2 (j2-1)),⟨by dsimp only;omega,by dsimp only;omega,by dsimp only;rw[Go.Sort.swp_size];exact hs5,hE⟩,by dsimp only;omega,⟨⟨rfl,rfl,rfl,rfl,rfl,rfl,trivial⟩,trivial,rfl,rfl⟩⟩
   ·rw [if_neg (by omega)] at hE
    obtain rfl:=hE
    refine nEq (x:=5-(t:Int)) (by rw[aA (by omega) (by omega)];omega) ?_
    exact⟨(t,i',d5),⟨by dsimp only;omega,by dsimp only;omega,by dsimp only;omega,hs5,hR⟩,by dsimp only;omega,⟨⟨rfl,rfl,rfl,rfl,rfl,trivial⟩,trivial,rfl,rfl⟩⟩
  ·rw [if_neg (by omega)] at hR
   refine nEq (x:=5-(t:Int)) (by rw[aA (by omega) (by omega)];omega) ?_
   exact⟨(t,i',d2),⟨by dsimp only;omega,by dsimp only;omega,by dsimp only;omega,hs2,hR⟩,by dsimp only;omega,⟨⟨rfl,rfl,rfl,rfl,rfl,trivial⟩,trivial,rfl,rfl⟩⟩
end
end Go.Vx
