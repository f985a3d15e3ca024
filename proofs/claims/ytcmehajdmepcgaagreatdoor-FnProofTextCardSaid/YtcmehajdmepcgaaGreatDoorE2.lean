/- Texts of the proof, part E2. -/
import Derived.KernelRfl
import Derived.Lib.Atoi
import Derived.Lib.ItoaNum
import Derived.Shelf.Lays
import Derived.Shelf.Strconv.Atoi
import Derived.Shelf.Strings.BuilderX
import Derived.Test.YtcmehajdmepcgaaGreatDoorProg
import Derived.Test.YtcmehajdmepcgaaGreatDoorE1
namespace Go.Vx
open Go.Proofs Classical
mutual
noncomputable def pfB:Pf→Bs
 | .mk r c vs ks=>jO (bH (lsS r::Lib.itoa c::jO (bH (vs.map fun t=>bN t.toT))::pfBs ks))
noncomputable def pfBs:List Pf→List Bs
 |[]=>[]
 |y::l=>pfB y::pfBs l
end
mutual
noncomputable def pfK:Pf→List Bs
 | .mk r c vs ks=>[40]::lsS r::Lib.itoa c::[40]::(vs.flatMap fun t=>dL t.toT)++[41]::pfKs ks++[[41]]
noncomputable def pfKs:List Pf→List Bs
 |[]=>[]
 |y::l=>pfK y++pfKs l
end
theorem tL:∀l:List Pf,pfBs l=l.map pfB
 |[]=>rfl
 |y::l=>by rw[pfBs,tL l];rfl
theorem tI:∀l:List Pf,pfKs l=l.flatMap pfK
 |[]=>rfl
 |y::l=>by rw[pfKs,tI l];rfl
theorem qLc{b:UInt8}(h:b.toNat=40∨b.toNat=41)(s:Bs):tk (b::s)=[b]::tk s:=by
 rw[tk,lR (Nat.le_refl _) h,tk,dV _ s.length s (by simp) (Nat.le_refl _)]
theorem tw_word{w r:Bs}(hw:∀b∈w,bQ b=false)(hr:∀b,r.head? =some b→bQ b=true):(w++r).takeWhile (fun c=> !bQ c)=w∧(w++r).dropWhile (fun c=> !bQ c)=r:=by
 induction w with
 |nil=>
  cases r with
  |nil=>exact⟨rfl,rfl⟩
  |cons b r=>
   have:=hr b rfl
   simp[this]
 |cons a w ih=>
  have ha:=hw a (by simp)
  have:=ih fun b hb=>hw b (by simp[hb])
  simp[ha,this.1,this.2]
theorem tk_word{w r:Bs}(hw:Wd w)(hr:∀b,r.head? =some b→bQ b=true):tk (w++r)=w::tk r:=by
 cases w with
 |nil=>exact absurd rfl hw.ne
 |cons a w=>
  have h:=tw_word (w:=w) (r:=r) (fun b hb=>(hw.ch b (by simp[hb])).1) hr
  rw[List.cons_append,tk,yQ (Nat.le_refl _) (hw.ch a (by simp)).1,h.1,h.2,tk,dV _ r.length r (by simp;omega) (Nat.le_refl _)]
theorem Tx.word{w:Bs}(h:Wd w):Tx w [w]:=⟨fun _ hr=>tk_word h hr,fun b hb=>by
 have:=h.ch b hb
 refine⟨fun e=>?_,by omega,this.2.2⟩
 have e:b=59:=UInt8.toNat_inj.1 e
 rw[e]at this
 exact absurd this.1 (by decide)⟩
theorem Tx.par{s:Bs}{L:List Bs}(h:Tx s L):Tx (jO s) ([40]::L++[[41]]) where
 tk:=fun r _=>by
  rw[jO,List.cons_append,List.cons_append,List.append_assoc,qLc (.inl rfl),h.tk _ (fun b hb=>by cases hb;rfl),List.singleton_append,qLc (.inr rfl)]
  simp
 ch:=fun b hb=>by
  rw[jO]at hb
  rcases List.mem_cons.1 hb with rfl|hb
  ·decide
  rcases List.mem_append.1 hb with hb|hb
  ·exact h.ch b hb
  ·rw[List.mem_singleton.1 hb];decide
theorem qQ{t:T}(h:Atm t):Tx (eX t) (cO t):=by
 cases t with
 |nil=>exact Tx.nil.par
 |sym s=>exact .word (qCj h)
 |num n=>exact .word itoa_wd
 |var n=>cases h
 |pair a b=>cases h
theorem sml_tx{t:T}(h:Sml t):Tx (bN t) (dL t):=by
 cases t with
 |nil=>exact qQ (t:= .nil) h
 |sym s=>exact qQ (t:= .sym s) h
 |num n=>exact qQ (t:= .num n) h
 |var n=>cases h
 |pair a b=>
  rw[bN,dL]
  refine Tx.par ?_
  by_cases e:b= .nil
  ·rw[if_pos e,if_pos e,List.append_nil,List.append_nil];exact qQ h.1
  ·rw [if_neg e, if_neg e]
   have hd:Tx ([46]:Bs) [[46]]:= .word ⟨by simp,fun b hb=>by rw[List.mem_singleton.1 hb];decide⟩
   have:=(qQ h.1).sp (hd.sp (qQ h.2))
   simpa using this
theorem pf_tx:∀x:Pf,PfT x→Tx (pfB x) (pfK x):=
 Pf.ind fun x ih h=>by
  obtain⟨h1,h2,h3,h4,h5⟩:=h.inv
  obtain⟨r,c,vs,ks⟩:=x
  rw[pfB,pfK,tL,tI]
  have e1:Tx (lsS r) [lsS r]:= .word (qCj h1)
  have e2:Tx (Lib.itoa c) [Lib.itoa c]:= .word itoa_wd
  have e3:=(Tx.join (f:=fun t:Tm=>bN t.toT) (g:=fun t=>dL t.toT) vs fun t ht=>sml_tx (h4 t ht)).par
  have e4:=Tx.join (f:=pfB) (g:=pfK) ks fun y hy=>ih y hy (h5 y hy)
  cases ks with
  |nil=>
   have:=(e1.sp (e2.sp e3)).par
   simpa[iH,bH]using this
  |cons y l=>
   have:=(e1.sp (e2.sp (e3.sp e4))).par
   rw[List.map_cons,iH,iH,iH,←List.map_cons (f:=pfB)]
   simpa using this
theorem yJ{α:Type}{f:α→Bs}{k:Nat}:∀l:List α,(∀x∈l,(f x).length≤k)→(bH (l.map f)).length≤l.length*(k+1):=fun l h=>by
 rw[bH,List.length_drop]
 have:((l.map f).flatMap fun s=>32::s).length≤l.length*(k+1):=by
  induction l with
  |nil=>simp
  |cons a l ih=>
   have h1:=h a (by simp)
   have h2:=ih fun x hx=>h x (by simp[hx])
   rw[List.map_cons,List.flatMap_cons,List.length_append,List.length_cons,List.length_cons,Nat.add_mul]
   omega
 omega
theorem qBa:∀l:List Pf,(∀y∈l,(pfB y).length+1≤500*y.cnt∧(pfK y).length≤100*y.cnt)→((l.map pfB).map fun s=>s.length+1).sum≤500*Pf.cnts l∧(l.flatMap pfK).length≤100*Pf.cnts l
 |[],_=>by simp
 |y::l,h=>by
  have h1:=h y (by simp)
  have h2:=qBa l fun z hz=>h z (by simp[hz])
  rw[List.map_cons,List.map_cons,List.sum_cons,List.flatMap_cons,List.length_append,Pf.cnts]
  omega
theorem qFb:∀l:List Tm,(∀t∈l,Sml t.toT)→(l.flatMap fun t=>dL t.toT).length≤7*l.length
 |[],_=>by simp
 |t::l,h=>by
  have h1:=(tO (h t (by simp))).2
  have h2:=qFb l fun z hz=>h z (by simp[hz])
  rw[List.flatMap_cons,List.length_append,List.length_cons]
  omega
theorem pf_sum{x:Pf}(h:PfT x)(hk:((x.kids.map pfB).map fun s=>s.length+1).sum≤500*Pf.cnts x.kids):
  ((lsS x.rel::Lib.itoa x.clause::jO (bH (x.values.map fun t=>bN t.toT))::x.kids.map pfB).map fun s=>s.length+1).sum≤500*x.cnt:=by
 obtain⟨h1,h2,h3,h4,h5⟩:=h.inv
 have hv:=yJ (f:=fun t:Tm=>bN t.toT) (k:=29) x.values fun t ht=>(tO (h4 t ht)).1
 have hr:=qHa h1
 have hc:=pD (n:=x.clause) (by omega) (by omega)
 rw[Pf.cnt_eq1,List.map_cons,List.map_cons,List.map_cons,List.sum_cons,List.sum_cons,List.sum_cons,jO]
 simp only[List.length_cons,List.length_append,List.length_nil]at hv ⊢
 omega
theorem qKz:∀x:Pf,PfT x→(pfB x).length+1≤500*x.cnt∧(pfK x).length≤100*x.cnt:=
 Pf.ind fun x ih h=>by
  obtain⟨h1,h2,h3,h4,h5⟩:=h.inv
  have hk:=qBa x.kids fun y hy=>ih y hy (h5 y hy)
  have hv:=yJ (f:=fun t:Tm=>bN t.toT) (k:=29) x.values fun t ht=>(tO (h4 t ht)).1
  have hw:=qFb x.values h4
  have hr:=qHa h1
  have hc:=pD (n:=x.clause) (by omega) (by omega)
  rw[Pf.cnt_eq1]
  obtain⟨r,c,vs,ks⟩:=x
  dsimp only[Pf.rel,Pf.clause,Pf.values,Pf.kids]at*
  rw[pfB,pfK,tL,tI,jO,jO]
  have hs:=nA (lsS r::Lib.itoa c::(40::bH (vs.map fun t=>bN t.toT)++[41])::ks.map pfB)
  rw[List.map_cons,List.map_cons,List.map_cons,List.sum_cons,List.sum_cons,List.sum_cons]at hs
  simp only[List.length_cons,List.length_append,List.length_nil]at hs ⊢
  omega
theorem pB(b:UInt8):∀(l:Bs) (acc:Nat),Lib.decFrom acc (l++[b])=(Lib.decFrom acc l).bind fun n=>(Lib.digitVal b).map fun d=>n*10+d
 |[],acc=>by
  rw[List.nil_append,Lib.decFrom]
  cases h:Lib.digitVal b<;>simp[Lib.decFrom,h]
 |a::l,acc=>by
  rw[List.cons_append,Lib.decFrom,Lib.decFrom]
  cases h:Lib.digitVal a with
  |none=>rfl
  |some e=>exact pB b l _
theorem rQ{k:Nat}(h:k<10):Lib.digitVal (UInt8.ofNat (48+k))=some k:=by
 have e:(UInt8.ofNat (48+k)).toNat=48+k:=by rw[UInt8.toNat_ofNat'];omega
 rw[Lib.digitVal,if_pos (by omega),e]
 congr 1;omega
theorem qDz:∀u,Lib.decFrom 0 (Lib.decDigits u)=some u:=by
 intro u
 induction u using Nat.strongRecOn with
 |_ u ih=>
  rw[Lib.decDigits]
  split
  ·rename_i h
   have e:=rQ h
   simp only[Lib.decFrom,e]
   rw[Nat.zero_mul,Nat.zero_add]
  ·rename_i h
   rw[pB,ih (u / 10) (by omega),Option.bind_some,rQ (by omega),Option.map_some]
   congr 1;omega
theorem wC(u:Nat):Lib.decNat (Lib.decDigits u)=some u:=by
 rw[Lib.decNat,if_neg,qDz]
 have:=(dC u).2.1
 cases h:Lib.decDigits u with
 |nil=>exact absurd h this
 |cons a l=>simp
theorem uQ{u:Nat}{b:UInt8}{r:Bs}(h:Lib.decDigits u=b::r):qCl b:=(dC u).1 b (by rw[h];simp)
theorem qKf(n:Int):Lib.atoi (Lib.itoa n)=some n:=by
 rw[Lib.itoa]
 split
 ·rename_i h
  rw[Lib.atoi,if_pos (by decide),wC,Option.map_some]
  congr 1;omega
 ·rename_i h
  have hd:=wC n.toNat
  cases e:Lib.decDigits n.toNat with
  |nil=>exact absurd e (dC _).2.1
  |cons b r=>
   have hb:=uQ e
   have hne:∀c:UInt8,(c.toNat<48∨57<c.toNat)→(b==c)=false:=fun c hc=>by
    rw[beq_eq_false_iff_ne];intro k;rw[k]at hb;have:=hb.1;have:=hb.2;omega
   rw[Lib.atoi,if_neg (by rw[hne 45 (.inl (by decide))];decide),if_neg (by rw[hne 43 (.inl (by decide))];decide),←e,hd,Option.map_some]
   congr 1;omega
theorem qKi{n:Int}{b:UInt8}{r:Bs}(h:Lib.itoa n=b::r):b=45∨qCl b:=by
 rw[Lib.itoa]at h
 split at h
 ·cases h;exact .inl rfl
 ·exact .inr (uQ h)
theorem at_all(L:List Bs):At L 0 L:=⟨[],by simp⟩
theorem qHn{s:ByteArray}(h:gS s):∃b r,lsS s=b::r∧97≤b.toNat∧b.toNat≤122:=by
 cases e:lsS s with
 |nil=>exact absurd e (qCj h).ne
 |cons b r=>
  have:=h.2.2 0 b (by show(lsS s)[0]? =_;rw[e];rfl)
  refine⟨b,r,rfl,?_⟩
  rcases this with k|k
  ·exact k
  ·have := k.1
   simp at this
theorem oU{t:T}(h:Atm t):∃k r,cO t=k::r∧k≠[41]∧k≠[46]:=by
 cases t with
 |nil=>exact⟨_,_,rfl,by decide,by decide⟩
 |sym s=>
  have w_:=qHn h
  obtain⟨b,r,e,h1,h2⟩:=w_
  refine⟨_,_,rfl,?_,?_⟩<;>
   ·rw[e];intro k;have:=(List.cons.inj k).1;rw[this]at h1;exact absurd h1 (by decide)
 |num n=>
  have hne:=tJ n
  cases e:Lib.itoa n with
  |nil=>exact absurd e hne
  |cons b r=>
   have hb:=qKi e
   refine⟨_,_,by rw[cO],?_,?_⟩<;>
    ·rw [e]; intro k; have := (List.cons.inj k).1; rw [this] at hb
     rcases hb with hb|hb
     ·exact absurd hb (by decide)
     ·exact absurd hb.1 (by decide)
 |var n=>cases h
 |pair a b=>cases h
theorem qGc{t:T}(h:Sml t):∃k r,dL t=k::r∧k≠[41]:=by
 cases t with
 |nil=>exact⟨_,_,rfl,by decide⟩
 |sym s=>
  have w_:=oU (t:= .sym s) h
  obtain⟨k,r,e,h1,_⟩:=w_
  exact⟨k,r,e,h1⟩
 |num n=>
  have w_:=oU (t:= .num n) h
  obtain⟨k,r,e,h1,_⟩:=w_
  exact⟨k,r,e,h1⟩
 |var n=>cases h
 |pair a b=>exact⟨_,_,rfl,by decide⟩
theorem qJq{t:T}(h:Drawn 2 0 t):Sml t:=by
 have atm:∀a:T,a.good→a.lvs≤1→(∀n,¬a.occ n)→a.nums→Atm a:=fun a hg hl ho hm=>by
  cases a with
  |nil=>exact trivial
  |sym s=>exact hg
  |num n=>exact hm
  |var n=>exact absurd rfl (ho n)
  |pair x y=>
   have:=x.lvs_pos
   have:=y.lvs_pos
   simp only[T.lvs]at hl;omega
 have no:∀n,¬t.occ n:=fun n hn=>by have:=h.low n hn;omega
 cases t with
 |pair x y=>
  have hl:=h.lvs
  have h1:=x.lvs_pos
  have h2:=y.lvs_pos
  simp only[T.lvs]at hl
  exact⟨atm x h.good.1 (by omega) (fun n hn=>no n (.inl hn)) h.nums.1,atm y h.good.2 (by omega) (fun n hn=>no n (.inr hn)) h.nums.2⟩
 |nil=>exact trivial
 |sym s=>exact h.good
 |num n=>exact h.nums
 |var n=>exact absurd rfl (no n)
theorem pfT_of{p:Pg}{U:List T}(hp:p.Ok)(hU:∀t∈U,Drawn 2 0 t):∀x:Pf,PfU U x→OkP p x→PfT x:=
 Pf.ind fun x ih hx hk=>by
  have w_:=hk.inv
  obtain⟨r,c,hn,hks,_⟩:=w_
  have w_:=hn.rel
  obtain⟨k,hk1,hk2⟩:=w_
  have hro:=hp.2 k r hk2
  have w_:=hn.cls
  obtain⟨L,i,hL,hi,hc⟩:=w_
  have hb:=(Gl.cl_bnd _ hL).2
  have hil:=(List.getElem?_eq_some_iff.1 hc).1
  have hlen:=hn.len
  refine .mk ?_ (by omega) ?_ (fun t ht=>?_) (fun y hy=>ih y hy (hx.kids y hy) (hks y hy)) (hx.vals.imp fun vs h=>h.1)
  ·have w_ := jU (p := p) (s := x.rel) (by omega)
   obtain⟨k',r',e1,e2,e3⟩:=w_
   obtain rfl:k=k':=by omega
   rw[hk2]at e2
   cases e2
   rw[←e3]
   exact hro.name.2
  ·have := hro.ar4
   have:=hro.lo8
   omega
  ·have w_ := hx.vals
   obtain⟨vs,e,hvs⟩:=w_
   rw[e]at ht
   have w_:=List.mem_map.1 ht
   obtain⟨a,ha,rfl⟩:=w_
   rw[T.toT_tm]
   exact qJq (hU a (hvs a ha))
end Go.Vx
namespace Go.Vx
open Go.Proofs Go.Shelf
def shAtoiRen:Go.Shelf.Ren:=⟨fun|244=>170|247=>181|287=>193|321=>200|322=>201|n=>n,fun|9=>9|3=>3|75=>180|4=>4|5=>5|167=>210|37=>22|0=>0|85=>211|2=>2|53=>205|175=>224|46=>120|21=>21|80=>94|n=>n,fun|n=>n⟩
theorem shAtoi:Lays.n244 Tryz.prog shAtoiRen where
 mixed:=by kernel_rfl
 f244:=Tryz.func170.trans (congrArg some (by kernel_rfl))
 f247:=Tryz.func181.trans (congrArg some (by kernel_rfl))
 f287:=Tryz.func193.trans (congrArg some (by kernel_rfl))
 f321:=Tryz.func200.trans (congrArg some (by kernel_rfl))
 f322:=Tryz.func201.trans (congrArg some (by kernel_rfl))
 t0:=Tryz.underlying0
 a0:=Tryz.isAgg0
 z0:=Tryz.sizeOf0
 v0:=Tryz.zeroValue0
 t2:=Tryz.underlying2
 a2:=Tryz.isAgg2
 z2:=Tryz.sizeOf2
 v2:=Tryz.zeroValue2
 t3:=Tryz.underlying3
 a3:=Tryz.isAgg3
 z3:=Tryz.sizeOf3
 v3:=Tryz.zeroValue3
 t4:=Tryz.underlying4
 a4:=Tryz.isAgg4
 z4:=Tryz.sizeOf4
 v4:=Tryz.zeroValue4
 t5:=Tryz.underlying5
 a5:=Tryz.isAgg5
 z5:=Tryz.sizeOf5
 v5:=Tryz.zeroValue5
 t9:=Tryz.underlying9
 a9:=Tryz.isAgg9
 z9:=Tryz.sizeOf9
 v9:=Tryz.zeroValue9
 t21:=Tryz.underlying21
 a21:=Tryz.isAgg21
 z21:=Tryz.sizeOf21
 v21:=Tryz.zeroValue21
 t37:=Tryz.underlying22
 a37:=Tryz.isAgg22
 z37:=Tryz.sizeOf22
 v37:=Tryz.zeroValue22
 t46:=Tryz.underlying120
 a46:=Tryz.isAgg120
 z46:=Tryz.sizeOf120
 v46:=Tryz.zeroValue120
 t53:=Tryz.underlying205
 a53:=Tryz.isAgg205
 z53:=Tryz.sizeOf205
 v53:=Tryz.zeroValue205
 t75:=Tryz.underlying180
 a75:=Tryz.isAgg180
 z75:=Tryz.sizeOf180
 v75:=Tryz.zeroValue180
 t85:=Tryz.underlying211
 a85:=Tryz.isAgg211
 z85:=Tryz.sizeOf211
 v85:=Tryz.zeroValue211
 t167:=Tryz.underlying210
 a167:=Tryz.isAgg210
 z167:=Tryz.sizeOf210
 v167:=Tryz.zeroValue210
 t175:=Tryz.underlying224
 a175:=Tryz.isAgg224
 z175:=Tryz.sizeOf224
 v175:=Tryz.zeroValue224
end Go.Vx
namespace Go.Vx
open Go.Proofs Classical
section
variable {μ:Mem}
theorem qGl{L:List Bs}{b:Option Addr}{c:Nat}(hs:Sl μ 1 b L.length ((L.map mkS).map D.s))(hsum:(L.map fun s=>s.length+1).sum≤1000000):
  aQ Tryz.prog 50 [.slice b L.length c] μ (.string (mkS (jO (bH L)))):=by
 have hb:=Nat.le_trans (nA L) hsum
 have hz:(mkS (bH L)).size=(bH L).length:=cD _
 have e1:(⟨#[40]⟩:ByteArray)++mkS (bH L)=mkS ([40]++bH L):=bE [40] _
 refine Spec.mk Tryz.func50 (by kernel_rfl) ?_
 refine cGv (yH hs hsum) ?_
 refine aD (by rw[hz];show 1+_≤_;omega) ?_
 rw[e1]
 have hz2:(mkS ([40]++bH L)).size=1+(bH L).length:=by rw[cD,List.length_append];rfl
 refine aD (by rw[hz2];show _+1≤_;omega) ?_
 exact rGv (congrArg Value.string (bE ([40]++bH L) [41])) rfl
end
end Go.Vx
namespace Go.Vx
open Go.Proofs Classical
section
variable {μ:Mem}
set_option maxHeartbeats 2000000 in
theorem jQ{s:Bs}(hl:s.length≤100000)(hb:∀b∈s,b.toNat≠59∧32≤b.toNat∧b.toNat≤126)(hn:(bZ s.length s).length≤20000):
  Spec Tryz.prog 25 [.string (mkS s)] μ fun v μ'=>∃tv,v= .tuple #[tv,.bool true]∧NmV μ' ((bZ s.length s).map mkS) tv:=by
 have hsz:(mkS s).size=s.length:=cD s
 have at_:∀(i:Nat) b,s[i]? =some b→(mkS s).data.toList[i]? =some b:=fun i b h=>h
 refine Spec.mk Tryz.func25 (by kernel_rfl) ?_
 refine ifd (fun h=>absurd h (by omega)) (fun _=>?_)
 refine lIn (fun k:Nat=>k≤s.length) (fun k=>⟨[(0,.val (.string (mkS s))),(4,.val (.int .i64 k))],[],0,μ,Mem.nil⟩) (fun k=>s.length-k)
  0 (Nat.zero_le _) (fun _=>⟨rfl,rfl⟩) ⟨⟨rfl,rfl,trivial⟩,trivial,rfl,rfl⟩ ?_
 intro k hk
 refine ifd (fun hks=>?_) (fun hks=>?_)
 ·obtain ⟨ck, hck⟩ : ∃ ck, s[k]? = some ck := ⟨_, List.getElem?_eq_getElem (by omega)⟩
  have hc:=hb ck (List.mem_of_getElem? hck)
  refine aK k ck rfl (at_ _ _ hck) ?_
  refine aL (fun _=>?_) (fun h=>absurd h (by omega))
  refine aK k ck rfl (at_ _ _ hck) ?_
  refine ifd (fun h=>absurd h (by omega)) (fun _=>?_)
  refine aK k ck rfl (at_ _ _ hck) ?_
  refine ifd (fun h=>absurd h (by omega)) (fun _=>?_)
  exact aC (by omega) (by omega) ⟨k+1,by omega,by omega,⟨⟨rfl,rfl,trivial⟩,trivial,rfl,rfl⟩⟩
 intro r0
 refine lIn (fun z:Nat×List Bs×List Value×Option Nat×Nat=>z.1≤s.length∧z.2.1.length≤z.1∧z.2.2.1=gR z.2.1∧z.2.1++bZ s.length (s.drop z.1)=bZ s.length s)
  (fun(i,_,ys,b,c)=>⟨[(0,.val (.string (mkS s))),(5,.row 0 b ys.length c),(6,.val (.int .i64 i))],[(0,some (.row b c 9 1 ys))],1,μ,Mem.nil⟩) (fun z=>s.length-z.1)
  (0,[],[],some r0,0) ⟨Nat.zero_le _,Nat.zero_le _,rfl,rfl⟩ (fun(_,_,_,_,_)=>⟨rfl,rfl⟩) ⟨⟨rfl,rfl,rfl,trivial⟩,⟨rfl,trivial⟩,rfl,rfl⟩ ?_
 rintro⟨i,L,ys,b,c⟩ ⟨hi,hLi,hys,hT⟩
 dsimp only at hi hLi hys hT
 have hyl:ys.length=L.length:=by rw[hys,gH]
 refine ifd (fun hlt=>?_) (fun hlt=>?_)
 ·obtain ⟨ch, hch⟩ : ∃ ch, s[i]? = some ch := ⟨_, List.getElem?_eq_getElem (by omega)⟩
  have hc:=hb ch (List.mem_of_getElem? hch)
  have hdl:(ch::s.drop (i+1)).length≤s.length:=by simp only[List.length_cons,List.length_drop];omega
  refine aK i ch rfl (at_ _ _ hch) ?_
  refine ifd (fun h32=>?_) (fun h32=>?_)
  ·refine aC (by omega) (by omega) ?_
   rw[bB hch]at hT
   refine⟨(i+1,L,ys,b,c),⟨by dsimp only;omega,by dsimp only;omega,hys,?_⟩,by dsimp only;omega,⟨⟨rfl,rfl,rfl,trivial⟩,⟨rfl,trivial⟩,rfl,rfl⟩⟩
   dsimp only
   rw[←hT,qAl hdl (by omega)]
  refine ifd (fun h=>absurd h (by omega)) (fun _=>?_)
  refine ifd (fun h=>absurd h (by omega)) (fun _=>?_)
  refine ifd (fun h40=>?_) (fun h40=>?_)
  ·rw [bB hch] at hT
   refine aC (by omega) (by omega) ?_
   refine aE i (i+1) rfl rfl (by omega) (by omega) ?_
   intro r1
   refine gIn ?_ ?_ fun b' c' hb'=>?_
   ·show(ys.length+1)*16≤_;omega
   ·exact Nat.le_trans (m:=100000000) (show ys.length+1≤_ by omega) (by decide)
   refine aC (by omega) (by omega) ?_
   refine⟨((i+1),L++[(s.drop i).take ((i+1)-i)],_,b',c'),⟨by dsimp only;omega,by simp only[List.length_append,List.length_cons,List.length_nil];omega,?_,?_⟩,by dsimp only;omega,⟨⟨rfl,rfl,rfl,trivial⟩,⟨rfl,trivial⟩,rfl,rfl⟩⟩
   ·dsimp only
    rw[bO,hys,bR]
   ·dsimp only
    rw[List.append_assoc,List.singleton_append]
    (rw[←hT,lR hdl (by omega)];simp[hch,List.take_one])
  refine ifd (fun h41=>?_) (fun h41=>?_)
  ·rw [bB hch] at hT
   refine aC (by omega) (by omega) ?_
   refine aE i (i+1) rfl rfl (by omega) (by omega) ?_
   intro r1
   refine gIn ?_ ?_ fun b' c' hb'=>?_
   ·show(ys.length+1)*16≤_;omega
   ·exact Nat.le_trans (m:=100000000) (show ys.length+1≤_ by omega) (by decide)
   refine aC (by omega) (by omega) ?_
   refine⟨((i+1),L++[(s.drop i).take ((i+1)-i)],_,b',c'),⟨by dsimp only;omega,by simp only[List.length_append,List.length_cons,List.length_nil];omega,?_,?_⟩,by dsimp only;omega,⟨⟨rfl,rfl,rfl,trivial⟩,⟨rfl,trivial⟩,rfl,rfl⟩⟩
   ·dsimp only
    rw[bO,hys,bR]
   ·dsimp only
    rw[List.append_assoc,List.singleton_append]
    (rw[←hT,lR hdl (by omega)];simp[hch,List.take_one])
  have hbk:bQ ch=false:=by rw[iL];exact decide_eq_false (by omega)
  refine lIn (fun j:Nat=>i≤j∧j≤s.length∧∀(k:Nat) b,i≤k→k<j→s[k]? =some b→bQ b=false)
   (fun j=>⟨[(0,.val (.string (mkS s))),(5,.row 0 b ys.length c),(6,.val (.int .i64 i)),(8,.val (.int .i64 j))],[(0,some (.row b c 9 1 ys))],1,μ,Mem.nil⟩) (fun j=>s.length-j)
   i ⟨Nat.le_refl _,by omega,fun k b h1 h2=>by omega⟩ (fun _=>⟨rfl,rfl⟩) ⟨⟨rfl,rfl,rfl,rfl,trivial⟩,⟨rfl,trivial⟩,rfl,rfl⟩ ?_
  rintro j ⟨hij0,hj,hin⟩
  refine ifd (fun hjl=>?_) (fun hjl=>?_)
  ·obtain ⟨cj, hcj⟩ : ∃ cj, s[j]? = some cj := ⟨_, List.getElem?_eq_getElem (by omega)⟩
   have hcc:=hb cj (List.mem_of_getElem? hcj)
   refine aK j cj rfl (at_ _ _ hcj) ?_
   refine aL (fun g1=>?_) (fun g1=>?_)
   ·refine aK j cj rfl (at_ _ _ hcj) ?_
    refine aL (fun g2=>?_) (fun g2=>absurd g2 (by omega))
    refine aK j cj rfl (at_ _ _ hcj) ?_
    refine aL (fun g3=>?_) (fun g3=>?_)
    ·refine aK j cj rfl (at_ _ _ hcj) ?_
     refine aL (fun g4=>?_) (fun g4=>?_)
     ·refine aK j cj rfl (at_ _ _ hcj) ?_
      refine aL (fun g5=>?_) (fun g5=>absurd g5 (by omega))
      refine aC (by omega) (by omega) ⟨j+1,⟨by omega,by omega,fun k b h1 h2 hk=>?_⟩,by omega,⟨⟨rfl,rfl,rfl,rfl,trivial⟩,⟨rfl,trivial⟩,rfl,rfl⟩⟩
      by_cases e:k=j
      ·subst e; rw [hcj] at hk; cases hk
       rw[iL];exact decide_eq_false (by omega)
      ·exact hin k b h1 (by omega) hk
     ·have hbj : bQ cj = true := by rw [iL]; exact decide_eq_true (by omega)
      have hij:i<j:=by
       refine Nat.lt_of_le_of_ne hij0 fun e=>?_
       subst e
       (rw[hch]at hcj;cases hcj;rw[hbk]at hbj;cases hbj)
      refine aE i j rfl rfl (by omega) (by omega) ?_
      intro r1
      refine gIn ?_ ?_ fun b' c' hb'=>?_
      ·show(ys.length+1)*16≤_;omega
      ·exact Nat.le_trans (m:=100000000) (show ys.length+1≤_ by omega) (by decide)
      skip
      refine⟨(j,L++[(s.drop i).take (j-i)],_,b',c'),⟨by dsimp only;omega,by simp only[List.length_append,List.length_cons,List.length_nil];omega,?_,?_⟩,by dsimp only;omega,⟨⟨rfl,rfl,rfl,trivial⟩,⟨rfl,trivial⟩,rfl,rfl⟩⟩
      ·dsimp only
       rw[bO,hys,bR]
      ·dsimp only
       rw[List.append_assoc,List.singleton_append]
       (rw[←hT,jS (Nat.le_refl _) hch hbk hij hj (fun k b h1 h2 hk=>hin k b (by omega) h2 hk) fun b hb=>by rw[hcj]at hb;cases hb;exact hbj])
    ·have hbj : bQ cj = true := by rw [iL]; exact decide_eq_true (by omega)
     have hij:i<j:=by
      refine Nat.lt_of_le_of_ne hij0 fun e=>?_
      subst e
      (rw[hch]at hcj;cases hcj;rw[hbk]at hbj;cases hbj)
     refine aE i j rfl rfl (by omega) (by omega) ?_
     intro r1
     refine gIn ?_ ?_ fun b' c' hb'=>?_
     ·show(ys.length+1)*16≤_;omega
     ·exact Nat.le_trans (m:=100000000) (show ys.length+1≤_ by omega) (by decide)
     skip
     refine⟨(j,L++[(s.drop i).take (j-i)],_,b',c'),⟨by dsimp only;omega,by simp only[List.length_append,List.length_cons,List.length_nil];omega,?_,?_⟩,by dsimp only;omega,⟨⟨rfl,rfl,rfl,trivial⟩,⟨rfl,trivial⟩,rfl,rfl⟩⟩
     ·dsimp only
      rw[bO,hys,bR]
     ·dsimp only
      rw[List.append_assoc,List.singleton_append]
      (rw[←hT,jS (Nat.le_refl _) hch hbk hij hj (fun k b h1 h2 hk=>hin k b (by omega) h2 hk) fun b hb=>by rw[hcj]at hb;cases hb;exact hbj])
   ·have hbj : bQ cj = true := by rw [iL]; exact decide_eq_true (by omega)
    have hij:i<j:=by
     refine Nat.lt_of_le_of_ne hij0 fun e=>?_
     subst e
     (rw[hch]at hcj;cases hcj;rw[hbk]at hbj;cases hbj)
    refine aE i j rfl rfl (by omega) (by omega) ?_
    intro r1
    refine gIn ?_ ?_ fun b' c' hb'=>?_
    ·show(ys.length+1)*16≤_;omega
    ·exact Nat.le_trans (m:=100000000) (show ys.length+1≤_ by omega) (by decide)
    skip
    refine⟨(j,L++[(s.drop i).take (j-i)],_,b',c'),⟨by dsimp only;omega,by simp only[List.length_append,List.length_cons,List.length_nil];omega,?_,?_⟩,by dsimp only;omega,⟨⟨rfl,rfl,rfl,trivial⟩,⟨rfl,trivial⟩,rfl,rfl⟩⟩
    ·dsimp only
     rw[bO,hys,bR]
    ·dsimp only
     rw[List.append_assoc,List.singleton_append]
     (rw[←hT,jS (Nat.le_refl _) hch hbk hij hj (fun k b h1 h2 hk=>hin k b (by omega) h2 hk) fun b hb=>by rw[hcj]at hb;cases hb;exact hbj])
  ·have hij:i<j:=by
    refine Nat.lt_of_le_of_ne hij0 fun e=>?_
    subst e
    (omega)
   refine aE i j rfl rfl (by omega) (by omega) ?_
   intro r1
   refine gIn ?_ ?_ fun b' c' hb'=>?_
   ·show(ys.length+1)*16≤_;omega
   ·exact Nat.le_trans (m:=100000000) (show ys.length+1≤_ by omega) (by decide)
   skip
   refine⟨(j,L++[(s.drop i).take (j-i)],_,b',c'),⟨by dsimp only;omega,by simp only[List.length_append,List.length_cons,List.length_nil];omega,?_,?_⟩,by dsimp only;omega,⟨⟨rfl,rfl,rfl,trivial⟩,⟨rfl,trivial⟩,rfl,rfl⟩⟩
   ·dsimp only
    rw[bO,hys,bR]
   ·dsimp only
    rw[List.append_assoc,List.singleton_append]
    (rw[←hT,jS (Nat.le_refl _) hch hbk hij hj (fun k b h1 h2 hk=>hin k b (by omega) h2 hk) fun b hb=>by have:=(List.getElem?_eq_some_iff.1 hb).1;omega])
 ·have e:bZ s.length (s.drop i)=[]:=by
   rw[List.drop_eq_nil_of_le (by omega)]
   cases s.length<;>rfl
  rw[e,List.append_nil]at hT
  refine ifd (fun h=>absurd h (by rw[hyl,hT];omega)) (fun _=>?_)
  refine rFz [0] fun μ4 hle4 hno hat=> .inl ⟨_,rfl,?_⟩
  rw[hys,gR]at hat ⊢
  rw[←hT]
  exact Rows.sl hat (Nm.rows (L.map mkS)) (by rw[List.length_map,List.length_map];exact Nat.le_trans (m:=100000) (by omega) (by decide))
end
end Go.Vx
namespace Go.Vx
open Go.Proofs Classical
theorem pfs_sum{l:List Pf}(h:∀y∈l,PfT y):((l.map pfB).map fun s=>s.length+1).sum≤500*Pf.cnts l:=(qBa l fun y hy=>qKz y (h y hy)).1
theorem qNw{x:Pf}(h:PfT x)(hc:x.cnt≤200):((lsS x.rel::Lib.itoa x.clause::jO (bH (x.values.map fun t=>bN t.toT))::x.kids.map pfB).map fun s=>s.length+1).sum≤100000:=by
 have:=pf_sum h (pfs_sum h.inv.2.2.2.2)
 omega
section
theorem vK:∀x:Pf,∀{μ:Mem} {v:Value},PfT x→x.cnt≤200→RepV μ x.d v→Spec Tryz.prog 24 [v] μ fun w _=>w= .string (mkS (pfB x)):=
 Pf.ind fun x ih μ v hT hc hv=>by
  obtain⟨h1,h2,h3,h4,h5⟩:=hT.inv
  have hbd:=qNw hT hc
  have hlift:=hT.lift
  obtain⟨vs,hvs⟩:=hlift
  have w_:=Pf.inv hv
  obtain⟨p,rfl,hsv,hsl⟩:=w_
  have hge:=Pf.cnt_eq1 x
  have hkl:x.kids.length≤200:=by
   have:∀l:List Pf,l.length≤Pf.cnts l:=fun l=>by
    induction l with
    |nil=>exact Nat.le_refl _
    |cons y l ih=>
     have:=y.cnt_pos
     rw[Pf.cnts,List.length_cons];omega
   have:=this x.kids
   omega
  have hvm:vs.map bN=x.values.map fun t=>bN t.toT:=by
   rw[hvs,List.map_map]
   exact List.map_congr_left fun t _=>by show bN t=bN t.tm.toT;rw[T.toT_tm]
  have hvl:vs.length=x.values.length:=by rw[hvs,List.length_map]
  have hlt:=xO (cap:=p.1.2) (ts:=vs) (μ:=μ) (base:=p.1.1) (by rw[hvl,←hvs];exact hsv) (fun t ht=>by
   have:=h4 t.tm (by rw[hvs];exact List.mem_map_of_mem ht)
   rwa [T.toT_tm]at this) (by omega)
  rw[hvm,hvl]at hlt
  refine Spec.mk Tryz.func24 (by kernel_rfl) ?_
  intro r1
  refine cGv (mL h2.1 h2.2) ?_
  refine cPl hlt fun w1 μ1 hle1 hR1=>?_
  obtain rfl:=hR1
  intro r14
  have hH:∀i,gR (lsS x.rel::Lib.itoa x.clause::jO (bH (x.values.map fun t=>bN t.toT))::(x.kids.take i).map pfB)= .string x.rel:: .string (mkS (Lib.itoa x.clause)):: .string (mkS (jO (bH (x.values.map fun t=>bN t.toT))))::gR ((x.kids.take i).map pfB):=fun i=>by
   rw[gR,List.map_cons,List.map_cons,List.map_cons,List.map_cons,List.map_cons,List.map_cons,qIe];rfl
  refine lIn (fun z:Nat×List Value×Option Nat×Nat×Mem=>z.1≤x.kids.length∧μ.Le z.2.2.2.2∧z.2.1=gR (lsS x.rel::Lib.itoa x.clause::jO (bH (x.values.map fun t=>bN t.toT))::(x.kids.take z.1).map pfB))
   (fun(i,ys,b,c,μ')=>⟨[(3,.row 1 b ys.length c),(16,.val (.slice p.2.1 x.kids.length p.2.2)),(17,.val (.int .i64 x.kids.length)),(18,.val (.int .i64 i))],[(1,some (.row b c 9 1 ys))],2,μ',Mem.nil⟩) (fun z=>x.kids.length-z.1)
   (0,_,some r14,3,μ1) ⟨Nat.zero_le _,hle1,(hH 0).symm⟩ (fun(_,_,_,_,_)=>⟨rfl,rfl⟩) ⟨⟨rfl,rfl,rfl,rfl,trivial⟩,⟨rfl,trivial⟩,rfl,rfl⟩ ?_
  rintro⟨i,ys,b,c,μ'⟩ ⟨hi,hle,hys⟩
  dsimp only at hi hle hys
  have hyl:ys.length=3+i:=by rw[hys,gH,List.length_cons,List.length_cons,List.length_cons,List.length_map,List.length_take];omega
  refine ifd (fun hlt=>?_) (fun hlt=>?_)
  ·have w_ := aSo (l := x.kids) (i := i) (by omega)
   obtain⟨y,hy⟩:=w_
   have w_:=Pf.elem (hsl.mono hle) hy
   obtain⟨ad,q,hel,hr⟩:=w_
   have hyc:y.cnt≤200:=by
    have e1:=Pf.cnts_take hy
    have e2:=Pf.cnts_le x.kids (i+1)
    omega
   refine eIn hel ?_
   intro r5
   refine cPl (ih y (mAt hy) (h5 y (mAt hy)) hyc hr) fun w μ2 hle2 hw=>?_
   obtain rfl:=hw
   intro r16
   refine gIn ?_ ?_ fun b' c' _=>?_
   ·show(ys.length+1)*16≤_;omega
   ·exact Nat.le_trans (m:=100000000) (show ys.length+1≤_ by omega) (by decide)
   refine aC (by omega) (by omega) ⟨(i+1,_,b',c',μ2),⟨by dsimp only;omega,hle.trans hle2,?_⟩,by dsimp only;omega,⟨⟨rfl,rfl,rfl,rfl,trivial⟩,⟨rfl,trivial⟩,rfl,rfl⟩⟩
   dsimp only
   rw[List.take_add_one,hy,Option.toList_some,List.map_append,List.map_singleton,←List.cons_append,←List.cons_append,←List.cons_append,bO,hys]
  ·obtain rfl : i = x.kids.length := by omega
   rw[List.take_length]at hys
   refine bF [1] fun μ4 hle4 hno hat=>?_
   have hG:=qGl (c:=c) (qNm hat hys (by rw[List.length_cons,List.length_cons,List.length_cons,List.length_map];omega)) (by omega)
   have hll:(lsS x.rel::Lib.itoa x.clause::jO (bH (x.values.map fun t=>bN t.toT))::x.kids.map pfB).length=ys.length:=by rw[hys,gH]
   rw[hll]at hG
   refine cE hG fun w μ5 hle5 hR=>?_
   obtain⟨rfl,e5⟩:=hR
   refine rPl ?_
   obtain⟨rel,cl,vals,ks⟩:=x
   rw[pfB,tL]
   rfl
noncomputable def qNe(p:Pg)(x:Pf):Bs:=if p.Ok∧x.cnt≤200∧OkP p x then pfB x else []
theorem rF{p:Pg}{x:Pf}{μ:Mem}{vp v:Value}(hp:RepV μ p.d vp)(hv:RepV μ x.d v)(hT:p.Ok→OkP p x→PfT x):
  Spec Tryz.prog 7 [vp,v] μ fun w _=>w= .string (mkS (qNe p x)):=by
 have hv0:=hv
 have hp0:=hp
 have w_:=Pf.invV hv
 obtain⟨q,rfl⟩:=w_
 have w_:=Pg.invV hp
 obtain⟨qp,rfl⟩:=w_
 refine Spec.mk Tryz.func7 (by kernel_rfl) ?_
 intro r2 r3
 refine cPl (iY hp0 hv0) fun w μ1 hle1 hw=>?_
 obtain rfl:=hw
 refine aL (fun h=>?_) (fun h=>?_)
 ·refine rPl ?_
  rw[qNe,if_neg h];rfl
 ·refine cPl (vK x (hT h.1 h.2.2) h.2.1 (hv0.mono hle1)) fun w μ2 hle2 hw => ?_
  refine rPl ?_
  rw[qNe,if_pos h];exact hw
end
end Go.Vx
namespace Go.Vx
open Go.Proofs Go.Shelf Go.RowKit Classical
def tkO(b:Option Addr)(n c i:Nat):Obj:= .cells #[.slice b n c,.int .i64 i] 64 (0,0)
section
variable {P:Program} {f:FuncId} {args:List Value} {μ h0:Mem}
theorem Step.more{w w':World}(h1:Holds μ w)(h2:Holds h0 w)(h3:Apart μ h0)(hs:w.heap.size≤w'.heap.size)(hk:∀b,b<w.heap.size→w'.heap[b]? =w.heap[b]?)
  (ho:w'.os=w.os) (ht:w'.tape=w.tape) (hu:w'.output=w.output):Step μ h0 w μ h0 w':=
 have lt:∀b o,w.heap[b]? =some o→b<w.heap.size:=fun _ _ h=>(Array.getElem?_eq_some_iff.1 h).1
 ⟨Mem.Le.refl _,fun b o hb=>(hk b (lt _ _ (h1 b o hb))).trans (h1 b o hb),fun b o hb=>(hk b (lt _ _ (h2 b o hb))).trans (h2 b o hb),h3,fun _ h h'=>absurd h h',fun _ h=> .inr h,hs,fun b hb _=>hk b hb,ho,ht,hu⟩
end
section
variable {μ:Mem}
theorem tA(w:World)(e:TypeId)(s:ByteArray):w.heap.size≤(Lib.bytesWorld w e s).heap.size∧(∀b,b<w.heap.size→(Lib.bytesWorld w e s).heap[b]? =w.heap[b]?)∧(Lib.bytesWorld w e s).os=w.os∧(Lib.bytesWorld w e s).tape=w.tape∧(Lib.bytesWorld w e s).output=w.output:=by
 have w_:=sL (w.drew.alloc (.cells (Lib.bytesCells w e s) e)) ⟨w.heap.size,(Lib.bytesCells w e s).size,none⟩ 1
 obtain⟨k1,k2,k3,k4,k5⟩:=w_
 refine⟨?_,fun b hb=>(k2 b (fun e=>by have e:b=w.heap.size:=e;omega)).trans ?_,k3,k4,k5⟩
 ·show _ ≤ ((w.drew.alloc _).freeze _ 1).heap.size
  rw[k1]
  show _≤(w.heap.push _).size
  simp
 ·show (w.heap.push _)[b]? = _
  rw[Array.getElem?_push,if_neg (by omega)]
theorem qBx{s:ByteArray}{n:Int}(hl:s.size≤18)(h:Lib.atoi s.data.toList=some n):Spec Tryz.prog 170 [.string s] μ fun v _=>v= .tuple #[.int .i64 n,.nilIface]:=by
 refine SpecH.calls ⟨_,Tryz.func170,by kernel_rfl,by kernel_rfl⟩ fun w hm ho hap=>?_
 refine(Any.internal_strconv_Atoi shAtoi s n hl h w).mono ?_
 rintro e w' ⟨rfl,t,rfl⟩
 have w_:=tA w (shAtoiRen.t 5) t
 obtain⟨k1,k2,k3,k4,k5⟩:=w_
 exact⟨_,_,_,rfl,rfl,Step.more hm ho hap k1 k2 k3 k4 k5⟩
theorem qKk{s:ByteArray}{n:Int}(hl:s.size≤18)(h:Lib.atoi s.data.toList=some n):Spec Tryz.prog 141 [.string s] μ fun v _=>v= .tuple #[.int .i64 n,.nilIface]:=by
 refine Spec.mk Tryz.func141 (by kernel_rfl) ?_
 refine cPl (qBx hl h) fun v μ1 hle1 hR=>?_
 obtain rfl:=hR
 refine iIn (fun h=>absurd h (by decide)) (fun _=>?_)
 exact rPl rfl
theorem nQ{n:Int}(h0:0≤n)(h1:n<100):Spec Tryz.prog 100 [.string (mkS (Lib.itoa n))] μ fun v _=>v= .tuple #[.int .i64 n,.bool true]:=by
 have hsz:(mkS (Lib.itoa n)).size=(Lib.itoa n).length:=cD _
 have hil:=pD (n:=n) (by omega) (by omega)
 have w_:=Int.eq_ofNat_of_zero_le h0
 obtain⟨k,hk⟩:=w_
 refine Spec.mk Tryz.func100 (by kernel_rfl) ?_
 refine cPl (qKk (n:=n) (by omega) (qKf n)) fun v μ1 hle1 hR=>?_
 obtain rfl:=hR
 refine iIn (fun h=>absurd h (by decide)) (fun _=>?_)
 have hI:=yF (μ:=μ1) (k:=k) (by omega)
 rw[←hk]at hI
 refine cGv hI ?_
 refine aL (fun h=>absurd rfl h) (fun _=>?_)
 exact rPl rfl
variable {L:List Bs} {b:Option Addr} {c i r:Nat} {h:Mem}
theorem fT(hs:Sl μ 1 b L.length ((L.map mkS).map D.s))(hr:h r=some (tkO b L.length c i)){t:Bs}(ht:L[i]? =some t):
  SpecH Tryz.prog 52 [.pointer (some ⟨r,0,none⟩)] μ h fun v μ' h'=>v= .string (mkS t)∧μ'=μ∧h'=h:=by
 have hi:=(List.getElem?_eq_some_iff.1 ht).1
 have w_:=Nm.tok hs ht
 obtain⟨ad,hel⟩:=w_
 refine SpecH.mk [] Tryz.func52 (by kernel_rfl) ?_
 refine oIn [.int .i64 (i:Int)] rfl (bJ hr rfl) ?_
 refine oIn [.slice b L.length c] rfl (bJ hr rfl) ?_
 refine ifd (fun _=>?_) (fun h=>absurd h (by omega))
 refine oIn [.slice b L.length c] rfl (bJ hr rfl) ?_
 refine oIn [.int .i64 (i:Int)] rfl (bJ hr rfl) ?_
 refine eIn hel ?_
 exact rPl ⟨rfl,rfl,rfl⟩
theorem qLb(hr:h r=some (tkO b L.length c i))(hi:L.length≤i):
  SpecH Tryz.prog 52 [.pointer (some ⟨r,0,none⟩)] μ h fun v μ' h'=>v= .string ⟨#[]⟩∧μ'=μ∧h'=h:=by
 refine SpecH.mk [] Tryz.func52 (by kernel_rfl) ?_
 refine oIn [.int .i64 (i:Int)] rfl (bJ hr rfl) ?_
 refine oIn [.slice b L.length c] rfl (bJ hr rfl) ?_
 refine ifd (fun h=>absurd h (by omega)) (fun _=>?_)
 exact rPl ⟨rfl,rfl,rfl⟩
theorem eO(hr:h r=some (tkO b L.length c i)):
  SpecH Tryz.prog 27 [.pointer (some ⟨r,0,none⟩)] μ h fun v μ' h'=>v= .bool (decide ((i:Int)=L.length))∧μ'=μ∧h'=h:=by
 refine SpecH.mk [] Tryz.func27 (by kernel_rfl) ?_
 refine oIn [.int .i64 (i:Int)] rfl (bJ hr rfl) ?_
 refine oIn [.slice b L.length c] rfl (bJ hr rfl) ?_
 exact rPl ⟨rfl,rfl,rfl⟩
theorem iM(hs:Sl μ 1 b L.length ((L.map mkS).map D.s))(hn:L.length≤20000)(hr:h r=some (tkO b L.length c i)){t:Bs}(ht:L[i]? =some t):
  SpecH Tryz.prog 51 [.pointer (some ⟨r,0,none⟩),.string (mkS t)] μ h fun v μ' h'=>v= .bool true∧μ'=μ∧h'=h.set r (tkO b L.length c (i+1)):=by
 have hi:=(List.getElem?_eq_some_iff.1 ht).1
 refine SpecH.mk [] Tryz.func51 (by kernel_rfl) ?_
 refine cOw (fT hs hr ht) fun v μ1 h1 hle1 hap1 hR=>?_
 obtain⟨rfl,e1,rfl⟩:=hR
 obtain rfl:=e1.symm
 refine ifd (fun _=>?_) (fun h=>absurd rfl h)
 refine And.intro ?_ (And.intro ?_ trivial)
 ·refine oIn [.int .i64 (i : Int)] rfl (bJ hr rfl) ?_
  refine oIn [.slice b L.length c] rfl (bJ hr rfl) ?_
  refine ifd (fun _=>?_) (fun h=>absurd h (by omega))
  refine oIn [.int .i64 (i:Int)] rfl (bJ hr rfl) ?_
  refine aC (by omega) (by omega) ?_
  refine sIn [.slice b L.length c,.int .i64 i] 64 hr rfl (by show 1+1≤2;decide) ?_
  exact rPl ⟨rfl,rfl,rfl⟩
 ·refine oIn [.slice b L.length c] rfl (bJ hr rfl) ?_
  refine oIn [.int .i64 (i:Int)] rfl (bJ hr rfl) ?_
  refine ifd (fun _=>?_) (fun h=>absurd h (by omega))
  refine oIn [.int .i64 (i:Int)] rfl (bJ hr rfl) ?_
  refine aC (by omega) (by omega) ?_
  refine sIn [.slice b L.length c,.int .i64 i] 64 hr rfl (by show 1+1≤2;decide) ?_
  exact rPl ⟨rfl,rfl,rfl⟩
theorem pW(hs:Sl μ 1 b L.length ((L.map mkS).map D.s))(hr:h r=some (tkO b L.length c i)){t:Bs}(hne:t≠[])(ht:L[i]?≠some t):
  SpecH Tryz.prog 51 [.pointer (some ⟨r,0,none⟩),.string (mkS t)] μ h fun v μ' h'=>v= .bool false∧μ'=μ∧h'=h:=by
 refine SpecH.mk [] Tryz.func51 (by kernel_rfl) ?_
 cases hu:L[i]? with
 |some u=>
  refine cOw (fT hs hr hu) fun v μ1 h1 hle1 hap1 hR=>?_
  obtain⟨rfl,e1,rfl⟩:=hR
  obtain rfl:=e1.symm
  refine ifd (fun e=>absurd (by rw[hu,bA e]) ht) (fun _=>?_)
  exact And.intro (rPl ⟨rfl,rfl,rfl⟩) (And.intro (rPl ⟨rfl,rfl,rfl⟩) trivial)
 |none=>
  refine cOw (qLb hr (List.getElem?_eq_none_iff.1 hu)) fun v μ1 h1 hle1 hap1 hR=>?_
  obtain⟨rfl,e1,rfl⟩:=hR
  obtain rfl:=e1.symm
  refine ifd (fun e=>absurd (bA (a:=[]) e).symm hne) (fun _=>?_)
  exact And.intro (rPl ⟨rfl,rfl,rfl⟩) (And.intro (rPl ⟨rfl,rfl,rfl⟩) trivial)
theorem qJt(hs:Sl μ 1 b L.length ((L.map mkS).map D.s))(hn:L.length≤20000)(hr:h r=some (tkO b L.length c i)){n:Int}(hn0:0≤n)(hn1:n<100)(ht:L[i]? =some (Lib.itoa n)):
  SpecH Tryz.prog 53 [.pointer (some ⟨r,0,none⟩)] μ h fun v _ h'=>v= .tuple #[.int .i64 n,.bool true]∧h'=h.set r (tkO b L.length c (i+1)):=by
 have hi:=(List.getElem?_eq_some_iff.1 ht).1
 refine SpecH.mk [] Tryz.func53 (by kernel_rfl) ?_
 refine cOw (fT hs hr ht) fun v μ1 h1 hle1 hap1 hR=>?_
 obtain⟨rfl,e1,rfl⟩:=hR
 obtain rfl:=e1.symm
 refine cPl (nQ hn0 hn1) fun v μ2 hle2 hR=>?_
 obtain rfl:=hR
 refine iIn (fun h=>nomatch h) (fun _=>?_)
 refine cOw (eO hr) fun v μ3 h3 hle3 hap3 hR=>?_
 obtain⟨rfl,e3,rfl⟩:=hR
 obtain rfl:=e3.symm
 refine ifd (fun h=>absurd h (by omega)) (fun _=>?_)
 refine oIn [.int .i64 (i:Int)] rfl (bJ hr rfl) ?_
 refine aC (by omega) (by omega) ?_
 refine sIn [.slice b L.length c,.int .i64 i] 64 hr rfl (by show 1+1≤2;decide) ?_
 exact rPl ⟨rfl,rfl⟩
end
end Go.Vx
namespace Go.Vx
open Go.Proofs Classical
def tmS(t:T)(p:Option Addr×Nat):List SV:=[.val (.int .i64 t.tm.kind),.val (.int .i64 t.tm.num),.val (.string t.tm.name),.val (.slice p.1 t.tm.args.length p.2)]
def zTS:List SV:=[.val (.int .i64 0),.val (.int .i64 0),.val (.string ⟨#[]⟩),.val (.slice none 0 0)]
section
variable {μ:Mem}
theorem qBo(s:ByteArray):Spec Tryz.prog 145 [.string s] μ fun v μ'=>RepV μ' (T.sym s).tm.d v:=by
 refine Spec.mk Tryz.func145 (by kernel_rfl) ?_
 intro r1
 refine rPl ?_
 rw[T.tm,Tm.d_mk]
 exact⟨_,rfl,RepS.int (RepS.int (RepS.str (RepS.last (Rep.nilSl 4))))⟩
theorem qAm(n:Int):Spec Tryz.prog 146 [.int .i64 n] μ fun v μ'=>RepV μ' (T.num n).tm.d v:=by
 refine Spec.mk Tryz.func146 (by kernel_rfl) ?_
 intro r1
 refine rPl ?_
 rw[T.tm,Tm.d_mk]
 exact⟨_,rfl,RepS.int (RepS.int (RepS.str (RepS.last (Rep.nilSl 4))))⟩
theorem qJh:RepV μ T.nil.tm.d (.agg (T.nil.tm.cs (none,0)).toArray):=by
 rw[T.tm,Tm.d_mk]
 exact⟨_,rfl,RepS.int (RepS.int (RepS.str (RepS.last (Rep.nilSl 4))))⟩
theorem uI{xs:List T}{base:Option Addr}{cap:Nat}(hs:Sl μ 4 base xs.length ((xs.map T.tm).map Tm.d))(hm:xs.length≤1000):
  Spec Tryz.prog 142 [.slice base xs.length cap] μ fun v μ'=>RepV μ' (xs.foldr T.pair T.nil).tm.d v:=by
 refine Spec.mk Tryz.func142 (by kernel_rfl) ?_
 intro r2 r3
 refine aC (by omega) (by omega) ?_
 refine lIn (fun z:Nat×Int×(Option Addr×Nat)×Mem=>z.1≤xs.length∧z.2.1=(z.1:Int)-1∧μ.Le z.2.2.2∧RepV z.2.2.2 ((xs.drop z.1).foldr T.pair T.nil).tm.d (.agg (((xs.drop z.1).foldr T.pair T.nil).tm.cs z.2.2.1).toArray))
  (fun(k,x,p,μ')=>⟨[(0,.val (.slice base xs.length cap)),(2,.loc 0 r2 0),(3,.loc 1 r3 0),(4,.val (.int .i64 x))],[(0,some (.cells r2 zTS 57)),(1,some (.cells r3 (tmS ((xs.drop k).foldr T.pair T.nil) p) 57))],2,μ',Mem.nil⟩) (fun z=>z.1)
  (xs.length,(xs.length:Int)-1,(none,0),μ) ⟨Nat.le_refl _,rfl,Mem.Le.refl _,by dsimp only;rw[List.drop_length];exact qJh⟩ (fun(_,_,_,_)=>⟨rfl,rfl⟩) ⟨⟨rfl,rfl,rfl,rfl,trivial⟩,⟨rfl,by rw[List.drop_length];rfl,trivial⟩,rfl,rfl⟩ ?_
 rintro⟨k,x,p,μ'⟩ ⟨hk,hx,hle,hR⟩
 dsimp only at hk hx hle hR
 refine ifd (fun h0=>?_) (fun h0=>?_)
 ·obtain ⟨j, rfl⟩ : ∃ j, k = j + 1 := ⟨k - 1, by omega⟩
  obtain rfl:x=(j:Int):=by omega
  have w_:=aSo (l:=xs) (i:=j) (by omega)
  obtain⟨t,ht⟩:=w_
  have w_:=T.elemL (hs.mono hle) ht
  obtain⟨ad,q,hel,hr⟩:=w_
  refine eIn hel ?_
  refine cPl (oV hr hR) fun v μ2 hle2 hR2=>?_
  have w_:=Tm.invV hR2
  obtain⟨p2,rfl⟩:=w_
  have hd:xs.drop j=t::xs.drop (j+1):=bB ht
  refine aC (by omega) (by omega) ⟨(j,(j:Int)-1,p2,μ2),⟨by dsimp only;omega,rfl,hle.trans hle2,?_⟩,by dsimp only;omega,⟨⟨rfl,rfl,rfl,rfl,trivial⟩,⟨rfl,?_,trivial⟩,rfl,rfl⟩⟩
  ·dsimp only
   rw[hd];exact hR2
  ·rw[hd];rfl
 ·obtain rfl : k = 0 := by omega
  refine rPl ?_
  rw[List.drop_zero]at hR
  exact hR
variable {L:List Bs} {b:Option Addr} {c i r:Nat} {h:Mem}
theorem no_nm{n:Int}(h0:0≤n):∃b0 l,Lib.itoa n=b0::l∧qCl b0∧¬gS (mkS (Lib.itoa n)):=by
 cases e:Lib.itoa n with
 |nil=>exact absurd e (tJ n)
 |cons b0 l=>
  have hb:qCl b0:=by
   rw[Lib.itoa,if_neg (by omega)]at e
   exact uQ e
  refine⟨b0,l,rfl,hb,fun hN=>?_⟩
  have:=hN.2.2 0 b0 rfl
  have h1:=hb.1
  have h2:=hb.2
  rcases this with k|k
  ·omega
  ·have := k.1
   simp at this
theorem kC{t:T}(ha:Atm t)(hs:Sl μ 1 b L.length ((L.map mkS).map D.s))(hn:L.length≤20000)(hr:h r=some (tkO b L.length c i))(hk:At L i (cO t)):
  SpecH Tryz.prog 101 [.pointer (some ⟨r,0,none⟩)] μ h fun v μ' h'=>∃tv,v= .tuple #[tv,.bool true]∧RepV μ' t.tm.d tv∧h'=h.set r (tkO b L.length c (i+(cO t).length)):=by
 cases t with
 |nil=>
  have hk:At L i [[40],[41]]:=hk
  have hk1:=hk.cons.1
  have hk2:=hk.cons.2.cons.1
  have hi:=(List.getElem?_eq_some_iff.1 hk1).1
  refine SpecH.mk [] Tryz.func101 (by kernel_rfl) ?_
  intro r2
  refine cOw (eO hr) fun v μ1 h1 hle1 hap1 hR=>?_
  obtain⟨rfl,e1,rfl⟩:=hR
  obtain rfl:=e1.symm
  refine ifd (fun h=>absurd h (by omega)) (fun _=>?_)
  refine cOw (fT hs hr hk1) fun v μ2 h2 hle2 hap2 hR=>?_
  obtain⟨rfl,e2,rfl⟩:=hR
  obtain rfl:=e2.symm
  refine ifd (fun _=>?_) (fun h=>absurd rfl h)
  refine oIn [.int .i64 (i:Int)] rfl (bJ hr rfl) ?_
  refine aC (by omega) (by omega) ?_
  refine sIn [.slice b L.length c,.int .i64 i] 64 hr rfl (by show 1+1≤2;decide) ?_
  intro r29
  refine lIn (fun _:Unit=>True) (fun _=>⟨[(0,.val (.pointer (some ⟨r,0,none⟩))),(2,.loc 0 r2 0),(4,.val (.string ⟨#[40]⟩)),(5,.row 1 (some r29) 0 0)],[(0,some (.cells r2 zTS 57)),(1,some (.row (some r29) 0 57 4 []))],2,μ,h2.set r (tkO b L.length c (i+1))⟩) (fun _=>0)
   () trivial (fun _=>⟨rfl,rfl⟩) ⟨⟨rfl,rfl,rfl,rfl,trivial⟩,⟨rfl,rfl,trivial⟩,rfl,rfl⟩ ?_
  rintro- -
  refine cOw (iM hs hn (Mem.set_at _ _ _) hk2) fun v μ3 h3 hle3 hap3 hR=>?_
  obtain⟨rfl,e3,rfl⟩:=hR
  obtain rfl:=e3.symm
  refine iIn (fun _=>?_) (fun h=>nomatch h)
  refine bF [1] fun μ4 hle4 hno4 hat4=>?_
  have hsl:Sl μ4 4 (some ⟨r29,0,none⟩) ([]:List T).length ((([]:List T).map T.tm).map Tm.d):=by
   have w_:=Rep.sl (Rows.sl (ds:=[]) hat4 Rows.nil (Nat.zero_le _))
   obtain⟨bz,cz,ez,hz⟩:=w_
   have w_:=Value.slice.inj ez
   obtain⟨e1,-,-⟩:=w_
   rw[←e1]at hz
   exact hz
  have hl:Spec Tryz.prog 142 [.slice (some ⟨r29,0,none⟩) 0 0] μ4 fun v μ'=>RepV μ' T.nil.tm.d v:=uI (xs:=[]) (cap:=0) hsl (Nat.zero_le _)
  refine cE hl fun v μ5 hle5 hR=>?_
  have w_:=Tm.invV hR
  obtain⟨p5,rfl⟩:=w_
  refine rPl ⟨_,rfl,hR,?_⟩
  rw[Mem.set_set]
  rfl
 |sym s=>
  have hk:At L i [lsS s]:=hk
  have hk1:=hk.cons.1
  have hi:=(List.getElem?_eq_some_iff.1 hk1).1
  have w_:=qHn ha
  obtain⟨b0,l0,e0,hb1,hb2⟩:=w_
  refine SpecH.mk [] Tryz.func101 (by kernel_rfl) ?_
  intro r2
  refine cOw (eO hr) fun v μ1 h1 hle1 hap1 hR=>?_
  obtain⟨rfl,e1,rfl⟩:=hR
  obtain rfl:=e1.symm
  refine ifd (fun h=>absurd h (by omega)) (fun _=>?_)
  refine cOw (fT hs hr hk1) fun v μ2 h2 hle2 hap2 hR=>?_
  obtain⟨rfl,e2,rfl⟩:=hR
  obtain rfl:=e2.symm
  refine ifd (fun e=>?_) (fun _=>?_)
  ·have e : lsS s = [40] := bA e
   rw[e0]at e
   have e:=(List.cons.inj e).1
   rw[e]at hb1
   exact absurd hb1 (by decide)
  refine oIn [.int .i64 (i:Int)] rfl (bJ hr rfl) ?_
  refine aC (by omega) (by omega) ?_
  refine sIn [.slice b L.length c,.int .i64 i] 64 hr rfl (by show 1+1≤2;decide) ?_
  refine aK 0 b0 rfl (by show(lsS s)[0]? =_;rw[e0];rfl) ?_
  refine ifd (fun h=>absurd h (by omega)) (fun _=>?_)
  refine cGv (dY s μ) ?_
  refine ifd (fun _=>?_) (fun h=>absurd ha h)
  refine cPl (qBo s) fun v μ3 hle3 hR=>?_
  have w_:=Tm.invV hR
  obtain⟨p5,rfl⟩:=w_
  exact rPl ⟨_,rfl,hR,rfl⟩
 |num n=>
  have hk:At L i [Lib.itoa n]:=hk
  have hk1:=hk.cons.1
  have hi:=(List.getElem?_eq_some_iff.1 hk1).1
  have w_:=no_nm ha.1
  obtain⟨b0,l0,e0,hb,hnn⟩:=w_
  have hb1:=hb.1
  have hb2:=hb.2
  refine SpecH.mk [] Tryz.func101 (by kernel_rfl) ?_
  intro r2
  refine cOw (eO hr) fun v μ1 h1 hle1 hap1 hR=>?_
  obtain⟨rfl,e1,rfl⟩:=hR
  obtain rfl:=e1.symm
  refine ifd (fun h=>absurd h (by omega)) (fun _=>?_)
  refine cOw (fT hs hr hk1) fun v μ2 h2 hle2 hap2 hR=>?_
  obtain⟨rfl,e2,rfl⟩:=hR
  obtain rfl:=e2.symm
  refine ifd (fun e=>?_) (fun _=>?_)
  ·have e : Lib.itoa n = [40] := bA e
   rw[e0]at e
   have e:=(List.cons.inj e).1
   rw[e]at hb1
   exact absurd hb1 (by decide)
  refine oIn [.int .i64 (i:Int)] rfl (bJ hr rfl) ?_
  refine aC (by omega) (by omega) ?_
  refine sIn [.slice b L.length c,.int .i64 i] 64 hr rfl (by show 1+1≤2;decide) ?_
  refine aK 0 b0 rfl (by show(Lib.itoa n)[0]? =_;rw[e0];rfl) ?_
  refine ifd (fun h=>absurd h (by omega)) (fun _=>?_)
  refine cGv (dY _ μ) ?_
  refine ifd (fun h=>absurd h hnn) (fun _=>?_)
  refine cPl (nQ ha.1 ha.2) fun v μ3 hle3 hR=>?_
  obtain rfl:=hR
  refine cPl (qAm n) fun v μ4 hle4 hR=>?_
  have w_:=Tm.invV hR
  obtain⟨p5,rfl⟩:=w_
  exact rPl ⟨_,rfl,hR,rfl⟩
 |var n=>cases ha
 |pair x y=>cases ha
end
end Go.Vx
namespace Go.Vx
open Go.Proofs Classical
section
variable {μ:Mem} {L:List Bs} {b:Option Addr} {c i r:Nat} {h:Mem}
theorem qHt{μ:Mem}{xs:List T}{ys:List Value}{b5:Option Nat}{c5:Nat}(hat:RowAt μ b5 c5 4 ys)(hrow:Rows μ 4 ((xs.map T.tm).map Tm.d) ys)(hm:xs.length≤1000):Sl μ 4 (b5.map fun r=>⟨r,0,none⟩) xs.length ((xs.map T.tm).map Tm.d):=by
 have k:=Rows.sl hat hrow (by rw[←hrow.len,List.length_map,List.length_map];exact Nat.le_trans (m:=1000) hm (by decide))
 have w_:=Rep.sl k
 obtain⟨bz,cz,ez,hsz⟩:=w_
 have w_:=Value.slice.inj ez
 obtain⟨e1,e2,_⟩:=w_
 rw[List.length_map,List.length_map]at hsz
 rwa [←e1]at hsz
set_option maxHeartbeats 2000000 in
theorem qKl{a x:T}(ha:Atm a)(hx:Atm x)(hs:Sl μ 1 b L.length ((L.map mkS).map D.s))(hn:L.length≤20000)(hr:h r=some (tkO b L.length c i))(hk:At L i (dL (.pair a x))):
  SpecH Tryz.prog 101 [.pointer (some ⟨r,0,none⟩)] μ h fun v μ' h'=>∃tv,v= .tuple #[tv,.bool true]∧RepV μ' (T.pair a x).tm.d tv∧h'=h.set r (tkO b L.length c (i+(dL (.pair a x)).length)):=by
 have hk1:=(show At L i ([40]::((cO a++if x= .nil then []else [46]::cO x)++[[41]]))from hk).cons
 obtain⟨hk1,hk2⟩:=hk1
 have hka:=hk2.left.left
 have hi:=(List.getElem?_eq_some_iff.1 hk1).1
 have w_:=oU ha
 obtain⟨ka,ra,ea,ea1,ea2⟩:=w_
 have hka1:L[i+1]? =some ka:=(show At L (i+1) (ka::ra)from ea ▸ hka).cons.1
 refine SpecH.mk [] Tryz.func101 (by kernel_rfl) ?_
 intro r2
 refine cOw (eO hr) fun v μ1 h1 hle1 hap1 hR=>?_
 obtain⟨rfl,e1,rfl⟩:=hR
 obtain rfl:=e1.symm
 refine ifd (fun h=>absurd h (by omega)) (fun _=>?_)
 refine cOw (fT hs hr hk1) fun v μ2 h2 hle2 hap2 hR=>?_
 obtain⟨rfl,e2,rfl⟩:=hR
 obtain rfl:=e2.symm
 refine ifd (fun _=>?_) (fun h=>absurd rfl h)
 refine oIn [.int .i64 (i:Int)] rfl (bJ hr rfl) ?_
 refine aC (by omega) (by omega) ?_
 refine sIn [.slice b L.length c,.int .i64 ((i:Nat):Int)] 64 hr rfl (by show 1+1≤2;decide) ?_
 intro r29
 refine lIn (fun z:Nat×List T×(List Value×Option Nat×Nat)×Mem×Mem=>((z.1=0∧z.2.1=[]∧z.2.2.2.2=h2.set r (tkO b L.length c (i+1)))∨(z.1=1∧z.2.1=[a]∧z.2.2.2.2=h2.set r (tkO b L.length c (i+1+(cO a).length))))∧μ.Le z.2.2.2.1∧Rows z.2.2.2.1 4 ((z.2.1.map T.tm).map Tm.d) z.2.2.1.1)
  (fun(_,_,(ys,b5,c5),μ',h')=>⟨[(0,.val (.pointer (some ⟨r,0,none⟩))),(2,.loc 0 r2 0),(4,.val (.string ⟨#[40]⟩)),(5,.row 1 b5 ys.length c5)],[(0,some (.cells r2 zTS 57)),(1,some (.row b5 c5 57 4 ys))],2,μ',h'⟩) (fun z=>1-z.1)
  (0,[],([],some r29,0),μ,h2.set r (tkO b L.length c (i+1))) ⟨.inl ⟨rfl,rfl,rfl⟩,Mem.Le.refl _,.nil⟩ (fun(_,_,(_,_,_),_,_)=>⟨rfl,rfl⟩) ⟨⟨rfl,rfl,rfl,rfl,trivial⟩,⟨rfl,rfl,trivial⟩,rfl,rfl⟩ ?_
 rintro⟨k,xs,⟨ys,b5,c5⟩,μ',h'⟩ ⟨hor,hle,hrow⟩
 dsimp only at hor hle hrow
 have hs':=hs.mono hle
 rcases hor with⟨rfl,rfl,rfl⟩|⟨rfl,rfl,rfl⟩
 ·have hr1 : (h2.set r (tkO b L.length c (i + 1))) r = some (tkO b L.length c (i + 1)) := Mem.set_at _ _ _
  refine cOw (pW hs' hr1 (t:=[41]) (by simp) (by rw[hka1];exact fun e=>ea1 (Option.some.inj e))) fun v μ3 h3 hle3 hap3 hR=>?_
  obtain⟨rfl,e3,e3'⟩:=hR
  obtain rfl:=e3.symm
  obtain rfl:=e3'.symm
  refine iIn (fun h=>nomatch h) (fun _=>?_)
  refine cOw (fT hs' hr1 hka1) fun v μ4 h4 hle4 hap4 hR=>?_
  obtain⟨rfl,e4,e4'⟩:=hR
  obtain rfl:=e4.symm
  obtain rfl:=e4'.symm
  refine ifd (fun e=>absurd (bA (b:=[46]) e) ea2) (fun _=>?_)
  refine cOw (kC ha hs' hn hr1 hka) fun v μ5 h5 hle5 hap5 hR=>?_
  obtain⟨tv,rfl,hrep,rfl⟩:=hR
  have w_:=Tm.invV hrep
  obtain⟨p,rfl⟩:=w_
  intro r9
  refine iIn (fun h=>nomatch h) (fun _=>?_)
  intro r91
  have hyl:ys.length=0:=hrow.len.symm
  refine gIn ?_ ?_ fun b' c' _=>?_
  ·show (ys.length + 1) * _ ≤ _
   rw[hyl];decide
  ·show ys.length + 1 ≤ _
   rw[hyl];decide
  refine⟨(1,[a],(_,b',c'),μ5,_),⟨.inr ⟨rfl,rfl,Mem.set_set _ _ _ _⟩,hle.trans hle5,?_⟩,by dsimp only;omega,⟨⟨rfl,rfl,rfl,rfl,trivial⟩,⟨rfl,rfl,trivial⟩,rfl,rfl⟩⟩
  exact(hrow.mono hle5).append (Rows.one hrep (Tm.d_n _))
 ·have hyl : ys.length = 1 := hrow.len.symm
  have hr1:(h2.set r (tkO b L.length c (i+1+(cO a).length))) r=some (tkO b L.length c (i+1+(cO a).length)):=Mem.set_at _ _ _
  by_cases hxn:x= .nil
  ·subst hxn
   have hlen:i+(dL (.pair a .nil)).length=i+1+(cO a).length+1:=by
    show i+(([40]::((cO a++(if T.nil= .nil then []else [46]::cO .nil))++[[41]])).length)=_
    rw[if_pos rfl,List.append_nil,List.length_cons,List.length_append,List.length_singleton];omega
   rw[if_pos rfl,List.append_nil]at hk2
   have hk3:=hk2.right.cons.1
   refine cOw (iM hs' hn hr1 hk3) fun v μ3 h3 hle3 hap3 hR=>?_
   obtain⟨rfl,e3,rfl⟩:=hR
   obtain rfl:=e3.symm
   refine iIn (fun _=>?_) (fun h=>nomatch h)
   refine bF [1] fun μ4 hle4 hno4 hat4=>?_
   have hl:Spec Tryz.prog 142 [.slice (b5.map fun r=>⟨r,0,none⟩) ys.length c5] μ4 fun v μ'=>RepV μ' (T.pair a .nil).tm.d v:=by
    rw[hyl]
    exact uI (xs:=[a]) (cap:=c5) (qHt hat4 (hrow.mono hle4) (by show 1≤1000;decide)) (by show 1≤1000;decide)
   refine cE hl fun v μ5 hle5 hR=>?_
   have w_:=Tm.invV hR
   obtain⟨p5,rfl⟩:=w_
   refine rPl ⟨_,rfl,hR,?_⟩
   rw[hlen,Mem.set_set]
  ·have hlen:i+(dL (.pair a x)).length=i+1+(cO a).length+1+(cO x).length+1:=by
    show i+(([40]::((cO a++(if x= .nil then []else [46]::cO x))++[[41]])).length)=_
    rw[if_neg hxn,List.length_cons,List.length_append,List.length_append,List.length_cons,List.length_singleton];omega
   rw[if_neg hxn,List.append_assoc]at hk2
   have hk3:=hk2.right.cons
   obtain⟨hk46,hk4⟩:=hk3
   have hkx:=hk4.left
   have hk41:=hk4.right.cons.1
   have hi3:=(List.getElem?_eq_some_iff.1 hk46).1
   refine cOw (pW hs' hr1 (t:=[41]) (by simp) (by rw[hk46];exact fun e=>by cases e)) fun v μ3 h3 hle3 hap3 hR=>?_
   obtain⟨rfl,e3,e3'⟩:=hR
   obtain rfl:=e3.symm
   obtain rfl:=e3'.symm
   refine iIn (fun h=>nomatch h) (fun _=>?_)
   refine cOw (fT hs' hr1 hk46) fun v μ4 h4 hle4 hap4 hR=>?_
   obtain⟨rfl,e4,e4'⟩:=hR
   obtain rfl:=e4.symm
   obtain rfl:=e4'.symm
   refine ifd (fun _=>?_) (fun h=>absurd rfl h)
   refine cOw (eO hr1) fun v μ6 h6 hle6 hap6 hR=>?_
   obtain⟨rfl,e6,e6'⟩:=hR
   obtain rfl:=e6.symm
   obtain rfl:=e6'.symm
   refine aL (fun _=>?_) (fun h=>absurd h (by omega))
   have key:∀j:Nat,j=i+1+(cO a).length→(h2.set r (tkO b L.length c (i+1+(cO a).length))) r=some (tkO b L.length c j):=fun j e=>by rw[e];exact hr1
   generalize hj:i+1+(cO a).length=j at*
   have hrj:=key j rfl
   clear key
   refine oIn [.int .i64 (j:Int)] rfl (bJ hrj rfl) ?_
   refine aC (by omega) (by omega) ?_
   refine sIn [.slice b L.length c,.int .i64 ((j:Nat):Int)] 64 hrj rfl (by show 1+1≤2;decide) ?_
   have hr7:((h2.set r (tkO b L.length c j)).set r (tkO b L.length c (j+1))) r=some (tkO b L.length c (j+1)):=Mem.set_at _ _ _
   refine cOw (kC hx hs' hn hr7 hkx) fun v μ7 h7 hle7 hap7 hR=>?_
   obtain⟨tv,rfl,hrep,rfl⟩:=hR
   have w_:=Tm.invV hrep
   obtain⟨p,rfl⟩:=w_
   intro r6
   refine iIn (fun h=>nomatch h) (fun _=>?_)
   refine ifd (fun h=>absurd h (by rw[hyl];decide)) (fun _=>?_)
   refine cOw (iM (hs'.mono hle7) hn (Mem.set_at _ _ _) hk41) fun v μ8 h8 hle8 hap8 hR=>?_
   obtain⟨rfl,e8,rfl⟩:=hR
   obtain rfl:=e8.symm
   refine rJ [1] fun μ9 hle9 hno9 hat9=>⟨(fun h=>nomatch h),fun _=>?_⟩
   have hsl:=qHt (xs:=[a]) hat9 ((hrow.mono hle7).mono hle9) (by show 1≤1000;decide)
   have w_:=T.elemL hsl (i:=0) (x:=a) rfl
   obtain⟨ad,q,hel,hra⟩:=w_
   have hrx:=hrep.mono hle9
   refine aC (by omega) (by omega) ?_
   rw[hyl]
   refine lIn (fun z:Nat×Int×T×(Option Addr×Nat)×Mem=>((z.1=1∧z.2.1=0∧z.2.2.1=x)∨(z.1=0∧z.2.1= -1∧z.2.2.1= .pair a x))∧μ9.Le z.2.2.2.2∧RepV z.2.2.2.2 z.2.2.1.tm.d (.agg (z.2.2.1.tm.cs z.2.2.2.1).toArray))
    (fun(_,y,t,p,μ')=>⟨[(0,.val (.pointer (some ⟨r,0,none⟩))),(2,.loc 0 r2 0),(4,.val (.string ⟨#[40]⟩)),(5,.row 1 b5 1 c5),(6,.loc 2 r6 0),(8,.val (.int .i64 y))],[(0,some (.cells r2 zTS 57)),(2,some (.cells r6 (tmS t p) 57))],3,μ',_⟩) (fun z=>z.1)
    (1,0,x,p,μ9) ⟨.inl ⟨rfl,rfl,rfl⟩,Mem.Le.refl _,hrx⟩ (fun(_,_,_,_,_)=>⟨rfl,rfl⟩) ⟨⟨rfl,rfl,rfl,rfl,rfl,rfl,trivial⟩,⟨rfl,rfl,trivial⟩,rfl,rfl⟩ ?_
   rintro⟨k,y,t,p',μ'⟩ ⟨hor,hle',hR'⟩
   dsimp only at hor hle' hR'
   rcases hor with⟨rfl,rfl,rfl⟩|⟨rfl,rfl,rfl⟩
   ·refine ifd (fun _ => ?_) (fun h => absurd h (by decide))
    refine eIn (hel.mono hle') ?_
    refine cPl (oV (hra.mono hle') hR') fun v μ10 hle10 hR10=>?_
    have w_:=Tm.invV hR10
    obtain⟨p10,rfl⟩:=w_
    refine aC (by omega) (by omega) ⟨(0,-1,.pair a t,p10,μ10),⟨.inr ⟨rfl,rfl,rfl⟩,hle'.trans hle10,hR10⟩,by dsimp only;omega,⟨⟨rfl,rfl,rfl,rfl,rfl,rfl,trivial⟩,⟨rfl,rfl,trivial⟩,rfl,rfl⟩⟩
   ·refine ifd (fun h => absurd h (by decide)) (fun _ => ?_)
    refine rPl ⟨_,rfl,hR',?_⟩
    rw[hlen]
    show Mem.set (Mem.set (Mem.set (Mem.set h2 r _) r _) r _) r _=_
    rw[Mem.set_set,Mem.set_set,Mem.set_set]
theorem term_rd{t:T}(ht:Sml t)(hs:Sl μ 1 b L.length ((L.map mkS).map D.s))(hn:L.length≤20000)(hr:h r=some (tkO b L.length c i))(hk:At L i (dL t)):
  SpecH Tryz.prog 101 [.pointer (some ⟨r,0,none⟩)] μ h fun v μ' h'=>∃tv,v= .tuple #[tv,.bool true]∧RepV μ' t.tm.d tv∧h'=h.set r (tkO b L.length c (i+(dL t).length)):=by
 cases t with
 |pair a x=>exact qKl ht.1 ht.2 hs hn hr hk
 |nil=>exact kC (t:= .nil) ht hs hn hr hk
 |sym s=>exact kC (t:= .sym s) ht hs hn hr hk
 |num n=>exact kC (t:= .num n) ht hs hn hr hk
 |var n=>cases ht
theorem qKp{t:T}(ht:Sml t)(hs:Sl μ 1 b L.length ((L.map mkS).map D.s))(hn:L.length≤20000)(hr:h r=some (tkO b L.length c i))(hk:At L i (dL t)):
  SpecH Tryz.prog 54 [.pointer (some ⟨r,0,none⟩)] μ h fun v μ' h'=>∃tv,v= .tuple #[tv,.bool true]∧RepV μ' t.tm.d tv∧h'=h.set r (tkO b L.length c (i+(dL t).length)):=by
 refine SpecH.mk [] Tryz.func54 (by kernel_rfl) ?_
 intro r2
 refine cOw (term_rd ht hs hn hr hk) fun v μ1 h1 hle1 hap1 hR=>?_
 obtain⟨tv,rfl,hrep,rfl⟩:=hR
 have hrep0:=hrep
 have w_:=Tm.invV hrep
 obtain⟨p,rfl⟩:=w_
 intro r4
 refine iIn (fun h=>nomatch h) (fun _=>?_)
 refine cGv (dN t.tm hrep0) ?_
 refine aL (fun h=>absurd (qNh ht).tm h) (fun _=>?_)
 exact rPl ⟨_,rfl,hrep0,rfl⟩
end
end Go.Vx
namespace Go.Vx
open Go.Proofs Classical
theorem At.split{α:Type}{L:List Bs}{i:Nat}{f:α→List Bs}{l:List α}{R:List Bs}(h:At L i (l.flatMap f++R))(j:Nat):At L (i+((l.take j).flatMap f).length) ((l.drop j).flatMap f++R):=by
 have e:l.flatMap f++R=(l.take j).flatMap f++((l.drop j).flatMap f++R):=by rw[←List.append_assoc,←List.flatMap_append,List.take_append_drop]
 rw[e]at h;exact h.right
theorem qGr(x:Pf):pfK x=[40]::lsS x.rel::Lib.itoa x.clause::[40]::((x.values.flatMap fun t=>dL t.toT)++([41]::(x.kids.flatMap pfK++[[41]]))):=by
 obtain⟨r,c,vs,ks⟩:=x
 rw[pfK,tI];simp[Pf.rel,Pf.clause,Pf.values,Pf.kids]
theorem pfK_len(x:Pf):(pfK x).length=4+(x.values.flatMap fun t=>dL t.toT).length+1+(x.kids.flatMap pfK).length+1:=by
 rw[qGr]
 simp only[List.length_cons,List.length_append,List.length_nil];omega
def zPS:List SV:=[.val (.string ⟨#[]⟩),.val (.int .i64 0),.val (.slice none 0 0),.val (.slice none 0 0)]
def zPV:Value:= .agg #[.string ⟨#[]⟩,.int .i64 0,.slice none 0 0,.slice none 0 0]
section
set_option maxHeartbeats 2000000 in
theorem qMa:∀x:Pf,∀{μ h:Mem} {L:List Bs} {b:Option Addr} {c i r:Nat},PfT x→x.cnt≤200→Sl μ 1 b L.length ((L.map mkS).map D.s)→L.length≤20000→h r=some (tkO b L.length c i)→At L i (pfK x)→
  SpecH Tryz.prog 26 [.pointer (some ⟨r,0,none⟩)] μ h fun v μ' h'=>∃pv,v= .tuple #[pv,.bool true]∧RepV μ' x.d pv∧h'=h.set r (tkO b L.length c (i+(pfK x).length)):=
 Pf.ind fun x ih μ h L b c i r hT hc hs hn hr hk=>by
  obtain⟨t1,t2,t3,t4,t5⟩:=hT.inv
  have hlift:=hT.lift
  obtain⟨ts,hts⟩:=hlift
  have hge:=Pf.cnt_eq1 x
  have hkl:x.kids.length≤200:=by
   have:∀l:List Pf,l.length≤Pf.cnts l:=fun l=>by
    induction l with
    |nil=>exact Nat.le_refl _
    |cons y l ih=>
     have:=y.cnt_pos
     rw[Pf.cnts,List.length_cons];omega
   have:=this x.kids
   omega
  have hlen:=pfK_len x
  rw[qGr]at hk
  have w_:=hk.cons
  obtain⟨k0,hk⟩:=w_
  have w_:=hk.cons
  obtain⟨k1,hk⟩:=w_
  have w_:=hk.cons
  obtain⟨k2,hk⟩:=w_
  have w_:=hk.cons
  obtain⟨k3,hk⟩:=w_
  have hV:=hk.split
  have hend:=hk.right.cons
  obtain⟨kend,hkk⟩:=hend
  have hK:=hkk.split
  have kfin:=hkk.right.cons.1
  have i0:=(List.getElem?_eq_some_iff.1 k3).1
  refine SpecH.mk [] Tryz.func26 (by kernel_rfl) ?_
  intro r2
  refine cOw (iM hs hn hr k0) fun v μ1 h1 hle1 hap1 hR=>?_
  obtain⟨rfl,e1,rfl⟩:=hR
  obtain rfl:=e1.symm
  refine iIn (fun h=>nomatch h) (fun _=>?_)
  refine cOw (eO (Mem.set_at _ _ _)) fun v μ2 h2 hle2 hap2 hR=>?_
  obtain⟨rfl,e2,e2'⟩:=hR
  obtain rfl:=e2.symm
  obtain rfl:=e2'.symm
  refine ifd (fun h=>absurd h (by omega)) (fun _=>?_)
  refine cOw (fT hs (Mem.set_at _ _ _) k1) fun v μ3 h3 hle3 hap3 hR=>?_
  obtain⟨rfl,e3,e3'⟩:=hR
  obtain rfl:=e3.symm
  obtain rfl:=e3'.symm
  intro r4
  have hr1:(h.set r (tkO b L.length c (i+1))) r=some (tkO b L.length c (i+1)):=Mem.set_at _ _ _
  refine oIn [.int .i64 (((i+1):Nat):Int)] rfl (bJ hr1 rfl) ?_
  refine aC (by omega) (by omega) ?_
  refine sIn [.slice b L.length c,.int .i64 (((i+1):Nat):Int)] 64 hr1 rfl (by show 1+1≤2;decide) ?_
  have hr2:((h.set r (tkO b L.length c (i+1))).set r (tkO b L.length c (i+2))) r=some (tkO b L.length c (i+2)):=Mem.set_at _ _ _
  refine cOw (qJt hs hn hr2 t2.1 t2.2 k2) fun v μ4 h4 hle4 hap4 hR=>?_
  obtain⟨rfl,rfl⟩:=hR
  refine iIn (fun h=>nomatch h) (fun _=>?_)
  refine cOw (iM (hs.mono hle4) hn (Mem.set_at _ _ _) k3) fun v μ5 h5 hle5 hap5 hR=>?_
  obtain⟨rfl,e5,rfl⟩:=hR
  obtain rfl:=e5.symm
  refine iIn (fun h=>nomatch h) (fun _=>?_)
  have hH:Mem.set (Mem.set (Mem.set (Mem.set h r (tkO b L.length c (i+1))) r (tkO b L.length c (i+2))) r (tkO b L.length c (i+2+1))) r (tkO b L.length c (i+2+1+1))=h.set r (tkO b L.length c (i+4)):=by
   rw[Mem.set_set,Mem.set_set,Mem.set_set]
  refine bS (fun z:Nat×(List Value×Option Nat×Nat)×Mem×Mem=>z.1≤x.values.length∧μ.Le z.2.2.1∧Rows z.2.2.1 4 ((x.values.take z.1).map Tm.d) z.2.1.1∧z.2.2.2=h.set r (tkO b L.length c (i+4+((x.values.take z.1).flatMap fun t=>dL t.toT).length)))
   (fun(_,(ys,b5,c5),μ',h')=>⟨[(0,.val (.pointer (some ⟨r,0,none⟩))),(2,.loc 0 r2 0),(4,.loc 1 r4 0)],[(0,some (.cells r2 zPS 31)),(1,some (.cells r4 [.val (.string x.rel),.val (.int .i64 x.clause),.row 2 b5 ys.length c5,.val (.slice none 0 0)] 31)),(2,some (.row b5 c5 57 4 ys))],3,μ',h'⟩) (fun z=>x.values.length-z.1)
   (0,([],none,0),μ4,_) ⟨Nat.zero_le _,hle4,.nil,hH⟩ (fun(_,(_,_,_),_,_)=>⟨rfl,rfl⟩) ⟨⟨⟨_,rfl,.inl rfl⟩,⟨_,rfl,.inl rfl⟩,⟨_,rfl,.inl rfl⟩,trivial⟩,⟨.inl rfl,.inr (.inr ⟨_,_,_,_,rfl,rfl,.inl rfl,.inl rfl,.inr ⟨2,rfl,rfl,Nat.le_refl _⟩,.inl rfl,trivial⟩),.inr (.inl ⟨_,_,rfl,Nat.le_refl _⟩),trivial⟩,rfl,rfl⟩ ?_
  clear hap1 hap2 hap3 hap4 hap5
  rintro⟨j,⟨ys,b5,c5⟩,μ',h'⟩ ⟨hj,hle,hrow,hh⟩
  dsimp only at hj hle hrow hh
  subst hh
  have hs':=hs.mono hle
  have hyl:ys.length=j:=by
   have:=hrow.len
   rw[List.length_map,List.length_take]at this
   omega
  generalize hP:i+4+((x.values.take j).flatMap fun t=>dL t.toT).length=P
  have hrP:(h.set r (tkO b L.length c P)) r=some (tkO b L.length c P):=Mem.set_at _ _ _
  by_cases hjl:j<x.values.length
  ·have w_ := aSo (l := x.values) (i := j) hjl
   obtain⟨tv,htv⟩:=w_
   have hsm:=t4 tv (mAt htv)
   have hAt:=hV j
   rw[hP,bB htv,List.flatMap_cons,List.append_assoc]at hAt
   have w_:=qGc hsm
   obtain⟨kk,kr,ek,hk41⟩:=w_
   have hkk1:L[P]? =some kk:=by
    have h7:=hAt.left
    rw[ek]at h7
    exact h7.cons.1
   refine cOw (pW hs' hrP (t:=[41]) (by simp) (by rw[hkk1];exact fun e=>hk41 (Option.some.inj e))) fun v μ6 h6 hle6 hap6 hR=>?_
   obtain⟨rfl,e6,e6'⟩:=hR
   obtain rfl:=e6.symm
   obtain rfl:=e6'.symm
   refine iIn (fun _=>?_) (fun h=>nomatch h)
   have htm:tv.toT.tm=tv:=by
    have h8:=mAt htv
    rw[hts]at h8
    have w_:=List.mem_map.1 h8
    obtain⟨t0,_,e0⟩:=w_
    rw[←e0,T.toT_tm]
   refine cOw (qKp hsm hs' hn hrP hAt.left) fun v μ7 h7 hle7 hap7 hR=>?_
   obtain⟨tvv,rfl,hrep,rfl⟩:=hR
   rw[htm]at hrep
   have w_:=Tm.invV hrep
   obtain⟨p,rfl⟩:=w_
   intro r7
   refine iIn (fun h=>nomatch h) (fun _=>?_)
   intro r58
   refine gIn ?_ ?_ fun b' c' _=>?_
   ·show(ys.length+1)*56≤_;omega
   ·exact Nat.le_trans (m:=1000) (show ys.length+1≤_ by omega) (by decide)
   refine⟨(j+1,(_,b',c'),μ7,_),⟨by dsimp only;omega,hle.trans hle7,?_,?_⟩,by dsimp only;omega,⟨⟨rfl,rfl,rfl,trivial⟩,⟨rfl,rfl,rfl,trivial⟩,rfl,rfl⟩⟩
   ·dsimp only
    rw[List.take_add_one,htv,Option.toList_some,List.map_append,List.map_singleton]
    exact(hrow.mono hle7).append (Rows.one hrep (Tm.d_n _))
   ·show Mem.set (Mem.set h r _) r _ = _
    dsimp only
    rw[Mem.set_set,List.take_add_one,htv,Option.toList_some,List.flatMap_append,List.flatMap_singleton,List.length_append,←Nat.add_assoc,hP]
  ·obtain rfl : j = x.values.length := by omega
   rw[List.take_length]at hP
   rw[hP]at kend hK kfin
   refine cOw (iM hs' hn hrP kend) fun v μ6 h6 hle6 hap6 hR=>?_
   obtain⟨rfl,e6,rfl⟩:=hR
   obtain rfl:=e6.symm
   refine iIn (fun h=>nomatch h) (fun _=>?_)
   rw[List.take_length]at hrow
   refine bS (fun z:Nat×(List Value×Option Nat×Nat)×Mem×Mem=>z.1≤x.kids.length∧μ'.Le z.2.2.1∧Rows z.2.2.1 4 ((x.kids.take z.1).map Pf.d) z.2.1.1∧z.2.2.2=h.set r (tkO b L.length c (P+1+((x.kids.take z.1).flatMap pfK).length)))
    (fun(_,(zs,b6,c6),μ'',h'')=>⟨[(0,.val (.pointer (some ⟨r,0,none⟩))),(2,.loc 0 r2 0),(4,.loc 1 r4 0)],[(0,some (.cells r2 zPS 31)),(1,some (.cells r4 [.val (.string x.rel),.val (.int .i64 x.clause),.row 2 b5 ys.length c5,.row 3 b6 zs.length c6] 31)),(2,some (.row b5 c5 57 4 ys)),(3,some (.row b6 c6 31 4 zs))],4,μ'',h''⟩) (fun z=>x.kids.length-z.1)
    (0,([],none,0),μ',_) ⟨Nat.zero_le _,Mem.Le.refl _,.nil,Mem.set_set _ _ _ _⟩ (fun(_,(_,_,_),_,_)=>⟨rfl,rfl⟩) ⟨⟨⟨_,rfl,.inl rfl⟩,⟨_,rfl,.inl rfl⟩,⟨_,rfl,.inl rfl⟩,trivial⟩,⟨.inl rfl,.inr (.inr ⟨_,_,_,_,rfl,rfl,.inl rfl,.inl rfl,.inl rfl,.inr ⟨3,rfl,rfl,Nat.le_refl _⟩,trivial⟩),.inl rfl,.inr (.inl ⟨_,_,rfl,Nat.le_refl _⟩),trivial⟩,rfl,rfl⟩ ?_
   rintro⟨j,⟨zs,b6,c6⟩,μ'',h'⟩ ⟨hj,hle2,hrow2,hh⟩
   dsimp only at hj hle2 hrow2 hh
   subst hh
   have hs'':=hs'.mono hle2
   have hzl:zs.length=j:=by
    have:=hrow2.len
    rw[List.length_map,List.length_take]at this
    omega
   generalize hQ:P+1+((x.kids.take j).flatMap pfK).length=Q
   have hrQ:(h.set r (tkO b L.length c Q)) r=some (tkO b L.length c Q):=Mem.set_at _ _ _
   by_cases hjl:j<x.kids.length
   ·have w_ := aSo (l := x.kids) (i := j) hjl
    obtain⟨y,hy⟩:=w_
    have hAt:=hK j
    rw[hQ,bB hy,List.flatMap_cons,List.append_assoc]at hAt
    have hkk1:L[Q]? =some [40]:=by
     have h7:=hAt.left
     rw[qGr]at h7
     exact h7.cons.1
    have hyc:y.cnt≤200:=by
     have e1:=Pf.cnts_take hy
     have e2:=Pf.cnts_le x.kids (j+1)
     omega
    refine cOw (pW hs'' hrQ (t:=[41]) (by simp) (by rw[hkk1];exact fun e=>by cases e)) fun v μ6 h6 hle6 hap6 hR=>?_
    obtain⟨rfl,e6,e6'⟩:=hR
    obtain rfl:=e6.symm
    obtain rfl:=e6'.symm
    refine iIn (fun _=>?_) (fun h=>nomatch h)
    refine cOw (ih y (mAt hy) (t5 y (mAt hy)) hyc hs'' hn hrQ hAt.left) fun v μ7 h7 hle7 hap7 hR=>?_
    obtain⟨pvv,rfl,hrep,rfl⟩:=hR
    have w_:=Pf.invV hrep
    obtain⟨p,rfl⟩:=w_
    intro r9
    refine iIn (fun h=>nomatch h) (fun _=>?_)
    intro r75
    refine gIn ?_ ?_ fun b' c' _=>?_
    ·show(zs.length+1)*72≤_;omega
    ·exact Nat.le_trans (m:=1000) (show zs.length+1≤_ by omega) (by decide)
    refine⟨(j+1,(_,b',c'),μ7,_),⟨by dsimp only;omega,hle2.trans hle7,?_,?_⟩,by dsimp only;omega,⟨⟨rfl,rfl,rfl,trivial⟩,⟨rfl,rfl,rfl,rfl,trivial⟩,rfl,rfl⟩⟩
    ·dsimp only
     rw[List.take_add_one,hy,Option.toList_some,List.map_append,List.map_singleton]
     exact(hrow2.mono hle7).append (Rows.one hrep (Pf.d_n _))
    ·show Mem.set (Mem.set h r _) r _ = _
     dsimp only
     rw[Mem.set_set,List.take_add_one,hy,Option.toList_some,List.flatMap_append,List.flatMap_singleton,List.length_append,←Nat.add_assoc,hQ]
   ·obtain rfl : j = x.kids.length := by omega
    rw[List.take_length]at hQ hrow2
    rw[hQ]at kfin
    refine cOw (iM hs'' hn hrQ kfin) fun v μ6 h6 hle6 hap6 hR=>?_
    obtain⟨rfl,e6,rfl⟩:=hR
    obtain rfl:=e6.symm
    refine iIn (fun h=>nomatch h) (fun _=>?_)
    refine rFz [2,3] fun μa hlea hnoa hata μb hleb hnob hatb=> .inl ⟨_,rfl,?_,?_⟩
    ·have q1 := (Rows.sl hata ((hrow.mono hle2).mono hlea) (Nat.le_trans (m := 1000) (by omega) (by decide))).mono hleb
     have q2:=Rows.sl hatb ((hrow2.mono hlea).mono hleb) (Nat.le_trans (m:=1000) (by omega) (by decide))
     rw[Pf.d_eq]
     exact⟨_,rfl,RepS.str (RepS.int (RepS.cons1 q1 (RepS.last q2)))⟩
    ·show Mem.set (Mem.set h r _) r _ = _
     rw[Mem.set_set,hlen,←hQ,←hP]
     congr 2
     omega
theorem qGv{μ h:Mem}{b:Option Addr}{c r:Nat}(hs:Sl μ 1 b ([]:List Bs).length ((([]:List Bs).map mkS).map D.s))(hr:h r=some (tkO b 0 c 0)):
  SpecH Tryz.prog 26 [.pointer (some ⟨r,0,none⟩)] μ h fun v _ _=>v= .tuple #[zPV,.bool false]:=by
 refine SpecH.mk [] Tryz.func26 (by kernel_rfl) ?_
 intro r2
 refine cOw (pW (L:=[]) hs hr (t:=[40]) (by simp) (by simp)) fun v μ1 h1 hle1 hap1 hR=>?_
 obtain⟨rfl,e1,e1'⟩:=hR
 refine iIn (fun _=>?_) (fun h=>nomatch h)
 exact rPl rfl
end
end Go.Vx
namespace Go.Vx
open Go.Proofs Classical
theorem pfU_wd{U:List T}(hU:∀t∈U,t.good):∀x:Pf,PfU U x→x.d.wd:=
 Pf.ind fun x ih h=>by
  rw[Pf.d_eq]
  refine⟨Nat.le_trans h.rel (by decide),?_,?_,?_,trivial⟩
  ·have := h.cl
   show InR x.clause
   unfold InR
   omega
  ·have w_ := h.vals
   obtain⟨vs,e,hv⟩:=w_
   show D.wds (x.values.map Tm.d)
   rw[e];exact kG fun a ha=>hU a (hv a ha)
  ·refine D.wds_of fun d hd => ?_
   have w_:=List.mem_map.1 hd
   obtain⟨y,hy,rfl⟩:=w_
   exact ih y hy (h.kids y hy)
theorem pf_tk{x:Pf}(h:PfT x):bZ (pfB x).length (pfB x)=pfK x:=by
 have:=(pf_tx x h).tk [] (fun b hb=>by cases hb)
 rw[List.append_nil]at this
 exact this.trans (List.append_nil _)
section
variable {μ:Mem}
theorem qFc:∀x:Pf,∀{μ:Mem} {v w:Value},PfT x→RepV μ x.d v→RepV μ x.d w→aQ Tryz.prog 10 [v,w] μ (.bool true):=
 Pf.ind fun x ih μ v w hT hv hw=>by
  have hlift:=hT.lift
  obtain⟨ts,hts⟩:=hlift
  have w_:=Pf.inv hv
  obtain⟨p,rfl,hsv,hsl⟩:=w_
  have w_:=Pf.inv hw
  obtain⟨q,rfl,hsv2,hsl2⟩:=w_
  have hmx:=aI hsl.max
  have hvl:ts.length=x.values.length:=by rw[hts,List.length_map]
  have hl:=qJl (μ:=μ) (x:=ts) (y:=ts) (base:=p.1.1) (base2:=q.1.1) (cap:=p.1.2) (cap2:=q.1.2) (by rw[hvl,←hts];exact hsv) (by rw[hvl,←hts];exact hsv2)
  rw[decide_eq_true rfl,hvl]at hl
  refine Spec.mk Tryz.func10 (by kernel_rfl) ?_
  intro r2 r3
  refine aL (fun h=>absurd rfl h) (fun _=>?_)
  refine aL (fun h=>absurd rfl h) (fun _=>?_)
  refine cGv hl ?_
  refine iIn (fun h=>nomatch h) (fun _=>?_)
  refine aL (fun h=>absurd rfl h) (fun _=>?_)
  refine lIn (fun i:Nat=>i≤x.kids.length) (fun i=>⟨[(3,.loc 1 r3 0),(37,.val (.slice p.2.1 x.kids.length p.2.2)),(38,.val (.int .i64 x.kids.length)),(39,.val (.int .i64 i))],[(1,some (.cells r3 [.val (.string x.rel),.val (.int .i64 x.clause),.val (.slice q.1.1 x.values.length q.1.2),.val (.slice q.2.1 x.kids.length q.2.2)] 31))],2,μ,Mem.nil⟩) (fun i=>x.kids.length-i)
   0 (Nat.zero_le _) (fun _=>⟨rfl,rfl⟩) ⟨⟨rfl,rfl,rfl,rfl,trivial⟩,⟨rfl,trivial⟩,rfl,rfl⟩ ?_
  intro i hi
  refine ifd (fun hlt=>?_) (fun hlt=>?_)
  ·have w_ := aSo (l := x.kids) (i := i) (by omega)
   obtain⟨y,hy⟩:=w_
   have w_:=Pf.elem hsl hy
   obtain⟨ad,p1,hel,hr1⟩:=w_
   have w_:=Pf.elem hsl2 hy
   obtain⟨ad2,p2,hel2,hr2⟩:=w_
   refine eIn hel ?_
   intro r6
   refine eIn hel2 ?_
   refine cGv (ih y (mAt hy) (hT.inv.2.2.2.2 y (mAt hy)) hr1 hr2) ?_
   refine iIn (fun h=>nomatch h) (fun _=>?_)
   exact aC (by omega) (by omega) ⟨i+1,by omega,by omega,⟨⟨rfl,rfl,rfl,rfl,trivial⟩,⟨rfl,trivial⟩,rfl,rfl⟩⟩
  ·exact rGv rfl rfl
theorem sX{p:Pg}{x:Pf}{vp:Value}(hp:RepV μ p.d vp)(hT:PfT x)(hg:p.Ok∧x.cnt≤200∧OkP p x):
  Spec Tryz.prog 8 [vp,.string (mkS (pfB x))] μ fun v μ'=>∃pv,v= .tuple #[pv,.bool true]∧RepV μ' x.d pv:=by
 have hp0:=hp
 have w_:=Pg.invV hp
 obtain⟨qp,rfl⟩:=w_
 have hlb:=qKz x hT
 have htk:=pf_tk hT
 have htok:=jQ (μ:=μ) (s:=pfB x) (by omega) (fun b hb=>(pf_tx x hT).ch b hb) (by rw[htk];omega)
 rw[htk]at htok
 refine Spec.mkO [20] Tryz.func8 (by kernel_rfl) ?_
 intro r2 r4
 refine cPl htok fun v μ1 hle1 hR=>?_
 obtain⟨tv,rfl,hnm⟩:=hR
 have w_:=NmV.sl hnm
 obtain⟨b,c,rfl,hsl⟩:=w_
 rw[List.length_map]at hsl ⊢
 refine iIn (fun h=>nomatch h) (fun _=>?_)
 intro r20 hm20 ho20
 have hn:(pfK x).length≤20000:=by omega
 refine cOw (qMa x hT hg.2.1 hsl hn (i:=0) (c:=c) (Mem.set_at _ _ _) (at_all _)) fun v μ2 h2 hle2 hap2 hR=>?_
 obtain⟨pv,rfl,hrep,rfl⟩:=hR
 have hrep0:=hrep
 have w_:=Pf.invV hrep
 obtain⟨q,rfl⟩:=w_
 intro r9
 refine iIn (fun h=>nomatch h) (fun _=>?_)
 refine cOw (eO (L:=pfK x) (Mem.set_at _ _ _)) fun v μ3 h3 hle3 hap3 hR=>?_
 obtain⟨rfl,e3,e3'⟩:=hR
 obtain rfl:=e3.symm
 obtain rfl:=e3'.symm
 refine aL (fun h=>absurd (by omega) h) (fun _=>?_)
 refine cPl (iY ((hp0.mono hle1).mono hle2) hrep0) fun v μ4 hle4 hR=>?_
 obtain rfl:=hR
 refine aL (fun h=>absurd hg h) (fun _=>?_)
 exact rPl ⟨_,rfl,hrep0.mono hle4⟩
theorem tB{p:Pg}{vp:Value}(hp:RepV μ p.d vp):
  Spec Tryz.prog 8 [vp,.string (mkS [])] μ fun v _=>v= .tuple #[zPV,.bool false]:=by
 have w_:=Pg.invV hp
 obtain⟨qp,rfl⟩:=w_
 have htok:=jQ (μ:=μ) (s:=[]) (Nat.zero_le _) (fun b hb=>by cases hb) (Nat.zero_le _)
 refine Spec.mkO [20] Tryz.func8 (by kernel_rfl) ?_
 intro r2 r4
 refine cPl htok fun v μ1 hle1 hR=>?_
 obtain⟨tv,rfl,hnm⟩:=hR
 have hnm:NmV μ1 [] tv:=hnm
 have w_:=NmV.sl hnm
 obtain⟨b,c,rfl,hsl⟩:=w_
 refine iIn (fun h=>nomatch h) (fun _=>?_)
 intro r20 hm20 ho20
 refine cOw (qGv hsl (c:=c) (Mem.set_at _ _ _)) fun v μ2 h2 hle2 hap2 hR=>?_
 obtain rfl:=hR
 intro r9
 refine iIn (fun _=>?_) (fun h=>nomatch h)
 exact rPl rfl
theorem qW{base:Option Addr}{n cap:Nat}(hb:Bytes μ base n):
  Spec Tryz.prog 3 [.slice base n cap] μ fun r _=>r= .bool true:=by
 refine Spec.mk Tryz.func3 (by kernel_rfl) ?_
 refine ifd (fun h=>rPl rfl) (fun h=>?_)
 refine cPl (rD hb 0 (by decide) 1 (.inl rfl)) fun v1 μ1 hle1 hR=>?_
 obtain⟨p,hp,hrp⟩:=hR
 have w_:=Pg.invV hrp
 obtain⟨q,rfl⟩:=w_
 intro r3
 refine cPl (pQ (hb.mono hle1) 60 (by decide) 2 (by decide) (by decide)) fun v2 μ2 hle2 hR=>?_
 obtain⟨U,hU,hrU⟩:=hR
 have w_:=Rep.sl hrU
 obtain⟨ub,uc,rfl,hus⟩:=w_
 rw[List.length_map,List.length_map]at hus ⊢
 have huo:=hU.ok (by decide)
 have hrp2:=hrp.mono hle2
 refine cPl (uX ((hb.mono hle1).mono hle2) 80 (by decide) hrp2 hus hp.ok huo) fun v3 μ3 hle3 hR3=>?_
 obtain⟨x,hrx,hxu⟩:=hR3
 have hrx0:=hrx
 have w_:=Pf.invV hrx
 obtain⟨px,rfl⟩:=w_
 intro r5
 have hrp3:=hrp2.mono hle3
 have hPT:p.Ok→OkP p x→PfT x:=fun h1 h2=>pfT_of h1 hU.drawn x hxu h2
 refine cPl (rF hrp3 hrx0 hPT) fun v4 μ4 hle4 hR4=>?_
 obtain rfl:=hR4
 have hrp4:=hrp3.mono hle4
 have hrx4:=hrx0.mono hle4
 have hwx:=pfU_wd (fun t ht=>(hU.drawn t ht).good) x hxu
 by_cases hg:p.Ok∧x.cnt≤200∧OkP p x
 ·have hT := hPT hg.1 hg.2.2
  have hne:mkS (pfB x)≠⟨#[]⟩:=fun e=>by
   have e:=bA (b:=[]) e
   obtain⟨r,c,vs,ks⟩:=x
   rw[pfB]at e;cases e
  rw[qNe,if_pos hg]
  refine cPl (sX hrp4 hT hg) fun v5 μ5 hle5 hR5=>?_
  obtain⟨pv,rfl,hrq⟩:=hR5
  have hrq0:=hrq
  have w_:=Pf.invV hrq
  obtain⟨pq,rfl⟩:=w_
  intro r7
  refine cPl (iW (hrp4.mono hle5) hp.ok.wd (hrx4.mono hle5) hwx) fun v6 μ6 hle6 hR6=>?_
  obtain rfl:=hR6
  rw[decide_eq_true hg]
  refine iIn (fun _=>?_) (fun h=>nomatch h)
  have hb2:((!decide (mkS (pfB x)=⟨#[]⟩))==true)=true:=by rw[decide_eq_false hne];rfl
  refine iIn (fun _=>?_) (fun h=>absurd (hb2.symm.trans h) (by decide))
  refine iIn (fun h=>nomatch h) (fun _=>?_)
  refine cGv (qFc x hT ((hrx4.mono hle5).mono hle6) (hrq0.mono hle6)) ?_
  exact rPl rfl
 ·rw [qNe, if_neg hg]
  refine cPl (tB hrp4) fun v5 μ5 hle5 hR5=>?_
  obtain rfl:=hR5
  intro r7
  refine cPl (iW (hrp4.mono hle5) hp.ok.wd (hrx4.mono hle5) hwx) fun v6 μ6 hle6 hR6=>?_
  obtain rfl:=hR6
  rw[decide_eq_false hg]
  refine iIn (fun _=>?_) (fun h=>nomatch h)
  refine iIn (fun _=>?_) (fun h=>absurd h (by decide))
  refine iIn (fun _=>?_) (fun h=>nomatch h)
  exact rPl rfl
end
end Go.Vx
