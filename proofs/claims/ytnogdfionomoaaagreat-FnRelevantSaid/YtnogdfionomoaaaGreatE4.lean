/- Texts of the proof, part E4. -/
import Derived.Test.YtnogdfionomoaaaGreatE3
namespace Go.Vx
open Go.Proofs Classical
theorem cZ(l:Bs)(i j:Nat):(mkS l).extract i j=mkS ((l.drop i).take (j-i)):=by
 have e:((mkS l).extract i j).data=((l.drop i).take (j-i)).toArray:=by
  rw[ByteArray.data_extract]
  simp[mkS,List.extract_eq_take_drop]
 cases h:(mkS l).extract i j
 rw[h]at e
 simp only at e
 rw[e]
 rfl
theorem dK(l:Bs):(mkS l).size=l.length:=by simp[mkS,ByteArray.size]
theorem aZ(a b:Bs):mkS a++mkS b=mkS (a++b):=yH a b
theorem tA(b:UInt8):cX b=decide (b.toNat=32∨b.toNat=10∨b.toNat=40∨b.toNat=41∨b.toNat=59):=by
 rw[Bool.eq_iff_iff]
 simp[cX,←UInt8.toNat_inj,or_assoc]
theorem tw{α:Type}{p:α→Bool}:∀(m:List α) (n:Nat),n≤m.length→(∀(k:Nat) b,k<n→m[k]? =some b→p b=true)→(∀b,m[n]? =some b→p b=false)→m.takeWhile p=m.take n∧m.dropWhile p=m.drop n
 |[],n,_,_,_=>by simp
 |b::r,0,_,_,h=>by
  have:=h b rfl
  simp[this]
 |b::r,n+1,hn,h,h'=>by
  have hb:=h 0 b (by omega) rfl
  have w_:=tw r n (by simpa using hn) (fun k c hk hc=>h (k+1) c (by omega) (by simpa using hc)) (fun c hc=>h' c (by simpa using hc))
  obtain⟨h1,h2⟩:=w_
  simp[hb,h1,h2]
theorem eM:∀(n m:Nat) (l:Bs),l.length≤n→l.length≤m→cQ n l=cQ m l
 |0,m,l,h,_=>by
  have:l=[]:=List.length_eq_zero_iff.1 (by omega)
  subst this
  cases m<;>rfl
 |n+1,0,l,_,h=>by
  have:l=[]:=List.length_eq_zero_iff.1 (by omega)
  subst this
  rfl
 |n+1,m+1,[],_,_=>rfl
 |n+1,m+1,b::r,h,h'=>by
  have h1:r.length≤n:=by simpa using h
  have h2:r.length≤m:=by simpa using h'
  have hd:∀p:UInt8→Bool,(r.dropWhile p).length≤r.length:=fun p=>(List.dropWhile_sublist p).length_le
  rw[cQ,cQ,eM n m r h1 h2,eM n m _ (Nat.le_trans (hd _) h1) (Nat.le_trans (hd _) h2),eM n m _ (Nat.le_trans (hd _) h1) (Nat.le_trans (hd _) h2)]
theorem zE{N:Nat}{b:UInt8}{r:Bs}(hN:(b::r).length≤N)(h:cX b=false):cQ N (b::r)=(b::r.takeWhile fun c=> !cX c)::cQ N (r.dropWhile fun c=> !cX c):=by
 cases N with
 |zero=>simp at hN
 |succ N=>
  have h59:(b==59)=false:=by
   cases e:b==59
   ·rfl
   ·simp[cX,e]at h
  have hl:(r.dropWhile fun c=> !cX c).length≤N:=Nat.le_trans (List.dropWhile_sublist _).length_le (by simpa using hN)
  rw[cQ,if_neg (by simp[h59]),if_pos (by simp[h]),eM (N+1) N _ (by omega) hl]
theorem tO{N:Nat}{b:UInt8}{r:Bs}(hN:(b::r).length≤N)(h:b.toNat=40∨b.toNat=41):cQ N (b::r)=[b]::cQ N r:=by
 cases N with
 |zero=>simp at hN
 |succ N=>
  have hl:r.length≤N:=by simpa using hN
  have hb:b=40∨b=41:=h.imp (fun e=>UInt8.toNat_inj.1 e) fun e=>UInt8.toNat_inj.1 e
  rw[eM (N+1) N r (by omega) hl]
  rcases hb with rfl|rfl<;>rfl
theorem qGi{N:Nat}{b:UInt8}{r:Bs}(hN:(b::r).length≤N)(h:b.toNat=32∨b.toNat=10):cQ N (b::r)=cQ N r:=by
 cases N with
 |zero=>simp at hN
 |succ N=>
  have hl:r.length≤N:=by simpa using hN
  have hb:b=32∨b=10:=h.imp (fun e=>UInt8.toNat_inj.1 e) fun e=>UInt8.toNat_inj.1 e
  rw[eM (N+1) N r (by omega) hl]
  rcases hb with rfl|rfl<;>rfl
theorem bE{α:Type}{l:List α}{i:Nat}{b:α}(h:l[i]? =some b):l.drop i=b::l.drop (i+1):=by
 have w_:=List.getElem?_eq_some_iff.1 h
 obtain⟨h1,h2⟩:=w_
 rw[List.drop_eq_getElem_cons h1,h2]
theorem tN{l:Bs}{N i j:Nat}{b:UInt8}(hN:l.length≤N)(hb:l[i]? =some b)(h:cX b=false)(hij:i<j)(hj:j≤l.length)(hin:∀(k:Nat) b,i<k→k<j→l[k]? =some b→cX b=false)(hout:∀b,l[j]? =some b→cX b=true):
  cQ N (l.drop i)=(l.drop i).take (j-i)::cQ N (l.drop j):=by
 have hdl:(l.drop i).length≤N:=by rw[List.length_drop];omega
 rw[bE hb]at hdl ⊢
 have w_:=tw (p:=fun c=> !cX c) (l.drop (i+1)) (j-(i+1)) (by rw[List.length_drop];omega)
  (fun k c hk hc => by
   rw[List.getElem?_drop]at hc
   simp[hin _ c (by omega) (by omega) hc])
  (fun c hc => by
   rw[List.getElem?_drop,show i+1+(j-(i+1))=j from by omega]at hc
   simp[hout c hc])
 obtain⟨h1,h2⟩:=w_
 rw[zE hdl h,h1,h2,List.drop_drop,show i+1+(j-(i+1))=j from by omega]
 congr 1
 rw[show j-i=(j-(i+1))+1 from by omega,List.take_succ_cons]
theorem iN(t:Bs):wX t=decide (jZ (mkS t)):=by
 have key:∀(t:Bs) (f:Bool),nmB f t=true↔∀(i:Nat) b,t[i]? =some b→tR (f&&i==0) b:=by
  intro t
  induction t with
  |nil=>intro f;simp[nmB]
  |cons c r ih=>
   intro f
   rw[nmB,Bool.and_eq_true,ih false]
   constructor
   ·rintro ⟨h1, h2⟩ i b hb
    cases i with
    |zero=>
     simp only[List.getElem?_cons_zero,Option.some.injEq]at hb
     subst hb
     simp only[Bool.or_eq_true,Bool.and_eq_true,decide_eq_true_eq,beq_iff_eq,Bool.not_eq_true',UInt8.le_iff_toNat_le]at h1
     rcases h1 with h1|⟨h0,h1⟩
     ·exact .inl h1
     ·refine .inr ⟨by simp [h0], ?_⟩
      rcases h1 with h1|h1
      ·exact .inl h1
      ·rw[h1];exact .inr rfl
    |succ i=>
     simp only[List.getElem?_cons_succ]at hb
     have:=h2 i b hb
     simpa using this
   ·intro h
    refine⟨?_,fun i b hb=>?_⟩
    ·have := h 0 c rfl
     simp only[Bool.or_eq_true,Bool.and_eq_true,decide_eq_true_eq,beq_iff_eq,Bool.not_eq_true',UInt8.le_iff_toNat_le]
     rcases this with k|⟨k0,k⟩
     ·exact .inl k
     ·refine .inr ⟨by simpa using k0, ?_⟩
      rcases k with k|k
      ·exact .inl k
      ·exact .inr (UInt8.toNat_inj.1 k)
    ·have := h (i + 1) b (by simpa using hb)
     simpa using this
 rw[Bool.eq_iff_iff,wX,Bool.and_eq_true,Bool.and_eq_true,key t true]
 simp only[decide_eq_true_eq]
 constructor
 ·rintro ⟨⟨h1, h2⟩, h3⟩
  exact⟨by rw[dK];exact h1,by rw[dK];exact h2,fun i b hb=>by simpa using h3 i b hb⟩
 ·rintro ⟨h1, h2, h3⟩
  rw[dK]at h1 h2
  exact⟨⟨h1,h2⟩,fun i b hb=>by simpa using h3 i b hb⟩
theorem nL:∀(l names:List Bs),(cA l names).1.length=l.length
 |[],_=>rfl
 |t::r,names=>by
  rw[cA]
  split
  ·simp[nL r]
  ·simp[nL r]
theorem qEv(names:List Bs)(t:Bs):names.length≤(fR names t).length:=by
 rw[fR];split
 ·exact Nat.le_refl _
 ·simp
theorem cY:∀(l names:List Bs),names.length≤(cA l names).2.length
 |[],_=>Nat.le_refl _
 |t::r,names=>by
  rw[cA]
  split
  ·exact Nat.le_trans (qEv names t) (cY r _)
  ·exact cY r _
theorem qBl{names:List Bs}{t:Bs}{k:Nat}(hk:k≤names.length)(h:∀(j:Nat) x,j<k→names[j]? =some x→x≠t)(h2:∀x,names[k]? =some x→x=t):names.idxOf t=k:=by
 induction names generalizing k with
 |nil=>simp at hk;subst hk;rfl
 |cons x r ih=>
  rw[List.idxOf_cons]
  cases k with
  |zero=>simp[h2 x rfl]
  |succ k=>
   have hx:=h 0 x (by omega) rfl
   rw[ih (k:=k) (by simpa using hk) (fun j y hj hy=>h (j+1) y (by omega) (by simpa using hy)) (fun y hy=>h2 y (by simpa using hy))]
   rw[beq_false_of_ne hx]
   rfl
theorem zF{ts:List T}{n:Int}(h:∀t∈ts,∀v,t.occ v→0≤v∧v<n){k:Int}{s:ByteArray}{gs:List Gl}:∀v∈(Gl.mk k s (ts.map T.tm) gs).tvars,v<n:=fun v hv=>by
 unfold Gl.tvars at hv
 have e:((Gl.mk k s (ts.map T.tm) gs).terms.map Tm.toT)=ts:=toTs_tm'
 rw[e]at hv
 have w_:=List.mem_flatMap.1 hv
 obtain⟨t,ht,hv⟩:=w_
 exact(h t ht v (xB hv)).2
theorem Dr.leaf{sg:Sig}{n mode:Int}{k:Int}{s:ByteArray}{ts:List T}(top:TopOk (.mk k s (ts.map T.tm) []))(hk:k≠10)(h7:k≠7)(h8:k≠8)(ht:∀t∈ts,∀v,t.occ v→0≤v∧v<n)(hc:k=9→(s,(ts.length:Int))∈sg):Dr sg n mode 1 1 (.mk k s (ts.map T.tm) []) where
 sh:= .mk top fun x hx=>by cases hx
 cnt:=Nat.le_refl _
 cb:=by rw[Gl.cb,if_neg h8,if_neg h7];exact Nat.le_refl _
 vars:=fun v hv=>by
  rcases qCx hv with hv|⟨x,hx,_⟩
  ·exact zF ht v hv
  ·cases hx
 calls:=fun x hx h9=>by
  rcases qFw hx with rfl|⟨y,hy,_⟩
  ·have := hc h9
   show(s,((ts.map T.tm).length:Int))∈sg
   rw[List.length_map]
   exact this
  ·cases hy
 pos:=fun _=>(Gl.pos_eq _).2 ⟨hk,fun x hx=>by cases hx⟩
theorem qU{sg:Sig}{n mode:Int}{m b:Nat}:∀{gs:List Gl},(∀g∈gs,Dr sg n mode m b g)→Gl.cnts gs≤gs.length*m
 |[],_=>Nat.zero_le _
 |g::r,h=>by
  have h1:=(h g (by simp)).cnt
  have h2:=qU (gs:=r) fun x hx=>h x (by simp[hx])
  rw[Gl.cnts,List.length_cons,Nat.succ_mul]
  omega
theorem qBf{sg:Sig}{n mode:Int}{m:Nat}:∀{gs:List Gl},(∀g∈gs,Dr sg n mode m 1 g)→Gl.cbAnd gs≤1
 |[],_=>Nat.le_refl _
 |g::r,h=>by
  have h1:=(h g (by simp)).cb
  have h2:=qBf (gs:=r) fun x hx=>h x (by simp[hx])
  rw[Gl.cbAnd]
  exact Nat.mul_le_mul h1 h2
theorem qHq{sg:Sig}{n mode:Int}{m:Nat}:∀{gs:List Gl},(∀g∈gs,Dr sg n mode m 1 g)→Gl.cbOr gs≤gs.length
 |[],_=>Nat.le_refl _
 |g::r,h=>by
  have h1:=(h g (by simp)).cb
  have h2:=qHq (gs:=r) fun x hx=>h x (by simp[hx])
  rw[Gl.cbOr,List.length_cons]
  omega
theorem xI{k:Int}{gs:List Gl}(hk:k=7∨k=8)(hl:gs.length≤8):TopOk (.mk k ⟨#[]⟩ [] gs) where
 tm:=fun t ht=>by cases ht
 k0:=by show 0≤k;omega
 k1:=by show k≤10;omega
 nm:=fun _=>rfl
 rel:=fun h=>by have h:k=9:=h;omega
 ln9:=fun _=>Nat.zero_le _
 ln2:=fun h=>by have h:k=2∨k=3∨k=6:=h;omega
 ln1:=fun h=>by have h:k=4∨k=5:=h;omega
 ln0:=fun _=>rfl
 gl:=hl
 gl0:=fun h=>by have h:k<7∨k=9:=h;omega
 gl1:=fun h=>by have h:k=10:=h;omega
 sy:=fun h=>by have h:k=6:=h;omega
 cl:=fun h=>by have h:k=10:=h;omega
theorem Dr.conj{sg:Sig}{n mode:Int}{m:Nat}{gs:List Gl}(h:∀g∈gs,Dr sg n mode m 1 g)(hl:gs.length≤8):Dr sg n mode (1+gs.length*m) 1 (.mk 7 ⟨#[]⟩ [] gs):=by
 have w_:=qDz (k:=7) h (by decide) (fun _=>by decide)
 obtain⟨h1,h2,h3⟩:=w_
 refine⟨.mk (xI (.inl rfl) hl) fun x hx=>(h x hx).sh,?_,?_,h1,h2,h3⟩
 ·rw [Gl.cnt]
  have:=qU h
  omega
 ·rw [Gl.cb, if_neg (by decide), if_pos rfl]
  exact qBf h
theorem Dr.disj{sg:Sig}{n mode:Int}{m:Nat}{gs:List Gl}(h:∀g∈gs,Dr sg n mode m 1 g)(hl:gs.length≤8)(h0:gs≠[]):Dr sg n mode (1+gs.length*m) gs.length (.mk 8 ⟨#[]⟩ [] gs):=by
 have w_:=qDz (k:=8) h (by decide) (fun _=>by decide)
 obtain⟨h1,h2,h3⟩:=w_
 refine⟨.mk (xI (.inr rfl) hl) fun x hx=>(h x hx).sh,?_,?_,h1,h2,h3⟩
 ·rw [Gl.cnt]
  have:=qU h
  omega
 ·rw [Gl.cb, if_pos rfl]
  have:=qHq h
  have:=List.length_pos_iff.2 h0
  omega
theorem xE{m B:Nat}:∀l:List Rl,(∀r∈l,r.body.cb*m ^ (r.arity+r.locals).toNat≤B)→qEm m l≤l.length*B
 |[],_=>Nat.zero_le _
 |r::l,h=>by
  have h1:=h r (by simp)
  have h2:=xE l fun x hx=>h x (by simp[hx])
  rw[qEm,List.length_cons,Nat.succ_mul]
  omega
theorem DrP.small{mode:Int}{l:List Rl}(h:DrP mode l){m:Nat}(hm:m≤3)(hm1:1≤m):lE m ⟨l⟩=true:=by
 have key:∀r∈l,r.body.cb≤3∧m ^ (r.arity+r.locals).toNat≤27:=fun r hr=>by
  refine⟨(h.body r hr).cb,?_⟩
  have h1:=h.ar r hr
  have h2:=h.lo r hr
  calc m ^ (r.arity+r.locals).toNat≤m ^ 3:=Nat.pow_le_pow_right hm1 (by omega)
   _≤3 ^ 3:=Nat.pow_le_pow_left hm 3
 have h3:=h.le
 rw[lE,Bool.and_eq_true,List.all_eq_true,decide_eq_true_eq]
 refine⟨fun r hr=>?_,?_⟩
 ·have := key r hr
  exact decide_eq_true ⟨by omega,by omega⟩
 ·have := xE (m := m) (B := 81) l fun r hr => Nat.mul_le_mul (key r hr).1 (key r hr).2
  show qEm m l≤2000
  have:l.length*81≤3*81:=Nat.mul_le_mul_right _ h3
  omega
theorem DrP.prom{mode:Int}{l:List Rl}(h:DrP mode l):MkP mode ⟨l⟩:=
 ⟨h.ok, h.small (by decide) (by decide), h.small (by decide) (by decide), h.pos, fun e => by
  have h1:=h.ne
  have e:l=[]:=e
  rw[e]at h1
  exact absurd h1 (by decide),fun r hr=>(h.ar r hr).1⟩
end Go.Vx
namespace Go.Vx
open Go.Proofs Classical
def jW(l:List Bs):List Value:=(l.map mkS).map Value.string
theorem nU(l:List Bs):(jW l).length=l.length:=by rw[jW,List.length_map,List.length_map]
theorem cH(l:List Bs)(t:Bs):jW (l++[t])=jW l++[.string (mkS t)]:=by simp[jW]
section
variable {μ:Mem}
theorem jD(b:UInt8):aM Tryz.prog 183 [.int .u8 (b.toNat:Int)] μ (.bool (cX b)):=by
 refine Spec.mk Tryz.func183 (by kernel_rfl) ?_
 rw[tA]
 repeat' (first
  |refine ifd (fun h=>?_) (fun h=>?_)
  |refine iIn (fun h=>?_) (fun h=>?_))
 all_goals
  refine rGv ?_ rfl
  refine congrArg Value.bool ?_
  first
   |(symm;exact decide_eq_true (by omega))
   |(rw[Bool.eq_iff_iff];simp only[decide_eq_true_eq];omega)
theorem bU{k:Nat}(hk:k≤9):aM Tryz.prog 185 [.int .i64 k] μ (.string (mkS [UInt8.ofNat (48+k)])):=by
 refine Spec.mk Tryz.func185 (by kernel_rfl) ?_
 refine ifd (fun h=>absurd h (by omega)) (fun _=>?_)
 refine lIn (fun _:Unit=>True) (fun _=>⟨[(0,.val (.int .i64 k)),(3,.val (.string ⟨#[]⟩))],[],0,μ,Mem.nil⟩) (fun _=>0) () trivial (fun _=>⟨rfl,rfl⟩) ⟨⟨rfl,rfl,trivial⟩,trivial,rfl,rfl⟩ ?_
 rintro- -
 refine ifd (fun h=>absurd h (by omega)) (fun _=>?_)
 refine aB (by omega) (by omega) (nEq (qQv (by omega) (by omega)) ?_)
 intro r
 have hb:(UInt8.ofNat (48+k)).toNat=48+k:=by rw[UInt8.toNat_ofNat'];omega
 refine bW [UInt8.ofNat (48+k)] (by simp only[List.map_cons,List.map_nil,hb];congr 2) ?_
 refine aC (by show 1+0≤_;decide) ?_
 refine rGv ?_ rfl
 exact congrArg Value.string (aZ [_] [])
theorem mL{k:Nat}(hk:k≤9):aM Tryz.prog 228 [.string (mkS [UInt8.ofNat (48+k)])] μ (.tuple #[.int .i64 k,.bool true]):=by
 have hb:(UInt8.ofNat (48+k)).toNat=48+k:=by rw[UInt8.toNat_ofNat'];omega
 have h0:(mkS [UInt8.ofNat (48+k)]).data.toList[0]? =some (UInt8.ofNat (48+k)):=rfl
 have hsz:(mkS [UInt8.ofNat (48+k)]).size=1:=rfl
 refine Spec.mk Tryz.func228 (by kernel_rfl) ?_
 refine ifd (fun _=>?_) (fun h=>absurd h (by omega))
 refine aN 0 _ rfl h0 ?_
 refine iIn (fun h=>absurd (of_decide_eq_true h) (by omega)) (fun hm=>?_)
 refine ifd (fun h=>absurd h (by omega)) (fun _=>?_)
 refine iIn (fun h=>absurd (of_decide_eq_true h) (by omega)) (fun _=>?_)
 refine lIn (fun i:Nat=>i≤1) (fun i=>⟨[(0,.val (.string (mkS [UInt8.ofNat (48+k)]))),(4,.val (.bool (decide (((UInt8.ofNat (48+k)).toNat:Int)=45)))),(5,.val (.string (mkS [UInt8.ofNat (48+k)]))),(6,.val (.int .i64 (if i=0 then 0 else -(k:Int)))),(7,.val (.int .i64 i))],[],0,μ,Mem.nil⟩) (fun i=>1-i)
  0 (by omega) (fun _=>⟨rfl,rfl⟩) ⟨⟨rfl,rfl,rfl,rfl,rfl,trivial⟩,trivial,rfl,rfl⟩ ?_
 intro i hi
 refine ifd (fun h=>?_) (fun h=>?_)
 ·obtain rfl : i = 0 := by omega
  refine aN 0 _ rfl h0 ?_
  refine aB (by omega) (by omega) (aB (by omega) (by omega) ?_)
  refine cGv (bG _ _ _ _) ?_
  refine iIn (fun h=>?_) (fun _=>?_)
  ·rw [decide_eq_true ⟨by omega, by omega⟩] at h
   cases h
  ·have hd : ((UInt8.ofNat (48 + k)).toNat : Int) - 48 = k := by omega
   rw[hd]
   refine aB (by omega) (by omega) ?_
   refine aC (by decide) ?_
   refine nEq (x:=if k=9 then -922337203685477579 else -922337203685477580) ?_ ?_
   ·have w_ : k = 0 ∨ k = 1 ∨ k = 2 ∨ k = 3 ∨ k = 4 ∨ k = 5 ∨ k = 6 ∨ k = 7 ∨ k = 8 ∨ k = 9 := by omega
    rcases w_ with rfl|rfl|rfl|rfl|rfl|rfl|rfl|rfl|rfl|rfl<;>rfl
   refine iIn (fun h=>absurd (of_decide_eq_true h) (by rw[if_pos rfl];split<;>omega)) (fun _=>?_)
   rw[if_pos rfl]
   refine aB (by omega) (by omega) (aB (by omega) (by omega) ?_)
   refine aB (by omega) (by omega) ⟨1,by omega,by omega,⟨⟨rfl,rfl,rfl,?_,rfl,trivial⟩,trivial,rfl,rfl⟩⟩
   show some (SV.val (.int .i64 _))=some (SV.val (.int .i64 _))
   congr 3
   simp
 ·obtain rfl : i = 1 := by omega
  refine iIn (fun h=>?_) (fun h=>?_)
  ·refine ifd (fun h => absurd h (by rw [if_neg (by decide)]; omega)) (fun _ => ?_)
   refine nEq (x:=(k:Int)) (by show IntKind.i64.wrap (0- -(k:Int))=(k:Int);rw[show(0:Int)- -(k:Int)=k from by omega];exact aA (by omega) (by omega)) ?_
   refine cGv (bU hk) ?_
   refine aL (fun h=>absurd rfl h) (fun _=>?_)
   exact rGv rfl rfl
  ·rw [hm] at h
   cases h
theorem oP{t:Bs}(h:wX t=true):aM Tryz.prog 228 [.string (mkS t)] μ (.tuple #[.int .i64 0,.bool false]):=by
 rw[iN,decide_eq_true_eq]at h
 obtain⟨h1,h2,h3⟩:=h
 have w_:=iK (s:=mkS t) (i:=0) (by omega)
 obtain⟨b0,hb0⟩:=w_
 have hc:97≤b0.toNat∧b0.toNat≤122:=(h3 0 b0 hb0).elim id fun k=>by have:=k.1;simp at this
 refine Spec.mk Tryz.func228 (by kernel_rfl) ?_
 refine ifd (fun _=>?_) (fun h=>absurd h (by omega))
 refine aN 0 _ rfl hb0 ?_
 refine iIn (fun h=>absurd (of_decide_eq_true h) (by omega)) (fun hm=>?_)
 refine ifd (fun h=>absurd h (by omega)) (fun _=>?_)
 refine iIn (fun h=>absurd (of_decide_eq_true h) (by omega)) (fun _=>?_)
 refine lIn (fun i:Nat=>i=0) (fun i=>⟨[(0,.val (.string (mkS t))),(4,.val (.bool (decide ((b0.toNat:Int)=45)))),(5,.val (.string (mkS t))),(6,.val (.int .i64 0)),(7,.val (.int .i64 i))],[],0,μ,Mem.nil⟩) (fun i=>0)
  0 rfl (fun _=>⟨rfl,rfl⟩) ⟨⟨rfl,rfl,rfl,rfl,rfl,trivial⟩,trivial,rfl,rfl⟩ ?_
 rintro i rfl
 refine ifd (fun _=>?_) (fun h=>absurd h (by omega))
 refine aN 0 _ rfl hb0 ?_
 refine aB (by omega) (by omega) (aB (by omega) (by omega) ?_)
 refine cGv (bG _ _ _ _) ?_
 refine iIn (fun _=>rGv rfl rfl) (fun h=>?_)
 rw[decide_eq_false (by omega)]at h
 cases h
set_option maxHeartbeats 1000000 in
theorem sQ{s:Bs}(hl:s.length≤400)(hb:∀b∈s,b.toNat≠59∧(b.toNat=10∨(32≤b.toNat∧b.toNat≤126))):
  Spec Tryz.prog 122 [.string (mkS s)] μ fun v μ'=>∃tv,v= .tuple #[tv,.bool true]∧NmV μ' ((cQ s.length s).map mkS) tv:=by
 have hsz:(mkS s).size=s.length:=dK s
 have at_:∀(i:Nat) b,s[i]? =some b→(mkS s).data.toList[i]? =some b:=fun i b h=>h
 refine Spec.mk Tryz.func122 (by kernel_rfl) ?_
 refine ifd (fun h=>absurd h (by omega)) (fun _=>?_)
 intro r0
 refine lIn (fun z:Nat×List Bs×List Value×Option Nat×Nat=>z.1≤s.length∧z.2.1.length≤z.1∧z.2.2.1=jW z.2.1∧z.2.1++cQ s.length (s.drop z.1)=cQ s.length s)
  (fun(i,_,ys,b,c)=>⟨[(0,.val (.string (mkS s))),(4,.row 0 b ys.length c),(5,.val (.int .i64 i))],[(0,some (.row b c 9 1 ys))],1,μ,Mem.nil⟩) (fun z=>s.length-z.1)
  (0,[],[],some r0,0) ⟨Nat.zero_le _,Nat.zero_le _,rfl,rfl⟩ (fun(_,_,_,_,_)=>⟨rfl,rfl⟩) ⟨⟨rfl,rfl,rfl,trivial⟩,⟨rfl,trivial⟩,rfl,rfl⟩ ?_
 rintro⟨i,L,ys,b,c⟩ ⟨hi,hLi,hys,hT⟩
 dsimp only at hi hLi hys hT
 have hyl:ys.length=L.length:=by rw[hys,nU]
 refine ifd (fun hlt=>?_) (fun hlt=>?_)
 ·obtain ⟨ch, hch⟩ : ∃ ch, s[i]? = some ch := ⟨_, List.getElem?_eq_getElem (by omega)⟩
  have hc:=hb ch (List.mem_of_getElem? hch)
  have hdl:(ch::s.drop (i+1)).length≤s.length:=by simp only[List.length_cons,List.length_drop];omega
  rw[bE hch]at hT
  refine aB (by omega) (by omega) ?_
  refine aN i ch rfl (at_ _ _ hch) ?_
  refine ifd (fun h=>absurd h (by omega)) (fun _=>?_)
  refine aN i ch rfl (at_ _ _ hch) ?_
  refine cGv (jD ch) ?_
  refine iIn (fun hbk=>?_) (fun hbk=>?_)
  ·have hbk : cX ch = false := by simpa using hbk
   rw[←bE hch]at hT
   refine lIn (fun j:Nat=>i<j∧j≤s.length∧∀(k:Nat) b,i<k→k<j→s[k]? =some b→cX b=false)
    (fun j=>⟨[(0,.val (.string (mkS s))),(4,.row 0 b ys.length c),(5,.val (.int .i64 i)),(6,.val (.int .i64 j))],[(0,some (.row b c 9 1 ys))],1,μ,Mem.nil⟩) (fun j=>s.length-j)
    (i+1) ⟨by omega,by omega,fun k b h1 h2=>by omega⟩ (fun _=>⟨rfl,rfl⟩) ⟨⟨rfl,rfl,rfl,rfl,trivial⟩,⟨rfl,trivial⟩,rfl,rfl⟩ ?_
   rintro j ⟨hij,hj,hin⟩
   refine ifd (fun hjl=>?_) (fun hjl=>?_)
   ·obtain ⟨cj, hcj⟩ : ∃ cj, s[j]? = some cj := ⟨_, List.getElem?_eq_getElem (by omega)⟩
    refine aN j cj rfl (at_ _ _ hcj) ?_
    refine cGv (jD cj) ?_
    refine iIn (fun hbj=>?_) (fun hbj=>?_)
    ·have hbj : cX cj = false := by simpa using hbj
     refine aB (by omega) (by omega) ⟨j+1,⟨by omega,by omega,fun k b h1 h2 hk=>?_⟩,by omega,⟨⟨rfl,rfl,rfl,rfl,trivial⟩,⟨rfl,trivial⟩,rfl,rfl⟩⟩
     by_cases e:k=j
     ·subst e;rw[hcj]at hk;cases hk;exact hbj
     ·exact hin k b h1 (by omega) hk
    ·have hbj : cX cj = true := by simpa using hbj
     refine aG i j rfl rfl (by omega) (by omega) ?_
     intro r1
     refine gIn ?_ ?_ fun b' c' hb'=>?_
     ·show(ys.length+1)*16≤_;omega
     ·exact Nat.le_trans (m:=100000000) (show ys.length+1≤_ by omega) (by decide)
     refine⟨(j,L++[(s.drop i).take (j-i)],_,b',c'),⟨by dsimp only;omega,by simp only[List.length_append,List.length_cons,List.length_nil];omega,?_,?_⟩,by dsimp only;omega,⟨⟨rfl,rfl,rfl,trivial⟩,⟨rfl,trivial⟩,rfl,rfl⟩⟩
     ·dsimp only
      rw[cH,hys,cZ]
     ·dsimp only
      rw[List.append_assoc,List.singleton_append]
      (rw[←hT,tN (Nat.le_refl _) hch hbk hij hj hin fun b hb=>by rw[hcj]at hb;cases hb;exact hbj])
   ·refine aG i j rfl rfl (by omega) (by omega) ?_
    intro r1
    refine gIn ?_ ?_ fun b' c' hb'=>?_
    ·show(ys.length+1)*16≤_;omega
    ·exact Nat.le_trans (m:=100000000) (show ys.length+1≤_ by omega) (by decide)
    refine⟨(j,L++[(s.drop i).take (j-i)],_,b',c'),⟨by dsimp only;omega,by simp only[List.length_append,List.length_cons,List.length_nil];omega,?_,?_⟩,by dsimp only;omega,⟨⟨rfl,rfl,rfl,trivial⟩,⟨rfl,trivial⟩,rfl,rfl⟩⟩
    ·dsimp only
     rw[cH,hys,cZ]
    ·dsimp only
     rw[List.append_assoc,List.singleton_append]
     (rw[←hT,tN (Nat.le_refl _) hch hbk hij hj hin fun b hb=>by have:=(List.getElem?_eq_some_iff.1 hb).1;omega])
  ·have hbk : cX ch = true := by simpa using hbk
   rw[tA]at hbk
   have hbk:=of_decide_eq_true hbk
   refine aN i ch rfl (at_ _ _ hch) ?_
   refine ifd (fun h40=>?_) (fun h40=>?_)
   ·refine aG i (i + 1) rfl rfl (by omega) (by omega) ?_
    intro r1
    refine gIn ?_ ?_ fun b' c' hb'=>?_
    ·show(ys.length+1)*16≤_;omega
    ·exact Nat.le_trans (m:=100000000) (show ys.length+1≤_ by omega) (by decide)
    refine⟨((i+1),L++[(s.drop i).take ((i+1)-i)],_,b',c'),⟨by dsimp only;omega,by simp only[List.length_append,List.length_cons,List.length_nil];omega,?_,?_⟩,by dsimp only;omega,⟨⟨rfl,rfl,rfl,trivial⟩,⟨rfl,trivial⟩,rfl,rfl⟩⟩
    ·dsimp only
     rw[cH,hys,cZ]
    ·dsimp only
     rw[List.append_assoc,List.singleton_append]
     (rw[←hT,tO hdl (by omega)];simp[hch,List.take_one])
   ·refine aN i ch rfl (at_ _ _ hch) ?_
    refine iIn (fun h41=>?_) (fun h41=>?_)
    ·have h41 := of_decide_eq_true h41
     refine aG i (i+1) rfl rfl (by omega) (by omega) ?_
     intro r1
     refine gIn ?_ ?_ fun b' c' hb'=>?_
     ·show(ys.length+1)*16≤_;omega
     ·exact Nat.le_trans (m:=100000000) (show ys.length+1≤_ by omega) (by decide)
     refine⟨((i+1),L++[(s.drop i).take ((i+1)-i)],_,b',c'),⟨by dsimp only;omega,by simp only[List.length_append,List.length_cons,List.length_nil];omega,?_,?_⟩,by dsimp only;omega,⟨⟨rfl,rfl,rfl,trivial⟩,⟨rfl,trivial⟩,rfl,rfl⟩⟩
     ·dsimp only
      rw[cH,hys,cZ]
     ·dsimp only
      rw[List.append_assoc,List.singleton_append]
      (rw[←hT,tO hdl (by omega)];simp[hch,List.take_one])
    ·have h41 := of_decide_eq_false h41
     refine⟨(i+1,L,ys,b,c),⟨by dsimp only;omega,by dsimp only;omega,hys,?_⟩,by dsimp only;omega,⟨⟨rfl,rfl,rfl,trivial⟩,⟨rfl,trivial⟩,rfl,rfl⟩⟩
     dsimp only
     rw[←hT,qGi hdl (by omega)]
 ·have e:cQ s.length (s.drop i)=[]:=by
   rw[List.drop_eq_nil_of_le (by omega)]
   cases s.length<;>rfl
  rw[e,List.append_nil]at hT
  refine lIn (fun k:Nat=>k≤s.length) (fun k=>⟨[(0,.val (.string (mkS s))),(4,.row 0 b ys.length c),(7,.val (.int .i64 k))],[(0,some (.row b c 9 1 ys))],1,μ,Mem.nil⟩) (fun k=>s.length-k)
   0 (Nat.zero_le _) (fun _=>⟨rfl,rfl⟩) ⟨⟨rfl,rfl,rfl,trivial⟩,⟨rfl,trivial⟩,rfl,rfl⟩ ?_
  intro k hk
  refine ifd (fun hks=>?_) (fun hks=>?_)
  ·obtain ⟨ck, hck⟩ : ∃ ck, s[k]? = some ck := ⟨_, List.getElem?_eq_getElem (by omega)⟩
   have hc:=hb ck (List.mem_of_getElem? hck)
   have next:∀K,K=k+1→K≤s.length:=fun K e=>by omega
   refine aN k ck rfl (at_ _ _ hck) ?_
   refine aL (fun h10=>?_) (fun h10=>?_)
   ·refine aN k ck rfl (at_ _ _ hck) ?_
    refine aB (by omega) (by omega) ?_
    refine cGv (bG _ _ _ _) ?_
    refine iIn (fun h=>?_) (fun h=>?_)
    ·rw [decide_eq_true ⟨by omega, by omega⟩] at h
     cases h
    ·exact aB (by omega) (by omega) ⟨k+1,by omega,by omega,⟨⟨rfl,rfl,rfl,trivial⟩,⟨rfl,trivial⟩,rfl,rfl⟩⟩
   ·exact aB (by omega) (by omega) ⟨k+1,by omega,by omega,⟨⟨rfl,rfl,rfl,trivial⟩,⟨rfl,trivial⟩,rfl,rfl⟩⟩
  ·refine ifd (fun h => absurd h (by omega)) (fun _ => ?_)
   refine rFz [0] fun μ4 hle4 hno hat=> .inl ⟨_,rfl,?_⟩
   rw[hys,jW]at hat ⊢
   rw[←hT]
   exact Rows.sl hat (Nm.rows (L.map mkS)) (by rw[List.length_map,List.length_map];exact Nat.le_trans (m:=1000) (by omega) (by decide))
end
end Go.Vx
namespace Go.Vx
open Go.Proofs Classical
theorem qAx{l:List Bs}(h:wN l=true){t:Bs}(ht:t∈l):qLw t=true:=by
 rw[wN,Bool.and_eq_true,List.all_eq_true]at h
 exact h.1 t ht
theorem sS{l:List Bs}(h:wN l=true):(cA l []).2.length≤9:=by
 rw[wN,Bool.and_eq_true]at h
 exact of_decide_eq_true h.2
theorem qCn{t:Bs}(h:qLw t=true):∃b r,t=b::r∧(b.toNat=63→wX r=true):=by
 cases t with
 |nil=>cases h
 |cons b r=>
  refine⟨b,r,rfl,fun hb=>?_⟩
  have e:b=63:=UInt8.toNat_inj.1 hb
  subst e
  rw[qLw,Bool.and_eq_true,Bool.or_eq_true]at h
  rcases h.2 with h|h
  ·cases h
  ·exact h
theorem dU{r:Bs}{l names:List Bs}{b:UInt8}(hb:b.toNat=63):cA ((b::r)::l) names=(uZ (names.idxOf (b::r))::(cA l (fR names (b::r))).1,(cA l (fR names (b::r))).2):=by
 have e:b=63:=UInt8.toNat_inj.1 hb
 subst e
 rw[cA,if_pos (by simp)]
theorem qBx{r:Bs}{l names:List Bs}{b:UInt8}(hb:b.toNat≠63):cA ((b::r)::l) names=((b::r)::(cA l names).1,(cA l names).2):=by
 have e:b≠63:=fun e=>hb (by rw[e];rfl)
 rw[cA,if_neg (by simpa using e)]
section
variable {μ:Mem}
set_option maxHeartbeats 1000000 in
theorem nG{l:List Bs}{base:Option Addr}{cap:Nat}(hs:Sl μ 1 base l.length ((l.map mkS).map D.s))(hl:l.length≤400)(hB:wN l=true):
  Spec Tryz.prog 184 [.slice base l.length cap] μ fun w μ'=>∃tv,w= .tuple #[tv,.int .i64 ((cA l []).2.length:Nat),.bool true]∧NmV μ' ((cA l []).1.map mkS) tv:=by
 have hcount:=sS hB
 refine Spec.mk Tryz.func184 (by kernel_rfl) ?_
 intro r0
 intro r1
 refine lIn (fun z:Nat×List Bs×List Bs×(List Value×Option Nat×Nat)×(List Value×Option Nat×Nat)=>z.1≤l.length∧z.2.2.2.1.1=jW z.2.1∧z.2.2.2.2.1=jW z.2.2.1∧z.2.2.1.length=z.1∧cA l []=(z.2.2.1++(cA (l.drop z.1) z.2.1).1,(cA (l.drop z.1) z.2.1).2))
  (fun(i,_,_,(ys1,b1,c1),(ys2,b2,c2))=>⟨[(5,.row 0 b1 ys1.length c1),(6,.row 1 b2 ys2.length c2),(14,.val (.slice base l.length cap)),(15,.val (.int .i64 l.length)),(16,.val (.int .i64 i))],[(1,some (.row b2 c2 9 1 ys2)),(0,some (.row b1 c1 9 1 ys1))],2,μ,Mem.nil⟩) (fun z=>l.length-z.1)
  (0,[],[],([],some r0,0),([],some r1,0)) ⟨Nat.zero_le _,rfl,rfl,rfl,rfl⟩ (fun(_,_,_,(_,_,_),(_,_,_))=>⟨rfl,rfl⟩) ⟨⟨rfl,rfl,rfl,rfl,rfl,trivial⟩,⟨rfl,rfl,trivial⟩,rfl,rfl⟩ ?_
 rintro⟨i,names,out,⟨ys1,b1,c1⟩,⟨ys2,b2,c2⟩⟩ ⟨hi,hy1,hy2,ho,hN⟩
 dsimp only at hi hy1 hy2 ho hN
 have hl1:ys1.length=names.length:=by rw[hy1,nU]
 have hl2:ys2.length=out.length:=by rw[hy2,nU]
 refine ifd (fun hlt=>?_) (fun hlt=>?_)
 ·obtain ⟨t, ht⟩ : ∃ t, l[i]? = some t := ⟨_, List.getElem?_eq_getElem (by omega)⟩
  have w_:=qCn (qAx hB (List.mem_of_getElem? ht))
  obtain⟨b0,rt,rfl,hnm⟩:=w_
  have w_:=Nm.elem (s:=mkS (b0::rt)) hs (i:=i) (by rw[List.getElem?_map,ht];rfl)
  obtain⟨ad,hel⟩:=w_
  have hnl:names.length≤9:=by
   have:=cY (l.drop i) names
   have e:(cA (l.drop i) names).2=(cA l []).2:=by rw[hN]
   rw[e]at this
   omega
  refine eIn hel ?_
  refine aN 0 b0 rfl rfl ?_
  refine aL (fun hb63=>?_) (fun hb63=>?_)
  ·have hb63 : b0.toNat ≠ 63 := by omega
   intro r3
   refine gIn ?_ ?_ fun b4 c4 hb4=>?_
   ·show(ys2.length+1)*16≤_;omega
   ·exact Nat.le_trans (m:=100000000) (show ys2.length+1≤_ by omega) (by decide)
   refine aB (by omega) (by omega) ⟨(i+1,names,out++[b0::rt],(ys1,b1,c1),(_,b4,c4)),⟨by dsimp only;omega,hy1,by dsimp only;rw[cH,hy2],by simp[ho],?_⟩,by dsimp only;omega,⟨⟨rfl,rfl,rfl,rfl,rfl,trivial⟩,⟨rfl,rfl,trivial⟩,rfl,rfl⟩⟩
   dsimp only
   rw[hN,bE ht,qBx hb63]
   simp
  ·have hb63 : b0.toNat = 63 := by omega
   have hrn:=hnm hb63
   have hex:(mkS (b0::rt)).extract 1 (mkS (b0::rt)).size=mkS rt:=by
    rw[cZ,dK];simp
   have hp:∀μ,aM Tryz.prog 228 [.string ((mkS (b0::rt)).extract 1 (mkS (b0::rt)).size)] μ (.tuple #[.int .i64 0,.bool false]):=fun μ=>by
    rw[hex];exact oP hrn
   rw[iN,decide_eq_true_eq]at hrn
   have hq:∀μ,aM Tryz.prog 199 [.string ((mkS (b0::rt)).extract 1 (mkS (b0::rt)).size)] μ (.bool true):=fun μ=>by
    rw[hex]
    have:=cO (mkS rt) (Nat.le_trans hrn.2.1 (by decide)) μ
    rwa [decide_eq_true hrn]at this
   have hsz:(mkS (b0::rt)).size=rt.length+1:=dK _
   refine aG 1 (mkS (b0::rt)).size rfl rfl (by omega) (Int.le_refl _) ?_
   refine cGv (hp _) ?_
   refine aG 1 (mkS (b0::rt)).size rfl rfl (by omega) (Int.le_refl _) ?_
   refine cGv (hq _) ?_
   refine iIn (fun h=>nomatch h) (fun _=>?_)
   refine lIn (fun k:Nat=>k≤names.length∧∀(j:Nat) x,j<k→names[j]? =some x→x≠b0::rt)
    (fun k=>⟨[(5,.row 0 b1 ys1.length c1),(6,.row 1 b2 ys2.length c2),(8,.val (.string (mkS (b0::rt)))),(11,.val (.int .i64 k)),(14,.val (.slice base l.length cap)),(15,.val (.int .i64 l.length)),(16,.val (.int .i64 i))],[(1,some (.row b2 c2 9 1 ys2)),(0,some (.row b1 c1 9 1 ys1))],2,μ,Mem.nil⟩) (fun k=>names.length-k)
    0 ⟨Nat.zero_le _,fun j x hj=>by omega⟩ (fun _=>⟨rfl,rfl⟩) ⟨⟨rfl,rfl,rfl,rfl,rfl,rfl,rfl,trivial⟩,⟨rfl,rfl,trivial⟩,rfl,rfl⟩ ?_
   rintro k ⟨hk,hall⟩
   refine ifd (fun hkn=>?_) (fun hkn=>?_)
   ·obtain ⟨x, hx⟩ : ∃ x, names[k]? = some x := ⟨_, List.getElem?_eq_getElem (by omega)⟩
    refine aX k rfl (by omega) (aW (.string (mkS x)) (by rw[hy1,jW,List.getElem?_map,List.getElem?_map,hx];rfl) ?_)
    refine iIn (fun hne=>?_) (fun hne=>?_)
    ·have hne : mkS x ≠ mkS (b0 :: rt) := by simpa using hne
     refine aB (by omega) (by omega) ⟨k+1,⟨by omega,fun j y hj hy=>?_⟩,by omega,⟨⟨rfl,rfl,rfl,rfl,rfl,rfl,rfl,trivial⟩,⟨rfl,rfl,trivial⟩,rfl,rfl⟩⟩
     by_cases e:j=k
     ·subst e; rw [hx] at hy; cases hy
      exact fun e=>hne (by rw[e])
     ·exact hall j y (by omega) hy
    ·have hne : mkS x = mkS (b0 :: rt) := by simpa using hne
     have hxe:x=b0::rt:=bA hne
     have hix:names.idxOf (b0::rt)=k:=qBl hk hall (fun y hy=>by rw[hx]at hy;cases hy;exact hxe)
     refine ifd (fun hkl=>?_) (fun hkl=>?_)
     ·have hadd : fR names (b0 :: rt) = names ++ [b0 :: rt] := by rw [fR, if_neg (by rw [hix]; omega)]
      have hcnt:=cY (l.drop (i+1)) (fR names (b0::rt))
      have hcn2:(cA (l.drop (i+1)) (fR names (b0::rt))).2=(cA l []).2:=by rw[hN,bE ht,dU hb63]
      rw[hcn2,hadd,List.length_append,List.length_singleton]at hcnt
      intro r4
      refine gIn ?_ ?_ fun b3 c3 hb3=>?_
      ·show(ys1.length+1)*16≤_;omega
      ·exact Nat.le_trans (m:=100000000) (show ys1.length+1≤_ by omega) (by decide)
      refine cGv (bU (k:=k) (by omega)) ?_
      refine aC (by show 1+1≤_;decide) ?_
      intro r6
      refine gIn ?_ ?_ fun b4 c4 hb4=>?_
      ·show(ys2.length+1)*16≤_;omega
      ·exact Nat.le_trans (m:=100000000) (show ys2.length+1≤_ by omega) (by decide)
      refine aB (by omega) (by omega) ⟨(i+1,names++[b0::rt],out++[uZ k],(_,b3,c3),(_,b4,c4)),⟨by dsimp only;omega,(by dsimp only;rw[cH,hy1]),?_,by simp[ho],?_⟩,by dsimp only;omega,⟨⟨rfl,rfl,rfl,rfl,rfl,trivial⟩,⟨rfl,rfl,trivial⟩,rfl,rfl⟩⟩
      ·dsimp only
       rw[cH,hy2]
       exact congrArg (fun x=>jW out++[Value.string x]) (aZ [63] [_])
      ·dsimp only
       rw[hN,bE ht,dU hb63,hix,hadd]
       simp
     ·have hadd : fR names (b0 :: rt) = names := by rw [fR, if_pos (by rw [hix]; omega)]
      have hcnt:=cY (l.drop (i+1)) (fR names (b0::rt))
      have hcn2:(cA (l.drop (i+1)) (fR names (b0::rt))).2=(cA l []).2:=by rw[hN,bE ht,dU hb63]
      rw[hcn2,hadd]at hcnt
      refine cGv (bU (k:=k) (by omega)) ?_
      refine aC (by show 1+1≤_;decide) ?_
      intro r6
      refine gIn ?_ ?_ fun b4 c4 hb4=>?_
      ·show(ys2.length+1)*16≤_;omega
      ·exact Nat.le_trans (m:=100000000) (show ys2.length+1≤_ by omega) (by decide)
      refine aB (by omega) (by omega) ⟨(i+1,names,out++[uZ k],(ys1,b1,c1),(_,b4,c4)),⟨by dsimp only;omega,hy1,?_,by simp[ho],?_⟩,by dsimp only;omega,⟨⟨rfl,rfl,rfl,rfl,rfl,trivial⟩,⟨rfl,rfl,trivial⟩,rfl,rfl⟩⟩
      ·dsimp only
       rw[cH,hy2]
       exact congrArg (fun x=>jW out++[Value.string x]) (aZ [63] [_])
      ·dsimp only
       rw[hN,bE ht,dU hb63,hix,hadd]
       simp
   ·have hix : names.idxOf (b0 :: rt) = k := qBl hk hall (fun y hy => by have := (List.getElem?_eq_some_iff.1 hy).1; omega)
    refine ifd (fun hkl=>?_) (fun hkl=>?_)
    ·have hadd : fR names (b0 :: rt) = names ++ [b0 :: rt] := by rw [fR, if_neg (by rw [hix]; omega)]
     have hcnt:=cY (l.drop (i+1)) (fR names (b0::rt))
     have hcn2:(cA (l.drop (i+1)) (fR names (b0::rt))).2=(cA l []).2:=by rw[hN,bE ht,dU hb63]
     rw[hcn2,hadd,List.length_append,List.length_singleton]at hcnt
     intro r4
     refine gIn ?_ ?_ fun b3 c3 hb3=>?_
     ·show(ys1.length+1)*16≤_;omega
     ·exact Nat.le_trans (m:=100000000) (show ys1.length+1≤_ by omega) (by decide)
     refine cGv (bU (k:=k) (by omega)) ?_
     refine aC (by show 1+1≤_;decide) ?_
     intro r6
     refine gIn ?_ ?_ fun b4 c4 hb4=>?_
     ·show(ys2.length+1)*16≤_;omega
     ·exact Nat.le_trans (m:=100000000) (show ys2.length+1≤_ by omega) (by decide)
     refine aB (by omega) (by omega) ⟨(i+1,names++[b0::rt],out++[uZ k],(_,b3,c3),(_,b4,c4)),⟨by dsimp only;omega,(by dsimp only;rw[cH,hy1]),?_,by simp[ho],?_⟩,by dsimp only;omega,⟨⟨rfl,rfl,rfl,rfl,rfl,trivial⟩,⟨rfl,rfl,trivial⟩,rfl,rfl⟩⟩
     ·dsimp only
      rw[cH,hy2]
      exact congrArg (fun x=>jW out++[Value.string x]) (aZ [63] [_])
     ·dsimp only
      rw[hN,bE ht,dU hb63,hix,hadd]
      simp
    ·have hadd : fR names (b0 :: rt) = names := by rw [fR, if_pos (by rw [hix]; omega)]
     have hcnt:=cY (l.drop (i+1)) (fR names (b0::rt))
     have hcn2:(cA (l.drop (i+1)) (fR names (b0::rt))).2=(cA l []).2:=by rw[hN,bE ht,dU hb63]
     rw[hcn2,hadd]at hcnt
     refine cGv (bU (k:=k) (by omega)) ?_
     refine aC (by show 1+1≤_;decide) ?_
     intro r6
     refine gIn ?_ ?_ fun b4 c4 hb4=>?_
     ·show(ys2.length+1)*16≤_;omega
     ·exact Nat.le_trans (m:=100000000) (show ys2.length+1≤_ by omega) (by decide)
     refine aB (by omega) (by omega) ⟨(i+1,names,out++[uZ k],(ys1,b1,c1),(_,b4,c4)),⟨by dsimp only;omega,hy1,?_,by simp[ho],?_⟩,by dsimp only;omega,⟨⟨rfl,rfl,rfl,rfl,rfl,trivial⟩,⟨rfl,rfl,trivial⟩,rfl,rfl⟩⟩
     ·dsimp only
      rw[cH,hy2]
      exact congrArg (fun x=>jW out++[Value.string x]) (aZ [63] [_])
     ·dsimp only
      rw[hN,bE ht,dU hb63,hix,hadd]
      simp
 ·have e : l.drop i = [] := List.drop_eq_nil_of_le (by omega)
  rw[e]at hN
  have hN:cA l []=(out,names):=by rw[hN,cA,List.append_nil]
  refine rFz [1] fun μ4 hle4 hno hat=> .inl ⟨.slice (b2.map fun r=>⟨r,0,none⟩) ys2.length c2,?_,?_⟩
  ·show Value.tuple #[_, .int .i64 (ys1.length : Nat), .bool true] = _
   rw[hN,hl1]
  ·rw [hN]
   rw[hy2,jW]at hat ⊢
   exact Rows.sl hat (Nm.rows (out.map mkS)) (by rw[List.length_map,List.length_map];exact Nat.le_trans (m:=1000) (by omega) (by decide))
end
end Go.Vx
namespace Go.Vx
open Go.Proofs Classical
section
variable {μ:Mem}
theorem eJ{ts:List T}{tl:T}{base:Option Addr}{cap:Nat}{vt:Value}(hsl:Sl μ 4 base ts.length ((ts.map T.tm).map Tm.d))(hn:ts.length≤100000)(ht:RepV μ tl.tm.d vt):
  Spec Tryz.prog 259 [.slice base ts.length cap,vt] μ fun v μ'=>RepV μ' (pG ts tl).tm.d v:=by
 have w_:=Tm.invV ht
 obtain⟨q,rfl⟩:=w_
 refine Spec.mk Tryz.func259 (by kernel_rfl) ?_
 intro r3 r4
 refine aB (by omega) (by omega) ?_
 refine lIn (fun z:Nat×T×(Option Addr×Nat)×Mem=>z.1≤ts.length∧μ.Le z.2.2.2∧z.2.1=pG (ts.drop z.1) tl∧RepV z.2.2.2 z.2.1.tm.d (.agg #[.int .i64 z.2.1.tm.kind,.int .i64 z.2.1.tm.num,.string z.2.1.tm.name,.slice z.2.2.1.1 z.2.1.tm.args.length z.2.2.1.2]))
  (fun (j, x, p, μ') => ⟨[(0, .val (.slice base ts.length cap)), (3, .loc 0 r3 0), (4, .loc 1 r4 0), (5, .val (.int .i64 ((j : Int) - 1)))],
   [(0,some (.cells r3 [.val (.int .i64 x.tm.kind),.val (.int .i64 x.tm.num),.val (.string x.tm.name),.val (.slice p.1 x.tm.args.length p.2)] 75)),(1,some (.cells r4 [.val (.int .i64 0),.val (.int .i64 0),.val (.string ⟨#[]⟩),.val (.slice none 0 0)] 75))],2,μ',Mem.nil⟩) (fun z=>z.1)
  (ts.length,tl,q,μ) ⟨Nat.le_refl _,Mem.Le.refl _,by dsimp only;rw[List.drop_length,pG],ht⟩ (fun(_,_,(_,_),_)=>⟨rfl,rfl⟩) ⟨⟨rfl,rfl,rfl,rfl,trivial⟩,⟨rfl,rfl,trivial⟩,rfl,rfl⟩ ?_
 rintro⟨j,x,⟨p1,p2⟩,μ1⟩ ⟨hj,hle,hx,hr⟩
 dsimp only at hj hle hx hr
 refine ifd (fun hlt=>?_) (fun hlt=>?_)
 ·obtain ⟨i, rfl⟩ : ∃ i, j = i + 1 := ⟨j - 1, by omega⟩
  have w_:=aSo (l:=ts) (i:=i) (by omega)
  obtain⟨t,ht'⟩:=w_
  have w_:=T.elemL (hsl.mono hle) ht'
  obtain⟨ad,p,hel,hrt⟩:=w_
  have ei:((i+1:Nat):Int)-1=(i:Int):=by omega
  rw[ei]
  refine eIn hel ?_
  refine cPl (fO hrt hr) fun v μ2 hle2 hR=>?_
  have w_:=Tm.invV hR
  obtain⟨q2,rfl⟩:=w_
  refine aB (by omega) (by omega) ⟨(i,.pair t x,q2,μ2),⟨by dsimp only;omega,hle.trans hle2,?_,hR⟩,by dsimp only;omega,⟨⟨rfl,rfl,rfl,rfl,trivial⟩,⟨rfl,rfl,trivial⟩,rfl,rfl⟩⟩
  dsimp only
  rw[bE ht',pG,hx]
 ·obtain rfl : j = 0 := by omega
  rw[List.drop_zero]at hx
  refine rPl ?_
  rw[←hx]
  exact hr
theorem qZ{t:Bs}{x:T}(h:yG t=some x)(hl:t.length≤400):Spec Tryz.prog 258 [.string (mkS t)] μ fun w μ'=>∃tv,w= .tuple #[tv,.bool true]∧RepV μ' x.tm.d tv:=by
 have hsz:(mkS t).size=t.length:=dK t
 refine Spec.mk Tryz.func258 (by kernel_rfl) ?_
 intro r2
 refine cGv (cO (mkS t) (by rw[hsz];exact Nat.le_trans hl (by decide)) _) ?_
 refine ifd (fun hn=>?_) (fun hn=>?_)
 ·unfold yG at h
  rw[if_pos (by rw[iN];exact decide_eq_true hn)]at h
  cases h
  refine cPl (dT (mkS t)) fun v μ2 hle2 hR=>?_
  have w_:=Tm.invV hR
  obtain⟨p,rfl⟩:=w_
  exact rPl ⟨_,rfl,hR⟩
 ·unfold yG at h
  rw[if_neg (by rw[iN];simpa using hn)]at h
  obtain⟨d,k,rfl,hd,hk,rfl⟩:∃(d:UInt8) (k:Nat),t=[63,d]∧d.toNat=48+k∧k≤9∧x= .var k:=by
   split at h
   ·rename_i d
    split at h
    ·rename_i hd
     cases h
     simp only[Bool.and_eq_true,decide_eq_true_eq]at hd
     have h1:=UInt8.le_iff_toNat_le.1 hd.1
     have h2:=UInt8.le_iff_toNat_le.1 hd.2
     have e1:(48:UInt8).toNat=48:=rfl
     have e2:(57:UInt8).toNat=57:=rfl
     exact⟨d,d.toNat-48,rfl,by omega,by omega,rfl⟩
    ·cases h
   ·cases h
  have hde:d=UInt8.ofNat (48+k):=by
   apply UInt8.toNat_inj.1
   rw[hd,UInt8.toNat_ofNat']
   omega
  subst hde
  have hex:(mkS [63,UInt8.ofNat (48+k)]).extract 1 (mkS [63,UInt8.ofNat (48+k)]).size=mkS [UInt8.ofNat (48+k)]:=by
   rw[cZ,dK];rfl
  have hp:∀μ,aM Tryz.prog 228 [.string ((mkS [63,UInt8.ofNat (48+k)]).extract 1 (mkS [63,UInt8.ofNat (48+k)]).size)] μ (.tuple #[.int .i64 k,.bool true]):=fun μ=>by
   rw[hex];exact mL hk
  have hs2:(mkS [63,UInt8.ofNat (48+k)]).size=2:=dK _
  intro r4
  refine ifd (fun _=>?_) (fun h=>absurd h (by omega))
  refine aN 0 63 rfl rfl ?_
  refine iIn (fun _=>?_) (fun h=>absurd h (by decide))
  refine aG 1 (mkS [63,UInt8.ofNat (48+k)]).size rfl rfl (by omega) (Int.le_refl _) ?_
  refine cGv (hp _) ?_
  refine iIn (fun h=>nomatch h) (fun _=>?_)
  have hrep:RepV μ (T.var k).tm.d (qDi k):=gP _
  refine cGv (jE (T.var k).tm hrep (qOr ⟨by omega,by omega⟩)) ?_
  have hsh:(T.var (k:Int)).tm.Sh:=⟨.var k,⟨by omega,by omega⟩,rfl⟩
  refine iIn (fun h=>?_) (fun _=>?_)
  ·rw [decide_eq_true hsh] at h
   cases h
  ·exact rPl ⟨_,rfl,hrep⟩
def qOz(L:List Bs)(i:Nat)(x:T)(rest:List Bs)(w:Value)(μ':Mem):Prop:=∃tv,∃j:Nat,w= .tuple #[tv,.int .i64 j,.bool true]∧RepV μ' x.tm.d tv∧rest=L.drop j∧i<j∧j≤L.length
theorem dS{α:Type}{l:List α}{i:Nat}{t:α}{r:List α}(h:l.drop i=t::r):l[i]? =some t∧r=l.drop (i+1)∧i<l.length:=by
 have hi:i<l.length:=by
  rcases Nat.lt_or_ge i l.length with k|k
  ·exact k
  ·rw[List.drop_eq_nil_of_le k]at h;cases h
 rw[List.drop_eq_getElem_cons hi]at h
 have h1:=List.cons.inj h
 exact⟨by rw[List.getElem?_eq_getElem hi,h1.1],h1.2.symm,hi⟩
theorem qCe{n:Nat}{l:List Bs}{more:List T}{c:Bs}{r1:List Bs}(h:rdN n l=some (more,c::r1)):∃t r,∃m,n=m+1∧l=t::r∧((more=[]∧(t=[41]∨t=[46])∧c=t∧r1=r)∨(t≠[41]∧t≠[46]∧∃x r',∃more',rdT m (t::r)=some (x,r')∧rdN m r'=some (more',c::r1)∧more=x::more')):=by
 match n,l,h with
 |m+1,t::r,h=>
  refine⟨t,r,m,rfl,rfl,?_⟩
  rw[rdN]at h
  by_cases hc:(t==[41]||t==[46])=true
  ·rw [if_pos hc] at h
   cases h
   simp only[Bool.or_eq_true,beq_iff_eq]at hc
   exact .inl ⟨rfl,hc,rfl,rfl⟩
  ·rw [if_neg hc] at h
   simp only[Bool.or_eq_true,beq_iff_eq,not_or]at hc
   refine .inr ⟨hc.1,hc.2,?_⟩
   split at h
   ·rename_i x r' he
    have w_:=Option.map_eq_some_iff.1 h
    obtain⟨⟨a,b⟩,h1,h2⟩:=w_
    cases h2
    exact⟨x,r',a,he,h1,rfl⟩
   ·cases h
theorem qCf{n:Nat}{l:List Bs}{x:T}{rest:List Bs}(h:rdT n l=some (x,rest)):∃t r,∃m,n=m+1∧l=t::r∧t≠[41]∧t≠[46]∧
  ((t≠[40]∧yG t=some x∧rest=r)∨(t=[40]∧∃items c r1,rdN m r=some (items,c::r1)∧((c=[41]∧x=pG items .nil∧rest=r1)∨(c=[46]∧items≠[]∧∃tl r2,rdT m r1=some (tl,[41]::r2)∧x=pG items tl∧rest=r2)))):=by
 match n,l,h with
 |m+1,t::r,h=>
  refine⟨t,r,m,rfl,rfl,?_⟩
  rw[rdT]at h
  by_cases hc:(t==[41]||t==[46])=true
  ·rw [if_pos hc] at h
   cases h
  ·rw [if_neg hc] at h
   simp only[Bool.or_eq_true,beq_iff_eq,not_or]at hc
   refine⟨hc.1,hc.2,?_⟩
   by_cases h40:t=[40]
   ·subst h40
    rw[if_pos (show(([40]:Bs)==[40])=true by decide)]at h
    refine .inr ⟨rfl,?_⟩
    split at h
    ·rename_i items c r1 he
     refine⟨items,c,r1,he,?_⟩
     by_cases h41:c=[41]
     ·subst h41
      rw[if_pos (show(([41]:Bs)==[41])=true by decide)]at h
      cases h
      exact .inl ⟨rfl,rfl,rfl⟩
     ·rw [if_neg (by simpa using h41)] at h
      by_cases h46:(c==[46]&& !items.isEmpty)=true
      ·rw [if_pos h46] at h
       simp only[Bool.and_eq_true,beq_iff_eq,Bool.not_eq_true',List.isEmpty_eq_false_iff]at h46
       refine .inr ⟨h46.1,h46.2,?_⟩
       split at h
       ·rename_i tl d r2 he2
        by_cases hd:d=[41]
        ·subst hd
         rw[if_pos (show(([41]:Bs)==[41])=true by decide)]at h
         cases h
         exact⟨tl,_,he2,rfl,rfl⟩
        ·rw [if_neg (by simpa using hd)] at h
         cases h
       ·cases h
      ·rw [if_neg h46] at h
       cases h
    ·cases h
   ·rw [if_neg (by simpa using h40)] at h
    have w_:=Option.map_eq_some_iff.1 h
    obtain⟨a,h1,h2⟩:=w_
    cases h2
    exact .inl ⟨h40,h1,rfl⟩
end
end Go.Vx
namespace Go.Vx
open Go.Proofs Classical
theorem Nm.tok{μ:Mem}{L:List Bs}{base:Option Addr}(hs:Sl μ 1 base L.length ((L.map mkS).map D.s)){i:Nat}{t:Bs}(ht:L[i]? =some t):∃ad,ElemAt μ base L.length 1 (i:Int) ad [.string (mkS t)]:=
 Nm.elem hs (by rw[List.getElem?_map,ht];rfl)
theorem nd{p:Prop}[Decidable p](h:(!decide p)=true):¬p:=of_decide_eq_false (by simpa only[Bool.not_eq_true']using h)
theorem nd'{p:Prop}[Decidable p](h:(!decide p)=false):p:=of_decide_eq_true (by simpa only[Bool.not_eq_false']using h)
theorem tI{μ:Mem}:RepV μ T.nil.tm.d (.agg #[.int .i64 0,.int .i64 0,.string ⟨#[]⟩,.slice none 0 0]):=by
 rw[T.tm,Tm.d_mk]
 exact⟨_,rfl,RepS.int (RepS.int (RepS.str (RepS.last (Rep.nilSl 4))))⟩
set_option maxHeartbeats 2000000 in
theorem rA {L : List Bs} (hL : L.length ≤ 400) (hlen : ∀ t ∈ L, t.length ≤ 400) {base : Option Addr} {cap : Nat} : ∀ (n : Nat) {μ : Mem} {i : Nat} {x : T} {rest : List Bs}, Sl μ 1 base L.length ((L.map mkS).map D.s) → rdT n (L.drop i) = some (x, rest) →
  Spec Tryz.prog 230 [.slice base L.length cap,.int .i64 i] μ fun w μ'=>qOz L i x rest w μ':=fun n=>by
 induction n using Nat.strongRecOn with
 |ind n ih=>
 intro μ i x rest hs h
 have w_:=qCf h
 obtain⟨t,r,m,rfl,hd,hn41,hn46,hcase⟩:=w_
 have w_:=dS hd
 obtain⟨ht,hr0,hil⟩:=w_
 have w_:=Nm.tok hs ht
 obtain⟨ad,hel⟩:=w_
 refine Spec.mk Tryz.func230 (by kernel_rfl) ?_
 intro r4
 refine ifd (fun h=>absurd h (by omega)) (fun _=>?_)
 refine eIn hel ?_
 refine ifd (fun h=>absurd (bA h) hn41) (fun _=>?_)
 refine eIn hel ?_
 refine iIn (fun h=>absurd (bA (of_decide_eq_true h)) hn46) (fun _=>?_)
 refine eIn hel ?_
 refine aL (fun h40=>?_) (fun h40=>?_)
 ·rcases hcase with ⟨_, hat, hrest⟩ | ⟨e40, _⟩
  ·refine eIn hel ?_
   refine cPl (qZ hat (hlen t (List.mem_of_getElem? ht))) fun v μ1 hle1 hR=>?_
   obtain⟨tv,rfl,hr⟩:=hR
   have w_:=Tm.invV hr
   obtain⟨q,rfl⟩:=w_
   intro r7
   refine aB (by omega) (by omega) ?_
   exact rPl ⟨_,i+1,rfl,hr,by rw[hrest];exact hr0,by omega,by omega⟩
  ·exact absurd (congrArg mkS e40) h40
 ·have h40 : t = [40] := bA h40
  rcases hcase with⟨n40,_⟩|⟨_,items,c0,r1,hN0,hfin⟩
  ·exact absurd h40 n40
  rw[hr0]at hN0
  intro r9
  refine aB (by omega) (by omega) ?_
  refine lIn (fun z:Nat×List T×Nat×List T×(List Value×Option Nat×Nat)×Mem=>i<z.1∧z.1≤L.length∧z.2.2.1≤m∧rdN z.2.2.1 (L.drop z.1)=some (z.2.2.2.1,c0::r1)∧items=z.2.1++z.2.2.2.1∧Rows z.2.2.2.2.2 4 ((z.2.1.map T.tm).map Tm.d) z.2.2.2.2.1.1∧μ.Le z.2.2.2.2.2∧z.2.1.length≤z.1)
   (fun(i1,_,_,_,(ys,b,c),μ1)=>⟨[(0,.val (.slice base L.length cap)),(1,.val (.int .i64 i1)),(4,.loc 0 r4 0),(9,.row 1 b ys.length c)],[(1,some (.row b c 75 4 ys)),(0,some (.cells r4 [.val (.int .i64 0),.val (.int .i64 0),.val (.string ⟨#[]⟩),.val (.slice none 0 0)] 75))],2,μ1,Mem.nil⟩) (fun z=>L.length-z.1)
   (i+1,[],m,items,([],some r9,0),μ) ⟨by dsimp only;omega,by dsimp only;omega,Nat.le_refl _,hN0,rfl,.nil,Mem.Le.refl _,Nat.zero_le _⟩ (fun(_,_,_,_,(_,_,_),_)=>⟨rfl,rfl⟩) ⟨⟨rfl,rfl,rfl,rfl,trivial⟩,⟨rfl,rfl,trivial⟩,rfl,rfl⟩ ?_
  rintro⟨i1,D,m1,more,⟨ys,b,c⟩,μ1⟩ ⟨hi1,hi1l,hm1,hN,hit,hrows,hle,hDl⟩
  dsimp only at hi1 hi1l hm1 hN hit hrows hle hDl
  have hyl:=hrows.len
  rw[List.length_map,List.length_map]at hyl
  have hyl:=hyl.symm
  have w_:=qCe hN
  obtain⟨t1,rr,m2,rfl,hd1,hcs⟩:=w_
  have w_:=dS hd1
  obtain⟨ht1,hrr,hi1lt⟩:=w_
  have w_:=Nm.tok (hs.mono hle) ht1
  obtain⟨ad1,hel1⟩:=w_
  refine ifd (fun _=>?_) (fun h=>absurd h (by omega))
  refine eIn hel1 ?_
  rcases hcs with⟨hm0,htc,hct,hr1⟩|⟨hn1,hn2,x',r',more',hT,hN',hmore⟩
  ·replace hct := hct.symm
   subst hct
   have he1:r1=L.drop (i1+1):=by rw[hr1,hrr]
   refine aL (fun h41=>?_) (fun h41=>?_)
   ·refine eIn hel1 ?_
    have e46:t1=[46]:=htc.resolve_left fun e=>h41 (congrArg mkS e)
    refine iIn (fun h=>?_) (fun h=>?_)
    ·subst e46
     exact absurd rfl (nd h)
    ·clear h
     intro r13
     refine ifd (fun _=>?_) (fun h=>absurd h (by omega))
     have w_:=Nm.tok (hs.mono hle) ht1
     obtain⟨ad2,hel2⟩:=w_
     refine eIn hel2 ?_
     refine iIn (fun h46=>?_) (fun h46=>?_)
     ·have h46 : t1 = [46] := bA (of_decide_eq_true h46)
      rcases hfin with⟨e41,_⟩|⟨_,hne,tl,r2,htl,hx,hrest⟩
      ·rw[e41]at h46;cases h46
      refine aB (by omega) (by omega) ?_
      rw[he1]at htl
      refine cPl (ih m (by omega) (hs.mono hle) htl) fun v2 μ2 hle2 hR2=>?_
      obtain⟨tv2,j2,rfl,hr2,hj2,hij2,hjl2⟩:=hR2
      have w_:=Tm.invV hr2
      obtain⟨q2,rfl⟩:=w_
      intro r14
      refine iIn (fun h=>nomatch h) (fun _=>?_)
      have w_:=dS hj2.symm
      obtain⟨hj41,hj2e,hj2l⟩:=w_
      have hDne:D.length≠0:=fun e=>hne (by rw[hit,hm0,List.append_nil];exact List.eq_nil_of_length_eq_zero e)
      refine iIn (fun h=>absurd (of_decide_eq_true h) (by omega)) (fun _=>?_)
      refine ifd (fun h=>absurd h (by omega)) (fun _=>?_)
      have w_:=Nm.tok ((hs.mono hle).mono hle2) hj41
      obtain⟨ad3,hel3⟩:=w_
      refine eIn hel3 ?_
      refine iIn (fun h=>absurd rfl (nd h)) (fun _=>?_)
      refine aS [1] fun μ4 hle4 hno4 hat4=>?_
      have hsl4:Sl μ4 4 (b.map fun r=>(⟨r,0,none⟩:Addr)) D.length ((D.map T.tm).map Tm.d):=by
       have k:=Rows.sl hat4 (hrows.mono (hle2.trans hle4)) (Nat.le_trans (m:=1000) (by omega) (by decide))
       have w_:=Rep.sl k
       obtain⟨bz,cz,ez,hsz⟩:=w_
       have w_:=Value.slice.inj ez
       obtain⟨e1,e2,_⟩:=w_
       rw[List.length_map,List.length_map]at hsz
       rwa [←e1]at hsz
      rw[hyl]
      refine bM (eJ (tl:=tl) hsl4 (by omega) (hr2.mono hle4)) fun v5 μ5 hle5 hR5=>?_
      have w_:=Tm.invV hR5
      obtain⟨q5,rfl⟩:=w_
      refine aB (by omega) (by omega) ?_
      refine rPl ⟨_,j2+1,rfl,?_,?_,by omega,by omega⟩
      ·(rw[hx,hit,hm0,List.append_nil];exact hR5)
      ·(rw[hrest];exact hj2e)
     ·have h46 : t1 ≠ [46] := fun e => by rw [e] at h46; exact absurd (of_decide_eq_false h46) (fun h => h rfl)
      have h41:t1=[41]:=htc.resolve_right h46
      rcases hfin with⟨_,hx,hrest⟩|⟨e46,_⟩
      ·refine ifd (fun h => absurd h (by omega)) (fun _ => ?_)
       refine eIn hel2 ?_
       subst h41
       refine iIn (fun h=>absurd rfl (nd h)) (fun _=>?_)
       refine aS [1] fun μ4 hle4 hno4 hat4=>?_
       have hsl4:Sl μ4 4 (b.map fun r=>(⟨r,0,none⟩:Addr)) D.length ((D.map T.tm).map Tm.d):=by
        have k:=Rows.sl hat4 (hrows.mono (hle4)) (Nat.le_trans (m:=1000) (by omega) (by decide))
        have w_:=Rep.sl k
        obtain⟨bz,cz,ez,hsz⟩:=w_
        have w_:=Value.slice.inj ez
        obtain⟨e1,e2,_⟩:=w_
        rw[List.length_map,List.length_map]at hsz
        rwa [←e1]at hsz
       rw[hyl]
       refine bM (eJ (tl:= .nil) hsl4 (by omega) (tI)) fun v5 μ5 hle5 hR5=>?_
       have w_:=Tm.invV hR5
       obtain⟨q5,rfl⟩:=w_
       refine aB (by omega) (by omega) ?_
       refine rPl ⟨_,i1+1,rfl,?_,?_,by omega,by omega⟩
       ·(rw[hx,hit,hm0,List.append_nil];exact hR5)
       ·(rw[hrest];exact he1)
      ·exact absurd e46 h46
   ·intro r13
    refine ifd (fun _=>?_) (fun h=>absurd h (by omega))
    have w_:=Nm.tok (hs.mono hle) ht1
    obtain⟨ad2,hel2⟩:=w_
    refine eIn hel2 ?_
    refine iIn (fun h46=>?_) (fun h46=>?_)
    ·have h46 : t1 = [46] := bA (of_decide_eq_true h46)
     rcases hfin with⟨e41,_⟩|⟨_,hne,tl,r2,htl,hx,hrest⟩
     ·rw[e41]at h46;cases h46
     refine aB (by omega) (by omega) ?_
     rw[he1]at htl
     refine cPl (ih m (by omega) (hs.mono hle) htl) fun v2 μ2 hle2 hR2=>?_
     obtain⟨tv2,j2,rfl,hr2,hj2,hij2,hjl2⟩:=hR2
     have w_:=Tm.invV hr2
     obtain⟨q2,rfl⟩:=w_
     intro r14
     refine iIn (fun h=>nomatch h) (fun _=>?_)
     have w_:=dS hj2.symm
     obtain⟨hj41,hj2e,hj2l⟩:=w_
     have hDne:D.length≠0:=fun e=>hne (by rw[hit,hm0,List.append_nil];exact List.eq_nil_of_length_eq_zero e)
     refine iIn (fun h=>absurd (of_decide_eq_true h) (by omega)) (fun _=>?_)
     refine ifd (fun h=>absurd h (by omega)) (fun _=>?_)
     have w_:=Nm.tok ((hs.mono hle).mono hle2) hj41
     obtain⟨ad3,hel3⟩:=w_
     refine eIn hel3 ?_
     refine iIn (fun h=>absurd rfl (nd h)) (fun _=>?_)
     refine aS [1] fun μ4 hle4 hno4 hat4=>?_
     have hsl4:Sl μ4 4 (b.map fun r=>(⟨r,0,none⟩:Addr)) D.length ((D.map T.tm).map Tm.d):=by
      have k:=Rows.sl hat4 (hrows.mono (hle2.trans hle4)) (Nat.le_trans (m:=1000) (by omega) (by decide))
      have w_:=Rep.sl k
      obtain⟨bz,cz,ez,hsz⟩:=w_
      have w_:=Value.slice.inj ez
      obtain⟨e1,e2,_⟩:=w_
      rw[List.length_map,List.length_map]at hsz
      rwa [←e1]at hsz
     rw[hyl]
     refine bM (eJ (tl:=tl) hsl4 (by omega) (hr2.mono hle4)) fun v5 μ5 hle5 hR5=>?_
     have w_:=Tm.invV hR5
     obtain⟨q5,rfl⟩:=w_
     refine aB (by omega) (by omega) ?_
     refine rPl ⟨_,j2+1,rfl,?_,?_,by omega,by omega⟩
     ·(rw[hx,hit,hm0,List.append_nil];exact hR5)
     ·(rw[hrest];exact hj2e)
    ·have h46 : t1 ≠ [46] := fun e => by rw [e] at h46; exact absurd (of_decide_eq_false h46) (fun h => h rfl)
     have h41:t1=[41]:=htc.resolve_right h46
     rcases hfin with⟨_,hx,hrest⟩|⟨e46,_⟩
     ·refine ifd (fun h => absurd h (by omega)) (fun _ => ?_)
      refine eIn hel2 ?_
      subst h41
      refine iIn (fun h=>absurd rfl (nd h)) (fun _=>?_)
      refine aS [1] fun μ4 hle4 hno4 hat4=>?_
      have hsl4:Sl μ4 4 (b.map fun r=>(⟨r,0,none⟩:Addr)) D.length ((D.map T.tm).map Tm.d):=by
       have k:=Rows.sl hat4 (hrows.mono (hle4)) (Nat.le_trans (m:=1000) (by omega) (by decide))
       have w_:=Rep.sl k
       obtain⟨bz,cz,ez,hsz⟩:=w_
       have w_:=Value.slice.inj ez
       obtain⟨e1,e2,_⟩:=w_
       rw[List.length_map,List.length_map]at hsz
       rwa [←e1]at hsz
      rw[hyl]
      refine bM (eJ (tl:= .nil) hsl4 (by omega) (tI)) fun v5 μ5 hle5 hR5=>?_
      have w_:=Tm.invV hR5
      obtain⟨q5,rfl⟩:=w_
      refine aB (by omega) (by omega) ?_
      refine rPl ⟨_,i1+1,rfl,?_,?_,by omega,by omega⟩
      ·(rw[hx,hit,hm0,List.append_nil];exact hR5)
      ·(rw[hrest];exact he1)
     ·exact absurd e46 h46
  ·refine aL (fun h41 => ?_) (fun h41 => absurd (bA h41) hn1)
   refine eIn hel1 ?_
   refine iIn (fun h=>?_) (fun h=>?_)
   ·rw [← hd1] at hT
    refine cPl (ih m2 (by omega) (hs.mono hle) hT) fun v2 μ2 hle2 hR2=>?_
    obtain⟨tv2,j2,rfl,hr2,hj2,hij2,hjl2⟩:=hR2
    have w_:=Tm.invV hr2
    obtain⟨q2,rfl⟩:=w_
    intro r10
    refine iIn (fun h=>nomatch h) (fun _=>?_)
    intro r11
    refine gIn ?_ ?_ fun b' c' hb'=>?_
    ·show(ys.length+1)*56≤_;omega
    ·exact Nat.le_trans (m:=100000000) (show ys.length+1≤_ by omega) (by decide)
    refine⟨(j2,D++[x'],m2,more',(_,b',c'),μ2),⟨by dsimp only;omega,hjl2,by dsimp only;omega,by rw[←hj2];exact hN',by rw[hit,hmore,List.append_assoc];rfl,?_,hle.trans hle2,by simp only[List.length_append,List.length_singleton];omega⟩,by dsimp only;omega,⟨⟨rfl,rfl,rfl,rfl,trivial⟩,⟨rfl,rfl,trivial⟩,rfl,rfl⟩⟩
    dsimp only
    rw[List.map_append,List.map_append]
    exact(hrows.mono hle2).append (Rows.one hr2 (Tm.d_n _))
   ·exact absurd (bA (nd' h)) hn2
theorem bY{μ:Mem}{k:Int}{s:ByteArray}{ts:List Tm}{gs:List Gl}{vt vg:Value}(ht:RepV μ (.sl 4 (ts.map Tm.d)) vt)(hg:RepV μ (.sl 4 (gs.map Gl.d)) vg)(_h1:vt.oneCell'=true:=by rfl)(_h2:vg.oneCell'=true:=by rfl):
    RepV μ (Gl.mk k s ts gs).d (.agg #[.int .i64 k,.string s,vt,vg]):=by
  rw[Gl.d_eq]
  exact⟨_,rfl,RepS.int (RepS.str ⟨[_],[_],rfl,ht,RepS.last hg⟩)⟩
theorem qCc {n : Nat} {l : List Bs} {more : List T} {r1 : List Bs} (h : rdA n l = some (more, [41] :: r1)) : ∃ t r, ∃ m, n = m + 1 ∧ l = t :: r ∧ ((more = [] ∧ t = [41] ∧ r1 = r) ∨ (t ≠ [41] ∧ ∃ x r', ∃ more', rdT m (t :: r) = some (x, r') ∧ rdA m r' = some (more', [41] :: r1) ∧ more = x :: more')) := by
  match n,l,h with
  | m + 1, t :: r, h =>
    refine⟨t,r,m,rfl,rfl,?_⟩
    rw[rdA]at h
    by_cases hc:(t==[41])=true
    · rw [if_pos hc] at h
      cases h
      exact .inl ⟨rfl,rfl,rfl⟩
    · rw [if_neg hc] at h
      refine .inr ⟨by simpa using hc,?_⟩
      split at h
      · rename_i x r' he
        have w_:=Option.map_eq_some_iff.1 h
        obtain⟨⟨a,b⟩,h1,h2⟩:=w_
        cases h2
        exact⟨x,r',a,he,h1,rfl⟩
      · cases h
theorem yZ {n : Nat} {l : List Bs} {more : List Gl} {r1 : List Bs} (h : qCd n l = some (more, [41] :: r1)) : ∃ t r, ∃ m, n = m + 1 ∧ l = t :: r ∧ ((more = [] ∧ t = [41] ∧ r1 = r) ∨ (t ≠ [41] ∧ ∃ x r', ∃ more', rdG m (t :: r) = some (x, r') ∧ qCd m r' = some (more', [41] :: r1) ∧ more = x :: more')) := by
  match n,l,h with
  | m + 1, t :: r, h =>
    refine⟨t,r,m,rfl,rfl,?_⟩
    rw[qCd]at h
    by_cases hc:(t==[41])=true
    · rw [if_pos hc] at h
      cases h
      exact .inl ⟨rfl,rfl,rfl⟩
    · rw [if_neg hc] at h
      refine .inr ⟨by simpa using hc,?_⟩
      split at h
      · rename_i x r' he
        have w_:=Option.map_eq_some_iff.1 h
        obtain⟨⟨a,b⟩,h1,h2⟩:=w_
        cases h2
        exact⟨x,r',a,he,h1,rfl⟩
      · cases h
theorem tK {n : Nat} {l : List Bs} {g : Gl} {rest : List Bs} (h : rdG n l = some (g, rest)) : ∃ w r, ∃ m, n = m + 1 ∧ l = [40] :: w :: r ∧ 1 < (cV w).1 ∧
    ((((cV w).1 = 7 ∨ (cV w).1 = 8 ∨ (cV w).1 = 10) ∧ ∃ gs, qCd m r = some (gs, [41] :: rest) ∧ g = .mk (cV w).1 (mkS (cV w).2) [] gs) ∨
     ((cV w).1≠7∧(cV w).1≠8∧(cV w).1≠10∧∃ts,rdA m r=some (ts,[41]::rest)∧g= .mk (cV w).1 (mkS (cV w).2) (ts.map T.tm) [])):=by
  match n,l,h with
  | m + 1, t :: w :: r, h =>
    rw[rdG]at h
    by_cases hc:(t==[40]&&decide (1<(cV w).1))=true
    · rw [if_pos (by simpa using hc)] at h
      simp only[Bool.and_eq_true,beq_iff_eq,decide_eq_true_eq]at hc
      obtain⟨rfl,h1⟩:=hc
      refine⟨w,r,m,rfl,rfl,h1,?_⟩
      by_cases hk:((cV w).1==7||(cV w).1==8||(cV w).1==10)=true
      · rw [if_pos hk] at h
        simp only[Bool.or_eq_true,beq_iff_eq]at hk
        refine .inl ⟨by omega,?_⟩
        split at h
        · rename_i gs c r1 he
          by_cases hd:(c==[41])=true
          · rw [if_pos hd] at h
            have hd:c=[41]:=by simpa using hd
            subst hd
            cases h
            exact⟨gs,he,rfl⟩
          · rw[if_neg hd]at h;cases h
        · cases h
      · rw [if_neg hk] at h
        simp only[Bool.or_eq_true,beq_iff_eq,not_or]at hk
        refine .inr ⟨hk.1.1,hk.1.2,hk.2,?_⟩
        split at h
        · rename_i ts c r1 he
          by_cases hd:(c==[41])=true
          · rw [if_pos hd] at h
            have hd:c=[41]:=by simpa using hd
            subst hd
            cases h
            exact⟨ts,he,rfl⟩
          · rw[if_neg hd]at h;cases h
        · cases h
    · rw[if_neg (by simpa using hc)]at h;cases h
def gI(w:Bs)(k:Nat):Int×Bs:=if heads.idxOf w<k then((heads.idxOf w:Nat),[])else(9,w)
theorem yP(w:Bs):gI w 11=cV w:=rfl
theorem qBk:∀k,(h:k<11)→heads.idxOf (heads[k]'h)=k:=by decide
theorem vD{w:Bs}{k:Nat}(hk:k<11)(h:heads[k]? =some w):gI w (k+1)=(((k:Nat):Int),([]:Bs)):=by
  have w_:=List.getElem?_eq_some_iff.1 h
  obtain⟨h1,h2⟩:=w_
  have e:heads.idxOf w=k:=by rw[←h2];exact qBk k hk
  rw[gI,e,if_pos (by omega)]
theorem sX{w x:Bs}{k:Nat}(h:heads[k]? =some x)(hx:x≠w):gI w (k+1)=gI w k:=by
  have e:heads.idxOf w≠k:=fun e=>by
    have w_:=List.getElem?_eq_some_iff.1 h
    obtain⟨h1,h2⟩:=w_
    have hlt:heads.idxOf w<heads.length:=by omega
    have:=List.getElem_idxOf hlt
    subst e
    exact hx (h2.symm.trans this)
  rw[gI,gI]
  by_cases h1:heads.idxOf w<k
  · rw[if_pos h1,if_pos (by omega)]
  · rw[if_neg h1,if_neg (by omega)]
def qOy(L:List Bs)(i:Nat)(g:Gl)(rest:List Bs)(w:Value)(μ':Mem):Prop:=∃tv,∃j:Nat,w= .tuple #[tv,.int .i64 j,.bool true]∧RepV μ' g.d tv∧rest=L.drop j∧i<j∧j≤L.length
theorem pE{μ:Mem}:Spec Tryz.prog 229 [] μ fun v μ'=>NmV μ' (heads.map mkS) v:=by
  refine Spec.mk Tryz.func229 (by kernel_rfl) ?_
  intro r
  refine rFz [0] fun μ4 hle4 hno hat=> .inl ?_
  exact Rows.sl hat (Nm.rows (heads.map mkS)) (by decide)
set_option maxHeartbeats 2000000 in
theorem rG {L : List Bs} (hL : L.length ≤ 400) (hlen : ∀ t ∈ L, t.length ≤ 400) {base : Option Addr} {cap : Nat} : ∀ (n : Nat) {μ : Mem} {i : Nat} {g : Gl} {rest : List Bs}, Sl μ 1 base L.length ((L.map mkS).map D.s) → rdG n (L.drop i) = some (g, rest) →
    Spec Tryz.prog 186 [.slice base L.length cap,.int .i64 i] μ fun w μ'=>qOy L i g rest w μ':=fun n=>by
  induction n using Nat.strongRecOn with
  |ind n ih=>
  intro μ i g rest hs h
  have w_:=tK h
  obtain⟨w,r,m,rfl,hd,h1k,hcase⟩:=w_
  have w_:=dS hd
  obtain⟨ht,hr0,hil⟩:=w_
  have w_:=dS hr0.symm
  obtain⟨hw,hr,hil2⟩:=w_
  have w_:=Nm.tok hs ht
  obtain⟨ad,hel⟩:=w_
  have w_:=Nm.tok hs hw
  obtain⟨adw,helw⟩:=w_
  refine Spec.mk Tryz.func186 (by kernel_rfl) ?_
  intro r4
  refine ifd (fun _=>?_) (fun h=>absurd h (by omega))
  refine eIn hel ?_
  refine iIn (fun h=>absurd (bA (a:=[40]) (b:=[116,114,117,101]) (of_decide_eq_true h)) (by decide)) (fun _=>?_)
  refine ifd (fun _=>?_) (fun h=>absurd h (by omega))
  refine eIn hel ?_
  refine iIn (fun h=>absurd (bA (a:=[40]) (b:=[102,97,105,108]) (of_decide_eq_true h)) (by decide)) (fun _=>?_)
  refine aB (by omega) (by omega) ?_
  refine ifd (fun h=>absurd h (by omega)) (fun _=>?_)
  refine eIn hel ?_
  refine iIn (fun h=>absurd rfl (nd h)) (fun _=>?_)
  refine aB (by omega) (by omega) ?_
  refine eIn helw ?_
  intro r7
  refine cPl pE fun v1 μ1 hle1 hR1=>?_
  have w_:=NmV.sl hR1
  obtain⟨hb,hc,rfl,hhs⟩:=w_
  have hlh:(heads.map mkS).length=11:=by rw[List.length_map];rfl
  rw[hlh]at hhs ⊢
  refine lIn (fun k:Nat=>k≤11) (fun k=>⟨[(0,.val (.slice base L.length cap)),(1,.val (.int .i64 i)),(4,.loc 0 r4 0),(7,.loc 1 r7 0),(63,.val (.slice hb 11 hc)),(64,.val (.int .i64 11)),(65,.val (.int .i64 k))],
      [(1,some (.cells r7 [.val (.int .i64 (gI w k).1),.val (.string (mkS (gI w k).2)),.val (.slice none 0 0),.val (.slice none 0 0)] 61)),(0,some (.cells r4 [.val (.int .i64 0),.val (.string ⟨#[]⟩),.val (.slice none 0 0),.val (.slice none 0 0)] 61))],2,μ1,Mem.nil⟩) (fun k=>11-k)
    0 (by omega) (fun _=>⟨rfl,rfl⟩) ⟨⟨rfl,rfl,rfl,rfl,rfl,rfl,rfl,trivial⟩,⟨rfl,rfl,trivial⟩,rfl,rfl⟩ ?_
  intro k hk
  refine ifd (fun hlt=>?_) (fun hlt=>?_)
  · have hk11 : k < 11 := by omega
    obtain⟨x,hx⟩:∃x,heads[k]? =some x:=⟨_,List.getElem?_eq_getElem (show k<11 from hk11)⟩
    have w_:=Nm.elem (s:=mkS x) hhs (i:=k) (by rw[List.getElem?_map,hx];rfl)
    obtain⟨adh,helh⟩:=w_
    refine eIn helh ?_
    refine aB (by omega) (by omega) ?_
    refine eIn (helw.mono hle1) ?_
    refine ifd (fun he=>?_) (fun he=>?_)
    · have he : x = w := bA he
      subst he
      refine aB (by omega) (by omega) ⟨k+1,by omega,by omega,⟨⟨rfl,rfl,rfl,rfl,rfl,rfl,rfl,trivial⟩,⟨?_,rfl,trivial⟩,rfl,rfl⟩⟩
      rw[vD hk11 hx]
      rfl
    · have he : x ≠ w := fun e => he (congrArg mkS e)
      refine aB (by omega) (by omega) ⟨k+1,by omega,by omega,⟨⟨rfl,rfl,rfl,rfl,rfl,rfl,rfl,trivial⟩,⟨?_,rfl,trivial⟩,rfl,rfl⟩⟩
      rw[sX hx he]
      rfl
  obtain rfl:k=11:=by omega
  rw[yP]
  generalize hkk:cV w=hg at*
  obtain⟨kk,nm⟩:=hg
  dsimp only at h1k hcase ⊢
  have hks:kk≤10:=by
    have:(cV w).1≤10:=by
      rw[cV];split
      · dsimp only;omega
      · dsimp only;omega
    rw[hkk]at this
    exact this
  refine aB (by omega) (by omega) ?_
  rcases hcase with⟨hk3,gs,hrd,hge⟩|⟨hk7,hk8,hk10,ts,hrd,hge⟩
  · rw [hr] at hrd
    refine aU (fun z:Nat×List Gl×Nat×List Gl×(List Value×Option Nat×Nat)×Mem=>i<z.1∧z.1≤L.length∧z.2.2.1≤m∧qCd z.2.2.1 (L.drop z.1)=some (z.2.2.2.1,[41]::rest)∧gs=z.2.1++z.2.2.2.1∧Rows z.2.2.2.2.2 4 (z.2.1.map Gl.d) z.2.2.2.2.1.1∧μ.Le z.2.2.2.2.2∧z.2.1.length≤z.1)
      (fun(i1,_,_,_,(ys,b,c),μ1)=>⟨[(0,.val (.slice base L.length cap)),(1,.val (.int .i64 i1)),(4,.loc 0 r4 0),(7,.loc 1 r7 0)],
        [(0,some (.cells r4 [.val (.int .i64 0),.val (.string ⟨#[]⟩),.val (.slice none 0 0),.val (.slice none 0 0)] 61)),(1,some (.cells r7 [.val (.int .i64 kk),.val (.string (mkS nm)),.val (.slice none 0 0),.row 2 b ys.length c] 61)),(2,some (.row b c 61 4 ys))],3,μ1,Mem.nil⟩) (fun z=>L.length-z.1)
      (i+2,[],m,gs,([],none,0),μ1) ⟨by dsimp only;omega,by dsimp only;omega,Nat.le_refl _,hrd,rfl,.nil,hle1,Nat.zero_le _⟩ (fun(_,_,_,_,(_,_,_),_)=>⟨rfl,rfl⟩)
      ⟨⟨⟨_,rfl,.inl rfl⟩,⟨_,rfl,.inl rfl⟩,⟨_,rfl,.inl rfl⟩,⟨_,rfl,.inl rfl⟩,trivial⟩,⟨.inl rfl,.inr (.inr ⟨_,_,_,_,rfl,rfl,.inl rfl,.inl rfl,.inl rfl,.inr ⟨2,rfl,rfl,Nat.le_refl _⟩,trivial⟩),.inr (.inl ⟨_,_,rfl,Nat.le_refl _⟩),trivial⟩,rfl,rfl⟩ ?_
    rintro⟨i1,Dn,m1,more,⟨ys,b,c⟩,μ2⟩ ⟨hi1,hi1l,hm1,hN,hit,hrows,hle,hDl⟩
    dsimp only at hi1 hi1l hm1 hN hit hrows hle hDl
    have hyl:=hrows.len
    rw[List.length_map]at hyl
    have w_:=yZ hN
    obtain⟨t1,rr,m2,rfl,hd1,hcs⟩:=w_
    have w_:=dS hd1
    obtain⟨ht1,hrr,hi1lt⟩:=w_
    have w_:=Nm.tok (hs.mono hle) ht1
    obtain⟨ad1,hel1⟩:=w_
    refine ifd (fun _=>?_) (fun h=>absurd h (by omega))
    refine eIn hel1 ?_
    rcases hcs with⟨hm0,h41,hr1⟩|⟨hn1,x',r',more',hT,hN',hmore⟩
    · subst h41
      refine iIn (fun h=>absurd rfl (nd h)) (fun _=>?_)
      refine aB (by omega) (by omega) ?_
      refine ifd (fun _=>?_) (fun h=>absurd h (by omega))
      refine rFz [2] fun μ4 hle4 hno hat=> .inl ⟨.agg #[.int .i64 kk,.string (mkS nm),.slice none 0 0,.slice (b.map fun r=>⟨r,0,none⟩) ys.length c],i1+1,?_,?_,?_,by omega,by omega⟩
      · show Value.tuple #[_, _, .bool (decide ((1 : Int) < kk))] = _
        rw[decide_eq_true h1k]
        rfl
      · rw [hge, hit, hm0, List.append_nil]
        exact bY (ts:=[]) (Rep.nilSl 4) (Rows.sl hat (hrows.mono hle4) (Nat.le_trans (m:=1000) (by omega) (by decide)))
      · rw[hr1,hrr]
    · refine iIn (fun _ => ?_) (fun h => absurd (bA (nd' h)) hn1)
      refine ifd (fun _=>?_) (fun h7=>?_)
      · rw [← hd1] at hT
        refine cPl (ih m2 (by omega) (hs.mono hle) hT) fun v2 μ3 hle2 hR2=>?_
        obtain⟨tv2,j2,rfl,hr2,hj2,hij2,hjl2⟩:=hR2
        have w_:=Gl.invV hr2
        obtain⟨q2,rfl⟩:=w_
        intro r10
        refine iIn (fun h=>nomatch h) (fun _=>?_)
        intro r11
        refine gIn ?_ ?_ fun b' c' hb'=>?_
        · show(ys.length+1)*72≤_;omega
        · exact Nat.le_trans (m:=100000000) (show ys.length+1≤_ by omega) (by decide)
        refine⟨(j2,Dn++[x'],m2,more',(_,b',c'),μ3),⟨by dsimp only;omega,hjl2,by dsimp only;omega,by rw[←hj2];exact hN',by rw[hit,hmore,List.append_assoc];rfl,?_,hle.trans hle2,by simp only[List.length_append,List.length_singleton];omega⟩,by dsimp only;omega,⟨⟨rfl,rfl,rfl,rfl,trivial⟩,⟨rfl,rfl,rfl,trivial⟩,rfl,rfl⟩⟩
        dsimp only
        rw[List.map_append]
        exact(hrows.mono hle2).append (Rows.one hr2 (Gl.d_n _))
      · refine ifd (fun _ => ?_) (fun h8 => ?_)
        · rw [← hd1] at hT
          refine cPl (ih m2 (by omega) (hs.mono hle) hT) fun v2 μ3 hle2 hR2=>?_
          obtain⟨tv2,j2,rfl,hr2,hj2,hij2,hjl2⟩:=hR2
          have w_:=Gl.invV hr2
          obtain⟨q2,rfl⟩:=w_
          intro r10
          refine iIn (fun h=>nomatch h) (fun _=>?_)
          intro r11
          refine gIn ?_ ?_ fun b' c' hb'=>?_
          · show(ys.length+1)*72≤_;omega
          · exact Nat.le_trans (m:=100000000) (show ys.length+1≤_ by omega) (by decide)
          refine⟨(j2,Dn++[x'],m2,more',(_,b',c'),μ3),⟨by dsimp only;omega,hjl2,by dsimp only;omega,by rw[←hj2];exact hN',by rw[hit,hmore,List.append_assoc];rfl,?_,hle.trans hle2,by simp only[List.length_append,List.length_singleton];omega⟩,by dsimp only;omega,⟨⟨rfl,rfl,rfl,rfl,trivial⟩,⟨rfl,rfl,rfl,trivial⟩,rfl,rfl⟩⟩
          dsimp only
          rw[List.map_append]
          exact(hrows.mono hle2).append (Rows.one hr2 (Gl.d_n _))
        · refine iIn (fun _ => ?_) (fun h10 => absurd (hk3.resolve_left h7 |>.resolve_left h8) (of_decide_eq_false h10))
          · rw [← hd1] at hT
            refine cPl (ih m2 (by omega) (hs.mono hle) hT) fun v2 μ3 hle2 hR2=>?_
            obtain⟨tv2,j2,rfl,hr2,hj2,hij2,hjl2⟩:=hR2
            have w_:=Gl.invV hr2
            obtain⟨q2,rfl⟩:=w_
            intro r10
            refine iIn (fun h=>nomatch h) (fun _=>?_)
            intro r11
            refine gIn ?_ ?_ fun b' c' hb'=>?_
            · show(ys.length+1)*72≤_;omega
            · exact Nat.le_trans (m:=100000000) (show ys.length+1≤_ by omega) (by decide)
            refine⟨(j2,Dn++[x'],m2,more',(_,b',c'),μ3),⟨by dsimp only;omega,hjl2,by dsimp only;omega,by rw[←hj2];exact hN',by rw[hit,hmore,List.append_assoc];rfl,?_,hle.trans hle2,by simp only[List.length_append,List.length_singleton];omega⟩,by dsimp only;omega,⟨⟨rfl,rfl,rfl,rfl,trivial⟩,⟨rfl,rfl,rfl,trivial⟩,rfl,rfl⟩⟩
            dsimp only
            rw[List.map_append]
            exact(hrows.mono hle2).append (Rows.one hr2 (Gl.d_n _))
  · rw [hr] at hrd
    refine aU (fun z:Nat×List T×Nat×List T×(List Value×Option Nat×Nat)×Mem=>i<z.1∧z.1≤L.length∧z.2.2.1≤m∧rdA z.2.2.1 (L.drop z.1)=some (z.2.2.2.1,[41]::rest)∧ts=z.2.1++z.2.2.2.1∧Rows z.2.2.2.2.2 4 ((z.2.1.map T.tm).map Tm.d) z.2.2.2.2.1.1∧μ.Le z.2.2.2.2.2∧z.2.1.length≤z.1)
      (fun(i1,_,_,_,(ys,b,c),μ1)=>⟨[(0,.val (.slice base L.length cap)),(1,.val (.int .i64 i1)),(4,.loc 0 r4 0),(7,.loc 1 r7 0)],
        [(0,some (.cells r4 [.val (.int .i64 0),.val (.string ⟨#[]⟩),.val (.slice none 0 0),.val (.slice none 0 0)] 61)),(1,some (.cells r7 [.val (.int .i64 kk),.val (.string (mkS nm)),.row 2 b ys.length c,.val (.slice none 0 0)] 61)),(2,some (.row b c 75 4 ys))],3,μ1,Mem.nil⟩) (fun z=>L.length-z.1)
      (i+2,[],m,ts,([],none,0),μ1) ⟨by dsimp only;omega,by dsimp only;omega,Nat.le_refl _,hrd,rfl,.nil,hle1,Nat.zero_le _⟩ (fun(_,_,_,_,(_,_,_),_)=>⟨rfl,rfl⟩)
      ⟨⟨⟨_,rfl,.inl rfl⟩,⟨_,rfl,.inl rfl⟩,⟨_,rfl,.inl rfl⟩,⟨_,rfl,.inl rfl⟩,trivial⟩,⟨.inl rfl,.inr (.inr ⟨_,_,_,_,rfl,rfl,.inl rfl,.inl rfl,.inr ⟨2,rfl,rfl,Nat.le_refl _⟩,.inl rfl,trivial⟩),.inr (.inl ⟨_,_,rfl,Nat.le_refl _⟩),trivial⟩,rfl,rfl⟩ ?_
    rintro⟨i1,Dn,m1,more,⟨ys,b,c⟩,μ2⟩ ⟨hi1,hi1l,hm1,hN,hit,hrows,hle,hDl⟩
    dsimp only at hi1 hi1l hm1 hN hit hrows hle hDl
    have hyl:=hrows.len
    rw[List.length_map,List.length_map]at hyl
    have w_:=qCc hN
    obtain⟨t1,rr,m2,rfl,hd1,hcs⟩:=w_
    have w_:=dS hd1
    obtain⟨ht1,hrr,hi1lt⟩:=w_
    have w_:=Nm.tok (hs.mono hle) ht1
    obtain⟨ad1,hel1⟩:=w_
    refine ifd (fun _=>?_) (fun h=>absurd h (by omega))
    refine eIn hel1 ?_
    rcases hcs with⟨hm0,h41,hr1⟩|⟨hn1,x',r',more',hT,hN',hmore⟩
    · subst h41
      refine iIn (fun h=>absurd rfl (nd h)) (fun _=>?_)
      refine aB (by omega) (by omega) ?_
      refine ifd (fun _=>?_) (fun h=>absurd h (by omega))
      refine rFz [2] fun μ4 hle4 hno hat=> .inl ⟨.agg #[.int .i64 kk,.string (mkS nm),.slice (b.map fun r=>⟨r,0,none⟩) ys.length c,.slice none 0 0],i1+1,?_,?_,?_,by omega,by omega⟩
      · show Value.tuple #[_, _, .bool (decide ((1 : Int) < kk))] = _
        rw[decide_eq_true h1k]
        rfl
      · rw [hge, hit, hm0, List.append_nil]
        exact bY (gs:=[]) (Rows.sl hat (hrows.mono hle4) (Nat.le_trans (m:=1000) (by omega) (by decide))) (Rep.nilSl 4)
      · rw[hr1,hrr]
    · refine iIn (fun _ => ?_) (fun h => absurd (bA (nd' h)) hn1)
      refine ifd (fun h=>absurd h hk7) (fun _=>?_)
      refine ifd (fun h=>absurd h hk8) (fun _=>?_)
      refine iIn (fun h=>absurd (of_decide_eq_true h) hk10) (fun _=>?_)
      rw[←hd1]at hT
      refine cPl (rA hL hlen m2 (hs.mono hle) hT) fun v2 μ3 hle2 hR2=>?_
      obtain⟨tv2,j2,rfl,hr2,hj2,hij2,hjl2⟩:=hR2
      have w_:=Tm.invV hr2
      obtain⟨q2,rfl⟩:=w_
      intro r10
      refine iIn (fun h=>nomatch h) (fun _=>?_)
      intro r11
      refine gIn ?_ ?_ fun b' c' hb'=>?_
      · show(ys.length+1)*56≤_;omega
      · exact Nat.le_trans (m:=100000000) (show ys.length+1≤_ by omega) (by decide)
      refine⟨(j2,Dn++[x'],m2,more',(_,b',c'),μ3),⟨by dsimp only;omega,hjl2,by dsimp only;omega,by rw[←hj2];exact hN',by rw[hit,hmore,List.append_assoc];rfl,?_,hle.trans hle2,by simp only[List.length_append,List.length_singleton];omega⟩,by dsimp only;omega,⟨⟨rfl,rfl,rfl,rfl,trivial⟩,⟨rfl,rfl,rfl,trivial⟩,rfl,rfl⟩⟩
      dsimp only
      rw[List.map_append,List.map_append]
      exact(hrows.mono hle2).append (Rows.one hr2 (Tm.d_n _))
theorem Sl.mid{μ:Mem}{es n c l h:Nat}{base:Option Addr}{xs:List D}(k:Sl μ es base n xs)(hl:l≤h)(hh:h≤n)(hc:n≤c):Sl μ es (if c=l then base else base.map (·.add (l*es))) (h-l) ((xs.drop l).take (h-l)):=by
 have k1:=k.tailL (i:=l) (c:=c) (by omega) hc
 have k2:=k1.headL (c:=0) (i:=h-l) (by omega)
 rw[if_pos rfl,Nat.sub_zero]at k2
 exact k2
theorem jU:∀(l names:List Bs),(∀t∈l,t.length≤400)→∀t∈(cA l names).1,t.length≤400
 |[],_,_,_,h=>nomatch h
 | x :: r, names, hl, t, h => by
  rw[cA]at h
  split at h
  ·rcases List.mem_cons.1 h with rfl | h
   ·show 2≤400;decide
   ·exact jU r _ (fun y hy=>hl y (List.mem_cons_of_mem _ hy)) t h
  ·rcases List.mem_cons.1 h with rfl | h
   ·exact hl _ (by simp)
   ·exact jU r _ (fun y hy=>hl y (List.mem_cons_of_mem _ hy)) t h
theorem qAz:∀(l:List Bs) (k:Nat),k≤(arF k l).1
 |[],_=>Nat.le_refl _
 |t::r,k=>by
  rw[arF]
  split
  ·have:=qAz r (k+1);omega
  ·exact Nat.le_refl _
theorem wP:∀(l:List Bs) (k:Nat),(arF k l).2.length≤l.length
 |[],_=>Nat.le_refl _
 |t::r,k=>by
  rw[arF]
  split
  ·have:=wP r (k+1);rw[List.length_cons];omega
  ·exact Nat.le_refl _
theorem yJ{all:List Bs}{x:Rl}(h:qGs all=some x):wN all=true∧∃d name rest r2 g z,(cA all []).1=d::[100,101,102,105,110,101]::[40]::name::rest∧(arF 0 rest).1≤8∧(arF 0 rest).2=[41]::r2∧rdG all.length r2=some (g,[z])∧
  x=⟨mkS name,(arF 0 rest).1,((cA all []).2.length:Int)-(arF 0 rest).1,g⟩:=by
 unfold qGs at h
 by_cases hB:wN all=true
 ·rw [if_pos hB] at h
  refine⟨hB,?_⟩
  split at h
  ·rename_i d0 d o name rest he
   by_cases hc:(d==[100,101,102,105,110,101]&&o==[40]&&decide ((arF 0 rest).1≤8))=true
   ·rw [if_pos hc] at h
    simp only[Bool.and_eq_true,beq_iff_eq,decide_eq_true_eq]at hc
    obtain⟨⟨rfl,rfl⟩,h8⟩:=hc
    split at h
    ·rename_i c r2 he2
     by_cases h41:(c==[41])=true
     ·rw [if_pos h41] at h
      have h41:c=[41]:=by simpa using h41
      subst h41
      split at h
      ·rename_i g z he3
       cases h
       exact⟨d0,name,rest,r2,g,z,he,h8,he2,he3,rfl⟩
      ·cases h
     ·rw[if_neg h41]at h;cases h
    ·cases h
   ·rw[if_neg hc]at h;cases h
  ·cases h
 ·rw[if_neg hB]at h;cases h
set_option maxHeartbeats 1000000 in
theorem eQ{μ:Mem}{all:List Bs}{base:Option Addr}{cap:Nat}(hs:Sl μ 1 base all.length ((all.map mkS).map D.s))(hl:all.length≤400)(hlen:∀t∈all,t.length≤400){x:Rl}(h:qGs all=some x):
  Spec Tryz.prog 123 [.slice base all.length cap] μ fun w μ'=>∃tv,w= .tuple #[tv,.bool true]∧RepV μ' x.d tv:=by
 have w_:=yJ h
 obtain⟨hB,d0,name,rest,r2,g,z,hN,h8,har,hrd,hx⟩:=w_
 have hcnt:=sS hB
 have hLs:=jU all [] hlen
 have hLl:(cA all []).1.length≤400:=by rw[nL];exact hl
 refine Spec.mk Tryz.func123 (by kernel_rfl) ?_
 intro r2_
 refine cPl (nG hs hl hB) fun v1 μ1 hle1 hR1=>?_
 obtain⟨tv1,rfl,hR1⟩:=hR1
 have w_:=NmV.sl hR1
 obtain⟨b1,c1,rfl,hs1⟩:=w_
 generalize hL:(cA all []).1=L at*
 rw[List.length_map]at hs1 ⊢
 have hLlen:L.length=rest.length+4:=by rw[hN];rfl
 have hrl:3≤rest.length:=by
  have h1:=wP rest 0
  have w_:=tK hrd
  obtain⟨w,r,m,_,e,_⟩:=w_
  rw[har,e]at h1
  simp only[List.length_cons]at h1
  omega
 have w_:=Nm.tok hs1 (i:=1) (t:=[100,101,102,105,110,101]) (by rw[hN];rfl)
 obtain⟨ad1,hel1⟩:=w_
 have w_:=Nm.tok hs1 (i:=2) (t:=[40]) (by rw[hN];rfl)
 obtain⟨ad2,hel2⟩:=w_
 have w_:=Nm.tok hs1 (i:=3) (t:=name) (by rw[hN];rfl)
 obtain⟨ad3,hel3⟩:=w_
 refine iIn (fun h=>nomatch h) (fun _=>?_)
 refine ifd (fun h=>absurd h (by omega)) (fun _=>?_)
 refine eIn hel1 ?_
 refine iIn (fun h=>absurd rfl (nd h)) (fun _=>?_)
 refine eIn hel2 ?_
 refine iIn (fun h=>absurd rfl (nd h)) (fun _=>?_)
 refine eIn hel3 ?_
 intro r7
 refine lIn (fun k:Nat=>4+k≤L.length∧arF 0 rest=arF k (L.drop (4+k)))
  (fun k => ⟨[(2, .loc 0 r2_ 0), (4, .val (.slice b1 L.length c1)), (5, .val (.int .i64 ((cA all []).2.length : Nat))), (7, .loc 1 r7 0), (8, .val (.int .i64 ((4 + k : Nat) : Int)))],
   [(1,some (.cells r7 [.val (.string (mkS name)),.val (.int .i64 k),.val (.int .i64 0),.val (.int .i64 0),.val (.string ⟨#[]⟩),.val (.slice none 0 0),.val (.slice none 0 0)] 63)),(0,some (.cells r2_ [.val (.string ⟨#[]⟩),.val (.int .i64 0),.val (.int .i64 0),.val (.int .i64 0),.val (.string ⟨#[]⟩),.val (.slice none 0 0),.val (.slice none 0 0)] 63))],2,μ1,Mem.nil⟩) (fun k=>L.length-k)
  0 ⟨by omega,by rw[hN];rfl⟩ (fun _=>⟨rfl,rfl⟩) ⟨⟨rfl,rfl,rfl,rfl,rfl,trivial⟩,⟨rfl,rfl,trivial⟩,rfl,rfl⟩ ?_
 rintro k ⟨hk,hka⟩
 have hlt:4+k<L.length:=by
  rcases Nat.lt_or_ge (4+k) L.length with h|h
  ·exact h
  ·rw [List.drop_eq_nil_of_le h, arF] at hka
   rw[hka]at har;cases har
 have hk8:k≤8:=by
  have:=qAz (L.drop (4+k)) k
  rw[←hka]at this
  omega
 obtain⟨t,ht⟩:∃t,L[4+k]? =some t:=⟨_,List.getElem?_eq_getElem hlt⟩
 have w_:=Nm.tok hs1 ht
 obtain⟨adk,helk⟩:=w_
 rw[bE ht,arF]at hka
 refine ifd (fun _=>?_) (fun h=>absurd h (by omega))
 refine eIn helk ?_
 refine cGv (bU (k:=k) (by omega)) ?_
 refine aC (by show 1+1≤_;decide) ?_
 refine iIn (fun he=>?_) (fun he=>?_)
 ·have he : t = uZ k := bA ((of_decide_eq_true he).trans (aZ [63] [_]))
  rw[if_pos (by simpa using he)]at hka
  exact aB (by omega) (by omega) (aB (by omega) (by omega) ⟨k+1,⟨by omega,hka⟩,by omega,⟨⟨rfl,rfl,rfl,rfl,rfl,trivial⟩,⟨rfl,rfl,trivial⟩,rfl,rfl⟩⟩)
 ·have he : t ≠ uZ k := fun e => of_decide_eq_false he ((congrArg mkS e).trans (aZ [63] [_]).symm)
  rw[if_neg (by simpa using he)]at hka
  have hk1:(arF 0 rest).1=k:=by rw[hka]
  have e2:t::L.drop (4+k+1)=[41]::r2:=by rw[←har,hka]
  have e3:=List.cons.inj e2
  obtain rfl:=e3.1
  have hr2:r2=L.drop (4+k+1):=e3.2.symm
  refine ifd (fun h=>absurd h (by omega)) (fun _=>?_)
  refine eIn helk ?_
  refine iIn (fun h=>absurd rfl (nd h)) (fun _=>?_)
  refine aB (by omega) (by omega) ?_
  rw[hr2]at hrd
  refine cPl (rG hLl hLs all.length hs1 hrd) fun v2 μ2 hle2 hR2=>?_
  obtain⟨tv2,j2,rfl,hg,hj2,hij2,hjl2⟩:=hR2
  have w_:=Gl.invV hg
  obtain⟨q2,rfl⟩:=w_
  have hjL:j2+1=L.length:=by
   have:=congrArg List.length hj2
   rw[List.length_drop]at this
   simp only[List.length_cons,List.length_nil]at this
   omega
  intro r9
  refine aB (by omega) (by omega) ?_
  refine iIn (fun _=>?_) (fun h=>nomatch h)
  refine aB (by omega) (by omega) ?_
  refine rPl ⟨.agg #[.string (mkS name),.int .i64 k,.int .i64 (((cA all []).2.length:Nat)-(k:Int)),.int .i64 g.kind,.string g.name,.slice q2.1.1 g.terms.length q2.1.2,.slice q2.2.1 g.goals.length q2.2.2],?_,?_⟩
  ·show Value.tuple #[_, .bool (decide ((j2 : Int) = (L.length : Int) - 1))] = _
   rw[decide_eq_true (by omega)]
  ·rw [hx, Rl.d_eq, hk1]
   have:=hg.cells
   exact⟨_,rfl,RepS.str (RepS.int (RepS.int (RepS.last this)))⟩
theorem kP:∀(n:Nat) (l:Bs),(cQ n l).length≤l.length∧∀t∈cQ n l,t.length≤l.length
 |0,_=>⟨Nat.zero_le _,fun _ h=>nomatch h⟩
 |_+1,[]=>⟨Nat.zero_le _,fun _ h=>nomatch h⟩
 | n + 1, b :: r => by
  have hd:∀p:UInt8→Bool,(r.dropWhile p).length≤r.length:=fun p=>(List.dropWhile_sublist p).length_le
  have ht:∀p:UInt8→Bool,(r.takeWhile p).length≤r.length:=fun p=>(List.takeWhile_sublist p).length_le
  have h1:=kP n r
  rw[cQ]
  split
  ·have h2 := kP n (r.dropWhile fun c => c != 10)
   have h3:=hd fun c=>c !=10
   refine⟨by rw[List.length_cons];omega,fun t h=>?_⟩
   have:=h2.2 t h
   rw[List.length_cons];omega
  ·split
   ·have h2 := kP n (r.dropWhile fun c => !cX c)
    have h3:=hd fun c=> !cX c
    have h4:=ht fun c=> !cX c
    refine⟨by rw[List.length_cons,List.length_cons];omega,fun t h=>?_⟩
    rcases List.mem_cons.1 h with rfl|h
    ·rw[List.length_cons,List.length_cons];omega
    ·have := h2.2 t h
     rw[List.length_cons];omega
   ·split
    ·refine ⟨by rw [List.length_cons, List.length_cons]; omega, fun t h => ?_⟩
     rcases List.mem_cons.1 h with rfl|h
     ·simp only[List.length_cons,List.length_nil];omega
     ·have := h1.2 t h
      rw[List.length_cons];omega
    ·refine ⟨by rw [List.length_cons]; omega, fun t h => ?_⟩
     have:=h1.2 t h
     rw[List.length_cons];omega
theorem uY{t:Bs}{r cur:List Bs}{d:Int}{l:List Rl}(h:rS (t::r) cur d=some l):(0<cE d t∧rS r (cur++[t]) (cE d t)=some l)∨(¬0<cE d t∧∃x l',qGs (cur++[t])=some x∧rS r [] (cE d t)=some l'∧l=x::l'):=by
 rw[rS]at h
 by_cases hd:0<cE d t
 ·rw[if_pos hd]at h;exact .inl ⟨hd,h⟩
 ·rw [if_neg hd] at h
  refine .inr ⟨hd,?_⟩
  split at h
  ·rename_i x he
   have w_:=Option.map_eq_some_iff.1 h
   obtain⟨l',h1,h2⟩:=w_
   exact⟨x,l',he,h1,h2.symm⟩
  ·cases h
theorem yK(d:Int)(t:Bs):d-1≤cE d t∧cE d t≤d+1:=by
 unfold cE;split
 ·omega
 ·split<;>omega
theorem xC{μ:Mem}:RepV μ (Pg.mk []).d (.agg #[.slice none 0 0]):=⟨_,rfl,RepS.last (Rep.nilSl 7)⟩
set_option maxHeartbeats 2000000 in
theorem kE{μ:Mem}{s:Bs}{p:Pg}(h:qEh s=some p)(hl:s.length≤400)(hb:∀b∈s,b.toNat≠59∧(b.toNat=10∨(32≤b.toNat∧b.toNat≤126)))(hw:p.d.wd):
  Spec Tryz.prog 49 [.string (mkS s)] μ fun w μ'=>∃(q:Pg) (tv:Value) (b:Bool),w= .tuple #[tv,.bool b]∧RepV μ' q.d tv∧(b=true→q=p∧p.Ok):=by
 have w_:=Option.map_eq_some_iff.1 h
 obtain⟨rels,hrels,rfl⟩:=w_
 refine Spec.mk Tryz.func49 (by kernel_rfl) ?_
 intro r2
 refine cPl (sQ hl hb) fun v1 μ1 hle1 hR1=>?_
 obtain⟨tv1,rfl,hR1⟩:=hR1
 have htl:=kP s.length s
 generalize hLe:cQ s.length s=L at*
 have w_:=Rep.slC hR1
 obtain⟨tb,tc,rfl,hs,hcap⟩:=w_
 rw[List.length_map,List.length_map]at hs hcap ⊢
 have hLl:L.length≤400:=by omega
 have hLs:∀t∈L,t.length≤400:=fun t ht=>by have:=htl.2 t ht;omega
 refine iIn (fun h=>nomatch h) (fun _=>?_)
 intro r6
 refine aU (fun z:Nat×Nat×Int×List Rl×List Rl×(List Value×Option Nat×Nat)×Mem=>z.1≤L.length∧z.2.1≤z.1∧ -(z.1:Int)≤z.2.2.1∧z.2.2.1≤z.1∧rS (L.drop z.1) ((L.drop z.2.1).take (z.1-z.2.1)) z.2.2.1=some z.2.2.2.2.1∧rels=z.2.2.2.1++z.2.2.2.2.1∧Rows z.2.2.2.2.2.2 7 (z.2.2.2.1.map Rl.d) z.2.2.2.2.2.1.1∧μ1.Le z.2.2.2.2.2.2∧z.2.2.2.1.length≤z.1)
  (fun (i, from_, d, _, _, (ys, b, c), μ2) => ⟨[(2, .loc 0 r2 0), (4, .val (.slice tb L.length tc)), (6, .loc 1 r6 0), (7, .val (.int .i64 from_)), (8, .val (.int .i64 d)), (22, .val (.slice tb L.length tc)), (23, .val (.int .i64 L.length)), (24, .val (.int .i64 i))],
   [(0,some (.cells r2 [.val (.slice none 0 0)] 25)),(1,some (.cells r6 [.row 2 b ys.length c] 25)),(2,some (.row b c 63 7 ys))],3,μ2,Mem.nil⟩) (fun z=>L.length-z.1)
  (0,0,0,[],rels,([],none,0),μ1) ⟨Nat.zero_le _,Nat.zero_le _,Int.le_refl 0,Int.le_refl 0,hrels,rfl,.nil,Mem.Le.refl _,Nat.zero_le _⟩ (fun(_,_,_,_,_,(_,_,_),_)=>⟨rfl,rfl⟩)
  ⟨⟨⟨_,rfl,.inl rfl⟩,⟨_,rfl,.inl rfl⟩,⟨_,rfl,.inl rfl⟩,⟨_,rfl,.inl rfl⟩,⟨_,rfl,.inl rfl⟩,⟨_,rfl,.inl rfl⟩,⟨_,rfl,.inl rfl⟩,⟨_,rfl,.inl rfl⟩,trivial⟩,⟨.inl rfl,.inr (.inr ⟨_,_,_,_,rfl,rfl,.inr ⟨2,rfl,rfl,Nat.le_refl _⟩,trivial⟩),.inr (.inl ⟨_,_,rfl,Nat.le_refl _⟩),trivial⟩,rfl,rfl⟩ ?_
 rintro⟨i,from_,d,done,more,⟨ys,b,c⟩,μ2⟩ ⟨hi,hf,hd1,hd2,hD,hrl,hrows,hle,hdl⟩
 dsimp only at hi hf hd1 hd2 hD hrl hrows hle hdl
 have hyl:=hrows.len
 rw[List.length_map]at hyl
 refine ifd (fun hlt=>?_) (fun hlt=>?_)
 ·obtain ⟨t, ht⟩ : ∃ t, L[i]? = some t := ⟨_, List.getElem?_eq_getElem (by omega)⟩
  have w_:=Nm.tok (hs.mono hle) ht
  obtain⟨ad,hel⟩:=w_
  rw[bE ht]at hD
  have hst:=uY hD
  have hdle:=yK d t
  refine eIn hel ?_
  refine ifd (fun h40=>?_) (fun h40=>?_)
  ·have h40 : t = [40] := bA h40
   have hdd:cE d t=d+1:=by rw[h40];rfl
   refine aB (by omega) (by omega) ?_
   refine ifd (fun h41=>absurd (bA (b:=[41]) h41) (by rw[h40];decide)) (fun _=>?_)
   refine iIn (fun hpos=>?_) (fun hpos=>?_)
   ·have hpos := of_decide_eq_true hpos
    rcases hst with⟨_,hnext⟩|⟨hneg,_⟩
    ·refine aB (by omega) (by omega) ⟨(i + 1, from_, cE d t, done, more, (ys, b, c), μ2), ⟨by dsimp only; omega, by dsimp only; omega, by dsimp only; omega, by dsimp only; omega, ?_, hrl, hrows, hle, by dsimp only; omega⟩, by dsimp only; omega, ⟨⟨rfl, rfl, rfl, rfl, (by rw [hdd]; rfl), rfl, rfl, rfl, trivial⟩, ⟨rfl, rfl, rfl, trivial⟩, rfl, rfl⟩⟩
     dsimp only
     rw[show i+1-from_=(i-from_)+1 from by omega,List.take_add_one,List.getElem?_drop,show from_+(i-from_)=i from by omega,ht]
     exact hnext
    ·exact absurd (by rw[hdd];exact hpos) hneg
   ·have hpos := of_decide_eq_false hpos
    rcases hst with⟨hp,_⟩|⟨_,x,l',hdef,hnext,hmore⟩
    ·exact absurd (by rw[←hdd];exact hp) hpos
    ·have hcur : (L.drop from_).take (i - from_) ++ [t] = (L.drop from_).take (i + 1 - from_) := by
      rw[show i+1-from_=(i-from_)+1 from by omega,List.take_add_one,List.getElem?_drop,show from_+(i-from_)=i from by omega,ht]
      rfl
     rw[hcur]at hdef
     have hclen:((L.drop from_).take (i+1-from_)).length=i+1-from_:=by
      rw[List.length_take,List.length_drop];omega
     have hmid:=(hs.mono hle).mid (c:=tc) (l:=from_) (h:=i+1) (by omega) (by omega) hcap
     have hmid':Sl μ2 1 (if tc=from_ then tb else tb.map (·.add (from_*1))) ((L.drop from_).take (i+1-from_)).length ((((L.drop from_).take (i+1-from_)).map mkS).map D.s):=by
      rw[hclen,List.map_take,List.map_take,List.map_drop,List.map_drop]
      exact hmid
     have hdefS:=eQ (cap:=tc-from_) hmid' (by omega) (fun t ht=>hLs t (List.mem_of_mem_drop (List.mem_of_mem_take ht))) hdef
     rw[hclen]at hdefS
     refine aB (by omega) (by omega) ?_
     refine aG from_ (i+1) rfl rfl (by omega) (by omega) ?_
     refine cPl hdefS fun v3 μ3 hle3 hR3=>?_
     obtain⟨tv3,rfl,hrx⟩:=hR3
     have w_:=Rl.invV hrx
     obtain⟨q3,rfl⟩:=w_
     intro r11
     refine iIn (fun h=>nomatch h) (fun _=>?_)
     intro r12
     refine gIn ?_ ?_ fun b' c' hb'=>?_
     ·show(ys.length+1)*104≤_;omega
     ·exact Nat.le_trans (m:=100000000) (show ys.length+1≤_ by omega) (by decide)
     refine aB (by omega) (by omega) (aB (by omega) (by omega) ⟨(i+1,i+1,cE d t,done++[x],l',(_,b',c'),μ3),⟨by dsimp only;omega,by dsimp only;omega,by dsimp only;omega,by dsimp only;omega,?_,?_,?_,hle.trans hle3,by simp only[List.length_append,List.length_singleton];omega⟩,by dsimp only;omega,⟨⟨rfl,rfl,rfl,rfl,(by rw[hdd];rfl),rfl,rfl,rfl,trivial⟩,⟨rfl,rfl,rfl,trivial⟩,rfl,rfl⟩⟩)
     ·dsimp only
      rw[Nat.sub_self,List.take_zero]
      exact hnext
     ·dsimp only
      rw[hrl,hmore,List.append_assoc];rfl
     ·dsimp only
      rw[List.map_append]
      exact(hrows.mono hle3).append (Rows.one hrx (Rl.d_n _))
  ·have h40 : t ≠ [40] := fun e => h40 (congrArg mkS e)
   refine ifd (fun h41=>?_) (fun h41=>?_)
   ·have h41 : t = [41] := bA h41
    have hdd:cE d t=d-1:=by rw[h41];rfl
    refine aB (by omega) (by omega) ?_
    refine iIn (fun hpos=>?_) (fun hpos=>?_)
    ·have hpos := of_decide_eq_true hpos
     rcases hst with⟨_,hnext⟩|⟨hneg,_⟩
     ·refine aB (by omega) (by omega) ⟨(i + 1, from_, cE d t, done, more, (ys, b, c), μ2), ⟨by dsimp only; omega, by dsimp only; omega, by dsimp only; omega, by dsimp only; omega, ?_, hrl, hrows, hle, by dsimp only; omega⟩, by dsimp only; omega, ⟨⟨rfl, rfl, rfl, rfl, (by rw [hdd]; rfl), rfl, rfl, rfl, trivial⟩, ⟨rfl, rfl, rfl, trivial⟩, rfl, rfl⟩⟩
      dsimp only
      rw[show i+1-from_=(i-from_)+1 from by omega,List.take_add_one,List.getElem?_drop,show from_+(i-from_)=i from by omega,ht]
      exact hnext
     ·exact absurd (by rw[hdd];exact hpos) hneg
    ·have hpos := of_decide_eq_false hpos
     rcases hst with⟨hp,_⟩|⟨_,x,l',hdef,hnext,hmore⟩
     ·exact absurd (by rw[←hdd];exact hp) hpos
     ·have hcur : (L.drop from_).take (i - from_) ++ [t] = (L.drop from_).take (i + 1 - from_) := by
       rw[show i+1-from_=(i-from_)+1 from by omega,List.take_add_one,List.getElem?_drop,show from_+(i-from_)=i from by omega,ht]
       rfl
      rw[hcur]at hdef
      have hclen:((L.drop from_).take (i+1-from_)).length=i+1-from_:=by
       rw[List.length_take,List.length_drop];omega
      have hmid:=(hs.mono hle).mid (c:=tc) (l:=from_) (h:=i+1) (by omega) (by omega) hcap
      have hmid':Sl μ2 1 (if tc=from_ then tb else tb.map (·.add (from_*1))) ((L.drop from_).take (i+1-from_)).length ((((L.drop from_).take (i+1-from_)).map mkS).map D.s):=by
       rw[hclen,List.map_take,List.map_take,List.map_drop,List.map_drop]
       exact hmid
      have hdefS:=eQ (cap:=tc-from_) hmid' (by omega) (fun t ht=>hLs t (List.mem_of_mem_drop (List.mem_of_mem_take ht))) hdef
      rw[hclen]at hdefS
      refine aB (by omega) (by omega) ?_
      refine aG from_ (i+1) rfl rfl (by omega) (by omega) ?_
      refine cPl hdefS fun v3 μ3 hle3 hR3=>?_
      obtain⟨tv3,rfl,hrx⟩:=hR3
      have w_:=Rl.invV hrx
      obtain⟨q3,rfl⟩:=w_
      intro r11
      refine iIn (fun h=>nomatch h) (fun _=>?_)
      intro r12
      refine gIn ?_ ?_ fun b' c' hb'=>?_
      ·show(ys.length+1)*104≤_;omega
      ·exact Nat.le_trans (m:=100000000) (show ys.length+1≤_ by omega) (by decide)
      refine aB (by omega) (by omega) (aB (by omega) (by omega) ⟨(i+1,i+1,cE d t,done++[x],l',(_,b',c'),μ3),⟨by dsimp only;omega,by dsimp only;omega,by dsimp only;omega,by dsimp only;omega,?_,?_,?_,hle.trans hle3,by simp only[List.length_append,List.length_singleton];omega⟩,by dsimp only;omega,⟨⟨rfl,rfl,rfl,rfl,(by rw[hdd];rfl),rfl,rfl,rfl,trivial⟩,⟨rfl,rfl,rfl,trivial⟩,rfl,rfl⟩⟩)
      ·dsimp only
       rw[Nat.sub_self,List.take_zero]
       exact hnext
      ·dsimp only
       rw[hrl,hmore,List.append_assoc];rfl
      ·dsimp only
       rw[List.map_append]
       exact(hrows.mono hle3).append (Rows.one hrx (Rl.d_n _))
   ·have h41 : t ≠ [41] := fun e => h41 (congrArg mkS e)
    have hdd:cE d t=d:=by rw[cE,if_neg (by simpa using h40),if_neg (by simpa using h41)]
    refine iIn (fun hpos=>?_) (fun hpos=>?_)
    ·have hpos := of_decide_eq_true hpos
     rcases hst with⟨_,hnext⟩|⟨hneg,_⟩
     ·refine aB (by omega) (by omega) ⟨(i + 1, from_, cE d t, done, more, (ys, b, c), μ2), ⟨by dsimp only; omega, by dsimp only; omega, by dsimp only; omega, by dsimp only; omega, ?_, hrl, hrows, hle, by dsimp only; omega⟩, by dsimp only; omega, ⟨⟨rfl, rfl, rfl, rfl, (by rw [hdd]; rfl), rfl, rfl, rfl, trivial⟩, ⟨rfl, rfl, rfl, trivial⟩, rfl, rfl⟩⟩
      dsimp only
      rw[show i+1-from_=(i-from_)+1 from by omega,List.take_add_one,List.getElem?_drop,show from_+(i-from_)=i from by omega,ht]
      exact hnext
     ·exact absurd (by rw[hdd];exact hpos) hneg
    ·have hpos := of_decide_eq_false hpos
     rcases hst with⟨hp,_⟩|⟨_,x,l',hdef,hnext,hmore⟩
     ·exact absurd (by rw[←hdd];exact hp) hpos
     ·have hcur : (L.drop from_).take (i - from_) ++ [t] = (L.drop from_).take (i + 1 - from_) := by
       rw[show i+1-from_=(i-from_)+1 from by omega,List.take_add_one,List.getElem?_drop,show from_+(i-from_)=i from by omega,ht]
       rfl
      rw[hcur]at hdef
      have hclen:((L.drop from_).take (i+1-from_)).length=i+1-from_:=by
       rw[List.length_take,List.length_drop];omega
      have hmid:=(hs.mono hle).mid (c:=tc) (l:=from_) (h:=i+1) (by omega) (by omega) hcap
      have hmid':Sl μ2 1 (if tc=from_ then tb else tb.map (·.add (from_*1))) ((L.drop from_).take (i+1-from_)).length ((((L.drop from_).take (i+1-from_)).map mkS).map D.s):=by
       rw[hclen,List.map_take,List.map_take,List.map_drop,List.map_drop]
       exact hmid
      have hdefS:=eQ (cap:=tc-from_) hmid' (by omega) (fun t ht=>hLs t (List.mem_of_mem_drop (List.mem_of_mem_take ht))) hdef
      rw[hclen]at hdefS
      refine aB (by omega) (by omega) ?_
      refine aG from_ (i+1) rfl rfl (by omega) (by omega) ?_
      refine cPl hdefS fun v3 μ3 hle3 hR3=>?_
      obtain⟨tv3,rfl,hrx⟩:=hR3
      have w_:=Rl.invV hrx
      obtain⟨q3,rfl⟩:=w_
      intro r11
      refine iIn (fun h=>nomatch h) (fun _=>?_)
      intro r12
      refine gIn ?_ ?_ fun b' c' hb'=>?_
      ·show(ys.length+1)*104≤_;omega
      ·exact Nat.le_trans (m:=100000000) (show ys.length+1≤_ by omega) (by decide)
      refine aB (by omega) (by omega) (aB (by omega) (by omega) ⟨(i+1,i+1,cE d t,done++[x],l',(_,b',c'),μ3),⟨by dsimp only;omega,by dsimp only;omega,by dsimp only;omega,by dsimp only;omega,?_,?_,?_,hle.trans hle3,by simp only[List.length_append,List.length_singleton];omega⟩,by dsimp only;omega,⟨⟨rfl,rfl,rfl,rfl,(by rw[hdd];rfl),rfl,rfl,rfl,trivial⟩,⟨rfl,rfl,rfl,trivial⟩,rfl,rfl⟩⟩)
      ·dsimp only
       rw[Nat.sub_self,List.take_zero]
       exact hnext
      ·dsimp only
       rw[hrl,hmore,List.append_assoc];rfl
      ·dsimp only
       rw[List.map_append]
       exact(hrows.mono hle3).append (Rows.one hrx (Rl.d_n _))
 ·obtain rfl : i = L.length := by omega
  have hmore:more=[]:=by
   rw[List.drop_length]at hD
   generalize (L.drop from_).take (L.length-from_)=cur at hD
   cases cur with
   |nil=>cases hD;rfl
   |cons a b=>cases hD
  rw[hmore,List.append_nil]at hrl
  refine iIn (fun hd0=>?_) (fun hd0=>?_)
  ·exact rPl ⟨⟨[]⟩,_,false,rfl,xC,fun h=>nomatch h⟩
  ·refine aS [2] fun μ4 hle4 hno4 hat4 => ?_
   have hrep:RepV μ4 (Pg.mk rels).d (.agg #[.slice (b.map fun r=>⟨r,0,none⟩) ys.length c]):=by
    rw[hrl]
    exact⟨_,rfl,RepS.last (Rows.sl hat4 (hrows.mono hle4) (Nat.le_trans (m:=1000) (by omega) (by decide)))⟩
   refine bM (bD hrep hw) fun v5 μ5 hle5 hR5=>?_
   have hR5:v5= .bool (decide (Pg.mk rels).Ok):=hR5
   subst hR5
   refine iIn (fun hok=>?_) (fun hok=>?_)
   ·exact rPl ⟨⟨[]⟩,_,false,rfl,xC,fun h=>nomatch h⟩
   ·exact rPl ⟨⟨rels⟩,_,true,rfl,hrep.mono hle5,fun _=>⟨rfl,nd' hok⟩⟩
end Go.Vx
namespace Go.Vx
open Go.Proofs Classical
mutual
def D.wdB:D→Bool
 | .i n=>decide (-9223372036854775808≤n∧n≤9223372036854775807)
 | .b _=>true
 | .s x=>decide (x.size≤1000)
 | .st fs=>D.wdsB fs
 | .sl _ xs=>D.wdsB xs
def D.wdsB:List D→Bool
 |[]=>true
 |d::r=>d.wdB&&D.wdsB r
end
mutual
theorem D.wd_ofB:∀d:D,d.wdB=true→d.wd
 | .i n,h=>by
  have:=of_decide_eq_true h
  show InR n
  unfold InR
  omega
 | .b _,_=>trivial
 | .s x,h=>Nat.le_trans (of_decide_eq_true h) (by decide)
 | .st fs,h=>D.wds_ofB fs h
 | .sl _ xs,h=>D.wds_ofB xs h
theorem D.wds_ofB:∀l:List D,D.wdsB l=true→D.wds l
 |[],_=>trivial
 |d::r,h=>by
  rw[D.wdsB,Bool.and_eq_true]at h
  exact⟨D.wd_ofB d h.1,D.wds_ofB r h.2⟩
end
def yR(s:Bs):Bool:=decide (s.length≤400)&&s.all (fun b=>decide (b.toNat≠59∧(b.toNat=10∨(32≤b.toNat∧b.toNat≤126))))&&(match qEh s with
 |some p=>p.d.wdB&&lE 3 p&&lE 2 p&& !p.rels.isEmpty&&p.rels.all (fun r=>decide (1≤r.arity))
 |none=>false)
theorem kL{s:Bs}(h:yR s=true):∃p,LibOk s p:=by
 unfold yR at h
 rw[Bool.and_eq_true,Bool.and_eq_true,List.all_eq_true]at h
 obtain⟨⟨h1,h2⟩,h3⟩:=h
 split at h3
 ·rename_i p hp
  simp only[Bool.and_eq_true]at h3
  obtain⟨⟨⟨⟨h4,h5⟩,h6⟩,h7⟩,h8⟩:=h3
  refine⟨p,hp,of_decide_eq_true h1,fun b hb=>of_decide_eq_true (h2 b hb),D.wd_ofB _ h4,h5,h6,fun e=>?_,fun r hr=>of_decide_eq_true (List.all_eq_true.1 h8 r hr)⟩
  rw[e]at h7
  cases h7
 ·cases h3
def tG:Bs:=[108,105,115,116,115]
def qB:Bs:=[40,100,101,102,105,110,101,32,40,97,112,112,101,110,100,32,63,97,32,63,98,32,63,99,41,32,40,111,114,32,40,97,110,100,32,40,61,32,63,97,32,40,41,41,32,40,61,32,63,98,32,63,99,41,41,32,40,97,110,100,32,40,61,32,63,97,32,40,63,120,32,46,32,63,121,41,41,32,40,61,32,63,99,32,40,63,120,32,46,32,63,122,41,41,32,40,97,112,112,101,110,100,32,63,121,32,63,98,32,63,122,41,41,41,41]
def qC:Bs:=[40,100,101,102,105,110,101,32,40,109,101,109,98,101,114,32,63,120,32,63,108,41,32,40,111,114,32,40,61,32,63,108,32,40,63,120,32,46,32,63,114,41,41,32,40,97,110,100,32,40,61,32,63,108,32,40,63,121,32,46,32,63,114,41,41,32,40,109,101,109,98,101,114,32,63,120,32,63,114,41,41,41,41]
def qPt:Bs:=qB++[10]++(qC++[10])
theorem qFr:yR qPt=true:=by decide+kernel
def wY:Bs:=[103,114,97,112,104]
def qD:Bs:=[40,100,101,102,105,110,101,32,40,101,100,103,101,32,63,97,32,63,98,41,32,40,111,114,32,40,97,110,100,32,40,61,32,63,97,32,97,41,32,40,61,32,63,98,32,98,41,41,32,40,97,110,100,32,40,61,32,63,97,32,98,41,32,40,61,32,63,98,32,99,41,41,32,40,97,110,100,32,40,61,32,63,97,32,99,41,32,40,61,32,63,98,32,97,41,41,41,41]
def qE:Bs:=[40,100,101,102,105,110,101,32,40,112,97,116,104,32,63,97,32,63,98,41,32,40,111,114,32,40,101,100,103,101,32,63,97,32,63,98,41,32,40,97,110,100,32,40,112,97,116,104,32,63,97,32,63,99,41,32,40,101,100,103,101,32,63,99,32,63,98,41,41,41,41]
def qPu:Bs:=qD++[10]++(qE++[10])
theorem qFs:yR qPu=true:=by decide+kernel
def qBs:Bs:=[115,101,116,115]
def qF:Bs:=[40,100,101,102,105,110,101,32,40,111,117,116,115,105,100,101,32,63,120,32,63,108,41,32,40,111,114,32,40,61,32,63,108,32,40,41,41,32,40,97,110,100,32,40,61,32,63,108,32,40,63,121,32,46,32,63,114,41,41,32,40,47,61,32,63,120,32,63,121,41,32,40,111,117,116,115,105,100,101,32,63,120,32,63,114,41,41,41,41]
def qG:Bs:=[40,100,101,102,105,110,101,32,40,100,105,115,116,105,110,99,116,32,63,108,41,32,40,111,114,32,40,61,32,63,108,32,40,41,41,32,40,97,110,100,32,40,61,32,63,108,32,40,63,120,32,46,32,63,114,41,41,32,40,111,117,116,115,105,100,101,32,63,120,32,63,114,41,32,40,100,105,115,116,105,110,99,116,32,63,114,41,41,41,41]
def qPv:Bs:=qF++[10]++(qG++[10])
theorem qFt:yR qPv=true:=by decide+kernel
def qHx:Bs:=[103,97,109,101,115]
def qH:Bs:=[40,100,101,102,105,110,101,32,40,109,111,118,101,32,63,97,32,63,98,41,32,40,111,114,32,40,97,110,100,32,40,61,32,63,97,32,97,41,32,40,61,32,63,98,32,98,41,41,32,40,97,110,100,32,40,61,32,63,97,32,98,41,32,40,61,32,63,98,32,97,41,41,32,40,97,110,100,32,40,61,32,63,97,32,98,41,32,40,61,32,63,98,32,99,41,41,41,41]
def qI:Bs:=[40,100,101,102,105,110,101,32,40,119,105,110,32,63,97,41,32,40,97,110,100,32,40,109,111,118,101,32,63,97,32,63,98,41,32,40,110,111,116,32,40,119,105,110,32,63,98,41,41,41,41]
def qPw:Bs:=qH++[10]++(qI++[10])
theorem qFu:yR qPw=true:=by decide+kernel
def libNames:List Bs:=[tG,wY,qBs,qHx]
section
variable {μ:Mem}
theorem iW(a b:Bs)(i:Nat):([a,b].take i).flatMap (·++[10])=if i=0 then []else if i=1 then a++[10]else a++[10]++(b++[10]):=by
 match i with
 |0=>rfl
 |1=>simp
 |i+2=>simp
set_option maxRecDepth 20000 in
theorem oK:aM Tryz.prog 50 [.string (mkS tG)] μ (.string (mkS qPt)):=by
 refine Spec.mk Tryz.func50 (by kernel_rfl) ?_
 intro r0
 refine ifd (fun _=>?_) (fun h=>absurd rfl h)
 intro r1
 refine lIn (fun i:Nat=>i≤2) (fun i=>⟨[(4,.val (.string (mkS (([qB,qC].take i).flatMap (·++[10]))))),(21,.row 1 (some r1) 2 2),(22,.val (.int .i64 2)),(23,.val (.int .i64 i))],[(1,some (.row (some r1) 2 9 1 [.string (mkS qB),.string (mkS qC)]))],2,μ,Mem.nil⟩) (fun i=>2-i)
  0 (by omega) (fun _=>⟨rfl,rfl⟩) ⟨⟨rfl,rfl,rfl,rfl,trivial⟩,⟨rfl,trivial⟩,rfl,rfl⟩ ?_
 intro i hi
 refine ifd (fun hlt=>?_) (fun hlt=>?_)
 ·have w_ : i = 0 ∨ i = 1 := by omega
  rcases w_ with rfl|rfl
  ·refine aX 0 rfl (by decide) (aW (.string (mkS qB)) rfl ?_)
   refine aC (by decide+kernel) ?_
   intro r2
   refine bW [10] rfl ?_
   refine aC (by decide+kernel) ?_
   refine aB (by decide) (by decide) ⟨1,by decide,by decide,⟨⟨?_,rfl,rfl,rfl,trivial⟩,⟨rfl,trivial⟩,rfl,rfl⟩⟩
   exact congrArg (fun s=>some (SV.val (.string s))) (show mkS []++mkS qB++mkS [10]=_ by rw[aZ,aZ,iW];rfl)
  ·refine aX 1 rfl (by decide) (aW (.string (mkS qC)) rfl ?_)
   refine aC (by decide+kernel) ?_
   intro r2
   refine bW [10] rfl ?_
   refine aC (by decide+kernel) ?_
   refine aB (by decide) (by decide) ⟨2,by decide,by decide,⟨⟨?_,rfl,rfl,rfl,trivial⟩,⟨rfl,trivial⟩,rfl,rfl⟩⟩
   exact congrArg (fun s=>some (SV.val (.string s))) (show mkS (([qB,qC].take 1).flatMap (·++[10]))++mkS qC++mkS [10]=_ by rw[aZ,aZ,iW,iW];simp)
 ·obtain rfl : i = 2 := by omega
  exact rGv (congrArg (fun s=>Value.string (mkS s)) (iW _ _ 2)) rfl
set_option maxRecDepth 20000 in
theorem oL:aM Tryz.prog 50 [.string (mkS wY)] μ (.string (mkS qPu)):=by
 refine Spec.mk Tryz.func50 (by kernel_rfl) ?_
 intro r0
 refine ifd (fun h=>absurd (bA (b:=tG) h) (by decide)) (fun _=>?_)
 refine ifd (fun _=>?_) (fun h=>absurd rfl h)
 intro r1
 refine lIn (fun i:Nat=>i≤2) (fun i=>⟨[(4,.val (.string (mkS (([qD,qE].take i).flatMap (·++[10]))))),(21,.row 1 (some r1) 2 2),(22,.val (.int .i64 2)),(23,.val (.int .i64 i))],[(1,some (.row (some r1) 2 9 1 [.string (mkS qD),.string (mkS qE)]))],2,μ,Mem.nil⟩) (fun i=>2-i)
  0 (by omega) (fun _=>⟨rfl,rfl⟩) ⟨⟨rfl,rfl,rfl,rfl,trivial⟩,⟨rfl,trivial⟩,rfl,rfl⟩ ?_
 intro i hi
 refine ifd (fun hlt=>?_) (fun hlt=>?_)
 ·have w_ : i = 0 ∨ i = 1 := by omega
  rcases w_ with rfl|rfl
  ·refine aX 0 rfl (by decide) (aW (.string (mkS qD)) rfl ?_)
   refine aC (by decide+kernel) ?_
   intro r2
   refine bW [10] rfl ?_
   refine aC (by decide+kernel) ?_
   refine aB (by decide) (by decide) ⟨1,by decide,by decide,⟨⟨?_,rfl,rfl,rfl,trivial⟩,⟨rfl,trivial⟩,rfl,rfl⟩⟩
   exact congrArg (fun s=>some (SV.val (.string s))) (show mkS []++mkS qD++mkS [10]=_ by rw[aZ,aZ,iW];rfl)
  ·refine aX 1 rfl (by decide) (aW (.string (mkS qE)) rfl ?_)
   refine aC (by decide+kernel) ?_
   intro r2
   refine bW [10] rfl ?_
   refine aC (by decide+kernel) ?_
   refine aB (by decide) (by decide) ⟨2,by decide,by decide,⟨⟨?_,rfl,rfl,rfl,trivial⟩,⟨rfl,trivial⟩,rfl,rfl⟩⟩
   exact congrArg (fun s=>some (SV.val (.string s))) (show mkS (([qD,qE].take 1).flatMap (·++[10]))++mkS qE++mkS [10]=_ by rw[aZ,aZ,iW,iW];simp)
 ·obtain rfl : i = 2 := by omega
  exact rGv (congrArg (fun s=>Value.string (mkS s)) (iW _ _ 2)) rfl
set_option maxRecDepth 20000 in
theorem oM:aM Tryz.prog 50 [.string (mkS qBs)] μ (.string (mkS qPv)):=by
 refine Spec.mk Tryz.func50 (by kernel_rfl) ?_
 intro r0
 refine ifd (fun h=>absurd (bA (b:=tG) h) (by decide)) (fun _=>?_)
 refine ifd (fun h=>absurd (bA (b:=wY) h) (by decide)) (fun _=>?_)
 refine ifd (fun _=>?_) (fun h=>absurd rfl h)
 intro r1
 refine lIn (fun i:Nat=>i≤2) (fun i=>⟨[(4,.val (.string (mkS (([qF,qG].take i).flatMap (·++[10]))))),(21,.row 1 (some r1) 2 2),(22,.val (.int .i64 2)),(23,.val (.int .i64 i))],[(1,some (.row (some r1) 2 9 1 [.string (mkS qF),.string (mkS qG)]))],2,μ,Mem.nil⟩) (fun i=>2-i)
  0 (by omega) (fun _=>⟨rfl,rfl⟩) ⟨⟨rfl,rfl,rfl,rfl,trivial⟩,⟨rfl,trivial⟩,rfl,rfl⟩ ?_
 intro i hi
 refine ifd (fun hlt=>?_) (fun hlt=>?_)
 ·have w_ : i = 0 ∨ i = 1 := by omega
  rcases w_ with rfl|rfl
  ·refine aX 0 rfl (by decide) (aW (.string (mkS qF)) rfl ?_)
   refine aC (by decide+kernel) ?_
   intro r2
   refine bW [10] rfl ?_
   refine aC (by decide+kernel) ?_
   refine aB (by decide) (by decide) ⟨1,by decide,by decide,⟨⟨?_,rfl,rfl,rfl,trivial⟩,⟨rfl,trivial⟩,rfl,rfl⟩⟩
   exact congrArg (fun s=>some (SV.val (.string s))) (show mkS []++mkS qF++mkS [10]=_ by rw[aZ,aZ,iW];rfl)
  ·refine aX 1 rfl (by decide) (aW (.string (mkS qG)) rfl ?_)
   refine aC (by decide+kernel) ?_
   intro r2
   refine bW [10] rfl ?_
   refine aC (by decide+kernel) ?_
   refine aB (by decide) (by decide) ⟨2,by decide,by decide,⟨⟨?_,rfl,rfl,rfl,trivial⟩,⟨rfl,trivial⟩,rfl,rfl⟩⟩
   exact congrArg (fun s=>some (SV.val (.string s))) (show mkS (([qF,qG].take 1).flatMap (·++[10]))++mkS qG++mkS [10]=_ by rw[aZ,aZ,iW,iW];simp)
 ·obtain rfl : i = 2 := by omega
  exact rGv (congrArg (fun s=>Value.string (mkS s)) (iW _ _ 2)) rfl
set_option maxRecDepth 20000 in
theorem oN:aM Tryz.prog 50 [.string (mkS qHx)] μ (.string (mkS qPw)):=by
 refine Spec.mk Tryz.func50 (by kernel_rfl) ?_
 intro r0
 refine ifd (fun h=>absurd (bA (b:=tG) h) (by decide)) (fun _=>?_)
 refine ifd (fun h=>absurd (bA (b:=wY) h) (by decide)) (fun _=>?_)
 refine ifd (fun h=>absurd (bA (b:=qBs) h) (by decide)) (fun _=>?_)
 refine ifd (fun _=>?_) (fun h=>absurd rfl h)
 intro r1
 refine lIn (fun i:Nat=>i≤2) (fun i=>⟨[(4,.val (.string (mkS (([qH,qI].take i).flatMap (·++[10]))))),(21,.row 1 (some r1) 2 2),(22,.val (.int .i64 2)),(23,.val (.int .i64 i))],[(1,some (.row (some r1) 2 9 1 [.string (mkS qH),.string (mkS qI)]))],2,μ,Mem.nil⟩) (fun i=>2-i)
  0 (by omega) (fun _=>⟨rfl,rfl⟩) ⟨⟨rfl,rfl,rfl,rfl,trivial⟩,⟨rfl,trivial⟩,rfl,rfl⟩ ?_
 intro i hi
 refine ifd (fun hlt=>?_) (fun hlt=>?_)
 ·have w_ : i = 0 ∨ i = 1 := by omega
  rcases w_ with rfl|rfl
  ·refine aX 0 rfl (by decide) (aW (.string (mkS qH)) rfl ?_)
   refine aC (by decide+kernel) ?_
   intro r2
   refine bW [10] rfl ?_
   refine aC (by decide+kernel) ?_
   refine aB (by decide) (by decide) ⟨1,by decide,by decide,⟨⟨?_,rfl,rfl,rfl,trivial⟩,⟨rfl,trivial⟩,rfl,rfl⟩⟩
   exact congrArg (fun s=>some (SV.val (.string s))) (show mkS []++mkS qH++mkS [10]=_ by rw[aZ,aZ,iW];rfl)
  ·refine aX 1 rfl (by decide) (aW (.string (mkS qI)) rfl ?_)
   refine aC (by decide+kernel) ?_
   intro r2
   refine bW [10] rfl ?_
   refine aC (by decide+kernel) ?_
   refine aB (by decide) (by decide) ⟨2,by decide,by decide,⟨⟨?_,rfl,rfl,rfl,trivial⟩,⟨rfl,trivial⟩,rfl,rfl⟩⟩
   exact congrArg (fun s=>some (SV.val (.string s))) (show mkS (([qH,qI].take 1).flatMap (·++[10]))++mkS qI++mkS [10]=_ by rw[aZ,aZ,iW,iW];simp)
 ·obtain rfl : i = 2 := by omega
  exact rGv (congrArg (fun s=>Value.string (mkS s)) (iW _ _ 2)) rfl
end
end Go.Vx
namespace Go.Vx
open Go.Proofs Classical
section
variable {μ:Mem}
theorem tC{h:Mem}{r:Nat}(hc:Cur μ h r h){L:List Bs}{base:Option Addr}{cap:Nat}(hs:Sl μ 1 base L.length ((L.map mkS).map D.s))(h1:1≤L.length)(h2:L.length≤200):
  SpecH Tryz.prog 124 [.pointer (some ⟨r,0,none⟩),.slice base L.length cap] μ h fun v μ' h'=>μ'=μ∧Cur μ h r h'∧∃s∈L,v= .string (mkS s):=by
 refine SpecH.mk [] Tryz.func124 (by kernel_rfl) ?_
 refine cOw (aI hc L.length) fun v μ1 h1 hle1 hap1 hR=>?_
 obtain⟨e,hc1,k,rfl,hk,hk2,_⟩:=hR
 obtain rfl:=e.symm
 have hk2:=hk2 (by omega)
 obtain⟨t,ht⟩:∃t,L[k]? =some t:=⟨_,List.getElem?_eq_getElem (by omega)⟩
 have w_:=Nm.tok hs ht
 obtain⟨ad,hel⟩:=w_
 refine eIn hel ?_
 exact rPl ⟨rfl,hc1,t,List.mem_of_getElem? ht,rfl⟩
theorem rF{h:Mem}{r:Nat}(hc:Cur μ h r h):
  SpecH Tryz.prog 51 [.pointer (some ⟨r,0,none⟩)] μ h fun v μ' h'=>Cur μ' h r h'∧∃s∈libNames,v= .string (mkS s):=by
 refine SpecH.mk [] Tryz.func51 (by kernel_rfl) ?_
 intro r0
 refine aS [0] fun μ4 hle4 hno4 hat4=>?_
 have k:=Rows.sl hat4 (Nm.rows (libNames.map mkS)) (by decide)
 have w_:=Rep.sl k
 obtain⟨bz,cz,ez,hsz⟩:=w_
 have w_:=Value.slice.inj ez
 obtain⟨e1,e2,_⟩:=w_
 rw[List.length_map,List.length_map,←e1]at hsz
 refine .inr ⟨_,tC (L:=libNames) (hc.mono hle4) hsz (by decide) (by decide),fun v μ5 h5 hle5 hap5 hR=>?_⟩
 obtain⟨rfl,hc5,s,hs,rfl⟩:=hR
 exact rPl ⟨hc5,s,hs,rfl⟩
theorem qP{s:Bs}(hs:s∈libNames):∃t p,LibOk t p∧aM Tryz.prog 50 [.string (mkS s)] μ (.string (mkS t)):=by
 simp only[libNames,List.mem_cons,List.not_mem_nil,or_false]at hs
 rcases hs with rfl|rfl|rfl|rfl
 ·have w_:=kL qFr;obtain⟨p,hp⟩:=w_;exact⟨_,p,hp,oK⟩
 ·have w_:=kL qFs;obtain⟨p,hp⟩:=w_;exact⟨_,p,hp,oL⟩
 ·have w_:=kL qFt;obtain⟨p,hp⟩:=w_;exact⟨_,p,hp,oM⟩
 ·have w_:=kL qFu;obtain⟨p,hp⟩:=w_;exact⟨_,p,hp,oN⟩
end
end Go.Vx
namespace Go.Vx
open Go.Proofs Classical
theorem eT{k:Int}{ts:List T}(h0:0≤k)(h6:k≤6)(l2:k=2∨k=3∨k=6→ts.length=2)(l1:k=4∨k=5→ts.length=1)(l0:k=0∨k=1→ts.length=0)(hs:k=6→∀a,(ts.map T.tm)[0]? =some a→a.kind=2)(hok:∀t∈ts,t.ok):TopOk (.mk k ⟨#[]⟩ (ts.map T.tm) []) where
 tm:=fun t ht=>by
  have w_:=List.mem_map.1 ht
  obtain⟨x,hx,rfl⟩:=w_
  exact(hok x hx).tm
 k0:=h0
 k1:=by show k≤10;omega
 nm:=fun _=>rfl
 rel:=fun h=>by have h:k=9:=h;omega
 ln9:=fun h=>by have h:k=9:=h;omega
 ln2:=fun h=>by show(ts.map T.tm).length=2;rw[List.length_map];exact l2 h
 ln1:=fun h=>by show(ts.map T.tm).length=1;rw[List.length_map];exact l1 h
 ln0:=fun h=>by
  show(ts.map T.tm).length=0
  have h:k=0∨k=1∨k=7∨k=8∨k=10:=h
  rw[List.length_map];exact l0 (by omega)
 gl:=Nat.zero_le _
 gl0:=fun _=>rfl
 gl1:=fun h=>by have h:k=10:=h;omega
 sy:=hs
 cl:=fun h=>by have h:k=10:=h;omega
def qAw(h:Mem)(r n:Nat)(v:Value)(μ' h':Mem):Prop:=Cur μ' h r h'∧∃g:Gl,RepV μ' g.d v∧∀sg mode,Dr sg n mode 1 1 g
theorem dQ{k:Int}{ts:List T}{n:Nat}(top:TopOk (.mk k ⟨#[]⟩ (ts.map T.tm) []))(hk:k≤6)(ht:∀t∈ts,∀v,t.occ v→0≤v∧v<(n:Int)):∀sg mode,Dr sg n mode 1 1 (.mk k ⟨#[]⟩ (ts.map T.tm) []):=fun sg mode=>
 Dr.leaf top (by omega) (by omega) (by omega) ht (fun h=>by omega)
section
variable {μ:Mem}
set_option maxHeartbeats 1000000 in
theorem nF{h:Mem}{r:Nat}(hc:Cur μ h r h)(n:Nat)(hn:n≤8)(pure:Bool):
  SpecH Tryz.prog 188 [.pointer (some ⟨r,0,none⟩),.int .i64 n,.bool pure] μ h fun v μ' h'=>qAw h r n v μ' h':=by
 have hB1:lvB 1=1:=by rw[lvB,if_neg (by decide)]
 refine SpecH.mk [] Tryz.func188 (by kernel_rfl) ?_
 intro r6
 refine cOw (cN n (by omega) 1 (by decide) hc) fun v μ1 h1 hle1 hap1 hR=>?_
 obtain⟨hc1,ta,hra,hda⟩:=hR
 rw[hB1]at hda
 have w_:=Tm.invV hra
 obtain⟨pa,rfl⟩:=w_
 intro r7
 refine cOw (cN n (by omega) 4 (by decide) hc1.at) fun v μ2 h2 hle2 hap2 hR=>?_
 obtain⟨hc2,tb,hrb,hdb⟩:=hR
 rw[qPx]at hdb
 have w_:=Tm.invV hrb
 obtain⟨pb,rfl⟩:=w_
 intro r8
 refine cOw (aI hc2.at 16) fun v μ3 h3 hle3 hap3 hR=>?_
 obtain⟨e,hc3,k,rfl,hk,hk16,_⟩:=hR
 obtain rfl:=e.symm
 have hk16:=hk16 (by decide)
 have hc3:=(hc1.trans hc2).trans hc3
 refine iIn (fun hp=>?_) (fun hp=>?_)
 ·intro rs
  refine aS [3] fun μ4 hle4 hno4 hat4=>?_
  refine bM (bC (k:=2) (a:=(some ⟨rs,0,none⟩,2,2)) (b:=(none,0,0))) fun v8 μ8 hle8 hR8=>?_
  obtain⟨rfl,rfl⟩:=hR8
  refine rPl ⟨(hc3.mono hle4),.mk 2 ⟨#[]⟩ ([ta,tb].map T.tm) [],bY (Rows.sl hat4 (.cons (hra.mono ((hle2.trans hle3).trans hle4)) (Tm.d_n _) (Rows.one (hrb.mono (hle3.trans hle4)) (Tm.d_n _))) (by show 2≤_;decide)) (Rep.nilSl 4),dQ (eT (by decide) (by decide) (fun _=>rfl) (fun h=>absurd h (by decide)) (fun h=>absurd h (by decide)) (fun h=>absurd h (by decide)) (fun t ht=>?_)) (by decide) (fun t ht=>?_)⟩
  ·rcases List.mem_cons.1 ht with rfl | ht
   ·exact hda.ok (by omega)
   ·rw[List.mem_singleton.1 ht];exact hdb.ok (by omega)
  ·rcases List.mem_cons.1 ht with rfl | ht
   ·exact hda.low
   ·rw[List.mem_singleton.1 ht];exact hdb.low
 refine iIn (fun hp=>?_) (fun hp=>?_)
 ·intro rs
  refine aS [3] fun μ4 hle4 hno4 hat4=>?_
  refine bM (bC (k:=2) (a:=(some ⟨rs,0,none⟩,2,2)) (b:=(none,0,0))) fun v8 μ8 hle8 hR8=>?_
  obtain⟨rfl,rfl⟩:=hR8
  refine rPl ⟨(hc3.mono hle4),.mk 2 ⟨#[]⟩ ([ta,tb].map T.tm) [],bY (Rows.sl hat4 (.cons (hra.mono ((hle2.trans hle3).trans hle4)) (Tm.d_n _) (Rows.one (hrb.mono (hle3.trans hle4)) (Tm.d_n _))) (by show 2≤_;decide)) (Rep.nilSl 4),dQ (eT (by decide) (by decide) (fun _=>rfl) (fun h=>absurd h (by decide)) (fun h=>absurd h (by decide)) (fun h=>absurd h (by decide)) (fun t ht=>?_)) (by decide) (fun t ht=>?_)⟩
  ·rcases List.mem_cons.1 ht with rfl | ht
   ·exact hda.ok (by omega)
   ·rw[List.mem_singleton.1 ht];exact hdb.ok (by omega)
  ·rcases List.mem_cons.1 ht with rfl | ht
   ·exact hda.low
   ·rw[List.mem_singleton.1 ht];exact hdb.low
 refine ifd (fun h9=>?_) (fun h9=>?_)
 ·intro rs
  refine aS [3] fun μ4 hle4 hno4 hat4=>?_
  refine bM (bC (k:=4) (a:=(some ⟨rs,0,none⟩,1,1)) (b:=(none,0,0))) fun v8 μ8 hle8 hR8=>?_
  obtain⟨rfl,rfl⟩:=hR8
  refine rPl ⟨(hc3.mono hle4),.mk 4 ⟨#[]⟩ ([ta].map T.tm) [],bY (Rows.sl hat4 (Rows.one (hra.mono ((hle2.trans hle3).trans hle4)) (Tm.d_n _)) (by show 1≤_;decide)) (Rep.nilSl 4),dQ (eT (by decide) (by decide) (fun h=>absurd h (by decide)) (fun _=>rfl) (fun h=>absurd h (by decide)) (fun h=>absurd h (by decide)) (fun t ht=>?_)) (by decide) (fun t ht=>?_)⟩
  ·rw[List.mem_singleton.1 ht];exact hda.ok (by omega)
  ·rw[List.mem_singleton.1 ht];exact hda.low
 refine ifd (fun h10=>?_) (fun h10=>?_)
 ·intro rs
  refine aS [3] fun μ4 hle4 hno4 hat4=>?_
  refine bM (bC (k:=5) (a:=(some ⟨rs,0,none⟩,1,1)) (b:=(none,0,0))) fun v8 μ8 hle8 hR8=>?_
  obtain⟨rfl,rfl⟩:=hR8
  refine rPl ⟨(hc3.mono hle4),.mk 5 ⟨#[]⟩ ([ta].map T.tm) [],bY (Rows.sl hat4 (Rows.one (hra.mono ((hle2.trans hle3).trans hle4)) (Tm.d_n _)) (by show 1≤_;decide)) (Rep.nilSl 4),dQ (eT (by decide) (by decide) (fun h=>absurd h (by decide)) (fun _=>rfl) (fun h=>absurd h (by decide)) (fun h=>absurd h (by decide)) (fun t ht=>?_)) (by decide) (fun t ht=>?_)⟩
  ·rw[List.mem_singleton.1 ht];exact hda.ok (by omega)
  ·rw[List.mem_singleton.1 ht];exact hda.low
 refine ifd (fun h11=>?_) (fun h11=>?_)
 ·refine cPl (dT ⟨#[97]⟩) fun v μs hles hRs => ?_
  have w_:=Tm.invV hRs
  obtain⟨ps,rfl⟩:=w_
  intro rs
  refine aS [3] fun μ4 hle4 hno4 hat4=>?_
  refine bM (bC (k:=6) (a:=(some ⟨rs,0,none⟩,2,2)) (b:=(none,0,0))) fun v8 μ8 hle8 hR8=>?_
  obtain⟨rfl,rfl⟩:=hR8
  refine rPl ⟨(hc3.mono hles).mono hle4,.mk 6 ⟨#[]⟩ ([T.sym ⟨#[97]⟩,tb].map T.tm) [],bY (Rows.sl hat4 (.cons (hRs.mono hle4) (Tm.d_n _) (Rows.one (((hrb.mono hle3).mono hles).mono hle4) (Tm.d_n _))) (by show 2≤_;decide)) (Rep.nilSl 4),dQ (eT (by decide) (by decide) (fun _=>rfl) (fun h=>absurd h (by decide)) (fun h=>absurd h (by decide)) (fun _ a ha=>by cases ha;rfl) (fun t ht=>?_)) (by decide) (fun t ht=>?_)⟩
  ·rcases List.mem_cons.1 ht with rfl | ht
   ·exact⟨kZ (by decide),by decide⟩
   ·rw[List.mem_singleton.1 ht];exact hdb.ok (by omega)
  ·rcases List.mem_cons.1 ht with rfl | ht
   ·exact fun v hv=>absurd hv (fun h=>h)
   ·rw[List.mem_singleton.1 ht];exact hdb.low
 refine ifd (fun h12=>?_) (fun h12=>?_)
 ·refine cOw (aI hc3.at 8) fun v μ4 h4 hle4 hap4 hR => ?_
  obtain⟨e4,hc4,k4,rfl,hk4,hk48,_⟩:=hR
  obtain rfl:=e4.symm
  have hk48:=hk48 (by decide)
  refine aC (by decide) ?_
  refine nEq (x:=((k4 / 7:Nat):Int)) (by show IntKind.i64.wrap (Int.tdiv (k4:Int) 7)=_;rw[Int.tdiv_eq_ediv_of_nonneg (by omega),aA (by omega) (by omega)];simp) ?_
  have w_:k4 / 7=0∨k4 / 7=1:=by omega
  rcases w_ with e7|e7
  all_goals
   rw[e7]
   refine cGv (bC (a:=(none,0,0)) (b:=(none,0,0))) ?_
   refine rPl ⟨hc3.trans hc4,.mk _ ⟨#[]⟩ ([].map T.tm) [],bY (Rep.nilSl 4) (Rep.nilSl 4),dQ (eT (by decide) (by decide) (fun h=>absurd h (by decide)) (fun h=>absurd h (by decide)) (fun _=>rfl) (fun h=>absurd h (by decide)) (fun t ht=>by cases ht)) (by decide) (fun t ht=>by cases ht)⟩
 ·intro rs
  refine aS [3] fun μ4 hle4 hno4 hat4=>?_
  refine bM (bC (k:=3) (a:=(some ⟨rs,0,none⟩,2,2)) (b:=(none,0,0))) fun v8 μ8 hle8 hR8=>?_
  obtain⟨rfl,rfl⟩:=hR8
  refine rPl ⟨(hc3.mono hle4),.mk 3 ⟨#[]⟩ ([ta,tb].map T.tm) [],bY (Rows.sl hat4 (.cons (hra.mono ((hle2.trans hle3).trans hle4)) (Tm.d_n _) (Rows.one (hrb.mono (hle3.trans hle4)) (Tm.d_n _))) (by show 2≤_;decide)) (Rep.nilSl 4),dQ (eT (by decide) (by decide) (fun _=>rfl) (fun h=>absurd h (by decide)) (fun h=>absurd h (by decide)) (fun h=>absurd h (by decide)) (fun t ht=>?_)) (by decide) (fun t ht=>?_)⟩
  ·rcases List.mem_cons.1 ht with rfl | ht
   ·exact hda.ok (by omega)
   ·rw[List.mem_singleton.1 ht];exact hdb.ok (by omega)
  ·rcases List.mem_cons.1 ht with rfl | ht
   ·exact hda.low
   ·rw[List.mem_singleton.1 ht];exact hdb.low
end
end Go.Vx
namespace Go.Vx
open Go.Proofs Classical
theorem RowO.ownA{h:Mem}{r cap:Nat}{ty:TypeId}{es:Nat}{xs:List Value}{k:Nat}{x:Value}(hr:RowO h r cap ty es xs)(hx:xs[k]? =some x){ad:Addr}(ha:ad=⟨r,k*es,none⟩):∀i v,(aD x)[i]? =some v→h.cell (ad.add i)=some v:=fun i v hi=>by
 subst ha
 rw[Addr.add_lit']
 exact hr.cell hx hi
theorem RelsO.cur{μ h h':Mem}{r rb cap:Nat}{sg:Sig}{xs:List Value}(k:RelsO h rb cap sg xs)(hne:rb≠r)(hc:Cur μ h r h'):RelsO h' rb cap sg xs:=by
 obtain⟨o,_,rfl⟩:=hc.ex
 exact⟨k.row.set_ne hne,k.len,k.at_⟩
theorem tP{s:ByteArray}{ts:List T}(hs:iJ s)(hl:ts.length≤4)(hok:∀t∈ts,t.ok):TopOk (.mk 9 s (ts.map T.tm) []) where
 tm:=fun t ht=>by
  have w_:=List.mem_map.1 ht
  obtain⟨x,hx,rfl⟩:=w_
  exact(hok x hx).tm
 k0:=by show(0:Int)≤9;decide
 k1:=by show(9:Int)≤10;decide
 nm:=fun h=>absurd rfl h
 rel:=fun _=>hs
 ln9:=fun _=>by show(ts.map T.tm).length≤4;rw[List.length_map];exact hl
 ln2:=fun h=>by have h:(9:Int)=2∨(9:Int)=3∨(9:Int)=6:=h;omega
 ln1:=fun h=>by have h:(9:Int)=4∨(9:Int)=5:=h;omega
 ln0:=fun h=>by have h:(9:Int)=0∨(9:Int)=1∨(9:Int)=7∨(9:Int)=8∨(9:Int)=10:=h;omega
 gl:=Nat.zero_le _
 gl0:=fun _=>rfl
 gl1:=fun h=>by have h:(9:Int)=10:=h;omega
 sy:=fun h=>by have h:(9:Int)=6:=h;omega
 cl:=fun h=>by have h:(9:Int)=10:=h;omega
def qAt(sg:Sig)(n:Nat)(mode:Int)(calls:Nat)(h:Mem)(r:Nat)(v:Value)(μ' h':Mem):Prop:=Cur μ' h r h'∧∃gs:List Gl,gs.length≤2+calls∧(∀g∈gs,Dr sg n mode 2 1 g)∧RepV μ' (Gl.mk 7 ⟨#[]⟩ [] gs).d v
section
variable {μ:Mem}
set_option maxHeartbeats 2000000 in
theorem dH{h:Mem}{r rb cap:Nat}{sg:Sig}{xs:List Value}(hc:Cur μ h r h)(hrel:RelsO h rb cap sg xs)(hne:rb≠r)(hsg:SigOk sg)(n:Nat)(hn:n≤8)(calls:Nat)(hcalls:calls≤2)(mode:Int):
  SpecH Tryz.prog 126 [.pointer (some ⟨r,0,none⟩),.slice (some ⟨rb,0,none⟩) sg.length cap,.int .i64 n,.int .i64 calls,.int .i64 mode] μ h fun v μ' h'=>qAt sg n mode calls h r v μ' h':=by
 refine SpecH.mk [] Tryz.func126 (by kernel_rfl) ?_
 intro r10 r11
 refine cOw (aI hc 2) fun v μ1 h1 hle1 hap1 hR=>?_
 obtain⟨e,hc1,k0,rfl,hk0,hk2,_⟩:=hR
 obtain rfl:=e.symm
 have hk2:=hk2 (by decide)
 refine aB (by omega) (by omega) ?_
 rw[show(1:Int)+(k0:Int)=((1+k0:Nat):Int)from by omega]
 refine aU (fun z:Nat×List Gl×(List Value×Option Nat×Nat)×Mem×Mem=>z.1≤2∧z.2.1.length+z.1≤2∧(∀g∈z.2.1,Dr sg n mode 2 1 g)∧Rows z.2.2.2.1 4 (z.2.1.map Gl.d) z.2.2.1.1∧μ.Le z.2.2.2.1∧Cur z.2.2.2.1 h r z.2.2.2.2)
  (fun (k, _, (ys, b, c), μ', h') => ⟨[(0, .val (.pointer (some ⟨r, 0, none⟩))), (1, .val (.slice (some ⟨rb, 0, none⟩) sg.length cap)), (2, .val (.int .i64 n)), (3, .val (.int .i64 calls)), (4, .val (.int .i64 mode)), (10, .loc 0 r10 0), (11, .loc 1 r11 0), (12, .val (.int .i64 k))],
   [(0,some (.cells r10 [.val (.int .i64 0),.val (.string ⟨#[]⟩),.val (.slice none 0 0),.val (.slice none 0 0)] 61)),(1,some (.cells r11 [.val (.int .i64 7),.val (.string ⟨#[]⟩),.val (.slice none 0 0),.row 2 b ys.length c] 61)),(2,some (.row b c 61 4 ys))],3,μ',h'⟩) (fun z=>z.1)
  (1+k0,[],([],none,0),μ,h1) ⟨by dsimp only;omega,by simp only[List.length_nil];omega,(fun _ hg=>nomatch hg),Rows.nil,Mem.Le.refl _,hc1⟩ (fun(_,_,(_,_,_),_,_)=>⟨rfl,rfl⟩)
  ⟨⟨⟨_,rfl,.inl rfl⟩,⟨_,rfl,.inl rfl⟩,⟨_,rfl,.inl rfl⟩,⟨_,rfl,.inl rfl⟩,⟨_,rfl,.inl rfl⟩,⟨_,rfl,.inl rfl⟩,⟨_,rfl,.inl rfl⟩,⟨_,rfl,.inl rfl⟩,trivial⟩,⟨.inl rfl,.inr (.inr ⟨_,_,_,_,rfl,rfl,.inl rfl,.inl rfl,.inl rfl,.inr ⟨2,rfl,rfl,Nat.le_refl _⟩,trivial⟩),.inr (.inl ⟨_,_,rfl,Nat.le_refl _⟩),trivial⟩,rfl,rfl⟩ ?_
 clear hc1 hap1
 rintro⟨k,gs,⟨ys,b,c⟩,μ1,h1⟩ ⟨hk,hkl,hgs,hrows,hle,hc1⟩
 dsimp only at hk hkl hgs hrows hle hc1
 have hyl:=hrows.len
 rw[List.length_map]at hyl
 refine ifd (fun hlt=>?_) (fun hlt=>?_)
 ·refine cOw (nF hc1.at n hn (decide (mode = 0))) fun v μ2 h2 hle2 hap2 hR => ?_
  obtain⟨hc2,g,hrg,hdg⟩:=hR
  have w_:=Gl.invV hrg
  obtain⟨q,rfl⟩:=w_
  intro rg
  refine gIn ?_ ?_ fun b' c' hb'=>?_
  ·show(ys.length+1)*72≤_;omega
  ·exact Nat.le_trans (m:=100000000) (show ys.length+1≤_ by omega) (by decide)
  refine aB (by omega) (by omega) ⟨(k-1,gs++[g],(_,b',c'),μ2,h2),⟨by dsimp only;omega,by simp only[List.length_append,List.length_singleton];omega,?_,?_,hle.trans hle2,hc1.trans hc2⟩,by dsimp only;omega,⟨⟨rfl,rfl,rfl,rfl,rfl,rfl,rfl,?_,trivial⟩,⟨rfl,rfl,rfl,trivial⟩,rfl,rfl⟩⟩
  ·intro x hx
   rcases List.mem_append.1 hx with hx|hx
   ·exact hgs x hx
   ·rw[List.mem_singleton.1 hx];exact(hdg sg mode).mono (by decide) (by decide)
  ·dsimp only
   rw[List.map_append]
   exact(hrows.mono hle2).append (Rows.one hrg (Gl.d_n _))
  ·show some (SV.val (.int .i64 _)) = some (SV.val (.int .i64 _))
   congr 3;omega
 refine lIn (fun z:Nat×Nat×List Gl×(List Value×Option Nat×Nat)×(List Value×Option Nat×Nat)×Mem×Mem=>z.2.1≤calls∧(z.1=0∨(z.1=1∧z.2.1≤1)∨(z.1=2∧z.2.1=0))∧z.2.2.1.length+z.2.1≤2+calls∧(∀g∈z.2.2.1,Dr sg n mode 2 1 g)∧(∀μ9,z.2.2.2.2.2.1.Le μ9→(z.1≠0→RowAt μ9 z.2.2.2.2.1.2.1 z.2.2.2.2.1.2.2 4 z.2.2.2.2.1.1)→Rows μ9 4 (z.2.2.1.map Gl.d) z.2.2.2.1.1)∧z.2.2.2.1.1.length=z.2.2.1.length∧μ.Le z.2.2.2.2.2.1∧Cur z.2.2.2.2.2.1 h r z.2.2.2.2.2.2)
  (fun (pend, k, _, (ys, b, c), (ys5, b5, c5), μ', h') => ⟨[(0, .val (.pointer (some ⟨r, 0, none⟩))), (1, .val (.slice (some ⟨rb, 0, none⟩) sg.length cap)), (2, .val (.int .i64 n)), (3, .val (.int .i64 k)), (4, .val (.int .i64 mode)), (10, .loc 0 r10 0), (11, .loc 1 r11 0)],
   (0,some (.cells r10 [.val (.int .i64 0),.val (.string ⟨#[]⟩),.val (.slice none 0 0),.val (.slice none 0 0)] 61))::(1,some (.cells r11 [.val (.int .i64 7),.val (.string ⟨#[]⟩),.val (.slice none 0 0),.row 2 b ys.length c] 61))::(2,some (.row b c 61 4 ys))::
   (match pend with|0=>[]|1=>[(5,some (.row b5 c5 75 4 ys5))]|_=>[(8,some (.row b5 c5 75 4 ys5))]),(match pend with|0=>3|1=>6|_=>9),μ',h'⟩) (fun z=>z.2.1)
  (0,calls,gs,(ys,b,c),([],none,0),μ1,h1) ⟨Nat.le_refl _,.inl rfl,by dsimp only;omega,hgs,fun μ9 hle9 _=>hrows.mono hle9,hyl.symm,hle,hc1⟩ (fun(pend,_,_,(_,_,_),(_,_,_),_,_)=>match pend with|0=>⟨rfl,rfl⟩|1=>⟨rfl,rfl⟩|_+2=>⟨rfl,rfl⟩) ⟨⟨rfl,rfl,rfl,rfl,rfl,rfl,rfl,trivial⟩,⟨rfl,rfl,rfl,trivial⟩,rfl,rfl⟩ ?_
 clear hk hkl hgs hrows hle hc1 hyl hlt
 rintro⟨pend,k,gs,⟨ys,b,c⟩,⟨ysp,bp,cp⟩,μ1,h1⟩ ⟨hk,hpend,hkl,hgs,hP,hyl,hle,hc1⟩
 dsimp only at hk hpend hkl hgs hP hyl hle hc1
 have hsl:=hsg.max
 have hsp:=hsg.pos
 rcases hpend with rfl|⟨rfl,hk1⟩|⟨rfl,hk0⟩
 ·have hrows := hP μ1 (Mem.Le.refl _) (fun h => absurd rfl h)
  refine ifd (fun hlt=>?_) (fun hlt=>?_)
  ·refine cOw (aI hc1.at sg.length) fun v μ2 h2 hle2 hap2 hR => ?_
   obtain⟨e,hc2,j,rfl,hj,hj2,_⟩:=hR
   obtain rfl:=e.symm
   have hj2:=hj2 (by omega)
   have hc2:=hc1.trans hc2
   have hrel2:=hrel.cur hne hc2
   obtain⟨q,hq⟩:∃q,sg[j]? =some q:=⟨_,List.getElem?_eq_getElem (by omega)⟩
   have w_:=hrel2.at_ j q hq
   obtain⟨x,hx,lo,kk,s,b1,n1,c1,b2,n2,c2,rfl⟩:=w_
   have hqm:=List.mem_of_getElem? hq
   have har:=hsg.ar q hqm
   refine rX j rfl (by omega) ?_
   refine oIn [.string q.1,.int .i64 q.2,.int .i64 lo,.int .i64 kk,.string s,.slice b1 n1 c1,.slice b2 n2 c2] rfl (hrel2.row.ownA hx rfl) ?_
   intro r13 r14
   refine aU (fun z:Nat×List T×(List Value×Option Nat×Nat)×Mem×Mem=>(z.1:Int)≤q.2∧z.2.1.length=z.1∧(∀t∈z.2.1,Drawn 2 n t)∧Rows z.2.2.2.1 4 ((z.2.1.map T.tm).map Tm.d) z.2.2.1.1∧μ1.Le z.2.2.2.1∧Cur z.2.2.2.1 h r z.2.2.2.2)
    (fun (j', _, (ys5, b5, c5), μ', h') => ⟨[(0, .val (.pointer (some ⟨r, 0, none⟩))), (1, .val (.slice (some ⟨rb, 0, none⟩) sg.length cap)), (2, .val (.int .i64 n)), (3, .val (.int .i64 k)), (4, .val (.int .i64 mode)), (10, .loc 0 r10 0), (11, .loc 1 r11 0), (13, .loc 3 r13 0), (14, .loc 4 r14 0), (15, .val (.int .i64 j'))],
     [(0,some (.cells r10 [.val (.int .i64 0),.val (.string ⟨#[]⟩),.val (.slice none 0 0),.val (.slice none 0 0)] 61)),(1,some (.cells r11 [.val (.int .i64 7),.val (.string ⟨#[]⟩),.val (.slice none 0 0),.row 2 b ys.length c] 61)),(2,some (.row b c 61 4 ys)),
     (3,some (.cells r13 [.val (.string q.1),.val (.int .i64 q.2),.val (.int .i64 lo),.val (.int .i64 kk),.val (.string s),.val (.slice b1 n1 c1),.val (.slice b2 n2 c2)] 63)),(4,some (.cells r14 [.val (.int .i64 9),.val (.string q.1),.row 5 b5 ys5.length c5,.val (.slice none 0 0)] 61)),(5,some (.row b5 c5 75 4 ys5))],6,μ',h'⟩) (fun z=>4-z.1)
    (0,[],([],none,0),μ1,h2) ⟨har.1,rfl,(fun _ hg=>nomatch hg),Rows.nil,Mem.Le.refl _,hc2⟩ (fun(_,_,(_,_,_),_,_)=>⟨rfl,rfl⟩)
    ⟨⟨⟨_,rfl,.inl rfl⟩,⟨_,rfl,.inl rfl⟩,⟨_,rfl,.inl rfl⟩,⟨_,rfl,.inl rfl⟩,⟨_,rfl,.inl rfl⟩,⟨_,rfl,.inl rfl⟩,⟨_,rfl,.inl rfl⟩,⟨_,rfl,.inl rfl⟩,⟨_,rfl,.inl rfl⟩,⟨_,rfl,.inl rfl⟩,trivial⟩,⟨.inl rfl,.inl rfl,.inl rfl,.inl rfl,.inr (.inr ⟨_,_,_,_,rfl,rfl,.inl rfl,.inl rfl,.inr ⟨5,rfl,rfl,Nat.le_refl _⟩,.inl rfl,trivial⟩),.inr (.inl ⟨_,_,rfl,Nat.le_refl _⟩),trivial⟩,rfl,rfl⟩ ?_
   clear hc2 hrel2 hap2 hx
   rintro⟨j',ts,⟨ys5,b5,c5⟩,μ3,h3⟩ ⟨hj',htl,hts,hrows5,hle3,hc3⟩
   dsimp only at hj' htl hts hrows5 hle3 hc3
   have hyl5:=hrows5.len
   rw[List.length_map,List.length_map]at hyl5
   refine ifd (fun hja=>?_) (fun hja=>?_)
   ·refine iIn (fun _ => ?_) (fun h => absurd (of_decide_eq_false h) (fun h => h (by omega)))
    refine cOw (aI hc3.at 4) fun v μ4 h4 hle4 hap4 hR=>?_
    obtain⟨e,hc4,k4,rfl,hk4,hk44,_⟩:=hR
    obtain rfl:=e.symm
    have hk44:=hk44 (by decide)
    refine aC (by decide) ?_
    refine nEq (x:=((k4 / 3:Nat):Int)) (by show IntKind.i64.wrap (Int.tdiv (k4:Int) 3)=_;rw[Int.tdiv_eq_ediv_of_nonneg (by omega),aA (by omega) (by omega)];simp) ?_
    have drawn:∃size:Nat,size≤1000∧1+((k4 / 3:Nat):Int)*2=(size:Int)∧lvB size≤2:=by
     have w_:k4 / 3=0∨k4 / 3=1:=by omega
     rcases w_ with e|e
     ·exact⟨1,by decide,by rw[e];rfl,by rw[lvB,if_neg (by decide)];decide⟩
     ·exact⟨3,by decide,by rw[e];rfl,by rw[xA];decide⟩
    obtain⟨size,hs1,hs2,hs3⟩:=drawn
    refine aB (by omega) (by omega) (aB (by omega) (by omega) ?_)
    rw[hs2]
    refine cOw (cN n (by omega) size hs1 (hc3.trans hc4).at) fun v μ5 h5 hle5 hap5 hR=>?_
    obtain⟨hc5,t,hrt,hdt⟩:=hR
    have w_:=Tm.invV hrt
    obtain⟨pt,rfl⟩:=w_
    intro rt
    refine gIn ?_ ?_ fun b' c' hb'=>?_
    ·show(ys5.length+1)*56≤_;omega
    ·exact Nat.le_trans (m:=100000000) (show ys5.length+1≤_ by omega) (by decide)
    refine aB (by omega) (by omega) ⟨(j'+1,ts++[t],(_,b',c'),μ5,h5),⟨by dsimp only;omega,by simp only[List.length_append,List.length_singleton];omega,?_,?_,hle3.trans hle5,(hc3.trans hc4).trans hc5⟩,by dsimp only;omega,⟨⟨rfl,rfl,rfl,rfl,rfl,rfl,rfl,rfl,rfl,rfl,trivial⟩,⟨rfl,rfl,rfl,rfl,rfl,rfl,trivial⟩,rfl,rfl⟩⟩
    ·intro x hx
     rcases List.mem_append.1 hx with hx|hx
     ·exact hts x hx
     ·rw[List.mem_singleton.1 hx];exact hdt.mono hs3
    ·dsimp only
     rw[List.map_append,List.map_append]
     exact(hrows5.mono hle5).append (Rows.one hrt (Tm.d_n _))
   ·have hlen : (ts.length : Int) = q.2 := by omega
    have hdr:Dr sg n mode 1 1 (.mk 9 q.1 (ts.map T.tm) []):=Dr.leaf (tP (hsg.nm q hqm) (by omega) fun t ht=>(hts t ht).ok (by omega)) (by decide) (by decide) (by decide) (fun t ht=>(hts t ht).low) (fun _=>by rw[hlen];exact hqm)
    have fin:∀{μ6:Mem},μ3.Le μ6→RowAt μ6 b5 c5 4 ys5→RepV μ6 (Gl.mk 9 q.1 (ts.map T.tm) []).d (.agg #[.int .i64 9,.string q.1,.slice (b5.map fun r=>⟨r,0,none⟩) ys5.length c5,.slice none 0 0]):=fun hle6 hat=>
     bY (Rows.sl hat (hrows5.mono hle6) (Nat.le_trans (m:=1000) (by omega) (by decide))) (Rep.nilSl 4)
    refine ifd (fun hm2=>?_) (fun hm2=>?_)
    ·refine cOw (dF hc3.at 3) fun v μ4 h4 hle4 hap4 hR => ?_
     obtain⟨e,hc4,w,rfl⟩:=hR
     obtain rfl:=e.symm
     have hc4:=hc3.trans hc4
     refine mX [5] fun μ6 hle6 hno6 hat6=>⟨fun hb=>?_,fun hb=>?_⟩
     ·intro rs
      refine aS [6] fun μ7 hle7 hno7 hat7=>?_
      refine bM (bC (k:=10) (a:=(none,0,0)) (b:=(some ⟨rs,0,none⟩,1,1))) fun v8 μ8 hle8 hR8=>?_
      obtain⟨rfl,rfl⟩:=hR8
      have hrep:=bY (k:=10) (s:=⟨#[]⟩) (ts:=[]) (gs:=[.mk 9 q.1 (ts.map T.tm) []]) (Rep.nilSl 4) (Rows.sl hat7 (Rows.one ((fin hle6 hat6).mono hle7) (Gl.d_n _)) (by show 1≤_;decide))
      intro rg
      refine gIn ?_ ?_ fun b' c' hb'=>?_
      ·show(ys.length+1)*72≤_;omega
      ·exact Nat.le_trans (m:=100000000) (show ys.length+1≤_ by omega) (by decide)
      refine aB (by omega) (by omega) ⟨(0,k-1,gs++[(.mk 10 ⟨#[]⟩ [] [.mk 9 q.1 (ts.map T.tm) []])],(_,b',c'),([],none,0),_,_),⟨by dsimp only;omega,by dsimp only;omega,by simp only[List.length_append,List.length_singleton];omega,?_,?_,by simp only[List.length_append,List.length_singleton];omega,hle.trans (((hle3.trans hle6).trans hle7)),((hc4.mono hle6).mono hle7)⟩,by dsimp only;omega,⟨⟨rfl,rfl,rfl,?_,rfl,rfl,rfl,trivial⟩,⟨rfl,rfl,rfl,trivial⟩,rfl,rfl⟩⟩
      ·intro x hx
       rcases List.mem_append.1 hx with hx|hx
       ·exact hgs x hx
       ·rw[List.mem_singleton.1 hx];exact(hdr.neg rfl (by omega))
      ·intro μ9 hle9 hat9
       dsimp only at hle9 hat9 ⊢
       rw[List.map_append]
       exact(hrows.mono ((((hle3.trans hle6).trans hle7)).trans hle9)).append (Rows.one ((hrep.mono hle9)) (Gl.d_n _))
      ·show some (SV.val (.int .i64 _)) = some (SV.val (.int .i64 _))
       congr 3;omega
     ·intro rg
      refine gIn ?_ ?_ fun b' c' hb'=>?_
      ·show(ys.length+1)*72≤_;omega
      ·exact Nat.le_trans (m:=100000000) (show ys.length+1≤_ by omega) (by decide)
      refine aB (by omega) (by omega) ⟨(0,k-1,gs++[(.mk 9 q.1 (ts.map T.tm) [])],(_,b',c'),([],none,0),_,_),⟨by dsimp only;omega,by dsimp only;omega,by simp only[List.length_append,List.length_singleton];omega,?_,?_,by simp only[List.length_append,List.length_singleton];omega,hle.trans ((hle3.trans hle6)),(hc4.mono hle6)⟩,by dsimp only;omega,⟨⟨rfl,rfl,rfl,?_,rfl,rfl,rfl,trivial⟩,⟨rfl,rfl,rfl,trivial⟩,rfl,rfl⟩⟩
      ·intro x hx
       rcases List.mem_append.1 hx with hx|hx
       ·exact hgs x hx
       ·rw[List.mem_singleton.1 hx];exact(hdr.mono (by decide) (by decide))
      ·intro μ9 hle9 hat9
       dsimp only at hle9 hat9 ⊢
       rw[List.map_append]
       exact(hrows.mono (((hle3.trans hle6)).trans hle9)).append (Rows.one (((fin hle6 hat6).mono hle9)) (Gl.d_n _))
      ·show some (SV.val (.int .i64 _)) = some (SV.val (.int .i64 _))
       congr 3;omega
    ·intro rg
     refine gIn ?_ ?_ fun b' c' hb'=>?_
     ·show(ys.length+1)*72≤_;omega
     ·exact Nat.le_trans (m:=100000000) (show ys.length+1≤_ by omega) (by decide)
     refine aB (by omega) (by omega) ⟨(1,k-1,gs++[(.mk 9 q.1 (ts.map T.tm) [])],(_,b',c'),(ys5,b5,c5),_,_),⟨by dsimp only;omega,by dsimp only;omega,by simp only[List.length_append,List.length_singleton];omega,?_,?_,by simp only[List.length_append,List.length_singleton];omega,hle.trans (hle3),hc3⟩,by dsimp only;omega,⟨⟨rfl,rfl,rfl,?_,rfl,rfl,rfl,trivial⟩,⟨rfl,rfl,rfl,rfl,trivial⟩,rfl,rfl⟩⟩
     ·intro x hx
      rcases List.mem_append.1 hx with hx|hx
      ·exact hgs x hx
      ·rw[List.mem_singleton.1 hx];exact(hdr.mono (by decide) (by decide))
     ·intro μ9 hle9 hat9
      dsimp only at hle9 hat9 ⊢
      rw[List.map_append]
      exact(hrows.mono ((hle3).trans hle9)).append (Rows.one ((fin hle9 (hat9 (by decide)))) (Gl.d_n _))
     ·show some (SV.val (.int .i64 _)) = some (SV.val (.int .i64 _))
      congr 3;omega
  ·refine rFz [2] fun μ4 hle4 hno4 hat4 => .inl ⟨(hc1).mono hle4, gs, by omega, hgs, ?_⟩
   exact bY (ts:=[]) (Rep.nilSl 4) (Rows.sl hat4 (hrows.mono hle4) (Nat.le_trans (m:=1000) (by omega) (by decide)))
 ·refine mX [5] fun μ0 hle0 hno0 hat0 => ?_
  have hrows:=hP μ0 hle0 (fun _=>hat0)
  have hle:=hle.trans hle0
  have hc1:=hc1.mono hle0
  refine⟨fun hlt=>?_,fun hlt=>?_⟩
  ·have hlt := of_decide_eq_true hlt
   refine cOw (aI hc1.at sg.length) fun v μ2 h2 hle2 hap2 hR=>?_
   obtain⟨e,hc2,j,rfl,hj,hj2,_⟩:=hR
   obtain rfl:=e.symm
   have hj2:=hj2 (by omega)
   have hc2:=hc1.trans hc2
   have hrel2:=hrel.cur hne hc2
   obtain⟨q,hq⟩:∃q,sg[j]? =some q:=⟨_,List.getElem?_eq_getElem (by omega)⟩
   have w_:=hrel2.at_ j q hq
   obtain⟨x,hx,lo,kk,s,b1,n1,c1,b2,n2,c2,rfl⟩:=w_
   have hqm:=List.mem_of_getElem? hq
   have har:=hsg.ar q hqm
   refine rX j rfl (by omega) ?_
   refine oIn [.string q.1,.int .i64 q.2,.int .i64 lo,.int .i64 kk,.string s,.slice b1 n1 c1,.slice b2 n2 c2] rfl (hrel2.row.ownA hx rfl) ?_
   intro r13 r14
   refine aU (fun z:Nat×List T×(List Value×Option Nat×Nat)×Mem×Mem=>(z.1:Int)≤q.2∧z.2.1.length=z.1∧(∀t∈z.2.1,Drawn 2 n t)∧Rows z.2.2.2.1 4 ((z.2.1.map T.tm).map Tm.d) z.2.2.1.1∧μ0.Le z.2.2.2.1∧Cur z.2.2.2.1 h r z.2.2.2.2)
    (fun (j', _, (ys5, b5, c5), μ', h') => ⟨[(0, .val (.pointer (some ⟨r, 0, none⟩))), (1, .val (.slice (some ⟨rb, 0, none⟩) sg.length cap)), (2, .val (.int .i64 n)), (3, .val (.int .i64 k)), (4, .val (.int .i64 mode)), (10, .loc 0 r10 0), (11, .loc 1 r11 0), (13, .loc 6 r13 0), (14, .loc 7 r14 0), (15, .val (.int .i64 j'))],
     [(0,some (.cells r10 [.val (.int .i64 0),.val (.string ⟨#[]⟩),.val (.slice none 0 0),.val (.slice none 0 0)] 61)),(1,some (.cells r11 [.val (.int .i64 7),.val (.string ⟨#[]⟩),.val (.slice none 0 0),.row 2 b ys.length c] 61)),(2,some (.row b c 61 4 ys)),
     (6,some (.cells r13 [.val (.string q.1),.val (.int .i64 q.2),.val (.int .i64 lo),.val (.int .i64 kk),.val (.string s),.val (.slice b1 n1 c1),.val (.slice b2 n2 c2)] 63)),(7,some (.cells r14 [.val (.int .i64 9),.val (.string q.1),.row 8 b5 ys5.length c5,.val (.slice none 0 0)] 61)),(8,some (.row b5 c5 75 4 ys5))],9,μ',h'⟩) (fun z=>4-z.1)
    (0,[],([],none,0),μ0,h2) ⟨har.1,rfl,(fun _ hg=>nomatch hg),Rows.nil,Mem.Le.refl _,hc2⟩ (fun(_,_,(_,_,_),_,_)=>⟨rfl,rfl⟩)
    ⟨⟨⟨_,rfl,.inl rfl⟩,⟨_,rfl,.inl rfl⟩,⟨_,rfl,.inl rfl⟩,⟨_,rfl,.inl rfl⟩,⟨_,rfl,.inl rfl⟩,⟨_,rfl,.inl rfl⟩,⟨_,rfl,.inl rfl⟩,⟨_,rfl,.inl rfl⟩,⟨_,rfl,.inl rfl⟩,⟨_,rfl,.inl rfl⟩,trivial⟩,⟨.inl rfl,.inl rfl,.inl rfl,.inl rfl,.inr (.inr ⟨_,_,_,_,rfl,rfl,.inl rfl,.inl rfl,.inr ⟨8,rfl,rfl,Nat.le_refl _⟩,.inl rfl,trivial⟩),.inr (.inl ⟨_,_,rfl,Nat.le_refl _⟩),trivial⟩,rfl,rfl⟩ ?_
   clear hc2 hrel2 hap2 hx
   rintro⟨j',ts,⟨ys5,b5,c5⟩,μ3,h3⟩ ⟨hj',htl,hts,hrows5,hle3,hc3⟩
   dsimp only at hj' htl hts hrows5 hle3 hc3
   have hyl5:=hrows5.len
   rw[List.length_map,List.length_map]at hyl5
   refine ifd (fun hja=>?_) (fun hja=>?_)
   ·refine iIn (fun _ => ?_) (fun h => absurd (of_decide_eq_false h) (fun h => h (by omega)))
    refine cOw (aI hc3.at 4) fun v μ4 h4 hle4 hap4 hR=>?_
    obtain⟨e,hc4,k4,rfl,hk4,hk44,_⟩:=hR
    obtain rfl:=e.symm
    have hk44:=hk44 (by decide)
    refine aC (by decide) ?_
    refine nEq (x:=((k4 / 3:Nat):Int)) (by show IntKind.i64.wrap (Int.tdiv (k4:Int) 3)=_;rw[Int.tdiv_eq_ediv_of_nonneg (by omega),aA (by omega) (by omega)];simp) ?_
    have drawn:∃size:Nat,size≤1000∧1+((k4 / 3:Nat):Int)*2=(size:Int)∧lvB size≤2:=by
     have w_:k4 / 3=0∨k4 / 3=1:=by omega
     rcases w_ with e|e
     ·exact⟨1,by decide,by rw[e];rfl,by rw[lvB,if_neg (by decide)];decide⟩
     ·exact⟨3,by decide,by rw[e];rfl,by rw[xA];decide⟩
    obtain⟨size,hs1,hs2,hs3⟩:=drawn
    refine aB (by omega) (by omega) (aB (by omega) (by omega) ?_)
    rw[hs2]
    refine cOw (cN n (by omega) size hs1 (hc3.trans hc4).at) fun v μ5 h5 hle5 hap5 hR=>?_
    obtain⟨hc5,t,hrt,hdt⟩:=hR
    have w_:=Tm.invV hrt
    obtain⟨pt,rfl⟩:=w_
    intro rt
    refine gIn ?_ ?_ fun b' c' hb'=>?_
    ·show(ys5.length+1)*56≤_;omega
    ·exact Nat.le_trans (m:=100000000) (show ys5.length+1≤_ by omega) (by decide)
    refine aB (by omega) (by omega) ⟨(j'+1,ts++[t],(_,b',c'),μ5,h5),⟨by dsimp only;omega,by simp only[List.length_append,List.length_singleton];omega,?_,?_,hle3.trans hle5,(hc3.trans hc4).trans hc5⟩,by dsimp only;omega,⟨⟨rfl,rfl,rfl,rfl,rfl,rfl,rfl,rfl,rfl,rfl,trivial⟩,⟨rfl,rfl,rfl,rfl,rfl,rfl,trivial⟩,rfl,rfl⟩⟩
    ·intro x hx
     rcases List.mem_append.1 hx with hx|hx
     ·exact hts x hx
     ·rw[List.mem_singleton.1 hx];exact hdt.mono hs3
    ·dsimp only
     rw[List.map_append,List.map_append]
     exact(hrows5.mono hle5).append (Rows.one hrt (Tm.d_n _))
   ·have hlen : (ts.length : Int) = q.2 := by omega
    have hdr:Dr sg n mode 1 1 (.mk 9 q.1 (ts.map T.tm) []):=Dr.leaf (tP (hsg.nm q hqm) (by omega) fun t ht=>(hts t ht).ok (by omega)) (by decide) (by decide) (by decide) (fun t ht=>(hts t ht).low) (fun _=>by rw[hlen];exact hqm)
    have fin:∀{μ6:Mem},μ3.Le μ6→RowAt μ6 b5 c5 4 ys5→RepV μ6 (Gl.mk 9 q.1 (ts.map T.tm) []).d (.agg #[.int .i64 9,.string q.1,.slice (b5.map fun r=>⟨r,0,none⟩) ys5.length c5,.slice none 0 0]):=fun hle6 hat=>
     bY (Rows.sl hat (hrows5.mono hle6) (Nat.le_trans (m:=1000) (by omega) (by decide))) (Rep.nilSl 4)
    refine ifd (fun hm2=>?_) (fun hm2=>?_)
    ·refine cOw (dF hc3.at 3) fun v μ4 h4 hle4 hap4 hR => ?_
     obtain⟨e,hc4,w,rfl⟩:=hR
     obtain rfl:=e.symm
     have hc4:=hc3.trans hc4
     refine mX [8] fun μ6 hle6 hno6 hat6=>⟨fun hb=>?_,fun hb=>?_⟩
     ·intro rs
      refine aS [9] fun μ7 hle7 hno7 hat7=>?_
      refine bM (bC (k:=10) (a:=(none,0,0)) (b:=(some ⟨rs,0,none⟩,1,1))) fun v8 μ8 hle8 hR8=>?_
      obtain⟨rfl,rfl⟩:=hR8
      have hrep:=bY (k:=10) (s:=⟨#[]⟩) (ts:=[]) (gs:=[.mk 9 q.1 (ts.map T.tm) []]) (Rep.nilSl 4) (Rows.sl hat7 (Rows.one ((fin hle6 hat6).mono hle7) (Gl.d_n _)) (by show 1≤_;decide))
      intro rg
      refine gIn ?_ ?_ fun b' c' hb'=>?_
      ·show(ys.length+1)*72≤_;omega
      ·exact Nat.le_trans (m:=100000000) (show ys.length+1≤_ by omega) (by decide)
      refine aB (by omega) (by omega) ⟨(0,k-1,gs++[(.mk 10 ⟨#[]⟩ [] [.mk 9 q.1 (ts.map T.tm) []])],(_,b',c'),([],none,0),_,_),⟨by dsimp only;omega,by dsimp only;omega,by simp only[List.length_append,List.length_singleton];omega,?_,?_,by simp only[List.length_append,List.length_singleton];omega,hle.trans (((hle3.trans hle6).trans hle7)),((hc4.mono hle6).mono hle7)⟩,by dsimp only;omega,⟨⟨rfl,rfl,rfl,?_,rfl,rfl,rfl,trivial⟩,⟨rfl,rfl,rfl,trivial⟩,rfl,rfl⟩⟩
      ·intro x hx
       rcases List.mem_append.1 hx with hx|hx
       ·exact hgs x hx
       ·rw[List.mem_singleton.1 hx];exact(hdr.neg rfl (by omega))
      ·intro μ9 hle9 hat9
       dsimp only at hle9 hat9 ⊢
       rw[List.map_append]
       exact(hrows.mono ((((hle3.trans hle6).trans hle7)).trans hle9)).append (Rows.one ((hrep.mono hle9)) (Gl.d_n _))
      ·show some (SV.val (.int .i64 _)) = some (SV.val (.int .i64 _))
       congr 3;omega
     ·intro rg
      refine gIn ?_ ?_ fun b' c' hb'=>?_
      ·show(ys.length+1)*72≤_;omega
      ·exact Nat.le_trans (m:=100000000) (show ys.length+1≤_ by omega) (by decide)
      refine aB (by omega) (by omega) ⟨(0,k-1,gs++[(.mk 9 q.1 (ts.map T.tm) [])],(_,b',c'),([],none,0),_,_),⟨by dsimp only;omega,by dsimp only;omega,by simp only[List.length_append,List.length_singleton];omega,?_,?_,by simp only[List.length_append,List.length_singleton];omega,hle.trans ((hle3.trans hle6)),(hc4.mono hle6)⟩,by dsimp only;omega,⟨⟨rfl,rfl,rfl,?_,rfl,rfl,rfl,trivial⟩,⟨rfl,rfl,rfl,trivial⟩,rfl,rfl⟩⟩
      ·intro x hx
       rcases List.mem_append.1 hx with hx|hx
       ·exact hgs x hx
       ·rw[List.mem_singleton.1 hx];exact(hdr.mono (by decide) (by decide))
      ·intro μ9 hle9 hat9
       dsimp only at hle9 hat9 ⊢
       rw[List.map_append]
       exact(hrows.mono (((hle3.trans hle6)).trans hle9)).append (Rows.one (((fin hle6 hat6).mono hle9)) (Gl.d_n _))
      ·show some (SV.val (.int .i64 _)) = some (SV.val (.int .i64 _))
       congr 3;omega
    ·intro rg
     refine gIn ?_ ?_ fun b' c' hb'=>?_
     ·show(ys.length+1)*72≤_;omega
     ·exact Nat.le_trans (m:=100000000) (show ys.length+1≤_ by omega) (by decide)
     refine aB (by omega) (by omega) ⟨(2,k-1,gs++[(.mk 9 q.1 (ts.map T.tm) [])],(_,b',c'),(ys5,b5,c5),_,_),⟨by dsimp only;omega,by dsimp only;omega,by simp only[List.length_append,List.length_singleton];omega,?_,?_,by simp only[List.length_append,List.length_singleton];omega,hle.trans (hle3),hc3⟩,by dsimp only;omega,⟨⟨rfl,rfl,rfl,?_,rfl,rfl,rfl,trivial⟩,⟨rfl,rfl,rfl,rfl,trivial⟩,rfl,rfl⟩⟩
     ·intro x hx
      rcases List.mem_append.1 hx with hx|hx
      ·exact hgs x hx
      ·rw[List.mem_singleton.1 hx];exact(hdr.mono (by decide) (by decide))
     ·intro μ9 hle9 hat9
      dsimp only at hle9 hat9 ⊢
      rw[List.map_append]
      exact(hrows.mono ((hle3).trans hle9)).append (Rows.one ((fin hle9 (hat9 (by decide)))) (Gl.d_n _))
     ·show some (SV.val (.int .i64 _)) = some (SV.val (.int .i64 _))
      congr 3;omega
  ·refine rFz [2] fun μ4 hle4 hno4 hat4 => .inl ⟨(hc1).mono hle4, gs, by omega, hgs, ?_⟩
   exact bY (ts:=[]) (Rep.nilSl 4) (Rows.sl hat4 (hrows.mono hle4) (Nat.le_trans (m:=1000) (by omega) (by decide)))
 ·refine mX [8] fun μ0 hle0 hno0 hat0 => ?_
  have hrows:=hP μ0 hle0 (fun _=>hat0)
  have hle:=hle.trans hle0
  have hc1:=hc1.mono hle0
  refine⟨fun hlt=>absurd (of_decide_eq_true hlt) (by omega),fun hlt=>?_⟩
  ·refine rFz [2] fun μ4 hle4 hno4 hat4 => .inl ⟨(hc1).mono hle4, gs, by omega, hgs, ?_⟩
   exact bY (ts:=[]) (Rep.nilSl 4) (Rows.sl hat4 (hrows.mono hle4) (Nat.le_trans (m:=1000) (by omega) (by decide)))
end
end Go.Vx
namespace Go.Vx
open Go.Proofs Classical
def lD(q:Tr):Value:= .agg #[.string q.1,.int .i64 q.2.1,.int .i64 q.2.2,.int .i64 0,.string ⟨#[]⟩,.slice none 0 0,.slice none 0 0]
theorem Cur.ne{μ h:Mem}{r rb:Nat}(hc:Cur μ h r h)(hn:h rb=none):rb≠r:=fun e=>by
 obtain⟨o,_,h2⟩:=hc.ex
 rw[h2,e,Mem.set_at]at hn
 cases hn
theorem RowGiven.rowO{h h':Mem}{rb cap:Nat}{ty:TypeId}{es:Nat}{xs:List Value}(k:RowGiven h h' (some rb) cap ty es xs):h rb=none∧RowO h' rb cap ty es xs∧∃o,h'=h.set rb o:=by
 obtain⟨h1,h2,h3,h4,cs,rfl,h5,h6⟩:=k
 exact⟨h1,⟨cs,Mem.set_at _ _ _,h2,h3,h4,h5,h6⟩,_,rfl⟩
theorem Trs.sig{qs:List Tr}(h:Trs qs)(h1:1≤qs.length)(h3:qs.length≤3):SigOk (sgT qs) where
 pos:=by rw[sgT,List.length_map];exact h1
 max:=by rw[sgT,List.length_map];exact h3
 nm:=fun q hq=>by
  have w_:=List.mem_map.1 hq
  obtain⟨t,ht,rfl⟩:=w_
  have w_:=List.getElem?_of_mem ht
  obtain⟨j,hj⟩:=w_
  have:=(List.getElem?_eq_some_iff.1 hj).1
  rw[h.nm j t hj]
  exact qIt (by omega)
 ar:=fun q hq=>by
  have w_:=List.mem_map.1 hq
  obtain⟨t,ht,rfl⟩:=w_
  have:=h.ar t ht
  exact⟨by dsimp only;omega,by dsimp only;omega⟩
theorem qKp(q:Tr):RelV (q.1,q.2.1) (lD q):=⟨q.2.2,0,⟨#[]⟩,none,0,0,none,0,0,rfl⟩
theorem fI{μ h h':Mem}{r r5 cap:Nat}{ty:TypeId}{es:Nat}{xs:List Value}(k:RowO h r5 cap ty es xs)(hne:r5≠r)(hc:Cur μ h r h'):RowO h' r5 cap ty es xs:=by
 obtain⟨o,_,rfl⟩:=hc.ex
 exact k.set_ne hne
theorem iC{μ g h h':Mem}{r:Nat}(k:g.Le h)(hr:g r=none)(hc:Cur μ h r h'):g.Le h':=by
 obtain⟨o,_,rfl⟩:=hc.ex
 exact eD k hr
theorem RowO.alone{h g:Mem}{r cap:Nat}{ty:TypeId}{es:Nat}{xs:List Value}(k:RowO h r cap ty es xs):∃o,h r=some o∧RowO (g.set r o) r cap ty es xs:=by
 obtain⟨cs,h1,h2⟩:=k
 exact⟨_,h1,cs,Mem.set_at _ _ _,h2⟩
section
variable {μ:Mem}
set_option maxHeartbeats 2000000 in
theorem gK{h:Mem}{r:Nat}(hc:Cur μ h r h)(mode:Int):
  SpecH Tryz.prog 55 [.pointer (some ⟨r,0,none⟩),.int .i64 mode] μ h fun v μ' _=>∃l,DrP mode l∧RepV μ' (Pg.mk l).d v:=by
 refine SpecH.mk [56] Tryz.func55 (by kernel_rfl) ?_
 intro r4 r5_ rn
 refine aS [2] fun μ0 hle0 hno0 hat0=>lC (aI (hc.mono hle0) 3) fun v μ1 h1 hle1 hap1 hR=>?_
 obtain⟨e,hc1,k0,rfl,-,hk3,-⟩:=hR
 obtain rfl:=e.symm
 have hk3:=hk3 (by decide)
 have kn:=Rows.sl hat0 (Nm.rows ([[112],[113],[114]].map mkS)) (by decide)
 have w_:=Rep.sl kn
 obtain⟨bz,cz,ez,hsz⟩:=w_
 have w_:=Value.slice.inj ez
 obtain⟨e1,e2,_⟩:=w_
 rw[List.length_map,List.length_map,←e1]at hsz
 have hsz:Sl μ0 1 (some ⟨rn,0,none⟩) 3 (([[112],[113],[114]].map mkS).map D.s):=hsz
 have hhd:=hsz.headL (c:=3) (i:=1+k0) (by omega)
 rw[←List.map_take]at hhd
 refine aB (by omega) (by omega) ?_
 refine aG 0 (1+k0) rfl (by omega) (by omega) (by omega) ?_
 refine aU (fun z:Nat×List Tr×(List Value×Option Nat×Nat)×Mem×Mem=>z.1≤1+k0∧z.2.1.length=z.1∧Trs z.2.1∧z.2.2.1.1=z.2.1.map lD∧(z.2.2.1.2.1=none→z.2.2.1.1=[])∧μ0.Le z.2.2.2.1∧Cur z.2.2.2.1 h r z.2.2.2.2)
  (fun (i, _, (ys, b, c), μ', h') => ⟨[(0, .val (.pointer (some ⟨r, 0, none⟩))), (1, .val (.int .i64 mode)), (4, .loc 0 r4 0), (5, .loc 1 r5_ 0), (18, .val (.slice (if 3 = 0 then some ⟨rn, 0, none⟩ else (some (⟨rn, 0, none⟩ : Addr)).map (·.add (0 * 1))) (1 + k0 - 0) 3)), (19, .val (.int .i64 ((1 + k0 - 0 : Nat) : Int))), (20, .val (.int .i64 i))],
   [(0,some (.cells r4 [.val (.slice none 0 0)] 25)),(1,some (.cells r5_ [.row 3 b ys.length c] 25)),(3,some (.row b c 63 7 ys))],4,μ',h'⟩) (fun z=>1+k0-z.1)
  (0,[],([],none,0),μ0,h1) ⟨Nat.zero_le _,rfl,⟨(fun _ _ h=>nomatch h),(fun _ h=>nomatch h),(fun _ h=>nomatch h)⟩,rfl,fun _=>rfl,Mem.Le.refl _,hc1⟩ (fun(_,_,(_,_,_),_,_)=>⟨rfl,rfl⟩)
  ⟨⟨⟨_,rfl,.inl rfl⟩,⟨_,rfl,.inl rfl⟩,⟨_,rfl,.inl rfl⟩,⟨_,rfl,.inl rfl⟩,⟨_,rfl,.inl rfl⟩,⟨_,rfl,.inl rfl⟩,⟨_,rfl,.inl rfl⟩,trivial⟩,⟨.inl rfl,.inr (.inr ⟨_,_,_,_,rfl,rfl,.inr ⟨3,rfl,rfl,Nat.le_refl _⟩,trivial⟩),.inr (.inl ⟨_,_,rfl,Nat.le_refl _⟩),trivial⟩,rfl,rfl⟩ ?_
 clear hc1 hap1
 rintro⟨i,qs,⟨ys,b,c⟩,μ1,h1⟩ ⟨hi,hql,hT,hys,hbn,hle,hc1⟩
 dsimp only at hi hql hT hys hbn hle hc1
 have hyl:ys.length=qs.length:=by rw[hys,List.length_map]
 refine ifd (fun hlt=>?_) (fun hlt=>?_)
 ·have hi3 : i < 3 := by omega
  have w_:i=0∨i=1∨i=2:=by omega
  have hnm:=Nm.elem (s:=nmI i) (hhd.mono hle) (i:=i) (by
   rw[List.getElem?_take,if_pos (by omega)]
   rcases w_ with rfl|rfl|rfl<;>rfl)
  obtain⟨ad,hel⟩:=hnm
  refine eIn hel ?_
  refine cOw (aI hc1.at 2) fun v μ2 h2 hle2 hap2 hR=>?_
  obtain⟨e,hc2,ka,rfl,-,hka,-⟩:=hR
  obtain rfl:=e.symm
  have hka:=hka (by decide)
  refine aB (by omega) (by omega) ?_
  refine cOw (aI (hc1.trans hc2).at 2) fun v μ2 h3 hle3 hap3 hR=>?_
  obtain⟨e,hc3,kl,rfl,-,hkl,-⟩:=hR
  obtain rfl:=e.symm
  have hkl:=hkl (by decide)
  intro rs
  refine gIn ?_ ?_ fun b' c' hb'=>?_
  ·show(ys.length+1)*104≤_;omega
  ·exact Nat.le_trans (m:=100000000) (show ys.length+1≤_ by omega) (by decide)
  refine aB (by omega) (by omega) ⟨(i+1,qs++[(nmI i,1+(ka:Int),(kl:Int))],(_,b',c'),μ1,h3),⟨by dsimp only;omega,by simp only[List.length_append,List.length_singleton];omega,⟨fun j q hq=>?_,fun q hq=>?_,fun q hq=>?_⟩,?_,fun e=>absurd (hb' e) (by simp),hle,(hc1.trans hc2).trans hc3⟩,by dsimp only;omega,⟨⟨rfl,rfl,rfl,rfl,rfl,rfl,rfl,trivial⟩,⟨rfl,rfl,rfl,trivial⟩,rfl,rfl⟩⟩
  ·dsimp only at hq
   rw[List.getElem?_append]at hq
   split at hq
   ·exact hT.nm j q hq
   ·rename_i hj
    have w_:=List.getElem?_eq_some_iff.1 hq
    obtain⟨h1',h2'⟩:=w_
    rw[List.length_singleton]at h1'
    have ej:j-qs.length=0:=by omega
    rw[ej]at hq
    cases hq
    have:j=i:=by omega
    rw[this]
  ·rcases List.mem_append.1 hq with hq | hq
   ·exact hT.ar q hq
   ·rw[List.mem_singleton.1 hq];dsimp only;omega
  ·rcases List.mem_append.1 hq with hq | hq
   ·exact hT.lo q hq
   ·rw[List.mem_singleton.1 hq];dsimp only;omega
  ·dsimp only
   rw[hys,List.map_append]
   rfl
 ·obtain⟨rb,rfl⟩:∃rb,b=some rb:=by
   cases b with
   |none=>
    have:=hbn rfl
    rw[this]at hyl
    simp only[List.length_nil]at hyl
    omega
   |some rb=>exact⟨rb,rfl⟩
  have hsig:=hT.sig (by omega) (by omega)
  have hys3:ys.length≤3:=by omega
  have hys1:1≤ys.length:=by omega
  have hsl:(sgT qs).length=ys.length:=by rw[sgT,List.length_map,hyl]
  refine lIn (fun z:Nat×List Rl×List Value×Mem×Mem=>DrI μ1 qs ys r rb c mode z.1 z.2.1 z.2.2.1 z.2.2.2.1 z.2.2.2.2)
   (fun (i, _, _, μ', h') => ⟨[(0, .val (.pointer (some ⟨r, 0, none⟩))), (1, .val (.int .i64 mode)), (4, .loc 0 r4 0), (5, .loc 1 r5_ 0), (38, .row 3 (some rb) ys.length c), (39, .val (.int .i64 ys.length)), (40, .val (.int .i64 i))],
    (0,some (.cells r4 [.val (.slice none 0 0)] 25))::(1,some (.cells r5_ [.row 3 (some rb) ys.length c] 25))::(match i with|0=>[(3,some (.row (some rb) c 63 7 ys))]|_+1=>[]),4,μ',h'⟩) (fun z=>ys.length-z.1)
   (0,[],ys,μ1,h1) ⟨Nat.zero_le _,Mem.Le.refl _,rfl,hc1.at,fun _=>rfl,fun h=>absurd h (by omega),rfl,fun _ _=>rfl,⟨Mem.nil,(fun _ _ h=>nomatch h),rfl,rfl,Rows.nil⟩,fun _ _ _ h=>nomatch h⟩ (fun(i,_,_,_,_)=>match i with|0=>⟨rfl,rfl⟩|_+1=>⟨rfl,rfl⟩)
   ⟨⟨rfl,rfl,rfl,rfl,rfl,rfl,rfl,trivial⟩,⟨rfl,rfl,rfl,trivial⟩,rfl,rfl⟩ ?_
  clear hi hlt
  rintro⟨i,ls,xs,μ2,h2⟩ hDI
  dsimp only at hDI
  obtain⟨hi,hle1,hll,hc2,hx0,hpos,hxl,hxy,⟨hB,hBl,hBr,hBrb,hrows⟩,hgood⟩:=id hDI
  have hle:=hle1
  refine ifd (fun hlt=>?_) (fun hlt=>?_)
  ·obtain ⟨q, hq⟩ : ∃ q, qs[i]? = some q := ⟨_, List.getElem?_eq_getElem (by omega)⟩
   have hqm:=List.mem_of_getElem? hq
   have hqa:=hT.ar q hqm
   have hqo:=hT.lo q hqm
   have hxi:xs[i]? =some (lD q):=by rw[hxy i (Nat.le_refl _),hys,List.getElem?_map,hq];rfl
   obtain⟨n,hn⟩:∃n:Nat,q.2.1+q.2.2=(n:Int):=⟨(q.2.1+q.2.2).toNat,by omega⟩
   match i with
   |0=>
    have hxe:=hx0 rfl
    have hxi0:ys[0]? =some (lD q):=by rw[←hxe];exact hxi
    refine aX 0 rfl (by omega) (aW (lD q) hxi0 ?_)
    intro r9
    refine aB (by omega) (by omega) ?_
    rw[hn]
    refine mO [] [3] (fun h=>nomatch h) fun h3 hno hgv=>?_
    have w_:=hgv.rowO
    obtain⟨hrbn,hrow,o,rfl⟩:=w_
    have hne:=hc2.ne hrbn
    have hRO:RelsO (h2.set rb o) rb c (sgT qs) xs:=by
     rw[hxe]
     exact⟨hrow,by rw[hsl],fun j q' hq'=>by
     rw[sgT,List.getElem?_map]at hq'
     have w_:=Option.map_eq_some_iff.1 hq'
     obtain⟨q2,h1',rfl⟩:=w_
     exact⟨lD q2,by rw[hys,List.getElem?_map,h1'];rfl,qKp q2⟩⟩
    have hcl:=dH (hc2.other hne (o':=o)) hRO hne hsig n (by omega) 0 (by decide) mode
    rw[hsl]at hcl
    refine lC hcl fun v μ3 h3 hle3 hap3 hR=>?_
    obtain⟨hc3,gs0,hgl,hgd,hgr⟩:=hR
    have w_:=Gl.invV hgr
    obtain⟨p0,rfl⟩:=w_
    have hRO3:=hRO.cur hne hc3
    have hBl3:hB.Le h3:=by
     have w_:=hc3.ex
     obtain⟨o3,_,e3⟩:=w_
     rw[e3]
     exact eD (eD hBl hBrb) hBr
    have hc3:=hc3.at
    have hd0:=(Dr.conj hgd (by omega)).mono (m':=9) (b':=1) (by omega) (Nat.le_refl _)
    intro rs hms hos
    have hos:h3 rs=none:=hos
    have hr5:rs≠r:=hc3.ne hos
    have hr5b:rs≠rb:=fun e=>by
     have w_:=hRO3.row.obj
     obtain⟨cs,hcs⟩:=w_
     rw[e,hcs]at hos
     cases hos
    have hrow0:RowO (h3.set rs (.cells [Value.int .i64 7,.string ⟨#[]⟩,.slice p0.1.1 0 p0.1.2,.slice p0.2.1 gs0.length p0.2.2].toArray 61 (0,0))) rs 1 61 4 [.agg #[.int .i64 7,.string ⟨#[]⟩,.slice p0.1.1 0 p0.1.2,.slice p0.2.1 gs0.length p0.2.2]]:=
     ⟨_,Mem.set_at _ _ _,Nat.le_refl _,by show 1≤_;decide,fun x hx=>by rw[List.mem_singleton.1 hx];exact⟨rfl,by simp[aD,Value.oneCell']⟩,rfl,by simp[aD]⟩
    intro r11
    refine cOw (aI (hc3.other hr5) 3) fun v μ4 h4 hle4 hap4 hR=>?_
    obtain⟨e,hc4,k3,rfl,-,hk33,-⟩:=hR
    obtain rfl:=e.symm
    have hk33:=hk33 (by decide)
    have hRO4:RelsO h4 rb c (sgT qs) xs:=RelsO.cur ⟨hRO3.row.set_ne hr5b.symm,hRO3.len,hRO3.at_⟩ hne hc4
    have hrow0:=fI hrow0 hr5 hc4
    have hBl4:hB.Le h4:=iC (eD hBl3 (jC hBl3 hos)) hBr hc4
    refine lIn (fun z:Nat×List Gl×List Value×(Nat×Nat)×Mem×Mem=>z.1≤2∧z.2.1.length+z.1≤3∧z.2.1≠[]∧(∀g∈z.2.1,Dr (sgT qs) n mode 9 1 g)∧RowO z.2.2.2.2.2 z.2.2.2.1.1 z.2.2.2.1.2 61 4 z.2.2.1∧Rows z.2.2.2.2.1 4 (z.2.1.map Gl.d) z.2.2.1∧μ3.Le z.2.2.2.2.1∧Cur z.2.2.2.2.1 z.2.2.2.2.2 r z.2.2.2.2.2∧Apart z.2.2.2.2.1 z.2.2.2.2.2∧z.2.2.2.1.1≠r∧z.2.2.2.1.1≠rb∧RelsO z.2.2.2.2.2 rb c (sgT qs) xs∧hB.Le z.2.2.2.2.2∧hB z.2.2.2.1.1=none)
     (fun (k, _, us, (r5, c5), μ', h') => ⟨[(0, .val (.pointer (some ⟨r, 0, none⟩))), (1, .val (.int .i64 mode)), (4, .loc 0 r4 0), (5, .loc 1 r5_ 0), (8, .val (.int .i64 ((0 : Nat) : Int))), (10, .val (.int .i64 n)), (11, .loc 5 r11 0), (12, .val (.int .i64 k)), (38, .row 3 (some rb) ys.length c), (39, .val (.int .i64 ys.length)), (40, .val (.int .i64 ((0 : Nat) : Int)))],
      [(0,some (.cells r4 [.val (.slice none 0 0)] 25)),(1,some (.cells r5_ [.row 3 (some rb) ys.length c] 25)),(5,some (.cells r11 [.val (.int .i64 8),.val (.string ⟨#[]⟩),.val (.slice none 0 0),.val (.slice (some ⟨r5,0,none⟩) us.length c5)] 61))],6,μ',h'⟩) (fun z=>z.1)
     (k3,[.mk 7 ⟨#[]⟩ [] gs0],[.agg #[.int .i64 7,.string ⟨#[]⟩,.slice p0.1.1 0 p0.1.2,.slice p0.2.1 gs0.length p0.2.2]],(rs,1),μ3,h4) ⟨by dsimp only;omega,by simp only[List.length_singleton];omega,(fun e=>nomatch e),(fun g hg=>by rw[List.mem_singleton.1 hg];exact hd0),hrow0,Rows.one hgr (Gl.d_n _),Mem.Le.refl _,hc4.at,hap4,hr5,hr5b,hRO4,hBl4,jC hBl3 hos⟩ (fun(_,_,_,(_,_),_,_)=>⟨rfl,rfl⟩)
     ⟨⟨rfl,rfl,rfl,rfl,rfl,rfl,rfl,rfl,rfl,rfl,rfl,trivial⟩,⟨rfl,rfl,rfl,trivial⟩,rfl,rfl⟩ ?_
    clear hc4 hap4 hRO4 hBl4 hrow0 hr5 hr5b
    rintro⟨k,gs,us,⟨r5,c5⟩,μ6,h6⟩ ⟨hk,hkl,hgne,hgs,hrow6,hrow5,hle6,hc6,hap6,hr5,hr5b,hRO6,hBl6,hB5⟩
    dsimp only at hk hkl hgne hgs hrow6 hrow5 hle6 hc6 hap6 hr5 hr5b hRO6 hBl6 hB5
    have hul:=hrow5.len
    rw[List.length_map]at hul
    refine ifd (fun hkp=>?_) (fun hkz=>?_)
    ·refine cOw (aI hc6 5) fun v μ7 h7 hle7 hap7 hR => ?_
     obtain⟨e,hc7,k5,rfl,-,hk55,-⟩:=hR
     obtain rfl:=e.symm
     have hk55:=hk55 (by decide)
     have hrow7:=fI hrow6 hr5 hc7
     have hRO7:=hRO6.cur hne hc7
     have hBl7:=iC hBl6 hBr hc7
     refine aC (by decide) ?_
     refine nEq (x:=((k5 / 2:Nat):Int)) (by show IntKind.i64.wrap (Int.tdiv (k5:Int) 2)=_;rw[Int.tdiv_eq_ediv_of_nonneg (by omega),aA (by omega) (by omega)];simp) ?_
     have hcl5:=dH hc7.at hRO7 hne hsig n (by omega) (k5 / 2) (by omega) mode
     rw[hsl]at hcl5
     refine cOw hcl5 fun v μ8 h8 hle8 hap8 hR=>?_
     obtain⟨hc8,gs8,hgl8,hgd8,hgr8⟩:=hR
     have w_:=Gl.invV hgr8
     obtain⟨p8,rfl⟩:=w_
     have hd8:=(Dr.conj hgd8 (by omega)).mono (m':=9) (b':=1) (by omega) (Nat.le_refl _)
     have hrow8:=fI hrow7 hr5 hc8
     have hRO8:=hRO7.cur hne hc8
     have hBl8:=iC hBl7 hBr hc8
     have hc8:=hc8.at
     intro rg
     refine fM us rfl hrow8 ?_ ?_ fun r9' c9 o9 hrow9 hor=>?_
     ·show(us.length+1)*72≤_;omega
     ·exact Nat.le_trans (m:=100000000) (show us.length+1≤_ by omega) (by decide)
     have hn1:r9'≠r:=hor.elim (fun e=>by rw[e];exact hr5) fun e=>hc8.ne e.1
     have hn2:r9'≠rb:=hor.elim (fun e=>by rw[e];exact hr5b) fun e e2=>by
      have w_:=hRO8.row.obj
      obtain⟨cs,hcs⟩:=w_
      have e1:h8 r9'=none:=e.1
      rw[e2,hcs]at e1
      cases e1
     have hn3:hB r9'=none:=hor.elim (fun e=>by rw[e];exact hB5) fun e=>jC hBl8 e.1
     refine aB (by omega) (by omega) ⟨(k-1,gs++[.mk 7 ⟨#[]⟩ [] gs8],_,(r9',c9),μ8,_),⟨by dsimp only;omega,by simp only[List.length_append,List.length_singleton];omega,by simp,?_,hrow9,?_,hle6.trans hle8,hc8.other hn1,hap8.set (kA hrow8 hap8 hor),hn1,hn2,⟨hRO8.row.set_ne hn2.symm,hRO8.len,hRO8.at_⟩,eD hBl8 hn3,hn3⟩,by dsimp only;omega,⟨⟨rfl,rfl,rfl,rfl,rfl,rfl,rfl,?_,rfl,rfl,rfl,trivial⟩,⟨rfl,rfl,?_,trivial⟩,rfl,rfl⟩⟩
     ·intro x hx
      rcases List.mem_append.1 hx with hx|hx
      ·exact hgs x hx
      ·rw[List.mem_singleton.1 hx];exact hd8
     ·dsimp only
      rw[List.map_append]
      exact(hrow5.mono hle8).append (Rows.one hgr8 (Gl.d_n _))
     ·show some (SV.val (.int .i64 _)) = some (SV.val (.int .i64 _))
      congr 3;omega
     ·rw[List.length_append];rfl
    ·have hle26 : μ2.Le μ6 := hle3.trans hle6
     refine ifd (fun h1=>?_) (fun h1=>?_)
     ·refine cOw (dF hc6 2) fun v μ7 h7 hle7 hap7 hR => ?_
      obtain⟨e,hc7,w,rfl⟩:=hR
      obtain rfl:=e.symm
      have hrow6:=fI hrow6 hr5 hc7
      have hRO6:=hRO6.cur hne hc7
      have hBl6:=iC hBl6 hBr hc7
      have hcz:=hc7.at
      have hap6:=hap7
      refine iIn (fun hw=>?_) (fun hw=>?_)
      ·obtain ⟨g0, hg0⟩ : ∃ g0, gs[0]? = some g0 := ⟨_, List.getElem?_eq_getElem (List.length_pos_iff.2 hgne)⟩
       obtain⟨u0,hu0,hru0⟩:∃u0,us[0]? =some u0∧RepV μ6 g0.d u0:=by
        cases hrow5g:gs with
        |nil=>exact absurd hrow5g hgne
        |cons a rr=>
         rw[hrow5g]at hrow5 hg0
         cases hg0
         cases hrow5 with
         |cons ha hb' hc'=>exact⟨_,rfl,ha⟩
       have w_:=Gl.invV hru0
       obtain⟨p5,rfl⟩:=w_
       have hdg:=(hgs g0 (List.mem_of_getElem? hg0)).mono (m':=40) (b':=3) (by decide) (by decide)
       refine rX 0 rfl (by omega) ?_
       refine oIn _ rfl (hrow6.ownA hu0 rfl) ?_
       refine cB ⟨rb,0,none⟩ rfl (by omega) (by omega) ?_
       refine eO (k:=0) (j:=3) (x:=lD q) (.agg #[.string q.1,.int .i64 q.2.1,.int .i64 q.2.2,.int .i64 g0.kind,.string g0.name,.slice p5.1.1 g0.terms.length p5.1.2,.slice p5.2.1 g0.goals.length p5.2.2]) hRO6.row hxi (by simp[Addr.add_lit']) rfl (show 3+4≤7 by decide) (by simp[Value.oneCell']) fun o hrow2=>?_
       exact aB (by omega) (by omega) ⟨(0+1,ls++[⟨q.1,q.2.1,q.2.2,g0⟩],xs.set (0) (.agg #[.string q.1,.int .i64 q.2.1,.int .i64 q.2.2,.int .i64 g0.kind,.string g0.name,.slice p5.1.1 g0.terms.length p5.1.2,.slice p5.2.1 g0.goals.length p5.2.2]),_,_),hDI.next (by omega) hq hn hne hle26 hcz hRO6 hap6 ((Mem.Le.refl hB)) (hBl6) ((And.intro hBr hBrb)) hrows hrow2 ((hru0.mono (Mem.le_join μ6 hB))) (hdg),by dsimp only;omega,⟨⟨rfl,rfl,rfl,rfl,rfl,rfl,rfl,trivial⟩,⟨rfl,rfl,trivial⟩,rfl,rfl⟩⟩
      ·have w_ := RowO.alone (g := hB) hrow6
       obtain⟨o6,ho6,hrowB⟩:=w_
       have hB6:(hB.set r5 o6).Le h7:=fun b x hb=>by
        by_cases e:b=r5
        ·subst e;rw[Mem.set_at]at hb;cases hb;exact ho6
        ·rw[Mem.set_ne e]at hb;exact hBl6 b x hb
       have hBB:hB.Le (hB.set r5 o6):=eD (Mem.Le.refl _) hB5
       have hBn:(hB.set r5 o6) r=none∧(hB.set r5 o6) rb=none:=⟨by rw[Mem.set_ne (Ne.symm hr5)];exact hBr,by rw[Mem.set_ne (Ne.symm hr5b)];exact hBrb⟩
       have hgoal:RepV (μ6.join (hB.set r5 o6)) (Gl.mk 8 ⟨#[]⟩ [] gs).d (.agg #[.int .i64 8,.string ⟨#[]⟩,.slice none 0 0,.slice (some ⟨r5,0,none⟩) us.length c5]):=bY (ts:=[]) (Rep.nilSl 4) (hrowB.rep (Mem.le_join_right (kW hap6 hB6)) (hrow5.mono (Mem.le_join _ _)))
       have hdr:Dr (sgT qs) n mode 40 3 (.mk 8 ⟨#[]⟩ [] gs):=(Dr.disj hgs (by omega) hgne).mono (by omega) (by omega)
       refine cB ⟨rb,0,none⟩ rfl (by omega) (by omega) ?_
       refine eO (k:=0) (j:=3) (x:=lD q) (.agg #[.string q.1,.int .i64 q.2.1,.int .i64 q.2.2,.int .i64 8,.string ⟨#[]⟩,.slice none 0 0,.slice (some ⟨r5,0,none⟩) us.length c5]) hRO6.row hxi (by simp[Addr.add_lit']) rfl (show 3+4≤7 by decide) (by simp[Value.oneCell']) fun o hrow2=>?_
       exact aB (by omega) (by omega) ⟨(0+1,ls++[⟨q.1,q.2.1,q.2.2,(Gl.mk 8 ⟨#[]⟩ [] gs)⟩],xs.set (0) (.agg #[.string q.1,.int .i64 q.2.1,.int .i64 q.2.2,.int .i64 8,.string ⟨#[]⟩,.slice none 0 0,.slice (some ⟨r5,0,none⟩) us.length c5]),_,_),hDI.next (by omega) hq hn hne hle26 hcz hRO6 hap6 (hBB) (hB6) (hBn) hrows hrow2 (hgoal) (hdr),by dsimp only;omega,⟨⟨rfl,rfl,rfl,rfl,rfl,rfl,rfl,trivial⟩,⟨rfl,rfl,trivial⟩,rfl,rfl⟩⟩
     ·have hcz := hc6
      have w_:=RowO.alone (g:=hB) hrow6
      obtain⟨o6,ho6,hrowB⟩:=w_
      have hB6:(hB.set r5 o6).Le h6:=fun b x hb=>by
       by_cases e:b=r5
       ·subst e;rw[Mem.set_at]at hb;cases hb;exact ho6
       ·rw[Mem.set_ne e]at hb;exact hBl6 b x hb
      have hBB:hB.Le (hB.set r5 o6):=eD (Mem.Le.refl _) hB5
      have hBn:(hB.set r5 o6) r=none∧(hB.set r5 o6) rb=none:=⟨by rw[Mem.set_ne (Ne.symm hr5)];exact hBr,by rw[Mem.set_ne (Ne.symm hr5b)];exact hBrb⟩
      have hgoal:RepV (μ6.join (hB.set r5 o6)) (Gl.mk 8 ⟨#[]⟩ [] gs).d (.agg #[.int .i64 8,.string ⟨#[]⟩,.slice none 0 0,.slice (some ⟨r5,0,none⟩) us.length c5]):=bY (ts:=[]) (Rep.nilSl 4) (hrowB.rep (Mem.le_join_right (kW hap6 hB6)) (hrow5.mono (Mem.le_join _ _)))
      have hdr:Dr (sgT qs) n mode 40 3 (.mk 8 ⟨#[]⟩ [] gs):=(Dr.disj hgs (by omega) hgne).mono (by omega) (by omega)
      refine cB ⟨rb,0,none⟩ rfl (by omega) (by omega) ?_
      refine eO (k:=0) (j:=3) (x:=lD q) (.agg #[.string q.1,.int .i64 q.2.1,.int .i64 q.2.2,.int .i64 8,.string ⟨#[]⟩,.slice none 0 0,.slice (some ⟨r5,0,none⟩) us.length c5]) hRO6.row hxi (by simp[Addr.add_lit']) rfl (show 3+4≤7 by decide) (by simp[Value.oneCell']) fun o hrow2=>?_
      exact aB (by omega) (by omega) ⟨(0+1,ls++[⟨q.1,q.2.1,q.2.2,(Gl.mk 8 ⟨#[]⟩ [] gs)⟩],xs.set (0) (.agg #[.string q.1,.int .i64 q.2.1,.int .i64 q.2.2,.int .i64 8,.string ⟨#[]⟩,.slice none 0 0,.slice (some ⟨r5,0,none⟩) us.length c5]),_,_),hDI.next (by omega) hq hn hne hle26 hcz hRO6 hap6 (hBB) (hB6) (hBn) hrows hrow2 (hgoal) (hdr),by dsimp only;omega,⟨⟨rfl,rfl,rfl,rfl,rfl,rfl,rfl,trivial⟩,⟨rfl,rfl,trivial⟩,rfl,rfl⟩⟩
   |i+1=>
    have w_:=hpos (by omega)
    obtain⟨hne,hRO,hap2⟩:=w_
    refine rX (i+1) rfl (by omega) ?_
    refine oIn (aD (lD q)) rfl (hRO.row.ownA hxi rfl) ?_
    intro r9
    refine aB (by omega) (by omega) ?_
    rw[hn]
    have hcl:=dH hc2 hRO hne hsig n (by omega) 0 (by decide) mode
    rw[hsl]at hcl
    refine cOw hcl fun v μ3 h3 hle3 hap3 hR=>?_
    obtain⟨hc3,gs0,hgl,hgd,hgr⟩:=hR
    have w_:=Gl.invV hgr
    obtain⟨p0,rfl⟩:=w_
    have hRO3:=hRO.cur hne hc3
    have hBl3:hB.Le h3:=by
     have w_:=hc3.ex
     obtain⟨o3,_,e3⟩:=w_
     rw[e3]
     exact eD hBl hBr
    have hc3:=hc3.at
    have hd0:=(Dr.conj hgd (by omega)).mono (m':=9) (b':=1) (by omega) (Nat.le_refl _)
    intro rs hms hos
    have hos:h3 rs=none:=hos
    have hr5:rs≠r:=hc3.ne hos
    have hr5b:rs≠rb:=fun e=>by
     have w_:=hRO3.row.obj
     obtain⟨cs,hcs⟩:=w_
     rw[e,hcs]at hos
     cases hos
    have hrow0:RowO (h3.set rs (.cells [Value.int .i64 7,.string ⟨#[]⟩,.slice p0.1.1 0 p0.1.2,.slice p0.2.1 gs0.length p0.2.2].toArray 61 (0,0))) rs 1 61 4 [.agg #[.int .i64 7,.string ⟨#[]⟩,.slice p0.1.1 0 p0.1.2,.slice p0.2.1 gs0.length p0.2.2]]:=
     ⟨_,Mem.set_at _ _ _,Nat.le_refl _,by show 1≤_;decide,fun x hx=>by rw[List.mem_singleton.1 hx];exact⟨rfl,by simp[aD,Value.oneCell']⟩,rfl,by simp[aD]⟩
    intro r11
    refine cOw (aI (hc3.other hr5) 3) fun v μ4 h4 hle4 hap4 hR=>?_
    obtain⟨e,hc4,k3,rfl,-,hk33,-⟩:=hR
    obtain rfl:=e.symm
    have hk33:=hk33 (by decide)
    have hRO4:RelsO h4 rb c (sgT qs) xs:=RelsO.cur ⟨hRO3.row.set_ne hr5b.symm,hRO3.len,hRO3.at_⟩ hne hc4
    have hrow0:=fI hrow0 hr5 hc4
    have hBl4:hB.Le h4:=iC (eD hBl3 (jC hBl3 hos)) hBr hc4
    refine lIn (fun z:Nat×List Gl×List Value×(Nat×Nat)×Mem×Mem=>z.1≤2∧z.2.1.length+z.1≤3∧z.2.1≠[]∧(∀g∈z.2.1,Dr (sgT qs) n mode 9 1 g)∧RowO z.2.2.2.2.2 z.2.2.2.1.1 z.2.2.2.1.2 61 4 z.2.2.1∧Rows z.2.2.2.2.1 4 (z.2.1.map Gl.d) z.2.2.1∧μ3.Le z.2.2.2.2.1∧Cur z.2.2.2.2.1 z.2.2.2.2.2 r z.2.2.2.2.2∧Apart z.2.2.2.2.1 z.2.2.2.2.2∧z.2.2.2.1.1≠r∧z.2.2.2.1.1≠rb∧RelsO z.2.2.2.2.2 rb c (sgT qs) xs∧hB.Le z.2.2.2.2.2∧hB z.2.2.2.1.1=none)
     (fun (k, _, us, (r5, c5), μ', h') => ⟨[(0, .val (.pointer (some ⟨r, 0, none⟩))), (1, .val (.int .i64 mode)), (4, .loc 0 r4 0), (5, .loc 1 r5_ 0), (8, .val (.int .i64 (((i + 1) : Nat) : Int))), (10, .val (.int .i64 n)), (11, .loc 5 r11 0), (12, .val (.int .i64 k)), (38, .row 3 (some rb) ys.length c), (39, .val (.int .i64 ys.length)), (40, .val (.int .i64 (((i + 1) : Nat) : Int)))],
      [(0,some (.cells r4 [.val (.slice none 0 0)] 25)),(1,some (.cells r5_ [.row 3 (some rb) ys.length c] 25)),(5,some (.cells r11 [.val (.int .i64 8),.val (.string ⟨#[]⟩),.val (.slice none 0 0),.val (.slice (some ⟨r5,0,none⟩) us.length c5)] 61))],6,μ',h'⟩) (fun z=>z.1)
     (k3,[.mk 7 ⟨#[]⟩ [] gs0],[.agg #[.int .i64 7,.string ⟨#[]⟩,.slice p0.1.1 0 p0.1.2,.slice p0.2.1 gs0.length p0.2.2]],(rs,1),μ3,h4) ⟨by dsimp only;omega,by simp only[List.length_singleton];omega,(fun e=>nomatch e),(fun g hg=>by rw[List.mem_singleton.1 hg];exact hd0),hrow0,Rows.one hgr (Gl.d_n _),Mem.Le.refl _,hc4.at,hap4,hr5,hr5b,hRO4,hBl4,jC hBl3 hos⟩ (fun(_,_,_,(_,_),_,_)=>⟨rfl,rfl⟩)
     ⟨⟨rfl,rfl,rfl,rfl,rfl,rfl,rfl,rfl,rfl,rfl,rfl,trivial⟩,⟨rfl,rfl,rfl,trivial⟩,rfl,rfl⟩ ?_
    clear hc4 hap4 hRO4 hBl4 hrow0 hr5 hr5b
    rintro⟨k,gs,us,⟨r5,c5⟩,μ6,h6⟩ ⟨hk,hkl,hgne,hgs,hrow6,hrow5,hle6,hc6,hap6,hr5,hr5b,hRO6,hBl6,hB5⟩
    dsimp only at hk hkl hgne hgs hrow6 hrow5 hle6 hc6 hap6 hr5 hr5b hRO6 hBl6 hB5
    have hul:=hrow5.len
    rw[List.length_map]at hul
    refine ifd (fun hkp=>?_) (fun hkz=>?_)
    ·refine cOw (aI hc6 5) fun v μ7 h7 hle7 hap7 hR => ?_
     obtain⟨e,hc7,k5,rfl,-,hk55,-⟩:=hR
     obtain rfl:=e.symm
     have hk55:=hk55 (by decide)
     have hrow7:=fI hrow6 hr5 hc7
     have hRO7:=hRO6.cur hne hc7
     have hBl7:=iC hBl6 hBr hc7
     refine aC (by decide) ?_
     refine nEq (x:=((k5 / 2:Nat):Int)) (by show IntKind.i64.wrap (Int.tdiv (k5:Int) 2)=_;rw[Int.tdiv_eq_ediv_of_nonneg (by omega),aA (by omega) (by omega)];simp) ?_
     have hcl5:=dH hc7.at hRO7 hne hsig n (by omega) (k5 / 2) (by omega) mode
     rw[hsl]at hcl5
     refine cOw hcl5 fun v μ8 h8 hle8 hap8 hR=>?_
     obtain⟨hc8,gs8,hgl8,hgd8,hgr8⟩:=hR
     have w_:=Gl.invV hgr8
     obtain⟨p8,rfl⟩:=w_
     have hd8:=(Dr.conj hgd8 (by omega)).mono (m':=9) (b':=1) (by omega) (Nat.le_refl _)
     have hrow8:=fI hrow7 hr5 hc8
     have hRO8:=hRO7.cur hne hc8
     have hBl8:=iC hBl7 hBr hc8
     have hc8:=hc8.at
     intro rg
     refine fM us rfl hrow8 ?_ ?_ fun r9' c9 o9 hrow9 hor=>?_
     ·show(us.length+1)*72≤_;omega
     ·exact Nat.le_trans (m:=100000000) (show us.length+1≤_ by omega) (by decide)
     have hn1:r9'≠r:=hor.elim (fun e=>by rw[e];exact hr5) fun e=>hc8.ne e.1
     have hn2:r9'≠rb:=hor.elim (fun e=>by rw[e];exact hr5b) fun e e2=>by
      have w_:=hRO8.row.obj
      obtain⟨cs,hcs⟩:=w_
      have e1:h8 r9'=none:=e.1
      rw[e2,hcs]at e1
      cases e1
     have hn3:hB r9'=none:=hor.elim (fun e=>by rw[e];exact hB5) fun e=>jC hBl8 e.1
     refine aB (by omega) (by omega) ⟨(k-1,gs++[.mk 7 ⟨#[]⟩ [] gs8],_,(r9',c9),μ8,_),⟨by dsimp only;omega,by simp only[List.length_append,List.length_singleton];omega,by simp,?_,hrow9,?_,hle6.trans hle8,hc8.other hn1,hap8.set (kA hrow8 hap8 hor),hn1,hn2,⟨hRO8.row.set_ne hn2.symm,hRO8.len,hRO8.at_⟩,eD hBl8 hn3,hn3⟩,by dsimp only;omega,⟨⟨rfl,rfl,rfl,rfl,rfl,rfl,rfl,?_,rfl,rfl,rfl,trivial⟩,⟨rfl,rfl,?_,trivial⟩,rfl,rfl⟩⟩
     ·intro x hx
      rcases List.mem_append.1 hx with hx|hx
      ·exact hgs x hx
      ·rw[List.mem_singleton.1 hx];exact hd8
     ·dsimp only
      rw[List.map_append]
      exact(hrow5.mono hle8).append (Rows.one hgr8 (Gl.d_n _))
     ·show some (SV.val (.int .i64 _)) = some (SV.val (.int .i64 _))
      congr 3;omega
     ·rw[List.length_append];rfl
    ·have hle26 : μ2.Le μ6 := hle3.trans hle6
     refine ifd (fun h1=>?_) (fun h1=>?_)
     ·refine cOw (dF hc6 2) fun v μ7 h7 hle7 hap7 hR => ?_
      obtain⟨e,hc7,w,rfl⟩:=hR
      obtain rfl:=e.symm
      have hrow6:=fI hrow6 hr5 hc7
      have hRO6:=hRO6.cur hne hc7
      have hBl6:=iC hBl6 hBr hc7
      have hcz:=hc7.at
      have hap6:=hap7
      refine iIn (fun hw=>?_) (fun hw=>?_)
      ·obtain ⟨g0, hg0⟩ : ∃ g0, gs[0]? = some g0 := ⟨_, List.getElem?_eq_getElem (List.length_pos_iff.2 hgne)⟩
       obtain⟨u0,hu0,hru0⟩:∃u0,us[0]? =some u0∧RepV μ6 g0.d u0:=by
        cases hrow5g:gs with
        |nil=>exact absurd hrow5g hgne
        |cons a rr=>
         rw[hrow5g]at hrow5 hg0
         cases hg0
         cases hrow5 with
         |cons ha hb' hc'=>exact⟨_,rfl,ha⟩
       have w_:=Gl.invV hru0
       obtain⟨p5,rfl⟩:=w_
       have hdg:=(hgs g0 (List.mem_of_getElem? hg0)).mono (m':=40) (b':=3) (by decide) (by decide)
       refine rX 0 rfl (by omega) ?_
       refine oIn _ rfl (hrow6.ownA hu0 rfl) ?_
       refine cB ⟨rb,0,none⟩ rfl (by omega) (by omega) ?_
       refine eO (k:=(i+1)) (j:=3) (x:=lD q) (.agg #[.string q.1,.int .i64 q.2.1,.int .i64 q.2.2,.int .i64 g0.kind,.string g0.name,.slice p5.1.1 g0.terms.length p5.1.2,.slice p5.2.1 g0.goals.length p5.2.2]) hRO6.row hxi (by simp[Addr.add_lit']) rfl (show 3+4≤7 by decide) (by simp[Value.oneCell']) fun o hrow2=>?_
       exact aB (by omega) (by omega) ⟨((i+1)+1,ls++[⟨q.1,q.2.1,q.2.2,g0⟩],xs.set ((i+1)) (.agg #[.string q.1,.int .i64 q.2.1,.int .i64 q.2.2,.int .i64 g0.kind,.string g0.name,.slice p5.1.1 g0.terms.length p5.1.2,.slice p5.2.1 g0.goals.length p5.2.2]),_,_),hDI.next (by omega) hq hn hne hle26 hcz hRO6 hap6 ((Mem.Le.refl hB)) (hBl6) ((And.intro hBr hBrb)) hrows hrow2 ((hru0.mono (Mem.le_join μ6 hB))) (hdg),by dsimp only;omega,⟨⟨rfl,rfl,rfl,rfl,rfl,rfl,rfl,trivial⟩,⟨rfl,rfl,trivial⟩,rfl,rfl⟩⟩
      ·have w_ := RowO.alone (g := hB) hrow6
       obtain⟨o6,ho6,hrowB⟩:=w_
       have hB6:(hB.set r5 o6).Le h7:=fun b x hb=>by
        by_cases e:b=r5
        ·subst e;rw[Mem.set_at]at hb;cases hb;exact ho6
        ·rw[Mem.set_ne e]at hb;exact hBl6 b x hb
       have hBB:hB.Le (hB.set r5 o6):=eD (Mem.Le.refl _) hB5
       have hBn:(hB.set r5 o6) r=none∧(hB.set r5 o6) rb=none:=⟨by rw[Mem.set_ne (Ne.symm hr5)];exact hBr,by rw[Mem.set_ne (Ne.symm hr5b)];exact hBrb⟩
       have hgoal:RepV (μ6.join (hB.set r5 o6)) (Gl.mk 8 ⟨#[]⟩ [] gs).d (.agg #[.int .i64 8,.string ⟨#[]⟩,.slice none 0 0,.slice (some ⟨r5,0,none⟩) us.length c5]):=bY (ts:=[]) (Rep.nilSl 4) (hrowB.rep (Mem.le_join_right (kW hap6 hB6)) (hrow5.mono (Mem.le_join _ _)))
       have hdr:Dr (sgT qs) n mode 40 3 (.mk 8 ⟨#[]⟩ [] gs):=(Dr.disj hgs (by omega) hgne).mono (by omega) (by omega)
       refine cB ⟨rb,0,none⟩ rfl (by omega) (by omega) ?_
       refine eO (k:=(i+1)) (j:=3) (x:=lD q) (.agg #[.string q.1,.int .i64 q.2.1,.int .i64 q.2.2,.int .i64 8,.string ⟨#[]⟩,.slice none 0 0,.slice (some ⟨r5,0,none⟩) us.length c5]) hRO6.row hxi (by simp[Addr.add_lit']) rfl (show 3+4≤7 by decide) (by simp[Value.oneCell']) fun o hrow2=>?_
       exact aB (by omega) (by omega) ⟨((i+1)+1,ls++[⟨q.1,q.2.1,q.2.2,(Gl.mk 8 ⟨#[]⟩ [] gs)⟩],xs.set ((i+1)) (.agg #[.string q.1,.int .i64 q.2.1,.int .i64 q.2.2,.int .i64 8,.string ⟨#[]⟩,.slice none 0 0,.slice (some ⟨r5,0,none⟩) us.length c5]),_,_),hDI.next (by omega) hq hn hne hle26 hcz hRO6 hap6 (hBB) (hB6) (hBn) hrows hrow2 (hgoal) (hdr),by dsimp only;omega,⟨⟨rfl,rfl,rfl,rfl,rfl,rfl,rfl,trivial⟩,⟨rfl,rfl,trivial⟩,rfl,rfl⟩⟩
     ·have hcz := hc6
      have w_:=RowO.alone (g:=hB) hrow6
      obtain⟨o6,ho6,hrowB⟩:=w_
      have hB6:(hB.set r5 o6).Le h6:=fun b x hb=>by
       by_cases e:b=r5
       ·subst e;rw[Mem.set_at]at hb;cases hb;exact ho6
       ·rw[Mem.set_ne e]at hb;exact hBl6 b x hb
      have hBB:hB.Le (hB.set r5 o6):=eD (Mem.Le.refl _) hB5
      have hBn:(hB.set r5 o6) r=none∧(hB.set r5 o6) rb=none:=⟨by rw[Mem.set_ne (Ne.symm hr5)];exact hBr,by rw[Mem.set_ne (Ne.symm hr5b)];exact hBrb⟩
      have hgoal:RepV (μ6.join (hB.set r5 o6)) (Gl.mk 8 ⟨#[]⟩ [] gs).d (.agg #[.int .i64 8,.string ⟨#[]⟩,.slice none 0 0,.slice (some ⟨r5,0,none⟩) us.length c5]):=bY (ts:=[]) (Rep.nilSl 4) (hrowB.rep (Mem.le_join_right (kW hap6 hB6)) (hrow5.mono (Mem.le_join _ _)))
      have hdr:Dr (sgT qs) n mode 40 3 (.mk 8 ⟨#[]⟩ [] gs):=(Dr.disj hgs (by omega) hgne).mono (by omega) (by omega)
      refine cB ⟨rb,0,none⟩ rfl (by omega) (by omega) ?_
      refine eO (k:=(i+1)) (j:=3) (x:=lD q) (.agg #[.string q.1,.int .i64 q.2.1,.int .i64 q.2.2,.int .i64 8,.string ⟨#[]⟩,.slice none 0 0,.slice (some ⟨r5,0,none⟩) us.length c5]) hRO6.row hxi (by simp[Addr.add_lit']) rfl (show 3+4≤7 by decide) (by simp[Value.oneCell']) fun o hrow2=>?_
      exact aB (by omega) (by omega) ⟨((i+1)+1,ls++[⟨q.1,q.2.1,q.2.2,(Gl.mk 8 ⟨#[]⟩ [] gs)⟩],xs.set ((i+1)) (.agg #[.string q.1,.int .i64 q.2.1,.int .i64 q.2.2,.int .i64 8,.string ⟨#[]⟩,.slice none 0 0,.slice (some ⟨r5,0,none⟩) us.length c5]),_,_),hDI.next (by omega) hq hn hne hle26 hcz hRO6 hap6 (hBB) (hB6) (hBn) hrows hrow2 (hgoal) (hdr),by dsimp only;omega,⟨⟨rfl,rfl,rfl,rfl,rfl,rfl,rfl,trivial⟩,⟨rfl,rfl,trivial⟩,rfl,rfl⟩⟩
  ·have hie : i = ys.length := by omega
   obtain⟨i',rfl⟩:∃i',i=i'+1:=⟨i-1,by omega⟩
   have w_:=hpos (by omega)
   obtain⟨hne,hRO,hap2⟩:=w_
   have hql2:qs.length=ls.length:=by omega
   have at_:∀(j:Nat) l,ls[j]? =some l→∃q,qs[j]? =some q:=fun j l hl=>⟨_,List.getElem?_eq_getElem (by have:=(List.getElem?_eq_some_iff.1 hl).1;omega)⟩
   have hsg:qKu ls=sgT qs:=by
    apply List.ext_getElem?
    intro j
    rw[qKu,sgT,List.getElem?_map,List.getElem?_map]
    cases hl:ls[j]? with
    |none=>
     have:qs[j]? =none:=List.getElem?_eq_none (by have:=List.getElem?_eq_none_iff.1 hl;omega)
     rw[this];rfl
    |some l=>
     have w_:=at_ j l hl
     obtain⟨q,hq⟩:=w_
     have w_:=hgood j l q hl hq
     obtain⟨a,b,_,_⟩:=w_
     rw[hq]
     simp[a,b]
   refine cG h2 Mem.nil (Parts.nil_right h2) ⟨ls,⟨by omega,by omega,fun j l hl=>?_,fun l hl=>?_,fun l hl=>?_,fun l hl=>?_⟩,?_⟩
   ·have w_ := at_ j l hl
    obtain⟨q,hq⟩:=w_
    rw[(hgood j l q hl hq).1,hT.nm j q hq]
   ·have w_ := List.getElem?_of_mem hl
    obtain⟨j,hj⟩:=w_
    have w_:=at_ j l hj
    obtain⟨q,hq⟩:=w_
    rw[(hgood j l q hj hq).2.1]
    exact hT.ar q (List.mem_of_getElem? hq)
   ·have w_ := List.getElem?_of_mem hl
    obtain⟨j,hj⟩:=w_
    have w_:=at_ j l hj
    obtain⟨q,hq⟩:=w_
    rw[(hgood j l q hj hq).2.2.1]
    exact hT.lo q (List.mem_of_getElem? hq)
   ·have w_ := List.getElem?_of_mem hl
    obtain⟨j,hj⟩:=w_
    have w_:=at_ j l hj
    obtain⟨q,hq⟩:=w_
    have w_:=hgood j l q hj hq
    obtain⟨_,e2,e3,e4⟩:=w_
    rw[hsg,e2,e3]
    exact e4
   ·rw [hie, ← hxl, List.take_length] at hrows
    have k:=hRO.row.rep (Mem.le_join_right hap2) (hrows.mono (qFo (Mem.Le.refl _) hBl hap2))
    rw[hxl]at k
    exact⟨_,rfl,RepS.last k⟩
end
end Go.Vx
namespace Go.Vx
open Go.Proofs Classical
theorem LibOk.prom{s:Bs}{p:Pg}(h:LibOk s p)(hok:p.Ok){mode:Int}(hpos:mode≤1→p.Pos):MkP mode p:=⟨hok,h.small3,h.small2,hpos,h.ne,h.ar⟩
section
variable {μ:Mem}
set_option maxHeartbeats 1000000 in
theorem kV{base:Option Addr}{n cap:Nat}(hb:Bytes μ base n)(m:Int)(hm:m≤1000000)(mode:Int)(hmode:mode=1∨mode=2):
  Spec Tryz.prog 11 [.slice base n cap,.int .i64 m,.int .i64 mode] μ fun v μ'=>∃p,MkP mode p∧RepV μ' p.d v:=by
 refine Spec.mk Tryz.func11 (by kernel_rfl) ?_
 intro r6
 refine cOw (gU hb m hm) fun v μ1 h1 hle1 hap1 hR=>?_
 obtain⟨e,r,rfl,ho,hc1⟩:=hR
 obtain rfl:=e.symm
 refine cOw (rF hc1.at) fun v μ2 h2 hle2 hap2 hR=>?_
 obtain⟨hc2,s,hs,rfl⟩:=hR
 have w_:=qP (μ:=μ2) hs
 obtain⟨t,p,hp,hG⟩:=w_
 refine cGv hG ?_
 refine cPl (kE hp.parse hp.len hp.bytes hp.wd) fun v μ3 hle3 hR=>?_
 obtain⟨q,tv,b,rfl,hrq,hqp⟩:=hR
 have w_:=Pg.invV hrq
 obtain⟨pq,rfl⟩:=w_
 intro r8
 have hc3:=hc2.mono hle3
 refine iIn (fun hb1=>?_) (fun hb1=>?_)
 ·have w_ := hqp hb1
  obtain⟨rfl,hok⟩:=w_
  refine cOw (dF hc3.at 8) fun v μ4 h4 hle4 hap4 hR=>?_
  obtain⟨e,hc4,w,rfl⟩:=hR
  obtain rfl:=e.symm
  refine iIn (fun hw=>?_) (fun hw=>?_)
  ·refine ifd (fun hm2 => ?_) (fun hm2 => ?_)
   ·exact rPl ⟨_,hp.prom hok (fun h=>absurd h (by omega)),hrq⟩
   ·refine ifd (fun hm1 => ?_) (fun hm1 => absurd hm1 (by omega))
    refine cPl (eS hrq hp.wd) fun v μ5 hle5 hR=>?_
    have hR:v= .bool (decide q.Pos):=hR
    subst hR
    refine iIn (fun hpos=>?_) (fun hpos=>?_)
    ·exact rPl ⟨_,hp.prom hok (fun _=>of_decide_eq_true hpos),hrq.mono hle5⟩
    ·refine cPl (lF (hrq.mono hle5) hp.wd) fun v μ6 hle6 hR => ?_
     have hR:v= .bool (decide q.Pure):=hR
     subst hR
     refine iIn (fun hpu=>?_) (fun hpu=>?_)
     ·exact rPl ⟨_,hp.prom hok (fun _=>Pg.Pure.pos (of_decide_eq_true hpu)),(hrq.mono hle5).mono hle6⟩
     ·refine cOw (gK ((((hc3.trans hc4).mono hle5).mono hle6)).at mode) fun v μd hd hled hapd hR => ?_
      obtain⟨l,hl,hrl⟩:=hR
      have w_:=Pg.invV hrl
      obtain⟨pd,rfl⟩:=w_
      exact rPl ⟨_,hl.prom,hrl⟩
  ·refine cOw (gK ((hc3.trans hc4)).at mode) fun v μd hd hled hapd hR => ?_
   obtain⟨l,hl,hrl⟩:=hR
   have w_:=Pg.invV hrl
   obtain⟨pd,rfl⟩:=w_
   exact rPl ⟨_,hl.prom,hrl⟩
 ·refine cOw (gK (hc3).at mode) fun v μd hd hled hapd hR => ?_
  obtain⟨l,hl,hrl⟩:=hR
  have w_:=Pg.invV hrl
  obtain⟨pd,rfl⟩:=w_
  exact rPl ⟨_,hl.prom,hrl⟩
end
end Go.Vx
namespace Go.Vx
open Go.Proofs Classical
section
variable {μ:Mem}
set_option maxHeartbeats 1000000 in
theorem iG{xs:List T}{t:T}{v vt:Value}(h:RepV μ (.sl 4 ((xs.map T.tm).map Tm.d)) v)(ht:RepV μ t.tm.d vt)(hasc:AscT xs)(hn:xs.length≤1000):
  Spec Tryz.prog 127 [v,vt] μ fun v' μ'=>∃ys,RepV μ' (.sl 4 ((ys.map T.tm).map Tm.d)) v'∧AscT ys∧(∀y∈ys,y=t∨y∈xs)∧1≤ys.length∧ys.length≤xs.length+1:=by
 have w_:=Rep.sl h
 obtain⟨b,c,rfl,hs⟩:=w_
 rw[List.length_map,List.length_map]at hs h ⊢
 have w_:=Rep.src h
 obtain⟨vs,hrows,hvs,hcap,hsrc⟩:=w_
 have w_:=Tm.invV ht
 obtain⟨q,rfl⟩:=w_
 refine Spec.mk Tryz.func127 (by kernel_rfl) ?_
 intro r3
 refine lIn (fun k:Nat=>k≤xs.length∧∀x,xs[k]? =some x→0≤x.cmp t) (fun k=>⟨[(0,.val (.slice b xs.length c)),(3,.loc 0 r3 0),(5,.val (.int .i64 k))],[(0,some (.cells r3 [.val (.int .i64 t.tm.kind),.val (.int .i64 t.tm.num),.val (.string t.tm.name),.val (.slice q.1 t.tm.args.length q.2)] 75))],1,μ,Mem.nil⟩) (fun k=>k)
  xs.length ⟨Nat.le_refl _,fun x hx=>by rw[List.getElem?_eq_none (Nat.le_refl _)]at hx;cases hx⟩ (fun _=>⟨rfl,rfl⟩) ⟨⟨rfl,rfl,rfl,trivial⟩,⟨rfl,trivial⟩,rfl,rfl⟩ ?_
 rintro k ⟨hk,hge⟩
 refine ifd (fun hk0=>?_) (fun hk0=>?_)
 ·obtain ⟨j, hj⟩ : ∃ j, k = j + 1 := ⟨k - 1, by omega⟩
  obtain⟨x,hx⟩:∃x,xs[j]? =some x:=⟨_,List.getElem?_eq_getElem (by omega)⟩
  have w_:=T.elemL hs hx
  obtain⟨ad,p,hel,hrx⟩:=w_
  refine aB (by omega) (by omega) ?_
  rw[show(k:Int)-1=(j:Int)from by omega]
  refine eIn hel ?_
  refine cGv (gR x t hrx ht) ?_
  refine iIn (fun hc=>?_) (fun hc=>?_)
  ·have hc := of_decide_eq_true hc
   refine aB (by omega) (by omega) ⟨j,⟨by omega,fun y hy=>by rw[hx]at hy;cases hy;exact hc⟩,by omega,⟨⟨rfl,rfl,?_,trivial⟩,⟨rfl,trivial⟩,rfl,rfl⟩⟩
   show some (SV.val (.int .i64 _))=some (SV.val (.int .i64 _))
   congr 3;omega
  ·have hc := of_decide_eq_false hc
   have hlow:∀j x,j+1=k→xs[j]? =some x→x.cmp t<0:=fun j' x' e hx'=>by
    obtain rfl:j'=j:=by omega
    rw[hx]at hx';cases hx'
    omega
   refine ifd (fun hlt=>?_) (fun hlt=>?_)
   ·obtain ⟨y, hy⟩ : ∃ y, xs[k]? = some y := ⟨_, List.getElem?_eq_getElem (by omega)⟩
    have w_:=T.elemL hs hy
    obtain⟨ady,py,hely,hry⟩:=w_
    refine eIn hely ?_
    refine cGv (eK y t hry ht) ?_
    refine iIn (fun hsm=>?_) (fun hsm=>?_)
    ·exact rPl ⟨xs,h,hasc,fun y hy=> .inr hy,by omega,by omega⟩
    ·have hsm := of_decide_eq_false hsm
     have hhi:∀x,xs[k]? =some x→t.cmp x<0:=fun x hx=>by
      rw[hy]at hx;cases hx
      have h1:=hge y hy
      have h2:y.cmp t≠0:=fun e=>hsm ((T.cmp_zero y t).1 e)
      exact(T.cmp_anti t y).2 (by omega)
     intro r5
     refine aG 0 k rfl rfl (by omega) (by omega) ?_
     refine aJ _ (hsrc 0 k (by omega) (by omega)) ?_
     refine gIn ?_ ?_ fun b1 c1 _=>?_
     ·show(0+_)*56≤_;simp;omega
     ·exact Nat.le_trans (m:=2000000000) (by simp;omega) (by decide)
     intro r6
     refine gIn ?_ ?_ fun b2 c2 _=>?_
     ·show(_+1)*56≤_;simp;omega
     ·exact Nat.le_trans (m:=2000000000) (by simp;omega) (by decide)
     refine aG k xs.length rfl rfl (by omega) (by omega) ?_
     refine aJ _ (hsrc k xs.length (by omega) (Nat.le_refl _)) ?_
     refine gIn ?_ ?_ fun b3 c3 _=>?_
     ·show(_+_)*56≤_;simp;omega
     ·exact Nat.le_trans (m:=3000000000) (by simp;omega) (by decide)
     have hr2:=((hrows.take k).append (Rows.one ht (Tm.d_n _))).append (hrows.drop k)
     refine rFz [1] fun μ2 hle2 hno2 hrow2=> .inl ⟨xs.take k++t::xs.drop k,?_,AscT.ins hasc (by omega) hhi hlow,fun y hy=>?_,by simp;omega,by simp;omega⟩
     ·have ev:(([]:List Value)++(vs.drop 0).take (k-0)++[Value.agg #[.int .i64 t.tm.kind,.int .i64 t.tm.num,.string t.tm.name,.slice q.1 t.tm.args.length q.2]]++(vs.drop k).take (xs.length-k))=vs.take k++[.agg #[.int .i64 t.tm.kind,.int .i64 t.tm.num,.string t.tm.name,.slice q.1 t.tm.args.length q.2]]++vs.drop k:=by
       simp
       rw[List.take_of_length_le (by simp;omega)]
      have e2:(((xs.take k++t::xs.drop k).map T.tm).map Tm.d)=((xs.map T.tm).map Tm.d).take k++[t.tm.d]++((xs.map T.tm).map Tm.d).drop k:=by simp
      have hrow2:=ev ▸ hrow2
      have:=Rows.sl hrow2 (hr2.mono hle2) (Nat.le_trans (m:=3000000000) (by simp;omega) (by decide))
      rw[←e2]at this
      rw[←ev]at this
      exact this
     ·rcases List.mem_append.1 hy with hy | hy
      ·exact .inr (List.mem_of_mem_take hy)
      ·rcases List.mem_cons.1 hy with rfl | hy
       ·exact .inl rfl
       ·exact .inr (List.mem_of_mem_drop hy)
   ·have hhi : ∀ x, xs[k]? = some x → t.cmp x < 0 := fun x hx => by have := (List.getElem?_eq_some_iff.1 hx).1; omega
    intro r5
    refine aG 0 k rfl rfl (by omega) (by omega) ?_
    refine aJ _ (hsrc 0 k (by omega) (by omega)) ?_
    refine gIn ?_ ?_ fun b1 c1 _=>?_
    ·show(0+_)*56≤_;simp;omega
    ·exact Nat.le_trans (m:=2000000000) (by simp;omega) (by decide)
    intro r6
    refine gIn ?_ ?_ fun b2 c2 _=>?_
    ·show(_+1)*56≤_;simp;omega
    ·exact Nat.le_trans (m:=2000000000) (by simp;omega) (by decide)
    refine aG k xs.length rfl rfl (by omega) (by omega) ?_
    refine aJ _ (hsrc k xs.length (by omega) (Nat.le_refl _)) ?_
    refine gIn ?_ ?_ fun b3 c3 _=>?_
    ·show(_+_)*56≤_;simp;omega
    ·exact Nat.le_trans (m:=3000000000) (by simp;omega) (by decide)
    have hr2:=((hrows.take k).append (Rows.one ht (Tm.d_n _))).append (hrows.drop k)
    refine rFz [1] fun μ2 hle2 hno2 hrow2=> .inl ⟨xs.take k++t::xs.drop k,?_,AscT.ins hasc (by omega) hhi hlow,fun y hy=>?_,by simp;omega,by simp;omega⟩
    ·have ev:(([]:List Value)++(vs.drop 0).take (k-0)++[Value.agg #[.int .i64 t.tm.kind,.int .i64 t.tm.num,.string t.tm.name,.slice q.1 t.tm.args.length q.2]]++(vs.drop k).take (xs.length-k))=vs.take k++[.agg #[.int .i64 t.tm.kind,.int .i64 t.tm.num,.string t.tm.name,.slice q.1 t.tm.args.length q.2]]++vs.drop k:=by
      simp
      rw[List.take_of_length_le (by simp;omega)]
     have e2:(((xs.take k++t::xs.drop k).map T.tm).map Tm.d)=((xs.map T.tm).map Tm.d).take k++[t.tm.d]++((xs.map T.tm).map Tm.d).drop k:=by simp
     have hrow2:=ev ▸ hrow2
     have:=Rows.sl hrow2 (hr2.mono hle2) (Nat.le_trans (m:=3000000000) (by simp;omega) (by decide))
     rw[←e2]at this
     rw[←ev]at this
     exact this
    ·rcases List.mem_append.1 hy with hy | hy
     ·exact .inr (List.mem_of_mem_take hy)
     ·rcases List.mem_cons.1 hy with rfl | hy
      ·exact .inl rfl
      ·exact .inr (List.mem_of_mem_drop hy)
 ·have hlow : ∀ j x, j + 1 = k → xs[j]? = some x → x.cmp t < 0 := fun j' x' e => by omega
  refine ifd (fun hlt=>?_) (fun hlt=>?_)
  ·obtain ⟨y, hy⟩ : ∃ y, xs[k]? = some y := ⟨_, List.getElem?_eq_getElem (by omega)⟩
   have w_:=T.elemL hs hy
   obtain⟨ady,py,hely,hry⟩:=w_
   refine eIn hely ?_
   refine cGv (eK y t hry ht) ?_
   refine iIn (fun hsm=>?_) (fun hsm=>?_)
   ·exact rPl ⟨xs,h,hasc,fun y hy=> .inr hy,by omega,by omega⟩
   ·have hsm := of_decide_eq_false hsm
    have hhi:∀x,xs[k]? =some x→t.cmp x<0:=fun x hx=>by
     rw[hy]at hx;cases hx
     have h1:=hge y hy
     have h2:y.cmp t≠0:=fun e=>hsm ((T.cmp_zero y t).1 e)
     exact(T.cmp_anti t y).2 (by omega)
    intro r5
    refine aG 0 k rfl rfl (by omega) (by omega) ?_
    refine aJ _ (hsrc 0 k (by omega) (by omega)) ?_
    refine gIn ?_ ?_ fun b1 c1 _=>?_
    ·show(0+_)*56≤_;simp;omega
    ·exact Nat.le_trans (m:=2000000000) (by simp;omega) (by decide)
    intro r6
    refine gIn ?_ ?_ fun b2 c2 _=>?_
    ·show(_+1)*56≤_;simp;omega
    ·exact Nat.le_trans (m:=2000000000) (by simp;omega) (by decide)
    refine aG k xs.length rfl rfl (by omega) (by omega) ?_
    refine aJ _ (hsrc k xs.length (by omega) (Nat.le_refl _)) ?_
    refine gIn ?_ ?_ fun b3 c3 _=>?_
    ·show(_+_)*56≤_;simp;omega
    ·exact Nat.le_trans (m:=3000000000) (by simp;omega) (by decide)
    have hr2:=((hrows.take k).append (Rows.one ht (Tm.d_n _))).append (hrows.drop k)
    refine rFz [1] fun μ2 hle2 hno2 hrow2=> .inl ⟨xs.take k++t::xs.drop k,?_,AscT.ins hasc (by omega) hhi hlow,fun y hy=>?_,by simp;omega,by simp;omega⟩
    ·have ev:(([]:List Value)++(vs.drop 0).take (k-0)++[Value.agg #[.int .i64 t.tm.kind,.int .i64 t.tm.num,.string t.tm.name,.slice q.1 t.tm.args.length q.2]]++(vs.drop k).take (xs.length-k))=vs.take k++[.agg #[.int .i64 t.tm.kind,.int .i64 t.tm.num,.string t.tm.name,.slice q.1 t.tm.args.length q.2]]++vs.drop k:=by
      simp
      rw[List.take_of_length_le (by simp;omega)]
     have e2:(((xs.take k++t::xs.drop k).map T.tm).map Tm.d)=((xs.map T.tm).map Tm.d).take k++[t.tm.d]++((xs.map T.tm).map Tm.d).drop k:=by simp
     have hrow2:=ev ▸ hrow2
     have:=Rows.sl hrow2 (hr2.mono hle2) (Nat.le_trans (m:=3000000000) (by simp;omega) (by decide))
     rw[←e2]at this
     rw[←ev]at this
     exact this
    ·rcases List.mem_append.1 hy with hy | hy
     ·exact .inr (List.mem_of_mem_take hy)
     ·rcases List.mem_cons.1 hy with rfl | hy
      ·exact .inl rfl
      ·exact .inr (List.mem_of_mem_drop hy)
  ·have hhi : ∀ x, xs[k]? = some x → t.cmp x < 0 := fun x hx => by have := (List.getElem?_eq_some_iff.1 hx).1; omega
   intro r5
   refine aG 0 k rfl rfl (by omega) (by omega) ?_
   refine aJ _ (hsrc 0 k (by omega) (by omega)) ?_
   refine gIn ?_ ?_ fun b1 c1 _=>?_
   ·show(0+_)*56≤_;simp;omega
   ·exact Nat.le_trans (m:=2000000000) (by simp;omega) (by decide)
   intro r6
   refine gIn ?_ ?_ fun b2 c2 _=>?_
   ·show(_+1)*56≤_;simp;omega
   ·exact Nat.le_trans (m:=2000000000) (by simp;omega) (by decide)
   refine aG k xs.length rfl rfl (by omega) (by omega) ?_
   refine aJ _ (hsrc k xs.length (by omega) (Nat.le_refl _)) ?_
   refine gIn ?_ ?_ fun b3 c3 _=>?_
   ·show(_+_)*56≤_;simp;omega
   ·exact Nat.le_trans (m:=3000000000) (by simp;omega) (by decide)
   have hr2:=((hrows.take k).append (Rows.one ht (Tm.d_n _))).append (hrows.drop k)
   refine rFz [1] fun μ2 hle2 hno2 hrow2=> .inl ⟨xs.take k++t::xs.drop k,?_,AscT.ins hasc (by omega) hhi hlow,fun y hy=>?_,by simp;omega,by simp;omega⟩
   ·have ev:(([]:List Value)++(vs.drop 0).take (k-0)++[Value.agg #[.int .i64 t.tm.kind,.int .i64 t.tm.num,.string t.tm.name,.slice q.1 t.tm.args.length q.2]]++(vs.drop k).take (xs.length-k))=vs.take k++[.agg #[.int .i64 t.tm.kind,.int .i64 t.tm.num,.string t.tm.name,.slice q.1 t.tm.args.length q.2]]++vs.drop k:=by
     simp
     rw[List.take_of_length_le (by simp;omega)]
    have e2:(((xs.take k++t::xs.drop k).map T.tm).map Tm.d)=((xs.map T.tm).map Tm.d).take k++[t.tm.d]++((xs.map T.tm).map Tm.d).drop k:=by simp
    have hrow2:=ev ▸ hrow2
    have:=Rows.sl hrow2 (hr2.mono hle2) (Nat.le_trans (m:=3000000000) (by simp;omega) (by decide))
    rw[←e2]at this
    rw[←ev]at this
    exact this
   ·rcases List.mem_append.1 hy with hy | hy
    ·exact .inr (List.mem_of_mem_take hy)
    ·rcases List.mem_cons.1 hy with rfl | hy
     ·exact .inl rfl
     ·exact .inr (List.mem_of_mem_drop hy)
end
end Go.Vx
namespace Go.Vx
open Go.Proofs Classical
section
variable {μ:Mem}
set_option maxHeartbeats 1000000 in
theorem lA{h:Mem}{r:Nat}(hc:Cur μ h r h)(most:Nat)(hm:1≤most)(hm8:most≤8):
  SpecH Tryz.prog 56 [.pointer (some ⟨r,0,none⟩),.int .i64 most] μ h fun v μ' _=>∃xs,Uni most xs∧RepV μ' (.sl 4 ((xs.map T.tm).map Tm.d)) v:=by
 refine SpecH.mk [] Tryz.func56 (by kernel_rfl) ?_
 intro r7
 refine aS [0] fun μ0 hle0 hno0 hat0=>lC (aI (hc.mono hle0) most) fun v μ1 h1 hle1 hap1 hR=>?_
 obtain⟨e,hc1,k0,rfl,-,hk0,-⟩:=hR
 obtain rfl:=e.symm
 have hk0:=hk0 (by omega)
 have hr0:RepV μ0 (.sl 4 ((([]:List T).map T.tm).map Tm.d)) (.slice (some ⟨r7,0,none⟩) 0 0):=Rows.sl hat0 Rows.nil (Nat.zero_le _)
 refine aB (by omega) (by omega) ?_
 refine lIn (fun z:Nat×Nat×List T×(Option Addr×Nat)×Mem×Mem=>z.1+z.2.1=1+k0∧(z.1=0→z.2.2.1=[]∧z.2.2.2.1=(some ⟨r7,0,none⟩,0))∧(0<z.1→1≤z.2.2.1.length)∧z.2.2.1.length≤z.1∧RepV z.2.2.2.2.1 (.sl 4 ((z.2.2.1.map T.tm).map Tm.d)) (.slice z.2.2.2.1.1 z.2.2.1.length z.2.2.2.1.2)∧AscT z.2.2.1∧(∀t∈z.2.2.1,Drawn 2 0 t)∧Cur z.2.2.2.2.1 h r z.2.2.2.2.2)
  (fun(i,k,xs,(b,c),μ',h')=>⟨[(0,.val (.pointer (some ⟨r,0,none⟩))),(5,match i with|0=> .row 0 (some r7) 0 0|_+1=> .val (.slice b xs.length c)),(6,.val (.int .i64 k))],[],1,μ',h'⟩) (fun z=>z.2.1)
  (0,1+k0,[],(some ⟨r7,0,none⟩,0),μ0,h1) ⟨by dsimp only;omega,fun _=>⟨rfl,rfl⟩,fun h=>absurd h (by dsimp only;omega),Nat.zero_le _,hr0,(fun _ _ _ h=>nomatch h),(fun _ h=>nomatch h),hc1⟩ (fun(i,_,_,(_,_),_,_)=>match i with|0=>⟨rfl,rfl⟩|_+1=>⟨rfl,rfl⟩) ⟨⟨rfl,rfl,by show some (SV.val (.int .i64 _))=some (SV.val (.int .i64 _));congr 3,trivial⟩,trivial,rfl,rfl⟩ ?_
 clear hc1 hap1
 rintro⟨i,k,xs,⟨b,c⟩,μ1,h1⟩ ⟨hik,hz,hpos,hxl,hr,hasc,hdr,hc1⟩
 dsimp only at hik hz hpos hxl hr hasc hdr hc1
 match i with
 |0=>
  have w_:=hz rfl
  obtain⟨rfl,e⟩:=w_
  obtain⟨rfl,rfl⟩:=Prod.mk.inj e
  refine ifd (fun hlt=>?_) (fun hlt=>absurd hlt (by omega))
  refine cOw (aI hc1.at 2) fun v μ2 h2 hle2 hap2 hR=>?_
  obtain⟨e,hc2,k2,rfl,-,hk22,-⟩:=hR
  obtain rfl:=e.symm
  have hk22:=hk22 (by decide)
  have drawn:∃size:Nat,size≤1000∧1+2*(k2:Int)=(size:Int)∧lvB size≤2:=by
   have w_:k2=0∨k2=1:=by omega
   rcases w_ with rfl|rfl
   ·exact⟨1,by decide,rfl,by rw[lvB,if_neg (by decide)];decide⟩
   ·exact⟨3,by decide,rfl,by rw[xA];decide⟩
  obtain⟨size,hs1,hs2,hs3⟩:=drawn
  refine aB (by omega) (by omega) (aB (by omega) (by omega) ?_)
  rw[hs2]
  refine cOw (cN 0 (by decide) size hs1 (hc1.trans hc2).at) fun v μ3 h3 hle3 hap3 hR=>?_
  obtain⟨hc3,t,hrt,hdt⟩:=hR
  refine cPl (iG (hr.mono hle3) hrt hasc (by omega)) fun v4 μ4 hle4 hR4=>?_
  obtain⟨ys,hry,hya,hym,hy1,hyl⟩:=hR4
  have w_:=Rep.sl hry
  obtain⟨by_,cy,rfl,-⟩:=w_
  rw[List.length_map,List.length_map]at hry ⊢
  refine aB (by omega) (by omega) ⟨(0+1,k-1,ys,(by_,cy),μ4,h3),⟨by dsimp only;omega,(fun e=>by simp at e),fun _=>hy1,by dsimp only;omega,hry,hya,fun y hy=>?_,((hc1.trans hc2).trans hc3).mono hle4⟩,by dsimp only;omega,⟨⟨rfl,rfl,?_,trivial⟩,trivial,rfl,rfl⟩⟩
  ·rcases hym y hy with rfl | hy
   ·exact hdt.mono hs3
   ·exact hdr y hy
  ·show some (SV.val (.int .i64 _)) = some (SV.val (.int .i64 _))
   congr 3;omega
 |i+1=>
  refine ifd (fun hlt=>?_) (fun hlt=>?_)
  ·refine cOw (aI hc1.at 2) fun v μ2 h2 hle2 hap2 hR => ?_
   obtain⟨e,hc2,k2,rfl,-,hk22,-⟩:=hR
   obtain rfl:=e.symm
   have hk22:=hk22 (by decide)
   have drawn:∃size:Nat,size≤1000∧1+2*(k2:Int)=(size:Int)∧lvB size≤2:=by
    have w_:k2=0∨k2=1:=by omega
    rcases w_ with rfl|rfl
    ·exact⟨1,by decide,rfl,by rw[lvB,if_neg (by decide)];decide⟩
    ·exact⟨3,by decide,rfl,by rw[xA];decide⟩
   obtain⟨size,hs1,hs2,hs3⟩:=drawn
   refine aB (by omega) (by omega) (aB (by omega) (by omega) ?_)
   rw[hs2]
   refine cOw (cN 0 (by decide) size hs1 (hc1.trans hc2).at) fun v μ3 h3 hle3 hap3 hR=>?_
   obtain⟨hc3,t,hrt,hdt⟩:=hR
   refine cPl (iG (hr.mono hle3) hrt hasc (by omega)) fun v4 μ4 hle4 hR4=>?_
   obtain⟨ys,hry,hya,hym,hy1,hyl⟩:=hR4
   have w_:=Rep.sl hry
   obtain⟨by_,cy,rfl,-⟩:=w_
   rw[List.length_map,List.length_map]at hry ⊢
   refine aB (by omega) (by omega) ⟨((i+1)+1,k-1,ys,(by_,cy),μ4,h3),⟨by dsimp only;omega,(fun e=>by simp at e),fun _=>hy1,by dsimp only;omega,hry,hya,fun y hy=>?_,((hc1.trans hc2).trans hc3).mono hle4⟩,by dsimp only;omega,⟨⟨rfl,rfl,?_,trivial⟩,trivial,rfl,rfl⟩⟩
   ·rcases hym y hy with rfl | hy
    ·exact hdt.mono hs3
    ·exact hdr y hy
   ·show some (SV.val (.int .i64 _)) = some (SV.val (.int .i64 _))
    congr 3;omega
  ·exact rPl ⟨xs,⟨hasc,hpos (by omega),by omega,hdr⟩,hr⟩
theorem kD{base:Option Addr}{n cap:Nat}(hb:Bytes μ base n)(m:Int)(hm:m≤1000000)(most:Nat)(hm1:1≤most)(h8:most≤8):
  Spec Tryz.prog 12 [.slice base n cap,.int .i64 m,.int .i64 most] μ fun v μ'=>∃xs,Uni most xs∧RepV μ' (.sl 4 ((xs.map T.tm).map Tm.d)) v:=by
 refine Spec.mk Tryz.func12 (by kernel_rfl) ?_
 refine cOw (gU hb m hm) fun v μ1 h1 hle1 hap1 hR=>?_
 obtain⟨e,r,rfl,ho,hc1⟩:=hR
 obtain rfl:=e.symm
 refine cOw (lA hc1.at most hm1 h8) fun v μ2 h2 hle2 hap2 hR=>?_
 exact rPl hR
end
end Go.Vx
namespace Go.Vx
open Go.Proofs Classical
theorem F.eq_of{a b:F}(h1:a.rel=b.rel)(h2:a.args=b.args):a=b:=by
 cases a;cases b;cases h1;cases h2;rfl
section
variable {μ:Mem}
theorem F.invV{f:F}{v:Value}(h:RepV μ f.fc.d v):∃p:Fc.P,v= .agg #[.string f.rel,.slice p.1 f.args.length p.2]∧Sl μ 4 p.1 f.args.length ((f.args.map T.tm).map Tm.d):=by
 have w_:=Fc.inv h
 obtain⟨p,rfl,hA⟩:=w_
 have e:f.fc.args.length=f.args.length:=List.length_map _
 rw[e]
 refine⟨p,rfl,?_⟩
 have hA:Sl μ 4 p.1 f.fc.args.length (f.fc.args.map Tm.d):=hA
 rw[e]at hA
 exact hA
theorem F.elemV{l:List F}{base:Option Addr}{n:Nat}(h:Sl μ 2 base n ((l.map F.fc).map Fc.d)){i:Nat}{x:F}(hx:l[i]? =some x):∃ad,∃p:Fc.P,ElemAt μ base n 2 i ad [.string x.rel,.slice p.1 x.args.length p.2]∧RepV μ x.fc.d (.agg #[.string x.rel,.slice p.1 x.args.length p.2]):=by
 have w_:=Fc.elem h (i:=i) (x:=x.fc) (by rw[List.getElem?_map,hx];rfl)
 obtain⟨ad,p,h1,h2⟩:=w_
 have e:x.fc.cs p=[.string x.rel,.slice p.1 x.args.length p.2]:=by
  have e:x.fc.args.length=x.args.length:=List.length_map _
  show [Value.string x.rel,.slice p.1 x.fc.args.length p.2]=_
  rw[e]
 rw[e]at h1 h2
 exact⟨ad,p,h1,h2⟩
theorem yN{f g:F}{v w:Value}(hv:RepV μ f.fc.d v)(hw:RepV μ g.fc.d w):aM Tryz.prog 41 [v,w] μ (.bool (decide (f=g))):=by
 have w_:=F.invV hv
 obtain⟨p,rfl,hp⟩:=w_
 have w_:=F.invV hw
 obtain⟨q,rfl,hq⟩:=w_
 refine Spec.mk Tryz.func41 (by kernel_rfl) ?_
 intro r2 r3
 refine ifd (fun h=>?_) (fun h=>?_)
 ·refine cGv (yS hp hq) (rGv ?_ rfl)
  congr 1
  rw[Bool.eq_iff_iff,decide_eq_true_eq,decide_eq_true_eq]
  exact⟨fun e=>F.eq_of h e,fun e=>by rw[e]⟩
 ·refine rGv ?_ rfl
  rw[decide_eq_false fun e=>h (by rw[e])]
theorem qNt{l:List F}{f:F}{base:Option Addr}{cap:Nat}{w:Value}(hl:Sl μ 2 base l.length ((l.map F.fc).map Fc.d))(hw:RepV μ f.fc.d w):aM Tryz.prog 20 [.slice base l.length cap,w] μ (.bool (decide (f∈l))):=by
 have hmx:=aH hl.max
 have w_:=F.invV hw
 obtain⟨q,rfl,hq⟩:=w_
 refine Spec.mk Tryz.func20 (by kernel_rfl) ?_
 intro r3
 refine lIn (fun i:Nat=>i≤l.length∧∀(j:Nat) x,j<i→l[j]? =some x→x≠f) (fun i=>⟨[(3,.loc 0 r3 0),(7,.val (.slice base l.length cap)),(8,.val (.int .i64 l.length)),(9,.val (.int .i64 i))],[(0,some (.cells r3 [.val (.string f.rel),.val (.slice q.1 f.args.length q.2)] 41))],1,μ,Mem.nil⟩) (fun i=>l.length-i)
  0 ⟨Nat.zero_le _,fun j x hj=>by omega⟩ (fun _=>⟨rfl,rfl⟩) ⟨⟨rfl,rfl,rfl,rfl,trivial⟩,⟨rfl,trivial⟩,rfl,rfl⟩ ?_
 rintro i ⟨hi,hall⟩
 refine ifd (fun hlt=>?_) (fun hlt=>?_)
 ·have w_ := aSo (l := l) (i := i) (by omega)
  obtain⟨x,hx⟩:=w_
  have w_:=F.elemV hl hx
  obtain⟨ad,p,hel,hrx⟩:=w_
  refine eIn hel ?_
  intro r6
  refine cGv (yN hrx hw) ?_
  refine iIn (fun h=>?_) (fun h=>?_)
  ·have h : x = f := of_decide_eq_true h
   refine rGv ?_ rfl
   rw[decide_eq_true (by rw[←h];exact List.mem_of_getElem? hx)]
  ·have h : x ≠ f := of_decide_eq_false h
   refine aB (by omega) (by omega) ⟨i+1,⟨by omega,fun j y hj hy=>?_⟩,by omega,⟨⟨rfl,rfl,rfl,rfl,trivial⟩,⟨rfl,trivial⟩,rfl,rfl⟩⟩
   by_cases e:j=i
   ·subst e;rw[hx]at hy;cases hy;exact h
   ·exact hall j y (by omega) hy
 ·refine rGv ?_ rfl
  rw[decide_eq_false]
  intro hm
  have w_:=List.getElem?_of_mem hm
  obtain⟨j,hj⟩:=w_
  exact hall j f (by have:=(List.getElem?_eq_some_iff.1 hj).1;omega) hj rfl
end
end Go.Vx
namespace Go.Vx
open Go.Proofs Classical
structure FsU (p:Pg) (U:List T) (L:List F):Prop where
 fit:FsOk p L
 uni:∀f∈L,∀a∈f.args,a∈U
 asc:Asc3 dC L
theorem FsU.base{p:Pg}{U:List T}{L:List F}{rs:List Ru}(h:FsU p U L)(hp:p.Pos)(hg:bX p (U.map T.tm)=some rs):qOx p (U.map T.tm) (L.map F.fc):=
 ⟨by rw[hg];exact(fun h=>nomatch h),hp,h.fit.lift,by rw[F.fcs,gO];exact h.uni,by rw[F.fcs,List.length_map];exact AscF.of h.asc _⟩
end Go.Vx
namespace Go.Vx
open Go.Proofs Classical
theorem OkP.heads{p:Pg}{x:Pf}(h:OkP p x):∃r c,NodeAt p x r c∧(∀y∈x.kids,OkP p y)∧bQ x.vs c=x.kids.map (dM p):=by
 have w_:=h.inv
 obtain⟨r,c,h1,h2,h3⟩:=w_
 refine⟨r,c,h1,h2,List.ext_getElem? fun i=>?_⟩
 rw[List.getElem?_map]
 by_cases hi:i<x.kids.length
 ·have w_ := aSo (l := x.kids) hi
  obtain⟨y,hy⟩:=w_
  rw[h3 i y hy,hy];rfl
 ·rw[List.getElem?_eq_none (by rw[h1.pos];omega),List.getElem?_eq_none (by omega)];rfl
section
variable {p:Pg} {nm:ByteArray} {cl ca:Int} {ds:List (List Gl)}
theorem mW{p:Pg}{y:Pf}{r:Rl}{c:List Gl}(h:NodeAt p y r c):dM p y=⟨y.rel,y.vs.take r.arity.toNat⟩:=by
 obtain⟨k,e1,e2⟩:=h.rel
 rw[dM,e1,Int.toNat_natCast,e2];rfl
end
end Go.Vx
namespace Go.Vx
open Go.Proofs Classical
theorem sW(U:List T):∀vs:List T,(∀v∈vs,v∈U)→∃w,w<U.length ^ vs.length∧dR U vs.length w=vs
 |[],_=>⟨0,by simp,rfl⟩
 |v::vs,h=>by
  have w_:=sW U vs fun x hx=>h x (List.mem_cons_of_mem _ hx)
  obtain⟨w,hw,e⟩:=w_
  have w_:=List.getElem?_of_mem (h v (by simp))
  obtain⟨j,hj⟩:=w_
  have hjl:=(List.getElem?_eq_some_iff.1 hj).1
  refine⟨j+U.length*w,?_,?_⟩
  ·have h1 : U.length * w + U.length ≤ U.length * U.length ^ vs.length := by rw [← Nat.mul_succ]; exact Nat.mul_le_mul_left _ hw
   rw[List.length_cons,Nat.pow_succ,Nat.mul_comm (U.length ^ vs.length)]
   omega
  ·rw [List.length_cons, dR, Nat.add_mul_mod_self_left, Nat.mod_eq_of_lt hjl, Nat.add_mul_div_left _ _ (by omega), Nat.div_eq_of_lt hjl, Nat.zero_add, e, List.getD_eq_getElem?_getD, hj]
   rfl
theorem gQ{p:Pg}{U:List T}(hU:0<U.length){ru:Ru}:ru∈cC p U↔∃r L i c vs,IsRule p U ru r L i c vs:=by
 constructor
 ·intro hr
  have w_:=List.mem_flatMap.1 hr
  obtain⟨rel,hrel,hr⟩:=w_
  rw[cD]at hr
  split at hr
  ·simp at hr
  ·rename_i L hL
   rw[aY,List.mem_flatMap]at hr
   obtain⟨i,hi,hr⟩:=hr
   rw[List.mem_range]at hi
   have w_:=aSo (l:=L) (i:=i) hi
   obtain⟨c,hc⟩:=w_
   have ec:L.getD i []=c:=by rw[List.getD_eq_getElem?_getD,hc];rfl
   rw[ec,bI,List.mem_filterMap]at hr
   obtain⟨w,-,hr⟩:=hr
   rw[dY]at hr
   split at hr
   ·rename_i hok
    cases hr
    exact⟨rel,L,i,c,_,hrel,hL,hc,gG ..,mR U hU _ _,hok,rfl⟩
   ·cases hr
 ·rintro ⟨r, L, i, c, vs, h⟩
  have w_:=sW U vs h.uni
  obtain⟨w,hw,e⟩:=w_
  rw[h.len]at hw e
  refine List.mem_flatMap.2 ⟨r,h.rel,?_⟩
  rw[cD,h.cl]
  show ru∈aY U r L L.length
  rw[aY,List.mem_flatMap]
  refine⟨i,List.mem_range.2 (List.getElem?_eq_some_iff.1 h.at_).1,?_⟩
  have ec:L.getD i []=c:=by rw[List.getD_eq_getElem?_getD,h.at_];rfl
  rw[ec,bI,List.mem_filterMap]
  refine⟨w,List.mem_range.2 hw,?_⟩
  rw[dY,e,if_pos h.ok,h.eq]
theorem qUg{p:Pg}{U:List T}(hU:0<U.length){ru:Ru}(h:ru∈cC p U):∀a∈ru.head.args,a∈U:=fun a ha=>by
 have w_:=(gQ hU).1 h
 obtain⟨r,L,i,c,vs,k⟩:=w_
 rw[k.eq]at ha
 exact k.uni a (List.mem_of_mem_take ha)
end Go.Vx
namespace Go.Vx
open Go.Proofs Classical
inductive PfU (U:List T):Pf→Prop
 |mk {x:Pf} (rel:x.rel.size≤1000) (cl:0≤x.clause∧x.clause≤100000) (vals:∃vs:List T,x.values=vs.map T.tm∧∀a∈vs,a∈U) (kids:∀y∈x.kids,PfU U y):PfU U x
theorem PfU.rel{U:List T}{x:Pf}(h:PfU U x):x.rel.size≤1000:=by cases h;assumption
theorem PfU.cl{U:List T}{x:Pf}(h:PfU U x):0≤x.clause∧x.clause≤100000:=by cases h;assumption
theorem PfU.vals{U:List T}{x:Pf}(h:PfU U x):∃vs:List T,x.values=vs.map T.tm∧∀a∈vs,a∈U:=by cases h;assumption
theorem PfU.kids{U:List T}{x:Pf}(h:PfU U x):∀y∈x.kids,PfU U y:=by cases h;assumption
theorem qKx{rs:List Ru}{n i:Nat}(h:i≤n):(stD rs n)[i]? =some (fsD (stF rs i)):=by
 rw[stD,List.getElem?_map,List.getElem?_range (by omega)];rfl
section
variable {μ:Mem}
theorem sG{rs:List Ru}{n i:Nat}{b:Option Addr}(h:Sl μ 1 b (n+1) (stD rs n))(hi:i≤n):∃ad,∃q:Option Addr×Nat,ElemAt μ b (n+1) 1 i ad [.slice q.1 (stF rs i).length q.2]∧FsV μ (stF rs i) (.slice q.1 (stF rs i).length q.2):=by
 have w_:=h.get i (fsD (stF rs i)) (qKx hi)
 obtain⟨ad,cs,h1,h2⟩:=w_
 have h3:Rep μ (fsD (stF rs i)) cs:=h2
 have hl:=Rep.len _ _ h3
 match cs,hl with
 |[v],_=>
  have h4:FsV μ (stF rs i) v:=h3
  have w_:=FsV.sl h4
  obtain⟨b5,c5,rfl,-,_⟩:=w_
  exact⟨ad,(b5,c5),h1,h4⟩
theorem Ru.vsl{r:Ru}{p:RuD.P}(h:RepV μ r.rd.d (.agg (r.cs p).toArray)):Sl μ 4 p.2.1.1 r.vals.length ((r.vals.map T.tm).map Tm.d):=by
 have w_:=Ru.inv h
 obtain⟨q,e,h1,h2,h3,h4⟩:=w_
 have e:=Value.agg.inj e
 have e:r.cs p=r.cs q:=by simpa[Ru.cs]using congrArg Array.toList e
 simp only[Ru.cs,List.cons.injEq,Value.slice.injEq,true_and,and_true]at e
 obtain⟨⟨e1,e2⟩,⟨e3,e4⟩,⟨e5,e6⟩,e7,e8⟩:=e
 rw[e3];exact h2
theorem nJ{rs:List Ru}{n:Nat}{b:Option Addr}{c:Nat}{f:F}{w:Value}(hs:Sl μ 1 b (n+1) (stD rs n))(hn:n≤1000000)(hf:RepV μ f.fc.d w):
  Spec Tryz.prog 219 [.slice b (n+1) c,w] μ fun v μ'=>μ'=μ∧∃h:Int,v= .int .i64 h∧ -1≤h∧h≤n:=by
 have w_:=F.invV hf
 obtain⟨q,rfl,hq⟩:=w_
 refine Spec.mk Tryz.func219 (by kernel_rfl) ?_
 intro r3
 refine lIn (fun i:Nat=>i≤n+1) (fun i=>⟨[(3,.loc 0 r3 0),(7,.val (.slice b (n+1) c)),(8,.val (.int .i64 ((n+1:Nat):Int))),(9,.val (.int .i64 i))],[(0,some (.cells r3 [.val (.string f.rel),.val (.slice q.1 f.args.length q.2)] 41))],1,μ,Mem.nil⟩) (fun i=>n+1-i)
  0 (Nat.zero_le _) (fun _=>⟨rfl,rfl⟩) ⟨⟨rfl,rfl,rfl,rfl,trivial⟩,⟨rfl,trivial⟩,rfl,rfl⟩ ?_
 intro i hi
 refine ifd (fun hlt=>?_) (fun hlt=>?_)
 ·have w_ := sG hs (i := i) (by omega)
  obtain⟨ad,q2,hel,hst⟩:=w_
  have w_:=FsV.sl hst
  obtain⟨b2,c2,e2,-,hs2⟩:=w_
  have w_:=Value.slice.inj e2
  obtain⟨e3,-,e4⟩:=w_
  rw[←e3]at hs2
  refine eIn hel ?_
  refine cGv (nH hs2 hf) ?_
  refine ifd (fun _=>rPl ⟨rfl,i,rfl,by omega,by omega⟩) (fun _=>?_)
  exact aB (by omega) (by omega) ⟨i+1,by omega,by omega,⟨⟨rfl,rfl,rfl,rfl,trivial⟩,⟨rfl,trivial⟩,rfl,rfl⟩⟩
 ·exact rPl ⟨rfl,-1,rfl,by omega,by omega⟩
def PfRows(μ μ':Mem)(x:Pf)(v:Value):Prop:=∃(μe:Mem) (r1 c1:Nat) (us1:List Value) (b2:Option Nat) (c2:Nat) (us2:List Value),v= .agg #[.string x.rel,.int .i64 x.clause,.slice (some ⟨r1,0,none⟩) us1.length c1,.slice (b2.map fun r=>⟨r,0,none⟩) us2.length c2]∧
 μ.Le μe∧μe.Le μ'∧Rows μe 4 (x.values.map Tm.d) us1∧Rows μe 4 (x.kids.map Pf.d) us2∧μe r1=none∧(∀r,b2=some r→μe r=none∧r≠r1)∧RowAt μ' (some r1) c1 4 us1∧RowAt μ' b2 c2 4 us2∧us1.length≤1000000∧us2.length≤1000000
theorem PfRows.rep{μ':Mem}{x:Pf}{v:Value}(h:PfRows μ μ' x v):RepV μ' x.d v:=by
 obtain⟨μe,r1,c1,us1,b2,c2,us2,rfl,-,hle,h1,h2,-,-,h3,h4,h5,h6⟩:=h
 have k1:=Rows.sl h3 (h1.mono hle) (Nat.le_trans h5 (by decide))
 have k2:=Rows.sl h4 (h2.mono hle) (Nat.le_trans h6 (by decide))
 rw[Pf.d_eq]
 exact⟨_,rfl,RepS.str (RepS.int (RepS.cons1 k1 (RepS.last k2)))⟩
def optPf(U:List T)(μ μ':Mem)(v:Value):Prop:=v= .tuple #[.agg #[.string ⟨#[]⟩,.int .i64 0,.slice none 0 0,.slice none 0 0],.bool false]∨∃x pv,v= .tuple #[pv,.bool true]∧PfRows μ μ' x pv∧PfU U x
set_option maxHeartbeats 8000000 in
set_option maxRecDepth 20000 in
theorem xT{U:List T}{rs:List Ru}{n:Nat}{b3 b:Option Addr}{c3 c:Nat}(hn:n≤1000000)(hrn:rs.length≤2000)(hvu:∀r∈rs,(∀a∈r.vals,a∈U)∧r.vals.length≤100∧r.pos.length≤1000∧(0≤r.clause∧r.clause≤1000)∧r.head.rel.size≤1000):
  ∀(k:Nat) {most:Int} {f:F} {w:Value} {μ:Mem},most≤k→ -1000000≤most→k≤1000→Sl μ 6 b3 rs.length ((rs.map Ru.rd).map RuD.d)→Sl μ 1 b (n+1) (stD rs n)→RepV μ f.fc.d w→
  Spec Tryz.prog 158 [.slice b3 rs.length c3,.slice b (n+1) c,w,.int .i64 most] μ fun v μ'=>optPf U μ μ' v:=fun k=>by
 induction k with
 |zero=>
  intro most f w μ hm h0 hk hr hs hf
  have w_:=F.invV hf
  obtain⟨q,rfl,hq⟩:=w_
  refine Spec.mk Tryz.func158 (by kernel_rfl) ?_
  intro r6 r8
  refine cPl (nJ hs hn hf) fun v1 μ1 hle1 hR1=>?_
  obtain⟨e,hh,rfl,h1,h2⟩:=hR1
  obtain rfl:=e.symm
  refine ifd (fun _=>?_) (fun _=>?_)
  ·exact rPl (.inl rfl)
  ·refine ifd (fun _ => ?_) (fun h => absurd hm (by omega))
   exact rPl (.inl rfl)
 |succ k ih=>
  intro most f w μ hm h0 hk hr hs hf
  have w_:=F.invV hf
  obtain⟨q,rfl,hq⟩:=w_
  refine Spec.mk Tryz.func158 (by kernel_rfl) ?_
  intro r6 r8
  refine cPl (nJ hs hn hf) fun v1 μ1 hle1 hR1=>?_
  obtain⟨e,hh,rfl,h1,h2⟩:=hR1
  obtain rfl:=e.symm
  refine ifd (fun _=>rPl (.inl rfl)) (fun hh1=>?_)
  refine ifd (fun _=>rPl (.inl rfl)) (fun hm1=>?_)
  refine lIn (fun i:Nat=>i≤rs.length) (fun i=>⟨[(0,.val (.slice b3 rs.length c3)),(1,.val (.slice b (n+1) c)),(3,.val (.int .i64 most)),(6,.loc 0 r6 0),(8,.loc 1 r8 0),(10,.val (.int .i64 hh)),(29,.val (.slice b3 rs.length c3)),(30,.val (.int .i64 rs.length)),(31,.val (.int .i64 i))],[(0,some (.cells r6 [.val (.string f.rel),.val (.slice q.1 f.args.length q.2)] 41)),(1,some (.cells r8 [.val (.string ⟨#[]⟩),.val (.int .i64 0),.val (.slice none 0 0),.val (.slice none 0 0)] 54))],2,μ,Mem.nil⟩) (fun i=>rs.length-i)
   0 (Nat.zero_le _) (fun _=>⟨rfl,rfl⟩) ⟨⟨rfl,rfl,rfl,rfl,rfl,rfl,rfl,rfl,rfl,trivial⟩,⟨rfl,rfl,trivial⟩,rfl,rfl⟩ ?_
  intro i hi
  refine ifd (fun hlt=>?_) (fun hlt=>rPl (.inl rfl))
  have w_:=aSo (l:=rs) (i:=i) (by omega)
  obtain⟨r,hri⟩:=w_
  have w_:=Ru.elem hr hri
  obtain⟨ad,p,hel,hrv,hat⟩:=w_
  have hvs:=Ru.vsl hrv
  have hrk:=hvu r (mAt hri)
  refine eIn hel ?_
  intro r12
  refine cGv (gT hat.head hf) ?_
  refine aL (fun _=>?_) (fun hc0=>?_)
  ·exact aB (by omega) (by omega) ⟨i+1,by omega,by omega,⟨⟨rfl,rfl,rfl,rfl,rfl,rfl,rfl,rfl,rfl,trivial⟩,⟨rfl,rfl,trivial⟩,rfl,rfl⟩⟩
  have w_:=sG hs (i:=(hh-1).toNat) (by omega)
  obtain⟨ad2,q2,hel2,hst⟩:=w_
  have w_:=FsV.sl hst
  obtain⟨b2,c2,e2,-,hs2⟩:=w_
  have w_:=Value.slice.inj e2
  obtain⟨e3,-,e4⟩:=w_
  rw[←e3]at hs2
  rw[show(((hh-1).toNat:Nat):Int)=hh-1 by omega]at hel2
  have hsn:Sl μ 2 none ([]:List F).length ((([]:List F).map F.fc).map Fc.d):=by
   have w_:=FsV.sl (FsV.nil (μ:=μ) none 0)
   obtain⟨b',c',e,-,hs'⟩:=w_
   have w_:=Value.slice.inj e
   obtain⟨rfl,_,_⟩:=w_
   exact hs'
  refine aB (by omega) (by omega) ?_
  refine eIn hel2 ?_
  have hfs:aM Tryz.prog 220 [.agg (r.cs p).toArray,.slice q2.1 (stF rs (hh-1).toNat).length q2.2,.slice none 0 0] μ (.bool (decide (uB (stF rs (hh-1).toNat) [] r))):=pF (c2:=0) hrv hs2 hsn
  refine cGv hfs ?_
  refine aL (fun _=>?_) (fun hfi=>?_)
  ·exact aB (by omega) (by omega) ⟨i+1,by omega,by omega,⟨⟨rfl,rfl,rfl,rfl,rfl,rfl,rfl,rfl,rfl,trivial⟩,⟨rfl,rfl,trivial⟩,rfl,rfl⟩⟩
  refine cOw (vI hvs (by omega)) fun v5 μ5 H5 hle5 hap5 hR5=>?_
  obtain⟨r1,c1,ty1,us1,rfl,hro,hus1⟩:=hR5
  have hul:=hus1.len
  simp only[List.length_map]at hul
  intro r13
  refine aB (by omega) (by omega) ?_
  refine aU (fun z:Nat×Int×List Pf×Option Nat×Nat×List Value×Mem=>z.1≤r.pos.length∧z.2.1≤k∧ -1000*(z.1:Int)≤z.2.1∧z.2.2.1.length=z.1∧(∀y∈z.2.2.1,PfU U y)∧μ5.Le z.2.2.2.2.2.2∧Apart z.2.2.2.2.2.2 H5∧Rows z.2.2.2.2.2.2 4 (z.2.2.1.map Pf.d) z.2.2.2.2.2.1)
   (fun(j,left,ks,b4,c4,ys,μ')=>⟨[(0,.val (.slice b3 rs.length c3)),(1,.val (.slice b (n+1) c)),(8,.loc 1 r8 0),(13,.loc 3 r13 0),(14,.val (.int .i64 left)),(61,.val (.slice p.2.2.1.1 r.pos.length p.2.2.1.2)),(62,.val (.int .i64 r.pos.length)),(63,.val (.int .i64 j))],[(1,some (.cells r8 [.val (.string ⟨#[]⟩),.val (.int .i64 0),.val (.slice none 0 0),.val (.slice none 0 0)] 54)),(3,some (.cells r13 [.val (.string f.rel),.val (.int .i64 r.clause),.val (.slice (some ⟨r1,0,none⟩) us1.length c1),.row 4 b4 ys.length c4] 54)),(4,some (.row b4 c4 54 4 ys))],5,μ',H5⟩) (fun z=>r.pos.length-z.1)
   (0,most-1,[],none,0,[],μ5) ⟨Nat.zero_le _,by dsimp only;omega,by dsimp only;omega,rfl,(fun _ h=>nomatch h),Mem.Le.refl _,hap5,.nil⟩ (fun(_,_,_,_,_,_,_)=>⟨rfl,rfl⟩) ?_ ?_
  ·exact⟨⟨⟨_,rfl,.inl rfl⟩,⟨_,rfl,.inl rfl⟩,⟨_,rfl,.inl rfl⟩,⟨_,rfl,.inl rfl⟩,⟨_,rfl,.inl rfl⟩,⟨_,rfl,.inl rfl⟩,⟨_,rfl,.inl rfl⟩,⟨_,rfl,.inl rfl⟩,trivial⟩,⟨.inl rfl,.inr (.inr ⟨_,_,_,_,rfl,rfl,.inl rfl,.inl rfl,.inl rfl,.inr ⟨4,rfl,rfl,Nat.le_refl _⟩,trivial⟩),.inr (.inl ⟨_,_,rfl,Nat.le_refl _⟩),trivial⟩,rfl,rfl⟩
  clear hap5
  rintro⟨j,left,ks,b4,c4,ys,μ6⟩ ⟨hj,hlk,hll,hkl,hku,hle6,hap6,hrows⟩
  dsimp only at hj hlk hll hkl hku hle6 hap6 hrows
  have hyl:=hrows.len
  simp only[List.length_map]at hyl
  have hle06:=hle5.trans hle6
  refine ifd (fun hja=>?_) (fun hja=>?_)
  ·have w_ := aSo (l := r.pos) (i := j) (by omega)
   obtain⟨g,hg⟩:=w_
   have w_:=F.elemV (hat.pos.mono hle06) hg
   obtain⟨ad4,p4,hel4,hrg⟩:=w_
   refine eIn hel4 ?_
   intro r16
   refine cDa hap6 (ih (most:=left) (f:=g) hlk (by omega) (by omega) (hr.mono hle06) (hs.mono hle06) hrg) fun v7 μ7 hle7 hap7 hR7=>?_
   rcases hR7 with rfl|⟨x7,pv7,rfl,hpr,hpu⟩
   ·intro r17
    refine iIn (fun _=>rPl (.inl rfl)) (fun h=>nomatch h)
   ·have hrep7 := hpr.rep
    have w_:=Pf.invV hrep7
    obtain⟨q7,rfl⟩:=w_
    intro r17
    refine iIn (fun h=>nomatch h) (fun _=>?_)
    refine cGv (sN x7 (most:=200) hrep7 (by decide) (by decide)) ?_
    have hcn:=x7.cnt_pos
    have hup:1≤bP x7.cnt 200∧bP x7.cnt 200≤201:=by unfold bP;omega
    refine aB (by omega) (by omega) ?_
    intro r85
    refine gIn ?_ ?_ fun b' c' _=>?_
    ·show(ys.length+1)*72≤_;omega
    ·exact Nat.le_trans (m:=100000000) (show ys.length+1≤_ by omega) (by decide)
    refine aB (by omega) (by omega) ⟨(j+1,left-bP x7.cnt 200,ks++[x7],b',c',_,μ7),⟨by dsimp only;omega,by dsimp only;omega,by dsimp only;omega,by rw[List.length_append,hkl];rfl,fun y hy=>(List.mem_append.1 hy).elim (hku y) fun h=>by rw[List.mem_singleton.1 h];exact hpu,hle6.trans hle7,hap7,?_⟩,by dsimp only;omega,⟨⟨rfl,rfl,rfl,rfl,rfl,rfl,rfl,rfl,trivial⟩,⟨rfl,rfl,rfl,trivial⟩,rfl,rfl⟩⟩
    dsimp only
    simp only[List.map_append,List.map_cons,List.map_nil]
    exact(hrows.mono hle7).append (Rows.one hrep7 (Pf.d_n _))
  ·refine gM [4] fun μ8 hle8 hno8 hat8 => fun hap8 => .inr ⟨H5, Mem.nil, Parts.nil_right _, .inr ⟨.mk f.rel r.clause (r.vals.map T.tm) ks, _, rfl, ⟨μ6, r1, c1, us1, b4, c4, ys, rfl, hle06, hle8.trans (Mem.le_join _ _), hus1.mono hle6, hrows, ?_, ?_, hro.rowAt (Mem.le_join_right hap8), RowAt.up hat8 (Mem.le_join _ _), by omega, by omega⟩, ?_⟩⟩
   ·have w_ := hro.obj
    obtain⟨cs,hcs⟩:=w_
    cases e:μ6 r1 with
    |none=>rfl
    |some o=>have:=hap6 r1 (by rw[e];simp);rw[hcs]at this;cases this
   ·intro r2 hr2
    refine⟨hno8 r2 hr2,fun e=>?_⟩
    subst e
    subst hr2
    have w_:=hro.obj
    obtain⟨cs,hcs⟩:=w_
    obtain⟨-,-,arr,ty,h8,-⟩:=hat8
    have hap9:Apart μ8 H5:=hap8
    have:=hap9 r2 (by rw[h8];simp)
    rw[hcs]at this;cases this
   ·have hfe:f=r.head:=by
     have h9:dC r.head f=0:=hc0
     exact((cmpF_ord.zero _ _).1 h9).symm
    exact .mk (by show f.rel.size≤1000;rw[hfe];exact hrk.2.2.2.2) ⟨hrk.2.2.2.1.1,by have:=hrk.2.2.2.1.2;show r.clause≤100000;omega⟩ ⟨r.vals,rfl,hrk.1⟩ hku
end
end Go.Vx
namespace Go.Vx
open Go.Proofs Classical
def zPfV:Value:= .agg #[.string ⟨#[]⟩,.int .i64 0,.slice none 0 0,.slice none 0 0]
structure PfO (U:List T) (μ h:Mem) (x:Pf) (v:Value):Prop where
 ok:PfU U x
 rows:∃(r1 c1:Nat) (ty1:TypeId) (us1:List Value) (b2:Option Nat) (c2:Nat) (us2:List Value),v= .agg #[.string x.rel,.int .i64 x.clause,.slice (some ⟨r1,0,none⟩) us1.length c1,.slice (b2.map fun r=>⟨r,0,none⟩) us2.length c2]∧
  RowO h r1 c1 ty1 4 us1∧Rows μ 4 (x.values.map Tm.d) us1∧Rows μ 4 (x.kids.map Pf.d) us2∧(match b2 with|none=>us2=[]|some r2=>r2≠r1∧∃ty2,RowO h r2 c2 ty2 4 us2)
def qRu(U:List T)(μ h:Mem)(v:Value):Prop:=v= .tuple #[zPfV,.bool false]∨∃x pv,v= .tuple #[pv,.bool true]∧PfO U μ h x pv
section
variable {μ:Mem}
theorem qKr{μ1:Mem}{r c es:Nat}{us:List Value}(h:RowAt μ1 (some r) c es us)(hn:us.length≤1000000):∃o,μ1 r=some o∧∃ty,∀g:Mem,RowO (g.set r o) r c ty es us:=by
 obtain⟨h2,h3,arr,ty,h4,h5,h6⟩:=h
 exact⟨_,h4,ty,fun g=>⟨arr.toList,Mem.set_at _ _ _,h2,Nat.le_trans hn (by decide),h3,by simpa using h5,h6⟩⟩
theorem qSh{P:Program}{f:FuncId}{args:List Value}{U:List T}(h0:Spec P f args μ fun v μ'=>optPf U μ μ' v):SpecH P f args μ Mem.nil fun v μ2 H2=>qRu U μ2 H2 v:=by
 have e0:μ.join Mem.nil=μ:=funext fun b=>by rw[Mem.join_get];cases μ b<;>rfl
 generalize hR0:(fun v μ'=>optPf U μ μ' v)=R0 at h0
 have h:Spec P f args (μ.join Mem.nil) R0:=by rw[e0];exact h0
 refine(Spec.lendOwn (H:=Mem.nil) (R':=fun v g μ1=>qRu U (μ1.sub g) g v) (fun b _=>rfl) h fun v μ1 hle hR=>?_).weaken fun v μ2 H2 _ _ hR=>?_
 ·rw [e0]
  rw[←hR0]at hR
  rcases hR with rfl|⟨x,pv,rfl,⟨μe,r1,c1,us1,b2,c2,us2,rfl,hl0,hl1,hw1,hw2,hn1,hn2,hr1,hr2,hm1,hm2⟩,hu⟩
  ·exact⟨Mem.nil,(fun _ _ h=>nomatch h),(fun _ h=>absurd rfl h),.inl rfl⟩
  have w_:=qKr hr1 hm1
  obtain⟨o1,ho1,ty1,hO1⟩:=w_
  cases b2 with
  |none=>
   have hs1:μe.Le (μ1.sub (Mem.nil.set r1 o1)):=Mem.le_sub hl1 fun b hb=>by
    by_cases e:b=r1
    ·subst e;exact absurd hn1 hb
    ·rw[Mem.set_ne e];rfl
   refine⟨Mem.nil.set r1 o1,fun b o hb=>?_,fun b hb=>?_,.inr ⟨x,_,rfl,hu,r1,c1,ty1,us1,none,c2,us2,rfl,hO1 _,hw1.mono hs1,hw2.mono hs1,hr2⟩⟩
   ·by_cases e : b = r1
    ·subst e;rw[Mem.set_at]at hb;rw[ho1];exact hb
    ·rw[Mem.set_ne e]at hb;cases hb
   ·by_cases e : b = r1
    ·subst e;exact hl0.none hn1
    ·rw[Mem.set_ne e]at hb;exact absurd rfl hb
  |some r2=>
   have w_:=qKr hr2 hm2
   obtain⟨o2,ho2,ty2,hO2⟩:=w_
   have w_:=hn2 r2 rfl
   obtain⟨hn2,hne⟩:=w_
   have hs1:μe.Le (μ1.sub ((Mem.nil.set r1 o1).set r2 o2)):=Mem.le_sub hl1 fun b hb=>by
    by_cases e2:b=r2
    ·subst e2;exact absurd hn2 hb
    rw[Mem.set_ne e2]
    by_cases e:b=r1
    ·subst e;exact absurd hn1 hb
    ·rw[Mem.set_ne e];rfl
   refine⟨(Mem.nil.set r1 o1).set r2 o2,fun b o hb=>?_,fun b hb=>?_,.inr ⟨x,_,rfl,hu,r1,c1,ty1,us1,some r2,c2,us2,rfl,(hO1 _).set_ne (Ne.symm hne),hw1.mono hs1,hw2.mono hs1,hne,ty2,hO2 _⟩⟩
   ·by_cases e2 : b = r2
    ·subst e2;rw[Mem.set_at]at hb;rw[ho2];exact hb
    rw[Mem.set_ne e2]at hb
    by_cases e:b=r1
    ·subst e;rw[Mem.set_at]at hb;rw[ho1];exact hb
    ·rw[Mem.set_ne e]at hb;cases hb
   ·by_cases e2 : b = r2
    ·subst e2;exact hl0.none hn2
    rw[Mem.set_ne e2]at hb
    by_cases e:b=r1
    ·subst e;exact hl0.none hn1
    ·rw[Mem.set_ne e]at hb;exact absurd rfl hb
 ·obtain ⟨g, μ1, hgr, _, hp, rfl⟩ := hR
  have eg:H2=g:=funext fun b=>by
   rcases hp b with⟨e1,e2⟩|⟨e1,e2⟩
   ·rw[e1,e2];rfl
   ·exact e1
  subst eg
  exact hgr
theorem optPf.up{U:List T}{μ0 μ1 μ':Mem}{v:Value}(h:optPf U μ1 μ' v)(hl:μ0.Le μ1):optPf U μ0 μ' v:=by
 rcases h with h|⟨x,pv,e,⟨μe,r1,c1,us1,b2,c2,us2,k1,k2,k3⟩,hu⟩
 ·exact .inl h
 ·exact .inr ⟨x,pv,e,⟨μe,r1,c1,us1,b2,c2,us2,k1,hl.trans k2,k3⟩,hu⟩
theorem qEp{p:Pg}{U:List T}(hU:0<U.length)(hp:p.Ok){rs:List Ru}(hk:∀r∈rs,RuOk p r)(e:rs=cC p U):∀r∈rs,(∀a∈r.vals,a∈U)∧r.vals.length≤100∧r.pos.length≤1000∧(0≤r.clause∧r.clause≤1000)∧r.head.rel.size≤1000:=fun ru hr=>by
 have hpc:=(hk ru hr).pcnt
 rw[e]at hr
 have w_:=(gQ hU).1 hr
 obtain⟨r,L,i,c,vs,k⟩:=w_
 have w_:=List.getElem?_of_mem k.rel
 obtain⟨j,hj⟩:=w_
 have h:=hp.2 j r hj
 have h1:=h.ar4
 have h2:=h.lo8
 have h3:=k.len
 have h4:=(Gl.cl_bnd _ k.cl).2
 have h5:=(List.getElem?_eq_some_iff.1 k.at_).1
 have hn:=h.name.2.2.1
 have e1:ru.vals=vs:=by rw[k.eq];rfl
 have e2:ru.clause=(i:Int):=by rw[k.eq];rfl
 have e3:ru.head.rel=r.name:=by rw[k.eq];rfl
 rw[e1,e2,e3]
 exact⟨k.uni,by omega,by omega,⟨by omega,by omega⟩,Nat.le_trans hn (by decide)⟩
theorem qDs{p:Pg}{U:List T}{f:F}{v w:Value}{ub:Option Addr}{uc:Nat}(hp:RepV μ p.d v)(hu:Sl μ 4 ub U.length ((U.map T.tm).map Tm.d))(hok:p.Ok)(huo:UnivOk (U.map T.tm))(hf:RepV μ f.fc.d w)(hff:FactFits p f.fc):
  Spec Tryz.prog 86 [v,.slice ub U.length uc,w] μ fun v μ'=>optPf U μ μ' v:=by
 have hp0:=hp
 have w_:=Pg.inv hp
 obtain⟨q,rfl,hrl⟩:=w_
 have hf0:=hf
 have w_:=F.invV hf
 obtain⟨qf,rfl,hq⟩:=w_
 have hU1:0<U.length:=by have:=huo.pos;rwa [List.length_map]at this
 have hus0:Sl μ 4 ub (U.map T.tm).length ((U.map T.tm).map Tm.d):=by rw[List.length_map];exact hu
 have hwu:D.wds ((U.map T.tm).map Tm.d):=mU fun a ha=>by
  have:=(huo.gnd _ (List.mem_map_of_mem ha)).1.toT.1.1
  rwa [T.toT_tm]at this
 refine Spec.mk Tryz.func86 (by kernel_rfl) ?_
 intro r3 r5 r6
 have hall:=tF (uc:=uc) hp0 hok.wd hus0 hwu
 rw[List.length_map]at hall
 refine cPl hall fun v1 μ1 hle1 hR1=>?_
 cases hP:bH p (U.map T.tm)with
 |none=>
  rw[hP]at hR1
  obtain rfl:=hR1
  refine iIn (fun _=>?_) (fun h=>nomatch h)
  exact rPl (.inl rfl)
 |some rs=>
  rw[hP]at hR1
  obtain⟨t1,t2,rfl,hrs,n,hlast,hst⟩:=hR1
  have w_:=RsV.sl hrs
  obtain⟨b1,c1,rfl,hrsl⟩:=w_
  have w_:=xH hst
  obtain⟨b2,c2,rfl,hstl⟩:=w_
  have hpg:bX p (U.map T.tm)=some rs:=by
   rw[bH]at hP
   split at hP
   ·exact hP
   ·cases hP
  have hgk:=fQ hpg
  have ers:rs=cC p U:=by
   rw[bX,if_pos ⟨hok,huo⟩,gO,cI]at hpg
   split at hpg
   ·exact(Option.some.inj hpg).symm
   ·cases hpg
  have hnl:=nT hlast.2
  have hsl:=(fL rs n).len
  refine iIn (fun h=>nomatch h) (fun _=>?_)
  refine cPl (sF (hp0.mono hle1) hok.wd (hf0.mono hle1) (hff.wd hok)) fun v2 μ2 hle2 hR2=>?_
  rw[decide_eq_true ⟨hok,hff⟩]at hR2
  subst hR2
  refine iIn (fun h=>nomatch h) (fun _=>?_)
  have hle02:=hle1.trans hle2
  have hbs:=xT (U:=U) (n:=n) (b3:=b1) (c3:=c1) (b:=b2) (c:=c2) (by omega) hgk.1 (qEp hU1 hok hgk.2 ers) 200 (most:=200) (Int.le_refl _) (by decide) (by decide) (hrsl.mono hle2) (hstl.mono hle2) (hf0.mono hle02)
  refine cPl hbs fun v3 μ3 hle3 hR3=>?_
  have hR3:=optPf.up hR3 hle02
  rcases hR3 with rfl|⟨x,pv,rfl,⟨μe,r1,d1,us1,b4,d4,us2,rfl,hk⟩,hux⟩
  ·exact rPl (.inl rfl)
  ·exact rPl (.inr ⟨x,_,rfl,⟨μe,r1,d1,us1,b4,d4,us2,rfl,hk⟩,hux⟩)
end
end Go.Vx
namespace Go.Vx
open Go.Proofs Classical
section
variable {μ:Mem}
theorem Rows.put{es:Nat}:∀{ds:List D} {us:List Value},Rows μ es ds us→∀(k:Nat) {d:D} {v:Value},RepV μ d v→d.n=es→Rows μ es (ds.set k d) (us.set k v)
 |_,_,.nil,_,_,_,_,_=> .nil
 |_,_,.cons _ _ h,0,_,_,hd,hn=> .cons hd hn h
 |_,_,.cons h1 h2 h,k+1,_,_,hd,hn=> .cons h1 h2 (Rows.put h k hd hn)
theorem RowO.els{h:Mem}{r c es:Nat}{ty:TypeId}{us:List Value}(k:RowO h r c ty es us){u:Value}(hu:u∈us):(aD u).length=es:=by
 obtain⟨cs,-,-,-,h3,-⟩:=k
 exact(h3 u hu).1
def RowM(h:Mem)(b:Option Nat)(c:Nat)(us:List Value):Prop:=match b with
 |none=>us=[]
 |some r=>∃ty,RowO h r c ty 4 us
theorem RowM.le{h h':Mem}{b:Option Nat}{c:Nat}{us:List Value}(k:RowM h b c us)(hl:h.Le h'):RowM h' b c us:=by
 cases b with
 |none=>exact k
 |some r=>
  obtain⟨ty,cs,e,k2⟩:=k
  exact⟨ty,cs,hl _ _ e,k2⟩
theorem RowM.set{h:Mem}{b:Option Nat}{c r:Nat}{us:List Value}{o:Obj}(k:RowM h b c us)(hr:∀r1,b=some r1→r1≠r):RowM (h.set r o) b c us:=by
 cases b with
 |none=>exact k
 |some r1=>
  obtain⟨ty,k⟩:=k
  exact⟨ty,k.set_ne (hr r1 rfl)⟩
theorem RowM.rep{h:Mem}{b:Option Nat}{c:Nat}{us:List Value}{ds:List D}(k:RowM h b c us)(ha:Apart μ h)(hr:Rows μ 4 ds us):RepV (μ.join h) (.sl 4 ds) (.slice (b.map fun r=>⟨r,0,none⟩) us.length c):=by
 cases b with
 |none=>
  have k:us=[]:=k
  subst k
  have:=hr.len
  have e:ds=[]:=List.length_eq_zero_iff.1 this
  rw[e]
  exact⟨none,c,rfl,⟨Nat.zero_le _,Nat.zero_le _⟩,(fun _ h=>nomatch h),.inl rfl⟩
 |some r2=>
  obtain⟨ty2,h5⟩:=k
  exact h5.rep (Mem.le_join_right ha) (hr.mono (Mem.le_join _ _))
def pfv(x:Pf)(b1:Option Nat)(c1:Nat)(us1:List Value)(b2:Option Nat)(c2:Nat)(us2:List Value):Value:= .agg #[.string x.rel,.int .i64 x.clause,.slice (b1.map fun r=>⟨r,0,none⟩) us1.length c1,.slice (b2.map fun r=>⟨r,0,none⟩) us2.length c2]
structure PfW (U:List T) (μ h:Mem) (r:Nat) (x:Pf) (b1:Option Nat) (c1:Nat) (us1:List Value) (b2:Option Nat) (c2:Nat) (us2:List Value):Prop where
 ok:PfU U x
 v1:Rows μ 4 (x.values.map Tm.d) us1
 v2:Rows μ 4 (x.kids.map Pf.d) us2
 o1:RowM h b1 c1 us1
 o2:RowM h b2 c2 us2
 n1:∀r1,b1=some r1→r1≠r
 n2:∀r1,b2=some r1→r1≠r
 ne:∀r1 r2,b1=some r1→b2=some r2→r2≠r1
 m1:us1.length≤maxLen
 m2:us2.length≤maxLen
theorem Pf.reclause{y:Pf}{a b:Value}{k:Int}(h:RepV μ y.d (.agg #[.string y.rel,.int .i64 y.clause,a,b])):RepV μ (Pf.mk y.rel k y.values y.kids).d (.agg #[.string y.rel,.int .i64 k,a,b]):=by
 rw[Pf.d_eq]at h ⊢
 obtain⟨cs,e,h⟩:=h
 obtain⟨a0,t0,rfl,h0,h⟩:=h
 obtain⟨a1,t1,rfl,h1,h⟩:=h
 have h0:a0=[.string y.rel]:=h0
 have h1:a1=[.int .i64 y.clause]:=h1
 subst h0 h1
 have e2:[.string y.rel,.int .i64 y.clause,a,b]= .string y.rel:: .int .i64 y.clause::t1:=congrArg (fun v=>match v with|Value.agg a=>a.toList|_=>[]) e
 have e3:[a,b]=t1:=(List.cons.inj (List.cons.inj e2).2).2
 subst e3
 exact⟨_,rfl,RepS.str (RepS.int h)⟩
def qUt(U:List T)(μ:Mem)(v:Value):Prop:=∃x,RepV μ x.d v∧PfU U x
section
variable {U:List T} {h:Mem} {r:Nat} {x:Pf} {b1:Option Nat} {c1:Nat} {us1:List Value} {b2:Option Nat} {c2:Nat} {us2:List Value}
theorem PfW.mk'(k:PfW U μ h r x b1 c1 us1 b2 c2 us2)(ha:Apart μ h):qUt U (μ.join h) (pfv x b1 c1 us1 b2 c2 us2):=by
 refine⟨x,?_,k.ok⟩
 rw[Pf.d_eq]
 exact⟨_,rfl,RepS.str (RepS.int (RepS.cons1 (k.o1.rep ha k.v1) (RepS.last (k.o2.rep ha k.v2))))⟩
theorem PfW.cur{μ' h':Mem}(k:PfW U μ h r x b1 c1 us1 b2 c2 us2)(hc:Cur μ' h r h')(hl:μ.Le μ'):PfW U μ' h' r x b1 c1 us1 b2 c2 us2:=by
 obtain⟨o,_,rfl⟩:=hc.ex
 exact⟨k.ok,k.v1.mono hl,k.v2.mono hl,k.o1.set k.n1,k.o2.set k.n2,k.n1,k.n2,k.ne,k.m1,k.m2⟩
theorem PfW.clause(k:PfW U μ h r x b1 c1 us1 b2 c2 us2){n:Nat}(hn:n≤100000):PfW U μ h r (.mk x.rel n x.values x.kids) b1 c1 us1 b2 c2 us2:=
 ⟨.mk k.ok.rel ⟨by show(0:Int)≤n;omega,by show(n:Int)≤100000;omega⟩ k.ok.vals k.ok.kids,k.v1,k.v2,k.o1,k.o2,k.n1,k.n2,k.ne,k.m1,k.m2⟩
theorem PfW.of{h3 h5:Mem}{v:Value}{o:Obj}(k:qRu U μ h5 v)(hp:Parts h h5 h3)(he:h3 r=some o):∃x b1 c1 us1 b2 c2 us2 bo,v= .tuple #[pfv x b1 c1 us1 b2 c2 us2,.bool bo]∧PfW U μ h r x b1 c1 us1 b2 c2 us2:=by
 rcases k with rfl|⟨x,pv,rfl,hok,r1,c1,ty1,us1,b2,c2,us2,rfl,h1,h2,h3',h4⟩
 ·refine⟨.mk ⟨#[]⟩ 0 [] [],none,0,[],none,0,[],false,rfl,⟨.mk (by decide) (by decide) ⟨[],rfl,fun _ h=>nomatch h⟩ (fun _ h=>nomatch h),.nil,.nil,rfl,rfl,(fun _ h=>nomatch h),(fun _ h=>nomatch h),(fun _ _ h=>nomatch h),Nat.zero_le _,Nat.zero_le _⟩⟩
 ·have hnr:∀{rr c:Nat} {ty:TypeId} {us:List Value},RowO h5 rr c ty 4 us→rr≠r:=fun {rr c ty us} k e=>by
   subst e
   obtain⟨cs,hcs⟩:=k.obj
   have h7:=hp.apart rr (by rw[hcs];simp)
   rw[he]at h7;cases h7
  refine⟨x,some r1,c1,us1,b2,c2,us2,true,rfl,hok,h2,h3',RowM.le ⟨ty1,h1⟩ hp.left,?_,fun rr e=>by cases e;exact hnr h1,fun rr e=>?_,fun ra rb ea eb=>?_,h1.len,?_⟩
  ·cases b2 with
   |none=>exact h4
   |some r2=>exact RowM.le (b:=some r2) h4.2 hp.left
  ·subst e
   obtain⟨-,ty2,h5⟩:=h4
   exact hnr h5
  ·subst eb
   cases ea
   exact h4.1
  ·cases b2 with
   |none=>
    have h4:us2=[]:=h4
    subst h4
    exact Nat.zero_le _
   |some r2=>
    obtain⟨-,ty2,h5⟩:=h4
    exact h5.len
theorem PfW.value(k:PfW U μ h r x b1 c1 us1 b2 c2 us2){i r1:Nat}{a:T}{v:Value}{o:Obj}{ty:TypeId}(e1:b1=some r1)(ha:a∈U)(hv:RepV μ a.tm.d v)(ho:RowO (h.set r1 o) r1 c1 ty 4 (us1.set i v)):
  PfW U μ (h.set r1 o) r (.mk x.rel x.clause (x.values.set i a.tm) x.kids) b1 c1 (us1.set i v) b2 c2 us2:=by
 have w_:=k.ok.vals
 obtain⟨vs,hvs,hvu⟩:=w_
 refine⟨.mk k.ok.rel k.ok.cl ⟨vs.set i a,?_,fun y hy=>?_⟩ k.ok.kids,?_,k.v2,by rw[e1];exact⟨ty,ho⟩,k.o2.set fun r2 e2=>k.ne r1 r2 e1 e2,k.n1,k.n2,k.ne,by rw[List.length_set];exact k.m1,k.m2⟩
 ·show x.values.set i a.tm = _
  rw[hvs,List.map_set]
 ·rcases List.mem_or_eq_of_mem_set hy with h | h
  ·exact hvu y h
  ·rw[h];exact ha
 ·show Rows μ 4 ((x.values.set i a.tm).map Tm.d) _
  rw[List.map_set]
  exact k.v1.put i hv (Tm.d_n _)
theorem PfW.kid(k:PfW U μ h r x b1 c1 us1 b2 c2 us2){i r2:Nat}{y:Pf}{n:Nat}{v:Value}{o:Obj}{ty:TypeId}(e2:b2=some r2)(hy:PfU U y)(hn:n≤100000)(hv:RepV μ (Pf.mk y.rel n y.values y.kids).d v)(ho:RowO (h.set r2 o) r2 c2 ty 4 (us2.set i v)):
  PfW U μ (h.set r2 o) r (.mk x.rel x.clause x.values (x.kids.set i (.mk y.rel n y.values y.kids))) b1 c1 us1 b2 c2 (us2.set i v):=by
 refine⟨.mk k.ok.rel k.ok.cl k.ok.vals fun z hz=>?_,k.v1,?_,k.o1.set fun r1 e1=>(k.ne r1 r2 e1 e2).symm,by rw[e2];exact⟨ty,ho⟩,k.n1,k.n2,k.ne,k.m1,by rw[List.length_set];exact k.m2⟩
 ·rcases List.mem_or_eq_of_mem_set (show z ∈ x.kids.set i _ from hz) with h | h
  ·exact k.ok.kids z h
  ·rw[h];exact .mk hy.rel ⟨by show(0:Int)≤n;omega,by show(n:Int)≤100000;omega⟩ hy.vals hy.kids
 ·show Rows μ 4 ((x.kids.set i _).map Pf.d) _
  rw[List.map_set]
  exact k.v2.put i hv (Pf.d_n _)
end
theorem Cur.of{h:Mem}{r:Nat}{o:Obj}(ho:CurO μ o)(e:h r=some o):Cur μ h r h:=⟨⟨o,ho,(Mem.set_self e).symm⟩⟩
theorem Cur.obj{h h':Mem}{r:Nat}(k:Cur μ h r h'):∃o,CurO μ o∧h' r=some o:=by
 obtain⟨o,h1,e⟩:=k.ex
 exact⟨o,h1,by rw[e,Mem.set_at]⟩
set_option maxHeartbeats 8000000 in
set_option maxRecDepth 20000 in
theorem uU{base:Option Addr}{n cap:Nat}{p:Pg}{U:List T}{v:Value}{ub:Option Addr}{uc:Nat}(hb:Bytes μ base n)(m:Int)(hm:m≤1000000)(hp:RepV μ p.d v)(hu:Sl μ 4 ub U.length ((U.map T.tm).map Tm.d))(hok:p.Ok)(huo:UnivOk (U.map T.tm)):
  Spec Tryz.prog 32 [.slice base n cap,.int .i64 m,v,.slice ub U.length uc] μ fun v μ'=>qUt U μ' v:=by
 have hp0:=hp
 have w_:=Pg.inv hp
 obtain⟨q,rfl,hrl⟩:=w_
 have hU1:0<U.length:=by have:=huo.pos;rwa [List.length_map]at this
 have hus0:Sl μ 4 ub (U.map T.tm).length ((U.map T.tm).map Tm.d):=by rw[List.length_map];exact hu
 have hwu:D.wds ((U.map T.tm).map Tm.d):=mU fun a ha=>by
  have:=(huo.gnd _ (List.mem_map_of_mem ha)).1.toT.1.1
  rwa [T.toT_tm]at this
 refine Spec.mk Tryz.func32 (by kernel_rfl) ?_
 intro r6 r8
 refine cOw (gU hb m hm) fun v μ1 h1 hle1 hap1 hR=>?_
 obtain⟨e,r,rfl,ho,hc1⟩:=hR
 obtain rfl:=e.symm
 have hlm:=nR (uc:=uc) hp0 hok.wd hus0 hwu
 rw[List.length_map]at hlm
 refine cDa hap1 hlm fun v2 μ2 hle2 hap2 hR2=>?_
 have hlist:∃(tv:Value) (k2:Int) (b2:Bool) (L:List F),v2= .tuple #[tv,.int .i64 k2,.bool b2]∧FsV μ2 L tv∧FsOk p L:=by
  cases hL:gY p (U.map T.tm)with
  |none=>
   rw[hL]at hR2
   exact⟨.slice none 0 0,0,false,[],hR2,FsV.nil none 0,(fun _ h=>nomatch h)⟩
  |some y=>
   rw[hL]at hR2
   obtain⟨tv,k2,rfl,hR2⟩:=hR2
   exact⟨tv,k2,true,y,rfl,hR2,(sC hL).2.1⟩
 obtain⟨tv,k2,b2,L,rfl,hfs,hfok⟩:=hlist
 have w_:=FsV.sl hfs
 obtain⟨lb,lc,rfl,-,hsl⟩:=w_
 refine ifd (fun h0=>?_) (fun h0=>?_)
 ·refine rPl ⟨.mk ⟨#[112]⟩ 0 [] [], ?_, .mk (by decide) (by decide) ⟨[], rfl, fun _ h => nomatch h⟩ fun _ h => nomatch h⟩
  rw[Pf.d_eq]
  exact⟨_,rfl,RepS.str (RepS.int (RepS.cons1 (Rep.nilSl 4) (RepS.last (Rep.nilSl 4))))⟩
 refine cOw (aI (hc1.at.mono hle2) _) fun v3 μ3 h3 hle3 hap3 hR3=>?_
 obtain⟨e3,hc3,k3,rfl,hk3,hk3b,-⟩:=hR3
 obtain rfl:=e3.symm
 have hk3c:=hk3b (by omega)
 have w_:=aSo (l:=L) (i:=k3) (by omega)
 obtain⟨f,hf⟩:=w_
 have w_:=F.elemV hsl hf
 obtain⟨ad,pf,hel,hrf⟩:=w_
 refine eIn hel ?_
 have hprv:=SpecH.frame (Parts.nil_left h3) (qSh (qDs (uc:=uc) (hp0.mono hle2) (hu.mono hle2) hok huo hrf (hfok f (mAt hf))))
 refine cOw hprv fun v4 μ4 h4 hle4 hap4 hR4=>?_
 obtain⟨h5,hR4,hpp⟩:=hR4
 obtain⟨o3,hO3,ho3⟩:=hc3.obj
 have w_:=PfW.of hR4 hpp ho3
 obtain⟨x,b1,c1,us1,b2,c2,us2,bo,rfl,hw⟩:=w_
 intro r13
 have hcu:Cur μ4 h4 r h4:=Cur.of (hO3.mono hle4) (hpp.right r _ ho3)
 refine cOw (aI hcu 6) fun v5 μ5 h6 hle5 hap5 hR5=>?_
 obtain⟨e5,hc5,k5,rfl,-,-,-⟩:=hR5
 obtain rfl:=e5.symm
 have hw5:=hw.cur hc5 (Mem.Le.refl _)
 have hvl:=hw.v1.len
 have hkl:=hw.v2.len
 rw[List.length_map]at hvl hkl
 refine ifd (fun hk0=>?_) (fun hk0=>?_)
 ·refine cOw (aI hc5.at 3) fun v7 μ7 h7 hle7 hap7 hR7 => ?_
  obtain⟨e7,hc7,k7,rfl,hk7,-,-⟩:=hR7
  obtain rfl:=e7.symm
  exact gM [] fun hap=> .inr ⟨h7,Mem.nil,Parts.nil_right _,((hw5.cur hc7 (Mem.Le.refl _)).clause (n:=k7) (by omega)).mk' hap⟩
 refine ifd (fun hk1=>?_) (fun hk1=>?_)
 ·refine ifd (fun hpos => ?_) (fun hpos => ?_)
  ·refine cOw (aI hc5.at _) fun v7 μ7 h7 hle7 hap7 hR7 => ?_
   obtain⟨e7,hc7,k7,rfl,hk7,hk7b,-⟩:=hR7
   obtain rfl:=e7.symm
   refine cOw (aI hc7.at _) fun v8 μ8 h8 hle8 hap8 hR8=>?_
   obtain⟨e8,hc8,k8,rfl,hk8,hk8b,-⟩:=hR8
   obtain rfl:=e8.symm
   have hw8:=(hw5.cur hc7 (Mem.Le.refl _)).cur hc8 (Mem.Le.refl _)
   have hk7c:=hk7b hpos
   have hk8c:=hk8b (by omega)
   have w_:=aSo (l:=U) (i:=k8) (by omega)
   obtain⟨a,ha⟩:=w_
   have w_:=T.elemL ((hu.mono hle2).mono hle4) ha
   obtain⟨ad8,p8,hel8,hra8⟩:=w_
   refine eIn hel8 ?_
   cases b1 with
   |none=>
    have h9:us1=[]:=hw8.o1
    rw[h9]at hpos
    exact absurd hpos (by decide)
   |some r1=>
   obtain⟨ty1,ho1⟩:=hw8.o1
   refine cB ⟨r1,0,none⟩ rfl (by omega) (by omega) ?_
   have w_:=aSo (l:=us1) (i:=k7) (by omega)
   obtain⟨u,hu7⟩:=w_
   have hu4:=ho1.els (mAt hu7)
   refine eO (k:=k7) (j:=0) (x:=u) (.agg (a.tm.cs p8).toArray) ho1 hu7 (by simp[Addr.add_lit']) ?_ (show 0+4≤4 by decide) (by simp[Value.oneCell']) fun o hrow=>?_
   ·show (a.tm.cs p8) = (aD u).take 0 ++ (a.tm.cs p8) ++ (aD u).drop 4
    rw[List.drop_eq_nil_of_le (by omega)]
    simp
   ·refine gM [] fun hap => .inr ⟨_, Mem.nil, Parts.nil_right _, ?_⟩
    have:=(hw8.value rfl (mAt ha) hra8 hrow).mk' hap
    rw[pfv,List.length_set]at this
    exact this
  ·exact gM [] fun hap=> .inr ⟨h6,Mem.nil,Parts.nil_right _,hw5.mk' hap⟩
 refine ifd (fun hk2=>?_) (fun hk2=>?_)
 ·refine ifd (fun hpos => ?_) (fun hpos => ?_)
  ·refine cOw (aI hc5.at 3) fun v7 μ7 h7 hle7 hap7 hR7 => ?_
   obtain⟨e7,hc7,k7,rfl,hk7,hk7b,-⟩:=hR7
   obtain rfl:=e7.symm
   have hw7:=hw5.cur hc7 (Mem.Le.refl _)
   cases b2 with
   |none=>
    have h9:us2=[]:=hw7.o2
    rw[h9]at hpos
    exact absurd hpos (by decide)
   |some r2=>
   obtain⟨ty2,ho2⟩:=hw7.o2
   refine cB ⟨r2,0,none⟩ rfl (by omega) (by omega) ?_
   have w_:=aSo (l:=us2) (i:=0) (by omega)
   obtain⟨u,hu7⟩:=w_
   have hkx:0<x.kids.length:=by omega
   have w_:=aSo (l:=x.kids) (i:=0) hkx
   obtain⟨y,hy⟩:=w_
   have hru:=hw7.v2.atI (i:=0) (d:=y.d) (v:=u) (by rw[List.getElem?_map,hy];rfl) hu7
   have w_:=Pf.inv hru
   obtain⟨py,rfl,hA⟩:=w_
   refine eO (k:=0) (j:=1) (x:= .agg #[.string y.rel,.int .i64 y.clause,.slice py.1.1 y.values.length py.1.2,.slice py.2.1 y.kids.length py.2.2]) (.agg #[.string y.rel,.int .i64 k7,.slice py.1.1 y.values.length py.1.2,.slice py.2.1 y.kids.length py.2.2]) ho2 hu7 (by simp[Addr.add_lit']) rfl (show 1+1≤4 by decide) (by simp[Value.oneCell']) fun o hrow=>?_
   refine gM [] fun hap=> .inr ⟨_,Mem.nil,Parts.nil_right _,?_⟩
   have hnew:=Pf.reclause (k:=(k7:Int)) hru
   have:=(hw7.kid rfl (hw7.ok.kids y (mAt hy)) (by omega) hnew hrow).mk' hap
   rw[pfv,List.length_set]at this
   exact this
  ·exact gM [] fun hap=> .inr ⟨h6,Mem.nil,Parts.nil_right _,hw5.mk' hap⟩
 ·exact gM [] fun hap=> .inr ⟨h6,Mem.nil,Parts.nil_right _,hw5.mk' hap⟩
end
end Go.Vx
namespace Go.Vx
open Go.Proofs Classical
theorem PfU.wd{U:List T}(hU:∀a∈U,a.good):∀x:Pf,PfU U x→x.d.wd:=
 Pf.ind fun x ih h=>by
  have h1:=h.rel
  have h2:=h.cl
  have w_:=h.vals
  obtain⟨vs,hvs,hvu⟩:=w_
  rw[Pf.d_eq,hvs]
  refine⟨Nat.le_trans h1 (by decide),⟨by omega,by omega⟩,mU fun a ha=>hU a (hvu a ha),D.wds_of fun d hd=>?_,trivial⟩
  have w_:=List.mem_map.1 hd
  obtain⟨y,hy,rfl⟩:=w_
  exact ih y hy (h.kids y hy)
theorem qMz{p:Pg}{U:List T}(hU:0<U.length){x:Pf}(h:OkP p x)(hu:∀a∈x.vs,a∈U)(hk:∀y∈x.kids,∀a∈y.vs,a∈U)(hok:p.Ok):∃r∈cC p U,r.head=dM p x∧r.pos=x.kids.map (dM p):=by
 have w_:=h.heads
 obtain⟨r,c,hN,hK,hH⟩:=w_
 have w_:=hN.rel
 obtain⟨k,e1,e2⟩:=w_
 have w_:=hN.cls
 obtain⟨L,i,f1,f2,f3⟩:=w_
 have hr:=hok.2 k r e2
 have h0:=hr.ar0
 have h1:=hr.lo0
 have hl:=hN.len
 have hv:=x.vs_len
 have hname:r.name=x.rel:=by
  have w_:=gA (p:=p) (s:=x.rel) (by omega)
  obtain⟨k',r',g1,g2,g3⟩:=w_
  obtain rfl:k'=k:=by omega
  rw[e2]at g2
  cases g2
  exact g3
 refine⟨dZ r i c x.vs,(gQ hU).2 ⟨r,L,i,c,x.vs,mAt e2,f1,f3,by omega,hu,fun g hg=>?_,rfl⟩,?_,hH⟩
 ·have h10 : g.kind ≠ 10 := fun e => qKg hg e hN.neg
  rw[okG]
  by_cases h9:g.kind=9
  ·rw [if_pos h9]
   have hm:cJ x.vs g∈x.kids.map (dM p):=by
    rw[←hH,bQ]
    exact List.mem_map_of_mem (List.mem_filter.2 ⟨hg,by rw[decide_eq_true_eq];exact h9⟩)
   have w_:=List.mem_map.1 hm
   obtain⟨y,hy,e⟩:=w_
   intro a ha
   rw[←e]at ha
   exact hk y hy a (List.mem_of_mem_take ha)
  ·rw [if_neg h9, if_neg h10]
   exact hN.ok g hg h9 h10
 ·rw[mW hN,dZ,hname]
theorem PfU.vs{U:List T}{x:Pf}(h:PfU U x):∀a∈x.vs,a∈U:=by
 have w_:=h.vals
 obtain⟨vs,hvs,hvu⟩:=w_
 rw[Pf.vs,hvs,gO]
 exact hvu
section
variable {μ:Mem}
theorem Pf.kidsV{x:Pf}{a b vs ks:Value}(h:RepV μ x.d (.agg #[a,b,vs,ks])):RepV μ (.sl 4 (x.kids.map Pf.d)) ks:=by
 rw[Pf.d_eq]at h
 obtain⟨cs,e,h⟩:=h
 obtain⟨a0,t0,rfl,h0,h⟩:=h
 obtain⟨a1,t1,rfl,h1,h⟩:=h
 obtain⟨a2,t2,rfl,h2,h⟩:=h
 obtain⟨a3,t3,rfl,h3,h⟩:=h
 obtain rfl:t3=[]:=h
 have h0:a0=[.string x.rel]:=h0
 have h1:a1=[.int .i64 x.clause]:=h1
 subst h0 h1
 have w_:=gV (Rep.len _ _ h2)
 obtain⟨v2,rfl⟩:=w_
 have w_:=gV (Rep.len _ _ h3)
 obtain⟨v3,rfl⟩:=w_
 have e2:[a,b,vs,ks]=[.string x.rel,.int .i64 x.clause,v2,v3]:=congrArg (fun v=>match v with|Value.agg a=>a.toList|_=>[]) e
 have e3:ks=v3:=(List.cons.inj (List.cons.inj (List.cons.inj (List.cons.inj e2).2).2).2).1
 rw[e3];exact h3
theorem uC{p:Pg}{x:Pf}{vp v:Value}(hp:RepV μ p.d vp)(hw:p.d.wd)(hv:RepV μ x.d v)(hwx:x.d.wd):Spec Tryz.prog 33 [vp,v] μ fun w μ'=>∃fv,w= .tuple #[fv,.bool (decide (p.Ok∧x.cnt≤200∧OkP p x))]∧(if p.Ok∧x.cnt≤200∧OkP p x then RepV μ' (dM p x).fc.d fv else fv= .agg #[.string ⟨#[]⟩,.slice none 0 0]):=by
 have hp0:=hp
 have hv0:=hv
 have w_:=Pg.inv hp
 obtain⟨q0,rfl,-⟩:=w_
 have w_:=Pf.invV hv
 obtain⟨q,rfl⟩:=w_
 refine Spec.mk Tryz.func33 (by kernel_rfl) ?_
 intro r2 r3 r4
 refine cPl (qGg hp0 hw hv0 hwx) fun v1 μ1 hle1 hR=>?_
 obtain rfl:=hR
 refine aL (fun h=>rPl ⟨_,by rw[decide_eq_false h],by rw[if_neg h]⟩) (fun h=>?_)
 obtain⟨r,c,hN,hk,_⟩:=h.2.2.inv
 refine cPl (qFp (hp0.mono hle1) h.1 (hv0.mono hle1) hN) fun v2 μ2 hle2 hR2=>?_
 obtain⟨hr2,e⟩:=hR2
 obtain rfl:=e.symm
 have hl:(dM p x).args.length≤1000000:=by
  rw[mW hN]
  have h4:=hN.len
  obtain⟨k,e1,e2⟩:=hN.rel
  have h5:=(h.1.2 k r e2).ar4
  show(x.vs.take r.arity.toNat).length≤_
  rw[List.length_take];omega
 have w_:=F.invV hr2
 obtain⟨pf,rfl,_⟩:=w_
 intro r14
 refine aS [3] fun μ3 hle3 hno3 hat3=>?_
 have hone:FsV μ3 [dM p x] (.slice (some ⟨r14,0,none⟩) 1 1):=Rows.sl hat3 (Rows.one (d:=(dM p x).fc.d) (hr2.mono hle3) (Fc.d_n _)) (show 1≤maxLen by decide)
 have w_:=FsV.sl hone
 obtain⟨bb,cc,eb,-,hsl⟩:=w_
 have w_:=Value.slice.inj eb
 obtain⟨rfl,_,rfl⟩:=w_
 have hcs:Spec Tryz.prog 74 [.slice (some ⟨r14,0,none⟩) 1 1] μ3 fun v μ'=>FsV μ' [dM p x] v:=kK (l:=[dM p x]) (cap:=1) hsl (by show 1≤10000000;decide) fun f hf=>by rw[List.mem_singleton.1 hf];exact hl
 refine bM hcs fun v4 μ4 hle4 hR4=>?_
 have w_:=FsV.sl (L:=[dM p x]) hR4
 obtain⟨b4,c4,rfl,-,hs4⟩:=w_
 have w_:=F.elemV hs4 (i:=0) rfl
 obtain⟨ad,p4,hel,hrf⟩:=w_
 refine eIn hel ?_
 refine rPl ⟨_,by rw[decide_eq_true h],?_⟩
 rw[if_pos h]
 exact hrf
set_option maxHeartbeats 4000000 in
theorem qIo{base:Option Addr}{n cap:Nat}(hb:Bytes μ base n):
  Spec Tryz.prog 7 [.slice base n cap] μ fun r _=>r= .bool true:=by
 refine Spec.mkO [37] Tryz.func7 (by kernel_rfl) ?_
 refine ifd (fun h=>rPl rfl) (fun h=>?_)
 refine cPl (kV hb 0 (by decide) 1 (.inl rfl)) fun v1 μ1 hle1 hR=>?_
 obtain⟨p,hp,hrp⟩:=hR
 have w_:=Pg.invV hrp
 obtain⟨q,rfl⟩:=w_
 intro r3
 refine cPl (kD (hb.mono hle1) 60 (by decide) 2 (by decide) (by decide)) fun v2 μ2 hle2 hR=>?_
 obtain⟨U,hU,hrU⟩:=hR
 have w_:=Rep.sl hrU
 obtain⟨ub,uc,rfl,hus⟩:=w_
 rw[List.length_map,List.length_map]at hus ⊢
 have hus0:Sl μ2 4 ub (U.map T.tm).length ((U.map T.tm).map Tm.d):=by rw[List.length_map];exact hus
 have huo:=hU.ok (by decide)
 have hgr:cI p U=some (cC p U):=qAg hp.small2 hU.max
 have hgo:bX p (U.map T.tm)=some (cC p U):=by rw[bX,if_pos ⟨hp.ok,huo⟩,gO];exact hgr
 have hU1:0<U.length:=hU.pos
 have hgood:∀a∈U,a.good:=fun a ha=>by
  have:=(huo.gnd _ (List.mem_map_of_mem ha)).1.toT.1.1
  rwa [T.toT_tm]at this
 have hrp2:=hrp.mono hle2
 have hpos:=hp.pos (by decide)
 refine cPl (uU ((hb.mono hle1).mono hle2) 80 (by decide) hrp2 hus hp.ok huo) fun v3 μ3 hle3 hR3=>?_
 obtain⟨x,hrx,hxu⟩:=hR3
 have w_:=Pf.invV hrx
 obtain⟨px,rfl⟩:=w_
 intro r5
 refine cPl (uC (hrp2.mono hle3) hp.ok.wd hrx (hxu.wd hgood)) fun v4 μ4 hle4 hR4=>?_
 obtain⟨fv,rfl,hfv⟩:=hR4
 by_cases hgd:p.Ok∧x.cnt≤200∧OkP p x
 ·rw [if_pos hgd] at hfv
  rw[decide_eq_true hgd]
  have w_:=F.invV hfv
  obtain⟨pf,rfl,_⟩:=w_
  intro r6
  refine iIn (fun h=>nomatch h) (fun _=>?_)
  have w_:=qMz hU1 hgd.2.2 hxu.vs (fun y hy=>(hxu.kids y hy).vs) hp.ok
  obtain⟨r0,hr0,hr1,hr2⟩:=w_
  have hgk:=fQ hgo
  have hfu:FsU p U [dM p x]:=⟨fun f hf=>by rw[List.mem_singleton.1 hf,←hr1];exact(hgk.2 r0 hr0).head,fun f hf=>by rw[List.mem_singleton.1 hf,←hr1];exact qUg hU1 hr0,List.pairwise_singleton _ _⟩
  have hrm:qLu p (U.map T.tm) (dM p x).fc=some (qEk (cC p U) (dM p x)):=by rw[qLu,if_pos (show qOx p (U.map T.tm) [(dM p x).fc]from hfu.base hpos hgo),hgo,Option.map_some,F.fc_f]
  have hrs:=yQ (f:=(dM p x).fc) (uc:=uc) ((hrp2.mono hle3).mono hle4) ((hus0.mono hle3).mono hle4) hfv
  rw[hrm,List.length_map]at hrs
  refine cPl hrs fun v5 μ5 hle5 hR5=>?_
  have w_:=FsV.sl (L:=qEk (cC p U) (dM p x)) hR5.rep
  obtain⟨b5,c5,rfl,-,hs5⟩:=w_
  intro r37 hm37 ho37
  have hN:=hgd.2.1
  have hle35:=hle4.trans hle5
  have hself:∀g:F,Relv (cC p U) (dM p x) g→g∈qEk (cC p U) (dM p x):=fun g hg=>by
   rw[qEk,mC,List.mem_filter,decide_eq_true_eq]
   exact⟨RvI.mem hg,hg⟩
  generalize qEk (cC p U) (dM p x)=RF at*
  refine lIn (fun z:Nat×List Pf×List Value×Nat×Nat×Mem×Mem=>z.1+Pf.cnts (z.2.1.drop z.1)=x.cnt∧z.1≤z.2.1.length∧(∀y∈z.2.1,OkP p y∧PfU U y∧Relv (cC p U) (dM p x) (dM p y))∧Rows z.2.2.2.2.2.1 4 (z.2.1.map Pf.d) z.2.2.1∧RowO z.2.2.2.2.2.2 z.2.2.2.1 z.2.2.2.2.1 54 4 z.2.2.1∧μ5.Le z.2.2.2.2.2.1∧Apart z.2.2.2.2.2.1 z.2.2.2.2.2.2)
   (fun(i,ys,us,b,c,μ',h')=>⟨[(3,.loc 0 r3 0),(8,.val (.slice b5 RF.length c5)),(9,.val (.slice (some ⟨b,0,none⟩) us.length c)),(10,.val (.int .i64 i))],[(0,some (.cells r3 [.val (.slice q.1 p.rels.length q.2)] 25))],1,μ',h'⟩) (fun z=>x.cnt-z.1)
   (0,[x],[.agg #[.string x.rel,.int .i64 x.clause,.slice px.1.1 x.values.length px.1.2,.slice px.2.1 x.kids.length px.2.2]],r37,1,μ5,_) ⟨by simp[Pf.cnts],Nat.zero_le _,fun y hy=>by rw[List.mem_singleton.1 hy];exact⟨hgd.2.2,hxu,.self⟩,Rows.one (hrx.mono hle35) (Pf.d_n _),⟨_,Mem.set_at _ _ _,Nat.le_refl 1,(show 1≤maxLen by decide),fun u hu=>by rw[List.mem_singleton.1 hu];exact⟨rfl,by simp[aD,Value.oneCell']⟩,rfl,rfl⟩,Mem.Le.refl _,(eA μ5).set hm37⟩ (fun(_,_,_,_,_,_,_)=>⟨rfl,rfl⟩) ⟨⟨rfl,rfl,rfl,rfl,trivial⟩,⟨rfl,trivial⟩,rfl,rfl⟩ ?_
  clear hm37 ho37
  rintro⟨i,ys,us,b,c,μ6,h6⟩ ⟨hcn,hi,hall,hrows,hro,hle56,hap6⟩
  dsimp only at hcn hi hall hrows hro hle56 hap6
  have hyl:=hrows.len
  rw[List.length_map]at hyl
  have hdl:=Pf.cnts_len (ys.drop i)
  rw[List.length_drop]at hdl
  refine ifd (fun hlt=>?_) (fun hlt=>rPl rfl)
  have w_:=aSo (l:=ys) (i:=i) (by omega)
  obtain⟨y,hy⟩:=w_
  have w_:=aSo (l:=us) (i:=i) (by omega)
  obtain⟨u,hu⟩:=w_
  have hru:=hrows.atI (i:=i) (d:=y.d) (v:=u) (by rw[List.getElem?_map,hy];rfl) hu
  have w_:=Pf.inv hru
  obtain⟨py,rfl,hA⟩:=w_
  have w_:=hall y (mAt hy)
  obtain⟨hy1,hy2,hy3⟩:=w_
  refine rX i rfl (by omega) ?_
  refine oIn [.string y.rel,.int .i64 y.clause,.slice py.1.1 y.values.length py.1.2,.slice py.2.1 y.kids.length py.2.2] rfl (hro.ownA hu rfl) ?_
  have hycnt:y.cnt≤200:=by
   have:=Pf.cnt_mem (xs:=ys.drop i) (y:=y) (List.mem_of_getElem? (i:=0) (by rw[List.getElem?_drop];simpa using hy))
   omega
  have hyg:p.Ok∧y.cnt≤200∧OkP p y:=⟨hp.ok,hycnt,hy1⟩
  have hle26:=(hle3.trans hle35).trans hle56
  refine cDa hap6 (uC (hrp2.mono hle26) hp.ok.wd hru (hy2.wd hgood)) fun v7 μ7 hle7 hap7 hR7=>?_
  obtain⟨fv7,rfl,hfv7⟩:=hR7
  rw[if_pos hyg]at hfv7
  rw[decide_eq_true hyg]
  have w_:=F.invV hfv7
  obtain⟨pf7,rfl,_⟩:=w_
  intro r11
  refine cGv (qNt (hs5.mono (hle56.trans hle7)) hfv7) ?_
  refine aL (fun h=>absurd (hself _ hy3) h) (fun _=>?_)
  have hkr:=RepV.mono hle7 (Pf.kidsV hru)
  have w_:=Rep.srcAll hkr
  obtain⟨ks,hks,hkl,hks2⟩:=w_
  have hkc:=Pf.cnts_len y.kids
  have hyc:=y.cnt_eq1
  refine rX i rfl (by omega) ?_
  refine oIn [.slice py.2.1 y.kids.length py.2.2] rfl (hro.own1 hu (j:=3) rfl (by simp[Addr.add_lit'])) ?_
  refine aJ ks hks2 ?_
  refine fM us rfl hro ?_ ?_ fun b' c' o hrow hor=>?_
  ·show(us.length+ks.length)*72≤_;omega
  ·exact Nat.le_trans (m:=100000000) (by omega) (by decide)
  have hdrop:ys.drop i=y::ys.drop (i+1):=by
   have hl:=(List.getElem?_eq_some_iff.1 hy).1
   have e:=(List.getElem?_eq_some_iff.1 hy).2
   rw[←e,←List.drop_eq_getElem_cons hl]
  have hcn2:Pf.cnts (ys.drop i)=y.cnt+Pf.cnts (ys.drop (i+1)):=by rw[hdrop];rfl
  have w_:=qMz hU1 hy1 hy2.vs (fun w hw=>(hy2.kids w hw).vs) hp.ok
  obtain⟨rr,hrr,hrr1,hrr2⟩:=w_
  refine aB (by omega) (by omega) ⟨(i+1,ys++y.kids,us++ks,b',c',μ7,_),⟨?_,by dsimp only;rw[List.length_append];omega,fun w hw=>?_,?_,hrow,hle56.trans hle7,hap7.set (kA hro hap7 hor)⟩,by dsimp only;omega,⟨⟨rfl,rfl,?_,rfl,trivial⟩,⟨rfl,trivial⟩,rfl,rfl⟩⟩
  ·dsimp only
   rw[List.drop_append_of_le_length (by omega),Pf.cnts_append]
   omega
  ·rcases List.mem_append.1 hw with hw | hw
   ·exact hall w hw
   ·have w_ := hy1.inv
    obtain⟨_,_,_,hK,_⟩:=w_
    exact⟨hK w hw,hy2.kids w hw,.rule hrr (by rw[hrr1];exact hy3) (by rw[hrr2];exact List.mem_map_of_mem hw)⟩
  ·dsimp only
   rw[List.map_append]
   exact(hrows.mono hle7).append hks
  ·dsimp only
   rw[List.length_append,hkl];rfl
 ·rw [if_neg hgd] at hfv
  rw[decide_eq_false hgd]
  subst hfv
  intro r6
  exact iIn (fun _=>rPl rfl) (fun h=>nomatch h)
end
end Go.Vx
