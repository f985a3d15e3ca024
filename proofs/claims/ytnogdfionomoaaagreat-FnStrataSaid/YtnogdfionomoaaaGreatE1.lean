/- Texts of the proof, part E1. -/
import Derived.Test.YtnogdfionomoaaaGreatM6
namespace Go.Vx
open Go.Proofs Classical
section
variable {μ:Mem}
def dZ(H:Mem)(r:Nat)(b:Bool):Mem:=H.set r (.cells #[.bool b] 4 (0,0))
end
end Go.Vx
namespace Go.Vx
open Go.Proofs Classical
section
variable {μ:Mem}
theorem gP(n:Int):aP Tryz.prog 217 [.int .i64 n] μ (.bool (decide (n=10))):=by
 refine Spec.mk Tryz.func217 (by kernel_rfl) ?_
 exact rGv rfl rfl
theorem iQ{H:Mem}{r3:Nat}(r:Nat)(b:Bool){g:Gl}{v:Value}(hv:RepV μ g.d v)(hne:r3≠r)(h3:H r3=some (.cells #[.func (.func 217) #[] #[]] 161 (0,0))):
  SpecH Tryz.prog 255 [v,.pointer (some ⟨r,0,none⟩),.pointer (some ⟨r3,0,none⟩)] μ (dZ H r b) fun r' μ' h'=>r'= .tuple #[]∧μ'=μ∧h'=dZ H r (b||decide (g.kind=10)):=by
 have w_:=Gl.inv hv
 obtain⟨p,rfl,-,-⟩:=w_
 refine SpecH.mk [] Tryz.func255 (by kernel_rfl) ?_
 intro r0
 refine oIn [.bool b] rfl (dS (set_self _ _ _)) ?_
 refine iIn (fun hb=>?_) (fun hb=>?_)
 ·refine sIn (h := dZ H r b) (a := ⟨r, 0, none⟩) [.bool b] 4 (set_self _ _ _) rfl (Nat.le_refl _) ?_
  exact rPl ⟨rfl,rfl,by rw[hb];exact Mem.set_set _ _ _ _⟩
 ·refine oIn [.func (.func 217) #[] #[]] rfl (dS ((Mem.set_ne hne).trans h3)) ?_
  refine cGv (gP _) ?_
  refine sIn (h:=dZ H r b) (a:=⟨r,0,none⟩) [.bool b] 4 (set_self _ _ _) rfl (Nat.le_refl _) ?_
  exact rPl ⟨rfl,rfl,by rw[hb];exact Mem.set_set _ _ _ _⟩
theorem nR:∀(l:List Gl) (b:Bool),l.foldl (fun b g=>b||decide (g.kind=10)) b=(b|| !decide (∀x∈l,x.kind≠10))
 |[],b=>by simp
 |a::l,b=>by
  rw[List.foldl_cons,nR l]
  by_cases h:a.kind=10<;>cases b<;>simp[h]
theorem jT{g:Gl}{v:Value}(hv:RepV μ g.d v):Spec Tryz.prog 216 [v,.func (.func 217) #[] #[]] μ fun r μ'=>r= .bool (!decide g.Pos)∧μ'=μ:=by
 have w_:=Gl.inv hv
 obtain⟨p,rfl,-,-⟩:=w_
 refine Spec.mkO [3,5] Tryz.func216 (by kernel_rfl) ?_
 intro r1 r3 hm3 ho3 r5 hm5 ho5
 have hne:r3≠r5:=fun e=>by
  subst e
  have h:Mem.set Mem.nil r3 _ r3=none:=ho5
  rw[Mem.set_at]at h;cases h
 refine sIn [.bool false] 4 (Mem.set_at _ _ _) rfl (Nat.le_refl _) ?_
 refine cOw (R:=fun r μ' h'=>r= .tuple #[]∧μ'=μ∧h'=dZ (Mem.nil.set r3 (.cells #[.func (.func 217) #[] #[]] 161 (0,0))) r5 (g.all.foldl (fun b g=>b||decide (g.kind=10)) false)) ?_ fun v μ' h' hle hap hR=>?_
 ·have:=jP (μ:=μ) (fun b h=>h=dZ (Mem.nil.set r3 (.cells #[.func (.func 217) #[] #[]] 161 (0,0))) r5 b) (fun b g=>b||decide (g.kind=10)) (fun _=>True) (k:=255) (caps:=[.pointer (some ⟨r5,0,none⟩),.pointer (some ⟨r3,0,none⟩)])
   (fun s h x v _ hx hj=>by subst hj;exact iQ r5 s hx hne (Mem.set_at _ _ _)) g false _ hv (fun _ _=>trivial) rfl
  have e:∀X:Mem,((X.set r5 (.cells #[.bool false] 4 (0,0))).set r5 (.cells #[.bool false] 4 (0,0)))=dZ X r5 false:=fun X=>Mem.set_set _ _ _ _
  rw[←e]at this
  exact this
 obtain⟨rfl,e4,rfl⟩:=hR
 obtain rfl:=e4.symm
 rw[nR,Bool.false_or]
 refine oIn [.bool (!decide (∀x∈g.all,x.kind≠10))] rfl (dS (set_self _ _ _)) ?_
 exact rPl ⟨congrArg (fun b=>Value.bool (!b)) (decide_eq_decide.2 Iff.rfl),rfl⟩
theorem iS{g:Gl}{v:Value}(hv:RepV μ g.d v):Spec Tryz.prog 155 [v] μ fun r μ'=>r= .bool (!decide g.Pos)∧μ'=μ:=by
 have hv0:=hv
 have w_:=Gl.inv hv
 obtain⟨p,rfl,-,-⟩:=w_
 refine Spec.mk Tryz.func155 (by kernel_rfl) ?_
 intro r1
 refine cPl (jT hv0) fun v1 μ1 hle1 hR=>?_
 obtain⟨rfl,e⟩:=hR
 obtain rfl:=e.symm
 exact rPl ⟨rfl,rfl⟩
theorem iU{p:Pg}{v:Value}(hp:RepV μ p.d v):Spec Tryz.prog 84 [v] μ fun r μ'=>r= .bool (decide (∀r∈p.rels,r.body.Pos))∧μ'=μ:=by
 have w_:=Pg.inv hp
 obtain⟨q,rfl,hrl⟩:=w_
 have hn:=aH hrl.max
 refine Spec.mk Tryz.func84 (by kernel_rfl) ?_
 intro r1
 refine lIn (fun i:Nat=>i≤p.rels.length∧∀(j:Nat) x,j<i→p.rels[j]? =some x→x.body.Pos)
  (fun i=>⟨[(6,.val (.slice q.1 p.rels.length q.2)),(7,.val (.int .i64 p.rels.length)),(8,.val (.int .i64 i))],[],1,μ,Mem.nil⟩) (fun i=>p.rels.length-i)
  0 ⟨Nat.zero_le _,fun j x h=>by omega⟩ (fun _=>⟨rfl,rfl⟩) ⟨⟨rfl,rfl,rfl,trivial⟩,trivial,rfl,rfl⟩ ?_
 rintro i ⟨hi,hall⟩
 refine ifd (fun hlt=>?_) (fun hlt=>?_)
 ·have w_ := aSo (l := p.rels) (i := i) (by omega)
  obtain⟨x,hx⟩:=w_
  have w_:=Rl.elemA hrl hx
  obtain⟨ad,q2,hel,hr,hb⟩:=w_
  have hb:RepV μ x.body.d (.agg (x.body.cs q2).toArray):=hb
  refine eIn hel ?_
  intro r2
  refine cPl (iS hb) fun v1 μ1 hle1 hR=>?_
  obtain⟨rfl,e⟩:=hR
  obtain rfl:=e.symm
  refine iIn (fun h=>rPl ⟨isF fun k=>?_,rfl⟩) (fun h=>?_)
  ·have:=k x (mAt hx);simp[this]at h
  ·have hpos : x.body.Pos := by simpa using h
   refine aB (by omega) (by omega) ⟨i+1,⟨by omega,fun j y hj hy=>?_⟩,by omega,⟨⟨rfl,rfl,rfl,trivial⟩,trivial,rfl,rfl⟩⟩
   rcases Nat.lt_or_ge j i with h6|h6
   ·exact hall j y h6 hy
   ·obtain rfl : j = i := by omega
    rw[hx]at hy;cases hy;exact hpos
 ·obtain rfl : i = p.rels.length := by omega
  exact rPl ⟨isT fun x hx=>by
   have w_:=List.mem_iff_getElem?.1 hx
   obtain⟨j,hj⟩:=w_
   exact hall j x (List.getElem?_eq_some_iff.1 hj).1 hj,rfl⟩
theorem cW{p:Pg}{v:Value}(hp:RepV μ p.d v):Spec Tryz.prog 31 [v] μ fun r _=>r= .bool (decide p.Pos):=by
 have w_:=Pg.inv hp
 obtain⟨q,rfl,hrl⟩:=w_
 refine Spec.mk Tryz.func31 (by kernel_rfl) ?_
 intro r1
 refine cPl (bX hp) fun v1 μ1 hle1 hR=>?_
 obtain rfl:=hR
 refine ifd (fun hok=>?_) (fun hok=>rPl (isF fun k=>hok k.1))
 refine cPl (iU (hp.mono hle1)) fun v2 μ2 hle2 hR=>?_
 obtain⟨rfl,e⟩:=hR
 refine rPl ?_
 by_cases h:∀r∈p.rels,r.body.Pos
 ·rw[decide_eq_true h,decide_eq_true (show p.Pos from⟨hok,h⟩)]
 ·rw[decide_eq_false h,decide_eq_false fun k:p.Pos=>h k.2]
end
end Go.Vx
namespace Go.Vx
open Go.Proofs Classical
noncomputable def aU(p:Pg)(u:List Tm):Option (List Ru):=if p.Pos then aJ p u else none
section
variable {μ:Mem}
theorem cT{p:Pg}{u:List Tm}{v:Value}{ub:Option Addr}{uc:Nat}(hp:RepV μ p.d v)(hu:Sl μ 4 ub u.length (u.map Tm.d)):
  Spec Tryz.prog 57 [v,.slice ub u.length uc] μ fun v μ'=>xJ (fun y tv=>RepV μ' (.sl 6 ((y.map Ru.rd).map RuD.d)) tv) (aU p u) v:=by
 have hp0:=hp
 have w_:=Pg.inv hp
 obtain⟨q,rfl,hrl⟩:=w_
 refine Spec.mk Tryz.func57 (by kernel_rfl) ?_
 intro r2
 refine cPl (cW hp0) fun v1 μ1 hle1 hR=>?_
 obtain rfl:=hR
 refine aK (fun h=>rPl (by rw[aU,if_neg h];rfl)) (fun hpos=>?_)
 refine cGv (cA (hu.mono hle1)) ?_
 refine aK (fun h=>rPl (by rw[aU,if_pos hpos,aJ,if_neg fun k=>h k.2];rfl)) (fun huok=>?_)
 have w_:=huok.lift
 obtain⟨U,rfl,hUg,hUl⟩:=w_
 have hgo:aU p (U.map T.tm)=bK p U:=by rw[aU,if_pos hpos,aJ,if_pos ⟨hpos.1,huok⟩,bW]
 rw[hgo]
 have h1:=huok.pos
 have h8:=huok.max
 rw[List.length_map]at h1 h8 hu ⊢
 refine cPl (dM (hp0.mono hle1) hpos.1 (hu.mono hle1) h1 h8) fun v2 μ2 hle2 hR=>?_
 cases hL:bK p U with
 |none=>
  rw[hL]at hR
  obtain rfl:=hR
  exact rPl rfl
 |some y=>
  rw[hL]at hR
  obtain⟨tv,rfl,hR⟩:=hR
  exact rPl ⟨tv,rfl,hR⟩
end
end Go.Vx
namespace Go.Vx
open Go.Proofs Classical
theorem lA{rs:List Ru}{pos neg:List F}{i:Nat}{r:Ru}(h:rs[i]? =some r):dI rs pos neg (i+1)=dI rs pos neg i++(if lQ pos neg r then [r.head]else []):=by
 rw[dI,List.take_add_one,h,Option.toList_some,List.filter_append,List.map_append,←dI]
 congr 1
 by_cases k:lQ pos neg r<;>simp[k]
section
variable {rs:List Ru} {S out:List F}
end
section
variable {rs:List Ru} {base out:List F}
end
theorem kV{rs:List Ru}{S S':List F}(h:∀f,f∈S↔f∈S'):aY rs S=aY rs S':=by
 rw[aY,aY]
 refine List.filter_congr fun r _=>?_
 exact decide_eq_decide.2 ⟨fun k f hf hx=>k f hf ((h f).2 hx),fun k f hf hx=>k f hf ((h f).1 hx)⟩
theorem fN(rs:List Ru)(S:List F):(aY rs S).length≤rs.length:=List.length_filter_le _ _
theorem qG{rs:List Ru}{S:List F}{i:Nat}{r:Ru}(h:rs[i]? =some r):aY (rs.take (i+1)) S=aY (rs.take i) S++(if ∀f∈r.neg,f∉S then [r]else []):=by
 rw[aY,List.take_add_one,h,Option.toList_some,List.filter_append,←aY]
 congr 1
 by_cases k:∀f∈r.neg,f∉S
 ·rw[if_pos k,List.filter_cons_of_pos (by simpa using k)];rfl
 ·rw[if_neg k,List.filter_cons_of_neg (by simpa using k)];rfl
noncomputable def gam(rs:List Ru)(S:List F):List F:=lfp (aY rs S) []
theorem iD(rs:List Ru)(S:List F):(gam rs S).length≤rs.length:=by
 have:=sI (aY rs S) []
 have h2:=fN rs S
 simp only[List.length_nil]at this
 rw[gam];omega
theorem iC(rs:List Ru)(S:List F):Asc3 bC (gam rs S):=kU _ _
theorem fW{rs:List Ru}{S S':List F}(h:∀f∈S,f∈S'){f:F}(hf:f∈gam rs S'):f∈gam rs S:=by
 rw[gam,mem_lfp]at hf ⊢
 induction hf with
 |base k=>cases k
 |rule k _ ih=>
  rw[mem_unlessR]at k
  exact .rule (mem_unlessR.2 ⟨k.1,fun x hx hS=>k.2 x hx (h x hS)⟩) ih
noncomputable def iZ(rs:List Ru)(S:List F):List F:=gam rs (gam rs S)
noncomputable def aQ(rs:List Ru):Nat→List F
 |0=>[]
 |n+1=>iZ rs (aQ rs n)
theorem dE(rs:List Ru):∀n,Asc3 bC (aQ rs n)
 |0=>List.Pairwise.nil
 |_+1=>iC _ _
theorem gW(rs:List Ru):∀n,∀f∈aQ rs n,f∈aQ rs (n+1)
 |0,_,h=>nomatch h
 |n+1,_,h=>fW (fun _ k=>fW (gW rs n) k) h
theorem rV(rs:List Ru):∀n,(aQ rs n).length≤rs.length
 |0=>Nat.zero_le _
 |_+1=>iD _ _
theorem kQ{rs:List Ru}{n:Nat}(h:iZ rs (aQ rs n)=aQ rs n):∀k,aQ rs (n+k)=aQ rs n
 |0=>rfl
 |k+1=>by rw[←Nat.add_assoc,aQ,kQ h k,h]
theorem wR{rs:List Ru}{n m:Nat}(h:iZ rs (aQ rs n)=aQ rs n)(k:iZ rs (aQ rs m)=aQ rs m):aQ rs n=aQ rs m:=by
 rcases Nat.le_total n m with e|e
 ·have := kQ h (m - n)
  rw[show n+(m-n)=m by omega]at this
  exact this.symm
 ·have := kQ k (n - m)
  rwa [show m+(n-m)=n by omega]at this
noncomputable def wfT(rs:List Ru):List F:=if h:∃n,iZ rs (aQ rs n)=aQ rs n then aQ rs h.choose else []
theorem qBi{rs:List Ru}{n:Nat}(h:iZ rs (aQ rs n)=aQ rs n):aQ rs n=wfT rs:=by
 have k:∃n,iZ rs (aQ rs n)=aQ rs n:=⟨n,h⟩
 rw[wfT,dif_pos k]
 exact wR h k.choose_spec
noncomputable def wfO(rs:List Ru):List F:=(gam rs (wfT rs)).filter fun f=>decide (f∉wfT rs)
theorem qF{rs:List Ru}:∀{n:Nat},(∀m,m<n→cO rs (stF rs m) []≠stF rs m)→n≤(stF rs n).length
 |0,_=>Nat.zero_le _
 |n+1,h=>by
  have ih:=qF (n:=n) fun m hm=>h m (by omega)
  have h1:=(gF rs n).more fun e=>h n (by omega) (kW cmpF_ord (gF rs n).asc (oT rs _ _) (gF rs n).sub e).symm
  have h2:(stF rs (n+1)).length=(cO rs (stF rs n) []).length:=rfl
  omega
section
variable {rs:List Ru} {model B out:List F}
end
end Go.Vx
namespace Go.Vx
open Go.Proofs Classical
section
variable {μ:Mem}
theorem eR{α:Type}{l:List α}{i:Nat}{x:α}{P:α→Prop}(h:∀y∈l.take i,P y)(hx:l[i]? =some x)(hp:P x):∀y∈l.take (i+1),P y:=by
 rw[List.take_add_one,hx,Option.toList_some]
 intro y hy
 rcases List.mem_append.1 hy with k|k
 ·exact h y k
 ·rw[List.mem_singleton.1 k];exact hp
end
end Go.Vx
namespace Go.Vx
open Go.Proofs Classical
section
variable {μ:Mem}
end
section
variable {μ:Mem}
set_option maxHeartbeats 1000000 in
theorem eI{rs:List Ru}{S:List F}{b b3:Option Addr}{c c3:Nat}(hr:Sl μ 6 b3 rs.length ((rs.map Ru.rd).map RuD.d))(hn:rs.length≤10000000)(hS:Asc3 bC S)(hSn:S.length≤1000000000)(hs:Sl μ 2 b S.length ((S.map F.fc).map Fc.d)):
  Spec Tryz.prog 132 [.slice b3 rs.length c3,.slice b S.length c] μ fun r μ'=>FsV μ' (cO rs S S) r:=by
 refine Spec.mk Tryz.func132 (by kernel_rfl) ?_
 intro r13
 refine lIn (fun z:Nat×Option Nat×Nat×List Value=>z.1≤rs.length∧Rows μ 2 (((dI rs S S z.1).map F.fc).map Fc.d) z.2.2.2)
  (fun(i,bo,co,ys)=>⟨[(1,.val (.slice b S.length c)),(5,.row 0 bo ys.length co),(14,.val (.slice b3 rs.length c3)),(15,.val (.int .i64 rs.length)),(16,.val (.int .i64 i))],[(0,some (.row bo co 41 2 ys))],1,μ,Mem.nil⟩) (fun z=>rs.length-z.1)
  (0,some r13,0,[]) ⟨Nat.zero_le _,by simpa[dI]using .nil⟩ (fun(_,_,_,_)=>⟨rfl,rfl⟩) ⟨⟨rfl,rfl,rfl,rfl,rfl,trivial⟩,⟨rfl,trivial⟩,rfl,rfl⟩ ?_
 rintro⟨i,bo,co,ys⟩ ⟨hi,hrows⟩
 dsimp only at hi hrows
 have hyl:=hrows.len
 simp only[List.length_map]at hyl
 have hhl:=pM rs S S i
 refine ifd (fun hlt=>?_) (fun hlt=>?_)
 rotate_left
 ·obtain rfl : i = rs.length := by omega
  refine aW [0] ?_
  intro μ1 hle1 hno1 hat1
  have hrep:=Rows.sl hat1 (hrows.mono hle1) (Nat.le_trans (m:=100000000) (by omega) (by decide))
  refine bH (bE hrep (by omega)) fun v μ2 hle2 hR=>?_
  rw[pK]at hR
  exact rPl hR
 have w_:=aSo (l:=rs) (i:=i) (by omega)
 obtain⟨r,hri⟩:=w_
 have w_:=Ru.elem hr hri
 obtain⟨ad,p,hel,hrv,hat⟩:=w_
 have hsucc:=lA (pos:=S) (neg:=S) hri
 refine eIn hel ?_
 intro r7
 have hmp:=aH hat.pos.max
 have hmn:=aH hat.neg.max
 refine lIn (fun z:Nat×Bool=>z.1≤r.pos.length∧(z.2=true↔∀f∈r.pos.take z.1,f∈S))
  (fun (j, fine) => ⟨[(1, .val (.slice b S.length c)), (5, .row 0 bo ys.length co), (7, .loc 1 r7 0), (8, .val (.bool fine)), (14, .val (.slice b3 rs.length c3)), (15, .val (.int .i64 rs.length)), (16, .val (.int .i64 i)), (21, .val (.slice p.2.2.1.1 r.pos.length p.2.2.1.2)), (22, .val (.int .i64 r.pos.length)), (23, .val (.int .i64 j))],
   [(0,some (.row bo co 41 2 ys)),(1,some (.cells r7 (vals (r.cs p)) 106))],2,μ,Mem.nil⟩) (fun z=>r.pos.length-z.1)
  (0,true) ⟨Nat.zero_le _,by simp⟩ (fun(_,_)=>⟨rfl,rfl⟩) ⟨⟨rfl,rfl,rfl,rfl,rfl,rfl,rfl,rfl,rfl,rfl,trivial⟩,⟨rfl,rfl,trivial⟩,rfl,rfl⟩ ?_
 rintro⟨j,fine⟩ ⟨hj,hfine⟩
 dsimp only at hj hfine
 refine ifd (fun hlt2=>?_) (fun hlt2=>?_)
 ·have w_ := aSo (l := r.pos) (i := j) (by omega)
  obtain⟨f,hf⟩:=w_
  have w_:=F.elem hat.pos hf
  obtain⟨ad2,p2,hel2,hrf,_⟩:=w_
  have hstep:=jM (P:=fun f=>f∈S) hf
  refine eIn hel2 ?_
  intro r10
  refine iIn (fun hk=>?_) (fun hk=>?_)
  ·refine cGv (bM hS hSn hs hrf) ?_
   refine aB (by omega) (by omega) ⟨(j+1,decide (f∈S)),⟨by dsimp only;omega,?_⟩,by dsimp only;omega,⟨⟨rfl,rfl,rfl,rfl,rfl,rfl,rfl,rfl,rfl,rfl,trivial⟩,⟨rfl,rfl,trivial⟩,rfl,rfl⟩⟩
   dsimp only
   rw[hstep,←hfine,decide_eq_true_eq]
   exact⟨fun h=>⟨hk,h⟩,fun h=>h.2⟩
  ·refine aB (by omega) (by omega) ⟨(j + 1, false), ⟨by dsimp only; omega, ?_⟩, by dsimp only; omega, ⟨⟨rfl, rfl, rfl, rfl, rfl, rfl, rfl, rfl, rfl, rfl, trivial⟩, ⟨rfl, rfl, trivial⟩, rfl, rfl⟩⟩
   dsimp only
   rw[hstep,←hfine,hk]
   simp
 obtain rfl:j=r.pos.length:=by omega
 rw[List.take_length]at hfine
 refine lIn (fun z:Nat×Bool=>z.1≤r.neg.length∧(z.2=true↔(∀f∈r.pos,f∈S)∧∀f∈r.neg.take z.1,f∉S))
  (fun (j, fine) => ⟨[(1, .val (.slice b S.length c)), (5, .row 0 bo ys.length co), (7, .loc 1 r7 0), (8, .val (.bool fine)), (14, .val (.slice b3 rs.length c3)), (15, .val (.int .i64 rs.length)), (16, .val (.int .i64 i)), (35, .val (.slice p.2.2.2.1 r.neg.length p.2.2.2.2)), (36, .val (.int .i64 r.neg.length)), (37, .val (.int .i64 j))],
   [(0,some (.row bo co 41 2 ys)),(1,some (.cells r7 (vals (r.cs p)) 106))],2,μ,Mem.nil⟩) (fun z=>r.neg.length-z.1)
  (0,fine) ⟨Nat.zero_le _,by simpa using hfine⟩ (fun(_,_)=>⟨rfl,rfl⟩) ⟨⟨rfl,rfl,rfl,rfl,rfl,rfl,rfl,rfl,rfl,rfl,trivial⟩,⟨rfl,rfl,trivial⟩,rfl,rfl⟩ ?_
 clear hfine hlt2 hj
 rintro⟨j,fine⟩ ⟨hj,hfine⟩
 dsimp only at hj hfine
 refine ifd (fun hlt2=>?_) (fun hlt2=>?_)
 ·have w_ := aSo (l := r.neg) (i := j) (by omega)
  obtain⟨f,hf⟩:=w_
  have w_:=F.elem hat.neg hf
  obtain⟨ad2,p2,hel2,hrf,_⟩:=w_
  have hstep:=jM (P:=fun f=>f∉S) hf
  refine eIn hel2 ?_
  intro r10
  refine iIn (fun hk=>?_) (fun hk=>?_)
  ·refine cGv (bM hS hSn hs hrf) ?_
   refine aB (by omega) (by omega) ⟨(j+1,!decide (f∈S)),⟨by dsimp only;omega,?_⟩,by dsimp only;omega,⟨⟨rfl,rfl,rfl,rfl,rfl,rfl,rfl,rfl,rfl,rfl,trivial⟩,⟨rfl,rfl,trivial⟩,rfl,rfl⟩⟩
   dsimp only
   rw[hstep,←and_assoc,←hfine,Bool.not_eq_true',decide_eq_false_iff_not]
   exact⟨fun h=>⟨hk,h⟩,fun h=>h.2⟩
  ·refine aB (by omega) (by omega) ⟨(j + 1, false), ⟨by dsimp only; omega, ?_⟩, by dsimp only; omega, ⟨⟨rfl, rfl, rfl, rfl, rfl, rfl, rfl, rfl, rfl, rfl, trivial⟩, ⟨rfl, rfl, trivial⟩, rfl, rfl⟩⟩
   dsimp only
   rw[hstep,←and_assoc,←hfine,hk]
   simp
 obtain rfl:j=r.neg.length:=by omega
 rw[List.take_length]at hfine
 replace hfine:fine=true↔lQ S S r:=hfine
 refine iIn (fun hk=>?_) (fun hk=>?_)
 ·rw [if_pos (hfine.1 hk)] at hsucc
  intro r53
  refine gIn ?_ ?_ fun b' c' _=>?_
  ·show(ys.length+1)*40≤_;omega
  ·exact Nat.le_trans (m:=100000000) (show ys.length+1≤_ by omega) (by decide)
  refine aB (by omega) (by omega) ⟨(i+1,b',c',_),⟨by dsimp only;omega,?_⟩,by dsimp only;omega,⟨⟨rfl,rfl,rfl,rfl,rfl,trivial⟩,⟨rfl,trivial⟩,rfl,rfl⟩⟩
  dsimp only
  rw[hsucc]
  simp only[List.map_append,List.map_cons,List.map_nil]
  exact hrows.append (Rows.one hat.head (Fc.d_n _))
 ·rw [if_neg (fun k => by rw [hfine.2 k] at hk; cases hk), List.append_nil] at hsucc
  refine aB (by omega) (by omega) ⟨(i+1,bo,co,ys),⟨by dsimp only;omega,?_⟩,by dsimp only;omega,⟨⟨rfl,rfl,rfl,rfl,rfl,trivial⟩,⟨rfl,trivial⟩,rfl,rfl⟩⟩
  dsimp only
  rw[hsucc];exact hrows
set_option maxHeartbeats 1000000 in
theorem nY{rs:List Ru}{S:List F}{b b3:Option Addr}{c c3:Nat}(hr:Sl μ 6 b3 rs.length ((rs.map Ru.rd).map RuD.d))(hn:rs.length≤10000000)(hS:Asc3 bC S)(hSn:S.length≤1000000000)(hs:Sl μ 2 b S.length ((S.map F.fc).map Fc.d)):
  Spec Tryz.prog 83 [.slice b3 rs.length c3,.slice b S.length c] μ fun r μ'=>RsV μ' (aY rs S) r:=by
 refine Spec.mk Tryz.func83 (by kernel_rfl) ?_
 intro r13
 refine lIn (fun z:Nat×Option Nat×Nat×List Value=>z.1≤rs.length∧Rows μ 6 (((aY (rs.take z.1) S).map Ru.rd).map RuD.d) z.2.2.2)
  (fun(i,bo,co,ys)=>⟨[(1,.val (.slice b S.length c)),(5,.row 0 bo ys.length co),(12,.val (.slice b3 rs.length c3)),(13,.val (.int .i64 rs.length)),(14,.val (.int .i64 i))],[(0,some (.row bo co 106 6 ys))],1,μ,Mem.nil⟩) (fun z=>rs.length-z.1)
  (0,some r13,0,[]) ⟨Nat.zero_le _,by simpa[aY]using .nil⟩ (fun(_,_,_,_)=>⟨rfl,rfl⟩) ⟨⟨rfl,rfl,rfl,rfl,rfl,trivial⟩,⟨rfl,trivial⟩,rfl,rfl⟩ ?_
 rintro⟨i,bo,co,ys⟩ ⟨hi,hrows⟩
 dsimp only at hi hrows
 have hyl:=hrows.len
 simp only[List.length_map]at hyl
 have hhl:=fN (rs.take i) S
 rw[List.length_take]at hhl
 refine ifd (fun hlt=>?_) (fun hlt=>?_)
 rotate_left
 ·obtain rfl : i = rs.length := by omega
  rw[List.take_length]at hrows
  refine rFz [0] fun μ2 hle2 hno2 hrow2=> .inl ?_
  exact Rows.sl hrow2 (hrows.mono hle2) (Nat.le_trans (m:=100000000) (by omega) (by decide))
 have w_:=aSo (l:=rs) (i:=i) (by omega)
 obtain⟨r,hri⟩:=w_
 have w_:=Ru.elem hr hri
 obtain⟨ad,p,hel,hrv,hat⟩:=w_
 have hsucc:=qG (S:=S) hri
 refine eIn hel ?_
 intro r7
 have hmn:=aH hat.neg.max
 refine lIn (fun z:Nat×Bool=>z.1≤r.neg.length∧(z.2=true↔∀f∈r.neg.take z.1,f∉S))
  (fun (j, fine) => ⟨[(1, .val (.slice b S.length c)), (5, .row 0 bo ys.length co), (7, .loc 1 r7 0), (8, .val (.bool fine)), (12, .val (.slice b3 rs.length c3)), (13, .val (.int .i64 rs.length)), (14, .val (.int .i64 i)), (19, .val (.slice p.2.2.2.1 r.neg.length p.2.2.2.2)), (20, .val (.int .i64 r.neg.length)), (21, .val (.int .i64 j))],
   [(0,some (.row bo co 106 6 ys)),(1,some (.cells r7 (vals (r.cs p)) 106))],2,μ,Mem.nil⟩) (fun z=>r.neg.length-z.1)
  (0,true) ⟨Nat.zero_le _,by simp⟩ (fun(_,_)=>⟨rfl,rfl⟩) ⟨⟨rfl,rfl,rfl,rfl,rfl,rfl,rfl,rfl,rfl,rfl,trivial⟩,⟨rfl,rfl,trivial⟩,rfl,rfl⟩ ?_
 rintro⟨j,fine⟩ ⟨hj,hfine⟩
 dsimp only at hj hfine
 refine ifd (fun hlt2=>?_) (fun hlt2=>?_)
 ·have w_ := aSo (l := r.neg) (i := j) (by omega)
  obtain⟨f,hf⟩:=w_
  have w_:=F.elem hat.neg hf
  obtain⟨ad2,p2,hel2,hrf,_⟩:=w_
  have hstep:=jM (P:=fun f=>f∉S) hf
  refine eIn hel2 ?_
  intro r10
  refine iIn (fun hk=>?_) (fun hk=>?_)
  ·refine cGv (bM hS hSn hs hrf) ?_
   refine aB (by omega) (by omega) ⟨(j+1,!decide (f∈S)),⟨by dsimp only;omega,?_⟩,by dsimp only;omega,⟨⟨rfl,rfl,rfl,rfl,rfl,rfl,rfl,rfl,rfl,rfl,trivial⟩,⟨rfl,rfl,trivial⟩,rfl,rfl⟩⟩
   dsimp only
   rw[hstep,←hfine,Bool.not_eq_true',decide_eq_false_iff_not]
   exact⟨fun h=>⟨hk,h⟩,fun h=>h.2⟩
  ·refine aB (by omega) (by omega) ⟨(j + 1, false), ⟨by dsimp only; omega, ?_⟩, by dsimp only; omega, ⟨⟨rfl, rfl, rfl, rfl, rfl, rfl, rfl, rfl, rfl, rfl, trivial⟩, ⟨rfl, rfl, trivial⟩, rfl, rfl⟩⟩
   dsimp only
   rw[hstep,←hfine,hk]
   simp
 obtain rfl:j=r.neg.length:=by omega
 rw[List.take_length]at hfine
 refine iIn (fun hk=>?_) (fun hk=>?_)
 ·rw [if_pos (hfine.1 hk)] at hsucc
  intro r53
  refine gIn ?_ ?_ fun b' c' _=>?_
  ·show(ys.length+1)*120≤_;omega
  ·exact Nat.le_trans (m:=100000000) (show ys.length+1≤_ by omega) (by decide)
  refine aB (by omega) (by omega) ⟨(i+1,b',c',_),⟨by dsimp only;omega,?_⟩,by dsimp only;omega,⟨⟨rfl,rfl,rfl,rfl,rfl,trivial⟩,⟨rfl,trivial⟩,rfl,rfl⟩⟩
  dsimp only
  rw[hsucc]
  simp only[List.map_append,List.map_cons,List.map_nil]
  exact hrows.append (Rows.one hrv (RuD.d_n _))
 ·rw [if_neg (fun k => by rw [hfine.2 k] at hk; cases hk), List.append_nil] at hsucc
  refine aB (by omega) (by omega) ⟨(i+1,bo,co,ys),⟨by dsimp only;omega,?_⟩,by dsimp only;omega,⟨⟨rfl,rfl,rfl,rfl,rfl,trivial⟩,⟨rfl,trivial⟩,rfl,rfl⟩⟩
  dsimp only
  rw[hsucc];exact hrows
theorem gS{rs:List Ru}{S:List F}{b b3:Option Addr}{c c3:Nat}(hr:Sl μ 6 b3 rs.length ((rs.map Ru.rd).map RuD.d))(hn:rs.length≤3000000)(hS:Asc3 bC S)(hSn:S.length≤1000000000)(hs:Sl μ 2 b S.length ((S.map F.fc).map Fc.d)):
  Spec Tryz.prog 66 [.slice b3 rs.length c3,.slice b S.length c] μ fun r μ'=>FsV μ' (gam rs S) r:=by
 refine Spec.mk Tryz.func66 (by kernel_rfl) ?_
 refine cPl (nY hr (by omega) hS hSn hs) fun v1 μ1 hle1 hR1=>?_
 have w_:=RsV.sl hR1
 obtain⟨b1,c1,rfl,hs1⟩:=w_
 have:=fN rs S
 refine cPl (oM hs1 (by omega) (FsV.nil none 0) (Nat.zero_le _)) fun v2 μ2 hle2 hR2=>?_
 exact rPl hR2
end
end Go.Vx
namespace Go.Vx
open Go.Proofs Classical
theorem lL{p:Pg}{rs:List Ru}{S:List F}(hr:∀r∈rs,RuOk p r):FsOk p (gam rs S):=tX (fun r h=>hr r (mem_unlessR.1 h).1) (fun _ h=>nomatch h)
noncomputable def bZ(p:Pg)(u:List Tm)(l:List Fc):Option (List F):=(aJ p u).bind fun rs=>if ∀f∈l,FactFits p f then some (gam rs (l.map Fc.f))else none
theorem uD{p:Pg}{u:List Tm}{l:List Fc}{y:List F}(h:bZ p u l=some y):p.Ok∧FsOk p y∧y.length≤2000∧∀f∈l,FactFits p f:=by
 rw[bZ]at h
 cases hg:aJ p u with
 |none=>rw[hg]at h;cases h
 |some rs=>
  rw[hg,Option.bind_some]at h
  have w_:=bI hg
  obtain⟨h1,h2⟩:=w_
  split at h
  ·rename_i hf
   cases h
   exact⟨(bB hg).1,lL h2,Nat.le_trans (iD _ _) h1,hf⟩
  ·cases h
section
variable {μ:Mem}
theorem eW{p:Pg}{u:List Tm}{v:Value}{ub:Option Addr}{uc:Nat}(hp:RepV μ p.d v)(hu:Sl μ 4 ub u.length (u.map Tm.d)):
  Spec Tryz.prog 65 [v,.slice ub u.length uc] μ fun v μ'=>xJ (fun y tv=>RsV μ' y tv) (aJ p u) v:=by
 have hp0:=hp
 have w_:=Pg.inv hp
 obtain⟨q,rfl,hrl⟩:=w_
 refine Spec.mk Tryz.func65 (by kernel_rfl) ?_
 intro r2
 refine cPl (bX hp0) fun v1 μ1 hle1 hR=>?_
 obtain rfl:=hR
 refine aK (fun h=>rPl (by rw[aJ,if_neg fun k=>h k.1];rfl)) (fun hok=>?_)
 refine cGv (cA (hu.mono hle1)) ?_
 refine aK (fun h=>rPl (by rw[aJ,if_neg fun k=>h k.2];rfl)) (fun huok=>?_)
 have w_:=huok.lift
 obtain⟨U,rfl,hUg,hUl⟩:=w_
 have hgo:aJ p (U.map T.tm)=bK p U:=by rw[aJ,if_pos ⟨hok,huok⟩,bW]
 rw[hgo]
 have h1:=huok.pos
 have h8:=huok.max
 rw[List.length_map]at h1 h8 hu ⊢
 refine cPl (dM (hp0.mono hle1) hok (hu.mono hle1) h1 h8) fun v2 μ2 hle2 hR=>?_
 cases hL:bK p U with
 |none=>
  rw[hL]at hR
  obtain rfl:=hR
  exact rPl rfl
 |some y=>
  rw[hL]at hR
  obtain⟨tv,rfl,hR⟩:=hR
  exact rPl ⟨tv,rfl,hR⟩
theorem cM{p:Pg}{u:List Tm}{l:List Fc}{v:Value}{ub fb:Option Addr}{uc fc:Nat}(hp:RepV μ p.d v)(hu:Sl μ 4 ub u.length (u.map Tm.d))(hb:RepV μ (.sl 2 (l.map Fc.d)) (.slice fb l.length fc))(hn:l.length≤2000000):
  Spec Tryz.prog 19 [v,.slice ub u.length uc,.slice fb l.length fc] μ fun v μ'=>vA (fun y tv=>Fresh μ μ' (.sl 2 ((y.map F.fc).map Fc.d)) tv) (bZ p u l) v:=by
 have hp0:=hp
 have w_:=Pg.inv hp
 obtain⟨q,rfl,hrl⟩:=w_
 have hb0:=hb
 have hbs:=pC hb
 refine Spec.mk Tryz.func19 (by kernel_rfl) ?_
 intro r3
 refine cPl (eW hp0 hu) fun v1 μ1 hle1 hR=>?_
 cases hL:aJ p u with
 |none=>
  rw[hL]at hR
  obtain rfl:=hR
  exact iIn (fun _=>rPl (by rw[bZ,hL];rfl)) (fun h=>nomatch h)
 |some rs=>
 rw[hL]at hR
 obtain⟨tv,rfl,hR⟩:=hR
 have w_:=RsV.sl hR
 obtain⟨b1,c1,rfl,hrs⟩:=w_
 have w_:=bI hL
 obtain⟨hrl2,hro⟩:=w_
 have hpo:=(bB hL).1
 refine iIn (fun h=>nomatch h) (fun _=>?_)
 refine lIn (fun i:Nat=>i≤l.length∧∀f∈l.take i,FactFits p f)
  (fun i=>⟨[(2,.val (.slice fb l.length fc)),(3,.loc 0 r3 0),(8,.val (.slice b1 rs.length c1)),(20,.val (.slice fb l.length fc)),(21,.val (.int .i64 l.length)),(22,.val (.int .i64 i))],[(0,some (.cells r3 [.val (.slice q.1 p.rels.length q.2)] 25))],1,μ1,Mem.nil⟩) (fun i=>l.length-i)
  0 ⟨Nat.zero_le _,by simp⟩ (fun _=>⟨rfl,rfl⟩) ⟨⟨rfl,rfl,rfl,rfl,rfl,rfl,trivial⟩,⟨rfl,trivial⟩,rfl,rfl⟩ ?_
 rintro i ⟨hi,hall⟩
 refine ifd (fun hlt=>?_) (fun hlt=>?_)
 ·have w_ := aSo (l := l) (i := i) (by omega)
  obtain⟨f,hf⟩:=w_
  have w_:=Fc.elemA (hbs.mono hle1) hf
  obtain⟨ad,q2,hel,hrf,_⟩:=w_
  refine eIn hel ?_
  intro r11
  refine cGv (gB (hp0.mono hle1) hrf) ?_
  refine aK (fun h=>rPl (by rw[bZ,hL,Option.bind_some,if_neg fun k=>h (k f (mAt hf))];rfl)) (fun h=>?_)
  exact aB (by omega) (by omega) ⟨i+1,⟨by omega,eR hall hf h⟩,by omega,⟨⟨rfl,rfl,rfl,rfl,rfl,rfl,trivial⟩,⟨rfl,trivial⟩,rfl,rfl⟩⟩
 obtain rfl:i=l.length:=by omega
 rw[List.take_length]at hall
 have hlift:=cE hall
 have hb1:FsV μ1 (l.map Fc.f) (.slice fb l.length fc):=by
  show RepV μ1 (.sl 2 (((l.map Fc.f).map F.fc).map Fc.d)) _
  rw[hlift];exact RepV.mono hle1 hb0
 refine cPl (bE hb1 (by rw[List.length_map];omega)) fun v2 μ2 hle2 hR2=>?_
 have w_:=FsV.sl hR2
 obtain⟨b2,c2,rfl,-,hs2⟩:=w_
 have hsl:=fT (l.map Fc.f)
 rw[List.length_map]at hsl
 refine cPl (gS (hrs.mono hle2) (by omega) (cU _) (by omega) hs2) fun v3 μ3 hle3 hR3=>?_
 have e:gam rs (dA (l.map Fc.f))=gam rs (l.map Fc.f):=by rw[gam,gam,kV fun f=>mem_ascF]
 rw[e]at hR3
 have hgl:=iD rs (l.map Fc.f)
 have hgo:=(lL (S:=l.map Fc.f) hro).len hpo
 refine cPl (bD hR3 (by omega) fun f hf=>Nat.le_trans (hgo f hf) (by decide)) fun v4 μ4 hle4 hR4=>?_
 refine rPl ?_
 rw[bZ,hL,Option.bind_some,if_pos hall]
 exact⟨_,rfl,hR4.mono ((hle1.trans hle2).trans hle3) (Mem.Le.refl _)⟩
end
end Go.Vx
namespace Go.Vx
open Go.Proofs Classical
def yB(p:Pg)(u:List Tm)(l:List Fc):Prop:=∃y,bZ p u l=some y∧∀x,x∈y↔x∈l.map Fc.f
noncomputable def wfM(p:Pg)(u:List Tm):Option (List F×List F):=(aJ p u).map fun rs=>(wfT rs,wfO rs)
def qLn(P:List F→List F→Value→Value→Prop)(o:Option (List F×List F))(v:Value):Prop:=match o with
 |some y=>∃tv tw,v= .tuple #[tv,tw,.bool true]∧P y.1 y.2 tv tw
 |none=>v= .tuple #[.slice none 0 0,.slice none 0 0,.bool false]
theorem rL{p:Pg}{u:List Tm}{l:List Fc}{y:List F}(h:bZ p u l=some y):Asc3 bC y:=by
 rw[bZ]at h
 cases hg:aJ p u with
 |none=>rw[hg]at h;cases h
 |some rs=>
  rw[hg,Option.bind_some]at h
  split at h
  ·cases h;exact iC _ _
  ·cases h
noncomputable def gR(rs:List Ru)(t:List F)(i:Nat):List F:=((gam rs t).take i).filter fun f=>decide (f∉t)
theorem uB{rs:List Ru}{t:List F}{i:Nat}{f:F}(h:(gam rs t)[i]? =some f):gR rs t (i+1)=gR rs t i++(if f∉t then [f]else []):=by
 rw[gR,List.take_add_one,h,Option.toList_some,List.filter_append,←gR]
 congr 1
 by_cases k:f∈t<;>simp[k]
theorem wD(rs:List Ru)(t:List F)(i:Nat):(gR rs t i).length≤i:=Nat.le_trans (List.length_filter_le _ _) (List.length_take_le _ _)
theorem qHf{rs:List Ru}{n:Nat}(h:iZ rs (aQ rs n)≠aQ rs n):(aQ rs n).length<(iZ rs (aQ rs n)).length:=
 mP cmpF_ord (dE rs n) (iC _ _) (gW rs n) fun e=>h (kW cmpF_ord (dE rs n) (iC _ _) (gW rs n) e).symm
theorem qMk{p:Pg}{rs:List Ru}(hr:∀r∈rs,RuOk p r)(n:Nat):FsOk p (aQ rs n):=by
 cases n with
 |zero=>exact fun _ h=>nomatch h
 |succ n=>exact lL hr
section
variable {μ:Mem}
theorem jA{p:Pg}{u:List Tm}{l:List Fc}{v:Value}{ub fb:Option Addr}{uc fc:Nat}(hp:RepV μ p.d v)(hu:Sl μ 4 ub u.length (u.map Tm.d))(hb:RepV μ (.sl 2 (l.map Fc.d)) (.slice fb l.length fc))(hn:l.length≤2000000):
  Spec Tryz.prog 21 [v,.slice ub u.length uc,.slice fb l.length fc] μ fun v _=>v= .bool (decide (yB p u l)):=by
 have hp0:=hp
 have w_:=Pg.inv hp
 obtain⟨q,rfl,hrl⟩:=w_
 refine Spec.mk Tryz.func21 (by kernel_rfl) ?_
 intro r3
 refine cPl (cM hp0 hu hb hn) fun v1 μ1 hle1 hR=>?_
 cases hL:bZ p u l with
 |none=>
  rw[hL]at hR
  obtain rfl:=hR
  refine iIn (fun h=>nomatch h) (fun _=>rPl (isF fun k=>?_))
  obtain⟨y,hy,_⟩:=k
  rw[hL]at hy;cases hy
 |some y=>
  rw[hL]at hR
  obtain⟨tv,rfl,hR⟩:=hR
  have hR:FsV μ1 y tv:=hR.rep
  have w_:=FsV.sl hR
  obtain⟨b1,c1,rfl,-,hs1⟩:=w_
  have hk:=uD hL
  have hlift:=cE hk.2.2.2
  have hb1:FsV μ1 (l.map Fc.f) (.slice fb l.length fc):=by
   show RepV μ1 (.sl 2 (((l.map Fc.f).map F.fc).map Fc.d)) _
   rw[hlift];exact RepV.mono hle1 hb
  refine iIn (fun _=>?_) (fun h=>nomatch h)
  refine cPl (bE hb1 (by rw[List.length_map];omega)) fun v2 μ2 hle2 hR2=>?_
  have w_:=FsV.sl hR2
  obtain⟨b2,c2,rfl,-,hs2⟩:=w_
  refine cGv (eC (hs1.mono hle2) hs2) ?_
  refine rPl (isI ?_)
  constructor
  ·intro e
   exact⟨y,hL,fun x=>by rw[e,mem_ascF]⟩
  ·rintro ⟨y', hy, h⟩
   rw[hL]at hy;cases hy
   exact(rL hL).uniq cmpF_ord (cU _) fun x=>by rw[h,mem_ascF]
set_option maxHeartbeats 1000000 in
set_option maxHeartbeats 1000000 in
theorem gC{p:Pg}{u:List Tm}{v:Value}{ub:Option Addr}{uc:Nat}(hp:RepV μ p.d v)(hu:Sl μ 4 ub u.length (u.map Tm.d)):
  Spec Tryz.prog 18 [v,.slice ub u.length uc] μ fun v μ'=>qLn (fun y z tv tw=>∃μ1 μ2,μ.Le μ1∧μ1.Le μ2∧μ2.Le μ'∧Fresh μ μ1 (.sl 2 ((y.map F.fc).map Fc.d)) tv∧Fresh μ2 μ' (.sl 2 ((z.map F.fc).map Fc.d)) tw) (wfM p u) v:=by
 have hp0:=hp
 have w_:=Pg.inv hp
 obtain⟨q,rfl,hrl⟩:=w_
 refine Spec.mk Tryz.func18 (by kernel_rfl) ?_
 intro r3
 refine cPl (eW hp0 hu) fun v1 μ1 hle1 hR=>?_
 cases hL:aJ p u with
 |none=>
  rw[hL]at hR
  obtain rfl:=hR
  exact iIn (fun _=>rPl (by rw[wfM,hL];rfl)) (fun h=>nomatch h)
 |some rs=>
 rw[hL]at hR
 obtain⟨tv,rfl,hR⟩:=hR
 have w_:=RsV.sl hR
 obtain⟨b1,c1,rfl,hrs⟩:=w_
 have w_:=bI hL
 obtain⟨hrl2,hro⟩:=w_
 have hpo:=(bB hL).1
 refine iIn (fun h=>nomatch h) (fun _=>?_)
 intro r23
 refine lFz (fun z:Nat×Option Addr×Nat×Mem=>μ1.Le z.2.2.2∧FsV z.2.2.2 (aQ rs z.1) (.slice z.2.1 (aQ rs z.1).length z.2.2.1))
  (fun(n,b4,c4,μ')=>⟨[(7,.val (.slice b1 rs.length c1)),(9,.val (.slice b4 (aQ rs n).length c4))],[],1,μ',Mem.nil⟩) (fun z=>rs.length-(aQ rs z.1).length) [1]
  (fun(_,_,_,_)=>⟨rfl,rfl⟩) (fun μ2 hle2 hno2 hat2=>⟨(0,some ⟨r23,0,none⟩,0,μ2),⟨hle2,FsV.nil _ _⟩,⟨rfl,rfl,trivial⟩,trivial,rfl,rfl⟩) ?_
 rintro⟨n,b4,c4,μ'⟩ ⟨hle,hout⟩
 dsimp only at hle hout
 have w_:=FsV.sl hout
 obtain⟨b5,c5,e,-,hso⟩:=w_
 have w_:=Value.slice.inj e
 obtain⟨rfl,_,rfl⟩:=w_
 have hwl:=rV rs n
 have hrs':=hrs.mono hle
 have hga:=iC rs (aQ rs n)
 have hgl:=iD rs (aQ rs n)
 have hnl:(iZ rs (aQ rs n)).length≤rs.length:=iD _ _
 have hokT:=(qMk hro n).len hpo
 have hokG:=(lL (S:=aQ rs n) hro).len hpo
 refine cPl (gS hrs' (by omega) (dE rs n) (by omega) hso) fun v3 μ3 hle3 hR3=>?_
 have w_:=FsV.sl hR3
 obtain⟨b6,c6,rfl,-,hs3⟩:=w_
 refine cPl (gS (hrs'.mono hle3) (by omega) hga (by omega) hs3) fun v4 μ4 hle4 hR4=>?_
 have hR4:FsV μ4 (iZ rs (aQ rs n)) v4:=hR4
 have w_:=FsV.sl hR4
 obtain⟨b7,c7,rfl,-,hs4⟩:=w_
 have hsg:=hs3.mono hle4
 refine cGv (eC hs4 ((hso.mono hle3).mono hle4)) ?_
 refine ifd (fun hfix=>?_) (fun he=>?_)
 rotate_left
 ·have hmore := qHf (rs := rs) (n := n) he
  exact⟨[],(n+1,b7,c7,μ4),⟨hle.trans (hle3.trans hle4),hR4⟩,by show rs.length-(iZ rs (aQ rs n)).length<rs.length-(aQ rs n).length;omega,⟨⟨rfl,rfl,trivial⟩,trivial,rfl,rfl⟩⟩
 have hT:=qBi hfix
 have e1:wfM p u=some (aQ rs n,gR rs (aQ rs n) (gam rs (aQ rs n)).length):=by
  rw[wfM,hL,hT,gR,List.take_length];rfl
 rw[e1]
 intro r35
 refine lIn (fun z:Nat×Option Nat×Nat×List Value=>z.1≤(gam rs (aQ rs n)).length∧Rows μ4 2 (((gR rs (aQ rs n) z.1).map F.fc).map Fc.d) z.2.2.2)
  (fun(i,bo,co,ys)=>⟨[(9,.val (.slice b4 (aQ rs n).length c4)),(12,.row 1 bo ys.length co),(34,.val (.slice b6 (gam rs (aQ rs n)).length c6)),(35,.val (.int .i64 (gam rs (aQ rs n)).length)),(36,.val (.int .i64 i))],[(1,some (.row bo co 41 2 ys))],2,μ4,Mem.nil⟩) (fun z=>(gam rs (aQ rs n)).length-z.1)
  (0,some r35,0,[]) ⟨Nat.zero_le _,by simpa[gR]using .nil⟩ (fun(_,_,_,_)=>⟨rfl,rfl⟩) ⟨⟨rfl,rfl,rfl,rfl,rfl,trivial⟩,⟨rfl,trivial⟩,rfl,rfl⟩ ?_
 rintro⟨i,bo,co,ys⟩ ⟨hi,hrows⟩
 dsimp only at hi hrows
 have hyl:=hrows.len
 simp only[List.length_map]at hyl
 have hol:=wD rs (aQ rs n) i
 refine ifd (fun hlt=>?_) (fun hlt=>?_)
 ·have w_ := aSo (l := gam rs (aQ rs n)) (i := i) (by omega)
  obtain⟨f,hf⟩:=w_
  have w_:=F.elem hsg hf
  obtain⟨ad,q2,hel,hrf,_⟩:=w_
  have hsucc:=uB (t:=aQ rs n) hf
  refine eIn hel ?_
  intro r14
  refine cGv (bM (dE rs n) (by omega) ((hso.mono hle3).mono hle4) hrf) ?_
  refine aK (fun hin=>?_) (fun hin=>?_)
  ·rw [if_pos hin] at hsucc
   intro r48
   refine gIn ?_ ?_ fun b' c' _=>?_
   ·show(ys.length+1)*40≤_;omega
   ·exact Nat.le_trans (m:=100000000) (show ys.length+1≤_ by omega) (by decide)
   refine aB (by omega) (by omega) ⟨(i+1,b',c',_),⟨by dsimp only;omega,?_⟩,by dsimp only;omega,⟨⟨rfl,rfl,rfl,rfl,rfl,trivial⟩,⟨rfl,trivial⟩,rfl,rfl⟩⟩
   dsimp only
   rw[hsucc]
   simp only[List.map_append,List.map_cons,List.map_nil]
   exact hrows.append (Rows.one hrf (Fc.d_n _))
  ·rw [if_neg (fun k => k hin), List.append_nil] at hsucc
   refine aB (by omega) (by omega) ⟨(i+1,bo,co,ys),⟨by dsimp only;omega,?_⟩,by dsimp only;omega,⟨⟨rfl,rfl,rfl,rfl,rfl,trivial⟩,⟨rfl,trivial⟩,rfl,rfl⟩⟩
   dsimp only
   rw[hsucc];exact hrows
 obtain rfl:i=(gam rs (aQ rs n)).length:=by omega
 have hokO:∀f∈gR rs (aQ rs n) (gam rs (aQ rs n)).length,f.args.length≤1000000:=fun f hf=>Nat.le_trans (hokG f (List.mem_of_mem_take (List.mem_filter.1 hf).1)) (by decide)
 refine cPl (bD ((RepV.mono hle3 hout).mono hle4) (by omega) fun f hf=>Nat.le_trans (hokT f hf) (by decide)) fun v5 μ5 hle5 hR5=>?_
 refine aW [1] ?_
 intro μ6 hle6 hno6 hat6
 have hrep:FsV μ6 (gR rs (aQ rs n) (gam rs (aQ rs n)).length) _:=Rows.sl hat6 ((hrows.mono hle5).mono hle6) (Nat.le_trans (m:=100000000) (by omega) (by decide))
 refine bH (bD hrep (by omega) hokO) fun v7 μ7 hle7 hR7=>?_
 have hm:μ.Le μ4:=((hle1.trans hle).trans hle3).trans hle4
 exact rPl ⟨_,_,rfl,μ5,μ6,hm.trans hle5,hle6,hle7,hR5.mono hm (Mem.Le.refl _),hR7⟩
end
end Go.Vx
namespace Go.Vx
open Go.Proofs Classical
theorem yH{p:Pg}{u:List Tm}{rs:List Ru}(hpos:p.Pos)(h:aJ p u=some rs):∀r∈rs,r.neg=[]:=by
 have hok:=bB h
 rw[aJ,if_pos hok,bK]at h
 split at h
 ·cases h
  intro r hr
  have w_:=List.mem_flatMap.1 hr
  obtain⟨rel,hrel,hr⟩:=w_
  rw[dJ]at hr
  split at hr
  ·simp at hr
  ·rename_i L hL
   rw[bO,List.mem_flatMap]at hr
   obtain⟨i,hi,hr⟩:=hr
   rw[List.mem_range]at hi
   have w_:=aSo (l:=L) (i:=i) hi
   obtain⟨c,hc⟩:=w_
   have ec:L.getD i []=c:=by rw[List.getD_eq_getElem?_getD,hc];rfl
   rw[ec,cH,List.mem_filterMap]at hr
   obtain⟨w,-,hr⟩:=hr
   rw[gT]at hr
   split at hr
   ·cases hr
    show pZ _ c=[]
    rw[pZ,List.map_eq_nil_iff,List.filter_eq_nil_iff]
    intro g hg
    rw[decide_eq_true_eq]
    exact hpos.2 rel hrel g (Gl.cl_all _ hL c (mAt hc) g hg).1
   ·cases hr
 ·cases h
theorem qAi{rs:List Ru}(h:∀r∈rs,r.neg=[])(S neg:List F):cO rs S neg=cO rs S []:=by
 rw[cO,cO]
 refine congrArg (fun l=>dA (l.map Ru.head)) (List.filter_congr fun r hr=>decide_eq_decide.2 ?_)
 rw[lQ,lQ,h r hr]
 exact⟨fun k=>⟨k.1,fun _ hx=>nomatch hx⟩,fun k=>⟨k.1,fun _ hx=>nomatch hx⟩⟩
def fsD(L:List F):D:= .sl 2 ((L.map F.fc).map Fc.d)
noncomputable def stD(rs:List Ru)(n:Nat):List D:=(List.range (n+1)).map fun i=>fsD (stF rs i)
theorem qAw(rs:List Ru)(n:Nat):stD rs (n+1)=stD rs n++[fsD (stF rs (n+1))]:=by
 rw[stD,List.range_succ,List.map_append];rfl
theorem qE(rs:List Ru)(n:Nat):(stD rs n).length=n+1:=by rw[stD,List.length_map,List.length_range]
theorem rR(rs:List Ru)(n:Nat):(stD rs n)[n]? =some (fsD (stF rs n)):=by
 rw[stD,List.getElem?_map,List.getElem?_range (by omega)];rfl
theorem Rows.val{μ:Mem}{es:Nat}{ds:List D}{ys:List Value}(h:Rows μ es ds ys){i:Nat}{d:D}(hd:ds[i]? =some d):∃v,ys[i]? =some v∧RepV μ d v:=by
 have hl:=(List.getElem?_eq_some_iff.1 hd).1
 have w_:=aSo (l:=ys) (i:=i) (by have:=h.len;omega)
 obtain⟨v,hv⟩:=w_
 exact⟨v,hv,h.atI hd hv⟩
noncomputable def eV(p:Pg)(u:List Tm):Option (List F):=(aU p u).map fun rs=>lfp rs []
noncomputable def qRy(P:List F→Value→Prop)(o:Option (List F))(v:Value):Prop:=match o with
 |none=>v= .tuple #[.slice none 0 0,.int .i64 0,.bool false]
 |some y=>∃tv,∃n:Nat,v= .tuple #[tv,.int .i64 n,.bool true]∧P y tv
theorem wB{p:Pg}{u:List Tm}{y:List F}(h:eV p u=some y):p.Ok∧FsOk p y∧y.length≤2000∧Asc3 bC y:=by
 cases hP:aU p u with
 |none=>rw[eV,hP]at h;cases h
 |some rs=>
  rw[eV,hP]at h
  cases h
  rw[aU]at hP
  split at hP
  ·rename_i hpos
   have w_:=bI hP
   obtain⟨h1,h2⟩:=w_
   refine⟨hpos.1,tX h2 (fun _ h=>nomatch h),?_,kU _ _⟩
   have:=sI rs []
   simp only[List.length_nil]at this
   show(lfp rs []).length≤2000
   omega
  ·cases hP
section
variable {μ:Mem}
set_option maxHeartbeats 1000000 in
theorem rS{rs:List Ru}{b3:Option Addr}{c3:Nat}(hr:Sl μ 6 b3 rs.length ((rs.map Ru.rd).map RuD.d))(hn:rs.length≤2000)(hneg:∀r∈rs,r.neg=[]):
  Spec Tryz.prog 61 [.slice b3 rs.length c3] μ fun v μ'=>∃n,LastSt rs n∧RepV μ' (.sl 1 (stD rs n)) v:=by
 refine Spec.mk Tryz.func61 (by kernel_rfl) ?_
 intro r6 μ1 hle1 hno1 hat1 r7
 refine lIn (fun z:Nat×Option Nat×Nat×List Value×Mem=>(∀m,m<z.1→cO rs (stF rs m) []≠stF rs m)∧μ.Le z.2.2.2.2∧Rows z.2.2.2.2 1 (stD rs z.1) z.2.2.2.1)
  (fun(_,bo,co,ys,μ')=>⟨[(0,.val (.slice b3 rs.length c3)),(3,.row 1 bo ys.length co)],[(1,some (.row bo co 29 1 ys))],2,μ',Mem.nil⟩) (fun z=>rs.length+1-z.1)
  (0,some r7,1,_,μ1) ⟨(fun m h=>by omega),hle1,Rows.one (d:=fsD []) (Rows.sl (μ:=μ1) (ds:=[]) hat1 .nil (Nat.zero_le _)) rfl⟩ (fun(_,_,_,_,_)=>⟨rfl,rfl⟩) ⟨⟨rfl,rfl,trivial⟩,⟨rfl,trivial⟩,rfl,rfl⟩ ?_
 rintro⟨n,bo,co,ys,μ'⟩ ⟨hne,hle,hrows⟩
 dsimp only at hne hle hrows
 have hyl:=hrows.len
 rw[qE]at hyl
 have hsl:=qF hne
 have hrl:=(gF rs n).len
 have w_:=hrows.val (rR rs n)
 obtain⟨w,hw,hwr⟩:=w_
 have hwr:FsV μ' (stF rs n) w:=hwr
 have w_:=FsV.sl hwr
 obtain⟨b5,c5,rfl,-,hso⟩:=w_
 refine aB (by omega) (by omega) ?_
 refine bV n (by omega) (by omega) (bU _ hw ?_)
 refine cPl (eI (hr.mono hle) (by omega) (gF rs n).asc (by omega) hso) fun v4 μ4 hle4 hR4=>?_
 rw[qAi hneg]at hR4
 have w_:=FsV.sl hR4
 obtain⟨b6,c6,rfl,-,hs6⟩:=w_
 refine aB (by omega) (by omega) ?_
 refine bV n (by omega) (by omega) (bU _ hw ?_)
 refine cGv (eC hs6 (hso.mono hle4)) ?_
 refine ifd (fun he=>?_) (fun he=>?_)
 ·refine rFz [1] fun μ5 hle5 hno5 hat5 => .inl ⟨n, ⟨he, hne⟩, ?_⟩
  exact Rows.sl hat5 (hrows.mono (hle4.trans hle5)) (Nat.le_trans (m:=100000) (by omega) (by decide))
 ·intro r25
  refine gIn ?_ ?_ fun b' c' _=>?_
  ·show(ys.length+1)*24≤_;omega
  ·exact Nat.le_trans (m:=100000) (show ys.length+1≤_ by omega) (by decide)
  have hne':∀m,m<n+1→cO rs (stF rs m) []≠stF rs m:=fun m hm=>by
   rcases Nat.lt_or_ge m n with k|k
   ·exact hne m k
   ·obtain rfl : m = n := by omega
    exact he
  have hs2:=qF hne'
  have hr2:=(gF rs (n+1)).len
  refine⟨(n+1,b',c',_,μ4),⟨hne',hle.trans hle4,?_⟩,by dsimp only;omega,⟨⟨rfl,rfl,trivial⟩,⟨rfl,trivial⟩,rfl,rfl⟩⟩
  dsimp only
  rw[qAw]
  exact(hrows.mono hle4).append (Rows.one (d:=fsD (stF rs (n+1))) hR4 rfl)
theorem qAv{rs:List Ru}{n:Nat}{b:Option Addr}(h:Sl μ 1 b (n+1) (stD rs n)):∃ad,∃q:Option Addr×Nat,ElemAt μ b (n+1) 1 n ad [.slice q.1 (stF rs n).length q.2]∧FsV μ (stF rs n) (.slice q.1 (stF rs n).length q.2):=by
 have w_:=h.get n (fsD (stF rs n)) (rR rs n)
 obtain⟨ad,cs,h1,h2⟩:=w_
 have h3:Rep μ (fsD (stF rs n)) cs:=h2
 have hl:=Rep.len _ _ h3
 match cs,hl with
 |[v],_=>
  have h4:FsV μ (stF rs n) v:=h3
  have w_:=FsV.sl h4
  obtain⟨b5,c5,rfl,-,_⟩:=w_
  exact⟨ad,(b5,c5),h1,h4⟩
theorem qGr{rs:List Ru}{n:Nat}{v:Value}(h:RepV μ (.sl 1 (stD rs n)) v):∃b c,v= .slice b (n+1) c∧Sl μ 1 b (n+1) (stD rs n):=by
 have w_:=Rep.sl h
 obtain⟨b,c,rfl,hs⟩:=w_
 have hs2:=hs.1
 rw[qE]at hs hs2
 exact⟨b,c,by rw[qE],hs⟩
theorem gK{p:Pg}{u:List Tm}{v:Value}{ub:Option Addr}{uc:Nat}(hp:RepV μ p.d v)(hu:Sl μ 4 ub u.length (u.map Tm.d)):
  Spec Tryz.prog 15 [v,.slice ub u.length uc] μ fun v μ'=>qRy (fun y tv=>Fresh μ μ' (fsD y) tv) (eV p u) v:=by
 have hp0:=hp
 have w_:=Pg.inv hp
 obtain⟨q,rfl,hrl⟩:=w_
 refine Spec.mk Tryz.func15 (by kernel_rfl) ?_
 intro r2
 refine cPl (cT hp0 hu) fun v1 μ1 hle1 hR=>?_
 cases hP:aU p u with
 |none=>
  rw[hP]at hR
  obtain rfl:=hR
  refine iIn (fun _=>rPl (by rw[eV,hP];rfl)) (fun h=>nomatch h)
 |some rs=>
 rw[hP]at hR
 obtain⟨tv,rfl,hR⟩:=hR
 have hR:RsV μ1 rs tv:=hR
 have w_:=RsV.sl hR
 obtain⟨b1,c1,rfl,hrs⟩:=w_
 have hL:eV p u=some (lfp rs []):=by rw[eV,hP];rfl
 have hk:=wB hL
 have hpg:p.Pos∧aJ p u=some rs:=by
  rw[aU]at hP
  split at hP
  ·rename_i k;exact⟨k,hP⟩
  ·cases hP
 refine iIn (fun h=>nomatch h) (fun _=>?_)
 refine cPl (rS hrs (bI hpg.2).1 (yH hpg.1 hpg.2)) fun v2 μ2 hle2 hR2=>?_
 obtain⟨n,hlast,hR2⟩:=hR2
 have w_:=qGr hR2
 obtain⟨b2,c2,rfl,hs2⟩:=w_
 have hsl:=qF hlast.2
 rw[←hlast.eq]at hL hk
 refine aB (by omega) (by omega) ?_
 have w_:=qAv hs2
 obtain⟨ad,q2,hel,hfs⟩:=w_
 rw[show(((n+1:Nat):Int)-1)=(n:Int) by omega]
 refine eIn hel ?_
 refine cPl (bD hfs (by omega) fun f hf=>Nat.le_trans (hk.2.1.len hk.1 f hf) (by decide)) fun v4 μ4 hle4 hR4=>?_
 refine aB (by omega) (by omega) ?_
 refine rPl ?_
 rw[hL]
 exact⟨_,n,by rw[show(((n+1:Nat):Int)-1)=(n:Int) by omega],hR4.mono (hle1.trans hle2) (Mem.Le.refl _)⟩
end
end Go.Vx
namespace Go.Vx
open Go.Proofs Classical
section
variable {n:Nat} {A B:Nat→Nat→Prop}
theorem qPc{T:Nat→Nat}(h:Strat n A B T){i w:Nat}(_hi:i<n)(hw:w<pW n A B i):∃j,j<n∧pW n A B j=w:=Classical.byContradiction fun k=>by
 have hS:=pX h
 have hne:∀j,j<n→pW n A B j≠w:=fun j hj e=>k ⟨j,hj,e⟩
 have h2:Strat n A B fun j=>if w<pW n A B j then pW n A B j-1 else pW n A B j:=by
  refine⟨fun a b ha hb e=>?_,fun a b ha hb e=>?_⟩
  ·have := hS.pos a b ha hb e
   have:=hne a ha
   have:=hne b hb
   split<;>split<;>omega
  ·have := hS.neg a b ha hb e
   have:=hne a ha
   have:=hne b hb
   split<;>split<;>omega
 have:=yG h2 i
 rw[if_pos hw]at this
 omega
theorem qGf{T:Nat→Nat}(h:Strat n A B T){i:Nat}(hi:i<n):pW n A B i<n:=by
 have:=dB (a:=List.range (pW n A B i+1)) (b:=(List.range n).map (pW n A B)) List.nodup_range fun w hw=>by
  rw[List.mem_range]at hw
  rw[List.mem_map]
  rcases Nat.lt_or_ge w (pW n A B i)with e|e
  ·have w_ := qPc h hi e
   obtain⟨j,hj,e2⟩:=w_
   exact⟨j,List.mem_range.2 hj,e2⟩
  ·exact⟨i,List.mem_range.2 hi,by omega⟩
 simp only[List.length_range,List.length_map]at this
 omega
end
end Go.Vx
namespace Go.Vx
open Go.Proofs Classical
theorem Gl.callss_map(b:Bool):∀l:List Gl,Gl.callss b l=l.flatMap (Gl.calls b)
 |[]=>rfl
 |g::r=>by rw[Gl.callss,Gl.callss_map b r,List.flatMap_cons]
theorem Gl.calls_eq(b:Bool)(g:Gl):g.calls b=if g.kind=10 then(if b=true then sF g.goals else [])else(if g.kind=9∧b=false then [g.name]else [])++g.goals.flatMap (Gl.calls b):=by
 cases g
 rw[Gl.calls,Gl.callss_map];rfl
theorem qKt{α β:Type}{l:List α}{i:Nat}{x:α}(f:α→List β)(h:l[i]? =some x):(l.take (i+1)).flatMap f=(l.take i).flatMap f++f x:=by
 rw[List.take_add_one,h,Option.toList_some,List.flatMap_append,List.flatMap_cons,List.flatMap_nil,List.append_nil]
theorem Gl.cnt_kids(g:Gl):g.cnt=1+Gl.cnts g.goals:=by
 cases g;rw[Gl.cnt];rfl
theorem pE{α β:Type}{f:α→List β}{w:α→Nat}:∀{l:List α},(∀x∈l,(f x).length≤w x)→(l.flatMap f).length≤(l.map w).sum
 |[],_=>by simp
 |x::l,h=>by
  rw[List.flatMap_cons,List.length_append,List.map_cons,List.sum_cons]
  have:=h x (by simp)
  have:=pE (f:=f) (w:=w) fun y hy=>h y (List.mem_cons_of_mem x hy)
  omega
theorem Gl.cnts_sum:∀l:List Gl,Gl.cnts l=(l.map Gl.cnt).sum
 |[]=>by rw[Gl.cnts];rfl
 |g::l=>by rw[Gl.cnts,Gl.cnts_sum l,List.map_cons,List.sum_cons]
theorem Gl.calls_len(b:Bool):∀g:Gl,(g.calls b).length≤g.cnt:=Gl.ind fun g ih=>by
 rw[Gl.calls_eq,Gl.cnt_kids]
 split
 ·split
  ·cases h:g.goals<;>simp[sF]<;>omega
  ·simp
 ·have := pE (f := Gl.calls b) (w := Gl.cnt) ih
  rw[List.length_append,Gl.cnts_sum]
  have h2:(if g.kind=9∧b=false then [g.name]else []).length≤1:=by split<;>simp
  omega
theorem Gl.calls_fit{p:Pg}(b:Bool):∀{g:Gl},g.Sh→FitAll p g→∀s∈g.calls b,∃j:Nat,cR p s=(j:Int)∧j<p.rels.length:=fun {g}=>by
 refine Gl.ind (q:=fun g=>g.Sh→FitAll p g→∀s∈g.calls b,∃j:Nat,cR p s=(j:Int)∧j<p.rels.length) (fun g ih hS hF s hs=>?_) g
 have one:∀{x:Gl},dT p x→x.kind=9→∃j:Nat,cR p x.name=(j:Int)∧j<p.rels.length:=fun hx k=>by
  have w_:=hx k
  obtain⟨i,r,h1,h2,_⟩:=w_
  exact⟨i,h1,(List.getElem?_eq_some_iff.1 h2).1⟩
 rw[Gl.calls_eq]at hs
 split at hs
 ·rename_i k
  split at hs
  ·cases e : g.goals with
   |nil=>rw[e]at hs;simp[sF]at hs
   |cons x l=>
    rw[e]at hs
    simp only[sF,List.mem_singleton]at hs
    subst hs
    exact one (hF.sub x (by rw[e];simp)).top (hS.top.cl k x (by rw[e];rfl))
  ·simp at hs
 ·rcases List.mem_append.1 hs with h | h
  ·split at h
   ·rename_i k
    rw[List.mem_singleton]at h
    subst h
    exact one hF.top k.1
   ·simp at h
  ·have w_ := List.mem_flatMap.1 h
   obtain⟨x,hx,h⟩:=w_
   exact ih x hx (hS.sub x hx) (hF.sub x hx) s h
theorem qJz{S:List Nat}:∀{i k v:Nat},S[i]? =some k→(S.set i v).sum+k=S.sum+v:=by
 induction S with
 |nil=>intro i k v h;simp at h
 |cons x S ih=>
  intro i k v h
  cases i with
  |zero=>
   simp only[List.getElem?_cons_zero,Option.some.injEq]at h
   subst h
   simp only[List.set_cons_zero,List.sum_cons];omega
  |succ i=>
   rw[List.getElem?_cons_succ]at h
   have:=ih (v:=v) h
   simp only[List.set_cons_succ,List.sum_cons];omega
theorem qNt{S:List Nat}{m:Nat}(h:∀k∈S,k≤m):S.sum≤S.length*m:=by
 induction S with
 |nil=>simp
 |cons x S ih=>
  rw[List.sum_cons,List.length_cons,Nat.succ_mul]
  have:=h x (by simp)
  have:=ih fun k hk=>h k (List.mem_cons_of_mem _ hk)
  omega
section
variable {p:Pg} {S:List Nat} {m:Nat}
theorem StI.raise(h:StI p S m){b:Bool}{i j x:Nat}(hi:i<p.rels.length)(hj:S[j]? =some x)(hc:fP b p i j)(hm:x+b.toNat≤m):StI p (S.set i (x+b.toNat)) m:=by
 have hjl:=(List.getElem?_eq_some_iff.1 hj).1
 refine⟨by rw[List.length_set];exact h.len,fun k hk=>?_,fun T hT a k hk=>?_⟩
 ·rcases List.mem_or_eq_of_mem_set hk with k1 | rfl
  ·exact h.max k k1
  ·exact hm
 ·rw [List.getElem?_set] at hk
  split at hk
  ·rename_i e
   subst e
   split at hk
   ·cases hk
    have h1:=h.low T hT j x hj
    have hl:=h.len
    cases b with
    |false=>have:=hT.pos i j hi (by omega) hc;simp;omega
    |true=>have:=hT.neg i j hi (by omega) hc;simp;omega
   ·cases hk
  ·exact h.low T hT a k hk
theorem StI.bad(h:StI p S m)(_hok:p.Ok){i k:Nat}(hk:S[i]? =some k)(hb:p.rels.length≤k):eQ p=none:=by
 rw[eQ,if_neg]
 rintro⟨-,T,hT⟩
 have hi:=(List.getElem?_eq_some_iff.1 hk).1
 have h1:=h.low _ (pX hT) i k hk
 have h2:=qGf hT (i:=i) (by rw[←h.len];exact hi)
 omega
end
theorem qPp{p:Pg}{S0 S:List Nat}{ch:Bool}{C C':List Nat→Prop}{m m' i j x y:Nat}{b:Bool}(hI:StI p S m)(hP:PassI p S0 S ch C)(hi:S[i]? =some y)(hj:S[j]? =some x)(hc:fP b p i j)(hm:x+b.toNat≤m')(hmm:m≤m')
  (hC:C S0→S=S0→x+b.toNat≤y→C' S0):(y<x+b.toNat→StI p (S.set i (x+b.toNat)) m'∧PassI p S0 (S.set i (x+b.toNat)) true C')∧(¬y<x+b.toNat→StI p S m'∧PassI p S0 S ch C'):=by
 have hil:=(List.getElem?_eq_some_iff.1 hi).1
 have hI':StI p S m':=⟨hI.len,fun k hk=>Nat.le_trans (hI.max k hk) hmm,hI.low⟩
 refine⟨fun h=>⟨hI'.raise (by rw[←hI.len];exact hil) hj hc hm,(fun h=>nomatch h),?_,fun _=>?_⟩,fun h=>⟨hI',fun e=>?_,hP.more,hP.grew⟩⟩
 ·have := qJz (v := x + b.toNat) hi
  have:=hP.more
  omega
 ·have := qJz (v := x + b.toNat) hi
  have:=hP.more
  omega
 ·have w_ := hP.same e
  obtain⟨h1,h2⟩:=w_
  exact⟨h1,hC h2 h1 (by omega)⟩
end Go.Vx
namespace Go.Vx
open Go.Proofs Classical
set_option maxHeartbeats 2000000 in
section
variable {μ:Mem}
noncomputable def nZ(b u:Bool)(g:Gl):List ByteArray:=if u=true then(if b=true then [g.name]else [])else g.calls b
set_option maxHeartbeats 2000000 in
theorem qFf(b:Bool):∀(g:Gl) {μ:Mem} {v:Value} (u:Bool),RepV μ g.d v→g.Sh→g.cnt≤1000→(u=true→g.kind=9)→Spec Tryz.prog 81 [v,.bool b,.bool u] μ fun w μ'=>NmV μ' (nZ b u g) w:=
 Gl.ind fun g ih μ v u hv hS hn hu=>by
  have w_:=Gl.inv hv
  obtain⟨p,rfl,hts,hgs⟩:=w_
  have hk:=Gl.cnt_kids g
  have hg8:=hS.top.gl
  refine Spec.mk Tryz.func81 (by kernel_rfl) ?_
  intro r3 r10
  refine ifd (fun h9=>?_) (fun h9=>?_)
  ·have h0 := hS.top.gl0 (.inr h9)
   have h00:g.goals=[]:=List.eq_nil_of_length_eq_zero h0
   have hL:nZ b u g=if u=b then [g.name]else []:=by
    rw[nZ,Gl.calls_eq,if_neg (show ¬g.kind=10 by omega),h00]
    cases u<;>cases b<;>simp[h9]
   refine iIn (fun e=>?_) (fun e=>?_)
   ·have e : u = b := by simpa using e
    rw[hL,if_pos e]
    intro r22
    refine gIn (Nat.le_trans (m:=100) (by simp) (by decide)) (Nat.le_trans (m:=100) (by simp) (by decide)) fun b1 c1 hb1=>?_
    refine lIn (fun i:Nat=>i=0) (fun i=>⟨[(1,.val (.bool b)),(2,.val (.bool u)),(3,.loc 0 r3 0),(7,.row 1 (b1) (([]:List Value)++[Value.string g.name]).length (c1)),(25,.val (.slice p.2.1 g.goals.length p.2.2)),(26,.val (.int .i64 g.goals.length)),(27,.val (.int .i64 i))],
      [(0,some (.cells r3 [.val (.int .i64 g.kind),.val (.string g.name),.val (.slice p.1.1 g.terms.length p.1.2),.val (.slice p.2.1 g.goals.length p.2.2)] 61)),(1,some (.row (b1) (c1) 9 1 (([]:List Value)++[Value.string g.name])))],2,μ,Mem.nil⟩) (fun _=>0)
     0 rfl (fun _=>⟨rfl,rfl⟩) ⟨⟨rfl,rfl,rfl,rfl,rfl,rfl,rfl,trivial⟩,⟨rfl,rfl,trivial⟩,rfl,rfl⟩ ?_
    rintro i rfl
    refine ifd (fun hlt=>by omega) (fun _=>?_)
    refine rFz [1] fun μ2 hle2 hno2 hrow2=> .inl ?_
    exact Rows.sl hrow2 (Nm.rows [g.name]) (Nat.le_trans (m:=100) (by simp) (by decide))
   ·have e : ¬ u = b := by simpa using e
    rw[hL,if_neg e]
    refine lIn (fun i:Nat=>i=0) (fun i=>⟨[(1,.val (.bool b)),(2,.val (.bool u)),(3,.loc 0 r3 0),(7,.row 1 ((some r10)) (([]:List Value)++[]).length (0)),(25,.val (.slice p.2.1 g.goals.length p.2.2)),(26,.val (.int .i64 g.goals.length)),(27,.val (.int .i64 i))],
      [(0,some (.cells r3 [.val (.int .i64 g.kind),.val (.string g.name),.val (.slice p.1.1 g.terms.length p.1.2),.val (.slice p.2.1 g.goals.length p.2.2)] 61)),(1,some (.row ((some r10)) (0) 9 1 (([]:List Value)++[])))],2,μ,Mem.nil⟩) (fun _=>0)
     0 rfl (fun _=>⟨rfl,rfl⟩) ⟨⟨rfl,rfl,rfl,rfl,rfl,rfl,rfl,trivial⟩,⟨rfl,rfl,trivial⟩,rfl,rfl⟩ ?_
    rintro i rfl
    refine ifd (fun hlt=>by omega) (fun _=>?_)
    refine rFz [1] fun μ2 hle2 hno2 hrow2=> .inl ?_
    exact Rows.sl hrow2 (Nm.rows []) (Nat.zero_le _)
  ·have hu:u=false:=by
    cases u with
    |false=>rfl
    |true=>exact absurd (hu rfl) h9
   subst hu
   refine lIn (fun z:Nat×Option Nat×Nat×List Value×Mem=>z.1≤g.goals.length∧μ.Le z.2.2.2.2∧z.2.2.2.1=((g.goals.take z.1).flatMap (nZ b (decide (g.kind=10)))).map Value.string)
    (fun (i, bo, co, ys, μ') => ⟨[(1, .val (.bool b)), (2, .val (.bool false)), (3, .loc 0 r3 0), (7, .row 1 bo ys.length co), (25, .val (.slice p.2.1 g.goals.length p.2.2)), (26, .val (.int .i64 g.goals.length)), (27, .val (.int .i64 i))],
     [(0,some (.cells r3 [.val (.int .i64 g.kind),.val (.string g.name),.val (.slice p.1.1 g.terms.length p.1.2),.val (.slice p.2.1 g.goals.length p.2.2)] 61)),(1,some (.row bo co 9 1 ys))],2,μ',Mem.nil⟩) (fun z=>g.goals.length-z.1)
    (0,some r10,0,[],μ) ⟨Nat.zero_le _,Mem.Le.refl _,rfl⟩ (fun(_,_,_,_,_)=>⟨rfl,rfl⟩) ⟨⟨rfl,rfl,rfl,rfl,rfl,rfl,rfl,trivial⟩,⟨rfl,rfl,trivial⟩,rfl,rfl⟩ ?_
   rintro⟨i,bo,co,ys,μ'⟩ ⟨hi,hle,hys⟩
   dsimp only at hi hle hys
   have lenU:∀(y:Gl) (w:Bool),(nZ b w y).length≤y.cnt:=fun y w=>by
    have h1:=Gl.calls_len b y
    have h2:=Gl.cnt_kids y
    rw[nZ]
    split
    ·split<;>simp<;>omega
    ·exact h1
   have hx4:=pE (f:=nZ b (decide (g.kind=10))) (w:=Gl.cnt) (l:=g.goals.take i) fun y _=>lenU y _
   rw[←Gl.cnts_sum]at hx4
   have hyl:ys.length≤1000:=by
    rw[hys,List.length_map]
    have:=Gl.cnts_le g.goals i
    omega
   refine ifd (fun hlt=>?_) (fun hlt=>?_)
   ·have w_ := aSo (l := g.goals) (i := i) (by omega)
    obtain⟨x,hx⟩:=w_
    have w_:=Gl.elem (hgs.mono hle) hx
    obtain⟨ad,q,hel,hr⟩:=w_
    have hx2:=Gl.cnts_take hx
    have hx3:=Gl.cnts_le g.goals (i+1)
    refine eIn hel ?_
    intro r9
    refine iIn (fun h=>nomatch h) (fun _=>?_)
    refine cPl (ih x (mAt hx) (decide (g.kind=10)) hr (hS.sub x (mAt hx)) (by omega) fun k=>?_) fun w μ1 hle1 hR=>?_
    ·have k : g.kind = 10 := by simpa using k
     have hl1:=hS.top.gl1 k
     obtain rfl:i=0:=by omega
     exact hS.top.cl k x hx
    have w_:=NmV.sl hR
    obtain⟨b2,c2,rfl,_⟩:=w_
    have hl2:=lenU x (decide (g.kind=10))
    refine aG _ (Nm.src hR) ?_
    refine gIn ?_ ?_ fun b' c' _=>?_
    ·show(ys.length+_)*16≤_;rw[List.length_map];omega
    ·exact Nat.le_trans (m:=100000000) (by rw[List.length_map];omega) (by decide)
    refine aB (by omega) (by omega) ⟨(i+1,b',c',_,μ1),⟨by dsimp only;omega,hle.trans hle1,?_⟩,by dsimp only;omega,⟨⟨rfl,rfl,rfl,rfl,rfl,rfl,rfl,trivial⟩,⟨rfl,rfl,trivial⟩,rfl,rfl⟩⟩
    dsimp only
    rw[qKt _ hx,List.map_append,hys]
   ·obtain rfl : i = g.goals.length := by omega
    rw[List.take_length]at hys
    have hfin:nZ b false g=g.goals.flatMap (nZ b (decide (g.kind=10))):=by
     show g.calls b=_
     rw[Gl.calls_eq]
     by_cases k:g.kind=10
     ·rw [if_pos k, decide_eq_true k]
      have hl1:=hS.top.gl1 k
      cases e:g.goals with
      |nil=>rw[e]at hl1;cases hl1
      |cons x l=>
       obtain rfl:l=[]:=by rw[e]at hl1;exact List.eq_nil_of_length_eq_zero (by simpa using hl1)
       rw[List.flatMap_cons,List.flatMap_nil,List.append_nil];rfl
     ·rw[if_neg k,decide_eq_false k,if_neg fun h=>h9 h.1];rfl
    rw[hfin]
    refine rFz [1] fun μ2 hle2 hno2 hrow2=> .inl ?_
    have h:=Nm.rows (μ:=μ2) (g.goals.flatMap (nZ b (decide (g.kind=10))))
    rw[←hys]at h
    exact Rows.sl hrow2 h (Nat.le_trans hyl (by decide))
theorem wJ{r:Nat}{S:List Nat}{i x:Nat}(h:S[i]? =some x):∀(j:Nat) (v:Value),[Value.int .i64 (x:Int)][j]? =some v→(Mem.nil.set r (.cells (List.toArray (S.map fun k:Nat=>Value.int .i64 (k:Int))) 3 (0,0))).cell ((⟨r,i*1,none⟩:Addr).add j)=some v:=fun j v hj=>by
 match j,hj with
 |0,hj=>
  cases hj
  rw[Addr.add_lit',Nat.mul_one,Nat.add_zero]
  simp only[Mem.cell,Mem.set_at]
  simp[h]
abbrev sV(r:Nat)(S:List Nat):Mem:=Mem.nil.set r (.cells (List.toArray (S.map fun k:Nat=>Value.int .i64 (k:Int))) 3 (0,0))
theorem qSo{r i w:Nat}{S:List Nat}(hil:i<S.length):(sV r S).set r (.cells (List.toArray ((S.map fun k:Nat=>Value.int .i64 (k:Int)).take (i*1)++[Value.int .i64 (w:Int)]++(S.map fun k:Nat=>Value.int .i64 (k:Int)).drop (i*1+[Value.int .i64 (w:Int)].length))) 3 (0,0))=sV r (S.set i w):=by
 rw[sV,sV,Mem.set_set]
 congr 3
 rw[List.map_set,List.set_eq_take_append_cons_drop,List.length_map,if_pos hil]
 simp
end
end Go.Vx
namespace Go.Vx
open Go.Proofs Classical
noncomputable def uG(p:Pg)(S:List Nat)(r:Ru):Nat:=S.getD (cR p r.head.rel).toNat 0
noncomputable def qGl(p:Pg)(S:List Nat)(rs:List Ru)(s:Nat):List Ru:=rs.filter fun r=>decide (uG p S r=s)
noncomputable def kP(p:Pg)(S:List Nat)(rs:List Ru):Nat→List F
 |0=>[]
 |s+1=>lfp (aY (qGl p S rs s) (kP p S rs s)) (kP p S rs s)
noncomputable def lN(p:Pg)(u:List Tm):Option (List F):=(eQ p).bind fun S=>(aJ p u).map fun rs=>kP p S rs p.rels.length
section
variable {p:Pg} {S:List Nat} {rs:List Ru}
theorem qAy:∀s,Asc3 bC (kP p S rs s)
 |0=>List.Pairwise.nil
 |_+1=>kU _ _
theorem wP:∀s,∀f∈kP p S rs s,f∈rs.map Ru.head
 |0,_,h=>nomatch h
 |s+1,f,h=>by
  rw[kP,mem_lfp]at h
  cases h with
  |base k=>exact wP s f k
  |rule k _=>exact List.mem_map_of_mem (List.mem_filter.1 (mem_unlessR.1 k).1).1
theorem qJw(s:Nat):(kP p S rs s).length≤rs.length:=by
 have:=dB ((qAy s).nodup cmpF_ord) (wP (p:=p) (S:=S) (rs:=rs) s)
 rwa [List.length_map]at this
theorem strF_ok(hr:∀r∈rs,RuOk p r)(s:Nat):FsOk p (kP p S rs s):=fun f hf=>by
 have w_:=List.mem_map.1 (wP s f hf)
 obtain⟨r,h1,rfl⟩:=w_
 exact(hr r h1).head
theorem qPx(h:eQ p=some S)(hr:∀r∈rs,RuOk p r):kP p S rs (p.rels.length+1)=kP p S rs p.rels.length:=by
 have hO:qGl p S rs p.rels.length=[]:=by
  rw[qGl,List.filter_eq_nil_iff]
  intro r hm
  rw[decide_eq_true_eq]
  obtain⟨⟨k,rl,h1,h2,_⟩,_⟩:=(hr r hm).head
  have h1:cR p r.head.rel=(k:Int):=h1
  have hk:=(List.getElem?_eq_some_iff.1 h2).1
  rw[eQ]at h
  split at h
  ·rename_i hh
   obtain⟨_,T,hT⟩:=hh
   cases h
   have:=qGf hT hk
   rw[uG,h1,Int.toNat_natCast,List.getD_eq_getElem?_getD,List.getElem?_map,List.getElem?_range hk]
   show pW _ _ _ k≠_
   omega
  ·cases h
 rw[kP,hO]
 refine Asc3.uniq cmpF_ord (kU _ _) (qAy _) fun f=>?_
 rw[mem_lfp]
 constructor
 ·intro k
  cases k with
  |base k=>exact k
  |rule k _=>exact nomatch (mem_unlessR.1 k).1
 ·exact .base
end
theorem qEr{u:List Tm}{p:Pg}{y:List F}(h:lN p u=some y):p.Ok∧FsOk p y∧y.length≤2000:=by
 rw[lN]at h
 cases hS:eQ p with
 |none=>rw[hS]at h;cases h
 |some S=>
  rw[hS,Option.bind_some]at h
  cases hL:aJ p u with
  |none=>rw[hL]at h;cases h
  |some rs=>
   rw[hL]at h
   cases h
   have w_:=bI hL
   obtain⟨h1,h2⟩:=w_
   refine⟨(bB hL).1,strF_ok h2 _,?_⟩
   have:=qJw (p:=p) (S:=S) (rs:=rs) p.rels.length
   show(kP p S rs p.rels.length).length≤2000
   omega
end Go.Vx
namespace Go.Vx
open Go.Proofs Classical
abbrev NsV(μ:Mem)(S:List Nat)(v:Value):Prop:=RepV μ (.sl 1 ((S.map fun k:Nat=>(k:Int)).map D.i)) v
def optNs(P:List Nat→Value→Prop)(o:Option (List Nat))(v:Value):Prop:=match o with
 |none=>v= .tuple #[.slice none 0 0,.bool false]
 |some S=>∃tv,v= .tuple #[tv,.bool true]∧P S tv
theorem zeroRow(r n:Nat):Mem.nil.set r (.cells (List.toArray ((List.replicate n (Value.int .i64 0)).flatMap aC)) 3 (0,0))=sV r (List.replicate n 0):=by
 have e:∀n:Nat,(List.replicate n (Value.int .i64 0)).flatMap aC=(List.replicate n 0).map fun k:Nat=>Value.int .i64 (k:Int):=fun n=>by
  induction n with
  |zero=>rfl
  |succ n ih=>rw[List.replicate_succ,List.flatMap_cons,ih,List.replicate_succ,List.map_cons];rfl
 rw[sV,e]
theorem apN{μ:Mem}{r:Nat}(S:List Nat)(h:μ r=none):Apart μ (sV r S):=(dY μ).set h
theorem apN_inv{μ:Mem}{r:Nat}{S:List Nat}(h:Apart μ (sV r S)):μ r=none:=h.symm r (by rw[sV,Mem.set_at];simp)
theorem qSn{μ:Mem}{r n:Nat}{S:List Nat}(h:μ r=none)(hl:S.length=n)(hm:n≤maxLen):NsV (μ.join (sV r S)) S (.slice (some ⟨r,0,none⟩) n n):=by
 subst hl
 have e:(S.map fun k:Nat=>Value.int .i64 (k:Int))=aD (S.map fun k:Nat=>(k:Int)):=by rw[aD,List.map_map];rfl
 have hro:RowO (sV r S) r S.length 3 1 (aD (S.map fun k:Nat=>(k:Int))):=by
  rw[←e]
  have hf:∀S:List Nat,(S.map fun k:Nat=>Value.int .i64 (k:Int)).flatMap aC=S.map fun k:Nat=>Value.int .i64 (k:Int):=fun S=>by
   induction S with
   |nil=>rfl
   |cons a l ih=>rw[List.map_cons,List.flatMap_cons,ih];rfl
  refine⟨_,Mem.set_at _ _ _,by simp,by simpa using hm,fun v hv=>?_,by simp,?_⟩
  ·have w_ := List.mem_map.1 hv
   obtain⟨k,_,rfl⟩:=w_
   exact⟨rfl,fun u hu=>by rw[List.mem_singleton.1 hu];rfl⟩
  ·rw [hf, Nat.mul_one, List.length_map]
   exact List.take_of_length_le (by simp)
 have:=hro.rep (Mem.le_join_right (apN S h)) (Ints.rows _)
 have e2:(aD (S.map fun k:Nat=>(k:Int))).length=S.length:=by rw[←e,List.length_map]
 rw[e2]at this
 exact this
theorem StDone.zero(p:Pg)(S:List Nat):StDone p S 0:=fun a ha=>by omega
theorem StName.nil(p:Pg)(S:List Nat)(i:Nat)(b:Bool)(l:List ByteArray):StName p S i b (l.take 0):=fun s hs=>by simp at hs
theorem StI.up{p:Pg}{S:List Nat}{m m':Nat}(h:StI p S m)(hm:m≤m'):StI p S m':=⟨h.len,fun k hk=>Nat.le_trans (h.max k hk) hm,h.low⟩
theorem StI.at{p:Pg}{S:List Nat}{m i:Nat}(h:StI p S m)(hi:i<p.rels.length):∃x,S[i]? =some x∧x≤m:=by
 have w_:=aSo (l:=S) (i:=i) (by rw[h.len];exact hi)
 obtain⟨x,hx⟩:=w_
 exact⟨x,hx,h.max x (mAt hx)⟩
theorem le_back{S S':List Nat}{i w m:Nat}(h:∀j,j≠i→S'[j]? =S[j]?)(hS:∀k∈S,k+1≤m)(hi:S'[i]? =some w)(hw:w+1≤m):∀k∈S',k+1≤m:=fun k hk=>by
 have w_:=List.mem_iff_getElem?.1 hk
 obtain⟨j,hj⟩:=w_
 by_cases e:j=i
 ·subst e;rw[hi]at hj;cases hj;exact hw
 ·rw[h j e]at hj;exact hS k (mAt hj)
theorem qPw{S:List Nat}{i w j:Nat}(h:j≠i):(S.set i w)[j]? =S[j]?:=List.getElem?_set_ne (Ne.symm h)
section
variable {μ:Mem}
set_option maxHeartbeats 4000000 in
set_option maxHeartbeats 4000000 in
theorem oO{p:Pg}{v:Value}(hp:RepV μ p.d v):Spec Tryz.prog 29 [v] μ fun v μ'=>optNs (NsV μ') (eQ p) v:=by
 have hp0:=hp
 have w_:=Pg.inv hp
 obtain⟨q,rfl,hrl⟩:=w_
 refine Spec.mkO [19] Tryz.func29 (by kernel_rfl) ?_
 intro r1
 refine cPl (bX hp0) fun v1 μ1 hle0 hR=>?_
 obtain rfl:=hR
 refine aK (fun h=>rPl (by rw[eQ,if_neg fun k=>h k.1];rfl)) (fun hok=>?_)
 have h8:=hok.1
 refine qAf p.rels.length rfl rfl (by simp only;omega) (Nat.le_trans (m:=8) h8 (by decide)) ?_
 intro r18 hm18 ho18
 refine lIn (fun z:List Nat×Bool×Mem=>StI p z.1 1000∧(∀k∈z.1,k≤p.rels.length)∧μ1.Le z.2.2∧z.2.2 r18=none∧(z.2.1=false→StDone p z.1 p.rels.length))
  (fun(S,ch,μ')=>⟨[(1,.loc 0 r1 0),(4,.val (.slice (some ⟨r18,0,none⟩) p.rels.length p.rels.length)),(5,.val (.bool ch))],[(0,some (.cells r1 [.val (.slice q.1 p.rels.length q.2)] 25))],1,μ',sV r18 S⟩) (fun z=>if z.2.1=true then p.rels.length*p.rels.length+1-z.1.sum else 0)
  (List.replicate p.rels.length 0,true,μ1) ⟨StI.start p 1000,fun k hk=>?_,Mem.Le.refl _,hm18,fun h=>nomatch h⟩ (fun(_,_,_)=>⟨rfl,rfl⟩) ⟨⟨rfl,rfl,rfl,trivial⟩,⟨rfl,trivial⟩,rfl,zeroRow r18 p.rels.length⟩ ?_
 ·have h := List.mem_replicate.1 hk
  omega
 rintro⟨S0,ch0,μ'⟩ ⟨hI,hmx,hle,hr,hd⟩
 dsimp only at hI hmx hle hr hd
 refine iIn (fun hch=>?_) (fun hch=>?_)
 rotate_left
 ·refine eO (sV r18 S0) Mem.nil (Parts.nil_right _) ?_
  have hd:=hd hch
  rw[hI.done hok fun b i j x y hc hx hy=>hd i (by have:=(List.getElem?_eq_some_iff.1 hx).1;have:=hI.len;omega) b j x y hc hx hy]
  exact⟨_,rfl,qSn hr hI.len (Nat.le_trans (m:=8) h8 (by decide))⟩
 refine lIn (fun z:Nat×List Nat×Bool×Mem=>z.1≤p.rels.length∧StI p z.2.1 1000∧(∀k∈z.2.1,k≤p.rels.length)∧μ1.Le z.2.2.2∧z.2.2.2 r18=none∧PassI p S0 z.2.1 z.2.2.1 (fun S=>StDone p S z.1))
  (fun(i,S,ch,μ')=>⟨[(1,.loc 0 r1 0),(4,.val (.slice (some ⟨r18,0,none⟩) p.rels.length p.rels.length)),(5,.val (.bool ch)),(22,.val (.slice q.1 p.rels.length q.2)),(23,.val (.int .i64 p.rels.length)),(24,.val (.int .i64 i))],[(0,some (.cells r1 [.val (.slice q.1 p.rels.length q.2)] 25))],1,μ',sV r18 S⟩) (fun z=>p.rels.length-z.1)
  (0,S0,false,μ') ⟨Nat.zero_le _,hI,hmx,hle,hr,⟨fun _=>⟨rfl,StDone.zero _ _⟩,Nat.le_refl _,fun h=>nomatch h⟩⟩ (fun(_,_,_,_)=>⟨rfl,rfl⟩) ⟨⟨rfl,rfl,rfl,rfl,rfl,rfl,trivial⟩,⟨rfl,trivial⟩,rfl,rfl⟩ ?_
 rintro⟨i,S1,ch1,μ2⟩ ⟨hi,hI1,hmx1,hle1,hr1,hP1⟩
 dsimp only at hi hI1 hmx1 hle1 hr1 hP1
 refine ifd (fun hlt=>?_) (fun hlt=>?_)
 rotate_left
 ·obtain rfl : i = p.rels.length := by omega
  refine⟨(S1,ch1,μ2),⟨hI1,hmx1,hle1,hr1,fun e=>?_⟩,?_,⟨⟨rfl,rfl,rfl,trivial⟩,⟨rfl,trivial⟩,rfl,rfl⟩⟩
  ·have w_ := hP1.same e
   obtain⟨h1,h2⟩:=w_
   dsimp only
   rw[h1];exact h2
  ·dsimp only
   rw[if_pos hch]
   have h2:S1.sum≤p.rels.length*p.rels.length:=by
    have:=qNt (S:=S1) (m:=p.rels.length) hmx1
    rwa [hI1.len]at this
   have h3:S0.sum≤p.rels.length*p.rels.length:=by
    have:=qNt (S:=S0) (m:=p.rels.length) hmx
    rwa [hI.len]at this
   by_cases e:ch1=true
   ·have := hP1.grew e
    rw[if_pos e];omega
   ·rw[if_neg e];omega
 have w_:=aSo (l:=p.rels) (i:=i) (by omega)
 obtain⟨x,hx⟩:=w_
 have hro:=hok.2 i x hx
 have hsz:=hro.size
 have hlen:∀b,(x.body.calls b).length≤60:=fun b=>Nat.le_trans (Gl.calls_len b x.body) hsz
 have hfit:∀b,∀s∈x.body.calls b,∃j:Nat,cR p s=(j:Int)∧j<p.rels.length:=fun b=>Gl.calls_fit b hro.body hro.calls
 have hle02:=hle0.trans hle1
 have w_:=Rl.elemA (hrl.mono hle02) hx
 obtain⟨ad,qr,hel,hrx,hbody⟩:=w_
 have hbody:RepV μ2 x.body.d (.agg (x.body.cs qr).toArray):=hbody
 refine eIn hel ?_
 intro r7
 have hcall:∀{μ'} (b:Bool),μ2.Le μ'→Spec Tryz.prog 81 [.agg (x.body.cs qr).toArray,.bool b,.bool false] μ' fun w μ''=>NmV μ'' (x.body.calls b) w:=fun {μ'} b hl=>qFf b x.body false (RepV.mono hl hbody) hro.body (by omega) fun h=>nomatch h
 refine cDa (apN S1 hr1) (hcall false (Mem.Le.refl _)) fun v3 μ3 hle3 hap3 hR3=>?_
 refine cDa hap3 (hcall true hle3) fun v4 μ4 hle4 hap4 hR4=>?_
 replace hR3:=RepV.mono hle4 hR3
 have hr4:=apN_inv hap4
 have hle04:=hle02.trans (hle3.trans hle4)
 have w_:=NmV.sl hR3
 obtain⟨b3,c3,rfl,hs3⟩:=w_
 have w_:=NmV.sl hR4
 obtain⟨b4,c4,rfl,hs4⟩:=w_
 intro r35
 refine lIn (fun z:Nat×List Nat×Bool=>z.1≤2∧StI p z.2.1 (p.rels.length+60*z.1)∧(∀j,j≠i→z.2.1[j]? =S1[j]?)∧PassI p S0 z.2.1 z.2.2 (fun S=>StDone p S i∧∀b:Bool,b.toNat<z.1→StName p S i b (x.body.calls b)))
  (fun (kk, S, ch) => ⟨[(1, .loc 0 r1 0), (4, .val (.slice (some ⟨r18, 0, none⟩) p.rels.length p.rels.length)), (5, .val (.bool ch)), (6, .val (.int .i64 i)), (22, .val (.slice q.1 p.rels.length q.2)), (23, .val (.int .i64 p.rels.length)), (24, .val (.int .i64 i)), (35, .row 2 (some r35) 2 2), (36, .val (.int .i64 2)), (37, .val (.int .i64 kk))],
   [(0,some (.cells r1 [.val (.slice q.1 p.rels.length q.2)] 25)),(2,some (.row (some r35) 2 107 1 [.slice b3 (x.body.calls false).length c3,.slice b4 (x.body.calls true).length c4]))],3,μ4,sV r18 S⟩) (fun z=>2-z.1)
  (0,S1,ch1) ⟨Nat.zero_le _,⟨hI1.len,hmx1,hI1.low⟩,fun _ _=>rfl,⟨fun e=>⟨(hP1.same e).1,(hP1.same e).2,fun b hb=>absurd hb (Nat.not_lt_zero _)⟩,hP1.more,hP1.grew⟩⟩ (fun(_,_,_)=>⟨rfl,rfl⟩) ⟨⟨rfl,rfl,rfl,rfl,rfl,rfl,rfl,rfl,rfl,rfl,trivial⟩,⟨rfl,rfl,trivial⟩,rfl,rfl⟩ ?_
 rintro⟨kk,S,ch⟩ ⟨hkk,hI3,hback,hP3⟩
 dsimp only at hkk hI3 hback hP3
 have hpR:=hp0.mono hle04
 refine ifd (fun hlt3=>?_) (fun hlt3=>?_)
 ·have w_:∃(bb:Bool) (b':Option Addr) (c':Nat),bb.toNat=kk∧[Value.slice b3 (x.body.calls false).length c3,.slice b4 (x.body.calls true).length c4][kk]? =some (.slice b' (x.body.calls bb).length c')∧Sl μ4 1 b' (x.body.calls bb).length ((x.body.calls bb).map D.s):=by
   have h2:kk=0∨kk=1:=by omega
   rcases h2 with rfl|rfl
   ·exact⟨false,b3,c3,rfl,rfl,hs3⟩
   ·exact⟨true,b4,c4,rfl,rfl,hs4⟩
  obtain⟨bb,b',c',rfl,hget,hsL⟩:=w_
  have hl0:=hlen bb
  have hf0:=hfit bb
  have hL0:∀s∈x.body.calls bb,∀j:Nat,cR p s=(j:Int)→fP bb p i j:=fun s hs j e=>⟨x,hx,s,hs,e⟩
  have hbn:bb.toNat≤1:=by cases bb<;>simp
  generalize hLd:x.body.calls bb=L at hget hsL hl0 hf0 hL0
  refine bV bb.toNat rfl (by omega) (bU _ hget ?_)
  refine lIn (fun z:Nat×List Nat×Bool=>z.1≤L.length∧StI p z.2.1 (p.rels.length+60*bb.toNat+z.1)∧(∀j,j≠i→z.2.1[j]? =S1[j]?)∧PassI p S0 z.2.1 z.2.2 (fun S=>(StDone p S i∧∀b:Bool,b.toNat<bb.toNat→StName p S i b (x.body.calls b))∧StName p S i bb (L.take z.1)))
   (fun (k, S, ch) => ⟨[(1, .loc 0 r1 0), (4, .val (.slice (some ⟨r18, 0, none⟩) p.rels.length p.rels.length)), (5, .val (.bool ch)), (6, .val (.int .i64 i)), (8, .val (.int .i64 bb.toNat)), (22, .val (.slice q.1 p.rels.length q.2)), (23, .val (.int .i64 p.rels.length)), (24, .val (.int .i64 i)), (35, .row 2 (some r35) 2 2), (36, .val (.int .i64 2)), (37, .val (.int .i64 bb.toNat)), (42, .val (.slice b' L.length c')), (43, .val (.int .i64 L.length)), (44, .val (.int .i64 k))],
    [(0,some (.cells r1 [.val (.slice q.1 p.rels.length q.2)] 25)),(2,some (.row (some r35) 2 107 1 [.slice b3 (x.body.calls false).length c3,.slice b4 (x.body.calls true).length c4]))],3,μ4,sV r18 S⟩) (fun z=>L.length-z.1)
   (0,S,ch) ⟨Nat.zero_le _,hI3,hback,⟨fun e=>⟨(hP3.same e).1,(hP3.same e).2,StName.nil _ _ _ _ _⟩,hP3.more,hP3.grew⟩⟩ (fun(_,_,_)=>⟨rfl,rfl⟩) ⟨⟨rfl,rfl,rfl,rfl,rfl,rfl,rfl,rfl,rfl,rfl,rfl,rfl,rfl,rfl,trivial⟩,⟨rfl,rfl,trivial⟩,rfl,rfl⟩ ?_
  clear hP3 hI3 hback
  rintro⟨k,S,ch⟩ ⟨hk,hI3,hback,hP3⟩
  dsimp only at hk hI3 hback hP3
  refine ifd (fun hlt4=>?_) (fun hlt4=>?_)
  ·have w_ := aSo (l := L) (i := k) (by omega)
   obtain⟨nm,hnm⟩:=w_
   have w_:=Nm.elem hsL hnm
   obtain⟨ad4,hel4⟩:=w_
   have w_:=hf0 nm (mAt hnm)
   obtain⟨j,hj,hjl⟩:=w_
   have w_:=hI3.at (i:=j) hjl
   obtain⟨y,hy,hym⟩:=w_
   have w_:=hI3.at (i:=i) (by omega)
   obtain⟨w,hwi,hwm⟩:=w_
   have hstep:=qPp (C':=fun S=>(StDone p S i∧∀b:Bool,b.toNat<bb.toNat→StName p S i b (x.body.calls b))∧StName p S i bb (L.take (k+1))) hI3 hP3 hwi hy (hL0 nm (mAt hnm) j hj) (m':=p.rels.length+60*bb.toNat+(k+1)) (by omega) (by omega) fun hc e hle=>⟨hc.1,hc.2.snoc hnm hj (by rw[←e];exact hwi) (by rw[←e];exact hy) hle⟩
   refine eIn hel4 ?_
   have hfind:=iW (s:=nm) hpR
   rw[hj]at hfind
   refine cGv hfind ?_
   refine vX j rfl (by omega) ?_
   refine oIn [.int .i64 y] rfl (wJ hy) ?_
   refine nEq (x:=((y+bb.toNat:Nat):Int)) (by rw[aA (by omega) (by omega)];omega) ?_
   refine vX i rfl (by omega) ?_
   refine oIn [.int .i64 w] rfl (wJ hwi) ?_
   refine ifd (fun hlt5=>?_) (fun hge5=>?_)
   ·have h6 := hstep.1 (by omega)
    refine vX i rfl (by omega) ?_
    refine sIn (S.map fun k:Nat=>Value.int .i64 (k:Int)) 3 (Mem.set_at _ _ _) rfl (by have:=hI3.len;simp;omega) ?_
    exact aB (by omega) (by omega) ⟨(k+1,S.set i (y+bb.toNat),true),⟨by dsimp only;omega,h6.1,fun a ha=>by dsimp only;rw[qPw ha];exact hback a ha,h6.2⟩,by dsimp only;omega,⟨⟨rfl,rfl,rfl,rfl,rfl,rfl,rfl,rfl,rfl,rfl,rfl,rfl,rfl,rfl,trivial⟩,⟨rfl,rfl,trivial⟩,rfl,qSo (by have:=hI3.len;omega)⟩⟩
   ·have h6 := hstep.2 (by omega)
    exact aB (by omega) (by omega) ⟨(k+1,S,ch),⟨by dsimp only;omega,h6.1,hback,h6.2⟩,by dsimp only;omega,⟨⟨rfl,rfl,rfl,rfl,rfl,rfl,rfl,rfl,rfl,rfl,rfl,rfl,rfl,rfl,trivial⟩,⟨rfl,rfl,trivial⟩,rfl,rfl⟩⟩
  obtain rfl:k=L.length:=by omega
  rw[List.take_length]at hP3
  refine aB (by omega) (by omega) ⟨(bb.toNat+1,S,ch),⟨by dsimp only;omega,hI3.up (by omega),hback,⟨fun e=>⟨(hP3.same e).1,(hP3.same e).2.1.1,fun b hb=>?_⟩,hP3.more,hP3.grew⟩⟩,by dsimp only;omega,⟨⟨rfl,rfl,rfl,rfl,rfl,rfl,rfl,rfl,rfl,rfl,trivial⟩,⟨rfl,rfl,trivial⟩,rfl,rfl⟩⟩
  have h7:=(hP3.same e).2
  rcases Nat.lt_or_ge b.toNat bb.toNat with h8'|h8'
  ·exact h7.1.2 b h8'
  ·obtain rfl : b = bb := by cases b <;> cases bb <;> simp_all
   rw[hLd];exact h7.2
 obtain rfl:kk=2:=by omega
 have w_:=hI3.at (i:=i) (by omega)
 obtain⟨w,hwi,hwm⟩:=w_
 refine vX i rfl (by omega) ?_
 refine oIn [.int .i64 w] rfl (wJ hwi) ?_
 refine ifd (fun hbad=>?_) (fun hgood=>?_)
 ·refine rPl ?_
  rw[hI3.bad hok hwi (by omega)]
  rfl
 ·refine aB (by omega) (by omega) ⟨(i + 1, S, ch, μ4), ⟨by dsimp only; omega, hI3.up (by omega), fun k hk => ?_, hle1.trans (hle3.trans hle4), hr4, ⟨fun e => ?_, hP3.more, hP3.grew⟩⟩, by dsimp only; omega, ⟨⟨rfl, rfl, rfl, rfl, rfl, rfl, trivial⟩, ⟨rfl, trivial⟩, rfl, rfl⟩⟩
  ·have := le_back (m := p.rels.length + 1) hback (fun k hk => by have := hmx1 k hk; omega) hwi (by omega) k hk
   omega
  ·have w_ := hP3.same e
   obtain⟨h1,h2,h3⟩:=w_
   exact⟨h1,h2.next hx (h3 false (by decide)) (h3 true (by decide))⟩
end
end Go.Vx
namespace Go.Vx
open Go.Proofs Classical
noncomputable def qGm(p:Pg)(S:List Nat)(rs:List Ru)(s i:Nat):List Ru:=(rs.take i).filter fun r=>decide (uG p S r=s)
theorem qPo{p:Pg}{S:List Nat}{rs:List Ru}{s i:Nat}{r:Ru}(h:rs[i]? =some r):qGm p S rs s (i+1)=qGm p S rs s i++(if uG p S r=s then [r]else []):=by
 rw[qGm,List.take_add_one,h,Option.toList_some,List.filter_append,←qGm]
 congr 1
 by_cases e:uG p S r=s<;>simp[e]
theorem qSa(p:Pg)(S:List Nat)(rs:List Ru)(s:Nat):qGm p S rs s rs.length=qGl p S rs s:=by rw[qGm,List.take_length,qGl]
theorem qSb(p:Pg)(S:List Nat)(rs:List Ru)(s i:Nat):(qGm p S rs s i).length≤i:=Nat.le_trans (List.length_filter_le _ _) (List.length_take_le _ _)
theorem qSc(p:Pg)(S:List Nat)(rs:List Ru)(s:Nat)(B:List F):(aY (qGl p S rs s) B).length≤rs.length:=Nat.le_trans (fN _ _) (List.length_filter_le _ _)
theorem qPz{p:Pg}{S:List Nat}{r:Ru}(hS:eQ p=some S)(hr:RuOk p r):∃k:Nat,cR p r.head.rel=(k:Int)∧k<p.rels.length∧S[k]? =some (uG p S r):=by
 obtain⟨⟨k,rl,h1,h2,_⟩,_⟩:=hr.head
 have h1:cR p r.head.rel=(k:Int):=h1
 have hk:=(List.getElem?_eq_some_iff.1 h2).1
 refine⟨k,h1,hk,?_⟩
 rw[eQ]at hS
 split at hS
 ·cases hS
  rw[uG,h1,Int.toNat_natCast,List.getD_eq_getElem?_getD,List.getElem?_map,List.getElem?_range hk];rfl
 ·cases hS
section
variable {μ:Mem}
theorem NsV.sl{S:List Nat}{v:Value}(h:NsV μ S v):∃b c,v= .slice b S.length c∧Sl μ 1 b S.length ((S.map fun k:Nat=>(k:Int)).map D.i):=by
 have w_:=Rep.sl h
 obtain⟨b,c,rfl,hs⟩:=w_
 rw[List.length_map,List.length_map]at hs
 exact⟨b,c,by rw[List.length_map,List.length_map],hs⟩
theorem Ns.elem{S:List Nat}{b:Option Addr}{n k x:Nat}(h:Sl μ 1 b n ((S.map fun k:Nat=>(k:Int)).map D.i))(hx:S[k]? =some x):∃ad,ElemAt μ b n 1 k ad [.int .i64 (x:Int)]:=Ints.elem h (by simp[hx])
set_option maxHeartbeats 2000000 in
set_option maxHeartbeats 2000000 in
theorem nD{p:Pg}{u:List Tm}{v:Value}{ub:Option Addr}{uc:Nat}(hp:RepV μ p.d v)(hu:Sl μ 4 ub u.length (u.map Tm.d)):
  Spec Tryz.prog 30 [v,.slice ub u.length uc] μ fun v μ'=>vA (fun y tv=>Fresh μ μ' (.sl 2 ((y.map F.fc).map Fc.d)) tv) (lN p u) v:=by
 have hp0:=hp
 have w_:=Pg.inv hp
 obtain⟨q,rfl,hrl⟩:=w_
 refine Spec.mk Tryz.func30 (by kernel_rfl) ?_
 intro r2
 refine cPl (oO hp0) fun v1 μ1 hle1 hR1=>?_
 cases hS:eQ p with
 |none=>
  rw[hS]at hR1
  obtain rfl:=hR1
  refine cPl (eW (hp0.mono hle1) (hu.mono hle1)) fun v2 μ2 hle2 hR2=>?_
  have e:lN p u=none:=by rw[lN,hS];rfl
  cases hL:aJ p u with
  |none=>
   rw[hL]at hR2
   obtain rfl:=hR2
   exact iIn (fun _=>rPl (by rw[e];rfl)) (fun h=>nomatch h)
  |some rs=>
   rw[hL]at hR2
   obtain⟨tv,rfl,hR2⟩:=hR2
   exact iIn (fun _=>rPl (by rw[e];rfl)) (fun h=>nomatch h)
 |some S=>
 rw[hS]at hR1
 obtain⟨sv,rfl,hSV⟩:=hR1
 have hSV:NsV μ1 S sv:=hSV
 refine cPl (eW (hp0.mono hle1) (hu.mono hle1)) fun v2 μ2 hle2 hR2=>?_
 cases hL:aJ p u with
 |none=>
  rw[hL]at hR2
  obtain rfl:=hR2
  refine iIn (fun h=>nomatch h) (fun _=>?_)
  exact iIn (fun _=>rPl (by rw[lN,hS,Option.bind_some,hL];rfl)) (fun h=>nomatch h)
 |some rs=>
 rw[hL]at hR2
 obtain⟨tv,rfl,hR2⟩:=hR2
 have hR2:RsV μ2 rs tv:=hR2
 have w_:=RsV.sl hR2
 obtain⟨b1,c1,rfl,hrs⟩:=w_
 have w_:=NsV.sl hSV
 obtain⟨bS,cS,rfl,hsS⟩:=w_
 have w_:=bI hL
 obtain⟨hrl2,hro⟩:=w_
 have hpo:=(bB hL).1
 have hp8:=hpo.1
 have hres:lN p u=some (kP p S rs p.rels.length):=by rw[lN,hS,Option.bind_some,hL];rfl
 refine iIn (fun h=>nomatch h) (fun _=>?_)
 refine iIn (fun h=>nomatch h) (fun _=>?_)
 intro r32
 refine lFz (fun z:Nat×Option Addr×Nat×Mem=>z.1≤p.rels.length+1∧μ2.Le z.2.2.2∧FsV z.2.2.2 (kP p S rs z.1) (.slice z.2.1 (kP p S rs z.1).length z.2.2.1))
  (fun(s,b4,c4,μ')=>⟨[(2,.loc 0 r2 0),(6,.val (.slice bS S.length cS)),(8,.val (.slice b1 rs.length c1)),(10,.val (.slice b4 (kP p S rs s).length c4)),(11,.val (.int .i64 s))],[(0,some (.cells r2 [.val (.slice q.1 p.rels.length q.2)] 25))],1,μ',Mem.nil⟩) (fun z=>p.rels.length+1-z.1) [1]
  (fun(_,_,_,_)=>⟨rfl,rfl⟩) (fun μ3 hle3 hno3 hat3=>⟨(0,some ⟨r32,0,none⟩,0,μ3),⟨Nat.zero_le _,hle3,FsV.nil _ _⟩,⟨rfl,rfl,rfl,rfl,rfl,trivial⟩,⟨rfl,trivial⟩,rfl,rfl⟩) ?_
 rintro⟨s,b4,c4,μ3⟩ ⟨hs,hle3,hout0⟩
 dsimp only at hs hle3 hout0
 refine ifd (fun hlt=>?_) (fun hlt=>?_)
 rotate_left
 ·obtain rfl : s = p.rels.length + 1 := by omega
  rw[qPx hS hro]at hout0 ⊢
  have hk:=qEr hres
  refine cPl (bD hout0 (by omega) fun f hf=>Nat.le_trans (hk.2.1.len hk.1 f hf) (by decide)) fun v4 μ4 hle4 hR4=>?_
  refine rPl ?_
  rw[hres]
  exact⟨_,rfl,hR4.mono ((hle1.trans hle2).trans hle3) (Mem.Le.refl _)⟩
 have hBn:=qJw (p:=p) (S:=S) (rs:=rs) s
 have hBa:=qAy (p:=p) (S:=S) (rs:=rs) s
 have hBs:kP p S rs (s+1)=lfp (aY (qGl p S rs s) (kP p S rs s)) (kP p S rs s):=rfl
 generalize hB:kP p S rs s=B at*
 have w_:=FsV.sl hout0
 obtain⟨b6,c6,e,-,hsB⟩:=w_
 have w_:=Value.slice.inj e
 obtain⟨rfl,_,rfl⟩:=w_
 have hRn:=qSc p S rs s B
 intro r40
 refine lIn (fun z:Nat×Option Nat×Nat×List Value=>z.1≤rs.length∧Rows μ3 6 (((qGm p S rs s z.1).map Ru.rd).map RuD.d) z.2.2.2)
  (fun(i,bo,co,ys)=>⟨[(2,.loc 0 r2 0),(6,.val (.slice bS S.length cS)),(8,.val (.slice b1 rs.length c1)),(10,.val (.slice b4 B.length c4)),(11,.val (.int .i64 s)),(12,.row 1 bo ys.length co),(41,.val (.slice b1 rs.length c1)),(42,.val (.int .i64 rs.length)),(43,.val (.int .i64 i))],[(0,some (.cells r2 [.val (.slice q.1 p.rels.length q.2)] 25)),(1,some (.row bo co 106 6 ys))],2,μ3,Mem.nil⟩) (fun z=>rs.length-z.1)
  (0,some r40,0,[]) ⟨Nat.zero_le _,by simpa[qGm]using .nil⟩ (fun(_,_,_,_)=>⟨rfl,rfl⟩) ⟨⟨rfl,rfl,rfl,rfl,rfl,rfl,rfl,rfl,rfl,trivial⟩,⟨rfl,rfl,trivial⟩,rfl,rfl⟩ ?_
 rintro⟨i,bo,co,ys⟩ ⟨hi,hrows⟩
 dsimp only at hi hrows
 have hyl:=hrows.len
 rw[List.length_map,List.length_map]at hyl
 have hol:=qSb p S rs s i
 refine ifd (fun hlt2=>?_) (fun hlt2=>?_)
 ·have w_ := aSo (l := rs) (i := i) (by omega)
  obtain⟨r,hri⟩:=w_
  have w_:=Ru.elem (hrs.mono hle3) hri
  obtain⟨ad,pr,hel,hrv,hat⟩:=w_
  have hsucc:=qPo (p:=p) (S:=S) (s:=s) hri
  have w_:=qPz hS (hro r (mAt hri))
  obtain⟨k,hk,hkl,hkS⟩:=w_
  have w_:=Ns.elem (hsS.mono (hle2.trans hle3)) hkS
  obtain⟨ad2,hel2⟩:=w_
  refine eIn hel ?_
  intro r14
  have hfind:=iW (s:=r.head.rel) (hp0.mono ((hle1.trans hle2).trans hle3))
  rw[hk]at hfind
  refine cGv hfind ?_
  refine eIn hel2 ?_
  refine ifd (fun hidx=>?_) (fun hidx=>?_)
  ·rw [if_pos (by omega)] at hsucc
   intro r59
   refine gIn ?_ ?_ fun b' c' _=>?_
   ·show(ys.length+1)*120≤_;omega
   ·exact Nat.le_trans (m:=100000000) (show ys.length+1≤_ by omega) (by decide)
   refine aB (by omega) (by omega) ⟨(i+1,b',c',_),⟨by dsimp only;omega,?_⟩,by dsimp only;omega,⟨⟨rfl,rfl,rfl,rfl,rfl,rfl,rfl,rfl,rfl,trivial⟩,⟨rfl,rfl,trivial⟩,rfl,rfl⟩⟩
   dsimp only
   rw[hsucc]
   simp only[List.map_append,List.map_cons,List.map_nil]
   exact hrows.append (Rows.one hrv (RuD.d_n _))
  ·rw [if_neg (by omega), List.append_nil] at hsucc
   refine aB (by omega) (by omega) ⟨(i+1,bo,co,ys),⟨by dsimp only;omega,?_⟩,by dsimp only;omega,⟨⟨rfl,rfl,rfl,rfl,rfl,rfl,rfl,rfl,rfl,trivial⟩,⟨rfl,rfl,trivial⟩,rfl,rfl⟩⟩
   dsimp only
   rw[hsucc];exact hrows
 obtain rfl:i=rs.length:=by omega
 rw[qSa]at hrows hyl hol
 refine aW [1] ?_
 intro μ4 hle4 hno4 hat4
 have hRO:RsV μ4 (qGl p S rs s) (.slice (bo.map fun r=>⟨r,0,none⟩) ys.length co):=Rows.sl hat4 (hrows.mono hle4) (Nat.le_trans (m:=100000000) (by omega) (by decide))
 have w_:=RsV.sl hRO
 obtain⟨b9,c9,e9,hsO⟩:=w_
 have w_:=Value.slice.inj e9
 obtain⟨rfl,_,rfl⟩:=w_
 have hun:=nY (c3:=co) (c:=c4) hsO (by omega) hBa (by omega) (hsB.mono hle4)
 rw[hyl]at hun
 refine bH hun fun v5 μ5 hle5 hR5=>?_
 have hR5:RsV μ5 (aY (qGl p S rs s) B) v5:=hR5
 have w_:=RsV.sl hR5
 obtain⟨b7,c7,rfl,hsU⟩:=w_
 refine cPl (oM hsU (by omega) (RepV.mono (hle4.trans hle5) hout0) (by omega)) fun v6 μ6 hle6 hR6=>?_
 rw[←hBs]at hR6
 have w_:=FsV.sl hR6
 obtain⟨b8,c8,rfl,-,-⟩:=w_
 exact aB (by omega) (by omega) ⟨[],(s+1,b8,c8,μ6),⟨by dsimp only;omega,(hle3.trans hle4).trans (hle5.trans hle6),hR6⟩,by dsimp only;omega,⟨⟨rfl,rfl,rfl,rfl,rfl,trivial⟩,⟨rfl,trivial⟩,rfl,rfl⟩⟩
end
end Go.Vx
namespace Go.Vx
open Go.Proofs Classical
theorem mW{rs:List Ru}{b:List F}{f:F}(h:f∈b):f∈lfp rs b:=mem_lfp.2 (.base h)
theorem qTe(rs:List Ru):∃n,iZ rs (aQ rs n)=aQ rs n:=by
 refine Classical.byContradiction fun hn=>?_
 have hne:∀n,iZ rs (aQ rs n)≠aQ rs n:=fun n e=>hn ⟨n,e⟩
 have hl:∀n,n≤(aQ rs n).length:=fun n=>by
  induction n with
  |zero=>exact Nat.zero_le _
  |succ n ih=>
   have h2:(aQ rs n).length<(aQ rs (n+1)).length:=mP cmpF_ord (dE rs n) (dE rs (n+1)) (gW rs n) fun e=>
    hne n (kW cmpF_ord (dE rs n) (dE rs (n+1)) (gW rs n) e).symm
   omega
 have h1:=hl (rs.length+1)
 have h2:=rV rs (rs.length+1)
 omega
theorem rW(rs:List Ru):∃n,wfT rs=aQ rs n∧iZ rs (aQ rs n)=aQ rs n:=by
 have w_:=qTe rs
 obtain⟨n,hn⟩:=w_
 exact⟨n,(qBi hn).symm,hn⟩
theorem yK(rs:List Ru):gam rs (gam rs (wfT rs))=wfT rs:=by
 have w_:=rW rs
 obtain⟨n,e,h⟩:=w_
 rw[e];exact h
theorem qHe(rs:List Ru):Asc3 bC (wfT rs):=by
 have w_:=rW rs
 obtain⟨n,e,_⟩:=w_
 rw[e];exact dE rs n
theorem rU(rs:List Ru):∀n,∀f∈aQ rs n,f∈gam rs (aQ rs n)
 |0,_,h=>nomatch h
 |n+1,f,h=>by
  have ih:=rU rs n
  have h1:∀f∈aQ rs (n+1),f∈gam rs (aQ rs n):=fun f hf=>fW ih hf
  exact fW h1 h
theorem yL(rs:List Ru):∀f∈wfT rs,f∈gam rs (wfT rs):=by
 have w_:=rW rs
 obtain⟨n,e,_⟩:=w_
 rw[e];exact rU rs n
theorem mem_wfO{rs:List Ru}{f:F}:f∈wfO rs↔f∈gam rs (wfT rs)∧f∉wfT rs:=by rw[wfO,List.mem_filter,decide_eq_true_eq]
end Go.Vx
namespace Go.Vx
open Go.Proofs Classical
structure StrR (ix:F→Nat) (n:Nat) (rs:List Ru):Prop where
 head:∀r∈rs,ix r.head<n
 pos:∀r∈rs,∀f∈r.pos,ix f≤ix r.head
 neg:∀r∈rs,∀f∈r.neg,ix f<ix r.head
noncomputable def ownG(ix:F→Nat)(rs:List Ru)(s:Nat):List Ru:=rs.filter fun r=>decide (ix r.head=s)
noncomputable def kE(ix:F→Nat)(rs:List Ru):Nat→List F
 |0=>[]
 |s+1=>lfp (aY (ownG ix rs s) (kE ix rs s)) (kE ix rs s)
section
variable {ix:F→Nat} {n:Nat} {rs:List Ru}
theorem mem_ownG{s:Nat}{r:Ru}:r∈ownG ix rs s↔r∈rs∧ix r.head=s:=by rw[ownG,List.mem_filter,decide_eq_true_eq]
theorem qGx{s:Nat}{f:F}(h:f∈kE ix rs s):∀k,f∈kE ix rs (s+k)
 |0=>h
 |k+1=>by
  show f∈kE ix rs (s+k+1)
  rw[kE]
  exact mW (qGx h k)
theorem qNq:∀(k s:Nat) {f:F},f∈kE ix rs (s+k)→ix f<s→f∈kE ix rs s
 |0,_,_,h,_=>h
 |k+1,s,f,h,hl=>by
  replace h:f∈kE ix rs (s+k+1):=h
  rw[kE,mem_lfp]at h
  cases h with
  |base h=>exact qNq k s h hl
  |rule h _=>
   have:=(mem_ownG.1 (mem_unlessR.1 h).1).2
   omega
theorem qNr{s:Nat}{f:F}(h:f∈kE ix rs n)(hl:ix f<s)(hs:s≤n):f∈kE ix rs s:=by
 have e:s+(n-s)=n:=by omega
 rw[←e]at h
 exact qNq (n-s) s h hl
theorem qSw(s:Nat):Asc3 bC (kE ix rs s):=by
 cases s with
 |zero=>exact List.Pairwise.nil
 |succ s=>exact kU _ _
variable (H:StrR ix n rs)
include H
theorem qJx:∀s,s≤n→∀f∈kE ix rs s,f∈gam rs (kE ix rs n)
 |0,_,_,h=>nomatch h
 |s+1,hs,f,h=>by
  rw[kE,mem_lfp]at h
  rw[gam,mem_lfp]
  induction h with
  |base h=>
   have:=qJx s (by omega) _ h
   rwa [gam,mem_lfp]at this
  |rule h _ ih=>
   have w_:=mem_unlessR.1 h
   obtain⟨h1,h2⟩:=w_
   have w_:=mem_ownG.1 h1
   obtain⟨h3,h4⟩:=w_
   refine .rule (mem_unlessR.2 ⟨h3,fun x hx k=>h2 x hx ?_⟩) ih
   have:=H.neg _ h3 x hx
   exact qNr k (by omega) (by omega)
theorem qSx:∀f∈gam rs (kE ix rs n),f∈kE ix rs n:=fun f h=>by
 rw[gam,mem_lfp]at h
 induction h with
 |base h=>cases h
 | @rule r h _ ih=>
  have w_:=mem_unlessR.1 h
  obtain⟨h1,h2⟩:=w_
  have hlt:=H.head r h1
  have e:ix r.head+1+(n-(ix r.head+1))=n:=by omega
  rw[←e]
  refine qGx ?_ _
  rw[kE,mem_lfp]
  refine .rule (mem_unlessR.2 ⟨mem_ownG.2 ⟨h1,rfl⟩,fun x hx k=>h2 x hx ?_⟩) fun x hx=>?_
  ·have e2 : ix r.head + (n - ix r.head) = n := by omega
   rw[←e2]
   exact qGx k _
  ·have h3 := qNr (ih x hx) (s := ix r.head + 1) (by have := H.pos r h1 x hx; omega) (by omega)
   rw[kE,mem_lfp]at h3
   exact h3
theorem nX:∀f,f∈gam rs (kE ix rs n)↔f∈kE ix rs n:=fun f=>⟨qSx H f,qJx H n (Nat.le_refl n) f⟩
theorem yJ:∀s,∀f,ix f<s→(f∈kE ix rs n→f∈wfT rs)∧(f∈gam rs (wfT rs)→f∈kE ix rs n)
 |0,_,h=>absurd h (Nat.not_lt_zero _)
 |s+1,f,hf=>by
  have ih:=yJ s
  have hU:∀f,Der (aY rs (wfT rs)) [] f→ix f≤s→f∈kE ix rs n:=fun f h=>by
   induction h with
   |base h=>cases h
   | @rule r h _ ihr=>
    intro hl
    have w_:=mem_unlessR.1 h
    obtain⟨h1,h2⟩:=w_
    refine(nX H _).1 ?_
    rw[gam,mem_lfp]
    refine .rule (mem_unlessR.2 ⟨h1,fun x hx k=>h2 x hx ?_⟩) fun x hx=>?_
    ·exact(ih x (by have:=H.neg r h1 x hx;omega)).1 k
    ·have := (nX H x).2 (ihr x hx (by have := H.pos r h1 x hx; omega))
     rwa [gam,mem_lfp]at this
  have hM:∀f,Der (aY rs (kE ix rs n)) [] f→ix f≤s→Der (aY rs (gam rs (wfT rs))) [] f:=fun f h=>by
   induction h with
   |base h=>cases h
   | @rule r h _ ihr=>
    intro hl
    have w_:=mem_unlessR.1 h
    obtain⟨h1,h2⟩:=w_
    refine .rule (mem_unlessR.2 ⟨h1,fun x hx k=>h2 x hx ?_⟩) fun x hx=>?_
    ·exact(ih x (by have:=H.neg r h1 x hx;omega)).2 k
    ·exact ihr x hx (by have:=H.pos r h1 x hx;omega)
  refine⟨fun h=>?_,fun h=>?_⟩
  ·have h := (nX H f).2 h
   rw[gam,mem_lfp]at h
   have:=hM f h (by omega)
   rw[←yK rs,gam,mem_lfp]
   exact this
  ·rw [gam, mem_lfp] at h
   exact hU f h (by omega)
theorem qEq:kE ix rs n=wfT rs:=by
 refine Asc3.uniq cmpF_ord (qSw n) (qHe rs) fun f=>⟨fun h=>?_,fun h=>?_⟩
 ·exact(yJ H (ix f+1) f (by omega)).1 h
 ·exact(yJ H (ix f+1) f (by omega)).2 (yL rs f h)
theorem qPy:wfO rs=[]:=by
 rw[List.eq_nil_iff_forall_not_mem]
 intro f h
 have w_:=mem_wfO.1 h
 obtain⟨h1,h2⟩:=w_
 have h3:=(yJ H (ix f+1) f (by omega)).2 h1
 rw[qEq H]at h3
 exact h2 h3
end
def tL(g x:Gl):Prop:=(x.kind=9→x.name∈g.calls false)∧(x.kind=10→∀y,x.goals[0]? =some y→y.name∈g.calls true)
mutual
theorem Gl.cl_calls:∀(g:Gl) {L:List (List Gl)},g.cl=some L→∀c∈L,∀x∈c,tL g x
 | .mk k s ts gs,L,h=>by
  have hsub:k≠10→∀y∈gs,∀x,tL y x→tL (Gl.mk k s ts gs) x:=fun h10 y hy x hx=>by
   have e:∀b,∀z∈y.calls b,z∈(Gl.mk k s ts gs).calls b:=fun b z hz=>by
    rw[Gl.calls,if_neg h10,Gl.callss_map]
    exact List.mem_append_right _ (List.mem_flatMap.2 ⟨y,hy,hz⟩)
   exact⟨fun q=>e false _ (hx.1 q),fun q w hw=>e true _ (hx.2 q w hw)⟩
  rw[Gl.cl]at h
  split at h
  ·cases h;simp
  rename_i h0
  split at h
  ·cases h;simp
  rename_i h1
  split at h
  ·rename_i h8
   exact Gl.clOr_calls gs (tL (Gl.mk k s ts gs)) (hsub (by omega)) (by simp) h
  rename_i h8
  split at h
  ·rename_i h7
   exact Gl.clAnd_calls gs (tL (Gl.mk k s ts gs)) (hsub (by omega)) (by simp) h
  ·cases h
   intro c hc x hx
   rw[List.mem_singleton.1 hc]at hx
   rw[List.mem_singleton.1 hx]
   refine⟨fun(q:k=9)=>?_,fun(q:k=10) y hy=>?_⟩
   ·show s ∈ (Gl.mk k s ts gs).calls false
    rw[Gl.calls,if_neg (by omega),if_pos ⟨q,rfl⟩]
    simp
   ·rw [Gl.calls, if_pos q, if_pos rfl]
    have hy:gs[0]? =some y:=hy
    cases gs with
    |nil=>cases hy
    |cons a r=>cases hy;simp[sF]
theorem Gl.clOr_calls:∀(gs:List Gl) (Q:Gl→Prop) {acc L:List (List Gl)},(∀y∈gs,∀x,tL y x→Q x)→(∀c∈acc,∀x∈c,Q x)→Gl.clOr gs acc=some L→∀c∈L,∀x∈c,Q x
 |[],Q,acc,L,_,h1,h=>by
  rw[Gl.clOr]at h;cases h;exact h1
 |g::gs,Q,acc,L,hQ,h1,h=>by
  rw[Gl.clOr]at h
  cases e:g.cl with
  |none=>rw[e]at h;cases h
  |some l=>
   rw[e,Option.bind_some]at h
   have hb:=Gl.cl_calls g e
   split at h
   ·exact Gl.clOr_calls gs Q (acc:=acc++l) (fun y hy=>hQ y (by simp[hy])) (fun c hc x hx=>by
     rcases List.mem_append.1 hc with hc|hc
     ·exact h1 c hc x hx
     ·exact hQ g (by simp) x (hb c hc x hx)) h
   ·cases h
theorem Gl.clAnd_calls:∀(gs:List Gl) (Q:Gl→Prop) {acc L:List (List Gl)},(∀y∈gs,∀x,tL y x→Q x)→(∀c∈acc,∀x∈c,Q x)→Gl.clAnd gs acc=some L→∀c∈L,∀x∈c,Q x
 |[],Q,acc,L,_,h1,h=>by
  rw[Gl.clAnd]at h;cases h;exact h1
 |g::gs,Q,acc,L,hQ,h1,h=>by
  rw[Gl.clAnd]at h
  cases e:g.cl with
  |none=>rw[e]at h;cases h
  |some l=>
   rw[e,Option.bind_some]at h
   have hb:=Gl.cl_calls g e
   split at h
   ·exact Gl.clAnd_calls gs Q (acc:=fY acc l) (fun y hy=>hQ y (by simp[hy])) (fun c hc x hx=>by
     have w_:=mJ hc
     obtain⟨u,hu,w,hw,rfl⟩:=w_
     rcases List.mem_append.1 hx with hx|hx
     ·exact h1 u hu x hx
     ·exact hQ g (by simp) x (hb w hw x hx)) h
   ·cases h
end
theorem qPs{p:Pg}{U:List T}{x:Ru}(h:x∈aN p U):∃(k:Nat) (r:Rl) (L:List (List Gl)) (i:Nat) (c:List Gl) (w:Nat),p.rels[k]? =some r∧r.body.cl=some L∧L[i]? =some c∧w<U.length ^ (r.arity+r.locals).toNat∧
  (∀g∈c,okG U (cN U (r.arity+r.locals).toNat w) g)∧x=kB r i c (cN U (r.arity+r.locals).toNat w):=by
 have w_:=List.mem_flatMap.1 h
 obtain⟨r,hr,h⟩:=w_
 have w_:=List.mem_iff_getElem?.1 hr
 obtain⟨k,hk⟩:=w_
 rw[dJ]at h
 cases e:r.body.cl with
 |none=>rw[e]at h;cases h
 |some L=>
  rw[e]at h
  have w_:=List.mem_flatMap.1 h
  obtain⟨i,hi,h⟩:=w_
  rw[List.mem_range]at hi
  have w_:=aSo (l:=L) (i:=i) hi
  obtain⟨c,hc⟩:=w_
  have ec:L.getD i []=c:=by rw[List.getD_eq_getElem?_getD,hc];rfl
  rw[ec]at h
  have w_:=List.mem_filterMap.1 h
  obtain⟨w,hw,h⟩:=w_
  rw[gT]at h
  split at h
  ·rename_i hok
   cases h
   exact⟨k,r,L,i,c,w,hk,e,hc,List.mem_range.1 hw,hok,rfl⟩
  ·cases h
theorem qJy{p:Pg}{S:List Nat}{U:List T}(hp:p.Ok)(hS:eQ p=some S):StrR (fun f=>S.getD (cR p f.rel).toNat 0) p.rels.length (aN p U):=by
 rw[eQ]at hS
 split at hS
 ·rename_i hh
  obtain⟨_,T,hT⟩:=hh
  cases hS
  have hst:=pX hT
  have ixk:∀{s:ByteArray} {k:Nat},cR p s=(k:Int)→k<p.rels.length→((List.range p.rels.length).map (pW p.rels.length (fP false p) (fP true p))).getD (cR p s).toNat 0=pW p.rels.length (fP false p) (fP true p) k:=fun {s k} h1 h2=>by
   rw[h1,Int.toNat_natCast,List.getD_eq_getElem?_getD,List.getElem?_map,List.getElem?_range h2];rfl
  have key:∀x∈aN p U,∃k:Nat,k<p.rels.length∧cR p x.head.rel=(k:Int)∧(∀f∈x.pos,∃j:Nat,j<p.rels.length∧cR p f.rel=(j:Int)∧fP false p k j)∧∀f∈x.neg,∃j:Nat,j<p.rels.length∧cR p f.rel=(j:Int)∧fP true p k j:=fun x hx=>by
   have w_:=qPs hx
   obtain⟨k,r,L,i,c,w,hk,hL,hc,_,_,rfl⟩:=w_
   have hro:=hp.2 k r hk
   have hkl:=(List.getElem?_eq_some_iff.1 hk).1
   refine⟨k,hkl,hro.at_,fun f hf=>?_,fun f hf=>?_⟩
   ·have w_ := List.mem_map.1 hf
    obtain⟨g,hg,rfl⟩:=w_
    have w_:=List.mem_filter.1 hg
    obtain⟨hg,h9⟩:=w_
    have h9:g.kind=9:=of_decide_eq_true h9
    have hq:=(Gl.cl_calls r.body hL c (mAt hc) g hg).1 h9
    have w_:=Gl.calls_fit false hro.body hro.calls g.name hq
    obtain⟨j,hj,hjl⟩:=w_
    exact⟨j,hjl,hj,r,hk,g.name,hq,hj⟩
   ·have w_ := List.mem_map.1 hf
    obtain⟨g,hg,rfl⟩:=w_
    have w_:=List.mem_filter.1 hg
    obtain⟨hg,h10⟩:=w_
    have h10:g.kind=10:=of_decide_eq_true h10
    have hkid:=Gl.kid_at ((ClG.of hp hk hL (mAt hc) hg).sh.top.gl1 h10)
    have hq:=(Gl.cl_calls r.body hL c (mAt hc) g hg).2 h10 _ hkid
    have w_:=Gl.calls_fit true hro.body hro.calls g.kid.name hq
    obtain⟨j,hj,hjl⟩:=w_
    exact⟨j,hjl,hj,r,hk,g.kid.name,hq,hj⟩
  refine⟨fun x hx=>?_,fun x hx f hf=>?_,fun x hx f hf=>?_⟩
  ·obtain ⟨k, h1, h2, _⟩ := key x hx
   rw[ixk h2 h1]
   exact qGf hT h1
  ·obtain ⟨k, h1, h2, h3, _⟩ := key x hx
   obtain⟨j,h4,h5,h6⟩:=h3 f hf
   rw[ixk h2 h1,ixk h5 h4]
   exact hst.pos k j h1 h4 h6
  ·obtain ⟨k, h1, h2, _, h3⟩ := key x hx
   obtain⟨j,h4,h5,h6⟩:=h3 f hf
   rw[ixk h2 h1,ixk h5 h4]
   have:=hst.neg k j h1 h4 h6
   omega
 ·cases hS
theorem qEp(p:Pg)(S:List Nat)(rs:List Ru):∀s,kP p S rs s=kE (fun f=>S.getD (cR p f.rel).toNat 0) rs s
 |0=>rfl
 |s+1=>by
  rw[kP,kE,qEp p S rs s]
  rfl
end Go.Vx
namespace Go.Vx
open Go.Proofs Classical
section
variable {μ:Mem}
set_option maxHeartbeats 1000000 in
theorem fQ{p:Pg}{U:List T}{L:List F}{rs:List Ru}{v:Value}{ub fb:Option Addr}{uc fc:Nat}(hp:RepV μ p.d v)(hu:Sl μ 4 ub U.length ((U.map T.tm).map Tm.d))(hb:FsV μ L (.slice fb L.length fc))(hn:L.length≤2000000)
  (hok:p.Ok) (huok:UnivOk (U.map T.tm)) (hall:∀f∈L,FactFits p f.fc) (hL:bK p U=some rs):
  Spec Tryz.prog 62 [v,.slice ub U.length uc,.slice fb L.length fc] μ fun v μ'=>∃tv,v= .tuple #[tv,.bool true]∧FsV μ' (cO rs (dA L) (dA L)) tv:=by
 have hp0:=hp
 have w_:=Pg.inv hp
 obtain⟨q,rfl,hrl⟩:=w_
 have h1:=huok.pos
 have h8:=huok.max
 rw[List.length_map]at h1 h8
 have hgo:aJ p (U.map T.tm)=some rs:=by rw[aJ,if_pos ⟨hok,huok⟩,bW];exact hL
 have w_:=bI hgo
 obtain⟨hrl2,hro⟩:=w_
 have hbs:=FsV.sl hb
 refine Spec.mk Tryz.func62 (by kernel_rfl) ?_
 intro r3
 refine cPl (bX hp0) fun v1 μ1 hle1 hR=>?_
 obtain rfl:=hR
 refine iIn (fun h=>absurd hok (nd h)) (fun _=>?_)
 have hU:=cA (cap:=uc) (l:=U.map T.tm) (base:=ub) (μ:=μ1) (by rw[List.length_map];exact hu.mono hle1)
 rw[List.length_map]at hU
 refine cGv hU ?_
 refine iIn (fun h=>absurd huok (nd h)) (fun _=>?_)
 obtain⟨bq,cq,eq_,-,hsq⟩:=hbs
 obtain⟨rfl,-,rfl⟩:=Value.slice.inj eq_
 refine lIn (fun i:Nat=>i≤L.length)
  (fun i=>⟨[(1,.val (.slice ub U.length uc)),(2,.val (.slice fb L.length fc)),(3,.loc 0 r3 0),(20,.val (.slice fb L.length fc)),(21,.val (.int .i64 L.length)),(22,.val (.int .i64 i))],[(0,some (.cells r3 [.val (.slice q.1 p.rels.length q.2)] 25))],1,μ1,Mem.nil⟩) (fun i=>L.length-i)
  0 (Nat.zero_le _) (fun _=>⟨rfl,rfl⟩) ⟨⟨rfl,rfl,rfl,rfl,rfl,rfl,trivial⟩,⟨rfl,trivial⟩,rfl,rfl⟩ ?_
 intro i hi
 refine ifd (fun hlt=>?_) (fun hlt=>?_)
 ·have w_ := aSo (l := L) (i := i) (by omega)
  obtain⟨f,hf⟩:=w_
  have w_:=F.elemV (hsq.mono hle1) hf
  obtain⟨ad,q2,hel,hrf⟩:=w_
  refine eIn hel ?_
  intro r9
  refine cGv (gB (hp0.mono hle1) hrf) ?_
  refine aK (fun h=>absurd (hall f (mAt hf)) h) (fun h=>?_)
  exact aB (by omega) (by omega) ⟨i+1,by omega,by omega,⟨⟨rfl,rfl,rfl,rfl,rfl,rfl,trivial⟩,⟨rfl,trivial⟩,rfl,rfl⟩⟩
 refine cPl (dM (hp0.mono hle1) hok (hu.mono hle1) h1 h8) fun v2 μ2 hle2 hR=>?_
 rw[hL]at hR
 obtain⟨tv,rfl,hR⟩:=hR
 have w_:=RsV.sl hR
 obtain⟨b1,c1,rfl,hrs⟩:=w_
 refine iIn (fun h=>nomatch h) (fun _=>?_)
 refine cPl (bE ((hb.mono hle1).mono hle2) (by omega)) fun v3 μ3 hle3 hR3=>?_
 have w_:=FsV.sl hR3
 obtain⟨b2,c2,rfl,-,hs2⟩:=w_
 have hsl:=fT L
 refine cPl (eI (hrs.mono hle3) (by omega) (cU _) (by omega) hs2) fun v4 μ4 hle4 hR4=>?_
 refine cPl (bD hR4 ?_ ?_) fun v5 μ5 hle5 hR5=>?_
 ·have:=sL rs (dA L) (dA L);omega
 ·intro f hf
  have w_:=mem_nextF.1 hf
  obtain⟨r,hr,_,rfl⟩:=w_
  exact Nat.le_trans (hro r hr).hlen (by decide)
 ·exact rPl ⟨_,rfl,hR5.rep⟩
def tP(rs:List Ru)(L:List F):Prop:=∀f∈cO rs (dA L) (dA L),f∈L
set_option maxHeartbeats 1000000 in
theorem jU{p:Pg}{U:List T}{L:List F}{rs:List Ru}{v:Value}{ub fb:Option Addr}{uc fc:Nat}(hp:RepV μ p.d v)(hu:Sl μ 4 ub U.length ((U.map T.tm).map Tm.d))(hb:FsV μ L (.slice fb L.length fc))(hn:L.length≤2000000)
  (hok:p.Ok) (huok:UnivOk (U.map T.tm)) (hall:∀f∈L,FactFits p f.fc) (hL:bK p U=some rs):
  Spec Tryz.prog 16 [v,.slice ub U.length uc,.slice fb L.length fc] μ fun v _=>v= .bool (decide (tP rs L)):=by
 have hp0:=hp
 have w_:=Pg.inv hp
 obtain⟨q,rfl,hrl⟩:=w_
 have hcon:=fQ (uc:=uc) hp0 hu hb hn hok huok hall hL
 refine Spec.mk Tryz.func16 (by kernel_rfl) ?_
 intro r3
 refine cPl hcon fun v1 μ1 hle1 hR=>?_
 obtain⟨tv,rfl,hR⟩:=hR
 have w_:=FsV.sl hR
 obtain⟨b1,c1,rfl,-,hs1⟩:=w_
 refine iIn (fun h=>nomatch h) (fun _=>?_)
 refine cPl (bE (hb.mono hle1) (by omega)) fun v2 μ2 hle2 hR2=>?_
 have w_:=FsV.sl hR2
 obtain⟨b2,c2,rfl,-,hs2⟩:=w_
 have hsl:=fT L
 have hmx:=aH hs1.max
 generalize hN:cO rs (dA L) (dA L)=N at*
 refine lIn (fun i:Nat=>i≤N.length∧∀(j:Nat) x,j<i→N[j]? =some x→x∈L)
  (fun i=>⟨[(9,.val (.slice b2 (dA L).length c2)),(23,.val (.slice b1 N.length c1)),(24,.val (.int .i64 N.length)),(25,.val (.int .i64 i))],[],1,μ2,Mem.nil⟩) (fun i=>N.length-i)
  0 ⟨Nat.zero_le _,fun j x hj=>by omega⟩ (fun _=>⟨rfl,rfl⟩) ⟨⟨rfl,rfl,rfl,rfl,trivial⟩,trivial,rfl,rfl⟩ ?_
 rintro i ⟨hi,hin⟩
 refine ifd (fun hlt=>?_) (fun hlt=>?_)
 ·have w_ := aSo (l := N) (i := i) (by omega)
  obtain⟨x,hx⟩:=w_
  have w_:=F.elemV (hs1.mono hle2) hx
  obtain⟨ad,p2,hel,hrx⟩:=w_
  refine eIn hel ?_
  intro r11
  refine cGv (bM (cU _) (by omega) hs2 hrx) ?_
  refine aK (fun h=>?_) (fun h=>?_)
  ·refine rPl ?_
   rw[decide_eq_false]
   intro k
   rw[tP,hN]at k
   exact h (mem_ascF.2 (k x (List.mem_of_getElem? hx)))
  ·refine aB (by omega) (by omega) ⟨i + 1, ⟨by omega, fun j y hj hy => ?_⟩, by omega, ⟨⟨rfl, rfl, rfl, rfl, trivial⟩, trivial, rfl, rfl⟩⟩
   by_cases e:j=i
   ·subst e;rw[hx]at hy;cases hy;exact mem_ascF.1 h
   ·exact hin j y (by omega) hy
 ·refine rPl ?_
  rw[decide_eq_true]
  intro f hf
  rw[hN]at hf
  have w_:=List.getElem?_of_mem hf
  obtain⟨j,hj⟩:=w_
  exact hin j f (by have:=(List.getElem?_eq_some_iff.1 hj).1;omega) hj
end
end Go.Vx
namespace Go.Vx
open Go.Proofs Classical
theorem qGy{p:Pg}{S:List Nat}{U:List T}(hp:p.Ok)(hS:eQ p=some S):
  wfT (aN p U)=kP p S (aN p U) p.rels.length∧wfO (aN p U)=[]∧(∀f,f∈gam (aN p U) (kP p S (aN p U) p.rels.length)↔f∈kP p S (aN p U) p.rels.length):=by
 have H:=qJy (U:=U) hp hS
 rw[qEp]
 exact⟨(qEq H).symm,qPy H,fun f=>nX H f⟩
theorem qGu{rs:List Ru}{y:List F}(h:∀f,f∈gam rs y↔f∈y):tP rs y:=fun f hf=>by
 have w_:=mem_nextF.1 hf
 obtain⟨r,hr,hfr,rfl⟩:=w_
 refine(h _).1 ?_
 rw[gam,mem_lfp]
 refine .rule (mem_unlessR.2 ⟨hr,fun g hg=>?_⟩) fun g hg=>?_
 ·exact fun k=>hfr.2 g hg (mem_ascF.2 k)
 ·have := (h g).2 (mem_ascF.1 (hfr.1 g hg))
  rw[gam,mem_lfp]at this
  exact this
end Go.Vx
namespace Go.Vx
open Go.Proofs Classical
theorem qOu{rs:List Ru}(h:∀r∈rs,r.neg=[]){y z:List F}(_:z=y)(hT:wfT rs=y):lfp rs []=y:=by
 have e:∀S,aY rs S=rs:=fun S=>by
  rw[aY]
  exact List.filter_eq_self.2 fun r hr=>by simp[h r hr]
 have:=yK rs
 rw[gam,e,hT]at this
 exact this
section
variable {μ:Mem}
set_option maxHeartbeats 2000000 in
theorem qBj{base:Option Addr}{n cap:Nat}(hb:Bytes μ base n):
  Spec Tryz.prog 6 [.slice base n cap] μ fun r _=>r= .bool true:=by
 refine Spec.mk Tryz.func6 (by kernel_rfl) ?_
 refine ifd (fun h=>rPl rfl) (fun h=>?_)
 refine cPl (gX hb 0 (by decide) 2 (.inr rfl)) fun v1 μ1 hle1 hR=>?_
 obtain⟨p,hp,hrp⟩:=hR
 have w_:=Pg.invV hrp
 obtain⟨q,rfl⟩:=w_
 intro r3
 refine cPl (gD (hb.mono hle1) 60 (by decide) 2 (by decide) (by decide)) fun v2 μ2 hle2 hR=>?_
 obtain⟨U,hU,hrU⟩:=hR
 have w_:=Rep.sl hrU
 obtain⟨ub,uc,rfl,hus⟩:=w_
 rw[List.length_map,List.length_map]at hus ⊢
 have hus0:Sl μ2 4 ub (U.map T.tm).length ((U.map T.tm).map Tm.d):=by rw[List.length_map];exact hus
 have hgr:bK p U=some (aN p U):=mA hp.small2 hU.max
 have hgo:aJ p (U.map T.tm)=some (aN p U):=by rw[aJ,if_pos ⟨hp.ok,hU.ok (by decide)⟩,bW];exact hgr
 have hrp2:=hrp.mono hle2
 refine cPl (oO hrp2) fun v3 μ3 hle3 hR3=>?_
 have hsm:=fun μ (hl:μ2.Le μ)=>nD (μ:=μ) (uc:=uc) (hrp2.mono hl) (hus0.mono hl)
 have hwf:=fun μ (hl:μ2.Le μ)=>gC (μ:=μ) (uc:=uc) (hrp2.mono hl) (hus0.mono hl)
 have hlm:=fun μ (hl:μ2.Le μ)=>gK (μ:=μ) (uc:=uc) (hrp2.mono hl) (hus0.mono hl)
 rw[List.length_map]at hsm hwf hlm
 have hwe:wfM p (U.map T.tm)=some (wfT (aN p U),wfO (aN p U)):=by rw[wfM,hgo];rfl
 cases hS:eQ p with
 |none=>
  rw[hS]at hR3
  have hR3:v3= .tuple #[.slice none 0 0,.bool false]:=hR3
  subst hR3
  refine cPl (hsm _ hle3) fun v4 μ4 hle4 hR4=>?_
  rw[show lN p (U.map T.tm)=none by rw[lN,hS];rfl]at hR4
  have hR4:v4= .tuple #[.slice none 0 0,.bool false]:=hR4
  subst hR4
  refine cPl (hwf _ (hle3.trans hle4)) fun v5 μ5 hle5 hR5=>?_
  rw[hwe]at hR5
  obtain⟨tv,tw,rfl,_⟩:=hR5
  refine iIn (fun h=>nomatch h) (fun _=>?_)
  refine iIn (fun h=>nomatch h) (fun _=>?_)
  refine iIn (fun _=>rPl rfl) (fun h=>nomatch h)
 |some S=>
  rw[hS]at hR3
  obtain⟨tv3,rfl,hR3⟩:=hR3
  have hse:lN p (U.map T.tm)=some (kP p S (aN p U) p.rels.length):=by rw[lN,hS,Option.bind_some,hgo];rfl
  have w_:=qGy (U:=U) hp.ok hS
  obtain⟨hT,hO,hG⟩:=w_
  have w_:=qEr hse
  obtain⟨-,hFs,hy2⟩:=w_
  generalize hyd:kP p S (aN p U) p.rels.length=y at*
  refine cPl (hsm _ hle3) fun v4 μ4 hle4 hR4=>?_
  rw[hse]at hR4
  obtain⟨tv4,rfl,hR4⟩:=hR4
  have w_:=FsV.sl hR4.rep
  obtain⟨b4,c4,rfl,-,hs4⟩:=w_
  refine cPl (hwf _ (hle3.trans hle4)) fun v5 μ5 hle5 hR5=>?_
  rw[hwe,hT,hO]at hR5
  obtain⟨tv,tw,rfl,μa,μb,l1,l2,l3,ht,hw⟩:=hR5
  have w_:=FsV.sl (ht.rep.mono (l2.trans l3))
  obtain⟨b5,c5,rfl,-,hs5⟩:=w_
  have w_:=FsV.sl hw.rep
  obtain⟨b6,c6,rfl,-,hs6⟩:=w_
  refine iIn (fun h=>nomatch h) (fun _=>?_)
  refine iIn (fun h=>nomatch h) (fun _=>?_)
  refine iIn (fun h=>nomatch h) (fun _=>?_)
  have hle25:=hle3.trans (hle4.trans hle5)
  refine cPl (hlm _ hle25) fun v7 μ7 hle7 hR7=>?_
  have least:∃(tv7:Value) (n7:Int) (g7:Bool) (L7:List F),v7= .tuple #[tv7,.int .i64 n7,.bool g7]∧FsV μ7 L7 tv7∧(p.Pos→g7=true∧L7=y):=by
   by_cases hpos:p.Pos
   ·have e:eV p (U.map T.tm)=some y:=by
     rw[eV,aU,if_pos hpos,hgo]
     show some (lfp (aN p U) [])=some y
     rw[qOu (yH hpos hgo) hyd hT]
    rw[e]at hR7
    obtain⟨tv7,n7,rfl,hR7⟩:=hR7
    exact⟨tv7,n7,true,y,rfl,hR7.rep,fun _=>⟨rfl,rfl⟩⟩
   ·have e : eV p (U.map T.tm) = none := by rw [eV, aU, if_neg hpos]; rfl
    rw[e]at hR7
    exact⟨.slice none 0 0,0,false,[],hR7,Rep.nilSl 2,fun h=>absurd h hpos⟩
  obtain⟨tv7,n7,g7,L7,rfl,hf7,hp7⟩:=least
  have w_:=FsV.sl hf7
  obtain⟨b7,c7,rfl,-,hs7⟩:=w_
  have hall:∀f∈y.map F.fc,FactFits p f:=fun f hf=>by
   have w_:=List.mem_map.1 hf
   obtain⟨g,hg,rfl⟩:=w_
   exact hFs g hg
  have hst:yB p (U.map T.tm) (y.map F.fc):=⟨gam (aN p U) ((y.map F.fc).map Fc.f),by rw[bZ,hgo,Option.bind_some,if_pos hall],fun x=>by rw[F.fcs];exact hG x⟩
  have hle27:=hle25.trans hle7
  have hle47:=hle5.trans hle7
  have hy7:FsV μ7 y (.slice b4 y.length c4):=hR4.rep.mono hle47
  have hstab:=jA (μ:=μ7) (l:=y.map F.fc) (fb:=b4) (fc:=c4) (uc:=uc) (hrp2.mono hle27) (hus0.mono hle27) (by rw[List.length_map];exact hy7) (by rw[List.length_map];omega)
  rw[List.length_map,List.length_map]at hstab
  refine cPl hstab fun v8 μ8 hle8 hR8=>?_
  rw[decide_eq_true hst]at hR8
  subst hR8
  refine iIn (fun _=>?_) (fun h=>nomatch h)
  refine ifd (fun _=>?_) (fun h=>absurd rfl h)
  refine ifd (fun _=>?_) (fun h=>absurd rfl h)
  refine cGv (cK ((hs5.mono hle7).mono hle8) ((hs4.mono hle47).mono hle8)) ?_
  refine iIn (fun _=>?_) (fun h=>absurd (fun f hf=>hf) (of_decide_eq_false h))
  refine cPl (jU (uc:=uc) ((hrp2.mono hle27).mono hle8) ((hus.mono hle27).mono hle8) (hy7.mono hle8) (by omega) hp.ok (hU.ok (by decide)) (fun f hf=>hFs f hf) hgr) fun v9 μ9 hle9 hR9=>?_
  rw[decide_eq_true (qGu hG)]at hR9
  subst hR9
  refine iIn (fun _=>?_) (fun h=>nomatch h)
  refine cPl (cW (((hrp2.mono hle27).mono hle8).mono hle9)) fun v10 μ10 hle10 hR10=>?_
  have hR10:v10= .bool (decide p.Pos):=hR10
  subst hR10
  refine iIn (fun _=>rPl rfl) (fun hpn=>?_)
  have w_:=hp7 (nd' hpn)
  obtain⟨rfl,rfl⟩:=w_
  refine iIn (fun _=>?_) (fun h=>nomatch h)
  refine ifd (fun _=>?_) (fun h=>absurd rfl h)
  refine cGv (cK (((hs7.mono hle8).mono hle9).mono hle10) ((((hs4.mono hle47).mono hle8).mono hle9).mono hle10)) ?_
  refine rPl ?_
  rw[decide_eq_true fun f hf=>hf]
end
end Go.Vx
