/- Texts of the proof, part M5. -/
import Derived.Test.YtnogdfionomoaaaGreatM4
namespace Go.Vx
open Go.Proofs Classical
open Go.Sort
abbrev FE:=F×Value
noncomputable instance:Inhabited F:=⟨⟨⟨#[]⟩,[]⟩⟩
theorem slFact:SlTy 29 41 Tryz.t29 Tryz.t41 25:=⟨by kernel_rfl,by kernel_rfl,by kernel_rfl,by kernel_rfl,fun _=>by kernel_rfl,by kernel_rfl⟩
noncomputable def ltF(a b:FE):Bool:=decide (dK a.1 b.1<0)
theorem swo_ltF:SWO ltF:=⟨fun x=>cmpF_ord.swo.irrefl x.1,fun x y z=>cmpF_ord.swo.trans x.1 y.1 z.1,fun x y z=>cmpF_ord.swo.ntrans x.1 y.1 z.1⟩
theorem qDq{S:List F}(hS:∀(a b:Nat) x y,a<b→S[a]?=some x→S[b]?=some y→¬dK y x<0){i:Nat}{e y:F}(hi:S[i+1]?=some e)(hy:S[i]?=some y)(hne:dK y e≠0):∀x∈S.take (i+1),dK x e<0:=by
 have h1:dK y e<0:=cmpF_ord.ge_pos (hS i (i+1) y e (by omega) hy hi) (cmpF_ord.ne_comm hne)
 intro x hx
 have w_:=List.mem_iff_getElem?.1 hx
 obtain⟨t,ht⟩:=w_
 rw[List.getElem?_take]at ht
 split at ht
 ·rename_i hlt
  refine cmpF_ord.le_lt ?_ h1
  rcases Nat.lt_or_ge t i with k|k
  ·exact hS t i x y k ht hy
  ·obtain rfl:t=i:=by omega
   rw[hy]at ht;cases ht
   exact cmpF_ord.irrefl _
 ·cases ht
def FElts(μ:Mem)(l:List FE):Prop:=∀p∈l,RepV μ p.1.fc.d p.2
section
variable {μ h0:Mem} {r:Nat} {ty:TypeId} {rest:List Value}
theorem FElts.mono{μ':Mem}{l:List FE}(h:FElts μ l)(hle:μ.Le μ'):FElts μ' l:=fun p hp=>RepV.mono hle (h p hp)
theorem FElts.perm{l m:List FE}(h:FElts μ l)(p:m.Perm l):FElts μ m:=fun q hq=>h q (p.mem_iff.1 hq)
theorem FElts.els{d:Array FE}(h:FElts μ d.toList):Els 2 (d.map Prod.snd):=fun x hx=>by
 simp only[Array.toList_map,List.mem_map]at hx
 obtain⟨p,hp,rfl⟩:=hx
 have w_:=F.inv (h p hp)
 obtain⟨q,e,_⟩:=w_
 rw[e]
 exact⟨rfl,fun u hu=>by simp only[aB,List.mem_cons,List.not_mem_nil,or_false]at hu;rcases hu with rfl|rfl<;>rfl⟩
theorem FElts.at{d:Array FE}{n:Nat}(h:FElts μ d.toList)(hn:d.size=n){i:Nat}(hi:i<n):∃p:Fc.P,d[i]!.2= .agg (d[i]!.1.cs p).toArray∧RepV μ d[i]!.1.fc.d (.agg (d[i]!.1.cs p).toArray):=by
 have hm:d[i]!∈d.toList:=by
  rw[getElem!_pos d i (by omega)]
  exact Array.getElem_mem_toList _
 have hv:=h _ hm
 have w_:=F.inv hv
 obtain⟨p,e,_⟩:=w_
 rw[e]at hv
 exact⟨p,e,hv⟩
theorem rdO{h:Mem}{b:Nat}{d:Array Value}{i:Nat}{x y:Value}{K:List Value→Prop}(hb:h b=some (.cells (List.toArray (d.toList.flatMap aB++rest)) ty (0,0)))(hE:Els 2 d)(hi:i<d.size)(e:d[i]!= .agg #[x,y])(k:K [x,y]):extVC μ h ⟨b,i*2,none⟩ 2 K:=by
 have hh:RowV h b ty rest d=h:=funext fun k=>by
  rw[RowV]
  by_cases e:k=b
  ·subst e;rw[Mem.set_at,hb]
  ·rw[Mem.set_ne e]
 refine oIn [x,y] rfl (fun j z hz=>?_) k
 rw[Addr.add_lit']
 rw[←hh]
 refine RowV.cell hE hi ?_
 rw[e]
 exact hz
theorem sW{rs n cap i j:Nat}{d:Array FE}(hs:h0 rs=some (.cells #[.slice (some ⟨r,0,none⟩) n cap] 29 (0,0)))(hne:rs≠r)(hP:FElts μ d.toList)(hn:d.size=n)(hi:i<n)(hj:j<n):
  SpecH Tryz.prog 134 [.int .i64 i,.int .i64 j,.pointer (some ⟨rs,0,none⟩)] μ (RowV h0 r ty rest (d.map Prod.snd)) fun v μ' h'=>v= .bool (ltF d[i]! d[j]!)∧μ'=μ∧h'=RowV h0 r ty rest (d.map Prod.snd):=by
 have hrs:RowV h0 r ty rest (d.map Prod.snd) rs=some (.cells #[.slice (some ⟨r,0,none⟩) n cap] 29 (0,0)):=(Mem.set_ne hne).trans hs
 have hb:RowV h0 r ty rest (d.map Prod.snd) r=some (.cells (List.toArray ((d.map Prod.snd).toList.flatMap aB++rest)) ty (0,0)):=Mem.set_at _ _ _
 have w_:=hP.at hn hi
 obtain⟨p,e1,hs1⟩:=w_
 have w_:=hP.at hn hj
 obtain⟨q,e2,hs2⟩:=w_
 refine SpecH.mk [] Tryz.func134 (by kernel_rfl) ?_
 refine oIn [.slice (some ⟨r,0,none⟩) n cap] rfl (dI hrs) ?_
 refine qT i rfl hi ?_
 refine rdO hb hP.els (by simpa[hn]using hi) ((nD (by omega)).trans e1) ?_
 refine oIn [.slice (some ⟨r,0,none⟩) n cap] rfl (dI hrs) ?_
 refine qT j rfl hj ?_
 refine rdO hb hP.els (by simpa[hn]using hj) ((nD (by omega)).trans e2) ?_
 refine cGv (dL hs1 hs2) ?_
 exact rPl ⟨rfl,rfl,rfl⟩
end
def NewRow(μ μ':Mem)(ys:List Value)(v:Value):Prop:=∃b c,∃g:Mem,v= .slice (some ⟨b,0,none⟩) ys.length c∧RowO g b c 41 2 ys∧g.Le μ'∧∀x,g x≠none→μ x=none
theorem fst_at{d:Array FE}{n i:Nat}(hn:d.size=n)(hi:i<n):(d.toList.map Prod.fst)[i]?=some d[i]!.1:=by
 rw[List.getElem?_map,getElem!_pos d i (by omega),Array.getElem?_toList,Array.getElem?_eq_getElem (by omega)]
 rfl
section
variable {μ:Mem}
set_option maxHeartbeats 8000000 in
theorem tR{l:List FE}{base:Option Addr}{cap:Nat}(hsrc:qD μ base l.length 2 (l.map Prod.snd))(hE:FElts μ l)(hn:l.length≤100000000):
  Spec Tryz.prog 63 [.slice base l.length cap] μ fun v μ'=>∃l':List FE,(∃dl:List FE,dl.Perm l∧l'.Sublist dl)∧l'.map Prod.fst=iO (l.map Prod.fst)∧NewRow μ μ' (l'.map Prod.snd) v:=by
 generalize hvs:l.map Prod.snd=vs at hsrc
 have hvl:vs.length=l.length:=by rw[←hvs,List.length_map]
 refine Spec.mkO [3,7,14] Tryz.func63 (by kernel_rfl) ?_
 intro r22 hm22 ho22
 refine aY _ hsrc ?_
 refine jS [] rfl ⟨[],Mem.set_at _ _ _,by simp,by simp,by simp,rfl,rfl⟩ ?_ ?_ fun b c o hrow hor=>?_
 ·show(0+_)*40≤_;omega
 ·exact Nat.le_trans (m:=2000000000) (by omega) (by decide)
 generalize hH1:Mem.set (Mem.set _ r22 _) b o=H1
 have hB1:RowO H1 b c 41 2 vs:=by rw[←hH1];exact hrow
 have hap1:Apart μ H1:=by
  rw[←hH1]
  refine((fR μ).set hm22).set ?_
  rcases hor with rfl|h
  ·exact hm22
  ·exact h.2
 clear hrow hor hH1 hm22 ho22
 have hN:0+vs.length=l.length:=by omega
 rw[hN]
 intro r5 hm5 ho5
 refine sIn [.slice none 0 0] 29 (Mem.set_at _ _ _) rfl (Nat.le_refl _) ?_
 obtain⟨cs,hcell,hlen0,hcap,hone,hcs,htake⟩:=hB1
 obtain⟨rest,rfl⟩:∃rest,cs=vs.flatMap aB++rest:=by
  refine⟨cs.drop (vs.length*2),?_⟩
  conv=>lhs;rw[←List.take_append_drop (vs.length*2) cs,htake]
 have hne:r5≠b:=fun e=>by
  have h5:H1 r5=none:=ho5
  rw[e,hcell]at h5;cases h5
 obtain⟨h0,hh0,hsplit⟩:∃h0:Mem,h0 r5=some (.cells #[.slice (some ⟨b,0,none⟩) l.length c] 29 (0,0))∧((H1.set r5 (.cells #[.slice none 0 0] 29 (0,0))).set r5 (.cells #[.slice (some ⟨b,0,none⟩) l.length c] 29 (0,0)))=RowV h0 b 41 rest vs.toArray:=by
  refine⟨fun k=>if k=b then none else((H1.set r5 (.cells #[.slice none 0 0] 29 (0,0))).set r5 (.cells #[.slice (some ⟨b,0,none⟩) l.length c] 29 (0,0))) k,by simp only[if_neg hne];exact Mem.set_at _ _ _,funext fun k=>?_⟩
  rw[RowV]
  by_cases e:k=b
  ·subst e;rw[Mem.set_ne (Ne.symm hne),Mem.set_ne (Ne.symm hne),hcell,Mem.set_at]
  ·conv=>rhs;rw[Mem.set_ne e]
   rw[if_neg e]
 have hap2:Apart μ (RowV h0 b 41 rest vs.toArray):=by
  rw[←hsplit]
  exact(hap1.set hm5).set hm5
 have ea:vs.toArray=l.toArray.map Prod.snd:=by simp[hvs]
 have hzn:l.toArray.size=l.length:=by simp
 have hspec:=sX (μ:=μ) (h0:=h0) (r:=b) (ty:=41) (rest:=rest) (cap:=c) (d0:=l.toArray) (lf:=134) (lb:=[.pointer (some ⟨r5,0,none⟩)]) (enc:=Prod.snd) slFact (ttok.get rfl) (fun h=>nomatch h) (FElts.els (μ:=μ) (by simpa using hE)) hzn (by omega) swo_ltF
  fun {μ' d i j} hle' hV hi hj=>sW hh0 hne (FElts.perm (FElts.mono (by simpa using hE) hle') (sC hzn hV)) (hV.1.trans hzn) hi hj
 rw[←ea,←hsplit]at hspec
 refine oIn [.slice (some ⟨b,0,none⟩) l.length c] rfl (dI (Mem.set_at _ _ _)) ?_
 refine cOw hspec fun v μ2 h2 hle2 hap3 hR=>?_
 obtain⟨rfl,d',p1,p2,rfl⟩:=hR
 have hdn:d'.size=l.length:=p1.1.trans hzn
 have hpd:d'.toList.Perm l:=by simpa using sC hzn p1
 have hP2:FElts μ2 d'.toList:=FElts.perm (hE.mono hle2) hpd
 generalize hS:d'.toList.map Prod.fst=S
 have hSp:S.Perm (l.map Prod.fst):=by rw[←hS];exact hpd.map _
 have hSl:S.length=l.length:=by rw[hSp.length_eq,List.length_map]
 have hSat:∀i,i<l.length→S[i]?=some d'[i]!.1:=fun i hi=>by rw[←hS];exact fst_at hdn hi
 have hSS:∀(a b:Nat) x y,a<b→S[a]?=some x→S[b]?=some y→¬dK y x<0:=fun a b' x y hab hx hy=>by
  have hb':=(List.getElem?_eq_some_iff.1 hy).1
  have h3:=p2 a b' (Nat.zero_le _) hab (by omega)
  have h4:=hSat a (by omega)
  have h5:=hSat b' (by omega)
  rw[hx]at h4;rw[hy]at h5
  cases h4;cases h5
  simpa[ltF]using h3
 have hrs:RowV h0 b 41 rest (d'.map Prod.snd) r5=some (.cells #[.slice (some ⟨b,0,none⟩) l.length c] 29 (0,0)):=(Mem.set_ne hne).trans hh0
 have hbb:RowV h0 b 41 rest (d'.map Prod.snd) b=some (.cells (List.toArray ((d'.map Prod.snd).toList.flatMap aB++rest)) 41 (0,0)):=Mem.set_at _ _ _
 clear hspec hsplit hcell hap2 ho5 hm5 hap1 p1 ea htake hcs hone hcap hlen0 hh0
 generalize hHH:RowV h0 b 41 rest (d'.map Prod.snd)=HH at*
 clear hHH
 intro r14 hm14 ho14
 have hr5:r5≠r14:=fun e=>by
  have h5:HH r14=none:=ho14
  rw[←e,hrs]at h5;cases h5
 have hrb:b≠r14:=fun e=>by
  have h5:HH r14=none:=ho14
  rw[←e,hbb]at h5;cases h5
 have hrs0:∀o,(HH.set r14 o) r5=some (.cells #[.slice (some ⟨b,0,none⟩) l.length c] 29 (0,0)):=fun o=>(Mem.set_ne hr5).trans hrs
 have hbb0:∀o,(HH.set r14 o) b=some (.cells (List.toArray ((d'.map Prod.snd).toList.flatMap aB++rest)) 41 (0,0)):=fun o=>(Mem.set_ne hrb).trans hbb
 refine oIn [.slice (some ⟨b,0,none⟩) l.length c] rfl (dI (hrs0 _)) ?_
 refine lIn (fun p:Nat×Nat×Nat×List FE×Mem=>p.1≤l.length∧RowO p.2.2.2.2 p.2.1 p.2.2.1 41 2 (p.2.2.2.1.map Prod.snd)∧Apart μ2 p.2.2.2.2∧p.2.1≠r5∧p.2.1≠b∧p.2.2.2.2 r5=some (.cells #[.slice (some ⟨b,0,none⟩) l.length c] 29 (0,0))∧p.2.2.2.2 b=some (.cells (List.toArray ((d'.map Prod.snd).toList.flatMap aB++rest)) 41 (0,0))∧
   Asc3 dK (p.2.2.2.1.map Prod.fst)∧p.2.2.2.1.length≤p.1∧(∀x,x∈p.2.2.2.1.map Prod.fst↔x∈S.take p.1)∧p.2.2.2.1.Sublist (d'.toList.take p.1))
  (fun(i,b',c',acc,h)=>⟨[(3,.val (.pointer (some ⟨r5,0,none⟩))),(4,.val (.slice (some ⟨b',0,none⟩) acc.length c')),(15,.val (.slice (some ⟨b,0,none⟩) l.length c)),(16,.val (.int .i64 l.length)),(17,.val (.int .i64 i))],[],0,μ2,h⟩) (fun p=>l.length-p.1)
  (0,r14,0,[],_) ⟨Nat.zero_le _,⟨[],Mem.set_at _ _ _,by simp,by simp,by simp,rfl,rfl⟩,hap3.set hm14,hr5.symm,hrb.symm,hrs0 _,hbb0 _,List.Pairwise.nil,Nat.le_refl _,by simp,by simp⟩ (fun(_,_,_,_,_)=>⟨rfl,rfl⟩) ⟨⟨rfl,rfl,rfl,rfl,rfl,trivial⟩,trivial,rfl,rfl⟩ ?_
 clear hrs0 hbb0 hrs hbb hap3 ho14 hm14 hr5 hrb
 rintro⟨i,b',c',acc,h⟩ ⟨hi,hro,hap,hn5,hnb,hrs,hbb,hasc,hlen,hmem,hsub⟩
 dsimp only at hi hro hap hn5 hnb hrs hbb hasc hlen hmem hsub
 refine ifd (fun hlt=>?_) (fun hlt=>?_)
 rotate_left
 ·obtain rfl:i=l.length:=by omega
  rw[←hSl,List.take_length]at hmem
  refine dO _ Mem.nil (Parts.nil_right _) ?_
  refine⟨acc,⟨d'.toList,hpd,hsub.trans (List.take_sublist _ _)⟩,Asc3.uniq cmpF_ord hasc (eN _) fun x=>by rw[hmem,mem_ascF,hSp.mem_iff],?_⟩
  have hro0:=hro
  obtain⟨cs,hcell,hrest⟩:=hro
  refine⟨b',c',Mem.nil.set b' (.cells cs.toArray 41 (0,0)),by rw[List.length_map],⟨cs,Mem.set_at _ _ _,hrest⟩,fun x o hx=>?_,fun x hx=>?_⟩
  ·by_cases e:x=b'
   ·subst e
    rw[Mem.set_at]at hx
    rw[←hx,←hcell]
    exact(Mem.le_join_right hap) _ _ hcell |>.trans hcell.symm
   ·rw[Mem.set_ne e]at hx;cases hx
  ·by_cases e:x=b'
   ·subst e
    have h6:μ2 x=none:=hap.symm x (by rw[hcell];simp)
    cases e2:μ x with
    |none=>rfl
    |some o=>have h7:μ2 x=some o:=hle2 x o e2;rw[h6]at h7;cases h7
   ·rw[Mem.set_ne e]at hx;exact absurd rfl hx
 have hlt:i<l.length:=by omega
 have w_:=hP2.at hdn hlt
 obtain⟨p,ee,hre⟩:=w_
 have hei:=hSat i hlt
 have hdi:d'.toList[i]?=some d'[i]!:=by rw[getElem!_pos d' i (by omega),Array.getElem?_toList,Array.getElem?_eq_getElem (by omega)]
 have htk:∀x,x∈S.take (i+1)↔x∈S.take i∨x=d'[i]!.1:=fun x=>by
  rw[List.take_add_one,hei,Option.toList_some,List.mem_append,List.mem_singleton]
 refine qT i rfl hlt ?_
 refine rdO hbb hP2.els (by simpa[hdn]using hlt) ((nD (by omega)).trans ee) ?_
 intro r6
 have hnext:(∀x∈S.take i,dK x d'[i]!.1<0)→Asc3 dK ((acc++[d'[i]!]).map Prod.fst)∧(∀x,x∈(acc++[d'[i]!]).map Prod.fst↔x∈S.take (i+1)):=fun hnew=>by
  rw[List.map_append,List.map_cons,List.map_nil]
  refine⟨?_,fun x=>?_⟩
  ·rw[Asc3,List.pairwise_append]
   exact⟨hasc,List.pairwise_singleton _ _,fun x hx y hy=>by rw[List.mem_singleton.1 hy];exact hnew x ((hmem x).1 hx)⟩
  ·rw[List.mem_append,List.mem_singleton,hmem,htk]
 refine ifd (fun h0=>?_) (fun h0=>?_)
 ·have hnew:∀x∈S.take i,dK x d'[i]!.1<0:=by rw[show i=0 by omega];simp
  intro r36
  refine jS _ (List.length_map ..) hro ?_ ?_ fun b9 c9 o hrow hor=>?_
  ·show(acc.length+1)*40≤_;omega
  ·exact Nat.le_trans (m:=2000000000) (show acc.length+1≤_ by omega) (by decide)
  have hn:=hnext hnew
  have h9:b9≠r5∧b9≠b:=by
   rcases hor with rfl|h9
   ·exact⟨hn5,hnb⟩
   ·have h91:h b9=none:=h9.1
    refine⟨fun e=>?_,fun e=>?_⟩
    ·rw[e,hrs]at h91;cases h91
    ·rw[e,hbb]at h91;cases h91
  refine aC (by omega) (by omega) ⟨(i+1,b9,c9,acc++[d'[i]!],_),⟨by dsimp only;omega,?_,hap.set (uW hro hap hor),h9.1,h9.2,(Mem.set_ne h9.1.symm).trans hrs,(Mem.set_ne h9.2.symm).trans hbb,hn.1,by dsimp only;rw[List.length_append];simp;omega,hn.2,?_⟩,by dsimp only;omega,⟨⟨rfl,?_,rfl,rfl,rfl,trivial⟩,trivial,rfl,rfl⟩⟩
  ·dsimp only
   rw[List.map_append,List.map_cons,List.map_nil,ee]
   exact hrow
  ·dsimp only
   rw[List.take_add_one,hdi,Option.toList_some]
   exact hsub.append (List.Sublist.refl _)
  ·dsimp only;rw[List.length_append];rfl
 ·obtain⟨i,rfl⟩:∃k,i=k+1:=⟨i-1,by omega⟩
  have hit2:i<l.length:=by omega
  have w_:=hP2.at hdn hit2
  obtain⟨q,eq,hsq⟩:=w_
  have hqi:=hSat i hit2
  refine oIn [.slice (some ⟨b,0,none⟩) l.length c] rfl (dI hrs) ?_
  refine nEq (x:=(i:Int)) (by rw[aA (by omega) (by omega)];omega) ?_
  refine qT i rfl hit2 ?_
  refine rdO hbb hP2.els (by simpa[hdn]using hit2) ((nD (by omega)).trans eq) ?_
  refine cGv (dL hsq hre) ?_
  refine aM (fun hc=>?_) (fun hc=>?_)
  ·have hnew:∀x∈S.take (i+1),dK x d'[i+1]!.1<0:=qDq hSS hei hqi hc
   generalize i+1=i at*
   intro r36
   refine jS _ (List.length_map ..) hro ?_ ?_ fun b9 c9 o hrow hor=>?_
   ·show(acc.length+1)*40≤_;omega
   ·exact Nat.le_trans (m:=2000000000) (show acc.length+1≤_ by omega) (by decide)
   have hn:=hnext hnew
   have h9:b9≠r5∧b9≠b:=by
    rcases hor with rfl|h9
    ·exact⟨hn5,hnb⟩
    ·have h91:h b9=none:=h9.1
     refine⟨fun e=>?_,fun e=>?_⟩
     ·rw[e,hrs]at h91;cases h91
     ·rw[e,hbb]at h91;cases h91
   refine aC (by omega) (by omega) ⟨(i+1,b9,c9,acc++[d'[i]!],_),⟨by dsimp only;omega,?_,hap.set (uW hro hap hor),h9.1,h9.2,(Mem.set_ne h9.1.symm).trans hrs,(Mem.set_ne h9.2.symm).trans hbb,hn.1,by dsimp only;rw[List.length_append];simp;omega,hn.2,?_⟩,by dsimp only;omega,⟨⟨rfl,?_,rfl,rfl,rfl,trivial⟩,trivial,rfl,rfl⟩⟩
   ·dsimp only
    rw[List.map_append,List.map_cons,List.map_nil,ee]
    exact hrow
   ·dsimp only
    rw[List.take_add_one,hdi,Option.toList_some]
    exact hsub.append (List.Sublist.refl _)
   ·dsimp only;rw[List.length_append];rfl
  ·refine aC (by omega) (by omega) ⟨(i+1+1,b',c',acc,h),⟨by dsimp only;omega,hro,hap,hn5,hnb,hrs,hbb,hasc,by dsimp only;omega,fun x=>?_,hsub.trans (by rw[List.take_add_one (i:=i+1)];exact List.sublist_append_left _ _)⟩,by dsimp only;omega,⟨⟨rfl,rfl,rfl,rfl,rfl,trivial⟩,trivial,rfl,rfl⟩⟩
   dsimp only
   rw[hmem,htk,←(cmpF_ord.zero _ _).1 hc,List.take_add_one,hqi]
   simp
theorem qNm{l l':List FE}(h:∃dl:List FE,dl.Perm l∧l'.Sublist dl):∀p∈l',p∈l:=fun p hp=>by
 obtain⟨dl,h1,h2⟩:=h
 exact h1.mem_iff.1 (h2.subset hp)
theorem FElts.zip:∀{L:List F} {vs:List Value},Rows μ 2 ((L.map F.fc).map Fc.d) vs→FElts μ (L.zip vs)
 |[],_,_=>fun p hp=>by simp at hp
 |x::L,_,.cons h _ r=>fun p hp=>by
  rcases List.mem_cons.1 hp with rfl|hp
  ·exact h
  ·exact FElts.zip r p hp
theorem FElts.rows:∀{l:List FE},FElts μ l→Rows μ 2 (((l.map Prod.fst).map F.fc).map Fc.d) (l.map Prod.snd)
 |[],_=> .nil
 |p::l,h=> .cons (h p (by simp)) (Fc.d_n _) (FElts.rows fun q hq=>h q (List.mem_cons_of_mem _ hq))
theorem zip_fst{L:List F}{vs:List Value}(h:L.length=vs.length):(L.zip vs).map Prod.fst=L:=List.map_fst_zip (by omega)
theorem zip_snd{L:List F}{vs:List Value}(h:L.length=vs.length):(L.zip vs).map Prod.snd=vs:=List.map_snd_zip (by omega)
theorem bZ{L:List F}{v:Value}(h:FsV μ L v)(hn:L.length≤100000000):
  Spec Tryz.prog 63 [v] μ fun v μ'=>FsV μ' (iO L) v:=by
 have w_:=FsV.sl h
 obtain⟨b,c,rfl,hlc,hs⟩:=w_
 have w_:=Rep.srcAll h
 obtain⟨vs,hrows,hvl,hsrc⟩:=w_
 have hE:=FElts.zip hrows
 have hl:(L.zip vs).length=L.length:=by rw[List.length_zip];omega
 have:=tR (l:=L.zip vs) (base:=b) (cap:=c) (by rw[hl,zip_snd (by omega)];exact hsrc) hE (by omega)
 rw[hl]at this
 refine this.weaken fun v μ' hle hR=>?_
 obtain⟨l',h1,h2,bb,cc,g,rfl,hro,hg,_⟩:=hR
 replace h1:=qNm h1
 have hE':FElts μ' l':=fun p hp=>RepV.mono hle (hE p (h1 p hp))
 rw[zip_fst (by omega)]at h2
 have:=hro.rep hg hE'.rows
 rw[h2]at this
 exact this
end
end Go.Vx
namespace Go.Vx
open Go.Proofs Classical
theorem qHw{L:List F}(h:Asc3 dK L){i j:Nat}{x y:F}(hij:i<j)(hx:L[i]?=some x)(hy:L[j]?=some y):dK x y<0:=by
 have w_:=List.getElem?_eq_some_iff.1 hx
 obtain⟨h1,rfl⟩:=w_
 have w_:=List.getElem?_eq_some_iff.1 hy
 obtain⟨h2,rfl⟩:=w_
 exact List.pairwise_iff_getElem.1 h i j h1 h2 hij
def qDx(L:List F)(f:F)(i:Int):Prop:=∃x,L[i.toNat]?=some x∧0≤dK x f
section
variable {μ:Mem}
theorem qHv{r:Nat}{x y:Value}{ty:TypeId}(h:μ r=some (.cells #[x,y] ty (0,0))):∀j v,[x,y][j]?=some v→μ.cell ((⟨r,0,none⟩:Addr).add j)=some v:=fun j v hj=>by
 match j,hj with
 |0,hj=>cases hj;simp[Mem.cell,Addr.add_lit',h]
 |1,hj=>cases hj;simp[Mem.cell,Addr.add_lit',h]
theorem xD{L:List F}{f:F}{b:Option Addr}{c i r1 r2:Nat}{p:Fc.P}(hs:Sl μ 2 b L.length ((L.map F.fc).map Fc.d))(hf:RepV μ f.fc.d (.agg #[.string f.rel,.slice p.1 f.args.length p.2]))
  (h1:μ r1=some (.cells #[.slice b L.length c] 29 (0,0))) (h2:μ r2=some (.cells #[.string f.rel,.slice p.1 f.args.length p.2] 41 (0,0))) (hi:i<L.length):
  aP Tryz.prog 136 [.int .i64 i,.pointer (some ⟨r1,0,none⟩),.pointer (some ⟨r2,0,none⟩)] μ (.bool (decide (qDx L f i))):=by
 have w_:=aSo (l:=L) (i:=i) hi
 obtain⟨x,hx⟩:=w_
 have w_:=F.elem hs hx
 obtain⟨ad,q,hel,hrx,_⟩:=w_
 refine Spec.mk Tryz.func136 (by kernel_rfl) ?_
 refine dZ [.slice b L.length c] rfl (dI h1) ?_
 refine eIn hel ?_
 refine dZ [.string f.rel,.slice p.1 f.args.length p.2] rfl (qHv h2) ?_
 refine cGv (dL hrx hf) ?_
 refine rGv (isI ?_) rfl
 constructor
 ·intro h;exact⟨x,hx,h⟩
 ·rintro⟨y,hy,h⟩
  have hy:L[i]?=some y:=hy
  rw[hx]at hy;cases hy;exact h
theorem dC{L:List F}{f:F}{b:Option Addr}{c:Nat}{w:Value}(hL:Asc3 dK L)(hn:L.length≤1000000000)(hs:Sl μ 2 b L.length ((L.map F.fc).map Fc.d))(hf:RepV μ f.fc.d w):
  aP Tryz.prog 64 [.slice b L.length c,w] μ (.bool (decide (f∈L))):=by
 have hf0:=hf
 have w_:=F.inv hf
 obtain⟨p,rfl,hfs⟩:=w_
 refine Spec.forget (Spec.mk Tryz.func64 (by kernel_rfl) ?_)
 intro r1 r2
 refine bG [0,1] ?_
 intro μ1 hle1 hno1 hat1 μ2 hle2 hno2 hat2
 have hs2:=(hs.mono hle1).mono hle2
 have hf2:=(hf0.mono hle1).mono hle2
 have e1:μ2 r1=some (.cells #[.slice b L.length c] 29 (0,0)):=hle2 _ _ hat1
 refine cB (qDn (p:=qDx L f) hn fun i hi=>xD hs2 hf2 e1 hat2 hi) fun v μ3 hle3 hR=>?_
 obtain⟨⟨i,rfl,g1,g2,g3⟩,rfl⟩:=hR
 have low:∀(j:Nat),j<i→L[j]?≠some f:=fun j hj hb=>by
  have w_:=aSo (l:=L) (i:=i-1) (by omega)
  obtain⟨y,hy⟩:=w_
  refine g3 (i-1) (by omega) ⟨y,hy,?_⟩
  rcases Nat.lt_or_ge j (i-1)with h|h
  ·have:=qHw hL h hb hy
   have:=(cmpF_ord.anti f y).1 this
   omega
  ·obtain rfl:j=i-1:=by omega
   rw[hb]at hy;cases hy
   have:=(cmpF_ord.zero f f).2 rfl
   omega
 have none:(∀x,L[i]?=some x→dK x f≠0)→f∉L:=fun h hm=>by
  have w_:=List.mem_iff_getElem?.1 hm
  obtain⟨j,hj⟩:=w_
  rcases Nat.lt_or_ge j i with h1|h1
  ·exact low j h1 hj
  ·have hjl:=(List.getElem?_eq_some_iff.1 hj).1
   have w_:=aSo (l:=L) (i:=i) (by omega)
   obtain⟨x,hx⟩:=w_
   have w_:=g2 (by omega)
   obtain⟨x',hx',h2⟩:=w_
   have hx':L[i]?=some x':=hx'
   rw[hx]at hx';cases hx'
   have h4:=h x hx
   rcases Nat.eq_or_lt_of_le h1 with h3|h3
   ·subst h3;rw[hj]at hx;cases hx;exact h4 ((cmpF_ord.zero f f).2 rfl)
   ·have:=qHw hL h3 hx hj;omega
 refine dZ [.slice b L.length c] rfl (dI e1) ?_
 refine ifd (fun h=>?_) (fun h=>?_)
 ·have w_:=aSo (l:=L) (i:=i) (by omega)
  obtain⟨x,hx⟩:=w_
  have w_:=F.elem hs2 hx
  obtain⟨ad,q,hel,hrx,_⟩:=w_
  refine dZ [.slice b L.length c] rfl (dI e1) ?_
  refine eIn hel ?_
  refine dZ [.string f.rel,.slice p.1 f.args.length p.2] rfl (qHv hat2) ?_
  refine cGv (dL hrx hf2) ?_
  refine rPl (isI ?_)
  constructor
  ·intro e;rw[←(cmpF_ord.zero _ _).1 e];exact mAt hx
  ·intro hm
   refine Classical.byContradiction fun k=>none (fun y hy=>?_) hm
   rw[hx]at hy;cases hy;exact k
 ·refine rPl (isF (none fun x hx=>?_))
  have:=(List.getElem?_eq_some_iff.1 hx).1
  omega
theorem iE{L M:List F}{b b2:Option Addr}{c c2:Nat}(hs:Sl μ 2 b L.length ((L.map F.fc).map Fc.d))(hs2:Sl μ 2 b2 M.length ((M.map F.fc).map Fc.d)):
  aP Tryz.prog 67 [.slice b L.length c,.slice b2 M.length c2] μ (.bool (decide (L=M))):=by
 have hm1:=aH hs.max
 refine Spec.mk Tryz.func67 (by kernel_rfl) ?_
 refine aM (fun h=>rGv (isF fun k=>h (by rw[k])) rfl) (fun he=>?_)
 refine lIn (fun k:Nat=>k≤L.length∧∀j,j<k→L[j]?=M[j]?)
  (fun k=>⟨[(0,.val (.slice b L.length c)),(1,.val (.slice b2 M.length c2)),(12,.val (.int .i64 L.length)),(13,.val (.int .i64 k))],[],0,μ,Mem.nil⟩) (fun k=>L.length-k)
  0 ⟨Nat.zero_le _,fun j h=>by omega⟩ (fun _=>⟨rfl,rfl⟩) ⟨⟨rfl,rfl,rfl,rfl,trivial⟩,trivial,rfl,rfl⟩ ?_
 rintro k ⟨hk,hall⟩
 refine ifd (fun hlt=>?_) (fun hlt=>?_)
 ·have w_:=aSo (l:=L) (i:=k) (by omega)
  obtain⟨x,hx⟩:=w_
  have w_:=aSo (l:=M) (i:=k) (by omega)
  obtain⟨y,hy⟩:=w_
  have w_:=F.elem hs hx
  obtain⟨ad,q,hel,hrx,_⟩:=w_
  have w_:=F.elem hs2 hy
  obtain⟨ad2,q2,hel2,hry,_⟩:=w_
  refine eIn hel (eIn hel2 ?_)
  refine cGv (dL hrx hry) ?_
  refine aM (fun h=>rGv (isF fun e=>h ?_) rfl) (fun h=>?_)
  ·subst e
   rw[hx]at hy;cases hy
   exact(cmpF_ord.zero _ _).2 rfl
  ·refine aC (by omega) (by omega) ⟨k+1,⟨by omega,fun j hj=>?_⟩,by omega,⟨⟨rfl,rfl,rfl,rfl,trivial⟩,trivial,rfl,rfl⟩⟩
   rcases Nat.lt_or_ge j k with h6|h6
   ·exact hall j h6
   ·obtain rfl:j=k:=by omega
    rw[hx,hy,(cmpF_ord.zero _ _).1 h]
 ·obtain rfl:k=L.length:=by omega
  refine rGv (isT (List.ext_getElem? fun j=>?_)) rfl
  rcases Nat.lt_or_ge j L.length with h6|h6
  ·exact hall j h6
  ·rw[List.getElem?_eq_none h6,List.getElem?_eq_none (by omega)]
end
theorem pE{α:Type}{l:List α}{j:Nat}{x:α}{P:α→Prop}(h:l[j]?=some x):(∀y∈l.take (j+1),P y)↔(∀y∈l.take j,P y)∧P x:=by
 rw[List.take_add_one,h,Option.toList_some]
 constructor
 ·exact fun k=>⟨fun y hy=>k y (List.mem_append_left _ hy),k x (by simp)⟩
 ·rintro⟨h1,h2⟩ y hy
  rcases List.mem_append.1 hy with k|k
  ·exact h1 y k
  ·rw[List.mem_singleton.1 k];exact h2
section
variable {μ:Mem}
set_option maxHeartbeats 1000000 in
theorem jG{rs:List Ru}{S:List F}{b b3:Option Addr}{c c3:Nat}(hr:Sl μ 6 b3 rs.length ((rs.map Ru.rd).map RuD.d))(hn:rs.length≤10000000)(hS:Asc3 dK S)(hSn:S.length≤1000000000)(hs:Sl μ 2 b S.length ((S.map F.fc).map Fc.d)):
  Spec Tryz.prog 132 [.slice b3 rs.length c3,.slice b S.length c] μ fun r μ'=>FsV μ' (cP rs S S) r:=by
 refine Spec.mk Tryz.func132 (by kernel_rfl) ?_
 intro r13
 refine lIn (fun z:Nat×Option Nat×Nat×List Value=>z.1≤rs.length∧Rows μ 2 (((jL rs S S z.1).map F.fc).map Fc.d) z.2.2.2)
  (fun(i,bo,co,ys)=>⟨[(1,.val (.slice b S.length c)),(5,.row 0 bo ys.length co),(14,.val (.slice b3 rs.length c3)),(15,.val (.int .i64 rs.length)),(16,.val (.int .i64 i))],[(0,some (.row bo co 41 2 ys))],1,μ,Mem.nil⟩) (fun z=>rs.length-z.1)
  (0,some r13,0,[]) ⟨Nat.zero_le _,by simpa[jL]using .nil⟩ (fun(_,_,_,_)=>⟨rfl,rfl⟩) ⟨⟨rfl,rfl,rfl,rfl,rfl,trivial⟩,⟨rfl,trivial⟩,rfl,rfl⟩ ?_
 rintro⟨i,bo,co,ys⟩ ⟨hi,hrows⟩
 dsimp only at hi hrows
 have hyl:=hrows.len
 simp only[List.length_map]at hyl
 have hhl:=vP rs S S i
 refine ifd (fun hlt=>?_) (fun hlt=>?_)
 rotate_left
 ·obtain rfl:i=rs.length:=by omega
  refine bG [0] ?_
  intro μ1 hle1 hno1 hat1
  have hrep:=Rows.sl hat1 (hrows.mono hle1) (Nat.le_trans (m:=100000000) (by omega) (by decide))
  refine cB (bZ hrep (by omega)) fun v μ2 hle2 hR=>?_
  rw[uY]at hR
  exact rPl hR
 have w_:=aSo (l:=rs) (i:=i) (by omega)
 obtain⟨r,hri⟩:=w_
 have w_:=Ru.elem hr hri
 obtain⟨ad,p,hel,hrv,hat⟩:=w_
 have hsucc:=qEj (pos:=S) (neg:=S) hri
 refine eIn hel ?_
 intro r7
 have hmp:=aH hat.pos.max
 have hmn:=aH hat.neg.max
 refine lIn (fun z:Nat×Bool=>z.1≤r.pos.length∧(z.2=true↔∀f∈r.pos.take z.1,f∈S))
  (fun(j,fine)=>⟨[(1,.val (.slice b S.length c)),(5,.row 0 bo ys.length co),(7,.loc 1 r7 0),(8,.val (.bool fine)),(14,.val (.slice b3 rs.length c3)),(15,.val (.int .i64 rs.length)),(16,.val (.int .i64 i)),(21,.val (.slice p.2.2.1.1 r.pos.length p.2.2.1.2)),(22,.val (.int .i64 r.pos.length)),(23,.val (.int .i64 j))],
   [(0,some (.row bo co 41 2 ys)),(1,some (.cells r7 (vals (r.cs p)) 106))],2,μ,Mem.nil⟩) (fun z=>r.pos.length-z.1)
  (0,true) ⟨Nat.zero_le _,by simp⟩ (fun(_,_)=>⟨rfl,rfl⟩) ⟨⟨rfl,rfl,rfl,rfl,rfl,rfl,rfl,rfl,rfl,rfl,trivial⟩,⟨rfl,rfl,trivial⟩,rfl,rfl⟩ ?_
 rintro⟨j,fine⟩ ⟨hj,hfine⟩
 dsimp only at hj hfine
 refine ifd (fun hlt2=>?_) (fun hlt2=>?_)
 ·have w_:=aSo (l:=r.pos) (i:=j) (by omega)
  obtain⟨f,hf⟩:=w_
  have w_:=F.elem hat.pos hf
  obtain⟨ad2,p2,hel2,hrf,_⟩:=w_
  have hstep:=pE (P:=fun f=>f∈S) hf
  refine eIn hel2 ?_
  intro r10
  refine iIn (fun hk=>?_) (fun hk=>?_)
  ·refine cGv (dC hS hSn hs hrf) ?_
   refine aC (by omega) (by omega) ⟨(j+1,decide (f∈S)),⟨by dsimp only;omega,?_⟩,by dsimp only;omega,⟨⟨rfl,rfl,rfl,rfl,rfl,rfl,rfl,rfl,rfl,rfl,trivial⟩,⟨rfl,rfl,trivial⟩,rfl,rfl⟩⟩
   dsimp only
   rw[hstep,←hfine,decide_eq_true_eq]
   exact⟨fun h=>⟨hk,h⟩,fun h=>h.2⟩
  ·refine aC (by omega) (by omega) ⟨(j+1,false),⟨by dsimp only;omega,?_⟩,by dsimp only;omega,⟨⟨rfl,rfl,rfl,rfl,rfl,rfl,rfl,rfl,rfl,rfl,trivial⟩,⟨rfl,rfl,trivial⟩,rfl,rfl⟩⟩
   dsimp only
   rw[hstep,←hfine,hk]
   simp
 obtain rfl:j=r.pos.length:=by omega
 rw[List.take_length]at hfine
 refine lIn (fun z:Nat×Bool=>z.1≤r.neg.length∧(z.2=true↔(∀f∈r.pos,f∈S)∧∀f∈r.neg.take z.1,f∉S))
  (fun(j,fine)=>⟨[(1,.val (.slice b S.length c)),(5,.row 0 bo ys.length co),(7,.loc 1 r7 0),(8,.val (.bool fine)),(14,.val (.slice b3 rs.length c3)),(15,.val (.int .i64 rs.length)),(16,.val (.int .i64 i)),(35,.val (.slice p.2.2.2.1 r.neg.length p.2.2.2.2)),(36,.val (.int .i64 r.neg.length)),(37,.val (.int .i64 j))],
   [(0,some (.row bo co 41 2 ys)),(1,some (.cells r7 (vals (r.cs p)) 106))],2,μ,Mem.nil⟩) (fun z=>r.neg.length-z.1)
  (0,fine) ⟨Nat.zero_le _,by simpa using hfine⟩ (fun(_,_)=>⟨rfl,rfl⟩) ⟨⟨rfl,rfl,rfl,rfl,rfl,rfl,rfl,rfl,rfl,rfl,trivial⟩,⟨rfl,rfl,trivial⟩,rfl,rfl⟩ ?_
 clear hfine hlt2 hj
 rintro⟨j,fine⟩ ⟨hj,hfine⟩
 dsimp only at hj hfine
 refine ifd (fun hlt2=>?_) (fun hlt2=>?_)
 ·have w_:=aSo (l:=r.neg) (i:=j) (by omega)
  obtain⟨f,hf⟩:=w_
  have w_:=F.elem hat.neg hf
  obtain⟨ad2,p2,hel2,hrf,_⟩:=w_
  have hstep:=pE (P:=fun f=>f∉S) hf
  refine eIn hel2 ?_
  intro r10
  refine iIn (fun hk=>?_) (fun hk=>?_)
  ·refine cGv (dC hS hSn hs hrf) ?_
   refine aC (by omega) (by omega) ⟨(j+1,!decide (f∈S)),⟨by dsimp only;omega,?_⟩,by dsimp only;omega,⟨⟨rfl,rfl,rfl,rfl,rfl,rfl,rfl,rfl,rfl,rfl,trivial⟩,⟨rfl,rfl,trivial⟩,rfl,rfl⟩⟩
   dsimp only
   rw[hstep,←and_assoc,←hfine,Bool.not_eq_true',decide_eq_false_iff_not]
   exact⟨fun h=>⟨hk,h⟩,fun h=>h.2⟩
  ·refine aC (by omega) (by omega) ⟨(j+1,false),⟨by dsimp only;omega,?_⟩,by dsimp only;omega,⟨⟨rfl,rfl,rfl,rfl,rfl,rfl,rfl,rfl,rfl,rfl,trivial⟩,⟨rfl,rfl,trivial⟩,rfl,rfl⟩⟩
   dsimp only
   rw[hstep,←and_assoc,←hfine,hk]
   simp
 obtain rfl:j=r.neg.length:=by omega
 rw[List.take_length]at hfine
 replace hfine:fine=true↔sI S S r:=hfine
 refine iIn (fun hk=>?_) (fun hk=>?_)
 ·rw[if_pos (hfine.1 hk)]at hsucc
  intro r53
  refine gIn ?_ ?_ fun b' c' _=>?_
  ·show(ys.length+1)*40≤_;omega
  ·exact Nat.le_trans (m:=100000000) (show ys.length+1≤_ by omega) (by decide)
  refine aC (by omega) (by omega) ⟨(i+1,b',c',_),⟨by dsimp only;omega,?_⟩,by dsimp only;omega,⟨⟨rfl,rfl,rfl,rfl,rfl,trivial⟩,⟨rfl,trivial⟩,rfl,rfl⟩⟩
  dsimp only
  rw[hsucc]
  simp only[List.map_append,List.map_cons,List.map_nil]
  exact hrows.append (Rows.one hat.head (Fc.d_n _))
 ·rw[if_neg (fun k=>by rw[hfine.2 k]at hk;cases hk),List.append_nil]at hsucc
  refine aC (by omega) (by omega) ⟨(i+1,bo,co,ys),⟨by dsimp only;omega,?_⟩,by dsimp only;omega,⟨⟨rfl,rfl,rfl,rfl,rfl,trivial⟩,⟨rfl,trivial⟩,rfl,rfl⟩⟩
  dsimp only
  rw[hsucc];exact hrows
set_option maxHeartbeats 1000000 in
theorem sJ{rs:List Ru}{S:List F}{b b3:Option Addr}{c c3:Nat}(hr:Sl μ 6 b3 rs.length ((rs.map Ru.rd).map RuD.d))(hn:rs.length≤10000000)(hS:Asc3 dK S)(hSn:S.length≤1000000000)(hs:Sl μ 2 b S.length ((S.map F.fc).map Fc.d)):
  Spec Tryz.prog 83 [.slice b3 rs.length c3,.slice b S.length c] μ fun r μ'=>RsV μ' (aZ rs S) r:=by
 refine Spec.mk Tryz.func83 (by kernel_rfl) ?_
 intro r13
 refine lIn (fun z:Nat×Option Nat×Nat×List Value=>z.1≤rs.length∧Rows μ 6 (((aZ (rs.take z.1) S).map Ru.rd).map RuD.d) z.2.2.2)
  (fun(i,bo,co,ys)=>⟨[(1,.val (.slice b S.length c)),(5,.row 0 bo ys.length co),(12,.val (.slice b3 rs.length c3)),(13,.val (.int .i64 rs.length)),(14,.val (.int .i64 i))],[(0,some (.row bo co 106 6 ys))],1,μ,Mem.nil⟩) (fun z=>rs.length-z.1)
  (0,some r13,0,[]) ⟨Nat.zero_le _,by simpa[aZ]using .nil⟩ (fun(_,_,_,_)=>⟨rfl,rfl⟩) ⟨⟨rfl,rfl,rfl,rfl,rfl,trivial⟩,⟨rfl,trivial⟩,rfl,rfl⟩ ?_
 rintro⟨i,bo,co,ys⟩ ⟨hi,hrows⟩
 dsimp only at hi hrows
 have hyl:=hrows.len
 simp only[List.length_map]at hyl
 have hhl:=iX (rs.take i) S
 rw[List.length_take]at hhl
 refine ifd (fun hlt=>?_) (fun hlt=>?_)
 rotate_left
 ·obtain rfl:i=rs.length:=by omega
  rw[List.take_length]at hrows
  refine rFz [0] fun μ2 hle2 hno2 hrow2=> .inl ?_
  exact Rows.sl hrow2 (hrows.mono hle2) (Nat.le_trans (m:=100000000) (by omega) (by decide))
 have w_:=aSo (l:=rs) (i:=i) (by omega)
 obtain⟨r,hri⟩:=w_
 have w_:=Ru.elem hr hri
 obtain⟨ad,p,hel,hrv,hat⟩:=w_
 have hsucc:=qAg (S:=S) hri
 refine eIn hel ?_
 intro r7
 have hmn:=aH hat.neg.max
 refine lIn (fun z:Nat×Bool=>z.1≤r.neg.length∧(z.2=true↔∀f∈r.neg.take z.1,f∉S))
  (fun(j,fine)=>⟨[(1,.val (.slice b S.length c)),(5,.row 0 bo ys.length co),(7,.loc 1 r7 0),(8,.val (.bool fine)),(12,.val (.slice b3 rs.length c3)),(13,.val (.int .i64 rs.length)),(14,.val (.int .i64 i)),(19,.val (.slice p.2.2.2.1 r.neg.length p.2.2.2.2)),(20,.val (.int .i64 r.neg.length)),(21,.val (.int .i64 j))],
   [(0,some (.row bo co 106 6 ys)),(1,some (.cells r7 (vals (r.cs p)) 106))],2,μ,Mem.nil⟩) (fun z=>r.neg.length-z.1)
  (0,true) ⟨Nat.zero_le _,by simp⟩ (fun(_,_)=>⟨rfl,rfl⟩) ⟨⟨rfl,rfl,rfl,rfl,rfl,rfl,rfl,rfl,rfl,rfl,trivial⟩,⟨rfl,rfl,trivial⟩,rfl,rfl⟩ ?_
 rintro⟨j,fine⟩ ⟨hj,hfine⟩
 dsimp only at hj hfine
 refine ifd (fun hlt2=>?_) (fun hlt2=>?_)
 ·have w_:=aSo (l:=r.neg) (i:=j) (by omega)
  obtain⟨f,hf⟩:=w_
  have w_:=F.elem hat.neg hf
  obtain⟨ad2,p2,hel2,hrf,_⟩:=w_
  have hstep:=pE (P:=fun f=>f∉S) hf
  refine eIn hel2 ?_
  intro r10
  refine iIn (fun hk=>?_) (fun hk=>?_)
  ·refine cGv (dC hS hSn hs hrf) ?_
   refine aC (by omega) (by omega) ⟨(j+1,!decide (f∈S)),⟨by dsimp only;omega,?_⟩,by dsimp only;omega,⟨⟨rfl,rfl,rfl,rfl,rfl,rfl,rfl,rfl,rfl,rfl,trivial⟩,⟨rfl,rfl,trivial⟩,rfl,rfl⟩⟩
   dsimp only
   rw[hstep,←hfine,Bool.not_eq_true',decide_eq_false_iff_not]
   exact⟨fun h=>⟨hk,h⟩,fun h=>h.2⟩
  ·refine aC (by omega) (by omega) ⟨(j+1,false),⟨by dsimp only;omega,?_⟩,by dsimp only;omega,⟨⟨rfl,rfl,rfl,rfl,rfl,rfl,rfl,rfl,rfl,rfl,trivial⟩,⟨rfl,rfl,trivial⟩,rfl,rfl⟩⟩
   dsimp only
   rw[hstep,←hfine,hk]
   simp
 obtain rfl:j=r.neg.length:=by omega
 rw[List.take_length]at hfine
 refine iIn (fun hk=>?_) (fun hk=>?_)
 ·rw[if_pos (hfine.1 hk)]at hsucc
  intro r53
  refine gIn ?_ ?_ fun b' c' _=>?_
  ·show(ys.length+1)*120≤_;omega
  ·exact Nat.le_trans (m:=100000000) (show ys.length+1≤_ by omega) (by decide)
  refine aC (by omega) (by omega) ⟨(i+1,b',c',_),⟨by dsimp only;omega,?_⟩,by dsimp only;omega,⟨⟨rfl,rfl,rfl,rfl,rfl,trivial⟩,⟨rfl,trivial⟩,rfl,rfl⟩⟩
  dsimp only
  rw[hsucc]
  simp only[List.map_append,List.map_cons,List.map_nil]
  exact hrows.append (Rows.one hrv (RuD.d_n _))
 ·rw[if_neg (fun k=>by rw[hfine.2 k]at hk;cases hk),List.append_nil]at hsucc
  refine aC (by omega) (by omega) ⟨(i+1,bo,co,ys),⟨by dsimp only;omega,?_⟩,by dsimp only;omega,⟨⟨rfl,rfl,rfl,rfl,rfl,trivial⟩,⟨rfl,trivial⟩,rfl,rfl⟩⟩
  dsimp only
  rw[hsucc];exact hrows
set_option maxHeartbeats 1000000 in
theorem xH{rs:List Ru}{base:List F}{v:Value}{b3:Option Addr}{c3:Nat}(hr:Sl μ 6 b3 rs.length ((rs.map Ru.rd).map RuD.d))(hn:rs.length≤3000000)(h:FsV μ base v)(hbn:base.length≤3000000):
  Spec Tryz.prog 60 [.slice b3 rs.length c3,v] μ fun r μ'=>FsV μ' (lfp rs base) r:=by
 have w_:=FsV.sl h
 obtain⟨b,c,rfl,hlc,hs⟩:=w_
 refine Spec.mk Tryz.func60 (by kernel_rfl) ?_
 refine cPl (bZ h (by omega)) fun v1 μ1 hle1 hR1=>?_
 have w_:=FsV.sl hR1
 obtain⟨b1,c1,rfl,-,-⟩:=w_
 refine lIn (fun z:List F×Option Addr×Nat×Mem=>BasI rs base z.1∧μ1.Le z.2.2.2∧FsV z.2.2.2 z.1 (.slice z.2.1 z.1.length z.2.2.1))
  (fun(out,b4,c4,μ')=>⟨[(0,.val (.slice b3 rs.length c3)),(5,.val (.slice b4 out.length c4))],[],0,μ',Mem.nil⟩) (fun z=>base.length+rs.length-z.1.length)
  (iO base,b1,c1,μ1) ⟨BasI.start rs base,Mem.Le.refl _,hR1⟩ (fun(_,_,_,_)=>⟨rfl,rfl⟩) ⟨⟨rfl,rfl,trivial⟩,trivial,rfl,rfl⟩ ?_
 rintro⟨out,b4,c4,μ'⟩ ⟨hI,hle,hout⟩
 dsimp only at hI hle hout
 have w_:=FsV.sl hout
 obtain⟨b5,c5,e,-,hso⟩:=w_
 have w_:=Value.slice.inj e
 obtain⟨rfl,_,rfl⟩:=w_
 have hol:=hI.len
 have w_:=Rep.srcAll hout
 obtain⟨vs,hvrows,hvl,hsrc⟩:=w_
 have hr':=(hr.mono hle1).mono hle
 intro r14
 refine aY _ hsrc ?_
 refine gIn ?_ ?_ fun bn cn _=>?_
 ·show(0+_)*40≤_;omega
 ·exact Nat.le_trans (m:=100000000) (show 0+vs.length≤_ by omega) (by decide)
 refine lIn (fun z:Nat×Option Nat×Nat×List Value=>z.1≤rs.length∧Rows μ' 2 (((out++lZ rs out z.1).map F.fc).map Fc.d) z.2.2.2)
  (fun(i,bo,co,ys)=>⟨[(0,.val (.slice b3 rs.length c3)),(5,.val (.slice b4 out.length c4)),(6,.row 0 bo ys.length co),(17,.val (.slice b3 rs.length c3)),(18,.val (.int .i64 rs.length)),(19,.val (.int .i64 i))],[(0,some (.row bo co 41 2 ys))],1,μ',Mem.nil⟩) (fun z=>rs.length-z.1)
  (0,bn,cn,[]++vs) ⟨Nat.zero_le _,by simpa[lZ]using hvrows⟩ (fun(_,_,_,_)=>⟨rfl,rfl⟩) ⟨⟨rfl,rfl,rfl,rfl,rfl,rfl,trivial⟩,⟨rfl,trivial⟩,rfl,rfl⟩ ?_
 rintro⟨i,bo,co,ys⟩ ⟨hi,hrows⟩
 dsimp only at hi hrows
 have hyl:=hrows.len
 simp only[List.length_map,List.length_append]at hyl
 have hhl:=qIp rs out i
 refine ifd (fun hlt=>?_) (fun hlt=>?_)
 rotate_left
 ·obtain rfl:i=rs.length:=by omega
  refine bG [0] ?_
  intro μ2 hle2 hno2 hat2
  have hrep:=Rows.sl hat2 (hrows.mono hle2) (Nat.le_trans (m:=100000000) (by omega) (by decide))
  refine cB (bZ hrep (by rw[List.length_append];omega)) fun v3 μ3 hle3 hR=>?_
  have hR:FsV μ3 (sK rs out) v3:=hR
  have w_:=FsV.sl hR
  obtain⟨b6,c6,rfl,-,-⟩:=w_
  have hgl:=hI.next.len
  refine ifd (fun he=>?_) (fun he=>?_)
  ·refine rPl ?_
   rw[←hI.done (by omega)]
   exact RepV.mono (hle2.trans hle3) hout
  ·have:=hI.more (by omega)
   exact⟨(sK rs out,b6,c6,μ3),⟨hI.next,hle.trans (hle2.trans hle3),hR⟩,by dsimp only;omega,⟨⟨rfl,rfl,trivial⟩,trivial,rfl,rfl⟩⟩
 have w_:=aSo (l:=rs) (i:=i) (by omega)
 obtain⟨r,hri⟩:=w_
 have w_:=Ru.elem hr' hri
 obtain⟨ad,p,hel,hrv,hat⟩:=w_
 have hsucc:=qGi (out:=out) hri
 refine eIn hel ?_
 intro r7
 have hmp:=aH hat.pos.max
 refine cGv (dC hI.asc (by omega) hso hat.head) ?_
 refine lIn (fun z:Nat×Bool=>z.1≤r.pos.length∧(z.2=true↔r.head∉out∧∀f∈r.pos.take z.1,f∈out))
  (fun(j,fine)=>⟨[(0,.val (.slice b3 rs.length c3)),(5,.val (.slice b4 out.length c4)),(6,.row 0 bo ys.length co),(8,.loc 1 r7 0),(9,.val (.bool fine)),(17,.val (.slice b3 rs.length c3)),(18,.val (.int .i64 rs.length)),(19,.val (.int .i64 i)),(29,.val (.slice p.2.2.1.1 r.pos.length p.2.2.1.2)),(30,.val (.int .i64 r.pos.length)),(31,.val (.int .i64 j))],
   [(0,some (.row bo co 41 2 ys)),(1,some (.cells r7 (vals (r.cs p)) 106))],2,μ',Mem.nil⟩) (fun z=>r.pos.length-z.1)
  (0,!decide (r.head∈out)) ⟨Nat.zero_le _,by simp⟩ (fun(_,_)=>⟨rfl,rfl⟩) ⟨⟨rfl,rfl,rfl,rfl,rfl,rfl,rfl,rfl,rfl,rfl,rfl,trivial⟩,⟨rfl,rfl,trivial⟩,rfl,rfl⟩ ?_
 rintro⟨j,fine⟩ ⟨hj,hfine⟩
 dsimp only at hj hfine
 refine ifd (fun hlt2=>?_) (fun hlt2=>?_)
 ·have w_:=aSo (l:=r.pos) (i:=j) (by omega)
  obtain⟨f,hf⟩:=w_
  have w_:=F.elem hat.pos hf
  obtain⟨ad2,p2,hel2,hrf,_⟩:=w_
  have hstep:=pE (P:=fun f=>f∈out) hf
  refine eIn hel2 ?_
  intro r10
  refine iIn (fun hk=>?_) (fun hk=>?_)
  ·refine cGv (dC hI.asc (by omega) hso hrf) ?_
   refine aC (by omega) (by omega) ⟨(j+1,decide (f∈out)),⟨by dsimp only;omega,?_⟩,by dsimp only;omega,⟨⟨rfl,rfl,rfl,rfl,rfl,rfl,rfl,rfl,rfl,rfl,rfl,trivial⟩,⟨rfl,rfl,trivial⟩,rfl,rfl⟩⟩
   dsimp only
   rw[hstep,←and_assoc,←hfine,decide_eq_true_eq]
   exact⟨fun h=>⟨hk,h⟩,fun h=>h.2⟩
  ·refine aC (by omega) (by omega) ⟨(j+1,false),⟨by dsimp only;omega,?_⟩,by dsimp only;omega,⟨⟨rfl,rfl,rfl,rfl,rfl,rfl,rfl,rfl,rfl,rfl,rfl,trivial⟩,⟨rfl,rfl,trivial⟩,rfl,rfl⟩⟩
   dsimp only
   rw[hstep,←and_assoc,←hfine,hk]
   simp
 obtain rfl:j=r.pos.length:=by omega
 rw[List.take_length]at hfine
 refine iIn (fun hk=>?_) (fun hk=>?_)
 ·rw[if_pos (hfine.1 hk)]at hsucc
  intro r53
  refine gIn ?_ ?_ fun b' c' _=>?_
  ·show(ys.length+1)*40≤_;omega
  ·exact Nat.le_trans (m:=100000000) (show ys.length+1≤_ by omega) (by decide)
  refine aC (by omega) (by omega) ⟨(i+1,b',c',_),⟨by dsimp only;omega,?_⟩,by dsimp only;omega,⟨⟨rfl,rfl,rfl,rfl,rfl,rfl,trivial⟩,⟨rfl,trivial⟩,rfl,rfl⟩⟩
  dsimp only
  rw[hsucc,←List.append_assoc,List.map_append (l₂:=[r.head]),List.map_append (l₂:=[r.head].map F.fc)]
  exact hrows.append (Rows.one hat.head (Fc.d_n _))
 ·rw[if_neg (fun k=>by rw[hfine.2 k]at hk;cases hk),List.append_nil]at hsucc
  refine aC (by omega) (by omega) ⟨(i+1,bo,co,ys),⟨by dsimp only;omega,?_⟩,by dsimp only;omega,⟨⟨rfl,rfl,rfl,rfl,rfl,rfl,trivial⟩,⟨rfl,trivial⟩,rfl,rfl⟩⟩
  dsimp only
  rw[hsucc];exact hrows
theorem mD{rs:List Ru}{S:List F}{b b3:Option Addr}{c c3:Nat}(hr:Sl μ 6 b3 rs.length ((rs.map Ru.rd).map RuD.d))(hn:rs.length≤3000000)(hS:Asc3 dK S)(hSn:S.length≤1000000000)(hs:Sl μ 2 b S.length ((S.map F.fc).map Fc.d)):
  Spec Tryz.prog 66 [.slice b3 rs.length c3,.slice b S.length c] μ fun r μ'=>FsV μ' (gam rs S) r:=by
 refine Spec.mk Tryz.func66 (by kernel_rfl) ?_
 refine cPl (sJ hr (by omega) hS hSn hs) fun v1 μ1 hle1 hR1=>?_
 have w_:=RsV.sl hR1
 obtain⟨b1,c1,rfl,hs1⟩:=w_
 have:=iX rs S
 refine cPl (xH hs1 (by omega) (FsV.nil none 0) (Nat.zero_le _)) fun v2 μ2 hle2 hR2=>?_
 exact rPl hR2
end
end Go.Vx
namespace Go.Vx
open Go.Proofs Classical
structure RuOk (p:Pg) (r:Ru):Prop where
 head:FactFits p r.head.fc
 hlen:r.head.args.length≤4
 plen:∀f∈r.pos,f.args.length≤4
 pcnt:r.pos.length≤60
 pok:∀f∈r.pos,∀a∈f.args,a.ok
theorem dW{p:Pg}{u:List Tm}{rs:List Ru}(h:bC p u=some rs):rs.length≤2000∧∀r∈rs,RuOk p r:=by
 have hok:=dE h
 rw[bC,if_pos hok,cI]at h
 split at h
 ·rename_i hw
  cases h
  refine⟨hw.2,fun r hr=>?_⟩
  have w_:=List.mem_flatMap.1 hr
  obtain⟨rel,hrel,hr⟩:=w_
  have w_:=List.mem_iff_getElem?.1 hrel
  obtain⟨k,hk⟩:=w_
  have hro:=hok.1.2 k rel hk
  rw[dH]at hr
  split at hr
  ·simp at hr
  ·rename_i L hL
   rw[bQ,List.mem_flatMap]at hr
   obtain⟨i,hi,hr⟩:=hr
   rw[List.mem_range]at hi
   have w_:=aSo (l:=L) (i:=i) hi
   obtain⟨c,hc⟩:=w_
   have ec:L.getD i []=c:=by rw[List.getD_eq_getElem?_getD,hc];rfl
   rw[ec,cC,List.mem_filterMap]at hr
   obtain⟨w,-,hr⟩:=hr
   rw[iK]at hr
   split at hr
   ·rename_i hokg
    cases hr
    have hG:∀g∈c,ClG g:=fun g hg=>ClG.of hok.1 hk hL (mAt hc) hg
    have w_:=hok.2.lift
    obtain⟨U,hU,hUg,hUl⟩:=w_
    have e1:u.map Tm.toT=U:=by rw[hU,iQ]
    rw[e1]
    have h1:=hok.2.pos
    have har0:=hro.ar0
    have har4:=hro.ar4
    have hlo0:=hro.lo0
    have hlen:((nM U (rel.arity+rel.locals).toNat w).take rel.arity.toNat).length=rel.arity.toNat:=by
     rw[List.length_take,tY];omega
    refine⟨⟨⟨k,rel,hro.at_,hk,?_⟩,fun t ht=>?_⟩,?_,qLd hG,Nat.le_trans qHb (Nat.le_trans ((Gl.cl_bnd _ hL).1 c (mAt hc)) hro.size),fun f hf a ha=>(hUg a ((okG_iff.1 (by rw[e1]at hokg;exact hokg)).2.1 f hf a ha)).1⟩
    ·show rel.arity=(((nM U (rel.arity+rel.locals).toNat w).take rel.arity.toNat).map T.tm).length
     rw[List.length_map,hlen];omega
    ·have w_:=List.mem_map.1 ht
     obtain⟨x,hx,rfl⟩:=w_
     have hx:=qCu U (by omega) _ _ x (List.mem_of_mem_take hx)
     exact⟨T.ok.tm (hUg x hx).1,by rw[T.toT_tm];exact(hUg x hx).2⟩
    ·show((nM U (rel.arity+rel.locals).toNat w).take rel.arity.toNat).length≤4
     rw[hlen];omega
   ·cases hr
 ·cases h
theorem FactFits.len{p:Pg}(hp:p.Ok){f:Fc}(h:FactFits p f):f.args.length≤4:=by
 obtain⟨⟨k,r,h1,h2,h3⟩,_⟩:=h
 have:=(hp.2 k r h2).ar4
 omega
def FsOk(p:Pg)(L:List F):Prop:=∀f∈L,FactFits p f.fc
theorem FsOk.len{p:Pg}(hp:p.Ok){L:List F}(h:FsOk p L):∀f∈L,f.args.length≤4:=fun f hf=>by
 have:=(h f hf).len hp
 rwa [F.fc_args,List.length_map]at this
theorem qLz{p:Pg}{rs:List Ru}{base:List F}(hr:∀r∈rs,RuOk p r)(hb:FsOk p base):FsOk p (lfp rs base):=fun f hf=>by
 cases mem_lfp.1 hf with
 |base h=>exact hb _ h
 |rule h _=>exact(hr _ h).head
theorem qBj{p:Pg}{rs:List Ru}{S:List F}(hr:∀r∈rs,RuOk p r):FsOk p (gam rs S):=qLz (fun r h=>hr r (mem_unlessR.1 h).1) (fun _ h=>nomatch h)
def optFs(P:List F→Value→Prop)(o:Option (List F))(v:Value):Prop:=match o with
 |some y=>∃tv,v= .tuple #[tv,.bool true]∧P y tv
 |none=>v= .tuple #[.slice none 0 0,.bool false]
noncomputable def fD(p:Pg)(u:List Tm)(l:List Fc):Option (List F):=(bC p u).bind fun rs=>if ∀f∈l,FactFits p f then some (gam rs (l.map Fc.f))else none
theorem qFm{p:Pg}{u:List Tm}{l:List Fc}{y:List F}(h:fD p u l=some y):p.Ok∧FsOk p y∧y.length≤2000∧∀f∈l,FactFits p f:=by
 rw[fD]at h
 cases hg:bC p u with
 |none=>rw[hg]at h;cases h
 |some rs=>
  rw[hg,Option.bind_some]at h
  have w_:=dW hg
  obtain⟨h1,h2⟩:=w_
  split at h
  ·rename_i hf
   cases h
   exact⟨(dE hg).1,qBj h2,Nat.le_trans (qB _ _) h1,hf⟩
  ·cases h
section
variable {μ:Mem}
theorem fcs_sl{l:List Fc}{b:Option Addr}{c:Nat}(h:RepV μ (.sl 2 (l.map Fc.d)) (.slice b l.length c)):Sl μ 2 b l.length (l.map Fc.d):=by
 have w_:=Rep.sl h
 obtain⟨b',c',e,hs⟩:=w_
 have w_:=Value.slice.inj e
 obtain⟨rfl,_,_⟩:=w_
 rw[List.length_map]at hs
 exact hs
theorem wO{f:F}{v:Value}(hf:RepV μ f.fc.d v)(hl:f.args.length≤1000000):Spec Tryz.prog 102 [v] μ fun v μ'=>Fresh μ μ' f.fc.d v:=by
 have w_:=F.inv hf
 obtain⟨p,rfl,hfs⟩:=w_
 refine Spec.mk Tryz.func102 (by kernel_rfl) ?_
 intro r1 r2
 refine cPl (vH hfs hl) fun v1 μ1 hle1 hR=>?_
 have w_:=Rep.sl hR.rep
 obtain⟨b,c,rfl,-⟩:=w_
 refine rPl ?_
 have:=(FreshS.str (n:=f.rel) (FreshS.cons hR hle1 (Mem.Le.refl _) FreshS.nil)).st
 exact this
theorem cT{L:List F}{v:Value}(h:FsV μ L v)(hn:L.length≤10000000)(hl:∀f∈L,f.args.length≤1000000):
  Spec Tryz.prog 59 [v] μ fun v μ'=>Fresh μ μ' (.sl 2 ((L.map F.fc).map Fc.d)) v:=by
 have w_:=FsV.sl h
 obtain⟨base,cap,rfl,-,hsl⟩:=w_
 refine Spec.mk Tryz.func59 (by kernel_rfl) ?_
 intro r6
 refine lIn (fun p:Nat×Option Nat×Nat×List Value×Mem=>p.1≤L.length∧μ.Le p.2.2.2.2∧Grown 2 μ p.2.2.2.2 (((L.take p.1).map F.fc).map Fc.d) p.2.2.2.1)
  (fun(i,b,c,ys,μ')=>⟨[(3,.row 0 b ys.length c),(7,.val (.slice base L.length cap)),(8,.val (.int .i64 L.length)),(9,.val (.int .i64 i))],[(0,some (.row b c 41 2 ys))],1,μ',Mem.nil⟩) (fun p=>L.length-p.1)
  (0,some r6,0,[],μ) ⟨Nat.zero_le _,Mem.Le.refl _,Grown.nil _ _ _⟩ (fun(_,_,_,_,_)=>⟨rfl,rfl⟩) ⟨⟨rfl,rfl,rfl,rfl,trivial⟩,⟨rfl,trivial⟩,rfl,rfl⟩ ?_
 rintro⟨i,b,c,ys,μ'⟩ ⟨hi,hle,hgr⟩
 dsimp only at hi hle hgr
 have hyl:=hgr.len
 simp only[List.length_map,List.length_take]at hyl
 refine ifd (fun hlt=>?_) (fun hlt=>?_)
 ·have w_:=aSo (l:=L) (i:=i) (by omega)
  obtain⟨f,hf⟩:=w_
  have w_:=F.elem (hsl.mono hle) hf
  obtain⟨ad,p,hel,hrf,_⟩:=w_
  refine eIn hel ?_
  intro r5
  refine cPl (wO hrf (hl f (mAt hf))) fun v1 μ1 hle1 hR=>?_
  have w_:=F.inv hR.rep
  obtain⟨q,rfl,_⟩:=w_
  intro r16
  refine gIn ?_ ?_ fun b' c' _=>?_
  ·show(ys.length+1)*40≤_;omega
  ·exact Nat.le_trans (m:=100000000) (show ys.length+1≤_ by omega) (by decide)
  refine aC (by omega) (by omega) ⟨(i+1,b',c',_,μ1),⟨by dsimp only;omega,hle.trans hle1,?_⟩,by dsimp only;omega,⟨⟨rfl,rfl,rfl,rfl,trivial⟩,⟨rfl,trivial⟩,rfl,rfl⟩⟩
  dsimp only
  rw[List.take_add_one,hf,Option.toList_some]
  simp only[List.map_append,List.map_cons,List.map_nil]
  exact hgr.snoc hle hR hle1 (Fc.d_n _)
 ·obtain rfl:i=L.length:=by omega
  rw[List.take_length]at hgr
  refine rFz [0] fun μ2 hle2 hno hrow=> .inl ?_
  exact hgr.fresh hle hle2 hno hrow (Nat.le_trans (m:=100000000) (by omega) (by decide))
theorem fV{p:Pg}{u:List Tm}{v:Value}{ub:Option Addr}{uc:Nat}(hp:RepV μ p.d v)(hu:Sl μ 4 ub u.length (u.map Tm.d)):
  Spec Tryz.prog 65 [v,.slice ub u.length uc] μ fun v μ'=>qHk (fun y tv=>RsV μ' y tv) (bC p u) v:=by
 have hp0:=hp
 have w_:=Pg.inv hp
 obtain⟨q,rfl,hrl⟩:=w_
 refine Spec.mk Tryz.func65 (by kernel_rfl) ?_
 intro r2
 refine cPl (cQ hp0) fun v1 μ1 hle1 hR=>?_
 obtain rfl:=hR
 refine aM (fun h=>rPl (by rw[bC,if_neg fun k=>h k.1];rfl)) (fun hok=>?_)
 refine cGv (dT (hu.mono hle1)) ?_
 refine aM (fun h=>rPl (by rw[bC,if_neg fun k=>h k.2];rfl)) (fun huok=>?_)
 have w_:=huok.lift
 obtain⟨U,rfl,hUg,hUl⟩:=w_
 have hgo:bC p (U.map T.tm)=cI p U:=by rw[bC,if_pos ⟨hok,huok⟩,iQ]
 rw[hgo]
 have h1:=huok.pos
 have h8:=huok.max
 rw[List.length_map]at h1 h8 hu ⊢
 refine cPl (fS (hp0.mono hle1) hok (hu.mono hle1) h1 h8) fun v2 μ2 hle2 hR=>?_
 cases hL:cI p U with
 |none=>
  rw[hL]at hR
  obtain rfl:=hR
  exact rPl rfl
 |some y=>
  rw[hL]at hR
  obtain⟨tv,rfl,hR⟩:=hR
  exact rPl ⟨tv,rfl,hR⟩
theorem lI{p:Pg}{u:List Tm}{l:List Fc}{v:Value}{ub fb:Option Addr}{uc fc:Nat}(hp:RepV μ p.d v)(hu:Sl μ 4 ub u.length (u.map Tm.d))(hb:RepV μ (.sl 2 (l.map Fc.d)) (.slice fb l.length fc))(hn:l.length≤2000000):
  Spec Tryz.prog 19 [v,.slice ub u.length uc,.slice fb l.length fc] μ fun v μ'=>optFs (fun y tv=>Fresh μ μ' (.sl 2 ((y.map F.fc).map Fc.d)) tv) (fD p u l) v:=by
 have hp0:=hp
 have w_:=Pg.inv hp
 obtain⟨q,rfl,hrl⟩:=w_
 have hb0:=hb
 have hbs:=fcs_sl hb
 refine Spec.mk Tryz.func19 (by kernel_rfl) ?_
 intro r3
 refine cPl (fV hp0 hu) fun v1 μ1 hle1 hR=>?_
 cases hL:bC p u with
 |none=>
  rw[hL]at hR
  obtain rfl:=hR
  exact iIn (fun _=>rPl (by rw[fD,hL];rfl)) (fun h=>nomatch h)
 |some rs=>
 rw[hL]at hR
 obtain⟨tv,rfl,hR⟩:=hR
 have w_:=RsV.sl hR
 obtain⟨b1,c1,rfl,hrs⟩:=w_
 have w_:=dW hL
 obtain⟨hrl2,hro⟩:=w_
 have hpo:=(dE hL).1
 refine iIn (fun h=>nomatch h) (fun _=>?_)
 refine lIn (fun i:Nat=>i≤l.length∧∀f∈l.take i,FactFits p f)
  (fun i=>⟨[(2,.val (.slice fb l.length fc)),(3,.loc 0 r3 0),(8,.val (.slice b1 rs.length c1)),(20,.val (.slice fb l.length fc)),(21,.val (.int .i64 l.length)),(22,.val (.int .i64 i))],[(0,some (.cells r3 [.val (.slice q.1 p.rels.length q.2)] 25))],1,μ1,Mem.nil⟩) (fun i=>l.length-i)
  0 ⟨Nat.zero_le _,by simp⟩ (fun _=>⟨rfl,rfl⟩) ⟨⟨rfl,rfl,rfl,rfl,rfl,rfl,trivial⟩,⟨rfl,trivial⟩,rfl,rfl⟩ ?_
 rintro i ⟨hi,hall⟩
 refine ifd (fun hlt=>?_) (fun hlt=>?_)
 ·have w_:=aSo (l:=l) (i:=i) (by omega)
  obtain⟨f,hf⟩:=w_
  have w_:=Fc.elemA (hbs.mono hle1) hf
  obtain⟨ad,q2,hel,hrf,_⟩:=w_
  refine eIn hel ?_
  intro r11
  refine cGv (nX (hp0.mono hle1) hrf) ?_
  refine aM (fun h=>rPl (by rw[fD,hL,Option.bind_some,if_neg fun k=>h (k f (mAt hf))];rfl)) (fun h=>?_)
  exact aC (by omega) (by omega) ⟨i+1,⟨by omega,qBr hall hf h⟩,by omega,⟨⟨rfl,rfl,rfl,rfl,rfl,rfl,trivial⟩,⟨rfl,trivial⟩,rfl,rfl⟩⟩
 obtain rfl:i=l.length:=by omega
 rw[List.take_length]at hall
 have hlift:=oG hall
 have hb1:FsV μ1 (l.map Fc.f) (.slice fb l.length fc):=by
  show RepV μ1 (.sl 2 (((l.map Fc.f).map F.fc).map Fc.d)) _
  rw[hlift];exact RepV.mono hle1 hb0
 refine cPl (bZ hb1 (by rw[List.length_map];omega)) fun v2 μ2 hle2 hR2=>?_
 have w_:=FsV.sl hR2
 obtain⟨b2,c2,rfl,-,hs2⟩:=w_
 have hsl:=pM (l.map Fc.f)
 rw[List.length_map]at hsl
 refine cPl (mD (hrs.mono hle2) (by omega) (eN _) (by omega) hs2) fun v3 μ3 hle3 hR3=>?_
 have e:gam rs (iO (l.map Fc.f))=gam rs (l.map Fc.f):=by rw[gam,gam,xB fun f=>mem_ascF]
 rw[e]at hR3
 have hgl:=qB rs (l.map Fc.f)
 have hgo:=(qBj (S:=l.map Fc.f) hro).len hpo
 refine cPl (cT hR3 (by omega) fun f hf=>Nat.le_trans (hgo f hf) (by decide)) fun v4 μ4 hle4 hR4=>?_
 refine rPl ?_
 rw[fD,hL,Option.bind_some,if_pos hall]
 exact⟨_,rfl,hR4.mono ((hle1.trans hle2).trans hle3) (Mem.Le.refl _)⟩
end
end Go.Vx
namespace Go.Vx
open Go.Proofs Classical
def qHz(p:Pg)(u:List Tm)(l:List Fc):Prop:=∃y,fD p u l=some y∧∀x,x∈y↔x∈l.map Fc.f
noncomputable def wfM(p:Pg)(u:List Tm):Option (List F×List F):=(bC p u).map fun rs=>(wfT rs,wfO rs)
def optFs2(P:List F→List F→Value→Value→Prop)(o:Option (List F×List F))(v:Value):Prop:=match o with
 |some y=>∃tv tw,v= .tuple #[tv,tw,.bool true]∧P y.1 y.2 tv tw
 |none=>v= .tuple #[.slice none 0 0,.slice none 0 0,.bool false]
theorem qBx{p:Pg}{u:List Tm}{l:List Fc}{y:List F}(h:fD p u l=some y):Asc3 dK y:=by
 rw[fD]at h
 cases hg:bC p u with
 |none=>rw[hg]at h;cases h
 |some rs=>
  rw[hg,Option.bind_some]at h
  split at h
  ·cases h;exact pY _ _
  ·cases h
noncomputable def lN(rs:List Ru)(t:List F)(i:Nat):List F:=((gam rs t).take i).filter fun f=>decide (f∉t)
theorem qFg{rs:List Ru}{t:List F}{i:Nat}{f:F}(h:(gam rs t)[i]?=some f):lN rs t (i+1)=lN rs t i++(if f∉t then [f]else []):=by
 rw[lN,List.take_add_one,h,Option.toList_some,List.filter_append,←lN]
 congr 1
 by_cases k:f∈t<;>simp[k]
theorem qIv(rs:List Ru)(t:List F)(i:Nat):(lN rs t i).length≤i:=Nat.le_trans (List.length_filter_le _ _) (List.length_take_le _ _)
theorem wf_more{rs:List Ru}{n:Nat}(h:oP rs (bD rs n)≠bD rs n):(bD rs n).length<(oP rs (bD rs n)).length:=
 qN cmpF_ord (fK rs n) (pY _ _) (mF rs n) fun e=>h (mA cmpF_ord (fK rs n) (pY _ _) (mF rs n) e).symm
theorem wfT_ok{p:Pg}{rs:List Ru}(hr:∀r∈rs,RuOk p r)(n:Nat):FsOk p (bD rs n):=by
 cases n with
 |zero=>exact fun _ h=>nomatch h
 |succ n=>exact qBj hr
section
variable {μ:Mem}
theorem oS{p:Pg}{u:List Tm}{l:List Fc}{v:Value}{ub fb:Option Addr}{uc fc:Nat}(hp:RepV μ p.d v)(hu:Sl μ 4 ub u.length (u.map Tm.d))(hb:RepV μ (.sl 2 (l.map Fc.d)) (.slice fb l.length fc))(hn:l.length≤2000000):
  Spec Tryz.prog 21 [v,.slice ub u.length uc,.slice fb l.length fc] μ fun v _=>v= .bool (decide (qHz p u l)):=by
 have hp0:=hp
 have w_:=Pg.inv hp
 obtain⟨q,rfl,hrl⟩:=w_
 refine Spec.mk Tryz.func21 (by kernel_rfl) ?_
 intro r3
 refine cPl (lI hp0 hu hb hn) fun v1 μ1 hle1 hR=>?_
 cases hL:fD p u l with
 |none=>
  rw[hL]at hR
  obtain rfl:=hR
  refine iIn (fun h=>nomatch h) (fun _=>rPl (isF fun k=>?_))
  obtain⟨y,hy,_⟩:=k
  rw[hL]at hy;cases hy
 |some y=>
  rw[hL]at hR
  obtain⟨tv,rfl,hR⟩:=hR
  have hR:FsV μ1 y tv:=hR.rep
  have w_:=FsV.sl hR
  obtain⟨b1,c1,rfl,-,hs1⟩:=w_
  have hk:=qFm hL
  have hlift:=oG hk.2.2.2
  have hb1:FsV μ1 (l.map Fc.f) (.slice fb l.length fc):=by
   show RepV μ1 (.sl 2 (((l.map Fc.f).map F.fc).map Fc.d)) _
   rw[hlift];exact RepV.mono hle1 hb
  refine iIn (fun _=>?_) (fun h=>nomatch h)
  refine cPl (bZ hb1 (by rw[List.length_map];omega)) fun v2 μ2 hle2 hR2=>?_
  have w_:=FsV.sl hR2
  obtain⟨b2,c2,rfl,-,hs2⟩:=w_
  refine cGv (iE (hs1.mono hle2) hs2) ?_
  refine rPl (isI ?_)
  constructor
  ·intro e
   exact⟨y,hL,fun x=>by rw[e,mem_ascF]⟩
  ·rintro⟨y',hy,h⟩
   rw[hL]at hy;cases hy
   exact(qBx hL).uniq cmpF_ord (eN _) fun x=>by rw[h,mem_ascF]
set_option maxHeartbeats 1000000 in
set_option maxHeartbeats 1000000 in
theorem lL{p:Pg}{u:List Tm}{v:Value}{ub:Option Addr}{uc:Nat}(hp:RepV μ p.d v)(hu:Sl μ 4 ub u.length (u.map Tm.d)):
  Spec Tryz.prog 18 [v,.slice ub u.length uc] μ fun v μ'=>optFs2 (fun y z tv tw=>∃μ1 μ2,μ.Le μ1∧μ1.Le μ2∧μ2.Le μ'∧Fresh μ μ1 (.sl 2 ((y.map F.fc).map Fc.d)) tv∧Fresh μ2 μ' (.sl 2 ((z.map F.fc).map Fc.d)) tw) (wfM p u) v:=by
 have hp0:=hp
 have w_:=Pg.inv hp
 obtain⟨q,rfl,hrl⟩:=w_
 refine Spec.mk Tryz.func18 (by kernel_rfl) ?_
 intro r3
 refine cPl (fV hp0 hu) fun v1 μ1 hle1 hR=>?_
 cases hL:bC p u with
 |none=>
  rw[hL]at hR
  obtain rfl:=hR
  exact iIn (fun _=>rPl (by rw[wfM,hL];rfl)) (fun h=>nomatch h)
 |some rs=>
 rw[hL]at hR
 obtain⟨tv,rfl,hR⟩:=hR
 have w_:=RsV.sl hR
 obtain⟨b1,c1,rfl,hrs⟩:=w_
 have w_:=dW hL
 obtain⟨hrl2,hro⟩:=w_
 have hpo:=(dE hL).1
 refine iIn (fun h=>nomatch h) (fun _=>?_)
 intro r23
 refine lFz (fun z:Nat×Option Addr×Nat×Mem=>μ1.Le z.2.2.2∧FsV z.2.2.2 (bD rs z.1) (.slice z.2.1 (bD rs z.1).length z.2.2.1))
  (fun(n,b4,c4,μ')=>⟨[(7,.val (.slice b1 rs.length c1)),(9,.val (.slice b4 (bD rs n).length c4))],[],1,μ',Mem.nil⟩) (fun z=>rs.length-(bD rs z.1).length) [1]
  (fun(_,_,_,_)=>⟨rfl,rfl⟩) (fun μ2 hle2 hno2 hat2=>⟨(0,some ⟨r23,0,none⟩,0,μ2),⟨hle2,FsV.nil _ _⟩,⟨rfl,rfl,trivial⟩,trivial,rfl,rfl⟩) ?_
 rintro⟨n,b4,c4,μ'⟩ ⟨hle,hout⟩
 dsimp only at hle hout
 have w_:=FsV.sl hout
 obtain⟨b5,c5,e,-,hso⟩:=w_
 have w_:=Value.slice.inj e
 obtain⟨rfl,_,rfl⟩:=w_
 have hwl:=qCm rs n
 have hrs':=hrs.mono hle
 have hga:=pY rs (bD rs n)
 have hgl:=qB rs (bD rs n)
 have hnl:(oP rs (bD rs n)).length≤rs.length:=qB _ _
 have hokT:=(wfT_ok hro n).len hpo
 have hokG:=(qBj (S:=bD rs n) hro).len hpo
 refine cPl (mD hrs' (by omega) (fK rs n) (by omega) hso) fun v3 μ3 hle3 hR3=>?_
 have w_:=FsV.sl hR3
 obtain⟨b6,c6,rfl,-,hs3⟩:=w_
 refine cPl (mD (hrs'.mono hle3) (by omega) hga (by omega) hs3) fun v4 μ4 hle4 hR4=>?_
 have hR4:FsV μ4 (oP rs (bD rs n)) v4:=hR4
 have w_:=FsV.sl hR4
 obtain⟨b7,c7,rfl,-,hs4⟩:=w_
 have hsg:=hs3.mono hle4
 refine cGv (iE hs4 ((hso.mono hle3).mono hle4)) ?_
 refine ifd (fun hfix=>?_) (fun he=>?_)
 rotate_left
 ·have hmore:=wf_more (rs:=rs) (n:=n) he
  exact⟨[],(n+1,b7,c7,μ4),⟨hle.trans (hle3.trans hle4),hR4⟩,by show rs.length-(oP rs (bD rs n)).length<rs.length-(bD rs n).length;omega,⟨⟨rfl,rfl,trivial⟩,trivial,rfl,rfl⟩⟩
 have hT:=qMo hfix
 have e1:wfM p u=some (bD rs n,lN rs (bD rs n) (gam rs (bD rs n)).length):=by
  rw[wfM,hL,hT,lN,List.take_length];rfl
 rw[e1]
 intro r35
 refine lIn (fun z:Nat×Option Nat×Nat×List Value=>z.1≤(gam rs (bD rs n)).length∧Rows μ4 2 (((lN rs (bD rs n) z.1).map F.fc).map Fc.d) z.2.2.2)
  (fun(i,bo,co,ys)=>⟨[(9,.val (.slice b4 (bD rs n).length c4)),(12,.row 1 bo ys.length co),(34,.val (.slice b6 (gam rs (bD rs n)).length c6)),(35,.val (.int .i64 (gam rs (bD rs n)).length)),(36,.val (.int .i64 i))],[(1,some (.row bo co 41 2 ys))],2,μ4,Mem.nil⟩) (fun z=>(gam rs (bD rs n)).length-z.1)
  (0,some r35,0,[]) ⟨Nat.zero_le _,by simpa[lN]using .nil⟩ (fun(_,_,_,_)=>⟨rfl,rfl⟩) ⟨⟨rfl,rfl,rfl,rfl,rfl,trivial⟩,⟨rfl,trivial⟩,rfl,rfl⟩ ?_
 rintro⟨i,bo,co,ys⟩ ⟨hi,hrows⟩
 dsimp only at hi hrows
 have hyl:=hrows.len
 simp only[List.length_map]at hyl
 have hol:=qIv rs (bD rs n) i
 refine ifd (fun hlt=>?_) (fun hlt=>?_)
 ·have w_:=aSo (l:=gam rs (bD rs n)) (i:=i) (by omega)
  obtain⟨f,hf⟩:=w_
  have w_:=F.elem hsg hf
  obtain⟨ad,q2,hel,hrf,_⟩:=w_
  have hsucc:=qFg (t:=bD rs n) hf
  refine eIn hel ?_
  intro r14
  refine cGv (dC (fK rs n) (by omega) ((hso.mono hle3).mono hle4) hrf) ?_
  refine aM (fun hin=>?_) (fun hin=>?_)
  ·rw[if_pos hin]at hsucc
   intro r48
   refine gIn ?_ ?_ fun b' c' _=>?_
   ·show(ys.length+1)*40≤_;omega
   ·exact Nat.le_trans (m:=100000000) (show ys.length+1≤_ by omega) (by decide)
   refine aC (by omega) (by omega) ⟨(i+1,b',c',_),⟨by dsimp only;omega,?_⟩,by dsimp only;omega,⟨⟨rfl,rfl,rfl,rfl,rfl,trivial⟩,⟨rfl,trivial⟩,rfl,rfl⟩⟩
   dsimp only
   rw[hsucc]
   simp only[List.map_append,List.map_cons,List.map_nil]
   exact hrows.append (Rows.one hrf (Fc.d_n _))
  ·rw[if_neg (fun k=>k hin),List.append_nil]at hsucc
   refine aC (by omega) (by omega) ⟨(i+1,bo,co,ys),⟨by dsimp only;omega,?_⟩,by dsimp only;omega,⟨⟨rfl,rfl,rfl,rfl,rfl,trivial⟩,⟨rfl,trivial⟩,rfl,rfl⟩⟩
   dsimp only
   rw[hsucc];exact hrows
 obtain rfl:i=(gam rs (bD rs n)).length:=by omega
 have hokO:∀f∈lN rs (bD rs n) (gam rs (bD rs n)).length,f.args.length≤1000000:=fun f hf=>Nat.le_trans (hokG f (List.mem_of_mem_take (List.mem_filter.1 hf).1)) (by decide)
 refine cPl (cT ((RepV.mono hle3 hout).mono hle4) (by omega) fun f hf=>Nat.le_trans (hokT f hf) (by decide)) fun v5 μ5 hle5 hR5=>?_
 refine bG [1] ?_
 intro μ6 hle6 hno6 hat6
 have hrep:FsV μ6 (lN rs (bD rs n) (gam rs (bD rs n)).length) _:=Rows.sl hat6 ((hrows.mono hle5).mono hle6) (Nat.le_trans (m:=100000000) (by omega) (by decide))
 refine cB (cT hrep (by omega) hokO) fun v7 μ7 hle7 hR7=>?_
 have hm:μ.Le μ4:=((hle1.trans hle).trans hle3).trans hle4
 exact rPl ⟨_,_,rfl,μ5,μ6,hm.trans hle5,hle6,hle7,hR5.mono hm (Mem.Le.refl _),hR7⟩
end
end Go.Vx
namespace Go.Vx
open Go.Proofs Classical
theorem qHj{p:Pg}{u:List Tm}{rs:List Ru}(hpos:p.Pos)(h:bC p u=some rs):∀r∈rs,r.neg=[]:=by
 have hok:=dE h
 rw[bC,if_pos hok,cI]at h
 split at h
 ·cases h
  intro r hr
  have w_:=List.mem_flatMap.1 hr
  obtain⟨rel,hrel,hr⟩:=w_
  rw[dH]at hr
  split at hr
  ·simp at hr
  ·rename_i L hL
   rw[bQ,List.mem_flatMap]at hr
   obtain⟨i,hi,hr⟩:=hr
   rw[List.mem_range]at hi
   have w_:=aSo (l:=L) (i:=i) hi
   obtain⟨c,hc⟩:=w_
   have ec:L.getD i []=c:=by rw[List.getD_eq_getElem?_getD,hc];rfl
   rw[ec,cC,List.mem_filterMap]at hr
   obtain⟨w,-,hr⟩:=hr
   rw[iK]at hr
   split at hr
   ·cases hr
    show tW _ c=[]
    rw[tW,List.map_eq_nil_iff,List.filter_eq_nil_iff]
    intro g hg
    rw[decide_eq_true_eq]
    exact hpos.2 rel hrel g (Gl.cl_all _ hL c (mAt hc) g hg).1
   ·cases hr
 ·cases h
theorem qNg{rs:List Ru}(h:∀r∈rs,r.neg=[])(S neg:List F):cP rs S neg=cP rs S []:=by
 rw[cP,cP]
 refine congrArg (fun l=>iO (l.map Ru.head)) (List.filter_congr fun r hr=>decide_eq_decide.2 ?_)
 rw[sI,sI,h r hr]
 exact⟨fun k=>⟨k.1,fun _ hx=>nomatch hx⟩,fun k=>⟨k.1,fun _ hx=>nomatch hx⟩⟩
def fsD(L:List F):D:= .sl 2 ((L.map F.fc).map Fc.d)
noncomputable def stD(rs:List Ru)(n:Nat):List D:=(List.range (n+1)).map fun i=>fsD (stF rs i)
theorem qLh(rs:List Ru)(n:Nat):stD rs (n+1)=stD rs n++[fsD (stF rs (n+1))]:=by
 rw[stD,List.range_succ,List.map_append];rfl
theorem qAi(rs:List Ru)(n:Nat):(stD rs n).length=n+1:=by rw[stD,List.length_map,List.length_range]
theorem qDe(rs:List Ru)(n:Nat):(stD rs n)[n]?=some (fsD (stF rs n)):=by
 rw[stD,List.getElem?_map,List.getElem?_range (by omega)];rfl
theorem Rows.val{μ:Mem}{es:Nat}{ds:List D}{ys:List Value}(h:Rows μ es ds ys){i:Nat}{d:D}(hd:ds[i]?=some d):∃v,ys[i]?=some v∧RepV μ d v:=by
 have hl:=(List.getElem?_eq_some_iff.1 hd).1
 have w_:=aSo (l:=ys) (i:=i) (by have:=h.len;omega)
 obtain⟨v,hv⟩:=w_
 exact⟨v,hv,h.atI hd hv⟩
noncomputable def iD(p:Pg)(u:List Tm):Option (List F):=(dM p u).map fun rs=>lfp rs []
noncomputable def optSt(P:List F→Value→Prop)(o:Option (List F))(v:Value):Prop:=match o with
 |none=>v= .tuple #[.slice none 0 0,.int .i64 0,.bool false]
 |some y=>∃tv,∃n:Nat,v= .tuple #[tv,.int .i64 n,.bool true]∧P y tv
theorem qKt{p:Pg}{u:List Tm}{y:List F}(h:iD p u=some y):p.Ok∧FsOk p y∧y.length≤2000∧Asc3 dK y:=by
 cases hP:dM p u with
 |none=>rw[iD,hP]at h;cases h
 |some rs=>
  rw[iD,hP]at h
  cases h
  rw[dM]at hP
  split at hP
  ·rename_i hpos
   have w_:=dW hP
   obtain⟨h1,h2⟩:=w_
   refine⟨hpos.1,qLz h2 (fun _ h=>nomatch h),?_,mZ _ _⟩
   have:=qId rs []
   simp only[List.length_nil]at this
   show(lfp rs []).length≤2000
   omega
  ·cases hP
section
variable {μ:Mem}
set_option maxHeartbeats 1000000 in
theorem qDi{rs:List Ru}{b3:Option Addr}{c3:Nat}(hr:Sl μ 6 b3 rs.length ((rs.map Ru.rd).map RuD.d))(hn:rs.length≤2000)(hneg:∀r∈rs,r.neg=[]):
  Spec Tryz.prog 61 [.slice b3 rs.length c3] μ fun v μ'=>∃n,LastSt rs n∧RepV μ' (.sl 1 (stD rs n)) v:=by
 refine Spec.mk Tryz.func61 (by kernel_rfl) ?_
 intro r6 μ1 hle1 hno1 hat1 r7
 refine lIn (fun z:Nat×Option Nat×Nat×List Value×Mem=>(∀m,m<z.1→cP rs (stF rs m) []≠stF rs m)∧μ.Le z.2.2.2.2∧Rows z.2.2.2.2 1 (stD rs z.1) z.2.2.2.1)
  (fun(_,bo,co,ys,μ')=>⟨[(0,.val (.slice b3 rs.length c3)),(3,.row 1 bo ys.length co)],[(1,some (.row bo co 29 1 ys))],2,μ',Mem.nil⟩) (fun z=>rs.length+1-z.1)
  (0,some r7,1,_,μ1) ⟨(fun m h=>by omega),hle1,Rows.one (d:=fsD []) (Rows.sl (μ:=μ1) (ds:=[]) hat1 .nil (Nat.zero_le _)) rfl⟩ (fun(_,_,_,_,_)=>⟨rfl,rfl⟩) ⟨⟨rfl,rfl,trivial⟩,⟨rfl,trivial⟩,rfl,rfl⟩ ?_
 rintro⟨n,bo,co,ys,μ'⟩ ⟨hne,hle,hrows⟩
 dsimp only at hne hle hrows
 have hyl:=hrows.len
 rw[qAi]at hyl
 have hsl:=zO hne
 have hrl:=(iZ rs n).len
 have w_:=hrows.val (qDe rs n)
 obtain⟨w,hw,hwr⟩:=w_
 have hwr:FsV μ' (stF rs n) w:=hwr
 have w_:=FsV.sl hwr
 obtain⟨b5,c5,rfl,-,hso⟩:=w_
 refine aC (by omega) (by omega) ?_
 refine bA n (by omega) (by omega) (bB _ hw ?_)
 refine cPl (jG (hr.mono hle) (by omega) (iZ rs n).asc (by omega) hso) fun v4 μ4 hle4 hR4=>?_
 rw[qNg hneg]at hR4
 have w_:=FsV.sl hR4
 obtain⟨b6,c6,rfl,-,hs6⟩:=w_
 refine aC (by omega) (by omega) ?_
 refine bA n (by omega) (by omega) (bB _ hw ?_)
 refine cGv (iE hs6 (hso.mono hle4)) ?_
 refine ifd (fun he=>?_) (fun he=>?_)
 ·refine rFz [1] fun μ5 hle5 hno5 hat5=> .inl ⟨n,⟨he,hne⟩,?_⟩
  exact Rows.sl hat5 (hrows.mono (hle4.trans hle5)) (Nat.le_trans (m:=100000) (by omega) (by decide))
 ·intro r25
  refine gIn ?_ ?_ fun b' c' _=>?_
  ·show(ys.length+1)*24≤_;omega
  ·exact Nat.le_trans (m:=100000) (show ys.length+1≤_ by omega) (by decide)
  have hne':∀m,m<n+1→cP rs (stF rs m) []≠stF rs m:=fun m hm=>by
   rcases Nat.lt_or_ge m n with k|k
   ·exact hne m k
   ·obtain rfl:m=n:=by omega
    exact he
  have hs2:=zO hne'
  have hr2:=(iZ rs (n+1)).len
  refine⟨(n+1,b',c',_,μ4),⟨hne',hle.trans hle4,?_⟩,by dsimp only;omega,⟨⟨rfl,rfl,trivial⟩,⟨rfl,trivial⟩,rfl,rfl⟩⟩
  dsimp only
  rw[qLh]
  exact(hrows.mono hle4).append (Rows.one (d:=fsD (stF rs (n+1))) hR4 rfl)
theorem qNd{rs:List Ru}{n:Nat}{b:Option Addr}(h:Sl μ 1 b (n+1) (stD rs n)):∃ad,∃q:Option Addr×Nat,ElemAt μ b (n+1) 1 n ad [.slice q.1 (stF rs n).length q.2]∧FsV μ (stF rs n) (.slice q.1 (stF rs n).length q.2):=by
 have w_:=h.get n (fsD (stF rs n)) (qDe rs n)
 obtain⟨ad,cs,h1,h2⟩:=w_
 have h3:Rep μ (fsD (stF rs n)) cs:=h2
 have hl:=Rep.len _ _ h3
 match cs,hl with
 |[v],_=>
  have h4:FsV μ (stF rs n) v:=h3
  have w_:=FsV.sl h4
  obtain⟨b5,c5,rfl,-,_⟩:=w_
  exact⟨ad,(b5,c5),h1,h4⟩
theorem stD_inv{rs:List Ru}{n:Nat}{v:Value}(h:RepV μ (.sl 1 (stD rs n)) v):∃b c,v= .slice b (n+1) c∧Sl μ 1 b (n+1) (stD rs n):=by
 have w_:=Rep.sl h
 obtain⟨b,c,rfl,hs⟩:=w_
 have hs2:=hs.1
 rw[qAi]at hs hs2
 exact⟨b,c,by rw[qAi],hs⟩
theorem lO{p:Pg}{u:List Tm}{v:Value}{ub:Option Addr}{uc:Nat}(hp:RepV μ p.d v)(hu:Sl μ 4 ub u.length (u.map Tm.d)):
  Spec Tryz.prog 15 [v,.slice ub u.length uc] μ fun v μ'=>optSt (fun y tv=>Fresh μ μ' (fsD y) tv) (iD p u) v:=by
 have hp0:=hp
 have w_:=Pg.inv hp
 obtain⟨q,rfl,hrl⟩:=w_
 refine Spec.mk Tryz.func15 (by kernel_rfl) ?_
 intro r2
 refine cPl (oJ hp0 hu) fun v1 μ1 hle1 hR=>?_
 cases hP:dM p u with
 |none=>
  rw[hP]at hR
  obtain rfl:=hR
  refine iIn (fun _=>rPl (by rw[iD,hP];rfl)) (fun h=>nomatch h)
 |some rs=>
 rw[hP]at hR
 obtain⟨tv,rfl,hR⟩:=hR
 have hR:RsV μ1 rs tv:=hR
 have w_:=RsV.sl hR
 obtain⟨b1,c1,rfl,hrs⟩:=w_
 have hL:iD p u=some (lfp rs []):=by rw[iD,hP];rfl
 have hk:=qKt hL
 have hpg:p.Pos∧bC p u=some rs:=by
  rw[dM]at hP
  split at hP
  ·rename_i k;exact⟨k,hP⟩
  ·cases hP
 refine iIn (fun h=>nomatch h) (fun _=>?_)
 refine cPl (qDi hrs (dW hpg.2).1 (qHj hpg.1 hpg.2)) fun v2 μ2 hle2 hR2=>?_
 obtain⟨n,hlast,hR2⟩:=hR2
 have w_:=stD_inv hR2
 obtain⟨b2,c2,rfl,hs2⟩:=w_
 have hsl:=zO hlast.2
 rw[←hlast.eq]at hL hk
 refine aC (by omega) (by omega) ?_
 have w_:=qNd hs2
 obtain⟨ad,q2,hel,hfs⟩:=w_
 rw[show(((n+1:Nat):Int)-1)=(n:Int) by omega]
 refine eIn hel ?_
 refine cPl (cT hfs (by omega) fun f hf=>Nat.le_trans (hk.2.1.len hk.1 f hf) (by decide)) fun v4 μ4 hle4 hR4=>?_
 refine aC (by omega) (by omega) ?_
 refine rPl ?_
 rw[hL]
 exact⟨_,n,by rw[show(((n+1:Nat):Int)-1)=(n:Int) by omega],hR4.mono (hle1.trans hle2) (Mem.Le.refl _)⟩
end
end Go.Vx
namespace Go.Vx
open Go.Proofs Classical
structure Strat (n:Nat) (A B:Nat→Nat→Prop) (S:Nat→Nat):Prop where
 pos:∀i j,i<n→j<n→A i j→S j≤S i
 neg:∀i j,i<n→j<n→B i j→S j+1≤S i
section
variable {n:Nat} {A B:Nat→Nat→Prop}
theorem uG{p:Nat→Prop}(h:∃k,p k):∃k,p k∧∀j,p j→k≤j:=Classical.byContradiction fun hn=>by
 obtain⟨k,hk⟩:=h
 have all:∀n j,j<n→¬p j:=fun n=>by
  induction n with
  |zero=>exact fun j hj=>absurd hj (Nat.not_lt_zero j)
  |succ n ih=>
   intro j hj hp
   exact hn ⟨j,hp,fun i hi=>Nat.le_of_not_lt fun h=>ih i (by omega) hi⟩
 exact all (k+1) k (Nat.lt_succ_self k) hk
noncomputable def kU(n:Nat)(A B:Nat→Nat→Prop)(i:Nat):Nat:=if h:∃k,∃T,Strat n A B T∧T i=k then(uG h).choose else 0
theorem tB{T:Nat→Nat}(h:Strat n A B T)(i:Nat):kU n A B i≤T i:=by
 have k:∃k,∃T,Strat n A B T∧T i=k:=⟨_,T,h,rfl⟩
 rw[kU,dif_pos k]
 exact(uG k).choose_spec.2 _ ⟨T,h,rfl⟩
theorem qIe{T:Nat→Nat}(h:Strat n A B T)(i:Nat):∃T',Strat n A B T'∧T' i=kU n A B i:=by
 have k:∃k,∃T,Strat n A B T∧T i=k:=⟨_,T,h,rfl⟩
 rw[kU,dif_pos k]
 exact(uG k).choose_spec.1
theorem kZ{T:Nat→Nat}(h:Strat n A B T):Strat n A B (kU n A B) where
 pos i j hi hj e:=by
  have w_:=qIe h i
  obtain⟨T',h1,h2⟩:=w_
  have:=h1.pos i j hi hj e
  have:=tB h1 j
  omega
 neg i j hi hj e:=by
  have w_:=qIe h i
  obtain⟨T',h1,h2⟩:=w_
  have:=h1.neg i j hi hj e
  have:=tB h1 j
  omega
end
end Go.Vx
namespace Go.Vx
open Go.Proofs Classical
def mR:List Gl→List ByteArray
 |[]=>[]
 |x::_=>[x.name]
mutual
noncomputable def Gl.calls(b:Bool):Gl→List ByteArray
 | .mk k s _ gs=>if k=10 then(if b=true then mR gs else [])else(if k=9∧b=false then [s]else [])++Gl.callss b gs
noncomputable def Gl.callss(b:Bool):List Gl→List ByteArray
 |[]=>[]
 |g::r=>g.calls b++Gl.callss b r
end
def dG(b:Bool)(p:Pg)(i j:Nat):Prop:=∃r,p.rels[i]?=some r∧∃s∈r.body.calls b,bM p s=(j:Int)
noncomputable def cK(p:Pg):Option (List Nat):=if p.Ok∧∃T,Strat p.rels.length (dG false p) (dG true p) T then some ((List.range p.rels.length).map (kU p.rels.length (dG false p) (dG true p)))else none
structure StI (p:Pg) (S:List Nat) (m:Nat):Prop where
 len:S.length=p.rels.length
 max:∀k∈S,k≤m
 low:∀T,Strat p.rels.length (dG false p) (dG true p) T→∀(i k:Nat),S[i]?=some k→k≤T i
section
variable {p:Pg} {S:List Nat} {m:Nat}
theorem StI.start(p:Pg)(m:Nat):StI p (List.replicate p.rels.length 0) m:=⟨by simp,fun k hk=>by rw[(List.mem_replicate.1 hk).2];omega,fun T _ i k h=>by
 have w_:=List.getElem?_eq_some_iff.1 h
 obtain⟨h1,h2⟩:=w_
 rw[List.getElem_replicate]at h2
 omega⟩
theorem StI.done(h:StI p S m)(hok:p.Ok)(hc:∀b i j x y,dG b p i j→S[i]?=some x→S[j]?=some y→y+b.toNat≤x):cK p=some S:=by
 have hT:Strat p.rels.length (dG false p) (dG true p) fun i=>S.getD i 0:=by
  have at_:∀i,i<p.rels.length→S[i]?=some (S.getD i 0):=fun i hi=>by
   have w_:=aSo (l:=S) (i:=i) (by rw[h.len];exact hi)
   obtain⟨x,hx⟩:=w_
   rw[List.getD_eq_getElem?_getD,hx];rfl
  refine⟨fun i j hi hj e=>?_,fun i j hi hj e=>?_⟩
  ·have:=hc false i j _ _ e (at_ i hi) (at_ j hj);simpa using this
  ·have:=hc true i j _ _ e (at_ i hi) (at_ j hj);simpa using this
 rw[cK,if_pos ⟨hok,_,hT⟩]
 congr 1
 refine List.ext_getElem? fun i=>?_
 rcases Nat.lt_or_ge i p.rels.length with hi|hi
 ·have w_:=aSo (l:=S) (i:=i) (by rw[h.len];exact hi)
  obtain⟨x,hx⟩:=w_
  rw[List.getElem?_map,List.getElem?_range hi,hx,Option.map_some]
  have h1:=h.low _ (kZ hT) i x hx
  have h2:=tB hT i
  rw[List.getD_eq_getElem?_getD,hx,Option.getD_some]at h2
  congr 1
  omega
 ·rw[List.getElem?_eq_none (by simpa using hi),List.getElem?_eq_none (by rw[h.len];exact hi)]
end
structure PassI (p:Pg) (S0 S:List Nat) (ch:Bool) (C:List Nat→Prop):Prop where
 same:ch=false→S=S0∧C S0
 more:S0.sum≤S.sum
 grew:ch=true→S0.sum<S.sum
def StDone(p:Pg)(S:List Nat)(i:Nat):Prop:=∀a,a<i→∀b j x y,dG b p a j→S[a]?=some x→S[j]?=some y→y+b.toNat≤x
def StName(p:Pg)(S:List Nat)(i:Nat)(b:Bool)(l:List ByteArray):Prop:=∀s∈l,∀(j x y:Nat),bM p s=(j:Int)→S[i]?=some x→S[j]?=some y→y+b.toNat≤x
theorem StDone.next{p:Pg}{S:List Nat}{i:Nat}{r:Rl}(h:StDone p S i)(hr:p.rels[i]?=some r)(h1:StName p S i false (r.body.calls false))(h2:StName p S i true (r.body.calls true)):StDone p S (i+1):=fun a ha b j x y hc hx hy=>by
 rcases Nat.lt_or_ge a i with k|k
 ·exact h a k b j x y hc hx hy
 ·obtain rfl:a=i:=by omega
  obtain⟨r2,hr2,s,hs,e⟩:=hc
  rw[hr]at hr2;cases hr2
  cases b with
  |false=>exact h1 s hs j x y e hx hy
  |true=>exact h2 s hs j x y e hx hy
theorem StName.snoc{p:Pg}{S:List Nat}{i k:Nat}{b:Bool}{l:List ByteArray}{s:ByteArray}{j x y:Nat}(h:StName p S i b (l.take k))(hs:l[k]?=some s)(e:bM p s=(j:Int))(hx:S[i]?=some x)(hy:S[j]?=some y)(hle:y+b.toNat≤x):StName p S i b (l.take (k+1)):=by
 rw[List.take_add_one,hs,Option.toList_some]
 intro s2 hs2 j2 x2 y2 e2 hx2 hy2
 rcases List.mem_append.1 hs2 with h1|h1
 ·exact h s2 h1 j2 x2 y2 e2 hx2 hy2
 ·rw[List.mem_singleton]at h1
  subst h1
  obtain rfl:j2=j:=by omega
  rw[hx]at hx2;cases hx2
  rw[hy]at hy2;cases hy2
  exact hle
end Go.Vx
namespace Go.Vx
open Go.Proofs Classical
abbrev NmV(μ:Mem)(l:List ByteArray)(v:Value):Prop:=RepV μ (.sl 1 (l.map D.s)) v
theorem Nm.rows{μ:Mem}:∀l:List ByteArray,Rows μ 1 (l.map D.s) (l.map Value.string)
 |[]=> .nil
 |s::l=> .cons (show RepV μ (D.s s) (.string s)from rfl) rfl (Nm.rows l)
theorem Nm.elem{μ:Mem}{l:List ByteArray}{b:Option Addr}{n i:Nat}{s:ByteArray}(h:Sl μ 1 b n (l.map D.s))(hs:l[i]?=some s):∃ad,ElemAt μ b n 1 i ad [.string s]:=by
 have w_:=h.get i (D.s s) (by simp[hs])
 obtain⟨ad,cs,h1,h2⟩:=w_
 have h2:cs=[.string s]:=h2
 subst h2
 exact⟨ad,h1⟩
theorem NmV.sl{μ:Mem}{l:List ByteArray}{v:Value}(h:NmV μ l v):∃b c,v= .slice b l.length c∧Sl μ 1 b l.length (l.map D.s):=by
 have w_:=Rep.sl h
 obtain⟨b,c,rfl,hs⟩:=w_
 rw[List.length_map]at hs
 exact⟨b,c,by rw[List.length_map],hs⟩
set_option maxHeartbeats 2000000 in
section
variable {μ:Mem}
theorem Nm.src{l:List ByteArray}{b:Option Addr}{c:Nat}(h:NmV μ l (.slice b l.length c)):qD μ b l.length 1 (l.map Value.string):=by
 have h0:RepV μ (.sl 1 (l.map D.s)) (.slice b l.length c):=h
 have w_:=Rep.srcAll h0
 obtain⟨vs,hr,hl,hsrc⟩:=w_
 have e:∀{l:List ByteArray} {vs:List Value},Rows μ 1 (l.map D.s) vs→vs=l.map Value.string:=by
  intro l
  induction l with
  |nil=>intro vs h;cases h;rfl
  |cons s l ih=>
   intro vs h
   cases h with
   |cons h1 h2 h3=>
    rename_i v _
    have h4:[v]=[Value.string s]:=h1
    cases h4
    rw[ih h3];rfl
 rw[←e hr];exact hsrc
end
end Go.Vx
namespace Go.Vx
open Go.Proofs Classical
inductive Cl.Reach (c:Cl) (x:Int):Int→Prop
 |here:Cl.Reach c x x
 |step {r:Int} {t:T} {u:Int}:r≠x→c.shp r=some t→t.occ u→Cl.Reach c x (c.rep u)→Cl.Reach c x r
section
variable {c:Cl} {rank:Int→Nat} {val:Int→T}
end
structure Cl.In (N:List Int) (P:T→Prop) (c:Cl):Prop where
 rep:∀v∈N,c.rep v∈N
 out:∀v,v∉N→c.rep v=v
 shp:∀x t,c.shp x=some t→x∈N∧P t
section
variable {N:List Int} {P:T→Prop} {c c1 c2:Cl} {a b:T} {o:Bool}
section
variable {x y:Int}
end
end
end Go.Vx
namespace Go.Vx
open Go.Proofs Classical
theorem T.occ_vars{n:Int}:∀{x:T},x.occ n↔n∈x.vars
 | .var m=>by
  show m=n↔n∈[m]
  rw[List.mem_singleton];exact eq_comm
 | .pair a b=>by
  show a.occ n∨b.occ n↔n∈a.vars++b.vars
  rw[List.mem_append,T.occ_vars (x:=a),T.occ_vars (x:=b)]
 | .nil=>⟨fun h=>h.elim,fun h=>by simp[T.vars]at h⟩
 | .sym _=>⟨fun h=>h.elim,fun h=>by simp[T.vars]at h⟩
 | .num _=>⟨fun h=>h.elim,fun h=>by simp[T.vars]at h⟩
def T.lvs:T→Nat
 | .pair a b=>a.lvs+b.lvs
 |_=>1
theorem T.size_lvs:∀t:T,t.size+1=2*t.lvs
 | .pair a b=>by
  have h1:=a.size_lvs
  have h2:=b.size_lvs
  simp only[T.size,T.lvs];omega
 | .nil=>rfl
 | .var _=>rfl
 | .sym _=>rfl
 | .num _=>rfl
theorem rW{t:T}{n:Int}(h:n∈t.vars):t.occ n:=T.occ_vars.2 h
structure Drawn (k:Nat) (vars:Int) (t:T):Prop where
 good:t.good
 low:∀n,t.occ n→0≤n∧n<vars
 lvs:t.lvs≤k
theorem Drawn.pair{k l:Nat}{vars:Int}{a b:T}(h:Drawn k vars a)(h2:Drawn l vars b):Drawn (k+l) vars (.pair a b):=
 ⟨⟨h.good,h2.good⟩,fun n hn=>hn.elim (h.low n) (h2.low n),by have:=h.lvs;have:=h2.lvs;simp only[T.lvs];omega⟩
theorem Drawn.mono{k l:Nat}{vars:Int}{a:T}(h:Drawn k vars a)(hl:k≤l):Drawn l vars a:=⟨h.good,h.low,Nat.le_trans h.lvs hl⟩
theorem Drawn.size{k:Nat}{vars:Int}{a:T}(h:Drawn k vars a):a.size≤2*k:=by
 have h1:=a.size_lvs
 have h2:=h.lvs
 omega
theorem Drawn.ok{k:Nat}{vars:Int}{a:T}(h:Drawn k vars a)(hk:k≤2500):a.ok:=⟨h.good,by have:=h.size;omega⟩
def lvB(n:Nat):Nat:=if 2<n then 2*lvB (n / 2)else 1
termination_by n
decreasing_by omega
theorem lvB_4:lvB 4=2:=by rw[lvB,if_pos (by decide),lvB,if_neg (by decide)]
theorem qHr:lvB 3=2:=by rw[lvB,if_pos (by decide),lvB,if_neg (by decide)]
theorem mU:∀n,1≤lvB n:=fun n=>by
 induction n using Nat.strongRecOn with
 |ind n ih=>
  rw[lvB]
  split
  ·have:=ih (n / 2) (by omega);omega
  ·exact Nat.le_refl _
end Go.Vx
namespace Go.Vx
open Go.Proofs Classical
open Go.ChangeShapes Go.WideShapes Go.ChangeAt Go.RowKit
structure Bytes (μ:Mem) (base:Option Addr) (n:Nat):Prop where
 max:n≤maxLen
 get:∀i:Nat,i<n→∃(a:Addr) (b:Int),ElemAt μ base n 1 (i:Int) a [.int .u8 b]
theorem Bytes.mono{μ μ':Mem}{base:Option Addr}{n:Nat}(h:Bytes μ base n)(hle:μ.Le μ'):Bytes μ' base n:=
 ⟨h.max,fun i hi=>by
  have w_:=h.get i hi
  obtain⟨a,b,e⟩:=w_
  exact⟨a,b,e.mono hle⟩⟩
theorem qGd{P:Program}{H:Type}{enc:TypeId×Value→H}{w:World}{sp:Nat→Bool}{hd:Bool}{b:Nat}{t e:TypeId}{v:Value}{x:DataW H}{p:List MemPlace}(ht:P.underlying t=some (.slice e))(he:P.underlying e=some (.int .u8))(hc:P.cellsOf e=1)
  (hv:Value.okWide P w .any b t v) (h:DataW.Trod enc P w 0 sp hd t v x p):∃base n cap,v= .slice base n cap∧Bytes (qKv w) base n:=by
 obtain⟨fuel,h⟩:=h
 have hcs:∀cs,v≠.agg cs:=fun cs k=>qAj ht cs (k ▸ hv)
 rcases DataW.trod_slice ht h with⟨h1,_⟩|⟨a,len,cap,elems,rest,m,hm,h1,_,_,_,h2,h3,h4,_⟩
 ·cases v with
  |agg cs=>exact absurd rfl (hcs cs)
  |_=>
   have h1:=List.cons.inj h1
   rw[h1.1]
   exact⟨none,0,0,rfl,⟨Nat.zero_le _,fun i hi=>absurd hi (Nat.not_lt_zero _)⟩⟩
 ·have hsl:v= .slice (some a) len cap:=by
   cases v with
   |agg cs=>exact absurd rfl (hcs cs)
   |_=>
    have h1:=List.cons.inj h1
    exact h1.1
  subst hsl
  refine⟨some a,len,cap,rfl,⟨by omega,fun i hi=>?_⟩⟩
  have:=h4 i hi
  rw[List.getElem?_eq_getElem (by omega)]at this
  obtain⟨cs',k1,k2⟩:=Option.bind_eq_some_iff.1 this
  obtain⟨n,rfl,_,_⟩:=DataW.trod_int he k2
  rw[hc]at k1
  obtain⟨g1,g2⟩:=cells?_at k1
  exact⟨a.add (i*1),n,⟨by omega,by omega,⟨a,rfl,by simp⟩,rfl,fun j u hj=>g2 j u hj⟩⟩
theorem qNj(x:Int):∃k:Nat,bits .and .i64 x 255=(k:Int)∧k<256:=by
 have e:(BitVec.ofInt 64 x &&& BitVec.ofInt 64 255).toNat≤255:=by
  rw[BitVec.toNat_and]
  have:(BitVec.ofInt 64 255).toNat=255:=by decide
  rw[this]
  exact Nat.and_le_right
 refine⟨(BitVec.ofInt 64 x &&& BitVec.ofInt 64 255).toNat,?_,by omega⟩
 show IntKind.i64.wrap ((BitVec.ofInt 64 x &&& BitVec.ofInt 64 255).toNat:Nat)=_
 exact aA (by omega) (by omega)
def qEp(base:Option Addr)(n cap:Nat)(i h:Int):Obj:= .cells #[.slice base n cap,.int .i64 i,.int .i64 h] 168 (0,0)
def CurO(μ:Mem)(o:Obj):Prop:=∃base n cap,∃(i:Nat) (hh:Int),o=qEp base n cap i hh∧Bytes μ base n∧i≤n
theorem CurO.mono{μ μ':Mem}{o:Obj}(h:CurO μ o)(hle:μ.Le μ'):CurO μ' o:=by
 obtain⟨base,n,cap,i,hh,e,k1,k2⟩:=h
 exact⟨base,n,cap,i,hh,e,k1.mono hle,k2⟩
structure Cur (μ h:Mem) (r:Nat) (h':Mem):Prop where
 ex:∃o,CurO μ o∧h'=h.set r o
theorem Mem.set_self{h:Mem}{r:Nat}{o:Obj}(e:h r=some o):h.set r o=h:=funext fun b=>by
 by_cases k:b=r
 ·subst k;rw[Mem.set_at,e]
 ·rw[Mem.set_ne k]
theorem Cur.at{μ h h':Mem}{r:Nat}(k:Cur μ h r h'):Cur μ h' r h':=by
 obtain⟨o,h1,h2⟩:=k.ex
 subst h2
 exact⟨o,h1,(Mem.set_self (Mem.set_at _ _ _)).symm⟩
theorem Cur.trans{μ μ' h h' h'':Mem}{r:Nat}(k:Cur μ h r h')(k2:Cur μ' h' r h''):Cur μ' h r h'':=by
 obtain⟨o,h1,rfl⟩:=k.ex
 obtain⟨o',h3,rfl⟩:=k2.ex
 exact⟨o',h3,Mem.set_set _ _ _ _⟩
theorem Cur.mono{μ μ' h h':Mem}{r:Nat}(k:Cur μ h r h')(hle:μ.Le μ'):Cur μ' h r h':=by
 obtain⟨o,h1,h2⟩:=k.ex
 exact⟨o,h1.mono hle,h2⟩
section
variable {μ:Mem}
theorem qM{h:Mem}{r:Nat}(hc:Cur μ h r h):
  SpecH Tryz.prog 75 [.pointer (some ⟨r,0,none⟩)] μ h fun v μ' h'=>μ'=μ∧Cur μ h r h'∧∃k:Nat,v= .int .i64 k∧k<256:=by
 obtain⟨o,⟨base,n,cap,i,hh,rfl,hb,hi⟩,e⟩:=hc.ex
 have hr:h r=some (qEp base n cap i hh):=by rw[e,Mem.set_at]
 clear e hc
 refine SpecH.mk [] Tryz.func75 (by kernel_rfl) ?_
 refine oIn [.int .i64 hh] rfl (mH hr rfl) ?_
 refine aS fun x1 _=>?_
 refine aS fun x2 _=>?_
 refine sIn [.slice base n cap,.int .i64 i,.int .i64 hh] 168 hr rfl (by show 2+1≤3;decide) ?_
 have h1:(h.set r (qEp base n cap i x2)) r=some (qEp base n cap i x2):=Mem.set_at _ _ _
 refine oIn [.int .i64 x2] rfl (mH h1 rfl) ?_
 refine aD (by decide) ?_
 refine aS fun x3 _=>?_
 refine oIn [.int .i64 x2] rfl (mH h1 rfl) ?_
 refine aD (by decide) ?_
 refine aS fun x4 _=>?_
 refine aS fun x5 _=>?_
 have w_:=qNj x5
 obtain⟨k,ek,hk⟩:=w_
 refine nEq ek ?_
 refine oIn [.int .i64 (i:Int)] rfl (mH h1 rfl) ?_
 refine oIn [.slice base n cap] rfl (mH h1 rfl) ?_
 refine ifd (fun hlt=>?_) (fun hlt=>?_)
 ·have w_:=hb.get i (by omega)
  obtain⟨a,b,hel⟩:=w_
  refine oIn [.slice base n cap] rfl (mH h1 rfl) ?_
  refine oIn [.int .i64 (i:Int)] rfl (mH h1 rfl) ?_
  refine eIn hel ?_
  refine aS fun x6 _=>?_
  refine aS fun x7 _=>?_
  have w_:=qNj x7
  obtain⟨k2,ek2,hk2⟩:=w_
  refine nEq ek2 ?_
  refine oIn [.int .i64 (i:Int)] rfl (mH h1 rfl) ?_
  have:=aH hb.max
  refine aC (by omega) (by omega) ?_
  refine sIn [.slice base n cap,.int .i64 i,.int .i64 x2] 168 h1 rfl (by show 1+1≤3;decide) ?_
  refine rPl ⟨rfl,⟨qEp base n cap ((i+1:Nat):Int) x2,⟨base,n,cap,i+1,x2,rfl,hb,by omega⟩,?_⟩,k2,rfl,hk2⟩
  show(h.set r (qEp base n cap i x2)).set r _=_
  rw[Mem.set_set]
  rfl
 ·exact rPl ⟨rfl,⟨qEp base n cap i x2,⟨base,n,cap,i,x2,rfl,hb,hi⟩,rfl⟩,k,rfl,hk⟩
theorem qCn{h:Mem}{base:Option Addr}{n cap:Nat}(hb:Bytes μ base n):
  SpecH Tryz.prog 121 [.slice base n cap] μ h fun v μ' h'=>μ'=μ∧∃r,v= .pointer (some ⟨r,0,none⟩)∧h r=none∧Cur μ h r h':=by
 have hmax:=aH hb.max
 refine SpecH.mk [31] Tryz.func121 (by kernel_rfl) ?_
 refine aS fun x0 _=>?_
 refine lIn (fun p:Nat×Int=>p.1≤n∧p.1≤4000) (fun(i,x)=>⟨[(0,.val (.slice base n cap)),(3,.val (.int .i64 x)),(4,.val (.int .i64 i))],[],0,μ,h⟩) (fun p=>n-p.1)
  (0,x0) ⟨Nat.zero_le _,Nat.zero_le _⟩ (fun(_,_)=>⟨rfl,rfl⟩) ⟨⟨rfl,rfl,rfl,trivial⟩,trivial,rfl,rfl⟩ ?_
 rintro⟨i,x⟩ ⟨hi,hi2⟩
 dsimp only at hi hi2
 refine ifd (fun hlt=>?_) (fun hlt=>?_)
 ·refine ifd (fun hlt2=>?_) (fun hlt2=>?_)
  ·have w_:=hb.get i (by omega)
   obtain⟨a,b,hel⟩:=w_
   refine aS fun x1 _=>?_
   refine eIn hel ?_
   refine aS fun x2 _=>?_
   refine aS fun x3 _=>?_
   refine aS fun x4 _=>?_
   refine aS fun x5 _=>?_
   refine aC (by omega) (by omega) ⟨(i+1,x5),⟨by dsimp only;omega,by dsimp only;omega⟩,by dsimp only;omega,⟨⟨rfl,rfl,rfl,trivial⟩,trivial,rfl,rfl⟩⟩
  ·intro r hm ho
   exact rPl ⟨rfl,r,rfl,ho,⟨_,⟨base,n,cap,0,x,rfl,hb,Nat.zero_le _⟩,rfl⟩⟩
 ·intro r hm ho
  exact rPl ⟨rfl,r,rfl,ho,⟨_,⟨base,n,cap,0,x,rfl,hb,Nat.zero_le _⟩,rfl⟩⟩
theorem aJ{h:Mem}{r:Nat}(hc:Cur μ h r h)(n:Int):
  SpecH Tryz.prog 87 [.pointer (some ⟨r,0,none⟩),.int .i64 n] μ h fun v μ' h'=>μ'=μ∧Cur μ h r h'∧∃k:Nat,v= .int .i64 k∧k<256∧(0<n→(k:Int)<n)∧(n≤0→k=0):=by
 refine SpecH.mk [] Tryz.func87 (by kernel_rfl) ?_
 refine ifd (fun hn=>?_) (fun hn=>?_)
 ·exact rPl ⟨rfl,hc,0,rfl,by decide,fun h=>absurd hn (by omega),fun _=>rfl⟩
 ·refine cOw (qM hc) fun v μ1 h1 hle1 hap1 hR=>?_
  obtain⟨e,hc1,k,rfl,hk⟩:=hR
  obtain rfl:=e.symm
  refine aD (by omega) ?_
  have e1:(k:Int).tmod n=((k % n.toNat:Nat):Int):=by
   have hn2:n=((n.toNat:Nat):Int):=by omega
   conv=>lhs;rw[hn2]
   rw[Int.ofNat_tmod]
  have hlt:=Nat.mod_lt k (show 0<n.toNat by omega)
  have hle:=Nat.mod_le k n.toNat
  refine nEq e1 ?_
  exact rPl ⟨rfl,hc1,_,rfl,by omega,fun _=>by omega,fun h=>absurd h (by omega)⟩
theorem fM{h:Mem}{r:Nat}(hc:Cur μ h r h)(n:Int):
  SpecH Tryz.prog 52 [.pointer (some ⟨r,0,none⟩),.int .i64 n] μ h fun v μ' h'=>μ'=μ∧Cur μ h r h'∧∃b:Bool,v= .bool b:=by
 refine SpecH.mk [] Tryz.func52 (by kernel_rfl) ?_
 refine cOw (aJ hc n) fun v μ1 h1 hle1 hap1 hR=>?_
 obtain⟨e,hc1,k,rfl,hk⟩:=hR
 obtain rfl:=e.symm
 exact rPl ⟨rfl,hc1,_,rfl⟩
theorem sA{h:Mem}{base:Option Addr}{n cap:Nat}(hb:Bytes μ base n)(m:Int)(hm:m≤1000000):
  SpecH Tryz.prog 48 [.slice base n cap,.int .i64 m] μ h fun v μ' h'=>μ'=μ∧∃r,v= .pointer (some ⟨r,0,none⟩)∧h r=none∧Cur μ h r h':=by
 refine SpecH.mk [] Tryz.func48 (by kernel_rfl) ?_
 refine cOw (qCn hb) fun v μ1 h1 hle1 hap1 hR=>?_
 obtain⟨e,r,rfl,ho,hc1⟩:=hR
 obtain rfl:=e.symm
 refine lIn (fun p:Int×Mem=>0≤p.1∧Cur μ h r p.2) (fun(i,h')=>⟨[(1,.val (.int .i64 m)),(5,.val (.pointer (some ⟨r,0,none⟩))),(6,.val (.int .i64 i))],[],0,μ,h'⟩) (fun p=>(m-p.1).toNat)
  (0,h1) ⟨Int.le_refl 0,hc1⟩ (fun(_,_)=>⟨rfl,rfl⟩) ⟨⟨rfl,rfl,rfl,trivial⟩,trivial,rfl,rfl⟩ ?_
 clear hc1 hap1
 rintro⟨i,h2⟩ ⟨hi,hc2⟩
 dsimp only at hi hc2
 refine ifd (fun hlt=>?_) (fun hlt=>?_)
 ·refine cOw (qM hc2.at) fun v μ2 h3 hle2 hap2 hR=>?_
  obtain⟨e,hc3,k,rfl,hk⟩:=hR
  obtain rfl:=e.symm
  refine aC (by omega) (by omega) ⟨(i+1,h3),⟨by dsimp only;omega,hc2.trans hc3⟩,by dsimp only;omega,⟨⟨rfl,rfl,rfl,trivial⟩,trivial,rfl,rfl⟩⟩
 ·exact rPl ⟨rfl,r,rfl,ho,hc2⟩
end
end Go.Vx
namespace Go.Vx
open Go.Proofs Classical
theorem mB{b:UInt8}(h:97≤b.toNat∧b.toNat≤122):mC ⟨#[b]⟩:=by
 refine⟨by show 1≤1;decide,by show 1≤12;decide,fun i c hc=>?_⟩
 have hi:=(List.getElem?_eq_some_iff.1 hc).1
 have hi:i<1:=hi
 obtain rfl:i=0:=by omega
 cases hc
 exact .inl h
theorem Drawn.atom{t:T}(hg:t.good)(hl:t.lvs=1)(ho:∀n,¬t.occ n)(vars:Int):Drawn 1 vars t:=⟨hg,fun n hn=>absurd hn (ho n),by omega⟩
theorem Drawn.wide{k:Nat}{v w:Int}{t:T}(h:Drawn k v t)(hw:v≤w):Drawn k w t:=⟨h.good,fun n hn=>by have:=h.low n hn;omega,h.lvs⟩
section
variable {μ:Mem}
theorem qCg(n:Int):Spec Tryz.prog 232 [.int .i64 n] μ fun v μ'=>RepV μ' (T.num n).tm.d v:=by
 refine Spec.mk Tryz.func232 (by kernel_rfl) ?_
 intro r1
 refine rPl ?_
 rw[T.tm,Tm.d_mk]
 exact⟨_,rfl,RepS.int (RepS.int (RepS.str (RepS.last (Rep.nilSl 4))))⟩
theorem gE(s:ByteArray):Spec Tryz.prog 231 [.string s] μ fun v μ'=>RepV μ' (T.sym s).tm.d v:=by
 refine Spec.mk Tryz.func231 (by kernel_rfl) ?_
 intro r1
 refine rPl ?_
 rw[T.tm,Tm.d_mk]
 exact⟨_,rfl,RepS.int (RepS.int (RepS.str (RepS.last (Rep.nilSl 4))))⟩
def qIh(h:Mem)(r k:Nat)(vars:Int)(v:Value)(μ' h':Mem):Prop:=Cur μ' h r h'∧∃t:T,RepV μ' t.tm.d v∧Drawn k vars t
theorem gT{h:Mem}{r:Nat}(hc:Cur μ h r h):SpecH Tryz.prog 191 [.pointer (some ⟨r,0,none⟩)] μ h fun v μ' h'=>qIh h r 1 0 v μ' h':=by
 refine SpecH.mk [] Tryz.func191 (by kernel_rfl) ?_
 intro r1
 refine cOw (aJ hc 7) fun v μ1 h1 hle1 hap1 hR=>?_
 obtain⟨e,hc1,k,rfl,hk,hk7,_⟩:=hR
 obtain rfl:=e.symm
 have hk7:=hk7 (by decide)
 refine ifd (fun h2=>?_) (fun h2=>?_)
 ·refine cPl (qCg k) fun v μ2 hle2 hR=>?_
  have w_:=Tm.invV hR
  obtain⟨p,rfl⟩:=w_
  exact rPl ⟨hc1.mono hle2,.num k,hR,Drawn.atom (t:= .num k) (by show -1000000000≤(k:Int)∧(k:Int)≤1000000000;omega) rfl (fun _ h=>h) 0⟩
 ·refine ifd (fun h5=>?_) (fun h5=>?_)
  ·intro r2
   refine aC (by omega) (by omega) ?_
   have w_:k=2∨k=3∨k=4:=by omega
   rcases w_ with rfl|rfl|rfl
   ·refine bA 0 rfl (by decide) ?_
    refine bB (.string ⟨#[97]⟩) rfl ?_
    refine cPl (gE ⟨#[97]⟩) fun v μ2 hle2 hR=>?_
    have w_:=Tm.invV hR
    obtain⟨p,rfl⟩:=w_
    exact rPl ⟨hc1.mono hle2,.sym ⟨#[97]⟩,hR,Drawn.atom (t:= .sym ⟨#[97]⟩) (mB (by decide)) rfl (fun _ h=>h) 0⟩
   ·refine bA 1 rfl (by decide) ?_
    refine bB (.string ⟨#[98]⟩) rfl ?_
    refine cPl (gE ⟨#[98]⟩) fun v μ2 hle2 hR=>?_
    have w_:=Tm.invV hR
    obtain⟨p,rfl⟩:=w_
    exact rPl ⟨hc1.mono hle2,.sym ⟨#[98]⟩,hR,Drawn.atom (t:= .sym ⟨#[98]⟩) (mB (by decide)) rfl (fun _ h=>h) 0⟩
   ·refine bA 2 rfl (by decide) ?_
    refine bB (.string ⟨#[99]⟩) rfl ?_
    refine cPl (gE ⟨#[99]⟩) fun v μ2 hle2 hR=>?_
    have w_:=Tm.invV hR
    obtain⟨p,rfl⟩:=w_
    exact rPl ⟨hc1.mono hle2,.sym ⟨#[99]⟩,hR,Drawn.atom (t:= .sym ⟨#[99]⟩) (mB (by decide)) rfl (fun _ h=>h) 0⟩
  ·refine rPl ⟨hc1,.nil,?_,Drawn.atom (t:= .nil) trivial rfl (fun _ h=>h) 0⟩
   rw[T.tm,Tm.d_mk]
   exact⟨_,rfl,RepS.int (RepS.int (RepS.str (RepS.last (Rep.nilSl 4))))⟩
theorem eF(vars:Nat)(hv:vars≤1000):∀(size:Nat) {μ h:Mem} {r:Nat},size≤1000→Cur μ h r h→SpecH Tryz.prog 128 [.pointer (some ⟨r,0,none⟩),.int .i64 size,.int .i64 vars] μ h fun v μ' h'=>qIh h r (lvB size) vars v μ' h':=fun size=>by
 induction size using Nat.strongRecOn with
 |ind size ih=>
  intro μ h r hs hc
  refine SpecH.mk [] Tryz.func128 (by kernel_rfl) ?_
  intro r1
  refine cOw (aJ hc 8) fun v μ1 h1 hle1 hap1 hR=>?_
  obtain⟨e,hc1,k,rfl,hk,hk8,_⟩:=hR
  obtain rfl:=e.symm
  have hk8:=hk8 (by decide)
  refine ifd (fun h2=>?_) (fun h2=>?_)
  ·refine ifd (fun h3=>?_) (fun h3=>?_)
   ·have hq:IntKind.i64.wrap ((size:Int).tdiv 2)=((size / 2:Nat):Int):=by
     rw[Int.tdiv_eq_ediv_of_nonneg (by omega),aA (by omega) (by omega)];omega
    refine aD (by decide) (nEq hq ?_)
    refine cOw (ih (size / 2) (by omega) (by omega) hc1.at) fun v μ2 h4 hle2 hap2 hR=>?_
    obtain⟨hc2,a,ha,hda⟩:=hR
    have w_:=Tm.invV ha
    obtain⟨p,rfl⟩:=w_
    intro r2
    refine aD (by decide) (nEq hq ?_)
    refine cOw (ih (size / 2) (by omega) (by omega) hc2.at) fun v μ3 h5 hle3 hap3 hR=>?_
    obtain⟨hc3,b,hb,hdb⟩:=hR
    refine cPl (pI (ha.mono hle3) hb) fun v μ4 hle4 hR=>?_
    have w_:=Tm.invV hR
    obtain⟨p,rfl⟩:=w_
    refine rPl ⟨(hc1.trans (hc2.trans hc3)).mono hle4,.pair a b,hR,?_⟩
    have h2:2<size:=by omega
    rw[lvB,if_pos h2,Nat.two_mul]
    exact hda.pair hdb
   ·refine ifd (fun h6=>?_) (fun h6=>?_)
    ·refine aD (by decide) ?_
     refine aS fun x _=>?_
     refine ifd (fun h7=>?_) (fun h7=>?_)
     ·refine cOw (aJ hc1.at vars) fun v μ2 h4 hle2 hap2 hR=>?_
      obtain⟨e,hc2,j,rfl,hj,hj2,_⟩:=hR
      obtain rfl:=e.symm
      have hj2:=hj2 (by omega)
      refine cGv (sN _) ?_
      refine rPl ⟨hc1.trans hc2,.var j,vC _,⟨by show 0≤(j:Int)∧(j:Int)≤100000;omega,fun n hn=>?_,mU _⟩⟩
      have hn:(j:Int)=n:=hn
      omega
     ·refine cOw (gT hc1.at) fun v μ2 h4 hle2 hap2 hR=>?_
      obtain⟨hc2,a,ha,hda⟩:=hR
      have w_:=Tm.invV ha
      obtain⟨p,rfl⟩:=w_
      exact rPl ⟨hc1.trans hc2,a,ha,(hda.wide (by omega)).mono (mU _)⟩
    ·refine cOw (gT hc1.at) fun v μ2 h4 hle2 hap2 hR=>?_
     obtain⟨hc2,a,ha,hda⟩:=hR
     have w_:=Tm.invV ha
     obtain⟨p,rfl⟩:=w_
     exact rPl ⟨hc1.trans hc2,a,ha,(hda.wide (by omega)).mono (mU _)⟩
  ·refine ifd (fun h6=>?_) (fun h6=>?_)
   ·refine aD (by decide) ?_
    refine aS fun x _=>?_
    refine ifd (fun h7=>?_) (fun h7=>?_)
    ·refine cOw (aJ hc1.at vars) fun v μ2 h4 hle2 hap2 hR=>?_
     obtain⟨e,hc2,j,rfl,hj,hj2,_⟩:=hR
     obtain rfl:=e.symm
     have hj2:=hj2 (by omega)
     refine cGv (sN _) ?_
     refine rPl ⟨hc1.trans hc2,.var j,vC _,⟨by show 0≤(j:Int)∧(j:Int)≤100000;omega,fun n hn=>?_,mU _⟩⟩
     have hn:(j:Int)=n:=hn
     omega
    ·refine cOw (gT hc1.at) fun v μ2 h4 hle2 hap2 hR=>?_
     obtain⟨hc2,a,ha,hda⟩:=hR
     have w_:=Tm.invV ha
     obtain⟨p,rfl⟩:=w_
     exact rPl ⟨hc1.trans hc2,a,ha,(hda.wide (by omega)).mono (mU _)⟩
   ·refine cOw (gT hc1.at) fun v μ2 h4 hle2 hap2 hR=>?_
    obtain⟨hc2,a,ha,hda⟩:=hR
    have w_:=Tm.invV ha
    obtain⟨p,rfl⟩:=w_
    exact rPl ⟨hc1.trans hc2,a,ha,(hda.wide (by omega)).mono (mU _)⟩
structure GVals (n k:Nat) (g:List B):Prop where
 len:g.length=n
 get:∀(i:Nat) b,g[i]?=some b→b.var=(i:Int)∧Drawn k 0 b.to
structure DSub (lo hi:Int) (k:Nat) (vars:Int) (s:List B):Prop where
 srt:s.Pairwise fun a b=>a.var<b.var
 rng:∀b∈s,lo≤b.var∧b.var<hi∧Drawn k vars b.to
end
end Go.Vx
namespace Go.Vx
open Go.Proofs Classical
theorem T.ext_args{x y:T}(h1:x.tm.kind=y.tm.kind)(h2:x.tm.num=y.tm.num)(h3:x.tm.name=y.tm.name)(h4:x.args=y.args):x=y:=by
 cases x<;>cases y<;>simp_all [T.tm,Tm.kind,Tm.num,Tm.name,T.args]
theorem uF{α:Type}{l m:List α}(hl:l.length=m.length)(h:∀(j:Nat) x y,l[j]?=some x→m[j]?=some y→x=y):l=m:=
 List.ext_getElem? fun j=>by
  rcases Nat.lt_or_ge j l.length with k|k
  ·have w_:=aSo (l:=l) (i:=j) k
   obtain⟨x,hx⟩:=w_
   have w_:=aSo (l:=m) (i:=j) (by omega)
   obtain⟨y,hy⟩:=w_
   rw[hx,hy,h j x y hx hy]
  ·rw[List.getElem?_eq_none k,List.getElem?_eq_none (by omega)]
section
variable {μ:Mem}
theorem qKj:∀(x y:T) {v w:Value},RepV μ x.tm.d v→RepV μ y.tm.d w→aP Tryz.prog 175 [v,w] μ (.bool (decide (x=y))):=
 T.ind fun x ih y v w hv hw=>by
  have w_:=T.inv hv
  obtain⟨base,cap,rfl,hsl⟩:=w_
  have w_:=T.inv hw
  obtain⟨base2,cap2,rfl,hsl2⟩:=w_
  have hn:=aH hsl.max
  refine Spec.mk Tryz.func175 (by kernel_rfl) ?_
  intro r1 r2
  refine aM (fun h1=>rGv (isF fun e=>h1 (by rw[e])) rfl) (fun h1=>?_)
  refine aM (fun h2=>rGv (isF fun e=>h2 (by rw[e])) rfl) (fun h2=>?_)
  refine aM (fun h3=>rGv (isF fun e=>h3 (by rw[e])) rfl) (fun h3=>?_)
  refine aM (fun h4=>rGv (isF fun e=>h4 (by rw[e])) rfl) (fun h4=>?_)
  have h4:x.args.length=y.args.length:=by omega
  refine lIn (fun i:Nat=>i≤x.args.length∧∀j a b,j<i→x.args[j]?=some a→y.args[j]?=some b→a=b)
   (fun i=>⟨[(3,.loc 1 r2 0),(36,.val (.slice base x.args.length cap)),(37,.val (.int .i64 x.args.length)),(38,.val (.int .i64 i))],[(1,some (.cells r2 [.val (.int .i64 y.tm.kind),.val (.int .i64 y.tm.num),.val (.string y.tm.name),.val (.slice base2 y.args.length cap2)] 75))],2,μ,Mem.nil⟩) (fun i=>x.args.length-i)
   0 ⟨Nat.zero_le _,fun j a b hj=>absurd hj (Nat.not_lt_zero _)⟩ (fun _=>⟨rfl,rfl⟩) ⟨⟨rfl,rfl,rfl,rfl,trivial⟩,⟨rfl,trivial⟩,rfl,rfl⟩ ?_
  rintro i ⟨hi,heq⟩
  refine ifd (fun h=>?_) (fun h=>?_)
  ·have w_:=aSo (l:=x.args) (i:=i) (by omega)
   obtain⟨a,ha⟩:=w_
   have w_:=aSo (l:=y.args) (i:=i) (by omega)
   obtain⟨b,hb⟩:=w_
   have w_:=T.arg hsl ha
   obtain⟨ad,p,hel,hto⟩:=w_
   have w_:=T.arg hsl2 hb
   obtain⟨ad2,p2,hel2,hto2⟩:=w_
   refine eIn hel ?_
   intro r3
   refine eIn hel2 ?_
   refine cGv (ih a (mAt ha) b hto hto2) ?_
   refine aM (fun h5=>rGv (isF fun e=>h5 ?_) rfl) (fun h5=>?_)
   ·subst e
    rw[ha]at hb
    exact Option.some.inj hb
   ·refine aC (by omega) (by omega) ⟨i+1,⟨by omega,fun j c d hj hc hd=>?_⟩,by omega,⟨⟨rfl,rfl,rfl,rfl,trivial⟩,⟨rfl,trivial⟩,rfl,rfl⟩⟩
    rcases Nat.lt_or_ge j i with h6|h6
    ·exact heq j c d h6 hc hd
    ·obtain rfl:j=i:=by omega
     rw[ha]at hc
     rw[hb]at hd
     cases hc;cases hd
     exact h5
  ·obtain rfl:i=x.args.length:=by omega
   refine rGv (isT (T.ext_args h1 h2 h3 (uF h4 fun j a b ha hb=>?_))) rfl
   exact heq j a b (List.getElem?_eq_some_iff.1 ha).1 ha hb
theorem qJj{x y:List T}{base base2:Option Addr}{cap cap2:Nat}(hsl:Sl μ 4 base x.length ((x.map T.tm).map Tm.d))(hsl2:Sl μ 4 base2 y.length ((y.map T.tm).map Tm.d)):
  aP Tryz.prog 104 [.slice base x.length cap,.slice base2 y.length cap2] μ (.bool (decide (x=y))):=by
 have hn:=aH hsl.max
 refine Spec.mk Tryz.func104 (by kernel_rfl) ?_
 refine aM (fun h4=>rGv (isF fun e=>h4 (by rw[e])) rfl) (fun h4=>?_)
 have h4:x.length=y.length:=by omega
 refine lIn (fun i:Nat=>i≤x.length∧∀j a b,j<i→x[j]?=some a→y[j]?=some b→a=b)
  (fun i=>⟨[(1,.val (.slice base2 y.length cap2)),(12,.val (.slice base x.length cap)),(13,.val (.int .i64 x.length)),(14,.val (.int .i64 i))],[],0,μ,Mem.nil⟩) (fun i=>x.length-i)
  0 ⟨Nat.zero_le _,fun j a b hj=>absurd hj (Nat.not_lt_zero _)⟩ (fun _=>⟨rfl,rfl⟩) ⟨⟨rfl,rfl,rfl,rfl,trivial⟩,trivial,rfl,rfl⟩ ?_
 rintro i ⟨hi,heq⟩
 refine ifd (fun h=>?_) (fun h=>?_)
 rotate_left
 ·obtain rfl:i=x.length:=by omega
  refine rGv (isT (uF h4 fun j a b ha hb=>?_)) rfl
  exact heq j a b (List.getElem?_eq_some_iff.1 ha).1 ha hb
 have w_:=aSo (l:=x) (i:=i) (by omega)
 obtain⟨a,ha⟩:=w_
 have w_:=aSo (l:=y) (i:=i) (by omega)
 obtain⟨b,hb⟩:=w_
 have w_:=Tm.elem (i:=i) (t:=a.tm) hsl (by simp[ha])
 obtain⟨ad,p,hel,hto⟩:=w_
 have w_:=Tm.elem (i:=i) (t:=b.tm) hsl2 (by simp[hb])
 obtain⟨ad2,p2,hel2,hto2⟩:=w_
 refine eIn hel ?_
 intro r3
 refine eIn hel2 ?_
 refine cGv (qKj a b hto hto2) ?_
 refine aM (fun h5=>rGv (isF fun e=>h5 ?_) rfl) (fun h5=>?_)
 ·subst e
  rw[ha]at hb
  exact Option.some.inj hb
 ·refine aC (by omega) (by omega) ⟨i+1,⟨by omega,fun j c d hj hc hd=>?_⟩,by omega,⟨⟨rfl,rfl,rfl,rfl,trivial⟩,trivial,rfl,rfl⟩⟩
  rcases Nat.lt_or_ge j i with h6|h6
  ·exact heq j c d h6 hc hd
  ·obtain rfl:j=i:=by omega
   rw[ha]at hc
   rw[hb]at hd
   cases hc;cases hd
   exact h5
end
end Go.Vx
namespace Go.Vx
open Go.Proofs Classical
abbrev Bs:=List UInt8
def mkS(l:Bs):ByteArray:=⟨l.toArray⟩
def lsS(s:ByteArray):Bs:=s.data.toList
theorem bK{a b:Bs}(h:mkS a=mkS b):a=b:=by
 have:=congrArg lsS h
 exact this
def dR(b:UInt8):Bool:=b==32||b==10||b==40||b==41||b==59
def cZ:Nat→Bs→List Bs
 |0,_=>[]
 |_+1,[]=>[]
 |n+1,b::r=>
  if b==59 then cZ n (r.dropWhile fun c=>c !=10)
  else if !dR b then(b::r.takeWhile fun c=> !dR c)::cZ n (r.dropWhile fun c=> !dR c)
  else if b==40||b==41 then [b]::cZ n r
  else cZ n r
def qBc(k:Nat):Bs:=[63,UInt8.ofNat (48+k)]
def iP(names:List Bs)(t:Bs):List Bs:=if names.idxOf t<names.length then names else names++[t]
def cD:List Bs→List Bs→List Bs×List Bs
 |[],names=>([],names)
 |t::r,names=>
  if t.head?==some 63 then((qBc (names.idxOf t)::(cD r (iP names t)).1),(cD r (iP names t)).2)
  else(t::(cD r names).1,(cD r names).2)
def nmB:Bool→Bs→Bool
 |_,[]=>true
 |first,b::r=>((97≤b&&b≤122)||(!first&&((48≤b&&b≤57)||b==45)))&&nmB false r
def yG(t:Bs):Bool:=1≤t.length&&t.length≤12&&nmB true t
def qBm(t:Bs):Option T:=
 if yG t then some (.sym (mkS t))else match t with
  |[63,d]=>if 48≤d&&d≤57 then some (.var (d.toNat-48:Nat))else none
  |_=>none
def pZ:List T→T→T
 |[],tl=>tl
 |x::r,tl=> .pair x (pZ r tl)
mutual
def rdT:Nat→List Bs→Option (T×List Bs)
 |0,_=>none
 |_+1,[]=>none
 |n+1,t::r=>
  if t==[41]||t==[46]then none
  else if t==[40]then(match rdN n r with
   |some (items,c::r1)=>
    if c==[41]then some (pZ items .nil,r1)
    else if c==[46]&& !items.isEmpty then(match rdT n r1 with
     |some (tl,d::r2)=>if d==[41]then some (pZ items tl,r2)else none
     |_=>none)
    else none
   |_=>none)
  else(qBm t).map fun x=>(x,r)
def rdN:Nat→List Bs→Option (List T×List Bs)
 |0,_=>none
 |_+1,[]=>some ([],[])
 |n+1,t::r=>
  if t==[41]||t==[46]then some ([],t::r)
  else(match rdT n (t::r)with
   |some (x,r1)=>(rdN n r1).map fun q=>(x::q.1,q.2)
   |none=>none)
end
def rdA:Nat→List Bs→Option (List T×List Bs)
 |0,_=>none
 |_+1,[]=>none
 |n+1,t::r=>
  if t==[41]then some ([],t::r)
  else(match rdT n (t::r)with
   |some (x,r1)=>(rdA n r1).map fun q=>(x::q.1,q.2)
   |none=>none)
def heads:List Bs:=[[116,114,117,101],[102,97,105,108],[61],[47,61],[115,121,109,98,111,108],[110,117,109,98,101,114],[97,98,115,101,110,116],[97,110,100],[111,114],[],[110,111,116]]
def cV(w:Bs):Int×Bs:=if heads.idxOf w<11 then((heads.idxOf w:Nat),[])else(9,w)
mutual
def rdG:Nat→List Bs→Option (Gl×List Bs)
 |0,_=>none
 |n+1,t::w::r=>
  if t==[40]&&1<(cV w).1 then
   if(cV w).1==7||(cV w).1==8||(cV w).1==10 then(match qGn n r with
    |some (gs,c::r1)=>if c==[41]then some (.mk (cV w).1 (mkS (cV w).2) [] gs,r1)else none
    |_=>none)
   else(match rdA n r with
    |some (ts,c::r1)=>if c==[41]then some (.mk (cV w).1 (mkS (cV w).2) (ts.map T.tm) [],r1)else none
    |_=>none)
  else none
 |_+1,_=>none
def qGn:Nat→List Bs→Option (List Gl×List Bs)
 |0,_=>none
 |_+1,[]=>none
 |n+1,t::r=>
  if t==[41]then some ([],t::r)
  else(match rdG n (t::r)with
   |some (x,r1)=>(qGn n r1).map fun q=>(x::q.1,q.2)
   |none=>none)
end
def arF:Nat→List Bs→Nat×List Bs
 |k,[]=>(k,[])
 |k,t::r=>if t==qBc k then arF (k+1) r else(k,t::r)
def tokB(t:Bs):Bool:= !t.isEmpty&&(t.head? !=some 63||yG t.tail)
def qBq(all:List Bs):Bool:=all.all tokB&&decide ((cD all []).2.length≤9)
def qMm(all:List Bs):Option Rl:=
 if qBq all then match (cD all []).1 with
 |_::d::o::name::rest=>
  if d==[100,101,102,105,110,101]&&o==[40]&&decide ((arF 0 rest).1≤8)then(match (arF 0 rest).2 with
   |c::r2=>if c==[41]then(match rdG all.length r2 with
     |some (g,[_])=>some ⟨mkS name,(arF 0 rest).1,(cD all []).2.length-(arF 0 rest).1,g⟩
     |_=>none)else none
   |[]=>none)
  else none
 |_=>none
 else none
def cN(d:Int)(t:Bs):Int:=if t==[40]then d+1 else if t==[41]then d-1 else d
def sS:List Bs→List Bs→Int→Option (List Rl)
 |[],[],_=>some []
 |[],_::_,_=>none
 |t::r,cur,d=>
  if 0<cN d t then sS r (cur++[t]) (cN d t)
  else(match qMm (cur++[t])with
   |some x=>(sS r [] (cN d t)).map (x::·)
   |none=>none)
def qFu(s:Bs):Option Pg:=(sS (cZ s.length s) [] 0).map Pg.mk
mutual
def Gl.cb:Gl→Nat
 | .mk k _ _ gs=>if k=8 then max 1 (Gl.cbOr gs)else if k=7 then Gl.cbAnd gs else 1
def Gl.cbOr:List Gl→Nat
 |[]=>0
 |g::r=>g.cb+Gl.cbOr r
def Gl.cbAnd:List Gl→Nat
 |[]=>1
 |g::r=>g.cb*Gl.cbAnd r
end
mutual
theorem Gl.cb_pos:∀g:Gl,1≤g.cb
 | .mk k s ts gs=>by
  rw[Gl.cb]
  split
  ·omega
  ·split
   ·exact Gl.cbAnd_pos gs
   ·exact Nat.le_refl _
theorem Gl.cbAnd_pos:∀l:List Gl,1≤Gl.cbAnd l
 |[]=>Nat.le_refl _
 |g::r=>by
  rw[Gl.cbAnd]
  exact Nat.mul_pos g.cb_pos (Gl.cbAnd_pos r)
end
mutual
theorem Gl.cl_cb:∀g:Gl,g.cb≤64→∃L,g.cl=some L∧L.length≤g.cb
 | .mk k s ts gs,h=>by
  rw[Gl.cb]at h ⊢
  rw[Gl.cl]
  by_cases h0:k=0
  ·subst h0;exact⟨_,rfl,by simp⟩
  rw[if_neg h0]
  by_cases h1:k=1
  ·subst h1;exact⟨_,rfl,by simp⟩
  rw[if_neg h1]
  by_cases h8:k=8
  ·rw[if_pos h8]at h ⊢
   rw[if_pos h8]
   have w_:=Gl.clOr_cb gs [] (by simp only[List.length_nil];omega)
   obtain⟨L,h2,h3⟩:=w_
   exact⟨L,h2,by simp only[List.length_nil]at h3;omega⟩
  rw[if_neg h8]at h ⊢
  rw[if_neg h8]
  by_cases h7:k=7
  ·rw[if_pos h7]at h ⊢
   rw[if_pos h7]
   have w_:=Gl.clAnd_cb gs [[]] 1 (Nat.le_refl _) (Nat.le_refl _) (by rw[Nat.one_mul];exact h)
   obtain⟨L,h2,h3⟩:=w_
   exact⟨L,h2,by rw[Nat.one_mul]at h3;exact h3⟩
  ·rw[if_neg h7,if_neg h7]
   exact⟨_,rfl,Nat.le_refl _⟩
theorem Gl.clOr_cb:∀(l:List Gl) (acc:List (List Gl)),acc.length+Gl.cbOr l≤64→∃L,Gl.clOr l acc=some L∧L.length≤acc.length+Gl.cbOr l
 |[],acc,_=>⟨acc,rfl,by rw[Gl.cbOr];omega⟩
 |g::r,acc,h=>by
  rw[Gl.cbOr]at h ⊢
  have w_:=Gl.cl_cb g (by omega)
  obtain⟨L,h1,h2⟩:=w_
  have hl:(acc++L).length≤acc.length+g.cb:=by rw[List.length_append];omega
  have w_:=Gl.clOr_cb r (acc++L) (by omega)
  obtain⟨M,h3,h4⟩:=w_
  refine⟨M,?_,by omega⟩
  rw[Gl.clOr,h1,Option.bind_some,if_pos (by omega)]
  exact h3
theorem Gl.clAnd_cb:∀(l:List Gl) (acc:List (List Gl)) (A:Nat),acc.length≤A→1≤A→A*Gl.cbAnd l≤64→∃L,Gl.clAnd l acc=some L∧L.length≤A*Gl.cbAnd l
 |[],acc,A,hA,_,_=>⟨acc,rfl,by rw[Gl.cbAnd];omega⟩
 |g::r,acc,A,hA,hA1,h=>by
  rw[Gl.cbAnd]at h ⊢
  have hr:=Gl.cbAnd_pos r
  have hgp:=g.cb_pos
  have hmul:A*(g.cb*Gl.cbAnd r)=A*g.cb*Gl.cbAnd r:=(Nat.mul_assoc _ _ _).symm
  rw[hmul]at h ⊢
  have h1:A*g.cb≤64:=Nat.le_trans (Nat.le_mul_of_pos_right _ hr) h
  have w_:=Gl.cl_cb g (Nat.le_trans (Nat.le_mul_of_pos_left _ hA1) h1)
  obtain⟨L,h2,h3⟩:=w_
  have hl:(fH acc L).length≤A*g.cb:=by rw[mP];exact Nat.mul_le_mul hA h3
  have w_:=Gl.clAnd_cb r (fH acc L) (A*g.cb) hl (Nat.mul_pos hA1 hgp) h
  obtain⟨M,h4,h5⟩:=w_
  refine⟨M,?_,h5⟩
  rw[Gl.clAnd,h2,Option.bind_some,if_pos (by omega)]
  exact h4
end
theorem qFe(U:List T)(r:Rl)(i:Nat)(c:List Gl)(w:Nat):(cC U r i c w).length≤w:=by
 have:=List.length_filterMap_le (iK U r i c) (List.range w)
 rw[List.length_range]at this
 exact this
theorem vY(U:List T)(r:Rl)(L:List (List Gl)):∀k,(bQ U r L k).length≤k*U.length ^ (r.arity+r.locals).toNat
 |0=>by simp[bQ]
 |k+1=>by
  have ih:=vY U r L k
  have h:=qFe U r k (L.getD k []) (U.length ^ (r.arity+r.locals).toNat)
  have e:bQ U r L (k+1)=bQ U r L k++cC U r k (L.getD k []) (U.length ^ (r.arity+r.locals).toNat):=by
   rw[bQ,List.range_succ,List.flatMap_append];simp[bQ]
  rw[e,List.length_append,Nat.succ_mul]
  omega
def qFz(m:Nat):List Rl→Nat
 |[]=>0
 |r::l=>r.body.cb*m ^ (r.arity+r.locals).toNat+qFz m l
def jM(m:Nat)(p:Pg):Bool:=p.rels.all (fun r=>decide (r.body.cb≤64∧m ^ (r.arity+r.locals).toNat≤4096))&&decide (qFz m p.rels≤2000)
theorem qFq{U:List T}{m:Nat}(hU:U.length≤m){r:Rl}(h:r.body.cb≤64):(dH U r).length≤r.body.cb*m ^ (r.arity+r.locals).toNat:=by
 have w_:=Gl.cl_cb r.body h
 obtain⟨L,h1,h2⟩:=w_
 rw[dH,h1]
 refine Nat.le_trans (vY U r L L.length) ?_
 exact Nat.mul_le_mul h2 (Nat.pow_le_pow_left hU _)
theorem vK{U:List T}{m:Nat}(hU:U.length≤m):∀l:List Rl,(∀r∈l,r.body.cb≤64)→(l.flatMap (dH U)).length≤qFz m l
 |[],_=>Nat.le_refl _
 |r::l,h=>by
  rw[List.flatMap_cons,List.length_append,qFz]
  have h1:=qFq hU (h r (by simp))
  have h2:=vK hU l fun x hx=>h x (by simp[hx])
  omega
theorem qAo{p:Pg}{m:Nat}(h:jM m p=true){U:List T}(hU:U.length≤m):cI p U=some (cA p U):=by
 rw[jM,Bool.and_eq_true,List.all_eq_true,decide_eq_true_eq]at h
 have hc:∀r∈p.rels,r.body.cb≤64∧m ^ (r.arity+r.locals).toNat≤4096:=fun r hr=>of_decide_eq_true (h.1 r hr)
 refine if_pos ⟨fun r hr=>⟨fun e=>?_,Nat.le_trans (Nat.pow_le_pow_left hU _) (hc r hr).2⟩,Nat.le_trans (vK hU p.rels fun r hr=>(hc r hr).1) h.2⟩
 have w_:=Gl.cl_cb r.body (hc r hr).1
 obtain⟨L,h1,_⟩:=w_
 rw[h1]at e
 cases e
theorem eV(l:Bs)(i j:Nat):(mkS l).extract i j=mkS ((l.drop i).take (j-i)):=by
 have e:((mkS l).extract i j).data=((l.drop i).take (j-i)).toArray:=by
  rw[ByteArray.data_extract]
  simp[mkS,List.extract_eq_take_drop]
 cases h:(mkS l).extract i j
 rw[h]at e
 simp only at e
 rw[e]
 rfl
theorem fN(l:Bs):(mkS l).size=l.length:=by simp[mkS,ByteArray.size]
theorem bO(a b:Bs):mkS a++mkS b=mkS (a++b):=qJb a b
theorem qDk(b:UInt8):dR b=decide (b.toNat=32∨b.toNat=10∨b.toNat=40∨b.toNat=41∨b.toNat=59):=by
 rw[Bool.eq_iff_iff]
 simp[dR,←UInt8.toNat_inj,or_assoc]
theorem tw{α:Type}{p:α→Bool}:∀(m:List α) (n:Nat),n≤m.length→(∀(k:Nat) b,k<n→m[k]?=some b→p b=true)→(∀b,m[n]?=some b→p b=false)→m.takeWhile p=m.take n∧m.dropWhile p=m.drop n
 |[],n,_,_,_=>by simp
 |b::r,0,_,_,h=>by
  have:=h b rfl
  simp[this]
 |b::r,n+1,hn,h,h'=>by
  have hb:=h 0 b (by omega) rfl
  have w_:=tw r n (by simpa using hn) (fun k c hk hc=>h (k+1) c (by omega) (by simpa using hc)) (fun c hc=>h' c (by simpa using hc))
  obtain⟨h1,h2⟩:=w_
  simp[hb,h1,h2]
theorem gX:∀(n m:Nat) (l:Bs),l.length≤n→l.length≤m→cZ n l=cZ m l
 |0,m,l,h,_=>by
  have:l=[]:=List.length_eq_zero_iff.1 (by omega)
  subst this
  cases m<;>rfl
 |n+1,0,l,_,h=>by
  have:l=[]:=List.length_eq_zero_iff.1 (by omega)
  subst this
  rfl
 |n+1,m+1,[],_,_=>rfl
 |n+1,m+1,b::r,h,h'=>by
  have h1:r.length≤n:=by simpa using h
  have h2:r.length≤m:=by simpa using h'
  have hd:∀p:UInt8→Bool,(r.dropWhile p).length≤r.length:=fun p=>(List.dropWhile_sublist p).length_le
  rw[cZ,cZ,gX n m r h1 h2,gX n m _ (Nat.le_trans (hd _) h1) (Nat.le_trans (hd _) h2),gX n m _ (Nat.le_trans (hd _) h1) (Nat.le_trans (hd _) h2)]
theorem qJx{N:Nat}{b:UInt8}{r:Bs}(hN:(b::r).length≤N)(h:dR b=false):cZ N (b::r)=(b::r.takeWhile fun c=> !dR c)::cZ N (r.dropWhile fun c=> !dR c):=by
 cases N with
 |zero=>simp at hN
 |succ N=>
  have h59:(b==59)=false:=by
   cases e:b==59
   ·rfl
   ·simp[dR,e]at h
  have hl:(r.dropWhile fun c=> !dR c).length≤N:=Nat.le_trans (List.dropWhile_sublist _).length_le (by simpa using hN)
  rw[cZ,if_neg (by simp[h59]),if_pos (by simp[h]),gX (N+1) N _ (by omega) hl]
theorem qCv{N:Nat}{b:UInt8}{r:Bs}(hN:(b::r).length≤N)(h:b.toNat=40∨b.toNat=41):cZ N (b::r)=[b]::cZ N r:=by
 cases N with
 |zero=>simp at hN
 |succ N=>
  have hl:r.length≤N:=by simpa using hN
  have hb:b=40∨b=41:=h.imp (fun e=>UInt8.toNat_inj.1 e) fun e=>UInt8.toNat_inj.1 e
  rw[gX (N+1) N r (by omega) hl]
  rcases hb with rfl|rfl<;>rfl
theorem toks_sp{N:Nat}{b:UInt8}{r:Bs}(hN:(b::r).length≤N)(h:b.toNat=32∨b.toNat=10):cZ N (b::r)=cZ N r:=by
 cases N with
 |zero=>simp at hN
 |succ N=>
  have hl:r.length≤N:=by simpa using hN
  have hb:b=32∨b=10:=h.imp (fun e=>UInt8.toNat_inj.1 e) fun e=>UInt8.toNat_inj.1 e
  rw[gX (N+1) N r (by omega) hl]
  rcases hb with rfl|rfl<;>rfl
theorem bJ{α:Type}{l:List α}{i:Nat}{b:α}(h:l[i]?=some b):l.drop i=b::l.drop (i+1):=by
 have w_:=List.getElem?_eq_some_iff.1 h
 obtain⟨h1,h2⟩:=w_
 rw[List.drop_eq_getElem_cons h1,h2]
theorem qDa{l:Bs}{N i j:Nat}{b:UInt8}(hN:l.length≤N)(hb:l[i]?=some b)(h:dR b=false)(hij:i<j)(hj:j≤l.length)(hin:∀(k:Nat) b,i<k→k<j→l[k]?=some b→dR b=false)(hout:∀b,l[j]?=some b→dR b=true):
  cZ N (l.drop i)=(l.drop i).take (j-i)::cZ N (l.drop j):=by
 have hdl:(l.drop i).length≤N:=by rw[List.length_drop];omega
 rw[bJ hb]at hdl ⊢
 have w_:=tw (p:=fun c=> !dR c) (l.drop (i+1)) (j-(i+1)) (by rw[List.length_drop];omega)
  (fun k c hk hc=>by
   rw[List.getElem?_drop]at hc
   simp[hin _ c (by omega) (by omega) hc])
  (fun c hc=>by
   rw[List.getElem?_drop,show i+1+(j-(i+1))=j from by omega]at hc
   simp[hout c hc])
 obtain⟨h1,h2⟩:=w_
 rw[qJx hdl h,h1,h2,List.drop_drop,show i+1+(j-(i+1))=j from by omega]
 congr 1
 rw[show j-i=(j-(i+1))+1 from by omega,List.take_succ_cons]
theorem mX(t:Bs):yG t=decide (mC (mkS t)):=by
 have key:∀(t:Bs) (f:Bool),nmB f t=true↔∀(i:Nat) b,t[i]?=some b→qAt (f&&i==0) b:=by
  intro t
  induction t with
  |nil=>intro f;simp[nmB]
  |cons c r ih=>
   intro f
   rw[nmB,Bool.and_eq_true,ih false]
   constructor
   ·rintro⟨h1,h2⟩ i b hb
    cases i with
    |zero=>
     simp only[List.getElem?_cons_zero,Option.some.injEq]at hb
     subst hb
     simp only[Bool.or_eq_true,Bool.and_eq_true,decide_eq_true_eq,beq_iff_eq,Bool.not_eq_true',UInt8.le_iff_toNat_le]at h1
     rcases h1 with h1|⟨h0,h1⟩
     ·exact .inl h1
     ·refine .inr ⟨by simp[h0],?_⟩
      rcases h1 with h1|h1
      ·exact .inl h1
      ·rw[h1];exact .inr rfl
    |succ i=>
     simp only[List.getElem?_cons_succ]at hb
     have:=h2 i b hb
     simpa using this
   ·intro h
    refine⟨?_,fun i b hb=>?_⟩
    ·have:=h 0 c rfl
     simp only[Bool.or_eq_true,Bool.and_eq_true,decide_eq_true_eq,beq_iff_eq,Bool.not_eq_true',UInt8.le_iff_toNat_le]
     rcases this with k|⟨k0,k⟩
     ·exact .inl k
     ·refine .inr ⟨by simpa using k0,?_⟩
      rcases k with k|k
      ·exact .inl k
      ·exact .inr (UInt8.toNat_inj.1 k)
    ·have:=h (i+1) b (by simpa using hb)
     simpa using this
 rw[Bool.eq_iff_iff,yG,Bool.and_eq_true,Bool.and_eq_true,key t true]
 simp only[decide_eq_true_eq]
 constructor
 ·rintro⟨⟨h1,h2⟩,h3⟩
  exact⟨by rw[fN];exact h1,by rw[fN];exact h2,fun i b hb=>by simpa using h3 i b hb⟩
 ·rintro⟨h1,h2,h3⟩
  rw[fN]at h1 h2
  exact⟨⟨h1,h2⟩,fun i b hb=>by simpa using h3 i b hb⟩
theorem vU:∀(l names:List Bs),(cD l names).1.length=l.length
 |[],_=>rfl
 |t::r,names=>by
  rw[cD]
  split
  ·simp[vU r]
  ·simp[vU r]
theorem addN_le(names:List Bs)(t:Bs):names.length≤(iP names t).length:=by
 rw[iP];split
 ·exact Nat.le_refl _
 ·simp
theorem eS:∀(l names:List Bs),names.length≤(cD l names).2.length
 |[],_=>Nat.le_refl _
 |t::r,names=>by
  rw[cD]
  split
  ·exact Nat.le_trans (addN_le names t) (eS r _)
  ·exact eS r _
theorem qNc{names:List Bs}{t:Bs}{k:Nat}(hk:k≤names.length)(h:∀(j:Nat) x,j<k→names[j]?=some x→x≠t)(h2:∀x,names[k]?=some x→x=t):names.idxOf t=k:=by
 induction names generalizing k with
 |nil=>simp at hk;subst hk;rfl
 |cons x r ih=>
  rw[List.idxOf_cons]
  cases k with
  |zero=>simp[h2 x rfl]
  |succ k=>
   have hx:=h 0 x (by omega) rfl
   rw[ih (k:=k) (by simpa using hk) (fun j y hj hy=>h (j+1) y (by omega) (by simpa using hy)) (fun y hy=>h2 y (by simpa using hy))]
   rw[beq_false_of_ne hx]
   rfl
abbrev Sig:=List (ByteArray×Int)
structure Dr (sg:Sig) (n:Int) (mode:Int) (m b:Nat) (g:Gl):Prop where
 sh:g.Sh
 cnt:g.cnt≤m
 cb:g.cb≤b
 vars:∀v∈g.vars,v<n
 calls:∀x∈g.all,x.kind=9→(x.name,(x.terms.length:Int))∈sg
 pos:mode≤1→g.Pos
theorem Dr.mono{sg:Sig}{n mode:Int}{m b m' b':Nat}{g:Gl}(h:Dr sg n mode m b g)(hm:m≤m')(hb:b≤b'):Dr sg n mode m' b' g:=
 ⟨h.sh,Nat.le_trans h.cnt hm,Nat.le_trans h.cb hb,h.vars,h.calls,h.pos⟩
theorem yU{g:Gl}{v:Int}(h:v∈g.vars):v∈g.tvars∨∃x∈g.goals,v∈x.vars:=by
 unfold Gl.vars at h
 rw[Gl.all_eq,List.flatMap_cons]at h
 rcases List.mem_append.1 h with h|h
 ·exact .inl h
 ·have w_:=List.mem_flatMap.1 h
  obtain⟨y,hy,hv⟩:=w_
  have w_:=List.mem_flatMap.1 hy
  obtain⟨x,hx,hy⟩:=w_
  exact .inr ⟨x,hx,List.mem_flatMap.2 ⟨y,hy,hv⟩⟩
theorem qCo{g x:Gl}(h:x∈g.all):x=g∨∃y∈g.goals,x∈y.all:=by
 rw[Gl.all_eq]at h
 rcases List.mem_cons.1 h with h|h
 ·exact .inl h
 ·exact .inr (List.mem_flatMap.1 h)
theorem qIx{ts:List T}{n:Int}(h:∀t∈ts,∀v,t.occ v→0≤v∧v<n){k:Int}{s:ByteArray}{gs:List Gl}:∀v∈(Gl.mk k s (ts.map T.tm) gs).tvars,v<n:=fun v hv=>by
 unfold Gl.tvars at hv
 have e:((Gl.mk k s (ts.map T.tm) gs).terms.map Tm.toT)=ts:=toTs_tm'
 rw[e]at hv
 have w_:=List.mem_flatMap.1 hv
 obtain⟨t,ht,hv⟩:=w_
 exact(h t ht v (rW hv)).2
theorem Dr.leaf{sg:Sig}{n mode:Int}{k:Int}{s:ByteArray}{ts:List T}(top:TopOk (.mk k s (ts.map T.tm) []))(hk:k≠10)(h7:k≠7)(h8:k≠8)(ht:∀t∈ts,∀v,t.occ v→0≤v∧v<n)(hc:k=9→(s,(ts.length:Int))∈sg):Dr sg n mode 1 1 (.mk k s (ts.map T.tm) []) where
 sh:= .mk top fun x hx=>by cases hx
 cnt:=Nat.le_refl _
 cb:=by rw[Gl.cb,if_neg h8,if_neg h7];exact Nat.le_refl _
 vars:=fun v hv=>by
  rcases yU hv with hv|⟨x,hx,_⟩
  ·exact qIx ht v hv
  ·cases hx
 calls:=fun x hx h9=>by
  rcases qCo hx with rfl|⟨y,hy,_⟩
  ·have:=hc h9
   show(s,((ts.map T.tm).length:Int))∈sg
   rw[List.length_map]
   exact this
  ·cases hy
 pos:=fun _=>(Gl.pos_eq _).2 ⟨hk,fun x hx=>by cases hx⟩
theorem zT{sg:Sig}{n mode:Int}{m b:Nat}:∀{gs:List Gl},(∀g∈gs,Dr sg n mode m b g)→Gl.cnts gs≤gs.length*m
 |[],_=>Nat.zero_le _
 |g::r,h=>by
  have h1:=(h g (by simp)).cnt
  have h2:=zT (gs:=r) fun x hx=>h x (by simp[hx])
  rw[Gl.cnts,List.length_cons,Nat.succ_mul]
  omega
theorem qLf{sg:Sig}{n mode:Int}{m:Nat}:∀{gs:List Gl},(∀g∈gs,Dr sg n mode m 1 g)→Gl.cbAnd gs≤1
 |[],_=>Nat.le_refl _
 |g::r,h=>by
  have h1:=(h g (by simp)).cb
  have h2:=qLf (gs:=r) fun x hx=>h x (by simp[hx])
  rw[Gl.cbAnd]
  exact Nat.mul_le_mul h1 h2
theorem dr_or{sg:Sig}{n mode:Int}{m:Nat}:∀{gs:List Gl},(∀g∈gs,Dr sg n mode m 1 g)→Gl.cbOr gs≤gs.length
 |[],_=>Nat.le_refl _
 |g::r,h=>by
  have h1:=(h g (by simp)).cb
  have h2:=dr_or (gs:=r) fun x hx=>h x (by simp[hx])
  rw[Gl.cbOr,List.length_cons]
  omega
theorem qGc{sg:Sig}{n mode:Int}{m b:Nat}{k:Int}{gs:List Gl}(h:∀g∈gs,Dr sg n mode m b g)(h9:k≠9)(h10:mode≤1→k≠10):
  (∀v∈(Gl.mk k ⟨#[]⟩ [] gs).vars,v<n)∧(∀x∈(Gl.mk k ⟨#[]⟩ [] gs).all,x.kind=9→(x.name,(x.terms.length:Int))∈sg)∧(mode≤1→(Gl.mk k ⟨#[]⟩ [] gs).Pos):=by
 refine⟨fun v hv=>?_,fun x hx hx9=>?_,fun hm=>(Gl.pos_eq _).2 ⟨h10 hm,fun x hx=>(h x hx).pos hm⟩⟩
 ·rcases yU hv with hv|⟨x,hx,hv⟩
  ·cases hv
  ·exact(h x hx).vars v hv
 ·rcases qCo hx with rfl|⟨y,hy,hx⟩
  ·exact absurd hx9 h9
  ·exact(h y hy).calls x hx hx9
theorem qHi{k:Int}{gs:List Gl}(hk:k=7∨k=8)(hl:gs.length≤8):TopOk (.mk k ⟨#[]⟩ [] gs) where
 tm:=fun t ht=>by cases ht
 k0:=by show 0≤k;omega
 k1:=by show k≤10;omega
 nm:=fun _=>rfl
 rel:=fun h=>by have h:k=9:=h;omega
 ln9:=fun _=>Nat.zero_le _
 ln2:=fun h=>by have h:k=2∨k=3∨k=6:=h;omega
 ln1:=fun h=>by have h:k=4∨k=5:=h;omega
 ln0:=fun _=>rfl
 gl:=hl
 gl0:=fun h=>by have h:k<7∨k=9:=h;omega
 gl1:=fun h=>by have h:k=10:=h;omega
 sy:=fun h=>by have h:k=6:=h;omega
 cl:=fun h=>by have h:k=10:=h;omega
theorem Dr.conj{sg:Sig}{n mode:Int}{m:Nat}{gs:List Gl}(h:∀g∈gs,Dr sg n mode m 1 g)(hl:gs.length≤8):Dr sg n mode (1+gs.length*m) 1 (.mk 7 ⟨#[]⟩ [] gs):=by
 have w_:=qGc (k:=7) h (by decide) (fun _=>by decide)
 obtain⟨h1,h2,h3⟩:=w_
 refine⟨.mk (qHi (.inl rfl) hl) fun x hx=>(h x hx).sh,?_,?_,h1,h2,h3⟩
 ·rw[Gl.cnt]
  have:=zT h
  omega
 ·rw[Gl.cb,if_neg (by decide),if_pos rfl]
  exact qLf h
theorem Dr.disj{sg:Sig}{n mode:Int}{m:Nat}{gs:List Gl}(h:∀g∈gs,Dr sg n mode m 1 g)(hl:gs.length≤8)(h0:gs≠[]):Dr sg n mode (1+gs.length*m) gs.length (.mk 8 ⟨#[]⟩ [] gs):=by
 have w_:=qGc (k:=8) h (by decide) (fun _=>by decide)
 obtain⟨h1,h2,h3⟩:=w_
 refine⟨.mk (qHi (.inr rfl) hl) fun x hx=>(h x hx).sh,?_,?_,h1,h2,h3⟩
 ·rw[Gl.cnt]
  have:=zT h
  omega
 ·rw[Gl.cb,if_pos rfl]
  have:=dr_or h
  have:=List.length_pos_iff.2 h0
  omega
theorem Dr.neg{sg:Sig}{n mode:Int}{m b:Nat}{g:Gl}(h:Dr sg n mode m b g)(h9:g.kind=9)(hm:1<mode):Dr sg n mode (1+m) 1 (.mk 10 ⟨#[]⟩ [] [g]):=by
 have hg:∀x∈[g],Dr sg n mode m b x:=fun x hx=>by rw[List.mem_singleton.1 hx];exact h
 have w_:=qGc (k:=10) hg (by decide) (fun h=>absurd h (by omega))
 obtain⟨h1,h2,h3⟩:=w_
 refine⟨.mk ?_ fun x hx=>(hg x hx).sh,?_,?_,h1,h2,h3⟩
 ·exact {tm:=fun t ht=>by cases ht
      k0:=by show(0:Int)≤10;decide
      k1:=by show(10:Int)≤10;decide
      nm:=fun _=>rfl
      rel:=fun h=>by have h:(10:Int)=9:=h;omega
      ln9:=fun _=>Nat.zero_le _
      ln2:=fun h=>by have h:(10:Int)=2∨(10:Int)=3∨(10:Int)=6:=h;omega
      ln1:=fun h=>by have h:(10:Int)=4∨(10:Int)=5:=h;omega
      ln0:=fun _=>rfl
      gl:=by show 1≤8;decide
      gl0:=fun h=>by have h:(10:Int)<7∨(10:Int)=9:=h;omega
      gl1:=fun _=>rfl
      sy:=fun h=>by have h:(10:Int)=6:=h;omega
      cl:=fun _ x hx=>by cases hx;exact h9}
 ·rw[Gl.cnt,Gl.cnts,Gl.cnts]
  have:=h.cnt
  omega
 ·rw[Gl.cb,if_neg (by decide),if_neg (by decide)]
  exact Nat.le_refl _
def nmI(i:Nat):ByteArray:=mkS [UInt8.ofNat (112+i)]
def qMn(l:List Rl):Sig:=l.map fun r=>(r.name,r.arity)
structure DrP (mode:Int) (l:List Rl):Prop where
 ne:1≤l.length
 le:l.length≤3
 nm:∀(i:Nat) r,l[i]?=some r→r.name=nmI i
 ar:∀r∈l,1≤r.arity∧r.arity≤2
 lo:∀r∈l,0≤r.locals∧r.locals≤1
 body:∀r∈l,Dr (qMn l) (r.arity+r.locals) mode 40 3 r.body
theorem nmI_inj{i j:Nat}(hi:i<3)(hj:j<3)(h:nmI i=nmI j):i=j:=by
 have h:=bK h
 have w_:i=0∨i=1∨i=2:=by omega
 have hw_:j=0∨j=1∨j=2:=by omega
 rcases w_ with rfl|rfl|rfl<;>rcases hw_ with rfl|rfl|rfl<;>first|rfl|(revert h;decide)
theorem qHx{i:Nat}(hi:i<3):iT (nmI i):=by
 have w_:i=0∨i=1∨i=2:=by omega
 rcases w_ with rfl|rfl|rfl<;>
 ·refine⟨?_,mB (by decide)⟩
  intro h
  simp only[rsv,List.mem_cons,List.not_mem_nil,or_false]at h
  rcases h with h|h|h|h|h|h|h|h|h<;>exact absurd (congrArg lsS h) (by decide)
theorem vJ:∀(l:List Rl) (k i:Nat) (r:Rl),l[i]?=some r→(∀(j:Nat) x,j<i→l[j]?=some x→x.name≠r.name)→dY l k r.name=((k+i:Nat):Int)
 |[],_,i,_,h,_=>by simp at h
 |x::l,k,0,r,h,_=>by
  cases h
  rw[dY,if_pos rfl]
  rfl
 |x::l,k,i+1,r,h,hne=>by
  rw[dY,if_neg (hne 0 x (by omega) rfl),vJ l (k+1) i r (by simpa using h) (fun j y hj hy=>hne (j+1) y (by omega) (by simpa using hy))]
  congr 1
  omega
theorem DrP.at_{mode:Int}{l:List Rl}(h:DrP mode l){i:Nat}{r:Rl}(hr:l[i]?=some r):bM ⟨l⟩ r.name=(i:Int):=by
 have h3:=h.le
 have hi:=(List.getElem?_eq_some_iff.1 hr).1
 have:=vJ l 0 i r hr fun j x hj hx e=>by
  rw[h.nm j x hx,h.nm i r hr]at e
  have:=nmI_inj (by omega) (by omega) e
  omega
 rw[bM,this,Nat.zero_add]
theorem DrP.ok{mode:Int}{l:List Rl}(h:DrP mode l):(⟨l⟩:Pg).Ok:=by
 have h3:=h.le
 refine⟨by show l.length≤8;omega,fun i r hr=>?_⟩
 have hr:l[i]?=some r:=hr
 have hm:=List.mem_of_getElem? hr
 have hi:=(List.getElem?_eq_some_iff.1 hr).1
 have ha:=h.ar r hm
 have hl:=h.lo r hm
 have hb:=h.body r hm
 refine⟨h.at_ hr,by rw[h.nm i r hr];exact qHx (by omega),by omega,by omega,hl.1,by omega,hb.sh,Nat.le_trans hb.cnt (by decide),hb.vars,FitAll.of fun x hx h9=>?_⟩
 have w_:=List.mem_map.1 (hb.calls x hx h9)
 obtain⟨s,hs,e⟩:=w_
 have w_:=List.getElem?_of_mem hs
 obtain⟨j,hj⟩:=w_
 have e1:s.name=x.name:=congrArg Prod.fst e
 have e2:s.arity=(x.terms.length:Int):=congrArg Prod.snd e
 exact⟨j,s,by rw[←e1];exact h.at_ hj,hj,e2⟩
theorem qHd{m B:Nat}:∀l:List Rl,(∀r∈l,r.body.cb*m ^ (r.arity+r.locals).toNat≤B)→qFz m l≤l.length*B
 |[],_=>Nat.zero_le _
 |r::l,h=>by
  have h1:=h r (by simp)
  have h2:=qHd l fun x hx=>h x (by simp[hx])
  rw[qFz,List.length_cons,Nat.succ_mul]
  omega
theorem DrP.small{mode:Int}{l:List Rl}(h:DrP mode l){m:Nat}(hm:m≤3)(hm1:1≤m):jM m ⟨l⟩=true:=by
 have key:∀r∈l,r.body.cb≤3∧m ^ (r.arity+r.locals).toNat≤27:=fun r hr=>by
  refine⟨(h.body r hr).cb,?_⟩
  have h1:=h.ar r hr
  have h2:=h.lo r hr
  calc m ^ (r.arity+r.locals).toNat≤m ^ 3:=Nat.pow_le_pow_right hm1 (by omega)
   _≤3 ^ 3:=Nat.pow_le_pow_left hm 3
 have h3:=h.le
 rw[jM,Bool.and_eq_true,List.all_eq_true,decide_eq_true_eq]
 refine⟨fun r hr=>?_,?_⟩
 ·have:=key r hr
  exact decide_eq_true ⟨by omega,by omega⟩
 ·have:=qHd (m:=m) (B:=81) l fun r hr=>Nat.mul_le_mul (key r hr).1 (key r hr).2
  show qFz m l≤2000
  have:l.length*81≤3*81:=Nat.mul_le_mul_right _ h3
  omega
theorem DrP.pos{mode:Int}{l:List Rl}(h:DrP mode l)(hm:mode≤1):(⟨l⟩:Pg).Pos:=⟨h.ok,fun r hr=>(h.body r hr).pos hm⟩
structure MkP (mode:Int) (p:Pg):Prop where
 ok:p.Ok
 small3:jM 3 p=true
 small2:jM 2 p=true
 pos:mode≤1→p.Pos
 ne:p.rels≠[]
 ar:∀r∈p.rels,1≤r.arity
theorem DrP.prom{mode:Int}{l:List Rl}(h:DrP mode l):MkP mode ⟨l⟩:=
 ⟨h.ok,h.small (by decide) (by decide),h.small (by decide) (by decide),h.pos,fun e=>by
  have h1:=h.ne
  have e:l=[]:=e
  rw[e]at h1
  exact absurd h1 (by decide),fun r hr=>(h.ar r hr).1⟩
end Go.Vx
namespace Go.Vx
open Go.Proofs Classical
def oL(l:List Bs):List Value:=(l.map mkS).map Value.string
theorem tJ(l:List Bs):(oL l).length=l.length:=by rw[oL,List.length_map,List.length_map]
theorem dQ(l:List Bs)(t:Bs):oL (l++[t])=oL l++[.string (mkS t)]:=by simp[oL]
section
variable {μ:Mem}
theorem nS(b:UInt8):aP Tryz.prog 183 [.int .u8 (b.toNat:Int)] μ (.bool (dR b)):=by
 refine Spec.mk Tryz.func183 (by kernel_rfl) ?_
 rw[qDk]
 repeat' (first
  |refine ifd (fun h=>?_) (fun h=>?_)
  |refine iIn (fun h=>?_) (fun h=>?_))
 all_goals
  refine rGv ?_ rfl
  refine congrArg Value.bool ?_
  first
   |(symm;exact decide_eq_true (by omega))
   |(rw[Bool.eq_iff_iff];simp only[decide_eq_true_eq];omega)
theorem cE{k:Nat}(hk:k≤9):aP Tryz.prog 185 [.int .i64 k] μ (.string (mkS [UInt8.ofNat (48+k)])):=by
 refine Spec.mk Tryz.func185 (by kernel_rfl) ?_
 refine ifd (fun h=>absurd h (by omega)) (fun _=>?_)
 refine lIn (fun _:Unit=>True) (fun _=>⟨[(0,.val (.int .i64 k)),(3,.val (.string ⟨#[]⟩))],[],0,μ,Mem.nil⟩) (fun _=>0) () trivial (fun _=>⟨rfl,rfl⟩) ⟨⟨rfl,rfl,trivial⟩,trivial,rfl,rfl⟩ ?_
 rintro- -
 refine ifd (fun h=>absurd h (by omega)) (fun _=>?_)
 refine aC (by omega) (by omega) (nEq (wrap8 (by omega) (by omega)) ?_)
 intro r
 have hb:(UInt8.ofNat (48+k)).toNat=48+k:=by rw[UInt8.toNat_ofNat'];omega
 refine bW [UInt8.ofNat (48+k)] (by simp only[List.map_cons,List.map_nil,hb];congr 2) ?_
 refine aD (by show 1+0≤_;decide) ?_
 refine rGv ?_ rfl
 exact congrArg Value.string (bO [_] [])
theorem vV{k:Nat}(hk:k≤9):aP Tryz.prog 228 [.string (mkS [UInt8.ofNat (48+k)])] μ (.tuple #[.int .i64 k,.bool true]):=by
 have hb:(UInt8.ofNat (48+k)).toNat=48+k:=by rw[UInt8.toNat_ofNat'];omega
 have h0:(mkS [UInt8.ofNat (48+k)]).data.toList[0]?=some (UInt8.ofNat (48+k)):=rfl
 have hsz:(mkS [UInt8.ofNat (48+k)]).size=1:=rfl
 refine Spec.mk Tryz.func228 (by kernel_rfl) ?_
 refine ifd (fun _=>?_) (fun h=>absurd h (by omega))
 refine aO 0 _ rfl h0 ?_
 refine iIn (fun h=>absurd (of_decide_eq_true h) (by omega)) (fun hm=>?_)
 refine ifd (fun h=>absurd h (by omega)) (fun _=>?_)
 refine iIn (fun h=>absurd (of_decide_eq_true h) (by omega)) (fun _=>?_)
 refine lIn (fun i:Nat=>i≤1) (fun i=>⟨[(0,.val (.string (mkS [UInt8.ofNat (48+k)]))),(4,.val (.bool (decide (((UInt8.ofNat (48+k)).toNat:Int)=45)))),(5,.val (.string (mkS [UInt8.ofNat (48+k)]))),(6,.val (.int .i64 (if i=0 then 0 else -(k:Int)))),(7,.val (.int .i64 i))],[],0,μ,Mem.nil⟩) (fun i=>1-i)
  0 (by omega) (fun _=>⟨rfl,rfl⟩) ⟨⟨rfl,rfl,rfl,rfl,rfl,trivial⟩,trivial,rfl,rfl⟩ ?_
 intro i hi
 refine ifd (fun h=>?_) (fun h=>?_)
 ·obtain rfl:i=0:=by omega
  refine aO 0 _ rfl h0 ?_
  refine aC (by omega) (by omega) (aC (by omega) (by omega) ?_)
  refine cGv (bX _ _ _ _) ?_
  refine iIn (fun h=>?_) (fun _=>?_)
  ·rw[decide_eq_true ⟨by omega,by omega⟩]at h
   cases h
  ·have hd:((UInt8.ofNat (48+k)).toNat:Int)-48=k:=by omega
   rw[hd]
   refine aC (by omega) (by omega) ?_
   refine aD (by decide) ?_
   refine nEq (x:=if k=9 then -922337203685477579 else -922337203685477580) ?_ ?_
   ·have w_:k=0∨k=1∨k=2∨k=3∨k=4∨k=5∨k=6∨k=7∨k=8∨k=9:=by omega
    rcases w_ with rfl|rfl|rfl|rfl|rfl|rfl|rfl|rfl|rfl|rfl<;>rfl
   refine iIn (fun h=>absurd (of_decide_eq_true h) (by rw[if_pos rfl];split<;>omega)) (fun _=>?_)
   rw[if_pos rfl]
   refine aC (by omega) (by omega) (aC (by omega) (by omega) ?_)
   refine aC (by omega) (by omega) ⟨1,by omega,by omega,⟨⟨rfl,rfl,rfl,?_,rfl,trivial⟩,trivial,rfl,rfl⟩⟩
   show some (SV.val (.int .i64 _))=some (SV.val (.int .i64 _))
   congr 3
   simp
 ·obtain rfl:i=1:=by omega
  refine iIn (fun h=>?_) (fun h=>?_)
  ·refine ifd (fun h=>absurd h (by rw[if_neg (by decide)];omega)) (fun _=>?_)
   refine nEq (x:=(k:Int)) (by show IntKind.i64.wrap (0- -(k:Int))=(k:Int);rw[show(0:Int)- -(k:Int)=k from by omega];exact aA (by omega) (by omega)) ?_
   refine cGv (cE hk) ?_
   refine aM (fun h=>absurd rfl h) (fun _=>?_)
   exact rGv rfl rfl
  ·rw[hm]at h
   cases h
theorem wA{t:Bs}(h:yG t=true):aP Tryz.prog 228 [.string (mkS t)] μ (.tuple #[.int .i64 0,.bool false]):=by
 rw[mX,decide_eq_true_eq]at h
 obtain⟨h1,h2,h3⟩:=h
 have w_:=mS (s:=mkS t) (i:=0) (by omega)
 obtain⟨b0,hb0⟩:=w_
 have hc:97≤b0.toNat∧b0.toNat≤122:=(h3 0 b0 hb0).elim id fun k=>by have:=k.1;simp at this
 refine Spec.mk Tryz.func228 (by kernel_rfl) ?_
 refine ifd (fun _=>?_) (fun h=>absurd h (by omega))
 refine aO 0 _ rfl hb0 ?_
 refine iIn (fun h=>absurd (of_decide_eq_true h) (by omega)) (fun hm=>?_)
 refine ifd (fun h=>absurd h (by omega)) (fun _=>?_)
 refine iIn (fun h=>absurd (of_decide_eq_true h) (by omega)) (fun _=>?_)
 refine lIn (fun i:Nat=>i=0) (fun i=>⟨[(0,.val (.string (mkS t))),(4,.val (.bool (decide ((b0.toNat:Int)=45)))),(5,.val (.string (mkS t))),(6,.val (.int .i64 0)),(7,.val (.int .i64 i))],[],0,μ,Mem.nil⟩) (fun i=>0)
  0 rfl (fun _=>⟨rfl,rfl⟩) ⟨⟨rfl,rfl,rfl,rfl,rfl,trivial⟩,trivial,rfl,rfl⟩ ?_
 rintro i rfl
 refine ifd (fun _=>?_) (fun h=>absurd h (by omega))
 refine aO 0 _ rfl hb0 ?_
 refine aC (by omega) (by omega) (aC (by omega) (by omega) ?_)
 refine cGv (bX _ _ _ _) ?_
 refine iIn (fun _=>rGv rfl rfl) (fun h=>?_)
 rw[decide_eq_false (by omega)]at h
 cases h
set_option maxHeartbeats 1000000 in
theorem qEd{s:Bs}(hl:s.length≤400)(hb:∀b∈s,b.toNat≠59∧(b.toNat=10∨(32≤b.toNat∧b.toNat≤126))):
  Spec Tryz.prog 122 [.string (mkS s)] μ fun v μ'=>∃tv,v= .tuple #[tv,.bool true]∧NmV μ' ((cZ s.length s).map mkS) tv:=by
 have hsz:(mkS s).size=s.length:=fN s
 have at_:∀(i:Nat) b,s[i]?=some b→(mkS s).data.toList[i]?=some b:=fun i b h=>h
 refine Spec.mk Tryz.func122 (by kernel_rfl) ?_
 refine ifd (fun h=>absurd h (by omega)) (fun _=>?_)
 intro r0
 refine lIn (fun z:Nat×List Bs×List Value×Option Nat×Nat=>z.1≤s.length∧z.2.1.length≤z.1∧z.2.2.1=oL z.2.1∧z.2.1++cZ s.length (s.drop z.1)=cZ s.length s)
  (fun(i,_,ys,b,c)=>⟨[(0,.val (.string (mkS s))),(4,.row 0 b ys.length c),(5,.val (.int .i64 i))],[(0,some (.row b c 9 1 ys))],1,μ,Mem.nil⟩) (fun z=>s.length-z.1)
  (0,[],[],some r0,0) ⟨Nat.zero_le _,Nat.zero_le _,rfl,rfl⟩ (fun(_,_,_,_,_)=>⟨rfl,rfl⟩) ⟨⟨rfl,rfl,rfl,trivial⟩,⟨rfl,trivial⟩,rfl,rfl⟩ ?_
 rintro⟨i,L,ys,b,c⟩ ⟨hi,hLi,hys,hT⟩
 dsimp only at hi hLi hys hT
 have hyl:ys.length=L.length:=by rw[hys,tJ]
 refine ifd (fun hlt=>?_) (fun hlt=>?_)
 ·obtain⟨ch,hch⟩:∃ch,s[i]?=some ch:=⟨_,List.getElem?_eq_getElem (by omega)⟩
  have hc:=hb ch (List.mem_of_getElem? hch)
  have hdl:(ch::s.drop (i+1)).length≤s.length:=by simp only[List.length_cons,List.length_drop];omega
  rw[bJ hch]at hT
  refine aC (by omega) (by omega) ?_
  refine aO i ch rfl (at_ _ _ hch) ?_
  refine ifd (fun h=>absurd h (by omega)) (fun _=>?_)
  refine aO i ch rfl (at_ _ _ hch) ?_
  refine cGv (nS ch) ?_
  refine iIn (fun hbk=>?_) (fun hbk=>?_)
  ·have hbk:dR ch=false:=by simpa using hbk
   rw[←bJ hch]at hT
   refine lIn (fun j:Nat=>i<j∧j≤s.length∧∀(k:Nat) b,i<k→k<j→s[k]?=some b→dR b=false)
    (fun j=>⟨[(0,.val (.string (mkS s))),(4,.row 0 b ys.length c),(5,.val (.int .i64 i)),(6,.val (.int .i64 j))],[(0,some (.row b c 9 1 ys))],1,μ,Mem.nil⟩) (fun j=>s.length-j)
    (i+1) ⟨by omega,by omega,fun k b h1 h2=>by omega⟩ (fun _=>⟨rfl,rfl⟩) ⟨⟨rfl,rfl,rfl,rfl,trivial⟩,⟨rfl,trivial⟩,rfl,rfl⟩ ?_
   rintro j ⟨hij,hj,hin⟩
   refine ifd (fun hjl=>?_) (fun hjl=>?_)
   ·obtain⟨cj,hcj⟩:∃cj,s[j]?=some cj:=⟨_,List.getElem?_eq_getElem (by omega)⟩
    refine aO j cj rfl (at_ _ _ hcj) ?_
    refine cGv (nS cj) ?_
    refine iIn (fun hbj=>?_) (fun hbj=>?_)
    ·have hbj:dR cj=false:=by simpa using hbj
     refine aC (by omega) (by omega) ⟨j+1,⟨by omega,by omega,fun k b h1 h2 hk=>?_⟩,by omega,⟨⟨rfl,rfl,rfl,rfl,trivial⟩,⟨rfl,trivial⟩,rfl,rfl⟩⟩
     by_cases e:k=j
     ·subst e;rw[hcj]at hk;cases hk;exact hbj
     ·exact hin k b h1 (by omega) hk
    ·have hbj:dR cj=true:=by simpa using hbj
     refine aR i j rfl rfl (by omega) (by omega) ?_
     intro r1
     refine gIn ?_ ?_ fun b' c' hb'=>?_
     ·show(ys.length+1)*16≤_;omega
     ·exact Nat.le_trans (m:=100000000) (show ys.length+1≤_ by omega) (by decide)
     refine⟨(j,L++[(s.drop i).take (j-i)],_,b',c'),⟨by dsimp only;omega,by simp only[List.length_append,List.length_cons,List.length_nil];omega,?_,?_⟩,by dsimp only;omega,⟨⟨rfl,rfl,rfl,trivial⟩,⟨rfl,trivial⟩,rfl,rfl⟩⟩
     ·dsimp only
      rw[dQ,hys,eV]
     ·dsimp only
      rw[List.append_assoc,List.singleton_append]
      (rw[←hT,qDa (Nat.le_refl _) hch hbk hij hj hin fun b hb=>by rw[hcj]at hb;cases hb;exact hbj])
   ·refine aR i j rfl rfl (by omega) (by omega) ?_
    intro r1
    refine gIn ?_ ?_ fun b' c' hb'=>?_
    ·show(ys.length+1)*16≤_;omega
    ·exact Nat.le_trans (m:=100000000) (show ys.length+1≤_ by omega) (by decide)
    refine⟨(j,L++[(s.drop i).take (j-i)],_,b',c'),⟨by dsimp only;omega,by simp only[List.length_append,List.length_cons,List.length_nil];omega,?_,?_⟩,by dsimp only;omega,⟨⟨rfl,rfl,rfl,trivial⟩,⟨rfl,trivial⟩,rfl,rfl⟩⟩
    ·dsimp only
     rw[dQ,hys,eV]
    ·dsimp only
     rw[List.append_assoc,List.singleton_append]
     (rw[←hT,qDa (Nat.le_refl _) hch hbk hij hj hin fun b hb=>by have:=(List.getElem?_eq_some_iff.1 hb).1;omega])
  ·have hbk:dR ch=true:=by simpa using hbk
   rw[qDk]at hbk
   have hbk:=of_decide_eq_true hbk
   refine aO i ch rfl (at_ _ _ hch) ?_
   refine ifd (fun h40=>?_) (fun h40=>?_)
   ·refine aR i (i+1) rfl rfl (by omega) (by omega) ?_
    intro r1
    refine gIn ?_ ?_ fun b' c' hb'=>?_
    ·show(ys.length+1)*16≤_;omega
    ·exact Nat.le_trans (m:=100000000) (show ys.length+1≤_ by omega) (by decide)
    refine⟨((i+1),L++[(s.drop i).take ((i+1)-i)],_,b',c'),⟨by dsimp only;omega,by simp only[List.length_append,List.length_cons,List.length_nil];omega,?_,?_⟩,by dsimp only;omega,⟨⟨rfl,rfl,rfl,trivial⟩,⟨rfl,trivial⟩,rfl,rfl⟩⟩
    ·dsimp only
     rw[dQ,hys,eV]
    ·dsimp only
     rw[List.append_assoc,List.singleton_append]
     (rw[←hT,qCv hdl (by omega)];simp[hch,List.take_one,←bJ hch])
   ·refine aO i ch rfl (at_ _ _ hch) ?_
    refine iIn (fun h41=>?_) (fun h41=>?_)
    ·have h41:=of_decide_eq_true h41
     refine aR i (i+1) rfl rfl (by omega) (by omega) ?_
     intro r1
     refine gIn ?_ ?_ fun b' c' hb'=>?_
     ·show(ys.length+1)*16≤_;omega
     ·exact Nat.le_trans (m:=100000000) (show ys.length+1≤_ by omega) (by decide)
     refine⟨((i+1),L++[(s.drop i).take ((i+1)-i)],_,b',c'),⟨by dsimp only;omega,by simp only[List.length_append,List.length_cons,List.length_nil];omega,?_,?_⟩,by dsimp only;omega,⟨⟨rfl,rfl,rfl,trivial⟩,⟨rfl,trivial⟩,rfl,rfl⟩⟩
     ·dsimp only
      rw[dQ,hys,eV]
     ·dsimp only
      rw[List.append_assoc,List.singleton_append]
      (rw[←hT,qCv hdl (by omega)];simp[hch,List.take_one,←bJ hch])
    ·have h41:=of_decide_eq_false h41
     refine⟨(i+1,L,ys,b,c),⟨by dsimp only;omega,by dsimp only;omega,hys,?_⟩,by dsimp only;omega,⟨⟨rfl,rfl,rfl,trivial⟩,⟨rfl,trivial⟩,rfl,rfl⟩⟩
     dsimp only
     rw[←hT,toks_sp hdl (by omega)]
 ·have e:cZ s.length (s.drop i)=[]:=by
   rw[List.drop_eq_nil_of_le (by omega)]
   cases s.length<;>rfl
  rw[e,List.append_nil]at hT
  refine lIn (fun k:Nat=>k≤s.length) (fun k=>⟨[(0,.val (.string (mkS s))),(4,.row 0 b ys.length c),(7,.val (.int .i64 k))],[(0,some (.row b c 9 1 ys))],1,μ,Mem.nil⟩) (fun k=>s.length-k)
   0 (Nat.zero_le _) (fun _=>⟨rfl,rfl⟩) ⟨⟨rfl,rfl,rfl,trivial⟩,⟨rfl,trivial⟩,rfl,rfl⟩ ?_
  intro k hk
  refine ifd (fun hks=>?_) (fun hks=>?_)
  ·obtain⟨ck,hck⟩:∃ck,s[k]?=some ck:=⟨_,List.getElem?_eq_getElem (by omega)⟩
   have hc:=hb ck (List.mem_of_getElem? hck)
   have next:∀K,K=k+1→K≤s.length:=fun K e=>by omega
   refine aO k ck rfl (at_ _ _ hck) ?_
   refine aM (fun h10=>?_) (fun h10=>?_)
   ·refine aO k ck rfl (at_ _ _ hck) ?_
    refine aC (by omega) (by omega) ?_
    refine cGv (bX _ _ _ _) ?_
    refine iIn (fun h=>?_) (fun h=>?_)
    ·rw[decide_eq_true ⟨by omega,by omega⟩]at h
     cases h
    ·exact aC (by omega) (by omega) ⟨k+1,by omega,by omega,⟨⟨rfl,rfl,rfl,trivial⟩,⟨rfl,trivial⟩,rfl,rfl⟩⟩
   ·exact aC (by omega) (by omega) ⟨k+1,by omega,by omega,⟨⟨rfl,rfl,rfl,trivial⟩,⟨rfl,trivial⟩,rfl,rfl⟩⟩
  ·refine ifd (fun h=>absurd h (by omega)) (fun _=>?_)
   refine rFz [0] fun μ4 hle4 hno hat=> .inl ⟨_,rfl,?_⟩
   rw[hys,oL]at hat ⊢
   rw[←hT]
   exact Rows.sl hat (Nm.rows (L.map mkS)) (by rw[List.length_map,List.length_map];exact Nat.le_trans (m:=1000) (by omega) (by decide))
end
end Go.Vx
namespace Go.Vx
open Go.Proofs Classical
theorem qMh{l:List Bs}(h:qBq l=true){t:Bs}(ht:t∈l):tokB t=true:=by
 rw[qBq,Bool.and_eq_true,List.all_eq_true]at h
 exact h.1 t ht
theorem qCj{l:List Bs}(h:qBq l=true):(cD l []).2.length≤9:=by
 rw[qBq,Bool.and_eq_true]at h
 exact of_decide_eq_true h.2
theorem qMf{t:Bs}(h:tokB t=true):∃b r,t=b::r∧(b.toNat=63→yG r=true):=by
 cases t with
 |nil=>cases h
 |cons b r=>
  refine⟨b,r,rfl,fun hb=>?_⟩
  have e:b=63:=UInt8.toNat_inj.1 hb
  subst e
  rw[tokB,Bool.and_eq_true,Bool.or_eq_true]at h
  rcases h.2 with h|h
  ·cases h
  ·exact h
theorem fZ{r:Bs}{l names:List Bs}{b:UInt8}(hb:b.toNat=63):cD ((b::r)::l) names=(qBc (names.idxOf (b::r))::(cD l (iP names (b::r))).1,(cD l (iP names (b::r))).2):=by
 have e:b=63:=UInt8.toNat_inj.1 hb
 subst e
 rw[cD,if_pos (by simp)]
theorem qMs{r:Bs}{l names:List Bs}{b:UInt8}(hb:b.toNat≠63):cD ((b::r)::l) names=((b::r)::(cD l names).1,(cD l names).2):=by
 have e:b≠63:=fun e=>hb (by rw[e];rfl)
 rw[cD,if_neg (by simpa using e)]
section
variable {μ:Mem}
set_option maxHeartbeats 1000000 in
theorem uB{l:List Bs}{base:Option Addr}{cap:Nat}(hs:Sl μ 1 base l.length ((l.map mkS).map D.s))(hl:l.length≤400)(hB:qBq l=true):
  Spec Tryz.prog 184 [.slice base l.length cap] μ fun w μ'=>∃tv,w= .tuple #[tv,.int .i64 ((cD l []).2.length:Nat),.bool true]∧NmV μ' ((cD l []).1.map mkS) tv:=by
 have hcount:=qCj hB
 refine Spec.mk Tryz.func184 (by kernel_rfl) ?_
 intro r0
 intro r1
 refine lIn (fun z:Nat×List Bs×List Bs×(List Value×Option Nat×Nat)×(List Value×Option Nat×Nat)=>z.1≤l.length∧z.2.2.2.1.1=oL z.2.1∧z.2.2.2.2.1=oL z.2.2.1∧z.2.2.1.length=z.1∧cD l []=(z.2.2.1++(cD (l.drop z.1) z.2.1).1,(cD (l.drop z.1) z.2.1).2))
  (fun(i,_,_,(ys1,b1,c1),(ys2,b2,c2))=>⟨[(5,.row 0 b1 ys1.length c1),(6,.row 1 b2 ys2.length c2),(14,.val (.slice base l.length cap)),(15,.val (.int .i64 l.length)),(16,.val (.int .i64 i))],[(1,some (.row b2 c2 9 1 ys2)),(0,some (.row b1 c1 9 1 ys1))],2,μ,Mem.nil⟩) (fun z=>l.length-z.1)
  (0,[],[],([],some r0,0),([],some r1,0)) ⟨Nat.zero_le _,rfl,rfl,rfl,rfl⟩ (fun(_,_,_,(_,_,_),(_,_,_))=>⟨rfl,rfl⟩) ⟨⟨rfl,rfl,rfl,rfl,rfl,trivial⟩,⟨rfl,rfl,trivial⟩,rfl,rfl⟩ ?_
 rintro⟨i,names,out,⟨ys1,b1,c1⟩,⟨ys2,b2,c2⟩⟩ ⟨hi,hy1,hy2,ho,hN⟩
 dsimp only at hi hy1 hy2 ho hN
 have hl1:ys1.length=names.length:=by rw[hy1,tJ]
 have hl2:ys2.length=out.length:=by rw[hy2,tJ]
 refine ifd (fun hlt=>?_) (fun hlt=>?_)
 ·obtain⟨t,ht⟩:∃t,l[i]?=some t:=⟨_,List.getElem?_eq_getElem (by omega)⟩
  have w_:=qMf (qMh hB (List.mem_of_getElem? ht))
  obtain⟨b0,rt,rfl,hnm⟩:=w_
  have w_:=Nm.elem (s:=mkS (b0::rt)) hs (i:=i) (by rw[List.getElem?_map,ht];rfl)
  obtain⟨ad,hel⟩:=w_
  have hnl:names.length≤9:=by
   have:=eS (l.drop i) names
   have e:(cD (l.drop i) names).2=(cD l []).2:=by rw[hN]
   rw[e]at this
   omega
  refine eIn hel ?_
  refine aO 0 b0 rfl rfl ?_
  refine aM (fun hb63=>?_) (fun hb63=>?_)
  ·have hb63:b0.toNat≠63:=by omega
   intro r3
   refine gIn ?_ ?_ fun b4 c4 hb4=>?_
   ·show(ys2.length+1)*16≤_;omega
   ·exact Nat.le_trans (m:=100000000) (show ys2.length+1≤_ by omega) (by decide)
   refine aC (by omega) (by omega) ⟨(i+1,names,out++[b0::rt],(ys1,b1,c1),(_,b4,c4)),⟨by dsimp only;omega,hy1,by dsimp only;rw[dQ,hy2],by simp[ho],?_⟩,by dsimp only;omega,⟨⟨rfl,rfl,rfl,rfl,rfl,trivial⟩,⟨rfl,rfl,trivial⟩,rfl,rfl⟩⟩
   dsimp only
   rw[hN,bJ ht,qMs hb63]
   simp
  ·have hb63:b0.toNat=63:=by omega
   have hrn:=hnm hb63
   have hex:(mkS (b0::rt)).extract 1 (mkS (b0::rt)).size=mkS rt:=by
    rw[eV,fN];simp
   have hp:∀μ,aP Tryz.prog 228 [.string ((mkS (b0::rt)).extract 1 (mkS (b0::rt)).size)] μ (.tuple #[.int .i64 0,.bool false]):=fun μ=>by
    rw[hex];exact wA hrn
   rw[mX,decide_eq_true_eq]at hrn
   have hq:∀μ,aP Tryz.prog 199 [.string ((mkS (b0::rt)).extract 1 (mkS (b0::rt)).size)] μ (.bool true):=fun μ=>by
    rw[hex]
    have:=eD (mkS rt) (Nat.le_trans hrn.2.1 (by decide)) μ
    rwa [decide_eq_true hrn]at this
   have hsz:(mkS (b0::rt)).size=rt.length+1:=fN _
   refine aR 1 (mkS (b0::rt)).size rfl rfl (by omega) (Int.le_refl _) ?_
   refine cGv (hp _) ?_
   refine aR 1 (mkS (b0::rt)).size rfl rfl (by omega) (Int.le_refl _) ?_
   refine cGv (hq _) ?_
   refine iIn (fun h=>nomatch h) (fun _=>?_)
   refine lIn (fun k:Nat=>k≤names.length∧∀(j:Nat) x,j<k→names[j]?=some x→x≠b0::rt)
    (fun k=>⟨[(5,.row 0 b1 ys1.length c1),(6,.row 1 b2 ys2.length c2),(8,.val (.string (mkS (b0::rt)))),(11,.val (.int .i64 k)),(14,.val (.slice base l.length cap)),(15,.val (.int .i64 l.length)),(16,.val (.int .i64 i))],[(1,some (.row b2 c2 9 1 ys2)),(0,some (.row b1 c1 9 1 ys1))],2,μ,Mem.nil⟩) (fun k=>names.length-k)
    0 ⟨Nat.zero_le _,fun j x hj=>by omega⟩ (fun _=>⟨rfl,rfl⟩) ⟨⟨rfl,rfl,rfl,rfl,rfl,rfl,rfl,trivial⟩,⟨rfl,rfl,trivial⟩,rfl,rfl⟩ ?_
   rintro k ⟨hk,hall⟩
   refine ifd (fun hkn=>?_) (fun hkn=>?_)
   ·obtain⟨x,hx⟩:∃x,names[k]?=some x:=⟨_,List.getElem?_eq_getElem (by omega)⟩
    refine bA k rfl (by omega) (bB (.string (mkS x)) (by rw[hy1,oL,List.getElem?_map,List.getElem?_map,hx];rfl) ?_)
    refine iIn (fun hne=>?_) (fun hne=>?_)
    ·have hne:mkS x≠mkS (b0::rt):=by simpa using hne
     refine aC (by omega) (by omega) ⟨k+1,⟨by omega,fun j y hj hy=>?_⟩,by omega,⟨⟨rfl,rfl,rfl,rfl,rfl,rfl,rfl,trivial⟩,⟨rfl,rfl,trivial⟩,rfl,rfl⟩⟩
     by_cases e:j=k
     ·subst e;rw[hx]at hy;cases hy
      exact fun e=>hne (by rw[e])
     ·exact hall j y (by omega) hy
    ·have hne:mkS x=mkS (b0::rt):=by simpa using hne
     have hxe:x=b0::rt:=bK hne
     have hix:names.idxOf (b0::rt)=k:=qNc hk hall (fun y hy=>by rw[hx]at hy;cases hy;exact hxe)
     refine ifd (fun hkl=>?_) (fun hkl=>?_)
     ·have hadd:iP names (b0::rt)=names++[b0::rt]:=by rw[iP,if_neg (by rw[hix];omega)]
      have hcnt:=eS (l.drop (i+1)) (iP names (b0::rt))
      have hcn2:(cD (l.drop (i+1)) (iP names (b0::rt))).2=(cD l []).2:=by rw[hN,bJ ht,fZ hb63]
      rw[hcn2,hadd,List.length_append,List.length_singleton]at hcnt
      intro r4
      refine gIn ?_ ?_ fun b3 c3 hb3=>?_
      ·show(ys1.length+1)*16≤_;omega
      ·exact Nat.le_trans (m:=100000000) (show ys1.length+1≤_ by omega) (by decide)
      refine cGv (cE (k:=k) (by omega)) ?_
      refine aD (by show 1+1≤_;decide) ?_
      intro r6
      refine gIn ?_ ?_ fun b4 c4 hb4=>?_
      ·show(ys2.length+1)*16≤_;omega
      ·exact Nat.le_trans (m:=100000000) (show ys2.length+1≤_ by omega) (by decide)
      refine aC (by omega) (by omega) ⟨(i+1,names++[b0::rt],out++[qBc k],(_,b3,c3),(_,b4,c4)),⟨by dsimp only;omega,(by dsimp only;rw[dQ,hy1]),?_,by simp[ho],?_⟩,by dsimp only;omega,⟨⟨rfl,rfl,rfl,rfl,rfl,trivial⟩,⟨rfl,rfl,trivial⟩,rfl,rfl⟩⟩
      ·dsimp only
       rw[dQ,hy2]
       exact congrArg (fun x=>oL out++[Value.string x]) (bO [63] [_])
      ·dsimp only
       rw[hN,bJ ht,fZ hb63,hix,hadd]
       simp
     ·have hadd:iP names (b0::rt)=names:=by rw[iP,if_pos (by rw[hix];omega)]
      have hcnt:=eS (l.drop (i+1)) (iP names (b0::rt))
      have hcn2:(cD (l.drop (i+1)) (iP names (b0::rt))).2=(cD l []).2:=by rw[hN,bJ ht,fZ hb63]
      rw[hcn2,hadd]at hcnt
      refine cGv (cE (k:=k) (by omega)) ?_
      refine aD (by show 1+1≤_;decide) ?_
      intro r6
      refine gIn ?_ ?_ fun b4 c4 hb4=>?_
      ·show(ys2.length+1)*16≤_;omega
      ·exact Nat.le_trans (m:=100000000) (show ys2.length+1≤_ by omega) (by decide)
      refine aC (by omega) (by omega) ⟨(i+1,names,out++[qBc k],(ys1,b1,c1),(_,b4,c4)),⟨by dsimp only;omega,hy1,?_,by simp[ho],?_⟩,by dsimp only;omega,⟨⟨rfl,rfl,rfl,rfl,rfl,trivial⟩,⟨rfl,rfl,trivial⟩,rfl,rfl⟩⟩
      ·dsimp only
       rw[dQ,hy2]
       exact congrArg (fun x=>oL out++[Value.string x]) (bO [63] [_])
      ·dsimp only
       rw[hN,bJ ht,fZ hb63,hix,hadd]
       simp
   ·have hix:names.idxOf (b0::rt)=k:=qNc hk hall (fun y hy=>by have:=(List.getElem?_eq_some_iff.1 hy).1;omega)
    refine ifd (fun hkl=>?_) (fun hkl=>?_)
    ·have hadd:iP names (b0::rt)=names++[b0::rt]:=by rw[iP,if_neg (by rw[hix];omega)]
     have hcnt:=eS (l.drop (i+1)) (iP names (b0::rt))
     have hcn2:(cD (l.drop (i+1)) (iP names (b0::rt))).2=(cD l []).2:=by rw[hN,bJ ht,fZ hb63]
     rw[hcn2,hadd,List.length_append,List.length_singleton]at hcnt
     intro r4
     refine gIn ?_ ?_ fun b3 c3 hb3=>?_
     ·show(ys1.length+1)*16≤_;omega
     ·exact Nat.le_trans (m:=100000000) (show ys1.length+1≤_ by omega) (by decide)
     refine cGv (cE (k:=k) (by omega)) ?_
     refine aD (by show 1+1≤_;decide) ?_
     intro r6
     refine gIn ?_ ?_ fun b4 c4 hb4=>?_
     ·show(ys2.length+1)*16≤_;omega
     ·exact Nat.le_trans (m:=100000000) (show ys2.length+1≤_ by omega) (by decide)
     refine aC (by omega) (by omega) ⟨(i+1,names++[b0::rt],out++[qBc k],(_,b3,c3),(_,b4,c4)),⟨by dsimp only;omega,(by dsimp only;rw[dQ,hy1]),?_,by simp[ho],?_⟩,by dsimp only;omega,⟨⟨rfl,rfl,rfl,rfl,rfl,trivial⟩,⟨rfl,rfl,trivial⟩,rfl,rfl⟩⟩
     ·dsimp only
      rw[dQ,hy2]
      exact congrArg (fun x=>oL out++[Value.string x]) (bO [63] [_])
     ·dsimp only
      rw[hN,bJ ht,fZ hb63,hix,hadd]
      simp
    ·have hadd:iP names (b0::rt)=names:=by rw[iP,if_pos (by rw[hix];omega)]
     have hcnt:=eS (l.drop (i+1)) (iP names (b0::rt))
     have hcn2:(cD (l.drop (i+1)) (iP names (b0::rt))).2=(cD l []).2:=by rw[hN,bJ ht,fZ hb63]
     rw[hcn2,hadd]at hcnt
     refine cGv (cE (k:=k) (by omega)) ?_
     refine aD (by show 1+1≤_;decide) ?_
     intro r6
     refine gIn ?_ ?_ fun b4 c4 hb4=>?_
     ·show(ys2.length+1)*16≤_;omega
     ·exact Nat.le_trans (m:=100000000) (show ys2.length+1≤_ by omega) (by decide)
     refine aC (by omega) (by omega) ⟨(i+1,names,out++[qBc k],(ys1,b1,c1),(_,b4,c4)),⟨by dsimp only;omega,hy1,?_,by simp[ho],?_⟩,by dsimp only;omega,⟨⟨rfl,rfl,rfl,rfl,rfl,trivial⟩,⟨rfl,rfl,trivial⟩,rfl,rfl⟩⟩
     ·dsimp only
      rw[dQ,hy2]
      exact congrArg (fun x=>oL out++[Value.string x]) (bO [63] [_])
     ·dsimp only
      rw[hN,bJ ht,fZ hb63,hix,hadd]
      simp
 ·have e:l.drop i=[]:=List.drop_eq_nil_of_le (by omega)
  rw[e]at hN
  have hN:cD l []=(out,names):=by rw[hN,cD,List.append_nil]
  refine rFz [1] fun μ4 hle4 hno hat=> .inl ⟨.slice (b2.map fun r=>⟨r,0,none⟩) ys2.length c2,?_,?_⟩
  ·show Value.tuple #[_,.int .i64 (ys1.length:Nat),.bool true]=_
   rw[hN,hl1]
  ·rw[hN]
   rw[hy2,oL]at hat ⊢
   exact Rows.sl hat (Nm.rows (out.map mkS)) (by rw[List.length_map,List.length_map];exact Nat.le_trans (m:=1000) (by omega) (by decide))
end
end Go.Vx
namespace Go.Vx
open Go.Proofs Classical
section
variable {μ:Mem}
theorem gR{ts:List T}{tl:T}{base:Option Addr}{cap:Nat}{vt:Value}(hsl:Sl μ 4 base ts.length ((ts.map T.tm).map Tm.d))(hn:ts.length≤100000)(ht:RepV μ tl.tm.d vt):
  Spec Tryz.prog 259 [.slice base ts.length cap,vt] μ fun v μ'=>RepV μ' (pZ ts tl).tm.d v:=by
 have w_:=Tm.invV ht
 obtain⟨q,rfl⟩:=w_
 refine Spec.mk Tryz.func259 (by kernel_rfl) ?_
 intro r3 r4
 refine aC (by omega) (by omega) ?_
 refine lIn (fun z:Nat×T×(Option Addr×Nat)×Mem=>z.1≤ts.length∧μ.Le z.2.2.2∧z.2.1=pZ (ts.drop z.1) tl∧RepV z.2.2.2 z.2.1.tm.d (.agg #[.int .i64 z.2.1.tm.kind,.int .i64 z.2.1.tm.num,.string z.2.1.tm.name,.slice z.2.2.1.1 z.2.1.tm.args.length z.2.2.1.2]))
  (fun(j,x,p,μ')=>⟨[(0,.val (.slice base ts.length cap)),(3,.loc 0 r3 0),(4,.loc 1 r4 0),(5,.val (.int .i64 ((j:Int)-1)))],
   [(0,some (.cells r3 [.val (.int .i64 x.tm.kind),.val (.int .i64 x.tm.num),.val (.string x.tm.name),.val (.slice p.1 x.tm.args.length p.2)] 75)),(1,some (.cells r4 [.val (.int .i64 0),.val (.int .i64 0),.val (.string ⟨#[]⟩),.val (.slice none 0 0)] 75))],2,μ',Mem.nil⟩) (fun z=>z.1)
  (ts.length,tl,q,μ) ⟨Nat.le_refl _,Mem.Le.refl _,by dsimp only;rw[List.drop_length,pZ],ht⟩ (fun(_,_,(_,_),_)=>⟨rfl,rfl⟩) ⟨⟨rfl,rfl,rfl,rfl,trivial⟩,⟨rfl,rfl,trivial⟩,rfl,rfl⟩ ?_
 rintro⟨j,x,⟨p1,p2⟩,μ1⟩ ⟨hj,hle,hx,hr⟩
 dsimp only at hj hle hx hr
 refine ifd (fun hlt=>?_) (fun hlt=>?_)
 ·obtain⟨i,rfl⟩:∃i,j=i+1:=⟨j-1,by omega⟩
  have w_:=aSo (l:=ts) (i:=i) (by omega)
  obtain⟨t,ht'⟩:=w_
  have w_:=T.elemL (hsl.mono hle) ht'
  obtain⟨ad,p,hel,hrt⟩:=w_
  have ei:((i+1:Nat):Int)-1=(i:Int):=by omega
  rw[ei]
  refine eIn hel ?_
  refine cPl (pI hrt hr) fun v μ2 hle2 hR=>?_
  have w_:=Tm.invV hR
  obtain⟨q2,rfl⟩:=w_
  refine aC (by omega) (by omega) ⟨(i,.pair t x,q2,μ2),⟨by dsimp only;omega,hle.trans hle2,?_,hR⟩,by dsimp only;omega,⟨⟨rfl,rfl,rfl,rfl,trivial⟩,⟨rfl,rfl,trivial⟩,rfl,rfl⟩⟩
  dsimp only
  rw[bJ ht',pZ,hx]
 ·obtain rfl:j=0:=by omega
  rw[List.drop_zero]at hx
  refine rPl ?_
  rw[←hx]
  exact hr
theorem qAz{t:Bs}{x:T}(h:qBm t=some x)(hl:t.length≤400):Spec Tryz.prog 258 [.string (mkS t)] μ fun w μ'=>∃tv,w= .tuple #[tv,.bool true]∧RepV μ' x.tm.d tv:=by
 have hsz:(mkS t).size=t.length:=fN t
 refine Spec.mk Tryz.func258 (by kernel_rfl) ?_
 intro r2
 refine cGv (eD (mkS t) (by rw[hsz];exact Nat.le_trans hl (by decide)) _) ?_
 refine ifd (fun hn=>?_) (fun hn=>?_)
 ·unfold qBm at h
  rw[if_pos (by rw[mX];exact decide_eq_true hn)]at h
  cases h
  refine cPl (gE (mkS t)) fun v μ2 hle2 hR=>?_
  have w_:=Tm.invV hR
  obtain⟨p,rfl⟩:=w_
  exact rPl ⟨_,rfl,hR⟩
 ·unfold qBm at h
  rw[if_neg (by rw[mX];simpa using hn)]at h
  obtain⟨d,k,rfl,hd,hk,rfl⟩:∃(d:UInt8) (k:Nat),t=[63,d]∧d.toNat=48+k∧k≤9∧x= .var k:=by
   split at h
   ·rename_i d
    split at h
    ·rename_i hd
     cases h
     simp only[Bool.and_eq_true,decide_eq_true_eq]at hd
     have h1:=UInt8.le_iff_toNat_le.1 hd.1
     have h2:=UInt8.le_iff_toNat_le.1 hd.2
     have e1:(48:UInt8).toNat=48:=rfl
     have e2:(57:UInt8).toNat=57:=rfl
     exact⟨d,d.toNat-48,rfl,by omega,by omega,rfl⟩
    ·cases h
   ·cases h
  have hde:d=UInt8.ofNat (48+k):=by
   apply UInt8.toNat_inj.1
   rw[hd,UInt8.toNat_ofNat']
   omega
  subst hde
  have hex:(mkS [63,UInt8.ofNat (48+k)]).extract 1 (mkS [63,UInt8.ofNat (48+k)]).size=mkS [UInt8.ofNat (48+k)]:=by
   rw[eV,fN];rfl
  have hp:∀μ,aP Tryz.prog 228 [.string ((mkS [63,UInt8.ofNat (48+k)]).extract 1 (mkS [63,UInt8.ofNat (48+k)]).size)] μ (.tuple #[.int .i64 k,.bool true]):=fun μ=>by
   rw[hex];exact vV hk
  have hs2:(mkS [63,UInt8.ofNat (48+k)]).size=2:=fN _
  intro r4
  refine ifd (fun _=>?_) (fun h=>absurd h (by omega))
  refine aO 0 63 rfl rfl ?_
  refine iIn (fun _=>?_) (fun h=>absurd h (by decide))
  refine aR 1 (mkS [63,UInt8.ofNat (48+k)]).size rfl rfl (by omega) (Int.le_refl _) ?_
  refine cGv (hp _) ?_
  refine iIn (fun h=>nomatch h) (fun _=>?_)
  have hrep:RepV μ (T.var k).tm.d (varV k):=vC _
  refine cGv (oA (T.var k).tm hrep (var_wd ⟨by omega,by omega⟩)) ?_
  have hsh:(T.var (k:Int)).tm.Sh:=⟨.var k,⟨by omega,by omega⟩,rfl⟩
  refine iIn (fun h=>?_) (fun _=>?_)
  ·rw[decide_eq_true hsh]at h
   cases h
  ·exact rPl ⟨_,rfl,hrep⟩
def ReadT(L:List Bs)(i:Nat)(x:T)(rest:List Bs)(w:Value)(μ':Mem):Prop:=∃tv,∃j:Nat,w= .tuple #[tv,.int .i64 j,.bool true]∧RepV μ' x.tm.d tv∧rest=L.drop j∧i<j∧j≤L.length
theorem gF{α:Type}{l:List α}{i:Nat}{t:α}{r:List α}(h:l.drop i=t::r):l[i]?=some t∧r=l.drop (i+1)∧i<l.length:=by
 have hi:i<l.length:=by
  rcases Nat.lt_or_ge i l.length with k|k
  ·exact k
  ·rw[List.drop_eq_nil_of_le k]at h;cases h
 rw[List.drop_eq_getElem_cons hi]at h
 have h1:=List.cons.inj h
 exact⟨by rw[List.getElem?_eq_getElem hi,h1.1],h1.2.symm,hi⟩
theorem qNf{n:Nat}{l:List Bs}{more:List T}{c:Bs}{r1:List Bs}(h:rdN n l=some (more,c::r1)):∃t r,∃m,n=m+1∧l=t::r∧((more=[]∧(t=[41]∨t=[46])∧c=t∧r1=r)∨(t≠[41]∧t≠[46]∧∃x r',∃more',rdT m (t::r)=some (x,r')∧rdN m r'=some (more',c::r1)∧more=x::more')):=by
 match n,l,h with
 |m+1,t::r,h=>
  refine⟨t,r,m,rfl,rfl,?_⟩
  rw[rdN]at h
  by_cases hc:(t==[41]||t==[46])=true
  ·rw[if_pos hc]at h
   cases h
   simp only[Bool.or_eq_true,beq_iff_eq]at hc
   exact .inl ⟨rfl,hc,rfl,rfl⟩
  ·rw[if_neg hc]at h
   simp only[Bool.or_eq_true,beq_iff_eq,not_or]at hc
   refine .inr ⟨hc.1,hc.2,?_⟩
   split at h
   ·rename_i x r' he
    have w_:=Option.map_eq_some_iff.1 h
    obtain⟨⟨a,b⟩,h1,h2⟩:=w_
    cases h2
    exact⟨x,r',a,he,h1,rfl⟩
   ·cases h
theorem qLk{n:Nat}{l:List Bs}{x:T}{rest:List Bs}(h:rdT n l=some (x,rest)):∃t r,∃m,n=m+1∧l=t::r∧t≠[41]∧t≠[46]∧
  ((t≠[40]∧qBm t=some x∧rest=r)∨(t=[40]∧∃items c r1,rdN m r=some (items,c::r1)∧((c=[41]∧x=pZ items .nil∧rest=r1)∨(c=[46]∧items≠[]∧∃tl r2,rdT m r1=some (tl,[41]::r2)∧x=pZ items tl∧rest=r2)))):=by
 match n,l,h with
 |m+1,t::r,h=>
  refine⟨t,r,m,rfl,rfl,?_⟩
  rw[rdT]at h
  by_cases hc:(t==[41]||t==[46])=true
  ·rw[if_pos hc]at h
   cases h
  ·rw[if_neg hc]at h
   simp only[Bool.or_eq_true,beq_iff_eq,not_or]at hc
   refine⟨hc.1,hc.2,?_⟩
   by_cases h40:t=[40]
   ·subst h40
    rw[if_pos (show(([40]:Bs)==[40])=true by decide)]at h
    refine .inr ⟨rfl,?_⟩
    split at h
    ·rename_i items c r1 he
     refine⟨items,c,r1,he,?_⟩
     by_cases h41:c=[41]
     ·subst h41
      rw[if_pos (show(([41]:Bs)==[41])=true by decide)]at h
      cases h
      exact .inl ⟨rfl,rfl,rfl⟩
     ·rw[if_neg (by simpa using h41)]at h
      by_cases h46:(c==[46]&& !items.isEmpty)=true
      ·rw[if_pos h46]at h
       simp only[Bool.and_eq_true,beq_iff_eq,Bool.not_eq_true',List.isEmpty_eq_false_iff]at h46
       refine .inr ⟨h46.1,h46.2,?_⟩
       split at h
       ·rename_i tl d r2 he2
        by_cases hd:d=[41]
        ·subst hd
         rw[if_pos (show(([41]:Bs)==[41])=true by decide)]at h
         cases h
         exact⟨tl,_,he2,rfl,rfl⟩
        ·rw[if_neg (by simpa using hd)]at h
         cases h
       ·cases h
      ·rw[if_neg h46]at h
       cases h
    ·cases h
   ·rw[if_neg (by simpa using h40)]at h
    have w_:=Option.map_eq_some_iff.1 h
    obtain⟨a,h1,h2⟩:=w_
    cases h2
    exact .inl ⟨h40,h1,rfl⟩
end
end Go.Vx
namespace Go.Vx
open Go.Proofs Classical
theorem Nm.tok{μ:Mem}{L:List Bs}{base:Option Addr}(hs:Sl μ 1 base L.length ((L.map mkS).map D.s)){i:Nat}{t:Bs}(ht:L[i]?=some t):∃ad,ElemAt μ base L.length 1 (i:Int) ad [.string (mkS t)]:=
 Nm.elem hs (by rw[List.getElem?_map,ht];rfl)
theorem nd{p:Prop}[Decidable p](h:(!decide p)=true):¬p:=of_decide_eq_false (by simpa only[Bool.not_eq_true']using h)
theorem nd'{p:Prop}[Decidable p](h:(!decide p)=false):p:=of_decide_eq_true (by simpa only[Bool.not_eq_false']using h)
theorem qDj{μ:Mem}:RepV μ T.nil.tm.d (.agg #[.int .i64 0,.int .i64 0,.string ⟨#[]⟩,.slice none 0 0]):=by
 rw[T.tm,Tm.d_mk]
 exact⟨_,rfl,RepS.int (RepS.int (RepS.str (RepS.last (Rep.nilSl 4))))⟩
set_option maxHeartbeats 2000000 in
theorem qAn{L:List Bs}(hL:L.length≤400)(hlen:∀t∈L,t.length≤400){base:Option Addr}{cap:Nat}:∀(n:Nat) {μ:Mem} {i:Nat} {x:T} {rest:List Bs},Sl μ 1 base L.length ((L.map mkS).map D.s)→rdT n (L.drop i)=some (x,rest)→
  Spec Tryz.prog 230 [.slice base L.length cap,.int .i64 i] μ fun w μ'=>ReadT L i x rest w μ':=fun n=>by
 induction n using Nat.strongRecOn with
 |ind n ih=>
 intro μ i x rest hs h
 have w_:=qLk h
 obtain⟨t,r,m,rfl,hd,hn41,hn46,hcase⟩:=w_
 have w_:=gF hd
 obtain⟨ht,hr0,hil⟩:=w_
 have w_:=Nm.tok hs ht
 obtain⟨ad,hel⟩:=w_
 refine Spec.mk Tryz.func230 (by kernel_rfl) ?_
 intro r4
 refine ifd (fun h=>absurd h (by omega)) (fun _=>?_)
 refine eIn hel ?_
 refine ifd (fun h=>absurd (bK h) hn41) (fun _=>?_)
 refine eIn hel ?_
 refine iIn (fun h=>absurd (bK (of_decide_eq_true h)) hn46) (fun _=>?_)
 refine eIn hel ?_
 refine aM (fun h40=>?_) (fun h40=>?_)
 ·rcases hcase with⟨_,hat,hrest⟩|⟨e40,_⟩
  ·refine eIn hel ?_
   refine cPl (qAz hat (hlen t (List.mem_of_getElem? ht))) fun v μ1 hle1 hR=>?_
   obtain⟨tv,rfl,hr⟩:=hR
   have w_:=Tm.invV hr
   obtain⟨q,rfl⟩:=w_
   intro r7
   refine aC (by omega) (by omega) ?_
   exact rPl ⟨_,i+1,rfl,hr,by rw[hrest];exact hr0,by omega,by omega⟩
  ·exact absurd (congrArg mkS e40) h40
 ·have h40:t=[40]:=bK h40
  rcases hcase with⟨n40,_⟩|⟨_,items,c0,r1,hN0,hfin⟩
  ·exact absurd h40 n40
  rw[hr0]at hN0
  intro r9
  refine aC (by omega) (by omega) ?_
  refine lIn (fun z:Nat×List T×Nat×List T×(List Value×Option Nat×Nat)×Mem=>i<z.1∧z.1≤L.length∧z.2.2.1≤m∧rdN z.2.2.1 (L.drop z.1)=some (z.2.2.2.1,c0::r1)∧items=z.2.1++z.2.2.2.1∧Rows z.2.2.2.2.2 4 ((z.2.1.map T.tm).map Tm.d) z.2.2.2.2.1.1∧μ.Le z.2.2.2.2.2∧z.2.1.length≤z.1)
   (fun(i1,_,_,_,(ys,b,c),μ1)=>⟨[(0,.val (.slice base L.length cap)),(1,.val (.int .i64 i1)),(4,.loc 0 r4 0),(9,.row 1 b ys.length c)],[(1,some (.row b c 75 4 ys)),(0,some (.cells r4 [.val (.int .i64 0),.val (.int .i64 0),.val (.string ⟨#[]⟩),.val (.slice none 0 0)] 75))],2,μ1,Mem.nil⟩) (fun z=>L.length-z.1)
   (i+1,[],m,items,([],some r9,0),μ) ⟨by dsimp only;omega,by dsimp only;omega,Nat.le_refl _,hN0,rfl,.nil,Mem.Le.refl _,Nat.zero_le _⟩ (fun(_,_,_,_,(_,_,_),_)=>⟨rfl,rfl⟩) ⟨⟨rfl,rfl,rfl,rfl,trivial⟩,⟨rfl,rfl,trivial⟩,rfl,rfl⟩ ?_
  rintro⟨i1,D,m1,more,⟨ys,b,c⟩,μ1⟩ ⟨hi1,hi1l,hm1,hN,hit,hrows,hle,hDl⟩
  dsimp only at hi1 hi1l hm1 hN hit hrows hle hDl
  have hyl:=hrows.len
  rw[List.length_map,List.length_map]at hyl
  have hyl:=hyl.symm
  have w_:=qNf hN
  obtain⟨t1,rr,m2,rfl,hd1,hcs⟩:=w_
  have w_:=gF hd1
  obtain⟨ht1,hrr,hi1lt⟩:=w_
  have w_:=Nm.tok (hs.mono hle) ht1
  obtain⟨ad1,hel1⟩:=w_
  refine ifd (fun _=>?_) (fun h=>absurd h (by omega))
  refine eIn hel1 ?_
  rcases hcs with⟨hm0,htc,hct,hr1⟩|⟨hn1,hn2,x',r',more',hT,hN',hmore⟩
  ·replace hct:=hct.symm
   subst hct
   have he1:r1=L.drop (i1+1):=by rw[hr1,hrr]
   refine aM (fun h41=>?_) (fun h41=>?_)
   ·refine eIn hel1 ?_
    have e46:t1=[46]:=htc.resolve_left fun e=>h41 (congrArg mkS e)
    refine iIn (fun h=>?_) (fun h=>?_)
    ·subst e46
     exact absurd rfl (nd h)
    ·clear h
     intro r13
     refine ifd (fun _=>?_) (fun h=>absurd h (by omega))
     have w_:=Nm.tok (hs.mono hle) ht1
     obtain⟨ad2,hel2⟩:=w_
     refine eIn hel2 ?_
     refine iIn (fun h46=>?_) (fun h46=>?_)
     ·have h46:t1=[46]:=bK (of_decide_eq_true h46)
      rcases hfin with⟨e41,_⟩|⟨_,hne,tl,r2,htl,hx,hrest⟩
      ·rw[e41]at h46;cases h46
      refine aC (by omega) (by omega) ?_
      rw[he1]at htl
      refine cPl (ih m (by omega) (hs.mono hle) htl) fun v2 μ2 hle2 hR2=>?_
      obtain⟨tv2,j2,rfl,hr2,hj2,hij2,hjl2⟩:=hR2
      have w_:=Tm.invV hr2
      obtain⟨q2,rfl⟩:=w_
      intro r14
      refine iIn (fun h=>nomatch h) (fun _=>?_)
      have w_:=gF hj2.symm
      obtain⟨hj41,hj2e,hj2l⟩:=w_
      have hDne:D.length≠0:=fun e=>hne (by rw[hit,hm0,List.append_nil];exact List.eq_nil_of_length_eq_zero e)
      refine iIn (fun h=>absurd (of_decide_eq_true h) (by omega)) (fun _=>?_)
      refine ifd (fun h=>absurd h (by omega)) (fun _=>?_)
      have w_:=Nm.tok ((hs.mono hle).mono hle2) hj41
      obtain⟨ad3,hel3⟩:=w_
      refine eIn hel3 ?_
      refine iIn (fun h=>absurd rfl (nd h)) (fun _=>?_)
      refine bG [1] fun μ4 hle4 hno4 hat4=>?_
      have hsl4:Sl μ4 4 (b.map fun r=>(⟨r,0,none⟩:Addr)) D.length ((D.map T.tm).map Tm.d):=by
       have k:=Rows.sl hat4 (hrows.mono (hle2.trans hle4)) (Nat.le_trans (m:=1000) (by omega) (by decide))
       have w_:=Rep.sl k
       obtain⟨bz,cz,ez,hsz⟩:=w_
       have w_:=Value.slice.inj ez
       obtain⟨e1,e2,_⟩:=w_
       rw[List.length_map,List.length_map]at hsz
       rwa [←e1]at hsz
      rw[hyl]
      refine cB (gR (tl:=tl) hsl4 (by omega) (hr2.mono hle4)) fun v5 μ5 hle5 hR5=>?_
      have w_:=Tm.invV hR5
      obtain⟨q5,rfl⟩:=w_
      refine aC (by omega) (by omega) ?_
      refine rPl ⟨_,j2+1,rfl,?_,?_,by omega,by omega⟩
      ·(rw[hx,hit,hm0,List.append_nil];exact hR5)
      ·(rw[hrest];exact hj2e)
     ·have h46:t1≠[46]:=fun e=>by rw[e]at h46;exact absurd (of_decide_eq_false h46) (fun h=>h rfl)
      have h41:t1=[41]:=htc.resolve_right h46
      rcases hfin with⟨_,hx,hrest⟩|⟨e46,_⟩
      ·refine ifd (fun h=>absurd h (by omega)) (fun _=>?_)
       refine eIn hel2 ?_
       subst h41
       refine iIn (fun h=>absurd rfl (nd h)) (fun _=>?_)
       refine bG [1] fun μ4 hle4 hno4 hat4=>?_
       have hsl4:Sl μ4 4 (b.map fun r=>(⟨r,0,none⟩:Addr)) D.length ((D.map T.tm).map Tm.d):=by
        have k:=Rows.sl hat4 (hrows.mono (hle4)) (Nat.le_trans (m:=1000) (by omega) (by decide))
        have w_:=Rep.sl k
        obtain⟨bz,cz,ez,hsz⟩:=w_
        have w_:=Value.slice.inj ez
        obtain⟨e1,e2,_⟩:=w_
        rw[List.length_map,List.length_map]at hsz
        rwa [←e1]at hsz
       rw[hyl]
       refine cB (gR (tl:= .nil) hsl4 (by omega) (qDj)) fun v5 μ5 hle5 hR5=>?_
       have w_:=Tm.invV hR5
       obtain⟨q5,rfl⟩:=w_
       refine aC (by omega) (by omega) ?_
       refine rPl ⟨_,i1+1,rfl,?_,?_,by omega,by omega⟩
       ·(rw[hx,hit,hm0,List.append_nil];exact hR5)
       ·(rw[hrest];exact he1)
      ·exact absurd e46 h46
   ·intro r13
    refine ifd (fun _=>?_) (fun h=>absurd h (by omega))
    have w_:=Nm.tok (hs.mono hle) ht1
    obtain⟨ad2,hel2⟩:=w_
    refine eIn hel2 ?_
    refine iIn (fun h46=>?_) (fun h46=>?_)
    ·have h46:t1=[46]:=bK (of_decide_eq_true h46)
     rcases hfin with⟨e41,_⟩|⟨_,hne,tl,r2,htl,hx,hrest⟩
     ·rw[e41]at h46;cases h46
     refine aC (by omega) (by omega) ?_
     rw[he1]at htl
     refine cPl (ih m (by omega) (hs.mono hle) htl) fun v2 μ2 hle2 hR2=>?_
     obtain⟨tv2,j2,rfl,hr2,hj2,hij2,hjl2⟩:=hR2
     have w_:=Tm.invV hr2
     obtain⟨q2,rfl⟩:=w_
     intro r14
     refine iIn (fun h=>nomatch h) (fun _=>?_)
     have w_:=gF hj2.symm
     obtain⟨hj41,hj2e,hj2l⟩:=w_
     have hDne:D.length≠0:=fun e=>hne (by rw[hit,hm0,List.append_nil];exact List.eq_nil_of_length_eq_zero e)
     refine iIn (fun h=>absurd (of_decide_eq_true h) (by omega)) (fun _=>?_)
     refine ifd (fun h=>absurd h (by omega)) (fun _=>?_)
     have w_:=Nm.tok ((hs.mono hle).mono hle2) hj41
     obtain⟨ad3,hel3⟩:=w_
     refine eIn hel3 ?_
     refine iIn (fun h=>absurd rfl (nd h)) (fun _=>?_)
     refine bG [1] fun μ4 hle4 hno4 hat4=>?_
     have hsl4:Sl μ4 4 (b.map fun r=>(⟨r,0,none⟩:Addr)) D.length ((D.map T.tm).map Tm.d):=by
      have k:=Rows.sl hat4 (hrows.mono (hle2.trans hle4)) (Nat.le_trans (m:=1000) (by omega) (by decide))
      have w_:=Rep.sl k
      obtain⟨bz,cz,ez,hsz⟩:=w_
      have w_:=Value.slice.inj ez
      obtain⟨e1,e2,_⟩:=w_
      rw[List.length_map,List.length_map]at hsz
      rwa [←e1]at hsz
     rw[hyl]
     refine cB (gR (tl:=tl) hsl4 (by omega) (hr2.mono hle4)) fun v5 μ5 hle5 hR5=>?_
     have w_:=Tm.invV hR5
     obtain⟨q5,rfl⟩:=w_
     refine aC (by omega) (by omega) ?_
     refine rPl ⟨_,j2+1,rfl,?_,?_,by omega,by omega⟩
     ·(rw[hx,hit,hm0,List.append_nil];exact hR5)
     ·(rw[hrest];exact hj2e)
    ·have h46:t1≠[46]:=fun e=>by rw[e]at h46;exact absurd (of_decide_eq_false h46) (fun h=>h rfl)
     have h41:t1=[41]:=htc.resolve_right h46
     rcases hfin with⟨_,hx,hrest⟩|⟨e46,_⟩
     ·refine ifd (fun h=>absurd h (by omega)) (fun _=>?_)
      refine eIn hel2 ?_
      subst h41
      refine iIn (fun h=>absurd rfl (nd h)) (fun _=>?_)
      refine bG [1] fun μ4 hle4 hno4 hat4=>?_
      have hsl4:Sl μ4 4 (b.map fun r=>(⟨r,0,none⟩:Addr)) D.length ((D.map T.tm).map Tm.d):=by
       have k:=Rows.sl hat4 (hrows.mono (hle4)) (Nat.le_trans (m:=1000) (by omega) (by decide))
       have w_:=Rep.sl k
       obtain⟨bz,cz,ez,hsz⟩:=w_
       have w_:=Value.slice.inj ez
       obtain⟨e1,e2,_⟩:=w_
       rw[List.length_map,List.length_map]at hsz
       rwa [←e1]at hsz
      rw[hyl]
      refine cB (gR (tl:= .nil) hsl4 (by omega) (qDj)) fun v5 μ5 hle5 hR5=>?_
      have w_:=Tm.invV hR5
      obtain⟨q5,rfl⟩:=w_
      refine aC (by omega) (by omega) ?_
      refine rPl ⟨_,i1+1,rfl,?_,?_,by omega,by omega⟩
      ·(rw[hx,hit,hm0,List.append_nil];exact hR5)
      ·(rw[hrest];exact he1)
     ·exact absurd e46 h46
  ·refine aM (fun h41=>?_) (fun h41=>absurd (bK h41) hn1)
   refine eIn hel1 ?_
   refine iIn (fun h=>?_) (fun h=>?_)
   ·rw[←hd1]at hT
    refine cPl (ih m2 (by omega) (hs.mono hle) hT) fun v2 μ2 hle2 hR2=>?_
    obtain⟨tv2,j2,rfl,hr2,hj2,hij2,hjl2⟩:=hR2
    have w_:=Tm.invV hr2
    obtain⟨q2,rfl⟩:=w_
    intro r10
    refine iIn (fun h=>nomatch h) (fun _=>?_)
    intro r11
    refine gIn ?_ ?_ fun b' c' hb'=>?_
    ·show(ys.length+1)*56≤_;omega
    ·exact Nat.le_trans (m:=100000000) (show ys.length+1≤_ by omega) (by decide)
    refine⟨(j2,D++[x'],m2,more',(_,b',c'),μ2),⟨by dsimp only;omega,hjl2,by dsimp only;omega,by rw[←hj2];exact hN',by rw[hit,hmore,List.append_assoc];rfl,?_,hle.trans hle2,by simp only[List.length_append,List.length_singleton];omega⟩,by dsimp only;omega,⟨⟨rfl,rfl,rfl,rfl,trivial⟩,⟨rfl,rfl,trivial⟩,rfl,rfl⟩⟩
    dsimp only
    rw[List.map_append,List.map_append]
    exact(hrows.mono hle2).append (Rows.one hr2 (Tm.d_n _))
   ·exact absurd (bK (nd' h)) hn2
theorem cX{μ:Mem}{k:Int}{s:ByteArray}{ts:List Tm}{gs:List Gl}{vt vg:Value}(ht:RepV μ (.sl 4 (ts.map Tm.d)) vt)(hg:RepV μ (.sl 4 (gs.map Gl.d)) vg)(h1:vt.oneCell'=true:=by rfl)(h2:vg.oneCell'=true:=by rfl):
    RepV μ (Gl.mk k s ts gs).d (.agg #[.int .i64 k,.string s,vt,vg]):=by
  rw[Gl.d_eq]
  exact⟨_,rfl,RepS.int (RepS.str ⟨[_],[_],rfl,ht,RepS.last hg⟩)⟩
theorem qLn{n:Nat}{l:List Bs}{more:List T}{r1:List Bs}(h:rdA n l=some (more,[41]::r1)):∃t r,∃m,n=m+1∧l=t::r∧((more=[]∧t=[41]∧r1=r)∨(t≠[41]∧∃x r',∃more',rdT m (t::r)=some (x,r')∧rdA m r'=some (more',[41]::r1)∧more=x::more')):=by
  match n,l,h with
  |m+1,t::r,h=>
    refine⟨t,r,m,rfl,rfl,?_⟩
    rw[rdA]at h
    by_cases hc:(t==[41])=true
    · rw[if_pos hc]at h
      cases h
      exact .inl ⟨rfl,rfl,rfl⟩
    · rw[if_neg hc]at h
      refine .inr ⟨by simpa using hc,?_⟩
      split at h
      · rename_i x r' he
        have w_:=Option.map_eq_some_iff.1 h
        obtain⟨⟨a,b⟩,h1,h2⟩:=w_
        cases h2
        exact⟨x,r',a,he,h1,rfl⟩
      · cases h
theorem qKo{n:Nat}{l:List Bs}{more:List Gl}{r1:List Bs}(h:qGn n l=some (more,[41]::r1)):∃t r,∃m,n=m+1∧l=t::r∧((more=[]∧t=[41]∧r1=r)∨(t≠[41]∧∃x r',∃more',rdG m (t::r)=some (x,r')∧qGn m r'=some (more',[41]::r1)∧more=x::more')):=by
  match n,l,h with
  |m+1,t::r,h=>
    refine⟨t,r,m,rfl,rfl,?_⟩
    rw[qGn]at h
    by_cases hc:(t==[41])=true
    · rw[if_pos hc]at h
      cases h
      exact .inl ⟨rfl,rfl,rfl⟩
    · rw[if_neg hc]at h
      refine .inr ⟨by simpa using hc,?_⟩
      split at h
      · rename_i x r' he
        have w_:=Option.map_eq_some_iff.1 h
        obtain⟨⟨a,b⟩,h1,h2⟩:=w_
        cases h2
        exact⟨x,r',a,he,h1,rfl⟩
      · cases h
theorem qDt{n:Nat}{l:List Bs}{g:Gl}{rest:List Bs}(h:rdG n l=some (g,rest)):∃w r,∃m,n=m+1∧l=[40]::w::r∧1<(cV w).1∧
    ((((cV w).1=7∨(cV w).1=8∨(cV w).1=10)∧∃gs,qGn m r=some (gs,[41]::rest)∧g= .mk (cV w).1 (mkS (cV w).2) [] gs)∨
     ((cV w).1≠7∧(cV w).1≠8∧(cV w).1≠10∧∃ts,rdA m r=some (ts,[41]::rest)∧g= .mk (cV w).1 (mkS (cV w).2) (ts.map T.tm) [])):=by
  match n,l,h with
  |m+1,t::w::r,h=>
    rw[rdG]at h
    by_cases hc:(t==[40]&&decide (1<(cV w).1))=true
    · rw[if_pos (by simpa using hc)]at h
      simp only[Bool.and_eq_true,beq_iff_eq,decide_eq_true_eq]at hc
      obtain⟨rfl,h1⟩:=hc
      refine⟨w,r,m,rfl,rfl,h1,?_⟩
      by_cases hk:((cV w).1==7||(cV w).1==8||(cV w).1==10)=true
      · rw[if_pos hk]at h
        simp only[Bool.or_eq_true,beq_iff_eq]at hk
        refine .inl ⟨by omega,?_⟩
        split at h
        · rename_i gs c r1 he
          by_cases hd:(c==[41])=true
          · rw[if_pos hd]at h
            have hd:c=[41]:=by simpa using hd
            subst hd
            cases h
            exact⟨gs,he,rfl⟩
          · rw[if_neg hd]at h;cases h
        · cases h
      · rw[if_neg hk]at h
        simp only[Bool.or_eq_true,beq_iff_eq,not_or]at hk
        refine .inr ⟨hk.1.1,hk.1.2,hk.2,?_⟩
        split at h
        · rename_i ts c r1 he
          by_cases hd:(c==[41])=true
          · rw[if_pos hd]at h
            have hd:c=[41]:=by simpa using hd
            subst hd
            cases h
            exact⟨ts,he,rfl⟩
          · rw[if_neg hd]at h;cases h
        · cases h
    · rw[if_neg (by simpa using hc)]at h;cases h
def kI(w:Bs)(k:Nat):Int×Bs:=if heads.idxOf w<k then((heads.idxOf w:Nat),[])else(9,w)
theorem qJi(w:Bs):kI w 11=cV w:=rfl
theorem qLv:∀k,(h:k<11)→heads.idxOf (heads[k]'h)=k:=by decide
theorem qFi{w:Bs}{k:Nat}(hk:k<11)(h:heads[k]?=some w):kI w (k+1)=(((k:Nat):Int),([]:Bs)):=by
  have w_:=List.getElem?_eq_some_iff.1 h
  obtain⟨h1,h2⟩:=w_
  have e:heads.idxOf w=k:=by rw[←h2];exact qLv k hk
  rw[kI,e,if_pos (by omega)]
theorem qEe{w x:Bs}{k:Nat}(h:heads[k]?=some x)(hx:x≠w):kI w (k+1)=kI w k:=by
  have e:heads.idxOf w≠k:=fun e=>by
    have w_:=List.getElem?_eq_some_iff.1 h
    obtain⟨h1,h2⟩:=w_
    have hlt:heads.idxOf w<heads.length:=by omega
    have:=List.getElem_idxOf hlt
    subst e
    exact hx (h2.symm.trans this)
  rw[kI,kI]
  by_cases h1:heads.idxOf w<k
  · rw[if_pos h1,if_pos (by omega)]
  · rw[if_neg h1,if_neg (by omega)]
def ReadG(L:List Bs)(i:Nat)(g:Gl)(rest:List Bs)(w:Value)(μ':Mem):Prop:=∃tv,∃j:Nat,w= .tuple #[tv,.int .i64 j,.bool true]∧RepV μ' g.d tv∧rest=L.drop j∧i<j∧j≤L.length
theorem xA{μ:Mem}:Spec Tryz.prog 229 [] μ fun v μ'=>NmV μ' (heads.map mkS) v:=by
  refine Spec.mk Tryz.func229 (by kernel_rfl) ?_
  intro r
  refine rFz [0] fun μ4 hle4 hno hat=> .inl ?_
  exact Rows.sl hat (Nm.rows (heads.map mkS)) (by decide)
set_option maxHeartbeats 2000000 in
theorem qBd{L:List Bs}(hL:L.length≤400)(hlen:∀t∈L,t.length≤400){base:Option Addr}{cap:Nat}:∀(n:Nat) {μ:Mem} {i:Nat} {g:Gl} {rest:List Bs},Sl μ 1 base L.length ((L.map mkS).map D.s)→rdG n (L.drop i)=some (g,rest)→
    Spec Tryz.prog 186 [.slice base L.length cap,.int .i64 i] μ fun w μ'=>ReadG L i g rest w μ':=fun n=>by
  induction n using Nat.strongRecOn with
  |ind n ih=>
  intro μ i g rest hs h
  have w_:=qDt h
  obtain⟨w,r,m,rfl,hd,h1k,hcase⟩:=w_
  have w_:=gF hd
  obtain⟨ht,hr0,hil⟩:=w_
  have w_:=gF hr0.symm
  obtain⟨hw,hr,hil2⟩:=w_
  have w_:=Nm.tok hs ht
  obtain⟨ad,hel⟩:=w_
  have w_:=Nm.tok hs hw
  obtain⟨adw,helw⟩:=w_
  refine Spec.mk Tryz.func186 (by kernel_rfl) ?_
  intro r4
  refine ifd (fun _=>?_) (fun h=>absurd h (by omega))
  refine eIn hel ?_
  refine iIn (fun h=>absurd (bK (a:=[40]) (b:=[116,114,117,101]) (of_decide_eq_true h)) (by decide)) (fun _=>?_)
  refine ifd (fun _=>?_) (fun h=>absurd h (by omega))
  refine eIn hel ?_
  refine iIn (fun h=>absurd (bK (a:=[40]) (b:=[102,97,105,108]) (of_decide_eq_true h)) (by decide)) (fun _=>?_)
  refine aC (by omega) (by omega) ?_
  refine ifd (fun h=>absurd h (by omega)) (fun _=>?_)
  refine eIn hel ?_
  refine iIn (fun h=>absurd rfl (nd h)) (fun _=>?_)
  refine aC (by omega) (by omega) ?_
  refine eIn helw ?_
  intro r7
  refine cPl xA fun v1 μ1 hle1 hR1=>?_
  have w_:=NmV.sl hR1
  obtain⟨hb,hc,rfl,hhs⟩:=w_
  have hlh:(heads.map mkS).length=11:=by rw[List.length_map];rfl
  rw[hlh]at hhs ⊢
  refine lIn (fun k:Nat=>k≤11) (fun k=>⟨[(0,.val (.slice base L.length cap)),(1,.val (.int .i64 i)),(4,.loc 0 r4 0),(7,.loc 1 r7 0),(63,.val (.slice hb 11 hc)),(64,.val (.int .i64 11)),(65,.val (.int .i64 k))],
      [(1,some (.cells r7 [.val (.int .i64 (kI w k).1),.val (.string (mkS (kI w k).2)),.val (.slice none 0 0),.val (.slice none 0 0)] 61)),(0,some (.cells r4 [.val (.int .i64 0),.val (.string ⟨#[]⟩),.val (.slice none 0 0),.val (.slice none 0 0)] 61))],2,μ1,Mem.nil⟩) (fun k=>11-k)
    0 (by omega) (fun _=>⟨rfl,rfl⟩) ⟨⟨rfl,rfl,rfl,rfl,rfl,rfl,rfl,trivial⟩,⟨rfl,rfl,trivial⟩,rfl,rfl⟩ ?_
  intro k hk
  refine ifd (fun hlt=>?_) (fun hlt=>?_)
  · have hk11:k<11:=by omega
    obtain⟨x,hx⟩:∃x,heads[k]?=some x:=⟨_,List.getElem?_eq_getElem (show k<11 from hk11)⟩
    have w_:=Nm.elem (s:=mkS x) hhs (i:=k) (by rw[List.getElem?_map,hx];rfl)
    obtain⟨adh,helh⟩:=w_
    refine eIn helh ?_
    refine aC (by omega) (by omega) ?_
    refine eIn (helw.mono hle1) ?_
    refine ifd (fun he=>?_) (fun he=>?_)
    · have he:x=w:=bK he
      subst he
      refine aC (by omega) (by omega) ⟨k+1,by omega,by omega,⟨⟨rfl,rfl,rfl,rfl,rfl,rfl,rfl,trivial⟩,⟨?_,rfl,trivial⟩,rfl,rfl⟩⟩
      rw[qFi hk11 hx]
      rfl
    · have he:x≠w:=fun e=>he (congrArg mkS e)
      refine aC (by omega) (by omega) ⟨k+1,by omega,by omega,⟨⟨rfl,rfl,rfl,rfl,rfl,rfl,rfl,trivial⟩,⟨?_,rfl,trivial⟩,rfl,rfl⟩⟩
      rw[qEe hx he]
      rfl
  obtain rfl:k=11:=by omega
  rw[qJi]
  generalize hkk:cV w=hg at*
  obtain⟨kk,nm⟩:=hg
  dsimp only at h1k hcase ⊢
  have hks:kk≤10:=by
    have:(cV w).1≤10:=by
      rw[cV];split
      · dsimp only;omega
      · dsimp only;omega
    rw[hkk]at this
    exact this
  refine aC (by omega) (by omega) ?_
  rcases hcase with⟨hk3,gs,hrd,hge⟩|⟨hk7,hk8,hk10,ts,hrd,hge⟩
  · rw[hr]at hrd
    refine fG (fun z:Nat×List Gl×Nat×List Gl×(List Value×Option Nat×Nat)×Mem=>i<z.1∧z.1≤L.length∧z.2.2.1≤m∧qGn z.2.2.1 (L.drop z.1)=some (z.2.2.2.1,[41]::rest)∧gs=z.2.1++z.2.2.2.1∧Rows z.2.2.2.2.2 4 (z.2.1.map Gl.d) z.2.2.2.2.1.1∧μ.Le z.2.2.2.2.2∧z.2.1.length≤z.1)
      (fun(i1,_,_,_,(ys,b,c),μ1)=>⟨[(0,.val (.slice base L.length cap)),(1,.val (.int .i64 i1)),(4,.loc 0 r4 0),(7,.loc 1 r7 0)],
        [(0,some (.cells r4 [.val (.int .i64 0),.val (.string ⟨#[]⟩),.val (.slice none 0 0),.val (.slice none 0 0)] 61)),(1,some (.cells r7 [.val (.int .i64 kk),.val (.string (mkS nm)),.val (.slice none 0 0),.row 2 b ys.length c] 61)),(2,some (.row b c 61 4 ys))],3,μ1,Mem.nil⟩) (fun z=>L.length-z.1)
      (i+2,[],m,gs,([],none,0),μ1) ⟨by dsimp only;omega,by dsimp only;omega,Nat.le_refl _,hrd,rfl,.nil,hle1,Nat.zero_le _⟩ (fun(_,_,_,_,(_,_,_),_)=>⟨rfl,rfl⟩)
      ⟨⟨⟨_,rfl,.inl rfl⟩,⟨_,rfl,.inl rfl⟩,⟨_,rfl,.inl rfl⟩,⟨_,rfl,.inl rfl⟩,trivial⟩,⟨.inl rfl,.inr (.inr ⟨_,_,_,_,rfl,rfl,.inl rfl,.inl rfl,.inl rfl,.inr ⟨2,rfl,rfl,Nat.le_refl _⟩,trivial⟩),.inr (.inl ⟨_,_,rfl,Nat.le_refl _⟩),trivial⟩,rfl,rfl⟩ ?_
    rintro⟨i1,Dn,m1,more,⟨ys,b,c⟩,μ2⟩ ⟨hi1,hi1l,hm1,hN,hit,hrows,hle,hDl⟩
    dsimp only at hi1 hi1l hm1 hN hit hrows hle hDl
    have hyl:=hrows.len
    rw[List.length_map]at hyl
    have w_:=qKo hN
    obtain⟨t1,rr,m2,rfl,hd1,hcs⟩:=w_
    have w_:=gF hd1
    obtain⟨ht1,hrr,hi1lt⟩:=w_
    have w_:=Nm.tok (hs.mono hle) ht1
    obtain⟨ad1,hel1⟩:=w_
    refine ifd (fun _=>?_) (fun h=>absurd h (by omega))
    refine eIn hel1 ?_
    rcases hcs with⟨hm0,h41,hr1⟩|⟨hn1,x',r',more',hT,hN',hmore⟩
    · subst h41
      refine iIn (fun h=>absurd rfl (nd h)) (fun _=>?_)
      refine aC (by omega) (by omega) ?_
      refine ifd (fun _=>?_) (fun h=>absurd h (by omega))
      refine rFz [2] fun μ4 hle4 hno hat=> .inl ⟨.agg #[.int .i64 kk,.string (mkS nm),.slice none 0 0,.slice (b.map fun r=>⟨r,0,none⟩) ys.length c],i1+1,?_,?_,?_,by omega,by omega⟩
      · show Value.tuple #[_,_,.bool (decide ((1:Int)<kk))]=_
        rw[decide_eq_true h1k]
        rfl
      · rw[hge,hit,hm0,List.append_nil]
        exact cX (ts:=[]) (Rep.nilSl 4) (Rows.sl hat (hrows.mono hle4) (Nat.le_trans (m:=1000) (by omega) (by decide)))
      · rw[hr1,hrr]
    · refine iIn (fun _=>?_) (fun h=>absurd (bK (nd' h)) hn1)
      refine ifd (fun _=>?_) (fun h7=>?_)
      · rw[←hd1]at hT
        refine cPl (ih m2 (by omega) (hs.mono hle) hT) fun v2 μ3 hle2 hR2=>?_
        obtain⟨tv2,j2,rfl,hr2,hj2,hij2,hjl2⟩:=hR2
        have w_:=Gl.invV hr2
        obtain⟨q2,rfl⟩:=w_
        intro r10
        refine iIn (fun h=>nomatch h) (fun _=>?_)
        intro r11
        refine gIn ?_ ?_ fun b' c' hb'=>?_
        · show(ys.length+1)*72≤_;omega
        · exact Nat.le_trans (m:=100000000) (show ys.length+1≤_ by omega) (by decide)
        refine⟨(j2,Dn++[x'],m2,more',(_,b',c'),μ3),⟨by dsimp only;omega,hjl2,by dsimp only;omega,by rw[←hj2];exact hN',by rw[hit,hmore,List.append_assoc];rfl,?_,hle.trans hle2,by simp only[List.length_append,List.length_singleton];omega⟩,by dsimp only;omega,⟨⟨rfl,rfl,rfl,rfl,trivial⟩,⟨rfl,rfl,rfl,trivial⟩,rfl,rfl⟩⟩
        dsimp only
        rw[List.map_append]
        exact(hrows.mono hle2).append (Rows.one hr2 (Gl.d_n _))
      · refine ifd (fun _=>?_) (fun h8=>?_)
        · rw[←hd1]at hT
          refine cPl (ih m2 (by omega) (hs.mono hle) hT) fun v2 μ3 hle2 hR2=>?_
          obtain⟨tv2,j2,rfl,hr2,hj2,hij2,hjl2⟩:=hR2
          have w_:=Gl.invV hr2
          obtain⟨q2,rfl⟩:=w_
          intro r10
          refine iIn (fun h=>nomatch h) (fun _=>?_)
          intro r11
          refine gIn ?_ ?_ fun b' c' hb'=>?_
          · show(ys.length+1)*72≤_;omega
          · exact Nat.le_trans (m:=100000000) (show ys.length+1≤_ by omega) (by decide)
          refine⟨(j2,Dn++[x'],m2,more',(_,b',c'),μ3),⟨by dsimp only;omega,hjl2,by dsimp only;omega,by rw[←hj2];exact hN',by rw[hit,hmore,List.append_assoc];rfl,?_,hle.trans hle2,by simp only[List.length_append,List.length_singleton];omega⟩,by dsimp only;omega,⟨⟨rfl,rfl,rfl,rfl,trivial⟩,⟨rfl,rfl,rfl,trivial⟩,rfl,rfl⟩⟩
          dsimp only
          rw[List.map_append]
          exact(hrows.mono hle2).append (Rows.one hr2 (Gl.d_n _))
        · refine iIn (fun _=>?_) (fun h10=>absurd (hk3.resolve_left h7 |>.resolve_left h8) (of_decide_eq_false h10))
          · rw[←hd1]at hT
            refine cPl (ih m2 (by omega) (hs.mono hle) hT) fun v2 μ3 hle2 hR2=>?_
            obtain⟨tv2,j2,rfl,hr2,hj2,hij2,hjl2⟩:=hR2
            have w_:=Gl.invV hr2
            obtain⟨q2,rfl⟩:=w_
            intro r10
            refine iIn (fun h=>nomatch h) (fun _=>?_)
            intro r11
            refine gIn ?_ ?_ fun b' c' hb'=>?_
            · show(ys.length+1)*72≤_;omega
            · exact Nat.le_trans (m:=100000000) (show ys.length+1≤_ by omega) (by decide)
            refine⟨(j2,Dn++[x'],m2,more',(_,b',c'),μ3),⟨by dsimp only;omega,hjl2,by dsimp only;omega,by rw[←hj2];exact hN',by rw[hit,hmore,List.append_assoc];rfl,?_,hle.trans hle2,by simp only[List.length_append,List.length_singleton];omega⟩,by dsimp only;omega,⟨⟨rfl,rfl,rfl,rfl,trivial⟩,⟨rfl,rfl,rfl,trivial⟩,rfl,rfl⟩⟩
            dsimp only
            rw[List.map_append]
            exact(hrows.mono hle2).append (Rows.one hr2 (Gl.d_n _))
  · rw[hr]at hrd
    refine fG (fun z:Nat×List T×Nat×List T×(List Value×Option Nat×Nat)×Mem=>i<z.1∧z.1≤L.length∧z.2.2.1≤m∧rdA z.2.2.1 (L.drop z.1)=some (z.2.2.2.1,[41]::rest)∧ts=z.2.1++z.2.2.2.1∧Rows z.2.2.2.2.2 4 ((z.2.1.map T.tm).map Tm.d) z.2.2.2.2.1.1∧μ.Le z.2.2.2.2.2∧z.2.1.length≤z.1)
      (fun(i1,_,_,_,(ys,b,c),μ1)=>⟨[(0,.val (.slice base L.length cap)),(1,.val (.int .i64 i1)),(4,.loc 0 r4 0),(7,.loc 1 r7 0)],
        [(0,some (.cells r4 [.val (.int .i64 0),.val (.string ⟨#[]⟩),.val (.slice none 0 0),.val (.slice none 0 0)] 61)),(1,some (.cells r7 [.val (.int .i64 kk),.val (.string (mkS nm)),.row 2 b ys.length c,.val (.slice none 0 0)] 61)),(2,some (.row b c 75 4 ys))],3,μ1,Mem.nil⟩) (fun z=>L.length-z.1)
      (i+2,[],m,ts,([],none,0),μ1) ⟨by dsimp only;omega,by dsimp only;omega,Nat.le_refl _,hrd,rfl,.nil,hle1,Nat.zero_le _⟩ (fun(_,_,_,_,(_,_,_),_)=>⟨rfl,rfl⟩)
      ⟨⟨⟨_,rfl,.inl rfl⟩,⟨_,rfl,.inl rfl⟩,⟨_,rfl,.inl rfl⟩,⟨_,rfl,.inl rfl⟩,trivial⟩,⟨.inl rfl,.inr (.inr ⟨_,_,_,_,rfl,rfl,.inl rfl,.inl rfl,.inr ⟨2,rfl,rfl,Nat.le_refl _⟩,.inl rfl,trivial⟩),.inr (.inl ⟨_,_,rfl,Nat.le_refl _⟩),trivial⟩,rfl,rfl⟩ ?_
    rintro⟨i1,Dn,m1,more,⟨ys,b,c⟩,μ2⟩ ⟨hi1,hi1l,hm1,hN,hit,hrows,hle,hDl⟩
    dsimp only at hi1 hi1l hm1 hN hit hrows hle hDl
    have hyl:=hrows.len
    rw[List.length_map,List.length_map]at hyl
    have w_:=qLn hN
    obtain⟨t1,rr,m2,rfl,hd1,hcs⟩:=w_
    have w_:=gF hd1
    obtain⟨ht1,hrr,hi1lt⟩:=w_
    have w_:=Nm.tok (hs.mono hle) ht1
    obtain⟨ad1,hel1⟩:=w_
    refine ifd (fun _=>?_) (fun h=>absurd h (by omega))
    refine eIn hel1 ?_
    rcases hcs with⟨hm0,h41,hr1⟩|⟨hn1,x',r',more',hT,hN',hmore⟩
    · subst h41
      refine iIn (fun h=>absurd rfl (nd h)) (fun _=>?_)
      refine aC (by omega) (by omega) ?_
      refine ifd (fun _=>?_) (fun h=>absurd h (by omega))
      refine rFz [2] fun μ4 hle4 hno hat=> .inl ⟨.agg #[.int .i64 kk,.string (mkS nm),.slice (b.map fun r=>⟨r,0,none⟩) ys.length c,.slice none 0 0],i1+1,?_,?_,?_,by omega,by omega⟩
      · show Value.tuple #[_,_,.bool (decide ((1:Int)<kk))]=_
        rw[decide_eq_true h1k]
        rfl
      · rw[hge,hit,hm0,List.append_nil]
        exact cX (gs:=[]) (Rows.sl hat (hrows.mono hle4) (Nat.le_trans (m:=1000) (by omega) (by decide))) (Rep.nilSl 4)
      · rw[hr1,hrr]
    · refine iIn (fun _=>?_) (fun h=>absurd (bK (nd' h)) hn1)
      refine ifd (fun h=>absurd h hk7) (fun _=>?_)
      refine ifd (fun h=>absurd h hk8) (fun _=>?_)
      refine iIn (fun h=>absurd (of_decide_eq_true h) hk10) (fun _=>?_)
      rw[←hd1]at hT
      refine cPl (qAn hL hlen m2 (hs.mono hle) hT) fun v2 μ3 hle2 hR2=>?_
      obtain⟨tv2,j2,rfl,hr2,hj2,hij2,hjl2⟩:=hR2
      have w_:=Tm.invV hr2
      obtain⟨q2,rfl⟩:=w_
      intro r10
      refine iIn (fun h=>nomatch h) (fun _=>?_)
      intro r11
      refine gIn ?_ ?_ fun b' c' hb'=>?_
      · show(ys.length+1)*56≤_;omega
      · exact Nat.le_trans (m:=100000000) (show ys.length+1≤_ by omega) (by decide)
      refine⟨(j2,Dn++[x'],m2,more',(_,b',c'),μ3),⟨by dsimp only;omega,hjl2,by dsimp only;omega,by rw[←hj2];exact hN',by rw[hit,hmore,List.append_assoc];rfl,?_,hle.trans hle2,by simp only[List.length_append,List.length_singleton];omega⟩,by dsimp only;omega,⟨⟨rfl,rfl,rfl,rfl,trivial⟩,⟨rfl,rfl,rfl,trivial⟩,rfl,rfl⟩⟩
      dsimp only
      rw[List.map_append,List.map_append]
      exact(hrows.mono hle2).append (Rows.one hr2 (Tm.d_n _))
theorem Sl.mid{μ:Mem}{es n c l h:Nat}{base:Option Addr}{xs:List D}(k:Sl μ es base n xs)(hl:l≤h)(hh:h≤n)(hc:n≤c):Sl μ es (if c=l then base else base.map (·.add (l*es))) (h-l) ((xs.drop l).take (h-l)):=by
 have k1:=k.tailL (i:=l) (c:=c) (by omega) hc
 have k2:=k1.headL (c:=0) (i:=h-l) (by omega)
 rw[if_pos rfl,Nat.sub_zero]at k2
 exact k2
theorem oU:∀(l names:List Bs),(∀t∈l,t.length≤400)→∀t∈(cD l names).1,t.length≤400
 |[],_,_,_,h=>nomatch h
 |x::r,names,hl,t,h=>by
  rw[cD]at h
  split at h
  ·rcases List.mem_cons.1 h with rfl|h
   ·show 2≤400;decide
   ·exact oU r _ (fun y hy=>hl y (List.mem_cons_of_mem _ hy)) t h
  ·rcases List.mem_cons.1 h with rfl|h
   ·exact hl _ (by simp)
   ·exact oU r _ (fun y hy=>hl y (List.mem_cons_of_mem _ hy)) t h
theorem qMj:∀(l:List Bs) (k:Nat),k≤(arF k l).1
 |[],_=>Nat.le_refl _
 |t::r,k=>by
  rw[arF]
  split
  ·have:=qMj r (k+1);omega
  ·exact Nat.le_refl _
theorem qHn:∀(l:List Bs) (k:Nat),(arF k l).2.length≤l.length
 |[],_=>Nat.le_refl _
 |t::r,k=>by
  rw[arF]
  split
  ·have:=qHn r (k+1);rw[List.length_cons];omega
  ·exact Nat.le_refl _
theorem qKe{all:List Bs}{x:Rl}(h:qMm all=some x):qBq all=true∧∃d name rest r2 g z,(cD all []).1=d::[100,101,102,105,110,101]::[40]::name::rest∧(arF 0 rest).1≤8∧(arF 0 rest).2=[41]::r2∧rdG all.length r2=some (g,[z])∧
  x=⟨mkS name,(arF 0 rest).1,((cD all []).2.length:Int)-(arF 0 rest).1,g⟩:=by
 unfold qMm at h
 by_cases hB:qBq all=true
 ·rw[if_pos hB]at h
  refine⟨hB,?_⟩
  split at h
  ·rename_i d0 d o name rest he
   by_cases hc:(d==[100,101,102,105,110,101]&&o==[40]&&decide ((arF 0 rest).1≤8))=true
   ·rw[if_pos hc]at h
    simp only[Bool.and_eq_true,beq_iff_eq,decide_eq_true_eq]at hc
    obtain⟨⟨rfl,rfl⟩,h8⟩:=hc
    split at h
    ·rename_i c r2 he2
     by_cases h41:(c==[41])=true
     ·rw[if_pos h41]at h
      have h41:c=[41]:=by simpa using h41
      subst h41
      split at h
      ·rename_i g z he3
       cases h
       exact⟨d0,name,rest,r2,g,z,he,h8,he2,he3,rfl⟩
      ·cases h
     ·rw[if_neg h41]at h;cases h
    ·cases h
   ·rw[if_neg hc]at h;cases h
  ·cases h
 ·rw[if_neg hB]at h;cases h
set_option maxHeartbeats 1000000 in
theorem iL{μ:Mem}{all:List Bs}{base:Option Addr}{cap:Nat}(hs:Sl μ 1 base all.length ((all.map mkS).map D.s))(hl:all.length≤400)(hlen:∀t∈all,t.length≤400){x:Rl}(h:qMm all=some x):
  Spec Tryz.prog 123 [.slice base all.length cap] μ fun w μ'=>∃tv,w= .tuple #[tv,.bool true]∧RepV μ' x.d tv:=by
 have w_:=qKe h
 obtain⟨hB,d0,name,rest,r2,g,z,hN,h8,har,hrd,hx⟩:=w_
 have hcnt:=qCj hB
 have hLs:=oU all [] hlen
 have hLl:(cD all []).1.length≤400:=by rw[vU];exact hl
 refine Spec.mk Tryz.func123 (by kernel_rfl) ?_
 intro r2_
 refine cPl (uB hs hl hB) fun v1 μ1 hle1 hR1=>?_
 obtain⟨tv1,rfl,hR1⟩:=hR1
 have w_:=NmV.sl hR1
 obtain⟨b1,c1,rfl,hs1⟩:=w_
 generalize hL:(cD all []).1=L at*
 rw[List.length_map]at hs1 ⊢
 have hLlen:L.length=rest.length+4:=by rw[hN];rfl
 have hrl:3≤rest.length:=by
  have h1:=qHn rest 0
  have w_:=qDt hrd
  obtain⟨w,r,m,_,e,_⟩:=w_
  rw[har,e]at h1
  simp only[List.length_cons]at h1
  omega
 have w_:=Nm.tok hs1 (i:=1) (t:=[100,101,102,105,110,101]) (by rw[hN];rfl)
 obtain⟨ad1,hel1⟩:=w_
 have w_:=Nm.tok hs1 (i:=2) (t:=[40]) (by rw[hN];rfl)
 obtain⟨ad2,hel2⟩:=w_
 have w_:=Nm.tok hs1 (i:=3) (t:=name) (by rw[hN];rfl)
 obtain⟨ad3,hel3⟩:=w_
 refine iIn (fun h=>nomatch h) (fun _=>?_)
 refine ifd (fun h=>absurd h (by omega)) (fun _=>?_)
 refine eIn hel1 ?_
 refine iIn (fun h=>absurd rfl (nd h)) (fun _=>?_)
 refine eIn hel2 ?_
 refine iIn (fun h=>absurd rfl (nd h)) (fun _=>?_)
 refine eIn hel3 ?_
 intro r7
 refine lIn (fun k:Nat=>4+k≤L.length∧arF 0 rest=arF k (L.drop (4+k)))
  (fun k=>⟨[(2,.loc 0 r2_ 0),(4,.val (.slice b1 L.length c1)),(5,.val (.int .i64 ((cD all []).2.length:Nat))),(7,.loc 1 r7 0),(8,.val (.int .i64 ((4+k:Nat):Int)))],
   [(1,some (.cells r7 [.val (.string (mkS name)),.val (.int .i64 k),.val (.int .i64 0),.val (.int .i64 0),.val (.string ⟨#[]⟩),.val (.slice none 0 0),.val (.slice none 0 0)] 63)),(0,some (.cells r2_ [.val (.string ⟨#[]⟩),.val (.int .i64 0),.val (.int .i64 0),.val (.int .i64 0),.val (.string ⟨#[]⟩),.val (.slice none 0 0),.val (.slice none 0 0)] 63))],2,μ1,Mem.nil⟩) (fun k=>L.length-k)
  0 ⟨by omega,by rw[hN];rfl⟩ (fun _=>⟨rfl,rfl⟩) ⟨⟨rfl,rfl,rfl,rfl,rfl,trivial⟩,⟨rfl,rfl,trivial⟩,rfl,rfl⟩ ?_
 rintro k ⟨hk,hka⟩
 have hlt:4+k<L.length:=by
  rcases Nat.lt_or_ge (4+k) L.length with h|h
  ·exact h
  ·rw[List.drop_eq_nil_of_le h,arF]at hka
   rw[hka]at har;cases har
 have hk8:k≤8:=by
  have:=qMj (L.drop (4+k)) k
  rw[←hka]at this
  omega
 obtain⟨t,ht⟩:∃t,L[4+k]?=some t:=⟨_,List.getElem?_eq_getElem hlt⟩
 have w_:=Nm.tok hs1 ht
 obtain⟨adk,helk⟩:=w_
 rw[bJ ht,arF]at hka
 refine ifd (fun _=>?_) (fun h=>absurd h (by omega))
 refine eIn helk ?_
 refine cGv (cE (k:=k) (by omega)) ?_
 refine aD (by show 1+1≤_;decide) ?_
 refine iIn (fun he=>?_) (fun he=>?_)
 ·have he:t=qBc k:=bK ((of_decide_eq_true he).trans (bO [63] [_]))
  rw[if_pos (by simpa using he)]at hka
  exact aC (by omega) (by omega) (aC (by omega) (by omega) ⟨k+1,⟨by omega,hka⟩,by omega,⟨⟨rfl,rfl,rfl,rfl,rfl,trivial⟩,⟨rfl,rfl,trivial⟩,rfl,rfl⟩⟩)
 ·have he:t≠qBc k:=fun e=>of_decide_eq_false he ((congrArg mkS e).trans (bO [63] [_]).symm)
  rw[if_neg (by simpa using he)]at hka
  have hk1:(arF 0 rest).1=k:=by rw[hka]
  have e2:t::L.drop (4+k+1)=[41]::r2:=by rw[←har,hka]
  have e3:=List.cons.inj e2
  obtain rfl:=e3.1
  have hr2:r2=L.drop (4+k+1):=e3.2.symm
  refine ifd (fun h=>absurd h (by omega)) (fun _=>?_)
  refine eIn helk ?_
  refine iIn (fun h=>absurd rfl (nd h)) (fun _=>?_)
  refine aC (by omega) (by omega) ?_
  rw[hr2]at hrd
  refine cPl (qBd hLl hLs all.length hs1 hrd) fun v2 μ2 hle2 hR2=>?_
  obtain⟨tv2,j2,rfl,hg,hj2,hij2,hjl2⟩:=hR2
  have w_:=Gl.invV hg
  obtain⟨q2,rfl⟩:=w_
  have hjL:j2+1=L.length:=by
   have:=congrArg List.length hj2
   rw[List.length_drop]at this
   simp only[List.length_cons,List.length_nil]at this
   omega
  intro r9
  refine aC (by omega) (by omega) ?_
  refine iIn (fun _=>?_) (fun h=>nomatch h)
  refine aC (by omega) (by omega) ?_
  refine rPl ⟨.agg #[.string (mkS name),.int .i64 k,.int .i64 (((cD all []).2.length:Nat)-(k:Int)),.int .i64 g.kind,.string g.name,.slice q2.1.1 g.terms.length q2.1.2,.slice q2.2.1 g.goals.length q2.2.2],?_,?_⟩
  ·show Value.tuple #[_,.bool (decide ((j2:Int)=(L.length:Int)-1))]=_
   rw[decide_eq_true (by omega)]
  ·rw[hx,Rl.d_eq,hk1]
   have:=hg.cells
   exact⟨_,rfl,RepS.str (RepS.int (RepS.int (RepS.last this)))⟩
theorem pS:∀(n:Nat) (l:Bs),(cZ n l).length≤l.length∧∀t∈cZ n l,t.length≤l.length
 |0,_=>⟨Nat.zero_le _,fun _ h=>nomatch h⟩
 |_+1,[]=>⟨Nat.zero_le _,fun _ h=>nomatch h⟩
 |n+1,b::r=>by
  have hd:∀p:UInt8→Bool,(r.dropWhile p).length≤r.length:=fun p=>(List.dropWhile_sublist p).length_le
  have ht:∀p:UInt8→Bool,(r.takeWhile p).length≤r.length:=fun p=>(List.takeWhile_sublist p).length_le
  have h1:=pS n r
  rw[cZ]
  split
  ·have h2:=pS n (r.dropWhile fun c=>c !=10)
   have h3:=hd fun c=>c !=10
   refine⟨by rw[List.length_cons];omega,fun t h=>?_⟩
   have:=h2.2 t h
   rw[List.length_cons];omega
  ·split
   ·have h2:=pS n (r.dropWhile fun c=> !dR c)
    have h3:=hd fun c=> !dR c
    have h4:=ht fun c=> !dR c
    refine⟨by rw[List.length_cons,List.length_cons];omega,fun t h=>?_⟩
    rcases List.mem_cons.1 h with rfl|h
    ·rw[List.length_cons,List.length_cons];omega
    ·have:=h2.2 t h
     rw[List.length_cons];omega
   ·split
    ·refine⟨by rw[List.length_cons,List.length_cons];omega,fun t h=>?_⟩
     rcases List.mem_cons.1 h with rfl|h
     ·simp only[List.length_cons,List.length_nil];omega
     ·have:=h1.2 t h
      rw[List.length_cons];omega
    ·refine⟨by rw[List.length_cons];omega,fun t h=>?_⟩
     have:=h1.2 t h
     rw[List.length_cons];omega
theorem qFd{t:Bs}{r cur:List Bs}{d:Int}{l:List Rl}(h:sS (t::r) cur d=some l):(0<cN d t∧sS r (cur++[t]) (cN d t)=some l)∨(¬0<cN d t∧∃x l',qMm (cur++[t])=some x∧sS r [] (cN d t)=some l'∧l=x::l'):=by
 rw[sS]at h
 by_cases hd:0<cN d t
 ·rw[if_pos hd]at h;exact .inl ⟨hd,h⟩
 ·rw[if_neg hd]at h
  refine .inr ⟨hd,?_⟩
  split at h
  ·rename_i x he
   have w_:=Option.map_eq_some_iff.1 h
   obtain⟨l',h1,h2⟩:=w_
   exact⟨x,l',he,h1,h2.symm⟩
  ·cases h
theorem qJv(d:Int)(t:Bs):d-1≤cN d t∧cN d t≤d+1:=by
 unfold cN;split
 ·omega
 ·split<;>omega
theorem qIb{μ:Mem}:RepV μ (Pg.mk []).d (.agg #[.slice none 0 0]):=⟨_,rfl,RepS.last (Rep.nilSl 7)⟩
set_option maxHeartbeats 2000000 in
theorem qA{μ:Mem}{s:Bs}{p:Pg}(h:qFu s=some p)(hl:s.length≤400)(hb:∀b∈s,b.toNat≠59∧(b.toNat=10∨(32≤b.toNat∧b.toNat≤126)))(hw:p.d.wd):
  Spec Tryz.prog 49 [.string (mkS s)] μ fun w μ'=>∃(q:Pg) (tv:Value) (b:Bool),w= .tuple #[tv,.bool b]∧RepV μ' q.d tv∧(b=true→q=p∧p.Ok):=by
 have w_:=Option.map_eq_some_iff.1 h
 obtain⟨rels,hrels,rfl⟩:=w_
 refine Spec.mk Tryz.func49 (by kernel_rfl) ?_
 intro r2
 refine cPl (qEd hl hb) fun v1 μ1 hle1 hR1=>?_
 obtain⟨tv1,rfl,hR1⟩:=hR1
 have htl:=pS s.length s
 generalize hLe:cZ s.length s=L at*
 have w_:=Rep.slC hR1
 obtain⟨tb,tc,rfl,hs,hcap⟩:=w_
 rw[List.length_map,List.length_map]at hs hcap ⊢
 have hLl:L.length≤400:=by omega
 have hLs:∀t∈L,t.length≤400:=fun t ht=>by have:=htl.2 t ht;omega
 refine iIn (fun h=>nomatch h) (fun _=>?_)
 intro r6
 refine fG (fun z:Nat×Nat×Int×List Rl×List Rl×(List Value×Option Nat×Nat)×Mem=>z.1≤L.length∧z.2.1≤z.1∧ -(z.1:Int)≤z.2.2.1∧z.2.2.1≤z.1∧sS (L.drop z.1) ((L.drop z.2.1).take (z.1-z.2.1)) z.2.2.1=some z.2.2.2.2.1∧rels=z.2.2.2.1++z.2.2.2.2.1∧Rows z.2.2.2.2.2.2 7 (z.2.2.2.1.map Rl.d) z.2.2.2.2.2.1.1∧μ1.Le z.2.2.2.2.2.2∧z.2.2.2.1.length≤z.1)
  (fun(i,from_,d,_,_,(ys,b,c),μ2)=>⟨[(2,.loc 0 r2 0),(4,.val (.slice tb L.length tc)),(6,.loc 1 r6 0),(7,.val (.int .i64 from_)),(8,.val (.int .i64 d)),(22,.val (.slice tb L.length tc)),(23,.val (.int .i64 L.length)),(24,.val (.int .i64 i))],
   [(0,some (.cells r2 [.val (.slice none 0 0)] 25)),(1,some (.cells r6 [.row 2 b ys.length c] 25)),(2,some (.row b c 63 7 ys))],3,μ2,Mem.nil⟩) (fun z=>L.length-z.1)
  (0,0,0,[],rels,([],none,0),μ1) ⟨Nat.zero_le _,Nat.zero_le _,Int.le_refl 0,Int.le_refl 0,hrels,rfl,.nil,Mem.Le.refl _,Nat.zero_le _⟩ (fun(_,_,_,_,_,(_,_,_),_)=>⟨rfl,rfl⟩)
  ⟨⟨⟨_,rfl,.inl rfl⟩,⟨_,rfl,.inl rfl⟩,⟨_,rfl,.inl rfl⟩,⟨_,rfl,.inl rfl⟩,⟨_,rfl,.inl rfl⟩,⟨_,rfl,.inl rfl⟩,⟨_,rfl,.inl rfl⟩,⟨_,rfl,.inl rfl⟩,trivial⟩,⟨.inl rfl,.inr (.inr ⟨_,_,_,_,rfl,rfl,.inr ⟨2,rfl,rfl,Nat.le_refl _⟩,trivial⟩),.inr (.inl ⟨_,_,rfl,Nat.le_refl _⟩),trivial⟩,rfl,rfl⟩ ?_
 rintro⟨i,from_,d,done,more,⟨ys,b,c⟩,μ2⟩ ⟨hi,hf,hd1,hd2,hD,hrl,hrows,hle,hdl⟩
 dsimp only at hi hf hd1 hd2 hD hrl hrows hle hdl
 have hyl:=hrows.len
 rw[List.length_map]at hyl
 refine ifd (fun hlt=>?_) (fun hlt=>?_)
 ·obtain⟨t,ht⟩:∃t,L[i]?=some t:=⟨_,List.getElem?_eq_getElem (by omega)⟩
  have w_:=Nm.tok (hs.mono hle) ht
  obtain⟨ad,hel⟩:=w_
  rw[bJ ht]at hD
  have hst:=qFd hD
  have hdle:=qJv d t
  refine eIn hel ?_
  refine ifd (fun h40=>?_) (fun h40=>?_)
  ·have h40:t=[40]:=bK h40
   have hdd:cN d t=d+1:=by rw[h40];rfl
   refine aC (by omega) (by omega) ?_
   refine ifd (fun h41=>absurd (bK (b:=[41]) h41) (by rw[h40];decide)) (fun _=>?_)
   refine iIn (fun hpos=>?_) (fun hpos=>?_)
   ·have hpos:=of_decide_eq_true hpos
    rcases hst with⟨_,hnext⟩|⟨hneg,_⟩
    ·refine aC (by omega) (by omega) ⟨(i+1,from_,cN d t,done,more,(ys,b,c),μ2),⟨by dsimp only;omega,by dsimp only;omega,by dsimp only;omega,by dsimp only;omega,?_,hrl,hrows,hle,by dsimp only;omega⟩,by dsimp only;omega,⟨⟨rfl,rfl,rfl,rfl,(by rw[hdd];rfl),rfl,rfl,rfl,trivial⟩,⟨rfl,rfl,rfl,trivial⟩,rfl,rfl⟩⟩
     dsimp only
     rw[show i+1-from_=(i-from_)+1 from by omega,List.take_add_one,List.getElem?_drop,show from_+(i-from_)=i from by omega,ht]
     exact hnext
    ·exact absurd (by rw[hdd];exact hpos) hneg
   ·have hpos:=of_decide_eq_false hpos
    rcases hst with⟨hp,_⟩|⟨_,x,l',hdef,hnext,hmore⟩
    ·exact absurd (by rw[←hdd];exact hp) hpos
    ·have hcur:(L.drop from_).take (i-from_)++[t]=(L.drop from_).take (i+1-from_):=by
      rw[show i+1-from_=(i-from_)+1 from by omega,List.take_add_one,List.getElem?_drop,show from_+(i-from_)=i from by omega,ht]
      rfl
     rw[hcur]at hdef
     have hclen:((L.drop from_).take (i+1-from_)).length=i+1-from_:=by
      rw[List.length_take,List.length_drop];omega
     have hmid:=(hs.mono hle).mid (c:=tc) (l:=from_) (h:=i+1) (by omega) (by omega) hcap
     have hmid':Sl μ2 1 (if tc=from_ then tb else tb.map (·.add (from_*1))) ((L.drop from_).take (i+1-from_)).length ((((L.drop from_).take (i+1-from_)).map mkS).map D.s):=by
      rw[hclen,List.map_take,List.map_take,List.map_drop,List.map_drop]
      exact hmid
     have hdefS:=iL (cap:=tc-from_) hmid' (by omega) (fun t ht=>hLs t (List.mem_of_mem_drop (List.mem_of_mem_take ht))) hdef
     rw[hclen]at hdefS
     refine aC (by omega) (by omega) ?_
     refine aR from_ (i+1) rfl rfl (by omega) (by omega) ?_
     refine cPl hdefS fun v3 μ3 hle3 hR3=>?_
     obtain⟨tv3,rfl,hrx⟩:=hR3
     have w_:=Rl.invV hrx
     obtain⟨q3,rfl⟩:=w_
     intro r11
     refine iIn (fun h=>nomatch h) (fun _=>?_)
     intro r12
     refine gIn ?_ ?_ fun b' c' hb'=>?_
     ·show(ys.length+1)*104≤_;omega
     ·exact Nat.le_trans (m:=100000000) (show ys.length+1≤_ by omega) (by decide)
     refine aC (by omega) (by omega) (aC (by omega) (by omega) ⟨(i+1,i+1,cN d t,done++[x],l',(_,b',c'),μ3),⟨by dsimp only;omega,by dsimp only;omega,by dsimp only;omega,by dsimp only;omega,?_,?_,?_,hle.trans hle3,by simp only[List.length_append,List.length_singleton];omega⟩,by dsimp only;omega,⟨⟨rfl,rfl,rfl,rfl,(by rw[hdd];rfl),rfl,rfl,rfl,trivial⟩,⟨rfl,rfl,rfl,trivial⟩,rfl,rfl⟩⟩)
     ·dsimp only
      rw[Nat.sub_self,List.take_zero]
      exact hnext
     ·dsimp only
      rw[hrl,hmore,List.append_assoc];rfl
     ·dsimp only
      rw[List.map_append]
      exact(hrows.mono hle3).append (Rows.one hrx (Rl.d_n _))
  ·have h40:t≠[40]:=fun e=>h40 (congrArg mkS e)
   refine ifd (fun h41=>?_) (fun h41=>?_)
   ·have h41:t=[41]:=bK h41
    have hdd:cN d t=d-1:=by rw[h41];rfl
    refine aC (by omega) (by omega) ?_
    refine iIn (fun hpos=>?_) (fun hpos=>?_)
    ·have hpos:=of_decide_eq_true hpos
     rcases hst with⟨_,hnext⟩|⟨hneg,_⟩
     ·refine aC (by omega) (by omega) ⟨(i+1,from_,cN d t,done,more,(ys,b,c),μ2),⟨by dsimp only;omega,by dsimp only;omega,by dsimp only;omega,by dsimp only;omega,?_,hrl,hrows,hle,by dsimp only;omega⟩,by dsimp only;omega,⟨⟨rfl,rfl,rfl,rfl,(by rw[hdd];rfl),rfl,rfl,rfl,trivial⟩,⟨rfl,rfl,rfl,trivial⟩,rfl,rfl⟩⟩
      dsimp only
      rw[show i+1-from_=(i-from_)+1 from by omega,List.take_add_one,List.getElem?_drop,show from_+(i-from_)=i from by omega,ht]
      exact hnext
     ·exact absurd (by rw[hdd];exact hpos) hneg
    ·have hpos:=of_decide_eq_false hpos
     rcases hst with⟨hp,_⟩|⟨_,x,l',hdef,hnext,hmore⟩
     ·exact absurd (by rw[←hdd];exact hp) hpos
     ·have hcur:(L.drop from_).take (i-from_)++[t]=(L.drop from_).take (i+1-from_):=by
       rw[show i+1-from_=(i-from_)+1 from by omega,List.take_add_one,List.getElem?_drop,show from_+(i-from_)=i from by omega,ht]
       rfl
      rw[hcur]at hdef
      have hclen:((L.drop from_).take (i+1-from_)).length=i+1-from_:=by
       rw[List.length_take,List.length_drop];omega
      have hmid:=(hs.mono hle).mid (c:=tc) (l:=from_) (h:=i+1) (by omega) (by omega) hcap
      have hmid':Sl μ2 1 (if tc=from_ then tb else tb.map (·.add (from_*1))) ((L.drop from_).take (i+1-from_)).length ((((L.drop from_).take (i+1-from_)).map mkS).map D.s):=by
       rw[hclen,List.map_take,List.map_take,List.map_drop,List.map_drop]
       exact hmid
      have hdefS:=iL (cap:=tc-from_) hmid' (by omega) (fun t ht=>hLs t (List.mem_of_mem_drop (List.mem_of_mem_take ht))) hdef
      rw[hclen]at hdefS
      refine aC (by omega) (by omega) ?_
      refine aR from_ (i+1) rfl rfl (by omega) (by omega) ?_
      refine cPl hdefS fun v3 μ3 hle3 hR3=>?_
      obtain⟨tv3,rfl,hrx⟩:=hR3
      have w_:=Rl.invV hrx
      obtain⟨q3,rfl⟩:=w_
      intro r11
      refine iIn (fun h=>nomatch h) (fun _=>?_)
      intro r12
      refine gIn ?_ ?_ fun b' c' hb'=>?_
      ·show(ys.length+1)*104≤_;omega
      ·exact Nat.le_trans (m:=100000000) (show ys.length+1≤_ by omega) (by decide)
      refine aC (by omega) (by omega) (aC (by omega) (by omega) ⟨(i+1,i+1,cN d t,done++[x],l',(_,b',c'),μ3),⟨by dsimp only;omega,by dsimp only;omega,by dsimp only;omega,by dsimp only;omega,?_,?_,?_,hle.trans hle3,by simp only[List.length_append,List.length_singleton];omega⟩,by dsimp only;omega,⟨⟨rfl,rfl,rfl,rfl,(by rw[hdd];rfl),rfl,rfl,rfl,trivial⟩,⟨rfl,rfl,rfl,trivial⟩,rfl,rfl⟩⟩)
      ·dsimp only
       rw[Nat.sub_self,List.take_zero]
       exact hnext
      ·dsimp only
       rw[hrl,hmore,List.append_assoc];rfl
      ·dsimp only
       rw[List.map_append]
       exact(hrows.mono hle3).append (Rows.one hrx (Rl.d_n _))
   ·have h41:t≠[41]:=fun e=>h41 (congrArg mkS e)
    have hdd:cN d t=d:=by rw[cN,if_neg (by simpa using h40),if_neg (by simpa using h41)]
    refine iIn (fun hpos=>?_) (fun hpos=>?_)
    ·have hpos:=of_decide_eq_true hpos
     rcases hst with⟨_,hnext⟩|⟨hneg,_⟩
     ·refine aC (by omega) (by omega) ⟨(i+1,from_,cN d t,done,more,(ys,b,c),μ2),⟨by dsimp only;omega,by dsimp only;omega,by dsimp only;omega,by dsimp only;omega,?_,hrl,hrows,hle,by dsimp only;omega⟩,by dsimp only;omega,⟨⟨rfl,rfl,rfl,rfl,(by rw[hdd];rfl),rfl,rfl,rfl,trivial⟩,⟨rfl,rfl,rfl,trivial⟩,rfl,rfl⟩⟩
      dsimp only
      rw[show i+1-from_=(i-from_)+1 from by omega,List.take_add_one,List.getElem?_drop,show from_+(i-from_)=i from by omega,ht]
      exact hnext
     ·exact absurd (by rw[hdd];exact hpos) hneg
    ·have hpos:=of_decide_eq_false hpos
     rcases hst with⟨hp,_⟩|⟨_,x,l',hdef,hnext,hmore⟩
     ·exact absurd (by rw[←hdd];exact hp) hpos
     ·have hcur:(L.drop from_).take (i-from_)++[t]=(L.drop from_).take (i+1-from_):=by
       rw[show i+1-from_=(i-from_)+1 from by omega,List.take_add_one,List.getElem?_drop,show from_+(i-from_)=i from by omega,ht]
       rfl
      rw[hcur]at hdef
      have hclen:((L.drop from_).take (i+1-from_)).length=i+1-from_:=by
       rw[List.length_take,List.length_drop];omega
      have hmid:=(hs.mono hle).mid (c:=tc) (l:=from_) (h:=i+1) (by omega) (by omega) hcap
      have hmid':Sl μ2 1 (if tc=from_ then tb else tb.map (·.add (from_*1))) ((L.drop from_).take (i+1-from_)).length ((((L.drop from_).take (i+1-from_)).map mkS).map D.s):=by
       rw[hclen,List.map_take,List.map_take,List.map_drop,List.map_drop]
       exact hmid
      have hdefS:=iL (cap:=tc-from_) hmid' (by omega) (fun t ht=>hLs t (List.mem_of_mem_drop (List.mem_of_mem_take ht))) hdef
      rw[hclen]at hdefS
      refine aC (by omega) (by omega) ?_
      refine aR from_ (i+1) rfl rfl (by omega) (by omega) ?_
      refine cPl hdefS fun v3 μ3 hle3 hR3=>?_
      obtain⟨tv3,rfl,hrx⟩:=hR3
      have w_:=Rl.invV hrx
      obtain⟨q3,rfl⟩:=w_
      intro r11
      refine iIn (fun h=>nomatch h) (fun _=>?_)
      intro r12
      refine gIn ?_ ?_ fun b' c' hb'=>?_
      ·show(ys.length+1)*104≤_;omega
      ·exact Nat.le_trans (m:=100000000) (show ys.length+1≤_ by omega) (by decide)
      refine aC (by omega) (by omega) (aC (by omega) (by omega) ⟨(i+1,i+1,cN d t,done++[x],l',(_,b',c'),μ3),⟨by dsimp only;omega,by dsimp only;omega,by dsimp only;omega,by dsimp only;omega,?_,?_,?_,hle.trans hle3,by simp only[List.length_append,List.length_singleton];omega⟩,by dsimp only;omega,⟨⟨rfl,rfl,rfl,rfl,(by rw[hdd];rfl),rfl,rfl,rfl,trivial⟩,⟨rfl,rfl,rfl,trivial⟩,rfl,rfl⟩⟩)
      ·dsimp only
       rw[Nat.sub_self,List.take_zero]
       exact hnext
      ·dsimp only
       rw[hrl,hmore,List.append_assoc];rfl
      ·dsimp only
       rw[List.map_append]
       exact(hrows.mono hle3).append (Rows.one hrx (Rl.d_n _))
 ·obtain rfl:i=L.length:=by omega
  have hmore:more=[]:=by
   rw[List.drop_length]at hD
   generalize (L.drop from_).take (L.length-from_)=cur at hD
   cases cur with
   |nil=>cases hD;rfl
   |cons a b=>cases hD
  rw[hmore,List.append_nil]at hrl
  refine iIn (fun hd0=>?_) (fun hd0=>?_)
  ·exact rPl ⟨⟨[]⟩,_,false,rfl,qIb,fun h=>nomatch h⟩
  ·refine bG [2] fun μ4 hle4 hno4 hat4=>?_
   have hrep:RepV μ4 (Pg.mk rels).d (.agg #[.slice (b.map fun r=>⟨r,0,none⟩) ys.length c]):=by
    rw[hrl]
    exact⟨_,rfl,RepS.last (Rows.sl hat4 (hrows.mono hle4) (Nat.le_trans (m:=1000) (by omega) (by decide)))⟩
   refine cB (eL hrep hw) fun v5 μ5 hle5 hR5=>?_
   have hR5:v5= .bool (decide (Pg.mk rels).Ok):=hR5
   subst hR5
   refine iIn (fun hok=>?_) (fun hok=>?_)
   ·exact rPl ⟨⟨[]⟩,_,false,rfl,qIb,fun h=>nomatch h⟩
   ·exact rPl ⟨⟨rels⟩,_,true,rfl,hrep.mono hle5,fun _=>⟨rfl,nd' hok⟩⟩
end Go.Vx
namespace Go.Vx
open Go.Proofs Classical
mutual
def D.wdB:D→Bool
 | .i n=>decide (-9223372036854775808≤n∧n≤9223372036854775807)
 | .b _=>true
 | .s x=>decide (x.size≤1000)
 | .st fs=>D.wdsB fs
 | .sl _ xs=>D.wdsB xs
def D.wdsB:List D→Bool
 |[]=>true
 |d::r=>d.wdB&&D.wdsB r
end
mutual
theorem D.wd_ofB:∀d:D,d.wdB=true→d.wd
 | .i n,h=>by
  have:=of_decide_eq_true h
  show InR n
  unfold InR
  omega
 | .b _,_=>trivial
 | .s x,h=>Nat.le_trans (of_decide_eq_true h) (by decide)
 | .st fs,h=>D.wds_ofB fs h
 | .sl _ xs,h=>D.wds_ofB xs h
theorem D.wds_ofB:∀l:List D,D.wdsB l=true→D.wds l
 |[],_=>trivial
 |d::r,h=>by
  rw[D.wdsB,Bool.and_eq_true]at h
  exact⟨D.wd_ofB d h.1,D.wds_ofB r h.2⟩
end
def qKk(s:Bs):Bool:=decide (s.length≤400)&&s.all (fun b=>decide (b.toNat≠59∧(b.toNat=10∨(32≤b.toNat∧b.toNat≤126))))&&(match qFu s with
 |some p=>p.d.wdB&&jM 3 p&&jM 2 p&& !p.rels.isEmpty&&p.rels.all (fun r=>decide (1≤r.arity))
 |none=>false)
structure LibOk (s:Bs) (p:Pg):Prop where
 parse:qFu s=some p
 len:s.length≤400
 bytes:∀b∈s,b.toNat≠59∧(b.toNat=10∨(32≤b.toNat∧b.toNat≤126))
 wd:p.d.wd
 small3:jM 3 p=true
 small2:jM 2 p=true
 ne:p.rels≠[]
 ar:∀r∈p.rels,1≤r.arity
theorem pG{s:Bs}(h:qKk s=true):∃p,LibOk s p:=by
 unfold qKk at h
 rw[Bool.and_eq_true,Bool.and_eq_true,List.all_eq_true]at h
 obtain⟨⟨h1,h2⟩,h3⟩:=h
 split at h3
 ·rename_i p hp
  simp only[Bool.and_eq_true]at h3
  obtain⟨⟨⟨⟨h4,h5⟩,h6⟩,h7⟩,h8⟩:=h3
  refine⟨p,hp,of_decide_eq_true h1,fun b hb=>of_decide_eq_true (h2 b hb),D.wd_ofB _ h4,h5,h6,fun e=>?_,fun r hr=>of_decide_eq_true (List.all_eq_true.1 h8 r hr)⟩
  rw[e]at h7
  cases h7
 ·cases h3
def qCs:Bs:=[108,105,115,116,115]
def yW:Bs:=[40,100,101,102,105,110,101,32,40,97,112,112,101,110,100,32,63,97,32,63,98,32,63,99,41,32,40,111,114,32,40,97,110,100,32,40,61,32,63,97,32,40,41,41,32,40,61,32,63,98,32,63,99,41,41,32,40,97,110,100,32,40,61,32,63,97,32,40,63,120,32,46,32,63,121,41,41,32,40,61,32,63,99,32,40,63,120,32,46,32,63,122,41,41,32,40,97,112,112,101,110,100,32,63,121,32,63,98,32,63,122,41,41,41,41]
def yE:Bs:=[40,100,101,102,105,110,101,32,40,109,101,109,98,101,114,32,63,120,32,63,108,41,32,40,111,114,32,40,61,32,63,108,32,40,63,120,32,46,32,63,114,41,41,32,40,97,110,100,32,40,61,32,63,108,32,40,63,121,32,46,32,63,114,41,41,32,40,109,101,109,98,101,114,32,63,120,32,63,114,41,41,41,41]
def lib0:Bs:=yW++[10]++(yE++[10])
theorem lib0_ok:qKk lib0=true:=by decide+kernel
def qHm:Bs:=[103,114,97,112,104]
def xI:Bs:=[40,100,101,102,105,110,101,32,40,101,100,103,101,32,63,97,32,63,98,41,32,40,111,114,32,40,97,110,100,32,40,61,32,63,97,32,97,41,32,40,61,32,63,98,32,98,41,41,32,40,97,110,100,32,40,61,32,63,97,32,98,41,32,40,61,32,63,98,32,99,41,41,32,40,97,110,100,32,40,61,32,63,97,32,99,41,32,40,61,32,63,98,32,97,41,41,41,41]
def yM:Bs:=[40,100,101,102,105,110,101,32,40,112,97,116,104,32,63,97,32,63,98,41,32,40,111,114,32,40,101,100,103,101,32,63,97,32,63,98,41,32,40,97,110,100,32,40,112,97,116,104,32,63,97,32,63,99,41,32,40,101,100,103,101,32,63,99,32,63,98,41,41,41,41]
def lib1:Bs:=xI++[10]++(yM++[10])
theorem lib1_ok:qKk lib1=true:=by decide+kernel
def qLx:Bs:=[115,101,116,115]
def yT:Bs:=[40,100,101,102,105,110,101,32,40,111,117,116,115,105,100,101,32,63,120,32,63,108,41,32,40,111,114,32,40,61,32,63,108,32,40,41,41,32,40,97,110,100,32,40,61,32,63,108,32,40,63,121,32,46,32,63,114,41,41,32,40,47,61,32,63,120,32,63,121,41,32,40,111,117,116,115,105,100,101,32,63,120,32,63,114,41,41,41,41]
def yQ:Bs:=[40,100,101,102,105,110,101,32,40,100,105,115,116,105,110,99,116,32,63,108,41,32,40,111,114,32,40,61,32,63,108,32,40,41,41,32,40,97,110,100,32,40,61,32,63,108,32,40,63,120,32,46,32,63,114,41,41,32,40,111,117,116,115,105,100,101,32,63,120,32,63,114,41,32,40,100,105,115,116,105,110,99,116,32,63,114,41,41,41,41]
def lib2:Bs:=yT++[10]++(yQ++[10])
theorem lib2_ok:qKk lib2=true:=by decide+kernel
def libN3:Bs:=[103,97,109,101,115]
def yA:Bs:=[40,100,101,102,105,110,101,32,40,109,111,118,101,32,63,97,32,63,98,41,32,40,111,114,32,40,97,110,100,32,40,61,32,63,97,32,97,41,32,40,61,32,63,98,32,98,41,41,32,40,97,110,100,32,40,61,32,63,97,32,98,41,32,40,61,32,63,98,32,97,41,41,32,40,97,110,100,32,40,61,32,63,97,32,98,41,32,40,61,32,63,98,32,99,41,41,41,41]
def zB:Bs:=[40,100,101,102,105,110,101,32,40,119,105,110,32,63,97,41,32,40,97,110,100,32,40,109,111,118,101,32,63,97,32,63,98,41,32,40,110,111,116,32,40,119,105,110,32,63,98,41,41,41,41]
def lib3:Bs:=yA++[10]++(zB++[10])
theorem lib3_ok:qKk lib3=true:=by decide+kernel
def libNames:List Bs:=[qCs,qHm,qLx,libN3]
section
variable {μ:Mem}
theorem nG(a b:Bs)(i:Nat):([a,b].take i).flatMap (·++[10])=if i=0 then []else if i=1 then a++[10]else a++[10]++(b++[10]):=by
 match i with
 |0=>rfl
 |1=>simp
 |i+2=>simp
set_option maxRecDepth 20000 in
theorem wN:aP Tryz.prog 50 [.string (mkS qCs)] μ (.string (mkS lib0)):=by
 refine Spec.mk Tryz.func50 (by kernel_rfl) ?_
 intro r0
 refine ifd (fun _=>?_) (fun h=>absurd rfl h)
 intro r1
 refine lIn (fun i:Nat=>i≤2) (fun i=>⟨[(4,.val (.string (mkS (([yW,yE].take i).flatMap (·++[10]))))),(21,.row 1 (some r1) 2 2),(22,.val (.int .i64 2)),(23,.val (.int .i64 i))],[(1,some (.row (some r1) 2 9 1 [.string (mkS yW),.string (mkS yE)]))],2,μ,Mem.nil⟩) (fun i=>2-i)
  0 (by omega) (fun _=>⟨rfl,rfl⟩) ⟨⟨rfl,rfl,rfl,rfl,trivial⟩,⟨rfl,trivial⟩,rfl,rfl⟩ ?_
 intro i hi
 refine ifd (fun hlt=>?_) (fun hlt=>?_)
 ·have w_:i=0∨i=1:=by omega
  rcases w_ with rfl|rfl
  ·refine bA 0 rfl (by decide) (bB (.string (mkS yW)) rfl ?_)
   refine aD (by decide+kernel) ?_
   intro r2
   refine bW [10] rfl ?_
   refine aD (by decide+kernel) ?_
   refine aC (by decide) (by decide) ⟨1,by decide,by decide,⟨⟨?_,rfl,rfl,rfl,trivial⟩,⟨rfl,trivial⟩,rfl,rfl⟩⟩
   exact congrArg (fun s=>some (SV.val (.string s))) (show mkS []++mkS yW++mkS [10]=_ by rw[bO,bO,nG];rfl)
  ·refine bA 1 rfl (by decide) (bB (.string (mkS yE)) rfl ?_)
   refine aD (by decide+kernel) ?_
   intro r2
   refine bW [10] rfl ?_
   refine aD (by decide+kernel) ?_
   refine aC (by decide) (by decide) ⟨2,by decide,by decide,⟨⟨?_,rfl,rfl,rfl,trivial⟩,⟨rfl,trivial⟩,rfl,rfl⟩⟩
   exact congrArg (fun s=>some (SV.val (.string s))) (show mkS (([yW,yE].take 1).flatMap (·++[10]))++mkS yE++mkS [10]=_ by rw[bO,bO,nG,nG];simp)
 ·obtain rfl:i=2:=by omega
  exact rGv (congrArg (fun s=>Value.string (mkS s)) (nG _ _ 2)) rfl
set_option maxRecDepth 20000 in
theorem wW:aP Tryz.prog 50 [.string (mkS qHm)] μ (.string (mkS lib1)):=by
 refine Spec.mk Tryz.func50 (by kernel_rfl) ?_
 intro r0
 refine ifd (fun h=>absurd (bK (b:=qCs) h) (by decide)) (fun _=>?_)
 refine ifd (fun _=>?_) (fun h=>absurd rfl h)
 intro r1
 refine lIn (fun i:Nat=>i≤2) (fun i=>⟨[(4,.val (.string (mkS (([xI,yM].take i).flatMap (·++[10]))))),(21,.row 1 (some r1) 2 2),(22,.val (.int .i64 2)),(23,.val (.int .i64 i))],[(1,some (.row (some r1) 2 9 1 [.string (mkS xI),.string (mkS yM)]))],2,μ,Mem.nil⟩) (fun i=>2-i)
  0 (by omega) (fun _=>⟨rfl,rfl⟩) ⟨⟨rfl,rfl,rfl,rfl,trivial⟩,⟨rfl,trivial⟩,rfl,rfl⟩ ?_
 intro i hi
 refine ifd (fun hlt=>?_) (fun hlt=>?_)
 ·have w_:i=0∨i=1:=by omega
  rcases w_ with rfl|rfl
  ·refine bA 0 rfl (by decide) (bB (.string (mkS xI)) rfl ?_)
   refine aD (by decide+kernel) ?_
   intro r2
   refine bW [10] rfl ?_
   refine aD (by decide+kernel) ?_
   refine aC (by decide) (by decide) ⟨1,by decide,by decide,⟨⟨?_,rfl,rfl,rfl,trivial⟩,⟨rfl,trivial⟩,rfl,rfl⟩⟩
   exact congrArg (fun s=>some (SV.val (.string s))) (show mkS []++mkS xI++mkS [10]=_ by rw[bO,bO,nG];rfl)
  ·refine bA 1 rfl (by decide) (bB (.string (mkS yM)) rfl ?_)
   refine aD (by decide+kernel) ?_
   intro r2
   refine bW [10] rfl ?_
   refine aD (by decide+kernel) ?_
   refine aC (by decide) (by decide) ⟨2,by decide,by decide,⟨⟨?_,rfl,rfl,rfl,trivial⟩,⟨rfl,trivial⟩,rfl,rfl⟩⟩
   exact congrArg (fun s=>some (SV.val (.string s))) (show mkS (([xI,yM].take 1).flatMap (·++[10]))++mkS yM++mkS [10]=_ by rw[bO,bO,nG,nG];simp)
 ·obtain rfl:i=2:=by omega
  exact rGv (congrArg (fun s=>Value.string (mkS s)) (nG _ _ 2)) rfl
set_option maxRecDepth 20000 in
theorem wR:aP Tryz.prog 50 [.string (mkS qLx)] μ (.string (mkS lib2)):=by
 refine Spec.mk Tryz.func50 (by kernel_rfl) ?_
 intro r0
 refine ifd (fun h=>absurd (bK (b:=qCs) h) (by decide)) (fun _=>?_)
 refine ifd (fun h=>absurd (bK (b:=qHm) h) (by decide)) (fun _=>?_)
 refine ifd (fun _=>?_) (fun h=>absurd rfl h)
 intro r1
 refine lIn (fun i:Nat=>i≤2) (fun i=>⟨[(4,.val (.string (mkS (([yT,yQ].take i).flatMap (·++[10]))))),(21,.row 1 (some r1) 2 2),(22,.val (.int .i64 2)),(23,.val (.int .i64 i))],[(1,some (.row (some r1) 2 9 1 [.string (mkS yT),.string (mkS yQ)]))],2,μ,Mem.nil⟩) (fun i=>2-i)
  0 (by omega) (fun _=>⟨rfl,rfl⟩) ⟨⟨rfl,rfl,rfl,rfl,trivial⟩,⟨rfl,trivial⟩,rfl,rfl⟩ ?_
 intro i hi
 refine ifd (fun hlt=>?_) (fun hlt=>?_)
 ·have w_:i=0∨i=1:=by omega
  rcases w_ with rfl|rfl
  ·refine bA 0 rfl (by decide) (bB (.string (mkS yT)) rfl ?_)
   refine aD (by decide+kernel) ?_
   intro r2
   refine bW [10] rfl ?_
   refine aD (by decide+kernel) ?_
   refine aC (by decide) (by decide) ⟨1,by decide,by decide,⟨⟨?_,rfl,rfl,rfl,trivial⟩,⟨rfl,trivial⟩,rfl,rfl⟩⟩
   exact congrArg (fun s=>some (SV.val (.string s))) (show mkS []++mkS yT++mkS [10]=_ by rw[bO,bO,nG];rfl)
  ·refine bA 1 rfl (by decide) (bB (.string (mkS yQ)) rfl ?_)
   refine aD (by decide+kernel) ?_
   intro r2
   refine bW [10] rfl ?_
   refine aD (by decide+kernel) ?_
   refine aC (by decide) (by decide) ⟨2,by decide,by decide,⟨⟨?_,rfl,rfl,rfl,trivial⟩,⟨rfl,trivial⟩,rfl,rfl⟩⟩
   exact congrArg (fun s=>some (SV.val (.string s))) (show mkS (([yT,yQ].take 1).flatMap (·++[10]))++mkS yQ++mkS [10]=_ by rw[bO,bO,nG,nG];simp)
 ·obtain rfl:i=2:=by omega
  exact rGv (congrArg (fun s=>Value.string (mkS s)) (nG _ _ 2)) rfl
set_option maxRecDepth 20000 in
theorem wS:aP Tryz.prog 50 [.string (mkS libN3)] μ (.string (mkS lib3)):=by
 refine Spec.mk Tryz.func50 (by kernel_rfl) ?_
 intro r0
 refine ifd (fun h=>absurd (bK (b:=qCs) h) (by decide)) (fun _=>?_)
 refine ifd (fun h=>absurd (bK (b:=qHm) h) (by decide)) (fun _=>?_)
 refine ifd (fun h=>absurd (bK (b:=qLx) h) (by decide)) (fun _=>?_)
 refine ifd (fun _=>?_) (fun h=>absurd rfl h)
 intro r1
 refine lIn (fun i:Nat=>i≤2) (fun i=>⟨[(4,.val (.string (mkS (([yA,zB].take i).flatMap (·++[10]))))),(21,.row 1 (some r1) 2 2),(22,.val (.int .i64 2)),(23,.val (.int .i64 i))],[(1,some (.row (some r1) 2 9 1 [.string (mkS yA),.string (mkS zB)]))],2,μ,Mem.nil⟩) (fun i=>2-i)
  0 (by omega) (fun _=>⟨rfl,rfl⟩) ⟨⟨rfl,rfl,rfl,rfl,trivial⟩,⟨rfl,trivial⟩,rfl,rfl⟩ ?_
 intro i hi
 refine ifd (fun hlt=>?_) (fun hlt=>?_)
 ·have w_:i=0∨i=1:=by omega
  rcases w_ with rfl|rfl
  ·refine bA 0 rfl (by decide) (bB (.string (mkS yA)) rfl ?_)
   refine aD (by decide+kernel) ?_
   intro r2
   refine bW [10] rfl ?_
   refine aD (by decide+kernel) ?_
   refine aC (by decide) (by decide) ⟨1,by decide,by decide,⟨⟨?_,rfl,rfl,rfl,trivial⟩,⟨rfl,trivial⟩,rfl,rfl⟩⟩
   exact congrArg (fun s=>some (SV.val (.string s))) (show mkS []++mkS yA++mkS [10]=_ by rw[bO,bO,nG];rfl)
  ·refine bA 1 rfl (by decide) (bB (.string (mkS zB)) rfl ?_)
   refine aD (by decide+kernel) ?_
   intro r2
   refine bW [10] rfl ?_
   refine aD (by decide+kernel) ?_
   refine aC (by decide) (by decide) ⟨2,by decide,by decide,⟨⟨?_,rfl,rfl,rfl,trivial⟩,⟨rfl,trivial⟩,rfl,rfl⟩⟩
   exact congrArg (fun s=>some (SV.val (.string s))) (show mkS (([yA,zB].take 1).flatMap (·++[10]))++mkS zB++mkS [10]=_ by rw[bO,bO,nG,nG];simp)
 ·obtain rfl:i=2:=by omega
  exact rGv (congrArg (fun s=>Value.string (mkS s)) (nG _ _ 2)) rfl
end
end Go.Vx
namespace Go.Vx
open Go.Proofs Classical
section
variable {μ:Mem}
theorem qCf{h:Mem}{r:Nat}(hc:Cur μ h r h){L:List Bs}{base:Option Addr}{cap:Nat}(hs:Sl μ 1 base L.length ((L.map mkS).map D.s))(h1:1≤L.length)(h2:L.length≤200):
  SpecH Tryz.prog 124 [.pointer (some ⟨r,0,none⟩),.slice base L.length cap] μ h fun v μ' h'=>μ'=μ∧Cur μ h r h'∧∃s∈L,v= .string (mkS s):=by
 refine SpecH.mk [] Tryz.func124 (by kernel_rfl) ?_
 refine cOw (aJ hc L.length) fun v μ1 h1 hle1 hap1 hR=>?_
 obtain⟨e,hc1,k,rfl,hk,hk2,_⟩:=hR
 obtain rfl:=e.symm
 have hk2:=hk2 (by omega)
 obtain⟨t,ht⟩:∃t,L[k]?=some t:=⟨_,List.getElem?_eq_getElem (by omega)⟩
 have w_:=Nm.tok hs ht
 obtain⟨ad,hel⟩:=w_
 refine eIn hel ?_
 exact rPl ⟨rfl,hc1,t,List.mem_of_getElem? ht,rfl⟩
theorem qBk{h:Mem}{r:Nat}(hc:Cur μ h r h):
  SpecH Tryz.prog 51 [.pointer (some ⟨r,0,none⟩)] μ h fun v μ' h'=>Cur μ' h r h'∧∃s∈libNames,v= .string (mkS s):=by
 refine SpecH.mk [] Tryz.func51 (by kernel_rfl) ?_
 intro r0
 refine bG [0] fun μ4 hle4 hno4 hat4=>?_
 have k:=Rows.sl hat4 (Nm.rows (libNames.map mkS)) (by decide)
 have w_:=Rep.sl k
 obtain⟨bz,cz,ez,hsz⟩:=w_
 have w_:=Value.slice.inj ez
 obtain⟨e1,e2,_⟩:=w_
 rw[List.length_map,List.length_map,←e1]at hsz
 refine .inr ⟨_,qCf (L:=libNames) (hc.mono hle4) hsz (by decide) (by decide),fun v μ5 h5 hle5 hap5 hR=>?_⟩
 obtain⟨rfl,hc5,s,hs,rfl⟩:=hR
 exact rPl ⟨hc5,s,hs,rfl⟩
theorem qAp{s:Bs}(hs:s∈libNames):∃t p,LibOk t p∧aP Tryz.prog 50 [.string (mkS s)] μ (.string (mkS t)):=by
 simp only[libNames,List.mem_cons,List.not_mem_nil,or_false]at hs
 rcases hs with rfl|rfl|rfl|rfl
 ·have w_:=pG lib0_ok;obtain⟨p,hp⟩:=w_;exact⟨_,p,hp,wN⟩
 ·have w_:=pG lib1_ok;obtain⟨p,hp⟩:=w_;exact⟨_,p,hp,wW⟩
 ·have w_:=pG lib2_ok;obtain⟨p,hp⟩:=w_;exact⟨_,p,hp,wR⟩
 ·have w_:=pG lib3_ok;obtain⟨p,hp⟩:=w_;exact⟨_,p,hp,wS⟩
end
end Go.Vx
namespace Go.Vx
open Go.Proofs Classical
theorem iI{k:Int}{ts:List T}(h0:0≤k)(h6:k≤6)(l2:k=2∨k=3∨k=6→ts.length=2)(l1:k=4∨k=5→ts.length=1)(l0:k=0∨k=1→ts.length=0)(hs:k=6→∀a,(ts.map T.tm)[0]?=some a→a.kind=2)(hok:∀t∈ts,t.ok):TopOk (.mk k ⟨#[]⟩ (ts.map T.tm) []) where
 tm:=fun t ht=>by
  have w_:=List.mem_map.1 ht
  obtain⟨x,hx,rfl⟩:=w_
  exact(hok x hx).tm
 k0:=h0
 k1:=by show k≤10;omega
 nm:=fun _=>rfl
 rel:=fun h=>by have h:k=9:=h;omega
 ln9:=fun h=>by have h:k=9:=h;omega
 ln2:=fun h=>by show(ts.map T.tm).length=2;rw[List.length_map];exact l2 h
 ln1:=fun h=>by show(ts.map T.tm).length=1;rw[List.length_map];exact l1 h
 ln0:=fun h=>by
  show(ts.map T.tm).length=0
  have h:k=0∨k=1∨k=7∨k=8∨k=10:=h
  rw[List.length_map];exact l0 (by omega)
 gl:=Nat.zero_le _
 gl0:=fun _=>rfl
 gl1:=fun h=>by have h:k=10:=h;omega
 sy:=hs
 cl:=fun h=>by have h:k=10:=h;omega
def qMc(h:Mem)(r n:Nat)(v:Value)(μ' h':Mem):Prop:=Cur μ' h r h'∧∃g:Gl,RepV μ' g.d v∧∀sg mode,Dr sg n mode 1 1 g
theorem fQ{k:Int}{ts:List T}{n:Nat}(top:TopOk (.mk k ⟨#[]⟩ (ts.map T.tm) []))(hk:k≤6)(ht:∀t∈ts,∀v,t.occ v→0≤v∧v<(n:Int)):∀sg mode,Dr sg n mode 1 1 (.mk k ⟨#[]⟩ (ts.map T.tm) []):=fun sg mode=>
 Dr.leaf top (by omega) (by omega) (by omega) ht (fun h=>by omega)
section
variable {μ:Mem}
set_option maxHeartbeats 1000000 in
theorem uH{h:Mem}{r:Nat}(hc:Cur μ h r h)(n:Nat)(hn:n≤8)(pure:Bool):
  SpecH Tryz.prog 188 [.pointer (some ⟨r,0,none⟩),.int .i64 n,.bool pure] μ h fun v μ' h'=>qMc h r n v μ' h':=by
 have hB1:lvB 1=1:=by rw[lvB,if_neg (by decide)]
 refine SpecH.mk [] Tryz.func188 (by kernel_rfl) ?_
 intro r6
 refine cOw (eF n (by omega) 1 (by decide) hc) fun v μ1 h1 hle1 hap1 hR=>?_
 obtain⟨hc1,ta,hra,hda⟩:=hR
 rw[hB1]at hda
 have w_:=Tm.invV hra
 obtain⟨pa,rfl⟩:=w_
 intro r7
 refine cOw (eF n (by omega) 4 (by decide) hc1.at) fun v μ2 h2 hle2 hap2 hR=>?_
 obtain⟨hc2,tb,hrb,hdb⟩:=hR
 rw[lvB_4]at hdb
 have w_:=Tm.invV hrb
 obtain⟨pb,rfl⟩:=w_
 intro r8
 refine cOw (aJ hc2.at 16) fun v μ3 h3 hle3 hap3 hR=>?_
 obtain⟨e,hc3,k,rfl,hk,hk16,_⟩:=hR
 obtain rfl:=e.symm
 have hk16:=hk16 (by decide)
 have hc3:=(hc1.trans hc2).trans hc3
 refine iIn (fun hp=>?_) (fun hp=>?_)
 ·intro rs
  refine bG [3] fun μ4 hle4 hno4 hat4=>?_
  refine cB (bU (k:=2) (a:=(some ⟨rs,0,none⟩,2,2)) (b:=(none,0,0))) fun v8 μ8 hle8 hR8=>?_
  obtain⟨rfl,rfl⟩:=hR8
  refine rPl ⟨(hc3.mono hle4),.mk 2 ⟨#[]⟩ ([ta,tb].map T.tm) [],cX (Rows.sl hat4 (.cons (hra.mono ((hle2.trans hle3).trans hle4)) (Tm.d_n _) (Rows.one (hrb.mono (hle3.trans hle4)) (Tm.d_n _))) (by show 2≤_;decide)) (Rep.nilSl 4),fQ (iI (by decide) (by decide) (fun _=>rfl) (fun h=>absurd h (by decide)) (fun h=>absurd h (by decide)) (fun h=>absurd h (by decide)) (fun t ht=>?_)) (by decide) (fun t ht=>?_)⟩
  ·rcases List.mem_cons.1 ht with rfl|ht
   ·exact hda.ok (by omega)
   ·rw[List.mem_singleton.1 ht];exact hdb.ok (by omega)
  ·rcases List.mem_cons.1 ht with rfl|ht
   ·exact hda.low
   ·rw[List.mem_singleton.1 ht];exact hdb.low
 refine iIn (fun hp=>?_) (fun hp=>?_)
 ·intro rs
  refine bG [3] fun μ4 hle4 hno4 hat4=>?_
  refine cB (bU (k:=2) (a:=(some ⟨rs,0,none⟩,2,2)) (b:=(none,0,0))) fun v8 μ8 hle8 hR8=>?_
  obtain⟨rfl,rfl⟩:=hR8
  refine rPl ⟨(hc3.mono hle4),.mk 2 ⟨#[]⟩ ([ta,tb].map T.tm) [],cX (Rows.sl hat4 (.cons (hra.mono ((hle2.trans hle3).trans hle4)) (Tm.d_n _) (Rows.one (hrb.mono (hle3.trans hle4)) (Tm.d_n _))) (by show 2≤_;decide)) (Rep.nilSl 4),fQ (iI (by decide) (by decide) (fun _=>rfl) (fun h=>absurd h (by decide)) (fun h=>absurd h (by decide)) (fun h=>absurd h (by decide)) (fun t ht=>?_)) (by decide) (fun t ht=>?_)⟩
  ·rcases List.mem_cons.1 ht with rfl|ht
   ·exact hda.ok (by omega)
   ·rw[List.mem_singleton.1 ht];exact hdb.ok (by omega)
  ·rcases List.mem_cons.1 ht with rfl|ht
   ·exact hda.low
   ·rw[List.mem_singleton.1 ht];exact hdb.low
 refine ifd (fun h9=>?_) (fun h9=>?_)
 ·intro rs
  refine bG [3] fun μ4 hle4 hno4 hat4=>?_
  refine cB (bU (k:=4) (a:=(some ⟨rs,0,none⟩,1,1)) (b:=(none,0,0))) fun v8 μ8 hle8 hR8=>?_
  obtain⟨rfl,rfl⟩:=hR8
  refine rPl ⟨(hc3.mono hle4),.mk 4 ⟨#[]⟩ ([ta].map T.tm) [],cX (Rows.sl hat4 (Rows.one (hra.mono ((hle2.trans hle3).trans hle4)) (Tm.d_n _)) (by show 1≤_;decide)) (Rep.nilSl 4),fQ (iI (by decide) (by decide) (fun h=>absurd h (by decide)) (fun _=>rfl) (fun h=>absurd h (by decide)) (fun h=>absurd h (by decide)) (fun t ht=>?_)) (by decide) (fun t ht=>?_)⟩
  ·rw[List.mem_singleton.1 ht];exact hda.ok (by omega)
  ·rw[List.mem_singleton.1 ht];exact hda.low
 refine ifd (fun h10=>?_) (fun h10=>?_)
 ·intro rs
  refine bG [3] fun μ4 hle4 hno4 hat4=>?_
  refine cB (bU (k:=5) (a:=(some ⟨rs,0,none⟩,1,1)) (b:=(none,0,0))) fun v8 μ8 hle8 hR8=>?_
  obtain⟨rfl,rfl⟩:=hR8
  refine rPl ⟨(hc3.mono hle4),.mk 5 ⟨#[]⟩ ([ta].map T.tm) [],cX (Rows.sl hat4 (Rows.one (hra.mono ((hle2.trans hle3).trans hle4)) (Tm.d_n _)) (by show 1≤_;decide)) (Rep.nilSl 4),fQ (iI (by decide) (by decide) (fun h=>absurd h (by decide)) (fun _=>rfl) (fun h=>absurd h (by decide)) (fun h=>absurd h (by decide)) (fun t ht=>?_)) (by decide) (fun t ht=>?_)⟩
  ·rw[List.mem_singleton.1 ht];exact hda.ok (by omega)
  ·rw[List.mem_singleton.1 ht];exact hda.low
 refine ifd (fun h11=>?_) (fun h11=>?_)
 ·refine cPl (gE ⟨#[97]⟩) fun v μs hles hRs=>?_
  have w_:=Tm.invV hRs
  obtain⟨ps,rfl⟩:=w_
  intro rs
  refine bG [3] fun μ4 hle4 hno4 hat4=>?_
  refine cB (bU (k:=6) (a:=(some ⟨rs,0,none⟩,2,2)) (b:=(none,0,0))) fun v8 μ8 hle8 hR8=>?_
  obtain⟨rfl,rfl⟩:=hR8
  refine rPl ⟨(hc3.mono hles).mono hle4,.mk 6 ⟨#[]⟩ ([T.sym ⟨#[97]⟩,tb].map T.tm) [],cX (Rows.sl hat4 (.cons (hRs.mono hle4) (Tm.d_n _) (Rows.one (((hrb.mono hle3).mono hles).mono hle4) (Tm.d_n _))) (by show 2≤_;decide)) (Rep.nilSl 4),fQ (iI (by decide) (by decide) (fun _=>rfl) (fun h=>absurd h (by decide)) (fun h=>absurd h (by decide)) (fun _ a ha=>by cases ha;rfl) (fun t ht=>?_)) (by decide) (fun t ht=>?_)⟩
  ·rcases List.mem_cons.1 ht with rfl|ht
   ·exact⟨mB (by decide),by decide⟩
   ·rw[List.mem_singleton.1 ht];exact hdb.ok (by omega)
  ·rcases List.mem_cons.1 ht with rfl|ht
   ·exact fun v hv=>absurd hv (fun h=>h)
   ·rw[List.mem_singleton.1 ht];exact hdb.low
 refine ifd (fun h12=>?_) (fun h12=>?_)
 ·refine cOw (aJ hc3.at 8) fun v μ4 h4 hle4 hap4 hR=>?_
  obtain⟨e4,hc4,k4,rfl,hk4,hk48,_⟩:=hR
  obtain rfl:=e4.symm
  have hk48:=hk48 (by decide)
  refine aD (by decide) ?_
  refine nEq (x:=((k4 / 7:Nat):Int)) (by show IntKind.i64.wrap (Int.tdiv (k4:Int) 7)=_;rw[Int.tdiv_eq_ediv_of_nonneg (by omega),aA (by omega) (by omega)];simp) ?_
  have w_:k4 / 7=0∨k4 / 7=1:=by omega
  rcases w_ with e7|e7
  all_goals
   rw[e7]
   refine cGv (bU (a:=(none,0,0)) (b:=(none,0,0))) ?_
   refine rPl ⟨hc3.trans hc4,.mk _ ⟨#[]⟩ ([].map T.tm) [],cX (Rep.nilSl 4) (Rep.nilSl 4),fQ (iI (by decide) (by decide) (fun h=>absurd h (by decide)) (fun h=>absurd h (by decide)) (fun _=>rfl) (fun h=>absurd h (by decide)) (fun t ht=>by cases ht)) (by decide) (fun t ht=>by cases ht)⟩
 ·intro rs
  refine bG [3] fun μ4 hle4 hno4 hat4=>?_
  refine cB (bU (k:=3) (a:=(some ⟨rs,0,none⟩,2,2)) (b:=(none,0,0))) fun v8 μ8 hle8 hR8=>?_
  obtain⟨rfl,rfl⟩:=hR8
  refine rPl ⟨(hc3.mono hle4),.mk 3 ⟨#[]⟩ ([ta,tb].map T.tm) [],cX (Rows.sl hat4 (.cons (hra.mono ((hle2.trans hle3).trans hle4)) (Tm.d_n _) (Rows.one (hrb.mono (hle3.trans hle4)) (Tm.d_n _))) (by show 2≤_;decide)) (Rep.nilSl 4),fQ (iI (by decide) (by decide) (fun _=>rfl) (fun h=>absurd h (by decide)) (fun h=>absurd h (by decide)) (fun h=>absurd h (by decide)) (fun t ht=>?_)) (by decide) (fun t ht=>?_)⟩
  ·rcases List.mem_cons.1 ht with rfl|ht
   ·exact hda.ok (by omega)
   ·rw[List.mem_singleton.1 ht];exact hdb.ok (by omega)
  ·rcases List.mem_cons.1 ht with rfl|ht
   ·exact hda.low
   ·rw[List.mem_singleton.1 ht];exact hdb.low
end
end Go.Vx
