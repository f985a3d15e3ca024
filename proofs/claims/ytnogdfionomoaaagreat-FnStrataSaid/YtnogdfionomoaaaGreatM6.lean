/- Texts of the proof, part M6. -/
import Derived.Test.YtnogdfionomoaaaGreatM5
namespace Go.Vx
open Go.Proofs Classical
theorem RowO.ownA{h:Mem}{r cap:Nat}{ty:TypeId}{es:Nat}{xs:List Value}{k:Nat}{x:Value}(hr:RowO h r cap ty es xs)(hx:xs[k]?=some x){ad:Addr}(ha:ad=⟨r,k*es,none⟩):∀i v,(aB x)[i]?=some v→h.cell (ad.add i)=some v:=fun i v hi=>by
 subst ha
 rw[Addr.add_lit']
 exact hr.cell hx hi
def RelV(sg:ByteArray×Int)(x:Value):Prop:=∃(lo k:Int) (s:ByteArray) (b1:Option Addr) (n1 c1:Nat) (b2:Option Addr) (n2 c2:Nat),x= .agg #[.string sg.1,.int .i64 sg.2,.int .i64 lo,.int .i64 k,.string s,.slice b1 n1 c1,.slice b2 n2 c2]
structure RelsO (h:Mem) (rb cap:Nat) (sg:Sig) (xs:List Value):Prop where
 row:RowO h rb cap 63 7 xs
 len:xs.length=sg.length
 at_:∀(i:Nat) q,sg[i]?=some q→∃x,xs[i]?=some x∧RelV q x
theorem RelsO.cur{μ h h':Mem}{r rb cap:Nat}{sg:Sig}{xs:List Value}(k:RelsO h rb cap sg xs)(hne:rb≠r)(hc:Cur μ h r h'):RelsO h' rb cap sg xs:=by
 obtain⟨o,_,rfl⟩:=hc.ex
 exact⟨k.row.set_ne hne,k.len,k.at_⟩
structure SigOk (sg:Sig):Prop where
 pos:1≤sg.length
 max:sg.length≤3
 nm:∀q∈sg,iT q.1
 ar:∀q∈sg,0≤q.2∧q.2≤4
theorem qDl{s:ByteArray}{ts:List T}(hs:iT s)(hl:ts.length≤4)(hok:∀t∈ts,t.ok):TopOk (.mk 9 s (ts.map T.tm) []) where
 tm:=fun t ht=>by
  have w_:=List.mem_map.1 ht
  obtain⟨x,hx,rfl⟩:=w_
  exact(hok x hx).tm
 k0:=by show(0:Int)≤9;decide
 k1:=by show(9:Int)≤10;decide
 nm:=fun h=>absurd rfl h
 rel:=fun _=>hs
 ln9:=fun _=>by show(ts.map T.tm).length≤4;rw[List.length_map];exact hl
 ln2:=fun h=>by have h:(9:Int)=2∨(9:Int)=3∨(9:Int)=6:=h;omega
 ln1:=fun h=>by have h:(9:Int)=4∨(9:Int)=5:=h;omega
 ln0:=fun h=>by have h:(9:Int)=0∨(9:Int)=1∨(9:Int)=7∨(9:Int)=8∨(9:Int)=10:=h;omega
 gl:=Nat.zero_le _
 gl0:=fun _=>rfl
 gl1:=fun h=>by have h:(9:Int)=10:=h;omega
 sy:=fun h=>by have h:(9:Int)=6:=h;omega
 cl:=fun h=>by have h:(9:Int)=10:=h;omega
def qLr(sg:Sig)(n:Nat)(mode:Int)(calls:Nat)(h:Mem)(r:Nat)(v:Value)(μ' h':Mem):Prop:=Cur μ' h r h'∧∃gs:List Gl,gs.length≤2+calls∧(∀g∈gs,Dr sg n mode 2 1 g)∧RepV μ' (Gl.mk 7 ⟨#[]⟩ [] gs).d v
section
variable {μ:Mem}
set_option maxHeartbeats 2000000 in
theorem fE{h:Mem}{r rb cap:Nat}{sg:Sig}{xs:List Value}(hc:Cur μ h r h)(hrel:RelsO h rb cap sg xs)(hne:rb≠r)(hsg:SigOk sg)(n:Nat)(hn:n≤8)(calls:Nat)(hcalls:calls≤2)(mode:Int):
  SpecH Tryz.prog 126 [.pointer (some ⟨r,0,none⟩),.slice (some ⟨rb,0,none⟩) sg.length cap,.int .i64 n,.int .i64 calls,.int .i64 mode] μ h fun v μ' h'=>qLr sg n mode calls h r v μ' h':=by
 refine SpecH.mk [] Tryz.func126 (by kernel_rfl) ?_
 intro r10 r11
 refine cOw (aJ hc 2) fun v μ1 h1 hle1 hap1 hR=>?_
 obtain⟨e,hc1,k0,rfl,hk0,hk2,_⟩:=hR
 obtain rfl:=e.symm
 have hk2:=hk2 (by decide)
 refine aC (by omega) (by omega) ?_
 rw[show(1:Int)+(k0:Int)=((1+k0:Nat):Int)from by omega]
 refine fG (fun z:Nat×List Gl×(List Value×Option Nat×Nat)×Mem×Mem=>z.1≤2∧z.2.1.length+z.1≤2∧(∀g∈z.2.1,Dr sg n mode 2 1 g)∧Rows z.2.2.2.1 4 (z.2.1.map Gl.d) z.2.2.1.1∧μ.Le z.2.2.2.1∧Cur z.2.2.2.1 h r z.2.2.2.2)
  (fun(k,_,(ys,b,c),μ',h')=>⟨[(0,.val (.pointer (some ⟨r,0,none⟩))),(1,.val (.slice (some ⟨rb,0,none⟩) sg.length cap)),(2,.val (.int .i64 n)),(3,.val (.int .i64 calls)),(4,.val (.int .i64 mode)),(10,.loc 0 r10 0),(11,.loc 1 r11 0),(12,.val (.int .i64 k))],
   [(0,some (.cells r10 [.val (.int .i64 0),.val (.string ⟨#[]⟩),.val (.slice none 0 0),.val (.slice none 0 0)] 61)),(1,some (.cells r11 [.val (.int .i64 7),.val (.string ⟨#[]⟩),.val (.slice none 0 0),.row 2 b ys.length c] 61)),(2,some (.row b c 61 4 ys))],3,μ',h'⟩) (fun z=>z.1)
  (1+k0,[],([],none,0),μ,h1) ⟨by dsimp only;omega,by simp only[List.length_nil];omega,(fun _ hg=>nomatch hg),Rows.nil,Mem.Le.refl _,hc1⟩ (fun(_,_,(_,_,_),_,_)=>⟨rfl,rfl⟩)
  ⟨⟨⟨_,rfl,.inl rfl⟩,⟨_,rfl,.inl rfl⟩,⟨_,rfl,.inl rfl⟩,⟨_,rfl,.inl rfl⟩,⟨_,rfl,.inl rfl⟩,⟨_,rfl,.inl rfl⟩,⟨_,rfl,.inl rfl⟩,⟨_,rfl,.inl rfl⟩,trivial⟩,⟨.inl rfl,.inr (.inr ⟨_,_,_,_,rfl,rfl,.inl rfl,.inl rfl,.inl rfl,.inr ⟨2,rfl,rfl,Nat.le_refl _⟩,trivial⟩),.inr (.inl ⟨_,_,rfl,Nat.le_refl _⟩),trivial⟩,rfl,rfl⟩ ?_
 clear hc1 hap1
 rintro⟨k,gs,⟨ys,b,c⟩,μ1,h1⟩ ⟨hk,hkl,hgs,hrows,hle,hc1⟩
 dsimp only at hk hkl hgs hrows hle hc1
 have hyl:=hrows.len
 rw[List.length_map]at hyl
 refine ifd (fun hlt=>?_) (fun hlt=>?_)
 ·refine cOw (uH hc1.at n hn (decide (mode=0))) fun v μ2 h2 hle2 hap2 hR=>?_
  obtain⟨hc2,g,hrg,hdg⟩:=hR
  have w_:=Gl.invV hrg
  obtain⟨q,rfl⟩:=w_
  intro rg
  refine gIn ?_ ?_ fun b' c' hb'=>?_
  ·show(ys.length+1)*72≤_;omega
  ·exact Nat.le_trans (m:=100000000) (show ys.length+1≤_ by omega) (by decide)
  refine aC (by omega) (by omega) ⟨(k-1,gs++[g],(_,b',c'),μ2,h2),⟨by dsimp only;omega,by simp only[List.length_append,List.length_singleton];omega,?_,?_,hle.trans hle2,hc1.trans hc2⟩,by dsimp only;omega,⟨⟨rfl,rfl,rfl,rfl,rfl,rfl,rfl,?_,trivial⟩,⟨rfl,rfl,rfl,trivial⟩,rfl,rfl⟩⟩
  ·intro x hx
   rcases List.mem_append.1 hx with hx|hx
   ·exact hgs x hx
   ·rw[List.mem_singleton.1 hx];exact(hdg sg mode).mono (by decide) (by decide)
  ·dsimp only
   rw[List.map_append]
   exact(hrows.mono hle2).append (Rows.one hrg (Gl.d_n _))
  ·show some (SV.val (.int .i64 _))=some (SV.val (.int .i64 _))
   congr 3;omega
 refine lIn (fun z:Nat×Nat×List Gl×(List Value×Option Nat×Nat)×(List Value×Option Nat×Nat)×Mem×Mem=>z.2.1≤calls∧(z.1=0∨(z.1=1∧z.2.1≤1)∨(z.1=2∧z.2.1=0))∧z.2.2.1.length+z.2.1≤2+calls∧(∀g∈z.2.2.1,Dr sg n mode 2 1 g)∧(∀μ9,z.2.2.2.2.2.1.Le μ9→(z.1≠0→RowAt μ9 z.2.2.2.2.1.2.1 z.2.2.2.2.1.2.2 4 z.2.2.2.2.1.1)→Rows μ9 4 (z.2.2.1.map Gl.d) z.2.2.2.1.1)∧z.2.2.2.1.1.length=z.2.2.1.length∧μ.Le z.2.2.2.2.2.1∧Cur z.2.2.2.2.2.1 h r z.2.2.2.2.2.2)
  (fun(pend,k,_,(ys,b,c),(ys5,b5,c5),μ',h')=>⟨[(0,.val (.pointer (some ⟨r,0,none⟩))),(1,.val (.slice (some ⟨rb,0,none⟩) sg.length cap)),(2,.val (.int .i64 n)),(3,.val (.int .i64 k)),(4,.val (.int .i64 mode)),(10,.loc 0 r10 0),(11,.loc 1 r11 0)],
   (0,some (.cells r10 [.val (.int .i64 0),.val (.string ⟨#[]⟩),.val (.slice none 0 0),.val (.slice none 0 0)] 61))::(1,some (.cells r11 [.val (.int .i64 7),.val (.string ⟨#[]⟩),.val (.slice none 0 0),.row 2 b ys.length c] 61))::(2,some (.row b c 61 4 ys))::
   (match pend with|0=>[]|1=>[(5,some (.row b5 c5 75 4 ys5))]|_=>[(8,some (.row b5 c5 75 4 ys5))]),(match pend with|0=>3|1=>6|_=>9),μ',h'⟩) (fun z=>z.2.1)
  (0,calls,gs,(ys,b,c),([],none,0),μ1,h1) ⟨Nat.le_refl _,.inl rfl,by dsimp only;omega,hgs,fun μ9 hle9 _=>hrows.mono hle9,hyl.symm,hle,hc1⟩ (fun(pend,_,_,(_,_,_),(_,_,_),_,_)=>match pend with|0=>⟨rfl,rfl⟩|1=>⟨rfl,rfl⟩|_+2=>⟨rfl,rfl⟩) ⟨⟨rfl,rfl,rfl,rfl,rfl,rfl,rfl,trivial⟩,⟨rfl,rfl,rfl,trivial⟩,rfl,rfl⟩ ?_
 clear hk hkl hgs hrows hle hc1 hyl hlt
 rintro⟨pend,k,gs,⟨ys,b,c⟩,⟨ysp,bp,cp⟩,μ1,h1⟩ ⟨hk,hpend,hkl,hgs,hP,hyl,hle,hc1⟩
 dsimp only at hk hpend hkl hgs hP hyl hle hc1
 have hsl:=hsg.max
 have hsp:=hsg.pos
 rcases hpend with rfl|⟨rfl,hk1⟩|⟨rfl,hk0⟩
 ·have hrows:=hP μ1 (Mem.Le.refl _) (fun h=>absurd rfl h)
  refine ifd (fun hlt=>?_) (fun hlt=>?_)
  ·refine cOw (aJ hc1.at sg.length) fun v μ2 h2 hle2 hap2 hR=>?_
   obtain⟨e,hc2,j,rfl,hj,hj2,_⟩:=hR
   obtain rfl:=e.symm
   have hj2:=hj2 (by omega)
   have hc2:=hc1.trans hc2
   have hrel2:=hrel.cur hne hc2
   obtain⟨q,hq⟩:∃q,sg[j]?=some q:=⟨_,List.getElem?_eq_getElem (by omega)⟩
   have w_:=hrel2.at_ j q hq
   obtain⟨x,hx,lo,kk,s,b1,n1,c1,b2,n2,c2,rfl⟩:=w_
   have hqm:=List.mem_of_getElem? hq
   have har:=hsg.ar q hqm
   refine qT j rfl (by omega) ?_
   refine oIn [.string q.1,.int .i64 q.2,.int .i64 lo,.int .i64 kk,.string s,.slice b1 n1 c1,.slice b2 n2 c2] rfl (hrel2.row.ownA hx rfl) ?_
   intro r13 r14
   refine fG (fun z:Nat×List T×(List Value×Option Nat×Nat)×Mem×Mem=>(z.1:Int)≤q.2∧z.2.1.length=z.1∧(∀t∈z.2.1,Drawn 2 n t)∧Rows z.2.2.2.1 4 ((z.2.1.map T.tm).map Tm.d) z.2.2.1.1∧μ1.Le z.2.2.2.1∧Cur z.2.2.2.1 h r z.2.2.2.2)
    (fun(j',_,(ys5,b5,c5),μ',h')=>⟨[(0,.val (.pointer (some ⟨r,0,none⟩))),(1,.val (.slice (some ⟨rb,0,none⟩) sg.length cap)),(2,.val (.int .i64 n)),(3,.val (.int .i64 k)),(4,.val (.int .i64 mode)),(10,.loc 0 r10 0),(11,.loc 1 r11 0),(13,.loc 3 r13 0),(14,.loc 4 r14 0),(15,.val (.int .i64 j'))],
     [(0,some (.cells r10 [.val (.int .i64 0),.val (.string ⟨#[]⟩),.val (.slice none 0 0),.val (.slice none 0 0)] 61)),(1,some (.cells r11 [.val (.int .i64 7),.val (.string ⟨#[]⟩),.val (.slice none 0 0),.row 2 b ys.length c] 61)),(2,some (.row b c 61 4 ys)),
     (3,some (.cells r13 [.val (.string q.1),.val (.int .i64 q.2),.val (.int .i64 lo),.val (.int .i64 kk),.val (.string s),.val (.slice b1 n1 c1),.val (.slice b2 n2 c2)] 63)),(4,some (.cells r14 [.val (.int .i64 9),.val (.string q.1),.row 5 b5 ys5.length c5,.val (.slice none 0 0)] 61)),(5,some (.row b5 c5 75 4 ys5))],6,μ',h'⟩) (fun z=>4-z.1)
    (0,[],([],none,0),μ1,h2) ⟨har.1,rfl,(fun _ hg=>nomatch hg),Rows.nil,Mem.Le.refl _,hc2⟩ (fun(_,_,(_,_,_),_,_)=>⟨rfl,rfl⟩)
    ⟨⟨⟨_,rfl,.inl rfl⟩,⟨_,rfl,.inl rfl⟩,⟨_,rfl,.inl rfl⟩,⟨_,rfl,.inl rfl⟩,⟨_,rfl,.inl rfl⟩,⟨_,rfl,.inl rfl⟩,⟨_,rfl,.inl rfl⟩,⟨_,rfl,.inl rfl⟩,⟨_,rfl,.inl rfl⟩,⟨_,rfl,.inl rfl⟩,trivial⟩,⟨.inl rfl,.inl rfl,.inl rfl,.inl rfl,.inr (.inr ⟨_,_,_,_,rfl,rfl,.inl rfl,.inl rfl,.inr ⟨5,rfl,rfl,Nat.le_refl _⟩,.inl rfl,trivial⟩),.inr (.inl ⟨_,_,rfl,Nat.le_refl _⟩),trivial⟩,rfl,rfl⟩ ?_
   clear hc2 hrel2 hap2 hx
   rintro⟨j',ts,⟨ys5,b5,c5⟩,μ3,h3⟩ ⟨hj',htl,hts,hrows5,hle3,hc3⟩
   dsimp only at hj' htl hts hrows5 hle3 hc3
   have hyl5:=hrows5.len
   rw[List.length_map,List.length_map]at hyl5
   refine ifd (fun hja=>?_) (fun hja=>?_)
   ·refine iIn (fun _=>?_) (fun h=>absurd (of_decide_eq_false h) (fun h=>h (by omega)))
    refine cOw (aJ hc3.at 4) fun v μ4 h4 hle4 hap4 hR=>?_
    obtain⟨e,hc4,k4,rfl,hk4,hk44,_⟩:=hR
    obtain rfl:=e.symm
    have hk44:=hk44 (by decide)
    refine aD (by decide) ?_
    refine nEq (x:=((k4 / 3:Nat):Int)) (by show IntKind.i64.wrap (Int.tdiv (k4:Int) 3)=_;rw[Int.tdiv_eq_ediv_of_nonneg (by omega),aA (by omega) (by omega)];simp) ?_
    have drawn:∃size:Nat,size≤1000∧1+((k4 / 3:Nat):Int)*2=(size:Int)∧lvB size≤2:=by
     have w_:k4 / 3=0∨k4 / 3=1:=by omega
     rcases w_ with e|e
     ·exact⟨1,by decide,by rw[e];rfl,by rw[lvB,if_neg (by decide)];decide⟩
     ·exact⟨3,by decide,by rw[e];rfl,by rw[qHr];decide⟩
    obtain⟨size,hs1,hs2,hs3⟩:=drawn
    refine aC (by omega) (by omega) (aC (by omega) (by omega) ?_)
    rw[hs2]
    refine cOw (eF n (by omega) size hs1 (hc3.trans hc4).at) fun v μ5 h5 hle5 hap5 hR=>?_
    obtain⟨hc5,t,hrt,hdt⟩:=hR
    have w_:=Tm.invV hrt
    obtain⟨pt,rfl⟩:=w_
    intro rt
    refine gIn ?_ ?_ fun b' c' hb'=>?_
    ·show(ys5.length+1)*56≤_;omega
    ·exact Nat.le_trans (m:=100000000) (show ys5.length+1≤_ by omega) (by decide)
    refine aC (by omega) (by omega) ⟨(j'+1,ts++[t],(_,b',c'),μ5,h5),⟨by dsimp only;omega,by simp only[List.length_append,List.length_singleton];omega,?_,?_,hle3.trans hle5,(hc3.trans hc4).trans hc5⟩,by dsimp only;omega,⟨⟨rfl,rfl,rfl,rfl,rfl,rfl,rfl,rfl,rfl,rfl,trivial⟩,⟨rfl,rfl,rfl,rfl,rfl,rfl,trivial⟩,rfl,rfl⟩⟩
    ·intro x hx
     rcases List.mem_append.1 hx with hx|hx
     ·exact hts x hx
     ·rw[List.mem_singleton.1 hx];exact hdt.mono hs3
    ·dsimp only
     rw[List.map_append,List.map_append]
     exact(hrows5.mono hle5).append (Rows.one hrt (Tm.d_n _))
   ·have hlen:(ts.length:Int)=q.2:=by omega
    have hdr:Dr sg n mode 1 1 (.mk 9 q.1 (ts.map T.tm) []):=Dr.leaf (qDl (hsg.nm q hqm) (by omega) fun t ht=>(hts t ht).ok (by omega)) (by decide) (by decide) (by decide) (fun t ht=>(hts t ht).low) (fun _=>by rw[hlen];exact hqm)
    have fin:∀{μ6:Mem},μ3.Le μ6→RowAt μ6 b5 c5 4 ys5→RepV μ6 (Gl.mk 9 q.1 (ts.map T.tm) []).d (.agg #[.int .i64 9,.string q.1,.slice (b5.map fun r=>⟨r,0,none⟩) ys5.length c5,.slice none 0 0]):=fun hle6 hat=>
     cX (Rows.sl hat (hrows5.mono hle6) (Nat.le_trans (m:=1000) (by omega) (by decide))) (Rep.nilSl 4)
    refine ifd (fun hm2=>?_) (fun hm2=>?_)
    ·refine cOw (fM hc3.at 3) fun v μ4 h4 hle4 hap4 hR=>?_
     obtain⟨e,hc4,w,rfl⟩:=hR
     obtain rfl:=e.symm
     have hc4:=hc3.trans hc4
     refine uS [5] fun μ6 hle6 hno6 hat6=>⟨fun hb=>?_,fun hb=>?_⟩
     ·intro rs
      refine bG [6] fun μ7 hle7 hno7 hat7=>?_
      refine cB (bU (k:=10) (a:=(none,0,0)) (b:=(some ⟨rs,0,none⟩,1,1))) fun v8 μ8 hle8 hR8=>?_
      obtain⟨rfl,rfl⟩:=hR8
      have hrep:=cX (k:=10) (s:=⟨#[]⟩) (ts:=[]) (gs:=[.mk 9 q.1 (ts.map T.tm) []]) (Rep.nilSl 4) (Rows.sl hat7 (Rows.one ((fin hle6 hat6).mono hle7) (Gl.d_n _)) (by show 1≤_;decide))
      intro rg
      refine gIn ?_ ?_ fun b' c' hb'=>?_
      ·show(ys.length+1)*72≤_;omega
      ·exact Nat.le_trans (m:=100000000) (show ys.length+1≤_ by omega) (by decide)
      refine aC (by omega) (by omega) ⟨(0,k-1,gs++[(.mk 10 ⟨#[]⟩ [] [.mk 9 q.1 (ts.map T.tm) []])],(_,b',c'),([],none,0),_,_),⟨by dsimp only;omega,by dsimp only;omega,by simp only[List.length_append,List.length_singleton];omega,?_,?_,by simp only[List.length_append,List.length_singleton];omega,hle.trans (((hle3.trans hle6).trans hle7)),((hc4.mono hle6).mono hle7)⟩,by dsimp only;omega,⟨⟨rfl,rfl,rfl,?_,rfl,rfl,rfl,trivial⟩,⟨rfl,rfl,rfl,trivial⟩,rfl,rfl⟩⟩
      ·intro x hx
       rcases List.mem_append.1 hx with hx|hx
       ·exact hgs x hx
       ·rw[List.mem_singleton.1 hx];exact(hdr.neg rfl (by omega))
      ·intro μ9 hle9 hat9
       dsimp only at hle9 hat9 ⊢
       rw[List.map_append]
       exact(hrows.mono ((((hle3.trans hle6).trans hle7)).trans hle9)).append (Rows.one ((hrep.mono hle9)) (Gl.d_n _))
      ·show some (SV.val (.int .i64 _))=some (SV.val (.int .i64 _))
       congr 3;omega
     ·intro rg
      refine gIn ?_ ?_ fun b' c' hb'=>?_
      ·show(ys.length+1)*72≤_;omega
      ·exact Nat.le_trans (m:=100000000) (show ys.length+1≤_ by omega) (by decide)
      refine aC (by omega) (by omega) ⟨(0,k-1,gs++[(.mk 9 q.1 (ts.map T.tm) [])],(_,b',c'),([],none,0),_,_),⟨by dsimp only;omega,by dsimp only;omega,by simp only[List.length_append,List.length_singleton];omega,?_,?_,by simp only[List.length_append,List.length_singleton];omega,hle.trans ((hle3.trans hle6)),(hc4.mono hle6)⟩,by dsimp only;omega,⟨⟨rfl,rfl,rfl,?_,rfl,rfl,rfl,trivial⟩,⟨rfl,rfl,rfl,trivial⟩,rfl,rfl⟩⟩
      ·intro x hx
       rcases List.mem_append.1 hx with hx|hx
       ·exact hgs x hx
       ·rw[List.mem_singleton.1 hx];exact(hdr.mono (by decide) (by decide))
      ·intro μ9 hle9 hat9
       dsimp only at hle9 hat9 ⊢
       rw[List.map_append]
       exact(hrows.mono (((hle3.trans hle6)).trans hle9)).append (Rows.one (((fin hle6 hat6).mono hle9)) (Gl.d_n _))
      ·show some (SV.val (.int .i64 _))=some (SV.val (.int .i64 _))
       congr 3;omega
    ·intro rg
     refine gIn ?_ ?_ fun b' c' hb'=>?_
     ·show(ys.length+1)*72≤_;omega
     ·exact Nat.le_trans (m:=100000000) (show ys.length+1≤_ by omega) (by decide)
     refine aC (by omega) (by omega) ⟨(1,k-1,gs++[(.mk 9 q.1 (ts.map T.tm) [])],(_,b',c'),(ys5,b5,c5),_,_),⟨by dsimp only;omega,by dsimp only;omega,by simp only[List.length_append,List.length_singleton];omega,?_,?_,by simp only[List.length_append,List.length_singleton];omega,hle.trans (hle3),hc3⟩,by dsimp only;omega,⟨⟨rfl,rfl,rfl,?_,rfl,rfl,rfl,trivial⟩,⟨rfl,rfl,rfl,rfl,trivial⟩,rfl,rfl⟩⟩
     ·intro x hx
      rcases List.mem_append.1 hx with hx|hx
      ·exact hgs x hx
      ·rw[List.mem_singleton.1 hx];exact(hdr.mono (by decide) (by decide))
     ·intro μ9 hle9 hat9
      dsimp only at hle9 hat9 ⊢
      rw[List.map_append]
      exact(hrows.mono ((hle3).trans hle9)).append (Rows.one ((fin hle9 (hat9 (by decide)))) (Gl.d_n _))
     ·show some (SV.val (.int .i64 _))=some (SV.val (.int .i64 _))
      congr 3;omega
  ·refine rFz [2] fun μ4 hle4 hno4 hat4=> .inl ⟨(hc1).mono hle4,gs,by omega,hgs,?_⟩
   exact cX (ts:=[]) (Rep.nilSl 4) (Rows.sl hat4 (hrows.mono hle4) (Nat.le_trans (m:=1000) (by omega) (by decide)))
 ·refine uS [5] fun μ0 hle0 hno0 hat0=>?_
  have hrows:=hP μ0 hle0 (fun _=>hat0)
  have hle:=hle.trans hle0
  have hc1:=hc1.mono hle0
  refine⟨fun hlt=>?_,fun hlt=>?_⟩
  ·have hlt:=of_decide_eq_true hlt
   refine cOw (aJ hc1.at sg.length) fun v μ2 h2 hle2 hap2 hR=>?_
   obtain⟨e,hc2,j,rfl,hj,hj2,_⟩:=hR
   obtain rfl:=e.symm
   have hj2:=hj2 (by omega)
   have hc2:=hc1.trans hc2
   have hrel2:=hrel.cur hne hc2
   obtain⟨q,hq⟩:∃q,sg[j]?=some q:=⟨_,List.getElem?_eq_getElem (by omega)⟩
   have w_:=hrel2.at_ j q hq
   obtain⟨x,hx,lo,kk,s,b1,n1,c1,b2,n2,c2,rfl⟩:=w_
   have hqm:=List.mem_of_getElem? hq
   have har:=hsg.ar q hqm
   refine qT j rfl (by omega) ?_
   refine oIn [.string q.1,.int .i64 q.2,.int .i64 lo,.int .i64 kk,.string s,.slice b1 n1 c1,.slice b2 n2 c2] rfl (hrel2.row.ownA hx rfl) ?_
   intro r13 r14
   refine fG (fun z:Nat×List T×(List Value×Option Nat×Nat)×Mem×Mem=>(z.1:Int)≤q.2∧z.2.1.length=z.1∧(∀t∈z.2.1,Drawn 2 n t)∧Rows z.2.2.2.1 4 ((z.2.1.map T.tm).map Tm.d) z.2.2.1.1∧μ0.Le z.2.2.2.1∧Cur z.2.2.2.1 h r z.2.2.2.2)
    (fun(j',_,(ys5,b5,c5),μ',h')=>⟨[(0,.val (.pointer (some ⟨r,0,none⟩))),(1,.val (.slice (some ⟨rb,0,none⟩) sg.length cap)),(2,.val (.int .i64 n)),(3,.val (.int .i64 k)),(4,.val (.int .i64 mode)),(10,.loc 0 r10 0),(11,.loc 1 r11 0),(13,.loc 6 r13 0),(14,.loc 7 r14 0),(15,.val (.int .i64 j'))],
     [(0,some (.cells r10 [.val (.int .i64 0),.val (.string ⟨#[]⟩),.val (.slice none 0 0),.val (.slice none 0 0)] 61)),(1,some (.cells r11 [.val (.int .i64 7),.val (.string ⟨#[]⟩),.val (.slice none 0 0),.row 2 b ys.length c] 61)),(2,some (.row b c 61 4 ys)),
     (6,some (.cells r13 [.val (.string q.1),.val (.int .i64 q.2),.val (.int .i64 lo),.val (.int .i64 kk),.val (.string s),.val (.slice b1 n1 c1),.val (.slice b2 n2 c2)] 63)),(7,some (.cells r14 [.val (.int .i64 9),.val (.string q.1),.row 8 b5 ys5.length c5,.val (.slice none 0 0)] 61)),(8,some (.row b5 c5 75 4 ys5))],9,μ',h'⟩) (fun z=>4-z.1)
    (0,[],([],none,0),μ0,h2) ⟨har.1,rfl,(fun _ hg=>nomatch hg),Rows.nil,Mem.Le.refl _,hc2⟩ (fun(_,_,(_,_,_),_,_)=>⟨rfl,rfl⟩)
    ⟨⟨⟨_,rfl,.inl rfl⟩,⟨_,rfl,.inl rfl⟩,⟨_,rfl,.inl rfl⟩,⟨_,rfl,.inl rfl⟩,⟨_,rfl,.inl rfl⟩,⟨_,rfl,.inl rfl⟩,⟨_,rfl,.inl rfl⟩,⟨_,rfl,.inl rfl⟩,⟨_,rfl,.inl rfl⟩,⟨_,rfl,.inl rfl⟩,trivial⟩,⟨.inl rfl,.inl rfl,.inl rfl,.inl rfl,.inr (.inr ⟨_,_,_,_,rfl,rfl,.inl rfl,.inl rfl,.inr ⟨8,rfl,rfl,Nat.le_refl _⟩,.inl rfl,trivial⟩),.inr (.inl ⟨_,_,rfl,Nat.le_refl _⟩),trivial⟩,rfl,rfl⟩ ?_
   clear hc2 hrel2 hap2 hx
   rintro⟨j',ts,⟨ys5,b5,c5⟩,μ3,h3⟩ ⟨hj',htl,hts,hrows5,hle3,hc3⟩
   dsimp only at hj' htl hts hrows5 hle3 hc3
   have hyl5:=hrows5.len
   rw[List.length_map,List.length_map]at hyl5
   refine ifd (fun hja=>?_) (fun hja=>?_)
   ·refine iIn (fun _=>?_) (fun h=>absurd (of_decide_eq_false h) (fun h=>h (by omega)))
    refine cOw (aJ hc3.at 4) fun v μ4 h4 hle4 hap4 hR=>?_
    obtain⟨e,hc4,k4,rfl,hk4,hk44,_⟩:=hR
    obtain rfl:=e.symm
    have hk44:=hk44 (by decide)
    refine aD (by decide) ?_
    refine nEq (x:=((k4 / 3:Nat):Int)) (by show IntKind.i64.wrap (Int.tdiv (k4:Int) 3)=_;rw[Int.tdiv_eq_ediv_of_nonneg (by omega),aA (by omega) (by omega)];simp) ?_
    have drawn:∃size:Nat,size≤1000∧1+((k4 / 3:Nat):Int)*2=(size:Int)∧lvB size≤2:=by
     have w_:k4 / 3=0∨k4 / 3=1:=by omega
     rcases w_ with e|e
     ·exact⟨1,by decide,by rw[e];rfl,by rw[lvB,if_neg (by decide)];decide⟩
     ·exact⟨3,by decide,by rw[e];rfl,by rw[qHr];decide⟩
    obtain⟨size,hs1,hs2,hs3⟩:=drawn
    refine aC (by omega) (by omega) (aC (by omega) (by omega) ?_)
    rw[hs2]
    refine cOw (eF n (by omega) size hs1 (hc3.trans hc4).at) fun v μ5 h5 hle5 hap5 hR=>?_
    obtain⟨hc5,t,hrt,hdt⟩:=hR
    have w_:=Tm.invV hrt
    obtain⟨pt,rfl⟩:=w_
    intro rt
    refine gIn ?_ ?_ fun b' c' hb'=>?_
    ·show(ys5.length+1)*56≤_;omega
    ·exact Nat.le_trans (m:=100000000) (show ys5.length+1≤_ by omega) (by decide)
    refine aC (by omega) (by omega) ⟨(j'+1,ts++[t],(_,b',c'),μ5,h5),⟨by dsimp only;omega,by simp only[List.length_append,List.length_singleton];omega,?_,?_,hle3.trans hle5,(hc3.trans hc4).trans hc5⟩,by dsimp only;omega,⟨⟨rfl,rfl,rfl,rfl,rfl,rfl,rfl,rfl,rfl,rfl,trivial⟩,⟨rfl,rfl,rfl,rfl,rfl,rfl,trivial⟩,rfl,rfl⟩⟩
    ·intro x hx
     rcases List.mem_append.1 hx with hx|hx
     ·exact hts x hx
     ·rw[List.mem_singleton.1 hx];exact hdt.mono hs3
    ·dsimp only
     rw[List.map_append,List.map_append]
     exact(hrows5.mono hle5).append (Rows.one hrt (Tm.d_n _))
   ·have hlen:(ts.length:Int)=q.2:=by omega
    have hdr:Dr sg n mode 1 1 (.mk 9 q.1 (ts.map T.tm) []):=Dr.leaf (qDl (hsg.nm q hqm) (by omega) fun t ht=>(hts t ht).ok (by omega)) (by decide) (by decide) (by decide) (fun t ht=>(hts t ht).low) (fun _=>by rw[hlen];exact hqm)
    have fin:∀{μ6:Mem},μ3.Le μ6→RowAt μ6 b5 c5 4 ys5→RepV μ6 (Gl.mk 9 q.1 (ts.map T.tm) []).d (.agg #[.int .i64 9,.string q.1,.slice (b5.map fun r=>⟨r,0,none⟩) ys5.length c5,.slice none 0 0]):=fun hle6 hat=>
     cX (Rows.sl hat (hrows5.mono hle6) (Nat.le_trans (m:=1000) (by omega) (by decide))) (Rep.nilSl 4)
    refine ifd (fun hm2=>?_) (fun hm2=>?_)
    ·refine cOw (fM hc3.at 3) fun v μ4 h4 hle4 hap4 hR=>?_
     obtain⟨e,hc4,w,rfl⟩:=hR
     obtain rfl:=e.symm
     have hc4:=hc3.trans hc4
     refine uS [8] fun μ6 hle6 hno6 hat6=>⟨fun hb=>?_,fun hb=>?_⟩
     ·intro rs
      refine bG [9] fun μ7 hle7 hno7 hat7=>?_
      refine cB (bU (k:=10) (a:=(none,0,0)) (b:=(some ⟨rs,0,none⟩,1,1))) fun v8 μ8 hle8 hR8=>?_
      obtain⟨rfl,rfl⟩:=hR8
      have hrep:=cX (k:=10) (s:=⟨#[]⟩) (ts:=[]) (gs:=[.mk 9 q.1 (ts.map T.tm) []]) (Rep.nilSl 4) (Rows.sl hat7 (Rows.one ((fin hle6 hat6).mono hle7) (Gl.d_n _)) (by show 1≤_;decide))
      intro rg
      refine gIn ?_ ?_ fun b' c' hb'=>?_
      ·show(ys.length+1)*72≤_;omega
      ·exact Nat.le_trans (m:=100000000) (show ys.length+1≤_ by omega) (by decide)
      refine aC (by omega) (by omega) ⟨(0,k-1,gs++[(.mk 10 ⟨#[]⟩ [] [.mk 9 q.1 (ts.map T.tm) []])],(_,b',c'),([],none,0),_,_),⟨by dsimp only;omega,by dsimp only;omega,by simp only[List.length_append,List.length_singleton];omega,?_,?_,by simp only[List.length_append,List.length_singleton];omega,hle.trans (((hle3.trans hle6).trans hle7)),((hc4.mono hle6).mono hle7)⟩,by dsimp only;omega,⟨⟨rfl,rfl,rfl,?_,rfl,rfl,rfl,trivial⟩,⟨rfl,rfl,rfl,trivial⟩,rfl,rfl⟩⟩
      ·intro x hx
       rcases List.mem_append.1 hx with hx|hx
       ·exact hgs x hx
       ·rw[List.mem_singleton.1 hx];exact(hdr.neg rfl (by omega))
      ·intro μ9 hle9 hat9
       dsimp only at hle9 hat9 ⊢
       rw[List.map_append]
       exact(hrows.mono ((((hle3.trans hle6).trans hle7)).trans hle9)).append (Rows.one ((hrep.mono hle9)) (Gl.d_n _))
      ·show some (SV.val (.int .i64 _))=some (SV.val (.int .i64 _))
       congr 3;omega
     ·intro rg
      refine gIn ?_ ?_ fun b' c' hb'=>?_
      ·show(ys.length+1)*72≤_;omega
      ·exact Nat.le_trans (m:=100000000) (show ys.length+1≤_ by omega) (by decide)
      refine aC (by omega) (by omega) ⟨(0,k-1,gs++[(.mk 9 q.1 (ts.map T.tm) [])],(_,b',c'),([],none,0),_,_),⟨by dsimp only;omega,by dsimp only;omega,by simp only[List.length_append,List.length_singleton];omega,?_,?_,by simp only[List.length_append,List.length_singleton];omega,hle.trans ((hle3.trans hle6)),(hc4.mono hle6)⟩,by dsimp only;omega,⟨⟨rfl,rfl,rfl,?_,rfl,rfl,rfl,trivial⟩,⟨rfl,rfl,rfl,trivial⟩,rfl,rfl⟩⟩
      ·intro x hx
       rcases List.mem_append.1 hx with hx|hx
       ·exact hgs x hx
       ·rw[List.mem_singleton.1 hx];exact(hdr.mono (by decide) (by decide))
      ·intro μ9 hle9 hat9
       dsimp only at hle9 hat9 ⊢
       rw[List.map_append]
       exact(hrows.mono (((hle3.trans hle6)).trans hle9)).append (Rows.one (((fin hle6 hat6).mono hle9)) (Gl.d_n _))
      ·show some (SV.val (.int .i64 _))=some (SV.val (.int .i64 _))
       congr 3;omega
    ·intro rg
     refine gIn ?_ ?_ fun b' c' hb'=>?_
     ·show(ys.length+1)*72≤_;omega
     ·exact Nat.le_trans (m:=100000000) (show ys.length+1≤_ by omega) (by decide)
     refine aC (by omega) (by omega) ⟨(2,k-1,gs++[(.mk 9 q.1 (ts.map T.tm) [])],(_,b',c'),(ys5,b5,c5),_,_),⟨by dsimp only;omega,by dsimp only;omega,by simp only[List.length_append,List.length_singleton];omega,?_,?_,by simp only[List.length_append,List.length_singleton];omega,hle.trans (hle3),hc3⟩,by dsimp only;omega,⟨⟨rfl,rfl,rfl,?_,rfl,rfl,rfl,trivial⟩,⟨rfl,rfl,rfl,rfl,trivial⟩,rfl,rfl⟩⟩
     ·intro x hx
      rcases List.mem_append.1 hx with hx|hx
      ·exact hgs x hx
      ·rw[List.mem_singleton.1 hx];exact(hdr.mono (by decide) (by decide))
     ·intro μ9 hle9 hat9
      dsimp only at hle9 hat9 ⊢
      rw[List.map_append]
      exact(hrows.mono ((hle3).trans hle9)).append (Rows.one ((fin hle9 (hat9 (by decide)))) (Gl.d_n _))
     ·show some (SV.val (.int .i64 _))=some (SV.val (.int .i64 _))
      congr 3;omega
  ·refine rFz [2] fun μ4 hle4 hno4 hat4=> .inl ⟨(hc1).mono hle4,gs,by omega,hgs,?_⟩
   exact cX (ts:=[]) (Rep.nilSl 4) (Rows.sl hat4 (hrows.mono hle4) (Nat.le_trans (m:=1000) (by omega) (by decide)))
 ·refine uS [8] fun μ0 hle0 hno0 hat0=>?_
  have hrows:=hP μ0 hle0 (fun _=>hat0)
  have hle:=hle.trans hle0
  have hc1:=hc1.mono hle0
  refine⟨fun hlt=>absurd (of_decide_eq_true hlt) (by omega),fun hlt=>?_⟩
  ·refine rFz [2] fun μ4 hle4 hno4 hat4=> .inl ⟨(hc1).mono hle4,gs,by omega,hgs,?_⟩
   exact cX (ts:=[]) (Rep.nilSl 4) (Rows.sl hat4 (hrows.mono hle4) (Nat.le_trans (m:=1000) (by omega) (by decide)))
end
end Go.Vx
namespace Go.Vx
open Go.Proofs Classical
abbrev Tr:=ByteArray×Int×Int
def qU(q:Tr):Value:= .agg #[.string q.1,.int .i64 q.2.1,.int .i64 q.2.2,.int .i64 0,.string ⟨#[]⟩,.slice none 0 0,.slice none 0 0]
def sgT(qs:List Tr):Sig:=qs.map fun q=>(q.1,q.2.1)
theorem Cur.other{μ h:Mem}{r rb:Nat}{o':Obj}(hc:Cur μ h r h)(hne:rb≠r):Cur μ (h.set rb o') r (h.set rb o'):=by
 obtain⟨o,h1,h2⟩:=hc.ex
 refine⟨o,h1,(Mem.set_self ?_).symm⟩
 rw[Mem.set_ne (Ne.symm hne),h2,Mem.set_at]
theorem Cur.ne{μ h:Mem}{r rb:Nat}(hc:Cur μ h r h)(hn:h rb=none):rb≠r:=fun e=>by
 obtain⟨o,_,h2⟩:=hc.ex
 rw[h2,e,Mem.set_at]at hn
 cases hn
theorem RowGiven.rowO{h h':Mem}{rb cap:Nat}{ty:TypeId}{es:Nat}{xs:List Value}(k:RowGiven h h' (some rb) cap ty es xs):h rb=none∧RowO h' rb cap ty es xs∧∃o,h'=h.set rb o:=by
 obtain⟨h1,h2,h3,h4,cs,rfl,h5,h6⟩:=k
 exact⟨h1,⟨cs,Mem.set_at _ _ _,h2,h3,h4,h5,h6⟩,_,rfl⟩
structure Trs (qs:List Tr):Prop where
 nm:∀(j:Nat) q,qs[j]?=some q→q.1=nmI j
 ar:∀q∈qs,1≤q.2.1∧q.2.1≤2
 lo:∀q∈qs,0≤q.2.2∧q.2.2≤1
theorem Trs.sig{qs:List Tr}(h:Trs qs)(h1:1≤qs.length)(h3:qs.length≤3):SigOk (sgT qs) where
 pos:=by rw[sgT,List.length_map];exact h1
 max:=by rw[sgT,List.length_map];exact h3
 nm:=fun q hq=>by
  have w_:=List.mem_map.1 hq
  obtain⟨t,ht,rfl⟩:=w_
  have w_:=List.getElem?_of_mem ht
  obtain⟨j,hj⟩:=w_
  have:=(List.getElem?_eq_some_iff.1 hj).1
  rw[h.nm j t hj]
  exact qHx (by omega)
 ar:=fun q hq=>by
  have w_:=List.mem_map.1 hq
  obtain⟨t,ht,rfl⟩:=w_
  have:=h.ar t ht
  exact⟨by dsimp only;omega,by dsimp only;omega⟩
theorem relZ_V(q:Tr):RelV (q.1,q.2.1) (qU q):=⟨q.2.2,0,⟨#[]⟩,none,0,0,none,0,0,rfl⟩
theorem iY{μ h h':Mem}{r r5 cap:Nat}{ty:TypeId}{es:Nat}{xs:List Value}(k:RowO h r5 cap ty es xs)(hne:r5≠r)(hc:Cur μ h r h'):RowO h' r5 cap ty es xs:=by
 obtain⟨o,_,rfl⟩:=hc.ex
 exact k.set_ne hne
theorem fO{g h:Mem}{r:Nat}{o:Obj}(k:g.Le h)(hr:g r=none):g.Le (h.set r o):=fun b x hb=>by
 have e:b≠r:=fun e=>by rw[e,hr]at hb;cases hb
 rw[Mem.set_ne e]
 exact k b x hb
theorem lV{μ g h h':Mem}{r:Nat}(k:g.Le h)(hr:g r=none)(hc:Cur μ h r h'):g.Le h':=by
 obtain⟨o,_,rfl⟩:=hc.ex
 exact fO k hr
theorem kR{g h:Mem}{r:Nat}(k:g.Le h)(hr:h r=none):g r=none:=by
 cases e:g r with
 |none=>rfl
 |some o=>rw[k r o e]at hr;cases hr
theorem mG{μ g h:Mem}(k:Apart μ h)(hl:g.Le h):Apart μ g:=fun b hb=>kR hl (k b hb)
theorem qBn{μ μ' g g':Mem}(hl:μ.Le μ')(hg:g.Le g')(ha:Apart μ' g'):(μ.join g).Le (μ'.join g'):=fun b o hb=>by
 rw[Mem.join_get]at hb ⊢
 cases e:μ b with
 |some x=>
  rw[e]at hb
  rw[hl b x e]
  exact hb
 |none=>
  rw[e]at hb
  have hb':=hg b o hb
  cases e2:μ' b with
  |none=>exact hb'
  |some x=>
   have:=ha b (by rw[e2];simp)
   rw[this]at hb'
   cases hb'
theorem RowO.alone{h g:Mem}{r cap:Nat}{ty:TypeId}{es:Nat}{xs:List Value}(k:RowO h r cap ty es xs):∃o,h r=some o∧RowO (g.set r o) r cap ty es xs:=by
 obtain⟨cs,h1,h2⟩:=k
 exact⟨_,h1,cs,Mem.set_at _ _ _,h2⟩
theorem qBy{α:Type}:∀(xs:List α) (i:Nat) (x:α),i<xs.length→(xs.set i x).take (i+1)=xs.take i++[x]
 |a::r,0,x,_=>by simp
 |a::r,i+1,x,h=>by
  have:=qBy r i x (by simpa using h)
  simp[this]
structure DrI (μ1:Mem) (qs:List Tr) (ys:List Value) (r rb c:Nat) (mode:Int) (i:Nat) (ls:List Rl) (xs:List Value) (μ' h':Mem):Prop where
 hi:i≤ys.length
 hle:μ1.Le μ'
 hll:ls.length=i
 hc:Cur μ' h' r h'
 hx0:i=0→xs=ys
 hpos:0<i→rb≠r∧RelsO h' rb c (sgT qs) xs∧Apart μ' h'
 hxl:xs.length=ys.length
 hxy:∀j,i≤j→xs[j]?=ys[j]?
 hB:∃hB:Mem,hB.Le h'∧hB r=none∧hB rb=none∧Rows (μ'.join hB) 7 (ls.map Rl.d) (xs.take i)
 hg:∀(j:Nat) l q,ls[j]?=some l→qs[j]?=some q→l.name=q.1∧l.arity=q.2.1∧l.locals=q.2.2∧Dr (sgT qs) (q.2.1+q.2.2) mode 40 3 l.body
theorem DrI.next{μ1 μ2 μ6 h2 h6 hB hB':Mem}{qs:List Tr}{ys xs:List Value}{r rb c i n:Nat}{mode:Int}{ls:List Rl}{q:Tr}{g:Gl}{o:Obj}{k:Int}{s:ByteArray}{b1:Option Addr}{n1 c1:Nat}{b2:Option Addr}{n2 c2:Nat}
  (D:DrI μ1 qs ys r rb c mode i ls xs μ2 h2) (hlt:i<ys.length) (hq:qs[i]?=some q) (hn:q.2.1+q.2.2=(n:Int)) (hne:rb≠r) (hle26:μ2.Le μ6) (hcz:Cur μ6 h6 r h6) (hRO6:RelsO h6 rb c (sgT qs) xs) (hap6:Apart μ6 h6) (hBB:hB.Le hB') (hB6:hB'.Le h6) (hBn:hB' r=none∧hB' rb=none) (hrows:Rows (μ2.join hB) 7 (ls.map Rl.d) (xs.take i))
  (hrow2:RowO (h6.set rb o) rb c 63 7 (xs.set i (.agg #[.string q.1,.int .i64 q.2.1,.int .i64 q.2.2,.int .i64 k,.string s,.slice b1 n1 c1,.slice b2 n2 c2]))) (hrep:RepV (μ6.join hB') g.d (.agg #[.int .i64 k,.string s,.slice b1 n1 c1,.slice b2 n2 c2])) (hdr:Dr (sgT qs) n mode 40 3 g):
  DrI μ1 qs ys r rb c mode (i+1) (ls++[⟨q.1,q.2.1,q.2.2,g⟩]) (xs.set i (.agg #[.string q.1,.int .i64 q.2.1,.int .i64 q.2.2,.int .i64 k,.string s,.slice b1 n1 c1,.slice b2 n2 c2])) μ6 (h6.set rb o) where
 hi:=hlt
 hle:=D.hle.trans hle26
 hll:=by simp only[List.length_append,List.length_singleton];rw[D.hll]
 hc:=hcz.other hne
 hx0:=fun e=>absurd e (by omega)
 hpos:=fun _=>⟨hne,⟨hrow2,by rw[List.length_set];exact hRO6.len,fun j q' hq'=>by
  by_cases ej:j=i
  ·subst ej
   refine⟨_,List.getElem?_set_self (by rw[D.hxl];exact hlt),?_⟩
   rw[sgT,List.getElem?_map,hq]at hq'
   cases hq'
   exact⟨_,_,_,_,_,_,_,_,_,rfl⟩
  ·have w_:=hRO6.at_ j q' hq'
   obtain⟨x,hx,hV⟩:=w_
   exact⟨x,by rw[List.getElem?_set_ne (Ne.symm ej)];exact hx,hV⟩⟩,hap6.set (uW hRO6.row hap6 (.inl rfl))⟩
 hxl:=by rw[List.length_set];exact D.hxl
 hxy:=fun j hj=>by
  rw[List.getElem?_set_ne (by omega)]
  exact D.hxy j (by omega)
 hB:=by
  refine⟨hB',fO hB6 hBn.2,hBn.1,hBn.2,?_⟩
  rw[qBy _ _ _ (by rw[D.hxl];exact hlt),List.map_append]
  refine(hrows.mono (qBn hle26 hBB (mG hap6 hB6))).append (Rows.one (d:=(Rl.mk q.1 q.2.1 q.2.2 g).d) ?_ (Rl.d_n _))
  have:=hrep.cells
  rw[Rl.d_eq]
  exact⟨_,rfl,RepS.str (RepS.int (RepS.int (RepS.last this)))⟩
 hg:=fun j l q' hl hq'=>by
  rw[List.getElem?_append]at hl
  split at hl
  ·exact D.hg j l q' hl hq'
  ·rename_i hj
   have hll:=D.hll
   have w_:=List.getElem?_eq_some_iff.1 hl
   obtain⟨h1',h2'⟩:=w_
   rw[List.length_singleton]at h1'
   have ej:j-ls.length=0:=by omega
   rw[ej]at hl
   cases hl
   have ej:j=i:=by omega
   subst ej
   rw[hq]at hq'
   cases hq'
   exact⟨rfl,rfl,rfl,by rw[hn];exact hdr⟩
section
variable {μ:Mem}
set_option maxHeartbeats 2000000 in
theorem kM{h:Mem}{r:Nat}(hc:Cur μ h r h)(mode:Int):
  SpecH Tryz.prog 55 [.pointer (some ⟨r,0,none⟩),.int .i64 mode] μ h fun v μ' _=>∃l,DrP mode l∧RepV μ' (Pg.mk l).d v:=by
 refine SpecH.mk [56] Tryz.func55 (by kernel_rfl) ?_
 intro r4 r5_ rn
 refine bG [2] fun μ0 hle0 hno0 hat0=>rG (aJ (hc.mono hle0) 3) fun v μ1 h1 hle1 hap1 hR=>?_
 obtain⟨e,hc1,k0,rfl,-,hk3,-⟩:=hR
 obtain rfl:=e.symm
 have hk3:=hk3 (by decide)
 have kn:=Rows.sl hat0 (Nm.rows ([[112],[113],[114]].map mkS)) (by decide)
 have w_:=Rep.sl kn
 obtain⟨bz,cz,ez,hsz⟩:=w_
 have w_:=Value.slice.inj ez
 obtain⟨e1,e2,_⟩:=w_
 rw[List.length_map,List.length_map,←e1]at hsz
 have hsz:Sl μ0 1 (some ⟨rn,0,none⟩) 3 (([[112],[113],[114]].map mkS).map D.s):=hsz
 have hhd:=hsz.headL (c:=3) (i:=1+k0) (by omega)
 rw[←List.map_take]at hhd
 refine aC (by omega) (by omega) ?_
 refine aR 0 (1+k0) rfl (by omega) (by omega) (by omega) ?_
 refine fG (fun z:Nat×List Tr×(List Value×Option Nat×Nat)×Mem×Mem=>z.1≤1+k0∧z.2.1.length=z.1∧Trs z.2.1∧z.2.2.1.1=z.2.1.map qU∧(z.2.2.1.2.1=none→z.2.2.1.1=[])∧μ0.Le z.2.2.2.1∧Cur z.2.2.2.1 h r z.2.2.2.2)
  (fun(i,_,(ys,b,c),μ',h')=>⟨[(0,.val (.pointer (some ⟨r,0,none⟩))),(1,.val (.int .i64 mode)),(4,.loc 0 r4 0),(5,.loc 1 r5_ 0),(18,.val (.slice (if 3=0 then some ⟨rn,0,none⟩else(some (⟨rn,0,none⟩:Addr)).map (·.add (0*1))) (1+k0-0) 3)),(19,.val (.int .i64 ((1+k0-0:Nat):Int))),(20,.val (.int .i64 i))],
   [(0,some (.cells r4 [.val (.slice none 0 0)] 25)),(1,some (.cells r5_ [.row 3 b ys.length c] 25)),(3,some (.row b c 63 7 ys))],4,μ',h'⟩) (fun z=>1+k0-z.1)
  (0,[],([],none,0),μ0,h1) ⟨Nat.zero_le _,rfl,⟨(fun _ _ h=>nomatch h),(fun _ h=>nomatch h),(fun _ h=>nomatch h)⟩,rfl,fun _=>rfl,Mem.Le.refl _,hc1⟩ (fun(_,_,(_,_,_),_,_)=>⟨rfl,rfl⟩)
  ⟨⟨⟨_,rfl,.inl rfl⟩,⟨_,rfl,.inl rfl⟩,⟨_,rfl,.inl rfl⟩,⟨_,rfl,.inl rfl⟩,⟨_,rfl,.inl rfl⟩,⟨_,rfl,.inl rfl⟩,⟨_,rfl,.inl rfl⟩,trivial⟩,⟨.inl rfl,.inr (.inr ⟨_,_,_,_,rfl,rfl,.inr ⟨3,rfl,rfl,Nat.le_refl _⟩,trivial⟩),.inr (.inl ⟨_,_,rfl,Nat.le_refl _⟩),trivial⟩,rfl,rfl⟩ ?_
 clear hc1 hap1
 rintro⟨i,qs,⟨ys,b,c⟩,μ1,h1⟩ ⟨hi,hql,hT,hys,hbn,hle,hc1⟩
 dsimp only at hi hql hT hys hbn hle hc1
 have hyl:ys.length=qs.length:=by rw[hys,List.length_map]
 refine ifd (fun hlt=>?_) (fun hlt=>?_)
 ·have hi3:i<3:=by omega
  have w_:i=0∨i=1∨i=2:=by omega
  have hnm:=Nm.elem (s:=nmI i) (hhd.mono hle) (i:=i) (by
   rw[List.getElem?_take,if_pos (by omega)]
   rcases w_ with rfl|rfl|rfl<;>rfl)
  obtain⟨ad,hel⟩:=hnm
  refine eIn hel ?_
  refine cOw (aJ hc1.at 2) fun v μ2 h2 hle2 hap2 hR=>?_
  obtain⟨e,hc2,ka,rfl,-,hka,-⟩:=hR
  obtain rfl:=e.symm
  have hka:=hka (by decide)
  refine aC (by omega) (by omega) ?_
  refine cOw (aJ (hc1.trans hc2).at 2) fun v μ2 h3 hle3 hap3 hR=>?_
  obtain⟨e,hc3,kl,rfl,-,hkl,-⟩:=hR
  obtain rfl:=e.symm
  have hkl:=hkl (by decide)
  intro rs
  refine gIn ?_ ?_ fun b' c' hb'=>?_
  ·show(ys.length+1)*104≤_;omega
  ·exact Nat.le_trans (m:=100000000) (show ys.length+1≤_ by omega) (by decide)
  refine aC (by omega) (by omega) ⟨(i+1,qs++[(nmI i,1+(ka:Int),(kl:Int))],(_,b',c'),μ1,h3),⟨by dsimp only;omega,by simp only[List.length_append,List.length_singleton];omega,⟨fun j q hq=>?_,fun q hq=>?_,fun q hq=>?_⟩,?_,fun e=>absurd (hb' e) (by simp),hle,(hc1.trans hc2).trans hc3⟩,by dsimp only;omega,⟨⟨rfl,rfl,rfl,rfl,rfl,rfl,rfl,trivial⟩,⟨rfl,rfl,rfl,trivial⟩,rfl,rfl⟩⟩
  ·dsimp only at hq
   rw[List.getElem?_append]at hq
   split at hq
   ·exact hT.nm j q hq
   ·rename_i hj
    have w_:=List.getElem?_eq_some_iff.1 hq
    obtain⟨h1',h2'⟩:=w_
    rw[List.length_singleton]at h1'
    have ej:j-qs.length=0:=by omega
    rw[ej]at hq
    cases hq
    have:j=i:=by omega
    rw[this]
  ·rcases List.mem_append.1 hq with hq|hq
   ·exact hT.ar q hq
   ·rw[List.mem_singleton.1 hq];dsimp only;omega
  ·rcases List.mem_append.1 hq with hq|hq
   ·exact hT.lo q hq
   ·rw[List.mem_singleton.1 hq];dsimp only;omega
  ·dsimp only
   rw[hys,List.map_append]
   rfl
 ·obtain⟨rb,rfl⟩:∃rb,b=some rb:=by
   cases b with
   |none=>
    have:=hbn rfl
    rw[this]at hyl
    simp only[List.length_nil]at hyl
    omega
   |some rb=>exact⟨rb,rfl⟩
  have hsig:=hT.sig (by omega) (by omega)
  have hys3:ys.length≤3:=by omega
  have hys1:1≤ys.length:=by omega
  have hsl:(sgT qs).length=ys.length:=by rw[sgT,List.length_map,hyl]
  refine lIn (fun z:Nat×List Rl×List Value×Mem×Mem=>DrI μ1 qs ys r rb c mode z.1 z.2.1 z.2.2.1 z.2.2.2.1 z.2.2.2.2)
   (fun(i,_,_,μ',h')=>⟨[(0,.val (.pointer (some ⟨r,0,none⟩))),(1,.val (.int .i64 mode)),(4,.loc 0 r4 0),(5,.loc 1 r5_ 0),(38,.row 3 (some rb) ys.length c),(39,.val (.int .i64 ys.length)),(40,.val (.int .i64 i))],
    (0,some (.cells r4 [.val (.slice none 0 0)] 25))::(1,some (.cells r5_ [.row 3 (some rb) ys.length c] 25))::(match i with|0=>[(3,some (.row (some rb) c 63 7 ys))]|_+1=>[]),4,μ',h'⟩) (fun z=>ys.length-z.1)
   (0,[],ys,μ1,h1) ⟨Nat.zero_le _,Mem.Le.refl _,rfl,hc1.at,fun _=>rfl,fun h=>absurd h (by omega),rfl,fun _ _=>rfl,⟨Mem.nil,(fun _ _ h=>nomatch h),rfl,rfl,Rows.nil⟩,fun _ _ _ h=>nomatch h⟩ (fun(i,_,_,_,_)=>match i with|0=>⟨rfl,rfl⟩|_+1=>⟨rfl,rfl⟩)
   ⟨⟨rfl,rfl,rfl,rfl,rfl,rfl,rfl,trivial⟩,⟨rfl,rfl,rfl,trivial⟩,rfl,rfl⟩ ?_
  clear hi hlt
  rintro⟨i,ls,xs,μ2,h2⟩ hDI
  dsimp only at hDI
  obtain⟨hi,hle1,hll,hc2,hx0,hpos,hxl,hxy,⟨hB,hBl,hBr,hBrb,hrows⟩,hgood⟩:=id hDI
  have hle:=hle1
  refine ifd (fun hlt=>?_) (fun hlt=>?_)
  ·obtain⟨q,hq⟩:∃q,qs[i]?=some q:=⟨_,List.getElem?_eq_getElem (by omega)⟩
   have hqm:=List.mem_of_getElem? hq
   have hqa:=hT.ar q hqm
   have hqo:=hT.lo q hqm
   have hxi:xs[i]?=some (qU q):=by rw[hxy i (Nat.le_refl _),hys,List.getElem?_map,hq];rfl
   obtain⟨n,hn⟩:∃n:Nat,q.2.1+q.2.2=(n:Int):=⟨(q.2.1+q.2.2).toNat,by omega⟩
   match i with
   |0=>
    have hxe:=hx0 rfl
    have hxi0:ys[0]?=some (qU q):=by rw[←hxe];exact hxi
    refine bA 0 rfl (by omega) (bB (qU q) hxi0 ?_)
    intro r9
    refine aC (by omega) (by omega) ?_
    rw[hn]
    refine tT [] [3] (fun h=>nomatch h) fun h3 hno hgv=>?_
    have w_:=hgv.rowO
    obtain⟨hrbn,hrow,o,rfl⟩:=w_
    have hne:=hc2.ne hrbn
    have hRO:RelsO (h2.set rb o) rb c (sgT qs) xs:=by
     rw[hxe]
     exact⟨hrow,by rw[hsl],fun j q' hq'=>by
     rw[sgT,List.getElem?_map]at hq'
     have w_:=Option.map_eq_some_iff.1 hq'
     obtain⟨q2,h1',rfl⟩:=w_
     exact⟨qU q2,by rw[hys,List.getElem?_map,h1'];rfl,relZ_V q2⟩⟩
    have hcl:=fE (hc2.other hne (o':=o)) hRO hne hsig n (by omega) 0 (by decide) mode
    rw[hsl]at hcl
    refine rG hcl fun v μ3 h3 hle3 hap3 hR=>?_
    obtain⟨hc3,gs0,hgl,hgd,hgr⟩:=hR
    have w_:=Gl.invV hgr
    obtain⟨p0,rfl⟩:=w_
    have hRO3:=hRO.cur hne hc3
    have hBl3:hB.Le h3:=by
     have w_:=hc3.ex
     obtain⟨o3,_,e3⟩:=w_
     rw[e3]
     exact fO (fO hBl hBrb) hBr
    have hc3:=hc3.at
    have hd0:=(Dr.conj hgd (by omega)).mono (m':=9) (b':=1) (by omega) (Nat.le_refl _)
    intro rs hms hos
    have hos:h3 rs=none:=hos
    have hr5:rs≠r:=hc3.ne hos
    have hr5b:rs≠rb:=fun e=>by
     have w_:=hRO3.row.obj
     obtain⟨cs,hcs⟩:=w_
     rw[e,hcs]at hos
     cases hos
    have hrow0:RowO (h3.set rs (.cells [Value.int .i64 7,.string ⟨#[]⟩,.slice p0.1.1 0 p0.1.2,.slice p0.2.1 gs0.length p0.2.2].toArray 61 (0,0))) rs 1 61 4 [.agg #[.int .i64 7,.string ⟨#[]⟩,.slice p0.1.1 0 p0.1.2,.slice p0.2.1 gs0.length p0.2.2]]:=
     ⟨_,Mem.set_at _ _ _,Nat.le_refl _,by show 1≤_;decide,fun x hx=>by rw[List.mem_singleton.1 hx];exact⟨rfl,by simp[aB,Value.oneCell']⟩,rfl,by simp[aB]⟩
    intro r11
    refine cOw (aJ (hc3.other hr5) 3) fun v μ4 h4 hle4 hap4 hR=>?_
    obtain⟨e,hc4,k3,rfl,-,hk33,-⟩:=hR
    obtain rfl:=e.symm
    have hk33:=hk33 (by decide)
    have hRO4:RelsO h4 rb c (sgT qs) xs:=RelsO.cur ⟨hRO3.row.set_ne hr5b.symm,hRO3.len,hRO3.at_⟩ hne hc4
    have hrow0:=iY hrow0 hr5 hc4
    have hBl4:hB.Le h4:=lV (fO hBl3 (kR hBl3 hos)) hBr hc4
    refine lIn (fun z:Nat×List Gl×List Value×(Nat×Nat)×Mem×Mem=>z.1≤2∧z.2.1.length+z.1≤3∧z.2.1≠[]∧(∀g∈z.2.1,Dr (sgT qs) n mode 9 1 g)∧RowO z.2.2.2.2.2 z.2.2.2.1.1 z.2.2.2.1.2 61 4 z.2.2.1∧Rows z.2.2.2.2.1 4 (z.2.1.map Gl.d) z.2.2.1∧μ3.Le z.2.2.2.2.1∧Cur z.2.2.2.2.1 z.2.2.2.2.2 r z.2.2.2.2.2∧Apart z.2.2.2.2.1 z.2.2.2.2.2∧z.2.2.2.1.1≠r∧z.2.2.2.1.1≠rb∧RelsO z.2.2.2.2.2 rb c (sgT qs) xs∧hB.Le z.2.2.2.2.2∧hB z.2.2.2.1.1=none)
     (fun(k,_,us,(r5,c5),μ',h')=>⟨[(0,.val (.pointer (some ⟨r,0,none⟩))),(1,.val (.int .i64 mode)),(4,.loc 0 r4 0),(5,.loc 1 r5_ 0),(8,.val (.int .i64 ((0:Nat):Int))),(10,.val (.int .i64 n)),(11,.loc 5 r11 0),(12,.val (.int .i64 k)),(38,.row 3 (some rb) ys.length c),(39,.val (.int .i64 ys.length)),(40,.val (.int .i64 ((0:Nat):Int)))],
      [(0,some (.cells r4 [.val (.slice none 0 0)] 25)),(1,some (.cells r5_ [.row 3 (some rb) ys.length c] 25)),(5,some (.cells r11 [.val (.int .i64 8),.val (.string ⟨#[]⟩),.val (.slice none 0 0),.val (.slice (some ⟨r5,0,none⟩) us.length c5)] 61))],6,μ',h'⟩) (fun z=>z.1)
     (k3,[.mk 7 ⟨#[]⟩ [] gs0],[.agg #[.int .i64 7,.string ⟨#[]⟩,.slice p0.1.1 0 p0.1.2,.slice p0.2.1 gs0.length p0.2.2]],(rs,1),μ3,h4) ⟨by dsimp only;omega,by simp only[List.length_singleton];omega,(fun e=>nomatch e),(fun g hg=>by rw[List.mem_singleton.1 hg];exact hd0),hrow0,Rows.one hgr (Gl.d_n _),Mem.Le.refl _,hc4.at,hap4,hr5,hr5b,hRO4,hBl4,kR hBl3 hos⟩ (fun(_,_,_,(_,_),_,_)=>⟨rfl,rfl⟩)
     ⟨⟨rfl,rfl,rfl,rfl,rfl,rfl,rfl,rfl,rfl,rfl,rfl,trivial⟩,⟨rfl,rfl,rfl,trivial⟩,rfl,rfl⟩ ?_
    clear hc4 hap4 hRO4 hBl4 hrow0 hr5 hr5b
    rintro⟨k,gs,us,⟨r5,c5⟩,μ6,h6⟩ ⟨hk,hkl,hgne,hgs,hrow6,hrow5,hle6,hc6,hap6,hr5,hr5b,hRO6,hBl6,hB5⟩
    dsimp only at hk hkl hgne hgs hrow6 hrow5 hle6 hc6 hap6 hr5 hr5b hRO6 hBl6 hB5
    have hul:=hrow5.len
    rw[List.length_map]at hul
    refine ifd (fun hkp=>?_) (fun hkz=>?_)
    ·refine cOw (aJ hc6 5) fun v μ7 h7 hle7 hap7 hR=>?_
     obtain⟨e,hc7,k5,rfl,-,hk55,-⟩:=hR
     obtain rfl:=e.symm
     have hk55:=hk55 (by decide)
     have hrow7:=iY hrow6 hr5 hc7
     have hRO7:=hRO6.cur hne hc7
     have hBl7:=lV hBl6 hBr hc7
     refine aD (by decide) ?_
     refine nEq (x:=((k5 / 2:Nat):Int)) (by show IntKind.i64.wrap (Int.tdiv (k5:Int) 2)=_;rw[Int.tdiv_eq_ediv_of_nonneg (by omega),aA (by omega) (by omega)];simp) ?_
     have hcl5:=fE hc7.at hRO7 hne hsig n (by omega) (k5 / 2) (by omega) mode
     rw[hsl]at hcl5
     refine cOw hcl5 fun v μ8 h8 hle8 hap8 hR=>?_
     obtain⟨hc8,gs8,hgl8,hgd8,hgr8⟩:=hR
     have w_:=Gl.invV hgr8
     obtain⟨p8,rfl⟩:=w_
     have hd8:=(Dr.conj hgd8 (by omega)).mono (m':=9) (b':=1) (by omega) (Nat.le_refl _)
     have hrow8:=iY hrow7 hr5 hc8
     have hRO8:=hRO7.cur hne hc8
     have hBl8:=lV hBl7 hBr hc8
     have hc8:=hc8.at
     intro rg
     refine jS us rfl hrow8 ?_ ?_ fun r9' c9 o9 hrow9 hor=>?_
     ·show(us.length+1)*72≤_;omega
     ·exact Nat.le_trans (m:=100000000) (show us.length+1≤_ by omega) (by decide)
     have hn1:r9'≠r:=hor.elim (fun e=>by rw[e];exact hr5) fun e=>hc8.ne e.1
     have hn2:r9'≠rb:=hor.elim (fun e=>by rw[e];exact hr5b) fun e e2=>by
      have w_:=hRO8.row.obj
      obtain⟨cs,hcs⟩:=w_
      have e1:h8 r9'=none:=e.1
      rw[e2,hcs]at e1
      cases e1
     have hn3:hB r9'=none:=hor.elim (fun e=>by rw[e];exact hB5) fun e=>kR hBl8 e.1
     refine aC (by omega) (by omega) ⟨(k-1,gs++[.mk 7 ⟨#[]⟩ [] gs8],_,(r9',c9),μ8,_),⟨by dsimp only;omega,by simp only[List.length_append,List.length_singleton];omega,by simp,?_,hrow9,?_,hle6.trans hle8,hc8.other hn1,hap8.set (uW hrow8 hap8 hor),hn1,hn2,⟨hRO8.row.set_ne hn2.symm,hRO8.len,hRO8.at_⟩,fO hBl8 hn3,hn3⟩,by dsimp only;omega,⟨⟨rfl,rfl,rfl,rfl,rfl,rfl,rfl,?_,rfl,rfl,rfl,trivial⟩,⟨rfl,rfl,?_,trivial⟩,rfl,rfl⟩⟩
     ·intro x hx
      rcases List.mem_append.1 hx with hx|hx
      ·exact hgs x hx
      ·rw[List.mem_singleton.1 hx];exact hd8
     ·dsimp only
      rw[List.map_append]
      exact(hrow5.mono hle8).append (Rows.one hgr8 (Gl.d_n _))
     ·show some (SV.val (.int .i64 _))=some (SV.val (.int .i64 _))
      congr 3;omega
     ·rw[List.length_append];rfl
    ·have hle26:μ2.Le μ6:=hle3.trans hle6
     refine ifd (fun h1=>?_) (fun h1=>?_)
     ·refine cOw (fM hc6 2) fun v μ7 h7 hle7 hap7 hR=>?_
      obtain⟨e,hc7,w,rfl⟩:=hR
      obtain rfl:=e.symm
      have hrow6:=iY hrow6 hr5 hc7
      have hRO6:=hRO6.cur hne hc7
      have hBl6:=lV hBl6 hBr hc7
      have hcz:=hc7.at
      have hap6:=hap7
      refine iIn (fun hw=>?_) (fun hw=>?_)
      ·obtain⟨g0,hg0⟩:∃g0,gs[0]?=some g0:=⟨_,List.getElem?_eq_getElem (List.length_pos_iff.2 hgne)⟩
       obtain⟨u0,hu0,hru0⟩:∃u0,us[0]?=some u0∧RepV μ6 g0.d u0:=by
        cases hrow5g:gs with
        |nil=>exact absurd hrow5g hgne
        |cons a rr=>
         rw[hrow5g]at hrow5 hg0
         cases hg0
         cases hrow5 with
         |cons ha hb' hc'=>exact⟨_,rfl,ha⟩
       have w_:=Gl.invV hru0
       obtain⟨p5,rfl⟩:=w_
       have hdg:=(hgs g0 (List.mem_of_getElem? hg0)).mono (m':=40) (b':=3) (by decide) (by decide)
       refine qT 0 rfl (by omega) ?_
       refine oIn _ rfl (hrow6.ownA hu0 rfl) ?_
       refine eB ⟨rb,0,none⟩ rfl (by omega) (by omega) ?_
       refine nB (k:=0) (j:=3) (x:=qU q) (.agg #[.string q.1,.int .i64 q.2.1,.int .i64 q.2.2,.int .i64 g0.kind,.string g0.name,.slice p5.1.1 g0.terms.length p5.1.2,.slice p5.2.1 g0.goals.length p5.2.2]) hRO6.row hxi (by simp[Addr.add_lit']) rfl (show 3+4≤7 by decide) (by simp[Value.oneCell']) fun o hrow2=>?_
       exact aC (by omega) (by omega) ⟨(0+1,ls++[⟨q.1,q.2.1,q.2.2,g0⟩],xs.set (0) (.agg #[.string q.1,.int .i64 q.2.1,.int .i64 q.2.2,.int .i64 g0.kind,.string g0.name,.slice p5.1.1 g0.terms.length p5.1.2,.slice p5.2.1 g0.goals.length p5.2.2]),_,_),hDI.next (by omega) hq hn hne hle26 hcz hRO6 hap6 ((Mem.Le.refl hB)) (hBl6) ((And.intro hBr hBrb)) hrows hrow2 ((hru0.mono (Mem.le_join μ6 hB))) (hdg),by dsimp only;omega,⟨⟨rfl,rfl,rfl,rfl,rfl,rfl,rfl,trivial⟩,⟨rfl,rfl,trivial⟩,rfl,rfl⟩⟩
      ·have w_:=RowO.alone (g:=hB) hrow6
       obtain⟨o6,ho6,hrowB⟩:=w_
       have hB6:(hB.set r5 o6).Le h7:=fun b x hb=>by
        by_cases e:b=r5
        ·subst e;rw[Mem.set_at]at hb;cases hb;exact ho6
        ·rw[Mem.set_ne e]at hb;exact hBl6 b x hb
       have hBB:hB.Le (hB.set r5 o6):=fO (Mem.Le.refl _) hB5
       have hBn:(hB.set r5 o6) r=none∧(hB.set r5 o6) rb=none:=⟨by rw[Mem.set_ne (Ne.symm hr5)];exact hBr,by rw[Mem.set_ne (Ne.symm hr5b)];exact hBrb⟩
       have hgoal:RepV (μ6.join (hB.set r5 o6)) (Gl.mk 8 ⟨#[]⟩ [] gs).d (.agg #[.int .i64 8,.string ⟨#[]⟩,.slice none 0 0,.slice (some ⟨r5,0,none⟩) us.length c5]):=cX (ts:=[]) (Rep.nilSl 4) (hrowB.rep (Mem.le_join_right (mG hap6 hB6)) (hrow5.mono (Mem.le_join _ _)))
       have hdr:Dr (sgT qs) n mode 40 3 (.mk 8 ⟨#[]⟩ [] gs):=(Dr.disj hgs (by omega) hgne).mono (by omega) (by omega)
       refine eB ⟨rb,0,none⟩ rfl (by omega) (by omega) ?_
       refine nB (k:=0) (j:=3) (x:=qU q) (.agg #[.string q.1,.int .i64 q.2.1,.int .i64 q.2.2,.int .i64 8,.string ⟨#[]⟩,.slice none 0 0,.slice (some ⟨r5,0,none⟩) us.length c5]) hRO6.row hxi (by simp[Addr.add_lit']) rfl (show 3+4≤7 by decide) (by simp[Value.oneCell']) fun o hrow2=>?_
       exact aC (by omega) (by omega) ⟨(0+1,ls++[⟨q.1,q.2.1,q.2.2,(Gl.mk 8 ⟨#[]⟩ [] gs)⟩],xs.set (0) (.agg #[.string q.1,.int .i64 q.2.1,.int .i64 q.2.2,.int .i64 8,.string ⟨#[]⟩,.slice none 0 0,.slice (some ⟨r5,0,none⟩) us.length c5]),_,_),hDI.next (by omega) hq hn hne hle26 hcz hRO6 hap6 (hBB) (hB6) (hBn) hrows hrow2 (hgoal) (hdr),by dsimp only;omega,⟨⟨rfl,rfl,rfl,rfl,rfl,rfl,rfl,trivial⟩,⟨rfl,rfl,trivial⟩,rfl,rfl⟩⟩
     ·have hcz:=hc6
      have w_:=RowO.alone (g:=hB) hrow6
      obtain⟨o6,ho6,hrowB⟩:=w_
      have hB6:(hB.set r5 o6).Le h6:=fun b x hb=>by
       by_cases e:b=r5
       ·subst e;rw[Mem.set_at]at hb;cases hb;exact ho6
       ·rw[Mem.set_ne e]at hb;exact hBl6 b x hb
      have hBB:hB.Le (hB.set r5 o6):=fO (Mem.Le.refl _) hB5
      have hBn:(hB.set r5 o6) r=none∧(hB.set r5 o6) rb=none:=⟨by rw[Mem.set_ne (Ne.symm hr5)];exact hBr,by rw[Mem.set_ne (Ne.symm hr5b)];exact hBrb⟩
      have hgoal:RepV (μ6.join (hB.set r5 o6)) (Gl.mk 8 ⟨#[]⟩ [] gs).d (.agg #[.int .i64 8,.string ⟨#[]⟩,.slice none 0 0,.slice (some ⟨r5,0,none⟩) us.length c5]):=cX (ts:=[]) (Rep.nilSl 4) (hrowB.rep (Mem.le_join_right (mG hap6 hB6)) (hrow5.mono (Mem.le_join _ _)))
      have hdr:Dr (sgT qs) n mode 40 3 (.mk 8 ⟨#[]⟩ [] gs):=(Dr.disj hgs (by omega) hgne).mono (by omega) (by omega)
      refine eB ⟨rb,0,none⟩ rfl (by omega) (by omega) ?_
      refine nB (k:=0) (j:=3) (x:=qU q) (.agg #[.string q.1,.int .i64 q.2.1,.int .i64 q.2.2,.int .i64 8,.string ⟨#[]⟩,.slice none 0 0,.slice (some ⟨r5,0,none⟩) us.length c5]) hRO6.row hxi (by simp[Addr.add_lit']) rfl (show 3+4≤7 by decide) (by simp[Value.oneCell']) fun o hrow2=>?_
      exact aC (by omega) (by omega) ⟨(0+1,ls++[⟨q.1,q.2.1,q.2.2,(Gl.mk 8 ⟨#[]⟩ [] gs)⟩],xs.set (0) (.agg #[.string q.1,.int .i64 q.2.1,.int .i64 q.2.2,.int .i64 8,.string ⟨#[]⟩,.slice none 0 0,.slice (some ⟨r5,0,none⟩) us.length c5]),_,_),hDI.next (by omega) hq hn hne hle26 hcz hRO6 hap6 (hBB) (hB6) (hBn) hrows hrow2 (hgoal) (hdr),by dsimp only;omega,⟨⟨rfl,rfl,rfl,rfl,rfl,rfl,rfl,trivial⟩,⟨rfl,rfl,trivial⟩,rfl,rfl⟩⟩
   |i+1=>
    have w_:=hpos (by omega)
    obtain⟨hne,hRO,hap2⟩:=w_
    refine qT (i+1) rfl (by omega) ?_
    refine oIn (aB (qU q)) rfl (hRO.row.ownA hxi rfl) ?_
    intro r9
    refine aC (by omega) (by omega) ?_
    rw[hn]
    have hcl:=fE hc2 hRO hne hsig n (by omega) 0 (by decide) mode
    rw[hsl]at hcl
    refine cOw hcl fun v μ3 h3 hle3 hap3 hR=>?_
    obtain⟨hc3,gs0,hgl,hgd,hgr⟩:=hR
    have w_:=Gl.invV hgr
    obtain⟨p0,rfl⟩:=w_
    have hRO3:=hRO.cur hne hc3
    have hBl3:hB.Le h3:=by
     have w_:=hc3.ex
     obtain⟨o3,_,e3⟩:=w_
     rw[e3]
     exact fO hBl hBr
    have hc3:=hc3.at
    have hd0:=(Dr.conj hgd (by omega)).mono (m':=9) (b':=1) (by omega) (Nat.le_refl _)
    intro rs hms hos
    have hos:h3 rs=none:=hos
    have hr5:rs≠r:=hc3.ne hos
    have hr5b:rs≠rb:=fun e=>by
     have w_:=hRO3.row.obj
     obtain⟨cs,hcs⟩:=w_
     rw[e,hcs]at hos
     cases hos
    have hrow0:RowO (h3.set rs (.cells [Value.int .i64 7,.string ⟨#[]⟩,.slice p0.1.1 0 p0.1.2,.slice p0.2.1 gs0.length p0.2.2].toArray 61 (0,0))) rs 1 61 4 [.agg #[.int .i64 7,.string ⟨#[]⟩,.slice p0.1.1 0 p0.1.2,.slice p0.2.1 gs0.length p0.2.2]]:=
     ⟨_,Mem.set_at _ _ _,Nat.le_refl _,by show 1≤_;decide,fun x hx=>by rw[List.mem_singleton.1 hx];exact⟨rfl,by simp[aB,Value.oneCell']⟩,rfl,by simp[aB]⟩
    intro r11
    refine cOw (aJ (hc3.other hr5) 3) fun v μ4 h4 hle4 hap4 hR=>?_
    obtain⟨e,hc4,k3,rfl,-,hk33,-⟩:=hR
    obtain rfl:=e.symm
    have hk33:=hk33 (by decide)
    have hRO4:RelsO h4 rb c (sgT qs) xs:=RelsO.cur ⟨hRO3.row.set_ne hr5b.symm,hRO3.len,hRO3.at_⟩ hne hc4
    have hrow0:=iY hrow0 hr5 hc4
    have hBl4:hB.Le h4:=lV (fO hBl3 (kR hBl3 hos)) hBr hc4
    refine lIn (fun z:Nat×List Gl×List Value×(Nat×Nat)×Mem×Mem=>z.1≤2∧z.2.1.length+z.1≤3∧z.2.1≠[]∧(∀g∈z.2.1,Dr (sgT qs) n mode 9 1 g)∧RowO z.2.2.2.2.2 z.2.2.2.1.1 z.2.2.2.1.2 61 4 z.2.2.1∧Rows z.2.2.2.2.1 4 (z.2.1.map Gl.d) z.2.2.1∧μ3.Le z.2.2.2.2.1∧Cur z.2.2.2.2.1 z.2.2.2.2.2 r z.2.2.2.2.2∧Apart z.2.2.2.2.1 z.2.2.2.2.2∧z.2.2.2.1.1≠r∧z.2.2.2.1.1≠rb∧RelsO z.2.2.2.2.2 rb c (sgT qs) xs∧hB.Le z.2.2.2.2.2∧hB z.2.2.2.1.1=none)
     (fun(k,_,us,(r5,c5),μ',h')=>⟨[(0,.val (.pointer (some ⟨r,0,none⟩))),(1,.val (.int .i64 mode)),(4,.loc 0 r4 0),(5,.loc 1 r5_ 0),(8,.val (.int .i64 (((i+1):Nat):Int))),(10,.val (.int .i64 n)),(11,.loc 5 r11 0),(12,.val (.int .i64 k)),(38,.row 3 (some rb) ys.length c),(39,.val (.int .i64 ys.length)),(40,.val (.int .i64 (((i+1):Nat):Int)))],
      [(0,some (.cells r4 [.val (.slice none 0 0)] 25)),(1,some (.cells r5_ [.row 3 (some rb) ys.length c] 25)),(5,some (.cells r11 [.val (.int .i64 8),.val (.string ⟨#[]⟩),.val (.slice none 0 0),.val (.slice (some ⟨r5,0,none⟩) us.length c5)] 61))],6,μ',h'⟩) (fun z=>z.1)
     (k3,[.mk 7 ⟨#[]⟩ [] gs0],[.agg #[.int .i64 7,.string ⟨#[]⟩,.slice p0.1.1 0 p0.1.2,.slice p0.2.1 gs0.length p0.2.2]],(rs,1),μ3,h4) ⟨by dsimp only;omega,by simp only[List.length_singleton];omega,(fun e=>nomatch e),(fun g hg=>by rw[List.mem_singleton.1 hg];exact hd0),hrow0,Rows.one hgr (Gl.d_n _),Mem.Le.refl _,hc4.at,hap4,hr5,hr5b,hRO4,hBl4,kR hBl3 hos⟩ (fun(_,_,_,(_,_),_,_)=>⟨rfl,rfl⟩)
     ⟨⟨rfl,rfl,rfl,rfl,rfl,rfl,rfl,rfl,rfl,rfl,rfl,trivial⟩,⟨rfl,rfl,rfl,trivial⟩,rfl,rfl⟩ ?_
    clear hc4 hap4 hRO4 hBl4 hrow0 hr5 hr5b
    rintro⟨k,gs,us,⟨r5,c5⟩,μ6,h6⟩ ⟨hk,hkl,hgne,hgs,hrow6,hrow5,hle6,hc6,hap6,hr5,hr5b,hRO6,hBl6,hB5⟩
    dsimp only at hk hkl hgne hgs hrow6 hrow5 hle6 hc6 hap6 hr5 hr5b hRO6 hBl6 hB5
    have hul:=hrow5.len
    rw[List.length_map]at hul
    refine ifd (fun hkp=>?_) (fun hkz=>?_)
    ·refine cOw (aJ hc6 5) fun v μ7 h7 hle7 hap7 hR=>?_
     obtain⟨e,hc7,k5,rfl,-,hk55,-⟩:=hR
     obtain rfl:=e.symm
     have hk55:=hk55 (by decide)
     have hrow7:=iY hrow6 hr5 hc7
     have hRO7:=hRO6.cur hne hc7
     have hBl7:=lV hBl6 hBr hc7
     refine aD (by decide) ?_
     refine nEq (x:=((k5 / 2:Nat):Int)) (by show IntKind.i64.wrap (Int.tdiv (k5:Int) 2)=_;rw[Int.tdiv_eq_ediv_of_nonneg (by omega),aA (by omega) (by omega)];simp) ?_
     have hcl5:=fE hc7.at hRO7 hne hsig n (by omega) (k5 / 2) (by omega) mode
     rw[hsl]at hcl5
     refine cOw hcl5 fun v μ8 h8 hle8 hap8 hR=>?_
     obtain⟨hc8,gs8,hgl8,hgd8,hgr8⟩:=hR
     have w_:=Gl.invV hgr8
     obtain⟨p8,rfl⟩:=w_
     have hd8:=(Dr.conj hgd8 (by omega)).mono (m':=9) (b':=1) (by omega) (Nat.le_refl _)
     have hrow8:=iY hrow7 hr5 hc8
     have hRO8:=hRO7.cur hne hc8
     have hBl8:=lV hBl7 hBr hc8
     have hc8:=hc8.at
     intro rg
     refine jS us rfl hrow8 ?_ ?_ fun r9' c9 o9 hrow9 hor=>?_
     ·show(us.length+1)*72≤_;omega
     ·exact Nat.le_trans (m:=100000000) (show us.length+1≤_ by omega) (by decide)
     have hn1:r9'≠r:=hor.elim (fun e=>by rw[e];exact hr5) fun e=>hc8.ne e.1
     have hn2:r9'≠rb:=hor.elim (fun e=>by rw[e];exact hr5b) fun e e2=>by
      have w_:=hRO8.row.obj
      obtain⟨cs,hcs⟩:=w_
      have e1:h8 r9'=none:=e.1
      rw[e2,hcs]at e1
      cases e1
     have hn3:hB r9'=none:=hor.elim (fun e=>by rw[e];exact hB5) fun e=>kR hBl8 e.1
     refine aC (by omega) (by omega) ⟨(k-1,gs++[.mk 7 ⟨#[]⟩ [] gs8],_,(r9',c9),μ8,_),⟨by dsimp only;omega,by simp only[List.length_append,List.length_singleton];omega,by simp,?_,hrow9,?_,hle6.trans hle8,hc8.other hn1,hap8.set (uW hrow8 hap8 hor),hn1,hn2,⟨hRO8.row.set_ne hn2.symm,hRO8.len,hRO8.at_⟩,fO hBl8 hn3,hn3⟩,by dsimp only;omega,⟨⟨rfl,rfl,rfl,rfl,rfl,rfl,rfl,?_,rfl,rfl,rfl,trivial⟩,⟨rfl,rfl,?_,trivial⟩,rfl,rfl⟩⟩
     ·intro x hx
      rcases List.mem_append.1 hx with hx|hx
      ·exact hgs x hx
      ·rw[List.mem_singleton.1 hx];exact hd8
     ·dsimp only
      rw[List.map_append]
      exact(hrow5.mono hle8).append (Rows.one hgr8 (Gl.d_n _))
     ·show some (SV.val (.int .i64 _))=some (SV.val (.int .i64 _))
      congr 3;omega
     ·rw[List.length_append];rfl
    ·have hle26:μ2.Le μ6:=hle3.trans hle6
     refine ifd (fun h1=>?_) (fun h1=>?_)
     ·refine cOw (fM hc6 2) fun v μ7 h7 hle7 hap7 hR=>?_
      obtain⟨e,hc7,w,rfl⟩:=hR
      obtain rfl:=e.symm
      have hrow6:=iY hrow6 hr5 hc7
      have hRO6:=hRO6.cur hne hc7
      have hBl6:=lV hBl6 hBr hc7
      have hcz:=hc7.at
      have hap6:=hap7
      refine iIn (fun hw=>?_) (fun hw=>?_)
      ·obtain⟨g0,hg0⟩:∃g0,gs[0]?=some g0:=⟨_,List.getElem?_eq_getElem (List.length_pos_iff.2 hgne)⟩
       obtain⟨u0,hu0,hru0⟩:∃u0,us[0]?=some u0∧RepV μ6 g0.d u0:=by
        cases hrow5g:gs with
        |nil=>exact absurd hrow5g hgne
        |cons a rr=>
         rw[hrow5g]at hrow5 hg0
         cases hg0
         cases hrow5 with
         |cons ha hb' hc'=>exact⟨_,rfl,ha⟩
       have w_:=Gl.invV hru0
       obtain⟨p5,rfl⟩:=w_
       have hdg:=(hgs g0 (List.mem_of_getElem? hg0)).mono (m':=40) (b':=3) (by decide) (by decide)
       refine qT 0 rfl (by omega) ?_
       refine oIn _ rfl (hrow6.ownA hu0 rfl) ?_
       refine eB ⟨rb,0,none⟩ rfl (by omega) (by omega) ?_
       refine nB (k:=(i+1)) (j:=3) (x:=qU q) (.agg #[.string q.1,.int .i64 q.2.1,.int .i64 q.2.2,.int .i64 g0.kind,.string g0.name,.slice p5.1.1 g0.terms.length p5.1.2,.slice p5.2.1 g0.goals.length p5.2.2]) hRO6.row hxi (by simp[Addr.add_lit']) rfl (show 3+4≤7 by decide) (by simp[Value.oneCell']) fun o hrow2=>?_
       exact aC (by omega) (by omega) ⟨((i+1)+1,ls++[⟨q.1,q.2.1,q.2.2,g0⟩],xs.set ((i+1)) (.agg #[.string q.1,.int .i64 q.2.1,.int .i64 q.2.2,.int .i64 g0.kind,.string g0.name,.slice p5.1.1 g0.terms.length p5.1.2,.slice p5.2.1 g0.goals.length p5.2.2]),_,_),hDI.next (by omega) hq hn hne hle26 hcz hRO6 hap6 ((Mem.Le.refl hB)) (hBl6) ((And.intro hBr hBrb)) hrows hrow2 ((hru0.mono (Mem.le_join μ6 hB))) (hdg),by dsimp only;omega,⟨⟨rfl,rfl,rfl,rfl,rfl,rfl,rfl,trivial⟩,⟨rfl,rfl,trivial⟩,rfl,rfl⟩⟩
      ·have w_:=RowO.alone (g:=hB) hrow6
       obtain⟨o6,ho6,hrowB⟩:=w_
       have hB6:(hB.set r5 o6).Le h7:=fun b x hb=>by
        by_cases e:b=r5
        ·subst e;rw[Mem.set_at]at hb;cases hb;exact ho6
        ·rw[Mem.set_ne e]at hb;exact hBl6 b x hb
       have hBB:hB.Le (hB.set r5 o6):=fO (Mem.Le.refl _) hB5
       have hBn:(hB.set r5 o6) r=none∧(hB.set r5 o6) rb=none:=⟨by rw[Mem.set_ne (Ne.symm hr5)];exact hBr,by rw[Mem.set_ne (Ne.symm hr5b)];exact hBrb⟩
       have hgoal:RepV (μ6.join (hB.set r5 o6)) (Gl.mk 8 ⟨#[]⟩ [] gs).d (.agg #[.int .i64 8,.string ⟨#[]⟩,.slice none 0 0,.slice (some ⟨r5,0,none⟩) us.length c5]):=cX (ts:=[]) (Rep.nilSl 4) (hrowB.rep (Mem.le_join_right (mG hap6 hB6)) (hrow5.mono (Mem.le_join _ _)))
       have hdr:Dr (sgT qs) n mode 40 3 (.mk 8 ⟨#[]⟩ [] gs):=(Dr.disj hgs (by omega) hgne).mono (by omega) (by omega)
       refine eB ⟨rb,0,none⟩ rfl (by omega) (by omega) ?_
       refine nB (k:=(i+1)) (j:=3) (x:=qU q) (.agg #[.string q.1,.int .i64 q.2.1,.int .i64 q.2.2,.int .i64 8,.string ⟨#[]⟩,.slice none 0 0,.slice (some ⟨r5,0,none⟩) us.length c5]) hRO6.row hxi (by simp[Addr.add_lit']) rfl (show 3+4≤7 by decide) (by simp[Value.oneCell']) fun o hrow2=>?_
       exact aC (by omega) (by omega) ⟨((i+1)+1,ls++[⟨q.1,q.2.1,q.2.2,(Gl.mk 8 ⟨#[]⟩ [] gs)⟩],xs.set ((i+1)) (.agg #[.string q.1,.int .i64 q.2.1,.int .i64 q.2.2,.int .i64 8,.string ⟨#[]⟩,.slice none 0 0,.slice (some ⟨r5,0,none⟩) us.length c5]),_,_),hDI.next (by omega) hq hn hne hle26 hcz hRO6 hap6 (hBB) (hB6) (hBn) hrows hrow2 (hgoal) (hdr),by dsimp only;omega,⟨⟨rfl,rfl,rfl,rfl,rfl,rfl,rfl,trivial⟩,⟨rfl,rfl,trivial⟩,rfl,rfl⟩⟩
     ·have hcz:=hc6
      have w_:=RowO.alone (g:=hB) hrow6
      obtain⟨o6,ho6,hrowB⟩:=w_
      have hB6:(hB.set r5 o6).Le h6:=fun b x hb=>by
       by_cases e:b=r5
       ·subst e;rw[Mem.set_at]at hb;cases hb;exact ho6
       ·rw[Mem.set_ne e]at hb;exact hBl6 b x hb
      have hBB:hB.Le (hB.set r5 o6):=fO (Mem.Le.refl _) hB5
      have hBn:(hB.set r5 o6) r=none∧(hB.set r5 o6) rb=none:=⟨by rw[Mem.set_ne (Ne.symm hr5)];exact hBr,by rw[Mem.set_ne (Ne.symm hr5b)];exact hBrb⟩
      have hgoal:RepV (μ6.join (hB.set r5 o6)) (Gl.mk 8 ⟨#[]⟩ [] gs).d (.agg #[.int .i64 8,.string ⟨#[]⟩,.slice none 0 0,.slice (some ⟨r5,0,none⟩) us.length c5]):=cX (ts:=[]) (Rep.nilSl 4) (hrowB.rep (Mem.le_join_right (mG hap6 hB6)) (hrow5.mono (Mem.le_join _ _)))
      have hdr:Dr (sgT qs) n mode 40 3 (.mk 8 ⟨#[]⟩ [] gs):=(Dr.disj hgs (by omega) hgne).mono (by omega) (by omega)
      refine eB ⟨rb,0,none⟩ rfl (by omega) (by omega) ?_
      refine nB (k:=(i+1)) (j:=3) (x:=qU q) (.agg #[.string q.1,.int .i64 q.2.1,.int .i64 q.2.2,.int .i64 8,.string ⟨#[]⟩,.slice none 0 0,.slice (some ⟨r5,0,none⟩) us.length c5]) hRO6.row hxi (by simp[Addr.add_lit']) rfl (show 3+4≤7 by decide) (by simp[Value.oneCell']) fun o hrow2=>?_
      exact aC (by omega) (by omega) ⟨((i+1)+1,ls++[⟨q.1,q.2.1,q.2.2,(Gl.mk 8 ⟨#[]⟩ [] gs)⟩],xs.set ((i+1)) (.agg #[.string q.1,.int .i64 q.2.1,.int .i64 q.2.2,.int .i64 8,.string ⟨#[]⟩,.slice none 0 0,.slice (some ⟨r5,0,none⟩) us.length c5]),_,_),hDI.next (by omega) hq hn hne hle26 hcz hRO6 hap6 (hBB) (hB6) (hBn) hrows hrow2 (hgoal) (hdr),by dsimp only;omega,⟨⟨rfl,rfl,rfl,rfl,rfl,rfl,rfl,trivial⟩,⟨rfl,rfl,trivial⟩,rfl,rfl⟩⟩
  ·have hie:i=ys.length:=by omega
   obtain⟨i',rfl⟩:∃i',i=i'+1:=⟨i-1,by omega⟩
   have w_:=hpos (by omega)
   obtain⟨hne,hRO,hap2⟩:=w_
   have hql2:qs.length=ls.length:=by omega
   have at_:∀(j:Nat) l,ls[j]?=some l→∃q,qs[j]?=some q:=fun j l hl=>⟨_,List.getElem?_eq_getElem (by have:=(List.getElem?_eq_some_iff.1 hl).1;omega)⟩
   have hsg:qMn ls=sgT qs:=by
    apply List.ext_getElem?
    intro j
    rw[qMn,sgT,List.getElem?_map,List.getElem?_map]
    cases hl:ls[j]? with
    |none=>
     have:qs[j]?=none:=List.getElem?_eq_none (by have:=List.getElem?_eq_none_iff.1 hl;omega)
     rw[this];rfl
    |some l=>
     have w_:=at_ j l hl
     obtain⟨q,hq⟩:=w_
     have w_:=hgood j l q hl hq
     obtain⟨a,b,_,_⟩:=w_
     rw[hq]
     simp[a,b]
   refine dO h2 Mem.nil (Parts.nil_right h2) ⟨ls,⟨by omega,by omega,fun j l hl=>?_,fun l hl=>?_,fun l hl=>?_,fun l hl=>?_⟩,?_⟩
   ·have w_:=at_ j l hl
    obtain⟨q,hq⟩:=w_
    rw[(hgood j l q hl hq).1,hT.nm j q hq]
   ·have w_:=List.getElem?_of_mem hl
    obtain⟨j,hj⟩:=w_
    have w_:=at_ j l hj
    obtain⟨q,hq⟩:=w_
    rw[(hgood j l q hj hq).2.1]
    exact hT.ar q (List.mem_of_getElem? hq)
   ·have w_:=List.getElem?_of_mem hl
    obtain⟨j,hj⟩:=w_
    have w_:=at_ j l hj
    obtain⟨q,hq⟩:=w_
    rw[(hgood j l q hj hq).2.2.1]
    exact hT.lo q (List.mem_of_getElem? hq)
   ·have w_:=List.getElem?_of_mem hl
    obtain⟨j,hj⟩:=w_
    have w_:=at_ j l hj
    obtain⟨q,hq⟩:=w_
    have w_:=hgood j l q hj hq
    obtain⟨_,e2,e3,e4⟩:=w_
    rw[hsg,e2,e3]
    exact e4
   ·rw[hie,←hxl,List.take_length]at hrows
    have k:=hRO.row.rep (Mem.le_join_right hap2) (hrows.mono (qBn (Mem.Le.refl _) hBl hap2))
    rw[hxl]at k
    exact⟨_,rfl,RepS.last k⟩
end
end Go.Vx
namespace Go.Vx
open Go.Proofs Classical
theorem Pg.Pure.pos{p:Pg}(h:p.Pure):p.Pos:=⟨h.1,fun r hr x hx=>(h.2 r hr x hx).1⟩
theorem LibOk.prom{s:Bs}{p:Pg}(h:LibOk s p)(hok:p.Ok){mode:Int}(hpos:mode≤1→p.Pos):MkP mode p:=⟨hok,h.small3,h.small2,hpos,h.ne,h.ar⟩
section
variable {μ:Mem}
set_option maxHeartbeats 1000000 in
theorem qY{base:Option Addr}{n cap:Nat}(hb:Bytes μ base n)(m:Int)(hm:m≤1000000)(mode:Int)(hmode:mode=1∨mode=2):
  Spec Tryz.prog 11 [.slice base n cap,.int .i64 m,.int .i64 mode] μ fun v μ'=>∃p,MkP mode p∧RepV μ' p.d v:=by
 refine Spec.mk Tryz.func11 (by kernel_rfl) ?_
 intro r6
 refine cOw (sA hb m hm) fun v μ1 h1 hle1 hap1 hR=>?_
 obtain⟨e,r,rfl,ho,hc1⟩:=hR
 obtain rfl:=e.symm
 refine cOw (qBk hc1.at) fun v μ2 h2 hle2 hap2 hR=>?_
 obtain⟨hc2,s,hs,rfl⟩:=hR
 have w_:=qAp (μ:=μ2) hs
 obtain⟨t,p,hp,hG⟩:=w_
 refine cGv hG ?_
 refine cPl (qA hp.parse hp.len hp.bytes hp.wd) fun v μ3 hle3 hR=>?_
 obtain⟨q,tv,b,rfl,hrq,hqp⟩:=hR
 have w_:=Pg.invV hrq
 obtain⟨pq,rfl⟩:=w_
 intro r8
 have hc3:=hc2.mono hle3
 refine iIn (fun hb1=>?_) (fun hb1=>?_)
 ·have w_:=hqp hb1
  obtain⟨rfl,hok⟩:=w_
  refine cOw (fM hc3.at 8) fun v μ4 h4 hle4 hap4 hR=>?_
  obtain⟨e,hc4,w,rfl⟩:=hR
  obtain rfl:=e.symm
  refine iIn (fun hw=>?_) (fun hw=>?_)
  ·refine ifd (fun hm2=>?_) (fun hm2=>?_)
   ·exact rPl ⟨_,hp.prom hok (fun h=>absurd h (by omega)),hrq⟩
   ·refine ifd (fun hm1=>?_) (fun hm1=>absurd hm1 (by omega))
    refine cPl (lR hrq hp.wd) fun v μ5 hle5 hR=>?_
    have hR:v= .bool (decide q.Pos):=hR
    subst hR
    refine iIn (fun hpos=>?_) (fun hpos=>?_)
    ·exact rPl ⟨_,hp.prom hok (fun _=>of_decide_eq_true hpos),hrq.mono hle5⟩
    ·refine cPl (rJ (hrq.mono hle5) hp.wd) fun v μ6 hle6 hR=>?_
     have hR:v= .bool (decide q.Pure):=hR
     subst hR
     refine iIn (fun hpu=>?_) (fun hpu=>?_)
     ·exact rPl ⟨_,hp.prom hok (fun _=>Pg.Pure.pos (of_decide_eq_true hpu)),(hrq.mono hle5).mono hle6⟩
     ·refine cOw (kM ((((hc3.trans hc4).mono hle5).mono hle6)).at mode) fun v μd hd hled hapd hR=>?_
      obtain⟨l,hl,hrl⟩:=hR
      have w_:=Pg.invV hrl
      obtain⟨pd,rfl⟩:=w_
      exact rPl ⟨_,hl.prom,hrl⟩
  ·refine cOw (kM ((hc3.trans hc4)).at mode) fun v μd hd hled hapd hR=>?_
   obtain⟨l,hl,hrl⟩:=hR
   have w_:=Pg.invV hrl
   obtain⟨pd,rfl⟩:=w_
   exact rPl ⟨_,hl.prom,hrl⟩
 ·refine cOw (kM (hc3).at mode) fun v μd hd hled hapd hR=>?_
  obtain⟨l,hl,hrl⟩:=hR
  have w_:=Pg.invV hrl
  obtain⟨pd,rfl⟩:=w_
  exact rPl ⟨_,hl.prom,hrl⟩
end
end Go.Vx
namespace Go.Vx
open Go.Proofs Classical
def AscT(l:List T):Prop:=∀(i:Nat) x y,l[i]?=some x→l[i+1]?=some y→x.cmp y<0
theorem AscT.ins{l:List T}{t:T}{k:Nat}(h:AscT l)(hk:k≤l.length)(h1:∀x,l[k]?=some x→t.cmp x<0)(h2:∀j x,j+1=k→l[j]?=some x→x.cmp t<0):AscT (l.take k++t::l.drop k):=by
 intro i x y hx hy
 have hlen:(l.take k).length=k:=by rw[List.length_take];omega
 rw[List.getElem?_append]at hx hy
 rw[hlen]at hx hy
 by_cases a:i+1<k
 ·rw[if_pos (by omega),List.getElem?_take,if_pos (by omega)]at hx
  rw[if_pos a,List.getElem?_take,if_pos a]at hy
  exact h i x y hx hy
 ·rw[if_neg a]at hy
  by_cases b:i<k
  ·have e:i+1=k:=by omega
   rw[if_pos b,List.getElem?_take,if_pos b]at hx
   rw[e,Nat.sub_self]at hy
   cases hy
   exact h2 i x e hx
  ·rw[if_neg b]at hx
   by_cases c:i=k
   ·subst c
    rw[Nat.sub_self]at hx
    rw[show i+1-i=0+1 from by omega,List.getElem?_cons_succ,List.getElem?_drop,Nat.add_zero]at hy
    cases hx
    exact h1 y hy
   ·rw[show i-k=(i-k-1)+1 from by omega,List.getElem?_cons_succ,List.getElem?_drop,show k+(i-k-1)=i-1 from by omega]at hx
    rw[show i+1-k=(i-k)+1 from by omega,List.getElem?_cons_succ,List.getElem?_drop,show k+(i-k)=(i-1)+1 from by omega]at hy
    exact h (i-1) x y hx hy
section
variable {μ:Mem}
set_option maxHeartbeats 1000000 in
theorem lW{xs:List T}{t:T}{v vt:Value}(h:RepV μ (.sl 4 ((xs.map T.tm).map Tm.d)) v)(ht:RepV μ t.tm.d vt)(hasc:AscT xs)(hn:xs.length≤1000):
  Spec Tryz.prog 127 [v,vt] μ fun v' μ'=>∃ys,RepV μ' (.sl 4 ((ys.map T.tm).map Tm.d)) v'∧AscT ys∧(∀y∈ys,y=t∨y∈xs)∧1≤ys.length∧ys.length≤xs.length+1:=by
 have w_:=Rep.sl h
 obtain⟨b,c,rfl,hs⟩:=w_
 rw[List.length_map,List.length_map]at hs h ⊢
 have w_:=Rep.src h
 obtain⟨vs,hrows,hvs,hcap,hsrc⟩:=w_
 have w_:=Tm.invV ht
 obtain⟨q,rfl⟩:=w_
 refine Spec.mk Tryz.func127 (by kernel_rfl) ?_
 intro r3
 refine lIn (fun k:Nat=>k≤xs.length∧∀x,xs[k]?=some x→0≤x.cmp t) (fun k=>⟨[(0,.val (.slice b xs.length c)),(3,.loc 0 r3 0),(5,.val (.int .i64 k))],[(0,some (.cells r3 [.val (.int .i64 t.tm.kind),.val (.int .i64 t.tm.num),.val (.string t.tm.name),.val (.slice q.1 t.tm.args.length q.2)] 75))],1,μ,Mem.nil⟩) (fun k=>k)
  xs.length ⟨Nat.le_refl _,fun x hx=>by rw[List.getElem?_eq_none (Nat.le_refl _)]at hx;cases hx⟩ (fun _=>⟨rfl,rfl⟩) ⟨⟨rfl,rfl,rfl,trivial⟩,⟨rfl,trivial⟩,rfl,rfl⟩ ?_
 rintro k ⟨hk,hge⟩
 refine ifd (fun hk0=>?_) (fun hk0=>?_)
 ·obtain⟨j,hj⟩:∃j,k=j+1:=⟨k-1,by omega⟩
  obtain⟨x,hx⟩:∃x,xs[j]?=some x:=⟨_,List.getElem?_eq_getElem (by omega)⟩
  have w_:=T.elemL hs hx
  obtain⟨ad,p,hel,hrx⟩:=w_
  refine aC (by omega) (by omega) ?_
  rw[show(k:Int)-1=(j:Int)from by omega]
  refine eIn hel ?_
  refine cGv (sP x t hrx ht) ?_
  refine iIn (fun hc=>?_) (fun hc=>?_)
  ·have hc:=of_decide_eq_true hc
   refine aC (by omega) (by omega) ⟨j,⟨by omega,fun y hy=>by rw[hx]at hy;cases hy;exact hc⟩,by omega,⟨⟨rfl,rfl,?_,trivial⟩,⟨rfl,trivial⟩,rfl,rfl⟩⟩
   show some (SV.val (.int .i64 _))=some (SV.val (.int .i64 _))
   congr 3;omega
  ·have hc:=of_decide_eq_false hc
   have hlow:∀j x,j+1=k→xs[j]?=some x→x.cmp t<0:=fun j' x' e hx'=>by
    obtain rfl:j'=j:=by omega
    rw[hx]at hx';cases hx'
    omega
   refine ifd (fun hlt=>?_) (fun hlt=>?_)
   ·obtain⟨y,hy⟩:∃y,xs[k]?=some y:=⟨_,List.getElem?_eq_getElem (by omega)⟩
    have w_:=T.elemL hs hy
    obtain⟨ady,py,hely,hry⟩:=w_
    refine eIn hely ?_
    refine cGv (qJ y t hry ht) ?_
    refine iIn (fun hsm=>?_) (fun hsm=>?_)
    ·exact rPl ⟨xs,h,hasc,fun y hy=> .inr hy,by omega,by omega⟩
    ·have hsm:=of_decide_eq_false hsm
     have hhi:∀x,xs[k]?=some x→t.cmp x<0:=fun x hx=>by
      rw[hy]at hx;cases hx
      have h1:=hge y hy
      have h2:y.cmp t≠0:=fun e=>hsm ((T.cmp_zero y t).1 e)
      exact(T.cmp_anti t y).2 (by omega)
     intro r5
     refine aR 0 k rfl rfl (by omega) (by omega) ?_
     refine aY _ (hsrc 0 k (by omega) (by omega)) ?_
     refine gIn ?_ ?_ fun b1 c1 _=>?_
     ·show(0+_)*56≤_;simp;omega
     ·exact Nat.le_trans (m:=2000000000) (by simp;omega) (by decide)
     intro r6
     refine gIn ?_ ?_ fun b2 c2 _=>?_
     ·show(_+1)*56≤_;simp;omega
     ·exact Nat.le_trans (m:=2000000000) (by simp;omega) (by decide)
     refine aR k xs.length rfl rfl (by omega) (by omega) ?_
     refine aY _ (hsrc k xs.length (by omega) (Nat.le_refl _)) ?_
     refine gIn ?_ ?_ fun b3 c3 _=>?_
     ·show(_+_)*56≤_;simp;omega
     ·exact Nat.le_trans (m:=3000000000) (by simp;omega) (by decide)
     have hr2:=((hrows.take k).append (Rows.one ht (Tm.d_n _))).append (hrows.drop k)
     refine rFz [1] fun μ2 hle2 hno2 hrow2=> .inl ⟨xs.take k++t::xs.drop k,?_,AscT.ins hasc (by omega) hhi hlow,fun y hy=>?_,by simp;omega,by simp;omega⟩
     ·have ev:(([]:List Value)++(vs.drop 0).take (k-0)++[Value.agg #[.int .i64 t.tm.kind,.int .i64 t.tm.num,.string t.tm.name,.slice q.1 t.tm.args.length q.2]]++(vs.drop k).take (xs.length-k))=vs.take k++[.agg #[.int .i64 t.tm.kind,.int .i64 t.tm.num,.string t.tm.name,.slice q.1 t.tm.args.length q.2]]++vs.drop k:=by
       simp
       rw[List.take_of_length_le (by simp;omega)]
      have e2:(((xs.take k++t::xs.drop k).map T.tm).map Tm.d)=((xs.map T.tm).map Tm.d).take k++[t.tm.d]++((xs.map T.tm).map Tm.d).drop k:=by simp
      have hrow2:=ev ▸ hrow2
      have:=Rows.sl hrow2 (hr2.mono hle2) (Nat.le_trans (m:=3000000000) (by simp;omega) (by decide))
      rw[←e2]at this
      rw[←ev]at this
      exact this
     ·rcases List.mem_append.1 hy with hy|hy
      ·exact .inr (List.mem_of_mem_take hy)
      ·rcases List.mem_cons.1 hy with rfl|hy
       ·exact .inl rfl
       ·exact .inr (List.mem_of_mem_drop hy)
   ·have hhi:∀x,xs[k]?=some x→t.cmp x<0:=fun x hx=>by have:=(List.getElem?_eq_some_iff.1 hx).1;omega
    intro r5
    refine aR 0 k rfl rfl (by omega) (by omega) ?_
    refine aY _ (hsrc 0 k (by omega) (by omega)) ?_
    refine gIn ?_ ?_ fun b1 c1 _=>?_
    ·show(0+_)*56≤_;simp;omega
    ·exact Nat.le_trans (m:=2000000000) (by simp;omega) (by decide)
    intro r6
    refine gIn ?_ ?_ fun b2 c2 _=>?_
    ·show(_+1)*56≤_;simp;omega
    ·exact Nat.le_trans (m:=2000000000) (by simp;omega) (by decide)
    refine aR k xs.length rfl rfl (by omega) (by omega) ?_
    refine aY _ (hsrc k xs.length (by omega) (Nat.le_refl _)) ?_
    refine gIn ?_ ?_ fun b3 c3 _=>?_
    ·show(_+_)*56≤_;simp;omega
    ·exact Nat.le_trans (m:=3000000000) (by simp;omega) (by decide)
    have hr2:=((hrows.take k).append (Rows.one ht (Tm.d_n _))).append (hrows.drop k)
    refine rFz [1] fun μ2 hle2 hno2 hrow2=> .inl ⟨xs.take k++t::xs.drop k,?_,AscT.ins hasc (by omega) hhi hlow,fun y hy=>?_,by simp;omega,by simp;omega⟩
    ·have ev:(([]:List Value)++(vs.drop 0).take (k-0)++[Value.agg #[.int .i64 t.tm.kind,.int .i64 t.tm.num,.string t.tm.name,.slice q.1 t.tm.args.length q.2]]++(vs.drop k).take (xs.length-k))=vs.take k++[.agg #[.int .i64 t.tm.kind,.int .i64 t.tm.num,.string t.tm.name,.slice q.1 t.tm.args.length q.2]]++vs.drop k:=by
      simp
      rw[List.take_of_length_le (by simp;omega)]
     have e2:(((xs.take k++t::xs.drop k).map T.tm).map Tm.d)=((xs.map T.tm).map Tm.d).take k++[t.tm.d]++((xs.map T.tm).map Tm.d).drop k:=by simp
     have hrow2:=ev ▸ hrow2
     have:=Rows.sl hrow2 (hr2.mono hle2) (Nat.le_trans (m:=3000000000) (by simp;omega) (by decide))
     rw[←e2]at this
     rw[←ev]at this
     exact this
    ·rcases List.mem_append.1 hy with hy|hy
     ·exact .inr (List.mem_of_mem_take hy)
     ·rcases List.mem_cons.1 hy with rfl|hy
      ·exact .inl rfl
      ·exact .inr (List.mem_of_mem_drop hy)
 ·have hlow:∀j x,j+1=k→xs[j]?=some x→x.cmp t<0:=fun j' x' e=>by omega
  refine ifd (fun hlt=>?_) (fun hlt=>?_)
  ·obtain⟨y,hy⟩:∃y,xs[k]?=some y:=⟨_,List.getElem?_eq_getElem (by omega)⟩
   have w_:=T.elemL hs hy
   obtain⟨ady,py,hely,hry⟩:=w_
   refine eIn hely ?_
   refine cGv (qJ y t hry ht) ?_
   refine iIn (fun hsm=>?_) (fun hsm=>?_)
   ·exact rPl ⟨xs,h,hasc,fun y hy=> .inr hy,by omega,by omega⟩
   ·have hsm:=of_decide_eq_false hsm
    have hhi:∀x,xs[k]?=some x→t.cmp x<0:=fun x hx=>by
     rw[hy]at hx;cases hx
     have h1:=hge y hy
     have h2:y.cmp t≠0:=fun e=>hsm ((T.cmp_zero y t).1 e)
     exact(T.cmp_anti t y).2 (by omega)
    intro r5
    refine aR 0 k rfl rfl (by omega) (by omega) ?_
    refine aY _ (hsrc 0 k (by omega) (by omega)) ?_
    refine gIn ?_ ?_ fun b1 c1 _=>?_
    ·show(0+_)*56≤_;simp;omega
    ·exact Nat.le_trans (m:=2000000000) (by simp;omega) (by decide)
    intro r6
    refine gIn ?_ ?_ fun b2 c2 _=>?_
    ·show(_+1)*56≤_;simp;omega
    ·exact Nat.le_trans (m:=2000000000) (by simp;omega) (by decide)
    refine aR k xs.length rfl rfl (by omega) (by omega) ?_
    refine aY _ (hsrc k xs.length (by omega) (Nat.le_refl _)) ?_
    refine gIn ?_ ?_ fun b3 c3 _=>?_
    ·show(_+_)*56≤_;simp;omega
    ·exact Nat.le_trans (m:=3000000000) (by simp;omega) (by decide)
    have hr2:=((hrows.take k).append (Rows.one ht (Tm.d_n _))).append (hrows.drop k)
    refine rFz [1] fun μ2 hle2 hno2 hrow2=> .inl ⟨xs.take k++t::xs.drop k,?_,AscT.ins hasc (by omega) hhi hlow,fun y hy=>?_,by simp;omega,by simp;omega⟩
    ·have ev:(([]:List Value)++(vs.drop 0).take (k-0)++[Value.agg #[.int .i64 t.tm.kind,.int .i64 t.tm.num,.string t.tm.name,.slice q.1 t.tm.args.length q.2]]++(vs.drop k).take (xs.length-k))=vs.take k++[.agg #[.int .i64 t.tm.kind,.int .i64 t.tm.num,.string t.tm.name,.slice q.1 t.tm.args.length q.2]]++vs.drop k:=by
      simp
      rw[List.take_of_length_le (by simp;omega)]
     have e2:(((xs.take k++t::xs.drop k).map T.tm).map Tm.d)=((xs.map T.tm).map Tm.d).take k++[t.tm.d]++((xs.map T.tm).map Tm.d).drop k:=by simp
     have hrow2:=ev ▸ hrow2
     have:=Rows.sl hrow2 (hr2.mono hle2) (Nat.le_trans (m:=3000000000) (by simp;omega) (by decide))
     rw[←e2]at this
     rw[←ev]at this
     exact this
    ·rcases List.mem_append.1 hy with hy|hy
     ·exact .inr (List.mem_of_mem_take hy)
     ·rcases List.mem_cons.1 hy with rfl|hy
      ·exact .inl rfl
      ·exact .inr (List.mem_of_mem_drop hy)
  ·have hhi:∀x,xs[k]?=some x→t.cmp x<0:=fun x hx=>by have:=(List.getElem?_eq_some_iff.1 hx).1;omega
   intro r5
   refine aR 0 k rfl rfl (by omega) (by omega) ?_
   refine aY _ (hsrc 0 k (by omega) (by omega)) ?_
   refine gIn ?_ ?_ fun b1 c1 _=>?_
   ·show(0+_)*56≤_;simp;omega
   ·exact Nat.le_trans (m:=2000000000) (by simp;omega) (by decide)
   intro r6
   refine gIn ?_ ?_ fun b2 c2 _=>?_
   ·show(_+1)*56≤_;simp;omega
   ·exact Nat.le_trans (m:=2000000000) (by simp;omega) (by decide)
   refine aR k xs.length rfl rfl (by omega) (by omega) ?_
   refine aY _ (hsrc k xs.length (by omega) (Nat.le_refl _)) ?_
   refine gIn ?_ ?_ fun b3 c3 _=>?_
   ·show(_+_)*56≤_;simp;omega
   ·exact Nat.le_trans (m:=3000000000) (by simp;omega) (by decide)
   have hr2:=((hrows.take k).append (Rows.one ht (Tm.d_n _))).append (hrows.drop k)
   refine rFz [1] fun μ2 hle2 hno2 hrow2=> .inl ⟨xs.take k++t::xs.drop k,?_,AscT.ins hasc (by omega) hhi hlow,fun y hy=>?_,by simp;omega,by simp;omega⟩
   ·have ev:(([]:List Value)++(vs.drop 0).take (k-0)++[Value.agg #[.int .i64 t.tm.kind,.int .i64 t.tm.num,.string t.tm.name,.slice q.1 t.tm.args.length q.2]]++(vs.drop k).take (xs.length-k))=vs.take k++[.agg #[.int .i64 t.tm.kind,.int .i64 t.tm.num,.string t.tm.name,.slice q.1 t.tm.args.length q.2]]++vs.drop k:=by
     simp
     rw[List.take_of_length_le (by simp;omega)]
    have e2:(((xs.take k++t::xs.drop k).map T.tm).map Tm.d)=((xs.map T.tm).map Tm.d).take k++[t.tm.d]++((xs.map T.tm).map Tm.d).drop k:=by simp
    have hrow2:=ev ▸ hrow2
    have:=Rows.sl hrow2 (hr2.mono hle2) (Nat.le_trans (m:=3000000000) (by simp;omega) (by decide))
    rw[←e2]at this
    rw[←ev]at this
    exact this
   ·rcases List.mem_append.1 hy with hy|hy
    ·exact .inr (List.mem_of_mem_take hy)
    ·rcases List.mem_cons.1 hy with rfl|hy
     ·exact .inl rfl
     ·exact .inr (List.mem_of_mem_drop hy)
end
end Go.Vx
namespace Go.Vx
open Go.Proofs Classical
section
variable {μ:Mem}
structure Uni (most:Nat) (xs:List T):Prop where
 asc:AscT xs
 pos:1≤xs.length
 max:xs.length≤most
 drawn:∀t∈xs,Drawn 2 0 t
theorem Uni.ok{most:Nat}{xs:List T}(h:Uni most xs)(hm:most≤8):UnivOk (xs.map T.tm) where
 pos:=by rw[List.length_map];exact h.pos
 max:=by rw[List.length_map];exact Nat.le_trans h.max hm
 gnd:=fun t ht=>by
  have w_:=List.mem_map.1 ht
  obtain⟨x,hx,rfl⟩:=w_
  have hd:=h.drawn x hx
  refine⟨(hd.ok (by decide)).tm,?_⟩
  rw[T.toT_tm]
  rcases hvs:x.vars with _|⟨a,l⟩
  ·rfl
  ·have:=hd.low a (rW (by rw[hvs];simp))
   omega
 asc:=fun i x y hx hy=>by
  rw[List.getElem?_map]at hx hy
  have w_:=Option.map_eq_some_iff.1 hx
  obtain⟨a,ha,rfl⟩:=w_
  have w_:=Option.map_eq_some_iff.1 hy
  obtain⟨b,hb,rfl⟩:=w_
  rw[T.toT_tm,T.toT_tm]
  exact h.asc i a b ha hb
set_option maxHeartbeats 1000000 in
theorem qW{h:Mem}{r:Nat}(hc:Cur μ h r h)(most:Nat)(hm:1≤most)(hm8:most≤8):
  SpecH Tryz.prog 56 [.pointer (some ⟨r,0,none⟩),.int .i64 most] μ h fun v μ' _=>∃xs,Uni most xs∧RepV μ' (.sl 4 ((xs.map T.tm).map Tm.d)) v:=by
 refine SpecH.mk [] Tryz.func56 (by kernel_rfl) ?_
 intro r7
 refine bG [0] fun μ0 hle0 hno0 hat0=>rG (aJ (hc.mono hle0) most) fun v μ1 h1 hle1 hap1 hR=>?_
 obtain⟨e,hc1,k0,rfl,-,hk0,-⟩:=hR
 obtain rfl:=e.symm
 have hk0:=hk0 (by omega)
 have hr0:RepV μ0 (.sl 4 ((([]:List T).map T.tm).map Tm.d)) (.slice (some ⟨r7,0,none⟩) 0 0):=Rows.sl hat0 Rows.nil (Nat.zero_le _)
 refine aC (by omega) (by omega) ?_
 refine lIn (fun z:Nat×Nat×List T×(Option Addr×Nat)×Mem×Mem=>z.1+z.2.1=1+k0∧(z.1=0→z.2.2.1=[]∧z.2.2.2.1=(some ⟨r7,0,none⟩,0))∧(0<z.1→1≤z.2.2.1.length)∧z.2.2.1.length≤z.1∧RepV z.2.2.2.2.1 (.sl 4 ((z.2.2.1.map T.tm).map Tm.d)) (.slice z.2.2.2.1.1 z.2.2.1.length z.2.2.2.1.2)∧AscT z.2.2.1∧(∀t∈z.2.2.1,Drawn 2 0 t)∧Cur z.2.2.2.2.1 h r z.2.2.2.2.2)
  (fun(i,k,xs,(b,c),μ',h')=>⟨[(0,.val (.pointer (some ⟨r,0,none⟩))),(5,match i with|0=> .row 0 (some r7) 0 0|_+1=> .val (.slice b xs.length c)),(6,.val (.int .i64 k))],[],1,μ',h'⟩) (fun z=>z.2.1)
  (0,1+k0,[],(some ⟨r7,0,none⟩,0),μ0,h1) ⟨by dsimp only;omega,fun _=>⟨rfl,rfl⟩,fun h=>absurd h (by dsimp only;omega),Nat.zero_le _,hr0,(fun _ _ _ h=>nomatch h),(fun _ h=>nomatch h),hc1⟩ (fun(i,_,_,(_,_),_,_)=>match i with|0=>⟨rfl,rfl⟩|_+1=>⟨rfl,rfl⟩) ⟨⟨rfl,rfl,by show some (SV.val (.int .i64 _))=some (SV.val (.int .i64 _));congr 3,trivial⟩,trivial,rfl,rfl⟩ ?_
 clear hc1 hap1
 rintro⟨i,k,xs,⟨b,c⟩,μ1,h1⟩ ⟨hik,hz,hpos,hxl,hr,hasc,hdr,hc1⟩
 dsimp only at hik hz hpos hxl hr hasc hdr hc1
 match i with
 |0=>
  have w_:=hz rfl
  obtain⟨rfl,e⟩:=w_
  obtain⟨rfl,rfl⟩:=Prod.mk.inj e
  refine ifd (fun hlt=>?_) (fun hlt=>absurd hlt (by omega))
  refine cOw (aJ hc1.at 2) fun v μ2 h2 hle2 hap2 hR=>?_
  obtain⟨e,hc2,k2,rfl,-,hk22,-⟩:=hR
  obtain rfl:=e.symm
  have hk22:=hk22 (by decide)
  have drawn:∃size:Nat,size≤1000∧1+2*(k2:Int)=(size:Int)∧lvB size≤2:=by
   have w_:k2=0∨k2=1:=by omega
   rcases w_ with rfl|rfl
   ·exact⟨1,by decide,rfl,by rw[lvB,if_neg (by decide)];decide⟩
   ·exact⟨3,by decide,rfl,by rw[qHr];decide⟩
  obtain⟨size,hs1,hs2,hs3⟩:=drawn
  refine aC (by omega) (by omega) (aC (by omega) (by omega) ?_)
  rw[hs2]
  refine cOw (eF 0 (by decide) size hs1 (hc1.trans hc2).at) fun v μ3 h3 hle3 hap3 hR=>?_
  obtain⟨hc3,t,hrt,hdt⟩:=hR
  refine cPl (lW (hr.mono hle3) hrt hasc (by omega)) fun v4 μ4 hle4 hR4=>?_
  obtain⟨ys,hry,hya,hym,hy1,hyl⟩:=hR4
  have w_:=Rep.sl hry
  obtain⟨by_,cy,rfl,-⟩:=w_
  rw[List.length_map,List.length_map]at hry ⊢
  refine aC (by omega) (by omega) ⟨(0+1,k-1,ys,(by_,cy),μ4,h3),⟨by dsimp only;omega,(fun e=>by simp at e),fun _=>hy1,by dsimp only;omega,hry,hya,fun y hy=>?_,((hc1.trans hc2).trans hc3).mono hle4⟩,by dsimp only;omega,⟨⟨rfl,rfl,?_,trivial⟩,trivial,rfl,rfl⟩⟩
  ·rcases hym y hy with rfl|hy
   ·exact hdt.mono hs3
   ·exact hdr y hy
  ·show some (SV.val (.int .i64 _))=some (SV.val (.int .i64 _))
   congr 3;omega
 |i+1=>
  refine ifd (fun hlt=>?_) (fun hlt=>?_)
  ·refine cOw (aJ hc1.at 2) fun v μ2 h2 hle2 hap2 hR=>?_
   obtain⟨e,hc2,k2,rfl,-,hk22,-⟩:=hR
   obtain rfl:=e.symm
   have hk22:=hk22 (by decide)
   have drawn:∃size:Nat,size≤1000∧1+2*(k2:Int)=(size:Int)∧lvB size≤2:=by
    have w_:k2=0∨k2=1:=by omega
    rcases w_ with rfl|rfl
    ·exact⟨1,by decide,rfl,by rw[lvB,if_neg (by decide)];decide⟩
    ·exact⟨3,by decide,rfl,by rw[qHr];decide⟩
   obtain⟨size,hs1,hs2,hs3⟩:=drawn
   refine aC (by omega) (by omega) (aC (by omega) (by omega) ?_)
   rw[hs2]
   refine cOw (eF 0 (by decide) size hs1 (hc1.trans hc2).at) fun v μ3 h3 hle3 hap3 hR=>?_
   obtain⟨hc3,t,hrt,hdt⟩:=hR
   refine cPl (lW (hr.mono hle3) hrt hasc (by omega)) fun v4 μ4 hle4 hR4=>?_
   obtain⟨ys,hry,hya,hym,hy1,hyl⟩:=hR4
   have w_:=Rep.sl hry
   obtain⟨by_,cy,rfl,-⟩:=w_
   rw[List.length_map,List.length_map]at hry ⊢
   refine aC (by omega) (by omega) ⟨((i+1)+1,k-1,ys,(by_,cy),μ4,h3),⟨by dsimp only;omega,(fun e=>by simp at e),fun _=>hy1,by dsimp only;omega,hry,hya,fun y hy=>?_,((hc1.trans hc2).trans hc3).mono hle4⟩,by dsimp only;omega,⟨⟨rfl,rfl,?_,trivial⟩,trivial,rfl,rfl⟩⟩
   ·rcases hym y hy with rfl|hy
    ·exact hdt.mono hs3
    ·exact hdr y hy
   ·show some (SV.val (.int .i64 _))=some (SV.val (.int .i64 _))
    congr 3;omega
  ·exact rPl ⟨xs,⟨hasc,hpos (by omega),by omega,hdr⟩,hr⟩
theorem pB{base:Option Addr}{n cap:Nat}(hb:Bytes μ base n)(m:Int)(hm:m≤1000000)(most:Nat)(hm1:1≤most)(h8:most≤8):
  Spec Tryz.prog 12 [.slice base n cap,.int .i64 m,.int .i64 most] μ fun v μ'=>∃xs,Uni most xs∧RepV μ' (.sl 4 ((xs.map T.tm).map Tm.d)) v:=by
 refine Spec.mk Tryz.func12 (by kernel_rfl) ?_
 refine cOw (sA hb m hm) fun v μ1 h1 hle1 hap1 hR=>?_
 obtain⟨e,r,rfl,ho,hc1⟩:=hR
 obtain rfl:=e.symm
 refine cOw (qW hc1.at most hm1 h8) fun v μ2 h2 hle2 hap2 hR=>?_
 exact rPl hR
end
end Go.Vx
namespace Go.Vx
open Go.Proofs Classical
theorem F.eq_of{a b:F}(h1:a.rel=b.rel)(h2:a.args=b.args):a=b:=by
 cases a;cases b;cases h1;cases h2;rfl
section
variable {μ:Mem}
theorem F.invV{f:F}{v:Value}(h:RepV μ f.fc.d v):∃p:Fc.P,v= .agg #[.string f.rel,.slice p.1 f.args.length p.2]∧Sl μ 4 p.1 f.args.length ((f.args.map T.tm).map Tm.d):=by
 have w_:=Fc.inv h
 obtain⟨p,rfl,hA⟩:=w_
 have e:f.fc.args.length=f.args.length:=List.length_map _
 rw[e]
 refine⟨p,rfl,?_⟩
 have hA:Sl μ 4 p.1 f.fc.args.length (f.fc.args.map Tm.d):=hA
 rw[e]at hA
 exact hA
theorem F.elemV{l:List F}{base:Option Addr}{n:Nat}(h:Sl μ 2 base n ((l.map F.fc).map Fc.d)){i:Nat}{x:F}(hx:l[i]?=some x):∃ad,∃p:Fc.P,ElemAt μ base n 2 i ad [.string x.rel,.slice p.1 x.args.length p.2]∧RepV μ x.fc.d (.agg #[.string x.rel,.slice p.1 x.args.length p.2]):=by
 have w_:=Fc.elem h (i:=i) (x:=x.fc) (by rw[List.getElem?_map,hx];rfl)
 obtain⟨ad,p,h1,h2⟩:=w_
 have e:x.fc.cs p=[.string x.rel,.slice p.1 x.args.length p.2]:=by
  have e:x.fc.args.length=x.args.length:=List.length_map _
  show [Value.string x.rel,.slice p.1 x.fc.args.length p.2]=_
  rw[e]
 rw[e]at h1 h2
 exact⟨ad,p,h1,h2⟩
theorem qJd{f g:F}{v w:Value}(hv:RepV μ f.fc.d v)(hw:RepV μ g.fc.d w):aP Tryz.prog 41 [v,w] μ (.bool (decide (f=g))):=by
 have w_:=F.invV hv
 obtain⟨p,rfl,hp⟩:=w_
 have w_:=F.invV hw
 obtain⟨q,rfl,hq⟩:=w_
 refine Spec.mk Tryz.func41 (by kernel_rfl) ?_
 intro r2 r3
 refine ifd (fun h=>?_) (fun h=>?_)
 ·refine cGv (qJj hp hq) (rGv ?_ rfl)
  congr 1
  rw[Bool.eq_iff_iff,decide_eq_true_eq,decide_eq_true_eq]
  exact⟨fun e=>F.eq_of h e,fun e=>by rw[e]⟩
 ·refine rGv ?_ rfl
  rw[decide_eq_false fun e=>h (by rw[e])]
theorem in_spec{l:List F}{f:F}{base:Option Addr}{cap:Nat}{w:Value}(hl:Sl μ 2 base l.length ((l.map F.fc).map Fc.d))(hw:RepV μ f.fc.d w):aP Tryz.prog 20 [.slice base l.length cap,w] μ (.bool (decide (f∈l))):=by
 have hmx:=aH hl.max
 have w_:=F.invV hw
 obtain⟨q,rfl,hq⟩:=w_
 refine Spec.mk Tryz.func20 (by kernel_rfl) ?_
 intro r3
 refine lIn (fun i:Nat=>i≤l.length∧∀(j:Nat) x,j<i→l[j]?=some x→x≠f) (fun i=>⟨[(3,.loc 0 r3 0),(7,.val (.slice base l.length cap)),(8,.val (.int .i64 l.length)),(9,.val (.int .i64 i))],[(0,some (.cells r3 [.val (.string f.rel),.val (.slice q.1 f.args.length q.2)] 41))],1,μ,Mem.nil⟩) (fun i=>l.length-i)
  0 ⟨Nat.zero_le _,fun j x hj=>by omega⟩ (fun _=>⟨rfl,rfl⟩) ⟨⟨rfl,rfl,rfl,rfl,trivial⟩,⟨rfl,trivial⟩,rfl,rfl⟩ ?_
 rintro i ⟨hi,hall⟩
 refine ifd (fun hlt=>?_) (fun hlt=>?_)
 ·have w_:=aSo (l:=l) (i:=i) (by omega)
  obtain⟨x,hx⟩:=w_
  have w_:=F.elemV hl hx
  obtain⟨ad,p,hel,hrx⟩:=w_
  refine eIn hel ?_
  intro r6
  refine cGv (qJd hrx hw) ?_
  refine iIn (fun h=>?_) (fun h=>?_)
  ·have h:x=f:=of_decide_eq_true h
   refine rGv ?_ rfl
   rw[decide_eq_true (by rw[←h];exact List.mem_of_getElem? hx)]
  ·have h:x≠f:=of_decide_eq_false h
   refine aC (by omega) (by omega) ⟨i+1,⟨by omega,fun j y hj hy=>?_⟩,by omega,⟨⟨rfl,rfl,rfl,rfl,trivial⟩,⟨rfl,trivial⟩,rfl,rfl⟩⟩
   by_cases e:j=i
   ·subst e;rw[hx]at hy;cases hy;exact h
   ·exact hall j y (by omega) hy
 ·refine rGv ?_ rfl
  rw[decide_eq_false]
  intro hm
  have w_:=List.getElem?_of_mem hm
  obtain⟨j,hj⟩:=w_
  exact hall j f (by have:=(List.getElem?_eq_some_iff.1 hj).1;omega) hj rfl
theorem sM{l m:List F}{base base2:Option Addr}{cap cap2:Nat}(hl:Sl μ 2 base l.length ((l.map F.fc).map Fc.d))(hm:Sl μ 2 base2 m.length ((m.map F.fc).map Fc.d)):aP Tryz.prog 17 [.slice base l.length cap,.slice base2 m.length cap2] μ (.bool (decide (∀f∈l,f∈m))):=by
 have hmx:=aH hl.max
 refine Spec.mk Tryz.func17 (by kernel_rfl) ?_
 refine lIn (fun i:Nat=>i≤l.length∧∀(j:Nat) x,j<i→l[j]?=some x→x∈m) (fun i=>⟨[(1,.val (.slice base2 m.length cap2)),(7,.val (.slice base l.length cap)),(8,.val (.int .i64 l.length)),(9,.val (.int .i64 i))],[],0,μ,Mem.nil⟩) (fun i=>l.length-i)
  0 ⟨Nat.zero_le _,fun j x hj=>by omega⟩ (fun _=>⟨rfl,rfl⟩) ⟨⟨rfl,rfl,rfl,rfl,trivial⟩,trivial,rfl,rfl⟩ ?_
 rintro i ⟨hi,hall⟩
 refine ifd (fun hlt=>?_) (fun hlt=>?_)
 ·have w_:=aSo (l:=l) (i:=i) (by omega)
  obtain⟨x,hx⟩:=w_
  have w_:=F.elemV hl hx
  obtain⟨ad,p,hel,hrx⟩:=w_
  refine eIn hel ?_
  intro r6
  refine cGv (in_spec hm hrx) ?_
  refine aM (fun h=>?_) (fun h=>?_)
  ·refine rGv ?_ rfl
   rw[decide_eq_false fun k=>h (k x (List.mem_of_getElem? hx))]
  ·refine aC (by omega) (by omega) ⟨i+1,⟨by omega,fun j y hj hy=>?_⟩,by omega,⟨⟨rfl,rfl,rfl,rfl,trivial⟩,trivial,rfl,rfl⟩⟩
   by_cases e:j=i
   ·subst e;rw[hx]at hy;cases hy;exact h
   ·exact hall j y (by omega) hy
 ·refine rGv ?_ rfl
  rw[decide_eq_true]
  intro f hf
  have w_:=List.getElem?_of_mem hf
  obtain⟨j,hj⟩:=w_
  exact hall j f (by have:=(List.getElem?_eq_some_iff.1 hj).1;omega) hj
end
end Go.Vx
namespace Go.Vx
open Go.Proofs Classical
section
variable {μ:Mem}
set_option maxHeartbeats 1000000 in
theorem kN{p:Pg}{U:List T}{L:List F}{rs:List Ru}{v:Value}{ub fb:Option Addr}{uc fc:Nat}(hp:RepV μ p.d v)(hu:Sl μ 4 ub U.length ((U.map T.tm).map Tm.d))(hb:FsV μ L (.slice fb L.length fc))(hn:L.length≤2000000)
  (hok:p.Ok) (huok:UnivOk (U.map T.tm)) (hall:∀f∈L,FactFits p f.fc) (hL:cI p U=some rs):
  Spec Tryz.prog 62 [v,.slice ub U.length uc,.slice fb L.length fc] μ fun v μ'=>∃tv,v= .tuple #[tv,.bool true]∧FsV μ' (cP rs (iO L) (iO L)) tv:=by
 have hp0:=hp
 have w_:=Pg.inv hp
 obtain⟨q,rfl,hrl⟩:=w_
 have h1:=huok.pos
 have h8:=huok.max
 rw[List.length_map]at h1 h8
 have hgo:bC p (U.map T.tm)=some rs:=by rw[bC,if_pos ⟨hok,huok⟩,iQ];exact hL
 have w_:=dW hgo
 obtain⟨hrl2,hro⟩:=w_
 have hbs:=FsV.sl hb
 refine Spec.mk Tryz.func62 (by kernel_rfl) ?_
 intro r3
 refine cPl (cQ hp0) fun v1 μ1 hle1 hR=>?_
 obtain rfl:=hR
 refine iIn (fun h=>absurd hok (nd h)) (fun _=>?_)
 have hU:=dT (cap:=uc) (l:=U.map T.tm) (base:=ub) (μ:=μ1) (by rw[List.length_map];exact hu.mono hle1)
 rw[List.length_map]at hU
 refine cGv hU ?_
 refine iIn (fun h=>absurd huok (nd h)) (fun _=>?_)
 obtain⟨bq,cq,eq_,-,hsq⟩:=hbs
 obtain⟨rfl,-,rfl⟩:=Value.slice.inj eq_
 refine lIn (fun i:Nat=>i≤L.length)
  (fun i=>⟨[(1,.val (.slice ub U.length uc)),(2,.val (.slice fb L.length fc)),(3,.loc 0 r3 0),(20,.val (.slice fb L.length fc)),(21,.val (.int .i64 L.length)),(22,.val (.int .i64 i))],[(0,some (.cells r3 [.val (.slice q.1 p.rels.length q.2)] 25))],1,μ1,Mem.nil⟩) (fun i=>L.length-i)
  0 (Nat.zero_le _) (fun _=>⟨rfl,rfl⟩) ⟨⟨rfl,rfl,rfl,rfl,rfl,rfl,trivial⟩,⟨rfl,trivial⟩,rfl,rfl⟩ ?_
 intro i hi
 refine ifd (fun hlt=>?_) (fun hlt=>?_)
 ·have w_:=aSo (l:=L) (i:=i) (by omega)
  obtain⟨f,hf⟩:=w_
  have w_:=F.elemV (hsq.mono hle1) hf
  obtain⟨ad,q2,hel,hrf⟩:=w_
  refine eIn hel ?_
  intro r9
  refine cGv (nX (hp0.mono hle1) hrf) ?_
  refine aM (fun h=>absurd (hall f (mAt hf)) h) (fun h=>?_)
  exact aC (by omega) (by omega) ⟨i+1,by omega,by omega,⟨⟨rfl,rfl,rfl,rfl,rfl,rfl,trivial⟩,⟨rfl,trivial⟩,rfl,rfl⟩⟩
 refine cPl (fS (hp0.mono hle1) hok (hu.mono hle1) h1 h8) fun v2 μ2 hle2 hR=>?_
 rw[hL]at hR
 obtain⟨tv,rfl,hR⟩:=hR
 have w_:=RsV.sl hR
 obtain⟨b1,c1,rfl,hrs⟩:=w_
 refine iIn (fun h=>nomatch h) (fun _=>?_)
 refine cPl (bZ ((hb.mono hle1).mono hle2) (by omega)) fun v3 μ3 hle3 hR3=>?_
 have w_:=FsV.sl hR3
 obtain⟨b2,c2,rfl,-,hs2⟩:=w_
 have hsl:=pM L
 refine cPl (jG (hrs.mono hle3) (by omega) (eN _) (by omega) hs2) fun v4 μ4 hle4 hR4=>?_
 refine cPl (cT hR4 ?_ ?_) fun v5 μ5 hle5 hR5=>?_
 ·have:=yN rs (iO L) (iO L);omega
 ·intro f hf
  have w_:=mem_nextF.1 hf
  obtain⟨r,hr,_,rfl⟩:=w_
  exact Nat.le_trans (hro r hr).hlen (by decide)
 ·exact rPl ⟨_,rfl,hR5.rep⟩
def qFo(rs:List Ru)(L:List F):Prop:=∀f∈cP rs (iO L) (iO L),f∈L
set_option maxHeartbeats 1000000 in
theorem pV{p:Pg}{U:List T}{L:List F}{rs:List Ru}{v:Value}{ub fb:Option Addr}{uc fc:Nat}(hp:RepV μ p.d v)(hu:Sl μ 4 ub U.length ((U.map T.tm).map Tm.d))(hb:FsV μ L (.slice fb L.length fc))(hn:L.length≤2000000)
  (hok:p.Ok) (huok:UnivOk (U.map T.tm)) (hall:∀f∈L,FactFits p f.fc) (hL:cI p U=some rs):
  Spec Tryz.prog 16 [v,.slice ub U.length uc,.slice fb L.length fc] μ fun v _=>v= .bool (decide (qFo rs L)):=by
 have hp0:=hp
 have w_:=Pg.inv hp
 obtain⟨q,rfl,hrl⟩:=w_
 have hcon:=kN (uc:=uc) hp0 hu hb hn hok huok hall hL
 refine Spec.mk Tryz.func16 (by kernel_rfl) ?_
 intro r3
 refine cPl hcon fun v1 μ1 hle1 hR=>?_
 obtain⟨tv,rfl,hR⟩:=hR
 have w_:=FsV.sl hR
 obtain⟨b1,c1,rfl,-,hs1⟩:=w_
 refine iIn (fun h=>nomatch h) (fun _=>?_)
 refine cPl (bZ (hb.mono hle1) (by omega)) fun v2 μ2 hle2 hR2=>?_
 have w_:=FsV.sl hR2
 obtain⟨b2,c2,rfl,-,hs2⟩:=w_
 have hsl:=pM L
 have hmx:=aH hs1.max
 generalize hN:cP rs (iO L) (iO L)=N at*
 refine lIn (fun i:Nat=>i≤N.length∧∀(j:Nat) x,j<i→N[j]?=some x→x∈L)
  (fun i=>⟨[(9,.val (.slice b2 (iO L).length c2)),(23,.val (.slice b1 N.length c1)),(24,.val (.int .i64 N.length)),(25,.val (.int .i64 i))],[],1,μ2,Mem.nil⟩) (fun i=>N.length-i)
  0 ⟨Nat.zero_le _,fun j x hj=>by omega⟩ (fun _=>⟨rfl,rfl⟩) ⟨⟨rfl,rfl,rfl,rfl,trivial⟩,trivial,rfl,rfl⟩ ?_
 rintro i ⟨hi,hin⟩
 refine ifd (fun hlt=>?_) (fun hlt=>?_)
 ·have w_:=aSo (l:=N) (i:=i) (by omega)
  obtain⟨x,hx⟩:=w_
  have w_:=F.elemV (hs1.mono hle2) hx
  obtain⟨ad,p2,hel,hrx⟩:=w_
  refine eIn hel ?_
  intro r11
  refine cGv (dC (eN _) (by omega) hs2 hrx) ?_
  refine aM (fun h=>?_) (fun h=>?_)
  ·refine rPl ?_
   rw[decide_eq_false]
   intro k
   rw[qFo,hN]at k
   exact h (mem_ascF.2 (k x (List.mem_of_getElem? hx)))
  ·refine aC (by omega) (by omega) ⟨i+1,⟨by omega,fun j y hj hy=>?_⟩,by omega,⟨⟨rfl,rfl,rfl,rfl,trivial⟩,trivial,rfl,rfl⟩⟩
   by_cases e:j=i
   ·subst e;rw[hx]at hy;cases hy;exact mem_ascF.1 h
   ·exact hin j y (by omega) hy
 ·refine rPl ?_
  rw[decide_eq_true]
  intro f hf
  rw[hN]at hf
  have w_:=List.getElem?_of_mem hf
  obtain⟨j,hj⟩:=w_
  exact hin j f (by have:=(List.getElem?_eq_some_iff.1 hj).1;omega) hj
end
end Go.Vx
