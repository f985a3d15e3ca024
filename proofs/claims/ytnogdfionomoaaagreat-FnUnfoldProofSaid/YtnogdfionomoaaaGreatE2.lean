/- Texts of the proof, part E2. -/
import Derived.Test.YtnogdfionomoaaaGreatE1
namespace Go.Vx
open Go.Proofs Classical
open Go.Sort
section
variable {h0:Mem} {r:Nat} {ty:TypeId} {rest:List Value}
set_option maxHeartbeats 16000000 in
theorem rK{n cap:Nat}(hr:h0 r=none)(hn:n≤1000000000000):∀(m:Nat) (a b limit:Nat) (d:Array Int) (μ:Mem),b-a<m→a≤b→b≤n→d.size=n→limit≤64→Below ltInt a b d→
  SpecH Tryz.prog 268 [.slice (some ⟨r,0,none⟩) n cap,.int .i64 a,.int .i64 b,.int .i64 limit] μ (aR h0 r ty rest d) fun v _μ' h'=>v= .tuple #[]∧∃d',PermIn a b d d'∧SortedIn ltInt a b d'∧h'=aR h0 r ty rest d':=by
 intro m
 induction m with
 |zero=>intro a b limit d μ h;omega
 |succ m ih=>
 intro a0 b0 limit0 d0 μ hm hab0 hb0 hd0 hl0 hB0
 refine SpecH.mk [] Tryz.func268 (by kernel_rfl) ?_
 refine lIn (fun p:Nat×Nat×Nat×Bool×Bool×Array Int×Mem=>p.1≤p.2.1∧p.2.1≤n∧p.2.1-p.1≤b0-a0∧p.2.2.1≤64∧p.2.2.2.2.2.1.size=n∧Below ltInt p.1 p.2.1 p.2.2.2.2.2.1∧μ.Le p.2.2.2.2.2.2∧∀R,PermIn p.1 p.2.1 p.2.2.2.2.2.1 R→SortedIn ltInt p.1 p.2.1 R→PermIn a0 b0 d0 R∧SortedIn ltInt a0 b0 R)
  (fun(a,b,limit,wb,wp,d,μ')=>⟨[(0,.val (.slice (some ⟨r,0,none⟩) n cap)),(1,.val (.int .i64 a)),(2,.val (.int .i64 b)),(3,.val (.int .i64 limit)),(8,.val (.bool wb)),(9,.val (.bool wp))],[],0,μ',aR h0 r ty rest d⟩) (fun p=>p.2.1-p.1)
  (a0,b0,limit0,true,true,d0,μ) ⟨hab0,hb0,Nat.le_refl _,hl0,hd0,hB0,Mem.Le.refl _,fun R h1 h2=>⟨h1,h2⟩⟩ (fun(_,_,_,_,_,_,_)=>⟨rfl,rfl⟩) ⟨⟨rfl,rfl,rfl,rfl,rfl,rfl,trivial⟩,trivial,rfl,rfl⟩ ?_
 rintro⟨a,b,limit,wb,wp,d,μ1⟩ ⟨hab,hb,hlen,hlim,hs,hB,hle,hfin⟩
 dsimp only at hab hb hlen hlim hs hB hle hfin
 refine nEq (x:=((b-a:Nat):Int)) (by rw[aA (by omega) (by omega)];omega) ?_
 refine ifd (fun h12=>?_) (fun h12=>?_)
 ·refine cOw (jT hs hab hb hn) fun v μ' h' hle' hap hR => ?_
  obtain⟨rfl,e1,rfl⟩:=hR
  have q:=insertionSort_holds (lt:=ltInt) swo_ltInt d a b hab (by omega)
  exact rPl ⟨rfl,_,(hfin _ q.1 q.2).1,(hfin _ q.1 q.2).2,rfl⟩
 refine ifd (fun hl=>?_) (fun hl=>?_)
 ·refine cOw (oW hs (by omega) hb hn) fun v μ' h' hle' hap hR => ?_
  obtain⟨rfl,e1,rfl⟩:=hR
  have q:=heapSort_holds (lt:=ltInt) swo_ltInt d a b hab (by omega)
  exact rPl ⟨rfl,_,(hfin _ q.1 q.2).1,(hfin _ q.1 q.2).2,rfl⟩
 cases wb with
 |false=>
  refine iIn (fun _=>?_) (fun h=>nomatch h)
  refine cOw (jQ hr hs (by omega) hb hn) fun v μ2 h' hle' hap hR=>?_
  obtain⟨rfl,d1,p1,rfl⟩:=hR
  replace hB:=hB.perm (by omega) p1
  replace hfin:=fun R h1 h2=>hfin R (permIn_trans _ _ _ _ _ p1 h1) h2
  have hs1:d1.size=n:=p1.1.trans hs
  replace hle:=hle.trans hle'
  clear hs p1 hle'
  refine nEq (x:=((limit-1:Nat):Int)) (by rw[aA (by omega) (by omega)];omega) ?_
  refine cOw (fS hr hs1 (by omega) hb hn) fun v μ3 h' hle' hap hR=>?_
  obtain⟨p,k,hp1,hp2,hk,rfl,rfl⟩:=hR
  replace hle:=hle.trans hle'
  clear hle' hap
  refine ifd (fun hk2=>?_) (fun hk2=>?_)
  ·refine cOw (fK hs1 (by omega) hab hb hn) fun v μ4 h' hle' hap hR => ?_
   obtain⟨rfl,e1,rfl⟩:=hR
   obtain rfl:=e1.symm
   clear hle' hap
   have p2:=reverseRange_holds d1 a b hab (by omega)
   generalize reverseRange d1 a b=d2 at*
   replace hB:=hB.perm (by omega) p2
   replace hfin:=fun R h1 h2=>hfin R (permIn_trans _ _ _ _ _ p2 h1) h2
   have hs2:d2.size=n:=p2.1.trans hs1
   clear p2
   refine nEq (x:=((b-1:Nat):Int)) (by rw[aA (by omega) (by omega)];omega) ?_
   refine nEq (x:=((p-a:Nat):Int)) (by rw[aA (by omega) (by omega)];omega) ?_
   refine nEq (x:=(((b-1)-(p-a):Nat):Int)) (by rw[aA (by omega) (by omega)];omega) ?_
   refine iIn (fun h=>nomatch h) (fun _=>?_)
   refine ifd (fun ha0=>?_) (fun ha0=>?_)
   ·refine nEq (x := ((a - 1 : Nat) : Int)) (by rw [aA (by omega) (by omega)]; omega) ?_
    refine aK (a-1) (by omega) (by omega) ?_
    refine rdI (by omega) ?_
    refine aK ((b-1)-(p-a)) (by omega) (by omega) ?_
    refine rdI (by omega) ?_
    refine cGv (aQ _ _) ?_
    refine iIn (fun hnl=>?_) (fun hnl=>?_)
    ·refine cOw (aV (pivot := (b - 1) - (p - a)) hs2 (by omega) (by omega) hb hn) fun v μ6 h' hle' hap hR => ?_
     obtain⟨rfl,e1,rfl⟩:=hR
     obtain rfl:=e1.symm
     obtain⟨mid,d4,hx⟩:∃mid d4,partitionEqual ltInt d2 a b ((b-1)-(p-a))=(mid,d4):=⟨_,_,rfl⟩
     rw[hx]
     have q:=round_eq swo_ltInt (partitionEqual_holds ltInt) (by omega) (by omega) (by omega) (by omega) hB (by simpa using hnl) hx
     have qa:=q.1
     exact⟨(mid,b,limit-1,false,wp,d4,_),⟨q.2.1,hb,by dsimp only;omega,by dsimp only;omega,q.2.2.1.trans hs2,q.2.2.2.1,hle,fun R h1 h2=>hfin R (q.2.2.2.2 R h1 h2).1 (q.2.2.2.2 R h1 h2).2⟩,by dsimp only;omega,⟨⟨rfl,rfl,rfl,rfl,rfl,rfl,trivial⟩,trivial,rfl,rfl⟩⟩
    ·refine cOw (aP (pivot := (b - 1) - (p - a)) hs2 (by omega) (by omega) hb hn) fun v μ6 h' hle' hap hR => ?_
     obtain⟨⟨ap,rfl⟩,e1,rfl⟩:=hR
     obtain rfl:=e1.symm
     obtain⟨mid,ap',d4,hx⟩:∃mid ap' d4,partition ltInt d2 a b ((b-1)-(p-a))=(mid,ap',d4):=⟨_,_,_,rfl⟩
     rw[hx]
     have w_:=round_part swo_ltInt (partition_holds ltInt) (by omega) (by omega) (by omega) hB hx
     obtain⟨q1,q2,q3,q4,q5,q6,q7⟩:=w_
     refine nEq (x:=((mid-a:Nat):Int)) (by rw[aA (by omega) (by omega)];omega) ?_
     refine nEq (x:=((b-mid:Nat):Int)) (by rw[aA (by omega) (by omega)];omega) ?_
     refine aC (by decide) ?_
     refine nEq (x:=(((b-a) / 8:Nat):Int)) (by rw[Int.tdiv_eq_ediv_of_nonneg (by omega),aA (by omega) (by omega)];omega) ?_
     refine ifd (fun hlt=>?_) (fun hlt=>?_)
     ·refine cOw (ih a mid (limit - 1) d4 _ (by omega) (by omega) (by omega) (q3.trans hs2) (by omega) q4) fun v μ7 h' hle7 hap hR => ?_
      obtain⟨rfl,L,g1,g2,rfl⟩:=hR
      have w_:=q6 L g1 g2
      obtain⟨g3,g4⟩:=w_
      refine nEq (x:=((mid+1:Nat):Int)) (by rw[aA (by omega) (by omega)];omega) ?_
      exact⟨(mid+1,b,limit-1,_,ap,L,μ7),⟨by dsimp only;omega,hb,by dsimp only;omega,by dsimp only;omega,g1.1.trans (q3.trans hs2),g3,hle.trans hle7,fun R h1 h2=>hfin R (g4 R h1 h2).1 (g4 R h1 h2).2⟩,by dsimp only;omega,⟨⟨rfl,rfl,rfl,rfl,rfl,rfl,trivial⟩,trivial,rfl,rfl⟩⟩
     ·refine nEq (x := ((mid + 1 : Nat) : Int)) (by rw [aA (by omega) (by omega)]; omega) ?_
      refine cOw (ih (mid+1) b (limit-1) d4 _ (by omega) (by omega) (by omega) (q3.trans hs2) (by omega) q5) fun v μ7 h' hle7 hap hR=>?_
      obtain⟨rfl,L,g1,g2,rfl⟩:=hR
      have w_:=q7 L g1 g2
      obtain⟨g3,g4⟩:=w_
      exact⟨(a,mid,limit-1,_,ap,L,μ7),⟨by dsimp only;omega,by dsimp only;omega,by dsimp only;omega,by dsimp only;omega,g1.1.trans (q3.trans hs2),g3,hle.trans hle7,fun R h1 h2=>hfin R (g4 R h1 h2).1 (g4 R h1 h2).2⟩,by dsimp only;omega,⟨⟨rfl,rfl,rfl,rfl,rfl,rfl,trivial⟩,trivial,rfl,rfl⟩⟩
   ·refine cOw (aP (pivot := (b - 1) - (p - a)) hs2 (by omega) (by omega) hb hn) fun v μ6 h' hle' hap hR => ?_
    obtain⟨⟨ap,rfl⟩,e1,rfl⟩:=hR
    obtain rfl:=e1.symm
    obtain⟨mid,ap',d4,hx⟩:∃mid ap' d4,partition ltInt d2 a b ((b-1)-(p-a))=(mid,ap',d4):=⟨_,_,_,rfl⟩
    rw[hx]
    have w_:=round_part swo_ltInt (partition_holds ltInt) (by omega) (by omega) (by omega) hB hx
    obtain⟨q1,q2,q3,q4,q5,q6,q7⟩:=w_
    refine nEq (x:=((mid-a:Nat):Int)) (by rw[aA (by omega) (by omega)];omega) ?_
    refine nEq (x:=((b-mid:Nat):Int)) (by rw[aA (by omega) (by omega)];omega) ?_
    refine aC (by decide) ?_
    refine nEq (x:=(((b-a) / 8:Nat):Int)) (by rw[Int.tdiv_eq_ediv_of_nonneg (by omega),aA (by omega) (by omega)];omega) ?_
    refine ifd (fun hlt=>?_) (fun hlt=>?_)
    ·refine cOw (ih a mid (limit - 1) d4 _ (by omega) (by omega) (by omega) (q3.trans hs2) (by omega) q4) fun v μ7 h' hle7 hap hR => ?_
     obtain⟨rfl,L,g1,g2,rfl⟩:=hR
     have w_:=q6 L g1 g2
     obtain⟨g3,g4⟩:=w_
     refine nEq (x:=((mid+1:Nat):Int)) (by rw[aA (by omega) (by omega)];omega) ?_
     exact⟨(mid+1,b,limit-1,_,ap,L,μ7),⟨by dsimp only;omega,hb,by dsimp only;omega,by dsimp only;omega,g1.1.trans (q3.trans hs2),g3,hle.trans hle7,fun R h1 h2=>hfin R (g4 R h1 h2).1 (g4 R h1 h2).2⟩,by dsimp only;omega,⟨⟨rfl,rfl,rfl,rfl,rfl,rfl,trivial⟩,trivial,rfl,rfl⟩⟩
    ·refine nEq (x := ((mid + 1 : Nat) : Int)) (by rw [aA (by omega) (by omega)]; omega) ?_
     refine cOw (ih (mid+1) b (limit-1) d4 _ (by omega) (by omega) (by omega) (q3.trans hs2) (by omega) q5) fun v μ7 h' hle7 hap hR=>?_
     obtain⟨rfl,L,g1,g2,rfl⟩:=hR
     have w_:=q7 L g1 g2
     obtain⟨g3,g4⟩:=w_
     exact⟨(a,mid,limit-1,_,ap,L,μ7),⟨by dsimp only;omega,by dsimp only;omega,by dsimp only;omega,by dsimp only;omega,g1.1.trans (q3.trans hs2),g3,hle.trans hle7,fun R h1 h2=>hfin R (g4 R h1 h2).1 (g4 R h1 h2).2⟩,by dsimp only;omega,⟨⟨rfl,rfl,rfl,rfl,rfl,rfl,trivial⟩,trivial,rfl,rfl⟩⟩
  ·refine iIn (fun h => nomatch h) (fun _ => ?_)
   refine ifd (fun ha0=>?_) (fun ha0=>?_)
   ·refine nEq (x := ((a - 1 : Nat) : Int)) (by rw [aA (by omega) (by omega)]; omega) ?_
    refine aK (a-1) (by omega) (by omega) ?_
    refine rdI (by omega) ?_
    refine aK (p) (by omega) (by omega) ?_
    refine rdI (by omega) ?_
    refine cGv (aQ _ _) ?_
    refine iIn (fun hnl=>?_) (fun hnl=>?_)
    ·refine cOw (aV (pivot := p) hs1 (by omega) (by omega) hb hn) fun v μ6 h' hle' hap hR => ?_
     obtain⟨rfl,e1,rfl⟩:=hR
     obtain rfl:=e1.symm
     obtain⟨mid,d4,hx⟩:∃mid d4,partitionEqual ltInt d1 a b (p)=(mid,d4):=⟨_,_,rfl⟩
     rw[hx]
     have q:=round_eq swo_ltInt (partitionEqual_holds ltInt) (by omega) (by omega) (by omega) (by omega) hB (by simpa using hnl) hx
     have qa:=q.1
     exact⟨(mid,b,limit-1,false,wp,d4,_),⟨q.2.1,hb,by dsimp only;omega,by dsimp only;omega,q.2.2.1.trans hs1,q.2.2.2.1,hle,fun R h1 h2=>hfin R (q.2.2.2.2 R h1 h2).1 (q.2.2.2.2 R h1 h2).2⟩,by dsimp only;omega,⟨⟨rfl,rfl,rfl,rfl,rfl,rfl,trivial⟩,trivial,rfl,rfl⟩⟩
    ·refine cOw (aP (pivot := p) hs1 (by omega) (by omega) hb hn) fun v μ6 h' hle' hap hR => ?_
     obtain⟨⟨ap,rfl⟩,e1,rfl⟩:=hR
     obtain rfl:=e1.symm
     obtain⟨mid,ap',d4,hx⟩:∃mid ap' d4,partition ltInt d1 a b (p)=(mid,ap',d4):=⟨_,_,_,rfl⟩
     rw[hx]
     have w_:=round_part swo_ltInt (partition_holds ltInt) (by omega) (by omega) (by omega) hB hx
     obtain⟨q1,q2,q3,q4,q5,q6,q7⟩:=w_
     refine nEq (x:=((mid-a:Nat):Int)) (by rw[aA (by omega) (by omega)];omega) ?_
     refine nEq (x:=((b-mid:Nat):Int)) (by rw[aA (by omega) (by omega)];omega) ?_
     refine aC (by decide) ?_
     refine nEq (x:=(((b-a) / 8:Nat):Int)) (by rw[Int.tdiv_eq_ediv_of_nonneg (by omega),aA (by omega) (by omega)];omega) ?_
     refine ifd (fun hlt=>?_) (fun hlt=>?_)
     ·refine cOw (ih a mid (limit - 1) d4 _ (by omega) (by omega) (by omega) (q3.trans hs1) (by omega) q4) fun v μ7 h' hle7 hap hR => ?_
      obtain⟨rfl,L,g1,g2,rfl⟩:=hR
      have w_:=q6 L g1 g2
      obtain⟨g3,g4⟩:=w_
      refine nEq (x:=((mid+1:Nat):Int)) (by rw[aA (by omega) (by omega)];omega) ?_
      exact⟨(mid+1,b,limit-1,_,ap,L,μ7),⟨by dsimp only;omega,hb,by dsimp only;omega,by dsimp only;omega,g1.1.trans (q3.trans hs1),g3,hle.trans hle7,fun R h1 h2=>hfin R (g4 R h1 h2).1 (g4 R h1 h2).2⟩,by dsimp only;omega,⟨⟨rfl,rfl,rfl,rfl,rfl,rfl,trivial⟩,trivial,rfl,rfl⟩⟩
     ·refine nEq (x := ((mid + 1 : Nat) : Int)) (by rw [aA (by omega) (by omega)]; omega) ?_
      refine cOw (ih (mid+1) b (limit-1) d4 _ (by omega) (by omega) (by omega) (q3.trans hs1) (by omega) q5) fun v μ7 h' hle7 hap hR=>?_
      obtain⟨rfl,L,g1,g2,rfl⟩:=hR
      have w_:=q7 L g1 g2
      obtain⟨g3,g4⟩:=w_
      exact⟨(a,mid,limit-1,_,ap,L,μ7),⟨by dsimp only;omega,by dsimp only;omega,by dsimp only;omega,by dsimp only;omega,g1.1.trans (q3.trans hs1),g3,hle.trans hle7,fun R h1 h2=>hfin R (g4 R h1 h2).1 (g4 R h1 h2).2⟩,by dsimp only;omega,⟨⟨rfl,rfl,rfl,rfl,rfl,rfl,trivial⟩,trivial,rfl,rfl⟩⟩
   ·refine cOw (aP (pivot := p) hs1 (by omega) (by omega) hb hn) fun v μ6 h' hle' hap hR => ?_
    obtain⟨⟨ap,rfl⟩,e1,rfl⟩:=hR
    obtain rfl:=e1.symm
    obtain⟨mid,ap',d4,hx⟩:∃mid ap' d4,partition ltInt d1 a b (p)=(mid,ap',d4):=⟨_,_,_,rfl⟩
    rw[hx]
    have w_:=round_part swo_ltInt (partition_holds ltInt) (by omega) (by omega) (by omega) hB hx
    obtain⟨q1,q2,q3,q4,q5,q6,q7⟩:=w_
    refine nEq (x:=((mid-a:Nat):Int)) (by rw[aA (by omega) (by omega)];omega) ?_
    refine nEq (x:=((b-mid:Nat):Int)) (by rw[aA (by omega) (by omega)];omega) ?_
    refine aC (by decide) ?_
    refine nEq (x:=(((b-a) / 8:Nat):Int)) (by rw[Int.tdiv_eq_ediv_of_nonneg (by omega),aA (by omega) (by omega)];omega) ?_
    refine ifd (fun hlt=>?_) (fun hlt=>?_)
    ·refine cOw (ih a mid (limit - 1) d4 _ (by omega) (by omega) (by omega) (q3.trans hs1) (by omega) q4) fun v μ7 h' hle7 hap hR => ?_
     obtain⟨rfl,L,g1,g2,rfl⟩:=hR
     have w_:=q6 L g1 g2
     obtain⟨g3,g4⟩:=w_
     refine nEq (x:=((mid+1:Nat):Int)) (by rw[aA (by omega) (by omega)];omega) ?_
     exact⟨(mid+1,b,limit-1,_,ap,L,μ7),⟨by dsimp only;omega,hb,by dsimp only;omega,by dsimp only;omega,g1.1.trans (q3.trans hs1),g3,hle.trans hle7,fun R h1 h2=>hfin R (g4 R h1 h2).1 (g4 R h1 h2).2⟩,by dsimp only;omega,⟨⟨rfl,rfl,rfl,rfl,rfl,rfl,trivial⟩,trivial,rfl,rfl⟩⟩
    ·refine nEq (x := ((mid + 1 : Nat) : Int)) (by rw [aA (by omega) (by omega)]; omega) ?_
     refine cOw (ih (mid+1) b (limit-1) d4 _ (by omega) (by omega) (by omega) (q3.trans hs1) (by omega) q5) fun v μ7 h' hle7 hap hR=>?_
     obtain⟨rfl,L,g1,g2,rfl⟩:=hR
     have w_:=q7 L g1 g2
     obtain⟨g3,g4⟩:=w_
     exact⟨(a,mid,limit-1,_,ap,L,μ7),⟨by dsimp only;omega,by dsimp only;omega,by dsimp only;omega,by dsimp only;omega,g1.1.trans (q3.trans hs1),g3,hle.trans hle7,fun R h1 h2=>hfin R (g4 R h1 h2).1 (g4 R h1 h2).2⟩,by dsimp only;omega,⟨⟨rfl,rfl,rfl,rfl,rfl,rfl,trivial⟩,trivial,rfl,rfl⟩⟩
 |true=>
  refine iIn (fun h=>nomatch h) (fun _=>?_)
  have hs1:=hs
  refine cOw (fS hr hs1 (by omega) hb hn) fun v μ3 h' hle' hap hR=>?_
  obtain⟨p,k,hp1,hp2,hk,rfl,rfl⟩:=hR
  replace hle:=hle.trans hle'
  clear hle' hap
  refine ifd (fun hk2=>?_) (fun hk2=>?_)
  ·refine cOw (fK hs1 (by omega) hab hb hn) fun v μ4 h' hle' hap hR => ?_
   obtain⟨rfl,e1,rfl⟩:=hR
   obtain rfl:=e1.symm
   clear hle' hap
   have p2:=reverseRange_holds d a b hab (by omega)
   generalize reverseRange d a b=d2 at*
   replace hB:=hB.perm (by omega) p2
   replace hfin:=fun R h1 h2=>hfin R (permIn_trans _ _ _ _ _ p2 h1) h2
   have hs2:d2.size=n:=p2.1.trans hs1
   clear p2
   refine nEq (x:=((b-1:Nat):Int)) (by rw[aA (by omega) (by omega)];omega) ?_
   refine nEq (x:=((p-a:Nat):Int)) (by rw[aA (by omega) (by omega)];omega) ?_
   refine nEq (x:=(((b-1)-(p-a):Nat):Int)) (by rw[aA (by omega) (by omega)];omega) ?_
   refine iIn (fun _=>?_) (fun h=>nomatch h)
   refine iIn (fun hwp=>?_) (fun hwp=>?_)
   ·refine ifd (fun _ => ?_) (fun h => absurd rfl h)
    refine cOw (cP hs2 (by omega) hb hn) fun v μ5 h' hle' hap hR=>?_
    obtain⟨rfl,e1,rfl⟩:=hR
    obtain rfl:=e1.symm
    clear hle' hap
    have q:=partialInsertionSort_holds (lt:=ltInt) swo_ltInt d2 a b (by omega) (by omega) hB
    refine iIn (fun hok=>?_) (fun hok=>?_)
    ·exact rPl ⟨rfl,_,(hfin _ q.1 (q.2 hok)).1,(hfin _ q.1 (q.2 hok)).2,rfl⟩
    ·have q1 := q.1
     clear q hok
     generalize (partialInsertionSort ltInt d2 a b).1=d3 at*
     replace hB:=hB.perm (by omega) q1
     replace hfin:=fun R h1 h2=>hfin R (permIn_trans _ _ _ _ _ q1 h1) h2
     have hs3:d3.size=n:=q1.1.trans hs2
     clear q1
     refine ifd (fun ha0=>?_) (fun ha0=>?_)
     ·refine nEq (x := ((a - 1 : Nat) : Int)) (by rw [aA (by omega) (by omega)]; omega) ?_
      refine aK (a-1) (by omega) (by omega) ?_
      refine rdI (by omega) ?_
      refine aK ((b-1)-(p-a)) (by omega) (by omega) ?_
      refine rdI (by omega) ?_
      refine cGv (aQ _ _) ?_
      refine iIn (fun hnl=>?_) (fun hnl=>?_)
      ·refine cOw (aV (pivot := (b - 1) - (p - a)) hs3 (by omega) (by omega) hb hn) fun v μ6 h' hle' hap hR => ?_
       obtain⟨rfl,e1,rfl⟩:=hR
       obtain rfl:=e1.symm
       obtain⟨mid,d4,hx⟩:∃mid d4,partitionEqual ltInt d3 a b ((b-1)-(p-a))=(mid,d4):=⟨_,_,rfl⟩
       rw[hx]
       have q:=round_eq swo_ltInt (partitionEqual_holds ltInt) (by omega) (by omega) (by omega) (by omega) hB (by simpa using hnl) hx
       have qa:=q.1
       exact⟨(mid,b,limit,true,wp,d4,_),⟨q.2.1,hb,by dsimp only;omega,by dsimp only;omega,q.2.2.1.trans hs3,q.2.2.2.1,hle,fun R h1 h2=>hfin R (q.2.2.2.2 R h1 h2).1 (q.2.2.2.2 R h1 h2).2⟩,by dsimp only;omega,⟨⟨rfl,rfl,rfl,rfl,rfl,rfl,trivial⟩,trivial,rfl,rfl⟩⟩
      ·refine cOw (aP (pivot := (b - 1) - (p - a)) hs3 (by omega) (by omega) hb hn) fun v μ6 h' hle' hap hR => ?_
       obtain⟨⟨ap,rfl⟩,e1,rfl⟩:=hR
       obtain rfl:=e1.symm
       obtain⟨mid,ap',d4,hx⟩:∃mid ap' d4,partition ltInt d3 a b ((b-1)-(p-a))=(mid,ap',d4):=⟨_,_,_,rfl⟩
       rw[hx]
       have w_:=round_part swo_ltInt (partition_holds ltInt) (by omega) (by omega) (by omega) hB hx
       obtain⟨q1,q2,q3,q4,q5,q6,q7⟩:=w_
       refine nEq (x:=((mid-a:Nat):Int)) (by rw[aA (by omega) (by omega)];omega) ?_
       refine nEq (x:=((b-mid:Nat):Int)) (by rw[aA (by omega) (by omega)];omega) ?_
       refine aC (by decide) ?_
       refine nEq (x:=(((b-a) / 8:Nat):Int)) (by rw[Int.tdiv_eq_ediv_of_nonneg (by omega),aA (by omega) (by omega)];omega) ?_
       refine ifd (fun hlt=>?_) (fun hlt=>?_)
       ·refine cOw (ih a mid (limit) d4 _ (by omega) (by omega) (by omega) (q3.trans hs3) (by omega) q4) fun v μ7 h' hle7 hap hR => ?_
        obtain⟨rfl,L,g1,g2,rfl⟩:=hR
        have w_:=q6 L g1 g2
        obtain⟨g3,g4⟩:=w_
        refine nEq (x:=((mid+1:Nat):Int)) (by rw[aA (by omega) (by omega)];omega) ?_
        exact⟨(mid+1,b,limit,_,ap,L,μ7),⟨by dsimp only;omega,hb,by dsimp only;omega,by dsimp only;omega,g1.1.trans (q3.trans hs3),g3,hle.trans hle7,fun R h1 h2=>hfin R (g4 R h1 h2).1 (g4 R h1 h2).2⟩,by dsimp only;omega,⟨⟨rfl,rfl,rfl,rfl,rfl,rfl,trivial⟩,trivial,rfl,rfl⟩⟩
       ·refine nEq (x := ((mid + 1 : Nat) : Int)) (by rw [aA (by omega) (by omega)]; omega) ?_
        refine cOw (ih (mid+1) b (limit) d4 _ (by omega) (by omega) (by omega) (q3.trans hs3) (by omega) q5) fun v μ7 h' hle7 hap hR=>?_
        obtain⟨rfl,L,g1,g2,rfl⟩:=hR
        have w_:=q7 L g1 g2
        obtain⟨g3,g4⟩:=w_
        exact⟨(a,mid,limit,_,ap,L,μ7),⟨by dsimp only;omega,by dsimp only;omega,by dsimp only;omega,by dsimp only;omega,g1.1.trans (q3.trans hs3),g3,hle.trans hle7,fun R h1 h2=>hfin R (g4 R h1 h2).1 (g4 R h1 h2).2⟩,by dsimp only;omega,⟨⟨rfl,rfl,rfl,rfl,rfl,rfl,trivial⟩,trivial,rfl,rfl⟩⟩
     ·refine cOw (aP (pivot := (b - 1) - (p - a)) hs3 (by omega) (by omega) hb hn) fun v μ6 h' hle' hap hR => ?_
      obtain⟨⟨ap,rfl⟩,e1,rfl⟩:=hR
      obtain rfl:=e1.symm
      obtain⟨mid,ap',d4,hx⟩:∃mid ap' d4,partition ltInt d3 a b ((b-1)-(p-a))=(mid,ap',d4):=⟨_,_,_,rfl⟩
      rw[hx]
      have w_:=round_part swo_ltInt (partition_holds ltInt) (by omega) (by omega) (by omega) hB hx
      obtain⟨q1,q2,q3,q4,q5,q6,q7⟩:=w_
      refine nEq (x:=((mid-a:Nat):Int)) (by rw[aA (by omega) (by omega)];omega) ?_
      refine nEq (x:=((b-mid:Nat):Int)) (by rw[aA (by omega) (by omega)];omega) ?_
      refine aC (by decide) ?_
      refine nEq (x:=(((b-a) / 8:Nat):Int)) (by rw[Int.tdiv_eq_ediv_of_nonneg (by omega),aA (by omega) (by omega)];omega) ?_
      refine ifd (fun hlt=>?_) (fun hlt=>?_)
      ·refine cOw (ih a mid (limit) d4 _ (by omega) (by omega) (by omega) (q3.trans hs3) (by omega) q4) fun v μ7 h' hle7 hap hR => ?_
       obtain⟨rfl,L,g1,g2,rfl⟩:=hR
       have w_:=q6 L g1 g2
       obtain⟨g3,g4⟩:=w_
       refine nEq (x:=((mid+1:Nat):Int)) (by rw[aA (by omega) (by omega)];omega) ?_
       exact⟨(mid+1,b,limit,_,ap,L,μ7),⟨by dsimp only;omega,hb,by dsimp only;omega,by dsimp only;omega,g1.1.trans (q3.trans hs3),g3,hle.trans hle7,fun R h1 h2=>hfin R (g4 R h1 h2).1 (g4 R h1 h2).2⟩,by dsimp only;omega,⟨⟨rfl,rfl,rfl,rfl,rfl,rfl,trivial⟩,trivial,rfl,rfl⟩⟩
      ·refine nEq (x := ((mid + 1 : Nat) : Int)) (by rw [aA (by omega) (by omega)]; omega) ?_
       refine cOw (ih (mid+1) b (limit) d4 _ (by omega) (by omega) (by omega) (q3.trans hs3) (by omega) q5) fun v μ7 h' hle7 hap hR=>?_
       obtain⟨rfl,L,g1,g2,rfl⟩:=hR
       have w_:=q7 L g1 g2
       obtain⟨g3,g4⟩:=w_
       exact⟨(a,mid,limit,_,ap,L,μ7),⟨by dsimp only;omega,by dsimp only;omega,by dsimp only;omega,by dsimp only;omega,g1.1.trans (q3.trans hs3),g3,hle.trans hle7,fun R h1 h2=>hfin R (g4 R h1 h2).1 (g4 R h1 h2).2⟩,by dsimp only;omega,⟨⟨rfl,rfl,rfl,rfl,rfl,rfl,trivial⟩,trivial,rfl,rfl⟩⟩
   ·refine ifd (fun ha0 => ?_) (fun ha0 => ?_)
    ·refine nEq (x := ((a - 1 : Nat) : Int)) (by rw [aA (by omega) (by omega)]; omega) ?_
     refine aK (a-1) (by omega) (by omega) ?_
     refine rdI (by omega) ?_
     refine aK ((b-1)-(p-a)) (by omega) (by omega) ?_
     refine rdI (by omega) ?_
     refine cGv (aQ _ _) ?_
     refine iIn (fun hnl=>?_) (fun hnl=>?_)
     ·refine cOw (aV (pivot := (b - 1) - (p - a)) hs2 (by omega) (by omega) hb hn) fun v μ6 h' hle' hap hR => ?_
      obtain⟨rfl,e1,rfl⟩:=hR
      obtain rfl:=e1.symm
      obtain⟨mid,d4,hx⟩:∃mid d4,partitionEqual ltInt d2 a b ((b-1)-(p-a))=(mid,d4):=⟨_,_,rfl⟩
      rw[hx]
      have q:=round_eq swo_ltInt (partitionEqual_holds ltInt) (by omega) (by omega) (by omega) (by omega) hB (by simpa using hnl) hx
      have qa:=q.1
      exact⟨(mid,b,limit,true,wp,d4,_),⟨q.2.1,hb,by dsimp only;omega,by dsimp only;omega,q.2.2.1.trans hs2,q.2.2.2.1,hle,fun R h1 h2=>hfin R (q.2.2.2.2 R h1 h2).1 (q.2.2.2.2 R h1 h2).2⟩,by dsimp only;omega,⟨⟨rfl,rfl,rfl,rfl,rfl,rfl,trivial⟩,trivial,rfl,rfl⟩⟩
     ·refine cOw (aP (pivot := (b - 1) - (p - a)) hs2 (by omega) (by omega) hb hn) fun v μ6 h' hle' hap hR => ?_
      obtain⟨⟨ap,rfl⟩,e1,rfl⟩:=hR
      obtain rfl:=e1.symm
      obtain⟨mid,ap',d4,hx⟩:∃mid ap' d4,partition ltInt d2 a b ((b-1)-(p-a))=(mid,ap',d4):=⟨_,_,_,rfl⟩
      rw[hx]
      have w_:=round_part swo_ltInt (partition_holds ltInt) (by omega) (by omega) (by omega) hB hx
      obtain⟨q1,q2,q3,q4,q5,q6,q7⟩:=w_
      refine nEq (x:=((mid-a:Nat):Int)) (by rw[aA (by omega) (by omega)];omega) ?_
      refine nEq (x:=((b-mid:Nat):Int)) (by rw[aA (by omega) (by omega)];omega) ?_
      refine aC (by decide) ?_
      refine nEq (x:=(((b-a) / 8:Nat):Int)) (by rw[Int.tdiv_eq_ediv_of_nonneg (by omega),aA (by omega) (by omega)];omega) ?_
      refine ifd (fun hlt=>?_) (fun hlt=>?_)
      ·refine cOw (ih a mid (limit) d4 _ (by omega) (by omega) (by omega) (q3.trans hs2) (by omega) q4) fun v μ7 h' hle7 hap hR => ?_
       obtain⟨rfl,L,g1,g2,rfl⟩:=hR
       have w_:=q6 L g1 g2
       obtain⟨g3,g4⟩:=w_
       refine nEq (x:=((mid+1:Nat):Int)) (by rw[aA (by omega) (by omega)];omega) ?_
       exact⟨(mid+1,b,limit,_,ap,L,μ7),⟨by dsimp only;omega,hb,by dsimp only;omega,by dsimp only;omega,g1.1.trans (q3.trans hs2),g3,hle.trans hle7,fun R h1 h2=>hfin R (g4 R h1 h2).1 (g4 R h1 h2).2⟩,by dsimp only;omega,⟨⟨rfl,rfl,rfl,rfl,rfl,rfl,trivial⟩,trivial,rfl,rfl⟩⟩
      ·refine nEq (x := ((mid + 1 : Nat) : Int)) (by rw [aA (by omega) (by omega)]; omega) ?_
       refine cOw (ih (mid+1) b (limit) d4 _ (by omega) (by omega) (by omega) (q3.trans hs2) (by omega) q5) fun v μ7 h' hle7 hap hR=>?_
       obtain⟨rfl,L,g1,g2,rfl⟩:=hR
       have w_:=q7 L g1 g2
       obtain⟨g3,g4⟩:=w_
       exact⟨(a,mid,limit,_,ap,L,μ7),⟨by dsimp only;omega,by dsimp only;omega,by dsimp only;omega,by dsimp only;omega,g1.1.trans (q3.trans hs2),g3,hle.trans hle7,fun R h1 h2=>hfin R (g4 R h1 h2).1 (g4 R h1 h2).2⟩,by dsimp only;omega,⟨⟨rfl,rfl,rfl,rfl,rfl,rfl,trivial⟩,trivial,rfl,rfl⟩⟩
    ·refine cOw (aP (pivot := (b - 1) - (p - a)) hs2 (by omega) (by omega) hb hn) fun v μ6 h' hle' hap hR => ?_
     obtain⟨⟨ap,rfl⟩,e1,rfl⟩:=hR
     obtain rfl:=e1.symm
     obtain⟨mid,ap',d4,hx⟩:∃mid ap' d4,partition ltInt d2 a b ((b-1)-(p-a))=(mid,ap',d4):=⟨_,_,_,rfl⟩
     rw[hx]
     have w_:=round_part swo_ltInt (partition_holds ltInt) (by omega) (by omega) (by omega) hB hx
     obtain⟨q1,q2,q3,q4,q5,q6,q7⟩:=w_
     refine nEq (x:=((mid-a:Nat):Int)) (by rw[aA (by omega) (by omega)];omega) ?_
     refine nEq (x:=((b-mid:Nat):Int)) (by rw[aA (by omega) (by omega)];omega) ?_
     refine aC (by decide) ?_
     refine nEq (x:=(((b-a) / 8:Nat):Int)) (by rw[Int.tdiv_eq_ediv_of_nonneg (by omega),aA (by omega) (by omega)];omega) ?_
     refine ifd (fun hlt=>?_) (fun hlt=>?_)
     ·refine cOw (ih a mid (limit) d4 _ (by omega) (by omega) (by omega) (q3.trans hs2) (by omega) q4) fun v μ7 h' hle7 hap hR => ?_
      obtain⟨rfl,L,g1,g2,rfl⟩:=hR
      have w_:=q6 L g1 g2
      obtain⟨g3,g4⟩:=w_
      refine nEq (x:=((mid+1:Nat):Int)) (by rw[aA (by omega) (by omega)];omega) ?_
      exact⟨(mid+1,b,limit,_,ap,L,μ7),⟨by dsimp only;omega,hb,by dsimp only;omega,by dsimp only;omega,g1.1.trans (q3.trans hs2),g3,hle.trans hle7,fun R h1 h2=>hfin R (g4 R h1 h2).1 (g4 R h1 h2).2⟩,by dsimp only;omega,⟨⟨rfl,rfl,rfl,rfl,rfl,rfl,trivial⟩,trivial,rfl,rfl⟩⟩
     ·refine nEq (x := ((mid + 1 : Nat) : Int)) (by rw [aA (by omega) (by omega)]; omega) ?_
      refine cOw (ih (mid+1) b (limit) d4 _ (by omega) (by omega) (by omega) (q3.trans hs2) (by omega) q5) fun v μ7 h' hle7 hap hR=>?_
      obtain⟨rfl,L,g1,g2,rfl⟩:=hR
      have w_:=q7 L g1 g2
      obtain⟨g3,g4⟩:=w_
      exact⟨(a,mid,limit,_,ap,L,μ7),⟨by dsimp only;omega,by dsimp only;omega,by dsimp only;omega,by dsimp only;omega,g1.1.trans (q3.trans hs2),g3,hle.trans hle7,fun R h1 h2=>hfin R (g4 R h1 h2).1 (g4 R h1 h2).2⟩,by dsimp only;omega,⟨⟨rfl,rfl,rfl,rfl,rfl,rfl,trivial⟩,trivial,rfl,rfl⟩⟩
  ·refine iIn (fun _ => ?_) (fun h => nomatch h)
   refine iIn (fun hwp=>?_) (fun hwp=>?_)
   ·refine ifd (fun hk1 => ?_) (fun hk1 => ?_)
    ·refine cOw (cP hs1 (by omega) hb hn) fun v μ5 h' hle' hap hR => ?_
     obtain⟨rfl,e1,rfl⟩:=hR
     obtain rfl:=e1.symm
     clear hle' hap
     have q:=partialInsertionSort_holds (lt:=ltInt) swo_ltInt d a b (by omega) (by omega) hB
     refine iIn (fun hok=>?_) (fun hok=>?_)
     ·exact rPl ⟨rfl,_,(hfin _ q.1 (q.2 hok)).1,(hfin _ q.1 (q.2 hok)).2,rfl⟩
     ·have q1 := q.1
      clear q hok
      generalize (partialInsertionSort ltInt d a b).1=d3 at*
      replace hB:=hB.perm (by omega) q1
      replace hfin:=fun R h1 h2=>hfin R (permIn_trans _ _ _ _ _ q1 h1) h2
      have hs3:d3.size=n:=q1.1.trans hs1
      clear q1
      refine ifd (fun ha0=>?_) (fun ha0=>?_)
      ·refine nEq (x := ((a - 1 : Nat) : Int)) (by rw [aA (by omega) (by omega)]; omega) ?_
       refine aK (a-1) (by omega) (by omega) ?_
       refine rdI (by omega) ?_
       refine aK (p) (by omega) (by omega) ?_
       refine rdI (by omega) ?_
       refine cGv (aQ _ _) ?_
       refine iIn (fun hnl=>?_) (fun hnl=>?_)
       ·refine cOw (aV (pivot := p) hs3 (by omega) (by omega) hb hn) fun v μ6 h' hle' hap hR => ?_
        obtain⟨rfl,e1,rfl⟩:=hR
        obtain rfl:=e1.symm
        obtain⟨mid,d4,hx⟩:∃mid d4,partitionEqual ltInt d3 a b (p)=(mid,d4):=⟨_,_,rfl⟩
        rw[hx]
        have q:=round_eq swo_ltInt (partitionEqual_holds ltInt) (by omega) (by omega) (by omega) (by omega) hB (by simpa using hnl) hx
        have qa:=q.1
        exact⟨(mid,b,limit,true,wp,d4,_),⟨q.2.1,hb,by dsimp only;omega,by dsimp only;omega,q.2.2.1.trans hs3,q.2.2.2.1,hle,fun R h1 h2=>hfin R (q.2.2.2.2 R h1 h2).1 (q.2.2.2.2 R h1 h2).2⟩,by dsimp only;omega,⟨⟨rfl,rfl,rfl,rfl,rfl,rfl,trivial⟩,trivial,rfl,rfl⟩⟩
       ·refine cOw (aP (pivot := p) hs3 (by omega) (by omega) hb hn) fun v μ6 h' hle' hap hR => ?_
        obtain⟨⟨ap,rfl⟩,e1,rfl⟩:=hR
        obtain rfl:=e1.symm
        obtain⟨mid,ap',d4,hx⟩:∃mid ap' d4,partition ltInt d3 a b (p)=(mid,ap',d4):=⟨_,_,_,rfl⟩
        rw[hx]
        have w_:=round_part swo_ltInt (partition_holds ltInt) (by omega) (by omega) (by omega) hB hx
        obtain⟨q1,q2,q3,q4,q5,q6,q7⟩:=w_
        refine nEq (x:=((mid-a:Nat):Int)) (by rw[aA (by omega) (by omega)];omega) ?_
        refine nEq (x:=((b-mid:Nat):Int)) (by rw[aA (by omega) (by omega)];omega) ?_
        refine aC (by decide) ?_
        refine nEq (x:=(((b-a) / 8:Nat):Int)) (by rw[Int.tdiv_eq_ediv_of_nonneg (by omega),aA (by omega) (by omega)];omega) ?_
        refine ifd (fun hlt=>?_) (fun hlt=>?_)
        ·refine cOw (ih a mid (limit) d4 _ (by omega) (by omega) (by omega) (q3.trans hs3) (by omega) q4) fun v μ7 h' hle7 hap hR => ?_
         obtain⟨rfl,L,g1,g2,rfl⟩:=hR
         have w_:=q6 L g1 g2
         obtain⟨g3,g4⟩:=w_
         refine nEq (x:=((mid+1:Nat):Int)) (by rw[aA (by omega) (by omega)];omega) ?_
         exact⟨(mid+1,b,limit,_,ap,L,μ7),⟨by dsimp only;omega,hb,by dsimp only;omega,by dsimp only;omega,g1.1.trans (q3.trans hs3),g3,hle.trans hle7,fun R h1 h2=>hfin R (g4 R h1 h2).1 (g4 R h1 h2).2⟩,by dsimp only;omega,⟨⟨rfl,rfl,rfl,rfl,rfl,rfl,trivial⟩,trivial,rfl,rfl⟩⟩
        ·refine nEq (x := ((mid + 1 : Nat) : Int)) (by rw [aA (by omega) (by omega)]; omega) ?_
         refine cOw (ih (mid+1) b (limit) d4 _ (by omega) (by omega) (by omega) (q3.trans hs3) (by omega) q5) fun v μ7 h' hle7 hap hR=>?_
         obtain⟨rfl,L,g1,g2,rfl⟩:=hR
         have w_:=q7 L g1 g2
         obtain⟨g3,g4⟩:=w_
         exact⟨(a,mid,limit,_,ap,L,μ7),⟨by dsimp only;omega,by dsimp only;omega,by dsimp only;omega,by dsimp only;omega,g1.1.trans (q3.trans hs3),g3,hle.trans hle7,fun R h1 h2=>hfin R (g4 R h1 h2).1 (g4 R h1 h2).2⟩,by dsimp only;omega,⟨⟨rfl,rfl,rfl,rfl,rfl,rfl,trivial⟩,trivial,rfl,rfl⟩⟩
      ·refine cOw (aP (pivot := p) hs3 (by omega) (by omega) hb hn) fun v μ6 h' hle' hap hR => ?_
       obtain⟨⟨ap,rfl⟩,e1,rfl⟩:=hR
       obtain rfl:=e1.symm
       obtain⟨mid,ap',d4,hx⟩:∃mid ap' d4,partition ltInt d3 a b (p)=(mid,ap',d4):=⟨_,_,_,rfl⟩
       rw[hx]
       have w_:=round_part swo_ltInt (partition_holds ltInt) (by omega) (by omega) (by omega) hB hx
       obtain⟨q1,q2,q3,q4,q5,q6,q7⟩:=w_
       refine nEq (x:=((mid-a:Nat):Int)) (by rw[aA (by omega) (by omega)];omega) ?_
       refine nEq (x:=((b-mid:Nat):Int)) (by rw[aA (by omega) (by omega)];omega) ?_
       refine aC (by decide) ?_
       refine nEq (x:=(((b-a) / 8:Nat):Int)) (by rw[Int.tdiv_eq_ediv_of_nonneg (by omega),aA (by omega) (by omega)];omega) ?_
       refine ifd (fun hlt=>?_) (fun hlt=>?_)
       ·refine cOw (ih a mid (limit) d4 _ (by omega) (by omega) (by omega) (q3.trans hs3) (by omega) q4) fun v μ7 h' hle7 hap hR => ?_
        obtain⟨rfl,L,g1,g2,rfl⟩:=hR
        have w_:=q6 L g1 g2
        obtain⟨g3,g4⟩:=w_
        refine nEq (x:=((mid+1:Nat):Int)) (by rw[aA (by omega) (by omega)];omega) ?_
        exact⟨(mid+1,b,limit,_,ap,L,μ7),⟨by dsimp only;omega,hb,by dsimp only;omega,by dsimp only;omega,g1.1.trans (q3.trans hs3),g3,hle.trans hle7,fun R h1 h2=>hfin R (g4 R h1 h2).1 (g4 R h1 h2).2⟩,by dsimp only;omega,⟨⟨rfl,rfl,rfl,rfl,rfl,rfl,trivial⟩,trivial,rfl,rfl⟩⟩
       ·refine nEq (x := ((mid + 1 : Nat) : Int)) (by rw [aA (by omega) (by omega)]; omega) ?_
        refine cOw (ih (mid+1) b (limit) d4 _ (by omega) (by omega) (by omega) (q3.trans hs3) (by omega) q5) fun v μ7 h' hle7 hap hR=>?_
        obtain⟨rfl,L,g1,g2,rfl⟩:=hR
        have w_:=q7 L g1 g2
        obtain⟨g3,g4⟩:=w_
        exact⟨(a,mid,limit,_,ap,L,μ7),⟨by dsimp only;omega,by dsimp only;omega,by dsimp only;omega,by dsimp only;omega,g1.1.trans (q3.trans hs3),g3,hle.trans hle7,fun R h1 h2=>hfin R (g4 R h1 h2).1 (g4 R h1 h2).2⟩,by dsimp only;omega,⟨⟨rfl,rfl,rfl,rfl,rfl,rfl,trivial⟩,trivial,rfl,rfl⟩⟩
    ·refine ifd (fun ha0 => ?_) (fun ha0 => ?_)
     ·refine nEq (x := ((a - 1 : Nat) : Int)) (by rw [aA (by omega) (by omega)]; omega) ?_
      refine aK (a-1) (by omega) (by omega) ?_
      refine rdI (by omega) ?_
      refine aK (p) (by omega) (by omega) ?_
      refine rdI (by omega) ?_
      refine cGv (aQ _ _) ?_
      refine iIn (fun hnl=>?_) (fun hnl=>?_)
      ·refine cOw (aV (pivot := p) hs1 (by omega) (by omega) hb hn) fun v μ6 h' hle' hap hR => ?_
       obtain⟨rfl,e1,rfl⟩:=hR
       obtain rfl:=e1.symm
       obtain⟨mid,d4,hx⟩:∃mid d4,partitionEqual ltInt d a b (p)=(mid,d4):=⟨_,_,rfl⟩
       rw[hx]
       have q:=round_eq swo_ltInt (partitionEqual_holds ltInt) (by omega) (by omega) (by omega) (by omega) hB (by simpa using hnl) hx
       have qa:=q.1
       exact⟨(mid,b,limit,true,wp,d4,_),⟨q.2.1,hb,by dsimp only;omega,by dsimp only;omega,q.2.2.1.trans hs1,q.2.2.2.1,hle,fun R h1 h2=>hfin R (q.2.2.2.2 R h1 h2).1 (q.2.2.2.2 R h1 h2).2⟩,by dsimp only;omega,⟨⟨rfl,rfl,rfl,rfl,rfl,rfl,trivial⟩,trivial,rfl,rfl⟩⟩
      ·refine cOw (aP (pivot := p) hs1 (by omega) (by omega) hb hn) fun v μ6 h' hle' hap hR => ?_
       obtain⟨⟨ap,rfl⟩,e1,rfl⟩:=hR
       obtain rfl:=e1.symm
       obtain⟨mid,ap',d4,hx⟩:∃mid ap' d4,partition ltInt d a b (p)=(mid,ap',d4):=⟨_,_,_,rfl⟩
       rw[hx]
       have w_:=round_part swo_ltInt (partition_holds ltInt) (by omega) (by omega) (by omega) hB hx
       obtain⟨q1,q2,q3,q4,q5,q6,q7⟩:=w_
       refine nEq (x:=((mid-a:Nat):Int)) (by rw[aA (by omega) (by omega)];omega) ?_
       refine nEq (x:=((b-mid:Nat):Int)) (by rw[aA (by omega) (by omega)];omega) ?_
       refine aC (by decide) ?_
       refine nEq (x:=(((b-a) / 8:Nat):Int)) (by rw[Int.tdiv_eq_ediv_of_nonneg (by omega),aA (by omega) (by omega)];omega) ?_
       refine ifd (fun hlt=>?_) (fun hlt=>?_)
       ·refine cOw (ih a mid (limit) d4 _ (by omega) (by omega) (by omega) (q3.trans hs1) (by omega) q4) fun v μ7 h' hle7 hap hR => ?_
        obtain⟨rfl,L,g1,g2,rfl⟩:=hR
        have w_:=q6 L g1 g2
        obtain⟨g3,g4⟩:=w_
        refine nEq (x:=((mid+1:Nat):Int)) (by rw[aA (by omega) (by omega)];omega) ?_
        exact⟨(mid+1,b,limit,_,ap,L,μ7),⟨by dsimp only;omega,hb,by dsimp only;omega,by dsimp only;omega,g1.1.trans (q3.trans hs1),g3,hle.trans hle7,fun R h1 h2=>hfin R (g4 R h1 h2).1 (g4 R h1 h2).2⟩,by dsimp only;omega,⟨⟨rfl,rfl,rfl,rfl,rfl,rfl,trivial⟩,trivial,rfl,rfl⟩⟩
       ·refine nEq (x := ((mid + 1 : Nat) : Int)) (by rw [aA (by omega) (by omega)]; omega) ?_
        refine cOw (ih (mid+1) b (limit) d4 _ (by omega) (by omega) (by omega) (q3.trans hs1) (by omega) q5) fun v μ7 h' hle7 hap hR=>?_
        obtain⟨rfl,L,g1,g2,rfl⟩:=hR
        have w_:=q7 L g1 g2
        obtain⟨g3,g4⟩:=w_
        exact⟨(a,mid,limit,_,ap,L,μ7),⟨by dsimp only;omega,by dsimp only;omega,by dsimp only;omega,by dsimp only;omega,g1.1.trans (q3.trans hs1),g3,hle.trans hle7,fun R h1 h2=>hfin R (g4 R h1 h2).1 (g4 R h1 h2).2⟩,by dsimp only;omega,⟨⟨rfl,rfl,rfl,rfl,rfl,rfl,trivial⟩,trivial,rfl,rfl⟩⟩
     ·refine cOw (aP (pivot := p) hs1 (by omega) (by omega) hb hn) fun v μ6 h' hle' hap hR => ?_
      obtain⟨⟨ap,rfl⟩,e1,rfl⟩:=hR
      obtain rfl:=e1.symm
      obtain⟨mid,ap',d4,hx⟩:∃mid ap' d4,partition ltInt d a b (p)=(mid,ap',d4):=⟨_,_,_,rfl⟩
      rw[hx]
      have w_:=round_part swo_ltInt (partition_holds ltInt) (by omega) (by omega) (by omega) hB hx
      obtain⟨q1,q2,q3,q4,q5,q6,q7⟩:=w_
      refine nEq (x:=((mid-a:Nat):Int)) (by rw[aA (by omega) (by omega)];omega) ?_
      refine nEq (x:=((b-mid:Nat):Int)) (by rw[aA (by omega) (by omega)];omega) ?_
      refine aC (by decide) ?_
      refine nEq (x:=(((b-a) / 8:Nat):Int)) (by rw[Int.tdiv_eq_ediv_of_nonneg (by omega),aA (by omega) (by omega)];omega) ?_
      refine ifd (fun hlt=>?_) (fun hlt=>?_)
      ·refine cOw (ih a mid (limit) d4 _ (by omega) (by omega) (by omega) (q3.trans hs1) (by omega) q4) fun v μ7 h' hle7 hap hR => ?_
       obtain⟨rfl,L,g1,g2,rfl⟩:=hR
       have w_:=q6 L g1 g2
       obtain⟨g3,g4⟩:=w_
       refine nEq (x:=((mid+1:Nat):Int)) (by rw[aA (by omega) (by omega)];omega) ?_
       exact⟨(mid+1,b,limit,_,ap,L,μ7),⟨by dsimp only;omega,hb,by dsimp only;omega,by dsimp only;omega,g1.1.trans (q3.trans hs1),g3,hle.trans hle7,fun R h1 h2=>hfin R (g4 R h1 h2).1 (g4 R h1 h2).2⟩,by dsimp only;omega,⟨⟨rfl,rfl,rfl,rfl,rfl,rfl,trivial⟩,trivial,rfl,rfl⟩⟩
      ·refine nEq (x := ((mid + 1 : Nat) : Int)) (by rw [aA (by omega) (by omega)]; omega) ?_
       refine cOw (ih (mid+1) b (limit) d4 _ (by omega) (by omega) (by omega) (q3.trans hs1) (by omega) q5) fun v μ7 h' hle7 hap hR=>?_
       obtain⟨rfl,L,g1,g2,rfl⟩:=hR
       have w_:=q7 L g1 g2
       obtain⟨g3,g4⟩:=w_
       exact⟨(a,mid,limit,_,ap,L,μ7),⟨by dsimp only;omega,by dsimp only;omega,by dsimp only;omega,by dsimp only;omega,g1.1.trans (q3.trans hs1),g3,hle.trans hle7,fun R h1 h2=>hfin R (g4 R h1 h2).1 (g4 R h1 h2).2⟩,by dsimp only;omega,⟨⟨rfl,rfl,rfl,rfl,rfl,rfl,trivial⟩,trivial,rfl,rfl⟩⟩
   ·refine ifd (fun ha0 => ?_) (fun ha0 => ?_)
    ·refine nEq (x := ((a - 1 : Nat) : Int)) (by rw [aA (by omega) (by omega)]; omega) ?_
     refine aK (a-1) (by omega) (by omega) ?_
     refine rdI (by omega) ?_
     refine aK (p) (by omega) (by omega) ?_
     refine rdI (by omega) ?_
     refine cGv (aQ _ _) ?_
     refine iIn (fun hnl=>?_) (fun hnl=>?_)
     ·refine cOw (aV (pivot := p) hs1 (by omega) (by omega) hb hn) fun v μ6 h' hle' hap hR => ?_
      obtain⟨rfl,e1,rfl⟩:=hR
      obtain rfl:=e1.symm
      obtain⟨mid,d4,hx⟩:∃mid d4,partitionEqual ltInt d a b (p)=(mid,d4):=⟨_,_,rfl⟩
      rw[hx]
      have q:=round_eq swo_ltInt (partitionEqual_holds ltInt) (by omega) (by omega) (by omega) (by omega) hB (by simpa using hnl) hx
      have qa:=q.1
      exact⟨(mid,b,limit,true,wp,d4,_),⟨q.2.1,hb,by dsimp only;omega,by dsimp only;omega,q.2.2.1.trans hs1,q.2.2.2.1,hle,fun R h1 h2=>hfin R (q.2.2.2.2 R h1 h2).1 (q.2.2.2.2 R h1 h2).2⟩,by dsimp only;omega,⟨⟨rfl,rfl,rfl,rfl,rfl,rfl,trivial⟩,trivial,rfl,rfl⟩⟩
     ·refine cOw (aP (pivot := p) hs1 (by omega) (by omega) hb hn) fun v μ6 h' hle' hap hR => ?_
      obtain⟨⟨ap,rfl⟩,e1,rfl⟩:=hR
      obtain rfl:=e1.symm
      obtain⟨mid,ap',d4,hx⟩:∃mid ap' d4,partition ltInt d a b (p)=(mid,ap',d4):=⟨_,_,_,rfl⟩
      rw[hx]
      have w_:=round_part swo_ltInt (partition_holds ltInt) (by omega) (by omega) (by omega) hB hx
      obtain⟨q1,q2,q3,q4,q5,q6,q7⟩:=w_
      refine nEq (x:=((mid-a:Nat):Int)) (by rw[aA (by omega) (by omega)];omega) ?_
      refine nEq (x:=((b-mid:Nat):Int)) (by rw[aA (by omega) (by omega)];omega) ?_
      refine aC (by decide) ?_
      refine nEq (x:=(((b-a) / 8:Nat):Int)) (by rw[Int.tdiv_eq_ediv_of_nonneg (by omega),aA (by omega) (by omega)];omega) ?_
      refine ifd (fun hlt=>?_) (fun hlt=>?_)
      ·refine cOw (ih a mid (limit) d4 _ (by omega) (by omega) (by omega) (q3.trans hs1) (by omega) q4) fun v μ7 h' hle7 hap hR => ?_
       obtain⟨rfl,L,g1,g2,rfl⟩:=hR
       have w_:=q6 L g1 g2
       obtain⟨g3,g4⟩:=w_
       refine nEq (x:=((mid+1:Nat):Int)) (by rw[aA (by omega) (by omega)];omega) ?_
       exact⟨(mid+1,b,limit,_,ap,L,μ7),⟨by dsimp only;omega,hb,by dsimp only;omega,by dsimp only;omega,g1.1.trans (q3.trans hs1),g3,hle.trans hle7,fun R h1 h2=>hfin R (g4 R h1 h2).1 (g4 R h1 h2).2⟩,by dsimp only;omega,⟨⟨rfl,rfl,rfl,rfl,rfl,rfl,trivial⟩,trivial,rfl,rfl⟩⟩
      ·refine nEq (x := ((mid + 1 : Nat) : Int)) (by rw [aA (by omega) (by omega)]; omega) ?_
       refine cOw (ih (mid+1) b (limit) d4 _ (by omega) (by omega) (by omega) (q3.trans hs1) (by omega) q5) fun v μ7 h' hle7 hap hR=>?_
       obtain⟨rfl,L,g1,g2,rfl⟩:=hR
       have w_:=q7 L g1 g2
       obtain⟨g3,g4⟩:=w_
       exact⟨(a,mid,limit,_,ap,L,μ7),⟨by dsimp only;omega,by dsimp only;omega,by dsimp only;omega,by dsimp only;omega,g1.1.trans (q3.trans hs1),g3,hle.trans hle7,fun R h1 h2=>hfin R (g4 R h1 h2).1 (g4 R h1 h2).2⟩,by dsimp only;omega,⟨⟨rfl,rfl,rfl,rfl,rfl,rfl,trivial⟩,trivial,rfl,rfl⟩⟩
    ·refine cOw (aP (pivot := p) hs1 (by omega) (by omega) hb hn) fun v μ6 h' hle' hap hR => ?_
     obtain⟨⟨ap,rfl⟩,e1,rfl⟩:=hR
     obtain rfl:=e1.symm
     obtain⟨mid,ap',d4,hx⟩:∃mid ap' d4,partition ltInt d a b (p)=(mid,ap',d4):=⟨_,_,_,rfl⟩
     rw[hx]
     have w_:=round_part swo_ltInt (partition_holds ltInt) (by omega) (by omega) (by omega) hB hx
     obtain⟨q1,q2,q3,q4,q5,q6,q7⟩:=w_
     refine nEq (x:=((mid-a:Nat):Int)) (by rw[aA (by omega) (by omega)];omega) ?_
     refine nEq (x:=((b-mid:Nat):Int)) (by rw[aA (by omega) (by omega)];omega) ?_
     refine aC (by decide) ?_
     refine nEq (x:=(((b-a) / 8:Nat):Int)) (by rw[Int.tdiv_eq_ediv_of_nonneg (by omega),aA (by omega) (by omega)];omega) ?_
     refine ifd (fun hlt=>?_) (fun hlt=>?_)
     ·refine cOw (ih a mid (limit) d4 _ (by omega) (by omega) (by omega) (q3.trans hs1) (by omega) q4) fun v μ7 h' hle7 hap hR => ?_
      obtain⟨rfl,L,g1,g2,rfl⟩:=hR
      have w_:=q6 L g1 g2
      obtain⟨g3,g4⟩:=w_
      refine nEq (x:=((mid+1:Nat):Int)) (by rw[aA (by omega) (by omega)];omega) ?_
      exact⟨(mid+1,b,limit,_,ap,L,μ7),⟨by dsimp only;omega,hb,by dsimp only;omega,by dsimp only;omega,g1.1.trans (q3.trans hs1),g3,hle.trans hle7,fun R h1 h2=>hfin R (g4 R h1 h2).1 (g4 R h1 h2).2⟩,by dsimp only;omega,⟨⟨rfl,rfl,rfl,rfl,rfl,rfl,trivial⟩,trivial,rfl,rfl⟩⟩
     ·refine nEq (x := ((mid + 1 : Nat) : Int)) (by rw [aA (by omega) (by omega)]; omega) ?_
      refine cOw (ih (mid+1) b (limit) d4 _ (by omega) (by omega) (by omega) (q3.trans hs1) (by omega) q5) fun v μ7 h' hle7 hap hR=>?_
      obtain⟨rfl,L,g1,g2,rfl⟩:=hR
      have w_:=q7 L g1 g2
      obtain⟨g3,g4⟩:=w_
      exact⟨(a,mid,limit,_,ap,L,μ7),⟨by dsimp only;omega,by dsimp only;omega,by dsimp only;omega,by dsimp only;omega,g1.1.trans (q3.trans hs1),g3,hle.trans hle7,fun R h1 h2=>hfin R (g4 R h1 h2).1 (g4 R h1 h2).2⟩,by dsimp only;omega,⟨⟨rfl,rfl,rfl,rfl,rfl,rfl,trivial⟩,trivial,rfl,rfl⟩⟩
end
end Go.Vx
namespace Go.Vx
open Go.Proofs Classical
open Go.Sort
section
variable {h0 μ:Mem} {r:Nat} {ty:TypeId} {rest:List Value}
theorem yD{n cap:Nat}{d:Array Int}(hr:h0 r=none)(hd:d.size=n)(hn:n≤1000000000000):
  SpecH Tryz.prog 267 [.slice (some ⟨r,0,none⟩) n cap] μ (aR h0 r ty rest d) fun v _μ' h'=>v= .tuple #[]∧h'=aR h0 r ty rest (d.toList.mergeSort fun x y=>decide (x≤y)).toArray:=by
 refine SpecH.mk [] Tryz.func267 (by kernel_rfl) ?_
 refine nEq (x:=(n:Int)) (by
  show(n:Int) % 18446744073709551616=_
  omega) ?_
 refine cGv (sP (by omega)) ?_
 have hL:bitsLen n≤40:=(bitsLen_le_iff n 40).2 (by omega)
 refine cOw (rK hr hn (n+1) 0 n (bitsLen n) d μ (by omega) (by omega) (Nat.le_refl _) hd (by omega) (.inl rfl)) fun v μ' h' hle hap hR=>?_
 obtain⟨rfl,d',p1,p2,rfl⟩:=hR
 have e:=sorted_unique_holds (lt:=ltInt) swo_ltInt (fun x y h1 h2=>by
  simp only[ltInt,decide_eq_false_iff_not]at h1 h2
  omega) d d' (by rw[hd];exact p1) (by rw[hd];exact p2)
 have e2:(fun x y=> !ltInt y x)=fun x y:Int=>decide (x≤y):=by
  funext x y
  simp only[ltInt]
  by_cases h:x≤y
  ·rw[decide_eq_true h,decide_eq_false (by omega)];rfl
  ·rw[decide_eq_false h,decide_eq_true (by omega)];rfl
 rw[e2]at e
 refine rPl ⟨rfl,?_⟩
 rw[←e]
theorem yA{n cap:Nat}{d:Array Int}(hr:h0 r=none)(hd:d.size=n)(hn:n≤1000000000000):
  SpecH Tryz.prog 264 [.slice (some ⟨r,0,none⟩) n cap] μ (aR h0 r ty rest d) fun v _μ' h'=>v= .tuple #[]∧h'=aR h0 r ty rest (d.toList.mergeSort fun x y=>decide (x≤y)).toArray:=by
 refine SpecH.mk [] Tryz.func264 (by kernel_rfl) ?_
 refine cOw (yD hr hd hn) fun v μ' h' hle hap hR=>?_
 obtain⟨rfl,rfl⟩:=hR
 exact rPl ⟨rfl,rfl⟩
end
end Go.Vx
namespace Go.Vx
open Go.Proofs Classical
open Go.Sort
theorem qA{l:List (Value×Value)}(h:MapOk mK l):∃ks:List Int,l.map Prod.fst=aF ks∧ks.Nodup:=by
 have h1:∀(l:List (Value×Value)),(∀p∈l,mK p.1)→∃ks:List Int,l.map Prod.fst=aF ks:=fun l=>by
  induction l with
  |nil=>intro _;exact⟨[],rfl⟩
  |cons p l ih=>
   intro h
   have w_:=ih fun q hq=>h q (by simp[hq])
   obtain⟨ks,hks⟩:=w_
   have w_:=h p (by simp)
   obtain⟨n,hn⟩:=w_
   exact⟨n::ks,by rw[List.map_cons,hks,hn];rfl⟩
 have w_:=h1 l h.keys
 obtain⟨ks,hks⟩:=w_
 refine⟨ks,hks,?_⟩
 have hn:=h.nodup
 rw[hks,aF]at hn
 exact List.Pairwise.of_map (S:=fun a b=>a≠b) _ (fun a b hab e=>hab (by rw[e])) hn
theorem qJ{l:List (Value×Value)}{ks:List Int}(h:l.map Prod.fst=aF ks)(n:Int):(gD l (.int .i64 n)).isSome↔n∈ks:=by
 have e:n∈ks↔Value.int .i64 n∈l.map Prod.fst:=by
  rw[h,aF,List.mem_map]
  exact⟨fun k=>⟨n,k,rfl⟩,fun⟨m,k,e⟩=>by cases e;exact k⟩
 rw[e]
 clear e h
 induction l with
 |nil=>simp[gD]
 |cons p l ih=>
  obtain⟨a,v⟩:=p
  rw[gD]
  by_cases h:a= .int .i64 n
  ·rw[if_pos h];simp[h]
  ·rw [if_neg h]
   refine ih.trans ?_
   simp only[List.map_cons,List.mem_cons]
   exact⟨.inr,fun k=>k.elim (fun e=>absurd e.symm h) id⟩
theorem qM{N:Nat}{l:List Nat}(h:l.Nodup)(hb:∀j∈l,j<N):l.length≤N:=by
 have h1:(l.map fun j:Nat=>(j:Int)).Nodup:=List.Pairwise.map (S:=fun a b=>a≠b) _ (fun a b hab e=>hab (by omega)) h
 have:=nodup_range (N:=N) h1 fun n hn=>by
  have w_:=List.mem_map.1 hn
  obtain⟨j,hj,rfl⟩:=w_
  have:=hb j hj;omega
 rwa [List.length_map]at this
theorem sZ:∀l:List Int,OwnRows 1 (l.map D.i) (aF l) Mem.nil
 |[]=>OwnRows.nil 1
 | n :: l => ⟨by
   have:=(sZ l).own
   exact OwnS.int this,by
   intro x hx
   have w_:=List.mem_map.1 hx
   obtain⟨m,_,rfl⟩:=w_
   rfl,by simp[aF]⟩
theorem qKw(D:List Int)(h:D.Nodup):(D.mergeSort fun x y=>decide (x≤y)).Pairwise (·<·):=by
 have h1:=List.pairwise_mergeSort (le:=fun x y:Int=>decide (x≤y)) (fun a b c h1 h2=>by simp at*;omega) (fun a b=>by simp;omega) D
 have h2:(D.mergeSort fun x y=>decide (x≤y)).Nodup:=((List.mergeSort_perm D _).nodup_iff).2 h
 rw[List.nodup_iff_pairwise_ne]at h2
 exact List.Pairwise.imp (fun⟨a,b⟩=>by simp at a;omega) (h1.and h2)
theorem mJ{ks:List Int}{j:Nat}(h:j<ks.length):ks[j]? =some (ks.getD j 0):=by
 rw[List.getD_eq_getElem?_getD,List.getElem?_eq_getElem h];rfl
theorem qKm{ks:List Int}(hnd:ks.Nodup){seen:List Nat}(hsn:seen.Nodup)(hsl:∀j∈seen,j<ks.length):(seen.map fun j=>ks.getD j 0).Nodup:=by
 rw[List.nodup_iff_pairwise_ne,List.pairwise_map]
 rw[List.nodup_iff_pairwise_ne]at hsn
 refine hsn.imp_of_mem fun {a b} ha hb hab e=>hab ?_
 have h1:=vE hnd (mJ (hsl a ha))
 have h2:=vE hnd (mJ (hsl b hb))
 rw[e]at h1
 omega
theorem wA{ks:List Int}{seen:List Nat}(hsl:∀j∈seen,j<ks.length)(hall:∀j,j<ks.length→j∈seen)(n:Int):n∈(seen.map fun j=>ks.getD j 0)↔n∈ks:=by
 rw[List.mem_map]
 constructor
 ·rintro ⟨j, hj, rfl⟩
  exact List.mem_of_getElem? (mJ (hsl j hj))
 ·intro h
  have w_:=List.mem_iff_getElem?.1 h
  obtain⟨j,hj⟩:=w_
  have hjl:=(List.getElem?_eq_some_iff.1 hj).1
  refine⟨j,hall j hjl,?_⟩
  rw[mJ hjl]at hj
  exact Option.some.inj hj
section
variable {μ h:Mem}
theorem mD{m:Nat}{l:List (Value×Value)}(hm:h m=some (eE l))(hk:MapOk mK l)(hn:l.length≤1000000):
  SpecH Tryz.prog 254 [.map (some m)] μ h fun v μ' h'=>h'=h∧∃xs:List Int,(∀n,n∈xs↔(gD l (.int .i64 n)).isSome)∧xs.Pairwise (·<·)∧Fresh μ μ' (.sl 1 (xs.map D.i)) v:=by
 have w_:=qA hk
 obtain⟨ks,hks,hnd⟩:=w_
 have hkl:ks.length=l.length:=by
  have:=congrArg List.length hks
  simpa[aF]using this.symm
 refine SpecH.mk [] Tryz.func254 (by kernel_rfl) ?_
 intro r5
 refine vT l hm ?_
 intro ri hmi hoi
 have hne:m≠ri:=vU hm hoi
 refine lIn (fun p:List Nat×Option Nat×Nat×List Value=>p.2.1≠none∧p.1.Nodup∧(∀j∈p.1,j<l.length)∧p.2.2.2=aF (p.1.map fun j=>ks.getD j 0))
  (fun(seen,b,c,ys)=>⟨[(3,.row 0 b ys.length c),(7,.val (.pointer (some ⟨ri,0,none⟩)))],[(0,some (.row b c 3 1 ys))],1,μ,h.set ri (fJ m l.length seen l.length)⟩) (fun p=>l.length-p.1.length)
  ([],some r5,0,[]) ⟨by simp,by simp,by simp,rfl⟩ (fun(_,_,_,_)=>⟨rfl,rfl⟩) ⟨⟨rfl,rfl,trivial⟩,⟨rfl,trivial⟩,rfl,rfl⟩ ?_
 rintro⟨seen,b,c,ys⟩ ⟨hb,hsn,hsl,hys⟩
 dsimp only at hb hsn hsl hys
 have hslen:=qM hsn hsl
 refine vW m seen l.length l (Mem.set_at _ _ _) ((Mem.set_ne hne).trans hm) (Nat.le_refl _) (fun hall=>?_) (fun j k v hj hns=>?_)
 rotate_left
 ·have hjl := (List.getElem?_eq_some_iff.1 hj).1
  have hkj:k= .int .i64 (ks.getD j 0):=by
   have h1:(l.map Prod.fst)[j]? =some k:=by simp[hj]
   rw[hks,aF,List.getElem?_map]at h1
   have h2:j<ks.length:=by omega
   rw[List.getElem?_eq_getElem h2]at h1
   simp only[Option.map_some,Option.some.injEq]at h1
   rw[←h1,List.getD_eq_getElem?_getD,List.getElem?_eq_getElem h2];rfl
  subst hkj
  rw[Mem.set_set]
  refine iIn (fun _=>?_) (fun h=>nomatch h)
  refine yL m l.length seen j l _ v (Mem.set_at _ _ _) ((Mem.set_ne hne).trans hm) hj ?_
  intro r6
  have hyl:ys.length=seen.length:=by rw[hys];simp[aF]
  refine gIn ?_ ?_ fun b' c' hb'=>?_
  ·show(ys.length+1)*8≤_;omega
  ·exact Nat.le_trans (m:=100000000) (show ys.length+1≤_ by omega) (by decide)
  have hsl2:∀i∈seen++[j],i<l.length:=fun i hi=>by
   rcases List.mem_append.1 hi with hi|hi
   ·exact hsl i hi
   ·rw[List.mem_singleton]at hi;subst hi;exact hjl
  have hsn2:(seen++[j]).Nodup:=by
   rw[List.nodup_append]
   refine⟨hsn,by simp,fun a ha b hb e=>?_⟩
   rw[List.mem_singleton]at hb
   subst hb;subst e;exact hns ha
  have hs3:=qM hsn2 hsl2
  rw[List.length_append,List.length_singleton]at hs3
  exact⟨(seen++[j],b',c',ys++[.int .i64 (ks.getD j 0)]),⟨by
   dsimp only
   intro e
   have:=hb' e
   simp at this,hsn2,hsl2,by dsimp only;rw[List.map_append,aF,List.map_append,hys];rfl⟩,by dsimp only;rw[List.length_append,List.length_singleton];omega,⟨⟨rfl,rfl,trivial⟩,⟨rfl,trivial⟩,rfl,rfl⟩⟩
 ·refine iIn (fun h => nomatch h) (fun _ => ?_)
  have hp:=qKm hnd hsn (by rw[hkl];exact hsl)
  have hpm:=wA (by rw[hkl];exact hsl) (by rw[hkl];exact hall) (ks:=ks) (seen:=seen)
  have hDs:(seen.map (fun j=>ks.getD j 0)).length=seen.length:=by simp
  generalize seen.map (fun j=>ks.getD j 0)=D at*
  subst hys
  have w_:=Option.ne_none_iff_exists'.1 hb
  obtain⟨b0,rfl⟩:=w_
  have hDl:(aF D).length=D.length:=by simp[aF]
  refine mO [] [0] (fun h=>nomatch h) ?_
  intro h' hmem hgiven
  obtain⟨hb0,hlen,hcap,hone,cs,rfl,hcs,htake⟩:=hgiven
  replace hb0:(Mem.set h ri (fJ m l.length seen l.length)) b0=none:=hb0
  replace hmem:μ b0=none:=hmem b0 rfl
  obtain⟨rest,rfl⟩:∃rest,cs=aF D++rest:=by
   refine⟨cs.drop ((aF D).length*1),?_⟩
   rw[iM]at htake
   conv=>lhs;rw[←List.take_append_drop ((aF D).length*1) cs,htake]
  have hD6:D.length≤1000000000000:=by omega
  refine lC (yA (h0:=h.set ri (fJ m l.length seen l.length)) (r:=b0) (ty:=3) (rest:=rest) (d:=D.toArray) hb0 (by simp[aF]) (by omega)) fun v μ' h'' hle hap hR=>?_
  obtain⟨rfl,rfl⟩:=hR
  have f1:(D.toArray.toList.mergeSort fun x y=>decide (x≤y)).Pairwise (·<·):=qKw D hp
  have f2:∀n,n∈(D.toArray.toList.mergeSort fun x y=>decide (x≤y))↔n∈D:=fun n=>(List.mergeSort_perm D _).mem_iff
  have f3:(D.toArray.toList.mergeSort fun x y=>decide (x≤y)).length=D.length:=(List.mergeSort_perm D _).length_eq
  generalize (D.toArray.toList.mergeSort fun x y=>decide (x≤y))=S at*
  have hbr:b0≠ri:=fun e=>by subst e;rw[Mem.set_at]at hb0;cases hb0
  have hhb:h b0=none:=by rwa [Mem.set_ne hbr]at hb0
  have hb1:μ' b0=none:=by
   cases e:μ' b0 with
   |none=>rfl
   |some o=>have:=hap b0 (by simp[e]);rw[aR,Mem.set_at]at this;cases this
  have hSl:(aF S).length=S.length:=by simp[aF]
  refine cG ((Mem.nil.set ri (fJ m l.length seen l.length)).set b0 (.cells (List.toArray ([]++(S.toArray.toList.map (Value.int .i64)++rest))) 3 (0,0))) h ?_ ⟨rfl,S,fun n=>(f2 n).trans ((hpm n).trans (qJ hks n).symm),f1,?_⟩
  ·show Parts (aR (h.set ri (fJ m l.length seen l.length)) b0 3 rest S.toArray) _ h
   replace hoi:h ri=none:=hoi
   intro x
   by_cases h1:x=b0
   ·subst h1;exact .inl ⟨by rw[aR,Mem.set_at,Mem.set_at],hhb⟩
   ·by_cases h2 : x = ri
    ·subst h2;exact .inl ⟨by rw[aR,Mem.set_ne h1,Mem.set_ne h1,Mem.set_at,Mem.set_at],hoi⟩
    ·exact .inr ⟨by rw[aR,Mem.set_ne h1,Mem.set_ne h2],by rw[Mem.set_ne h1,Mem.set_ne h2];rfl⟩
  ·have F:=Fresh.ofRow (μ:=μ) (μ1:=μ) (μ':=μ'.join ((Mem.nil.set ri (fJ m l.length seen l.length)).set b0 (.cells (List.toArray ([]++(S.toArray.toList.map (Value.int .i64)++rest))) 3 (0,0)))) (b:=some b0) (cap:=c) (sZ S) (fun _ _ h=>nomatch h) (fun _ h=>absurd rfl h) (Mem.Le.refl _) (hle.trans (Mem.le_join _ _)) (fun r e=>by cases e;exact hmem)
    ⟨by omega, fun x hx => by
     have w_:=List.mem_map.1 hx
     obtain⟨n,_,rfl⟩:=w_
     exact⟨rfl,by simp[aD,Value.oneCell']⟩,_,_,by rw[Mem.join_get,hb1,Mem.set_at],by
      simp only[List.length_append,aF,List.length_map]at hcs
      simp[f3];omega,by rw[iM];simp[aF]⟩ (Nat.le_trans (m:=1000000) (by omega) (by decide))
   have e:(aF D).length=(aF S).length:=by omega
   show Fresh μ _ (.sl 1 (S.map Go.Vx.D.i)) (.slice _ (aF D).length c)
   rw[e];exact F
end
end Go.Vx
namespace Go.Vx
open Go.Proofs Classical
theorem mS{α:Type}:∀(l s:List α),l.foldl (fun s n=>s++[n]) s=s++l
 |[],s=>by simp
 |a::l,s=>by rw[List.foldl_cons,mS l];simp
theorem pY{α β:Type}(f:α→List β):∀(l:List α) (s:List β),l.foldl (fun s x=>s++f x) s=s++l.flatMap f
 |[],s=>by simp
 |a::l,s=>by rw[List.foldl_cons,pY f l];simp
section
variable {μ:Mem}
theorem iA{S:Type}(J:S→Mem→Prop)(step:S→Gl→S)(Q:Gl→Prop){k:FuncId}{caps:List Value}
  (hc:∀s h g v,Q g→RepV μ g.d v→J s h→SpecH Tryz.prog k (v::caps) μ h fun r μ' h'=>r= .tuple #[]∧μ'=μ∧J (step s g) h'):
  ∀(g:Gl) {v:Value} (s:S) (h:Mem),RepV μ g.d v→(∀x∈g.all,Q x)→J s h→SpecH Tryz.prog 214 [v,.func (.func k) #[] caps.toArray] μ h fun r μ' h'=>r= .tuple #[]∧μ'=μ∧J (g.all.foldl step s) h':=
 Gl.ind fun g ih v s h hv hq hj=>by
  have w_:=Gl.inv hv
  obtain⟨p,rfl,hts,hgs⟩:=w_
  have hn:=aH hgs.max
  rw[Gl.all_eq]at hq ⊢
  rw[List.foldl_cons]
  refine SpecH.mk [] Tryz.func214 (by kernel_rfl) ?_
  intro r
  refine cOw (hc s h g _ (hq g (by simp)) hv hj) fun v μ' h' hle hap hR=>?_
  obtain⟨rfl,e2,hj'⟩:=hR
  obtain rfl:=e2.symm
  refine lIn (fun p:Nat×Mem=>p.1≤g.goals.length∧J (((g.goals.take p.1).flatMap Gl.all).foldl step (step s g)) p.2)
   (fun(i,h)=>⟨[(1,.val (.func (.func k) #[] caps.toArray)),(10,.val (.slice p.2.1 g.goals.length p.2.2)),(11,.val (.int .i64 g.goals.length)),(12,.val (.int .i64 i))],[],1,μ,h⟩) (fun p=>g.goals.length-p.1)
   (0,h') ⟨by simp,by simpa using hj'⟩ (fun(_,_)=>⟨rfl,rfl⟩) ⟨⟨rfl,rfl,rfl,rfl,trivial⟩,trivial,rfl,rfl⟩ ?_
  rintro⟨i,h1⟩ ⟨hi,hj1⟩
  dsimp only at hi hj1
  refine ifd (fun hlt=>?_) (fun hlt=>?_)
  ·have w_ := aSo (l := g.goals) (i := i) (by omega)
   obtain⟨t,ht⟩:=w_
   have w_:=Gl.elem hgs ht
   obtain⟨ad,p3,hel,hr⟩:=w_
   refine eIn hel ?_
   intro r4
   refine cOw (ih t (mAt ht) _ h1 hr (fun x hx=>hq x (List.mem_cons_of_mem _ (List.mem_flatMap.2 ⟨t,mAt ht,hx⟩))) hj1) fun v μ' h' hle hap hR=>?_
   obtain⟨rfl,e2,hj2⟩:=hR
   obtain rfl:=e2.symm
   refine aB (by omega) (by omega) ⟨(i+1,h'),⟨by dsimp only;omega,?_⟩,by dsimp only;omega,⟨⟨rfl,rfl,rfl,rfl,trivial⟩,trivial,rfl,rfl⟩⟩
   dsimp only
   rw[List.take_add_one,ht,Option.toList_some,List.flatMap_append,List.foldl_append]
   simpa using hj2
  ·obtain rfl : i = g.goals.length := by omega
   rw[List.take_length]at hj1
   exact rPl ⟨rfl,rfl,hj1⟩
def fH(rm:Nat)(s:List Int)(h:Mem):Prop:=∃r l,h rm=some (.cells #[.map (some r)] 247 (0,0))∧h r=some (eE l)∧MapOk mK l∧∀n,(gD l (.int .i64 n)).isSome↔n∈s
theorem lZ{rm:Nat}{s:List Int}{h:Mem}{n:Int}(H:fH rm s h):SpecH Tryz.prog 253 [.int .i64 n,.pointer (some ⟨rm,0,none⟩)] μ h fun r μ' h'=>r= .tuple #[]∧μ'=μ∧fH rm (s++[n]) h':=by
 obtain⟨r,l,h1,h2,hk,hg⟩:=H
 have e1:rm≠r:=yV h1 h2 (by simp[eE])
 refine SpecH.mk [] Tryz.func253 (by kernel_rfl) ?_
 refine oIn [.map (some r)] rfl (bJ h1) ?_
 refine eN l h2 (hk.weaken (by rintro _ ⟨n,rfl⟩;rfl)) rfl ?_
 refine rPl ⟨rfl,rfl,r,_,?_,Mem.set_at _ _ _,hk.int _,fun m=>?_⟩
 ·dsimp only;rw[Mem.set_ne e1];exact h1
 ·rw [fX, List.mem_append, List.mem_singleton]
  by_cases e:m=n
  ·simp[e]
  ·rw[if_neg e,hg];simp[e]
theorem mT{rm:Nat}{s:List Int}{h:Mem}{g:Gl}{v:Value}(hok:∀t∈g.terms,t.Ok)(hv:RepV μ g.d v)(H:fH rm s h):SpecH Tryz.prog 252 [v,.pointer (some ⟨rm,0,none⟩)] μ h fun r μ' h'=>r= .tuple #[]∧μ'=μ∧fH rm (s++g.tvars) h':=by
 have w_:=Gl.inv hv
 obtain⟨p,rfl,hts,hgs⟩:=w_
 have w_:=fD hok
 obtain⟨xs,hxs,hxo⟩:=w_
 have htv:g.tvars=xs.flatMap T.vars:=by
  rw[Gl.tvars,hxs,List.map_map]
  congr 1
  exact(List.map_congr_left fun x _=>T.toT_tm x).trans (List.map_id _)
 rw[htv]
 rw[hxs,List.length_map]at hts ⊢
 have hn:=aH hts.max
 refine SpecH.mk [] Tryz.func252 (by kernel_rfl) ?_
 intro r
 refine lIn (fun p:Nat×Mem=>p.1≤xs.length∧fH rm (s++(xs.take p.1).flatMap T.vars) p.2)
  (fun(i,h)=>⟨[(1,.val (.pointer (some ⟨rm,0,none⟩))),(6,.val (.slice p.1.1 xs.length p.1.2)),(7,.val (.int .i64 xs.length)),(8,.val (.int .i64 i))],[],1,μ,h⟩) (fun p=>xs.length-p.1)
  (0,h) ⟨by simp,by simpa using H⟩ (fun(_,_)=>⟨rfl,rfl⟩) ⟨⟨rfl,rfl,rfl,rfl,trivial⟩,trivial,rfl,rfl⟩ ?_
 rintro⟨i,h1⟩ ⟨hi,hj1⟩
 dsimp only at hi hj1
 refine ifd (fun hlt=>?_) (fun hlt=>?_)
 ·have w_ := aSo (l := xs) (i := i) (by omega)
  obtain⟨x,hx'⟩:=w_
  have w_:=Tm.elem (i:=i) (t:=x.tm) hts (by simp[hx'])
  obtain⟨ad,p3,hel,hto⟩:=w_
  refine eIn hel ?_
  intro r4
  refine cOw (iD (fH rm) (fun s n=>s++[n]) (fun _ _=>True) (fun s h n _ hj=>lZ hj) x _ h1 hto (fun _ _ _ _=>trivial) hj1) fun v μ' h' hle hap hR=>?_
  obtain⟨rfl,e2,hj2⟩:=hR
  obtain rfl:=e2.symm
  rw[mS]at hj2
  refine aB (by omega) (by omega) ⟨(i+1,h'),⟨by dsimp only;omega,?_⟩,by dsimp only;omega,⟨⟨rfl,rfl,rfl,rfl,trivial⟩,trivial,rfl,rfl⟩⟩
  dsimp only
  rw[List.take_add_one,hx',Option.toList_some,List.flatMap_append]
  simpa using hj2
 ·obtain rfl : i = xs.length := by omega
  rw[List.take_length]at hj1
  exact rPl ⟨rfl,rfl,hj1⟩
theorem oV{g:Gl}{v:Value}(hS:g.Sh)(hv:RepV μ g.d v):Spec Tryz.prog 213 [v] μ fun v μ'=>∃xs:List Int,(∀n,n∈xs↔n∈g.vars)∧xs.Pairwise (·<·)∧Fresh μ μ' (.sl 1 (xs.map D.i)) v:=by
 have w_:=Gl.invV hv
 obtain⟨p,rfl⟩:=w_
 refine Spec.mkO [3,4] Tryz.func213 (by kernel_rfl) ?_
 intro r
 intro rM hmM hoM r3 hm3 ho3
 refine sIn [.map none] 247 (Mem.set_at _ _ _) rfl (Nat.le_refl _) ?_
 dsimp only at hmM hoM hm3 ho3
 have n1:rM≠r3:=fun e=>by subst e;simp[Mem.set_get]at ho3
 generalize hh:Mem.set (Mem.set _ r3 _) r3 _=h0
 have H0:fH r3 [] h0:=by
  subst hh
  refine⟨rM,[],?_,?_,MapOk.nil,fun n=>by simp[gD]⟩
  ·rw[Mem.set_at];rfl
  ·dsimp only;rw[Mem.set_ne n1,Mem.set_ne n1,Mem.set_at]
 refine cOw (iA (fH r3) (fun s g=>s++g.tvars) (fun g=>∀t∈g.terms,t.Ok) (fun s h g v hq hv hj=>mT hq hv hj) g [] h0 hv (fun x hx=>(Gl.Sh.all g hS x hx).top.tm) H0) fun v μ' h' hle hap hR=>?_
 obtain⟨rfl,e2,hj⟩:=hR
 obtain rfl:=e2.symm
 rw[pY]at hj
 obtain⟨r,l,h1,h2,hk,hg⟩:=hj
 have hlen:l.length≤1000000:=by
  have w_:=qA hk
  obtain⟨ks,hks,hnd⟩:=w_
  have:=nodup_range (N:=100001) hnd fun n hn=>by
   have h3:=(hg n).1 ((qJ hks n).2 hn)
   have:=Gl.vars_range hS n (by simpa[Gl.vars]using h3)
   omega
  have h4:=congrArg List.length hks
  simp only[aF,List.length_map]at h4
  omega
 refine oIn [.map (some r)] rfl (bJ h1) ?_
 refine cOw (mD h2 hk hlen) fun v μ2 h2' hle2 hap2 hR2=>?_
 obtain⟨rfl,xs,g1,g2,g3⟩:=hR2
 exact rPl ⟨xs,fun n=>(g1 n).trans ((hg n).trans (by simp[Gl.vars])),g2,g3⟩
theorem nX{g:Gl}{v:Value}{n:Int}(hS:g.Sh)(hv:RepV μ g.d v):Spec Tryz.prog 153 [v,.int .i64 n] μ fun r _=>r= .bool (decide (∀m∈g.vars,m<n)):=by
 have w_:=Gl.invV hv
 obtain⟨p,rfl⟩:=w_
 refine Spec.mk Tryz.func153 (by kernel_rfl) ?_
 intro r
 refine cPl (oV hS hv) fun v1 μ1 hle1 hR=>?_
 obtain⟨xs,g1,g2,g3⟩:=hR
 have w_:=Rep.sl g3.rep
 obtain⟨b,c,rfl,hsl⟩:=w_
 rw[List.length_map]at hsl ⊢
 have hn:=aH hsl.max
 refine lIn (fun i:Nat=>i≤xs.length∧∀m∈xs.take i,m<n) (fun i=>⟨[(1,.val (.int .i64 n)),(8,.val (.slice b xs.length c)),(9,.val (.int .i64 xs.length)),(10,.val (.int .i64 i))],[],1,μ1,Mem.nil⟩) (fun i=>xs.length-i)
  0 ⟨by simp,by simp⟩ (fun _=>⟨rfl,rfl⟩) ⟨⟨rfl,rfl,rfl,rfl,trivial⟩,trivial,rfl,rfl⟩ ?_
 rintro i ⟨hi,hall⟩
 refine ifd (fun hlt=>?_) (fun hlt=>?_)
 ·have w_ := aSo (l := xs) (i := i) (by omega)
  obtain⟨x,hx⟩:=w_
  have w_:=Ints.elem hsl hx
  obtain⟨ad,hel⟩:=w_
  refine eIn hel ?_
  refine ifd (fun hge=>rPl (isF fun hh=>?_)) (fun hge=>?_)
  ·have:=hh x ((g1 x).1 (mAt hx));omega
  refine aB (by omega) (by omega) ⟨i+1,⟨by omega,fun y hy=>?_⟩,by omega,⟨⟨rfl,rfl,rfl,rfl,trivial⟩,trivial,rfl,rfl⟩⟩
  rw[List.take_add_one,hx,Option.toList_some,List.mem_append,List.mem_singleton]at hy
  rcases hy with hy|rfl
  ·exact hall y hy
  ·omega
 ·obtain rfl : i = xs.length := by omega
  rw[List.take_length]at hall
  exact rPl (isT fun m hm=>hall m ((g1 m).2 hm))
end
end Go.Vx
namespace Go.Vx
open Go.Proofs Classical
theorem gL{s:ByteArray}:∀{l:List Rl} {i:Nat},0≤dJ l i s→∃(j:Nat) (r:Rl),dJ l i s=((i+j:Nat):Int)∧l[j]? =some r∧r.name=s
 |[],i,h=>by simp[dJ]at h
 |r::l,i,h=>by
  rw[dJ]at h ⊢
  by_cases e:r.name=s
  ·rw[if_pos e];exact⟨0,r,by simp,rfl,e⟩
  ·rw [if_neg e] at h ⊢
   have w_:=gL h
   obtain⟨j,r',h1,h2,h3⟩:=w_
   exact⟨j+1,r',by rw[h1];congr 1;omega,h2,h3⟩
section
variable {μ:Mem}
theorem dA{p:Pg}{s:ByteArray}{v:Value}(hv:RepV μ p.d v):aM Tryz.prog 82 [v,.string s] μ (.int .i64 (relAt p s)):=by
 have w_:=Pg.inv hv
 obtain⟨q,rfl,hsl⟩:=w_
 have hn:=aH hsl.max
 refine Spec.mk Tryz.func82 (by kernel_rfl) ?_
 intro r
 refine lIn (fun i:Nat=>i≤p.rels.length∧dJ (p.rels.drop i) i s=relAt p s) (fun i=>⟨[(1,.val (.string s)),(8,.val (.slice q.1 p.rels.length q.2)),(9,.val (.int .i64 p.rels.length)),(10,.val (.int .i64 i))],[],1,μ,Mem.nil⟩) (fun i=>p.rels.length-i)
  0 ⟨by omega,rfl⟩ (fun _=>⟨rfl,rfl⟩) ⟨⟨rfl,rfl,rfl,rfl,trivial⟩,trivial,rfl,rfl⟩ ?_
 rintro i ⟨hi,hJ⟩
 refine ifd (fun hlt=>?_) (fun hlt=>?_)
 ·have w_ := aSo (l := p.rels) (i := i) (by omega)
  obtain⟨x,hx⟩:=w_
  have w_:=Rl.elem hsl hx
  obtain⟨ad,q2,hel,hr⟩:=w_
  rw[bR hx,dJ]at hJ
  refine eIn hel ?_
  intro r2
  refine ifd (fun e=>?_) (fun e=>?_)
  ·rw [if_pos e] at hJ
   exact rGv (by rw[←hJ]) rfl
  ·rw [if_neg e] at hJ
   exact aB (by omega) (by omega) ⟨i+1,⟨by omega,hJ⟩,by omega,⟨⟨rfl,rfl,rfl,rfl,trivial⟩,trivial,rfl,rfl⟩⟩
 ·obtain rfl : i = p.rels.length := by omega
  rw[List.drop_length]at hJ
  exact rGv (by rw[←hJ];rfl) rfl
theorem dI{p:Pg}{s:ByteArray}{v:Value}(hv:RepV μ p.d v):aM Tryz.prog 92 [v,.string s] μ (.int .i64 (relAt p s)):=by
 have w_:=Pg.inv hv
 obtain⟨q,rfl,hsl⟩:=w_
 have hn:=aH hsl.max
 refine Spec.mk Tryz.func92 (by kernel_rfl) ?_
 intro r
 refine lIn (fun i:Nat=>i≤p.rels.length∧dJ (p.rels.drop i) i s=relAt p s) (fun i=>⟨[(1,.val (.string s)),(8,.val (.slice q.1 p.rels.length q.2)),(9,.val (.int .i64 p.rels.length)),(10,.val (.int .i64 i))],[],1,μ,Mem.nil⟩) (fun i=>p.rels.length-i)
  0 ⟨by omega,rfl⟩ (fun _=>⟨rfl,rfl⟩) ⟨⟨rfl,rfl,rfl,rfl,trivial⟩,trivial,rfl,rfl⟩ ?_
 rintro i ⟨hi,hJ⟩
 refine ifd (fun hlt=>?_) (fun hlt=>?_)
 ·have w_ := aSo (l := p.rels) (i := i) (by omega)
  obtain⟨x,hx⟩:=w_
  have w_:=Rl.elem hsl hx
  obtain⟨ad,q2,hel,hr⟩:=w_
  rw[bR hx,dJ]at hJ
  refine eIn hel ?_
  intro r2
  refine ifd (fun e=>?_) (fun e=>?_)
  ·rw [if_pos e] at hJ
   exact rGv (by rw[←hJ]) rfl
  ·rw [if_neg e] at hJ
   exact aB (by omega) (by omega) ⟨i+1,⟨by omega,hJ⟩,by omega,⟨⟨rfl,rfl,rfl,rfl,trivial⟩,trivial,rfl,rfl⟩⟩
 ·obtain rfl : i = p.rels.length := by omega
  rw[List.drop_length]at hJ
  exact rGv (by rw[←hJ];rfl) rfl
theorem nO{p:Pg}{s:ByteArray}(h:0≤relAt p s):∃(j:Nat) (r:Rl),relAt p s=(j:Int)∧p.rels[j]? =some r:=by
 have w_:=gL h
 obtain⟨j,r,h1,h2,h3⟩:=w_
 exact⟨j,r,by rw[relAt,h1];simp,h2⟩
theorem kG{p:Pg}{g:Gl}(h9:g.kind=9){j:Nat}{r:Rl}(e:relAt p g.name=(j:Int))(hr:p.rels[j]? =some r):cR p g↔r.arity=g.terms.length:=by
 constructor
 ·intro h
  have w_:=h h9
  obtain⟨i,r',h1,h2,h3⟩:=w_
  rw[e]at h1
  obtain rfl:j=i:=by omega
  rw[hr]at h2;cases h2
  exact h3
 ·intro h _
  exact⟨j,r,e,hr,h⟩
theorem kH{p:Pg}{g:Gl}(h9:g.kind=9)(h:¬0≤relAt p g.name):¬cR p g:=fun k=>by
 have w_:=k h9
 obtain⟨i,r',h1,_,_⟩:=w_
 omega
theorem pC{p:Pg}{vp:Value}(hp:RepV μ p.d vp):∀(g:Gl) {v:Value},g.Sh→RepV μ g.d v→aM Tryz.prog 200 [vp,v] μ (.bool (decide (FitAll p g))):=by
 have w_:=Pg.inv hp
 obtain⟨q,rfl,hrl⟩:=w_
 refine Gl.ind fun g ih v hS hv=>?_
 have w_:=Gl.inv hv
 obtain⟨q2,rfl,hts,hgs⟩:=w_
 have hn:=aH hgs.max
 refine Spec.mk Tryz.func200 (by kernel_rfl) ?_
 intro r1 r2
 refine ifd (fun h9=>?_) (fun h9=>?_)
 ·have hg0 : g.goals = [] := List.eq_nil_of_length_eq_zero (hS.top.gl0 (.inr h9))
  have hiff:FitAll p g↔cR p g:=⟨fun h=>h.top,fun h=> .mk h (by rw[hg0];simp)⟩
  refine cGv (dI hp) ?_
  refine ifd (fun h0=>?_) (fun h0=>rGv (isF fun h=>kH h9 h0 h.top) rfl)
  have w_:=nO h0
  obtain⟨j,rl,e,hr⟩:=w_
  have w_:=Rl.elem hrl hr
  obtain⟨ad,q3,hel,hrr⟩:=w_
  rw[e]
  refine eIn hel ?_
  exact rGv (isI ((kG h9 e hr).symm.trans hiff.symm)) rfl
 ·refine lIn (fun i:Nat=>i≤g.goals.length∧∀x∈g.goals.take i,FitAll p x) (fun i=>⟨[(2,.loc 0 r1 0),(30,.val (.slice q2.2.1 g.goals.length q2.2.2)),(31,.val (.int .i64 g.goals.length)),(32,.val (.int .i64 i))],[(0,some (.cells r1 [.val (.slice q.1 p.rels.length q.2)] 25))],2,μ,Mem.nil⟩) (fun i=>g.goals.length-i)
   0 ⟨by omega,by simp⟩ (fun _=>⟨rfl,rfl⟩) ⟨⟨rfl,rfl,rfl,rfl,trivial⟩,⟨rfl,trivial⟩,rfl,rfl⟩ ?_
  rintro i ⟨hi,hall⟩
  refine ifd (fun hlt=>?_) (fun hlt=>?_)
  ·have w_ := aSo (l := g.goals) (i := i) (by omega)
   obtain⟨t,ht⟩:=w_
   have w_:=Gl.elem hgs ht
   obtain⟨ad,q3,hel,hr⟩:=w_
   refine eIn hel ?_
   intro r3
   refine cGv (ih t (mAt ht) (hS.sub t (mAt ht)) hr) ?_
   refine aL (fun h=>rGv (isF fun S=>h (S.sub t (mAt ht))) rfl) (fun h=>?_)
   refine aB (by omega) (by omega) ⟨i+1,⟨by omega,fun x hx=>?_⟩,by omega,⟨⟨rfl,rfl,rfl,rfl,trivial⟩,⟨rfl,trivial⟩,rfl,rfl⟩⟩
   rw[List.take_add_one,ht,Option.toList_some,List.mem_append,List.mem_singleton]at hx
   rcases hx with hx|rfl
   ·exact hall x hx
   ·exact h
  ·obtain rfl : i = g.goals.length := by omega
   rw[List.take_length]at hall
   exact rGv (isT (.mk (fun h=>absurd h h9) hall)) rfl
end
end Go.Vx
namespace Go.Vx
open Go.Proofs Classical
theorem pX{α:Type}(f:α→Prop):∀(l:List α) (b:Bool),l.foldl (fun b x=>b&&decide (f x)) b=(b&&decide (∀x∈l,f x))
 |[],b=>by simp
 |a::l,b=>by
  rw[List.foldl_cons,pX f l,Bool.and_assoc]
  congr 1
  by_cases h:f a
  ·simp[h]
  ·simp[h]
section
variable {μ:Mem}
theorem mP{p:Pg}{q:Pg.P}{rp rf:Nat}{b:Bool}{h:Mem}{g:Gl}{v:Value}(hp:RepV μ p.d (.agg #[.slice q.1 p.rels.length q.2]))(hrl:Sl μ 7 q.1 p.rels.length (p.rels.map Rl.d))(hat:μ rp=some (.cells #[.slice q.1 p.rels.length q.2] 25 (0,0)))
  (hv:RepV μ g.d v) (hf:h rf=some (.cells #[.bool b] 4 (0,0))):
  SpecH Tryz.prog 215 [v,.pointer (some ⟨rp,0,none⟩),.pointer (some ⟨rf,0,none⟩)] μ h fun r μ' h'=>r= .tuple #[]∧μ'=μ∧h' rf=some (.cells #[.bool (b&&decide (cR p g))] 4 (0,0)):=by
 have w_:=Gl.inv hv
 obtain⟨q2,rfl,hts,hgs⟩:=w_
 refine SpecH.mk [] Tryz.func215 (by kernel_rfl) ?_
 intro r
 refine ifd (fun h9=>?_) (fun h9=>?_)
 rotate_left
 ·have : cR p g := fun k => absurd k h9
  exact rPl ⟨rfl,rfl,by rw[decide_eq_true this,Bool.and_true];exact hf⟩
 refine bN [.slice q.1 p.rels.length q.2] rfl (bJ hat) ?_
 refine cGv (dA hp) ?_
 refine ifd (fun h0=>?_) (fun h0=>?_)
 ·have : ¬ cR p g := kH h9 (by omega)
  refine sIn [.bool b] 4 hf rfl (Nat.le_refl _) ?_
  exact rPl ⟨rfl,rfl,by rw[decide_eq_false this,Bool.and_false];exact Mem.set_at _ _ _⟩
 ·have w_ := nO (Int.not_lt.1 h0)
  obtain⟨j,rl,e,hr⟩:=w_
  have w_:=Rl.elem hrl hr
  obtain⟨ad,q3,hel,hrr⟩:=w_
  have hiff:=kG h9 e hr
  refine bN [.slice q.1 p.rels.length q.2] rfl (fun j v hj=>by show μ.cell (((⟨rp,0,none⟩:Addr).add 0).add j)=some v;rw[add_add,Nat.zero_add];exact bJ hat j v hj) ?_
  rw[e]
  refine eIn hel ?_
  refine aL (fun hne=>?_) (fun heq=>?_)
  ·have : ¬ cR p g := fun k => hne (hiff.1 k)
   refine sIn [.bool b] 4 hf rfl (Nat.le_refl _) ?_
   exact rPl ⟨rfl,rfl,by rw[decide_eq_false this,Bool.and_false];exact Mem.set_at _ _ _⟩
  ·have : cR p g := hiff.2 heq
   exact rPl ⟨rfl,rfl,by rw[decide_eq_true this,Bool.and_true];exact hf⟩
theorem oR{p:Pg}{vp v:Value}{g:Gl}(hp:RepV μ p.d vp)(hv:RepV μ g.d v):Spec Tryz.prog 154 [vp,v] μ fun r _=>r= .bool (decide (FitAll p g)):=by
 have w_:=Pg.inv hp
 obtain⟨q,rfl,hrl⟩:=w_
 have w_:=Gl.invV hv
 obtain⟨q2,rfl⟩:=w_
 refine Spec.mkO [5] Tryz.func154 (by kernel_rfl) ?_
 intro r1 r2
 intro rf hmf hof
 refine sIn [.bool false] 4 (Mem.set_at _ _ _) rfl (Nat.le_refl _) ?_
 generalize hh:Mem.set (Mem.set _ rf _) rf _=h0
 have hf0:h0 rf=some (.cells #[.bool true] 4 (0,0)):=by subst hh;rw[Mem.set_at];rfl
 refine mO [0] [] (fun _=>rfl) ?_
 intro μ1 hle1 hno1 hat1
 refine lC (iA (fun b h=>h rf=some (.cells #[.bool b] 4 (0,0))) (fun b x=>b&&decide (cR p x)) (fun _=>True) (fun b h x w _ hw hj=>mP (hp.mono hle1) (hrl.mono hle1) hat1 hw hj) g true h0 (hv.mono hle1) (fun _ _=>trivial) hf0) fun v μ2 h' hle hap hR=>?_
 obtain⟨rfl,e2,hj⟩:=hR
 obtain rfl:=e2.symm
 rw[pX,Bool.true_and]at hj
 refine oIn [.bool _] rfl (bJ hj) ?_
 exact rPl (isI ⟨fun h=>FitAll.of h,fun h=>h.all⟩)
end
end Go.Vx
namespace Go.Vx
open Go.Proofs Classical
section
variable {μ:Mem}
theorem dO{p:Pg}{v:Value}(hp:RepV μ p.d v):Spec Tryz.prog 80 [v] μ fun r _=>r= .bool (decide p.Ok):=by
 have w_:=Pg.inv hp
 obtain⟨q,rfl,hrl⟩:=w_
 refine Spec.mk Tryz.func80 (by kernel_rfl) ?_
 intro r1
 refine ifd (fun h8=>rPl (isF fun h=>by have:=h.1;omega)) (fun h8=>?_)
 refine lIn (fun x:Nat×Mem=>x.1≤p.rels.length∧μ.Le x.2∧∀(j:Nat) (r:Rl),j<x.1→p.rels[j]? =some r→RelOk p j r)
  (fun(i,μ')=>⟨[(1,.loc 0 r1 0),(10,.val (.slice q.1 p.rels.length q.2)),(11,.val (.int .i64 p.rels.length)),(12,.val (.int .i64 i))],[(0,some (.cells r1 [.val (.slice q.1 p.rels.length q.2)] 25))],1,μ',Mem.nil⟩) (fun x=>p.rels.length-x.1)
  (0,μ) ⟨by simp,Mem.Le.refl _,fun j r hj=>by simp at hj⟩ (fun(_,_)=>⟨rfl,rfl⟩) ⟨⟨rfl,rfl,rfl,rfl,trivial⟩,⟨rfl,trivial⟩,rfl,rfl⟩ ?_
 rintro⟨i,μ'⟩ ⟨hi,hle,hall⟩
 dsimp only at hi hle hall
 refine ifd (fun hlt=>?_) (fun hlt=>?_)
 ·have w_ := aSo (l := p.rels) (i := i) (by omega)
  obtain⟨x,hx⟩:=w_
  have w_:=Rl.elemA (hrl.mono hle) hx
  obtain⟨ad,q2,hel,hr,hb⟩:=w_
  have hb:RepV μ' x.body.d (.agg (x.body.cs q2).toArray):=hb
  have bad:¬RelOk p i x→Value.bool false= .bool (decide p.Ok):=fun h=>isF fun k=>h (k.2 i x hx)
  refine eIn hel ?_
  intro r2
  refine cGv (eB _ _) ?_
  refine aL (fun h=>rPl (bad fun k=>h k.name)) (fun g1=>?_)
  refine cGv (dA (hp.mono hle)) ?_
  refine aL (fun h=>rPl (bad fun k=>h k.at_)) (fun g2=>?_)
  refine ifd (fun h=>rPl (bad fun k=>by have:=k.ar0;omega)) (fun g3=>?_)
  refine ifd (fun h=>rPl (bad fun k=>by have:=k.ar4;omega)) (fun g4=>?_)
  refine ifd (fun h=>rPl (bad fun k=>by have:=k.lo0;omega)) (fun g5=>?_)
  refine ifd (fun h=>rPl (bad fun k=>by have:=k.lo8;omega)) (fun g6=>?_)
  refine cGv (jS x.body hb (by decide) (by decide)) ?_
  refine ifd (fun h=>rPl (bad fun k=>Gl.nodes_lt h ⟨k.body,by have:=k.size;omega⟩)) (fun h=>?_)
  have w_:=Gl.nodes_ge h
  obtain⟨g7,g8,_⟩:=w_
  refine aB (by omega) (by omega) ?_
  refine cPl (nX g7 hb) fun v1 μ1 hle1 hR=>?_
  obtain rfl:=hR
  refine aL (fun h=>rPl (bad fun k=>h k.vars)) (fun g9=>?_)
  refine cPl (oR ((hp.mono hle).mono hle1) (hb.mono hle1)) fun v2 μ2 hle2 hR=>?_
  obtain rfl:=hR
  refine aL (fun h=>rPl (bad fun k=>h k.calls)) (fun g10=>?_)
  have hok:RelOk p i x:=⟨g2,g1,by omega,by omega,by omega,by omega,g7,by omega,g9,g10⟩
  refine aB (by omega) (by omega) ⟨(i+1,μ2),⟨by dsimp only;omega,(hle.trans hle1).trans hle2,fun j r hj hr=>?_⟩,by dsimp only;omega,⟨⟨rfl,rfl,rfl,rfl,trivial⟩,⟨rfl,trivial⟩,rfl,rfl⟩⟩
  rcases Nat.lt_or_ge j i with h6|h6
  ·exact hall j r h6 hr
  ·obtain rfl : j = i := by omega
   rw[hx]at hr;cases hr;exact hok
 ·obtain rfl : i = p.rels.length := by omega
  exact rPl (isT ⟨by omega,fun j r hr=>hall j r (List.getElem?_eq_some_iff.1 hr).1 hr⟩)
noncomputable def Gl.count(g:Gl):Int:=if g.Ok then g.cnt else 0
theorem jV(g:Gl){v:Value}(hv:RepV μ g.d v)(hw:g.d.wd):aM Tryz.prog 140 [v] μ (.int .i64 g.count):=by
 have w_:=Gl.invV hv
 obtain⟨p,rfl⟩:=w_
 refine Spec.mk Tryz.func140 (by kernel_rfl) ?_
 intro r
 refine cGv (cW g hv hw) ?_
 refine aL (fun h=>rGv (by rw[Gl.count,if_neg h]) rfl) (fun h=>?_)
 refine cGv (jF g hv (by decide) (by decide)) ?_
 refine rGv ?_ rfl
 congr 1
 have:=h.2
 have:=g.cnt_pos
 rw[Gl.count,if_pos h,bP]
 omega
end
end Go.Vx
namespace Go.Vx
open Go.Proofs Classical
theorem gJ{l:List Int}{n:Int}{k:Nat}(hs:l.Pairwise (·<·))(h1:∀y∈l.take k,y<n)(h2:∀y∈l.drop k,n<y):(aT l n k).Pairwise (·<·):=by
 unfold aT
 rw[List.pairwise_append]
 refine⟨hs.sublist (List.take_sublist _ _),?_,?_⟩
 ·rw [List.singleton_append, List.pairwise_cons]
  exact⟨h2,hs.sublist (List.drop_sublist _ _)⟩
 ·intro a ha b hb
  rcases List.mem_append.1 hb with hb|hb
  ·rw[List.mem_singleton]at hb;subst hb;exact h1 a ha
  ·have:=h1 a ha;have:=h2 b hb;omega
theorem take_lt{l:List Int}(hs:l.Pairwise (·<·)){k:Nat}{n:Int}(h:k=0∨∃x,l[k-1]? =some x∧x<n):∀y∈l.take k,y<n:=fun y hy=>by
 have w_:=List.mem_iff_getElem?.1 hy
 obtain⟨i,hi⟩:=w_
 rw[List.getElem?_take]at hi
 split at hi
 ·rename_i hik
  rcases h with rfl|⟨x,hx,hxn⟩
  ·omega
  ·rcases Nat.lt_or_ge i (k - 1) with h1 | h1
   ·have:=qAi hs h1 hi hx;omega
   ·obtain rfl : i = k - 1 := by omega
    rw[hx]at hi;cases hi;exact hxn
 ·cases hi
theorem drop_gt{l:List Int}(hs:l.Pairwise (·<·)){k:Nat}{n:Int}(h:∀(j:Nat) y,k≤j→l[j]? =some y→n≤y)(hne:∀y,l[k]? =some y→y≠n):∀y∈l.drop k,n<y:=fun y hy=>by
 have w_:=List.mem_iff_getElem?.1 hy
 obtain⟨i,hi⟩:=w_
 rw[List.getElem?_drop]at hi
 have h1:=h (k+i) y (by omega) hi
 rcases Nat.eq_zero_or_pos i with rfl|h2
 ·have := hne y (by simpa using hi)
  omega
 ·have hk : k < l.length := by have := (List.getElem?_eq_some_iff.1 hi).1; omega
  have hkk:l[k]? =some l[k]:=List.getElem?_eq_getElem hk
  have h3:=h k _ (Nat.le_refl _) hkk
  have:=qAi hs (by omega:k<k+i) hkk hi
  omega
section
variable {μ:Mem}
theorem mA{l:List Int}{v:Value}{n:Int}(hv:RepV μ (.sl 1 (l.map D.i)) v)(hb:l.length≤1000000000)(hs:l.Pairwise (·<·)):Spec Tryz.prog 248 [v,.int .i64 n] μ fun v μ'=>∃r:List Int,RepV μ' (.sl 1 (r.map D.i)) v∧(∀x,x∈r↔x=n∨x∈l)∧r.Pairwise (·<·):=by
 have w_:=Rep.sl hv
 obtain⟨base,cap,rfl,hsl⟩:=w_
 have hcap:=Rep.lens hv
 rw[List.length_map]at hsl hcap hv ⊢
 refine Spec.mk Tryz.func248 (by kernel_rfl) ?_
 refine lIn (fun k:Nat=>k≤l.length∧∀(j:Nat) y,k≤j→l[j]? =some y→n≤y) (fun k=>⟨[(0,.val (.slice base l.length cap)),(1,.val (.int .i64 n)),(5,.val (.int .i64 k))],[],0,μ,Mem.nil⟩) (fun k=>k)
  l.length ⟨Nat.le_refl _,fun j y hj hy=>absurd (List.getElem?_eq_some_iff.1 hy).1 (by omega)⟩ (fun i=>⟨rfl,rfl⟩) ⟨⟨rfl,rfl,rfl,trivial⟩,trivial,rfl,rfl⟩ ?_
 rintro k ⟨hk,hge⟩
 refine ifd (fun h1=>?_) (fun h1=>?_)
 ·have w_ := aSo (l := l) (i := k - 1) (by omega)
  obtain⟨x,hx⟩:=w_
  have w_:=Ints.elem hsl hx
  obtain⟨ad,hel⟩:=w_
  refine nEq (x:=((k-1:Nat):Int)) (by rw[aA (by omega) (by omega)];omega) ?_
  refine eIn hel ?_
  refine ifd (fun h2=>?_) (fun h2=>?_)
  ·refine nEq (x := ((k - 1 : Nat) : Int)) (by rw [aA (by omega) (by omega)]; omega) ⟨k - 1, ⟨by omega, fun j y hj hy => ?_⟩, by omega, ⟨⟨rfl, rfl, rfl, trivial⟩, trivial, rfl, rfl⟩⟩
   rcases Nat.lt_or_ge j k with h3|h3
   ·obtain rfl : j = k - 1 := by omega
    rw[hx]at hy;cases hy;exact h2
   ·exact hge j y h3 hy
  ·have htk := take_lt hs (k := k) (n := n) (.inr ⟨x, hx, by omega⟩)
   refine ifd (fun h3=>?_) (fun h3=>?_)
   ·have w_ := aSo (l := l) (i := k) (by omega)
    obtain⟨y,hy⟩:=w_
    have w_:=Ints.elem hsl hy
    obtain⟨ad2,hel2⟩:=w_
    refine eIn hel2 ?_
    refine ifd (fun h4=>rPl ⟨l,hv,fun x=>⟨.inr,fun hx=>hx.elim (fun e=>by rw[e,←h4];exact mAt hy) id⟩,hs⟩) (fun h4=>?_)
    have hgt:=drop_gt hs hge (fun z hz=>by rw[hy]at hz;cases hz;exact h4)
    intro r0
    refine aG 0 k rfl rfl (by omega) (by omega) ?_
    refine aJ _ (Ints.src hsl (a:=0) (b:=k) (by omega) hk hcap) ?_
    refine gIn ?_ ?_ fun b1 c1 _=>?_
    ·show(0+(aF _).length)*8≤_;simp[aF];omega
    ·show 0+(aF _).length≤9223372036854775807;simp[aF];omega
    intro r1
    refine gIn ?_ ?_ fun b2 c2 _=>?_
    ·show(([]++aF _).length+1)*8≤_;simp[aF];omega
    ·show([]++aF _).length+1≤9223372036854775807;simp[aF];omega
    refine aG k l.length rfl rfl hk (by omega) ?_
    refine aJ _ (Ints.src hsl (a:=k) (b:=l.length) hk (Nat.le_refl _) hcap) ?_
    refine gIn ?_ ?_ fun b3 c3 _=>?_
    ·show(([]++aF _++[_]).length+(aF _).length)*8≤_;simp[aF];omega
    ·show([]++aF _++[_]).length+(aF _).length≤9223372036854775807;simp[aF];omega
    refine rFz [0] fun μ' hle hno hrow=> .inl ⟨aT l n k,?_,dB l n k,gJ hs htk hgt⟩
    have e:[]++aF ((l.drop 0).take (k-0))++[.int .i64 n]++aF ((l.drop k).take (l.length-k))=aF (aT l n k):=by
     simp[aF,aT]
     rw[List.take_of_length_le (by simp)]
    rw[e]at hrow ⊢
    exact Ints.sl hrow (Nat.le_trans (m:=2000000000) (by simp[aT];omega) (by decide))
   ·have hgt := drop_gt hs hge (fun z hz => by have := (List.getElem?_eq_some_iff.1 hz).1; omega)
    intro r0
    refine aG 0 k rfl rfl (by omega) (by omega) ?_
    refine aJ _ (Ints.src hsl (a:=0) (b:=k) (by omega) hk hcap) ?_
    refine gIn ?_ ?_ fun b1 c1 _=>?_
    ·show(0+(aF _).length)*8≤_;simp[aF];omega
    ·show 0+(aF _).length≤9223372036854775807;simp[aF];omega
    intro r1
    refine gIn ?_ ?_ fun b2 c2 _=>?_
    ·show(([]++aF _).length+1)*8≤_;simp[aF];omega
    ·show([]++aF _).length+1≤9223372036854775807;simp[aF];omega
    refine aG k l.length rfl rfl hk (by omega) ?_
    refine aJ _ (Ints.src hsl (a:=k) (b:=l.length) hk (Nat.le_refl _) hcap) ?_
    refine gIn ?_ ?_ fun b3 c3 _=>?_
    ·show(([]++aF _++[_]).length+(aF _).length)*8≤_;simp[aF];omega
    ·show([]++aF _++[_]).length+(aF _).length≤9223372036854775807;simp[aF];omega
    refine rFz [0] fun μ' hle hno hrow=> .inl ⟨aT l n k,?_,dB l n k,gJ hs htk hgt⟩
    have e:[]++aF ((l.drop 0).take (k-0))++[.int .i64 n]++aF ((l.drop k).take (l.length-k))=aF (aT l n k):=by
     simp[aF,aT]
     rw[List.take_of_length_le (by simp)]
    rw[e]at hrow ⊢
    exact Ints.sl hrow (Nat.le_trans (m:=2000000000) (by simp[aT];omega) (by decide))
 ·have htk := take_lt hs (k := k) (n := n) (.inl (by omega))
  refine ifd (fun h3=>?_) (fun h3=>?_)
  ·have w_ := aSo (l := l) (i := k) (by omega)
   obtain⟨y,hy⟩:=w_
   have w_:=Ints.elem hsl hy
   obtain⟨ad2,hel2⟩:=w_
   refine eIn hel2 ?_
   refine ifd (fun h4=>rPl ⟨l,hv,fun x=>⟨.inr,fun hx=>hx.elim (fun e=>by rw[e,←h4];exact mAt hy) id⟩,hs⟩) (fun h4=>?_)
   have hgt:=drop_gt hs hge (fun z hz=>by rw[hy]at hz;cases hz;exact h4)
   intro r0
   refine aG 0 k rfl rfl (by omega) (by omega) ?_
   refine aJ _ (Ints.src hsl (a:=0) (b:=k) (by omega) hk hcap) ?_
   refine gIn ?_ ?_ fun b1 c1 _=>?_
   ·show(0+(aF _).length)*8≤_;simp[aF];omega
   ·show 0+(aF _).length≤9223372036854775807;simp[aF];omega
   intro r1
   refine gIn ?_ ?_ fun b2 c2 _=>?_
   ·show(([]++aF _).length+1)*8≤_;simp[aF];omega
   ·show([]++aF _).length+1≤9223372036854775807;simp[aF];omega
   refine aG k l.length rfl rfl hk (by omega) ?_
   refine aJ _ (Ints.src hsl (a:=k) (b:=l.length) hk (Nat.le_refl _) hcap) ?_
   refine gIn ?_ ?_ fun b3 c3 _=>?_
   ·show(([]++aF _++[_]).length+(aF _).length)*8≤_;simp[aF];omega
   ·show([]++aF _++[_]).length+(aF _).length≤9223372036854775807;simp[aF];omega
   refine rFz [0] fun μ' hle hno hrow=> .inl ⟨aT l n k,?_,dB l n k,gJ hs htk hgt⟩
   have e:[]++aF ((l.drop 0).take (k-0))++[.int .i64 n]++aF ((l.drop k).take (l.length-k))=aF (aT l n k):=by
    simp[aF,aT]
    rw[List.take_of_length_le (by simp)]
   rw[e]at hrow ⊢
   exact Ints.sl hrow (Nat.le_trans (m:=2000000000) (by simp[aT];omega) (by decide))
  ·have hgt := drop_gt hs hge (fun z hz => by have := (List.getElem?_eq_some_iff.1 hz).1; omega)
   intro r0
   refine aG 0 k rfl rfl (by omega) (by omega) ?_
   refine aJ _ (Ints.src hsl (a:=0) (b:=k) (by omega) hk hcap) ?_
   refine gIn ?_ ?_ fun b1 c1 _=>?_
   ·show(0+(aF _).length)*8≤_;simp[aF];omega
   ·show 0+(aF _).length≤9223372036854775807;simp[aF];omega
   intro r1
   refine gIn ?_ ?_ fun b2 c2 _=>?_
   ·show(([]++aF _).length+1)*8≤_;simp[aF];omega
   ·show([]++aF _).length+1≤9223372036854775807;simp[aF];omega
   refine aG k l.length rfl rfl hk (by omega) ?_
   refine aJ _ (Ints.src hsl (a:=k) (b:=l.length) hk (Nat.le_refl _) hcap) ?_
   refine gIn ?_ ?_ fun b3 c3 _=>?_
   ·show(([]++aF _++[_]).length+(aF _).length)*8≤_;simp[aF];omega
   ·show([]++aF _++[_]).length+(aF _).length≤9223372036854775807;simp[aF];omega
   refine rFz [0] fun μ' hle hno hrow=> .inl ⟨aT l n k,?_,dB l n k,gJ hs htk hgt⟩
   have e:[]++aF ((l.drop 0).take (k-0))++[.int .i64 n]++aF ((l.drop k).take (l.length-k))=aF (aT l n k):=by
    simp[aF,aT]
    rw[List.take_of_length_le (by simp)]
   rw[e]at hrow ⊢
   exact Ints.sl hrow (Nat.le_trans (m:=2000000000) (by simp[aT];omega) (by decide))
def sR(μ':Mem)(l vs:List Int)(v:Value):Prop:=∃r:List Int,RepV μ' (.sl 1 (r.map D.i)) v∧(∀x,x∈r↔x∈vs∨x∈l)∧VL r
theorem pA:∀(x:T) {μ:Mem} {l:List Int} {w v:Value},x.good→RepV μ x.tm.d w→RepV μ (.sl 1 (l.map D.i)) v→VL l→Spec Tryz.prog 204 [w,v] μ fun v μ'=>sR μ' l x.vars v:=
 T.ind fun x ih μ l w v hgd hw hv hb=>by
  have hrng:=T.vars_range hgd
  have w_:=T.inv hw
  obtain⟨base,cap,rfl,hsl⟩:=w_
  have hn:=aH hsl.max
  refine Spec.mk Tryz.func204 (by kernel_rfl) ?_
  intro r
  refine ifd (fun h=>?_) (fun h=>?_)
  ·have e : x.vars = [x.tm.num] := by cases x <;> simp_all [T.vars, T.tm, Tm.kind, Tm.num]
   refine cPl (mA hv (by have:=hb.len;omega) hb.srt) fun v' μ' hle hR=>rPl ?_
   obtain⟨r,h1,h2,h3⟩:=hR
   refine⟨r,h1,by simpa[e]using h2,h3,fun y hy=>?_⟩
   rcases(h2 y).1 hy with rfl|hy
   ·exact hrng _ (by rw[e];simp)
   ·exact hb.rng y hy
  have e:=T.vars_args h
  have hgs:∀y∈x.args,y.good:=fun y hy=>by
   cases x with
   |pair a b=>
    simp only[T.args,List.mem_cons,List.not_mem_nil,or_false]at hy
    rcases hy with rfl|rfl
    ·exact hgd.1
    ·exact hgd.2
   |_=>simp[T.args]at hy
  refine lIn (fun p:Nat×Value×Mem=>p.1≤x.args.length∧μ.Le p.2.2∧sR p.2.2 l ((x.args.take p.1).flatMap T.vars) p.2.1)
   (fun(i,v,μ')=>⟨[(1,.val v),(15,.val (.slice base x.args.length cap)),(16,.val (.int .i64 x.args.length)),(17,.val (.int .i64 i))],[],1,μ',Mem.nil⟩) (fun p=>x.args.length-p.1)
   (0,v,μ) ⟨by simp,Mem.Le.refl μ,l,hv,by simp,hb⟩ (fun(_,_,_)=>⟨rfl,rfl⟩) ⟨⟨rfl,rfl,rfl,rfl,trivial⟩,trivial,rfl,rfl⟩ ?_
  rintro⟨i,v,μ'⟩ ⟨hi,hle,r,h1,h2,h3⟩
  dsimp only at hi hle h1 h2 h3
  refine ifd (fun h=>?_) (fun h=>?_)
  ·have w_ := aSo (l := x.args) (i := i) (by omega)
   obtain⟨t,ht⟩:=w_
   have ht':(x.args.map T.tm)[i]? =some t.tm:=by simp[ht]
   have w_:=Tm.elem (hsl.mono hle) ht'
   obtain⟨ad,p,hel,hr⟩:=w_
   have hsucc:(x.args.take (i+1)).flatMap T.vars=(x.args.take i).flatMap T.vars++t.vars:=by
    rw[List.take_add_one,ht,Option.toList_some,List.flatMap_append];simp
   refine eIn hel ?_
   intro r2
   refine cPl (ih t (mAt ht) (hgs t (mAt ht)) hr h1 h3) fun v' μ'' hle2 hR=>?_
   obtain⟨q,g1,g2,g3⟩:=hR
   refine aB (by omega) (by omega) ⟨(i+1,v',μ''),⟨by dsimp only;omega,hle.trans hle2,q,g1,fun y=>?_,g3⟩,by dsimp only;omega,⟨⟨rfl,rfl,rfl,rfl,trivial⟩,trivial,rfl,rfl⟩⟩
   dsimp only
   rw[g2,h2,hsucc,List.mem_append]
   constructor
   ·rintro(h|h|h)<;>simp[h]
   ·rintro((h|h)|h)<;>simp[h]
  ·obtain rfl : i = x.args.length := by omega
   rw[List.take_length]at h2
   exact rPl ⟨r,h1,by rw[e];exact h2,h3⟩
end
end Go.Vx
namespace Go.Vx
open Go.Proofs Classical
theorem Gl.vars_eq(g:Gl):g.vars=g.tvars++g.goals.flatMap Gl.vars:=by
 rw[Gl.vars,Gl.all_eq,List.flatMap_cons,List.flatMap_assoc]
 rfl
section
variable {μ:Mem}
theorem rB:∀(g:Gl) {μ:Mem} {l:List Int} {w v:Value},g.Sh→RepV μ g.d w→RepV μ (.sl 1 (l.map D.i)) v→VL l→Spec Tryz.prog 201 [w,v] μ fun v μ'=>sR μ' l g.vars v:=
 Gl.ind fun g ih μ l w v hS hw hv hb=>by
  have w_:=Gl.inv hw
  obtain⟨p,rfl,hts,hgs⟩:=w_
  have w_:=fD hS.top.tm
  obtain⟨xs,hxs,hxo⟩:=w_
  have htv:g.tvars=xs.flatMap T.vars:=by rw[Gl.tvars,hxs,toTs_tm']
  rw[hxs,List.length_map]at hts ⊢
  have hn:=aH hts.max
  have hn2:=aH hgs.max
  refine Spec.mk Tryz.func201 (by kernel_rfl) ?_
  intro r1
  refine lIn (fun p:Nat×Value×Mem=>p.1≤xs.length∧μ.Le p.2.2∧sR p.2.2 l ((xs.take p.1).flatMap T.vars) p.2.1)
   (fun(i,v,μ')=>⟨[(1,.val v),(2,.loc 0 r1 0),(10,.val (.slice p.1.1 xs.length p.1.2)),(11,.val (.int .i64 xs.length)),(12,.val (.int .i64 i))],[(0,some (.cells r1 [.val (.int .i64 g.kind),.val (.string g.name),.val (.slice p.1.1 xs.length p.1.2),.val (.slice p.2.1 g.goals.length p.2.2)] 61))],1,μ',Mem.nil⟩) (fun p=>xs.length-p.1)
   (0,v,μ) ⟨by simp,Mem.Le.refl μ,l,hv,by simp,hb⟩ (fun(_,_,_)=>⟨rfl,rfl⟩) ⟨⟨rfl,rfl,rfl,rfl,rfl,trivial⟩,⟨rfl,trivial⟩,rfl,rfl⟩ ?_
  rintro⟨i,v,μ'⟩ ⟨hi,hle,r,h1,h2,h3⟩
  dsimp only at hi hle h1 h2 h3
  refine ifd (fun h=>?_) (fun h=>?_)
  ·have w_ := aSo (l := xs) (i := i) (by omega)
   obtain⟨t,ht⟩:=w_
   have w_:=Tm.elem (i:=i) (t:=t.tm) (hts.mono hle) (by simp[ht])
   obtain⟨ad,p3,hel,hr⟩:=w_
   have hsucc:(xs.take (i+1)).flatMap T.vars=(xs.take i).flatMap T.vars++t.vars:=by
    rw[List.take_add_one,ht,Option.toList_some,List.flatMap_append];simp
   refine eIn hel ?_
   intro r2
   refine cPl (pA t (hxo t (mAt ht)).1 hr h1 h3) fun v' μ'' hle2 hR=>?_
   obtain⟨q,g1,g2,g3⟩:=hR
   refine aB (by omega) (by omega) ⟨(i+1,v',μ''),⟨by dsimp only;omega,hle.trans hle2,q,g1,fun y=>?_,g3⟩,by dsimp only;omega,⟨⟨rfl,rfl,rfl,rfl,rfl,trivial⟩,⟨rfl,trivial⟩,rfl,rfl⟩⟩
   dsimp only
   rw[g2,h2,hsucc,List.mem_append]
   constructor
   ·rintro(h|h|h)<;>simp[h]
   ·rintro((h|h)|h)<;>simp[h]
  ·obtain rfl : i = xs.length := by omega
   rw[List.take_length]at h2
   have hgs1:=hgs.mono hle
   refine lIn (fun x:Nat×Value×Mem=>x.1≤g.goals.length∧μ'.Le x.2.2∧sR x.2.2 l (g.tvars++(g.goals.take x.1).flatMap Gl.vars) x.2.1)
    (fun(i,v,μ'')=>⟨[(1,.val v),(21,.val (.slice p.2.1 g.goals.length p.2.2)),(22,.val (.int .i64 g.goals.length)),(23,.val (.int .i64 i))],[],1,μ'',Mem.nil⟩) (fun x=>g.goals.length-x.1)
    (0,v,μ') ⟨by simp,Mem.Le.refl μ',r,h1,by simpa[htv]using h2,h3⟩ (fun(_,_,_)=>⟨rfl,rfl⟩) ⟨⟨rfl,rfl,rfl,rfl,trivial⟩,trivial,rfl,rfl⟩ ?_
   rintro⟨i,v2,μ2⟩ ⟨hi,hle2,r2,k1,k2,k3⟩
   dsimp only at hi hle2 k1 k2 k3
   refine ifd (fun h=>?_) (fun h=>?_)
   ·have w_ := aSo (l := g.goals) (i := i) (by omega)
    obtain⟨t,ht⟩:=w_
    have w_:=Gl.elem (hgs1.mono hle2) ht
    obtain⟨ad,p3,hel,hr⟩:=w_
    have hsucc:(g.goals.take (i+1)).flatMap Gl.vars=(g.goals.take i).flatMap Gl.vars++t.vars:=by
     rw[List.take_add_one,ht,Option.toList_some,List.flatMap_append];simp
    refine eIn hel ?_
    intro r3
    refine cPl (ih t (mAt ht) (hS.sub t (mAt ht)) hr k1 k3) fun v' μ3 hle3 hR=>?_
    obtain⟨q,g1,g2,g3⟩:=hR
    refine aB (by omega) (by omega) ⟨(i+1,v',μ3),⟨by dsimp only;omega,hle2.trans hle3,q,g1,fun y=>?_,g3⟩,by dsimp only;omega,⟨⟨rfl,rfl,rfl,rfl,trivial⟩,trivial,rfl,rfl⟩⟩
    dsimp only
    rw[g2,k2,hsucc,←List.append_assoc,List.mem_append (s:=g.tvars++_)]
    constructor
    ·rintro(h|h|h)<;>simp[h]
    ·rintro((h|h)|h)<;>simp[h]
   ·obtain rfl : i = g.goals.length := by omega
    rw[List.take_length,←Gl.vars_eq]at k2
    exact rPl ⟨r2,k1,k2,k3⟩
def qUq(p:Pg)(g:Gl)(n:Int):Prop:=g.Ok∧FitAll p g∧∀m∈g.vars,m<n
theorem rD{p:Pg}{g:Gl}{n:Int}{vp v:Value}(hp:RepV μ p.d vp)(hv:RepV μ g.d v)(hw:g.d.wd):Spec Tryz.prog 139 [vp,v,.int .i64 n] μ fun r _=>r= .bool (decide (qUq p g n)):=by
 have w_:=Pg.inv hp
 obtain⟨q,rfl,hrl⟩:=w_
 have w_:=Gl.invV hv
 obtain⟨q2,rfl⟩:=w_
 refine Spec.mk Tryz.func139 (by kernel_rfl) ?_
 intro r1 r2
 refine cGv (cW g hv hw) ?_
 refine aL (fun h=>rPl (isF fun k=>h k.1)) (fun h1=>?_)
 refine cGv (pC hp g h1.1 hv) ?_
 refine aL (fun h=>rPl (isF fun k=>h k.2.1)) (fun h2=>?_)
 refine cPl (rB (l:=[]) (v:= .slice none 0 0) g h1.1 hv ⟨none,0,rfl,⟨Nat.zero_le _,Nat.zero_le _⟩,by simp,.inl rfl⟩ ⟨List.Pairwise.nil,by simp⟩) fun v1 μ1 hle1 hR=>?_
 obtain⟨r,g1,g2,g3⟩:=hR
 have w_:=Rep.sl g1
 obtain⟨b,c,rfl,hsl⟩:=w_
 rw[List.length_map]at hsl ⊢
 have hlen:=g3.len
 have hmem:∀x,x∈r↔x∈g.vars:=fun x=>by rw[g2];simp
 refine ifd (fun h=>rPl (isT ⟨h1,h2,fun m hm=>?_⟩)) (fun h=>?_)
 ·have h3 : r = [] := List.eq_nil_of_length_eq_zero (by omega)
  have:=(hmem m).2 hm
  rw[h3]at this;simp at this
 ·have w_ := aSo (l := r) (i := r.length - 1) (by omega)
  obtain⟨x,hx⟩:=w_
  have w_:=Ints.elem hsl hx
  obtain⟨ad,hel⟩:=w_
  refine nEq (x:=((r.length-1:Nat):Int)) (by rw[aA (by omega) (by omega)];omega) ?_
  refine eIn hel ?_
  refine rPl (isI ⟨fun k=>⟨h1,h2,fun m hm=>((VL.last g3 hx).2 k) m ((hmem m).2 hm)⟩,fun k=>(VL.last g3 hx).1 fun y hy=>k.2.2 y ((hmem y).1 hy)⟩)
end
end Go.Vx
namespace Go.Vx
open Go.Proofs Classical
section
variable {μ:Mem}
theorem bD{p:Pg}{v:Value}(hp:RepV μ p.d v)(hw:p.d.wd):Spec Tryz.prog 69 [v] μ fun r _=>r= .bool (decide p.Ok):=by
 have w_:=Pg.inv hp
 obtain⟨q,rfl,hrl⟩:=w_
 have hws:D.wds (p.rels.map Rl.d):=by rw[Pg.d_eq]at hw;exact hw.1
 refine Spec.mk Tryz.func69 (by kernel_rfl) ?_
 intro r1
 refine ifd (fun h8=>rPl (isF fun h=>by have:=h.1;omega)) (fun h8=>?_)
 refine lIn (fun x:Nat×Mem=>x.1≤p.rels.length∧μ.Le x.2∧∀(j:Nat) (r:Rl),j<x.1→p.rels[j]? =some r→RelOk p j r)
  (fun(i,μ')=>⟨[(1,.loc 0 r1 0),(10,.val (.slice q.1 p.rels.length q.2)),(11,.val (.int .i64 p.rels.length)),(12,.val (.int .i64 i))],[(0,some (.cells r1 [.val (.slice q.1 p.rels.length q.2)] 25))],1,μ',Mem.nil⟩) (fun x=>p.rels.length-x.1)
  (0,μ) ⟨by simp,Mem.Le.refl _,fun j r hj=>by simp at hj⟩ (fun(_,_)=>⟨rfl,rfl⟩) ⟨⟨rfl,rfl,rfl,rfl,trivial⟩,⟨rfl,trivial⟩,rfl,rfl⟩ ?_
 rintro⟨i,μ'⟩ ⟨hi,hle,hall⟩
 dsimp only at hi hle hall
 refine ifd (fun hlt=>?_) (fun hlt=>?_)
 ·have w_ := aSo (l := p.rels) (i := i) (by omega)
  obtain⟨x,hx⟩:=w_
  have w_:=Rl.elemA (hrl.mono hle) hx
  obtain⟨ad,q2,hel,hr,hb⟩:=w_
  have hb:RepV μ' x.body.d (.agg (x.body.cs q2).toArray):=hb
  have hxw:x.d.wd:=D.wds_mem hws _ (mAt (lM (f:=Rl.d) hx))
  rw[Rl.d_eq]at hxw
  have hnm:x.name.size≤maxLen:=hxw.1
  have hbw:x.body.d.wd:=hxw.2.2.2.1
  have bad:¬RelOk p i x→Value.bool false= .bool (decide p.Ok):=fun h=>isF fun k=>h (k.2 i x hx)
  refine eIn hel ?_
  intro r2
  refine cGv (dI (hp.mono hle)) ?_
  refine aL (fun h=>rPl (bad fun k=>h k.at_)) (fun g2=>?_)
  refine cGv (eC _ hnm _) ?_
  refine aL (fun h=>rPl (bad fun k=>h k.name)) (fun g1=>?_)
  refine cGv (bG _ _ _ _) ?_
  refine aL (fun h=>rPl (bad fun k=>h ⟨k.ar0,k.ar4⟩)) (fun g3=>?_)
  refine cGv (bG _ _ _ _) ?_
  refine aL (fun h=>rPl (bad fun k=>h ⟨k.lo0,k.lo8⟩)) (fun g4=>?_)
  refine aB (by omega) (by omega) ?_
  refine cPl (rD (hp.mono hle) hb hbw) fun v1 μ1 hle1 hR=>?_
  obtain rfl:=hR
  refine aL (fun h=>rPl (bad fun k=>h ⟨⟨k.body,by have:=k.size;omega⟩,k.calls,k.vars⟩)) (fun g5=>?_)
  refine cGv (jV x.body (hb.mono hle1) hbw) ?_
  have hc:x.body.count=x.body.cnt:=by rw[Gl.count,if_pos g5.1]
  refine ifd (fun h=>rPl (bad fun k=>by have:=k.size;omega)) (fun g6=>?_)
  have hok:RelOk p i x:=⟨g2,g1,by omega,by omega,by omega,by omega,g5.1.1,by omega,g5.2.2,g5.2.1⟩
  refine aB (by omega) (by omega) ⟨(i+1,μ1),⟨by dsimp only;omega,hle.trans hle1,fun j r hj hr=>?_⟩,by dsimp only;omega,⟨⟨rfl,rfl,rfl,rfl,trivial⟩,⟨rfl,trivial⟩,rfl,rfl⟩⟩
  rcases Nat.lt_or_ge j i with h6|h6
  ·exact hall j r h6 hr
  ·obtain rfl : j = i := by omega
   rw[hx]at hr;cases hr;exact hok
 ·obtain rfl : i = p.rels.length := by omega
  exact rPl (isT ⟨by omega,fun j r hr=>hall j r (List.getElem?_eq_some_iff.1 hr).1 hr⟩)
end
end Go.Vx
namespace Go.Vx
open Go.Proofs Classical
section
variable {μ:Mem}
theorem Rep.srcAll{es n cap:Nat}{base:Option Addr}{ds:List D}(h:RepV μ (.sl es ds) (.slice base n cap)):∃vs,Rows μ es ds vs∧vs.length=n∧lW μ base n es vs:=by
 have w_:=Rep.src h
 obtain⟨vs,hrows,hvl,hcap,hsrc⟩:=w_
 have:=hsrc 0 n (Nat.zero_le _) (Nat.le_refl _)
 have e1:(if cap=0 then base else base.map (·.add (0*es)))=base:=by
  split
  ·rfl
  ·cases base with
   |none=>rfl
   |some a=>simp[Addr.add]
 rw[e1,Nat.sub_zero,List.drop_zero,List.take_of_length_le (by omega)]at this
 exact⟨vs,hrows,hvl,this⟩
end
end Go.Vx
namespace Go.Vx
open Go.Proofs Classical
theorem T.hasSym_args(s:ByteArray)(x:T):x.hasSym s↔(x.tm.kind=2∧x.tm.name=s)∨∃y∈x.args,y.hasSym s:=by
 cases x<;>simp[T.hasSym,T.tm,Tm.kind,Tm.name,T.args]
section
variable {μ:Mem}
set_option maxHeartbeats 4000000 in
theorem RepV.bd{n:Int}{x:T}{q:Option Addr×Nat}(h:RepV μ x.tm.d (.agg (x.tm.cs q).toArray)):RepV μ (B.bd ⟨n,x⟩).d (.agg (Value.int .i64 n::x.tm.cs q).toArray):=by
 have hc:=RepV.cells h
 have e:aD (.agg (x.tm.cs q).toArray)=x.tm.cs q:=by simp[aD]
 rw[e]at hc
 exact⟨_,rfl,RepS.int (RepS.last hc)⟩
theorem sA(s:ByteArray):∀(x:T) {v:Value},RepV μ x.tm.d v→aM Tryz.prog 263 [v,.string s] μ (.bool (decide (x.hasSym s))):=
 T.ind fun x ih v hv=>by
  have w_:=T.inv hv
  obtain⟨base,cap,rfl,hsl⟩:=w_
  have hn:=aH hsl.max
  refine Spec.mk Tryz.func263 (by kernel_rfl) ?_
  intro r
  refine lIn (fun i:Nat=>i≤x.args.length∧∀j y,j<i→x.args[j]? =some y→¬y.hasSym s)
   (fun i=>⟨[(1,.val (.string s)),(2,.loc 0 r 0),(8,.val (.slice base x.args.length cap)),(9,.val (.int .i64 x.args.length)),(10,.val (.int .i64 i))],[(0,some (.cells r [.val (.int .i64 x.tm.kind),.val (.int .i64 x.tm.num),.val (.string x.tm.name),.val (.slice base x.args.length cap)] 75))],1,μ,Mem.nil⟩) (fun i=>x.args.length-i)
   0 ⟨by omega,fun j y hj=>by omega⟩ (fun _=>⟨rfl,rfl⟩) ⟨⟨rfl,rfl,rfl,rfl,rfl,trivial⟩,⟨rfl,trivial⟩,rfl,rfl⟩ ?_
  rintro i ⟨hi,hno⟩
  refine ifd (fun h=>?_) (fun h=>?_)
  ·have w_ := aSo (l := x.args) (i := i) (by omega)
   obtain⟨t,ht⟩:=w_
   have w_:=T.arg hsl ht
   obtain⟨ad,p,hel,hto⟩:=w_
   refine eIn hel ?_
   intro r2
   refine cGv (ih t (mAt ht) hto) ?_
   refine ifd (fun hy=>rGv (isT ((T.hasSym_args s x).2 (.inr ⟨t,mAt ht,hy⟩))) rfl) (fun hy=>?_)
   refine aB (by omega) (by omega) ⟨i+1,⟨by omega,fun j y hj hy2=>?_⟩,by omega,⟨⟨rfl,rfl,rfl,rfl,rfl,trivial⟩,⟨rfl,trivial⟩,rfl,rfl⟩⟩
   rcases Nat.lt_or_ge j i with h6|h6
   ·exact hno j y h6 hy2
   ·obtain rfl : j = i := by omega
    rw[ht]at hy2;cases hy2;exact hy
  ·obtain rfl : i = x.args.length := by omega
   have hn2:¬∃y∈x.args,y.hasSym s:=fun⟨y,hy,h2⟩=>by
    have w_:=List.mem_iff_getElem?.1 hy
    obtain⟨j,hj⟩:=w_
    exact hno j y (List.getElem?_eq_some_iff.1 hj).1 hj h2
   refine ifd (fun h2=>?_) (fun h2=>rGv (isF fun k=>((T.hasSym_args s x).1 k).elim (fun k=>h2 k.1) hn2) rfl)
   refine rGv ?_ rfl
   congr 1
   rw[Bool.eq_iff_iff,decide_eq_true_eq,decide_eq_true_eq]
   exact⟨fun k=>(T.hasSym_args s x).2 (.inl ⟨h2,k⟩),fun k=>((T.hasSym_args s x).1 k).elim (fun k=>k.2) fun k=>absurd k hn2⟩
theorem mV(s:ByteArray):∀(x:T) {v:Value},RepV μ x.tm.d v→aM Tryz.prog 234 [v,.string s] μ (.bool (decide (x.hasSym s))):=
 T.ind fun x ih v hv=>by
  have w_:=T.inv hv
  obtain⟨b1,c1,rfl,hs1⟩:=w_
  refine Spec.mk Tryz.func234 (by kernel_rfl) ?_
  intro r
  refine ifd (fun h4=>?_) (fun h4=>?_)
  ·have w_ := T.kind4 h4
   obtain⟨a,b,rfl⟩:=w_
   have w_:=T.arg hs1 (i:=0) rfl
   obtain⟨ad1,p1,e1,g1⟩:=w_
   have w_:=T.arg hs1 (i:=1) rfl
   obtain⟨ad3,p3,e3,g3⟩:=w_
   refine eIn e1 (cGv (ih a (by simp[T.args]) g1) ?_)
   refine ifd (fun h=>rGv (isT (.inl h)) rfl) (fun h=>?_)
   refine eIn e3 (cGv (ih b (by simp[T.args]) g3) (rGv ?_ rfl))
   congr 1
   rw[Bool.eq_iff_iff,decide_eq_true_eq,decide_eq_true_eq]
   exact⟨.inr,fun k=>k.elim (fun k=>absurd k h) id⟩
  ·have hno:¬∃y∈x.args,y.hasSym s:=fun⟨y,hy,_⟩=>by
    cases x<;>first|(simp[T.args]at hy;done)|exact h4 rfl
   refine ifd (fun h2=>rGv ?_ rfl) (fun h2=>rGv (isF fun k=>((T.hasSym_args s x).1 k).elim (fun k=>h2 k.1) hno) rfl)
   congr 1
   rw[Bool.eq_iff_iff,decide_eq_true_eq,decide_eq_true_eq]
   exact⟨fun k=>(T.hasSym_args s x).2 (.inl ⟨h2,k⟩),fun k=>((T.hasSym_args s x).1 k).elim (fun k=>k.2) fun k=>absurd k hno⟩
end
end Go.Vx
namespace Go.Vx
open Go.Proofs Classical
section
variable {α:Type} {c:α→α→Int}
theorem Asc3.take_lt(h:Ord3 c){l:List α}(hl:Asc3 c l){k:Nat}{y e:α}(hy:l[k]? =some y)(hc:c y e<0):∀x∈l.take (k+1),c x e<0:=by
 rw[List.take_add_one,hy,Option.toList_some]
 intro x hx
 rcases List.mem_append.1 hx with hx|hx
 ·rw [Asc3, ← List.take_append_drop k l, List.pairwise_append] at hl
  exact h.trans _ _ _ (hl.2.2 x hx y (by rw[bR hy];simp)) hc
 ·rw[List.mem_singleton.1 hx];exact hc
theorem Asc3.drop_gt(h:Ord3 c){l:List α}(hl:Asc3 c l){k:Nat}{y e:α}(hy:l[k]? =some y)(hc:c e y<0):∀x∈l.drop k,c e x<0:=by
 rw[bR hy]
 intro x hx
 rcases List.mem_cons.1 hx with rfl|hx
 ·exact hc
 ·rw [Asc3, ← List.take_append_drop k l, List.pairwise_append, bR hy, List.pairwise_cons] at hl
  exact h.trans _ _ _ hc (hl.2.1.1 x hx)
theorem qBb(h:Ord3 c){l m:List α}(hm:Asc3 c m)(e:∀x,x∈m↔x∈l):m=qLy h l:=hm.uniq h (uL h l) fun x=>by rw[e,nY]
end
end Go.Vx
namespace Go.Vx
open Go.Proofs Classical
open Go.Sort
open Go.Extern Go.Extern.Rtype Go.RowKit Go.Lib
section
variable {P:Program} {μ h0:Mem} {r:Nat} {ty:TypeId} {rest:List Value} {d:Array Value} {es:Nat}
end
section
variable {μ h0:Mem} {lf sf:FuncId} {lb sb:List Value} {n:Nat}
end
section
variable {α:Type} [Inhabited α] {enc:α→Value} {μ h0:Mem} {r:Nat} {ty t e:TypeId} {i ie:TypeInfo} {ke:Nat} {ti:TI} {rest:List Value} {d0:Array α} {n cap:Nat} {lf:FuncId} {lb:List Value} {lt:α→α→Bool}
end
section
variable {μ h0:Mem} {r:Nat} {ty:TypeId} {rest:List Value} {es:Nat}
theorem rX{n:Nat}{i:Int}{K:Addr→List Value→Prop}{K':Addr→Prop}(k:Nat)(e:i=k)(hk:k<n)(h:K' ⟨r,k*es,none⟩):elemVC μ (some ⟨r,0,none⟩) n es i K K':=by
 subst e
 refine cB ⟨r,0,none⟩ rfl (by omega) (by omega) ?_
 have:(⟨r,0,none⟩:Addr).add ((k:Int).toNat*es)=⟨r,k*es,none⟩:=by rw[Addr.add_lit'];simp
 rw[this];exact h
end
end Go.Vx
namespace Go.Vx
open Go.Proofs Classical
open Go.Sort
structure Prs {X:Type} (es:Nat) (f:X→D) (ps:List (X×Value)) (g:Mem):Prop where
 own:OwnRows es (ps.map fun p=>f p.1) (ps.map Prod.snd) g
 size:∀p∈ps,(aD p.2).length=es∧∀u∈aD p.2,u.oneCell'=true
section
variable {X:Type} {es:Nat} {f:X→D} {g:Mem}
theorem Prs.uncons{p:X×Value}{ps:List (X×Value)}(h:Prs es f (p::ps) g):∃g1 g2,Parts g g1 g2∧Own (f p.1) g1 (aD p.2)∧(f p.1).n=es∧Prs es f ps g2:=by
 obtain⟨⟨ho,hs,hl⟩,hz⟩:=h
 simp only[List.map_cons,List.flatMap_cons]at ho
 obtain⟨c1,c2,g1,g2,e,hp,h1,h2⟩:=ho
 have hn:(f p.1).n=es:=hs _ (by simp)
 have hz0:=(hz p (by simp)).1
 have:=List.append_inj e (by rw[h1.len,hn,hz0])
 obtain⟨rfl,rfl⟩:=this
 exact⟨g1,g2,hp,h1,hn,⟨h2,fun x hx=>hs x (by simp only[List.map_cons];exact List.mem_cons_of_mem _ hx),by simp⟩,fun q hq=>hz q (List.mem_cons_of_mem _ hq)⟩
theorem Prs.cons{p:X×Value}{ps:List (X×Value)}{g1 g2:Mem}(hp:Parts g g1 g2)(h1:Own (f p.1) g1 (aD p.2))(hn:(f p.1).n=es)(hz:(aD p.2).length=es∧∀u∈aD p.2,u.oneCell'=true)(h:Prs es f ps g2):Prs es f (p::ps) g:=by
 refine⟨⟨?_,?_,by simp⟩,?_⟩
 ·simp only [List.map_cons, List.flatMap_cons]
  exact OwnS.cons hp h1 h.own.own
 ·intro x hx
  simp only[List.map_cons,List.mem_cons]at hx
  rcases hx with rfl|hx
  ·exact hn
  ·exact h.own.size x hx
 ·intro q hq
  rcases List.mem_cons.1 hq with rfl|hq
  ·exact hz
  ·exact h.size q hq
theorem Prs.at:∀{ps:List (X×Value)} {g:Mem},Prs es f ps g→∀p∈ps,∃g':Mem,g'.Le g∧Own (f p.1) g' (aD p.2)
 |[],_,_,p,hp=>by simp at hp
 |q::ps,g,h,p,hp=>by
  obtain⟨g1,g2,hpp,h1,_,h2⟩:=h.uncons
  rcases List.mem_cons.1 hp with rfl|hp
  ·exact⟨g1,hpp.left,h1⟩
  ·have w_ := Prs.at h2 p hp
   obtain⟨g',h3,h4⟩:=w_
   exact⟨g',h3.trans hpp.right,h4⟩
theorem Prs.zip:∀{xs:List X} {ys:List Value} {g:Mem},OwnRows es (xs.map f) ys g→(∀y∈ys,(aD y).length=es∧∀u∈aD y,u.oneCell'=true)→Prs es f (xs.zip ys) g∧(xs.zip ys).map Prod.fst=xs∧(xs.zip ys).map Prod.snd=ys:=fun {xs ys g} h hz=>by
 have hl:xs.length=ys.length:=by simpa using h.len
 have e1:(xs.zip ys).map Prod.fst=xs:=by rw[List.map_fst_zip (by omega)]
 have e2:(xs.zip ys).map Prod.snd=ys:=by rw[List.map_snd_zip (by omega)]
 refine⟨⟨?_,fun p hp=>hz p.2 ?_⟩,e1,e2⟩
 ·have e3:(xs.zip ys).map (fun p=>f p.1)=xs.map f:=by
   conv=>rhs;rw[←e1,List.map_map]
   rfl
  rw[e2,e3];exact h
 ·rw[←e2];exact List.mem_map.2 ⟨p,hp,rfl⟩
end
section
variable {X:Type} {es:Nat} {f:X→D}
end
end Go.Vx
namespace Go.Vx
open Go.Proofs Classical
theorem mQ{α:Type}{c:α→α→Int}{l m:List α}{i:Nat}(h:¬(i<l.length∧i<m.length))(h2:i≤l.length)(h3:i≤m.length)(e:cU c (l.drop i) (m.drop i)=cU c l m):cU c l m=kX l.length m.length:=by
 rw[←e]
 rcases Nat.lt_or_ge i l.length with k|k
 ·obtain rfl : i = m.length := by omega
  rw[List.drop_length]
  have w_:=aSo k
  obtain⟨x,hx⟩:=w_
  rw[bR hx,cU,kX,if_neg (by omega),decide_eq_false (by omega)]
  rfl
 ·obtain rfl : i = l.length := by omega
  rw[List.drop_length]
  rcases Nat.eq_or_lt_of_le h3 with k2|k2
  ·rw[k2,List.drop_length,cU,kX,if_pos rfl]
  ·have w_ := aSo k2
   obtain⟨x,hx⟩:=w_
   rw[bR hx,cU,kX,if_neg (by omega),decide_eq_true (by omega)]
   rfl
theorem pQ{p q:Int}(h:p≠0):kT p q=p:=by rw[kT,if_neg h]
theorem pP{p q:Int}(h:p=0):kT p q=q:=by rw[kT,if_pos h]
section
variable {μ:Mem}
theorem jG(a b:Int):aM Tryz.prog 211 [.int .i64 a,.int .i64 b] μ (.int .i64 (kX a b)):=by
 by_cases h:a=b
 ·rw [kX, if_pos h]
  refine Spec.mk Tryz.func211 (by kernel_rfl) ?_
  refine ifd (fun h1=>by omega) (fun h1=>?_)
  exact ifd (fun h2=>by omega) (fun h2=>rGv rfl rfl)
 ·rw[kX,if_neg h];exact eR a b h
end
end Go.Vx
namespace Go.Vx
open Go.Proofs Classical
section
variable {μ:Mem}
theorem rE:∀(g:Gl) {v:Value},RepV μ g.d v→aM Tryz.prog 187 [v,.bool false] μ (.bool (decide g.Pos)):=
 Gl.ind fun g ih v hv=>by
  have w_:=Gl.inv hv
  obtain⟨p,rfl,hts,hgs⟩:=w_
  have hn:=aH hgs.max
  refine Spec.mk Tryz.func187 (by kernel_rfl) ?_
  intro r
  refine lIn (fun i:Nat=>i≤g.goals.length∧∀(j:Nat) x,j<i→g.goals[j]? =some x→x.Pos)
   (fun i=>⟨[(1,.val (.bool false)),(2,.loc 0 r 0),(8,.val (.slice p.2.1 g.goals.length p.2.2)),(9,.val (.int .i64 g.goals.length)),(10,.val (.int .i64 i))],[(0,some (.cells r [.val (.int .i64 g.kind),.val (.string g.name),.val (.slice p.1.1 g.terms.length p.1.2),.val (.slice p.2.1 g.goals.length p.2.2)] 61))],1,μ,Mem.nil⟩) (fun i=>g.goals.length-i)
   0 ⟨Nat.zero_le _,fun j x h=>by omega⟩ (fun _=>⟨rfl,rfl⟩) ⟨⟨rfl,rfl,rfl,rfl,rfl,trivial⟩,⟨rfl,trivial⟩,rfl,rfl⟩ ?_
  rintro i ⟨hi,hall⟩
  refine ifd (fun hlt=>?_) (fun hlt=>?_)
  ·have w_ := aSo (l := g.goals) (i := i) (by omega)
   obtain⟨t,ht⟩:=w_
   have w_:=Gl.elem hgs ht
   obtain⟨ad,p3,hel,hr⟩:=w_
   refine eIn hel ?_
   intro r2
   refine cGv (ih t (mAt ht) hr) ?_
   refine aL (fun h=>rGv ?_ rfl) (fun h=>?_)
   ·rw[decide_eq_false fun k=>h (((Gl.pos_eq g).1 k).2 t (mAt ht))]
   ·refine aB (by omega) (by omega) ⟨i + 1, ⟨by omega, fun j y hj hy => ?_⟩, by omega, ⟨⟨rfl, rfl, rfl, rfl, rfl, trivial⟩, ⟨rfl, trivial⟩, rfl, rfl⟩⟩
    rcases Nat.lt_or_ge j i with h6|h6
    ·exact hall j y h6 hy
    ·obtain rfl : j = i := by omega
     rw[ht]at hy;cases hy;exact h
  ·obtain rfl : i = g.goals.length := by omega
   have hsub:∀x∈g.goals,x.Pos:=fun x hx=>by
    have w_:=List.mem_iff_getElem?.1 hx
    obtain⟨j,hj⟩:=w_
    exact hall j x (List.getElem?_eq_some_iff.1 hj).1 hj
   refine aL (fun h=>?_) (fun h=>?_)
   ·refine iIn (fun h => nomatch h) (fun _ => ?_)
    exact rGv (by rw[decide_eq_true ((Gl.pos_eq g).2 ⟨h,hsub⟩)];rfl) rfl
   ·exact rGv (by rw[decide_eq_false fun k=>((Gl.pos_eq g).1 k).1 h]) rfl
theorem tE{p:Pg}{v:Value}(hp:RepV μ p.d v)(hw:p.d.wd):Spec Tryz.prog 125 [v,.bool false] μ fun r _=>r= .bool (decide p.Pos):=by
 have w_:=Pg.inv hp
 obtain⟨q,rfl,hrl⟩:=w_
 refine Spec.mk Tryz.func125 (by kernel_rfl) ?_
 intro r1
 refine cPl (bD hp hw) fun v1 μ1 hle1 hR=>?_
 obtain rfl:=hR
 refine aL (fun h=>rPl (isF fun k=>h k.1)) (fun hok=>?_)
 have hn:=hok.1
 refine lIn (fun i:Nat=>i≤p.rels.length∧∀(j:Nat) x,j<i→p.rels[j]? =some x→x.body.Pos)
  (fun i=>⟨[(1,.val (.bool false)),(11,.val (.slice q.1 p.rels.length q.2)),(12,.val (.int .i64 p.rels.length)),(13,.val (.int .i64 i))],[],1,μ1,Mem.nil⟩) (fun i=>p.rels.length-i)
  0 ⟨Nat.zero_le _,fun j x h=>by omega⟩ (fun _=>⟨rfl,rfl⟩) ⟨⟨rfl,rfl,rfl,rfl,trivial⟩,trivial,rfl,rfl⟩ ?_
 rintro i ⟨hi,hall⟩
 refine ifd (fun hlt=>?_) (fun hlt=>?_)
 ·have w_ := aSo (l := p.rels) (i := i) (by omega)
  obtain⟨x,hx⟩:=w_
  have w_:=Rl.elemA (hrl.mono hle1) hx
  obtain⟨ad,q2,hel,hr,hb⟩:=w_
  have hb:RepV μ1 x.body.d (.agg (x.body.cs q2).toArray):=hb
  refine eIn hel ?_
  intro r2
  refine cGv (rE x.body hb) ?_
  refine aL (fun h=>rPl (isF fun k=>h (k.2 x (mAt hx)))) (fun h=>?_)
  refine aB (by omega) (by omega) ⟨i+1,⟨by omega,fun j y hj hy=>?_⟩,by omega,⟨⟨rfl,rfl,rfl,rfl,trivial⟩,trivial,rfl,rfl⟩⟩
  rcases Nat.lt_or_ge j i with h6|h6
  ·exact hall j y h6 hy
  ·obtain rfl : j = i := by omega
   rw[hx]at hy;cases hy;exact h
 ·obtain rfl : i = p.rels.length := by omega
  exact rPl (isT ⟨hok,fun x hx=>by
   have w_:=List.mem_iff_getElem?.1 hx
   obtain⟨j,hj⟩:=w_
   exact hall j x (List.getElem?_eq_some_iff.1 hj).1 hj⟩)
theorem eS{p:Pg}{v:Value}(hp:RepV μ p.d v)(hw:p.d.wd):Spec Tryz.prog 53 [v] μ fun r _=>r= .bool (decide p.Pos):=by
 have w_:=Pg.inv hp
 obtain⟨q,rfl,hrl⟩:=w_
 refine Spec.mk Tryz.func53 (by kernel_rfl) ?_
 intro r1
 refine cPl (tE hp hw) fun v1 μ1 hle1 hR=>?_
 obtain rfl:=hR
 exact rPl rfl
end
end Go.Vx
namespace Go.Vx
open Go.Proofs Classical
theorem Gl.cl_eq(g:Gl):g.cl=if g.kind=0 then some [[]]else if g.kind=1 then some []else if g.kind=8 then Gl.clOr g.goals []else if g.kind=7 then Gl.clAnd g.goals [[]]else some [[g]]:=by
 cases g;rw[Gl.cl];rfl
theorem dW(a l:List (List Gl)):(cK a l).length=a.length*l.length:=by
 unfold cK
 induction a with
 |nil=>simp
 |cons x a ih=>rw[List.flatMap_cons,List.length_append,ih,List.length_map,List.length_cons,Nat.succ_mul];omega
theorem nN{a l:List (List Gl)}{j:Nat}{x:List Gl}(h:a[j]? =some x):cK (a.take (j+1)) l=cK (a.take j) l++l.map fun y=>x++y:=by
 rw[cK,List.take_add_one,h,Option.toList_some,List.flatMap_append]
 simp[cK]
section
variable {μ:Mem}
theorem sL{c:List Gl}{v:Value}(h:RepV μ (csD c) v):∃p:Option Addr×Nat,v= .slice p.1 c.length p.2:=by
 have w_:=Rep.sl (xs:=c.map Gl.d) h
 obtain⟨b,k,rfl,_⟩:=w_
 exact⟨(b,k),by rw[List.length_map]⟩
theorem cF{L:List (List Gl)}{base:Option Addr}{n:Nat}(h:Sl μ 1 base n (L.map csD)){i:Nat}{c:List Gl}(hc:L[i]? =some c):
  ∃ad,∃p:Option Addr×Nat,ElemAt μ base n 1 i ad [.slice p.1 c.length p.2]∧RepV μ (csD c) (.slice p.1 c.length p.2):=by
 have w_:=h.get i (csD c) (by simp[hc])
 obtain⟨ad,cs,h1,h2⟩:=w_
 have h3:Rep μ (.sl 4 (c.map Gl.d)) cs:=h2
 have hl:=Rep.len _ _ h3
 match cs,hl with
 |[v],_=>
  have w_:=sL (c:=c) h3
  obtain⟨p,rfl⟩:=w_
  exact⟨ad,p,h1,h3⟩
theorem mI{c:List Gl}{p:Option Addr×Nat}(h:RepV μ (csD c) (.slice p.1 c.length p.2)):∃vs,Rows μ 4 (c.map Gl.d) vs∧vs.length=c.length∧lW μ p.1 c.length 4 vs:=Rep.srcAll h
set_option maxHeartbeats 8000000 in
theorem mB:∀(g:Gl) {μ:Mem} {v:Value},RepV μ g.d v→g.Sh→g.cnt≤80→Spec Tryz.prog 169 [v] μ fun v μ'=>∃L,ClsOk μ' g v L:=
 Gl.ind fun g ih μ v hv hS hcnt=>by
  have hv0:=hv
  have w_:=Gl.inv hv
  obtain⟨p,rfl,hts,hgs⟩:=w_
  have hg8:=hS.top.gl
  have hce:=Gl.cnt_eq1 g
  refine Spec.mk Tryz.func169 (by kernel_rfl) ?_
  intro r1 r15
  refine ifd (fun h0=>?_) (fun h0=>?_)
  ·intro r20 μ1 hle1 hno1 hat1 r21
   refine rFz [3] fun μ2 hle2 hno2 hat2=> .inl ⟨[[]],?_,?_,?_,?_⟩
   ·exact Rows.sl hat2 (Rows.one (d:=csD []) ((Rows.sl (μ:=μ1) (ds:=[]) hat1 .nil (Nat.zero_le _)).mono hle2) rfl) (show 1≤maxLen by decide)
   ·rw[Gl.cl_eq,if_pos h0];rfl
   ·simp
   ·simp
  refine ifd (fun h1=>?_) (fun h1=>?_)
  ·refine rFz [1] fun μ2 hle2 hno2 hat2 => .inl ⟨[], ?_, ?_, ?_, ?_⟩
   ·exact Rows.sl hat2 .nil (Nat.zero_le _)
   ·rw[Gl.cl_eq,if_neg h0,if_pos h1];rfl
   ·simp
   ·simp
  refine ifd (fun h8=>?_) (fun h8=>?_)
  ·have hcl : g.cl = Gl.clOr g.goals [] := by rw [Gl.cl_eq, if_neg h0, if_neg h1, if_pos h8]
   refine lIn (fun q:Nat×List (List Gl)×Option Nat×Nat×List Value×Mem=>q.1≤g.goals.length∧μ.Le q.2.2.2.2.2∧Rows q.2.2.2.2.2 1 (q.2.1.map csD) q.2.2.2.2.1∧g.cl=(if q.2.1.length≤64 then Gl.clOr (g.goals.drop q.1) q.2.1 else none)∧(∀c∈q.2.1,c.length≤Gl.cnts (g.goals.take q.1))∧q.2.1.length≤64*q.1)
    (fun(i,acc,b,c,ys,μ')=>⟨[(3,.row 1 b ys.length c),(28,.val (.slice p.2.1 g.goals.length p.2.2)),(29,.val (.int .i64 g.goals.length)),(30,.val (.int .i64 i))],[(1,some (.row b c 59 1 ys))],2,μ',Mem.nil⟩) (fun q=>g.goals.length-q.1)
    (0,[],some r15,0,[],μ) ⟨Nat.zero_le _,Mem.Le.refl _,.nil,by rw[hcl];rfl,by simp,by simp⟩ (fun(_,_,_,_,_,_)=>⟨rfl,rfl⟩) ⟨⟨rfl,rfl,rfl,rfl,trivial⟩,⟨rfl,trivial⟩,rfl,rfl⟩ ?_
   rintro⟨i,acc,b,c,ys,μ'⟩ ⟨hi,hle,hrows,hJ,hlen,hmax⟩
   dsimp only at hi hle hrows hJ hlen hmax
   have hyl:=hrows.len
   rw[List.length_map]at hyl
   refine ifd (fun hlt=>?_) (fun hlt=>?_)
   ·have w_ := aSo (l := g.goals) (i := i) (by omega)
    obtain⟨x,hx⟩:=w_
    have w_:=Gl.elem (hgs.mono hle) hx
    obtain⟨ad,q,hel,hr⟩:=w_
    have hxc:=Gl.cnts_take hx
    have hxl:=Gl.cnts_le g.goals (i+1)
    refine eIn hel ?_
    intro r5
    refine cPl (ih x (mAt hx) hr (hS.sub x (mAt hx)) (by omega)) fun v1 μ1 hle1 hR=>?_
    obtain⟨L,hL⟩:=hR
    obtain⟨pv,rfl⟩:=hL.rep.inv
    have w_:=Rep.srcAll hL.rep
    obtain⟨vs,hvr,hvl,hsrc⟩:=w_
    have hLm:=hL.max
    rw[bR hx,Gl.clOr,hL.cl]at hJ
    refine aJ vs hsrc ?_
    refine gIn ?_ ?_ fun b9 c9 _=>?_
    ·show(ys.length+vs.length)*24≤_;omega
    ·exact Nat.le_trans (m:=100000000) (show ys.length+vs.length≤_ by omega) (by decide)
    refine ifd (fun h64=>?_) (fun h64=>?_)
    ·refine rPl ⟨L, hL.rep, ?_, fun c hc => Nat.le_trans (hL.len c hc) (by omega), hLm⟩
     rw[if_neg (show ¬L.length≤64 by omega)]at hJ ⊢
     rw[hJ]
     split<;>rfl
    ·rw [if_pos (show L.length ≤ 64 by omega), Option.bind_some] at hJ
     refine aB (by omega) (by omega) ⟨(i+1,acc++L,b9,c9,_,μ1),⟨by dsimp only;omega,hle.trans hle1,?_,?_,?_,?_⟩,by dsimp only;omega,⟨⟨rfl,rfl,rfl,rfl,trivial⟩,⟨rfl,trivial⟩,rfl,rfl⟩⟩
     ·dsimp only
      rw[List.map_append]
      exact(hrows.mono hle1).append hvr
     ·dsimp only
      rw[hJ]
      by_cases ha:acc.length≤64
      ·rw[if_pos ha]
      ·rw[if_neg ha,if_neg (by rw[List.length_append];omega)]
     ·dsimp only
      intro c hc
      rcases List.mem_append.1 hc with hc|hc
      ·have:=hlen c hc;omega
      ·have:=hL.len c hc;omega
     ·dsimp only
      rw[List.length_append];omega
   ·obtain rfl : i = g.goals.length := by omega
    rw[List.drop_length,Gl.clOr]at hJ
    rw[List.take_length]at hlen
    refine rFz [1] fun μ2 hle2 hno2 hat2=> .inl ⟨acc,?_,hJ,fun c hc=>by have:=hlen c hc;omega,by omega⟩
    exact Rows.sl hat2 (hrows.mono hle2) (Nat.le_trans (m:=100000000) (by omega) (by decide))
  refine ifd (fun h7=>?_) (fun h7=>?_)
  rotate_left
  ·intro r96 μ1 hle1 hno1 hat1 r97
   refine gIn ?_ ?_ fun b9 c9 _=>?_
   ·show(0+1)*24≤_;decide
   ·show 0+1≤maxLen;decide
   refine rFz [1] fun μ2 hle2 hno2 hat2=> .inl ⟨[[g]],?_,?_,?_,?_⟩
   ·refine Rows.sl hat2 (Rows.one (d:=csD [g]) ((Rows.sl (μ:=μ1) (ds:=[g.d]) hat1 (Rows.one (hv0.mono hle1) (Gl.d_n g)) (show 1≤maxLen by decide)).mono hle2) rfl) (show 1≤maxLen by decide)
   ·rw[Gl.cl_eq,if_neg h0,if_neg h1,if_neg h8,if_neg h7];rfl
   ·intro c hc
    rw[List.mem_singleton.1 hc]
    have:=g.cnt_pos
    simpa using this
   ·simp
  have hcl:g.cl=Gl.clAnd g.goals [[]]:=by rw[Gl.cl_eq,if_neg h0,if_neg h1,if_neg h8,if_pos h7]
  intro r48 μ1 hle1 hno1 hat1 r49
  refine gIn ?_ ?_ fun b9 c9 _=>?_
  ·show(0+1)*24≤_;decide
  ·show 0+1≤maxLen;decide
  refine lFz (fun q:Nat×List (List Gl)×Option Addr×Nat×Mem=>q.1≤g.goals.length∧μ.Le q.2.2.2.2∧Cls q.2.2.2.2 q.2.1 (.slice q.2.2.1 q.2.1.length q.2.2.2.1)∧g.cl=Gl.clAnd (g.goals.drop q.1) q.2.1∧(∀c∈q.2.1,c.length≤Gl.cnts (g.goals.take q.1))∧q.2.1.length≤64)
   (fun(i,acc,b,c,μ')=>⟨[(3,.val (.slice b acc.length c)),(52,.val (.slice p.2.1 g.goals.length p.2.2)),(53,.val (.int .i64 g.goals.length)),(54,.val (.int .i64 i))],[],0,μ',Mem.nil⟩) (fun q=>g.goals.length-q.1) [1]
   (fun(_,_,_,_,_)=>⟨rfl,rfl⟩) (fun μ2 hle2 hno2 hat2=>⟨(0,[[]],b9.map (fun r=>⟨r,0,none⟩),c9,μ2),⟨Nat.zero_le _,hle1.trans hle2,Rows.sl hat2 (Rows.one (d:=csD []) ((Rows.sl (μ:=μ1) (ds:=[]) hat1 .nil (Nat.zero_le _)).mono hle2) rfl) (show 1≤maxLen by decide),hcl,by simp,by simp⟩,⟨rfl,rfl,rfl,rfl,trivial⟩,trivial,rfl,rfl⟩) ?_
  rintro⟨i,acc,b,c,μ'⟩ ⟨hi,hle,hacc,hJ,hlen,hmax⟩
  dsimp only at hi hle hacc hJ hlen hmax
  refine ifd (fun hlt=>?_) (fun hlt=>?_)
  rotate_left
  ·obtain rfl : i = g.goals.length := by omega
   rw[List.drop_length,Gl.clAnd]at hJ
   rw[List.take_length]at hlen
   exact rPl ⟨acc,hacc,by rw[hJ,if_pos hmax],fun c hc=>by have:=hlen c hc;omega,by omega⟩
  have w_:=aSo (l:=g.goals) (i:=i) (by omega)
  obtain⟨x,hx⟩:=w_
  have w_:=Gl.elem (hgs.mono hle) hx
  obtain⟨ad,q,hel,hr⟩:=w_
  have hxc:=Gl.cnts_take hx
  have hxl:=Gl.cnts_le g.goals (i+1)
  refine eIn hel ?_
  intro r8
  refine cPl (ih x (mAt hx) hr (hS.sub x (mAt hx)) (by omega)) fun v3 μ3 hle3 hR=>?_
  obtain⟨L,hL⟩:=hR
  obtain⟨pv,rfl⟩:=hL.rep.inv
  have hLm:=hL.max
  rw[bR hx,Gl.clAnd,hL.cl]at hJ
  refine ifd (fun h64=>?_) (fun h64=>?_)
  ·refine rPl ⟨L, hL.rep, ?_, fun c hc => Nat.le_trans (hL.len c hc) (by omega), hLm⟩
   rw[if_neg (show ¬L.length≤64 by omega)]at hJ ⊢
   exact hJ
  rw[if_pos (show L.length≤64 by omega),Option.bind_some]at hJ
  intro r64
  have hasl:=(Cls.sl (RepV.mono hle3 hacc)).1
  refine lIn (fun q:Nat×Option Nat×Nat×List Value×Mem=>q.1≤acc.length∧μ3.Le q.2.2.2.2∧Rows q.2.2.2.2 1 ((cK (acc.take q.1) L).map csD) q.2.2.2.1)
   (fun(j,b1,c1,ys,μ4)=>⟨[(9,.val (.slice pv.1 L.length pv.2)),(10,.row 1 b1 ys.length c1),(52,.val (.slice p.2.1 g.goals.length p.2.2)),(53,.val (.int .i64 g.goals.length)),(54,.val (.int .i64 i)),(65,.val (.slice b acc.length c)),(66,.val (.int .i64 acc.length)),(67,.val (.int .i64 j))],[(1,some (.row b1 c1 59 1 ys))],2,μ4,Mem.nil⟩) (fun q=>acc.length-q.1)
   (0,some r64,0,[],μ3) ⟨Nat.zero_le _,Mem.Le.refl _,.nil⟩ (fun(_,_,_,_,_)=>⟨rfl,rfl⟩) ⟨⟨rfl,rfl,rfl,rfl,rfl,rfl,rfl,rfl,trivial⟩,⟨rfl,trivial⟩,rfl,rfl⟩ ?_
  rintro⟨j,b1,c1,ys,μ4⟩ ⟨hj,hle4,hrows⟩
  dsimp only at hj hle4 hrows
  have hyl:=hrows.len
  rw[List.length_map,dW,List.length_take]at hyl
  have hmul:min j acc.length*L.length≤64*64:=Nat.mul_le_mul (by omega) (by omega)
  refine ifd (fun hlt2=>?_) (fun hlt2=>?_)
  ·have w_ := aSo (l := acc) (i := j) (by omega)
   obtain⟨xa,hxa⟩:=w_
   have w_:=cF (hasl.mono hle4) hxa
   obtain⟨ad2,pa,hel2,hra⟩:=w_
   have hxal:=hlen xa (mAt hxa)
   have hmul2:j*L.length≤64*64:=Nat.mul_le_mul (by omega) (by omega)
   rw[Nat.min_eq_left (by omega)]at hyl
   refine eIn hel2 ?_
   refine lIn (fun q:Nat×Option Nat×Nat×List Value×Mem=>q.1≤L.length∧μ4.Le q.2.2.2.2∧Rows q.2.2.2.2 1 ((cK (acc.take j) L++(L.take q.1).map fun y=>xa++y).map csD) q.2.2.2.1)
    (fun(k,b1,c1,ys,μ5)=>⟨[(9,.val (.slice pv.1 L.length pv.2)),(10,.row 1 b1 ys.length c1),(12,.val (.slice pa.1 xa.length pa.2)),(52,.val (.slice p.2.1 g.goals.length p.2.2)),(53,.val (.int .i64 g.goals.length)),(54,.val (.int .i64 i)),(65,.val (.slice b acc.length c)),(66,.val (.int .i64 acc.length)),(67,.val (.int .i64 j)),(71,.val (.slice pv.1 L.length pv.2)),(72,.val (.int .i64 L.length)),(73,.val (.int .i64 k))],[(1,some (.row b1 c1 59 1 ys))],2,μ5,Mem.nil⟩) (fun q=>L.length-q.1)
    (0,b1,c1,ys,μ4) ⟨Nat.zero_le _,Mem.Le.refl _,by simpa using hrows⟩ (fun(_,_,_,_,_)=>⟨rfl,rfl⟩) ⟨⟨rfl,rfl,rfl,rfl,rfl,rfl,rfl,rfl,rfl,rfl,rfl,rfl,trivial⟩,⟨rfl,trivial⟩,rfl,rfl⟩ ?_
   clear hrows
   rintro⟨k,b2,c2,zs,μ5⟩ ⟨hk,hle5,hrows2⟩
   dsimp only at hk hle5 hrows2
   have hzl:=hrows2.len
   rw[List.length_map,List.length_append,dW,List.length_map,List.length_take,List.length_take,Nat.min_eq_left (show j≤acc.length by omega),Nat.min_eq_left hk]at hzl
   refine ifd (fun hlt3=>?_) (fun hlt3=>?_)
   ·have w_ := aSo (l := L) (i := k) (by omega)
    obtain⟨y,hy⟩:=w_
    have w_:=cF (((Cls.sl hL.rep).1.mono hle4).mono hle5) hy
    obtain⟨ad3,py,hel3,hry⟩:=w_
    have hyl2:=hL.len y (mAt hy)
    have w_:=mI (hra.mono hle5)
    obtain⟨vx,hvx,hvxl,hsx⟩:=w_
    have w_:=mI hry
    obtain⟨vy,hvy,hvyl,hsy⟩:=w_
    refine eIn hel3 ?_
    intro r78
    refine aJ vx hsx ?_
    refine gIn ?_ ?_ fun b6 c6 _=>?_
    ·show(0+vx.length)*72≤_;omega
    ·exact Nat.le_trans (m:=100000000) (show 0+vx.length≤_ by omega) (by decide)
    refine aJ vy hsy ?_
    refine gIn ?_ ?_ fun b7 c7 _=>?_
    ·show((([]:List Value)++vx).length+vy.length)*72≤_;simp;omega
    ·exact Nat.le_trans (m:=100000000) (show(([]:List Value)++vx).length+vy.length≤_ by simp;omega) (by decide)
    intro μ6 hle6 hno6 hat6 r83
    refine gIn ?_ ?_ fun b8 c8 _=>?_
    ·show(zs.length+1)*24≤_;omega
    ·exact Nat.le_trans (m:=100000000) (show zs.length+1≤_ by omega) (by decide)
    have hrow:RepV μ6 (csD (xa++y)) (.slice (b7.map fun r=>⟨r,0,none⟩) (([]:List Value)++vx++vy).length c7):=by
     have:=Rows.sl hat6 ((hvx.append hvy).mono hle6) (Nat.le_trans (m:=100000000) (by simp;omega) (by decide))
     rw[←List.map_append]at this
     exact this
    refine aB (by omega) (by omega) ⟨(k+1,b8,c8,_,μ6),⟨by dsimp only;omega,hle5.trans hle6,?_⟩,by dsimp only;omega,⟨⟨rfl,rfl,rfl,rfl,rfl,rfl,rfl,rfl,rfl,rfl,rfl,rfl,trivial⟩,⟨rfl,trivial⟩,rfl,rfl⟩⟩
    dsimp only
    rw[List.take_add_one,hy,Option.toList_some,List.map_append (f:=fun y=>xa++y),←List.append_assoc,List.map_append (f:=csD)]
    exact(hrows2.mono hle6).append (Rows.one hrow rfl)
   ·obtain rfl : k = L.length := by omega
    rw[List.take_length,←nN hxa]at hrows2
    exact aB (by omega) (by omega) ⟨(j+1,b2,c2,zs,μ5),⟨by dsimp only;omega,hle4.trans hle5,hrows2⟩,by dsimp only;omega,⟨⟨rfl,rfl,rfl,rfl,rfl,rfl,rfl,rfl,trivial⟩,⟨rfl,trivial⟩,rfl,rfl⟩⟩
  ·obtain rfl : j = acc.length := by omega
   rw[List.take_length]at hrows
   rw[Nat.min_self]at hyl hmul
   have hpl:=dW acc L
   have hzlen:∀c∈cK acc L,c.length≤Gl.cnts (g.goals.take (i+1)):=fun c hc=>by
    have w_:=jO hc
    obtain⟨u,hu,w,hw,rfl⟩:=w_
    have h1:=hlen u hu
    have h2:=hL.len w hw
    rw[List.length_append];omega
   refine ifd (fun hb=>?_) (fun hb=>?_)
   ·refine rFz [1] fun μ5 hle5 hno5 hat5 => .inl ⟨cK acc L, ?_, ?_, fun c hc => by have := hzlen c hc; omega, by omega⟩
    ·have := Rows.sl hat5 (hrows.mono hle5) (Nat.le_trans (m := 100000000) (by omega) (by decide))
     exact this
    ·rw [if_neg (by omega)] at hJ ⊢
     exact hJ
   ·rw [if_pos (by omega)] at hJ
    refine aB (by omega) (by omega) ⟨[1],fun μ5 hle5 hno5 hat5=>⟨(i+1,cK acc L,b1.map (fun r=>⟨r,0,none⟩),c1,μ5),⟨by dsimp only;omega,((hle.trans hle3).trans hle4).trans hle5,?_,hJ,hzlen,by dsimp only;omega⟩,by dsimp only;omega,⟨⟨?_,rfl,rfl,rfl,trivial⟩,trivial,rfl,rfl⟩⟩⟩
    ·have := Rows.sl hat5 (hrows.mono hle5) (Nat.le_trans (m := 100000000) (by omega) (by decide))
     rw[←hyl,←hpl]at this
     exact this
    ·show some (SV.val (.slice _ _ _)) = some (SV.val (.slice _ _ _))
     rw[hpl,hyl]
end
end Go.Vx
namespace Go.Vx
open Go.Proofs Classical
theorem wD{a l:List (List Gl)}{m n:Nat}(h1:∀c∈a,c.length≤m)(h2:∀c∈l,c.length≤n):∀c∈cK a l,c.length≤m+n:=fun c hc=>by
 have w_:=jO hc
 obtain⟨u,hu,w,hw,rfl⟩:=w_
 have:=h1 u hu
 have:=h2 w hw
 rw[List.length_append];omega
mutual
theorem Gl.cl_bnd:∀(g:Gl) {L:List (List Gl)},g.cl=some L→(∀c∈L,c.length≤g.cnt)∧L.length≤64
 | .mk k s ts gs,L,h=>by
  rw[Gl.cl]at h
  rw[Gl.cnt]
  split at h
  ·cases h;simp
  split at h
  ·cases h;simp
  split at h
  ·have := Gl.clOr_bnd gs (acc := []) (n := 0) (by simp) (by simp) h
   exact⟨fun c hc=>by have:=this.1 c hc;omega,this.2⟩
  split at h
  ·have := Gl.clAnd_bnd gs (acc := [[]]) (n := 0) (by simp) (by simp) h
   exact⟨fun c hc=>by have:=this.1 c hc;omega,this.2⟩
  ·cases h
   refine⟨fun c hc=>?_,by simp⟩
   rw[List.mem_singleton.1 hc,List.length_singleton];omega
theorem Gl.clOr_bnd:∀(gs:List Gl) {acc L:List (List Gl)} {n:Nat},(∀c∈acc,c.length≤n)→acc.length≤64→Gl.clOr gs acc=some L→(∀c∈L,c.length≤n+Gl.cnts gs)∧L.length≤64
 |[],acc,L,n,h1,h2,h=>by
  rw[Gl.clOr]at h;cases h
  exact⟨fun c hc=>Nat.le_trans (h1 c hc) (Nat.le_add_right _ _),h2⟩
 |g::gs,acc,L,n,h1,h2,h=>by
  rw[Gl.clOr]at h
  cases e:g.cl with
  |none=>rw[e]at h;cases h
  |some l=>
   rw[e,Option.bind_some]at h
   have hb:=Gl.cl_bnd g e
   split at h
   ·rename_i h64
    have:=Gl.clOr_bnd gs (acc:=acc++l) (n:=n+g.cnt) (fun c hc=>by
     rcases List.mem_append.1 hc with hc|hc
     ·have:=h1 c hc;omega
     ·have:=hb.1 c hc;omega) h64 h
    rw[Gl.cnts]
    exact⟨fun c hc=>by have:=this.1 c hc;omega,this.2⟩
   ·cases h
theorem Gl.clAnd_bnd:∀(gs:List Gl) {acc L:List (List Gl)} {n:Nat},(∀c∈acc,c.length≤n)→acc.length≤64→Gl.clAnd gs acc=some L→(∀c∈L,c.length≤n+Gl.cnts gs)∧L.length≤64
 |[],acc,L,n,h1,h2,h=>by
  rw[Gl.clAnd]at h;cases h
  exact⟨fun c hc=>Nat.le_trans (h1 c hc) (Nat.le_add_right _ _),h2⟩
 |g::gs,acc,L,n,h1,h2,h=>by
  rw[Gl.clAnd]at h
  cases e:g.cl with
  |none=>rw[e]at h;cases h
  |some l=>
   rw[e,Option.bind_some]at h
   have hb:=Gl.cl_bnd g e
   split at h
   ·rename_i h64
    have:=Gl.clAnd_bnd gs (acc:=cK acc l) (n:=n+g.cnt) (wD h1 hb.1) h64 h
    rw[Gl.cnts]
    exact⟨fun c hc=>by have:=this.1 c hc;omega,this.2⟩
   ·cases h
end
def qQc(P:List (List Gl)→Value→Prop)(o:Option (List (List Gl)))(v:Value):Prop:=match o with
 |some L=>∃tv,v= .tuple #[tv,.bool true]∧P L tv
 |none=>v= .tuple #[.slice none 0 0,.bool false]
section
variable {μ:Mem}
set_option maxHeartbeats 8000000 in
theorem gF:∀(g:Gl) {μ:Mem} {v:Value},RepV μ g.d v→g.Sh→g.cnt≤80→Spec Tryz.prog 161 [v] μ fun v μ'=>qQc (Cls μ') g.cl v:=
 Gl.ind fun g ih μ v hv hS hcnt=>by
  have hv0:=hv
  have w_:=Gl.inv hv
  obtain⟨p,rfl,hts,hgs⟩:=w_
  have hg8:=hS.top.gl
  have hce:=Gl.cnt_eq1 g
  refine Spec.mk Tryz.func161 (by kernel_rfl) ?_
  intro r1 r19
  refine ifd (fun h0=>?_) (fun h0=>?_)
  ·intro r27 μ1 hle1 hno1 hat1 r28
   refine rFz [3] fun μ2 hle2 hno2 hat2=> .inl ?_
   rw[Gl.cl_eq,if_pos h0]
   exact⟨_,rfl,Rows.sl hat2 (Rows.one (d:=csD []) ((Rows.sl (μ:=μ1) (ds:=[]) hat1 .nil (Nat.zero_le _)).mono hle2) rfl) (show 1≤maxLen by decide)⟩
  refine ifd (fun h1=>?_) (fun h1=>?_)
  ·refine rFz [1] fun μ2 hle2 hno2 hat2 => .inl ?_
   rw[Gl.cl_eq,if_neg h0,if_pos h1]
   exact⟨_,rfl,Rows.sl hat2 .nil (Nat.zero_le _)⟩
  refine ifd (fun h8=>?_) (fun h8=>?_)
  ·have hcl : g.cl = Gl.clOr g.goals [] := by rw [Gl.cl_eq, if_neg h0, if_neg h1, if_pos h8]
   refine lIn (fun q:Nat×List (List Gl)×Option Nat×Nat×List Value×Mem=>q.1≤g.goals.length∧μ.Le q.2.2.2.2.2∧Rows q.2.2.2.2.2 1 (q.2.1.map csD) q.2.2.2.2.1∧g.cl=Gl.clOr (g.goals.drop q.1) q.2.1∧q.2.1.length≤64)
    (fun(i,acc,b,c,ys,μ')=>⟨[(4,.row 1 b ys.length c),(34,.val (.slice p.2.1 g.goals.length p.2.2)),(35,.val (.int .i64 g.goals.length)),(36,.val (.int .i64 i))],[(1,some (.row b c 59 1 ys))],2,μ',Mem.nil⟩) (fun q=>g.goals.length-q.1)
    (0,[],some r19,0,[],μ) ⟨Nat.zero_le _,Mem.Le.refl _,.nil,hcl,by simp⟩ (fun(_,_,_,_,_,_)=>⟨rfl,rfl⟩) ⟨⟨rfl,rfl,rfl,rfl,trivial⟩,⟨rfl,trivial⟩,rfl,rfl⟩ ?_
   rintro⟨i,acc,b,c,ys,μ'⟩ ⟨hi,hle,hrows,hJ,hmax⟩
   dsimp only at hi hle hrows hJ hmax
   have hyl:=hrows.len
   rw[List.length_map]at hyl
   refine ifd (fun hlt=>?_) (fun hlt=>?_)
   ·have w_ := aSo (l := g.goals) (i := i) (by omega)
    obtain⟨x,hx⟩:=w_
    have w_:=Gl.elem (hgs.mono hle) hx
    obtain⟨ad,q,hel,hr⟩:=w_
    have hxc:=Gl.cnts_take hx
    have hxl:=Gl.cnts_le g.goals (i+1)
    refine eIn hel ?_
    intro r5
    refine cPl (ih x (mAt hx) hr (hS.sub x (mAt hx)) (by omega)) fun v1 μ1 hle1 hR=>?_
    rw[bR hx,Gl.clOr]at hJ
    cases e:x.cl with
    |none=>
     rw[e]at hR hJ
     obtain rfl:=hR
     refine iIn (fun _=>?_) (fun h=>nomatch h)
     exact rPl (by rw[hJ];rfl)
    |some L=>
     rw[e]at hR
     rw[e,Option.bind_some]at hJ
     obtain⟨tv,rfl,hLr⟩:=hR
     obtain⟨pv,rfl⟩:=hLr.inv
     have hLb:=Gl.cl_bnd x e
     have w_:=Rep.srcAll hLr
     obtain⟨vs,hvr,hvl,hsrc⟩:=w_
     refine iIn (fun h=>nomatch h) (fun _=>?_)
     refine aJ vs hsrc ?_
     refine gIn ?_ ?_ fun b9 c9 _=>?_
     ·show(ys.length+vs.length)*24≤_;omega
     ·exact Nat.le_trans (m:=100000000) (show ys.length+vs.length≤_ by omega) (by decide)
     have hal:(ys++vs).length=(acc++L).length:=by rw[List.length_append,List.length_append];omega
     refine ifd (fun h64=>?_) (fun h64=>?_)
     ·rw [if_neg (by omega)] at hJ
      exact rPl (by rw[hJ];rfl)
     ·rw [if_pos (by omega)] at hJ
      refine aB (by omega) (by omega) ⟨(i+1,acc++L,b9,c9,_,μ1),⟨by dsimp only;omega,hle.trans hle1,?_,hJ,by dsimp only;omega⟩,by dsimp only;omega,⟨⟨rfl,rfl,rfl,rfl,trivial⟩,⟨rfl,trivial⟩,rfl,rfl⟩⟩
      dsimp only
      rw[List.map_append]
      exact(hrows.mono hle1).append hvr
   ·obtain rfl : i = g.goals.length := by omega
    rw[List.drop_length,Gl.clOr]at hJ
    refine rFz [1] fun μ2 hle2 hno2 hat2=> .inl ?_
    rw[hJ]
    exact⟨_,rfl,Rows.sl hat2 (hrows.mono hle2) (Nat.le_trans (m:=100000000) (by omega) (by decide))⟩
  refine ifd (fun h7=>?_) (fun h7=>?_)
  rotate_left
  ·intro r23 μ1 hle1 hno1 hat1 r24
   refine rFz [3] fun μ2 hle2 hno2 hat2=> .inl ?_
   rw[Gl.cl_eq,if_neg h0,if_neg h1,if_neg h8,if_neg h7]
   exact⟨_,rfl,Rows.sl hat2 (Rows.one (d:=csD [g]) ((Rows.sl (μ:=μ1) (ds:=[g.d]) hat1 (Rows.one (hv0.mono hle1) (Gl.d_n g)) (show 1≤maxLen by decide)).mono hle2) rfl) (show 1≤maxLen by decide)⟩
  have hcl:g.cl=Gl.clAnd g.goals [[]]:=by rw[Gl.cl_eq,if_neg h0,if_neg h1,if_neg h8,if_pos h7]
  intro r56 μ1 hle1 hno1 hat1 r57
  refine lFz (fun q:Nat×List (List Gl)×Option Addr×Nat×Mem=>q.1≤g.goals.length∧μ.Le q.2.2.2.2∧Cls q.2.2.2.2 q.2.1 (.slice q.2.2.1 q.2.1.length q.2.2.2.1)∧g.cl=Gl.clAnd (g.goals.drop q.1) q.2.1∧(∀c∈q.2.1,c.length≤Gl.cnts (g.goals.take q.1))∧q.2.1.length≤64)
   (fun(i,acc,b,c,μ')=>⟨[(4,.val (.slice b acc.length c)),(9,.val (.bool false)),(59,.val (.slice p.2.1 g.goals.length p.2.2)),(60,.val (.int .i64 g.goals.length)),(61,.val (.int .i64 i))],[],0,μ',Mem.nil⟩) (fun q=>g.goals.length-q.1) [3]
   (fun(_,_,_,_,_)=>⟨rfl,rfl⟩) (fun μ2 hle2 hno2 hat2=>⟨(0,[[]],some ⟨r57,0,none⟩,1,μ2),⟨Nat.zero_le _,hle1.trans hle2,Rows.sl hat2 (Rows.one (d:=csD []) ((Rows.sl (μ:=μ1) (ds:=[]) hat1 .nil (Nat.zero_le _)).mono hle2) rfl) (show 1≤maxLen by decide),hcl,by simp,by simp⟩,⟨rfl,rfl,rfl,rfl,rfl,trivial⟩,trivial,rfl,rfl⟩) ?_
  rintro⟨i,acc,b,c,μ'⟩ ⟨hi,hle,hacc,hJ,hlen,hmax⟩
  dsimp only at hi hle hacc hJ hlen hmax
  refine ifd (fun hlt=>?_) (fun hlt=>?_)
  rotate_left
  ·obtain rfl : i = g.goals.length := by omega
   rw[List.drop_length,Gl.clAnd]at hJ
   exact rPl (by rw[hJ];exact⟨_,rfl,hacc⟩)
  have w_:=aSo (l:=g.goals) (i:=i) (by omega)
  obtain⟨x,hx⟩:=w_
  have w_:=Gl.elem (hgs.mono hle) hx
  obtain⟨ad,q,hel,hr⟩:=w_
  have hxc:=Gl.cnts_take hx
  have hxl:=Gl.cnts_le g.goals (i+1)
  refine eIn hel ?_
  intro r11
  refine cPl (ih x (mAt hx) hr (hS.sub x (mAt hx)) (by omega)) fun v3 μ3 hle3 hR=>?_
  rw[bR hx,Gl.clAnd]at hJ
  obtain⟨o,e⟩:∃o,x.cl=o:=⟨_,rfl⟩
  rw[e]at hR hJ
  match o,e,hR,hJ with
  |none,e,hR,hJ=>
  obtain rfl:=hR
  refine iIn (fun _=>?_) (fun h=>nomatch h)
  exact rPl (by rw[hJ];rfl)
  |some L,e,hR,hJ=>
  obtain⟨tv,rfl,hLr⟩:=hR
  obtain⟨pv,rfl⟩:=hLr.inv
  have hLb:=Gl.cl_bnd x e
  have hLl:=hLb.1
  have hLm:=hLb.2
  rw[Option.bind_some]at hJ
  refine iIn (fun h=>nomatch h) (fun _=>?_)
  intro r64
  have hasl:=(Cls.sl (RepV.mono hle3 hacc)).1
  refine lIn (fun q:Nat×Option Nat×Nat×List Value×Mem=>q.1≤acc.length∧μ3.Le q.2.2.2.2∧Rows q.2.2.2.2 1 ((cK (acc.take q.1) L).map csD) q.2.2.2.1)
   (fun(j,b1,c1,ys,μ4)=>⟨[(9,.val (.bool false)),(12,.val (.slice pv.1 L.length pv.2)),(14,.row 1 b1 ys.length c1),(59,.val (.slice p.2.1 g.goals.length p.2.2)),(60,.val (.int .i64 g.goals.length)),(61,.val (.int .i64 i)),(73,.val (.slice b acc.length c)),(74,.val (.int .i64 acc.length)),(75,.val (.int .i64 j))],[(1,some (.row b1 c1 59 1 ys))],2,μ4,Mem.nil⟩) (fun q=>acc.length-q.1)
   (0,some r64,0,[],μ3) ⟨Nat.zero_le _,Mem.Le.refl _,.nil⟩ (fun(_,_,_,_,_)=>⟨rfl,rfl⟩) ⟨⟨rfl,rfl,rfl,rfl,rfl,rfl,rfl,rfl,rfl,trivial⟩,⟨rfl,trivial⟩,rfl,rfl⟩ ?_
  rintro⟨j,b1,c1,ys,μ4⟩ ⟨hj,hle4,hrows⟩
  dsimp only at hj hle4 hrows
  have hyl:=hrows.len
  rw[List.length_map,dW,List.length_take]at hyl
  have hmul:min j acc.length*L.length≤64*64:=Nat.mul_le_mul (by omega) (by omega)
  refine ifd (fun hlt2=>?_) (fun hlt2=>?_)
  ·have w_ := aSo (l := acc) (i := j) (by omega)
   obtain⟨xa,hxa⟩:=w_
   have w_:=cF (hasl.mono hle4) hxa
   obtain⟨ad2,pa,hel2,hra⟩:=w_
   have hxal:=hlen xa (mAt hxa)
   have hmul2:j*L.length≤64*64:=Nat.mul_le_mul (by omega) (by omega)
   rw[Nat.min_eq_left (by omega)]at hyl
   refine eIn hel2 ?_
   refine lIn (fun q:Nat×Option Nat×Nat×List Value×Mem=>q.1≤L.length∧μ4.Le q.2.2.2.2∧Rows q.2.2.2.2 1 ((cK (acc.take j) L++(L.take q.1).map fun y=>xa++y).map csD) q.2.2.2.1)
    (fun(k,b1,c1,ys,μ5)=>⟨[(9,.val (.bool false)),(12,.val (.slice pv.1 L.length pv.2)),(14,.row 1 b1 ys.length c1),(16,.val (.slice pa.1 xa.length pa.2)),(59,.val (.slice p.2.1 g.goals.length p.2.2)),(60,.val (.int .i64 g.goals.length)),(61,.val (.int .i64 i)),(73,.val (.slice b acc.length c)),(74,.val (.int .i64 acc.length)),(75,.val (.int .i64 j)),(79,.val (.slice pv.1 L.length pv.2)),(80,.val (.int .i64 L.length)),(81,.val (.int .i64 k))],[(1,some (.row b1 c1 59 1 ys))],2,μ5,Mem.nil⟩) (fun q=>L.length-q.1)
    (0,b1,c1,ys,μ4) ⟨Nat.zero_le _,Mem.Le.refl _,by simpa using hrows⟩ (fun(_,_,_,_,_)=>⟨rfl,rfl⟩) ⟨⟨rfl,rfl,rfl,rfl,rfl,rfl,rfl,rfl,rfl,rfl,rfl,rfl,rfl,trivial⟩,⟨rfl,trivial⟩,rfl,rfl⟩ ?_
   clear hrows
   rintro⟨k,b2,c2,zs,μ5⟩ ⟨hk,hle5,hrows2⟩
   dsimp only at hk hle5 hrows2
   have hzl:=hrows2.len
   rw[List.length_map,List.length_append,dW,List.length_map,List.length_take,List.length_take,Nat.min_eq_left (show j≤acc.length by omega),Nat.min_eq_left hk]at hzl
   refine ifd (fun hlt3=>?_) (fun hlt3=>?_)
   ·have w_ := aSo (l := L) (i := k) (by omega)
    obtain⟨y,hy⟩:=w_
    have w_:=cF (((Cls.sl hLr).1.mono hle4).mono hle5) hy
    obtain⟨ad3,py,hel3,hry⟩:=w_
    have hyl2:=hLl y (mAt hy)
    have w_:=mI (hra.mono hle5)
    obtain⟨vx,hvx,hvxl,hsx⟩:=w_
    have w_:=mI hry
    obtain⟨vy,hvy,hvyl,hsy⟩:=w_
    refine eIn hel3 ?_
    intro r78
    refine aJ vx hsx ?_
    refine gIn ?_ ?_ fun b6 c6 _=>?_
    ·show(0+vx.length)*72≤_;omega
    ·exact Nat.le_trans (m:=100000000) (show 0+vx.length≤_ by omega) (by decide)
    refine aJ vy hsy ?_
    refine gIn ?_ ?_ fun b7 c7 _=>?_
    ·show((([]:List Value)++vx).length+vy.length)*72≤_;simp;omega
    ·exact Nat.le_trans (m:=100000000) (show(([]:List Value)++vx).length+vy.length≤_ by simp;omega) (by decide)
    intro μ6 hle6 hno6 hat6 r83
    refine gIn ?_ ?_ fun b8 c8 _=>?_
    ·show(zs.length+1)*24≤_;omega
    ·exact Nat.le_trans (m:=100000000) (show zs.length+1≤_ by omega) (by decide)
    have hrow:RepV μ6 (csD (xa++y)) (.slice (b7.map fun r=>⟨r,0,none⟩) (([]:List Value)++vx++vy).length c7):=by
     have:=Rows.sl hat6 ((hvx.append hvy).mono hle6) (Nat.le_trans (m:=100000000) (by simp;omega) (by decide))
     rw[←List.map_append]at this
     exact this
    refine aB (by omega) (by omega) ⟨(k+1,b8,c8,_,μ6),⟨by dsimp only;omega,hle5.trans hle6,?_⟩,by dsimp only;omega,⟨⟨rfl,rfl,rfl,rfl,rfl,rfl,rfl,rfl,rfl,rfl,rfl,rfl,rfl,trivial⟩,⟨rfl,trivial⟩,rfl,rfl⟩⟩
    dsimp only
    rw[List.take_add_one,hy,Option.toList_some,List.map_append (f:=fun y=>xa++y),←List.append_assoc,List.map_append (f:=csD)]
    exact(hrows2.mono hle6).append (Rows.one hrow rfl)
   ·obtain rfl : k = L.length := by omega
    rw[List.take_length,←nN hxa]at hrows2
    exact aB (by omega) (by omega) ⟨(j+1,b2,c2,zs,μ5),⟨by dsimp only;omega,hle4.trans hle5,hrows2⟩,by dsimp only;omega,⟨⟨rfl,rfl,rfl,rfl,rfl,rfl,rfl,rfl,rfl,trivial⟩,⟨rfl,trivial⟩,rfl,rfl⟩⟩
  ·obtain rfl : j = acc.length := by omega
   rw[List.take_length]at hrows
   rw[Nat.min_self]at hyl hmul
   have hpl:=dW acc L
   have hzlen:∀c∈cK acc L,c.length≤Gl.cnts (g.goals.take (i+1)):=fun c hc=>by
    have w_:=jO hc
    obtain⟨u,hu,w,hw,rfl⟩:=w_
    have h1:=hlen u hu
    have h2:=hLl w hw
    rw[List.length_append];omega
   refine iIn (fun h=>nomatch h) (fun _=>?_)
   refine ifd (fun hb=>?_) (fun hb=>?_)
   ·rw [if_neg (by omega)] at hJ
    exact rPl (by rw[hJ];rfl)
   ·rw [if_pos (by omega)] at hJ
    refine aB (by omega) (by omega) ⟨[1],fun μ5 hle5 hno5 hat5=>⟨(i+1,cK acc L,b1.map (fun r=>⟨r,0,none⟩),c1,μ5),⟨by dsimp only;omega,((hle.trans hle3).trans hle4).trans hle5,?_,hJ,hzlen,by dsimp only;omega⟩,by dsimp only;omega,⟨⟨?_,?_,rfl,rfl,rfl,trivial⟩,trivial,rfl,rfl⟩⟩⟩
    ·have := Rows.sl hat5 (hrows.mono hle5) (Nat.le_trans (m := 100000000) (by omega) (by decide))
     rw[←hyl,←hpl]at this
     exact this
    ·show some (SV.val (.slice _ _ _)) = some (SV.val (.slice _ _ _))
     rw[hpl,hyl]
    ·show some (SV.val (.bool _)) = some (SV.val (.bool _))
     rw[decide_eq_false hb]
end
end Go.Vx
namespace Go.Vx
open Go.Proofs Classical
section
variable {μ:Mem}
theorem lQ{c:List Gl}{base:Option Addr}{cap:Nat}(hsl:Sl μ 4 base c.length (c.map Gl.d))(hn:c.length≤1000000)(hS:∀x∈c,x.Sh):
  Spec Tryz.prog 170 [.slice base c.length cap] μ fun v μ'=>RepV μ' (csD c) v:=by
 refine Spec.mk Tryz.func170 (by kernel_rfl) ?_
 intro r6
 refine lIn (fun p:Nat×Option Nat×Nat×List Value×Mem=>p.1≤c.length∧μ.Le p.2.2.2.2∧Rows p.2.2.2.2 4 ((c.take p.1).map Gl.d) p.2.2.2.1)
  (fun(i,b,k,ys,μ')=>⟨[(3,.row 0 b ys.length k),(7,.val (.slice base c.length cap)),(8,.val (.int .i64 c.length)),(9,.val (.int .i64 i))],[(0,some (.row b k 61 4 ys))],1,μ',Mem.nil⟩) (fun p=>c.length-p.1)
  (0,some r6,0,[],μ) ⟨by simp,Mem.Le.refl _,.nil⟩ (fun(_,_,_,_,_)=>⟨rfl,rfl⟩) ⟨⟨rfl,rfl,rfl,rfl,trivial⟩,⟨rfl,trivial⟩,rfl,rfl⟩ ?_
 rintro⟨i,b,k,ys,μ'⟩ ⟨hi,hle,hrows⟩
 dsimp only at hi hle hrows
 have hlen:=hrows.len
 simp only[List.length_map,List.length_take]at hlen
 refine ifd (fun h=>?_) (fun h=>?_)
 ·have w_ := aSo (l := c) (i := i) (by omega)
  obtain⟨x,hx⟩:=w_
  have w_:=Gl.elem (hsl.mono hle) hx
  obtain⟨ad,p,hel,hr⟩:=w_
  refine eIn hel ?_
  intro r5
  refine cPl (lP x hr (hS x (mAt hx))) fun v4 μ4 hle4 hR4=>?_
  have w_:=Gl.invV hR4
  obtain⟨q,rfl⟩:=w_
  intro r16
  refine gIn ?_ ?_ fun b' c' _=>?_
  ·show(ys.length+1)*72≤_;omega
  ·exact Nat.le_trans (m:=100000000) (show ys.length+1≤_ by omega) (by decide)
  refine aB (by omega) (by omega) ⟨(i+1,b',c',_,μ4),⟨by dsimp only;omega,hle.trans hle4,?_⟩,by dsimp only;omega,⟨⟨rfl,rfl,rfl,rfl,trivial⟩,⟨rfl,trivial⟩,rfl,rfl⟩⟩
  dsimp only
  rw[List.take_add_one,hx,Option.toList_some,List.map_append]
  exact(hrows.mono hle4).append (Rows.one hR4 (Gl.d_n _))
 ·obtain rfl : i = c.length := by omega
  rw[List.take_length]at hrows
  refine rFz [0] fun μ' hle' hno hrow=> .inl ?_
  exact Rows.sl hrow (hrows.mono hle') (Nat.le_trans (m:=100000000) (by omega) (by decide))
mutual
theorem Gl.cl_Sh:∀(g:Gl) {L:List (List Gl)},g.Sh→g.cl=some L→∀c∈L,∀x∈c,x.Sh
 | .mk k s ts gs,L,hS,h=>by
  have hsub:∀x∈gs,x.Sh:=hS.sub
  rw[Gl.cl]at h
  split at h
  ·cases h;simp
  split at h
  ·cases h;simp
  split at h
  ·exact Gl.clOr_Sh gs hsub (by simp) h
  split at h
  ·exact Gl.clAnd_Sh gs hsub (by simp) h
  ·cases h
   intro c hc x hx
   rw[List.mem_singleton.1 hc]at hx
   rw[List.mem_singleton.1 hx];exact hS
theorem Gl.clOr_Sh:∀(gs:List Gl) {acc L:List (List Gl)},(∀x∈gs,x.Sh)→(∀c∈acc,∀x∈c,x.Sh)→Gl.clOr gs acc=some L→∀c∈L,∀x∈c,x.Sh
 |[],acc,L,_,h1,h=>by
  rw[Gl.clOr]at h;cases h;exact h1
 |g::gs,acc,L,hS,h1,h=>by
  rw[Gl.clOr]at h
  cases e:g.cl with
  |none=>rw[e]at h;cases h
  |some l=>
   rw[e,Option.bind_some]at h
   have hb:=Gl.cl_Sh g (hS g (by simp)) e
   split at h
   ·exact Gl.clOr_Sh gs (acc:=acc++l) (fun x hx=>hS x (by simp[hx])) (fun c hc=>by
     rcases List.mem_append.1 hc with hc|hc
     ·exact h1 c hc
     ·exact hb c hc) h
   ·cases h
theorem Gl.clAnd_Sh:∀(gs:List Gl) {acc L:List (List Gl)},(∀x∈gs,x.Sh)→(∀c∈acc,∀x∈c,x.Sh)→Gl.clAnd gs acc=some L→∀c∈L,∀x∈c,x.Sh
 |[],acc,L,_,h1,h=>by
  rw[Gl.clAnd]at h;cases h;exact h1
 |g::gs,acc,L,hS,h1,h=>by
  rw[Gl.clAnd]at h
  cases e:g.cl with
  |none=>rw[e]at h;cases h
  |some l=>
   rw[e,Option.bind_some]at h
   have hb:=Gl.cl_Sh g (hS g (by simp)) e
   split at h
   ·exact Gl.clAnd_Sh gs (acc:=cK acc l) (fun x hx=>hS x (by simp[hx])) (fun c hc=>by
     have w_:=jO hc
     obtain⟨u,hu,w,hw,rfl⟩:=w_
     intro x hx
     rcases List.mem_append.1 hx with hx|hx
     ·exact h1 u hu x hx
     ·exact hb w hw x hx) h
   ·cases h
end
theorem gE{g:Gl}{v:Value}(hv:RepV μ g.d v)(hw:g.d.wd)(hok:g.Ok):Spec Tryz.prog 93 [v] μ fun v μ'=>qQc (Cls μ') g.cl v:=by
 have hv0:=hv
 have w_:=Gl.inv hv
 obtain⟨p,rfl,-,-⟩:=w_
 refine Spec.mk Tryz.func93 (by kernel_rfl) ?_
 intro r1
 refine cGv (cW g hv0 hw) ?_
 refine aL (fun h=>absurd hok h) (fun _=>?_)
 refine cPl (mB g hv0 hok.1 hok.2) fun v1 μ1 hle1 hR=>?_
 obtain⟨L,hL⟩:=hR
 obtain⟨pv,rfl⟩:=hL.rep.inv
 have hcl:=hL.cl
 refine ifd (fun h64=>?_) (fun h64=>?_)
 ·rw [if_neg (by omega)] at hcl
  exact rPl (by rw[hcl];rfl)
 rw[if_pos (by omega)]at hcl
 rw[hcl]
 have hSh:=Gl.cl_Sh g hok.1 hcl
 have hbd:=Gl.cl_bnd g hcl
 have h80:=hok.2
 have hsl:=(Cls.sl hL.rep).1
 intro r16
 refine lIn (fun p:Nat×Option Nat×Nat×List Value×Mem=>p.1≤L.length∧μ1.Le p.2.2.2.2∧Rows p.2.2.2.2 1 ((L.take p.1).map csD) p.2.2.2.1)
  (fun(i,b,k,ys,μ')=>⟨[(5,.row 1 b ys.length k),(17,.val (.slice pv.1 L.length pv.2)),(18,.val (.int .i64 L.length)),(19,.val (.int .i64 i))],[(1,some (.row b k 59 1 ys))],2,μ',Mem.nil⟩) (fun p=>L.length-p.1)
  (0,some r16,0,[],μ1) ⟨by simp,Mem.Le.refl _,.nil⟩ (fun(_,_,_,_,_)=>⟨rfl,rfl⟩) ⟨⟨rfl,rfl,rfl,rfl,trivial⟩,⟨rfl,trivial⟩,rfl,rfl⟩ ?_
 rintro⟨i,b,k,ys,μ'⟩ ⟨hi,hle,hrows⟩
 dsimp only at hi hle hrows
 have hlen:=hrows.len
 simp only[List.length_map,List.length_take]at hlen
 refine ifd (fun h=>?_) (fun h=>?_)
 ·have w_ := aSo (l := L) (i := i) (by omega)
  obtain⟨c,hc⟩:=w_
  have w_:=cF (hsl.mono hle) hc
  obtain⟨ad,pc,hel,hrc⟩:=w_
  have hcl2:=hbd.1 c (mAt hc)
  have hcs:Sl μ' 4 pc.1 c.length (c.map Gl.d):=by
   have w_:=Rep.sl (xs:=c.map Gl.d) hrc
   obtain⟨b',c',e1,hs⟩:=w_
   have w_:=Value.slice.inj e1
   obtain⟨rfl,_,_⟩:=w_
   simpa using hs
  refine eIn hel ?_
  refine cPl (lQ hcs (by omega) (hSh c (mAt hc))) fun v4 μ4 hle4 hR4=>?_
  have w_:=sL hR4
  obtain⟨q,rfl⟩:=w_
  intro r26
  refine gIn ?_ ?_ fun b' c' _=>?_
  ·show(ys.length+1)*24≤_;omega
  ·exact Nat.le_trans (m:=100000000) (show ys.length+1≤_ by omega) (by decide)
  refine aB (by omega) (by omega) ⟨(i+1,b',c',_,μ4),⟨by dsimp only;omega,hle.trans hle4,?_⟩,by dsimp only;omega,⟨⟨rfl,rfl,rfl,rfl,trivial⟩,⟨rfl,trivial⟩,rfl,rfl⟩⟩
  dsimp only
  rw[List.take_add_one,hc,Option.toList_some,List.map_append]
  exact(hrows.mono hle4).append (Rows.one hR4 rfl)
 ·obtain rfl : i = L.length := by omega
  rw[List.take_length]at hrows
  refine rFz [1] fun μ' hle' hno hrow=> .inl ⟨_,rfl,?_⟩
  exact Rows.sl hrow (hrows.mono hle') (Nat.le_trans (m:=100000000) (by omega) (by decide))
end
end Go.Vx
namespace Go.Vx
open Go.Proofs Classical
section
variable {μ:Mem}
theorem qOg{p:Pg}(hw:p.d.wd){i:Nat}{x:Rl}(hx:p.rels[i]? =some x):x.body.d.wd:=by
 have hw2:D.wds (p.rels.map Rl.d):=by rw[Pg.d_eq]at hw;exact hw.1
 have h:=D.wds_mem hw2 _ (mAt (lM (f:=Rl.d) hx))
 rw[Rl.d_eq]at h;exact h.2.2.2.1
set_option maxHeartbeats 8000000 in
end
end Go.Vx
namespace Go.Vx
open Go.Proofs Classical
section
variable {μ:Mem}
theorem vY{a b:T}{va vb:Value}(ha:RepV μ a.tm.d va)(hb:RepV μ b.tm.d vb):Spec Tryz.prog 227 [va,vb] μ fun v μ'=>RepV μ' (T.pair a b).tm.d v:=by
 have w_:=Tm.invV ha
 obtain⟨p,rfl⟩:=w_
 have w_:=Tm.invV hb
 obtain⟨q,rfl⟩:=w_
 refine Spec.mk Tryz.func227 (by kernel_rfl) ?_
 intro r1 r2 r3 r4
 refine rFz [3] fun μ' hle hno hrow=> .inl ?_
 rw[T.tm,Tm.d_mk]
 exact⟨_,rfl,RepS.int (RepS.int (RepS.str (RepS.last (Rows.sl hrow (.cons (ha.mono hle) (Tm.d_n _) (.cons (hb.mono hle) (Tm.d_n _) .nil)) (show 2≤maxLen by decide)))))⟩
theorem tH{k:FuncId}{caps:List Value}{f:Int→Option T}(J:Mem→Mem→Prop)(hJ:∀{μ' μ'' h':Mem},μ'.Le μ''→J μ' h'→J μ'' h'):∀(x:T) {μ h:Mem} {v:Value},
  (∀μ' h',μ.Le μ'→J μ' h'→∀n∈x.vars,SpecH Tryz.prog k (.int .i64 n::caps) μ' h' fun v μ'' h''=>qDg (fun y tv=>RepV μ'' y.tm.d tv) (f n) v∧J μ'' h'')→J μ h→RepV μ x.tm.d v→
  SpecH Tryz.prog 180 [v,.func (.func k) #[] caps.toArray] μ h fun v μ' h'=>RepV μ' (x.subst f).tm.d v∧J μ' h':=by
 intro x
 induction x with
 |var n=>
  intro μ h v hk hj hv
  have w_:=Tm.invV hv
  obtain⟨p,rfl⟩:=w_
  refine SpecH.mk [] Tryz.func180 (by kernel_rfl) ?_
  intro r1 r2
  refine ifd (fun _=>?_) (fun h=>absurd rfl h)
  refine cOw (hk μ h (Mem.Le.refl μ) hj n (by simp[T.vars])) fun v' μ' h' hle hap hR=>?_
  obtain⟨hR,hj'⟩:=hR
  simp only[T.subst]
  cases hs:f n with
  |some y=>
   rw[hs]at hR
   obtain⟨tv,rfl,htv⟩:=hR
   have w_:=Tm.invV htv
   obtain⟨q,rfl⟩:=w_
   intro r3
   refine iIn (fun _=>?_) (fun h=>nomatch h)
   refine cPl (fN y htv) fun v2 μ2 hle2 hR2=>?_
   have w_:=Tm.invV hR2.rep
   obtain⟨q2,rfl⟩:=w_
   exact rPl ⟨hR2.rep,hJ hle2 hj'⟩
  |none=>
   rw[hs]at hR
   obtain rfl:=hR
   intro r3
   refine iIn (fun h=>nomatch h) (fun _=>?_)
   exact rPl ⟨hv.mono hle,hj'⟩
 |pair a b iha ihb=>
  intro μ h v hk hj hv
  have w_:=Tm.inv hv
  obtain⟨base',cap',rfl,hsa⟩:=w_
  have w_:=T.parts hsa
  obtain⟨ad,ad',p,p',h1,h2,hra,hrb⟩:=w_
  refine SpecH.mk [] Tryz.func180 (by kernel_rfl) ?_
  intro r1 r2
  refine ifd (fun h=>absurd h (by simp)) (fun _=>?_)
  refine ifd (fun _=>?_) (fun h=>absurd rfl h)
  refine eIn h1 ?_
  refine eIn h2 ?_
  refine cOw (iha (fun μ' h' g1 g2 n hn=>hk μ' h' g1 g2 n (by simp[T.vars,hn])) hj hra) fun v1 μ1 h1' hle1 hap1 hR1=>?_
  obtain⟨hR1,hj1⟩:=hR1
  refine cOw (ihb (fun μ' h' g1 g2 n hn=>hk μ' h' (hle1.trans g1) g2 n (by simp[T.vars,hn])) hj1 (hrb.mono hle1)) fun v2 μ2 h2' hle2 hap2 hR2=>?_
  obtain⟨hR2,hj2⟩:=hR2
  refine cPl (vY (hR1.mono hle2) hR2) fun v3 μ3 hle3 hR3=>?_
  have w_:=Tm.invV hR3
  obtain⟨q,rfl⟩:=w_
  exact rPl ⟨hR3,hJ hle3 hj2⟩
 |_=>
  intro μ h v hk hj hv
  have w_:=Tm.invV hv
  obtain⟨p,rfl⟩:=w_
  refine SpecH.mk [] Tryz.func180 (by kernel_rfl) ?_
  intro r1 r2
  refine ifd (fun h=>absurd h (by simp[T.tm,Tm.kind])) (fun _=>?_)
  refine ifd (fun h=>absurd h (by simp[T.tm,Tm.kind])) (fun _=>?_)
  exact rPl ⟨hv,hj⟩
end
end Go.Vx
namespace Go.Vx
open Go.Proofs Classical
theorem yE{α:Type}{c:α→α→Int}(ho:Ord3 c){a b:List α}(ha:Asc3 c a)(_hb:Asc3 c b)(h:∀x∈a,x∈b)(hne:b.length≠a.length):a.length<b.length:=by
 have:=kS (ha.nodup ho) h
 omega
def dR(U:List T):Nat→Nat→List T
 |0,_=>[]
 |n+1,w=>U.getD (w % U.length) .nil::dR U n (w / U.length)
theorem gG(U:List T):∀n w,(dR U n w).length=n
 |0,_=>rfl
 |n+1,w=>by rw[dR,List.length_cons,gG U n]
theorem qT(U:List T):∀k n w,k<n→(dR U n w)[k]? =some (U.getD (w / U.length ^ k % U.length) .nil)
 |k,0,w,h=>by omega
 |0,n+1,w,h=>by simp[dR]
 |k+1,n+1,w,h=>by
  rw[dR,List.getElem?_cons_succ,qT U k n _ (by omega),Nat.div_div_eq_div_mul,←Nat.pow_succ']
theorem mR(U:List T)(hU:0<U.length):∀n w,∀x∈dR U n w,x∈U
 |0,w,x,h=>by simp[dR]at h
 |n+1,w,x,h=>by
  rcases List.mem_cons.1 h with rfl|h
  ·rw [List.getD_eq_getElem?_getD, List.getElem?_eq_getElem (Nat.mod_lt _ hU)]
   exact List.getElem_mem _
  ·exact mR U hU n _ x h
noncomputable def dY(U:List T)(r:Rl)(i:Nat)(c:List Gl)(w:Nat):Option Ru:=
 if ∀g∈c,okG U (dR U (r.arity+r.locals).toNat w) g then some (dZ r i c (dR U (r.arity+r.locals).toNat w))else none
noncomputable def bI(U:List T)(r:Rl)(i:Nat)(c:List Gl)(w:Nat):List Ru:=(List.range w).filterMap (dY U r i c)
noncomputable def aY(U:List T)(r:Rl)(L:List (List Gl))(k:Nat):List Ru:=(List.range k).flatMap fun i=>bI U r i (L.getD i []) (U.length ^ (r.arity+r.locals).toNat)
noncomputable def cD(U:List T)(r:Rl):List Ru:=match r.body.cl with
 |none=>[]
 |some L=>aY U r L L.length
noncomputable def cC(p:Pg)(U:List T):List Ru:=p.rels.flatMap (cD U)
def qLi(p:Pg)(U:List T):Prop:=∀r∈p.rels,r.body.cl≠none∧U.length ^ (r.arity+r.locals).toNat≤4096
noncomputable def cI(p:Pg)(U:List T):Option (List Ru):=if qLi p U∧(cC p U).length≤2000 then some (cC p U)else none
theorem kN(U:List T)(r:Rl)(i:Nat)(c:List Gl)(w:Nat):bI U r i c (w+1)=bI U r i c w++(dY U r i c w).toList:=by
 rw[bI,List.range_succ,List.filterMap_append]
 cases h:dY U r i c w<;>simp[h,bI]
theorem jH{U:List T}{r:Rl}{L:List (List Gl)}{k:Nat}{c:List Gl}(h:L[k]? =some c):aY U r L (k+1)=aY U r L k++bI U r k c (U.length ^ (r.arity+r.locals).toNat):=by
 rw[aY,List.range_succ,List.flatMap_append]
 congr 1
 simp[List.getD_eq_getElem?_getD,h]
theorem jI{p:Pg}{U:List T}{i:Nat}{r:Rl}(h:p.rels[i]? =some r):(p.rels.take (i+1)).flatMap (cD U)=(p.rels.take i).flatMap (cD U)++cD U r:=by
 rw[List.take_add_one,h,Option.toList_some,List.flatMap_append]
 simp
end Go.Vx
namespace Go.Vx
open Go.Proofs Classical
section
variable {μ:Mem}
theorem T.elemL{xs:List T}{base:Option Addr}{n:Nat}(h:Sl μ 4 base n ((xs.map T.tm).map Tm.d)){i:Nat}{x:T}(hx:xs[i]? =some x):∃ad,∃p:Option Addr×Nat,ElemAt μ base n 4 i ad (x.tm.cs p)∧RepV μ x.tm.d (.agg (x.tm.cs p).toArray):=
 Tm.elem h (by simp[hx])
theorem jA{xs ys:List T}{base base2:Option Addr}{cap cap2:Nat}(hsl:Sl μ 4 base xs.length ((xs.map T.tm).map Tm.d))(hsl2:Sl μ 4 base2 ys.length ((ys.map T.tm).map Tm.d)):
  aM Tryz.prog 150 [.slice base xs.length cap,.slice base2 ys.length cap2] μ (.int .i64 (oS xs ys)):=by
 refine Spec.mk Tryz.func150 (by kernel_rfl) ?_
 have hm1:=aH hsl.max
 have hm2:=aH hsl2.max
 refine lIn (fun i:Nat=>i≤xs.length∧i≤ys.length∧oS (xs.drop i) (ys.drop i)=oS xs ys)
  (fun i=>⟨[(0,.val (.slice base xs.length cap)),(1,.val (.slice base2 ys.length cap2)),(5,.val (.int .i64 i))],[],0,μ,Mem.nil⟩) (fun i=>xs.length-i)
  0 ⟨Nat.zero_le _,Nat.zero_le _,rfl⟩ (fun _=>⟨rfl,rfl⟩) ⟨⟨rfl,rfl,rfl,trivial⟩,trivial,rfl,rfl⟩ ?_
 rintro i ⟨hi,hj,hJ⟩
 have fin:¬(i<xs.length∧i<ys.length)→oS xs ys=kX xs.length ys.length:=fun h=>mQ h hi hj hJ
 refine ifd (fun h1=>?_) (fun h1=>?_)
 ·refine ifd (fun h2 => ?_) (fun h2 => ?_)
  ·have w_ := aSo (l := xs) (i := i) (by omega)
   obtain⟨x,hx⟩:=w_
   have w_:=aSo (l:=ys) (i:=i) (by omega)
   obtain⟨y,hy⟩:=w_
   have w_:=T.elemL hsl hx
   obtain⟨ad,p,hel,hto⟩:=w_
   have w_:=T.elemL hsl2 hy
   obtain⟨ad2,p2,hel2,hto2⟩:=w_
   rw[bR hx,bR hy,oS,cU]at hJ
   refine eIn hel (eIn hel2 ?_)
   refine cGv (eV _ _ hto hto2) ?_
   refine aL (fun h5=>?_) (fun h5=>?_)
   ·rw [pQ h5] at hJ
    exact rGv (congrArg (Value.int .i64) hJ) rfl
   ·rw [pP h5] at hJ
    exact aB (by omega) (by omega) ⟨i+1,⟨by omega,by omega,hJ⟩,by omega,⟨⟨rfl,rfl,rfl,trivial⟩,trivial,rfl,rfl⟩⟩
  ·refine cGv (jG _ _) ?_
   exact rGv (by rw[fin (by omega)]) rfl
 ·refine cGv (jG _ _) ?_
  exact rGv (by rw[fin (by omega)]) rfl
theorem vH{xs ys:List T}{base base2:Option Addr}{cap cap2:Nat}(hsl:Sl μ 4 base xs.length ((xs.map T.tm).map Tm.d))(hsl2:Sl μ 4 base2 ys.length ((ys.map T.tm).map Tm.d)):
  aM Tryz.prog 206 [.slice base xs.length cap,.slice base2 ys.length cap2] μ (.int .i64 (oS xs ys)):=by
 refine Spec.mk Tryz.func206 (by kernel_rfl) ?_
 have hm1:=aH hsl.max
 have hm2:=aH hsl2.max
 refine lIn (fun i:Nat=>i≤xs.length∧i≤ys.length∧oS (xs.drop i) (ys.drop i)=oS xs ys)
  (fun i=>⟨[(0,.val (.slice base xs.length cap)),(1,.val (.slice base2 ys.length cap2)),(5,.val (.int .i64 i))],[],0,μ,Mem.nil⟩) (fun i=>xs.length-i)
  0 ⟨Nat.zero_le _,Nat.zero_le _,rfl⟩ (fun _=>⟨rfl,rfl⟩) ⟨⟨rfl,rfl,rfl,trivial⟩,trivial,rfl,rfl⟩ ?_
 rintro i ⟨hi,hj,hJ⟩
 have fin:¬(i<xs.length∧i<ys.length)→oS xs ys=kX xs.length ys.length:=fun h=>mQ h hi hj hJ
 refine ifd (fun h1=>?_) (fun h1=>?_)
 ·refine ifd (fun h2 => ?_) (fun h2 => ?_)
  ·have w_ := aSo (l := xs) (i := i) (by omega)
   obtain⟨x,hx⟩:=w_
   have w_:=aSo (l:=ys) (i:=i) (by omega)
   obtain⟨y,hy⟩:=w_
   have w_:=T.elemL hsl hx
   obtain⟨ad,p,hel,hto⟩:=w_
   have w_:=T.elemL hsl2 hy
   obtain⟨ad2,p2,hel2,hto2⟩:=w_
   rw[bR hx,bR hy,oS,cU]at hJ
   refine eIn hel (eIn hel2 ?_)
   refine cGv (gR _ _ hto hto2) ?_
   refine aL (fun h5=>?_) (fun h5=>?_)
   ·rw [pQ h5] at hJ
    exact rGv (congrArg (Value.int .i64) hJ) rfl
   ·rw [pP h5] at hJ
    exact aB (by omega) (by omega) ⟨i+1,⟨by omega,by omega,hJ⟩,by omega,⟨⟨rfl,rfl,rfl,trivial⟩,trivial,rfl,rfl⟩⟩
  ·have hf := fin (by omega)
   refine aL (fun h3=>?_) (fun h3=>?_)
   ·refine cGv (dG _) ?_
    exact rGv (by rw[hf,kX,if_neg h3]) rfl
   ·exact rGv (by rw[hf,kX,if_pos h3]) rfl
 ·have hf := fin (by omega)
  refine aL (fun h3=>?_) (fun h3=>?_)
  ·refine cGv (dG _) ?_
   exact rGv (by rw[hf,kX,if_neg h3]) rfl
  ·exact rGv (by rw[hf,kX,if_pos h3]) rfl
theorem dD{f g:F}{v w:Value}(hv:RepV μ f.fc.d v)(hw:RepV μ g.fc.d w):aM Tryz.prog 79 [v,w] μ (.int .i64 (dC f g)):=by
 have w_:=F.inv hv
 obtain⟨p,rfl,hs⟩:=w_
 have w_:=F.inv hw
 obtain⟨q,rfl,hs2⟩:=w_
 refine Spec.mk Tryz.func79 (by kernel_rfl) ?_
 intro r1 r2
 rw[dC]
 refine aL (fun h=>?_) (fun h=>?_)
 ·have e:kT (sT f.rel g.rel) (oS f.args g.args)=sgn (Op.bytesLess f.rel.data.toList g.rel.data.toList):=by
   rw[pQ (fun k=>h ((cName_ord.zero _ _).1 k)),sT,if_neg h]
  rw[e]
  refine iIn (fun h4=>rGv ?_ rfl) (fun h4=>rGv ?_ rfl)
  ·rw[h4];rfl
  ·rw[h4];rfl
 ·rw [pP ((cName_ord.zero _ _).2 h)]
  refine cGv (jA hs hs2) ?_
  exact rGv rfl rfl
theorem gT{f g:F}{v w:Value}(hv:RepV μ f.fc.d v)(hw:RepV μ g.fc.d w):aM Tryz.prog 143 [v,w] μ (.int .i64 (dC f g)):=by
 have w_:=F.inv hv
 obtain⟨p,rfl,hs⟩:=w_
 have w_:=F.inv hw
 obtain⟨q,rfl,hs2⟩:=w_
 refine Spec.mk Tryz.func143 (by kernel_rfl) ?_
 intro r1 r2
 rw[dC]
 refine aL (fun h=>?_) (fun h=>?_)
 ·have e:kT (sT f.rel g.rel) (oS f.args g.args)=sgn (Op.bytesLess f.rel.data.toList g.rel.data.toList):=by
   rw[pQ (fun k=>h ((cName_ord.zero _ _).1 k)),sT,if_neg h]
  rw[e]
  refine cGv (dG _) ?_
  exact rGv rfl rfl
 ·rw [pP ((cName_ord.zero _ _).2 h)]
  refine cGv (vH hs hs2) ?_
  exact rGv rfl rfl
end
end Go.Vx
namespace Go.Vx
open Go.Proofs Classical
noncomputable def Fc.f(x:Fc):F:=⟨x.rel,x.args.map Tm.toT⟩
theorem FactFits.lift{p:Pg}{x:Fc}(h:FactFits p x):x.f.fc=x∧∀a∈x.f.args,a.ok∧a.vars=[]:=by
 have w_:=fD fun t ht=>(h.2 t ht).1
 obtain⟨xs,hxs,hok⟩:=w_
 have e:x.f.args=xs:=by show x.args.map Tm.toT=xs;rw[hxs,gO]
 refine⟨?_,fun a ha=>?_⟩
 ·show Fc.mk x.rel (x.f.args.map T.tm) = x
  rw[e,←hxs]
 ·rw [e] at ha
  refine⟨hok a ha,?_⟩
  have:=(h.2 a.tm (by rw[hxs];exact List.mem_map_of_mem ha)).2
  rwa [T.toT_tm]at this
section
variable {μ:Mem}
theorem iS(t:Tm){v:Value}(hv:RepV μ t.d v)(hw:t.d.wd):aM Tryz.prog 141 [v] μ (.bool (decide (GndT t))):=by
 by_cases h:t.Ok
 ·obtain ⟨x, hx, rfl⟩ := h.lift
  have:=pT x hv hx hw
  have e:(decide (x.vars=[]))=decide (GndT x.tm):=decide_eq_decide.2 ⟨fun k=>⟨h,by rw[T.toT_tm];exact k⟩,fun k=>by have:=k.2;rwa [T.toT_tm]at this⟩
  rwa [e]at this
 ·have w_ := Tm.invV hv
  obtain⟨p,rfl⟩:=w_
  refine Spec.mk Tryz.func141 (by kernel_rfl) ?_
  intro r
  refine cGv (fF t hv hw) ?_
  refine ifd (fun k=>absurd k h) (fun _=>?_)
  exact rGv (by rw[decide_eq_false fun k=>h k.1]) rfl
theorem iL(t:Tm){v:Value}(hv:RepV μ t.d v):aM Tryz.prog 107 [v] μ (.bool (decide (GndT t))):=by
 have hv0:=hv
 have w_:=Tm.invV hv
 obtain⟨p,rfl⟩:=w_
 refine Spec.forget (Spec.mk Tryz.func107 (by kernel_rfl) ?_)
 intro r
 refine cGv (fU t hv0) ?_
 refine ifd (fun h=>?_) (fun h=>?_)
 ·obtain ⟨x, hx, rfl⟩ := h.lift
  refine cGv (oX x hv0) ?_
  refine rPl (isI ⟨fun k=>⟨h,by rw[T.toT_tm];exact k⟩,fun k=>by have:=k.2;rwa [T.toT_tm]at this⟩)
 ·exact rPl (isF fun k=>h k.1)
theorem nS{l:List Tm}{base:Option Addr}{cap:Nat}(hsl:Sl μ 4 base l.length (l.map Tm.d))(hw:D.wds (l.map Tm.d)):
  aM Tryz.prog 70 [.slice base l.length cap] μ (.bool (decide (UnivOk l))):=by
 have hn:=aH hsl.max
 have bad:¬UnivOk l→Value.bool false= .bool (decide (UnivOk l)):=fun k=>isF k
 refine Spec.mk Tryz.func70 (by kernel_rfl) ?_
 refine lIn (fun i:Nat=>i≤l.length∧UnivTo l i)
  (fun i=>⟨[(0,.val (.slice base l.length cap)),(5,.val (.slice base l.length cap)),(6,.val (.int .i64 l.length)),(7,.val (.int .i64 i))],[],0,μ,Mem.nil⟩) (fun i=>l.length-i)
  0 ⟨Nat.zero_le _,fun j hj=>by omega⟩ (fun _=>⟨rfl,rfl⟩) ⟨⟨rfl,rfl,rfl,rfl,trivial⟩,trivial,rfl,rfl⟩ ?_
 rintro i ⟨hi,hall⟩
 refine ifd (fun hlt=>?_) (fun hlt=>?_)
 ·have w_ := aSo (l := l) (i := i) (by omega)
  obtain⟨t,ht⟩:=w_
  have w_:=Tm.elem hsl ht
  obtain⟨ad,p,hel,hr⟩:=w_
  refine eIn hel ?_
  intro r4
  refine cGv (iS t hr (D.wds_mem hw _ (mAt (lM (f:=Tm.d) ht)))) ?_
  refine aL (fun h=>rGv (bad fun k=>h (k.gnd t (mAt ht))) rfl) (fun hg=>?_)
  have ok1:(∀k x y,k+1=i→l[k]? =some x→l[i]? =some y→x.toT.cmp y.toT<0)→UnivTo l (i+1):=fun hc j hj=>by
   rcases Nat.lt_or_ge j i with h6|h6
   ·exact hall j h6
   ·obtain rfl : j = i := by omega
    exact⟨fun t' ht'=>by rw[ht]at ht';cases ht';exact hg,hc⟩
  refine ifd (fun hi0=>?_) (fun hi0=>?_)
  ·have w_ := aSo (l := l) (i := i - 1) (by omega)
   obtain⟨t',ht'⟩:=w_
   have w_:=Tm.elem hsl ht'
   obtain⟨ad',p',hel',hr'⟩:=w_
   have hg':=(hall (i-1) (by omega)).1 t' ht'
   obtain⟨x,_,rfl⟩:=hg.1.lift
   obtain⟨y,_,rfl⟩:=hg'.1.lift
   refine aB (by omega) (by omega) ?_
   refine eIn (by rw[show((i:Int)-1)=((i-1:Nat):Int) by omega];exact hel') ?_
   refine cGv (gR y x hr' hr) ?_
   refine ifd (fun hc=>(fun e=>rGv e rfl) ?_) (fun hc=>?_)
   ·refine bad fun k => ?_
    have:=k.asc (i-1) _ _ ht' (by rw[show i-1+1=i by omega];exact ht)
    rw[T.toT_tm,T.toT_tm]at this
    omega
   ·refine aB (by omega) (by omega) ⟨i + 1, ⟨by omega, ok1 fun k a b hk ha hb => ?_⟩, by omega, ⟨⟨rfl, rfl, rfl, rfl, trivial⟩, trivial, rfl, rfl⟩⟩
    obtain rfl:k=i-1:=by omega
    rw[ht']at ha;rw[ht]at hb;cases ha;cases hb
    rw[T.toT_tm,T.toT_tm];omega
  ·exact aB (by omega) (by omega) ⟨i+1,⟨by omega,ok1 fun k a b hk _ _=>by omega⟩,by omega,⟨⟨rfl,rfl,rfl,rfl,trivial⟩,trivial,rfl,rfl⟩⟩
 ·obtain rfl : i = l.length := by omega
  refine cGv (bG _ _ _ _) ?_
  refine rGv (isI ?_) rfl
  exact⟨fun h=>hall.all (by omega) (by omega),fun h=>⟨by have:=h.pos;omega,by have:=h.max;omega⟩⟩
noncomputable def eF(p:Pg)(s:ByteArray):Int:=if p.Ok then relAt p s else -1
theorem qW{p:Pg}{s:ByteArray}{v:Value}(hp:RepV μ p.d v):Spec Tryz.prog 106 [v,.string s] μ fun r _=>r= .int .i64 (eF p s):=by
 have hp0:=hp
 have w_:=Pg.inv hp
 obtain⟨q,rfl,_⟩:=w_
 refine Spec.mk Tryz.func106 (by kernel_rfl) ?_
 intro r2
 refine cPl (dO hp0) fun v1 μ1 hle1 hR=>?_
 obtain rfl:=hR
 refine aL (fun h=>rPl (by rw[eF,if_neg h])) (fun h=>?_)
 refine cGv (dA (hp0.mono hle1)) ?_
 exact rPl (by rw[eF,if_pos h])
theorem iR{p:Pg}{s:ByteArray}{v:Value}(hp:RepV μ p.d v)(hw:p.d.wd):Spec Tryz.prog 166 [v,.string s] μ fun r _=>r= .int .i64 (eF p s):=by
 have hp0:=hp
 have w_:=Pg.inv hp
 obtain⟨q,rfl,_⟩:=w_
 refine Spec.mk Tryz.func166 (by kernel_rfl) ?_
 intro r2
 refine cPl (bD hp0 hw) fun v1 μ1 hle1 hR=>?_
 obtain rfl:=hR
 refine aL (fun h=>rPl (by rw[eF,if_neg h])) (fun h=>?_)
 refine cGv (dI (hp0.mono hle1)) ?_
 exact rPl (by rw[eF,if_pos h])
end
end Go.Vx
namespace Go.Vx
open Go.Proofs Classical
def kQ(vs:List T):List B:=vs.zipIdx.map fun p=>⟨(p.2:Int),p.1⟩
theorem qGh:∀(vs:List T) (k:Nat) (n:Int),sub ((vs.zipIdx k).map fun p=>⟨(p.2:Int),p.1⟩) n=if(k:Int)≤n then vs[(n-k).toNat]? else none
 |[],k,n=>by simp[sub]
 |x::vs,k,n=>by
  rw[List.zipIdx_cons,List.map_cons,sub,qGh vs (k+1) n]
  by_cases h:(k:Int)=n
  ·subst h;simp
  ·rw [if_neg h]
   by_cases h2:(k:Int)≤n
   ·rw [if_pos (by omega), if_pos h2]
    obtain⟨m,hm⟩:∃m:Nat,(n-k).toNat=m+1:=⟨(n-k).toNat-1,by omega⟩
    rw[hm,List.getElem?_cons_succ]
    congr 1;omega
   ·rw[if_neg (by omega),if_neg h2]
theorem qHh(vs:List T):sub (kQ vs)=bT vs:=funext fun n=>by
 rw[kQ,qGh vs 0 n,bT]
 simp
theorem lH(vs:List T):(kQ vs).length=vs.length:=by simp[kQ]
theorem zH{vs:List T}{i:Nat}{x:T}(h:vs[i]? =some x):(kQ vs)[i]? =some ⟨(i:Int),x⟩:=by simp[kQ,h]
theorem pU(vs:List T)(i:Nat):(kQ vs).take i=kQ (vs.take i):=by
 refine List.ext_getElem? fun k=>?_
 simp only[kQ,List.getElem?_take,List.getElem?_map,List.getElem?_zipIdx]
 split<;>simp
def qHm(size n most:Nat)(r:Value):Prop:=∃w:Nat,r= .int .i64 w∧(size ^ n≤most→w=size ^ n)∧(most<size ^ n→most<w)
section
variable {μ:Mem}
theorem zV{size n most:Nat}(h1:1≤size)(h8:size≤8)(hm:most≤100000)(hn:n≤1000)(hm1:1≤most):
  Spec Tryz.prog 71 [.int .i64 size,.int .i64 n,.int .i64 most] μ fun r μ'=>qHm size n most r∧μ'=μ:=by
 refine Spec.forget (Spec.mk Tryz.func71 (by kernel_rfl) ?_)
 refine lIn (fun z:Nat×Nat=>z.1≤n∧z.2=size ^ z.1∧z.2≤8*most) (fun(i,k)=>⟨[(0,.val (.int .i64 size)),(1,.val (.int .i64 n)),(2,.val (.int .i64 most)),(7,.val (.int .i64 (k:Nat))),(8,.val (.int .i64 (i:Nat)))],[],0,μ,Mem.nil⟩) (fun z=>n-z.1)
  (0,1) ⟨Nat.zero_le _,rfl,by dsimp only;omega⟩ (fun(_,_)=>⟨rfl,rfl⟩) ⟨⟨rfl,rfl,rfl,rfl,rfl,trivial⟩,trivial,rfl,rfl⟩ ?_
 rintro⟨i,k⟩ ⟨hi,hk,hb⟩
 dsimp only at hi hk hb
 have mono:size ^ i≤size ^ n:=Nat.pow_le_pow_right h1 hi
 refine ifd (fun g1=>?_) (fun g1=>?_)
 ·refine ifd (fun g2 => ?_) (fun g2 => ?_)
  ·have hks:k*size≤8*most:=by
    have:=Nat.mul_le_mul (show k≤most by omega) h8
    omega
   refine nEq (x:=((k*size:Nat):Int)) (by rw[←Int.natCast_mul];exact aA (by omega) (by omega)) ?_
   exact aB (by omega) (by omega) ⟨(i+1,k*size),⟨by dsimp only;omega,by dsimp only;rw[hk,Nat.pow_succ],hks⟩,by dsimp only;omega,⟨⟨rfl,rfl,rfl,rfl,rfl,trivial⟩,trivial,rfl,rfl⟩⟩
  ·exact rPl ⟨k,rfl,fun h=>by omega,fun h=>by omega⟩
 ·obtain rfl : i = n := by omega
  exact rPl ⟨k,rfl,fun _=>hk,fun h=>by omega⟩
theorem uO{U:List T}{ub:Option Addr}(hu:Sl μ 4 ub U.length ((U.map T.tm).map Tm.d))(hU:0<U.length)(w:Nat):∃ad,∃p:Option Addr×Nat,ElemAt μ ub U.length 4 ((w % U.length:Nat):Int) ad ((U.getD (w % U.length) .nil).tm.cs p)∧RepV μ (U.getD (w % U.length) .nil).tm.d (.agg ((U.getD (w % U.length) .nil).tm.cs p).toArray):=
 T.elemL hu (by rw[List.getD_eq_getElem?_getD,List.getElem?_eq_getElem (Nat.mod_lt _ hU)];rfl)
def nP(n:Nat):List Int:=(List.range n).map fun i:Nat=>(i:Int)
theorem rN(n:Nat):(nP n).length=n:=by simp[nP]
theorem qOh{n i:Nat}(h:i<n):(nP n)[i]? =some (i:Int):=by simp[nP,h]
set_option maxHeartbeats 1000000 in
theorem vM{U:List T}{ub vb:Option Addr}{uc vc n w:Nat}(hu:Sl μ 4 ub U.length ((U.map T.tm).map Tm.d))(hU:0<U.length)(hU8:U.length≤8)(hv:Sl μ 1 vb n ((nP n).map D.i))(hn:n≤1000)(hw:w≤100000):
  Spec Tryz.prog 72 [.slice vb n vc,.slice ub U.length uc,.int .i64 w] μ fun v μ'=>RepV μ' (.sl 5 (((kQ (dR U n w)).map B.bd).map Bd.d)) v:=by
 refine Spec.mk Tryz.func72 (by kernel_rfl) ?_
 intro r10
 refine lIn (fun z:Nat×Option Nat×Nat×List Value=>z.1≤n∧Rows μ 5 (((kQ ((dR U n w).take z.1)).map B.bd).map Bd.d) z.2.2.2)
  (fun(i,b,c,ys)=>⟨[(1,.val (.slice ub U.length uc)),(2,.val (.int .i64 ((w / U.length ^ i:Nat):Int))),(7,.row 0 b ys.length c),(11,.val (.slice vb n vc)),(12,.val (.int .i64 n)),(13,.val (.int .i64 i))],[(0,some (.row b c 100 5 ys))],1,μ,Mem.nil⟩) (fun z=>n-z.1)
  (0,some r10,0,[]) ⟨Nat.zero_le _,.nil⟩ (fun(_,_,_,_)=>⟨rfl,rfl⟩) ⟨⟨rfl,by rw[Nat.pow_zero,Nat.div_one];rfl,rfl,rfl,rfl,rfl,trivial⟩,⟨rfl,trivial⟩,rfl,rfl⟩ ?_
 rintro⟨i,b,c,ys⟩ ⟨hi,hrows⟩
 dsimp only at hi hrows
 have hlen:=hrows.len
 simp only[List.length_map,lH,List.length_take,gG]at hlen
 have hdw:w / U.length ^ i≤w:=Nat.div_le_self _ _
 refine ifd (fun h=>?_) (fun h=>?_)
 ·have w_ := Ints.elem hv (qOh (n := n) (i := i) (by omega))
  obtain⟨ad,hel⟩:=w_
  refine eIn hel ?_
  refine aC (by omega) ?_
  refine nEq (x:=((w / U.length ^ i % U.length:Nat):Int)) rfl ?_
  have w_:=uO hu hU (w / U.length ^ i)
  obtain⟨ad2,p,hel2,hr⟩:=w_
  refine eIn hel2 ?_
  intro r27
  refine gIn ?_ ?_ fun b' c' _=>?_
  ·show(ys.length+1)*64≤_;omega
  ·exact Nat.le_trans (m:=100000000) (show ys.length+1≤_ by omega) (by decide)
  refine aC (by omega) ?_
  refine nEq (x:=((w / U.length ^ (i+1):Nat):Int)) ?_ ?_
  ·have e : w / U.length ^ (i + 1) = w / U.length ^ i / U.length := by rw [Nat.pow_succ, Nat.div_div_eq_div_mul]
   rw[e]
   have hd2:w / U.length ^ i / U.length≤w / U.length ^ i:=Nat.div_le_self _ _
   show IntKind.i64.wrap ((w / U.length ^ i / U.length:Nat):Int)=_
   generalize w / U.length ^ i / U.length=m at hd2 ⊢
   exact aA (by omega) (by omega)
  refine aB (by omega) (by omega) ⟨(i+1,b',c',_),⟨by dsimp only;omega,?_⟩,by dsimp only;omega,⟨⟨rfl,rfl,rfl,rfl,rfl,rfl,trivial⟩,⟨rfl,trivial⟩,rfl,rfl⟩⟩
  dsimp only
  rw[←pU,List.take_add_one,zH (qT U i n w (by omega)),Option.toList_some,pU]
  simp only[List.map_append,List.map_cons,List.map_nil]
  exact hrows.append (Rows.one (RepV.bd hr) (Bd.d_n _))
 ·obtain rfl : i = n := by omega
  rw[List.take_of_length_le (by rw[gG];omega)]at hrows
  refine rFz [0] fun μ' hle' hno hrow=> .inl ?_
  exact Rows.sl hrow (hrows.mono hle') (Nat.le_trans (m:=100000000) (by omega) (by decide))
theorem sB{U:List T}{ub:Option Addr}{uc:Nat}{x:T}{v:Value}(hu:Sl μ 4 ub U.length ((U.map T.tm).map Tm.d))(hv:RepV μ x.tm.d v):
  aM Tryz.prog 249 [.slice ub U.length uc,v] μ (.bool (decide (x∈U))):=by
 have hn:=aH hu.max
 have w_:=Tm.invV hv
 obtain⟨p,rfl⟩:=w_
 refine Spec.mk Tryz.func249 (by kernel_rfl) ?_
 intro r3
 refine lIn (fun i:Nat=>i≤U.length∧x∉U.take i)
  (fun i=>⟨[(3,.loc 0 r3 0),(7,.val (.slice ub U.length uc)),(8,.val (.int .i64 U.length)),(9,.val (.int .i64 i))],[(0,some (.cells r3 [.val (.int .i64 x.tm.kind),.val (.int .i64 x.tm.num),.val (.string x.tm.name),.val (.slice p.1 x.tm.args.length p.2)] 75))],1,μ,Mem.nil⟩) (fun i=>U.length-i)
  0 ⟨Nat.zero_le _,by simp⟩ (fun _=>⟨rfl,rfl⟩) ⟨⟨rfl,rfl,rfl,rfl,trivial⟩,⟨rfl,trivial⟩,rfl,rfl⟩ ?_
 rintro i ⟨hi,hnot⟩
 refine ifd (fun h=>?_) (fun h=>?_)
 ·have w_ := aSo (l := U) (i := i) (by omega)
  obtain⟨y,hy⟩:=w_
  have w_:=T.elemL hu hy
  obtain⟨ad,q,hel,hr⟩:=w_
  refine eIn hel ?_
  intro r6
  refine cGv (eK y x hr hv) ?_
  refine ifd (fun h2=>rGv ?_ rfl) (fun h2=>?_)
  ·rw[decide_eq_true (by rw[←h2];exact mAt hy)]
  ·refine aB (by omega) (by omega) ⟨i + 1, ⟨by omega, ?_⟩, by omega, ⟨⟨rfl, rfl, rfl, rfl, trivial⟩, ⟨rfl, trivial⟩, rfl, rfl⟩⟩
   rw[List.take_add_one,hy,Option.toList_some,List.mem_append,List.mem_singleton]
   exact fun k=>k.elim hnot fun k=>h2 k.symm
 ·obtain rfl : i = U.length := by omega
  rw[List.take_length]at hnot
  exact rGv (by rw[decide_eq_false hnot]) rfl
theorem nI{U:List T}{ub fb:Option Addr}{uc fc:Nat}{l:List F}(hu:Sl μ 4 ub U.length ((U.map T.tm).map Tm.d))(hl:Sl μ 2 fb l.length ((l.map F.fc).map Fc.d)):
  aM Tryz.prog 208 [.slice fb l.length fc,.slice ub U.length uc] μ (.bool (decide (∀f∈l,∀a∈f.args,a∈U))):=by
 have hn:=aH hl.max
 refine Spec.mk Tryz.func208 (by kernel_rfl) ?_
 refine lIn (fun i:Nat=>i≤l.length∧∀f∈l.take i,∀a∈f.args,a∈U)
  (fun i=>⟨[(1,.val (.slice ub U.length uc)),(9,.val (.slice fb l.length fc)),(10,.val (.int .i64 l.length)),(11,.val (.int .i64 i))],[],0,μ,Mem.nil⟩) (fun i=>l.length-i)
  0 ⟨Nat.zero_le _,by simp⟩ (fun _=>⟨rfl,rfl⟩) ⟨⟨rfl,rfl,rfl,rfl,trivial⟩,trivial,rfl,rfl⟩ ?_
 rintro i ⟨hi,hall⟩
 refine ifd (fun h=>?_) (fun h=>?_)
 ·have w_ := aSo (l := l) (i := i) (by omega)
  obtain⟨f,hf⟩:=w_
  have w_:=F.elem hl hf
  obtain⟨ad,p,hel,hr,hs⟩:=w_
  have hm:=aH hs.max
  refine eIn hel ?_
  intro r6
  refine lIn (fun k:Nat=>k≤f.args.length∧∀a∈f.args.take k,a∈U)
   (fun k=>⟨[(1,.val (.slice ub U.length uc)),(9,.val (.slice fb l.length fc)),(10,.val (.int .i64 l.length)),(11,.val (.int .i64 i)),(16,.val (.slice p.1 f.args.length p.2)),(17,.val (.int .i64 f.args.length)),(18,.val (.int .i64 k))],[],1,μ,Mem.nil⟩) (fun k=>f.args.length-k)
   0 ⟨Nat.zero_le _,by simp⟩ (fun _=>⟨rfl,rfl⟩) ⟨⟨rfl,rfl,rfl,rfl,rfl,rfl,rfl,trivial⟩,trivial,rfl,rfl⟩ ?_
  rintro k ⟨hk,hargs⟩
  refine ifd (fun h2=>?_) (fun h2=>?_)
  ·have w_ := aSo (l := f.args) (i := k) (by omega)
   obtain⟨a,ha⟩:=w_
   have w_:=T.elemL hs ha
   obtain⟨ad2,q,hel2,hr2⟩:=w_
   refine eIn hel2 ?_
   intro r8
   refine cGv (sB hu hr2) ?_
   refine aL (fun h3=>rGv ?_ rfl) (fun h3=>?_)
   ·rw[decide_eq_false fun k=>h3 (k f (mAt hf) a (mAt ha))]
   ·refine aB (by omega) (by omega) ⟨k + 1, ⟨by omega, ?_⟩, by omega, ⟨⟨rfl, rfl, rfl, rfl, rfl, rfl, rfl, trivial⟩, trivial, rfl, rfl⟩⟩
    rw[List.take_add_one,ha,Option.toList_some]
    intro y hy
    rcases List.mem_append.1 hy with hy|hy
    ·exact hargs y hy
    ·rw[List.mem_singleton.1 hy];exact h3
  ·obtain rfl : k = f.args.length := by omega
   rw[List.take_length]at hargs
   refine aB (by omega) (by omega) ⟨i+1,⟨by omega,?_⟩,by omega,⟨⟨rfl,rfl,rfl,rfl,trivial⟩,trivial,rfl,rfl⟩⟩
   rw[List.take_add_one,hf,Option.toList_some]
   intro y hy
   rcases List.mem_append.1 hy with hy|hy
   ·exact hall y hy
   ·rw[List.mem_singleton.1 hy];exact hargs
 ·obtain rfl : i = l.length := by omega
  rw[List.take_length]at hall
  exact rGv (by rw[decide_eq_true hall]) rfl
theorem kK{l:List F}{base:Option Addr}{cap:Nat}(hsl:Sl μ 2 base l.length ((l.map F.fc).map Fc.d))(hn:l.length≤10000000)(hl:∀f∈l,f.args.length≤1000000):
  Spec Tryz.prog 74 [.slice base l.length cap] μ fun v μ'=>RepV μ' (.sl 2 ((l.map F.fc).map Fc.d)) v:=by
 refine Spec.mkO [6] Tryz.func74 (by kernel_rfl) ?_
 intro r6 hm6 ho6
 refine lIn (fun p:Nat×Nat×Nat×Nat×List Value×Mem×Mem=>p.1≤l.length∧p.2.2.2.2.1.length=p.2.2.2.1∧RowO p.2.2.2.2.2.2 p.2.1 p.2.2.1 41 2 p.2.2.2.2.1∧Apart p.2.2.2.2.2.1 p.2.2.2.2.2.2∧μ.Le p.2.2.2.2.2.1∧Rows p.2.2.2.2.2.1 2 (((l.take p.1).map F.fc).map Fc.d) p.2.2.2.2.1)
  (fun(i,b,c,m,ys,μ',h)=>⟨[(3,.val (.slice (some ⟨b,0,none⟩) m c)),(7,.val (.slice base l.length cap)),(8,.val (.int .i64 l.length)),(9,.val (.int .i64 i))],[],0,μ',h⟩) (fun p=>l.length-p.1)
  (0,r6,0,0,[],μ,_) ⟨by simp,rfl,⟨[],Mem.set_at _ _ _,by simp,by simp,by simp,rfl,rfl⟩,(eA μ).set hm6,Mem.Le.refl _,.nil⟩ (fun(_,_,_,_,_,_,_)=>⟨rfl,rfl⟩) ⟨⟨rfl,rfl,rfl,rfl,trivial⟩,trivial,rfl,rfl⟩ ?_
 clear hm6 ho6
 rintro⟨i,b,c,m,ys,μ',h⟩ ⟨hi,hm,hb,hap,hle,hrows⟩
 dsimp only at hi hm hb hap hle hrows
 have hlen:=hrows.len
 simp only[List.length_map,List.length_take]at hlen
 refine ifd (fun hlt=>?_) (fun hlt=>?_)
 ·have w_ := aSo (l := l) (i := i) (by omega)
  obtain⟨f,hf⟩:=w_
  have w_:=F.elem (hsl.mono hle) hf
  obtain⟨ad,p,hel,hr,hs⟩:=w_
  refine eIn hel ?_
  intro r5
  have hfl:=hl f (mAt hf)
  refine cDa hap (dX hs (by omega)) fun v1 μ1 hle1 hap1 hR=>?_
  have w_:=Rep.sl hR
  obtain⟨b4,c4,rfl,_⟩:=w_
  rw[List.length_map,List.length_map]at hR ⊢
  intro r20
  refine fM ys hm hb ?_ ?_ fun b' c' o hrow hor=>?_
  ·show(m+1)*40≤_;omega
  ·exact Nat.le_trans (m:=100000000) (show m+1≤_ by omega) (by decide)
  refine aB (by omega) (by omega) ⟨(i+1,b',c',m+1,_,μ1,_),⟨by dsimp only;omega,by dsimp only;rw[List.length_append,hm];rfl,hrow,hap1.set (kA hb hap1 hor),hle.trans hle1,?_⟩,by dsimp only;omega,⟨⟨rfl,rfl,rfl,rfl,trivial⟩,trivial,rfl,rfl⟩⟩
  dsimp only
  rw[List.take_add_one,hf,Option.toList_some]
  simp only[List.map_append,List.map_cons,List.map_nil]
  exact(hrows.mono hle1).append (Rows.one (F.mkV hR) (Fc.d_n _))
 ·obtain rfl : i = l.length := by omega
  rw[List.take_length]at hrows
  refine cG _ Mem.nil (Parts.nil_right _) ?_
  obtain⟨cs,hcell,hlen0,hcap,hone,hcs,htake⟩:=hb
  have hb2:μ' b=none:=by
   cases e:μ' b with
   |none=>rfl
   |some o=>have:=hap b (by simp[e]);rw[hcell]at this;cases this
  have hrow:RowAt (μ'.join h) (some b) c 2 ys:=⟨hlen0,hone,_,_,by rw[Mem.join_get,hb2];exact hcell,by simpa using hcs,by simpa using htake⟩
  subst hm
  exact Rows.sl hrow (hrows.mono (Mem.le_join _ _)) (Nat.le_trans (m:=100000000) (by omega) (by decide))
theorem tQ{xs:List T}(h:xs.length=2):∃x y,xs=[x,y]:=by
 match xs,h with
 |[x,y],_=>exact⟨x,y,rfl⟩
theorem one_of'{xs:List T}(h:xs.length=1):∃x,xs=[x]:=by
 match xs,h with
 |[x],_=>exact⟨x,rfl⟩
theorem testT_2{x y:T}:dV 2 [x,y]↔x=y:=by simp[dV]
theorem testT_3{x y:T}:dV 3 [x,y]↔x≠y:=by simp[dV]
theorem testT_4{x:T}:dV 4 [x]↔x.tm.kind=2:=by simp[dV]
theorem testT_5{x:T}:dV 5 [x]↔x.tm.kind=3:=by simp[dV]
theorem testT_6{x y:T}:dV 6 [x,y]↔¬y.hasSym x.tm.name:=by simp[dV]
theorem zW{g:Gl}{xs:List T}{v:Value}(hv:RepV μ g.d v)(hx:g.terms=xs.map T.tm)(hl:SimpleLen g.kind xs.length):
  aM Tryz.prog 251 [v] μ (.bool (decide (dV g.kind xs))):=by
 have w_:=Gl.inv hv
 obtain⟨p,rfl,hts,-⟩:=w_
 rw[hx]at hts ⊢
 rw[List.length_map]at hts ⊢
 refine Spec.mk Tryz.func251 (by kernel_rfl) ?_
 intro r1
 refine ifd (fun h=>rGv (by rw[h];simp[dV]) rfl) (fun h0=>?_)
 refine ifd (fun h=>?_) (fun h2=>?_)
 ·have w_ := tQ (hl.two (by omega))
  obtain⟨x,y,rfl⟩:=w_
  have w_:=T.elemL hts (i:=0) (x:=x) rfl
  obtain⟨ad1,p1,e1,g1⟩:=w_
  have w_:=T.elemL hts (i:=1) (x:=y) rfl
  obtain⟨ad2,p2,e2,g2⟩:=w_
  refine eIn e1 (eIn e2 (cGv (eK x y g1 g2) (rGv ?_ rfl)))
  rw[h];exact congrArg Value.bool (decide_eq_decide.2 testT_2.symm)
 refine ifd (fun h=>?_) (fun h3=>?_)
 ·have w_ := tQ (hl.two (by omega))
  obtain⟨x,y,rfl⟩:=w_
  have w_:=T.elemL hts (i:=0) (x:=x) rfl
  obtain⟨ad1,p1,e1,g1⟩:=w_
  have w_:=T.elemL hts (i:=1) (x:=y) rfl
  obtain⟨ad2,p2,e2,g2⟩:=w_
  refine eIn e1 (eIn e2 (cGv (eK x y g1 g2) (rGv ?_ rfl)))
  rw[h,←decide_not];exact congrArg Value.bool (decide_eq_decide.2 testT_3.symm)
 refine ifd (fun h=>?_) (fun h4=>?_)
 ·have w_ := one_of' (hl.one (by omega))
  obtain⟨x,rfl⟩:=w_
  have w_:=T.elemL hts (i:=0) (x:=x) rfl
  obtain⟨ad1,p1,e1,g1⟩:=w_
  refine eIn e1 (rGv ?_ rfl)
  rw[h];exact congrArg Value.bool (decide_eq_decide.2 testT_4.symm)
 refine ifd (fun h=>?_) (fun h5=>?_)
 ·have w_ := one_of' (hl.one (by omega))
  obtain⟨x,rfl⟩:=w_
  have w_:=T.elemL hts (i:=0) (x:=x) rfl
  obtain⟨ad1,p1,e1,g1⟩:=w_
  refine eIn e1 (rGv ?_ rfl)
  rw[h];exact congrArg Value.bool (decide_eq_decide.2 testT_5.symm)
 refine ifd (fun h=>?_) (fun h6=>?_)
 ·have w_ := tQ (hl.two (by omega))
  obtain⟨x,y,rfl⟩:=w_
  have w_:=T.elemL hts (i:=0) (x:=x) rfl
  obtain⟨ad1,p1,e1,g1⟩:=w_
  have w_:=T.elemL hts (i:=1) (x:=y) rfl
  obtain⟨ad2,p2,e2,g2⟩:=w_
  refine eIn e2 (eIn e1 (cGv (sA x.tm.name y g2) (rGv ?_ rfl)))
  rw[h,←decide_not];exact congrArg Value.bool (decide_eq_decide.2 testT_6.symm)
 refine rGv ?_ rfl
 rw[decide_eq_false]
 unfold dV
 rw[if_neg h0,if_neg h2,if_neg h3,if_neg h4,if_neg h5,if_neg h6]
 exact id
end
end Go.Vx
namespace Go.Vx
open Go.Proofs Classical
theorem qDv(vs:List T)(g:Gl):(cJ vs g).fc.args=(g.put (bT vs)).terms:=by
 rw[Gl.put_terms,F.fc_args]
 show(g.terms.map _).map _=_
 rw[List.map_map];rfl
theorem fZ{vs:List T}{c:List Gl}{j:Nat}{g:Gl}(h:c[j]? =some g):bQ vs (c.take (j+1))=bQ vs (c.take j)++(if g.kind=9 then [cJ vs g]else []):=by
 rw[bQ,List.take_add_one,h,Option.toList_some,List.filter_append,List.map_append]
 congr 1
 by_cases k:g.kind=9<;>simp[k]
theorem iP{vs:List T}{c:List Gl}{j:Nat}{g:Gl}(h:c[j]? =some g):iU vs (c.take (j+1))=iU vs (c.take j)++(if g.kind=10 then [cJ vs g.kid]else []):=by
 rw[iU,List.take_add_one,h,Option.toList_some,List.filter_append,List.map_append]
 congr 1
 by_cases k:g.kind=10<;>simp[k]
theorem ClG.simple{g:Gl}(h:ClG g):SimpleLen g.kind g.terms.length:=⟨h.sh.top.ln2,h.sh.top.ln1⟩
section
variable {μ:Mem}
theorem Gl.termsV{g:Gl}{k n ts gs:Value}(h:RepV μ g.d (.agg #[k,n,ts,gs])):RepV μ (.sl 4 (g.terms.map Tm.d)) ts:=by
 rw[Gl.d_eq]at h
 obtain⟨cs,e,h⟩:=h
 obtain⟨a0,t0,rfl,h0,h⟩:=h
 obtain⟨a1,t1,rfl,h1,h⟩:=h
 obtain⟨a2,t2,rfl,h2,h⟩:=h
 obtain⟨a3,t3,rfl,h3,h⟩:=h
 obtain rfl:t3=[]:=h
 have h0:a0=[.int .i64 g.kind]:=h0
 have h1:a1=[.string g.name]:=h1
 subst h0 h1
 have w_:=gV (Rep.len _ _ h2)
 obtain⟨v2,rfl⟩:=w_
 have w_:=gV (Rep.len _ _ h3)
 obtain⟨v3,rfl⟩:=w_
 have e2:[k,n,ts,gs]=[.int .i64 g.kind,.string g.name,v2,v3]:=congrArg (fun v=>match v with|Value.agg a=>a.toList|_=>[]) e
 have e3:ts=v2:=(List.cons.inj (List.cons.inj (List.cons.inj e2).2).2).1
 rw[e3];exact h2
theorem yI{vs:List T}{g:Gl}{k n gs:Value}{b:Option Addr}{m c:Nat}(h:RepV μ (g.put (bT vs)).d (.agg #[k,n,.slice b m c,gs])):RepV μ (cJ vs g).fc.d (.agg #[.string g.name,.slice b m c]):=by
 have h1:=Gl.termsV h
 rw[Fc.d_eq,qDv]
 exact⟨_,rfl,RepS.str (RepS.last h1)⟩
theorem pW{es:Nat}:∀{ys:List Value},(∀x∈ys,(aD x).length=es)→(ys.flatMap aD).length=ys.length*es
 |[],_=>by simp
 |y::ys,h=>by
  rw[List.flatMap_cons,List.length_append,pW fun x hx=>h x (by simp[hx]),h y (by simp),List.length_cons,Nat.succ_mul];omega
theorem RowAt.cut{b:Option Nat}{k es:Nat}{ys:List Value}(h:RowAt μ b k es ys)(a:Nat):RowAt μ b k es (ys.take a):=by
 cases b with
 |none=>
  have h:ys=[]:=h
  subst h
  exact List.take_nil
 |some r=>
  obtain⟨h1,h2,arr,ty,h3,h4,h5⟩:=h
  have hl:(ys.take a).length≤ys.length:=by rw[List.length_take];omega
  refine⟨by omega,fun x hx=>h2 x (List.mem_of_mem_take hx),arr,ty,h3,h4,?_⟩
  have e:((ys.take a).flatMap aD).length=(ys.take a).length*es:=pW fun x hx=>(h2 x (List.mem_of_mem_take hx)).1
  have e1:arr.toList.take ((ys.take a).length*es)=(arr.toList.take (ys.length*es)).take ((ys.take a).length*es):=by
   rw[List.take_take]
   congr 1
   have:=Nat.mul_le_mul_right es hl
   omega
  rw[e1,h5]
  conv=>lhs;rw[←List.take_append_drop a ys]
  rw[List.flatMap_append,List.take_left' (by rw[e];simp)]
theorem qGw{vs:List T}{a k:Nat}{b:Option Nat}{ys:List Value}(h:RowAt μ b k 4 ys)(hr:Rows μ 4 ((vs.map T.tm).map Tm.d) ys)(ha:a≤vs.length)(hm:vs.length≤1000):
  RepV μ (.sl 4 (((vs.take a).map T.tm).map Tm.d)) (.slice (if k=0 then(b.map fun r=>(⟨r,0,none⟩:Addr))else(b.map fun r=>(⟨r,0,none⟩:Addr)).map (·.add (0*4))) (a-0) (k-0)):=by
 have e:(if k=0 then(b.map fun r=>(⟨r,0,none⟩:Addr))else(b.map fun r=>(⟨r,0,none⟩:Addr)).map (·.add (0*4)))=b.map fun r=>(⟨r,0,none⟩:Addr):=by
  split
  ·rfl
  ·cases b<;>simp[Addr.add]
 rw[e,Nat.sub_zero,Nat.sub_zero]
 have hl:=hr.len
 simp only[List.length_map]at hl
 have hr2:Rows μ 4 (((vs.take a).map T.tm).map Tm.d) (ys.take a):=by
  have:=hr.take a
  simpa[List.map_take]using this
 have hyl:(ys.take a).length=a:=by rw[List.length_take];omega
 have ht:RowAt μ b k 4 (ys.take a):=RowAt.cut h a
 have:=Rows.sl ht hr2 (Nat.le_trans (m:=1000) (by omega) (by decide))
 rwa [hyl]at this
set_option maxHeartbeats 16000000 in
set_option maxRecDepth 20000 in
theorem uG{r:Rl}{v:Value}{c:List Gl}{cb bb:Option Addr}{cc bc a:Nat}{vs:List T}{i:Nat}(hr:RepV μ r.d v)(ha:r.arity=(a:Int))(hal:a≤vs.length)(hvs:vs.length≤12)
  (hc:Sl μ 4 cb c.length (c.map Gl.d)) (hcl:c.length≤1000) (hcs:∀g∈c,ClG g) (hb:Sl μ 5 bb vs.length (((kQ vs).map B.bd).map Bd.d)):
  Spec Tryz.prog 209 [v,.int .i64 i,.slice cb c.length cc,.slice bb vs.length bc] μ fun res μ'=>∃(ru:Ru) (rv:Value),res= .tuple #[rv,.bool (decide (∀g∈c,okS vs g))]∧RepV μ' ru.rd.d rv∧((∀g∈c,okS vs g)→ru=dZ r i c vs):=by
 have w_:=Rl.invV hr
 obtain⟨q,rfl⟩:=w_
 refine Spec.mk Tryz.func209 (by kernel_rfl) ?_
 intro r4 r8 r10
 refine aU (fun z:Nat×Option Nat×Nat×List Value=>z.1≤vs.length∧z.1≤z.2.2.1∧Rows μ 4 (((vs.take z.1).map T.tm).map Tm.d) z.2.2.2)
  (fun(k,b,n,ys)=>⟨[(2,.val (.slice cb c.length cc)),(3,.val (.slice bb vs.length bc)),(4,.loc 0 r4 0),(8,.loc 1 r8 0),(10,.loc 2 r10 0),(18,.val (.slice bb vs.length bc)),(19,.val (.int .i64 vs.length)),(20,.val (.int .i64 k))],[(0,some (.cells r4 [.val (.string r.name),.val (.int .i64 r.arity),.val (.int .i64 r.locals),.val (.int .i64 r.body.kind),.val (.string r.body.name),.val (.slice q.1.1 r.body.terms.length q.1.2),.val (.slice q.2.1 r.body.goals.length q.2.2)] 63)),(1,some (.cells r8 [.val (.string ⟨#[]⟩),.val (.slice none 0 0),.val (.int .i64 0),.val (.slice none 0 0),.val (.slice none 0 0),.val (.slice none 0 0)] 106)),(2,some (.cells r10 [.val (.string ⟨#[]⟩),.val (.slice none 0 0),.val (.int .i64 i),.row 3 b ys.length n,.val (.slice none 0 0),.val (.slice none 0 0)] 106)),(3,some (.row b n 75 4 ys))],4,μ,Mem.nil⟩) (fun z=>vs.length-z.1)
  (0,none,0,[]) ⟨Nat.zero_le _,Nat.le_refl _,.nil⟩ (fun(_,_,_,_)=>⟨rfl,rfl⟩) ?_ ?_
 ·exact⟨⟨⟨_,rfl,.inl rfl⟩,⟨_,rfl,.inl rfl⟩,⟨_,rfl,.inl rfl⟩,⟨_,rfl,.inl rfl⟩,⟨_,rfl,.inl rfl⟩,⟨_,rfl,.inl rfl⟩,⟨_,rfl,.inl rfl⟩,⟨_,rfl,.inl rfl⟩,trivial⟩,⟨.inl rfl,.inl rfl,.inr (.inr ⟨_,_,_,_,rfl,rfl,.inl rfl,.inl rfl,.inl rfl,.inr ⟨3,rfl,rfl,Nat.le_refl _⟩,.inl rfl,.inl rfl,trivial⟩),.inr (.inl ⟨_,_,rfl,Nat.le_refl _⟩),trivial⟩,rfl,rfl⟩
 rintro⟨k,b,n,ys⟩ ⟨hk,hkn,hrows⟩
 dsimp only at hk hkn hrows
 have hlen:=hrows.len
 simp only[List.length_map,List.length_take]at hlen
 refine ifd (fun hlt=>?_) (fun hlt=>?_)
 ·have w_ := aSo (l := vs) (i := k) (by omega)
  obtain⟨x,hx⟩:=w_
  have w_:=B.elem hb (zH hx)
  obtain⟨ad,p,hel,hto⟩:=w_
  refine eIn hel ?_
  intro r12 r28
  refine qBi ?_ ?_ fun b' n' hcap _=>?_
  ·show(ys.length+1)*56≤_;omega
  ·exact Nat.le_trans (m:=100000000) (show ys.length+1≤_ by omega) (by decide)
  have hcap:ys.length+1≤n':=hcap
  refine aB (by omega) (by omega) ⟨(k+1,b',n',_),⟨by dsimp only;omega,by dsimp only;omega,?_⟩,by dsimp only;omega,⟨⟨rfl,rfl,rfl,rfl,rfl,rfl,rfl,rfl,trivial⟩,⟨rfl,rfl,rfl,rfl,trivial⟩,rfl,rfl⟩⟩
  dsimp only
  rw[List.take_add_one,hx,Option.toList_some]
  simp only[List.map_append,List.map_cons,List.map_nil]
  exact hrows.append (Rows.one hto (Tm.d_n _))
 obtain rfl:k=vs.length:=by omega
 rw[List.take_length]at hrows
 refine aG 0 a rfl ha (Nat.zero_le _) (by omega) ?_
 refine aU (fun z:Nat×(Option Nat×Nat×List Value)×(Option Nat×Nat×List Value)×Mem=>z.1≤c.length∧μ.Le z.2.2.2∧Rows z.2.2.2 2 (((bQ vs (c.take z.1)).map F.fc).map Fc.d) z.2.1.2.2∧Rows z.2.2.2 2 (((iU vs (c.take z.1)).map F.fc).map Fc.d) z.2.2.1.2.2∧∀g∈c.take z.1,okS vs g)
  (fun(j,(pb,pc,ps),(nb,nc,ns),μ')=>⟨[(3,.val (.slice bb vs.length bc)),(8,.loc 1 r8 0),(10,.loc 2 r10 0),(41,.val (.slice cb c.length cc)),(42,.val (.int .i64 c.length)),(43,.val (.int .i64 j))],[(1,some (.cells r8 [.val (.string ⟨#[]⟩),.val (.slice none 0 0),.val (.int .i64 0),.val (.slice none 0 0),.val (.slice none 0 0),.val (.slice none 0 0)] 106)),(2,some (.cells r10 [.val (.string r.name),.val (.slice (if n=0 then(b.map fun r=>(⟨r,0,none⟩:Addr))else(b.map fun r=>(⟨r,0,none⟩:Addr)).map (·.add (0*4))) (a-0) (n-0)),.val (.int .i64 i),.row 3 b ys.length n,.row 4 pb ps.length pc,.row 5 nb ns.length nc] 106)),(3,some (.row b n 75 4 ys)),(4,some (.row pb pc 41 2 ps)),(5,some (.row nb nc 41 2 ns))],6,μ',Mem.nil⟩) (fun z=>c.length-z.1)
  (0,(none,0,[]),(none,0,[]),μ) ⟨Nat.zero_le _,Mem.Le.refl _,.nil,.nil,by simp⟩ (fun(_,(_,_,_),(_,_,_),_)=>⟨rfl,rfl⟩) ?_ ?_
 ·exact⟨⟨⟨_,rfl,.inl rfl⟩,⟨_,rfl,.inl rfl⟩,⟨_,rfl,.inl rfl⟩,⟨_,rfl,.inl rfl⟩,⟨_,rfl,.inl rfl⟩,⟨_,rfl,.inl rfl⟩,trivial⟩,⟨.inl rfl,.inr (.inr ⟨_,_,_,_,rfl,rfl,.inl rfl,.inl rfl,.inl rfl,.inl rfl,.inr ⟨4,rfl,rfl,Nat.le_refl _⟩,.inr ⟨5,rfl,rfl,Nat.le_succ 4⟩,trivial⟩),.inl rfl,.inr (.inl ⟨_,_,rfl,Nat.le_refl _⟩),.inr (.inl ⟨_,_,rfl,Nat.le_succ 4⟩),trivial⟩,rfl,rfl⟩
 rintro⟨j,⟨pb,pc,ps⟩,⟨nb,nc,ns⟩,μ'⟩ ⟨hj,hle,hps,hns,hall⟩
 dsimp only at hj hle hps hns hall
 have hpl:=hps.len
 have hnl:=hns.len
 have hpf:(bQ vs (c.take j)).length≤1000:=by
  rw[bQ,List.length_map]
  exact Nat.le_trans (List.length_filter_le _ _) (by rw[List.length_take];omega)
 have hnf:(iU vs (c.take j)).length≤1000:=by
  rw[iU,List.length_map]
  exact Nat.le_trans (List.length_filter_le _ _) (by rw[List.length_take];omega)
 simp only[List.length_map]at hpl hnl
 have fin:∀μ2 μ3 μ4:Mem,μ'.Le μ2→RowAt μ2 b n 4 ys→μ2.Le μ3→RowAt μ3 pb pc 2 ps→μ3.Le μ4→RowAt μ4 nb nc 2 ns→
   RepV μ4 (Ru.rd ⟨⟨r.name,vs.take a⟩,i,vs,bQ vs (c.take j),iU vs (c.take j)⟩).d (.agg #[.string r.name,.slice (if n=0 then(b.map fun r=>(⟨r,0,none⟩:Addr))else(b.map fun r=>(⟨r,0,none⟩:Addr)).map (·.add (0*4))) (a-0) (n-0),.int .i64 i,.slice (b.map fun r=>(⟨r,0,none⟩:Addr)) ys.length n,.slice (pb.map fun r=>(⟨r,0,none⟩:Addr)) ps.length pc,.slice (nb.map fun r=>(⟨r,0,none⟩:Addr)) ns.length nc]):=by
  intro μ2 μ3 μ4 h1 h2 h3 h4 h5 h6
  have hmax:(1000:Nat)≤maxLen:=by decide
  have k1:=qGw h2 (hrows.mono (hle.trans h1)) hal (by omega)
  have k2:=Rows.sl h2 (hrows.mono (hle.trans h1)) (Nat.le_trans (m:=1000) (by omega) hmax)
  have k3:=Rows.sl h4 (hps.mono (h1.trans h3)) (Nat.le_trans (m:=1000) (by omega) hmax)
  have k4:=Rows.sl h6 (hns.mono ((h1.trans h3).trans h5)) (Nat.le_trans (m:=1000) (by omega) hmax)
  rw[RuD.d_eq]
  exact⟨_,rfl,RepS.str (RepS.cons1 (k1.mono (h3.trans h5)) (RepS.int (RepS.cons1 (k2.mono (h3.trans h5)) (RepS.cons1 (k3.mono h5) (RepS.last k4)))))⟩
 refine ifd (fun hlt=>?_) (fun hlt=>?_)
 rotate_left
 ·obtain rfl : j = c.length := by omega
  rw[List.take_length]at hall fin
  refine rFz [3,4,5] fun μ2 hle2 hno2 hat2 μ3 hle3 hno3 hat3 μ4 hle4 hno4 hat4=> .inl ⟨_,_,?_,fin μ2 μ3 μ4 hle2 hat2 hle3 hat3 hle4 hat4,fun _=>by rw[dZ,ha];rfl⟩
  rw[decide_eq_true hall]
 have w_:=aSo (l:=c) (i:=j) (by omega)
 obtain⟨g,hg⟩:=w_
 have w_:=Gl.elem (hc.mono hle) hg
 obtain⟨ad,pg,hel,hrg⟩:=w_
 have hG:=hcs g (mAt hg)
 refine eIn hel ?_
 intro r14
 have hput:=qBr (bs:=kQ vs) (b0:=bb) (c0:=bc) g hrg hG.sh (by rw[lH];exact hb.mono hle)
 rw[lH,qHh]at hput
 refine cPl hput fun v1 μ1 hle1 hR=>?_
 have w_:=Gl.invV hR
 obtain⟨p1,rfl⟩:=w_
 intro r15
 have all1:okS vs g→∀x∈c.take (j+1),okS vs x:=fun h x hx=>by
  rw[List.take_add_one,hg,Option.toList_some]at hx
  rcases List.mem_append.1 hx with hx|hx
  ·exact hall x hx
  ·rw[List.mem_singleton.1 hx];exact h
 refine ifd (fun h9=>?_) (fun h9=>?_)
 ·intro r61
  refine gIn ?_ ?_ fun b' c' _=>?_
  ·show(ps.length+1)*40≤_;omega
  ·exact Nat.le_trans (m:=100000000) (show ps.length+1≤_ by omega) (by decide)
  refine aB (by omega) (by omega) ⟨(j+1,(b',c',_),(nb,nc,ns),μ1),⟨by dsimp only;omega,hle.trans hle1,?_,?_,all1 fun k=>absurd h9 k⟩,by dsimp only;omega,⟨⟨rfl,rfl,rfl,rfl,rfl,rfl,trivial⟩,⟨rfl,rfl,rfl,rfl,rfl,trivial⟩,rfl,rfl⟩⟩
  ·dsimp only
   rw[fZ hg,if_pos h9]
   simp only[List.map_append,List.map_cons,List.map_nil]
   have:=yI hR
   rw[Gl.put_name]
   exact(hps.mono hle1).append (Rows.one this (Fc.d_n _))
  ·dsimp only
   rw[iP hg,if_neg (by omega),List.append_nil]
   exact hns.mono hle1
 refine ifd (fun h10=>?_) (fun h10=>?_)
 ·have hgl := hG.sh.top.gl1 h10
  have w_:=Gl.inv hR
  obtain⟨q1,e1,_,hgs⟩:=w_
  have hkid:(g.put (bT vs)).goals[0]? =some (g.kid.put (bT vs)):=by rw[Gl.put_goals,List.getElem?_map,Gl.kid_at hgl];rfl
  have w_:=Gl.elem hgs hkid
  obtain⟨ad2,pk,hel2,hrk⟩:=w_
  have hp:q1=p1:=by
   have h2:=congrArg (fun v=>match v with|Value.agg a=>(a[2]?,a[3]?)|_=>(none,none)) e1
   simp at h2
   exact Prod.ext (Prod.ext h2.1.1.symm h2.1.2.symm) (Prod.ext h2.2.1.symm h2.2.2.symm)
  subst hp
  refine eIn hel2 ?_
  refine eIn hel2 ?_
  intro r81
  refine gIn ?_ ?_ fun b' c' _=>?_
  ·show(ns.length+1)*40≤_;omega
  ·exact Nat.le_trans (m:=100000000) (show ns.length+1≤_ by omega) (by decide)
  refine aB (by omega) (by omega) ⟨(j+1,(pb,pc,ps),(b',c',_),μ1),⟨by dsimp only;omega,hle.trans hle1,?_,?_,all1 fun _ k=>absurd h10 k⟩,by dsimp only;omega,⟨⟨rfl,rfl,rfl,rfl,rfl,rfl,trivial⟩,⟨rfl,rfl,rfl,rfl,rfl,trivial⟩,rfl,rfl⟩⟩
  ·dsimp only
   rw[fZ hg,if_neg h9,List.append_nil]
   exact hps.mono hle1
  ·dsimp only
   rw[iP hg,if_pos h10]
   simp only[List.map_append,List.map_cons,List.map_nil]
   have:=yI (vs:=vs) (g:=g.kid) hrk
   rw[Gl.put_name]
   exact(hns.mono hle1).append (Rows.one this (Fc.d_n _))
 have hterms:(g.put (bT vs)).terms=(g.terms.map fun t=>t.toT.subst (bT vs)).map T.tm:=by rw[Gl.put_terms,List.map_map];rfl
 refine cGv (zW hR hterms (by rw[Gl.put_kind,List.length_map];exact hG.simple)) ?_
 rw[Gl.put_kind]
 refine aL (fun hf=>?_) (fun hf=>?_)
 ·refine rFz [3, 4, 5] fun μ2 hle2 hno2 hat2 μ3 hle3 hno3 hat3 μ4 hle4 hno4 hat4 => .inl ⟨_, _, ?_, fin μ2 μ3 μ4 (hle1.trans hle2) hat2 hle3 hat3 hle4 hat4, fun k => absurd (k g (mAt hg) h9 h10) hf⟩
  rw[decide_eq_false fun k=>hf (k g (mAt hg) h9 h10)]
 ·refine aB (by omega) (by omega) ⟨(j + 1, (pb, pc, ps), (nb, nc, ns), μ1), ⟨by dsimp only; omega, hle.trans hle1, ?_, ?_, all1 fun _ _ => hf⟩, by dsimp only; omega, ⟨⟨rfl, rfl, rfl, rfl, rfl, rfl, trivial⟩, ⟨rfl, rfl, rfl, rfl, rfl, trivial⟩, rfl, rfl⟩⟩
  ·dsimp only
   rw[fZ hg,if_neg h9,List.append_nil]
   exact hps.mono hle1
  ·dsimp only
   rw[iP hg,if_neg h10,List.append_nil]
   exact hns.mono hle1
end
end Go.Vx
namespace Go.Vx
open Go.Proofs Classical
section
variable {μ:Mem}
theorem qDa{p:Pg}{f:Fc}{k:Nat}(hk:relAt p f.rel=(k:Int)){r:Rl}(hr:p.rels[k]? =some r):qRy p f↔r.arity=(f.args.length:Int):=by
 constructor
 ·rintro ⟨k', r', h1, h2, h3⟩
  have e:k'=k:=by omega
  rw[e,hr]at h2;cases h2;exact h3
 ·exact fun h=>⟨k,r,hk,hr,h⟩
theorem gA{p:Pg}{s:ByteArray}(h:0≤relAt p s):∃(k:Nat) (r:Rl),relAt p s=(k:Int)∧p.rels[k]? =some r∧r.name=s:=by
 have w_:=gL (l:=p.rels) (i:=0) (s:=s) h
 obtain⟨j,r,h1,h2,h3⟩:=w_
 exact⟨j,r,by rw[relAt,h1];congr 1;omega,h2,h3⟩
theorem sF{p:Pg}{f:Fc}{v w:Value}(hp:RepV μ p.d v)(hw:p.d.wd)(hf:RepV μ f.d w)(hwf:f.d.wd):
  Spec Tryz.prog 157 [v,w] μ fun r _=>r= .bool (decide (p.Ok∧FactFits p f)):=by
 have hp0:=hp
 have w_:=Pg.inv hp
 obtain⟨q0,rfl,hrl⟩:=w_
 have w_:=Fc.inv hf
 obtain⟨q,rfl,hA⟩:=w_
 have hA:Sl μ 4 q.1 f.args.length (f.args.map Tm.d):=hA
 have hn:=aH hA.max
 refine Spec.mk Tryz.func157 (by kernel_rfl) ?_
 intro r2 r3
 refine cPl (iR hp0 hw) fun v1 μ1 hle1 hR=>?_
 obtain rfl:=hR
 refine ifd (fun hneg=>rPl (isF fun k=>?_)) (fun hge=>?_)
 ·obtain ⟨k', r', h1, _⟩ := k.2.1
  rw[eF,if_pos k.1]at hneg
  omega
 have hok:p.Ok:=Classical.byContradiction fun k=>by rw[eF,if_neg k]at hge;exact hge (by decide)
 rw[eF,if_pos hok]at hge ⊢
 have w_:=gA (show 0≤relAt p f.rel by omega)
 obtain⟨k,r,hk,hr,_⟩:=w_
 have hfor:=qDa hk hr
 rw[hk]
 have w_:=Rl.elemA (hrl.mono hle1) hr
 obtain⟨ad,q2,hel,_,_⟩:=w_
 refine eIn hel ?_
 refine aL (fun h=>rPl (isF fun k=>h (hfor.1 k.2.1).symm)) (fun har=>?_)
 refine lIn (fun i:Nat=>i≤f.args.length∧∀t∈f.args.take i,GndT t)
  (fun i=>⟨[(27,.val (.slice q.1 f.args.length q.2)),(28,.val (.int .i64 f.args.length)),(29,.val (.int .i64 i))],[],2,μ1,Mem.nil⟩) (fun i=>f.args.length-i)
  0 ⟨Nat.zero_le _,by simp⟩ (fun _=>⟨rfl,rfl⟩) ⟨⟨rfl,rfl,rfl,trivial⟩,trivial,rfl,rfl⟩ ?_
 rintro i ⟨hi,hall⟩
 refine ifd (fun hlt=>?_) (fun hlt=>?_)
 ·have w_ := aSo (l := f.args) (i := i) (by omega)
  obtain⟨t,ht⟩:=w_
  have w_:=Tm.elem (hA.mono hle1) ht
  obtain⟨ad,pt,hel,hrt⟩:=w_
  refine eIn hel ?_
  intro r7
  refine cGv (iS t hrt (D.wds_mem (by rw[Fc.d_eq]at hwf;exact hwf.2.1) _ (mAt (lM (f:=Tm.d) ht)))) ?_
  refine aL (fun h=>rPl (isF fun k=>h (k.2.2 t (mAt ht)))) (fun h=>?_)
  refine aB (by omega) (by omega) ⟨i+1,⟨by omega,?_⟩,by omega,⟨⟨rfl,rfl,rfl,trivial⟩,trivial,rfl,rfl⟩⟩
  rw[List.take_add_one,ht,Option.toList_some]
  intro y hy
  rcases List.mem_append.1 hy with hy|hy
  ·exact hall y hy
  ·rw[List.mem_singleton.1 hy];exact h
 ·obtain rfl : i = f.args.length := by omega
  rw[List.take_length]at hall
  exact rPl (isT ⟨hok,hfor.2 har.symm,hall⟩)
end
end Go.Vx
namespace Go.Vx
open Go.Proofs Classical
def qDo(P:List Ru→Value→Prop)(o:Option (List Ru))(v:Value):Prop:=match o with
 |some y=>∃tv,v= .tuple #[tv,.bool true]∧P y tv
 |none=>v= .tuple #[.slice none 0 0,.bool false]
noncomputable def bX(p:Pg)(l:List Tm):Option (List Ru):=if p.Ok∧UnivOk l then cI p (l.map Tm.toT)else none
theorem iB{U:List T}{r:Rl}{i:Nat}{c:List Gl}{w:Nat}:∀m,∃X,bI U r i c (w+m)=bI U r i c w++X
 |0=>⟨[],by simp⟩
 |m+1=>by
  have w_:=iB (U:=U) (r:=r) (i:=i) (c:=c) (w:=w) m
  obtain⟨X,hX⟩:=w_
  exact⟨X++(dY U r i c (w+m)).toList,by rw[←Nat.add_assoc,kN,hX,List.append_assoc]⟩
theorem qHj{α:Type}{A B:List α}(h:2000<(A.take 2001).length):(A++B).take 2001=A.take 2001:=by
 rw[List.length_take]at h
 rw[List.take_append_of_le_length (by omega)]
theorem qCm{α:Type}{A:List α}(h:(A.take 2001).length≤2000):A.length≤2000:=by
 rw[List.length_take]at h;omega
theorem okG_iff{U vs:List T}{c:List Gl}:(∀g∈c,okG U vs g)↔(∀g∈c,okS vs g)∧(∀f∈bQ vs c,∀a∈f.args,a∈U)∧∀f∈iU vs c,∀a∈f.args,a∈U:=by
 constructor
 ·intro h
  refine⟨fun g hg h9 h10=>?_,fun f hf=>?_,fun f hf=>?_⟩
  ·have := h g hg
   rwa [okG,if_neg h9,if_neg h10]at this
  ·have w_ := List.mem_map.1 hf
   obtain⟨g,hg,rfl⟩:=w_
   have w_:=List.mem_filter.1 hg
   obtain⟨hg,h9⟩:=w_
   have h9:g.kind=9:=of_decide_eq_true h9
   have:=h g hg
   rwa [okG,if_pos h9]at this
  ·have w_ := List.mem_map.1 hf
   obtain⟨g,hg,rfl⟩:=w_
   have w_:=List.mem_filter.1 hg
   obtain⟨hg,h10⟩:=w_
   have h10:g.kind=10:=of_decide_eq_true h10
   have:=h g hg
   rwa [okG,if_neg (by omega),if_pos h10]at this
 ·rintro ⟨h1, h2, h3⟩ g hg
  rw[okG]
  split
  ·rename_i h9
   exact h2 _ (List.mem_map.2 ⟨g,List.mem_filter.2 ⟨hg,by simpa using h9⟩,rfl⟩)
  ·rename_i h9
   split
   ·rename_i h10
    exact h3 _ (List.mem_map.2 ⟨g,List.mem_filter.2 ⟨hg,by simpa using h10⟩,rfl⟩)
   ·rename_i h10
    exact h1 g hg h9 h10
theorem rV{g:Gl}(h:ClG g)(vs:List T):(cJ vs g).args.length≤4:=by
 show(g.terms.map _).length≤4
 rw[List.length_map]
 exact h.sh.lens4
theorem wB{vs:List T}{c:List Gl}(h:∀g∈c,ClG g):∀f∈bQ vs c,f.args.length≤4:=fun f hf=>by
 have w_:=List.mem_map.1 hf
 obtain⟨g,hg,rfl⟩:=w_
 exact rV (h g (List.mem_filter.1 hg).1) vs
theorem ClG.kid{g:Gl}(h:ClG g)(h10:g.kind=10):ClG g.kid:=by
 have hk:=Gl.kid_at (h.sh.top.gl1 h10)
 have:=h.sh.top.cl h10 _ hk
 exact⟨h.sh.sub _ (mAt hk),by omega,by omega⟩
theorem qKf{vs:List T}{c:List Gl}(h:∀g∈c,ClG g):∀f∈iU vs c,f.args.length≤4:=fun f hf=>by
 have w_:=List.mem_map.1 hf
 obtain⟨g,hg,rfl⟩:=w_
 have w_:=List.mem_filter.1 hg
 obtain⟨hg,h10⟩:=w_
 exact rV ((h g hg).kid (of_decide_eq_true h10)) vs
theorem uJ{vs:List T}{c:List Gl}:(bQ vs c).length≤c.length:=by
 rw[bQ,List.length_map];exact List.length_filter_le _ _
theorem qCz{vs:List T}{c:List Gl}:(iU vs c).length≤c.length:=by
 rw[iU,List.length_map];exact List.length_filter_le _ _
section
variable {μ:Mem}
theorem Ru.mkV{r:Ru}{b1 b2 b3 b4:Option Addr}{c1 c2 c3 c4:Nat}(h1:RepV μ (.sl 4 ((r.head.args.map T.tm).map Tm.d)) (.slice b1 r.head.args.length c1))(h2:RepV μ (.sl 4 ((r.vals.map T.tm).map Tm.d)) (.slice b2 r.vals.length c2))
  (h3:RepV μ (.sl 2 ((r.pos.map F.fc).map Fc.d)) (.slice b3 r.pos.length c3)) (h4:RepV μ (.sl 2 ((r.neg.map F.fc).map Fc.d)) (.slice b4 r.neg.length c4)):
  RepV μ r.rd.d (.agg #[.string r.head.rel,.slice b1 r.head.args.length c1,.int .i64 r.clause,.slice b2 r.vals.length c2,.slice b3 r.pos.length c3,.slice b4 r.neg.length c4]):=by
 rw[RuD.d_eq]
 exact⟨_,rfl,RepS.str (RepS.cons1 h1 (RepS.int (RepS.cons1 h2 (RepS.cons1 h3 (RepS.last h4)))))⟩
set_option maxHeartbeats 8000000 in
set_option maxRecDepth 20000 in
theorem mG{p:Pg}{l:List Tm}{v:Value}{ub:Option Addr}{uc:Nat}(hp:RepV μ p.d v)(hw:p.d.wd)(hu:Sl μ 4 ub l.length (l.map Tm.d))(hwu:D.wds (l.map Tm.d)):
  Spec Tryz.prog 148 [v,.slice ub l.length uc] μ fun v μ'=>qDo (fun y tv=>RepV μ' (.sl 6 ((y.map Ru.rd).map RuD.d)) tv) (bX p l) v:=by
 have hp0:=hp
 have w_:=Pg.inv hp
 obtain⟨q,rfl,hrl⟩:=w_
 refine Spec.mk Tryz.func148 (by kernel_rfl) ?_
 intro r2
 refine cPl (bD hp0 hw) fun v1 μ1 hle1 hR=>?_
 obtain rfl:=hR
 refine aL (fun h=>rPl (by rw[bX,if_neg fun k=>h k.1];rfl)) (fun hok=>?_)
 refine cGv (nS (hu.mono hle1) hwu) ?_
 refine aL (fun h=>rPl (by rw[bX,if_neg fun k=>h k.2];rfl)) (fun huok=>?_)
 obtain⟨U,rfl,hUg,hUl⟩:=huok.lift
 have hgo:bX p (U.map T.tm)=cI p U:=by rw[bX,if_pos ⟨hok,huok⟩,gO]
 rw[hgo]
 have hU1:1≤U.length:=by rw[hUl];exact huok.pos
 have hU8:U.length≤8:=by rw[hUl];exact huok.max
 rw[←hUl]at hu ⊢
 clear hgo hUl huok hUg hwu
 have hn:=hok.1
 intro r27
 refine lIn (fun z:Nat×Option Nat×Nat×List Value×Mem=>z.1≤p.rels.length∧μ1.Le z.2.2.2.2∧Rows z.2.2.2.2 6 (((((p.rels.take z.1).flatMap (cD U)).take 2001).map Ru.rd).map RuD.d) z.2.2.2.1∧∀r∈p.rels.take z.1,r.body.cl≠none∧U.length ^ (r.arity+r.locals).toNat≤4096)
  (fun(i,b,c,ys,μ')=>⟨[(1,.val (.slice ub U.length uc)),(6,.row 1 b ys.length c),(29,.val (.slice q.1 p.rels.length q.2)),(30,.val (.int .i64 p.rels.length)),(31,.val (.int .i64 i))],[(1,some (.row b c 106 6 ys))],2,μ',Mem.nil⟩) (fun z=>p.rels.length-z.1)
  (0,some r27,0,[],μ1) ⟨Nat.zero_le _,Mem.Le.refl _,.nil,by simp⟩ (fun(_,_,_,_,_)=>⟨rfl,rfl⟩) ⟨⟨rfl,rfl,rfl,rfl,rfl,trivial⟩,⟨rfl,trivial⟩,rfl,rfl⟩ ?_
 rintro⟨i,b,c,ys,μ'⟩ ⟨hi,hle,hrows,hways⟩
 dsimp only at hi hle hrows hways
 have hyl:=hrows.len
 simp only[List.length_map]at hyl
 refine ifd (fun hlt=>?_) (fun hlt=>?_)
 rotate_left
 ·obtain rfl : i = p.rels.length := by omega
  rw[List.take_length]at hrows hways hyl
  have hall:(p.rels.flatMap (cD U))=cC p U:=rfl
  rw[hall]at hrows hyl
  refine ifd (fun hbig=>rPl ?_) (fun hbig=>?_)
  ·rw[cI,if_neg fun k=>by have:=k.2;rw[List.length_take]at hyl;omega];rfl
  ·have hle2 : (cC p U).length ≤ 2000 := qCm (by omega)
   rw[List.take_of_length_le (by omega)]at hrows
   rw[cI,if_pos ⟨hways,hle2⟩]
   refine rFz [1] fun μ2 hle2 hno hat=> .inl ⟨_,rfl,?_⟩
   exact Rows.sl hat (hrows.mono hle2) (Nat.le_trans (m:=100000) (by rw[List.length_take]at hyl;omega) (by decide))
 have w_:=aSo (l:=p.rels) (i:=i) (by omega)
 obtain⟨r,hr⟩:=w_
 have w_:=Rl.elemA ((hrl.mono hle1).mono hle) hr
 obtain⟨ad,q2,hel,hrv,hb⟩:=w_
 have hb:RepV μ' r.body.d (.agg (r.body.cs q2).toArray):=hb
 have hrok:=hok.2 i r hr
 have w_:=Int.eq_ofNat_of_zero_le hrok.ar0
 obtain⟨a,ha⟩:=w_
 have w_:=Int.eq_ofNat_of_zero_le hrok.lo0
 obtain⟨lo,hlo⟩:=w_
 have har4:=hrok.ar4
 have hlo8:=hrok.lo8
 have hnn:(r.arity+r.locals).toNat=a+lo:=by omega
 have hsz:=hrok.size
 refine eIn hel ?_
 intro r8 r35
 refine lIn (fun z:Nat×Option Nat×Nat=>z.1≤a+lo)
  (fun(n,vb,vc)=>⟨[(1,.val (.slice ub U.length uc)),(6,.row 1 b ys.length c),(8,.loc 2 r8 0),(9,.row 3 vb (aF (nP n)).length vc),(10,.val (.int .i64 n)),(29,.val (.slice q.1 p.rels.length q.2)),(30,.val (.int .i64 p.rels.length)),(31,.val (.int .i64 i))],[(1,some (.row b c 106 6 ys)),(2,some (.cells r8 [.val (.string r.name),.val (.int .i64 r.arity),.val (.int .i64 r.locals),.val (.int .i64 r.body.kind),.val (.string r.body.name),.val (.slice q2.1.1 r.body.terms.length q2.1.2),.val (.slice q2.2.1 r.body.goals.length q2.2.2)] 63)),(3,some (.row vb vc 3 1 (aF (nP n))))],4,μ',Mem.nil⟩) (fun z=>a+lo-z.1)
  (0,some r35,0) (Nat.zero_le _) (fun(_,_,_)=>⟨rfl,rfl⟩) ⟨⟨rfl,rfl,rfl,rfl,rfl,rfl,rfl,rfl,trivial⟩,⟨rfl,rfl,rfl,trivial⟩,rfl,rfl⟩ ?_
 rintro⟨n,vb,vc⟩ hn2
 dsimp only at hn2
 have hil:(aF (nP n)).length=n:=by rw[aF,List.length_map,rN]
 refine nEq (x:=((a+lo:Nat):Int)) (by rw[aA (by omega) (by omega)];omega) ?_
 refine ifd (fun h2=>?_) (fun h2=>?_)
 ·intro r47
  refine gIn ?_ ?_ fun b' c' _=>?_
  ·show(_+1)*8≤_;omega
  ·exact Nat.le_trans (m:=1000) (show _+1≤_ by omega) (by decide)
  have ez:aF (nP (n+1))=aF (nP n)++[.int .i64 (n:Int)]:=by simp[aF,nP,List.range_succ]
  refine aB (by omega) (by omega) ⟨(n+1,b',c'),by dsimp only;omega,by dsimp only;omega,?_⟩
  dsimp only
  rw[ez]
  exact⟨⟨rfl,rfl,rfl,by rw[List.length_append];rfl,rfl,rfl,rfl,rfl,trivial⟩,⟨rfl,rfl,rfl,trivial⟩,rfl,rfl⟩
 obtain rfl:n=a+lo:=by omega
 refine cPl (gE hb (qOg hw hr) ⟨hrok.body,by omega⟩) fun v3 μ3 hle3 hR3=>?_
 have hwsp:=zV (μ:=μ3) (size:=U.length) (n:=(aF (nP (a+lo))).length) (most:=4096) hU1 hU8 (by omega) (by omega) (by omega)
 cases hL:r.body.cl with
 |none=>
  rw[hL]at hR3
  obtain rfl:=hR3
  refine cPl hwsp fun v4 μ4 hle4 hR4=>?_
  obtain⟨⟨W,rfl,_,_⟩,rfl⟩:=hR4
  refine iIn (fun _=>rPl ?_) (fun h=>nomatch h)
  rw[cI,if_neg fun k=>(k.1 r (mAt hr)).1 hL];rfl
 |some L=>
 rw[hL]at hR3
 obtain⟨tv,rfl,hLr⟩:=hR3
 obtain⟨pv,rfl⟩:=hLr.inv
 refine cPl hwsp fun v4 μ4 hle4 hR4=>?_
 obtain⟨⟨W,rfl,hW1,hW2⟩,e4⟩:=hR4
 obtain rfl:=e4.symm
 rw[hil]at hW1 hW2
 refine iIn (fun h=>nomatch h) (fun _=>?_)
 refine ifd (fun hbig=>rPl ?_) (fun hsmall=>?_)
 ·rw[cI,if_neg fun k=>by
   have h1:=(k.1 r (mAt hr)).2
   rw[hnn]at h1
   have:=hW1 h1
   omega];rfl
 have hWle:U.length ^ (a+lo)≤4096:=Nat.le_of_not_lt fun h=>by have:=hW2 h;omega
 have w_:=hW1 hWle
 obtain rfl:=w_
 have hLs:=(Cls.sl hLr).1
 have hLb:=Gl.cl_bnd r.body hL
 generalize hpre:(p.rels.take i).flatMap (cD U)=pre at*
 refine lFz (fun z:Nat×Option Nat×Nat×List Value×Mem×(Option Nat×Nat)=>z.1≤L.length∧μ3.Le z.2.2.2.2.1∧Sl z.2.2.2.2.1 1 (z.2.2.2.2.2.1.map fun r=>(⟨r,0,none⟩:Addr)) (a+lo) ((nP (a+lo)).map D.i)∧Rows z.2.2.2.2.1 6 ((((pre++aY U r L z.1).take 2001).map Ru.rd).map RuD.d) z.2.2.2.1)
  (fun(k,b,c,ys,μ',vb,vc)=>⟨[(1,.val (.slice ub U.length uc)),(6,.row 1 b ys.length c),(8,.loc 2 r8 0),(9,.val (.slice (vb.map fun r=>(⟨r,0,none⟩:Addr)) (aF (nP (a+lo))).length vc)),(13,.val (.int .i64 ((U.length ^ (a+lo):Nat):Int))),(29,.val (.slice q.1 p.rels.length q.2)),(30,.val (.int .i64 p.rels.length)),(31,.val (.int .i64 i)),(66,.val (.slice pv.1 L.length pv.2)),(67,.val (.int .i64 L.length)),(68,.val (.int .i64 k))],[(1,some (.row b c 106 6 ys)),(2,some (.cells r8 [.val (.string r.name),.val (.int .i64 r.arity),.val (.int .i64 r.locals),.val (.int .i64 r.body.kind),.val (.string r.body.name),.val (.slice q2.1.1 r.body.terms.length q2.1.2),.val (.slice q2.2.1 r.body.goals.length q2.2.2)] 63))],4,μ',Mem.nil⟩) (fun z=>L.length-z.1) [3]
  (fun(_,_,_,_,_,_,_)=>⟨rfl,rfl⟩) ?_ ?_
 ·intro μf hlef hnof hatf
  have hsl:=Ints.sl hatf (Nat.le_trans (m:=1000) (by rw[rN];omega) (by decide))
  rw[hil]at hsl
  have w_:=Rep.sl hsl
  obtain⟨bz,cz,ez,hzs⟩:=w_
  have w_:=Value.slice.inj ez
  obtain⟨e1,_,_⟩:=w_
  rw[←e1,List.length_map,rN]at hzs
  refine⟨(0,b,c,ys,μf,vb,vc),⟨Nat.zero_le _,hlef,hzs,?_⟩,⟨⟨rfl,rfl,rfl,rfl,rfl,rfl,rfl,rfl,rfl,rfl,rfl,trivial⟩,⟨rfl,rfl,trivial⟩,rfl,rfl⟩⟩
  have e0:pre++aY U r L 0=pre:=by simp[aY]
  dsimp only
  rw[e0]
  exact(hrows.mono hle3).mono hlef
 clear hrows hyl hil
 rintro⟨k,b,c,ys,μ5,vb,vc⟩ ⟨hk,hle5,hvs,hrows⟩
 dsimp only at hk hle5 hvs hrows
 have hil:(aF (nP (a+lo))).length=a+lo:=by rw[aF,List.length_map,rN]
 refine ifd (fun hltk=>?_) (fun hltk=>?_)
 rotate_left
 ·obtain rfl : k = L.length := by omega
  refine aB (by omega) (by omega) ⟨(i+1,b,c,ys,μ5),⟨by dsimp only;omega,(hle.trans hle3).trans hle5,?_,?_⟩,by dsimp only;omega,⟨⟨rfl,rfl,rfl,rfl,rfl,trivial⟩,⟨rfl,trivial⟩,rfl,rfl⟩⟩
  ·dsimp only
   rw[jI hr,hpre]
   have e:cD U r=aY U r L L.length:=by rw[cD,hL]
   rw[e];exact hrows
  ·dsimp only
   intro x hx
   rw[List.take_add_one,hr,Option.toList_some]at hx
   rcases List.mem_append.1 hx with hx|hx
   ·exact hways x hx
   ·rw [List.mem_singleton.1 hx, hL, hnn]
    exact⟨(fun h=>nomatch h),hWle⟩
 have w_:=aSo (l:=L) (i:=k) (by omega)
 obtain⟨cl,hcl⟩:=w_
 have w_:=cF (hLs.mono hle5) hcl
 obtain⟨adc,pc,helc,hrc⟩:=w_
 have hcs:Sl μ5 4 pc.1 cl.length (cl.map Gl.d):=by
  have w_:=Rep.sl (xs:=cl.map Gl.d) hrc
  obtain⟨b',c',e1,hs⟩:=w_
  have w_:=Value.slice.inj e1
  obtain⟨rfl,_,_⟩:=w_
  simpa using hs
 have hcb:=hLb.1 cl (mAt hcl)
 have hG:∀g∈cl,ClG g:=fun g hg=>ClG.of hok hr hL (mAt hcl) hg
 refine eIn helc ?_
 refine lIn (fun z:Nat×Option Nat×Nat×List Value×Mem=>z.1≤U.length ^ (a+lo)∧μ5.Le z.2.2.2.2∧Rows z.2.2.2.2 6 ((((pre++aY U r L k++bI U r k cl z.1).take 2001).map Ru.rd).map RuD.d) z.2.2.2.1)
  (fun(w,b,c,ys,μ')=>⟨[(1,.val (.slice ub U.length uc)),(6,.row 1 b ys.length c),(8,.loc 2 r8 0),(9,.val (.slice (vb.map fun r=>(⟨r,0,none⟩:Addr)) (aF (nP (a+lo))).length vc)),(13,.val (.int .i64 ((U.length ^ (a+lo):Nat):Int))),(14,.val (.int .i64 k)),(15,.val (.slice pc.1 cl.length pc.2)),(16,.val (.int .i64 (w:Nat))),(29,.val (.slice q.1 p.rels.length q.2)),(30,.val (.int .i64 p.rels.length)),(31,.val (.int .i64 i)),(66,.val (.slice pv.1 L.length pv.2)),(67,.val (.int .i64 L.length)),(68,.val (.int .i64 k))],[(1,some (.row b c 106 6 ys)),(2,some (.cells r8 [.val (.string r.name),.val (.int .i64 r.arity),.val (.int .i64 r.locals),.val (.int .i64 r.body.kind),.val (.string r.body.name),.val (.slice q2.1.1 r.body.terms.length q2.1.2),.val (.slice q2.2.1 r.body.goals.length q2.2.2)] 63))],4,μ',Mem.nil⟩) (fun z=>U.length ^ (a+lo)-z.1)
  (0,b,c,ys,μ5) ⟨Nat.zero_le _,Mem.Le.refl _,by simpa[bI]using hrows⟩ (fun(_,_,_,_,_)=>⟨rfl,rfl⟩) ⟨⟨rfl,rfl,rfl,rfl,rfl,rfl,rfl,rfl,rfl,rfl,rfl,rfl,rfl,rfl,trivial⟩,⟨rfl,rfl,trivial⟩,rfl,rfl⟩ ?_
 clear hrows
 rintro⟨w,b,c,ys,μ6⟩ ⟨hw6,hle6,hrows⟩
 dsimp only at hw6 hle6 hrows
 have hyl:=hrows.len
 simp only[List.length_map]at hyl
 have done:(pre++aY U r L k++bI U r k cl w).take 2001=(pre++aY U r L (k+1)).take 2001→∃i':Nat×Option Nat×Nat×List Value×Mem×(Option Nat×Nat),i'=(k+1,b,c,ys,μ6,vb,vc)∧(k+1≤L.length∧μ3.Le μ6∧Sl μ6 1 (vb.map fun r=>(⟨r,0,none⟩:Addr)) (a+lo) ((nP (a+lo)).map D.i)∧Rows μ6 6 ((((pre++aY U r L (k+1)).take 2001).map Ru.rd).map RuD.d) ys):=fun e=>
  ⟨_,rfl,by omega,hle5.trans hle6,hvs.mono hle6,by rw[←e];exact hrows⟩
 have hsucc:=jH (U:=U) (r:=r) hcl
 rw[hnn]at hsucc
 refine ifd (fun hltw=>?_) (fun hltw=>?_)
 rotate_left
 ·obtain rfl : w = U.length ^ (a + lo) := by omega
  have w_:=done (by rw[hsucc,List.append_assoc])
  obtain⟨i',rfl,hI⟩:=w_
  exact aB (by omega) (by omega) ⟨[],(k+1,b,c,ys,μ6,vb,vc),hI,by dsimp only;omega,⟨⟨rfl,rfl,rfl,rfl,rfl,rfl,rfl,rfl,rfl,rfl,rfl,trivial⟩,⟨rfl,rfl,trivial⟩,rfl,rfl⟩⟩
 refine ifd (fun hroom=>?_) (fun hroom=>?_)
 rotate_left
 ·have w_ := iB (U := U) (r := r) (i := k) (c := cl) (w := w) (U.length ^ (a + lo) - w)
  obtain⟨X,hX⟩:=w_
  rw[show w+(U.length ^ (a+lo)-w)=U.length ^ (a+lo) by omega]at hX
  obtain⟨i',rfl,hI⟩:=done (by
   rw[hsucc,hX,←List.append_assoc,←List.append_assoc]
   exact(qHj (by omega)).symm)
  exact aB (by omega) (by omega) ⟨[],(k+1,b,c,ys,μ6,vb,vc),hI,by dsimp only;omega,⟨⟨rfl,rfl,rfl,rfl,rfl,rfl,rfl,rfl,rfl,rfl,rfl,trivial⟩,⟨rfl,rfl,trivial⟩,rfl,rfl⟩⟩
 have hA:=qCm (A:=pre++aY U r L k++bI U r k cl w) (by omega)
 have hA1:(pre++aY U r L k++bI U r k cl w).take 2001=pre++aY U r L k++bI U r k cl w:=List.take_of_length_le (by omega)
 rw[hA1]at hrows hyl
 have hnext:=kN U r k cl w
 have hu6:=(((hu.mono hle1).mono hle).mono hle3).mono (hle5.trans hle6)
 have hvals:=vM (uc:=uc) (vc:=vc) (n:=a+lo) (w:=w) hu6 (by omega) hU8 (hvs.mono hle6) (by omega) (by omega)
 rw[←hil]at hvals
 refine cPl hvals fun v7 μ7 hle7 hR7=>?_
 rw[hil]at hR7
 have w_:=Rep.sl hR7
 obtain⟨b7,c7,e7,hs7⟩:=w_
 simp only[List.length_map,lH]at e7 hs7
 subst e7
 have hdl:=gG U (a+lo) w
 have hrv7:=(hrv.mono hle3).mono ((hle5.trans hle6).trans hle7)
 refine cPl (uG (i:=k) (vs:=dR U (a+lo) w) (a:=a) hrv7 ha (by omega) (by omega) ((hcs.mono hle6).mono hle7) (by omega) hG hs7) fun v8 μ8 hle8 hR8=>?_
 obtain⟨ru,rv,rfl,hrr,hru⟩:=hR8
 have w_:=Ru.inv hrr
 obtain⟨pr,rfl,h81,h82,h83,h84⟩:=w_
 intro r17
 have hu8:=(hu6.mono hle7).mono hle8
 have hmono:=(hle6.trans hle7).trans hle8
 have skip:¬(∀g∈cl,okG U (dR U (a+lo) w) g)→Rows μ8 6 ((((pre++aY U r L k++bI U r k cl (w+1)).take 2001).map Ru.rd).map RuD.d) ys:=fun h=>by
  rw[hnext,dY,hnn,if_neg h,Option.toList_none,List.append_nil,hA1]
  exact(hrows.mono hle7).mono hle8
 refine ifd (fun hS=>?_) (fun hS=>?_)
 rotate_left
 ·exact aB (by omega) (by omega) ⟨(w+1,b,c,ys,μ8),⟨by dsimp only;omega,hmono,skip fun k=>hS (okG_iff.1 k).1⟩,by dsimp only;omega,⟨⟨rfl,rfl,rfl,rfl,rfl,rfl,rfl,rfl,rfl,rfl,rfl,rfl,rfl,rfl,trivial⟩,⟨rfl,rfl,trivial⟩,rfl,rfl⟩⟩
 have w_:=hru hS
 obtain rfl:=w_
 refine cGv (nI hu8 h83) ?_
 refine ifd (fun hP=>?_) (fun hP=>?_)
 rotate_left
 ·exact aB (by omega) (by omega) ⟨(w+1,b,c,ys,μ8),⟨by dsimp only;omega,hmono,skip fun k=>hP (okG_iff.1 k).2.1⟩,by dsimp only;omega,⟨⟨rfl,rfl,rfl,rfl,rfl,rfl,rfl,rfl,rfl,rfl,rfl,rfl,rfl,rfl,trivial⟩,⟨rfl,rfl,trivial⟩,rfl,rfl⟩⟩
 refine cGv (nI hu8 h84) ?_
 refine ifd (fun hN=>?_) (fun hN=>?_)
 rotate_left
 ·exact aB (by omega) (by omega) ⟨(w+1,b,c,ys,μ8),⟨by dsimp only;omega,hmono,skip fun k=>hN (okG_iff.1 k).2.2⟩,by dsimp only;omega,⟨⟨rfl,rfl,rfl,rfl,rfl,rfl,rfl,rfl,rfl,rfl,rfl,rfl,rfl,rfl,trivial⟩,⟨rfl,rfl,trivial⟩,rfl,rfl⟩⟩
 have hOk:=okG_iff.2 ⟨hS,hP,hN⟩
 have lens:(dZ r k cl (dR U (a+lo) w)).vals.length≤12∧(dZ r k cl (dR U (a+lo) w)).head.args.length≤12∧(dZ r k cl (dR U (a+lo) w)).pos.length≤1000∧(dZ r k cl (dR U (a+lo) w)).neg.length≤1000:=by
  refine⟨by show(dR U (a+lo) w).length≤12;omega,by show((dR U (a+lo) w).take _).length≤12;rw[List.length_take];omega,?_,?_⟩
  ·have := uJ (vs := dR U (a + lo) w) (c := cl)
   show(bQ _ cl).length≤1000;omega
  ·have := qCz (vs := dR U (a + lo) w) (c := cl)
   show(iU _ cl).length≤1000;omega
 have lpos:∀f∈(dZ r k cl (dR U (a+lo) w)).pos,f.args.length≤4:=wB hG
 have lneg:∀f∈(dZ r k cl (dR U (a+lo) w)).neg,f.args.length≤4:=qKf hG
 have hat1:dY U r k cl w=some (dZ r k cl (dR U (a+lo) w)):=by rw[dY,hnn,if_pos hOk]
 generalize dZ r k cl (dR U (a+lo) w)=R at*
 refine cPl (dX h82 (by omega)) fun v9 μ9 hle9 hR9=>?_
 have w_:=Rep.sl hR9
 obtain⟨b9,c9,e,hs9⟩:=w_
 simp only[List.length_map]at e hs9
 subst e
 refine cPl (dX (h81.mono hle9) (by omega)) fun v10 μ10 hle10 hR10=>?_
 have w_:=Rep.sl hR10
 obtain⟨b10,c10,e,hs10⟩:=w_
 simp only[List.length_map]at e hs10
 subst e
 refine cPl (kK ((h83.mono hle9).mono hle10) (by omega) (fun f hf=>by have:=lpos f hf;omega)) fun v11 μ11 hle11 hR11=>?_
 have w_:=Rep.sl hR11
 obtain⟨b11,c11,e,hs11⟩:=w_
 simp only[List.length_map]at e hs11
 subst e
 refine cPl (kK (((h84.mono hle9).mono hle10).mono hle11) (by omega) (fun f hf=>by have:=lneg f hf;omega)) fun v12 μ12 hle12 hR12=>?_
 have w_:=Rep.sl hR12
 obtain⟨b12,c12,e,hs12⟩:=w_
 simp only[List.length_map]at e hs12
 subst e
 intro r127
 refine gIn ?_ ?_ fun b' c' _=>?_
 ·show(ys.length+1)*120≤_;omega
 ·exact Nat.le_trans (m:=100000) (show ys.length+1≤_ by omega) (by decide)
 refine aB (by omega) (by omega) ⟨(w+1,b',c',_,μ12),⟨by dsimp only;omega,hmono.trans (((hle9.trans hle10).trans hle11).trans hle12),?_⟩,by dsimp only;omega,⟨⟨rfl,rfl,rfl,rfl,rfl,rfl,rfl,rfl,rfl,rfl,rfl,rfl,rfl,rfl,trivial⟩,⟨rfl,rfl,trivial⟩,rfl,rfl⟩⟩
 dsimp only
 have hlen2:(pre++aY U r L k++bI U r k cl w++[R]).length≤2001:=by
  rw[List.length_append]
  simp only[List.length_singleton]
  omega
 rw[hnext,hat1,Option.toList_some,←List.append_assoc,List.take_of_length_le hlen2,List.map_append,List.map_append]
 refine((((((hrows.mono hle7).mono hle8).mono hle9).mono hle10).mono hle11).mono hle12).append (Rows.one ?_ (RuD.d_n _))
 exact Ru.mkV (((hR10.mono hle11).mono hle12)) (((hR9.mono hle10).mono hle11).mono hle12) (hR11.mono hle12) hR12
end
end Go.Vx
namespace Go.Vx
open Go.Proofs Classical
theorem qGj{vs:List T}{n:Int}(h0:0≤n)(h1:n<vs.length):∃x,bT vs n=some x∧vs[n.toNat]? =some x:=by
 have w_:=aSo (l:=vs) (i:=n.toNat) (by omega)
 obtain⟨x,hx⟩:=w_
 exact⟨x,by rw[bT,if_pos h0,hx],hx⟩
section
variable {μ:Mem}
theorem wM{vs:List T}{vb:Option Addr}{vc r3:Nat}{ty:TypeId}{n:Int}(hv:Sl μ 4 vb vs.length ((vs.map T.tm).map Tm.d))(h3:μ r3=some (.cells #[.slice vb vs.length vc] ty (0,0)))(h0:0≤n)(h1:n<vs.length):
  Spec Tryz.prog 260 [.int .i64 n,.pointer (some ⟨r3,0,none⟩)] μ fun v μ'=>qDg (fun y tv=>RepV μ' y.tm.d tv) (bT vs n) v:=by
 have w_:=qGj h0 h1
 obtain⟨x,hx,hx2⟩:=w_
 have w_:=T.elemL hv hx2
 obtain⟨ad,p,hel,hr⟩:=w_
 rw[hx]
 refine Spec.mk Tryz.func260 (by kernel_rfl) ?_
 intro r
 refine bN [.slice vb vs.length vc] rfl (bJ h3) ?_
 refine eIn (by rw[show n=((n.toNat:Nat):Int) by omega];exact hel) ?_
 exact rPl ⟨_,rfl,hr⟩
theorem qO{vs:List T}{vb:Option Addr}{vc:Nat}{x:T}{v:Value}(hv:Sl μ 4 vb vs.length ((vs.map T.tm).map Tm.d))(hx:RepV μ x.tm.d v)(hl:∀n∈x.vars,0≤n∧n<vs.length):
  Spec Tryz.prog 233 [v,.slice vb vs.length vc] μ fun v μ'=>RepV μ' (x.subst (bT vs)).tm.d v:=by
 have hx0:=hx
 have w_:=Tm.invV hx
 obtain⟨p,rfl⟩:=w_
 refine Spec.mk Tryz.func233 (by kernel_rfl) ?_
 intro r2 r3 r4
 refine aS [1] fun μ1 hle1 hno1 hat1=>?_
 refine lC (tH (f:=bT vs) (fun μ' h'=>h'=Mem.nil∧μ1.Le μ') (fun g1 g2=>⟨g2.1,g2.2.trans g1⟩) x (fun μ' h' g1 g2 n hn=>?_) ⟨rfl,Mem.Le.refl _⟩ (hx0.mono hle1)) fun v1 μ2 h2 hle2 hap2 hR=>?_
 ·obtain ⟨rfl, g2⟩ := g2
  exact SpecH.weaken (Spec.beside (eA _) (wM (ty:=27) ((hv.mono hle1).mono g2) (g2 _ _ hat1) (hl n hn).1 (hl n hn).2)) fun v μ'' h'' g3 g4 g5=>⟨g5.2,g5.1,g2.trans g3⟩
 ·obtain ⟨hR, rfl, _⟩ := hR
  have w_:=Tm.invV hR
  obtain⟨q,rfl⟩:=w_
  exact rPl hR
theorem nV{xs:List T}{f:Int→Option T}{i:Nat}{x:T}(h:xs[i]? =some x):(xs.map (T.subst f)).take (i+1)=(xs.map (T.subst f)).take i++[x.subst f]:=by
 rw[List.take_add_one,List.getElem?_map,h];rfl
theorem sU{vs:List T}{g:Gl}{xs:List T}(h:g.terms=xs.map T.tm):(cJ vs g).args=xs.map (T.subst (bT vs)):=by
 show g.terms.map _=_
 rw[h,List.map_map]
 exact List.map_congr_left fun x _=>by simp[T.toT_tm]
theorem kR{vs xs:List T}{vb:Option Addr}{vc:Nat}{g:Gl}{v:Value}(hv:Sl μ 4 vb vs.length ((vs.map T.tm).map Tm.d))(hg:RepV μ g.d v)(hx:g.terms=xs.map T.tm)(hx4:xs.length≤4)(hl:∀x∈xs,∀n∈x.vars,0≤n∧n<vs.length):
  Spec Tryz.prog 193 [v,.slice vb vs.length vc] μ fun v μ'=>RepV μ' (cJ vs g).fc.d v:=by
 have w_:=Gl.inv hg
 obtain⟨p0,rfl,hts,-⟩:=w_
 have hca:=sU (vs:=vs) hx
 rw[hx,List.length_map]at hts
 rw[show g.terms.length=xs.length by rw[hx,List.length_map]]
 refine Spec.mk Tryz.func193 (by kernel_rfl) ?_
 intro r2 r4 r5
 refine aU (fun z:Nat×Option Nat×Nat×List Value×Mem=>z.1≤xs.length∧μ.Le z.2.2.2.2∧Rows z.2.2.2.2 4 ((((xs.map (T.subst (bT vs))).take z.1).map T.tm).map Tm.d) z.2.2.2.1)
  (fun(i,b,c,ys,μ')=>⟨[(1,.val (.slice vb vs.length vc)),(4,.loc 1 r4 0),(5,.loc 2 r5 0),(12,.val (.slice p0.1.1 xs.length p0.1.2)),(13,.val (.int .i64 xs.length)),(14,.val (.int .i64 i))],[(1,some (.cells r4 [.val (.string ⟨#[]⟩),.val (.slice none 0 0)] 41)),(2,some (.cells r5 [.val (.string g.name),.row 3 b ys.length c] 41)),(3,some (.row b c 75 4 ys))],4,μ',Mem.nil⟩) (fun z=>xs.length-z.1)
  (0,none,0,[],μ) ⟨Nat.zero_le _,Mem.Le.refl _,.nil⟩ (fun(_,_,_,_,_)=>⟨rfl,rfl⟩) ⟨⟨⟨_,rfl,.inl rfl⟩,⟨_,rfl,.inl rfl⟩,⟨_,rfl,.inl rfl⟩,⟨_,rfl,.inl rfl⟩,⟨_,rfl,.inl rfl⟩,⟨_,rfl,.inl rfl⟩,trivial⟩,⟨.inl rfl,.inr (.inr ⟨_,_,_,_,rfl,rfl,.inl rfl,.inr ⟨3,rfl,rfl,Nat.le_refl _⟩,trivial⟩),.inr (.inl ⟨_,_,rfl,Nat.le_refl _⟩),trivial⟩,rfl,rfl⟩ ?_
 rintro⟨i,b,c,ys,μ'⟩ ⟨hi,hle,hrows⟩
 dsimp only at hi hle hrows
 have hlen:=hrows.len
 simp only[List.length_map,List.length_take]at hlen
 refine ifd (fun hlt=>?_) (fun hlt=>?_)
 ·have w_ := aSo (l := xs) (i := i) (by omega)
  obtain⟨x,hx⟩:=w_
  have w_:=T.elemL (hts.mono hle) hx
  obtain⟨ad,p,hel,hr⟩:=w_
  refine eIn hel ?_
  intro r7
  refine cPl (qO (hv.mono hle) hr (hl x (mAt hx))) fun v1 μ1 hle1 hR=>?_
  have w_:=Tm.invV hR
  obtain⟨q1,rfl⟩:=w_
  intro r23
  refine gIn ?_ ?_ fun b' c' _=>?_
  ·show(ys.length+1)*56≤_;omega
  ·exact Nat.le_trans (m:=1000) (show ys.length+1≤_ by omega) (by decide)
  refine aB (by omega) (by omega) ⟨(i+1,b',c',_,μ1),⟨by dsimp only;omega,hle.trans hle1,?_⟩,by dsimp only;omega,⟨⟨rfl,rfl,rfl,rfl,rfl,rfl,trivial⟩,⟨rfl,rfl,rfl,trivial⟩,rfl,rfl⟩⟩
  dsimp only
  rw[nV hx]
  simp only[List.map_append,List.map_cons,List.map_nil]
  exact(hrows.mono hle1).append (Rows.one hR (Tm.d_n _))
 obtain rfl:i=xs.length:=by omega
 rw[List.take_of_length_le (by rw[List.length_map];omega)]at hrows
 refine rFz [3] fun μ2 hle2 hno2 hat2=> .inl ?_
 have k:=Rows.sl hat2 (hrows.mono hle2) (Nat.le_trans (m:=1000) (by omega) (by decide))
 rw[Fc.d_eq,F.fc_args,hca]
 exact⟨_,rfl,RepS.str (RepS.last k)⟩
set_option maxHeartbeats 4000000 in
set_option maxRecDepth 20000 in
theorem pN{vs xs:List T}{vb:Option Addr}{vc:Nat}{g:Gl}{v:Value}(hv:Sl μ 4 vb vs.length ((vs.map T.tm).map Tm.d))(hg:RepV μ g.d v)(hx:g.terms=xs.map T.tm)(hx4:xs.length≤4)(hl:∀x∈xs,∀n∈x.vars,0≤n∧n<vs.length)(hsl:SimpleLen g.kind xs.length):
  Spec Tryz.prog 194 [v,.slice vb vs.length vc] μ fun v _=>v= .bool (decide (dV g.kind (xs.map (T.subst (bT vs))))):=by
 have w_:=Gl.inv hg
 obtain⟨p0,rfl,hts,-⟩:=w_
 rw[hx,List.length_map]at hts
 rw[show g.terms.length=xs.length by rw[hx,List.length_map]]
 refine Spec.mk Tryz.func194 (by kernel_rfl) ?_
 intro r2 r5
 refine aU (fun z:Nat×Option Nat×Nat×List Value×Mem=>z.1≤xs.length∧μ.Le z.2.2.2.2∧Rows z.2.2.2.2 4 ((((xs.map (T.subst (bT vs))).take z.1).map T.tm).map Tm.d) z.2.2.2.1)
  (fun(i,b,c,ys,μ')=>⟨[(1,.val (.slice vb vs.length vc)),(2,.loc 0 r2 0),(5,.loc 1 r5 0),(12,.val (.slice p0.1.1 xs.length p0.1.2)),(13,.val (.int .i64 xs.length)),(14,.val (.int .i64 i))],[(0,some (.cells r2 [.val (.int .i64 g.kind),.val (.string g.name),.val (.slice p0.1.1 xs.length p0.1.2),.val (.slice p0.2.1 g.goals.length p0.2.2)] 61)),(1,some (.cells r5 [.val (.int .i64 g.kind),.val (.string ⟨#[]⟩),.row 2 b ys.length c,.val (.slice none 0 0)] 61)),(2,some (.row b c 75 4 ys))],3,μ',Mem.nil⟩) (fun z=>xs.length-z.1)
  (0,none,0,[],μ) ⟨Nat.zero_le _,Mem.Le.refl _,.nil⟩ (fun(_,_,_,_,_)=>⟨rfl,rfl⟩) ⟨⟨⟨_,rfl,.inl rfl⟩,⟨_,rfl,.inl rfl⟩,⟨_,rfl,.inl rfl⟩,⟨_,rfl,.inl rfl⟩,⟨_,rfl,.inl rfl⟩,⟨_,rfl,.inl rfl⟩,trivial⟩,⟨.inl rfl,.inr (.inr ⟨_,_,_,_,rfl,rfl,.inl rfl,.inl rfl,.inr ⟨2,rfl,rfl,Nat.le_refl _⟩,.inl rfl,trivial⟩),.inr (.inl ⟨_,_,rfl,Nat.le_refl _⟩),trivial⟩,rfl,rfl⟩ ?_
 rintro⟨i,b,c,ys,μ'⟩ ⟨hi,hle,hrows⟩
 dsimp only at hi hle hrows
 have hlen:=hrows.len
 simp only[List.length_map,List.length_take]at hlen
 refine ifd (fun hlt=>?_) (fun hlt=>?_)
 ·have w_ := aSo (l := xs) (i := i) (by omega)
  obtain⟨x,hx⟩:=w_
  have w_:=T.elemL (hts.mono hle) hx
  obtain⟨ad,p,hel,hr⟩:=w_
  refine eIn hel ?_
  intro r7
  refine cPl (qO (hv.mono hle) hr (hl x (mAt hx))) fun v1 μ1 hle1 hR=>?_
  have w_:=Tm.invV hR
  obtain⟨q1,rfl⟩:=w_
  intro r23
  refine gIn ?_ ?_ fun b' c' _=>?_
  ·show(ys.length+1)*56≤_;omega
  ·exact Nat.le_trans (m:=1000) (show ys.length+1≤_ by omega) (by decide)
  refine aB (by omega) (by omega) ⟨(i+1,b',c',_,μ1),⟨by dsimp only;omega,hle.trans hle1,?_⟩,by dsimp only;omega,⟨⟨rfl,rfl,rfl,rfl,rfl,rfl,trivial⟩,⟨rfl,rfl,rfl,trivial⟩,rfl,rfl⟩⟩
  dsimp only
  rw[nV hx]
  simp only[List.map_append,List.map_cons,List.map_nil]
  exact(hrows.mono hle1).append (Rows.one hR (Tm.d_n _))
 obtain rfl:i=xs.length:=by omega
 rw[List.take_of_length_le (by rw[List.length_map];omega)]at hrows
 refine mX [2] fun μ2 hle2 hno2 hat2=>?_
 have hs:Sl μ2 4 (b.map fun r=>(⟨r,0,none⟩:Addr)) ys.length (((xs.map (T.subst (bT vs))).map T.tm).map Tm.d):=by
  have k:=Rows.sl hat2 (hrows.mono hle2) (Nat.le_trans (m:=1000) (by omega) (by decide))
  have w_:=Rep.sl k
  obtain⟨bz,cz,ez,hs⟩:=w_
  have w_:=Value.slice.inj ez
  obtain⟨e1,e2,_⟩:=w_
  rwa [←e1,←e2]at hs
 refine⟨fun h=>?_,fun h0=>?_⟩
 ·have h := of_decide_eq_true h
  exact rPl (by rw[h];simp[dV])
 replace h0:=of_decide_eq_false h0
 refine ifd (fun h=>?_) (fun h2=>?_)
 ·obtain ⟨x, y, hxy⟩ := tQ (xs := xs.map (T.subst (bT vs))) (by rw [List.length_map]; exact hsl.two (by omega))
  rw[hxy]at hs ⊢
  have w_:=T.elemL hs (i:=0) (x:=x) rfl
  obtain⟨ad1,p1,e1,g1⟩:=w_
  have w_:=T.elemL hs (i:=1) (x:=y) rfl
  obtain⟨ad2,p2,e2,g2⟩:=w_
  refine eIn e1 (eIn e2 (cGv (eU x y g1 g2) (rPl ?_)))
  rw[h];exact congrArg Value.bool (decide_eq_decide.2 testT_2.symm)
 refine ifd (fun h=>?_) (fun h3=>?_)
 ·obtain ⟨x, y, hxy⟩ := tQ (xs := xs.map (T.subst (bT vs))) (by rw [List.length_map]; exact hsl.two (by omega))
  rw[hxy]at hs ⊢
  have w_:=T.elemL hs (i:=0) (x:=x) rfl
  obtain⟨ad1,p1,e1,g1⟩:=w_
  have w_:=T.elemL hs (i:=1) (x:=y) rfl
  obtain⟨ad2,p2,e2,g2⟩:=w_
  refine eIn e1 (eIn e2 (cGv (eU x y g1 g2) (rPl ?_)))
  rw[h,←decide_not];exact congrArg Value.bool (decide_eq_decide.2 testT_3.symm)
 refine ifd (fun h=>?_) (fun h4=>?_)
 ·obtain ⟨x, hxy⟩ := one_of' (xs := xs.map (T.subst (bT vs))) (by rw [List.length_map]; exact hsl.one (by omega))
  rw[hxy]at hs ⊢
  have w_:=T.elemL hs (i:=0) (x:=x) rfl
  obtain⟨ad1,p1,e1,g1⟩:=w_
  refine eIn e1 (rPl ?_)
  rw[h];exact congrArg Value.bool (decide_eq_decide.2 testT_4.symm)
 refine ifd (fun h=>?_) (fun h5=>?_)
 ·obtain ⟨x, hxy⟩ := one_of' (xs := xs.map (T.subst (bT vs))) (by rw [List.length_map]; exact hsl.one (by omega))
  rw[hxy]at hs ⊢
  have w_:=T.elemL hs (i:=0) (x:=x) rfl
  obtain⟨ad1,p1,e1,g1⟩:=w_
  refine eIn e1 (rPl ?_)
  rw[h];exact congrArg Value.bool (decide_eq_decide.2 testT_5.symm)
 refine ifd (fun h=>?_) (fun h6=>?_)
 ·obtain ⟨x, y, hxy⟩ := tQ (xs := xs.map (T.subst (bT vs))) (by rw [List.length_map]; exact hsl.two (by omega))
  rw[hxy]at hs ⊢
  have w_:=T.elemL hs (i:=0) (x:=x) rfl
  obtain⟨ad1,p1,e1,g1⟩:=w_
  have w_:=T.elemL hs (i:=1) (x:=y) rfl
  obtain⟨ad2,p2,e2,g2⟩:=w_
  refine eIn e2 (eIn e1 (cGv (mV x.tm.name y g2) (rPl ?_)))
  rw[h,←decide_not];exact congrArg Value.bool (decide_eq_decide.2 testT_6.symm)
 refine rPl ?_
 rw[decide_eq_false]
 unfold dV
 rw[if_neg h0,if_neg h2,if_neg h3,if_neg h4,if_neg h5,if_neg h6]
 exact id
end
end Go.Vx
namespace Go.Vx
open Go.Proofs Classical
theorem qBy{U vs xs:List T}{g:Gl}(h9:g.kind≠9)(h10:g.kind≠10)(hx:g.terms=xs.map T.tm):okG U vs g↔dV g.kind (xs.map (T.subst (bT vs))):=by
 rw[okG,if_neg h9,if_neg h10,hx,List.map_map]
 have e:(List.map ((fun t=>T.subst (bT vs) t.toT) ∘ T.tm) xs)=xs.map (T.subst (bT vs)):=List.map_congr_left fun x _=>by simp[T.toT_tm]
 rw[e]
section
variable {μ:Mem}
theorem RowAt.up{μ':Mem}{b:Option Nat}{k es:Nat}{ys:List Value}(h:RowAt μ b k es ys)(hle:μ.Le μ'):RowAt μ' b k es ys:=by
 cases b with
 |none=>exact h
 |some r=>
  obtain⟨h1,h2,arr,ty,h3,h4⟩:=h
  exact⟨h1,h2,arr,ty,hle _ _ h3,h4⟩
end
end Go.Vx
namespace Go.Vx
open Go.Proofs Classical
noncomputable def bH(p:Pg)(u:List Tm):Option (List Ru):=if p.Pos then bX p u else none
theorem kI{p:Pg}{u:List Tm}{y:List Ru}(h:bX p u=some y):p.Ok∧UnivOk u:=by
 unfold bX at h
 split at h
 ·assumption
 ·cases h
section
variable {μ:Mem}
end
end Go.Vx
namespace Go.Vx
open Go.Proofs Classical
theorem Gl.pure_eq(g:Gl):g.Pure↔qSq g.kind∧∀x∈g.goals,x.Pure:=by
 unfold Gl.Pure
 rw[Gl.all_eq]
 constructor
 ·exact fun h=>⟨h g (by simp),fun x hx y hy=>h y (List.mem_cons_of_mem _ (List.mem_flatMap.2 ⟨x,hx,hy⟩))⟩
 ·rintro ⟨h1, h2⟩ x hx
  rcases List.mem_cons.1 hx with rfl|hx
  ·exact h1
  ·have w_ := List.mem_flatMap.1 hx
   obtain⟨y,hy,hx⟩:=w_
   exact h2 y hy x hx
section
variable {μ:Mem}
theorem isN{p q:Prop}[Decidable p](h:¬p↔q):Value.bool (!decide p)= .bool (decide q):=by
 by_cases k:p
 ·rw[decide_eq_true k,decide_eq_false fun hq=>h.2 hq k];rfl
 ·rw[decide_eq_false k,decide_eq_true (h.1 k)];rfl
theorem pD:∀(g:Gl) {v:Value},RepV μ g.d v→aM Tryz.prog 187 [v,.bool true] μ (.bool (decide g.Pure)):=
 Gl.ind fun g ih v hv=>by
  have w_:=Gl.inv hv
  obtain⟨p,rfl,hts,hgs⟩:=w_
  have hn:=aH hgs.max
  refine Spec.mk Tryz.func187 (by kernel_rfl) ?_
  intro r
  refine lIn (fun i:Nat=>i≤g.goals.length∧∀(j:Nat) x,j<i→g.goals[j]? =some x→x.Pure)
   (fun i=>⟨[(1,.val (.bool true)),(2,.loc 0 r 0),(8,.val (.slice p.2.1 g.goals.length p.2.2)),(9,.val (.int .i64 g.goals.length)),(10,.val (.int .i64 i))],[(0,some (.cells r [.val (.int .i64 g.kind),.val (.string g.name),.val (.slice p.1.1 g.terms.length p.1.2),.val (.slice p.2.1 g.goals.length p.2.2)] 61))],1,μ,Mem.nil⟩) (fun i=>g.goals.length-i)
   0 ⟨Nat.zero_le _,fun j x h=>by omega⟩ (fun _=>⟨rfl,rfl⟩) ⟨⟨rfl,rfl,rfl,rfl,rfl,trivial⟩,⟨rfl,trivial⟩,rfl,rfl⟩ ?_
  rintro i ⟨hi,hall⟩
  refine ifd (fun hlt=>?_) (fun hlt=>?_)
  ·have w_ := aSo (l := g.goals) (i := i) (by omega)
   obtain⟨t,ht⟩:=w_
   have w_:=Gl.elem hgs ht
   obtain⟨ad,p3,hel,hr⟩:=w_
   refine eIn hel ?_
   intro r2
   refine cGv (ih t (mAt ht) hr) ?_
   refine aL (fun h=>rGv ?_ rfl) (fun h=>?_)
   ·rw[decide_eq_false fun k=>h (((Gl.pure_eq g).1 k).2 t (mAt ht))]
   ·refine aB (by omega) (by omega) ⟨i + 1, ⟨by omega, fun j y hj hy => ?_⟩, by omega, ⟨⟨rfl, rfl, rfl, rfl, rfl, trivial⟩, ⟨rfl, trivial⟩, rfl, rfl⟩⟩
    rcases Nat.lt_or_ge j i with h6|h6
    ·exact hall j y h6 hy
    ·obtain rfl : j = i := by omega
     rw[ht]at hy;cases hy;exact h
  ·obtain rfl : i = g.goals.length := by omega
   have hsub:∀x∈g.goals,x.Pure:=fun x hx=>by
    have w_:=List.mem_iff_getElem?.1 hx
    obtain⟨j,hj⟩:=w_
    exact hall j x (List.getElem?_eq_some_iff.1 hj).1 hj
   refine aL (fun h=>?_) (fun h=>?_)
   ·refine iIn (fun _ => ?_) (fun h => nomatch h)
    refine cGv (bG _ _ _ _) ?_
    refine rGv ?_ rfl
    refine isN ?_
    rw[Gl.pure_eq]
    exact⟨fun k=>⟨⟨h,k⟩,hsub⟩,fun k=>k.1.2⟩
   ·exact rGv (by rw[decide_eq_false fun k=>((Gl.pure_eq g).1 k).1.1 h]) rfl
theorem rC{p:Pg}{v:Value}(hp:RepV μ p.d v)(hw:p.d.wd):Spec Tryz.prog 125 [v,.bool true] μ fun r _=>r= .bool (decide p.Pure):=by
 have w_:=Pg.inv hp
 obtain⟨q,rfl,hrl⟩:=w_
 refine Spec.mk Tryz.func125 (by kernel_rfl) ?_
 intro r1
 refine cPl (bD hp hw) fun v1 μ1 hle1 hR=>?_
 obtain rfl:=hR
 refine aL (fun h=>rPl (isF fun k=>h k.1)) (fun hok=>?_)
 have hn:=hok.1
 refine lIn (fun i:Nat=>i≤p.rels.length∧∀(j:Nat) x,j<i→p.rels[j]? =some x→x.body.Pure)
  (fun i=>⟨[(1,.val (.bool true)),(11,.val (.slice q.1 p.rels.length q.2)),(12,.val (.int .i64 p.rels.length)),(13,.val (.int .i64 i))],[],1,μ1,Mem.nil⟩) (fun i=>p.rels.length-i)
  0 ⟨Nat.zero_le _,fun j x h=>by omega⟩ (fun _=>⟨rfl,rfl⟩) ⟨⟨rfl,rfl,rfl,rfl,trivial⟩,trivial,rfl,rfl⟩ ?_
 rintro i ⟨hi,hall⟩
 refine ifd (fun hlt=>?_) (fun hlt=>?_)
 ·have w_ := aSo (l := p.rels) (i := i) (by omega)
  obtain⟨x,hx⟩:=w_
  have w_:=Rl.elemA (hrl.mono hle1) hx
  obtain⟨ad,q2,hel,hr,hb⟩:=w_
  have hb:RepV μ1 x.body.d (.agg (x.body.cs q2).toArray):=hb
  refine eIn hel ?_
  intro r2
  refine cGv (pD x.body hb) ?_
  refine aL (fun h=>rPl (isF fun k=>h (k.2 x (mAt hx)))) (fun h=>?_)
  refine aB (by omega) (by omega) ⟨i+1,⟨by omega,fun j y hj hy=>?_⟩,by omega,⟨⟨rfl,rfl,rfl,rfl,trivial⟩,trivial,rfl,rfl⟩⟩
  rcases Nat.lt_or_ge j i with h6|h6
  ·exact hall j y h6 hy
  ·obtain rfl : j = i := by omega
   rw[hx]at hy;cases hy;exact h
 ·obtain rfl : i = p.rels.length := by omega
  exact rPl (isT ⟨hok,fun x hx=>by
   have w_:=List.mem_iff_getElem?.1 hx
   obtain⟨j,hj⟩:=w_
   exact hall j x (List.getElem?_eq_some_iff.1 hj).1 hj⟩)
theorem lF{p:Pg}{v:Value}(hp:RepV μ p.d v)(hw:p.d.wd):Spec Tryz.prog 54 [v] μ fun r _=>r= .bool (decide p.Pure):=by
 have w_:=Pg.inv hp
 obtain⟨q,rfl,hrl⟩:=w_
 refine Spec.mk Tryz.func54 (by kernel_rfl) ?_
 intro r1
 refine cPl (rC hp hw) fun v1 μ1 hle1 hR=>?_
 obtain rfl:=hR
 exact rPl rfl
end
end Go.Vx
namespace Go.Vx
open Go.Proofs Classical
def Tm.Is(t:Tm):Prop:=∃x:T,t=x.tm
theorem qFv:∀{l:List Tm},(∀t∈l,t.Is)→∃xs:List T,l=xs.map T.tm
 |[],_=>⟨[],rfl⟩
 |t::l,h=>by
  have w_:=h t (by simp)
  obtain⟨x,rfl⟩:=w_
  have w_:=qFv (l:=l) fun t ht=>h t (by simp[ht])
  obtain⟨xs,rfl⟩:=w_
  exact⟨x::xs,rfl⟩
def Gl.Mild(g:Gl):Prop:=∀x∈g.all,(∀t∈x.terms,t.Is)∧x.terms.length≤100000∧x.goals.length≤100000
theorem Gl.Mild.top{g:Gl}(h:g.Mild):(∀t∈g.terms,t.Is)∧g.terms.length≤100000∧g.goals.length≤100000:=h g (by rw[Gl.all_eq];simp)
theorem Gl.Mild.sub{g:Gl}(h:g.Mild)(x:Gl)(hx:x∈g.goals):x.Mild:=fun y hy=>h y (by rw[Gl.all_eq];exact List.mem_cons_of_mem _ (List.mem_flatMap.2 ⟨x,hx,hy⟩))
theorem Gl.mild_mk{g:Gl}(h1:∀t∈g.terms,t.Is)(h2:g.terms.length≤100000)(h3:g.goals.length≤100000)(h4:∀x∈g.goals,x.Mild):g.Mild:=fun y hy=>by
 rw[Gl.all_eq]at hy
 rcases List.mem_cons.1 hy with rfl|hy
 ·exact⟨h1,h2,h3⟩
 ·have w_ := List.mem_flatMap.1 hy
  obtain⟨x,hx,hy⟩:=w_
  exact h4 x hx y hy
theorem Gl.Sh.mild:∀(g:Gl),g.Sh→g.Mild:=
 Gl.ind fun g ih hS=>by
  refine Gl.mild_mk (fun t ht=>by have w_:=(hS.top.tm t ht).lift;obtain⟨x,_,rfl⟩:=w_;exact⟨x,rfl⟩) ?_ (by have:=hS.top.gl;omega) fun x hx=>ih x hx (hS.sub x hx)
  have T:=hS.top
  have e9:=T.ln9;have e2:=T.ln2;have e1:=T.ln1;have e0:=T.ln0;have k0:=T.k0;have k1:=T.k1
  omega
section
variable {μ:Mem}
theorem jR{xs:List T}{base:Option Addr}{cap:Nat}(hsl:Sl μ 4 base xs.length ((xs.map T.tm).map Tm.d))(hn:xs.length≤1000000):
  Spec Tryz.prog 101 [.slice base xs.length cap] μ fun v μ'=>Fresh μ μ' (.sl 4 ((xs.map T.tm).map Tm.d)) v:=by
 refine Spec.mk Tryz.func101 (by kernel_rfl) ?_
 intro r6
 refine lIn (fun p:Nat×Option Nat×Nat×List Value×Mem=>p.1≤xs.length∧μ.Le p.2.2.2.2∧Grown 4 μ p.2.2.2.2 (((xs.take p.1).map T.tm).map Tm.d) p.2.2.2.1)
  (fun(i,b,c,ys,μ')=>⟨[(3,.row 0 b ys.length c),(7,.val (.slice base xs.length cap)),(8,.val (.int .i64 xs.length)),(9,.val (.int .i64 i))],[(0,some (.row b c 75 4 ys))],1,μ',Mem.nil⟩) (fun p=>xs.length-p.1)
  (0,some r6,0,[],μ) ⟨Nat.zero_le _,Mem.Le.refl _,Grown.nil _ _ _⟩ (fun(_,_,_,_,_)=>⟨rfl,rfl⟩) ⟨⟨rfl,rfl,rfl,rfl,trivial⟩,⟨rfl,trivial⟩,rfl,rfl⟩ ?_
 rintro⟨i,b,c,ys,μ'⟩ ⟨hi,hle,hrows⟩
 dsimp only at hi hle hrows
 have hlen:=hrows.len
 simp only[List.length_map,List.length_take]at hlen
 refine ifd (fun hlt=>?_) (fun hlt=>?_)
 ·have w_ := aSo (l := xs) (i := i) (by omega)
  obtain⟨x,hx⟩:=w_
  have w_:=T.elemL (hsl.mono hle) hx
  obtain⟨ad,p,hel,hr⟩:=w_
  refine eIn hel ?_
  intro r5
  refine cPl (fN x hr) fun v1 μ1 hle1 hR=>?_
  have w_:=Tm.invV hR.rep
  obtain⟨q,rfl⟩:=w_
  intro r16
  refine gIn ?_ ?_ fun b' c' _=>?_
  ·show(ys.length+1)*56≤_;omega
  ·exact Nat.le_trans (m:=100000000) (show ys.length+1≤_ by omega) (by decide)
  refine aB (by omega) (by omega) ⟨(i+1,b',c',_,μ1),⟨by dsimp only;omega,hle.trans hle1,?_⟩,by dsimp only;omega,⟨⟨rfl,rfl,rfl,rfl,trivial⟩,⟨rfl,trivial⟩,rfl,rfl⟩⟩
  dsimp only
  rw[List.take_add_one,hx,Option.toList_some]
  simp only[List.map_append,List.map_cons,List.map_nil]
  exact hrows.snoc hle hR hle1 (Tm.d_n _)
 ·obtain rfl : i = xs.length := by omega
  rw[List.take_length]at hrows
  refine rFz [0] fun μ2 hle2 hno hrow=> .inl ?_
  exact hrows.fresh hle hle2 hno hrow (Nat.le_trans (m:=1000000) (by omega) (by decide))
theorem xL:∀(g:Gl) {μ:Mem} {v:Value},RepV μ g.d v→g.Mild→Spec Tryz.prog 114 [v] μ fun v μ'=>Fresh μ μ' g.d v:=
 Gl.ind fun g ih μ v hv hS=>by
  have w_:=Gl.inv hv
  obtain⟨p,rfl,hts,hgs⟩:=w_
  have w_:=qFv hS.top.1
  obtain⟨xs,hxs⟩:=w_
  have hg8:=hS.top.2.2
  have hx4:xs.length≤100000:=by
   have h:=hS.top.2.1
   rwa [hxs,List.length_map]at h
  rw[hxs,List.length_map]at hts ⊢
  refine Spec.mk Tryz.func114 (by kernel_rfl) ?_
  intro r1 r2
  refine cPl (jR hts (by omega)) fun v1 μ1 hle1 hR1=>?_
  have w_:=Rep.sl hR1.rep
  obtain⟨bt,ct,rfl,_⟩:=w_
  rw[List.length_map,List.length_map]at hR1 ⊢
  intro r3
  have hgs1:=hgs.mono hle1
  refine aU (fun p:Nat×Option Nat×Nat×List Value×Mem=>p.1≤g.goals.length∧μ1.Le p.2.2.2.2∧Grown 4 μ1 p.2.2.2.2 ((g.goals.take p.1).map Gl.d) p.2.2.2.1)
   (fun (i, b, c, us, μ') => ⟨[(2, .loc 1 r2 0), (3, .loc 2 r3 0), (15, .val (.slice p.2.1 g.goals.length p.2.2)), (16, .val (.int .i64 g.goals.length)), (17, .val (.int .i64 i))],
    [(1,some (.cells r2 [.val (.int .i64 0),.val (.string ⟨#[]⟩),.val (.slice none 0 0),.val (.slice none 0 0)] 61)),(2,some (.cells r3 [.val (.int .i64 g.kind),.val (.string g.name),.val (.slice bt xs.length ct),.row 3 b us.length c] 61)),(3,some (.row b c 61 4 us))],4,μ',Mem.nil⟩) (fun p=>g.goals.length-p.1)
   (0,none,0,[],μ1) ⟨Nat.zero_le _,Mem.Le.refl _,Grown.nil _ _ _⟩ (fun(_,_,_,_,_)=>⟨rfl,rfl⟩) ⟨⟨⟨_,rfl,.inl rfl⟩,⟨_,rfl,.inl rfl⟩,⟨_,rfl,.inl rfl⟩,⟨_,rfl,.inl rfl⟩,⟨_,rfl,.inl rfl⟩,trivial⟩,⟨.inl rfl,.inr (.inr ⟨_,_,_,_,rfl,rfl,.inl rfl,.inl rfl,.inl rfl,.inr ⟨3,rfl,rfl,Nat.le_refl _⟩,trivial⟩),.inr (.inl ⟨_,_,rfl,Nat.le_refl _⟩),trivial⟩,rfl,rfl⟩ ?_
  rintro⟨i,b,c,us,μ'⟩ ⟨hi,hle,hrows⟩
  dsimp only at hi hle hrows
  have hlen:=hrows.len
  simp only[List.length_map,List.length_take]at hlen
  refine ifd (fun hlt=>?_) (fun hlt=>?_)
  ·have w_ := aSo (l := g.goals) (i := i) (by omega)
   obtain⟨x,hx⟩:=w_
   have w_:=Gl.elem (hgs1.mono hle) hx
   obtain⟨ad,p3,hel,hr⟩:=w_
   refine eIn hel ?_
   intro r5
   refine cPl (ih x (mAt hx) hr (hS.sub x (mAt hx))) fun v2 μ2 hle2 hR=>?_
   have w_:=Gl.invV hR.rep
   obtain⟨q,rfl⟩:=w_
   intro r25
   refine gIn ?_ ?_ fun b' c' _=>?_
   ·show(us.length+1)*72≤_;omega
   ·exact Nat.le_trans (m:=100000000) (show us.length+1≤_ by omega) (by decide)
   refine aB (by omega) (by omega) ⟨(i+1,b',c',_,μ2),⟨by dsimp only;omega,hle.trans hle2,?_⟩,by dsimp only;omega,⟨⟨rfl,rfl,rfl,rfl,rfl,trivial⟩,⟨rfl,rfl,rfl,trivial⟩,rfl,rfl⟩⟩
   dsimp only
   rw[List.take_add_one,hx,Option.toList_some]
   simp only[List.map_append,List.map_cons,List.map_nil]
   exact hrows.snoc hle hR hle2 (Gl.d_n _)
  ·obtain rfl : i = g.goals.length := by omega
   rw[List.take_length]at hrows
   refine rFz [3] fun μ2 hle2 hno hrow=> .inl ?_
   rw[Gl.d_eq,hxs]
   have k:=hrows.fresh hle hle2 hno hrow (Nat.le_trans (m:=1000000) (by omega) (by decide))
   exact FreshS.st (FreshS.int (FreshS.str (FreshS.cons hR1 hle1 (hle.trans hle2) (FreshS.cons k (hle.trans hle2) (Mem.Le.refl _) FreshS.nil))))
theorem oU(g:Gl){μ:Mem}{v:Value}(hv:RepV μ g.d v)(hS:g.Sh):Spec Tryz.prog 114 [v] μ fun v μ'=>Fresh μ μ' g.d v:=xL g hv (Gl.Sh.mild _ hS)
theorem tW{p:Pg}{v:Value}(hv:RepV μ p.d v)(hok:p.Ok):Spec Tryz.prog 113 [v] μ fun v μ'=>∃(b:Option Nat) (c:Nat) (us:List Value) (μ1:Mem),v= .agg #[.slice (b.map fun r=>⟨r,0,none⟩) us.length c]∧μ.Le μ1∧μ1.Le μ'∧Grown 7 μ μ1 (p.rels.map Rl.d) us∧(∀r,b=some r→μ1 r=none)∧RowAt μ' b c 7 us:=by
 obtain⟨q,rfl,hrl⟩:=Pg.inv hv
 have hn:=hok.1
 refine Spec.mk Tryz.func113 (by kernel_rfl) ?_
 intro r1 r2 r3
 refine aU (fun z:Nat×Option Nat×Nat×List Value×Mem=>z.1≤p.rels.length∧μ.Le z.2.2.2.2∧Grown 7 μ z.2.2.2.2 ((p.rels.take z.1).map Rl.d) z.2.2.2.1)
  (fun (i, b, c, us, μ') => ⟨[(2, .loc 1 r2 0), (3, .loc 2 r3 0), (8, .val (.slice q.1 p.rels.length q.2)), (9, .val (.int .i64 p.rels.length)), (10, .val (.int .i64 i))],
   [(1,some (.cells r2 [.val (.slice none 0 0)] 25)),(2,some (.cells r3 [.row 3 b us.length c] 25)),(3,some (.row b c 63 7 us))],4,μ',Mem.nil⟩) (fun z=>p.rels.length-z.1)
  (0,none,0,[],μ) ⟨Nat.zero_le _,Mem.Le.refl _,Grown.nil _ _ _⟩ (fun(_,_,_,_,_)=>⟨rfl,rfl⟩) ⟨⟨⟨_,rfl,.inl rfl⟩,⟨_,rfl,.inl rfl⟩,⟨_,rfl,.inl rfl⟩,⟨_,rfl,.inl rfl⟩,⟨_,rfl,.inl rfl⟩,trivial⟩,⟨.inl rfl,.inr (.inr ⟨_,_,_,_,rfl,rfl,.inr ⟨3,rfl,rfl,Nat.le_refl _⟩,trivial⟩),.inr (.inl ⟨_,_,rfl,Nat.le_refl _⟩),trivial⟩,rfl,rfl⟩ ?_
 rintro⟨i,b,c,us,μ'⟩ ⟨hi,hle,hrows⟩
 dsimp only at hi hle hrows
 have hlen:=hrows.len
 simp only[List.length_map,List.length_take]at hlen
 refine ifd (fun hlt=>?_) (fun hlt=>?_)
 ·have w_ := aSo (l := p.rels) (i := i) (by omega)
  obtain⟨x,hx⟩:=w_
  have w_:=Rl.elemA (hrl.mono hle) hx
  obtain⟨ad,q2,hel,hr,hb⟩:=w_
  have hb:RepV μ' x.body.d (.agg (x.body.cs q2).toArray):=hb
  refine eIn hel ?_
  intro r5
  refine cPl (oU x.body hb (hok.2 i x hx).body) fun v2 μ2 hle2 hR=>?_
  have w_:=Gl.invV hR.rep
  obtain⟨q3,rfl⟩:=w_
  intro r26
  refine gIn ?_ ?_ fun b' c' _=>?_
  ·show(us.length+1)*104≤_;omega
  ·exact Nat.le_trans (m:=100000000) (show us.length+1≤_ by omega) (by decide)
  refine aB (by omega) (by omega) ⟨(i+1,b',c',_,μ2),⟨by dsimp only;omega,hle.trans hle2,?_⟩,by dsimp only;omega,⟨⟨rfl,rfl,rfl,rfl,rfl,trivial⟩,⟨rfl,rfl,rfl,trivial⟩,rfl,rfl⟩⟩
  dsimp only
  rw[List.take_add_one,hx,Option.toList_some]
  simp only[List.map_append,List.map_cons,List.map_nil]
  refine hrows.snoc hle ?_ hle2 (Rl.d_n _)
  rw[Rl.d_eq]
  exact FreshS.st (FreshS.str (FreshS.int (FreshS.int (FreshS.cons hR hle2 (Mem.Le.refl _) FreshS.nil))))
 ·obtain rfl : i = p.rels.length := by omega
  rw[List.take_length]at hrows
  refine rFz [3] fun μ2 hle2 hno hrow=> .inl ?_
  exact⟨b,c,us,μ',rfl,hle,hle2,hrows,hno,hrow⟩
theorem tV{p:Pg}{v:Value}(hv:RepV μ p.d v)(hok:p.Ok)(hne:p.rels≠[]):SpecH Tryz.prog 113 [v] μ Mem.nil fun v μ2 H2=>∃(r c:Nat) (ty:TypeId) (us:List Value),v= .agg #[.slice (some ⟨r,0,none⟩) us.length c]∧RowO H2 r c ty 7 us∧Grown 7 μ μ2 (p.rels.map Rl.d) us:=by
 have e0:μ.join Mem.nil=μ:=funext fun b=>by rw[Mem.join_get];cases μ b<;>rfl
 have h0:=tW hv hok
 generalize hR0:(fun v μ'=>∃(b:Option Nat) (c:Nat) (us:List Value) (μ1:Mem),v=Value.agg #[.slice (b.map fun r=>⟨r,0,none⟩) us.length c]∧μ.Le μ1∧μ1.Le μ'∧Grown 7 μ μ1 (p.rels.map Rl.d) us∧(∀r,b=some r→μ1 r=none)∧RowAt μ' b c 7 us)=R0 at h0
 have h:Spec Tryz.prog 113 [v] (μ.join Mem.nil) R0:=by rw[e0];exact h0
 refine(Spec.lendOwn (H:=Mem.nil) (R':=fun v g μ1=>∃(r c:Nat) (ty:TypeId) (us:List Value),v= .agg #[.slice (some ⟨r,0,none⟩) us.length c]∧RowO g r c ty 7 us∧Grown 7 μ (μ1.sub g) (p.rels.map Rl.d) us) (fun b _=>rfl) h fun v μ1 hle hR=>?_).weaken fun v μ2 H2 _ _ hR=>?_
 ·rw [e0]
  rw[←hR0]at hR
  obtain⟨b,c,us,μ0,rfl,hl0,hl1,hgr,hno,hrow⟩:=hR
  have hl:=hgr.len
  rw[List.length_map]at hl
  cases b with
  |none=>
   have:us=[]:=hrow
   subst this
   exact absurd (List.eq_nil_of_length_eq_zero hl) hne
  |some r=>
   obtain⟨h2,h3,arr,ty,h4,h5,h6⟩:=hrow
   have hr0:=hno r rfl
   have hn:=hok.1
   refine⟨Mem.nil.set r (.cells arr ty (0,0)),fun x o hx=>?_,fun x hx=>?_,r,c,ty,us,rfl,⟨arr.toList,Mem.set_at _ _ _,h2,Nat.le_trans (m:=8) (by omega) (by decide),h3,by simpa using h5,h6⟩,?_⟩
   ·by_cases e : x = r
    ·subst e;rw[Mem.set_at]at hx;rw[h4];exact hx
    ·rw[Mem.set_ne e]at hx;cases hx
   ·by_cases e : x = r
    ·subst e
     cases e2:μ x with
     |none=>rfl
     |some o=>rw[hl0 x o e2]at hr0;cases hr0
    ·rw[Mem.set_ne e]at hx;exact absurd rfl hx
   ·obtain ⟨g, k1, k2, k3⟩ := hgr
    refine⟨g,k1,Mem.le_sub (k2.trans hl1) (fun b hb=>?_),k3⟩
    by_cases e:b=r
    ·subst e
     cases e2:g b with
     |none=>exact absurd e2 hb
     |some o=>rw[k2 b o e2]at hr0;cases hr0
    ·rw[Mem.set_ne e];rfl
 ·obtain ⟨g, μ1, ⟨r, c, ty, us, rfl, ⟨cs, q1, q2⟩, hgr⟩, _, hp, rfl⟩ := hR
  exact⟨r,c,ty,us,rfl,⟨cs,hp.right _ _ q1,q2⟩,hgr⟩
end
end Go.Vx
namespace Go.Vx
open Go.Proofs Classical
section
variable {μ:Mem}
theorem Gl.termsW{g:Gl}{a b ts gs:Value}(h:RepV μ g.d (.agg #[a,b,ts,gs])):RepV μ (.sl 4 (g.terms.map Tm.d)) ts:=by
 have h2:∃cs,Value.agg #[a,b,ts,gs]= .agg (List.toArray cs)∧Rep μ g.d cs:=by rw[Gl.d_eq]at h ⊢;exact h
 obtain⟨cs,e,h3⟩:=h2
 have e:cs=[a,b,ts,gs]:=by
  injection e with e
  have:=congrArg Array.toList e
  simpa using this.symm
 subst e
 rw[Gl.d_eq]at h3
 obtain⟨a0,t0,e0,h0,h3⟩:=h3
 have h0:a0=[.int .i64 g.kind]:=h0
 subst h0
 obtain⟨rfl,rfl⟩:=List.cons.inj e0
 obtain⟨a1,t1,e1,h1,h3⟩:=h3
 have h1:a1=[.string g.name]:=h1
 subst h1
 obtain⟨rfl,rfl⟩:=List.cons.inj e1
 obtain⟨a2,t2,e2,h2,h3⟩:=h3
 have w_:=gV (Rep.len _ _ h2)
 obtain⟨v2,rfl⟩:=w_
 obtain⟨rfl,_⟩:=List.cons.inj e2
 exact h2
set_option maxHeartbeats 1000000 in
end
end Go.Vx
namespace Go.Vx
open Go.Proofs Classical
theorem T.subst_congrD{f g:Int→Option T}:∀(x:T),(∀n∈x.vars,(f n).getD (.var n)=(g n).getD (.var n))→x.subst f=x.subst g
 | .nil,_=>rfl
 | .var n,h=>h n (by simp[T.vars])
 | .sym _,_=>rfl
 | .num _,_=>rfl
 | .pair a b,h=>by
  show T.pair (a.subst f) (b.subst f)=T.pair (a.subst g) (b.subst g)
  rw[T.subst_congrD a fun n hn=>h n (by simp[T.vars,hn]),T.subst_congrD b fun n hn=>h n (by simp[T.vars,hn])]
end Go.Vx
namespace Go.Vx
open Go.Proofs Classical
def qVn(P:Pg→Value→Prop)(o:Option Pg)(v:Value):Prop:=match o with
 |none=>v= .tuple #[.agg #[.slice none 0 0],.bool false]
 |some y=>∃tv,v= .tuple #[tv,.bool true]∧P y tv
section
variable {μ:Mem}
end
end Go.Vx
namespace Go.Vx
open Go.Proofs Classical
theorem Gl.wd_mk{g:Gl}(h1:InR g.kind)(h2:g.name.size≤maxLen)(h3:∀t∈g.terms,t.d.wd)(h4:∀x∈g.goals,x.d.wd):g.d.wd:=by
 rw[Gl.d_eq]
 refine⟨h1,h2,D.wds_of fun d hd=>?_,D.wds_of fun d hd=>?_,trivial⟩
 ·have w_ := List.mem_map.1 hd
  obtain⟨y,hy,rfl⟩:=w_
  exact h3 y hy
 ·have w_ := List.mem_map.1 hd
  obtain⟨y,hy,rfl⟩:=w_
  exact h4 y hy
theorem Gl.wd_at{g:Gl}(h:g.d.wd):InR g.kind∧g.name.size≤maxLen∧(∀t∈g.terms,t.d.wd)∧∀x∈g.goals,x.d.wd:=by
 rw[Gl.d_eq]at h
 exact⟨h.1,h.2.1,fun t ht=>D.wds_mem h.2.2.1 _ (List.mem_map_of_mem ht),fun t ht=>D.wds_mem h.2.2.2.1 _ (List.mem_map_of_mem ht)⟩
theorem Pg.repS{μ:Mem}{p:Pg}{v:Value}(h:RepV μ (.sl 7 (p.rels.map Rl.d)) v):RepV μ p.d (.agg #[v]):=by
 rw[Pg.d_eq]
 exact⟨_,rfl,RepS.last h⟩
section
variable {μ:Mem}
set_option maxHeartbeats 2000000 in
end
end Go.Vx
