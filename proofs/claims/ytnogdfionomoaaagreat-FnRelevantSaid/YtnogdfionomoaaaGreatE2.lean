/- Texts of the proof, part E2. -/
import Derived.Lib.ReflectliteSwap
import Derived.Sort.AssemblyPlain
import Derived.Test.YtnogdfionomoaaaGreatE1
namespace Go.Vx
open Go.Proofs Classical
open Go.Sort
section
variable {h0:Mem} {r:Nat} {ty:TypeId} {rest:List Value}
set_option maxHeartbeats 16000000 in
theorem rK{n cap:Nat}(hr:h0 r=none)(hn:n≤1000000000000):∀(m:Nat) (a b limit:Nat) (d:Array Int) (μ:Mem),b-a<m→a≤b→b≤n→d.size=n→limit≤64→Below ltInt a b d→
  SpecH Tryz.prog 268 [.slice (some ⟨r,0,none⟩) n cap,.int .i64 a,.int .i64 b,.int .i64 limit] μ (aR h0 r ty rest d) fun v _μ' h'=>v= .tuple #[]∧∃d',PermIn a b d d'∧SortedIn ltInt a b d'∧h'=aR h0 r ty rest d':=by
 intro m
 induction m with
 |zero=>intro a b limit d μ h;omega
 |succ m ih=>
 intro a0 b0 limit0 d0 μ hm hab0 hb0 hd0 hl0 hB0
 refine SpecH.mk [] Tryz.func268 (by kernel_rfl) ?_
 refine lIn (fun p:Nat×Nat×Nat×Bool×Bool×Array Int×Mem=>p.1≤p.2.1∧p.2.1≤n∧p.2.1-p.1≤b0-a0∧p.2.2.1≤64∧p.2.2.2.2.2.1.size=n∧Below ltInt p.1 p.2.1 p.2.2.2.2.2.1∧μ.Le p.2.2.2.2.2.2∧∀R,PermIn p.1 p.2.1 p.2.2.2.2.2.1 R→SortedIn ltInt p.1 p.2.1 R→PermIn a0 b0 d0 R∧SortedIn ltInt a0 b0 R)
  (fun(a,b,limit,wb,wp,d,μ')=>⟨[(0,.val (.slice (some ⟨r,0,none⟩) n cap)),(1,.val (.int .i64 a)),(2,.val (.int .i64 b)),(3,.val (.int .i64 limit)),(8,.val (.bool wb)),(9,.val (.bool wp))],[],0,μ',aR h0 r ty rest d⟩) (fun p=>p.2.1-p.1)
  (a0,b0,limit0,true,true,d0,μ) ⟨hab0,hb0,Nat.le_refl _,hl0,hd0,hB0,Mem.Le.refl _,fun R h1 h2=>⟨h1,h2⟩⟩ (fun(_,_,_,_,_,_,_)=>⟨rfl,rfl⟩) ⟨⟨rfl,rfl,rfl,rfl,rfl,rfl,trivial⟩,trivial,rfl,rfl⟩ ?_
 rintro⟨a,b,limit,wb,wp,d,μ1⟩ ⟨hab,hb,hlen,hlim,hs,hB,hle,hfin⟩
 dsimp only at hab hb hlen hlim hs hB hle hfin
 refine nEq (x:=((b-a:Nat):Int)) (by rw[aA (by omega) (by omega)];omega) ?_
 refine ifd (fun h12=>?_) (fun h12=>?_)
 ·refine cOw (jT hs hab hb hn) fun v μ' h' hle' hap hR => ?_
  obtain⟨rfl,e1,rfl⟩:=hR
  have q:=insertionSort_holds (lt:=ltInt) swo_ltInt d a b hab (by omega)
  exact rPl ⟨rfl,_,(hfin _ q.1 q.2).1,(hfin _ q.1 q.2).2,rfl⟩
 refine ifd (fun hl=>?_) (fun hl=>?_)
 ·refine cOw (oW hs (by omega) hb hn) fun v μ' h' hle' hap hR => ?_
  obtain⟨rfl,e1,rfl⟩:=hR
  have q:=heapSort_holds (lt:=ltInt) swo_ltInt d a b hab (by omega)
  exact rPl ⟨rfl,_,(hfin _ q.1 q.2).1,(hfin _ q.1 q.2).2,rfl⟩
 cases wb with
 |false=>
  refine iIn (fun _=>?_) (fun h=>nomatch h)
  refine cOw (jQ hr hs (by omega) hb hn) fun v μ2 h' hle' hap hR=>?_
  obtain⟨rfl,d1,p1,rfl⟩:=hR
  replace hB:=hB.perm (by omega) p1
  replace hfin:=fun R h1 h2=>hfin R (permIn_trans _ _ _ _ _ p1 h1) h2
  have hs1:d1.size=n:=p1.1.trans hs
  replace hle:=hle.trans hle'
  clear hs p1 hle'
  refine nEq (x:=((limit-1:Nat):Int)) (by rw[aA (by omega) (by omega)];omega) ?_
  refine cOw (fS hr hs1 (by omega) hb hn) fun v μ3 h' hle' hap hR=>?_
  obtain⟨p,k,hp1,hp2,hk,rfl,rfl⟩:=hR
  replace hle:=hle.trans hle'
  clear hle' hap
  refine ifd (fun hk2=>?_) (fun hk2=>?_)
  ·refine cOw (fK hs1 (by omega) hab hb hn) fun v μ4 h' hle' hap hR => ?_
   obtain⟨rfl,e1,rfl⟩:=hR
   obtain rfl:=e1.symm
   clear hle' hap
   have p2:=reverseRange_holds d1 a b hab (by omega)
   generalize reverseRange d1 a b=d2 at*
   replace hB:=hB.perm (by omega) p2
   replace hfin:=fun R h1 h2=>hfin R (permIn_trans _ _ _ _ _ p2 h1) h2
   have hs2:d2.size=n:=p2.1.trans hs1
   clear p2
   refine nEq (x:=((b-1:Nat):Int)) (by rw[aA (by omega) (by omega)];omega) ?_
   refine nEq (x:=((p-a:Nat):Int)) (by rw[aA (by omega) (by omega)];omega) ?_
   refine nEq (x:=(((b-1)-(p-a):Nat):Int)) (by rw[aA (by omega) (by omega)];omega) ?_
   refine iIn (fun h=>nomatch h) (fun _=>?_)
   refine ifd (fun ha0=>?_) (fun ha0=>?_)
   ·refine nEq (x := ((a - 1 : Nat) : Int)) (by rw [aA (by omega) (by omega)]; omega) ?_
    refine aK (a-1) (by omega) (by omega) ?_
    refine rdI (by omega) ?_
    refine aK ((b-1)-(p-a)) (by omega) (by omega) ?_
    refine rdI (by omega) ?_
    refine cGv (aQ _ _) ?_
    refine iIn (fun hnl=>?_) (fun hnl=>?_)
    ·refine cOw (aV (pivot := (b - 1) - (p - a)) hs2 (by omega) (by omega) hb hn) fun v μ6 h' hle' hap hR => ?_
     obtain⟨rfl,e1,rfl⟩:=hR
     obtain rfl:=e1.symm
     obtain⟨mid,d4,hx⟩:∃mid d4,partitionEqual ltInt d2 a b ((b-1)-(p-a))=(mid,d4):=⟨_,_,rfl⟩
     rw[hx]
     have q:=round_eq swo_ltInt (partitionEqual_holds ltInt) (by omega) (by omega) (by omega) (by omega) hB (by simpa using hnl) hx
     have qa:=q.1
     exact⟨(mid,b,limit-1,false,wp,d4,_),⟨q.2.1,hb,by dsimp only;omega,by dsimp only;omega,q.2.2.1.trans hs2,q.2.2.2.1,hle,fun R h1 h2=>hfin R (q.2.2.2.2 R h1 h2).1 (q.2.2.2.2 R h1 h2).2⟩,by dsimp only;omega,⟨⟨rfl,rfl,rfl,rfl,rfl,rfl,trivial⟩,trivial,rfl,rfl⟩⟩
    ·refine cOw (aP (pivot := (b - 1) - (p - a)) hs2 (by omega) (by omega) hb hn) fun v μ6 h' hle' hap hR => ?_
     obtain⟨⟨ap,rfl⟩,e1,rfl⟩:=hR
     obtain rfl:=e1.symm
     obtain⟨mid,ap',d4,hx⟩:∃mid ap' d4,partition ltInt d2 a b ((b-1)-(p-a))=(mid,ap',d4):=⟨_,_,_,rfl⟩
     rw[hx]
     have w_:=round_part swo_ltInt (partition_holds ltInt) (by omega) (by omega) (by omega) hB hx
     obtain⟨q1,q2,q3,q4,q5,q6,q7⟩:=w_
     refine nEq (x:=((mid-a:Nat):Int)) (by rw[aA (by omega) (by omega)];omega) ?_
     refine nEq (x:=((b-mid:Nat):Int)) (by rw[aA (by omega) (by omega)];omega) ?_
     refine aC (by decide) ?_
     refine nEq (x:=(((b-a) / 8:Nat):Int)) (by rw[Int.tdiv_eq_ediv_of_nonneg (by omega),aA (by omega) (by omega)];omega) ?_
     refine ifd (fun hlt=>?_) (fun hlt=>?_)
     ·refine cOw (ih a mid (limit - 1) d4 _ (by omega) (by omega) (by omega) (q3.trans hs2) (by omega) q4) fun v μ7 h' hle7 hap hR => ?_
      obtain⟨rfl,L,g1,g2,rfl⟩:=hR
      have w_:=q6 L g1 g2
      obtain⟨g3,g4⟩:=w_
      refine nEq (x:=((mid+1:Nat):Int)) (by rw[aA (by omega) (by omega)];omega) ?_
      exact⟨(mid+1,b,limit-1,_,ap,L,μ7),⟨by dsimp only;omega,hb,by dsimp only;omega,by dsimp only;omega,g1.1.trans (q3.trans hs2),g3,hle.trans hle7,fun R h1 h2=>hfin R (g4 R h1 h2).1 (g4 R h1 h2).2⟩,by dsimp only;omega,⟨⟨rfl,rfl,rfl,rfl,rfl,rfl,trivial⟩,trivial,rfl,rfl⟩⟩
     ·refine nEq (x := ((mid + 1 : Nat) : Int)) (by rw [aA (by omega) (by omega)]; omega) ?_
      refine cOw (ih (mid+1) b (limit-1) d4 _ (by omega) (by omega) (by omega) (q3.trans hs2) (by omega) q5) fun v μ7 h' hle7 hap hR=>?_
      obtain⟨rfl,L,g1,g2,rfl⟩:=hR
      have w_:=q7 L g1 g2
      obtain⟨g3,g4⟩:=w_
      exact⟨(a,mid,limit-1,_,ap,L,μ7),⟨by dsimp only;omega,by dsimp only;omega,by dsimp only;omega,by dsimp only;omega,g1.1.trans (q3.trans hs2),g3,hle.trans hle7,fun R h1 h2=>hfin R (g4 R h1 h2).1 (g4 R h1 h2).2⟩,by dsimp only;omega,⟨⟨rfl,rfl,rfl,rfl,rfl,rfl,trivial⟩,trivial,rfl,rfl⟩⟩
   ·refine cOw (aP (pivot := (b - 1) - (p - a)) hs2 (by omega) (by omega) hb hn) fun v μ6 h' hle' hap hR => ?_
    obtain⟨⟨ap,rfl⟩,e1,rfl⟩:=hR
    obtain rfl:=e1.symm
    obtain⟨mid,ap',d4,hx⟩:∃mid ap' d4,partition ltInt d2 a b ((b-1)-(p-a))=(mid,ap',d4):=⟨_,_,_,rfl⟩
    rw[hx]
    have w_:=round_part swo_ltInt (partition_holds ltInt) (by omega) (by omega) (by omega) hB hx
    obtain⟨q1,q2,q3,q4,q5,q6,q7⟩:=w_
    refine nEq (x:=((mid-a:Nat):Int)) (by rw[aA (by omega) (by omega)];omega) ?_
    refine nEq (x:=((b-mid:Nat):Int)) (by rw[aA (by omega) (by omega)];omega) ?_
    refine aC (by decide) ?_
    refine nEq (x:=(((b-a) / 8:Nat):Int)) (by rw[Int.tdiv_eq_ediv_of_nonneg (by omega),aA (by omega) (by omega)];omega) ?_
    refine ifd (fun hlt=>?_) (fun hlt=>?_)
    ·refine cOw (ih a mid (limit - 1) d4 _ (by omega) (by omega) (by omega) (q3.trans hs2) (by omega) q4) fun v μ7 h' hle7 hap hR => ?_
     obtain⟨rfl,L,g1,g2,rfl⟩:=hR
     have w_:=q6 L g1 g2
     obtain⟨g3,g4⟩:=w_
     refine nEq (x:=((mid+1:Nat):Int)) (by rw[aA (by omega) (by omega)];omega) ?_
     exact⟨(mid+1,b,limit-1,_,ap,L,μ7),⟨by dsimp only;omega,hb,by dsimp only;omega,by dsimp only;omega,g1.1.trans (q3.trans hs2),g3,hle.trans hle7,fun R h1 h2=>hfin R (g4 R h1 h2).1 (g4 R h1 h2).2⟩,by dsimp only;omega,⟨⟨rfl,rfl,rfl,rfl,rfl,rfl,trivial⟩,trivial,rfl,rfl⟩⟩
    ·refine nEq (x := ((mid + 1 : Nat) : Int)) (by rw [aA (by omega) (by omega)]; omega) ?_
     refine cOw (ih (mid+1) b (limit-1) d4 _ (by omega) (by omega) (by omega) (q3.trans hs2) (by omega) q5) fun v μ7 h' hle7 hap hR=>?_
     obtain⟨rfl,L,g1,g2,rfl⟩:=hR
     have w_:=q7 L g1 g2
     obtain⟨g3,g4⟩:=w_
     exact⟨(a,mid,limit-1,_,ap,L,μ7),⟨by dsimp only;omega,by dsimp only;omega,by dsimp only;omega,by dsimp only;omega,g1.1.trans (q3.trans hs2),g3,hle.trans hle7,fun R h1 h2=>hfin R (g4 R h1 h2).1 (g4 R h1 h2).2⟩,by dsimp only;omega,⟨⟨rfl,rfl,rfl,rfl,rfl,rfl,trivial⟩,trivial,rfl,rfl⟩⟩
  ·refine iIn (fun h => nomatch h) (fun _ => ?_)
   refine ifd (fun ha0=>?_) (fun ha0=>?_)
   ·refine nEq (x := ((a - 1 : Nat) : Int)) (by rw [aA (by omega) (by omega)]; omega) ?_
    refine aK (a-1) (by omega) (by omega) ?_
    refine rdI (by omega) ?_
    refine aK (p) (by omega) (by omega) ?_
    refine rdI (by omega) ?_
    refine cGv (aQ _ _) ?_
    refine iIn (fun hnl=>?_) (fun hnl=>?_)
    ·refine cOw (aV (pivot := p) hs1 (by omega) (by omega) hb hn) fun v μ6 h' hle' hap hR => ?_
     obtain⟨rfl,e1,rfl⟩:=hR
     obtain rfl:=e1.symm
     obtain⟨mid,d4,hx⟩:∃mid d4,partitionEqual ltInt d1 a b (p)=(mid,d4):=⟨_,_,rfl⟩
     rw[hx]
     have q:=round_eq swo_ltInt (partitionEqual_holds ltInt) (by omega) (by omega) (by omega) (by omega) hB (by simpa using hnl) hx
     have qa:=q.1
     exact⟨(mid,b,limit-1,false,wp,d4,_),⟨q.2.1,hb,by dsimp only;omega,by dsimp only;omega,q.2.2.1.trans hs1,q.2.2.2.1,hle,fun R h1 h2=>hfin R (q.2.2.2.2 R h1 h2).1 (q.2.2.2.2 R h1 h2).2⟩,by dsimp only;omega,⟨⟨rfl,rfl,rfl,rfl,rfl,rfl,trivial⟩,trivial,rfl,rfl⟩⟩
    ·refine cOw (aP (pivot := p) hs1 (by omega) (by omega) hb hn) fun v μ6 h' hle' hap hR => ?_
     obtain⟨⟨ap,rfl⟩,e1,rfl⟩:=hR
     obtain rfl:=e1.symm
     obtain⟨mid,ap',d4,hx⟩:∃mid ap' d4,partition ltInt d1 a b (p)=(mid,ap',d4):=⟨_,_,_,rfl⟩
     rw[hx]
     have w_:=round_part swo_ltInt (partition_holds ltInt) (by omega) (by omega) (by omega) hB hx
     obtain⟨q1,q2,q3,q4,q5,q6,q7⟩:=w_
     refine nEq (x:=((mid-a:Nat):Int)) (by rw[aA (by omega) (by omega)];omega) ?_
     refine nEq (x:=((b-mid:Nat):Int)) (by rw[aA (by omega) (by omega)];omega) ?_
     refine aC (by decide) ?_
     refine nEq (x:=(((b-a) / 8:Nat):Int)) (by rw[Int.tdiv_eq_ediv_of_nonneg (by omega),aA (by omega) (by omega)];omega) ?_
     refine ifd (fun hlt=>?_) (fun hlt=>?_)
     ·refine cOw (ih a mid (limit - 1) d4 _ (by omega) (by omega) (by omega) (q3.trans hs1) (by omega) q4) fun v μ7 h' hle7 hap hR => ?_
      obtain⟨rfl,L,g1,g2,rfl⟩:=hR
      have w_:=q6 L g1 g2
      obtain⟨g3,g4⟩:=w_
      refine nEq (x:=((mid+1:Nat):Int)) (by rw[aA (by omega) (by omega)];omega) ?_
      exact⟨(mid+1,b,limit-1,_,ap,L,μ7),⟨by dsimp only;omega,hb,by dsimp only;omega,by dsimp only;omega,g1.1.trans (q3.trans hs1),g3,hle.trans hle7,fun R h1 h2=>hfin R (g4 R h1 h2).1 (g4 R h1 h2).2⟩,by dsimp only;omega,⟨⟨rfl,rfl,rfl,rfl,rfl,rfl,trivial⟩,trivial,rfl,rfl⟩⟩
     ·refine nEq (x := ((mid + 1 : Nat) : Int)) (by rw [aA (by omega) (by omega)]; omega) ?_
      refine cOw (ih (mid+1) b (limit-1) d4 _ (by omega) (by omega) (by omega) (q3.trans hs1) (by omega) q5) fun v μ7 h' hle7 hap hR=>?_
      obtain⟨rfl,L,g1,g2,rfl⟩:=hR
      have w_:=q7 L g1 g2
      obtain⟨g3,g4⟩:=w_
      exact⟨(a,mid,limit-1,_,ap,L,μ7),⟨by dsimp only;omega,by dsimp only;omega,by dsimp only;omega,by dsimp only;omega,g1.1.trans (q3.trans hs1),g3,hle.trans hle7,fun R h1 h2=>hfin R (g4 R h1 h2).1 (g4 R h1 h2).2⟩,by dsimp only;omega,⟨⟨rfl,rfl,rfl,rfl,rfl,rfl,trivial⟩,trivial,rfl,rfl⟩⟩
   ·refine cOw (aP (pivot := p) hs1 (by omega) (by omega) hb hn) fun v μ6 h' hle' hap hR => ?_
    obtain⟨⟨ap,rfl⟩,e1,rfl⟩:=hR
    obtain rfl:=e1.symm
    obtain⟨mid,ap',d4,hx⟩:∃mid ap' d4,partition ltInt d1 a b (p)=(mid,ap',d4):=⟨_,_,_,rfl⟩
    rw[hx]
    have w_:=round_part swo_ltInt (partition_holds ltInt) (by omega) (by omega) (by omega) hB hx
    obtain⟨q1,q2,q3,q4,q5,q6,q7⟩:=w_
    refine nEq (x:=((mid-a:Nat):Int)) (by rw[aA (by omega) (by omega)];omega) ?_
    refine nEq (x:=((b-mid:Nat):Int)) (by rw[aA (by omega) (by omega)];omega) ?_
    refine aC (by decide) ?_
    refine nEq (x:=(((b-a) / 8:Nat):Int)) (by rw[Int.tdiv_eq_ediv_of_nonneg (by omega),aA (by omega) (by omega)];omega) ?_
    refine ifd (fun hlt=>?_) (fun hlt=>?_)
    ·refine cOw (ih a mid (limit - 1) d4 _ (by omega) (by omega) (by omega) (q3.trans hs1) (by omega) q4) fun v μ7 h' hle7 hap hR => ?_
     obtain⟨rfl,L,g1,g2,rfl⟩:=hR
     have w_:=q6 L g1 g2
     obtain⟨g3,g4⟩:=w_
     refine nEq (x:=((mid+1:Nat):Int)) (by rw[aA (by omega) (by omega)];omega) ?_
     exact⟨(mid+1,b,limit-1,_,ap,L,μ7),⟨by dsimp only;omega,hb,by dsimp only;omega,by dsimp only;omega,g1.1.trans (q3.trans hs1),g3,hle.trans hle7,fun R h1 h2=>hfin R (g4 R h1 h2).1 (g4 R h1 h2).2⟩,by dsimp only;omega,⟨⟨rfl,rfl,rfl,rfl,rfl,rfl,trivial⟩,trivial,rfl,rfl⟩⟩
    ·refine nEq (x := ((mid + 1 : Nat) : Int)) (by rw [aA (by omega) (by omega)]; omega) ?_
     refine cOw (ih (mid+1) b (limit-1) d4 _ (by omega) (by omega) (by omega) (q3.trans hs1) (by omega) q5) fun v μ7 h' hle7 hap hR=>?_
     obtain⟨rfl,L,g1,g2,rfl⟩:=hR
     have w_:=q7 L g1 g2
     obtain⟨g3,g4⟩:=w_
     exact⟨(a,mid,limit-1,_,ap,L,μ7),⟨by dsimp only;omega,by dsimp only;omega,by dsimp only;omega,by dsimp only;omega,g1.1.trans (q3.trans hs1),g3,hle.trans hle7,fun R h1 h2=>hfin R (g4 R h1 h2).1 (g4 R h1 h2).2⟩,by dsimp only;omega,⟨⟨rfl,rfl,rfl,rfl,rfl,rfl,trivial⟩,trivial,rfl,rfl⟩⟩
 |true=>
  refine iIn (fun h=>nomatch h) (fun _=>?_)
  have hs1:=hs
  refine cOw (fS hr hs1 (by omega) hb hn) fun v μ3 h' hle' hap hR=>?_
  obtain⟨p,k,hp1,hp2,hk,rfl,rfl⟩:=hR
  replace hle:=hle.trans hle'
  clear hle' hap
  refine ifd (fun hk2=>?_) (fun hk2=>?_)
  ·refine cOw (fK hs1 (by omega) hab hb hn) fun v μ4 h' hle' hap hR => ?_
   obtain⟨rfl,e1,rfl⟩:=hR
   obtain rfl:=e1.symm
   clear hle' hap
   have p2:=reverseRange_holds d a b hab (by omega)
   generalize reverseRange d a b=d2 at*
   replace hB:=hB.perm (by omega) p2
   replace hfin:=fun R h1 h2=>hfin R (permIn_trans _ _ _ _ _ p2 h1) h2
   have hs2:d2.size=n:=p2.1.trans hs1
   clear p2
   refine nEq (x:=((b-1:Nat):Int)) (by rw[aA (by omega) (by omega)];omega) ?_
   refine nEq (x:=((p-a:Nat):Int)) (by rw[aA (by omega) (by omega)];omega) ?_
   refine nEq (x:=(((b-1)-(p-a):Nat):Int)) (by rw[aA (by omega) (by omega)];omega) ?_
   refine iIn (fun _=>?_) (fun h=>nomatch h)
   refine iIn (fun hwp=>?_) (fun hwp=>?_)
   ·refine ifd (fun _ => ?_) (fun h => absurd rfl h)
    refine cOw (cP hs2 (by omega) hb hn) fun v μ5 h' hle' hap hR=>?_
    obtain⟨rfl,e1,rfl⟩:=hR
    obtain rfl:=e1.symm
    clear hle' hap
    have q:=partialInsertionSort_holds (lt:=ltInt) swo_ltInt d2 a b (by omega) (by omega) hB
    refine iIn (fun hok=>?_) (fun hok=>?_)
    ·exact rPl ⟨rfl,_,(hfin _ q.1 (q.2 hok)).1,(hfin _ q.1 (q.2 hok)).2,rfl⟩
    ·have q1 := q.1
     clear q hok
     generalize (partialInsertionSort ltInt d2 a b).1=d3 at*
     replace hB:=hB.perm (by omega) q1
     replace hfin:=fun R h1 h2=>hfin R (permIn_trans _ _ _ _ _ q1 h1) h2
     have hs3:d3.size=n:=q1.1.trans hs2
     clear q1
     refine ifd (fun ha0=>?_) (fun ha0=>?_)
     ·refine nEq (x := ((a - 1 : Nat) : Int)) (by rw [aA (by omega) (by omega)]; omega) ?_
      refine aK (a-1) (by omega) (by omega) ?_
      refine rdI (by omega) ?_
      refine aK ((b-1)-(p-a)) (by omega) (by omega) ?_
      refine rdI (by omega) ?_
      refine cGv (aQ _ _) ?_
      refine iIn (fun hnl=>?_) (fun hnl=>?_)
      ·refine cOw (aV (pivot := (b - 1) - (p - a)) hs3 (by omega) (by omega) hb hn) fun v μ6 h' hle' hap hR => ?_
       obtain⟨rfl,e1,rfl⟩:=hR
       obtain rfl:=e1.symm
       obtain⟨mid,d4,hx⟩:∃mid d4,partitionEqual ltInt d3 a b ((b-1)-(p-a))=(mid,d4):=⟨_,_,rfl⟩
       rw[hx]
       have q:=round_eq swo_ltInt (partitionEqual_holds ltInt) (by omega) (by omega) (by omega) (by omega) hB (by simpa using hnl) hx
       have qa:=q.1
       exact⟨(mid,b,limit,true,wp,d4,_),⟨q.2.1,hb,by dsimp only;omega,by dsimp only;omega,q.2.2.1.trans hs3,q.2.2.2.1,hle,fun R h1 h2=>hfin R (q.2.2.2.2 R h1 h2).1 (q.2.2.2.2 R h1 h2).2⟩,by dsimp only;omega,⟨⟨rfl,rfl,rfl,rfl,rfl,rfl,trivial⟩,trivial,rfl,rfl⟩⟩
      ·refine cOw (aP (pivot := (b - 1) - (p - a)) hs3 (by omega) (by omega) hb hn) fun v μ6 h' hle' hap hR => ?_
       obtain⟨⟨ap,rfl⟩,e1,rfl⟩:=hR
       obtain rfl:=e1.symm
       obtain⟨mid,ap',d4,hx⟩:∃mid ap' d4,partition ltInt d3 a b ((b-1)-(p-a))=(mid,ap',d4):=⟨_,_,_,rfl⟩
       rw[hx]
       have w_:=round_part swo_ltInt (partition_holds ltInt) (by omega) (by omega) (by omega) hB hx
       obtain⟨q1,q2,q3,q4,q5,q6,q7⟩:=w_
       refine nEq (x:=((mid-a:Nat):Int)) (by rw[aA (by omega) (by omega)];omega) ?_
       refine nEq (x:=((b-mid:Nat):Int)) (by rw[aA (by omega) (by omega)];omega) ?_
       refine aC (by decide) ?_
       refine nEq (x:=(((b-a) / 8:Nat):Int)) (by rw[Int.tdiv_eq_ediv_of_nonneg (by omega),aA (by omega) (by omega)];omega) ?_
       refine ifd (fun hlt=>?_) (fun hlt=>?_)
       ·refine cOw (ih a mid (limit) d4 _ (by omega) (by omega) (by omega) (q3.trans hs3) (by omega) q4) fun v μ7 h' hle7 hap hR => ?_
        obtain⟨rfl,L,g1,g2,rfl⟩:=hR
        have w_:=q6 L g1 g2
        obtain⟨g3,g4⟩:=w_
        refine nEq (x:=((mid+1:Nat):Int)) (by rw[aA (by omega) (by omega)];omega) ?_
        exact⟨(mid+1,b,limit,_,ap,L,μ7),⟨by dsimp only;omega,hb,by dsimp only;omega,by dsimp only;omega,g1.1.trans (q3.trans hs3),g3,hle.trans hle7,fun R h1 h2=>hfin R (g4 R h1 h2).1 (g4 R h1 h2).2⟩,by dsimp only;omega,⟨⟨rfl,rfl,rfl,rfl,rfl,rfl,trivial⟩,trivial,rfl,rfl⟩⟩
       ·refine nEq (x := ((mid + 1 : Nat) : Int)) (by rw [aA (by omega) (by omega)]; omega) ?_
        refine cOw (ih (mid+1) b (limit) d4 _ (by omega) (by omega) (by omega) (q3.trans hs3) (by omega) q5) fun v μ7 h' hle7 hap hR=>?_
        obtain⟨rfl,L,g1,g2,rfl⟩:=hR
        have w_:=q7 L g1 g2
        obtain⟨g3,g4⟩:=w_
        exact⟨(a,mid,limit,_,ap,L,μ7),⟨by dsimp only;omega,by dsimp only;omega,by dsimp only;omega,by dsimp only;omega,g1.1.trans (q3.trans hs3),g3,hle.trans hle7,fun R h1 h2=>hfin R (g4 R h1 h2).1 (g4 R h1 h2).2⟩,by dsimp only;omega,⟨⟨rfl,rfl,rfl,rfl,rfl,rfl,trivial⟩,trivial,rfl,rfl⟩⟩
     ·refine cOw (aP (pivot := (b - 1) - (p - a)) hs3 (by omega) (by omega) hb hn) fun v μ6 h' hle' hap hR => ?_
      obtain⟨⟨ap,rfl⟩,e1,rfl⟩:=hR
      obtain rfl:=e1.symm
      obtain⟨mid,ap',d4,hx⟩:∃mid ap' d4,partition ltInt d3 a b ((b-1)-(p-a))=(mid,ap',d4):=⟨_,_,_,rfl⟩
      rw[hx]
      have w_:=round_part swo_ltInt (partition_holds ltInt) (by omega) (by omega) (by omega) hB hx
      obtain⟨q1,q2,q3,q4,q5,q6,q7⟩:=w_
      refine nEq (x:=((mid-a:Nat):Int)) (by rw[aA (by omega) (by omega)];omega) ?_
      refine nEq (x:=((b-mid:Nat):Int)) (by rw[aA (by omega) (by omega)];omega) ?_
      refine aC (by decide) ?_
      refine nEq (x:=(((b-a) / 8:Nat):Int)) (by rw[Int.tdiv_eq_ediv_of_nonneg (by omega),aA (by omega) (by omega)];omega) ?_
      refine ifd (fun hlt=>?_) (fun hlt=>?_)
      ·refine cOw (ih a mid (limit) d4 _ (by omega) (by omega) (by omega) (q3.trans hs3) (by omega) q4) fun v μ7 h' hle7 hap hR => ?_
       obtain⟨rfl,L,g1,g2,rfl⟩:=hR
       have w_:=q6 L g1 g2
       obtain⟨g3,g4⟩:=w_
       refine nEq (x:=((mid+1:Nat):Int)) (by rw[aA (by omega) (by omega)];omega) ?_
       exact⟨(mid+1,b,limit,_,ap,L,μ7),⟨by dsimp only;omega,hb,by dsimp only;omega,by dsimp only;omega,g1.1.trans (q3.trans hs3),g3,hle.trans hle7,fun R h1 h2=>hfin R (g4 R h1 h2).1 (g4 R h1 h2).2⟩,by dsimp only;omega,⟨⟨rfl,rfl,rfl,rfl,rfl,rfl,trivial⟩,trivial,rfl,rfl⟩⟩
      ·refine nEq (x := ((mid + 1 : Nat) : Int)) (by rw [aA (by omega) (by omega)]; omega) ?_
       refine cOw (ih (mid+1) b (limit) d4 _ (by omega) (by omega) (by omega) (q3.trans hs3) (by omega) q5) fun v μ7 h' hle7 hap hR=>?_
       obtain⟨rfl,L,g1,g2,rfl⟩:=hR
       have w_:=q7 L g1 g2
       obtain⟨g3,g4⟩:=w_
       exact⟨(a,mid,limit,_,ap,L,μ7),⟨by dsimp only;omega,by dsimp only;omega,by dsimp only;omega,by dsimp only;omega,g1.1.trans (q3.trans hs3),g3,hle.trans hle7,fun R h1 h2=>hfin R (g4 R h1 h2).1 (g4 R h1 h2).2⟩,by dsimp only;omega,⟨⟨rfl,rfl,rfl,rfl,rfl,rfl,trivial⟩,trivial,rfl,rfl⟩⟩
   ·refine ifd (fun ha0 => ?_) (fun ha0 => ?_)
    ·refine nEq (x := ((a - 1 : Nat) : Int)) (by rw [aA (by omega) (by omega)]; omega) ?_
     refine aK (a-1) (by omega) (by omega) ?_
     refine rdI (by omega) ?_
     refine aK ((b-1)-(p-a)) (by omega) (by omega) ?_
     refine rdI (by omega) ?_
     refine cGv (aQ _ _) ?_
     refine iIn (fun hnl=>?_) (fun hnl=>?_)
     ·refine cOw (aV (pivot := (b - 1) - (p - a)) hs2 (by omega) (by omega) hb hn) fun v μ6 h' hle' hap hR => ?_
      obtain⟨rfl,e1,rfl⟩:=hR
      obtain rfl:=e1.symm
      obtain⟨mid,d4,hx⟩:∃mid d4,partitionEqual ltInt d2 a b ((b-1)-(p-a))=(mid,d4):=⟨_,_,rfl⟩
      rw[hx]
      have q:=round_eq swo_ltInt (partitionEqual_holds ltInt) (by omega) (by omega) (by omega) (by omega) hB (by simpa using hnl) hx
      have qa:=q.1
      exact⟨(mid,b,limit,true,wp,d4,_),⟨q.2.1,hb,by dsimp only;omega,by dsimp only;omega,q.2.2.1.trans hs2,q.2.2.2.1,hle,fun R h1 h2=>hfin R (q.2.2.2.2 R h1 h2).1 (q.2.2.2.2 R h1 h2).2⟩,by dsimp only;omega,⟨⟨rfl,rfl,rfl,rfl,rfl,rfl,trivial⟩,trivial,rfl,rfl⟩⟩
     ·refine cOw (aP (pivot := (b - 1) - (p - a)) hs2 (by omega) (by omega) hb hn) fun v μ6 h' hle' hap hR => ?_
      obtain⟨⟨ap,rfl⟩,e1,rfl⟩:=hR
      obtain rfl:=e1.symm
      obtain⟨mid,ap',d4,hx⟩:∃mid ap' d4,partition ltInt d2 a b ((b-1)-(p-a))=(mid,ap',d4):=⟨_,_,_,rfl⟩
      rw[hx]
      have w_:=round_part swo_ltInt (partition_holds ltInt) (by omega) (by omega) (by omega) hB hx
      obtain⟨q1,q2,q3,q4,q5,q6,q7⟩:=w_
      refine nEq (x:=((mid-a:Nat):Int)) (by rw[aA (by omega) (by omega)];omega) ?_
      refine nEq (x:=((b-mid:Nat):Int)) (by rw[aA (by omega) (by omega)];omega) ?_
      refine aC (by decide) ?_
      refine nEq (x:=(((b-a) / 8:Nat):Int)) (by rw[Int.tdiv_eq_ediv_of_nonneg (by omega),aA (by omega) (by omega)];omega) ?_
      refine ifd (fun hlt=>?_) (fun hlt=>?_)
      ·refine cOw (ih a mid (limit) d4 _ (by omega) (by omega) (by omega) (q3.trans hs2) (by omega) q4) fun v μ7 h' hle7 hap hR => ?_
       obtain⟨rfl,L,g1,g2,rfl⟩:=hR
       have w_:=q6 L g1 g2
       obtain⟨g3,g4⟩:=w_
       refine nEq (x:=((mid+1:Nat):Int)) (by rw[aA (by omega) (by omega)];omega) ?_
       exact⟨(mid+1,b,limit,_,ap,L,μ7),⟨by dsimp only;omega,hb,by dsimp only;omega,by dsimp only;omega,g1.1.trans (q3.trans hs2),g3,hle.trans hle7,fun R h1 h2=>hfin R (g4 R h1 h2).1 (g4 R h1 h2).2⟩,by dsimp only;omega,⟨⟨rfl,rfl,rfl,rfl,rfl,rfl,trivial⟩,trivial,rfl,rfl⟩⟩
      ·refine nEq (x := ((mid + 1 : Nat) : Int)) (by rw [aA (by omega) (by omega)]; omega) ?_
       refine cOw (ih (mid+1) b (limit) d4 _ (by omega) (by omega) (by omega) (q3.trans hs2) (by omega) q5) fun v μ7 h' hle7 hap hR=>?_
       obtain⟨rfl,L,g1,g2,rfl⟩:=hR
       have w_:=q7 L g1 g2
       obtain⟨g3,g4⟩:=w_
       exact⟨(a,mid,limit,_,ap,L,μ7),⟨by dsimp only;omega,by dsimp only;omega,by dsimp only;omega,by dsimp only;omega,g1.1.trans (q3.trans hs2),g3,hle.trans hle7,fun R h1 h2=>hfin R (g4 R h1 h2).1 (g4 R h1 h2).2⟩,by dsimp only;omega,⟨⟨rfl,rfl,rfl,rfl,rfl,rfl,trivial⟩,trivial,rfl,rfl⟩⟩
    ·refine cOw (aP (pivot := (b - 1) - (p - a)) hs2 (by omega) (by omega) hb hn) fun v μ6 h' hle' hap hR => ?_
     obtain⟨⟨ap,rfl⟩,e1,rfl⟩:=hR
     obtain rfl:=e1.symm
     obtain⟨mid,ap',d4,hx⟩:∃mid ap' d4,partition ltInt d2 a b ((b-1)-(p-a))=(mid,ap',d4):=⟨_,_,_,rfl⟩
     rw[hx]
     have w_:=round_part swo_ltInt (partition_holds ltInt) (by omega) (by omega) (by omega) hB hx
     obtain⟨q1,q2,q3,q4,q5,q6,q7⟩:=w_
     refine nEq (x:=((mid-a:Nat):Int)) (by rw[aA (by omega) (by omega)];omega) ?_
     refine nEq (x:=((b-mid:Nat):Int)) (by rw[aA (by omega) (by omega)];omega) ?_
     refine aC (by decide) ?_
     refine nEq (x:=(((b-a) / 8:Nat):Int)) (by rw[Int.tdiv_eq_ediv_of_nonneg (by omega),aA (by omega) (by omega)];omega) ?_
     refine ifd (fun hlt=>?_) (fun hlt=>?_)
     ·refine cOw (ih a mid (limit) d4 _ (by omega) (by omega) (by omega) (q3.trans hs2) (by omega) q4) fun v μ7 h' hle7 hap hR => ?_
      obtain⟨rfl,L,g1,g2,rfl⟩:=hR
      have w_:=q6 L g1 g2
      obtain⟨g3,g4⟩:=w_
      refine nEq (x:=((mid+1:Nat):Int)) (by rw[aA (by omega) (by omega)];omega) ?_
      exact⟨(mid+1,b,limit,_,ap,L,μ7),⟨by dsimp only;omega,hb,by dsimp only;omega,by dsimp only;omega,g1.1.trans (q3.trans hs2),g3,hle.trans hle7,fun R h1 h2=>hfin R (g4 R h1 h2).1 (g4 R h1 h2).2⟩,by dsimp only;omega,⟨⟨rfl,rfl,rfl,rfl,rfl,rfl,trivial⟩,trivial,rfl,rfl⟩⟩
     ·refine nEq (x := ((mid + 1 : Nat) : Int)) (by rw [aA (by omega) (by omega)]; omega) ?_
      refine cOw (ih (mid+1) b (limit) d4 _ (by omega) (by omega) (by omega) (q3.trans hs2) (by omega) q5) fun v μ7 h' hle7 hap hR=>?_
      obtain⟨rfl,L,g1,g2,rfl⟩:=hR
      have w_:=q7 L g1 g2
      obtain⟨g3,g4⟩:=w_
      exact⟨(a,mid,limit,_,ap,L,μ7),⟨by dsimp only;omega,by dsimp only;omega,by dsimp only;omega,by dsimp only;omega,g1.1.trans (q3.trans hs2),g3,hle.trans hle7,fun R h1 h2=>hfin R (g4 R h1 h2).1 (g4 R h1 h2).2⟩,by dsimp only;omega,⟨⟨rfl,rfl,rfl,rfl,rfl,rfl,trivial⟩,trivial,rfl,rfl⟩⟩
  ·refine iIn (fun _ => ?_) (fun h => nomatch h)
   refine iIn (fun hwp=>?_) (fun hwp=>?_)
   ·refine ifd (fun hk1 => ?_) (fun hk1 => ?_)
    ·refine cOw (cP hs1 (by omega) hb hn) fun v μ5 h' hle' hap hR => ?_
     obtain⟨rfl,e1,rfl⟩:=hR
     obtain rfl:=e1.symm
     clear hle' hap
     have q:=partialInsertionSort_holds (lt:=ltInt) swo_ltInt d a b (by omega) (by omega) hB
     refine iIn (fun hok=>?_) (fun hok=>?_)
     ·exact rPl ⟨rfl,_,(hfin _ q.1 (q.2 hok)).1,(hfin _ q.1 (q.2 hok)).2,rfl⟩
     ·have q1 := q.1
      clear q hok
      generalize (partialInsertionSort ltInt d a b).1=d3 at*
      replace hB:=hB.perm (by omega) q1
      replace hfin:=fun R h1 h2=>hfin R (permIn_trans _ _ _ _ _ q1 h1) h2
      have hs3:d3.size=n:=q1.1.trans hs1
      clear q1
      refine ifd (fun ha0=>?_) (fun ha0=>?_)
      ·refine nEq (x := ((a - 1 : Nat) : Int)) (by rw [aA (by omega) (by omega)]; omega) ?_
       refine aK (a-1) (by omega) (by omega) ?_
       refine rdI (by omega) ?_
       refine aK (p) (by omega) (by omega) ?_
       refine rdI (by omega) ?_
       refine cGv (aQ _ _) ?_
       refine iIn (fun hnl=>?_) (fun hnl=>?_)
       ·refine cOw (aV (pivot := p) hs3 (by omega) (by omega) hb hn) fun v μ6 h' hle' hap hR => ?_
        obtain⟨rfl,e1,rfl⟩:=hR
        obtain rfl:=e1.symm
        obtain⟨mid,d4,hx⟩:∃mid d4,partitionEqual ltInt d3 a b (p)=(mid,d4):=⟨_,_,rfl⟩
        rw[hx]
        have q:=round_eq swo_ltInt (partitionEqual_holds ltInt) (by omega) (by omega) (by omega) (by omega) hB (by simpa using hnl) hx
        have qa:=q.1
        exact⟨(mid,b,limit,true,wp,d4,_),⟨q.2.1,hb,by dsimp only;omega,by dsimp only;omega,q.2.2.1.trans hs3,q.2.2.2.1,hle,fun R h1 h2=>hfin R (q.2.2.2.2 R h1 h2).1 (q.2.2.2.2 R h1 h2).2⟩,by dsimp only;omega,⟨⟨rfl,rfl,rfl,rfl,rfl,rfl,trivial⟩,trivial,rfl,rfl⟩⟩
       ·refine cOw (aP (pivot := p) hs3 (by omega) (by omega) hb hn) fun v μ6 h' hle' hap hR => ?_
        obtain⟨⟨ap,rfl⟩,e1,rfl⟩:=hR
        obtain rfl:=e1.symm
        obtain⟨mid,ap',d4,hx⟩:∃mid ap' d4,partition ltInt d3 a b (p)=(mid,ap',d4):=⟨_,_,_,rfl⟩
        rw[hx]
        have w_:=round_part swo_ltInt (partition_holds ltInt) (by omega) (by omega) (by omega) hB hx
        obtain⟨q1,q2,q3,q4,q5,q6,q7⟩:=w_
        refine nEq (x:=((mid-a:Nat):Int)) (by rw[aA (by omega) (by omega)];omega) ?_
        refine nEq (x:=((b-mid:Nat):Int)) (by rw[aA (by omega) (by omega)];omega) ?_
        refine aC (by decide) ?_
        refine nEq (x:=(((b-a) / 8:Nat):Int)) (by rw[Int.tdiv_eq_ediv_of_nonneg (by omega),aA (by omega) (by omega)];omega) ?_
        refine ifd (fun hlt=>?_) (fun hlt=>?_)
        ·refine cOw (ih a mid (limit) d4 _ (by omega) (by omega) (by omega) (q3.trans hs3) (by omega) q4) fun v μ7 h' hle7 hap hR => ?_
         obtain⟨rfl,L,g1,g2,rfl⟩:=hR
         have w_:=q6 L g1 g2
         obtain⟨g3,g4⟩:=w_
         refine nEq (x:=((mid+1:Nat):Int)) (by rw[aA (by omega) (by omega)];omega) ?_
         exact⟨(mid+1,b,limit,_,ap,L,μ7),⟨by dsimp only;omega,hb,by dsimp only;omega,by dsimp only;omega,g1.1.trans (q3.trans hs3),g3,hle.trans hle7,fun R h1 h2=>hfin R (g4 R h1 h2).1 (g4 R h1 h2).2⟩,by dsimp only;omega,⟨⟨rfl,rfl,rfl,rfl,rfl,rfl,trivial⟩,trivial,rfl,rfl⟩⟩
        ·refine nEq (x := ((mid + 1 : Nat) : Int)) (by rw [aA (by omega) (by omega)]; omega) ?_
         refine cOw (ih (mid+1) b (limit) d4 _ (by omega) (by omega) (by omega) (q3.trans hs3) (by omega) q5) fun v μ7 h' hle7 hap hR=>?_
         obtain⟨rfl,L,g1,g2,rfl⟩:=hR
         have w_:=q7 L g1 g2
         obtain⟨g3,g4⟩:=w_
         exact⟨(a,mid,limit,_,ap,L,μ7),⟨by dsimp only;omega,by dsimp only;omega,by dsimp only;omega,by dsimp only;omega,g1.1.trans (q3.trans hs3),g3,hle.trans hle7,fun R h1 h2=>hfin R (g4 R h1 h2).1 (g4 R h1 h2).2⟩,by dsimp only;omega,⟨⟨rfl,rfl,rfl,rfl,rfl,rfl,trivial⟩,trivial,rfl,rfl⟩⟩
      ·refine cOw (aP (pivot := p) hs3 (by omega) (by omega) hb hn) fun v μ6 h' hle' hap hR => ?_
       obtain⟨⟨ap,rfl⟩,e1,rfl⟩:=hR
       obtain rfl:=e1.symm
       obtain⟨mid,ap',d4,hx⟩:∃mid ap' d4,partition ltInt d3 a b (p)=(mid,ap',d4):=⟨_,_,_,rfl⟩
       rw[hx]
       have w_:=round_part swo_ltInt (partition_holds ltInt) (by omega) (by omega) (by omega) hB hx
       obtain⟨q1,q2,q3,q4,q5,q6,q7⟩:=w_
       refine nEq (x:=((mid-a:Nat):Int)) (by rw[aA (by omega) (by omega)];omega) ?_
       refine nEq (x:=((b-mid:Nat):Int)) (by rw[aA (by omega) (by omega)];omega) ?_
       refine aC (by decide) ?_
       refine nEq (x:=(((b-a) / 8:Nat):Int)) (by rw[Int.tdiv_eq_ediv_of_nonneg (by omega),aA (by omega) (by omega)];omega) ?_
       refine ifd (fun hlt=>?_) (fun hlt=>?_)
       ·refine cOw (ih a mid (limit) d4 _ (by omega) (by omega) (by omega) (q3.trans hs3) (by omega) q4) fun v μ7 h' hle7 hap hR => ?_
        obtain⟨rfl,L,g1,g2,rfl⟩:=hR
        have w_:=q6 L g1 g2
        obtain⟨g3,g4⟩:=w_
        refine nEq (x:=((mid+1:Nat):Int)) (by rw[aA (by omega) (by omega)];omega) ?_
        exact⟨(mid+1,b,limit,_,ap,L,μ7),⟨by dsimp only;omega,hb,by dsimp only;omega,by dsimp only;omega,g1.1.trans (q3.trans hs3),g3,hle.trans hle7,fun R h1 h2=>hfin R (g4 R h1 h2).1 (g4 R h1 h2).2⟩,by dsimp only;omega,⟨⟨rfl,rfl,rfl,rfl,rfl,rfl,trivial⟩,trivial,rfl,rfl⟩⟩
       ·refine nEq (x := ((mid + 1 : Nat) : Int)) (by rw [aA (by omega) (by omega)]; omega) ?_
        refine cOw (ih (mid+1) b (limit) d4 _ (by omega) (by omega) (by omega) (q3.trans hs3) (by omega) q5) fun v μ7 h' hle7 hap hR=>?_
        obtain⟨rfl,L,g1,g2,rfl⟩:=hR
        have w_:=q7 L g1 g2
        obtain⟨g3,g4⟩:=w_
        exact⟨(a,mid,limit,_,ap,L,μ7),⟨by dsimp only;omega,by dsimp only;omega,by dsimp only;omega,by dsimp only;omega,g1.1.trans (q3.trans hs3),g3,hle.trans hle7,fun R h1 h2=>hfin R (g4 R h1 h2).1 (g4 R h1 h2).2⟩,by dsimp only;omega,⟨⟨rfl,rfl,rfl,rfl,rfl,rfl,trivial⟩,trivial,rfl,rfl⟩⟩
    ·refine ifd (fun ha0 => ?_) (fun ha0 => ?_)
     ·refine nEq (x := ((a - 1 : Nat) : Int)) (by rw [aA (by omega) (by omega)]; omega) ?_
      refine aK (a-1) (by omega) (by omega) ?_
      refine rdI (by omega) ?_
      refine aK (p) (by omega) (by omega) ?_
      refine rdI (by omega) ?_
      refine cGv (aQ _ _) ?_
      refine iIn (fun hnl=>?_) (fun hnl=>?_)
      ·refine cOw (aV (pivot := p) hs1 (by omega) (by omega) hb hn) fun v μ6 h' hle' hap hR => ?_
       obtain⟨rfl,e1,rfl⟩:=hR
       obtain rfl:=e1.symm
       obtain⟨mid,d4,hx⟩:∃mid d4,partitionEqual ltInt d a b (p)=(mid,d4):=⟨_,_,rfl⟩
       rw[hx]
       have q:=round_eq swo_ltInt (partitionEqual_holds ltInt) (by omega) (by omega) (by omega) (by omega) hB (by simpa using hnl) hx
       have qa:=q.1
       exact⟨(mid,b,limit,true,wp,d4,_),⟨q.2.1,hb,by dsimp only;omega,by dsimp only;omega,q.2.2.1.trans hs1,q.2.2.2.1,hle,fun R h1 h2=>hfin R (q.2.2.2.2 R h1 h2).1 (q.2.2.2.2 R h1 h2).2⟩,by dsimp only;omega,⟨⟨rfl,rfl,rfl,rfl,rfl,rfl,trivial⟩,trivial,rfl,rfl⟩⟩
      ·refine cOw (aP (pivot := p) hs1 (by omega) (by omega) hb hn) fun v μ6 h' hle' hap hR => ?_
       obtain⟨⟨ap,rfl⟩,e1,rfl⟩:=hR
       obtain rfl:=e1.symm
       obtain⟨mid,ap',d4,hx⟩:∃mid ap' d4,partition ltInt d a b (p)=(mid,ap',d4):=⟨_,_,_,rfl⟩
       rw[hx]
       have w_:=round_part swo_ltInt (partition_holds ltInt) (by omega) (by omega) (by omega) hB hx
       obtain⟨q1,q2,q3,q4,q5,q6,q7⟩:=w_
       refine nEq (x:=((mid-a:Nat):Int)) (by rw[aA (by omega) (by omega)];omega) ?_
       refine nEq (x:=((b-mid:Nat):Int)) (by rw[aA (by omega) (by omega)];omega) ?_
       refine aC (by decide) ?_
       refine nEq (x:=(((b-a) / 8:Nat):Int)) (by rw[Int.tdiv_eq_ediv_of_nonneg (by omega),aA (by omega) (by omega)];omega) ?_
       refine ifd (fun hlt=>?_) (fun hlt=>?_)
       ·refine cOw (ih a mid (limit) d4 _ (by omega) (by omega) (by omega) (q3.trans hs1) (by omega) q4) fun v μ7 h' hle7 hap hR => ?_
        obtain⟨rfl,L,g1,g2,rfl⟩:=hR
        have w_:=q6 L g1 g2
        obtain⟨g3,g4⟩:=w_
        refine nEq (x:=((mid+1:Nat):Int)) (by rw[aA (by omega) (by omega)];omega) ?_
        exact⟨(mid+1,b,limit,_,ap,L,μ7),⟨by dsimp only;omega,hb,by dsimp only;omega,by dsimp only;omega,g1.1.trans (q3.trans hs1),g3,hle.trans hle7,fun R h1 h2=>hfin R (g4 R h1 h2).1 (g4 R h1 h2).2⟩,by dsimp only;omega,⟨⟨rfl,rfl,rfl,rfl,rfl,rfl,trivial⟩,trivial,rfl,rfl⟩⟩
       ·refine nEq (x := ((mid + 1 : Nat) : Int)) (by rw [aA (by omega) (by omega)]; omega) ?_
        refine cOw (ih (mid+1) b (limit) d4 _ (by omega) (by omega) (by omega) (q3.trans hs1) (by omega) q5) fun v μ7 h' hle7 hap hR=>?_
        obtain⟨rfl,L,g1,g2,rfl⟩:=hR
        have w_:=q7 L g1 g2
        obtain⟨g3,g4⟩:=w_
        exact⟨(a,mid,limit,_,ap,L,μ7),⟨by dsimp only;omega,by dsimp only;omega,by dsimp only;omega,by dsimp only;omega,g1.1.trans (q3.trans hs1),g3,hle.trans hle7,fun R h1 h2=>hfin R (g4 R h1 h2).1 (g4 R h1 h2).2⟩,by dsimp only;omega,⟨⟨rfl,rfl,rfl,rfl,rfl,rfl,trivial⟩,trivial,rfl,rfl⟩⟩
     ·refine cOw (aP (pivot := p) hs1 (by omega) (by omega) hb hn) fun v μ6 h' hle' hap hR => ?_
      obtain⟨⟨ap,rfl⟩,e1,rfl⟩:=hR
      obtain rfl:=e1.symm
      obtain⟨mid,ap',d4,hx⟩:∃mid ap' d4,partition ltInt d a b (p)=(mid,ap',d4):=⟨_,_,_,rfl⟩
      rw[hx]
      have w_:=round_part swo_ltInt (partition_holds ltInt) (by omega) (by omega) (by omega) hB hx
      obtain⟨q1,q2,q3,q4,q5,q6,q7⟩:=w_
      refine nEq (x:=((mid-a:Nat):Int)) (by rw[aA (by omega) (by omega)];omega) ?_
      refine nEq (x:=((b-mid:Nat):Int)) (by rw[aA (by omega) (by omega)];omega) ?_
      refine aC (by decide) ?_
      refine nEq (x:=(((b-a) / 8:Nat):Int)) (by rw[Int.tdiv_eq_ediv_of_nonneg (by omega),aA (by omega) (by omega)];omega) ?_
      refine ifd (fun hlt=>?_) (fun hlt=>?_)
      ·refine cOw (ih a mid (limit) d4 _ (by omega) (by omega) (by omega) (q3.trans hs1) (by omega) q4) fun v μ7 h' hle7 hap hR => ?_
       obtain⟨rfl,L,g1,g2,rfl⟩:=hR
       have w_:=q6 L g1 g2
       obtain⟨g3,g4⟩:=w_
       refine nEq (x:=((mid+1:Nat):Int)) (by rw[aA (by omega) (by omega)];omega) ?_
       exact⟨(mid+1,b,limit,_,ap,L,μ7),⟨by dsimp only;omega,hb,by dsimp only;omega,by dsimp only;omega,g1.1.trans (q3.trans hs1),g3,hle.trans hle7,fun R h1 h2=>hfin R (g4 R h1 h2).1 (g4 R h1 h2).2⟩,by dsimp only;omega,⟨⟨rfl,rfl,rfl,rfl,rfl,rfl,trivial⟩,trivial,rfl,rfl⟩⟩
      ·refine nEq (x := ((mid + 1 : Nat) : Int)) (by rw [aA (by omega) (by omega)]; omega) ?_
       refine cOw (ih (mid+1) b (limit) d4 _ (by omega) (by omega) (by omega) (q3.trans hs1) (by omega) q5) fun v μ7 h' hle7 hap hR=>?_
       obtain⟨rfl,L,g1,g2,rfl⟩:=hR
       have w_:=q7 L g1 g2
       obtain⟨g3,g4⟩:=w_
       exact⟨(a,mid,limit,_,ap,L,μ7),⟨by dsimp only;omega,by dsimp only;omega,by dsimp only;omega,by dsimp only;omega,g1.1.trans (q3.trans hs1),g3,hle.trans hle7,fun R h1 h2=>hfin R (g4 R h1 h2).1 (g4 R h1 h2).2⟩,by dsimp only;omega,⟨⟨rfl,rfl,rfl,rfl,rfl,rfl,trivial⟩,trivial,rfl,rfl⟩⟩
   ·refine ifd (fun ha0 => ?_) (fun ha0 => ?_)
    ·refine nEq (x := ((a - 1 : Nat) : Int)) (by rw [aA (by omega) (by omega)]; omega) ?_
     refine aK (a-1) (by omega) (by omega) ?_
     refine rdI (by omega) ?_
     refine aK (p) (by omega) (by omega) ?_
     refine rdI (by omega) ?_
     refine cGv (aQ _ _) ?_
     refine iIn (fun hnl=>?_) (fun hnl=>?_)
     ·refine cOw (aV (pivot := p) hs1 (by omega) (by omega) hb hn) fun v μ6 h' hle' hap hR => ?_
      obtain⟨rfl,e1,rfl⟩:=hR
      obtain rfl:=e1.symm
      obtain⟨mid,d4,hx⟩:∃mid d4,partitionEqual ltInt d a b (p)=(mid,d4):=⟨_,_,rfl⟩
      rw[hx]
      have q:=round_eq swo_ltInt (partitionEqual_holds ltInt) (by omega) (by omega) (by omega) (by omega) hB (by simpa using hnl) hx
      have qa:=q.1
      exact⟨(mid,b,limit,true,wp,d4,_),⟨q.2.1,hb,by dsimp only;omega,by dsimp only;omega,q.2.2.1.trans hs1,q.2.2.2.1,hle,fun R h1 h2=>hfin R (q.2.2.2.2 R h1 h2).1 (q.2.2.2.2 R h1 h2).2⟩,by dsimp only;omega,⟨⟨rfl,rfl,rfl,rfl,rfl,rfl,trivial⟩,trivial,rfl,rfl⟩⟩
     ·refine cOw (aP (pivot := p) hs1 (by omega) (by omega) hb hn) fun v μ6 h' hle' hap hR => ?_
      obtain⟨⟨ap,rfl⟩,e1,rfl⟩:=hR
      obtain rfl:=e1.symm
      obtain⟨mid,ap',d4,hx⟩:∃mid ap' d4,partition ltInt d a b (p)=(mid,ap',d4):=⟨_,_,_,rfl⟩
      rw[hx]
      have w_:=round_part swo_ltInt (partition_holds ltInt) (by omega) (by omega) (by omega) hB hx
      obtain⟨q1,q2,q3,q4,q5,q6,q7⟩:=w_
      refine nEq (x:=((mid-a:Nat):Int)) (by rw[aA (by omega) (by omega)];omega) ?_
      refine nEq (x:=((b-mid:Nat):Int)) (by rw[aA (by omega) (by omega)];omega) ?_
      refine aC (by decide) ?_
      refine nEq (x:=(((b-a) / 8:Nat):Int)) (by rw[Int.tdiv_eq_ediv_of_nonneg (by omega),aA (by omega) (by omega)];omega) ?_
      refine ifd (fun hlt=>?_) (fun hlt=>?_)
      ·refine cOw (ih a mid (limit) d4 _ (by omega) (by omega) (by omega) (q3.trans hs1) (by omega) q4) fun v μ7 h' hle7 hap hR => ?_
       obtain⟨rfl,L,g1,g2,rfl⟩:=hR
       have w_:=q6 L g1 g2
       obtain⟨g3,g4⟩:=w_
       refine nEq (x:=((mid+1:Nat):Int)) (by rw[aA (by omega) (by omega)];omega) ?_
       exact⟨(mid+1,b,limit,_,ap,L,μ7),⟨by dsimp only;omega,hb,by dsimp only;omega,by dsimp only;omega,g1.1.trans (q3.trans hs1),g3,hle.trans hle7,fun R h1 h2=>hfin R (g4 R h1 h2).1 (g4 R h1 h2).2⟩,by dsimp only;omega,⟨⟨rfl,rfl,rfl,rfl,rfl,rfl,trivial⟩,trivial,rfl,rfl⟩⟩
      ·refine nEq (x := ((mid + 1 : Nat) : Int)) (by rw [aA (by omega) (by omega)]; omega) ?_
       refine cOw (ih (mid+1) b (limit) d4 _ (by omega) (by omega) (by omega) (q3.trans hs1) (by omega) q5) fun v μ7 h' hle7 hap hR=>?_
       obtain⟨rfl,L,g1,g2,rfl⟩:=hR
       have w_:=q7 L g1 g2
       obtain⟨g3,g4⟩:=w_
       exact⟨(a,mid,limit,_,ap,L,μ7),⟨by dsimp only;omega,by dsimp only;omega,by dsimp only;omega,by dsimp only;omega,g1.1.trans (q3.trans hs1),g3,hle.trans hle7,fun R h1 h2=>hfin R (g4 R h1 h2).1 (g4 R h1 h2).2⟩,by dsimp only;omega,⟨⟨rfl,rfl,rfl,rfl,rfl,rfl,trivial⟩,trivial,rfl,rfl⟩⟩
    ·refine cOw (aP (pivot := p) hs1 (by omega) (by omega) hb hn) fun v μ6 h' hle' hap hR => ?_
     obtain⟨⟨ap,rfl⟩,e1,rfl⟩:=hR
     obtain rfl:=e1.symm
     obtain⟨mid,ap',d4,hx⟩:∃mid ap' d4,partition ltInt d a b (p)=(mid,ap',d4):=⟨_,_,_,rfl⟩
     rw[hx]
     have w_:=round_part swo_ltInt (partition_holds ltInt) (by omega) (by omega) (by omega) hB hx
     obtain⟨q1,q2,q3,q4,q5,q6,q7⟩:=w_
     refine nEq (x:=((mid-a:Nat):Int)) (by rw[aA (by omega) (by omega)];omega) ?_
     refine nEq (x:=((b-mid:Nat):Int)) (by rw[aA (by omega) (by omega)];omega) ?_
     refine aC (by decide) ?_
     refine nEq (x:=(((b-a) / 8:Nat):Int)) (by rw[Int.tdiv_eq_ediv_of_nonneg (by omega),aA (by omega) (by omega)];omega) ?_
     refine ifd (fun hlt=>?_) (fun hlt=>?_)
     ·refine cOw (ih a mid (limit) d4 _ (by omega) (by omega) (by omega) (q3.trans hs1) (by omega) q4) fun v μ7 h' hle7 hap hR => ?_
      obtain⟨rfl,L,g1,g2,rfl⟩:=hR
      have w_:=q6 L g1 g2
      obtain⟨g3,g4⟩:=w_
      refine nEq (x:=((mid+1:Nat):Int)) (by rw[aA (by omega) (by omega)];omega) ?_
      exact⟨(mid+1,b,limit,_,ap,L,μ7),⟨by dsimp only;omega,hb,by dsimp only;omega,by dsimp only;omega,g1.1.trans (q3.trans hs1),g3,hle.trans hle7,fun R h1 h2=>hfin R (g4 R h1 h2).1 (g4 R h1 h2).2⟩,by dsimp only;omega,⟨⟨rfl,rfl,rfl,rfl,rfl,rfl,trivial⟩,trivial,rfl,rfl⟩⟩
     ·refine nEq (x := ((mid + 1 : Nat) : Int)) (by rw [aA (by omega) (by omega)]; omega) ?_
      refine cOw (ih (mid+1) b (limit) d4 _ (by omega) (by omega) (by omega) (q3.trans hs1) (by omega) q5) fun v μ7 h' hle7 hap hR=>?_
      obtain⟨rfl,L,g1,g2,rfl⟩:=hR
      have w_:=q7 L g1 g2
      obtain⟨g3,g4⟩:=w_
      exact⟨(a,mid,limit,_,ap,L,μ7),⟨by dsimp only;omega,by dsimp only;omega,by dsimp only;omega,by dsimp only;omega,g1.1.trans (q3.trans hs1),g3,hle.trans hle7,fun R h1 h2=>hfin R (g4 R h1 h2).1 (g4 R h1 h2).2⟩,by dsimp only;omega,⟨⟨rfl,rfl,rfl,rfl,rfl,rfl,trivial⟩,trivial,rfl,rfl⟩⟩
end
end Go.Vx
namespace Go.Vx
open Go.Proofs Classical
open Go.Sort
section
variable {h0 μ:Mem} {r:Nat} {ty:TypeId} {rest:List Value}
theorem yD{n cap:Nat}{d:Array Int}(hr:h0 r=none)(hd:d.size=n)(hn:n≤1000000000000):
  SpecH Tryz.prog 267 [.slice (some ⟨r,0,none⟩) n cap] μ (aR h0 r ty rest d) fun v _μ' h'=>v= .tuple #[]∧h'=aR h0 r ty rest (d.toList.mergeSort fun x y=>decide (x≤y)).toArray:=by
 refine SpecH.mk [] Tryz.func267 (by kernel_rfl) ?_
 refine nEq (x:=(n:Int)) (by
  show(n:Int) % 18446744073709551616=_
  omega) ?_
 refine cGv (sP (by omega)) ?_
 have hL:bitsLen n≤40:=(bitsLen_le_iff n 40).2 (by omega)
 refine cOw (rK hr hn (n+1) 0 n (bitsLen n) d μ (by omega) (by omega) (Nat.le_refl _) hd (by omega) (.inl rfl)) fun v μ' h' hle hap hR=>?_
 obtain⟨rfl,d',p1,p2,rfl⟩:=hR
 have e:=sorted_unique_holds (lt:=ltInt) swo_ltInt (fun x y h1 h2=>by
  simp only[ltInt,decide_eq_false_iff_not]at h1 h2
  omega) d d' (by rw[hd];exact p1) (by rw[hd];exact p2)
 have e2:(fun x y=> !ltInt y x)=fun x y:Int=>decide (x≤y):=by
  funext x y
  simp only[ltInt]
  by_cases h:x≤y
  ·rw[decide_eq_true h,decide_eq_false (by omega)];rfl
  ·rw[decide_eq_false h,decide_eq_true (by omega)];rfl
 rw[e2]at e
 refine rPl ⟨rfl,?_⟩
 rw[←e]
theorem yA{n cap:Nat}{d:Array Int}(hr:h0 r=none)(hd:d.size=n)(hn:n≤1000000000000):
  SpecH Tryz.prog 264 [.slice (some ⟨r,0,none⟩) n cap] μ (aR h0 r ty rest d) fun v _μ' h'=>v= .tuple #[]∧h'=aR h0 r ty rest (d.toList.mergeSort fun x y=>decide (x≤y)).toArray:=by
 refine SpecH.mk [] Tryz.func264 (by kernel_rfl) ?_
 refine cOw (yD hr hd hn) fun v μ' h' hle hap hR=>?_
 obtain⟨rfl,rfl⟩:=hR
 exact rPl ⟨rfl,rfl⟩
end
end Go.Vx
namespace Go.Vx
open Go.Proofs Classical
open Go.Sort
theorem qA{l:List (Value×Value)}(h:MapOk mK l):∃ks:List Int,l.map Prod.fst=aF ks∧ks.Nodup:=by
 have h1:∀(l:List (Value×Value)),(∀p∈l,mK p.1)→∃ks:List Int,l.map Prod.fst=aF ks:=fun l=>by
  induction l with
  |nil=>intro _;exact⟨[],rfl⟩
  |cons p l ih=>
   intro h
   have w_:=ih fun q hq=>h q (by simp[hq])
   obtain⟨ks,hks⟩:=w_
   have w_:=h p (by simp)
   obtain⟨n,hn⟩:=w_
   exact⟨n::ks,by rw[List.map_cons,hks,hn];rfl⟩
 have w_:=h1 l h.keys
 obtain⟨ks,hks⟩:=w_
 refine⟨ks,hks,?_⟩
 have hn:=h.nodup
 rw[hks,aF]at hn
 exact List.Pairwise.of_map (S:=fun a b=>a≠b) _ (fun a b hab e=>hab (by rw[e])) hn
theorem qJ{l:List (Value×Value)}{ks:List Int}(h:l.map Prod.fst=aF ks)(n:Int):(gD l (.int .i64 n)).isSome↔n∈ks:=by
 have e:n∈ks↔Value.int .i64 n∈l.map Prod.fst:=by
  rw[h,aF,List.mem_map]
  exact⟨fun k=>⟨n,k,rfl⟩,fun⟨m,k,e⟩=>by cases e;exact k⟩
 rw[e]
 clear e h
 induction l with
 |nil=>simp[gD]
 |cons p l ih=>
  obtain⟨a,v⟩:=p
  rw[gD]
  by_cases h:a= .int .i64 n
  ·rw[if_pos h];simp[h]
  ·rw [if_neg h]
   refine ih.trans ?_
   simp only[List.map_cons,List.mem_cons]
   exact⟨.inr,fun k=>k.elim (fun e=>absurd e.symm h) id⟩
theorem qM{N:Nat}{l:List Nat}(h:l.Nodup)(hb:∀j∈l,j<N):l.length≤N:=by
 have h1:(l.map fun j:Nat=>(j:Int)).Nodup:=List.Pairwise.map (S:=fun a b=>a≠b) _ (fun a b hab e=>hab (by omega)) h
 have:=nodup_range (N:=N) h1 fun n hn=>by
  have w_:=List.mem_map.1 hn
  obtain⟨j,hj,rfl⟩:=w_
  have:=hb j hj;omega
 rwa [List.length_map]at this
theorem sZ:∀l:List Int,OwnRows 1 (l.map D.i) (aF l) Mem.nil
 |[]=>OwnRows.nil 1
 | n :: l => ⟨by
   have:=(sZ l).own
   exact OwnS.int this,by
   intro x hx
   have w_:=List.mem_map.1 hx
   obtain⟨m,_,rfl⟩:=w_
   rfl,by simp[aF]⟩
theorem qKw(D:List Int)(h:D.Nodup):(D.mergeSort fun x y=>decide (x≤y)).Pairwise (·<·):=by
 have h1:=List.pairwise_mergeSort (le:=fun x y:Int=>decide (x≤y)) (fun a b c h1 h2=>by simp at*;omega) (fun a b=>by simp;omega) D
 have h2:(D.mergeSort fun x y=>decide (x≤y)).Nodup:=((List.mergeSort_perm D _).nodup_iff).2 h
 rw[List.nodup_iff_pairwise_ne]at h2
 exact List.Pairwise.imp (fun⟨a,b⟩=>by simp at a;omega) (h1.and h2)
theorem mJ{ks:List Int}{j:Nat}(h:j<ks.length):ks[j]? =some (ks.getD j 0):=by
 rw[List.getD_eq_getElem?_getD,List.getElem?_eq_getElem h];rfl
theorem qKm{ks:List Int}(hnd:ks.Nodup){seen:List Nat}(hsn:seen.Nodup)(hsl:∀j∈seen,j<ks.length):(seen.map fun j=>ks.getD j 0).Nodup:=by
 rw[List.nodup_iff_pairwise_ne,List.pairwise_map]
 rw[List.nodup_iff_pairwise_ne]at hsn
 refine hsn.imp_of_mem fun {a b} ha hb hab e=>hab ?_
 have h1:=vE hnd (mJ (hsl a ha))
 have h2:=vE hnd (mJ (hsl b hb))
 rw[e]at h1
 omega
theorem wA{ks:List Int}{seen:List Nat}(hsl:∀j∈seen,j<ks.length)(hall:∀j,j<ks.length→j∈seen)(n:Int):n∈(seen.map fun j=>ks.getD j 0)↔n∈ks:=by
 rw[List.mem_map]
 constructor
 ·rintro ⟨j, hj, rfl⟩
  exact List.mem_of_getElem? (mJ (hsl j hj))
 ·intro h
  have w_:=List.mem_iff_getElem?.1 h
  obtain⟨j,hj⟩:=w_
  have hjl:=(List.getElem?_eq_some_iff.1 hj).1
  refine⟨j,hall j hjl,?_⟩
  rw[mJ hjl]at hj
  exact Option.some.inj hj
section
variable {μ h:Mem}
theorem mD{m:Nat}{l:List (Value×Value)}(hm:h m=some (eE l))(hk:MapOk mK l)(hn:l.length≤1000000):
  SpecH Tryz.prog 254 [.map (some m)] μ h fun v μ' h'=>h'=h∧∃xs:List Int,(∀n,n∈xs↔(gD l (.int .i64 n)).isSome)∧xs.Pairwise (·<·)∧Fresh μ μ' (.sl 1 (xs.map D.i)) v:=by
 have w_:=qA hk
 obtain⟨ks,hks,hnd⟩:=w_
 have hkl:ks.length=l.length:=by
  have:=congrArg List.length hks
  simpa[aF]using this.symm
 refine SpecH.mk [] Tryz.func254 (by kernel_rfl) ?_
 intro r5
 refine vT l hm ?_
 intro ri hmi hoi
 have hne:m≠ri:=vU hm hoi
 refine lIn (fun p:List Nat×Option Nat×Nat×List Value=>p.2.1≠none∧p.1.Nodup∧(∀j∈p.1,j<l.length)∧p.2.2.2=aF (p.1.map fun j=>ks.getD j 0))
  (fun(seen,b,c,ys)=>⟨[(3,.row 0 b ys.length c),(7,.val (.pointer (some ⟨ri,0,none⟩)))],[(0,some (.row b c 3 1 ys))],1,μ,h.set ri (fJ m l.length seen l.length)⟩) (fun p=>l.length-p.1.length)
  ([],some r5,0,[]) ⟨by simp,by simp,by simp,rfl⟩ (fun(_,_,_,_)=>⟨rfl,rfl⟩) ⟨⟨rfl,rfl,trivial⟩,⟨rfl,trivial⟩,rfl,rfl⟩ ?_
 rintro⟨seen,b,c,ys⟩ ⟨hb,hsn,hsl,hys⟩
 dsimp only at hb hsn hsl hys
 have hslen:=qM hsn hsl
 refine vW m seen l.length l (Mem.set_at _ _ _) ((Mem.set_ne hne).trans hm) (Nat.le_refl _) (fun hall=>?_) (fun j k v hj hns=>?_)
 rotate_left
 ·have hjl := (List.getElem?_eq_some_iff.1 hj).1
  have hkj:k= .int .i64 (ks.getD j 0):=by
   have h1:(l.map Prod.fst)[j]? =some k:=by simp[hj]
   rw[hks,aF,List.getElem?_map]at h1
   have h2:j<ks.length:=by omega
   rw[List.getElem?_eq_getElem h2]at h1
   simp only[Option.map_some,Option.some.injEq]at h1
   rw[←h1,List.getD_eq_getElem?_getD,List.getElem?_eq_getElem h2];rfl
  subst hkj
  rw[Mem.set_set]
  refine iIn (fun _=>?_) (fun h=>nomatch h)
  refine yL m l.length seen j l _ v (Mem.set_at _ _ _) ((Mem.set_ne hne).trans hm) hj ?_
  intro r6
  have hyl:ys.length=seen.length:=by rw[hys];simp[aF]
  refine gIn ?_ ?_ fun b' c' hb'=>?_
  ·show(ys.length+1)*8≤_;omega
  ·exact Nat.le_trans (m:=100000000) (show ys.length+1≤_ by omega) (by decide)
  have hsl2:∀i∈seen++[j],i<l.length:=fun i hi=>by
   rcases List.mem_append.1 hi with hi|hi
   ·exact hsl i hi
   ·rw[List.mem_singleton]at hi;subst hi;exact hjl
  have hsn2:(seen++[j]).Nodup:=by
   rw[List.nodup_append]
   refine⟨hsn,by simp,fun a ha b hb e=>?_⟩
   rw[List.mem_singleton]at hb
   subst hb;subst e;exact hns ha
  have hs3:=qM hsn2 hsl2
  rw[List.length_append,List.length_singleton]at hs3
  exact⟨(seen++[j],b',c',ys++[.int .i64 (ks.getD j 0)]),⟨by
   dsimp only
   intro e
   have:=hb' e
   simp at this,hsn2,hsl2,by dsimp only;rw[List.map_append,aF,List.map_append,hys];rfl⟩,by dsimp only;rw[List.length_append,List.length_singleton];omega,⟨⟨rfl,rfl,trivial⟩,⟨rfl,trivial⟩,rfl,rfl⟩⟩
 ·refine iIn (fun h => nomatch h) (fun _ => ?_)
  have hp:=qKm hnd hsn (by rw[hkl];exact hsl)
  have hpm:=wA (by rw[hkl];exact hsl) (by rw[hkl];exact hall) (ks:=ks) (seen:=seen)
  have hDs:(seen.map (fun j=>ks.getD j 0)).length=seen.length:=by simp
  generalize seen.map (fun j=>ks.getD j 0)=D at*
  subst hys
  have w_:=Option.ne_none_iff_exists'.1 hb
  obtain⟨b0,rfl⟩:=w_
  have hDl:(aF D).length=D.length:=by simp[aF]
  refine mO [] [0] (fun h=>nomatch h) ?_
  intro h' hmem hgiven
  obtain⟨hb0,hlen,hcap,hone,cs,rfl,hcs,htake⟩:=hgiven
  replace hb0:(Mem.set h ri (fJ m l.length seen l.length)) b0=none:=hb0
  replace hmem:μ b0=none:=hmem b0 rfl
  obtain⟨rest,rfl⟩:∃rest,cs=aF D++rest:=by
   refine⟨cs.drop ((aF D).length*1),?_⟩
   rw[iM]at htake
   conv=>lhs;rw[←List.take_append_drop ((aF D).length*1) cs,htake]
  have hD6:D.length≤1000000000000:=by omega
  refine lC (yA (h0:=h.set ri (fJ m l.length seen l.length)) (r:=b0) (ty:=3) (rest:=rest) (d:=D.toArray) hb0 (by simp[aF]) (by omega)) fun v μ' h'' hle hap hR=>?_
  obtain⟨rfl,rfl⟩:=hR
  have f1:(D.toArray.toList.mergeSort fun x y=>decide (x≤y)).Pairwise (·<·):=qKw D hp
  have f2:∀n,n∈(D.toArray.toList.mergeSort fun x y=>decide (x≤y))↔n∈D:=fun n=>(List.mergeSort_perm D _).mem_iff
  have f3:(D.toArray.toList.mergeSort fun x y=>decide (x≤y)).length=D.length:=(List.mergeSort_perm D _).length_eq
  generalize (D.toArray.toList.mergeSort fun x y=>decide (x≤y))=S at*
  have hbr:b0≠ri:=fun e=>by subst e;rw[Mem.set_at]at hb0;cases hb0
  have hhb:h b0=none:=by rwa [Mem.set_ne hbr]at hb0
  have hb1:μ' b0=none:=by
   cases e:μ' b0 with
   |none=>rfl
   |some o=>have:=hap b0 (by simp[e]);rw[aR,Mem.set_at]at this;cases this
  have hSl:(aF S).length=S.length:=by simp[aF]
  refine cG ((Mem.nil.set ri (fJ m l.length seen l.length)).set b0 (.cells (List.toArray ([]++(S.toArray.toList.map (Value.int .i64)++rest))) 3 (0,0))) h ?_ ⟨rfl,S,fun n=>(f2 n).trans ((hpm n).trans (qJ hks n).symm),f1,?_⟩
  ·show Parts (aR (h.set ri (fJ m l.length seen l.length)) b0 3 rest S.toArray) _ h
   replace hoi:h ri=none:=hoi
   intro x
   by_cases h1:x=b0
   ·subst h1;exact .inl ⟨by rw[aR,Mem.set_at,Mem.set_at],hhb⟩
   ·by_cases h2 : x = ri
    ·subst h2;exact .inl ⟨by rw[aR,Mem.set_ne h1,Mem.set_ne h1,Mem.set_at,Mem.set_at],hoi⟩
    ·exact .inr ⟨by rw[aR,Mem.set_ne h1,Mem.set_ne h2],by rw[Mem.set_ne h1,Mem.set_ne h2];rfl⟩
  ·have F:=Fresh.ofRow (μ:=μ) (μ1:=μ) (μ':=μ'.join ((Mem.nil.set ri (fJ m l.length seen l.length)).set b0 (.cells (List.toArray ([]++(S.toArray.toList.map (Value.int .i64)++rest))) 3 (0,0)))) (b:=some b0) (cap:=c) (sZ S) (fun _ _ h=>nomatch h) (fun _ h=>absurd rfl h) (Mem.Le.refl _) (hle.trans (Mem.le_join _ _)) (fun r e=>by cases e;exact hmem)
    ⟨by omega, fun x hx => by
     have w_:=List.mem_map.1 hx
     obtain⟨n,_,rfl⟩:=w_
     exact⟨rfl,by simp[aD,Value.oneCell']⟩,_,_,by rw[Mem.join_get,hb1,Mem.set_at],by
      simp only[List.length_append,aF,List.length_map]at hcs
      simp[f3];omega,by rw[iM];simp[aF]⟩ (Nat.le_trans (m:=1000000) (by omega) (by decide))
   have e:(aF D).length=(aF S).length:=by omega
   show Fresh μ _ (.sl 1 (S.map Go.Vx.D.i)) (.slice _ (aF D).length c)
   rw[e];exact F
end
end Go.Vx
namespace Go.Vx
open Go.Proofs Classical
theorem mS{α:Type}:∀(l s:List α),l.foldl (fun s n=>s++[n]) s=s++l
 |[],s=>by simp
 |a::l,s=>by rw[List.foldl_cons,mS l];simp
theorem pY{α β:Type}(f:α→List β):∀(l:List α) (s:List β),l.foldl (fun s x=>s++f x) s=s++l.flatMap f
 |[],s=>by simp
 |a::l,s=>by rw[List.foldl_cons,pY f l];simp
section
variable {μ:Mem}
theorem iA{S:Type}(J:S→Mem→Prop)(step:S→Gl→S)(Q:Gl→Prop){k:FuncId}{caps:List Value}
  (hc:∀s h g v,Q g→RepV μ g.d v→J s h→SpecH Tryz.prog k (v::caps) μ h fun r μ' h'=>r= .tuple #[]∧μ'=μ∧J (step s g) h'):
  ∀(g:Gl) {v:Value} (s:S) (h:Mem),RepV μ g.d v→(∀x∈g.all,Q x)→J s h→SpecH Tryz.prog 214 [v,.func (.func k) #[] caps.toArray] μ h fun r μ' h'=>r= .tuple #[]∧μ'=μ∧J (g.all.foldl step s) h':=
 Gl.ind fun g ih v s h hv hq hj=>by
  have w_:=Gl.inv hv
  obtain⟨p,rfl,hts,hgs⟩:=w_
  have hn:=aH hgs.max
  rw[Gl.all_eq]at hq ⊢
  rw[List.foldl_cons]
  refine SpecH.mk [] Tryz.func214 (by kernel_rfl) ?_
  intro r
  refine cOw (hc s h g _ (hq g (by simp)) hv hj) fun v μ' h' hle hap hR=>?_
  obtain⟨rfl,e2,hj'⟩:=hR
  obtain rfl:=e2.symm
  refine lIn (fun p:Nat×Mem=>p.1≤g.goals.length∧J (((g.goals.take p.1).flatMap Gl.all).foldl step (step s g)) p.2)
   (fun(i,h)=>⟨[(1,.val (.func (.func k) #[] caps.toArray)),(10,.val (.slice p.2.1 g.goals.length p.2.2)),(11,.val (.int .i64 g.goals.length)),(12,.val (.int .i64 i))],[],1,μ,h⟩) (fun p=>g.goals.length-p.1)
   (0,h') ⟨by simp,by simpa using hj'⟩ (fun(_,_)=>⟨rfl,rfl⟩) ⟨⟨rfl,rfl,rfl,rfl,trivial⟩,trivial,rfl,rfl⟩ ?_
  rintro⟨i,h1⟩ ⟨hi,hj1⟩
  dsimp only at hi hj1
  refine ifd (fun hlt=>?_) (fun hlt=>?_)
  ·have w_ := aSo (l := g.goals) (i := i) (by omega)
   obtain⟨t,ht⟩:=w_
   have w_:=Gl.elem hgs ht
   obtain⟨ad,p3,hel,hr⟩:=w_
   refine eIn hel ?_
   intro r4
   refine cOw (ih t (mAt ht) _ h1 hr (fun x hx=>hq x (List.mem_cons_of_mem _ (List.mem_flatMap.2 ⟨t,mAt ht,hx⟩))) hj1) fun v μ' h' hle hap hR=>?_
   obtain⟨rfl,e2,hj2⟩:=hR
   obtain rfl:=e2.symm
   refine aB (by omega) (by omega) ⟨(i+1,h'),⟨by dsimp only;omega,?_⟩,by dsimp only;omega,⟨⟨rfl,rfl,rfl,rfl,trivial⟩,trivial,rfl,rfl⟩⟩
   dsimp only
   rw[List.take_add_one,ht,Option.toList_some,List.flatMap_append,List.foldl_append]
   simpa using hj2
  ·obtain rfl : i = g.goals.length := by omega
   rw[List.take_length]at hj1
   exact rPl ⟨rfl,rfl,hj1⟩
def fH(rm:Nat)(s:List Int)(h:Mem):Prop:=∃r l,h rm=some (.cells #[.map (some r)] 247 (0,0))∧h r=some (eE l)∧MapOk mK l∧∀n,(gD l (.int .i64 n)).isSome↔n∈s
theorem lZ{rm:Nat}{s:List Int}{h:Mem}{n:Int}(H:fH rm s h):SpecH Tryz.prog 253 [.int .i64 n,.pointer (some ⟨rm,0,none⟩)] μ h fun r μ' h'=>r= .tuple #[]∧μ'=μ∧fH rm (s++[n]) h':=by
 obtain⟨r,l,h1,h2,hk,hg⟩:=H
 have e1:rm≠r:=yV h1 h2 (by simp[eE])
 refine SpecH.mk [] Tryz.func253 (by kernel_rfl) ?_
 refine oIn [.map (some r)] rfl (bJ h1) ?_
 refine eN l h2 (hk.weaken (by rintro _ ⟨n,rfl⟩;rfl)) rfl ?_
 refine rPl ⟨rfl,rfl,r,_,?_,Mem.set_at _ _ _,hk.int _,fun m=>?_⟩
 ·dsimp only;rw[Mem.set_ne e1];exact h1
 ·rw [fX, List.mem_append, List.mem_singleton]
  by_cases e:m=n
  ·simp[e]
  ·rw[if_neg e,hg];simp[e]
theorem mT{rm:Nat}{s:List Int}{h:Mem}{g:Gl}{v:Value}(hok:∀t∈g.terms,t.Ok)(hv:RepV μ g.d v)(H:fH rm s h):SpecH Tryz.prog 252 [v,.pointer (some ⟨rm,0,none⟩)] μ h fun r μ' h'=>r= .tuple #[]∧μ'=μ∧fH rm (s++g.tvars) h':=by
 have w_:=Gl.inv hv
 obtain⟨p,rfl,hts,hgs⟩:=w_
 have w_:=fD hok
 obtain⟨xs,hxs,hxo⟩:=w_
 have htv:g.tvars=xs.flatMap T.vars:=by
  rw[Gl.tvars,hxs,List.map_map]
  congr 1
  exact(List.map_congr_left fun x _=>T.toT_tm x).trans (List.map_id _)
 rw[htv]
 rw[hxs,List.length_map]at hts ⊢
 have hn:=aH hts.max
 refine SpecH.mk [] Tryz.func252 (by kernel_rfl) ?_
 intro r
 refine lIn (fun p:Nat×Mem=>p.1≤xs.length∧fH rm (s++(xs.take p.1).flatMap T.vars) p.2)
  (fun(i,h)=>⟨[(1,.val (.pointer (some ⟨rm,0,none⟩))),(6,.val (.slice p.1.1 xs.length p.1.2)),(7,.val (.int .i64 xs.length)),(8,.val (.int .i64 i))],[],1,μ,h⟩) (fun p=>xs.length-p.1)
  (0,h) ⟨by simp,by simpa using H⟩ (fun(_,_)=>⟨rfl,rfl⟩) ⟨⟨rfl,rfl,rfl,rfl,trivial⟩,trivial,rfl,rfl⟩ ?_
 rintro⟨i,h1⟩ ⟨hi,hj1⟩
 dsimp only at hi hj1
 refine ifd (fun hlt=>?_) (fun hlt=>?_)
 ·have w_ := aSo (l := xs) (i := i) (by omega)
  obtain⟨x,hx'⟩:=w_
  have w_:=Tm.elem (i:=i) (t:=x.tm) hts (by simp[hx'])
  obtain⟨ad,p3,hel,hto⟩:=w_
  refine eIn hel ?_
  intro r4
  refine cOw (iD (fH rm) (fun s n=>s++[n]) (fun _ _=>True) (fun s h n _ hj=>lZ hj) x _ h1 hto (fun _ _ _ _=>trivial) hj1) fun v μ' h' hle hap hR=>?_
  obtain⟨rfl,e2,hj2⟩:=hR
  obtain rfl:=e2.symm
  rw[mS]at hj2
  refine aB (by omega) (by omega) ⟨(i+1,h'),⟨by dsimp only;omega,?_⟩,by dsimp only;omega,⟨⟨rfl,rfl,rfl,rfl,trivial⟩,trivial,rfl,rfl⟩⟩
  dsimp only
  rw[List.take_add_one,hx',Option.toList_some,List.flatMap_append]
  simpa using hj2
 ·obtain rfl : i = xs.length := by omega
  rw[List.take_length]at hj1
  exact rPl ⟨rfl,rfl,hj1⟩
theorem oV{g:Gl}{v:Value}(hS:g.Sh)(hv:RepV μ g.d v):Spec Tryz.prog 213 [v] μ fun v μ'=>∃xs:List Int,(∀n,n∈xs↔n∈g.vars)∧xs.Pairwise (·<·)∧Fresh μ μ' (.sl 1 (xs.map D.i)) v:=by
 have w_:=Gl.invV hv
 obtain⟨p,rfl⟩:=w_
 refine Spec.mkO [3,4] Tryz.func213 (by kernel_rfl) ?_
 intro r
 intro rM hmM hoM r3 hm3 ho3
 refine sIn [.map none] 247 (Mem.set_at _ _ _) rfl (Nat.le_refl _) ?_
 dsimp only at hmM hoM hm3 ho3
 have n1:rM≠r3:=fun e=>by subst e;simp[Mem.set_get]at ho3
 generalize hh:Mem.set (Mem.set _ r3 _) r3 _=h0
 have H0:fH r3 [] h0:=by
  subst hh
  refine⟨rM,[],?_,?_,MapOk.nil,fun n=>by simp[gD]⟩
  ·rw[Mem.set_at];rfl
  ·dsimp only;rw[Mem.set_ne n1,Mem.set_ne n1,Mem.set_at]
 refine cOw (iA (fH r3) (fun s g=>s++g.tvars) (fun g=>∀t∈g.terms,t.Ok) (fun s h g v hq hv hj=>mT hq hv hj) g [] h0 hv (fun x hx=>(Gl.Sh.all g hS x hx).top.tm) H0) fun v μ' h' hle hap hR=>?_
 obtain⟨rfl,e2,hj⟩:=hR
 obtain rfl:=e2.symm
 rw[pY]at hj
 obtain⟨r,l,h1,h2,hk,hg⟩:=hj
 have hlen:l.length≤1000000:=by
  have w_:=qA hk
  obtain⟨ks,hks,hnd⟩:=w_
  have:=nodup_range (N:=100001) hnd fun n hn=>by
   have h3:=(hg n).1 ((qJ hks n).2 hn)
   have:=Gl.vars_range hS n (by simpa[Gl.vars]using h3)
   omega
  have h4:=congrArg List.length hks
  simp only[aF,List.length_map]at h4
  omega
 refine oIn [.map (some r)] rfl (bJ h1) ?_
 refine cOw (mD h2 hk hlen) fun v μ2 h2' hle2 hap2 hR2=>?_
 obtain⟨rfl,xs,g1,g2,g3⟩:=hR2
 exact rPl ⟨xs,fun n=>(g1 n).trans ((hg n).trans (by simp[Gl.vars])),g2,g3⟩
theorem nX{g:Gl}{v:Value}{n:Int}(hS:g.Sh)(hv:RepV μ g.d v):Spec Tryz.prog 153 [v,.int .i64 n] μ fun r _=>r= .bool (decide (∀m∈g.vars,m<n)):=by
 have w_:=Gl.invV hv
 obtain⟨p,rfl⟩:=w_
 refine Spec.mk Tryz.func153 (by kernel_rfl) ?_
 intro r
 refine cPl (oV hS hv) fun v1 μ1 hle1 hR=>?_
 obtain⟨xs,g1,g2,g3⟩:=hR
 have w_:=Rep.sl g3.rep
 obtain⟨b,c,rfl,hsl⟩:=w_
 rw[List.length_map]at hsl ⊢
 have hn:=aH hsl.max
 refine lIn (fun i:Nat=>i≤xs.length∧∀m∈xs.take i,m<n) (fun i=>⟨[(1,.val (.int .i64 n)),(8,.val (.slice b xs.length c)),(9,.val (.int .i64 xs.length)),(10,.val (.int .i64 i))],[],1,μ1,Mem.nil⟩) (fun i=>xs.length-i)
  0 ⟨by simp,by simp⟩ (fun _=>⟨rfl,rfl⟩) ⟨⟨rfl,rfl,rfl,rfl,trivial⟩,trivial,rfl,rfl⟩ ?_
 rintro i ⟨hi,hall⟩
 refine ifd (fun hlt=>?_) (fun hlt=>?_)
 ·have w_ := aSo (l := xs) (i := i) (by omega)
  obtain⟨x,hx⟩:=w_
  have w_:=Ints.elem hsl hx
  obtain⟨ad,hel⟩:=w_
  refine eIn hel ?_
  refine ifd (fun hge=>rPl (isF fun hh=>?_)) (fun hge=>?_)
  ·have:=hh x ((g1 x).1 (mAt hx));omega
  refine aB (by omega) (by omega) ⟨i+1,⟨by omega,fun y hy=>?_⟩,by omega,⟨⟨rfl,rfl,rfl,rfl,trivial⟩,trivial,rfl,rfl⟩⟩
  rw[List.take_add_one,hx,Option.toList_some,List.mem_append,List.mem_singleton]at hy
  rcases hy with hy|rfl
  ·exact hall y hy
  ·omega
 ·obtain rfl : i = xs.length := by omega
  rw[List.take_length]at hall
  exact rPl (isT fun m hm=>hall m ((g1 m).2 hm))
end
end Go.Vx
namespace Go.Vx
open Go.Proofs Classical
theorem gL{s:ByteArray}:∀{l:List Rl} {i:Nat},0≤dJ l i s→∃(j:Nat) (r:Rl),dJ l i s=((i+j:Nat):Int)∧l[j]? =some r∧r.name=s
 |[],i,h=>by simp[dJ]at h
 |r::l,i,h=>by
  rw[dJ]at h ⊢
  by_cases e:r.name=s
  ·rw[if_pos e];exact⟨0,r,by simp,rfl,e⟩
  ·rw [if_neg e] at h ⊢
   have w_:=gL h
   obtain⟨j,r',h1,h2,h3⟩:=w_
   exact⟨j+1,r',by rw[h1];congr 1;omega,h2,h3⟩
section
variable {μ:Mem}
theorem dA{p:Pg}{s:ByteArray}{v:Value}(hv:RepV μ p.d v):aM Tryz.prog 82 [v,.string s] μ (.int .i64 (relAt p s)):=by
 have w_:=Pg.inv hv
 obtain⟨q,rfl,hsl⟩:=w_
 have hn:=aH hsl.max
 refine Spec.mk Tryz.func82 (by kernel_rfl) ?_
 intro r
 refine lIn (fun i:Nat=>i≤p.rels.length∧dJ (p.rels.drop i) i s=relAt p s) (fun i=>⟨[(1,.val (.string s)),(8,.val (.slice q.1 p.rels.length q.2)),(9,.val (.int .i64 p.rels.length)),(10,.val (.int .i64 i))],[],1,μ,Mem.nil⟩) (fun i=>p.rels.length-i)
  0 ⟨by omega,rfl⟩ (fun _=>⟨rfl,rfl⟩) ⟨⟨rfl,rfl,rfl,rfl,trivial⟩,trivial,rfl,rfl⟩ ?_
 rintro i ⟨hi,hJ⟩
 refine ifd (fun hlt=>?_) (fun hlt=>?_)
 ·have w_ := aSo (l := p.rels) (i := i) (by omega)
  obtain⟨x,hx⟩:=w_
  have w_:=Rl.elem hsl hx
  obtain⟨ad,q2,hel,hr⟩:=w_
  rw[bR hx,dJ]at hJ
  refine eIn hel ?_
  intro r2
  refine ifd (fun e=>?_) (fun e=>?_)
  ·rw [if_pos e] at hJ
   exact rGv (by rw[←hJ]) rfl
  ·rw [if_neg e] at hJ
   exact aB (by omega) (by omega) ⟨i+1,⟨by omega,hJ⟩,by omega,⟨⟨rfl,rfl,rfl,rfl,trivial⟩,trivial,rfl,rfl⟩⟩
 ·obtain rfl : i = p.rels.length := by omega
  rw[List.drop_length]at hJ
  exact rGv (by rw[←hJ];rfl) rfl
theorem dI{p:Pg}{s:ByteArray}{v:Value}(hv:RepV μ p.d v):aM Tryz.prog 92 [v,.string s] μ (.int .i64 (relAt p s)):=by
 have w_:=Pg.inv hv
 obtain⟨q,rfl,hsl⟩:=w_
 have hn:=aH hsl.max
 refine Spec.mk Tryz.func92 (by kernel_rfl) ?_
 intro r
 refine lIn (fun i:Nat=>i≤p.rels.length∧dJ (p.rels.drop i) i s=relAt p s) (fun i=>⟨[(1,.val (.string s)),(8,.val (.slice q.1 p.rels.length q.2)),(9,.val (.int .i64 p.rels.length)),(10,.val (.int .i64 i))],[],1,μ,Mem.nil⟩) (fun i=>p.rels.length-i)
  0 ⟨by omega,rfl⟩ (fun _=>⟨rfl,rfl⟩) ⟨⟨rfl,rfl,rfl,rfl,trivial⟩,trivial,rfl,rfl⟩ ?_
 rintro i ⟨hi,hJ⟩
 refine ifd (fun hlt=>?_) (fun hlt=>?_)
 ·have w_ := aSo (l := p.rels) (i := i) (by omega)
  obtain⟨x,hx⟩:=w_
  have w_:=Rl.elem hsl hx
  obtain⟨ad,q2,hel,hr⟩:=w_
  rw[bR hx,dJ]at hJ
  refine eIn hel ?_
  intro r2
  refine ifd (fun e=>?_) (fun e=>?_)
  ·rw [if_pos e] at hJ
   exact rGv (by rw[←hJ]) rfl
  ·rw [if_neg e] at hJ
   exact aB (by omega) (by omega) ⟨i+1,⟨by omega,hJ⟩,by omega,⟨⟨rfl,rfl,rfl,rfl,trivial⟩,trivial,rfl,rfl⟩⟩
 ·obtain rfl : i = p.rels.length := by omega
  rw[List.drop_length]at hJ
  exact rGv (by rw[←hJ];rfl) rfl
theorem nO{p:Pg}{s:ByteArray}(h:0≤relAt p s):∃(j:Nat) (r:Rl),relAt p s=(j:Int)∧p.rels[j]? =some r:=by
 have w_:=gL h
 obtain⟨j,r,h1,h2,h3⟩:=w_
 exact⟨j,r,by rw[relAt,h1];simp,h2⟩
theorem kG{p:Pg}{g:Gl}(h9:g.kind=9){j:Nat}{r:Rl}(e:relAt p g.name=(j:Int))(hr:p.rels[j]? =some r):cR p g↔r.arity=g.terms.length:=by
 constructor
 ·intro h
  have w_:=h h9
  obtain⟨i,r',h1,h2,h3⟩:=w_
  rw[e]at h1
  obtain rfl:j=i:=by omega
  rw[hr]at h2;cases h2
  exact h3
 ·intro h _
  exact⟨j,r,e,hr,h⟩
theorem kH{p:Pg}{g:Gl}(h9:g.kind=9)(h:¬0≤relAt p g.name):¬cR p g:=fun k=>by
 have w_:=k h9
 obtain⟨i,r',h1,_,_⟩:=w_
 omega
theorem pC{p:Pg}{vp:Value}(hp:RepV μ p.d vp):∀(g:Gl) {v:Value},g.Sh→RepV μ g.d v→aM Tryz.prog 200 [vp,v] μ (.bool (decide (FitAll p g))):=by
 have w_:=Pg.inv hp
 obtain⟨q,rfl,hrl⟩:=w_
 refine Gl.ind fun g ih v hS hv=>?_
 have w_:=Gl.inv hv
 obtain⟨q2,rfl,hts,hgs⟩:=w_
 have hn:=aH hgs.max
 refine Spec.mk Tryz.func200 (by kernel_rfl) ?_
 intro r1 r2
 refine ifd (fun h9=>?_) (fun h9=>?_)
 ·have hg0 : g.goals = [] := List.eq_nil_of_length_eq_zero (hS.top.gl0 (.inr h9))
  have hiff:FitAll p g↔cR p g:=⟨fun h=>h.top,fun h=> .mk h (by rw[hg0];simp)⟩
  refine cGv (dI hp) ?_
  refine ifd (fun h0=>?_) (fun h0=>rGv (isF fun h=>kH h9 h0 h.top) rfl)
  have w_:=nO h0
  obtain⟨j,rl,e,hr⟩:=w_
  have w_:=Rl.elem hrl hr
  obtain⟨ad,q3,hel,hrr⟩:=w_
  rw[e]
  refine eIn hel ?_
  exact rGv (isI ((kG h9 e hr).symm.trans hiff.symm)) rfl
 ·refine lIn (fun i:Nat=>i≤g.goals.length∧∀x∈g.goals.take i,FitAll p x) (fun i=>⟨[(2,.loc 0 r1 0),(30,.val (.slice q2.2.1 g.goals.length q2.2.2)),(31,.val (.int .i64 g.goals.length)),(32,.val (.int .i64 i))],[(0,some (.cells r1 [.val (.slice q.1 p.rels.length q.2)] 25))],2,μ,Mem.nil⟩) (fun i=>g.goals.length-i)
   0 ⟨by omega,by simp⟩ (fun _=>⟨rfl,rfl⟩) ⟨⟨rfl,rfl,rfl,rfl,trivial⟩,⟨rfl,trivial⟩,rfl,rfl⟩ ?_
  rintro i ⟨hi,hall⟩
  refine ifd (fun hlt=>?_) (fun hlt=>?_)
  ·have w_ := aSo (l := g.goals) (i := i) (by omega)
   obtain⟨t,ht⟩:=w_
   have w_:=Gl.elem hgs ht
   obtain⟨ad,q3,hel,hr⟩:=w_
   refine eIn hel ?_
   intro r3
   refine cGv (ih t (mAt ht) (hS.sub t (mAt ht)) hr) ?_
   refine aL (fun h=>rGv (isF fun S=>h (S.sub t (mAt ht))) rfl) (fun h=>?_)
   refine aB (by omega) (by omega) ⟨i+1,⟨by omega,fun x hx=>?_⟩,by omega,⟨⟨rfl,rfl,rfl,rfl,trivial⟩,⟨rfl,trivial⟩,rfl,rfl⟩⟩
   rw[List.take_add_one,ht,Option.toList_some,List.mem_append,List.mem_singleton]at hx
   rcases hx with hx|rfl
   ·exact hall x hx
   ·exact h
  ·obtain rfl : i = g.goals.length := by omega
   rw[List.take_length]at hall
   exact rGv (isT (.mk (fun h=>absurd h h9) hall)) rfl
end
end Go.Vx
namespace Go.Vx
open Go.Proofs Classical
theorem pX{α:Type}(f:α→Prop):∀(l:List α) (b:Bool),l.foldl (fun b x=>b&&decide (f x)) b=(b&&decide (∀x∈l,f x))
 |[],b=>by simp
 |a::l,b=>by
  rw[List.foldl_cons,pX f l,Bool.and_assoc]
  congr 1
  by_cases h:f a
  ·simp[h]
  ·simp[h]
section
variable {μ:Mem}
theorem mP{p:Pg}{q:Pg.P}{rp rf:Nat}{b:Bool}{h:Mem}{g:Gl}{v:Value}(hp:RepV μ p.d (.agg #[.slice q.1 p.rels.length q.2]))(hrl:Sl μ 7 q.1 p.rels.length (p.rels.map Rl.d))(hat:μ rp=some (.cells #[.slice q.1 p.rels.length q.2] 25 (0,0)))
  (hv:RepV μ g.d v) (hf:h rf=some (.cells #[.bool b] 4 (0,0))):
  SpecH Tryz.prog 215 [v,.pointer (some ⟨rp,0,none⟩),.pointer (some ⟨rf,0,none⟩)] μ h fun r μ' h'=>r= .tuple #[]∧μ'=μ∧h' rf=some (.cells #[.bool (b&&decide (cR p g))] 4 (0,0)):=by
 have w_:=Gl.inv hv
 obtain⟨q2,rfl,hts,hgs⟩:=w_
 refine SpecH.mk [] Tryz.func215 (by kernel_rfl) ?_
 intro r
 refine ifd (fun h9=>?_) (fun h9=>?_)
 rotate_left
 ·have : cR p g := fun k => absurd k h9
  exact rPl ⟨rfl,rfl,by rw[decide_eq_true this,Bool.and_true];exact hf⟩
 refine bN [.slice q.1 p.rels.length q.2] rfl (bJ hat) ?_
 refine cGv (dA hp) ?_
 refine ifd (fun h0=>?_) (fun h0=>?_)
 ·have : ¬ cR p g := kH h9 (by omega)
  refine sIn [.bool b] 4 hf rfl (Nat.le_refl _) ?_
  exact rPl ⟨rfl,rfl,by rw[decide_eq_false this,Bool.and_false];exact Mem.set_at _ _ _⟩
 ·have w_ := nO (Int.not_lt.1 h0)
  obtain⟨j,rl,e,hr⟩:=w_
  have w_:=Rl.elem hrl hr
  obtain⟨ad,q3,hel,hrr⟩:=w_
  have hiff:=kG h9 e hr
  refine bN [.slice q.1 p.rels.length q.2] rfl (fun j v hj=>by show μ.cell (((⟨rp,0,none⟩:Addr).add 0).add j)=some v;rw[add_add,Nat.zero_add];exact bJ hat j v hj) ?_
  rw[e]
  refine eIn hel ?_
  refine aL (fun hne=>?_) (fun heq=>?_)
  ·have : ¬ cR p g := fun k => hne (hiff.1 k)
   refine sIn [.bool b] 4 hf rfl (Nat.le_refl _) ?_
   exact rPl ⟨rfl,rfl,by rw[decide_eq_false this,Bool.and_false];exact Mem.set_at _ _ _⟩
  ·have : cR p g := hiff.2 heq
   exact rPl ⟨rfl,rfl,by rw[decide_eq_true this,Bool.and_true];exact hf⟩
theorem oR{p:Pg}{vp v:Value}{g:Gl}(hp:RepV μ p.d vp)(hv:RepV μ g.d v):Spec Tryz.prog 154 [vp,v] μ fun r _=>r= .bool (decide (FitAll p g)):=by
 have w_:=Pg.inv hp
 obtain⟨q,rfl,hrl⟩:=w_
 have w_:=Gl.invV hv
 obtain⟨q2,rfl⟩:=w_
 refine Spec.mkO [5] Tryz.func154 (by kernel_rfl) ?_
 intro r1 r2
 intro rf hmf hof
 refine sIn [.bool false] 4 (Mem.set_at _ _ _) rfl (Nat.le_refl _) ?_
 generalize hh:Mem.set (Mem.set _ rf _) rf _=h0
 have hf0:h0 rf=some (.cells #[.bool true] 4 (0,0)):=by subst hh;rw[Mem.set_at];rfl
 refine mO [0] [] (fun _=>rfl) ?_
 intro μ1 hle1 hno1 hat1
 refine lC (iA (fun b h=>h rf=some (.cells #[.bool b] 4 (0,0))) (fun b x=>b&&decide (cR p x)) (fun _=>True) (fun b h x w _ hw hj=>mP (hp.mono hle1) (hrl.mono hle1) hat1 hw hj) g true h0 (hv.mono hle1) (fun _ _=>trivial) hf0) fun v μ2 h' hle hap hR=>?_
 obtain⟨rfl,e2,hj⟩:=hR
 obtain rfl:=e2.symm
 rw[pX,Bool.true_and]at hj
 refine oIn [.bool _] rfl (bJ hj) ?_
 exact rPl (isI ⟨fun h=>FitAll.of h,fun h=>h.all⟩)
end
end Go.Vx
namespace Go.Vx
open Go.Proofs Classical
section
variable {μ:Mem}
theorem dO{p:Pg}{v:Value}(hp:RepV μ p.d v):Spec Tryz.prog 80 [v] μ fun r _=>r= .bool (decide p.Ok):=by
 have w_:=Pg.inv hp
 obtain⟨q,rfl,hrl⟩:=w_
 refine Spec.mk Tryz.func80 (by kernel_rfl) ?_
 intro r1
 refine ifd (fun h8=>rPl (isF fun h=>by have:=h.1;omega)) (fun h8=>?_)
 refine lIn (fun x:Nat×Mem=>x.1≤p.rels.length∧μ.Le x.2∧∀(j:Nat) (r:Rl),j<x.1→p.rels[j]? =some r→RelOk p j r)
  (fun(i,μ')=>⟨[(1,.loc 0 r1 0),(10,.val (.slice q.1 p.rels.length q.2)),(11,.val (.int .i64 p.rels.length)),(12,.val (.int .i64 i))],[(0,some (.cells r1 [.val (.slice q.1 p.rels.length q.2)] 25))],1,μ',Mem.nil⟩) (fun x=>p.rels.length-x.1)
  (0,μ) ⟨by simp,Mem.Le.refl _,fun j r hj=>by simp at hj⟩ (fun(_,_)=>⟨rfl,rfl⟩) ⟨⟨rfl,rfl,rfl,rfl,trivial⟩,⟨rfl,trivial⟩,rfl,rfl⟩ ?_
 rintro⟨i,μ'⟩ ⟨hi,hle,hall⟩
 dsimp only at hi hle hall
 refine ifd (fun hlt=>?_) (fun hlt=>?_)
 ·have w_ := aSo (l := p.rels) (i := i) (by omega)
  obtain⟨x,hx⟩:=w_
  have w_:=Rl.elemA (hrl.mono hle) hx
  obtain⟨ad,q2,hel,hr,hb⟩:=w_
  have hb:RepV μ' x.body.d (.agg (x.body.cs q2).toArray):=hb
  have bad:¬RelOk p i x→Value.bool false= .bool (decide p.Ok):=fun h=>isF fun k=>h (k.2 i x hx)
  refine eIn hel ?_
  intro r2
  refine cGv (eB _ _) ?_
  refine aL (fun h=>rPl (bad fun k=>h k.name)) (fun g1=>?_)
  refine cGv (dA (hp.mono hle)) ?_
  refine aL (fun h=>rPl (bad fun k=>h k.at_)) (fun g2=>?_)
  refine ifd (fun h=>rPl (bad fun k=>by have:=k.ar0;omega)) (fun g3=>?_)
  refine ifd (fun h=>rPl (bad fun k=>by have:=k.ar4;omega)) (fun g4=>?_)
  refine ifd (fun h=>rPl (bad fun k=>by have:=k.lo0;omega)) (fun g5=>?_)
  refine ifd (fun h=>rPl (bad fun k=>by have:=k.lo8;omega)) (fun g6=>?_)
  refine cGv (jS x.body hb (by decide) (by decide)) ?_
  refine ifd (fun h=>rPl (bad fun k=>Gl.nodes_lt h ⟨k.body,by have:=k.size;omega⟩)) (fun h=>?_)
  have w_:=Gl.nodes_ge h
  obtain⟨g7,g8,_⟩:=w_
  refine aB (by omega) (by omega) ?_
  refine cPl (nX g7 hb) fun v1 μ1 hle1 hR=>?_
  obtain rfl:=hR
  refine aL (fun h=>rPl (bad fun k=>h k.vars)) (fun g9=>?_)
  refine cPl (oR ((hp.mono hle).mono hle1) (hb.mono hle1)) fun v2 μ2 hle2 hR=>?_
  obtain rfl:=hR
  refine aL (fun h=>rPl (bad fun k=>h k.calls)) (fun g10=>?_)
  have hok:RelOk p i x:=⟨g2,g1,by omega,by omega,by omega,by omega,g7,by omega,g9,g10⟩
  refine aB (by omega) (by omega) ⟨(i+1,μ2),⟨by dsimp only;omega,(hle.trans hle1).trans hle2,fun j r hj hr=>?_⟩,by dsimp only;omega,⟨⟨rfl,rfl,rfl,rfl,trivial⟩,⟨rfl,trivial⟩,rfl,rfl⟩⟩
  rcases Nat.lt_or_ge j i with h6|h6
  ·exact hall j r h6 hr
  ·obtain rfl : j = i := by omega
   rw[hx]at hr;cases hr;exact hok
 ·obtain rfl : i = p.rels.length := by omega
  exact rPl (isT ⟨by omega,fun j r hr=>hall j r (List.getElem?_eq_some_iff.1 hr).1 hr⟩)
noncomputable def Gl.count(g:Gl):Int:=if g.Ok then g.cnt else 0
theorem jV(g:Gl){v:Value}(hv:RepV μ g.d v)(hw:g.d.wd):aM Tryz.prog 140 [v] μ (.int .i64 g.count):=by
 have w_:=Gl.invV hv
 obtain⟨p,rfl⟩:=w_
 refine Spec.mk Tryz.func140 (by kernel_rfl) ?_
 intro r
 refine cGv (cW g hv hw) ?_
 refine aL (fun h=>rGv (by rw[Gl.count,if_neg h]) rfl) (fun h=>?_)
 refine cGv (jF g hv (by decide) (by decide)) ?_
 refine rGv ?_ rfl
 congr 1
 have:=h.2
 have:=g.cnt_pos
 rw[Gl.count,if_pos h,bP]
 omega
end
end Go.Vx
namespace Go.Vx
open Go.Proofs Classical
theorem gJ{l:List Int}{n:Int}{k:Nat}(hs:l.Pairwise (·<·))(h1:∀y∈l.take k,y<n)(h2:∀y∈l.drop k,n<y):(aT l n k).Pairwise (·<·):=by
 unfold aT
 rw[List.pairwise_append]
 refine⟨hs.sublist (List.take_sublist _ _),?_,?_⟩
 ·rw [List.singleton_append, List.pairwise_cons]
  exact⟨h2,hs.sublist (List.drop_sublist _ _)⟩
 ·intro a ha b hb
  rcases List.mem_append.1 hb with hb|hb
  ·rw[List.mem_singleton]at hb;subst hb;exact h1 a ha
  ·have:=h1 a ha;have:=h2 b hb;omega
theorem take_lt{l:List Int}(hs:l.Pairwise (·<·)){k:Nat}{n:Int}(h:k=0∨∃x,l[k-1]? =some x∧x<n):∀y∈l.take k,y<n:=fun y hy=>by
 have w_:=List.mem_iff_getElem?.1 hy
 obtain⟨i,hi⟩:=w_
 rw[List.getElem?_take]at hi
 split at hi
 ·rename_i hik
  rcases h with rfl|⟨x,hx,hxn⟩
  ·omega
  ·rcases Nat.lt_or_ge i (k - 1) with h1 | h1
   ·have:=qAi hs h1 hi hx;omega
   ·obtain rfl : i = k - 1 := by omega
    rw[hx]at hi;cases hi;exact hxn
 ·cases hi
theorem drop_gt{l:List Int}(hs:l.Pairwise (·<·)){k:Nat}{n:Int}(h:∀(j:Nat) y,k≤j→l[j]? =some y→n≤y)(hne:∀y,l[k]? =some y→y≠n):∀y∈l.drop k,n<y:=fun y hy=>by
 have w_:=List.mem_iff_getElem?.1 hy
 obtain⟨i,hi⟩:=w_
 rw[List.getElem?_drop]at hi
 have h1:=h (k+i) y (by omega) hi
 rcases Nat.eq_zero_or_pos i with rfl|h2
 ·have := hne y (by simpa using hi)
  omega
 ·have hk : k < l.length := by have := (List.getElem?_eq_some_iff.1 hi).1; omega
  have hkk:l[k]? =some l[k]:=List.getElem?_eq_getElem hk
  have h3:=h k _ (Nat.le_refl _) hkk
  have:=qAi hs (by omega:k<k+i) hkk hi
  omega
section
variable {μ:Mem}
theorem mA{l:List Int}{v:Value}{n:Int}(hv:RepV μ (.sl 1 (l.map D.i)) v)(hb:l.length≤1000000000)(hs:l.Pairwise (·<·)):Spec Tryz.prog 248 [v,.int .i64 n] μ fun v μ'=>∃r:List Int,RepV μ' (.sl 1 (r.map D.i)) v∧(∀x,x∈r↔x=n∨x∈l)∧r.Pairwise (·<·):=by
 have w_:=Rep.sl hv
 obtain⟨base,cap,rfl,hsl⟩:=w_
 have hcap:=Rep.lens hv
 rw[List.length_map]at hsl hcap hv ⊢
 refine Spec.mk Tryz.func248 (by kernel_rfl) ?_
 refine lIn (fun k:Nat=>k≤l.length∧∀(j:Nat) y,k≤j→l[j]? =some y→n≤y) (fun k=>⟨[(0,.val (.slice base l.length cap)),(1,.val (.int .i64 n)),(5,.val (.int .i64 k))],[],0,μ,Mem.nil⟩) (fun k=>k)
  l.length ⟨Nat.le_refl _,fun j y hj hy=>absurd (List.getElem?_eq_some_iff.1 hy).1 (by omega)⟩ (fun i=>⟨rfl,rfl⟩) ⟨⟨rfl,rfl,rfl,trivial⟩,trivial,rfl,rfl⟩ ?_
 rintro k ⟨hk,hge⟩
 refine ifd (fun h1=>?_) (fun h1=>?_)
 ·have w_ := aSo (l := l) (i := k - 1) (by omega)
  obtain⟨x,hx⟩:=w_
  have w_:=Ints.elem hsl hx
  obtain⟨ad,hel⟩:=w_
  refine nEq (x:=((k-1:Nat):Int)) (by rw[aA (by omega) (by omega)];omega) ?_
  refine eIn hel ?_
  refine ifd (fun h2=>?_) (fun h2=>?_)
  ·refine nEq (x := ((k - 1 : Nat) : Int)) (by rw [aA (by omega) (by omega)]; omega) ⟨k - 1, ⟨by omega, fun j y hj hy => ?_⟩, by omega, ⟨⟨rfl, rfl, rfl, trivial⟩, trivial, rfl, rfl⟩⟩
   rcases Nat.lt_or_ge j k with h3|h3
   ·obtain rfl : j = k - 1 := by omega
    rw[hx]at hy;cases hy;exact h2
   ·exact hge j y h3 hy
  ·have htk := take_lt hs (k := k) (n := n) (.inr ⟨x, hx, by omega⟩)
   refine ifd (fun h3=>?_) (fun h3=>?_)
   ·have w_ := aSo (l := l) (i := k) (by omega)
    obtain⟨y,hy⟩:=w_
    have w_:=Ints.elem hsl hy
    obtain⟨ad2,hel2⟩:=w_
    refine eIn hel2 ?_
    refine ifd (fun h4=>rPl ⟨l,hv,fun x=>⟨.inr,fun hx=>hx.elim (fun e=>by rw[e,←h4];exact mAt hy) id⟩,hs⟩) (fun h4=>?_)
    have hgt:=drop_gt hs hge (fun z hz=>by rw[hy]at hz;cases hz;exact h4)
    intro r0
    refine aG 0 k rfl rfl (by omega) (by omega) ?_
    refine aJ _ (Ints.src hsl (a:=0) (b:=k) (by omega) hk hcap) ?_
    refine gIn ?_ ?_ fun b1 c1 _=>?_
    ·show(0+(aF _).length)*8≤_;simp[aF];omega
    ·show 0+(aF _).length≤9223372036854775807;simp[aF];omega
    intro r1
    refine gIn ?_ ?_ fun b2 c2 _=>?_
    ·show(([]++aF _).length+1)*8≤_;simp[aF];omega
    ·show([]++aF _).length+1≤9223372036854775807;simp[aF];omega
    refine aG k l.length rfl rfl hk (by omega) ?_
    refine aJ _ (Ints.src hsl (a:=k) (b:=l.length) hk (Nat.le_refl _) hcap) ?_
    refine gIn ?_ ?_ fun b3 c3 _=>?_
    ·show(([]++aF _++[_]).length+(aF _).length)*8≤_;simp[aF];omega
    ·show([]++aF _++[_]).length+(aF _).length≤9223372036854775807;simp[aF];omega
    refine rFz [0] fun μ' hle hno hrow=> .inl ⟨aT l n k,?_,dB l n k,gJ hs htk hgt⟩
    have e:[]++aF ((l.drop 0).take (k-0))++[.int .i64 n]++aF ((l.drop k).take (l.length-k))=aF (aT l n k):=by
     simp[aF,aT]
     rw[List.take_of_length_le (by simp)]
    rw[e]at hrow ⊢
    exact Ints.sl hrow (Nat.le_trans (m:=2000000000) (by simp[aT];omega) (by decide))
   ·have hgt := drop_gt hs hge (fun z hz => by have := (List.getElem?_eq_some_iff.1 hz).1; omega)
    intro r0
    refine aG 0 k rfl rfl (by omega) (by omega) ?_
    refine aJ _ (Ints.src hsl (a:=0) (b:=k) (by omega) hk hcap) ?_
    refine gIn ?_ ?_ fun b1 c1 _=>?_
    ·show(0+(aF _).length)*8≤_;simp[aF];omega
    ·show 0+(aF _).length≤9223372036854775807;simp[aF];omega
    intro r1
    refine gIn ?_ ?_ fun b2 c2 _=>?_
    ·show(([]++aF _).length+1)*8≤_;simp[aF];omega
    ·show([]++aF _).length+1≤9223372036854775807;simp[aF];omega
    refine aG k l.length rfl rfl hk (by omega) ?_
    refine aJ _ (Ints.src hsl (a:=k) (b:=l.length) hk (Nat.le_refl _) hcap) ?_
    refine gIn ?_ ?_ fun b3 c3 _=>?_
    ·show(([]++aF _++[_]).length+(aF _).length)*8≤_;simp[aF];omega
    ·show([]++aF _++[_]).length+(aF _).length≤9223372036854775807;simp[aF];omega
    refine rFz [0] fun μ' hle hno hrow=> .inl ⟨aT l n k,?_,dB l n k,gJ hs htk hgt⟩
    have e:[]++aF ((l.drop 0).take (k-0))++[.int .i64 n]++aF ((l.drop k).take (l.length-k))=aF (aT l n k):=by
     simp[aF,aT]
     rw[List.take_of_length_le (by simp)]
    rw[e]at hrow ⊢
    exact Ints.sl hrow (Nat.le_trans (m:=2000000000) (by simp[aT];omega) (by decide))
 ·have htk := take_lt hs (k := k) (n := n) (.inl (by omega))
  refine ifd (fun h3=>?_) (fun h3=>?_)
  ·have w_ := aSo (l := l) (i := k) (by omega)
   obtain⟨y,hy⟩:=w_
   have w_:=Ints.elem hsl hy
   obtain⟨ad2,hel2⟩:=w_
   refine eIn hel2 ?_
   refine ifd (fun h4=>rPl ⟨l,hv,fun x=>⟨.inr,fun hx=>hx.elim (fun e=>by rw[e,←h4];exact mAt hy) id⟩,hs⟩) (fun h4=>?_)
   have hgt:=drop_gt hs hge (fun z hz=>by rw[hy]at hz;cases hz;exact h4)
   intro r0
   refine aG 0 k rfl rfl (by omega) (by omega) ?_
   refine aJ _ (Ints.src hsl (a:=0) (b:=k) (by omega) hk hcap) ?_
   refine gIn ?_ ?_ fun b1 c1 _=>?_
   ·show(0+(aF _).length)*8≤_;simp[aF];omega
   ·show 0+(aF _).length≤9223372036854775807;simp[aF];omega
   intro r1
   refine gIn ?_ ?_ fun b2 c2 _=>?_
   ·show(([]++aF _).length+1)*8≤_;simp[aF];omega
   ·show([]++aF _).length+1≤9223372036854775807;simp[aF];omega
   refine aG k l.length rfl rfl hk (by omega) ?_
   refine aJ _ (Ints.src hsl (a:=k) (b:=l.length) hk (Nat.le_refl _) hcap) ?_
   refine gIn ?_ ?_ fun b3 c3 _=>?_
   ·show(([]++aF _++[_]).length+(aF _).length)*8≤_;simp[aF];omega
   ·show([]++aF _++[_]).length+(aF _).length≤9223372036854775807;simp[aF];omega
   refine rFz [0] fun μ' hle hno hrow=> .inl ⟨aT l n k,?_,dB l n k,gJ hs htk hgt⟩
   have e:[]++aF ((l.drop 0).take (k-0))++[.int .i64 n]++aF ((l.drop k).take (l.length-k))=aF (aT l n k):=by
    simp[aF,aT]
    rw[List.take_of_length_le (by simp)]
   rw[e]at hrow ⊢
   exact Ints.sl hrow (Nat.le_trans (m:=2000000000) (by simp[aT];omega) (by decide))
  ·have hgt := drop_gt hs hge (fun z hz => by have := (List.getElem?_eq_some_iff.1 hz).1; omega)
   intro r0
   refine aG 0 k rfl rfl (by omega) (by omega) ?_
   refine aJ _ (Ints.src hsl (a:=0) (b:=k) (by omega) hk hcap) ?_
   refine gIn ?_ ?_ fun b1 c1 _=>?_
   ·show(0+(aF _).length)*8≤_;simp[aF];omega
   ·show 0+(aF _).length≤9223372036854775807;simp[aF];omega
   intro r1
   refine gIn ?_ ?_ fun b2 c2 _=>?_
   ·show(([]++aF _).length+1)*8≤_;simp[aF];omega
   ·show([]++aF _).length+1≤9223372036854775807;simp[aF];omega
   refine aG k l.length rfl rfl hk (by omega) ?_
   refine aJ _ (Ints.src hsl (a:=k) (b:=l.length) hk (Nat.le_refl _) hcap) ?_
   refine gIn ?_ ?_ fun b3 c3 _=>?_
   ·show(([]++aF _++[_]).length+(aF _).length)*8≤_;simp[aF];omega
   ·show([]++aF _++[_]).length+(aF _).length≤9223372036854775807;simp[aF];omega
   refine rFz [0] fun μ' hle hno hrow=> .inl ⟨aT l n k,?_,dB l n k,gJ hs htk hgt⟩
   have e:[]++aF ((l.drop 0).take (k-0))++[.int .i64 n]++aF ((l.drop k).take (l.length-k))=aF (aT l n k):=by
    simp[aF,aT]
    rw[List.take_of_length_le (by simp)]
   rw[e]at hrow ⊢
   exact Ints.sl hrow (Nat.le_trans (m:=2000000000) (by simp[aT];omega) (by decide))
def sR(μ':Mem)(l vs:List Int)(v:Value):Prop:=∃r:List Int,RepV μ' (.sl 1 (r.map D.i)) v∧(∀x,x∈r↔x∈vs∨x∈l)∧VL r
theorem pA:∀(x:T) {μ:Mem} {l:List Int} {w v:Value},x.good→RepV μ x.tm.d w→RepV μ (.sl 1 (l.map D.i)) v→VL l→Spec Tryz.prog 204 [w,v] μ fun v μ'=>sR μ' l x.vars v:=
 T.ind fun x ih μ l w v hgd hw hv hb=>by
  have hrng:=T.vars_range hgd
  have w_:=T.inv hw
  obtain⟨base,cap,rfl,hsl⟩:=w_
  have hn:=aH hsl.max
  refine Spec.mk Tryz.func204 (by kernel_rfl) ?_
  intro r
  refine ifd (fun h=>?_) (fun h=>?_)
  ·have e : x.vars = [x.tm.num] := by cases x <;> simp_all [T.vars, T.tm, Tm.kind, Tm.num]
   refine cPl (mA hv (by have:=hb.len;omega) hb.srt) fun v' μ' hle hR=>rPl ?_
   obtain⟨r,h1,h2,h3⟩:=hR
   refine⟨r,h1,by simpa[e]using h2,h3,fun y hy=>?_⟩
   rcases(h2 y).1 hy with rfl|hy
   ·exact hrng _ (by rw[e];simp)
   ·exact hb.rng y hy
  have e:=T.vars_args h
  have hgs:∀y∈x.args,y.good:=fun y hy=>by
   cases x with
   |pair a b=>
    simp only[T.args,List.mem_cons,List.not_mem_nil,or_false]at hy
    rcases hy with rfl|rfl
    ·exact hgd.1
    ·exact hgd.2
   |_=>simp[T.args]at hy
  refine lIn (fun p:Nat×Value×Mem=>p.1≤x.args.length∧μ.Le p.2.2∧sR p.2.2 l ((x.args.take p.1).flatMap T.vars) p.2.1)
   (fun(i,v,μ')=>⟨[(1,.val v),(15,.val (.slice base x.args.length cap)),(16,.val (.int .i64 x.args.length)),(17,.val (.int .i64 i))],[],1,μ',Mem.nil⟩) (fun p=>x.args.length-p.1)
   (0,v,μ) ⟨by simp,Mem.Le.refl μ,l,hv,by simp,hb⟩ (fun(_,_,_)=>⟨rfl,rfl⟩) ⟨⟨rfl,rfl,rfl,rfl,trivial⟩,trivial,rfl,rfl⟩ ?_
  rintro⟨i,v,μ'⟩ ⟨hi,hle,r,h1,h2,h3⟩
  dsimp only at hi hle h1 h2 h3
  refine ifd (fun h=>?_) (fun h=>?_)
  ·have w_ := aSo (l := x.args) (i := i) (by omega)
   obtain⟨t,ht⟩:=w_
   have ht':(x.args.map T.tm)[i]? =some t.tm:=by simp[ht]
   have w_:=Tm.elem (hsl.mono hle) ht'
   obtain⟨ad,p,hel,hr⟩:=w_
   have hsucc:(x.args.take (i+1)).flatMap T.vars=(x.args.take i).flatMap T.vars++t.vars:=by
    rw[List.take_add_one,ht,Option.toList_some,List.flatMap_append];simp
   refine eIn hel ?_
   intro r2
   refine cPl (ih t (mAt ht) (hgs t (mAt ht)) hr h1 h3) fun v' μ'' hle2 hR=>?_
   obtain⟨q,g1,g2,g3⟩:=hR
   refine aB (by omega) (by omega) ⟨(i+1,v',μ''),⟨by dsimp only;omega,hle.trans hle2,q,g1,fun y=>?_,g3⟩,by dsimp only;omega,⟨⟨rfl,rfl,rfl,rfl,trivial⟩,trivial,rfl,rfl⟩⟩
   dsimp only
   rw[g2,h2,hsucc,List.mem_append]
   constructor
   ·rintro(h|h|h)<;>simp[h]
   ·rintro((h|h)|h)<;>simp[h]
  ·obtain rfl : i = x.args.length := by omega
   rw[List.take_length]at h2
   exact rPl ⟨r,h1,by rw[e];exact h2,h3⟩
end
end Go.Vx
namespace Go.Vx
open Go.Proofs Classical
theorem Gl.vars_eq(g:Gl):g.vars=g.tvars++g.goals.flatMap Gl.vars:=by
 rw[Gl.vars,Gl.all_eq,List.flatMap_cons,List.flatMap_assoc]
 rfl
section
variable {μ:Mem}
theorem rB:∀(g:Gl) {μ:Mem} {l:List Int} {w v:Value},g.Sh→RepV μ g.d w→RepV μ (.sl 1 (l.map D.i)) v→VL l→Spec Tryz.prog 201 [w,v] μ fun v μ'=>sR μ' l g.vars v:=
 Gl.ind fun g ih μ l w v hS hw hv hb=>by
  have w_:=Gl.inv hw
  obtain⟨p,rfl,hts,hgs⟩:=w_
  have w_:=fD hS.top.tm
  obtain⟨xs,hxs,hxo⟩:=w_
  have htv:g.tvars=xs.flatMap T.vars:=by rw[Gl.tvars,hxs,toTs_tm']
  rw[hxs,List.length_map]at hts ⊢
  have hn:=aH hts.max
  have hn2:=aH hgs.max
  refine Spec.mk Tryz.func201 (by kernel_rfl) ?_
  intro r1
  refine lIn (fun p:Nat×Value×Mem=>p.1≤xs.length∧μ.Le p.2.2∧sR p.2.2 l ((xs.take p.1).flatMap T.vars) p.2.1)
   (fun(i,v,μ')=>⟨[(1,.val v),(2,.loc 0 r1 0),(10,.val (.slice p.1.1 xs.length p.1.2)),(11,.val (.int .i64 xs.length)),(12,.val (.int .i64 i))],[(0,some (.cells r1 [.val (.int .i64 g.kind),.val (.string g.name),.val (.slice p.1.1 xs.length p.1.2),.val (.slice p.2.1 g.goals.length p.2.2)] 61))],1,μ',Mem.nil⟩) (fun p=>xs.length-p.1)
   (0,v,μ) ⟨by simp,Mem.Le.refl μ,l,hv,by simp,hb⟩ (fun(_,_,_)=>⟨rfl,rfl⟩) ⟨⟨rfl,rfl,rfl,rfl,rfl,trivial⟩,⟨rfl,trivial⟩,rfl,rfl⟩ ?_
  rintro⟨i,v,μ'⟩ ⟨hi,hle,r,h1,h2,h3⟩
  dsimp only at hi hle h1 h2 h3
  refine ifd (fun h=>?_) (fun h=>?_)
  ·have w_ := aSo (l := xs) (i := i) (by omega)
   obtain⟨t,ht⟩:=w_
   have w_:=Tm.elem (i:=i) (t:=t.tm) (hts.mono hle) (by simp[ht])
   obtain⟨ad,p3,hel,hr⟩:=w_
   have hsucc:(xs.take (i+1)).flatMap T.vars=(xs.take i).flatMap T.vars++t.vars:=by
    rw[List.take_add_one,ht,Option.toList_some,List.flatMap_append];simp
   refine eIn hel ?_
   intro r2
   refine cPl (pA t (hxo t (mAt ht)).1 hr h1 h3) fun v' μ'' hle2 hR=>?_
   obtain⟨q,g1,g2,g3⟩:=hR
   refine aB (by omega) (by omega) ⟨(i+1,v',μ''),⟨by dsimp only;omega,hle.trans hle2,q,g1,fun y=>?_,g3⟩,by dsimp only;omega,⟨⟨rfl,rfl,rfl,rfl,rfl,trivial⟩,⟨rfl,trivial⟩,rfl,rfl⟩⟩
   dsimp only
   rw[g2,h2,hsucc,List.mem_append]
   constructor
   ·rintro(h|h|h)<;>simp[h]
   ·rintro((h|h)|h)<;>simp[h]
  ·obtain rfl : i = xs.length := by omega
   rw[List.take_length]at h2
   have hgs1:=hgs.mono hle
   refine lIn (fun x:Nat×Value×Mem=>x.1≤g.goals.length∧μ'.Le x.2.2∧sR x.2.2 l (g.tvars++(g.goals.take x.1).flatMap Gl.vars) x.2.1)
    (fun(i,v,μ'')=>⟨[(1,.val v),(21,.val (.slice p.2.1 g.goals.length p.2.2)),(22,.val (.int .i64 g.goals.length)),(23,.val (.int .i64 i))],[],1,μ'',Mem.nil⟩) (fun x=>g.goals.length-x.1)
    (0,v,μ') ⟨by simp,Mem.Le.refl μ',r,h1,by simpa[htv]using h2,h3⟩ (fun(_,_,_)=>⟨rfl,rfl⟩) ⟨⟨rfl,rfl,rfl,rfl,trivial⟩,trivial,rfl,rfl⟩ ?_
   rintro⟨i,v2,μ2⟩ ⟨hi,hle2,r2,k1,k2,k3⟩
   dsimp only at hi hle2 k1 k2 k3
   refine ifd (fun h=>?_) (fun h=>?_)
   ·have w_ := aSo (l := g.goals) (i := i) (by omega)
    obtain⟨t,ht⟩:=w_
    have w_:=Gl.elem (hgs1.mono hle2) ht
    obtain⟨ad,p3,hel,hr⟩:=w_
    have hsucc:(g.goals.take (i+1)).flatMap Gl.vars=(g.goals.take i).flatMap Gl.vars++t.vars:=by
     rw[List.take_add_one,ht,Option.toList_some,List.flatMap_append];simp
    refine eIn hel ?_
    intro r3
    refine cPl (ih t (mAt ht) (hS.sub t (mAt ht)) hr k1 k3) fun v' μ3 hle3 hR=>?_
    obtain⟨q,g1,g2,g3⟩:=hR
    refine aB (by omega) (by omega) ⟨(i+1,v',μ3),⟨by dsimp only;omega,hle2.trans hle3,q,g1,fun y=>?_,g3⟩,by dsimp only;omega,⟨⟨rfl,rfl,rfl,rfl,trivial⟩,trivial,rfl,rfl⟩⟩
    dsimp only
    rw[g2,k2,hsucc,←List.append_assoc,List.mem_append (s:=g.tvars++_)]
    constructor
    ·rintro(h|h|h)<;>simp[h]
    ·rintro((h|h)|h)<;>simp[h]
   ·obtain rfl : i = g.goals.length := by omega
    rw[List.take_length,←Gl.vars_eq]at k2
    exact rPl ⟨r2,k1,k2,k3⟩
def qUq(p:Pg)(g:Gl)(n:Int):Prop:=g.Ok∧FitAll p g∧∀m∈g.vars,m<n
theorem rD{p:Pg}{g:Gl}{n:Int}{vp v:Value}(hp:RepV μ p.d vp)(hv:RepV μ g.d v)(hw:g.d.wd):Spec Tryz.prog 139 [vp,v,.int .i64 n] μ fun r _=>r= .bool (decide (qUq p g n)):=by
 have w_:=Pg.inv hp
 obtain⟨q,rfl,hrl⟩:=w_
 have w_:=Gl.invV hv
 obtain⟨q2,rfl⟩:=w_
 refine Spec.mk Tryz.func139 (by kernel_rfl) ?_
 intro r1 r2
 refine cGv (cW g hv hw) ?_
 refine aL (fun h=>rPl (isF fun k=>h k.1)) (fun h1=>?_)
 refine cGv (pC hp g h1.1 hv) ?_
 refine aL (fun h=>rPl (isF fun k=>h k.2.1)) (fun h2=>?_)
 refine cPl (rB (l:=[]) (v:= .slice none 0 0) g h1.1 hv ⟨none,0,rfl,⟨Nat.zero_le _,Nat.zero_le _⟩,by simp,.inl rfl⟩ ⟨List.Pairwise.nil,by simp⟩) fun v1 μ1 hle1 hR=>?_
 obtain⟨r,g1,g2,g3⟩:=hR
 have w_:=Rep.sl g1
 obtain⟨b,c,rfl,hsl⟩:=w_
 rw[List.length_map]at hsl ⊢
 have hlen:=g3.len
 have hmem:∀x,x∈r↔x∈g.vars:=fun x=>by rw[g2];simp
 refine ifd (fun h=>rPl (isT ⟨h1,h2,fun m hm=>?_⟩)) (fun h=>?_)
 ·have h3 : r = [] := List.eq_nil_of_length_eq_zero (by omega)
  have:=(hmem m).2 hm
  rw[h3]at this;simp at this
 ·have w_ := aSo (l := r) (i := r.length - 1) (by omega)
  obtain⟨x,hx⟩:=w_
  have w_:=Ints.elem hsl hx
  obtain⟨ad,hel⟩:=w_
  refine nEq (x:=((r.length-1:Nat):Int)) (by rw[aA (by omega) (by omega)];omega) ?_
  refine eIn hel ?_
  refine rPl (isI ⟨fun k=>⟨h1,h2,fun m hm=>((VL.last g3 hx).2 k) m ((hmem m).2 hm)⟩,fun k=>(VL.last g3 hx).1 fun y hy=>k.2.2 y ((hmem y).1 hy)⟩)
end
end Go.Vx
namespace Go.Vx
open Go.Proofs Classical
section
variable {μ:Mem}
theorem bD{p:Pg}{v:Value}(hp:RepV μ p.d v)(hw:p.d.wd):Spec Tryz.prog 69 [v] μ fun r _=>r= .bool (decide p.Ok):=by
 have w_:=Pg.inv hp
 obtain⟨q,rfl,hrl⟩:=w_
 have hws:D.wds (p.rels.map Rl.d):=by rw[Pg.d_eq]at hw;exact hw.1
 refine Spec.mk Tryz.func69 (by kernel_rfl) ?_
 intro r1
 refine ifd (fun h8=>rPl (isF fun h=>by have:=h.1;omega)) (fun h8=>?_)
 refine lIn (fun x:Nat×Mem=>x.1≤p.rels.length∧μ.Le x.2∧∀(j:Nat) (r:Rl),j<x.1→p.rels[j]? =some r→RelOk p j r)
  (fun(i,μ')=>⟨[(1,.loc 0 r1 0),(10,.val (.slice q.1 p.rels.length q.2)),(11,.val (.int .i64 p.rels.length)),(12,.val (.int .i64 i))],[(0,some (.cells r1 [.val (.slice q.1 p.rels.length q.2)] 25))],1,μ',Mem.nil⟩) (fun x=>p.rels.length-x.1)
  (0,μ) ⟨by simp,Mem.Le.refl _,fun j r hj=>by simp at hj⟩ (fun(_,_)=>⟨rfl,rfl⟩) ⟨⟨rfl,rfl,rfl,rfl,trivial⟩,⟨rfl,trivial⟩,rfl,rfl⟩ ?_
 rintro⟨i,μ'⟩ ⟨hi,hle,hall⟩
 dsimp only at hi hle hall
 refine ifd (fun hlt=>?_) (fun hlt=>?_)
 ·have w_ := aSo (l := p.rels) (i := i) (by omega)
  obtain⟨x,hx⟩:=w_
  have w_:=Rl.elemA (hrl.mono hle) hx
  obtain⟨ad,q2,hel,hr,hb⟩:=w_
  have hb:RepV μ' x.body.d (.agg (x.body.cs q2).toArray):=hb
  have hxw:x.d.wd:=D.wds_mem hws _ (mAt (lM (f:=Rl.d) hx))
  rw[Rl.d_eq]at hxw
  have hnm:x.name.size≤maxLen:=hxw.1
  have hbw:x.body.d.wd:=hxw.2.2.2.1
  have bad:¬RelOk p i x→Value.bool false= .bool (decide p.Ok):=fun h=>isF fun k=>h (k.2 i x hx)
  refine eIn hel ?_
  intro r2
  refine cGv (dI (hp.mono hle)) ?_
  refine aL (fun h=>rPl (bad fun k=>h k.at_)) (fun g2=>?_)
  refine cGv (eC _ hnm _) ?_
  refine aL (fun h=>rPl (bad fun k=>h k.name)) (fun g1=>?_)
  refine cGv (bG _ _ _ _) ?_
  refine aL (fun h=>rPl (bad fun k=>h ⟨k.ar0,k.ar4⟩)) (fun g3=>?_)
  refine cGv (bG _ _ _ _) ?_
  refine aL (fun h=>rPl (bad fun k=>h ⟨k.lo0,k.lo8⟩)) (fun g4=>?_)
  refine aB (by omega) (by omega) ?_
  refine cPl (rD (hp.mono hle) hb hbw) fun v1 μ1 hle1 hR=>?_
  obtain rfl:=hR
  refine aL (fun h=>rPl (bad fun k=>h ⟨⟨k.body,by have:=k.size;omega⟩,k.calls,k.vars⟩)) (fun g5=>?_)
  refine cGv (jV x.body (hb.mono hle1) hbw) ?_
  have hc:x.body.count=x.body.cnt:=by rw[Gl.count,if_pos g5.1]
  refine ifd (fun h=>rPl (bad fun k=>by have:=k.size;omega)) (fun g6=>?_)
  have hok:RelOk p i x:=⟨g2,g1,by omega,by omega,by omega,by omega,g5.1.1,by omega,g5.2.2,g5.2.1⟩
  refine aB (by omega) (by omega) ⟨(i+1,μ1),⟨by dsimp only;omega,hle.trans hle1,fun j r hj hr=>?_⟩,by dsimp only;omega,⟨⟨rfl,rfl,rfl,rfl,trivial⟩,⟨rfl,trivial⟩,rfl,rfl⟩⟩
  rcases Nat.lt_or_ge j i with h6|h6
  ·exact hall j r h6 hr
  ·obtain rfl : j = i := by omega
   rw[hx]at hr;cases hr;exact hok
 ·obtain rfl : i = p.rels.length := by omega
  exact rPl (isT ⟨by omega,fun j r hr=>hall j r (List.getElem?_eq_some_iff.1 hr).1 hr⟩)
end
end Go.Vx
namespace Go.Vx
open Go.Proofs Classical
section
variable {μ:Mem}
theorem Rep.srcAll{es n cap:Nat}{base:Option Addr}{ds:List D}(h:RepV μ (.sl es ds) (.slice base n cap)):∃vs,Rows μ es ds vs∧vs.length=n∧lW μ base n es vs:=by
 have w_:=Rep.src h
 obtain⟨vs,hrows,hvl,hcap,hsrc⟩:=w_
 have:=hsrc 0 n (Nat.zero_le _) (Nat.le_refl _)
 have e1:(if cap=0 then base else base.map (·.add (0*es)))=base:=by
  split
  ·rfl
  ·cases base with
   |none=>rfl
   |some a=>simp[Addr.add]
 rw[e1,Nat.sub_zero,List.drop_zero,List.take_of_length_le (by omega)]at this
 exact⟨vs,hrows,hvl,this⟩
end
end Go.Vx
namespace Go.Vx
open Go.Proofs Classical
theorem T.hasSym_args(s:ByteArray)(x:T):x.hasSym s↔(x.tm.kind=2∧x.tm.name=s)∨∃y∈x.args,y.hasSym s:=by
 cases x<;>simp[T.hasSym,T.tm,Tm.kind,Tm.name,T.args]
section
variable {μ:Mem}
set_option maxHeartbeats 4000000 in
theorem RepV.bd{n:Int}{x:T}{q:Option Addr×Nat}(h:RepV μ x.tm.d (.agg (x.tm.cs q).toArray)):RepV μ (B.bd ⟨n,x⟩).d (.agg (Value.int .i64 n::x.tm.cs q).toArray):=by
 have hc:=RepV.cells h
 have e:aD (.agg (x.tm.cs q).toArray)=x.tm.cs q:=by simp[aD]
 rw[e]at hc
 exact⟨_,rfl,RepS.int (RepS.last hc)⟩
theorem sA(s:ByteArray):∀(x:T) {v:Value},RepV μ x.tm.d v→aM Tryz.prog 263 [v,.string s] μ (.bool (decide (x.hasSym s))):=
 T.ind fun x ih v hv=>by
  have w_:=T.inv hv
  obtain⟨base,cap,rfl,hsl⟩:=w_
  have hn:=aH hsl.max
  refine Spec.mk Tryz.func263 (by kernel_rfl) ?_
  intro r
  refine lIn (fun i:Nat=>i≤x.args.length∧∀j y,j<i→x.args[j]? =some y→¬y.hasSym s)
   (fun i=>⟨[(1,.val (.string s)),(2,.loc 0 r 0),(8,.val (.slice base x.args.length cap)),(9,.val (.int .i64 x.args.length)),(10,.val (.int .i64 i))],[(0,some (.cells r [.val (.int .i64 x.tm.kind),.val (.int .i64 x.tm.num),.val (.string x.tm.name),.val (.slice base x.args.length cap)] 75))],1,μ,Mem.nil⟩) (fun i=>x.args.length-i)
   0 ⟨by omega,fun j y hj=>by omega⟩ (fun _=>⟨rfl,rfl⟩) ⟨⟨rfl,rfl,rfl,rfl,rfl,trivial⟩,⟨rfl,trivial⟩,rfl,rfl⟩ ?_
  rintro i ⟨hi,hno⟩
  refine ifd (fun h=>?_) (fun h=>?_)
  ·have w_ := aSo (l := x.args) (i := i) (by omega)
   obtain⟨t,ht⟩:=w_
   have w_:=T.arg hsl ht
   obtain⟨ad,p,hel,hto⟩:=w_
   refine eIn hel ?_
   intro r2
   refine cGv (ih t (mAt ht) hto) ?_
   refine ifd (fun hy=>rGv (isT ((T.hasSym_args s x).2 (.inr ⟨t,mAt ht,hy⟩))) rfl) (fun hy=>?_)
   refine aB (by omega) (by omega) ⟨i+1,⟨by omega,fun j y hj hy2=>?_⟩,by omega,⟨⟨rfl,rfl,rfl,rfl,rfl,trivial⟩,⟨rfl,trivial⟩,rfl,rfl⟩⟩
   rcases Nat.lt_or_ge j i with h6|h6
   ·exact hno j y h6 hy2
   ·obtain rfl : j = i := by omega
    rw[ht]at hy2;cases hy2;exact hy
  ·obtain rfl : i = x.args.length := by omega
   have hn2:¬∃y∈x.args,y.hasSym s:=fun⟨y,hy,h2⟩=>by
    have w_:=List.mem_iff_getElem?.1 hy
    obtain⟨j,hj⟩:=w_
    exact hno j y (List.getElem?_eq_some_iff.1 hj).1 hj h2
   refine ifd (fun h2=>?_) (fun h2=>rGv (isF fun k=>((T.hasSym_args s x).1 k).elim (fun k=>h2 k.1) hn2) rfl)
   refine rGv ?_ rfl
   congr 1
   rw[Bool.eq_iff_iff,decide_eq_true_eq,decide_eq_true_eq]
   exact⟨fun k=>(T.hasSym_args s x).2 (.inl ⟨h2,k⟩),fun k=>((T.hasSym_args s x).1 k).elim (fun k=>k.2) fun k=>absurd k hn2⟩
theorem mV(s:ByteArray):∀(x:T) {v:Value},RepV μ x.tm.d v→aM Tryz.prog 234 [v,.string s] μ (.bool (decide (x.hasSym s))):=
 T.ind fun x ih v hv=>by
  have w_:=T.inv hv
  obtain⟨b1,c1,rfl,hs1⟩:=w_
  refine Spec.mk Tryz.func234 (by kernel_rfl) ?_
  intro r
  refine ifd (fun h4=>?_) (fun h4=>?_)
  ·have w_ := T.kind4 h4
   obtain⟨a,b,rfl⟩:=w_
   have w_:=T.arg hs1 (i:=0) rfl
   obtain⟨ad1,p1,e1,g1⟩:=w_
   have w_:=T.arg hs1 (i:=1) rfl
   obtain⟨ad3,p3,e3,g3⟩:=w_
   refine eIn e1 (cGv (ih a (by simp[T.args]) g1) ?_)
   refine ifd (fun h=>rGv (isT (.inl h)) rfl) (fun h=>?_)
   refine eIn e3 (cGv (ih b (by simp[T.args]) g3) (rGv ?_ rfl))
   congr 1
   rw[Bool.eq_iff_iff,decide_eq_true_eq,decide_eq_true_eq]
   exact⟨.inr,fun k=>k.elim (fun k=>absurd k h) id⟩
  ·have hno:¬∃y∈x.args,y.hasSym s:=fun⟨y,hy,_⟩=>by
    cases x<;>first|(simp[T.args]at hy;done)|exact h4 rfl
   refine ifd (fun h2=>rGv ?_ rfl) (fun h2=>rGv (isF fun k=>((T.hasSym_args s x).1 k).elim (fun k=>h2 k.1) hno) rfl)
   congr 1
   rw[Bool.eq_iff_iff,decide_eq_true_eq,decide_eq_true_eq]
   exact⟨fun k=>(T.hasSym_args s x).2 (.inl ⟨h2,k⟩),fun k=>((T.hasSym_args s x).1 k).elim (fun k=>k.2) fun k=>absurd k hno⟩
end
end Go.Vx
namespace Go.Vx
open Go.Sort
section
variable {α:Type} {lt:α→α→Bool}
theorem vQ(hS:SWO lt){x y:α}(h:lt x y=true):lt y x=false:=by
 cases g:lt y x with
 |false=>rfl
 |true=>have:=hS.trans _ _ _ h g;rw[hS.irrefl]at this;cases this
theorem yT(hS:SWO lt){x y z:α}(h:lt x z=true)(g:lt x y=false):lt y z=true:=by
 cases k:lt y z with
 |true=>rfl
 |false=>have:=hS.ntrans _ _ _ g k;rw[h]at this;cases this
theorem lt_of_not'(hS:SWO lt){x y z:α}(h:lt x z=true)(g:lt y z=false):lt x y=true:=by
 cases k:lt x y with
 |true=>rfl
 |false=>have:=hS.ntrans _ _ _ k g;rw[h]at this;cases this
end
section
variable {α:Type} [Inhabited α] {lt:α→α→Bool} {d c R:Array α}
structure Sw (a b n:Nat) (d d':Array α):Prop where
 size:d'.size=d.size
 fst:∀t,t<n→d'[a+t]! =d[b+t]!
 snd:∀t,t<n→d'[b+t]! =d[a+t]!
 out:∀k,k<a∨a+n≤k→k<b∨b+n≤k→d'[k]! =d[k]!
theorem Sw.nil(a b:Nat)(d:Array α):Sw a b 0 d d:=⟨rfl,fun t h=>by omega,fun t h=>by omega,fun _ _ _=>rfl⟩
theorem Sw.step{a b n:Nat}(h:Sw a b n d c)(h1:a+n<b)(h2:b+n<d.size):Sw a b (n+1) d (swp c (a+n) (b+n)):=by
 have g:∀k,(swp c (a+n) (b+n))[k]! =if k=b+n then c[a+n]! else if k=a+n then c[b+n]! else c[k]!:=fun k=>swp_get c (by rw[h.size];omega) (by rw[h.size];omega) k
 refine⟨by rw[Go.Sort.swp_size,h.size],fun t ht=>?_,fun t ht=>?_,fun k hk1 hk2=>?_⟩
 ·rw [g, if_neg (by omega)]
  by_cases e:t=n
  ·subst e;rw[if_pos rfl,h.out _ (by omega) (by omega)]
  ·rw[if_neg (by omega),h.fst t (by omega)]
 ·rw [g]
  by_cases e:t=n
  ·subst e;rw[if_pos rfl,h.out _ (by omega) (by omega)]
  ·rw[if_neg (by omega),if_neg (by omega),h.snd t (by omega)]
 ·rw[g,if_neg (by omega),if_neg (by omega),h.out k (by omega) (by omega)]
structure Rot (a m b:Nat) (d d':Array α):Prop where
 size:d'.size=d.size
 out:∀k,k<a∨b≤k→d'[k]! =d[k]!
 lo:∀t,t<b-m→d'[a+t]! =d[m+t]!
 hi:∀t,t<m-a→d'[a+(b-m)+t]! =d[a+t]!
theorem Rot.same{m i:Nat}(hi:i≤m)(s:Sw (m-i) m i d R):Rot (m-i) m (m+i) d R where
 size:=s.size
 out k hk:=s.out k (by omega) (by omega)
 lo t ht:=s.fst t (by omega)
 hi t ht:=by rw[show m-i+(m+i-m)+t=m+t by omega];exact s.snd t (by omega)
theorem Rot.gt{m i j:Nat}(hi:i≤m)(hj:j<i)(s:Sw (m-i) m j d c)(r:Rot (m-(i-j)) m (m+j) c R):Rot (m-i) m (m+j) d R where
 size:=r.size.trans s.size
 out k hk:=by rw[r.out k (by omega),s.out k (by omega) (by omega)]
 lo t ht:=by rw[r.out _ (by omega),s.fst t (by omega)]
 hi t ht:=by
  by_cases h:t<j
  ·have := r.lo t (by omega)
   rw[show m-i+(m+j-m)+t=m-(i-j)+t by omega,this,s.snd t h]
  ·obtain ⟨u, rfl⟩ : ∃ u, t = j + u := ⟨t - j, by omega⟩
   have:=r.hi u (by omega)
   rw[show m-i+(m+j-m)+(j+u)=m-(i-j)+(m+j-m)+u by omega,this,s.out _ (by omega) (by omega),show m-(i-j)+u=m-i+(j+u) by omega]
theorem Rot.ls{m i j:Nat}(hi:i≤m)(hj:i<j)(s:Sw (m-i) (m+j-i) i d c)(r:Rot (m-i) m (m+(j-i)) c R):Rot (m-i) m (m+j) d R where
 size:=r.size.trans s.size
 out k hk:=by rw[r.out k (by omega),s.out k (by omega) (by omega)]
 lo t ht:=by
  by_cases h:t<j-i
  ·rw[r.lo t (by omega),s.out _ (by omega) (by omega)]
  ·obtain ⟨u, rfl⟩ : ∃ u, t = j - i + u := ⟨t - (j - i), by omega⟩
   have:=r.hi u (by omega)
   rw[show m-i+(j-i+u)=m-i+(m+(j-i)-m)+u by omega,this,s.fst u (by omega),show m+j-i+u=m+(j-i+u) by omega]
 hi t ht:=by
  rw[show m-i+(m+j-m)+t=m+j-i+t by omega,r.out _ (by omega),s.snd t (by omega)]
section
variable {s m e:Nat}
theorem Rot.at1(r:Rot s m e d R){k:Nat}(h:k<s):R[k]! =d[k]!:=r.out k (.inl h)
theorem Rot.at2(r:Rot s m e d R){k:Nat}(h:s≤k)(h2:k<s+(e-m)):R[k]! =d[m+(k-s)]!:=by
 have:=r.lo (k-s) (by omega)
 rwa [show s+(k-s)=k by omega]at this
theorem Rot.at3(r:Rot s m e d R){k:Nat}(hm:m≤e)(h:s+(e-m)≤k)(h2:k<e)(hs:s≤m):R[k]! =d[s+(k-(s+(e-m)))]!:=by
 have:=r.hi (k-(s+(e-m))) (by omega)
 rwa [show s+(e-m)+(k-(s+(e-m)))=k by omega]at this
theorem Rot.at4(r:Rot s m e d R){k:Nat}(h:e≤k):R[k]! =d[k]!:=r.out k (.inr h)
def Split(lt:α→α→Bool)(a q b:Nat)(d:Array α):Prop:=∀x y,a≤x→x<q→q≤y→y<b→lt d[y]! d[x]! =false
theorem aE{a q b:Nat}(h1:SortedIn lt a q d)(h2:SortedIn lt q b d)(h:Split lt a q b d):SortedIn lt a b d:=fun i j hi hij hj=>by
 by_cases h3:j<q
 ·exact h1 i j hi hij h3
 ·by_cases h4 : i < q
  ·exact h i j hi h4 (by omega) hj
  ·exact h2 i j (by omega) hij hj
structure Cut (lt:α→α→Bool) (a s m e b:Nat) (d:Array α):Prop where
 sa:a≤s
 sm:s≤m
 me:m≤e
 eb:e≤b
 lo:∀x y,a≤x→x<s→e≤y→y<b→lt d[y]! d[x]! =false
 hi:∀x y,s≤x→x<m→m≤y→y<e→lt d[x]! d[y]! =false
theorem Cut.split{a b:Nat}(k:Cut lt a s m e b d)(h1:SortedIn lt a m d)(h2:SortedIn lt m b d)(r:Rot s m e d R):Split lt a (s+(e-m)) b R:=fun x y hx hxq hy hyb=>by
 have:=k.sa;have:=k.sm;have:=k.me;have:=k.eb
 by_cases g1:x<s
 ·rw [r.at1 g1]
  by_cases g2:y<e
  ·rw[r.at3 k.me hy g2 k.sm];exact h1 _ _ hx (by omega) (by omega)
  ·rw[r.at4 (by omega)];exact k.lo _ _ hx g1 (by omega) hyb
 ·rw [r.at2 (by omega) hxq]
  by_cases g2:y<e
  ·rw[r.at3 k.me hy g2 k.sm];exact k.hi _ _ (by omega) (by omega) (by omega) (by omega)
  ·rw[r.at4 (by omega)];exact h2 _ _ (by omega) (by omega) hyb
theorem Rot.s1{a:Nat}(r:Rot s m e d R)(h1:SortedIn lt a m d)(hs:s≤m):SortedIn lt a s R:=fun i j hi hij hj=>by
 rw[r.at1 hj,r.at1 (by omega)];exact h1 _ _ hi hij (by omega)
theorem Rot.s2{b:Nat}(r:Rot s m e d R)(h2:SortedIn lt m b d)(he:e≤b)(hm:m≤e):SortedIn lt s (s+(e-m)) R:=fun i j hi hij hj=>by
 rw[r.at2 (by omega) hj,r.at2 hi (by omega)];exact h2 _ _ (by omega) (by omega) (by omega)
theorem Rot.s3{a:Nat}(r:Rot s m e d R)(h1:SortedIn lt a m d)(ha:a≤s)(hs:s≤m)(hm:m≤e):SortedIn lt (s+(e-m)) e R:=fun i j hi hij hj=>by
 rw[r.at3 hm (by omega) hj hs,r.at3 hm hi (by omega) hs];exact h1 _ _ (by omega) (by omega) (by omega)
theorem Rot.s4{b:Nat}(r:Rot s m e d R)(h2:SortedIn lt m b d)(hm:m≤e):SortedIn lt e b R:=fun i j hi hij hj=>by
 rw[r.at4 (by omega),r.at4 (by omega)];exact h2 _ _ (by omega) hij hj
theorem Rot.up{a i:Nat}(h:Rot a (a+1) (i+1) d c)(ha:a≤i)(hi:i+1<d.size):Rot a (a+1) (i+2) d (swp c i (i+1)):=by
 have g:∀k,(swp c i (i+1))[k]! =if k=i+1 then c[i]! else if k=i then c[i+1]! else c[k]!:=fun k=>swp_get c (by rw[h.size];omega) (by rw[h.size];omega) k
 refine⟨by rw[Go.Sort.swp_size,h.size],fun k hk=>?_,fun t ht=>?_,fun t ht=>?_⟩
 ·rw[g,if_neg (by omega),if_neg (by omega),h.out k (by omega)]
 ·rw [g, if_neg (by omega)]
  by_cases e:a+t=i
  ·rw[if_pos e,h.out _ (by omega),show a+1+t=i+1 by omega]
  ·rw[if_neg e,h.lo t (by omega)]
 ·obtain rfl : t = 0 := by omega
  rw[g,if_pos (by omega)]
  have:=h.hi 0 (by omega)
  rwa [show a+(i+1-(a+1))+0=i by omega]at this
theorem Rot.up0(a:Nat)(d:Array α):Rot a (a+1) (a+1) d d:=⟨rfl,fun _ _=>rfl,fun t h=>by omega,fun t h=>by congr 1;omega⟩
theorem Rot.down{k m:Nat}(h:Rot (k+1) m (m+1) d c)(hk:k<m)(hm:m<d.size):Rot k m (m+1) d (swp c (k+1) k):=by
 have g:∀x,(swp c (k+1) k)[x]! =if x=k then c[k+1]! else if x=k+1 then c[k]! else c[x]!:=fun x=>swp_get c (by rw[h.size];omega) (by rw[h.size];omega) x
 refine⟨by rw[Go.Sort.swp_size,h.size],fun x hx=>?_,fun t ht=>?_,fun t ht=>?_⟩
 ·rw[g,if_neg (by omega),if_neg (by omega),h.out x (by omega)]
 ·obtain rfl : t = 0 := by omega
  rw[g,if_pos (by omega)]
  have:=h.lo 0 (by omega)
  rwa [show k+1+0=k+1 by omega]at this
 ·rw [g, if_neg (by omega)]
  cases t with
  |zero=>rw[if_pos (by omega),h.out _ (by omega)];congr 1
  |succ t=>
   rw[if_neg (by omega)]
   have:=h.hi t (by omega)
   rw[show k+(m+1-m)+(t+1)=k+1+(m+1-m)+t by omega,this,show k+1+t=k+(t+1) by omega]
theorem Rot.down0(m:Nat)(d:Array α):Rot m m (m+1) d d:=⟨rfl,fun _ _=>rfl,fun t h=>by congr 1,fun t h=>by omega⟩
end
end
end Go.Vx
namespace Go.Vx
open Go.Proofs Classical
theorem Ord3.swo{α:Type}{c:α→α→Int}(h:Ord3 c):Go.Sort.SWO fun x y=>decide (c x y<0) where
 irrefl x:=by have:=(h.zero x x).2 rfl;simp;omega
 trans x y z h1 h2:=by
  simp only[decide_eq_true_eq]at*
  exact h.trans _ _ _ h1 h2
 ntrans x y z h1 h2:=by
  simp only[decide_eq_false_iff_not]at*
  intro h3
  by_cases e:x=y
  ·subst e;exact h2 h3
  ·by_cases e2 : y = z
   ·subst e2;exact h1 h3
   ·have a1 := h.anti x y; have a2 := h.anti y x; have z1 := h.zero x y; have z2 := h.zero y x
    have b1:=h.anti y z;have b2:=h.anti z y;have w1:=h.zero y z;have w2:=h.zero z y
    have p1:c x y≠0:=fun k=>e (z1.1 k)
    have p2:c y z≠0:=fun k=>e2 (w1.1 k)
    have q1:c y x<0:=a2.2 (by omega)
    have q2:c z y<0:=b2.2 (by omega)
    have q3:=h.trans _ _ _ q2 q1
    have a3:=h.anti x z
    omega
end Go.Vx
namespace Go.Vx
open Go.Proofs Classical
section
variable {α:Type} {c:α→α→Int}
theorem Ord3.ne_comm(h:Ord3 c){x y:α}(h2:c x y≠0):c y x≠0:=fun k=>h2 ((h.zero _ _).2 ((h.zero _ _).1 k).symm)
theorem Ord3.le_lt(h:Ord3 c){x y z:α}(h1:¬c y x<0)(h2:c y z<0):c x z<0:=by
 by_cases e:c y x=0
 ·rw[←(h.zero _ _).1 e];exact h2
 ·exact h.trans _ _ _ (h.ge_pos h1 e) h2
theorem Asc3.take_lt(h:Ord3 c){l:List α}(hl:Asc3 c l){k:Nat}{y e:α}(hy:l[k]? =some y)(hc:c y e<0):∀x∈l.take (k+1),c x e<0:=by
 rw[List.take_add_one,hy,Option.toList_some]
 intro x hx
 rcases List.mem_append.1 hx with hx|hx
 ·rw [Asc3, ← List.take_append_drop k l, List.pairwise_append] at hl
  exact h.trans _ _ _ (hl.2.2 x hx y (by rw[bR hy];simp)) hc
 ·rw[List.mem_singleton.1 hx];exact hc
theorem Asc3.drop_gt(h:Ord3 c){l:List α}(hl:Asc3 c l){k:Nat}{y e:α}(hy:l[k]? =some y)(hc:c e y<0):∀x∈l.drop k,c e x<0:=by
 rw[bR hy]
 intro x hx
 rcases List.mem_cons.1 hx with rfl|hx
 ·exact hc
 ·rw [Asc3, ← List.take_append_drop k l, List.pairwise_append, bR hy, List.pairwise_cons] at hl
  exact h.trans _ _ _ hc (hl.2.1.1 x hx)
theorem qBb(h:Ord3 c){l m:List α}(hm:Asc3 c m)(e:∀x,x∈m↔x∈l):m=qLy h l:=hm.uniq h (uL h l) fun x=>by rw[e,nY]
end
end Go.Vx
namespace Go.Vx
open Go.Proofs Classical
open Go.Sort
abbrev vB(lf sf:FuncId)(lb sb:List Value):Value:= .agg #[.func (.func lf) #[] lb.toArray,.func (.func sf) #[] sb.toArray]
abbrev oF(r:Nat)(lf sf:FuncId)(lb sb:List Value):List (Nat×Option LB):=[(0,some (.cells r [.val (.func (.func lf) #[] lb.toArray),.val (.func (.func sf) #[] sb.toArray)] 211))]
structure SortBy {α:Type} [Inhabited α] (lf sf:FuncId) (lb sb:List Value) (n:Nat) (lt:α→α→Bool) (μ0:Mem) (J:Array α→Mem) (V:Array α→Prop):Prop where
 max:n≤1000000000000
 size:∀{d},V d→d.size=n
 sw:∀{d:Array α} {i j:Nat},V d→i<n→j<n→V (swp d i j)
 dom:∀{d d':Array α} {b:Nat},V d→V d'→J d b=none→J d' b=none
 less:∀{μ:Mem} {d:Array α} {i j:Nat},μ0.Le μ→V d→i<n→j<n→SpecH Tryz.prog lf (.int .i64 i:: .int .i64 j::lb) μ (J d) fun v μ' h'=>v= .bool (lt d[i]! d[j]!)∧μ'=μ∧h'=J d
 swap:∀{μ:Mem} {d:Array α} {i j:Nat},μ0.Le μ→V d→i<n→j<n→SpecH Tryz.prog sf (.int .i64 i:: .int .i64 j::sb) μ (J d) fun v μ' h'=>v= .tuple #[]∧μ'=μ∧h'=J (swp d i j)
section
variable {α:Type} [Inhabited α] {lf sf:FuncId} {lb sb:List Value} {n:Nat} {lt:α→α→Bool} {μ0:Mem} {J:Array α→Mem} {V:Array α→Prop} {μ:Mem} {d:Array α}
theorem iY(H:SortBy lf sf lb sb n lt μ0 J V){a b:Nat}(hle:μ0.Le μ)(hV:V d)(ha:a≤b)(hb:b≤n):
  SpecH Tryz.prog 244 [vB lf sf lb sb,.int .i64 a,.int .i64 b] μ (J d) fun v μ' h'=>v= .tuple #[]∧μ'=μ∧h'=J (insertionSort lt d a b)∧V (insertionSort lt d a b):=by
 have hn:=H.max
 refine SpecH.mk [] Tryz.func244 (by kernel_rfl) ?_
 intro r1
 rw[insertionSort]
 generalize hD:insOuter lt a b (a+1) d=D
 refine nEq (x:=((a+1:Nat):Int)) (by rw[aA (by omega) (by omega)];omega) ?_
 refine lIn (fun p:Nat×Array α=>a+1≤p.1∧p.1≤max b (a+1)∧V p.2∧insOuter lt a b p.1 p.2=D)
  (fun(i,d)=>⟨[(1,.val (.int .i64 a)),(2,.val (.int .i64 b)),(3,.loc 0 r1 0),(6,.val (.int .i64 i))],oF r1 lf sf lb sb,1,μ,J d⟩) (fun p=>b-p.1)
  (a+1,d) ⟨by omega,by omega,hV,hD⟩ (fun(_,_)=>⟨rfl,rfl⟩) ⟨⟨rfl,rfl,rfl,rfl,trivial⟩,⟨rfl,trivial⟩,rfl,rfl⟩ ?_
 rintro⟨i,d1⟩ ⟨hi1,hi2,hs,hJ⟩
 dsimp only at hi1 hi2 hs hJ
 rw[insOuter]at hJ
 refine ifd (fun h=>?_) (fun h=>?_)
 ·rw [if_pos (by omega)] at hJ
  refine lIn (fun p:Nat×Array α=>p.1<n∧V p.2∧insInner lt a p.1 p.2=insInner lt a i d1)
   (fun(j,d)=>⟨[(1,.val (.int .i64 a)),(2,.val (.int .i64 b)),(3,.loc 0 r1 0),(6,.val (.int .i64 i)),(7,.val (.int .i64 j))],oF r1 lf sf lb sb,1,μ,J d⟩) (fun p=>p.1)
   (i,d1) ⟨by omega,hs,rfl⟩ (fun(_,_)=>⟨rfl,rfl⟩) ⟨⟨rfl,rfl,rfl,rfl,rfl,trivial⟩,⟨rfl,trivial⟩,rfl,rfl⟩ ?_
  rintro⟨j,d2⟩ ⟨hj,hs2,hJ2⟩
  dsimp only at hj hs2 hJ2
  refine ifd (fun hja=>?_) (fun hja=>?_)
  ·obtain ⟨j, rfl⟩ : ∃ k, j = k + 1 := ⟨j - 1, by omega⟩
   rw[insInner]at hJ2
   refine nEq (x:=((j:Nat):Int)) (by rw[aA (by omega) (by omega)];omega) ?_
   refine cOw (H.less hle hs2 (i:=j+1) (j:=j) (by omega) (by omega)) fun v μ' h' hle' hap hR=>?_
   obtain⟨rfl,e2,rfl⟩:=hR
   obtain rfl:=e2.symm
   clear hle' hap
   have g:decide (j+1>a)=true:=decide_eq_true (by omega)
   refine iIn (fun hl=>?_) (fun hl=>?_)
   ·rw [g, hl, Bool.and_self, if_pos rfl] at hJ2
    refine nEq (x:=((j:Nat):Int)) (by rw[aA (by omega) (by omega)];omega) ?_
    refine cOw (H.swap hle hs2 (i:=j+1) (j:=j) (by omega) (by omega)) fun v μ' h' hle' hap hR=>?_
    obtain⟨rfl,e2,rfl⟩:=hR
    obtain rfl:=e2.symm
    clear hle' hap
    refine nEq (x:=((j:Nat):Int)) (by rw[aA (by omega) (by omega)];omega) ?_
    exact⟨(j,swp d2 (j+1) j),⟨by dsimp only;omega,H.sw hs2 (by omega) (by omega),hJ2⟩,by dsimp only;omega,⟨⟨rfl,rfl,rfl,rfl,rfl,trivial⟩,⟨rfl,trivial⟩,rfl,rfl⟩⟩
   ·rw [hl, Bool.and_false, if_neg (by simp)] at hJ2
    exact aB (by omega) (by omega) ⟨(i+1,d2),⟨by dsimp only;omega,by dsimp only;omega,hs2,by dsimp only;rw[hJ2];exact hJ⟩,by dsimp only;omega,⟨⟨rfl,rfl,rfl,rfl,trivial⟩,⟨rfl,trivial⟩,rfl,rfl⟩⟩
  ·have hJ3:insInner lt a j d2=d2:=by
    cases j with
    |zero=>rfl
    |succ j=>rw[insInner,if_neg];simp;omega
   rw[hJ3]at hJ2
   exact aB (by omega) (by omega) ⟨(i+1,d2),⟨by dsimp only;omega,by dsimp only;omega,hs2,by dsimp only;rw[hJ2];exact hJ⟩,by dsimp only;omega,⟨⟨rfl,rfl,rfl,rfl,trivial⟩,⟨rfl,trivial⟩,rfl,rfl⟩⟩
 ·rw [if_neg (by omega)] at hJ
  subst hJ
  exact rPl ⟨rfl,rfl,rfl,hs⟩
end
end Go.Vx
namespace Go.Vx
open Go.Proofs Classical
open Go.Sort
open Go.Extern Go.Extern.Rtype Go.RowKit Go.Lib
section
variable {P:Program} {f:FuncId} {args:List Value} {μ h0:Mem}
theorem SpecH.ext{R:Value→Mem→Mem→Prop}(h:∀w,Holds μ w→Holds h0 w→Apart μ h0→∃v w' μ' h',(callFunc f args.toArray).run P w= .ok (.value v) w'∧R v μ' h'∧Step μ h0 w μ' h' w'):SpecH P f args μ h0 R:=
 ⟨trivial, fun w h1 h2 h3 => by
  have w_:=h w h1 h2 h3
  obtain⟨v,w',μ',h',e,hr,hS⟩:=w_
  exact .inr ⟨v,w',e,v,μ',h',rfl,hr,hS⟩⟩
theorem Step.same{w:World}(h1:Holds μ w)(h2:Holds h0 w)(h3:Apart μ h0):Step μ h0 w μ h0 w:=
 ⟨Mem.Le.refl _,h1,h2,h3,fun _b h h'=>absurd h h',fun _b h=> .inr h,Nat.le_refl _,fun _ _ _=>rfl,rfl,rfl,rfl⟩
theorem Step.row{w:World}{r:Nat}{cs cs':Array Value}{ty:TypeId}(h1:Holds μ w)(h2:Holds h0 w)(h3:Apart μ h0)(hr:h0 r=some (.cells cs ty (0,0))):Step μ h0 w μ (h0.set r (.cells cs' ty (0,0))) (w.setRow r cs'):=by
 have hne:∀b,μ b≠none→b≠r:=fun b hb e=>by
  subst e;rw[h3 b hb]at hr;cases hr
 have hg:w.heap[r]? =some (.cells cs ty (0,0)):=h2 _ _ hr
 refine⟨Mem.Le.refl _,fun b o hb=>?_,fun b o hb=>?_,fun b hb=>?_,fun b h h'=>absurd h h',fun b h=>?_,by simp,fun b _ hb=>setRow_other w r b _ fun e=>?_,rfl,rfl,rfl⟩
 ·rw[setRow_other w r b _ (hne b (by simp[hb]))];exact h1 b o hb
 ·rw [Mem.set_get] at hb
  split at hb
  ·rename_i e;subst e;cases hb;rw[setRow_heap w b _ _ ty (0,0) hg]
  ·rename_i e;rw[setRow_other w r b _ e];exact h2 b o hb
 ·rw[Mem.set_ne (hne b hb)];exact h3 b hb
 ·by_cases e : b = r
  ·subst e;exact .inr (by rw[hr];simp)
  ·rw[Mem.set_ne e]at h;exact .inr h
 ·subst e;rw[hr]at hb;cases hb
theorem Step.alloc{w:World}{o:Obj}(h1:Holds μ w)(h2:Holds h0 w)(h3:Apart μ h0):Step μ h0 w (μ.set w.heap.size o) h0 (w.alloc o)∧μ w.heap.size=none:=by
 have hlt:∀b o,w.heap[b]? =some o→b<w.heap.size:=fun b o h=>(Array.getElem?_eq_some_iff.1 h).1
 have hm:μ w.heap.size=none:=by
  cases e:μ w.heap.size with
  |none=>rfl
  |some o=>have:=hlt _ _ (h1 _ _ e);omega
 have hh:h0 w.heap.size=none:=by
  cases e:h0 w.heap.size with
  |none=>rfl
  |some o=>have:=hlt _ _ (h2 _ _ e);omega
 have hk:∀b,b<w.heap.size→(w.alloc o).heap[b]? =w.heap[b]?:=fun b hb=>by
  show(w.heap.push o)[b]? =_
  rw[Array.getElem?_push,if_neg (by omega)]
 refine⟨⟨fun b x hb=>?_,fun b x hb=>?_,fun b x hb=>?_,fun b hb=>?_,fun b h h'=>?_,fun b h=> .inr h,by show w.heap.size≤(w.heap.push o).size;simp,fun b hb _=>hk b hb,rfl,rfl,rfl⟩,hm⟩
 ·rw[Mem.set_ne (fun e=>by subst e;rw[hm]at hb;cases hb)];exact hb
 ·rw [Mem.set_get] at hb
  split at hb
  ·rename_i e;subst e;cases hb;show(w.heap.push o)[w.heap.size]? =some o;simp
  ·rw[hk b (hlt _ _ (h1 _ _ hb))];exact h1 _ _ hb
 ·rw[hk b (hlt _ _ (h2 _ _ hb))];exact h2 _ _ hb
 ·rw [Mem.set_get] at hb
  split at hb
  ·rename_i e;subst e;exact hh
  ·exact h3 b hb
 ·rw [Mem.set_get] at h'
  split at h'
  ·rename_i e;subst e;exact .inl (Nat.le_refl _)
  ·exact absurd h h'
end
structure SlTy (t e:TypeId) (i ie:TypeInfo) (ke:Nat):Prop where
 hi:Tryz.prog.info? t=some i
 hd:i.desc= .slice e
 pk:Tryz.prog.packed t=false
 hie:Tryz.prog.info? e=some ie
 hke:∀w,(Extern.Rtype.kind e).run Tryz.prog w= .ok ke w
 h9:swapperK 2 ie ke=9
theorem SlTy.nine{t e:TypeId}{i ie:TypeInfo}{ke:Nat}(T:SlTy t e i ie ke){n:Nat}(h:2≤n):swapperK n ie ke=9:=by
 rw[←T.h9]
 unfold swapperK
 have h0:(n==0)=false:=by simp;omega
 have h1:(n==1)=false:=by simp;omega
 have h2:((2:Nat)==0)=false:=rfl
 have h3:((2:Nat)==1)=false:=rfl
 simp only[h0,h1,h2,h3]
section
variable {μ:Mem}
theorem qAn{t e:TypeId}{i ie:TypeInfo}{ke:Nat}(T:SlTy t e i ie ke)(p:Option Addr)(n c:Nat):Spec Tryz.prog 195 [.iface t (.slice p n c)] μ fun v μ'=>∃r,v= .agg #[typeHandle Tryz.prog t,.pointer (some ⟨r,0,none⟩),.int .u64 151]∧μ' r=some (.cells #[.slice p n c] t (0,0)):=by
 refine SpecH.ext fun w h1 h2 h3=>?_
 have hv:=run_valueOf_slice (P:=Tryz.prog) t e i T.hi T.hd p n c w
 refine⟨_,_,_,_,?_,⟨w.heap.size,rfl,Mem.set_at _ _ _⟩,(Step.alloc h1 h2 h3).1⟩
 rw[run_callFunc_extern Tryz.func195 (by kernel_rfl) (by kernel_rfl) (by kernel_rfl) (e:=fun args=>Extern.ReflectliteValue.unpack (args.getD 0 (.tuple #[]))) (by kernel_rfl),
  show Sem.run Tryz.prog ((fun args:Array Value=>Extern.ReflectliteValue.unpack (args.getD 0 (.tuple #[]))) #[.iface t (.slice p n c)]) w=_ from hv]
 rfl
theorem xZ{t e:TypeId}{i ie:TypeInfo}{ke:Nat}(T:SlTy t e i ie ke){p:Option Addr}{n c r:Nat}(hr:μ r=some (.cells #[.slice p n c] t (0,0))):aM Tryz.prog 198 [.agg #[typeHandle Tryz.prog t,.pointer (some ⟨r,0,none⟩),.int .u64 151]] μ (.int .i64 n):=by
 refine SpecH.ext fun w h1 h2 h3=>?_
 have hc:w.cell? ⟨r,0,none⟩=some (.slice p n c):=by simp[World.cell?,h1 _ _ hr]
 have hl:=run_valueLen_slice (P:=Tryz.prog) t e i T.hi T.hd T.pk ⟨r,0,none⟩ p n c w hc
 refine⟨_,_,_,_,?_,⟨rfl,rfl⟩,Step.same h1 h2 h3⟩
 rw[run_callFunc_extern Tryz.func198 (by kernel_rfl) (by kernel_rfl) (by kernel_rfl) (e:=Extern.ReflectliteValue.method (Extern.ReflectliteValue.valueError "reflectlite.Value.Len" 0) Extern.ReflectliteValue.len) (by kernel_rfl),hl]
 rfl
theorem qAl{t e:TypeId}{i ie:TypeInfo}{ke:Nat}(T:SlTy t e i ie ke)(p:Option Addr){n:Nat}(c:Nat):∃(k:FuncId) (bs:List Value),(2≤n→k=243∧bs=[.slice p n c,typeHandle Tryz.prog e])∧aM Tryz.prog 196 [.iface t (.slice p n c)] μ (.func (.func k) #[] bs.toArray):=by
 have go:∀(f:Nat) (bs:List Value),Tryz.prog.funcs.findIdx? (·.name== "internal/reflectlite" ++ ".Swapper$" ++toString (swapperK n ie ke))=some f→(if swapperK n ie ke≤2 then(#[]:Array Value)else #[.slice p n c,typeHandle Tryz.prog e])=bs.toArray→
   aM Tryz.prog 196 [.iface t (.slice p n c)] μ (.func (.func f) #[] bs.toArray):=fun f bs hf hbs=>by
  refine SpecH.ext fun w h1 h2 h3=>?_
  have hs:=run_swapper_slice (P:=Tryz.prog) t e i ie T.hi T.hd T.hie ke T.hke p n c f hf w
  rw[hbs]at hs
  refine⟨_,_,_,_,?_,⟨rfl,rfl⟩,Step.same h1 h2 h3⟩
  rw[run_callFunc_extern Tryz.func196 (by kernel_rfl) (by kernel_rfl) (by kernel_rfl) (e:=Extern.ReflectliteSwapper.swapper "internal/reflectlite" (Extern.ReflectliteValue.valueError "Swapper")) (by kernel_rfl),hs]
  rfl
 by_cases h2:2≤n
 ·refine ⟨243, [.slice p n c, typeHandle Tryz.prog e], fun _ => ⟨rfl, rfl⟩, go _ _ ?_ ?_⟩
  ·rw[T.nine h2];kernel_rfl
  ·rw[T.nine h2];rfl
 ·by_cases h0 : n = 0
  ·subst h0
   refine⟨235,[],fun h=>by omega,go _ _ ?_ ?_⟩
   ·have : swapperK 0 ie ke = 1 := rfl
    have e:Tryz.prog.funcs.findIdx? (·.name== "internal/reflectlite" ++ ".Swapper$" ++toString (1:Nat))=some 235:=by kernel_rfl
    rw[this];exact e
   ·rfl
  ·obtain rfl : n = 1 := by omega
   refine⟨236,[],fun h=>by omega,go _ _ ?_ ?_⟩
   ·have : swapperK 1 ie ke = 2 := rfl
    have e:Tryz.prog.funcs.findIdx? (·.name== "internal/reflectlite" ++ ".Swapper$" ++toString (2:Nat))=some 236:=by kernel_rfl
    rw[this];exact e
   ·rfl
end
end Go.Vx
namespace Go.Vx
open Go.Proofs Classical
open Go.Sort
open Go.Extern Go.Extern.Rtype Go.RowKit Go.Lib
def RowV(h0:Mem)(r:Nat)(ty:TypeId)(rest:List Value)(d:Array Value):Mem:=h0.set r (.cells (List.toArray (d.toList.flatMap aD++rest)) ty (0,0))
def Els(es:Nat)(d:Array Value):Prop:=∀x∈d.toList,(aD x).length=es∧∀u∈aD x,u.oneCell'=true
theorem vC{es:Nat}:∀{l:List Value},(∀y∈l,(aD y).length=es)→∀{i:Nat},i<l.length→∀{y:Value},(aD y).length=es→∀rest:List Value,
  (l.flatMap aD++rest).take (i*es)++aD y++(l.flatMap aD++rest).drop (i*es+es)=(l.set i y).flatMap aD++rest
 |[],_,i,hi,_,_,_=>by simp at hi
 |z::r,hl,0,_,y,hy,rest=>by
  have hz:=hl z (by simp)
  simp only[Nat.zero_mul,List.take_zero,List.nil_append,Nat.zero_add,List.set_cons_zero,List.flatMap_cons,List.append_assoc]
  rw[←hz,List.drop_left]
 |z::r,hl,i+1,hi,y,hy,rest=>by
  have hz:=hl z (by simp)
  have ih:=vC (l:=r) (fun y h=>hl y (List.mem_cons_of_mem _ h)) (i:=i) (by simpa using hi) hy rest
  simp only[List.set_cons_succ,List.flatMap_cons,List.append_assoc]at ih ⊢
  have e1:(i+1)*es=(aD z).length+i*es:=by rw[hz,Nat.add_mul,Nat.one_mul,Nat.add_comm]
  rw[e1,List.take_length_add_append,Nat.add_assoc,List.drop_length_add_append,List.append_assoc,ih]
theorem zJ{d:Array Value}{k:Nat}(h:k<d.size):d.toList[k]? =some d[k]!:=by
 rw[Array.getElem?_toList,getElem!_pos d k h,Array.getElem?_eq_getElem h]
theorem uW{d:Array Value}{k:Nat}(h:k<d.size):d[k]!∈d.toList:=List.mem_of_getElem? (zJ h)
theorem Els.perm{es n:Nat}{d d':Array Value}(hn:d.size=n)(h:Els es d)(p:PermIn 0 n d d'):Els es d':=fun x hx=>by
 have w_:=List.mem_iff_getElem?.1 hx
 obtain⟨i,hi⟩:=w_
 have hi2:i<d'.size:=by have:=(List.getElem?_eq_some_iff.1 hi).1;simpa using this
 rw[zJ hi2]at hi
 cases hi
 exact permIn_all d d' 0 n (fun x=>(aD x).length=es∧∀u∈aD x,u.oneCell'=true) (by omega) p (fun j _ hj=>h _ (uW (by omega))) i (by omega) (by rw[p.1]at hi2;omega)
section
variable {P:Program} {μ h0:Mem} {r:Nat} {ty:TypeId} {rest:List Value} {d:Array Value} {es:Nat}
theorem RowV.cell(hE:Els es d){i c:Nat}{v:Value}(hi:i<d.size)(hv:(aD d[i]!)[c]? =some v):(RowV h0 r ty rest d).cell ⟨r,i*es+c,none⟩=some v:=by
 have h:=qFl (fun y hy=>(hE y hy).1) (zJ hi) hv
 simp only[Mem.cell,RowV,Mem.set_at,Option.isSome_none]
 have h2:=(List.getElem?_eq_some_iff.1 h).1
 simp only[List.getElem?_toArray]
 rw[List.getElem?_append_left h2,h]
 rfl
theorem qBt{e:TypeId}{ti:TI}(hti:TIok P e ti)(w:World)(a:Addr)(x:Value)(hl:(aD x).length=ti.size)(h:∀j v,(aD x)[j]? =some v→w.cell? (a.add j)=some v)(h1:ti.agg=false→ti.size=1)(h2:∀u∈aD x,u.oneCell'=true):
  ∃y,(loadVar e a).run P w= .ok y w∧aD y=aD x:=by
 have hr:=iQ hti w a (aD x) hl h h1
 refine⟨_,hr,?_⟩
 cases hg:ti.agg with
 |true=>simp[aD]
 |false=>
  rw[h1 hg]at hl
  match hc:aD x,hl with
  |[u],_=>
   have:=h2 u (by rw[hc];simp)
   simp only[Bool.false_eq_true,if_false,List.getD_cons_zero]
   cases u<;>first|rfl|(simp[Value.oneCell']at this)
theorem qEq{e:TypeId}{ti:TI}(hti:TIok Tryz.prog e ti)(h1:ti.agg=false→ti.size=1)(hE:Els ti.size d){n cap i j:Nat}(hd:d.size=n)(hi:i<n)(hj:j<n):
  SpecH Tryz.prog 243 [.int .i64 i,.int .i64 j,.slice (some ⟨r,0,none⟩) n cap,typeHandle Tryz.prog e] μ (RowV h0 r ty rest d) fun v μ' h'=>v= .tuple #[]∧μ'=μ∧h'=RowV h0 r ty rest (swp d i j):=by
 refine SpecH.ext fun w hm hh ha=>?_
 subst hd
 have hX:=hE _ (uW hi)
 have hY:=hE _ (uW hj)
 have hcell:∀k,k<d.size→∀c v,(aD d[k]!)[c]? =some v→w.cell? ((⟨r,k*ti.size,none⟩:Addr).add c)=some v:=fun k hk c v hv=>by
  rw[Addr.add_lit'];exact hh.cell (RowV.cell hE hk hv)
 have w_:=qBt hti w ⟨r,i*ti.size,none⟩ d[i]! hX.1 (hcell i hi) h1 hX.2
 obtain⟨X,l1,eX⟩:=w_
 have w_:=qBt hti w ⟨r,j*ti.size,none⟩ d[j]! hY.1 (hcell j hj) h1 hY.2
 obtain⟨Y,l2,eY⟩:=w_
 have hb:∀k,k<d.size→k*ti.size+ti.size≤d.size*ti.size:=fun k hk=>by
  have:=Nat.mul_le_mul_right ti.size (show k+1≤d.size from hk);rwa [Nat.add_mul,Nat.one_mul]at this
 have hlen:(d.toList.flatMap aD).length=d.size*ti.size:=by rw[eP _ fun y hy=>(hE y hy).1];simp
 have hg:w.heap[r]? =some (.cells (List.toArray (d.toList.flatMap aD++rest)) ty (0,0)):=hh _ _ (Mem.set_at _ _ _)
 have s1:=lV hti w r (i*ti.size) _ ty hg Y (by rw[eY];exact hY.1) (by have:=hb i hi;simp[hlen];omega) (by rw[eY];exact hY.2)
 have e1:=vC (fun y hy=>(hE y hy).1) (l:=d.toList) (i:=i) (by simpa using hi) (y:=d[j]!) hY.1 rest
 rw[eY,hY.1]at s1
 simp only[e1]at s1
 have hE2:∀y∈d.toList.set i d[j]!,(aD y).length=ti.size:=fun y hy=>by
  rcases List.mem_or_eq_of_mem_set hy with h|h
  ·exact(hE y h).1
  ·subst h;exact hY.1
 have hlen2:((d.toList.set i d[j]!).flatMap aD).length=d.size*ti.size:=by rw[eP _ hE2];simp
 have hg2:(w.setRow r (List.toArray ((d.toList.set i d[j]!).flatMap aD++rest))).heap[r]? =some (.cells (List.toArray ((d.toList.set i d[j]!).flatMap aD++rest)) ty (0,0)):=setRow_heap w r _ _ ty (0,0) hg
 have s2:=lV hti _ r (j*ti.size) _ ty hg2 X (by rw[eX];exact hX.1) (by have:=hb j hj;simp[hlen2];omega) (by rw[eX];exact hX.2)
 have e2:=vC hE2 (i:=j) (by simpa using hj) (y:=d[i]!) hX.1 rest
 rw[eX,hX.1]at s2
 simp only[e2]at s2
 have hsw:(d.toList.set i d[j]!).set j d[i]! =(swp d i j).toList:=by rw[swp,Array.toList_setIfInBounds,Array.toList_setIfInBounds]
 rw[hsw]at s2
 have hss:∀z z',(w.setRow r z).setRow r z'=w.setRow r z':=fun z z'=>setRow_setRow w r z z'
 have hS:=Step.row (cs':=List.toArray ((swp d i j).toList.flatMap aD++rest)) hm hh ha (Mem.set_at _ _ _)
 refine⟨.tuple #[],w.setRow r (List.toArray ((swp d i j).toList.flatMap aD++rest)),μ,RowV h0 r ty rest (swp d i j),?_,⟨rfl,rfl,rfl⟩,?_⟩
 rotate_left
 ·rw[RowV,Mem.set_set]at hS;exact hS
 rw[run_callFunc_extern Tryz.func243 (by kernel_rfl) (by kernel_rfl) (by kernel_rfl) (e:=Extern.ReflectliteSwapper.swap false) (by kernel_rfl)]
 show(Sem.run _ (ReflectliteSwapper.swap false #[.int .i64 i,.int .i64 j,.slice (some ⟨r,0,none⟩) d.size cap,typeHandle Tryz.prog e]) w).andThen _=_
 have i0:¬((i:Int)<0):=by omega
 have i1:¬((i:Int)≥d.size):=by omega
 have j0:¬((j:Int)<0):=by omega
 have j1:¬((j:Int)≥d.size):=by omega
 rw[rl_swap]
 simp[i0,i1,j0,j1,ofHandle,handleType,typeHandle,ReflectliteSwapper.exchange,hti.run_sizeOf,Addr.add_lit',l1,l2,s1,s2,hss,Result.andThen]
end
section
variable {μ h0:Mem} {lf sf:FuncId} {lb sb:List Value} {n:Nat}
theorem oI(hn:n≤1):SpecH Tryz.prog 244 [vB lf sf lb sb,.int .i64 0,.int .i64 n] μ h0 fun v μ' h'=>v= .tuple #[]∧μ'=μ∧h'=h0:=by
 refine SpecH.mk [] Tryz.func244 (by kernel_rfl) ?_
 intro r1
 refine nEq (x:=((1:Nat):Int)) (by decide) ?_
 refine lIn (fun i:Nat=>i=1)
  (fun i=>⟨[(1,.val (.int .i64 0)),(2,.val (.int .i64 n)),(3,.loc 0 r1 0),(6,.val (.int .i64 i))],oF r1 lf sf lb sb,1,μ,h0⟩) (fun i=>n-i)
  1 rfl (fun _=>⟨rfl,rfl⟩) ⟨⟨rfl,rfl,rfl,rfl,trivial⟩,⟨rfl,trivial⟩,rfl,rfl⟩ ?_
 rintro i rfl
 refine ifd (fun h=>by omega) (fun h=>?_)
 exact rPl ⟨rfl,rfl,rfl⟩
end
section
variable {α:Type} [Inhabited α] {enc:α→Value} {μ h0:Mem} {r:Nat} {ty t e:TypeId} {i ie:TypeInfo} {ke:Nat} {ti:TI} {rest:List Value} {d0:Array α} {n cap:Nat} {lf:FuncId} {lb:List Value} {lt:α→α→Bool}
theorem oD{d:Array α}{k:Nat}(h:k<d.size):(d.map enc)[k]! =enc d[k]!:=by
 rw[getElem!_pos _ k (by simpa using h),getElem!_pos d k h,Array.getElem_map]
theorem qOo{d:Array α}{a b:Nat}(ha:a<d.size)(hb:b<d.size):(swp d a b).map enc=swp (d.map enc) a b:=by
 unfold swp
 rw[oD hb,oD ha]
 simp
theorem qEi{d d':Array α}(hn:d.size=n)(p:PermIn 0 n d d'):PermIn 0 n (d.map enc) (d'.map enc):=by
 obtain⟨h1,h2,h3⟩:=p
 refine⟨by simp[h1],fun k hk=>?_,?_⟩
 ·have hk2 : n ≤ k := by omega
  rw[getElem!_neg _ k (by simp;omega),getElem!_neg _ k (by simp;omega)]
 ·have e1 : d'.extract 0 n = d' := by rw [← hn, ← h1]; exact Array.extract_size
  have e2:d.extract 0 n=d:=by rw[←hn];exact Array.extract_size
  have e3:(d'.map enc).extract 0 n=d'.map enc:=by rw[←hn,←h1,show d'.size=(d'.map enc).size by simp];exact Array.extract_size
  have e4:(d.map enc).extract 0 n=d.map enc:=by rw[←hn,show d.size=(d.map enc).size by simp];exact Array.extract_size
  rw[e1,e2]at h3
  rw[e3,e4]
  simpa using h3.map enc
theorem tJ{d d':Array α}(hn:d.size=n)(p:PermIn 0 n d d'):d'.toList.Perm d.toList:=by
 obtain⟨h1,h2,h3⟩:=p
 have e1:d'.extract 0 n=d':=by rw[←hn,←h1];exact Array.extract_size
 have e2:d.extract 0 n=d:=by rw[←hn];exact Array.extract_size
 rwa [e1,e2]at h3
theorem SortBy.row(hti:TIok Tryz.prog e ti)(h1:ti.agg=false→ti.size=1)(hE:Els ti.size (d0.map enc))(hn:d0.size=n)(hmax:n≤1000000000000)
  (less:∀{μ':Mem} {d:Array α} {i j:Nat},μ.Le μ'→PermIn 0 n d0 d→i<n→j<n→SpecH Tryz.prog lf (.int .i64 i:: .int .i64 j::lb) μ' (RowV h0 r ty rest (d.map enc)) fun v μ'' h'=>v= .bool (lt d[i]! d[j]!)∧μ''=μ'∧h'=RowV h0 r ty rest (d.map enc)):
  SortBy lf 243 lb [.slice (some ⟨r,0,none⟩) n cap,typeHandle Tryz.prog e] n lt μ (fun d=>RowV h0 r ty rest (d.map enc)) (PermIn 0 n d0) where
 max:=hmax
 size hV:=hV.1.trans hn
 sw hV hi hj:=permIn_trans _ _ _ _ _ hV (swp_permIn _ _ _ _ _ (Nat.zero_le _) hi (Nat.zero_le _) hj (by rw[hV.1,hn];exact Nat.le_refl _))
 dom {d d' b} _ _ hb:=by
  simp only[RowV,Mem.set_get]at hb ⊢
  split at hb
  ·cases hb
  ·rename_i e;rw[if_neg e];exact hb
 less hle hV hi hj:=less hle hV hi hj
 swap {μ d i j} hle hV hi hj:=by
  have hs:d.size=n:=hV.1.trans hn
  have:=qEq (μ:=μ) (h0:=h0) (r:=r) (ty:=ty) (rest:=rest) (cap:=cap) hti h1 (d:=d.map enc) (hE.perm (by simp[hn]) (qEi hn hV)) (by simpa using hs) hi hj
  rwa [←qOo (by omega) (by omega)]at this
end
section
variable {μ h0:Mem} {r:Nat} {ty:TypeId} {rest:List Value} {es:Nat}
theorem rX{n:Nat}{i:Int}{K:Addr→List Value→Prop}{K':Addr→Prop}(k:Nat)(e:i=k)(hk:k<n)(h:K' ⟨r,k*es,none⟩):elemVC μ (some ⟨r,0,none⟩) n es i K K':=by
 subst e
 refine cB ⟨r,0,none⟩ rfl (by omega) (by omega) ?_
 have:(⟨r,0,none⟩:Addr).add ((k:Int).toNat*es)=⟨r,k*es,none⟩:=by rw[Addr.add_lit'];simp
 rw[this];exact h
end
end Go.Vx
namespace Go.Vx
open Go.Proofs Classical
open Go.Sort
section
variable {α:Type} [Inhabited α] {lf sf:FuncId} {lb sb:List Value} {n:Nat} {lt:α→α→Bool} {μ0:Mem} {J:Array α→Mem} {V:Array α→Prop} {μ:Mem} {d:Array α}
theorem iV(H:SortBy lf sf lb sb n lt μ0 J V){a b k:Nat}(hle:μ0.Le μ)(hV:V d)(ha:a+k≤b)(hb:b+k≤n):
  SpecH Tryz.prog 265 [vB lf sf lb sb,.int .i64 a,.int .i64 b,.int .i64 k] μ (J d) fun v μ' h'=>v= .tuple #[]∧μ'=μ∧∃d',Sw a b k d d'∧PermIn a (b+k) d d'∧h'=J d'∧V d':=by
 have hn:=H.max
 refine SpecH.mk [] Tryz.func265 (by kernel_rfl) ?_
 intro r1
 have hs0:=H.size hV
 refine lIn (fun p:Nat×Array α=>p.1≤k∧V p.2∧Sw a b p.1 d p.2∧PermIn a (b+k) d p.2)
  (fun(i,c)=>⟨[(1,.val (.int .i64 a)),(2,.val (.int .i64 b)),(3,.val (.int .i64 k)),(4,.loc 0 r1 0),(8,.val (.int .i64 i))],oF r1 lf sf lb sb,1,μ,J c⟩) (fun p=>k-p.1)
  (0,d) ⟨Nat.zero_le _,hV,Sw.nil _ _ _,permIn_refl _ _ _⟩ (fun(_,_)=>⟨rfl,rfl⟩) ⟨⟨rfl,rfl,rfl,rfl,rfl,trivial⟩,⟨rfl,trivial⟩,rfl,rfl⟩ ?_
 rintro⟨i,c⟩ ⟨hi,hs,hsw,hp⟩
 dsimp only at hi hs hsw hp
 refine ifd (fun h=>?_) (fun h=>?_)
 ·refine nEq (x := ((a + i : Nat) : Int)) (by rw [aA (by omega) (by omega)]; omega) ?_
  refine nEq (x:=((b+i:Nat):Int)) (by rw[aA (by omega) (by omega)];omega) ?_
  refine cOw (H.swap hle hs (i:=a+i) (j:=b+i) (by omega) (by omega)) fun v μ' h' hle' hap hR=>?_
  obtain⟨rfl,e2,rfl⟩:=hR
  obtain rfl:=e2.symm
  clear hle' hap
  refine nEq (x:=((i+1:Nat):Int)) (by rw[aA (by omega) (by omega)];omega) ?_
  exact⟨(i+1,swp c (a+i) (b+i)),⟨by dsimp only;omega,H.sw hs (by omega) (by omega),hsw.step (by omega) (by omega),permIn_trans _ _ _ _ _ hp (swp_permIn _ _ _ _ _ (by omega) (by omega) (by omega) (by omega) (by rw[H.size hs];exact hb))⟩,by dsimp only;omega,⟨⟨rfl,rfl,rfl,rfl,rfl,trivial⟩,⟨rfl,trivial⟩,rfl,rfl⟩⟩
 ·obtain rfl : i = k := by omega
  exact rPl ⟨rfl,rfl,c,hsw,hp,rfl,hs⟩
theorem rO(H:SortBy lf sf lb sb n lt μ0 J V){a m b:Nat}(hle:μ0.Le μ)(hV:V d)(ha:a<m)(hm:m<b)(hb:b≤n):
  SpecH Tryz.prog 261 [vB lf sf lb sb,.int .i64 a,.int .i64 m,.int .i64 b] μ (J d) fun v μ' h'=>v= .tuple #[]∧μ'=μ∧∃d',Rot a m b d d'∧PermIn a b d d'∧h'=J d'∧V d':=by
 have hn:=H.max
 refine SpecH.mk [] Tryz.func261 (by kernel_rfl) ?_
 intro r1
 have hs0:=H.size hV
 refine nEq (x:=((m-a:Nat):Int)) (by rw[aA (by omega) (by omega)];omega) ?_
 refine nEq (x:=((b-m:Nat):Int)) (by rw[aA (by omega) (by omega)];omega) ?_
 refine lIn (fun p:Nat×Nat×Array α=>1≤p.1∧p.1≤m-a∧1≤p.2.1∧p.2.1≤b-m∧V p.2.2∧PermIn a b d p.2.2∧∀R,Rot (m-p.1) m (m+p.2.1) p.2.2 R→Rot a m b d R)
  (fun(i,j,c)=>⟨[(2,.val (.int .i64 m)),(4,.loc 0 r1 0),(8,.val (.int .i64 i)),(9,.val (.int .i64 j))],oF r1 lf sf lb sb,1,μ,J c⟩) (fun p=>p.1+p.2.1)
  (m - a, b - m, d) ⟨by dsimp only; omega, Nat.le_refl _, by dsimp only; omega, Nat.le_refl _, hV, permIn_refl _ _ _, fun R hR => by
   dsimp only at hR
   rwa [show m-(m-a)=a by omega,show m+(b-m)=b by omega]at hR⟩ (fun(_,_,_)=>⟨rfl,rfl⟩) ⟨⟨rfl,rfl,rfl,rfl,trivial⟩,⟨rfl,trivial⟩,rfl,rfl⟩ ?_
 rintro⟨i,j,c⟩ ⟨hi1,hi2,hj1,hj2,hs,hp,hR⟩
 dsimp only at hi1 hi2 hj1 hj2 hs hp hR
 refine aL (fun h=>?_) (fun h=>?_)
 ·refine ifd (fun h2 => ?_) (fun h2 => ?_)
  ·refine nEq (x := ((m - i : Nat) : Int)) (by rw [aA (by omega) (by omega)]; omega) ?_
   refine cOw (iV H hle hs (a:=m-i) (b:=m) (k:=j) (by omega) (by omega)) fun v μ' h' hle' hap hR=>?_
   obtain⟨rfl,e2,d2,hsw,hp2,rfl,hV2⟩:=hR
   obtain rfl:=e2.symm
   clear hle' hap
   refine nEq (x:=((i-j:Nat):Int)) (by rw[aA (by omega) (by omega)];omega) ?_
   exact⟨(i-j,j,d2),⟨by dsimp only;omega,by dsimp only;omega,hj1,hj2,hV2,permIn_trans _ _ _ _ _ hp (permIn_mono _ _ _ _ _ _ (by omega) (by omega) (by rw[H.size hs];exact hb) hp2),fun R r=>hR R (Rot.gt (by omega) (by omega) hsw r)⟩,by dsimp only;omega,⟨⟨rfl,rfl,rfl,rfl,trivial⟩,⟨rfl,trivial⟩,rfl,rfl⟩⟩
  ·refine nEq (x := ((m - i : Nat) : Int)) (by rw [aA (by omega) (by omega)]; omega) ?_
   refine nEq (x:=((m+j:Nat):Int)) (by rw[aA (by omega) (by omega)];omega) ?_
   refine nEq (x:=((m+j-i:Nat):Int)) (by rw[aA (by omega) (by omega)];omega) ?_
   refine cOw (iV H hle hs (a:=m-i) (b:=m+j-i) (k:=i) (by omega) (by omega)) fun v μ' h' hle' hap hR=>?_
   obtain⟨rfl,e2,d2,hsw,hp2,rfl,hV2⟩:=hR
   obtain rfl:=e2.symm
   clear hle' hap
   refine nEq (x:=((j-i:Nat):Int)) (by rw[aA (by omega) (by omega)];omega) ?_
   exact⟨(i,j-i,d2),⟨hi1,hi2,by dsimp only;omega,by dsimp only;omega,hV2,permIn_trans _ _ _ _ _ hp (permIn_mono _ _ _ _ _ _ (by omega) (by omega) (by rw[H.size hs];exact hb) hp2),fun R r=>hR R (Rot.ls (by omega) (by omega) hsw r)⟩,by dsimp only;omega,⟨⟨rfl,rfl,rfl,rfl,trivial⟩,⟨rfl,trivial⟩,rfl,rfl⟩⟩
 ·obtain rfl : i = j := by omega
  refine nEq (x:=((m-i:Nat):Int)) (by rw[aA (by omega) (by omega)];omega) ?_
  refine cOw (iV H hle hs (a:=m-i) (b:=m) (k:=i) (by omega) (by omega)) fun v μ' h' hle' hap hR=>?_
  obtain⟨rfl,e2,d2,hsw,hp2,rfl,hV2⟩:=hR
  obtain rfl:=e2.symm
  clear hle' hap
  exact rPl ⟨rfl,rfl,d2,hR d2 (Rot.same (by omega) hsw),permIn_trans _ _ _ _ _ hp (permIn_mono _ _ _ _ _ _ (by omega) (by omega) (by rw[H.size hs];exact hb) hp2),rfl,hV2⟩
end
end Go.Vx
namespace Go.Vx
open Go.Proofs Classical
open Go.Sort
section
variable {α:Type} [Inhabited α] {lt:α→α→Bool} {d d':Array α} {a q b s m e:Nat}
theorem Split.permL(h:Split lt a q b d)(hq:q≤d.size)(p:PermIn a q d d'):Split lt a q b d':=fun x y h1 h2 h3 h4=>by
 rw[p.2.1 y (by omega)]
 exact permIn_all _ _ _ _ (fun v=>lt d[y]! v=false) hq p (fun i hi hj=>h i y hi hj h3 h4) x h1 h2
theorem Split.permR(h:Split lt a q b d)(hq:b≤d.size)(p:PermIn q b d d'):Split lt a q b d':=fun x y h1 h2 h3 h4=>by
 rw[p.2.1 x (by omega)]
 exact permIn_all _ _ _ _ (fun v=>lt v d[x]! =false) hq p (fun i hi hj=>h x i h1 h2 hi hj) y h3 h4
theorem SortedIn.same(h:SortedIn lt a b d)(e:∀k,a≤k→k<b→d'[k]! =d[k]!):SortedIn lt a b d':=fun i j hi hij hj=>by
 rw[e j (by omega) hj,e i hi (by omega)];exact h i j hi hij hj
theorem SortedIn.one(a:Nat)(d:Array α):SortedIn lt a (a+1) d:=fun i j hi hij hj=>by omega
theorem dE(hO:SWO lt)(h:SortedIn lt a b d){i j:Nat}(hi:a≤i)(hij:i≤j)(hj:j<b):lt d[j]! d[i]! =false:=by
 rcases Nat.eq_or_lt_of_le hij with e|e
 ·rw[e];exact hO.irrefl _
 ·exact h i j hi e hj
theorem Rot.left(_h:s≤m)(hm:m=e)(d:Array α):Rot s m e d d:=⟨rfl,fun _ _=>rfl,fun t ht=>by omega,fun t ht=>by congr 1;omega⟩
theorem Rot.right(h:s=m)(_hm:m≤e)(d:Array α):Rot s m e d d:=⟨rfl,fun _ _=>rfl,fun t ht=>by congr 1;omega,fun t ht=>by omega⟩
theorem qBu(hO:SWO lt){i:Nat}{R:Array α}(h2:SortedIn lt (a+1) b d)(hi:a+1≤i)(hib:i≤b)(lo:∀x,a+1≤x→x<i→lt d[x]! d[a]! =true)(hi':∀x,i≤x→x<b→lt d[x]! d[a]! =false)
  (r:Rot a (a+1) i d R):SortedIn lt a b R:=by
 have hq:a+(i-(a+1))=i-1:=by omega
 have h1:SortedIn lt a (a+1) d:=SortedIn.one a d
 have hc:Cut lt a a (a+1) i b d:=⟨Nat.le_refl _,by omega,hi,hib,fun x y h3 h4=>by omega,fun x y h3 h4 h5 h6=>by
  obtain rfl:x=a:=by omega
  exact vQ hO (lo y h5 h6)⟩
 have S:=hc.split h1 h2 r
 have s2:=r.s2 h2 hib hi
 have s3:=r.s3 h1 (Nat.le_refl _) (by omega) hi
 have s4:=r.s4 h2 hi
 rw[hq]at S s2 s3
 refine aE s2 (aE s3 s4 fun x y h3 h4 h5 h6=>?_) S
 obtain rfl:x=i-1:=by omega
 have e3:=r.at3 (k:=i-1) hi (by omega) (by omega) (by omega)
 rw[e3,r.at4 h5,show a+(i-1-(a+(i-(a+1))))=a by omega]
 exact hi' y h5 h6
theorem qEe(hO:SWO lt){i:Nat}{R:Array α}(h1:SortedIn lt a m d)(hi:a≤i)(him:i≤m)(lo:∀x,a≤x→x<i→lt d[m]! d[x]! =false)(hi':∀x,i≤x→x<m→lt d[m]! d[x]! =true)
  (r:Rot i m (m+1) d R):SortedIn lt a (m+1) R:=by
 have hq:i+(m+1-m)=i+1:=by omega
 have h2:SortedIn lt m (m+1) d:=SortedIn.one m d
 have hc:Cut lt a i m (m+1) (m+1) d:=⟨hi,him,by omega,Nat.le_refl _,fun x y h3 h4 h5 h6=>by omega,fun x y h3 h4 h5 h6=>by
  obtain rfl:y=m:=by omega
  exact vQ hO (hi' x h3 h4)⟩
 have S:=hc.split h1 h2 r
 have s1:=r.s1 h1 him
 have s2:=r.s2 h2 (Nat.le_refl _) (by omega)
 have s3:=r.s3 h1 hi him (by omega)
 rw[hq]at S s2 s3
 refine aE (aE s1 s2 fun x y h3 h4 h5 h6=>?_) s3 S
 obtain rfl:y=i:=by omega
 have e2:=r.at2 (k:=y) (Nat.le_refl _) (by omega)
 rw[e2,r.at1 h4,show m+(y-y)=m by omega]
 exact lo x h3 h4
theorem yU(hO:SWO lt){mid s0 r0:Nat}(h1:SortedIn lt a m d)(h2:SortedIn lt m b d)(ha:a≤s0)(hr:r0≤m)(hs:s0≤s)(hsr:s≤r0)(hse:s+e=mid+m)(hme:m≤e)(heb:e≤b)
  (hs0:s0=a∨s0+b=mid+m) (hr0:r0=m∨r0=mid)
  (lo:∀x,s0≤x→x<s→lt d[mid+m-1-x]! d[x]! =false) (hi:∀x,s≤x→x<r0→lt d[mid+m-1-x]! d[x]! =true):Cut lt a s m e b d:=by
 refine⟨by omega,by omega,hme,heb,fun x y h3 h4 h5 h6=>?_,fun x y h3 h4 h5 h6=>?_⟩
 ·rcases Nat.eq_or_lt_of_le hs with g | g
  ·rcases hs0 with g2|g2<;>omega
  ·have k1 := lo (s - 1) (by omega) (by omega)
   have k2:=dE hO h1 (i:=x) (j:=s-1) h3 (by omega) (by omega)
   have k3:=dE hO h2 (i:=mid+m-1-(s-1)) (j:=y) (by omega) (by omega) h6
   exact hO.ntrans _ _ _ k3 (hO.ntrans _ _ _ k1 k2)
 ·rcases Nat.eq_or_lt_of_le hsr with g | g
  ·rcases hr0 with g2|g2<;>omega
  ·have k1 := vQ hO (hi s (Nat.le_refl _) g)
   have k2:=dE hO h1 (i:=s) (j:=x) (by omega) h3 h4
   have k3:=dE hO h2 (i:=y) (j:=mid+m-1-s) h5 (by omega) (by omega)
   exact hO.ntrans _ _ _ k2 (hO.ntrans _ _ _ k1 k3)
theorem fW{mid:Nat}(h1:SortedIn lt a m d)(h2:SortedIn lt m b d)(k:Cut lt a s m e b d)(r:Rot s m e d d')(hmid:s+e=mid+m):
  Split lt a mid b d'∧SortedIn lt a s d'∧SortedIn lt s mid d'∧SortedIn lt mid e d'∧SortedIn lt e b d':=by
 have hme:=k.me
 have e:s+(e-m)=mid:=by omega
 have A:=k.split h1 h2 r
 have s2:=r.s2 h2 k.eb k.me
 have s3:=r.s3 h1 k.sa k.sm k.me
 rw[e]at A s2 s3
 exact⟨A,r.s1 h1 k.sm,s2,s3,r.s4 h2 k.me⟩
theorem qBw(hO:SWO lt){p c x:Nat}(h1:SortedIn lt a m d)(h2:SortedIn lt m b d)(h:lt d[p-c]! d[c]! =false)(hx:a≤x)(hxc:x≤c)(hc:c<m)(hm:m≤p-c)(hp:p-x<b):lt d[p-x]! d[x]! =false:=
 hO.ntrans _ _ _ (dE hO h2 (i:=p-c) (j:=p-x) hm (by omega) hp) (hO.ntrans _ _ _ h (dE hO h1 hx hxc hc))
theorem qBv(hO:SWO lt){p c x:Nat}(h1:SortedIn lt a m d)(h2:SortedIn lt m b d)(h:lt d[p-c]! d[c]! =true)(hc:a≤c)(hxc:c≤x)(hx:x<m)(hm:m≤p-x)(hp:p-c<b):lt d[p-x]! d[x]! =true:=
 yT hO (lt_of_not' hO h (dE hO h1 hc hxc hx)) (dE hO h2 (i:=p-x) (j:=p-c) hm (by omega) hp)
end
section
variable {α:Type} [Inhabited α] {lf sf:FuncId} {lb sb:List Value} {n:Nat} {lt:α→α→Bool} {μ0:Mem} {J:Array α→Mem} {V:Array α→Prop}
set_option maxHeartbeats 8000000 in
theorem nW(H:SortBy lf sf lb sb n lt μ0 J V)(hO:SWO lt):∀(k a m b:Nat) (d:Array α) (μ:Mem),b-a≤k→a<m→m<b→b≤n→V d→μ0.Le μ→SortedIn lt a m d→SortedIn lt m b d→
  SpecH Tryz.prog 245 [vB lf sf lb sb,.int .i64 a,.int .i64 m,.int .i64 b] μ (J d) fun v μ' h'=>v= .tuple #[]∧μ'=μ∧∃d',PermIn a b d d'∧SortedIn lt a b d'∧h'=J d'∧V d':=by
 intro k
 induction k with
 |zero=>intro a m b d μ hk ham hmb;omega
 |succ k IH=>
 intro a m b d μ hk ham hmb hb hV hle h1 h2
 have hn:=H.max
 have hs0:=H.size hV
 refine SpecH.mk [] Tryz.func245 (by kernel_rfl) ?_
 intro r1
 refine nEq (x:=((m-a:Nat):Int)) (by rw[aA (by omega) (by omega)];omega) ?_
 refine ifd (fun g1=>?_) (fun g1=>?_)
 ·obtain rfl : m = a + 1 := by omega
  refine lIn (fun p:Nat×Nat=>a+1≤p.1∧p.1≤p.2∧p.2≤b∧(∀x,a+1≤x→x<p.1→lt d[x]! d[a]! =true)∧∀x,p.2≤x→x<b→lt d[x]! d[a]! =false)
   (fun(i,j)=>⟨[(1,.val (.int .i64 a)),(2,.val (.int .i64 (a+1:Nat))),(3,.val (.int .i64 b)),(4,.loc 0 r1 0),(8,.val (.int .i64 i)),(9,.val (.int .i64 j))],oF r1 lf sf lb sb,1,μ,J d⟩) (fun p=>p.2-p.1)
   (a+1,b) ⟨Nat.le_refl _,by dsimp only;omega,Nat.le_refl _,fun x h3 h4=>by dsimp only at h4;omega,fun x h3 h4=>by dsimp only at h3;omega⟩ (fun(_,_)=>⟨rfl,rfl⟩) ⟨⟨rfl,rfl,rfl,rfl,rfl,rfl,trivial⟩,⟨rfl,trivial⟩,rfl,rfl⟩ ?_
  rintro⟨i,j⟩ ⟨hi,hij,hj,lo,hi'⟩
  dsimp only at hi hij hj lo hi'
  refine ifd (fun h=>?_) (fun h=>?_)
  ·refine aB (by omega) (by omega) ?_
   refine nEq (oE (by omega) (by omega)) ?_
   refine aC (by omega) ?_
   refine nEq (x:=(((i+j) / 2:Nat):Int)) ?_ ?_
   ·show Int.fdiv ((i : Int) + j) (2 ^ (min (Int.toNat 1) 64)) = _
    rw[show min (Int.toNat 1) 64=1 from rfl,show(2:Int) ^ 1=2 from rfl,Int.fdiv_eq_ediv_of_nonneg _ (by omega)]
    omega
   refine aB (by omega) (by omega) ?_
   generalize hc:(i+j) / 2=c
   refine cOw (H.less hle hV (i:=c) (j:=a) (by omega) (by omega)) fun v μ' h' hle' hap hR=>?_
   obtain⟨rfl,e2,rfl⟩:=hR
   obtain rfl:=e2.symm
   clear hle' hap
   refine iIn (fun hl=>?_) (fun hl=>?_)
   ·refine nEq (x := ((c + 1 : Nat) : Int)) (by rw [aA (by omega) (by omega)]; omega) ?_
    exact⟨(c+1,j),⟨by dsimp only;omega,by dsimp only;omega,hj,fun x h3 h4=>by
     dsimp only at h4
     exact yT hO hl (dE hO h2 h3 (by omega) (by omega)),hi'⟩,by dsimp only;omega,⟨⟨rfl,rfl,rfl,rfl,rfl,rfl,trivial⟩,⟨rfl,trivial⟩,rfl,rfl⟩⟩
   ·exact⟨(i,c),⟨hi,by dsimp only;omega,by dsimp only;omega,lo,fun x h3 h4=>by
     dsimp only at h3
     exact hO.ntrans _ _ _ (dE hO h2 (by omega) h3 h4) hl⟩,by dsimp only;omega,⟨⟨rfl,rfl,rfl,rfl,rfl,rfl,trivial⟩,⟨rfl,trivial⟩,rfl,rfl⟩⟩
  ·obtain rfl : i = j := by omega
   refine lIn (fun p:Nat×Array α=>a≤p.1∧p.1+1≤i∧V p.2∧Rot a (a+1) (p.1+1) d p.2∧PermIn a b d p.2)
    (fun(k,c)=>⟨[(1,.val (.int .i64 a)),(2,.val (.int .i64 (a+1:Nat))),(3,.val (.int .i64 b)),(4,.loc 0 r1 0),(8,.val (.int .i64 i)),(11,.val (.int .i64 k))],oF r1 lf sf lb sb,1,μ,J c⟩) (fun p=>i-p.1)
    (a,d) ⟨Nat.le_refl _,hi,hV,Rot.up0 _ _,permIn_refl _ _ _⟩ (fun(_,_)=>⟨rfl,rfl⟩) ⟨⟨rfl,rfl,rfl,rfl,rfl,rfl,trivial⟩,⟨rfl,trivial⟩,rfl,rfl⟩ ?_
   rintro⟨k,c⟩ ⟨hk1,hk2,hs,hr,hp⟩
   dsimp only at hk1 hk2 hs hr hp
   refine nEq (x:=((i-1:Nat):Int)) (by rw[aA (by omega) (by omega)];omega) ?_
   refine ifd (fun h3=>?_) (fun h3=>?_)
   ·refine nEq (x := ((k + 1 : Nat) : Int)) (by rw [aA (by omega) (by omega)]; omega) ?_
    refine cOw (H.swap hle hs (i:=k) (j:=k+1) (by omega) (by omega)) fun v μ' h' hle' hap hR=>?_
    obtain⟨rfl,e2,rfl⟩:=hR
    obtain rfl:=e2.symm
    clear hle' hap
    refine nEq (x:=((k+1:Nat):Int)) (by rw[aA (by omega) (by omega)];omega) ?_
    exact⟨(k+1,swp c k (k+1)),⟨by dsimp only;omega,by dsimp only;omega,H.sw hs (by omega) (by omega),hr.up hk1 (by omega),permIn_trans _ _ _ _ _ hp (swp_permIn _ _ _ _ _ (by omega) (by omega) (by omega) (by omega) (by rw[H.size hs];exact hb))⟩,by dsimp only;omega,⟨⟨rfl,rfl,rfl,rfl,rfl,rfl,trivial⟩,⟨rfl,trivial⟩,rfl,rfl⟩⟩
   ·obtain rfl : i = k + 1 := by omega
    exact rPl ⟨rfl,rfl,c,hp,qBu hO h2 hi hj lo hi' hr,rfl,hs⟩
 refine nEq (x:=((b-m:Nat):Int)) (by rw[aA (by omega) (by omega)];omega) ?_
 refine ifd (fun g2=>?_) (fun g2=>?_)
 ·obtain rfl : b = m + 1 := by omega
  refine lIn (fun p:Nat×Nat=>a≤p.1∧p.1≤p.2∧p.2≤m∧(∀x,a≤x→x<p.1→lt d[m]! d[x]! =false)∧∀x,p.2≤x→x<m→lt d[m]! d[x]! =true)
   (fun(i,j)=>⟨[(1,.val (.int .i64 a)),(2,.val (.int .i64 m)),(3,.val (.int .i64 (m+1:Nat))),(4,.loc 0 r1 0),(12,.val (.int .i64 i)),(13,.val (.int .i64 j))],oF r1 lf sf lb sb,1,μ,J d⟩) (fun p=>p.2-p.1)
   (a,m) ⟨Nat.le_refl _,by dsimp only;omega,Nat.le_refl _,fun x h3 h4=>by dsimp only at h4;omega,fun x h3 h4=>by dsimp only at h3;omega⟩ (fun(_,_)=>⟨rfl,rfl⟩) ⟨⟨rfl,rfl,rfl,rfl,rfl,rfl,trivial⟩,⟨rfl,trivial⟩,rfl,rfl⟩ ?_
  rintro⟨i,j⟩ ⟨hi,hij,hj,lo,hi'⟩
  dsimp only at hi hij hj lo hi'
  refine ifd (fun h=>?_) (fun h=>?_)
  ·refine aB (by omega) (by omega) ?_
   refine nEq (oE (by omega) (by omega)) ?_
   refine aC (by omega) ?_
   refine nEq (x:=(((i+j) / 2:Nat):Int)) ?_ ?_
   ·show Int.fdiv ((i : Int) + j) (2 ^ (min (Int.toNat 1) 64)) = _
    rw[show min (Int.toNat 1) 64=1 from rfl,show(2:Int) ^ 1=2 from rfl,Int.fdiv_eq_ediv_of_nonneg _ (by omega)]
    omega
   refine aB (by omega) (by omega) ?_
   generalize hc:(i+j) / 2=c
   refine cOw (H.less hle hV (i:=m) (j:=c) (by omega) (by omega)) fun v μ' h' hle' hap hR=>?_
   obtain⟨rfl,e2,rfl⟩:=hR
   obtain rfl:=e2.symm
   clear hle' hap
   refine iIn (fun hl=>?_) (fun hl=>?_)
   ·have hl' : lt d[m]! d[c]! = false := by simpa using hl
    refine nEq (x:=((c+1:Nat):Int)) (by rw[aA (by omega) (by omega)];omega) ?_
    exact⟨(c+1,j),⟨by dsimp only;omega,by dsimp only;omega,hj,fun x h3 h4=>by
     dsimp only at h4
     exact hO.ntrans _ _ _ hl' (dE hO h1 h3 (by omega) (by omega)),hi'⟩,by dsimp only;omega,⟨⟨rfl,rfl,rfl,rfl,rfl,rfl,trivial⟩,⟨rfl,trivial⟩,rfl,rfl⟩⟩
   ·have hl' : lt d[m]! d[c]! = true := by simpa using hl
    exact⟨(i,c),⟨hi,by dsimp only;omega,by dsimp only;omega,lo,fun x h3 h4=>by
     dsimp only at h3
     exact lt_of_not' hO hl' (dE hO h1 (by omega) h3 h4)⟩,by dsimp only;omega,⟨⟨rfl,rfl,rfl,rfl,rfl,rfl,trivial⟩,⟨rfl,trivial⟩,rfl,rfl⟩⟩
  ·obtain rfl : i = j := by omega
   refine lIn (fun p:Nat×Array α=>i≤p.1∧p.1≤m∧V p.2∧Rot p.1 m (m+1) d p.2∧PermIn a (m+1) d p.2)
    (fun(k,c)=>⟨[(1,.val (.int .i64 a)),(2,.val (.int .i64 m)),(3,.val (.int .i64 (m+1:Nat))),(4,.loc 0 r1 0),(12,.val (.int .i64 i)),(15,.val (.int .i64 k))],oF r1 lf sf lb sb,1,μ,J c⟩) (fun p=>p.1)
    (m,d) ⟨hj,Nat.le_refl _,hV,Rot.down0 _ _,permIn_refl _ _ _⟩ (fun(_,_)=>⟨rfl,rfl⟩) ⟨⟨rfl,rfl,rfl,rfl,rfl,rfl,trivial⟩,⟨rfl,trivial⟩,rfl,rfl⟩ ?_
   rintro⟨k,c⟩ ⟨hk1,hk2,hs,hr,hp⟩
   dsimp only at hk1 hk2 hs hr hp
   refine ifd (fun h3=>?_) (fun h3=>?_)
   ·obtain ⟨k, rfl⟩ : ∃ k', k = k' + 1 := ⟨k - 1, by omega⟩
    refine nEq (x:=((k:Nat):Int)) (by rw[aA (by omega) (by omega)];omega) ?_
    refine cOw (H.swap hle hs (i:=k+1) (j:=k) (by omega) (by omega)) fun v μ' h' hle' hap hR=>?_
    obtain⟨rfl,e2,rfl⟩:=hR
    obtain rfl:=e2.symm
    clear hle' hap
    refine nEq (x:=((k:Nat):Int)) (by rw[aA (by omega) (by omega)];omega) ?_
    exact⟨(k,swp c (k+1) k),⟨by dsimp only;omega,by dsimp only;omega,H.sw hs (by omega) (by omega),hr.down (by omega) (by omega),permIn_trans _ _ _ _ _ hp (swp_permIn _ _ _ _ _ (by omega) (by omega) (by omega) (by omega) (by rw[H.size hs];exact hb))⟩,by dsimp only;omega,⟨⟨rfl,rfl,rfl,rfl,rfl,rfl,trivial⟩,⟨rfl,trivial⟩,rfl,rfl⟩⟩
   ·obtain rfl : k = i := by omega
    exact rPl ⟨rfl,rfl,c,hp,qEe hO h1 hi hj lo hi' hr,rfl,hs⟩
 refine aB (by omega) (by omega) ?_
 refine nEq (oE (by omega) (by omega)) ?_
 refine aC (by omega) ?_
 refine nEq (x:=(((a+b) / 2:Nat):Int)) ?_ ?_
 ·show Int.fdiv ((a : Int) + b) (2 ^ (min (Int.toNat 1) 64)) = _
  rw[show min (Int.toNat 1) 64=1 from rfl,show(2:Int) ^ 1=2 from rfl,Int.fdiv_eq_ediv_of_nonneg _ (by omega)]
  omega
 refine aB (by omega) (by omega) ?_
 generalize hmid:(a+b) / 2=mid
 refine nEq (x:=((mid+m:Nat):Int)) (by rw[aA (by omega) (by omega)];omega) ?_
 refine ifd (fun g3=>?_) (fun g3=>?_)
 ·refine nEq (x := ((mid + m - b : Nat) : Int)) (by rw [aA (by omega) (by omega)]; omega) ?_
  refine nEq (x:=((mid+m-1:Nat):Int)) (by rw[aA (by omega) (by omega)];omega) ?_
  refine lIn (fun p:Nat×Nat=>mid+m-b≤p.1∧p.1≤p.2∧p.2≤mid∧(∀x,mid+m-b≤x→x<p.1→lt d[mid+m-1-x]! d[x]! =false)∧∀x,p.2≤x→x<mid→lt d[mid+m-1-x]! d[x]! =true)
   (fun(i,j)=>⟨[(1,.val (.int .i64 a)),(2,.val (.int .i64 m)),(3,.val (.int .i64 b)),(4,.loc 0 r1 0),(16,.val (.int .i64 mid)),(17,.val (.int .i64 (mid+m:Nat))),(18,.val (.int .i64 i)),(19,.val (.int .i64 j)),(20,.val (.int .i64 (mid+m-1:Nat)))],oF r1 lf sf lb sb,1,μ,J d⟩) (fun p=>p.2-p.1)
   (mid+m-b,mid) ⟨Nat.le_refl _,by dsimp only;omega,Nat.le_refl _,fun x h3 h4=>by dsimp only at h4;omega,fun x h3 h4=>by dsimp only at h3;omega⟩ (fun(_,_)=>⟨rfl,rfl⟩) ⟨⟨rfl,rfl,rfl,rfl,rfl,rfl,rfl,rfl,rfl,trivial⟩,⟨rfl,trivial⟩,rfl,rfl⟩ ?_
  rintro⟨i,j⟩ ⟨hi,hij,hj,lo,hi'⟩
  dsimp only at hi hij hj lo hi'
  refine ifd (fun h=>?_) (fun h=>?_)
  ·refine aB (by omega) (by omega) ?_
   refine nEq (oE (by omega) (by omega)) ?_
   refine aC (by omega) ?_
   refine nEq (x:=(((i+j) / 2:Nat):Int)) ?_ ?_
   ·show Int.fdiv ((i : Int) + j) (2 ^ (min (Int.toNat 1) 64)) = _
    rw[show min (Int.toNat 1) 64=1 from rfl,show(2:Int) ^ 1=2 from rfl,Int.fdiv_eq_ediv_of_nonneg _ (by omega)]
    omega
   refine aB (by omega) (by omega) ?_
   generalize hc:(i+j) / 2=c
   refine nEq (x:=((mid+m-1-c:Nat):Int)) (by rw[aA (by omega) (by omega)];omega) ?_
   refine cOw (H.less hle hV (i:=mid+m-1-c) (j:=c) (by omega) (by omega)) fun v μ' h' hle' hap hR=>?_
   obtain⟨rfl,e2,rfl⟩:=hR
   obtain rfl:=e2.symm
   clear hle' hap
   refine iIn (fun hl=>?_) (fun hl=>?_)
   ·have hl' : lt d[mid + m - 1 - c]! d[c]! = false := by simpa using hl
    refine nEq (x:=((c+1:Nat):Int)) (by rw[aA (by omega) (by omega)];omega) ?_
    exact⟨(c+1,j),⟨by dsimp only;omega,by dsimp only;omega,hj,fun x h3 h4=>by
     dsimp only at h4
     exact qBw hO h1 h2 hl' (by omega) (by omega) (by omega) (by omega) (by omega),hi'⟩,by dsimp only;omega,⟨⟨rfl,rfl,rfl,rfl,rfl,rfl,rfl,rfl,rfl,trivial⟩,⟨rfl,trivial⟩,rfl,rfl⟩⟩
   ·have hl' : lt d[mid + m - 1 - c]! d[c]! = true := by simpa using hl
    exact⟨(i,c),⟨hi,by dsimp only;omega,by dsimp only;omega,lo,fun x h3 h4=>by
     dsimp only at h3
     exact qBv hO h1 h2 hl' (by omega) h3 (by omega) (by omega) (by omega)⟩,by dsimp only;omega,⟨⟨rfl,rfl,rfl,rfl,rfl,rfl,rfl,rfl,rfl,trivial⟩,⟨rfl,trivial⟩,rfl,rfl⟩⟩
  obtain rfl:i=j:=by omega
  obtain⟨e,he⟩:∃e,e=mid+m-i:=⟨_,rfl⟩
  have hcut:Cut lt a i m e b d:=yU (mid:=mid) (s0:=mid+m-b) (r0:=mid) hO h1 h2 (by omega) (by omega) hi hj (by omega) (by omega) (by omega) (by omega) (by omega) lo hi'
  refine nEq (x:=((e:Nat):Int)) (by rw[aA (by omega) (by omega)];omega) ?_
  refine ifd (fun k1=>?_) (fun k1=>?_)
  ·refine ifd (fun k2 => ?_) (fun k2 => ?_)
   ·refine cOw (rO H hle hV (a := i) (m := m) (b := e) (by omega) (by omega) (by omega)) fun v μ' h' hle' hap hR => ?_
    obtain⟨rfl,e2,d1,hr,hp1,rfl,hV1⟩:=hR
    obtain rfl:=e2.symm
    clear hle' hap
    replace hp1:PermIn a b d d1:=permIn_mono _ _ _ _ _ _ (by omega) (by omega) (by omega) hp1
    have w_:=fW (mid:=mid) h1 h2 hcut (hr) (by omega)
    obtain⟨S,s1,s2,s3,s4⟩:=w_
    refine ifd (fun k3=>?_) (fun k3=>?_)
    ·refine ifd (fun k4 => ?_) (fun k4 => ?_)
     ·refine cOw (IH a i mid d1 _ (by omega) (by omega) (by omega) (by omega) hV1 hle s1 s2) fun v μ' h' hle' hap hR => ?_
      obtain⟨rfl,e2,d4,hp4,hs4,rfl,hV4⟩:=hR
      obtain rfl:=e2.symm
      clear hle' hap
      have hz4:mid≤(d1).size:=by rw[H.size hV1];omega
      refine ifd (fun k5=>?_) (fun k5=>?_)
      ·refine ifd (fun k6 => ?_) (fun k6 => ?_)
       ·refine cOw (IH _ e b d4 _ (by omega) (by omega) (by omega) (by omega) hV4 hle (SortedIn.same s3 fun k h5 h6 => hp4.2.1 k (by omega)) (SortedIn.same s4 fun k h5 h6 => hp4.2.1 k (by omega))) fun v μ' h' hle' hap hR => ?_
        obtain⟨rfl,e2,d5,hp5,hs5,rfl,hV5⟩:=hR
        obtain rfl:=e2.symm
        clear hle' hap
        exact rPl ⟨rfl,rfl,d5,permIn_trans _ _ _ _ _ (permIn_trans _ _ _ _ _ hp1 (permIn_mono _ _ _ _ _ _ (Nat.le_refl _) (by omega) (by rw[H.size hV1];exact hb) hp4)) (permIn_mono _ _ _ _ _ _ (by omega) (Nat.le_refl _) (by rw[H.size hV4];exact hb) hp5),aE (SortedIn.same hs4 fun k h5 h6=>hp5.2.1 k (by omega)) hs5 (Split.permR (S.permL hz4 hp4) (by rw[H.size hV4];exact hb) hp5),rfl,hV5⟩
       ·have k7 : e = b := by omega
        exact rPl ⟨rfl,rfl,d4,(permIn_trans _ _ _ _ _ hp1 (permIn_mono _ _ _ _ _ _ (Nat.le_refl _) (by omega) (by rw[H.size hV1];exact hb) hp4)),aE hs4 (by have h:=(SortedIn.same s3 fun k h5 h6=>hp4.2.1 k (by omega));rwa [k7]at h) (S.permL hz4 hp4),rfl,hV4⟩
      ·have k7 : e = mid := by omega
       exact rPl ⟨rfl,rfl,d4,(permIn_trans _ _ _ _ _ hp1 (permIn_mono _ _ _ _ _ _ (Nat.le_refl _) (by omega) (by rw[H.size hV1];exact hb) hp4)),aE hs4 (by have h:=(SortedIn.same s4 fun k h5 h6=>hp4.2.1 k (by omega));rwa [k7]at h) (S.permL hz4 hp4),rfl,hV4⟩
     ·obtain rfl : mid = i := by omega
      refine ifd (fun k5=>?_) (fun k5=>?_)
      ·refine ifd (fun k6 => ?_) (fun k6 => ?_)
       ·refine cOw (IH _ e b d1 _ (by omega) (by omega) (by omega) (by omega) hV1 hle s3 s4) fun v μ' h' hle' hap hR => ?_
        obtain⟨rfl,e2,d5,hp5,hs5,rfl,hV5⟩:=hR
        obtain rfl:=e2.symm
        clear hle' hap
        exact rPl ⟨rfl,rfl,d5,permIn_trans _ _ _ _ _ hp1 (permIn_mono _ _ _ _ _ _ (by omega) (Nat.le_refl _) (by rw[H.size hV1];exact hb) hp5),aE (SortedIn.same s1 fun k h5 h6=>hp5.2.1 k (by omega)) hs5 (Split.permR S (by rw[H.size hV1];exact hb) hp5),rfl,hV5⟩
       ·have k7 : e = b := by omega
        exact rPl ⟨rfl,rfl,d1,hp1,aE s1 (by have h:=s3;rwa [k7]at h) S,rfl,hV1⟩
      ·have k7 : e = mid := by omega
       exact rPl ⟨rfl,rfl,d1,hp1,aE s1 (by have h:=s4;rwa [k7]at h) S,rfl,hV1⟩
    ·obtain rfl : a = i := by omega
     refine ifd (fun k5=>?_) (fun k5=>?_)
     ·refine ifd (fun k6 => ?_) (fun k6 => ?_)
      ·refine cOw (IH _ e b d1 _ (by omega) (by omega) (by omega) (by omega) hV1 hle s3 s4) fun v μ' h' hle' hap hR => ?_
       obtain⟨rfl,e2,d5,hp5,hs5,rfl,hV5⟩:=hR
       obtain rfl:=e2.symm
       clear hle' hap
       exact rPl ⟨rfl,rfl,d5,permIn_trans _ _ _ _ _ hp1 (permIn_mono _ _ _ _ _ _ (by omega) (Nat.le_refl _) (by rw[H.size hV1];exact hb) hp5),aE (SortedIn.same s2 fun k h5 h6=>hp5.2.1 k (by omega)) hs5 (Split.permR S (by rw[H.size hV1];exact hb) hp5),rfl,hV5⟩
      ·have k7 : e = b := by omega
       exact rPl ⟨rfl,rfl,d1,hp1,aE s2 (by have h:=s3;rwa [k7]at h) S,rfl,hV1⟩
     ·have k7 : e = mid := by omega
      exact rPl ⟨rfl,rfl,d1,hp1,aE s2 (by have h:=s4;rwa [k7]at h) S,rfl,hV1⟩
   ·have w_ := fW (mid := mid) h1 h2 hcut (Rot.left (by omega) (by omega) d) (by omega)
    obtain⟨S,s1,s2,s3,s4⟩:=w_
    refine ifd (fun k3=>?_) (fun k3=>?_)
    ·refine ifd (fun k4 => ?_) (fun k4 => ?_)
     ·refine cOw (IH a i mid d _ (by omega) (by omega) (by omega) (by omega) hV hle s1 s2) fun v μ' h' hle' hap hR => ?_
      obtain⟨rfl,e2,d4,hp4,hs4,rfl,hV4⟩:=hR
      obtain rfl:=e2.symm
      clear hle' hap
      have hz4:mid≤(d).size:=by rw[H.size hV];omega
      refine ifd (fun k5=>?_) (fun k5=>?_)
      ·refine ifd (fun k6 => ?_) (fun k6 => ?_)
       ·refine cOw (IH _ e b d4 _ (by omega) (by omega) (by omega) (by omega) hV4 hle (SortedIn.same s3 fun k h5 h6 => hp4.2.1 k (by omega)) (SortedIn.same s4 fun k h5 h6 => hp4.2.1 k (by omega))) fun v μ' h' hle' hap hR => ?_
        obtain⟨rfl,e2,d5,hp5,hs5,rfl,hV5⟩:=hR
        obtain rfl:=e2.symm
        clear hle' hap
        exact rPl ⟨rfl,rfl,d5,permIn_trans _ _ _ _ _ (permIn_trans _ _ _ _ _ (permIn_refl d a b) (permIn_mono _ _ _ _ _ _ (Nat.le_refl _) (by omega) (by rw[H.size hV];exact hb) hp4)) (permIn_mono _ _ _ _ _ _ (by omega) (Nat.le_refl _) (by rw[H.size hV4];exact hb) hp5),aE (SortedIn.same hs4 fun k h5 h6=>hp5.2.1 k (by omega)) hs5 (Split.permR (S.permL hz4 hp4) (by rw[H.size hV4];exact hb) hp5),rfl,hV5⟩
       ·have k7 : e = b := by omega
        exact rPl ⟨rfl,rfl,d4,(permIn_trans _ _ _ _ _ (permIn_refl d a b) (permIn_mono _ _ _ _ _ _ (Nat.le_refl _) (by omega) (by rw[H.size hV];exact hb) hp4)),aE hs4 (by have h:=(SortedIn.same s3 fun k h5 h6=>hp4.2.1 k (by omega));rwa [k7]at h) (S.permL hz4 hp4),rfl,hV4⟩
      ·have k7 : e = mid := by omega
       exact rPl ⟨rfl,rfl,d4,(permIn_trans _ _ _ _ _ (permIn_refl d a b) (permIn_mono _ _ _ _ _ _ (Nat.le_refl _) (by omega) (by rw[H.size hV];exact hb) hp4)),aE hs4 (by have h:=(SortedIn.same s4 fun k h5 h6=>hp4.2.1 k (by omega));rwa [k7]at h) (S.permL hz4 hp4),rfl,hV4⟩
     ·obtain rfl : mid = i := by omega
      refine ifd (fun k5=>?_) (fun k5=>?_)
      ·refine ifd (fun k6 => ?_) (fun k6 => ?_)
       ·refine cOw (IH _ e b d _ (by omega) (by omega) (by omega) (by omega) hV hle s3 s4) fun v μ' h' hle' hap hR => ?_
        obtain⟨rfl,e2,d5,hp5,hs5,rfl,hV5⟩:=hR
        obtain rfl:=e2.symm
        clear hle' hap
        exact rPl ⟨rfl,rfl,d5,permIn_trans _ _ _ _ _ (permIn_refl d a b) (permIn_mono _ _ _ _ _ _ (by omega) (Nat.le_refl _) (by rw[H.size hV];exact hb) hp5),aE (SortedIn.same s1 fun k h5 h6=>hp5.2.1 k (by omega)) hs5 (Split.permR S (by rw[H.size hV];exact hb) hp5),rfl,hV5⟩
       ·have k7 : e = b := by omega
        exact rPl ⟨rfl,rfl,d,(permIn_refl d a b),aE s1 (by have h:=s3;rwa [k7]at h) S,rfl,hV⟩
      ·have k7 : e = mid := by omega
       exact rPl ⟨rfl,rfl,d,(permIn_refl d a b),aE s1 (by have h:=s4;rwa [k7]at h) S,rfl,hV⟩
    ·obtain rfl : a = i := by omega
     refine ifd (fun k5=>?_) (fun k5=>?_)
     ·refine ifd (fun k6 => ?_) (fun k6 => ?_)
      ·refine cOw (IH _ e b d _ (by omega) (by omega) (by omega) (by omega) hV hle s3 s4) fun v μ' h' hle' hap hR => ?_
       obtain⟨rfl,e2,d5,hp5,hs5,rfl,hV5⟩:=hR
       obtain rfl:=e2.symm
       clear hle' hap
       exact rPl ⟨rfl,rfl,d5,permIn_trans _ _ _ _ _ (permIn_refl d a b) (permIn_mono _ _ _ _ _ _ (by omega) (Nat.le_refl _) (by rw[H.size hV];exact hb) hp5),aE (SortedIn.same s2 fun k h5 h6=>hp5.2.1 k (by omega)) hs5 (Split.permR S (by rw[H.size hV];exact hb) hp5),rfl,hV5⟩
      ·have k7 : e = b := by omega
       exact rPl ⟨rfl,rfl,d,(permIn_refl d a b),aE s2 (by have h:=s3;rwa [k7]at h) S,rfl,hV⟩
     ·have k7 : e = mid := by omega
      exact rPl ⟨rfl,rfl,d,(permIn_refl d a b),aE s2 (by have h:=s4;rwa [k7]at h) S,rfl,hV⟩
  ·have w_ := fW (mid := mid) h1 h2 hcut (Rot.right (by omega) (by omega) d) (by omega)
   obtain⟨S,s1,s2,s3,s4⟩:=w_
   refine ifd (fun k3=>?_) (fun k3=>?_)
   ·refine ifd (fun k4 => ?_) (fun k4 => ?_)
    ·refine cOw (IH a i mid d _ (by omega) (by omega) (by omega) (by omega) hV hle s1 s2) fun v μ' h' hle' hap hR => ?_
     obtain⟨rfl,e2,d4,hp4,hs4,rfl,hV4⟩:=hR
     obtain rfl:=e2.symm
     clear hle' hap
     have hz4:mid≤(d).size:=by rw[H.size hV];omega
     refine ifd (fun k5=>?_) (fun k5=>?_)
     ·refine ifd (fun k6 => ?_) (fun k6 => ?_)
      ·refine cOw (IH _ e b d4 _ (by omega) (by omega) (by omega) (by omega) hV4 hle (SortedIn.same s3 fun k h5 h6 => hp4.2.1 k (by omega)) (SortedIn.same s4 fun k h5 h6 => hp4.2.1 k (by omega))) fun v μ' h' hle' hap hR => ?_
       obtain⟨rfl,e2,d5,hp5,hs5,rfl,hV5⟩:=hR
       obtain rfl:=e2.symm
       clear hle' hap
       exact rPl ⟨rfl,rfl,d5,permIn_trans _ _ _ _ _ (permIn_trans _ _ _ _ _ (permIn_refl d a b) (permIn_mono _ _ _ _ _ _ (Nat.le_refl _) (by omega) (by rw[H.size hV];exact hb) hp4)) (permIn_mono _ _ _ _ _ _ (by omega) (Nat.le_refl _) (by rw[H.size hV4];exact hb) hp5),aE (SortedIn.same hs4 fun k h5 h6=>hp5.2.1 k (by omega)) hs5 (Split.permR (S.permL hz4 hp4) (by rw[H.size hV4];exact hb) hp5),rfl,hV5⟩
      ·have k7 : e = b := by omega
       exact rPl ⟨rfl,rfl,d4,(permIn_trans _ _ _ _ _ (permIn_refl d a b) (permIn_mono _ _ _ _ _ _ (Nat.le_refl _) (by omega) (by rw[H.size hV];exact hb) hp4)),aE hs4 (by have h:=(SortedIn.same s3 fun k h5 h6=>hp4.2.1 k (by omega));rwa [k7]at h) (S.permL hz4 hp4),rfl,hV4⟩
     ·have k7 : e = mid := by omega
      exact rPl ⟨rfl,rfl,d4,(permIn_trans _ _ _ _ _ (permIn_refl d a b) (permIn_mono _ _ _ _ _ _ (Nat.le_refl _) (by omega) (by rw[H.size hV];exact hb) hp4)),aE hs4 (by have h:=(SortedIn.same s4 fun k h5 h6=>hp4.2.1 k (by omega));rwa [k7]at h) (S.permL hz4 hp4),rfl,hV4⟩
    ·obtain rfl : mid = i := by omega
     refine ifd (fun k5=>?_) (fun k5=>?_)
     ·refine ifd (fun k6 => ?_) (fun k6 => ?_)
      ·refine cOw (IH _ e b d _ (by omega) (by omega) (by omega) (by omega) hV hle s3 s4) fun v μ' h' hle' hap hR => ?_
       obtain⟨rfl,e2,d5,hp5,hs5,rfl,hV5⟩:=hR
       obtain rfl:=e2.symm
       clear hle' hap
       exact rPl ⟨rfl,rfl,d5,permIn_trans _ _ _ _ _ (permIn_refl d a b) (permIn_mono _ _ _ _ _ _ (by omega) (Nat.le_refl _) (by rw[H.size hV];exact hb) hp5),aE (SortedIn.same s1 fun k h5 h6=>hp5.2.1 k (by omega)) hs5 (Split.permR S (by rw[H.size hV];exact hb) hp5),rfl,hV5⟩
      ·have k7 : e = b := by omega
       exact rPl ⟨rfl,rfl,d,(permIn_refl d a b),aE s1 (by have h:=s3;rwa [k7]at h) S,rfl,hV⟩
     ·have k7 : e = mid := by omega
      exact rPl ⟨rfl,rfl,d,(permIn_refl d a b),aE s1 (by have h:=s4;rwa [k7]at h) S,rfl,hV⟩
   ·obtain rfl : a = i := by omega
    refine ifd (fun k5=>?_) (fun k5=>?_)
    ·refine ifd (fun k6 => ?_) (fun k6 => ?_)
     ·refine cOw (IH _ e b d _ (by omega) (by omega) (by omega) (by omega) hV hle s3 s4) fun v μ' h' hle' hap hR => ?_
      obtain⟨rfl,e2,d5,hp5,hs5,rfl,hV5⟩:=hR
      obtain rfl:=e2.symm
      clear hle' hap
      exact rPl ⟨rfl,rfl,d5,permIn_trans _ _ _ _ _ (permIn_refl d a b) (permIn_mono _ _ _ _ _ _ (by omega) (Nat.le_refl _) (by rw[H.size hV];exact hb) hp5),aE (SortedIn.same s2 fun k h5 h6=>hp5.2.1 k (by omega)) hs5 (Split.permR S (by rw[H.size hV];exact hb) hp5),rfl,hV5⟩
     ·have k7 : e = b := by omega
      exact rPl ⟨rfl,rfl,d,(permIn_refl d a b),aE s2 (by have h:=s3;rwa [k7]at h) S,rfl,hV⟩
    ·have k7 : e = mid := by omega
     exact rPl ⟨rfl,rfl,d,(permIn_refl d a b),aE s2 (by have h:=s4;rwa [k7]at h) S,rfl,hV⟩
 ·refine nEq (x := ((mid + m - 1 : Nat) : Int)) (by rw [aA (by omega) (by omega)]; omega) ?_
  refine lIn (fun p:Nat×Nat=>a≤p.1∧p.1≤p.2∧p.2≤m∧(∀x,a≤x→x<p.1→lt d[mid+m-1-x]! d[x]! =false)∧∀x,p.2≤x→x<m→lt d[mid+m-1-x]! d[x]! =true)
   (fun(i,j)=>⟨[(1,.val (.int .i64 a)),(2,.val (.int .i64 m)),(3,.val (.int .i64 b)),(4,.loc 0 r1 0),(16,.val (.int .i64 mid)),(17,.val (.int .i64 (mid+m:Nat))),(18,.val (.int .i64 i)),(19,.val (.int .i64 j)),(20,.val (.int .i64 (mid+m-1:Nat)))],oF r1 lf sf lb sb,1,μ,J d⟩) (fun p=>p.2-p.1)
   (a,m) ⟨Nat.le_refl _,by dsimp only;omega,Nat.le_refl _,fun x h3 h4=>by dsimp only at h4;omega,fun x h3 h4=>by dsimp only at h3;omega⟩ (fun(_,_)=>⟨rfl,rfl⟩) ⟨⟨rfl,rfl,rfl,rfl,rfl,rfl,rfl,rfl,rfl,trivial⟩,⟨rfl,trivial⟩,rfl,rfl⟩ ?_
  rintro⟨i,j⟩ ⟨hi,hij,hj,lo,hi'⟩
  dsimp only at hi hij hj lo hi'
  refine ifd (fun h=>?_) (fun h=>?_)
  ·refine aB (by omega) (by omega) ?_
   refine nEq (oE (by omega) (by omega)) ?_
   refine aC (by omega) ?_
   refine nEq (x:=(((i+j) / 2:Nat):Int)) ?_ ?_
   ·show Int.fdiv ((i : Int) + j) (2 ^ (min (Int.toNat 1) 64)) = _
    rw[show min (Int.toNat 1) 64=1 from rfl,show(2:Int) ^ 1=2 from rfl,Int.fdiv_eq_ediv_of_nonneg _ (by omega)]
    omega
   refine aB (by omega) (by omega) ?_
   generalize hc:(i+j) / 2=c
   refine nEq (x:=((mid+m-1-c:Nat):Int)) (by rw[aA (by omega) (by omega)];omega) ?_
   refine cOw (H.less hle hV (i:=mid+m-1-c) (j:=c) (by omega) (by omega)) fun v μ' h' hle' hap hR=>?_
   obtain⟨rfl,e2,rfl⟩:=hR
   obtain rfl:=e2.symm
   clear hle' hap
   refine iIn (fun hl=>?_) (fun hl=>?_)
   ·have hl' : lt d[mid + m - 1 - c]! d[c]! = false := by simpa using hl
    refine nEq (x:=((c+1:Nat):Int)) (by rw[aA (by omega) (by omega)];omega) ?_
    exact⟨(c+1,j),⟨by dsimp only;omega,by dsimp only;omega,hj,fun x h3 h4=>by
     dsimp only at h4
     exact qBw hO h1 h2 hl' (by omega) (by omega) (by omega) (by omega) (by omega),hi'⟩,by dsimp only;omega,⟨⟨rfl,rfl,rfl,rfl,rfl,rfl,rfl,rfl,rfl,trivial⟩,⟨rfl,trivial⟩,rfl,rfl⟩⟩
   ·have hl' : lt d[mid + m - 1 - c]! d[c]! = true := by simpa using hl
    exact⟨(i,c),⟨hi,by dsimp only;omega,by dsimp only;omega,lo,fun x h3 h4=>by
     dsimp only at h3
     exact qBv hO h1 h2 hl' (by omega) h3 (by omega) (by omega) (by omega)⟩,by dsimp only;omega,⟨⟨rfl,rfl,rfl,rfl,rfl,rfl,rfl,rfl,rfl,trivial⟩,⟨rfl,trivial⟩,rfl,rfl⟩⟩
  obtain rfl:i=j:=by omega
  obtain⟨e,he⟩:∃e,e=mid+m-i:=⟨_,rfl⟩
  have hcut:Cut lt a i m e b d:=yU (mid:=mid) (s0:=a) (r0:=m) hO h1 h2 (by omega) (by omega) hi hj (by omega) (by omega) (by omega) (by omega) (by omega) lo hi'
  refine nEq (x:=((e:Nat):Int)) (by rw[aA (by omega) (by omega)];omega) ?_
  refine ifd (fun k1=>?_) (fun k1=>?_)
  ·refine ifd (fun k2 => ?_) (fun k2 => ?_)
   ·refine cOw (rO H hle hV (a := i) (m := m) (b := e) (by omega) (by omega) (by omega)) fun v μ' h' hle' hap hR => ?_
    obtain⟨rfl,e2,d1,hr,hp1,rfl,hV1⟩:=hR
    obtain rfl:=e2.symm
    clear hle' hap
    replace hp1:PermIn a b d d1:=permIn_mono _ _ _ _ _ _ (by omega) (by omega) (by omega) hp1
    have w_:=fW (mid:=mid) h1 h2 hcut (hr) (by omega)
    obtain⟨S,s1,s2,s3,s4⟩:=w_
    refine ifd (fun k3=>?_) (fun k3=>?_)
    ·refine ifd (fun k4 => ?_) (fun k4 => ?_)
     ·refine cOw (IH a i mid d1 _ (by omega) (by omega) (by omega) (by omega) hV1 hle s1 s2) fun v μ' h' hle' hap hR => ?_
      obtain⟨rfl,e2,d4,hp4,hs4,rfl,hV4⟩:=hR
      obtain rfl:=e2.symm
      clear hle' hap
      have hz4:mid≤(d1).size:=by rw[H.size hV1];omega
      refine ifd (fun k5=>?_) (fun k5=>?_)
      ·refine ifd (fun k6 => ?_) (fun k6 => ?_)
       ·refine cOw (IH _ e b d4 _ (by omega) (by omega) (by omega) (by omega) hV4 hle (SortedIn.same s3 fun k h5 h6 => hp4.2.1 k (by omega)) (SortedIn.same s4 fun k h5 h6 => hp4.2.1 k (by omega))) fun v μ' h' hle' hap hR => ?_
        obtain⟨rfl,e2,d5,hp5,hs5,rfl,hV5⟩:=hR
        obtain rfl:=e2.symm
        clear hle' hap
        exact rPl ⟨rfl,rfl,d5,permIn_trans _ _ _ _ _ (permIn_trans _ _ _ _ _ hp1 (permIn_mono _ _ _ _ _ _ (Nat.le_refl _) (by omega) (by rw[H.size hV1];exact hb) hp4)) (permIn_mono _ _ _ _ _ _ (by omega) (Nat.le_refl _) (by rw[H.size hV4];exact hb) hp5),aE (SortedIn.same hs4 fun k h5 h6=>hp5.2.1 k (by omega)) hs5 (Split.permR (S.permL hz4 hp4) (by rw[H.size hV4];exact hb) hp5),rfl,hV5⟩
       ·have k7 : e = b := by omega
        exact rPl ⟨rfl,rfl,d4,(permIn_trans _ _ _ _ _ hp1 (permIn_mono _ _ _ _ _ _ (Nat.le_refl _) (by omega) (by rw[H.size hV1];exact hb) hp4)),aE hs4 (by have h:=(SortedIn.same s3 fun k h5 h6=>hp4.2.1 k (by omega));rwa [k7]at h) (S.permL hz4 hp4),rfl,hV4⟩
      ·have k7 : e = mid := by omega
       exact rPl ⟨rfl,rfl,d4,(permIn_trans _ _ _ _ _ hp1 (permIn_mono _ _ _ _ _ _ (Nat.le_refl _) (by omega) (by rw[H.size hV1];exact hb) hp4)),aE hs4 (by have h:=(SortedIn.same s4 fun k h5 h6=>hp4.2.1 k (by omega));rwa [k7]at h) (S.permL hz4 hp4),rfl,hV4⟩
     ·obtain rfl : mid = i := by omega
      refine ifd (fun k5=>?_) (fun k5=>?_)
      ·refine ifd (fun k6 => ?_) (fun k6 => ?_)
       ·refine cOw (IH _ e b d1 _ (by omega) (by omega) (by omega) (by omega) hV1 hle s3 s4) fun v μ' h' hle' hap hR => ?_
        obtain⟨rfl,e2,d5,hp5,hs5,rfl,hV5⟩:=hR
        obtain rfl:=e2.symm
        clear hle' hap
        exact rPl ⟨rfl,rfl,d5,permIn_trans _ _ _ _ _ hp1 (permIn_mono _ _ _ _ _ _ (by omega) (Nat.le_refl _) (by rw[H.size hV1];exact hb) hp5),aE (SortedIn.same s1 fun k h5 h6=>hp5.2.1 k (by omega)) hs5 (Split.permR S (by rw[H.size hV1];exact hb) hp5),rfl,hV5⟩
       ·have k7 : e = b := by omega
        exact rPl ⟨rfl,rfl,d1,hp1,aE s1 (by have h:=s3;rwa [k7]at h) S,rfl,hV1⟩
      ·have k7 : e = mid := by omega
       exact rPl ⟨rfl,rfl,d1,hp1,aE s1 (by have h:=s4;rwa [k7]at h) S,rfl,hV1⟩
    ·obtain rfl : a = i := by omega
     refine ifd (fun k5=>?_) (fun k5=>?_)
     ·refine ifd (fun k6 => ?_) (fun k6 => ?_)
      ·refine cOw (IH _ e b d1 _ (by omega) (by omega) (by omega) (by omega) hV1 hle s3 s4) fun v μ' h' hle' hap hR => ?_
       obtain⟨rfl,e2,d5,hp5,hs5,rfl,hV5⟩:=hR
       obtain rfl:=e2.symm
       clear hle' hap
       exact rPl ⟨rfl,rfl,d5,permIn_trans _ _ _ _ _ hp1 (permIn_mono _ _ _ _ _ _ (by omega) (Nat.le_refl _) (by rw[H.size hV1];exact hb) hp5),aE (SortedIn.same s2 fun k h5 h6=>hp5.2.1 k (by omega)) hs5 (Split.permR S (by rw[H.size hV1];exact hb) hp5),rfl,hV5⟩
      ·have k7 : e = b := by omega
       exact rPl ⟨rfl,rfl,d1,hp1,aE s2 (by have h:=s3;rwa [k7]at h) S,rfl,hV1⟩
     ·have k7 : e = mid := by omega
      exact rPl ⟨rfl,rfl,d1,hp1,aE s2 (by have h:=s4;rwa [k7]at h) S,rfl,hV1⟩
   ·have w_ := fW (mid := mid) h1 h2 hcut (Rot.left (by omega) (by omega) d) (by omega)
    obtain⟨S,s1,s2,s3,s4⟩:=w_
    refine ifd (fun k3=>?_) (fun k3=>?_)
    ·refine ifd (fun k4 => ?_) (fun k4 => ?_)
     ·refine cOw (IH a i mid d _ (by omega) (by omega) (by omega) (by omega) hV hle s1 s2) fun v μ' h' hle' hap hR => ?_
      obtain⟨rfl,e2,d4,hp4,hs4,rfl,hV4⟩:=hR
      obtain rfl:=e2.symm
      clear hle' hap
      have hz4:mid≤(d).size:=by rw[H.size hV];omega
      refine ifd (fun k5=>?_) (fun k5=>?_)
      ·refine ifd (fun k6 => ?_) (fun k6 => ?_)
       ·refine cOw (IH _ e b d4 _ (by omega) (by omega) (by omega) (by omega) hV4 hle (SortedIn.same s3 fun k h5 h6 => hp4.2.1 k (by omega)) (SortedIn.same s4 fun k h5 h6 => hp4.2.1 k (by omega))) fun v μ' h' hle' hap hR => ?_
        obtain⟨rfl,e2,d5,hp5,hs5,rfl,hV5⟩:=hR
        obtain rfl:=e2.symm
        clear hle' hap
        exact rPl ⟨rfl,rfl,d5,permIn_trans _ _ _ _ _ (permIn_trans _ _ _ _ _ (permIn_refl d a b) (permIn_mono _ _ _ _ _ _ (Nat.le_refl _) (by omega) (by rw[H.size hV];exact hb) hp4)) (permIn_mono _ _ _ _ _ _ (by omega) (Nat.le_refl _) (by rw[H.size hV4];exact hb) hp5),aE (SortedIn.same hs4 fun k h5 h6=>hp5.2.1 k (by omega)) hs5 (Split.permR (S.permL hz4 hp4) (by rw[H.size hV4];exact hb) hp5),rfl,hV5⟩
       ·have k7 : e = b := by omega
        exact rPl ⟨rfl,rfl,d4,(permIn_trans _ _ _ _ _ (permIn_refl d a b) (permIn_mono _ _ _ _ _ _ (Nat.le_refl _) (by omega) (by rw[H.size hV];exact hb) hp4)),aE hs4 (by have h:=(SortedIn.same s3 fun k h5 h6=>hp4.2.1 k (by omega));rwa [k7]at h) (S.permL hz4 hp4),rfl,hV4⟩
      ·have k7 : e = mid := by omega
       exact rPl ⟨rfl,rfl,d4,(permIn_trans _ _ _ _ _ (permIn_refl d a b) (permIn_mono _ _ _ _ _ _ (Nat.le_refl _) (by omega) (by rw[H.size hV];exact hb) hp4)),aE hs4 (by have h:=(SortedIn.same s4 fun k h5 h6=>hp4.2.1 k (by omega));rwa [k7]at h) (S.permL hz4 hp4),rfl,hV4⟩
     ·obtain rfl : mid = i := by omega
      refine ifd (fun k5=>?_) (fun k5=>?_)
      ·refine ifd (fun k6 => ?_) (fun k6 => ?_)
       ·refine cOw (IH _ e b d _ (by omega) (by omega) (by omega) (by omega) hV hle s3 s4) fun v μ' h' hle' hap hR => ?_
        obtain⟨rfl,e2,d5,hp5,hs5,rfl,hV5⟩:=hR
        obtain rfl:=e2.symm
        clear hle' hap
        exact rPl ⟨rfl,rfl,d5,permIn_trans _ _ _ _ _ (permIn_refl d a b) (permIn_mono _ _ _ _ _ _ (by omega) (Nat.le_refl _) (by rw[H.size hV];exact hb) hp5),aE (SortedIn.same s1 fun k h5 h6=>hp5.2.1 k (by omega)) hs5 (Split.permR S (by rw[H.size hV];exact hb) hp5),rfl,hV5⟩
       ·have k7 : e = b := by omega
        exact rPl ⟨rfl,rfl,d,(permIn_refl d a b),aE s1 (by have h:=s3;rwa [k7]at h) S,rfl,hV⟩
      ·have k7 : e = mid := by omega
       exact rPl ⟨rfl,rfl,d,(permIn_refl d a b),aE s1 (by have h:=s4;rwa [k7]at h) S,rfl,hV⟩
    ·obtain rfl : a = i := by omega
     refine ifd (fun k5=>?_) (fun k5=>?_)
     ·refine ifd (fun k6 => ?_) (fun k6 => ?_)
      ·refine cOw (IH _ e b d _ (by omega) (by omega) (by omega) (by omega) hV hle s3 s4) fun v μ' h' hle' hap hR => ?_
       obtain⟨rfl,e2,d5,hp5,hs5,rfl,hV5⟩:=hR
       obtain rfl:=e2.symm
       clear hle' hap
       exact rPl ⟨rfl,rfl,d5,permIn_trans _ _ _ _ _ (permIn_refl d a b) (permIn_mono _ _ _ _ _ _ (by omega) (Nat.le_refl _) (by rw[H.size hV];exact hb) hp5),aE (SortedIn.same s2 fun k h5 h6=>hp5.2.1 k (by omega)) hs5 (Split.permR S (by rw[H.size hV];exact hb) hp5),rfl,hV5⟩
      ·have k7 : e = b := by omega
       exact rPl ⟨rfl,rfl,d,(permIn_refl d a b),aE s2 (by have h:=s3;rwa [k7]at h) S,rfl,hV⟩
     ·have k7 : e = mid := by omega
      exact rPl ⟨rfl,rfl,d,(permIn_refl d a b),aE s2 (by have h:=s4;rwa [k7]at h) S,rfl,hV⟩
  ·have w_ := fW (mid := mid) h1 h2 hcut (Rot.right (by omega) (by omega) d) (by omega)
   obtain⟨S,s1,s2,s3,s4⟩:=w_
   refine ifd (fun k3=>?_) (fun k3=>?_)
   ·refine ifd (fun k4 => ?_) (fun k4 => ?_)
    ·refine cOw (IH a i mid d _ (by omega) (by omega) (by omega) (by omega) hV hle s1 s2) fun v μ' h' hle' hap hR => ?_
     obtain⟨rfl,e2,d4,hp4,hs4,rfl,hV4⟩:=hR
     obtain rfl:=e2.symm
     clear hle' hap
     have hz4:mid≤(d).size:=by rw[H.size hV];omega
     refine ifd (fun k5=>?_) (fun k5=>?_)
     ·refine ifd (fun k6 => ?_) (fun k6 => ?_)
      ·refine cOw (IH _ e b d4 _ (by omega) (by omega) (by omega) (by omega) hV4 hle (SortedIn.same s3 fun k h5 h6 => hp4.2.1 k (by omega)) (SortedIn.same s4 fun k h5 h6 => hp4.2.1 k (by omega))) fun v μ' h' hle' hap hR => ?_
       obtain⟨rfl,e2,d5,hp5,hs5,rfl,hV5⟩:=hR
       obtain rfl:=e2.symm
       clear hle' hap
       exact rPl ⟨rfl,rfl,d5,permIn_trans _ _ _ _ _ (permIn_trans _ _ _ _ _ (permIn_refl d a b) (permIn_mono _ _ _ _ _ _ (Nat.le_refl _) (by omega) (by rw[H.size hV];exact hb) hp4)) (permIn_mono _ _ _ _ _ _ (by omega) (Nat.le_refl _) (by rw[H.size hV4];exact hb) hp5),aE (SortedIn.same hs4 fun k h5 h6=>hp5.2.1 k (by omega)) hs5 (Split.permR (S.permL hz4 hp4) (by rw[H.size hV4];exact hb) hp5),rfl,hV5⟩
      ·have k7 : e = b := by omega
       exact rPl ⟨rfl,rfl,d4,(permIn_trans _ _ _ _ _ (permIn_refl d a b) (permIn_mono _ _ _ _ _ _ (Nat.le_refl _) (by omega) (by rw[H.size hV];exact hb) hp4)),aE hs4 (by have h:=(SortedIn.same s3 fun k h5 h6=>hp4.2.1 k (by omega));rwa [k7]at h) (S.permL hz4 hp4),rfl,hV4⟩
     ·have k7 : e = mid := by omega
      exact rPl ⟨rfl,rfl,d4,(permIn_trans _ _ _ _ _ (permIn_refl d a b) (permIn_mono _ _ _ _ _ _ (Nat.le_refl _) (by omega) (by rw[H.size hV];exact hb) hp4)),aE hs4 (by have h:=(SortedIn.same s4 fun k h5 h6=>hp4.2.1 k (by omega));rwa [k7]at h) (S.permL hz4 hp4),rfl,hV4⟩
    ·obtain rfl : mid = i := by omega
     refine ifd (fun k5=>?_) (fun k5=>?_)
     ·refine ifd (fun k6 => ?_) (fun k6 => ?_)
      ·refine cOw (IH _ e b d _ (by omega) (by omega) (by omega) (by omega) hV hle s3 s4) fun v μ' h' hle' hap hR => ?_
       obtain⟨rfl,e2,d5,hp5,hs5,rfl,hV5⟩:=hR
       obtain rfl:=e2.symm
       clear hle' hap
       exact rPl ⟨rfl,rfl,d5,permIn_trans _ _ _ _ _ (permIn_refl d a b) (permIn_mono _ _ _ _ _ _ (by omega) (Nat.le_refl _) (by rw[H.size hV];exact hb) hp5),aE (SortedIn.same s1 fun k h5 h6=>hp5.2.1 k (by omega)) hs5 (Split.permR S (by rw[H.size hV];exact hb) hp5),rfl,hV5⟩
      ·have k7 : e = b := by omega
       exact rPl ⟨rfl,rfl,d,(permIn_refl d a b),aE s1 (by have h:=s3;rwa [k7]at h) S,rfl,hV⟩
     ·have k7 : e = mid := by omega
      exact rPl ⟨rfl,rfl,d,(permIn_refl d a b),aE s1 (by have h:=s4;rwa [k7]at h) S,rfl,hV⟩
   ·obtain rfl : a = i := by omega
    refine ifd (fun k5=>?_) (fun k5=>?_)
    ·refine ifd (fun k6 => ?_) (fun k6 => ?_)
     ·refine cOw (IH _ e b d _ (by omega) (by omega) (by omega) (by omega) hV hle s3 s4) fun v μ' h' hle' hap hR => ?_
      obtain⟨rfl,e2,d5,hp5,hs5,rfl,hV5⟩:=hR
      obtain rfl:=e2.symm
      clear hle' hap
      exact rPl ⟨rfl,rfl,d5,permIn_trans _ _ _ _ _ (permIn_refl d a b) (permIn_mono _ _ _ _ _ _ (by omega) (Nat.le_refl _) (by rw[H.size hV];exact hb) hp5),aE (SortedIn.same s2 fun k h5 h6=>hp5.2.1 k (by omega)) hs5 (Split.permR S (by rw[H.size hV];exact hb) hp5),rfl,hV5⟩
     ·have k7 : e = b := by omega
      exact rPl ⟨rfl,rfl,d,(permIn_refl d a b),aE s2 (by have h:=s3;rwa [k7]at h) S,rfl,hV⟩
    ·have k7 : e = mid := by omega
     exact rPl ⟨rfl,rfl,d,(permIn_refl d a b),aE s2 (by have h:=s4;rwa [k7]at h) S,rfl,hV⟩
end
end Go.Vx
namespace Go.Vx
open Go.Proofs Classical
open Go.Sort
def Bl{α:Type}[Inhabited α](lt:α→α→Bool)(n s:Nat)(d:Array α):Prop:=∀t,SortedIn lt (t*s) (min n (t*s+s)) d
section
variable {α:Type} [Inhabited α] {lt:α→α→Bool} {n s q:Nat} {d d':Array α}
theorem SortedIn.none{a b:Nat}(h:b≤a):SortedIn lt a b d:=fun i j hi hij hj=>by omega
theorem Bl.grow(h:∀t,t<q→SortedIn lt (t*s) (t*s+s) d)(p:PermIn (q*s) (q*s+s) d d')(h2:SortedIn lt (q*s) (q*s+s) d'):∀t,t<q+1→SortedIn lt (t*s) (t*s+s) d':=fun t ht=>by
 rcases Nat.eq_or_lt_of_le (Nat.le_of_lt_succ ht)with e|e
 ·rw[e];exact h2
 ·have h3 : t * s + s ≤ q * s := by rw [← Nat.succ_mul]; exact Nat.mul_le_mul_right s e
  exact SortedIn.same (h t e) fun k h5 h6=>p.2.1 k (by omega)
theorem Bl.last(h:∀t,t<q→SortedIn lt (t*s) (t*s+s) d)(h1:q*s≤n)(hn:n<q*s+s)(p:PermIn (q*s) n d d')(h2:SortedIn lt (q*s) n d'):Bl lt n s d':=fun t=>by
 rcases Nat.lt_trichotomy t q with e|e|e
 ·have h3 : t * s + s ≤ q * s := by rw [← Nat.succ_mul]; exact Nat.mul_le_mul_right s e
  rw[Nat.min_eq_right (by omega)]
  exact SortedIn.same (h t e) fun k h5 h6=>p.2.1 k (by omega)
 ·rw[e,Nat.min_eq_left (by omega)];exact h2
 ·have h3 : q * s + s ≤ t * s := by rw [← Nat.succ_mul]; exact Nat.mul_le_mul_right s e
  exact SortedIn.none (by omega)
theorem qQq(q s:Nat):q*(2*s)=2*q*s:=by rw[←Nat.mul_assoc,Nat.mul_comm q 2]
theorem Bl.keep{a b m:Nat}(h:∀t,m≤t→SortedIn lt (t*s) (min n (t*s+s)) d){m':Nat}(hm:m≤m')(p:PermIn a b d d')(hb:b≤m'*s):∀t,m'≤t→SortedIn lt (t*s) (min n (t*s+s)) d':=fun t ht=>
 SortedIn.same (h t (by omega)) fun k h5 h6=>p.2.1 k (.inr (by have:=Nat.mul_le_mul_right s ht;omega))
end
section
variable {α:Type} [Inhabited α] {lf sf:FuncId} {lb sb:List Value} {n:Nat} {lt:α→α→Bool} {μ0:Mem} {J:Array α→Mem} {V:Array α→Prop} {μ:Mem} {d0:Array α}
set_option maxHeartbeats 1000000 in
theorem qAj(H:SortBy lf sf lb sb n lt μ0 J V)(hO:SWO lt)(hle:μ0.Le μ)(hV:V d0):
  SpecH Tryz.prog 197 [vB lf sf lb sb,.int .i64 n] μ (J d0) fun v μ' h'=>v= .tuple #[]∧μ'=μ∧∃d',PermIn 0 n d0 d'∧SortedIn lt 0 n d'∧h'=J d'∧V d':=by
 have hn:=H.max
 refine SpecH.mk [] Tryz.func197 (by kernel_rfl) ?_
 intro r1
 refine lIn (fun p:Nat×Array α=>p.1*20≤n∧V p.2∧PermIn 0 n d0 p.2∧∀t,t<p.1→SortedIn lt (t*20) (t*20+20) p.2)
  (fun(q,c)=>⟨[(1,.val (.int .i64 n)),(2,.loc 0 r1 0),(4,.val (.int .i64 20)),(5,.val (.int .i64 (q*20:Nat))),(6,.val (.int .i64 (q*20+20:Nat)))],oF r1 lf sf lb sb,1,μ,J c⟩) (fun p=>n-p.1*20)
  (0,d0) ⟨by simp,hV,permIn_refl _ _ _,fun t h=>by simp at h⟩ (fun(_,_)=>⟨rfl,rfl⟩) ⟨⟨rfl,rfl,rfl,rfl,rfl,trivial⟩,⟨rfl,trivial⟩,rfl,rfl⟩ ?_
 rintro⟨q,c⟩ ⟨hq,hs,hp,hB⟩
 dsimp only at hq hs hp hB
 have hcs:=H.size hs
 refine ifd (fun h=>?_) (fun h=>?_)
 ·have hI := insertionSort_holds hO c (q * 20) (q * 20 + 20) (by omega) (by omega)
  refine cOw (iY H hle hs (a:=q*20) (b:=q*20+20) (by omega) (by omega)) fun v μ' h' hle' hap hR=>?_
  obtain⟨rfl,e2,rfl,hV2⟩:=hR
  obtain rfl:=e2.symm
  clear hle' hap
  refine nEq (x:=(((q+1)*20+20:Nat):Int)) (by rw[aA (by omega) (by omega)];omega) ?_
  refine⟨(q+1,insertionSort lt c (q*20) (q*20+20)),⟨by dsimp only;omega,hV2,permIn_trans _ _ _ _ _ hp (permIn_mono _ _ _ _ _ _ (Nat.zero_le _) (by omega) (by omega) hI.1),Bl.grow hB hI.1 hI.2⟩,by dsimp only;omega,⟨⟨rfl,rfl,rfl,?_,rfl,trivial⟩,⟨rfl,trivial⟩,rfl,rfl⟩⟩
  show some _=some _
  rw[show(q+1)*20=q*20+20 by omega]
 have hI:=insertionSort_holds hO c (q*20) n (by omega) (by omega)
 refine cOw (iY H hle hs (a:=q*20) (b:=n) (by omega) (by omega)) fun v μ' h' hle' hap hR=>?_
 obtain⟨rfl,e2,rfl,hV2⟩:=hR
 obtain rfl:=e2.symm
 clear hle' hap
 have hp2:=permIn_trans _ _ _ _ _ hp (permIn_mono _ _ _ _ _ _ (Nat.zero_le _) (Nat.le_refl _) (by omega) hI.1)
 have hB2:Bl lt n 20 (insertionSort lt c (q*20) n):=Bl.last hB hq (by omega) hI.1 hI.2
 generalize insertionSort lt c (q*20) n=d1 at*
 refine lIn (fun p:Nat×Nat×Nat×Array α=>20≤p.1∧p.1≤2*n+20∧V p.2.2.2∧PermIn 0 n d0 p.2.2.2∧Bl lt n p.1 p.2.2.2)
  (fun(s,a,b,c)=>⟨[(1,.val (.int .i64 n)),(2,.loc 0 r1 0),(4,.val (.int .i64 s))],oF r1 lf sf lb sb,1,μ,J c⟩) (fun p=>n-p.1)
  (20,q*20,n,d1) ⟨Nat.le_refl _,by dsimp only;omega,hV2,hp2,hB2⟩ (fun(_,_,_,_)=>⟨rfl,rfl⟩) ⟨⟨rfl,rfl,rfl,trivial⟩,⟨rfl,trivial⟩,rfl,rfl⟩ ?_
 clear hV2 hp2 hB2 hI hB hp hs hcs h hq
 rintro⟨s,a,b,c⟩ ⟨hs1,hs2,hs,hp,hB⟩
 dsimp only at hs1 hs2 hs hp hB
 refine ifd (fun h=>?_) (fun h=>?_)
 ·refine nEq (x := ((2 * s : Nat) : Int)) (by rw [aA (by omega) (by omega)]; omega) ?_
  refine lIn (fun p:Nat×Array α=>p.1*(2*s)≤n∧V p.2∧PermIn 0 n d0 p.2∧(∀t,t<p.1→SortedIn lt (t*(2*s)) (t*(2*s)+2*s) p.2)∧∀t,2*p.1≤t→SortedIn lt (t*s) (min n (t*s+s)) p.2)
   (fun(q,c)=>⟨[(1,.val (.int .i64 n)),(2,.loc 0 r1 0),(4,.val (.int .i64 s)),(5,.val (.int .i64 (q*(2*s):Nat))),(6,.val (.int .i64 (q*(2*s)+2*s:Nat)))],oF r1 lf sf lb sb,1,μ,J c⟩) (fun p=>n-p.1*(2*s))
   (0,c) ⟨by simp,hs,hp,fun t h=>by simp at h,fun t _=>hB t⟩ (fun(_,_)=>⟨rfl,rfl⟩) ⟨⟨rfl,rfl,rfl,by show some _=some _;rw[Nat.zero_mul];rfl,by show some _=some _;rw[Nat.zero_mul,Nat.zero_add],trivial⟩,⟨rfl,trivial⟩,rfl,rfl⟩ ?_
  clear hp hs hB
  rintro⟨q,c⟩ ⟨hq,hs,hp,hL,hB⟩
  dsimp only at hq hs hp hL hB
  have hcs:=H.size hs
  have e1:2*q*s=q*(2*s):=(qQq q s).symm
  have e2:(2*q+1)*s=q*(2*s)+s:=by rw[Nat.succ_mul,e1]
  have e3:(2*(q+1))*s=q*(2*s)+2*s:=by rw[←qQq,Nat.succ_mul]
  have e4:(q+1)*(2*s)=q*(2*s)+2*s:=Nat.succ_mul _ _
  have b1:=hB (2*q) (Nat.le_refl _)
  have b2:=hB (2*q+1) (by omega)
  rw[e1]at b1
  rw[e2]at b2
  refine ifd (fun h2=>?_) (fun h2=>?_)
  ·rw [Nat.min_eq_right (by omega)] at b1 b2
   refine nEq (x:=((q*(2*s)+s:Nat):Int)) (by rw[aA (by omega) (by omega)];omega) ?_
   refine cOw (nW H hO (n+1) (q*(2*s)) (q*(2*s)+s) (q*(2*s)+2*s) c _ (by omega) (by omega) (by omega) (by omega) hs hle b1 (by rw[show q*(2*s)+2*s=q*(2*s)+s+s by omega];exact b2)) fun v μ' h' hle' hap hR=>?_
   obtain⟨rfl,e2,d4,hp4,hs4,rfl,hV4⟩:=hR
   obtain rfl:=e2.symm
   clear hle' hap
   refine nEq (x:=((2*s:Nat):Int)) (by rw[aA (by omega) (by omega)];omega) ?_
   refine nEq (x:=(((q+1)*(2*s)+2*s:Nat):Int)) (by rw[aA (by omega) (by omega),e4];omega) ?_
   refine⟨(q+1,d4),⟨by dsimp only;omega,hV4,permIn_trans _ _ _ _ _ hp (permIn_mono _ _ _ _ _ _ (Nat.zero_le _) (by omega) (by omega) hp4),Bl.grow hL hp4 hs4,Bl.keep hB (by dsimp only;omega) hp4 (by dsimp only;omega)⟩,by dsimp only;omega,⟨⟨rfl,rfl,rfl,?_,rfl,trivial⟩,⟨rfl,trivial⟩,rfl,rfl⟩⟩
   show some _=some _
   rw[e4]
  ·refine nEq (x := ((q * (2 * s) + s : Nat) : Int)) (by rw [aA (by omega) (by omega)]; omega) ?_
   refine ifd (fun h3=>?_) (fun h3=>?_)
   ·rw [Nat.min_eq_right (by omega)] at b1
    rw[Nat.min_eq_left (by omega)]at b2
    refine cOw (nW H hO (n+1) (q*(2*s)) (q*(2*s)+s) n c _ (by omega) (by omega) (by omega) (by omega) hs hle b1 b2) fun v μ' h' hle' hap hR=>?_
    obtain⟨rfl,e2,d4,hp4,hs4,rfl,hV4⟩:=hR
    obtain rfl:=e2.symm
    clear hle' hap
    refine nEq (x:=((2*s:Nat):Int)) (by rw[aA (by omega) (by omega)];omega) ?_
    exact⟨(2*s,0,0,d4),⟨by dsimp only;omega,by dsimp only;omega,hV4,permIn_trans _ _ _ _ _ hp (permIn_mono _ _ _ _ _ _ (Nat.zero_le _) (by omega) (by omega) hp4),Bl.last hL (by dsimp only;omega) (by dsimp only;omega) hp4 hs4⟩,by dsimp only;omega,⟨⟨rfl,rfl,rfl,trivial⟩,⟨rfl,trivial⟩,rfl,rfl⟩⟩
   ·rw [Nat.min_eq_left (by omega)] at b1
    refine nEq (x:=((2*s:Nat):Int)) (by rw[aA (by omega) (by omega)];omega) ?_
    exact⟨(2*s,0,0,c),⟨by dsimp only;omega,by dsimp only;omega,hs,hp,Bl.last hL (by dsimp only;omega) (by dsimp only;omega) (permIn_refl _ _ _) b1⟩,by dsimp only;omega,⟨⟨rfl,rfl,rfl,trivial⟩,⟨rfl,trivial⟩,rfl,rfl⟩⟩
 ·have hz := hB 0
  rw[Nat.zero_mul,Nat.zero_add,Nat.min_eq_left (by omega)]at hz
  exact rPl ⟨rfl,rfl,c,hp,hz,rfl,hs⟩
end
section
variable {α:Type} [Inhabited α] {enc:α→Value} {μ h0:Mem} {r:Nat} {ty t e:TypeId} {i ie:TypeInfo} {ke:Nat} {ti:TI} {rest:List Value} {d0:Array α} {n cap:Nat} {lf:FuncId} {lb:List Value} {lt:α→α→Bool}
theorem qAk{sf:FuncId}{sb:List Value}(hn:n≤1):SpecH Tryz.prog 197 [vB lf sf lb sb,.int .i64 n] μ h0 fun v μ' h'=>v= .tuple #[]∧μ'=μ∧h'=h0:=by
 refine SpecH.mk [] Tryz.func197 (by kernel_rfl) ?_
 intro r1
 refine lIn (fun _:Unit=>True)
  (fun _=>⟨[(1,.val (.int .i64 n)),(2,.loc 0 r1 0),(4,.val (.int .i64 20)),(5,.val (.int .i64 0)),(6,.val (.int .i64 20))],oF r1 lf sf lb sb,1,μ,h0⟩) (fun _=>0)
  () trivial (fun _=>⟨rfl,rfl⟩) ⟨⟨rfl,rfl,rfl,rfl,rfl,trivial⟩,⟨rfl,trivial⟩,rfl,rfl⟩ ?_
 intro _ _
 refine ifd (fun h=>by omega) (fun h=>?_)
 refine cOw (oI hn) fun v μ' h' hle' hap hR=>?_
 obtain⟨rfl,e1,rfl⟩:=hR
 obtain rfl:=e1.symm
 refine lIn (fun _:Unit=>True)
  (fun _=>⟨[(1,.val (.int .i64 n)),(2,.loc 0 r1 0),(4,.val (.int .i64 20))],oF r1 lf sf lb sb,1,μ,h'⟩) (fun _=>0)
  () trivial (fun _=>⟨rfl,rfl⟩) ⟨⟨rfl,rfl,rfl,trivial⟩,⟨rfl,trivial⟩,rfl,rfl⟩ ?_
 intro _ _
 refine ifd (fun h=>by omega) (fun h=>?_)
 exact rPl ⟨rfl,rfl,rfl⟩
theorem tS(T:SlTy t e i ie ke)(hti:TIok Tryz.prog e ti)(h1:ti.agg=false→ti.size=1)(hE:Els ti.size (d0.map enc))(hn:d0.size=n)(hmax:n≤1000000000000)(hO:SWO lt)
  (less:∀{μ':Mem} {d:Array α} {i j:Nat},μ.Le μ'→PermIn 0 n d0 d→i<n→j<n→SpecH Tryz.prog lf (.int .i64 i:: .int .i64 j::lb) μ' (RowV h0 r ty rest (d.map enc)) fun v μ'' h'=>v= .bool (lt d[i]! d[j]!)∧μ''=μ'∧h'=RowV h0 r ty rest (d.map enc)):
  SpecH Tryz.prog 133 [.iface t (.slice (some ⟨r,0,none⟩) n cap),.func (.func lf) #[] lb.toArray] μ (RowV h0 r ty rest (d0.map enc)) fun v _ h'=>v= .tuple #[]∧∃d',PermIn 0 n d0 d'∧SortedIn lt 0 n d'∧h'=RowV h0 r ty rest (d'.map enc):=by
 refine SpecH.mk [] Tryz.func133 (by kernel_rfl) ?_
 refine cPl (qAn T _ _ _) fun v μ1 hle1 hR=>?_
 obtain⟨rv,rfl,hrv⟩:=hR
 intro r4
 have w_:=qAl (μ:=μ1) T (some ⟨r,0,none⟩) (n:=n) cap
 obtain⟨k,bs,hk,hsw⟩:=w_
 refine cGv hsw ?_
 refine cGv (xZ T hrv) ?_
 by_cases h2:2≤n
 ·have w_ := hk h2
  obtain⟨rfl,rfl⟩:=w_
  refine cOw (qAj (SortBy.row (cap:=cap) hti h1 hE hn hmax less) hO hle1 (permIn_refl _ _ _)) fun v μ' h' hle hap hR=>?_
  obtain⟨rfl,_,d',p1,p2,rfl,_⟩:=hR
  exact rPl ⟨rfl,d',p1,p2,rfl⟩
 ·refine cOw (qAk (by omega)) fun v μ' h' hle hap hR => ?_
  obtain⟨rfl,e1,rfl⟩:=hR
  exact rPl ⟨rfl,d0,permIn_refl _ _ _,fun a b _ h3 h4=>by omega,rfl⟩
end
end Go.Vx
namespace Go.Vx
open Go.Proofs Classical
theorem mQ{α:Type}{c:α→α→Int}{l m:List α}{i:Nat}(h:¬(i<l.length∧i<m.length))(h2:i≤l.length)(h3:i≤m.length)(e:cU c (l.drop i) (m.drop i)=cU c l m):cU c l m=kX l.length m.length:=by
 rw[←e]
 rcases Nat.lt_or_ge i l.length with k|k
 ·obtain rfl : i = m.length := by omega
  rw[List.drop_length]
  have w_:=aSo k
  obtain⟨x,hx⟩:=w_
  rw[bR hx,cU,kX,if_neg (by omega),decide_eq_false (by omega)]
  rfl
 ·obtain rfl : i = l.length := by omega
  rw[List.drop_length]
  rcases Nat.eq_or_lt_of_le h3 with k2|k2
  ·rw[k2,List.drop_length,cU,kX,if_pos rfl]
  ·have w_ := aSo k2
   obtain⟨x,hx⟩:=w_
   rw[bR hx,cU,kX,if_neg (by omega),decide_eq_true (by omega)]
   rfl
theorem pQ{p q:Int}(h:p≠0):kT p q=p:=by rw[kT,if_neg h]
theorem pP{p q:Int}(h:p=0):kT p q=q:=by rw[kT,if_pos h]
section
variable {μ:Mem}
theorem jG(a b:Int):aM Tryz.prog 211 [.int .i64 a,.int .i64 b] μ (.int .i64 (kX a b)):=by
 by_cases h:a=b
 ·rw [kX, if_pos h]
  refine Spec.mk Tryz.func211 (by kernel_rfl) ?_
  refine ifd (fun h1=>by omega) (fun h1=>?_)
  exact ifd (fun h2=>by omega) (fun h2=>rGv rfl rfl)
 ·rw[kX,if_neg h];exact eR a b h
end
end Go.Vx
namespace Go.Vx
open Go.Proofs Classical
section
variable {μ:Mem}
theorem rE:∀(g:Gl) {v:Value},RepV μ g.d v→aM Tryz.prog 187 [v,.bool false] μ (.bool (decide g.Pos)):=
 Gl.ind fun g ih v hv=>by
  have w_:=Gl.inv hv
  obtain⟨p,rfl,hts,hgs⟩:=w_
  have hn:=aH hgs.max
  refine Spec.mk Tryz.func187 (by kernel_rfl) ?_
  intro r
  refine lIn (fun i:Nat=>i≤g.goals.length∧∀(j:Nat) x,j<i→g.goals[j]? =some x→x.Pos)
   (fun i=>⟨[(1,.val (.bool false)),(2,.loc 0 r 0),(8,.val (.slice p.2.1 g.goals.length p.2.2)),(9,.val (.int .i64 g.goals.length)),(10,.val (.int .i64 i))],[(0,some (.cells r [.val (.int .i64 g.kind),.val (.string g.name),.val (.slice p.1.1 g.terms.length p.1.2),.val (.slice p.2.1 g.goals.length p.2.2)] 61))],1,μ,Mem.nil⟩) (fun i=>g.goals.length-i)
   0 ⟨Nat.zero_le _,fun j x h=>by omega⟩ (fun _=>⟨rfl,rfl⟩) ⟨⟨rfl,rfl,rfl,rfl,rfl,trivial⟩,⟨rfl,trivial⟩,rfl,rfl⟩ ?_
  rintro i ⟨hi,hall⟩
  refine ifd (fun hlt=>?_) (fun hlt=>?_)
  ·have w_ := aSo (l := g.goals) (i := i) (by omega)
   obtain⟨t,ht⟩:=w_
   have w_:=Gl.elem hgs ht
   obtain⟨ad,p3,hel,hr⟩:=w_
   refine eIn hel ?_
   intro r2
   refine cGv (ih t (mAt ht) hr) ?_
   refine aL (fun h=>rGv ?_ rfl) (fun h=>?_)
   ·rw[decide_eq_false fun k=>h (((Gl.pos_eq g).1 k).2 t (mAt ht))]
   ·refine aB (by omega) (by omega) ⟨i + 1, ⟨by omega, fun j y hj hy => ?_⟩, by omega, ⟨⟨rfl, rfl, rfl, rfl, rfl, trivial⟩, ⟨rfl, trivial⟩, rfl, rfl⟩⟩
    rcases Nat.lt_or_ge j i with h6|h6
    ·exact hall j y h6 hy
    ·obtain rfl : j = i := by omega
     rw[ht]at hy;cases hy;exact h
  ·obtain rfl : i = g.goals.length := by omega
   have hsub:∀x∈g.goals,x.Pos:=fun x hx=>by
    have w_:=List.mem_iff_getElem?.1 hx
    obtain⟨j,hj⟩:=w_
    exact hall j x (List.getElem?_eq_some_iff.1 hj).1 hj
   refine aL (fun h=>?_) (fun h=>?_)
   ·refine iIn (fun h => nomatch h) (fun _ => ?_)
    exact rGv (by rw[decide_eq_true ((Gl.pos_eq g).2 ⟨h,hsub⟩)];rfl) rfl
   ·exact rGv (by rw[decide_eq_false fun k=>((Gl.pos_eq g).1 k).1 h]) rfl
theorem tE{p:Pg}{v:Value}(hp:RepV μ p.d v)(hw:p.d.wd):Spec Tryz.prog 125 [v,.bool false] μ fun r _=>r= .bool (decide p.Pos):=by
 have w_:=Pg.inv hp
 obtain⟨q,rfl,hrl⟩:=w_
 refine Spec.mk Tryz.func125 (by kernel_rfl) ?_
 intro r1
 refine cPl (bD hp hw) fun v1 μ1 hle1 hR=>?_
 obtain rfl:=hR
 refine aL (fun h=>rPl (isF fun k=>h k.1)) (fun hok=>?_)
 have hn:=hok.1
 refine lIn (fun i:Nat=>i≤p.rels.length∧∀(j:Nat) x,j<i→p.rels[j]? =some x→x.body.Pos)
  (fun i=>⟨[(1,.val (.bool false)),(11,.val (.slice q.1 p.rels.length q.2)),(12,.val (.int .i64 p.rels.length)),(13,.val (.int .i64 i))],[],1,μ1,Mem.nil⟩) (fun i=>p.rels.length-i)
  0 ⟨Nat.zero_le _,fun j x h=>by omega⟩ (fun _=>⟨rfl,rfl⟩) ⟨⟨rfl,rfl,rfl,rfl,trivial⟩,trivial,rfl,rfl⟩ ?_
 rintro i ⟨hi,hall⟩
 refine ifd (fun hlt=>?_) (fun hlt=>?_)
 ·have w_ := aSo (l := p.rels) (i := i) (by omega)
  obtain⟨x,hx⟩:=w_
  have w_:=Rl.elemA (hrl.mono hle1) hx
  obtain⟨ad,q2,hel,hr,hb⟩:=w_
  have hb:RepV μ1 x.body.d (.agg (x.body.cs q2).toArray):=hb
  refine eIn hel ?_
  intro r2
  refine cGv (rE x.body hb) ?_
  refine aL (fun h=>rPl (isF fun k=>h (k.2 x (mAt hx)))) (fun h=>?_)
  refine aB (by omega) (by omega) ⟨i+1,⟨by omega,fun j y hj hy=>?_⟩,by omega,⟨⟨rfl,rfl,rfl,rfl,trivial⟩,trivial,rfl,rfl⟩⟩
  rcases Nat.lt_or_ge j i with h6|h6
  ·exact hall j y h6 hy
  ·obtain rfl : j = i := by omega
   rw[hx]at hy;cases hy;exact h
 ·obtain rfl : i = p.rels.length := by omega
  exact rPl (isT ⟨hok,fun x hx=>by
   have w_:=List.mem_iff_getElem?.1 hx
   obtain⟨j,hj⟩:=w_
   exact hall j x (List.getElem?_eq_some_iff.1 hj).1 hj⟩)
theorem eS{p:Pg}{v:Value}(hp:RepV μ p.d v)(hw:p.d.wd):Spec Tryz.prog 53 [v] μ fun r _=>r= .bool (decide p.Pos):=by
 have w_:=Pg.inv hp
 obtain⟨q,rfl,hrl⟩:=w_
 refine Spec.mk Tryz.func53 (by kernel_rfl) ?_
 intro r1
 refine cPl (tE hp hw) fun v1 μ1 hle1 hR=>?_
 obtain rfl:=hR
 exact rPl rfl
theorem vV(n:Int):aM Tryz.prog 217 [.int .i64 n] μ (.bool (decide (n=10))):=by
 refine Spec.mk Tryz.func217 (by kernel_rfl) ?_
 exact rGv rfl rfl
theorem xP{H:Mem}{r3:Nat}(r:Nat)(b:Bool){g:Gl}{v:Value}(hv:RepV μ g.d v)(hne:r3≠r)(h3:H r3=some (.cells #[.func (.func 217) #[] #[]] 161 (0,0))):
  SpecH Tryz.prog 255 [v,.pointer (some ⟨r,0,none⟩),.pointer (some ⟨r3,0,none⟩)] μ (pR H r b) fun r' μ' h'=>r'= .tuple #[]∧μ'=μ∧h'=pR H r (b||decide (g.kind=10)):=by
 have w_:=Gl.inv hv
 obtain⟨p,rfl,-,-⟩:=w_
 refine SpecH.mk [] Tryz.func255 (by kernel_rfl) ?_
 intro r0
 refine oIn [.bool b] rfl (bJ (set_self _ _ _)) ?_
 refine iIn (fun hb=>?_) (fun hb=>?_)
 ·refine sIn (h := pR H r b) (a := ⟨r, 0, none⟩) [.bool b] 4 (set_self _ _ _) rfl (Nat.le_refl _) ?_
  exact rPl ⟨rfl,rfl,by rw[hb];exact Mem.set_set _ _ _ _⟩
 ·refine oIn [.func (.func 217) #[] #[]] rfl (bJ ((Mem.set_ne hne).trans h3)) ?_
  refine cGv (vV _) ?_
  refine sIn (h:=pR H r b) (a:=⟨r,0,none⟩) [.bool b] 4 (set_self _ _ _) rfl (Nat.le_refl _) ?_
  exact rPl ⟨rfl,rfl,by rw[hb];exact Mem.set_set _ _ _ _⟩
theorem qFz:∀(l:List Gl) (b:Bool),l.foldl (fun b g=>b||decide (g.kind=10)) b=(b|| !decide (∀x∈l,x.kind≠10))
 |[],b=>by simp
 |a::l,b=>by
  rw[List.foldl_cons,qFz l]
  by_cases h:a.kind=10<;>cases b<;>simp[h]
theorem zR{g:Gl}{v:Value}(hv:RepV μ g.d v):Spec Tryz.prog 216 [v,.func (.func 217) #[] #[]] μ fun r μ'=>r= .bool (!decide g.Pos)∧μ'=μ:=by
 have w_:=Gl.inv hv
 obtain⟨p,rfl,-,-⟩:=w_
 refine Spec.mkO [3,5] Tryz.func216 (by kernel_rfl) ?_
 intro r1 r3 hm3 ho3 r5 hm5 ho5
 have hne:r3≠r5:=fun e=>by
  subst e
  have h:Mem.set Mem.nil r3 _ r3=none:=ho5
  rw[Mem.set_at]at h;cases h
 refine sIn [.bool false] 4 (Mem.set_at _ _ _) rfl (Nat.le_refl _) ?_
 refine cOw (R:=fun r μ' h'=>r= .tuple #[]∧μ'=μ∧h'=pR (Mem.nil.set r3 (.cells #[.func (.func 217) #[] #[]] 161 (0,0))) r5 (g.all.foldl (fun b g=>b||decide (g.kind=10)) false)) ?_ fun v μ' h' hle hap hR=>?_
 ·have:=iA (μ:=μ) (fun b h=>h=pR (Mem.nil.set r3 (.cells #[.func (.func 217) #[] #[]] 161 (0,0))) r5 b) (fun b g=>b||decide (g.kind=10)) (fun _=>True) (k:=255) (caps:=[.pointer (some ⟨r5,0,none⟩),.pointer (some ⟨r3,0,none⟩)])
   (fun s h x v _ hx hj=>by subst hj;exact xP r5 s hx hne (Mem.set_at _ _ _)) g false _ hv (fun _ _=>trivial) rfl
  have e:∀X:Mem,((X.set r5 (.cells #[.bool false] 4 (0,0))).set r5 (.cells #[.bool false] 4 (0,0)))=pR X r5 false:=fun X=>Mem.set_set _ _ _ _
  rw[←e]at this
  exact this
 obtain⟨rfl,e4,rfl⟩:=hR
 obtain rfl:=e4.symm
 rw[qFz,Bool.false_or]
 refine oIn [.bool (!decide (∀x∈g.all,x.kind≠10))] rfl (bJ (set_self _ _ _)) ?_
 exact rPl ⟨congrArg (fun b=>Value.bool (!b)) (decide_eq_decide.2 Iff.rfl),rfl⟩
theorem xW{g:Gl}{v:Value}(hv:RepV μ g.d v):Spec Tryz.prog 155 [v] μ fun r μ'=>r= .bool (!decide g.Pos)∧μ'=μ:=by
 have hv0:=hv
 have w_:=Gl.inv hv
 obtain⟨p,rfl,-,-⟩:=w_
 refine Spec.mk Tryz.func155 (by kernel_rfl) ?_
 intro r1
 refine cPl (zR hv0) fun v1 μ1 hle1 hR=>?_
 obtain⟨rfl,e⟩:=hR
 obtain rfl:=e.symm
 exact rPl ⟨rfl,rfl⟩
theorem xX{p:Pg}{v:Value}(hp:RepV μ p.d v):Spec Tryz.prog 84 [v] μ fun r μ'=>r= .bool (decide (∀r∈p.rels,r.body.Pos))∧μ'=μ:=by
 have w_:=Pg.inv hp
 obtain⟨q,rfl,hrl⟩:=w_
 have hn:=aH hrl.max
 refine Spec.mk Tryz.func84 (by kernel_rfl) ?_
 intro r1
 refine lIn (fun i:Nat=>i≤p.rels.length∧∀(j:Nat) x,j<i→p.rels[j]? =some x→x.body.Pos)
  (fun i=>⟨[(6,.val (.slice q.1 p.rels.length q.2)),(7,.val (.int .i64 p.rels.length)),(8,.val (.int .i64 i))],[],1,μ,Mem.nil⟩) (fun i=>p.rels.length-i)
  0 ⟨Nat.zero_le _,fun j x h=>by omega⟩ (fun _=>⟨rfl,rfl⟩) ⟨⟨rfl,rfl,rfl,trivial⟩,trivial,rfl,rfl⟩ ?_
 rintro i ⟨hi,hall⟩
 refine ifd (fun hlt=>?_) (fun hlt=>?_)
 ·have w_ := aSo (l := p.rels) (i := i) (by omega)
  obtain⟨x,hx⟩:=w_
  have w_:=Rl.elemA hrl hx
  obtain⟨ad,q2,hel,hr,hb⟩:=w_
  have hb:RepV μ x.body.d (.agg (x.body.cs q2).toArray):=hb
  refine eIn hel ?_
  intro r2
  refine cPl (xW hb) fun v1 μ1 hle1 hR=>?_
  obtain⟨rfl,e⟩:=hR
  obtain rfl:=e.symm
  refine iIn (fun h=>rPl ⟨isF fun k=>?_,rfl⟩) (fun h=>?_)
  ·have:=k x (mAt hx);simp[this]at h
  ·have hpos : x.body.Pos := by simpa using h
   refine aB (by omega) (by omega) ⟨i+1,⟨by omega,fun j y hj hy=>?_⟩,by omega,⟨⟨rfl,rfl,rfl,trivial⟩,trivial,rfl,rfl⟩⟩
   rcases Nat.lt_or_ge j i with h6|h6
   ·exact hall j y h6 hy
   ·obtain rfl : j = i := by omega
    rw[hx]at hy;cases hy;exact hpos
 ·obtain rfl : i = p.rels.length := by omega
  exact rPl ⟨isT fun x hx=>by
   have w_:=List.mem_iff_getElem?.1 hx
   obtain⟨j,hj⟩:=w_
   exact hall j x (List.getElem?_eq_some_iff.1 hj).1 hj,rfl⟩
theorem mZ{p:Pg}{v:Value}(hp:RepV μ p.d v):Spec Tryz.prog 31 [v] μ fun r _=>r= .bool (decide p.Pos):=by
 have w_:=Pg.inv hp
 obtain⟨q,rfl,hrl⟩:=w_
 refine Spec.mk Tryz.func31 (by kernel_rfl) ?_
 intro r1
 refine cPl (dO hp) fun v1 μ1 hle1 hR=>?_
 obtain rfl:=hR
 refine ifd (fun hok=>?_) (fun hok=>rPl (isF fun k=>hok k.1))
 refine cPl (xX (hp.mono hle1)) fun v2 μ2 hle2 hR=>?_
 obtain⟨rfl,e⟩:=hR
 refine rPl ?_
 by_cases h:∀r∈p.rels,r.body.Pos
 ·rw[decide_eq_true h,decide_eq_true (show p.Pos from⟨hok,h⟩)]
 ·rw[decide_eq_false h,decide_eq_false fun k:p.Pos=>h k.2]
end
end Go.Vx
namespace Go.Vx
open Go.Proofs Classical
theorem Gl.cl_eq(g:Gl):g.cl=if g.kind=0 then some [[]]else if g.kind=1 then some []else if g.kind=8 then Gl.clOr g.goals []else if g.kind=7 then Gl.clAnd g.goals [[]]else some [[g]]:=by
 cases g;rw[Gl.cl];rfl
theorem dW(a l:List (List Gl)):(cK a l).length=a.length*l.length:=by
 unfold cK
 induction a with
 |nil=>simp
 |cons x a ih=>rw[List.flatMap_cons,List.length_append,ih,List.length_map,List.length_cons,Nat.succ_mul];omega
theorem nN{a l:List (List Gl)}{j:Nat}{x:List Gl}(h:a[j]? =some x):cK (a.take (j+1)) l=cK (a.take j) l++l.map fun y=>x++y:=by
 rw[cK,List.take_add_one,h,Option.toList_some,List.flatMap_append]
 simp[cK]
section
variable {μ:Mem}
theorem sL{c:List Gl}{v:Value}(h:RepV μ (csD c) v):∃p:Option Addr×Nat,v= .slice p.1 c.length p.2:=by
 have w_:=Rep.sl (xs:=c.map Gl.d) h
 obtain⟨b,k,rfl,_⟩:=w_
 exact⟨(b,k),by rw[List.length_map]⟩
theorem cF{L:List (List Gl)}{base:Option Addr}{n:Nat}(h:Sl μ 1 base n (L.map csD)){i:Nat}{c:List Gl}(hc:L[i]? =some c):
  ∃ad,∃p:Option Addr×Nat,ElemAt μ base n 1 i ad [.slice p.1 c.length p.2]∧RepV μ (csD c) (.slice p.1 c.length p.2):=by
 have w_:=h.get i (csD c) (by simp[hc])
 obtain⟨ad,cs,h1,h2⟩:=w_
 have h3:Rep μ (.sl 4 (c.map Gl.d)) cs:=h2
 have hl:=Rep.len _ _ h3
 match cs,hl with
 |[v],_=>
  have w_:=sL (c:=c) h3
  obtain⟨p,rfl⟩:=w_
  exact⟨ad,p,h1,h3⟩
theorem mI{c:List Gl}{p:Option Addr×Nat}(h:RepV μ (csD c) (.slice p.1 c.length p.2)):∃vs,Rows μ 4 (c.map Gl.d) vs∧vs.length=c.length∧lW μ p.1 c.length 4 vs:=Rep.srcAll h
set_option maxHeartbeats 8000000 in
theorem mB:∀(g:Gl) {μ:Mem} {v:Value},RepV μ g.d v→g.Sh→g.cnt≤80→Spec Tryz.prog 169 [v] μ fun v μ'=>∃L,ClsOk μ' g v L:=
 Gl.ind fun g ih μ v hv hS hcnt=>by
  have hv0:=hv
  have w_:=Gl.inv hv
  obtain⟨p,rfl,hts,hgs⟩:=w_
  have hg8:=hS.top.gl
  have hce:=Gl.cnt_eq1 g
  refine Spec.mk Tryz.func169 (by kernel_rfl) ?_
  intro r1 r15
  refine ifd (fun h0=>?_) (fun h0=>?_)
  ·intro r20 μ1 hle1 hno1 hat1 r21
   refine rFz [3] fun μ2 hle2 hno2 hat2=> .inl ⟨[[]],?_,?_,?_,?_⟩
   ·exact Rows.sl hat2 (Rows.one (d:=csD []) ((Rows.sl (μ:=μ1) (ds:=[]) hat1 .nil (Nat.zero_le _)).mono hle2) rfl) (show 1≤maxLen by decide)
   ·rw[Gl.cl_eq,if_pos h0];rfl
   ·simp
   ·simp
  refine ifd (fun h1=>?_) (fun h1=>?_)
  ·refine rFz [1] fun μ2 hle2 hno2 hat2 => .inl ⟨[], ?_, ?_, ?_, ?_⟩
   ·exact Rows.sl hat2 .nil (Nat.zero_le _)
   ·rw[Gl.cl_eq,if_neg h0,if_pos h1];rfl
   ·simp
   ·simp
  refine ifd (fun h8=>?_) (fun h8=>?_)
  ·have hcl : g.cl = Gl.clOr g.goals [] := by rw [Gl.cl_eq, if_neg h0, if_neg h1, if_pos h8]
   refine lIn (fun q:Nat×List (List Gl)×Option Nat×Nat×List Value×Mem=>q.1≤g.goals.length∧μ.Le q.2.2.2.2.2∧Rows q.2.2.2.2.2 1 (q.2.1.map csD) q.2.2.2.2.1∧g.cl=(if q.2.1.length≤64 then Gl.clOr (g.goals.drop q.1) q.2.1 else none)∧(∀c∈q.2.1,c.length≤Gl.cnts (g.goals.take q.1))∧q.2.1.length≤64*q.1)
    (fun(i,acc,b,c,ys,μ')=>⟨[(3,.row 1 b ys.length c),(28,.val (.slice p.2.1 g.goals.length p.2.2)),(29,.val (.int .i64 g.goals.length)),(30,.val (.int .i64 i))],[(1,some (.row b c 59 1 ys))],2,μ',Mem.nil⟩) (fun q=>g.goals.length-q.1)
    (0,[],some r15,0,[],μ) ⟨Nat.zero_le _,Mem.Le.refl _,.nil,by rw[hcl];rfl,by simp,by simp⟩ (fun(_,_,_,_,_,_)=>⟨rfl,rfl⟩) ⟨⟨rfl,rfl,rfl,rfl,trivial⟩,⟨rfl,trivial⟩,rfl,rfl⟩ ?_
   rintro⟨i,acc,b,c,ys,μ'⟩ ⟨hi,hle,hrows,hJ,hlen,hmax⟩
   dsimp only at hi hle hrows hJ hlen hmax
   have hyl:=hrows.len
   rw[List.length_map]at hyl
   refine ifd (fun hlt=>?_) (fun hlt=>?_)
   ·have w_ := aSo (l := g.goals) (i := i) (by omega)
    obtain⟨x,hx⟩:=w_
    have w_:=Gl.elem (hgs.mono hle) hx
    obtain⟨ad,q,hel,hr⟩:=w_
    have hxc:=Gl.cnts_take hx
    have hxl:=Gl.cnts_le g.goals (i+1)
    refine eIn hel ?_
    intro r5
    refine cPl (ih x (mAt hx) hr (hS.sub x (mAt hx)) (by omega)) fun v1 μ1 hle1 hR=>?_
    obtain⟨L,hL⟩:=hR
    obtain⟨pv,rfl⟩:=hL.rep.inv
    have w_:=Rep.srcAll hL.rep
    obtain⟨vs,hvr,hvl,hsrc⟩:=w_
    have hLm:=hL.max
    rw[bR hx,Gl.clOr,hL.cl]at hJ
    refine aJ vs hsrc ?_
    refine gIn ?_ ?_ fun b9 c9 _=>?_
    ·show(ys.length+vs.length)*24≤_;omega
    ·exact Nat.le_trans (m:=100000000) (show ys.length+vs.length≤_ by omega) (by decide)
    refine ifd (fun h64=>?_) (fun h64=>?_)
    ·refine rPl ⟨L, hL.rep, ?_, fun c hc => Nat.le_trans (hL.len c hc) (by omega), hLm⟩
     rw[if_neg (show ¬L.length≤64 by omega)]at hJ ⊢
     rw[hJ]
     split<;>rfl
    ·rw [if_pos (show L.length ≤ 64 by omega), Option.bind_some] at hJ
     refine aB (by omega) (by omega) ⟨(i+1,acc++L,b9,c9,_,μ1),⟨by dsimp only;omega,hle.trans hle1,?_,?_,?_,?_⟩,by dsimp only;omega,⟨⟨rfl,rfl,rfl,rfl,trivial⟩,⟨rfl,trivial⟩,rfl,rfl⟩⟩
     ·dsimp only
      rw[List.map_append]
      exact(hrows.mono hle1).append hvr
     ·dsimp only
      rw[hJ]
      by_cases ha:acc.length≤64
      ·rw[if_pos ha]
      ·rw[if_neg ha,if_neg (by rw[List.length_append];omega)]
     ·dsimp only
      intro c hc
      rcases List.mem_append.1 hc with hc|hc
      ·have:=hlen c hc;omega
      ·have:=hL.len c hc;omega
     ·dsimp only
      rw[List.length_append];omega
   ·obtain rfl : i = g.goals.length := by omega
    rw[List.drop_length,Gl.clOr]at hJ
    rw[List.take_length]at hlen
    refine rFz [1] fun μ2 hle2 hno2 hat2=> .inl ⟨acc,?_,hJ,fun c hc=>by have:=hlen c hc;omega,by omega⟩
    exact Rows.sl hat2 (hrows.mono hle2) (Nat.le_trans (m:=100000000) (by omega) (by decide))
  refine ifd (fun h7=>?_) (fun h7=>?_)
  rotate_left
  ·intro r96 μ1 hle1 hno1 hat1 r97
   refine gIn ?_ ?_ fun b9 c9 _=>?_
   ·show(0+1)*24≤_;decide
   ·show 0+1≤maxLen;decide
   refine rFz [1] fun μ2 hle2 hno2 hat2=> .inl ⟨[[g]],?_,?_,?_,?_⟩
   ·refine Rows.sl hat2 (Rows.one (d:=csD [g]) ((Rows.sl (μ:=μ1) (ds:=[g.d]) hat1 (Rows.one (hv0.mono hle1) (Gl.d_n g)) (show 1≤maxLen by decide)).mono hle2) rfl) (show 1≤maxLen by decide)
   ·rw[Gl.cl_eq,if_neg h0,if_neg h1,if_neg h8,if_neg h7];rfl
   ·intro c hc
    rw[List.mem_singleton.1 hc]
    have:=g.cnt_pos
    simpa using this
   ·simp
  have hcl:g.cl=Gl.clAnd g.goals [[]]:=by rw[Gl.cl_eq,if_neg h0,if_neg h1,if_neg h8,if_pos h7]
  intro r48 μ1 hle1 hno1 hat1 r49
  refine gIn ?_ ?_ fun b9 c9 _=>?_
  ·show(0+1)*24≤_;decide
  ·show 0+1≤maxLen;decide
  refine lFz (fun q:Nat×List (List Gl)×Option Addr×Nat×Mem=>q.1≤g.goals.length∧μ.Le q.2.2.2.2∧Cls q.2.2.2.2 q.2.1 (.slice q.2.2.1 q.2.1.length q.2.2.2.1)∧g.cl=Gl.clAnd (g.goals.drop q.1) q.2.1∧(∀c∈q.2.1,c.length≤Gl.cnts (g.goals.take q.1))∧q.2.1.length≤64)
   (fun(i,acc,b,c,μ')=>⟨[(3,.val (.slice b acc.length c)),(52,.val (.slice p.2.1 g.goals.length p.2.2)),(53,.val (.int .i64 g.goals.length)),(54,.val (.int .i64 i))],[],0,μ',Mem.nil⟩) (fun q=>g.goals.length-q.1) [1]
   (fun(_,_,_,_,_)=>⟨rfl,rfl⟩) (fun μ2 hle2 hno2 hat2=>⟨(0,[[]],b9.map (fun r=>⟨r,0,none⟩),c9,μ2),⟨Nat.zero_le _,hle1.trans hle2,Rows.sl hat2 (Rows.one (d:=csD []) ((Rows.sl (μ:=μ1) (ds:=[]) hat1 .nil (Nat.zero_le _)).mono hle2) rfl) (show 1≤maxLen by decide),hcl,by simp,by simp⟩,⟨rfl,rfl,rfl,rfl,trivial⟩,trivial,rfl,rfl⟩) ?_
  rintro⟨i,acc,b,c,μ'⟩ ⟨hi,hle,hacc,hJ,hlen,hmax⟩
  dsimp only at hi hle hacc hJ hlen hmax
  refine ifd (fun hlt=>?_) (fun hlt=>?_)
  rotate_left
  ·obtain rfl : i = g.goals.length := by omega
   rw[List.drop_length,Gl.clAnd]at hJ
   rw[List.take_length]at hlen
   exact rPl ⟨acc,hacc,by rw[hJ,if_pos hmax],fun c hc=>by have:=hlen c hc;omega,by omega⟩
  have w_:=aSo (l:=g.goals) (i:=i) (by omega)
  obtain⟨x,hx⟩:=w_
  have w_:=Gl.elem (hgs.mono hle) hx
  obtain⟨ad,q,hel,hr⟩:=w_
  have hxc:=Gl.cnts_take hx
  have hxl:=Gl.cnts_le g.goals (i+1)
  refine eIn hel ?_
  intro r8
  refine cPl (ih x (mAt hx) hr (hS.sub x (mAt hx)) (by omega)) fun v3 μ3 hle3 hR=>?_
  obtain⟨L,hL⟩:=hR
  obtain⟨pv,rfl⟩:=hL.rep.inv
  have hLm:=hL.max
  rw[bR hx,Gl.clAnd,hL.cl]at hJ
  refine ifd (fun h64=>?_) (fun h64=>?_)
  ·refine rPl ⟨L, hL.rep, ?_, fun c hc => Nat.le_trans (hL.len c hc) (by omega), hLm⟩
   rw[if_neg (show ¬L.length≤64 by omega)]at hJ ⊢
   exact hJ
  rw[if_pos (show L.length≤64 by omega),Option.bind_some]at hJ
  intro r64
  have hasl:=(Cls.sl (RepV.mono hle3 hacc)).1
  refine lIn (fun q:Nat×Option Nat×Nat×List Value×Mem=>q.1≤acc.length∧μ3.Le q.2.2.2.2∧Rows q.2.2.2.2 1 ((cK (acc.take q.1) L).map csD) q.2.2.2.1)
   (fun(j,b1,c1,ys,μ4)=>⟨[(9,.val (.slice pv.1 L.length pv.2)),(10,.row 1 b1 ys.length c1),(52,.val (.slice p.2.1 g.goals.length p.2.2)),(53,.val (.int .i64 g.goals.length)),(54,.val (.int .i64 i)),(65,.val (.slice b acc.length c)),(66,.val (.int .i64 acc.length)),(67,.val (.int .i64 j))],[(1,some (.row b1 c1 59 1 ys))],2,μ4,Mem.nil⟩) (fun q=>acc.length-q.1)
   (0,some r64,0,[],μ3) ⟨Nat.zero_le _,Mem.Le.refl _,.nil⟩ (fun(_,_,_,_,_)=>⟨rfl,rfl⟩) ⟨⟨rfl,rfl,rfl,rfl,rfl,rfl,rfl,rfl,trivial⟩,⟨rfl,trivial⟩,rfl,rfl⟩ ?_
  rintro⟨j,b1,c1,ys,μ4⟩ ⟨hj,hle4,hrows⟩
  dsimp only at hj hle4 hrows
  have hyl:=hrows.len
  rw[List.length_map,dW,List.length_take]at hyl
  have hmul:min j acc.length*L.length≤64*64:=Nat.mul_le_mul (by omega) (by omega)
  refine ifd (fun hlt2=>?_) (fun hlt2=>?_)
  ·have w_ := aSo (l := acc) (i := j) (by omega)
   obtain⟨xa,hxa⟩:=w_
   have w_:=cF (hasl.mono hle4) hxa
   obtain⟨ad2,pa,hel2,hra⟩:=w_
   have hxal:=hlen xa (mAt hxa)
   have hmul2:j*L.length≤64*64:=Nat.mul_le_mul (by omega) (by omega)
   rw[Nat.min_eq_left (by omega)]at hyl
   refine eIn hel2 ?_
   refine lIn (fun q:Nat×Option Nat×Nat×List Value×Mem=>q.1≤L.length∧μ4.Le q.2.2.2.2∧Rows q.2.2.2.2 1 ((cK (acc.take j) L++(L.take q.1).map fun y=>xa++y).map csD) q.2.2.2.1)
    (fun(k,b1,c1,ys,μ5)=>⟨[(9,.val (.slice pv.1 L.length pv.2)),(10,.row 1 b1 ys.length c1),(12,.val (.slice pa.1 xa.length pa.2)),(52,.val (.slice p.2.1 g.goals.length p.2.2)),(53,.val (.int .i64 g.goals.length)),(54,.val (.int .i64 i)),(65,.val (.slice b acc.length c)),(66,.val (.int .i64 acc.length)),(67,.val (.int .i64 j)),(71,.val (.slice pv.1 L.length pv.2)),(72,.val (.int .i64 L.length)),(73,.val (.int .i64 k))],[(1,some (.row b1 c1 59 1 ys))],2,μ5,Mem.nil⟩) (fun q=>L.length-q.1)
    (0,b1,c1,ys,μ4) ⟨Nat.zero_le _,Mem.Le.refl _,by simpa using hrows⟩ (fun(_,_,_,_,_)=>⟨rfl,rfl⟩) ⟨⟨rfl,rfl,rfl,rfl,rfl,rfl,rfl,rfl,rfl,rfl,rfl,rfl,trivial⟩,⟨rfl,trivial⟩,rfl,rfl⟩ ?_
   clear hrows
   rintro⟨k,b2,c2,zs,μ5⟩ ⟨hk,hle5,hrows2⟩
   dsimp only at hk hle5 hrows2
   have hzl:=hrows2.len
   rw[List.length_map,List.length_append,dW,List.length_map,List.length_take,List.length_take,Nat.min_eq_left (show j≤acc.length by omega),Nat.min_eq_left hk]at hzl
   refine ifd (fun hlt3=>?_) (fun hlt3=>?_)
   ·have w_ := aSo (l := L) (i := k) (by omega)
    obtain⟨y,hy⟩:=w_
    have w_:=cF (((Cls.sl hL.rep).1.mono hle4).mono hle5) hy
    obtain⟨ad3,py,hel3,hry⟩:=w_
    have hyl2:=hL.len y (mAt hy)
    have w_:=mI (hra.mono hle5)
    obtain⟨vx,hvx,hvxl,hsx⟩:=w_
    have w_:=mI hry
    obtain⟨vy,hvy,hvyl,hsy⟩:=w_
    refine eIn hel3 ?_
    intro r78
    refine aJ vx hsx ?_
    refine gIn ?_ ?_ fun b6 c6 _=>?_
    ·show(0+vx.length)*72≤_;omega
    ·exact Nat.le_trans (m:=100000000) (show 0+vx.length≤_ by omega) (by decide)
    refine aJ vy hsy ?_
    refine gIn ?_ ?_ fun b7 c7 _=>?_
    ·show((([]:List Value)++vx).length+vy.length)*72≤_;simp;omega
    ·exact Nat.le_trans (m:=100000000) (show(([]:List Value)++vx).length+vy.length≤_ by simp;omega) (by decide)
    intro μ6 hle6 hno6 hat6 r83
    refine gIn ?_ ?_ fun b8 c8 _=>?_
    ·show(zs.length+1)*24≤_;omega
    ·exact Nat.le_trans (m:=100000000) (show zs.length+1≤_ by omega) (by decide)
    have hrow:RepV μ6 (csD (xa++y)) (.slice (b7.map fun r=>⟨r,0,none⟩) (([]:List Value)++vx++vy).length c7):=by
     have:=Rows.sl hat6 ((hvx.append hvy).mono hle6) (Nat.le_trans (m:=100000000) (by simp;omega) (by decide))
     rw[←List.map_append]at this
     exact this
    refine aB (by omega) (by omega) ⟨(k+1,b8,c8,_,μ6),⟨by dsimp only;omega,hle5.trans hle6,?_⟩,by dsimp only;omega,⟨⟨rfl,rfl,rfl,rfl,rfl,rfl,rfl,rfl,rfl,rfl,rfl,rfl,trivial⟩,⟨rfl,trivial⟩,rfl,rfl⟩⟩
    dsimp only
    rw[List.take_add_one,hy,Option.toList_some,List.map_append (f:=fun y=>xa++y),←List.append_assoc,List.map_append (f:=csD)]
    exact(hrows2.mono hle6).append (Rows.one hrow rfl)
   ·obtain rfl : k = L.length := by omega
    rw[List.take_length,←nN hxa]at hrows2
    exact aB (by omega) (by omega) ⟨(j+1,b2,c2,zs,μ5),⟨by dsimp only;omega,hle4.trans hle5,hrows2⟩,by dsimp only;omega,⟨⟨rfl,rfl,rfl,rfl,rfl,rfl,rfl,rfl,trivial⟩,⟨rfl,trivial⟩,rfl,rfl⟩⟩
  ·obtain rfl : j = acc.length := by omega
   rw[List.take_length]at hrows
   rw[Nat.min_self]at hyl hmul
   have hpl:=dW acc L
   have hzlen:∀c∈cK acc L,c.length≤Gl.cnts (g.goals.take (i+1)):=fun c hc=>by
    have w_:=jO hc
    obtain⟨u,hu,w,hw,rfl⟩:=w_
    have h1:=hlen u hu
    have h2:=hL.len w hw
    rw[List.length_append];omega
   refine ifd (fun hb=>?_) (fun hb=>?_)
   ·refine rFz [1] fun μ5 hle5 hno5 hat5 => .inl ⟨cK acc L, ?_, ?_, fun c hc => by have := hzlen c hc; omega, by omega⟩
    ·have := Rows.sl hat5 (hrows.mono hle5) (Nat.le_trans (m := 100000000) (by omega) (by decide))
     exact this
    ·rw [if_neg (by omega)] at hJ ⊢
     exact hJ
   ·rw [if_pos (by omega)] at hJ
    refine aB (by omega) (by omega) ⟨[1],fun μ5 hle5 hno5 hat5=>⟨(i+1,cK acc L,b1.map (fun r=>⟨r,0,none⟩),c1,μ5),⟨by dsimp only;omega,((hle.trans hle3).trans hle4).trans hle5,?_,hJ,hzlen,by dsimp only;omega⟩,by dsimp only;omega,⟨⟨?_,rfl,rfl,rfl,trivial⟩,trivial,rfl,rfl⟩⟩⟩
    ·have := Rows.sl hat5 (hrows.mono hle5) (Nat.le_trans (m := 100000000) (by omega) (by decide))
     rw[←hyl,←hpl]at this
     exact this
    ·show some (SV.val (.slice _ _ _)) = some (SV.val (.slice _ _ _))
     rw[hpl,hyl]
end
end Go.Vx
namespace Go.Vx
open Go.Proofs Classical
theorem wD{a l:List (List Gl)}{m n:Nat}(h1:∀c∈a,c.length≤m)(h2:∀c∈l,c.length≤n):∀c∈cK a l,c.length≤m+n:=fun c hc=>by
 have w_:=jO hc
 obtain⟨u,hu,w,hw,rfl⟩:=w_
 have:=h1 u hu
 have:=h2 w hw
 rw[List.length_append];omega
mutual
theorem Gl.cl_bnd:∀(g:Gl) {L:List (List Gl)},g.cl=some L→(∀c∈L,c.length≤g.cnt)∧L.length≤64
 | .mk k s ts gs,L,h=>by
  rw[Gl.cl]at h
  rw[Gl.cnt]
  split at h
  ·cases h;simp
  split at h
  ·cases h;simp
  split at h
  ·have := Gl.clOr_bnd gs (acc := []) (n := 0) (by simp) (by simp) h
   exact⟨fun c hc=>by have:=this.1 c hc;omega,this.2⟩
  split at h
  ·have := Gl.clAnd_bnd gs (acc := [[]]) (n := 0) (by simp) (by simp) h
   exact⟨fun c hc=>by have:=this.1 c hc;omega,this.2⟩
  ·cases h
   refine⟨fun c hc=>?_,by simp⟩
   rw[List.mem_singleton.1 hc,List.length_singleton];omega
theorem Gl.clOr_bnd:∀(gs:List Gl) {acc L:List (List Gl)} {n:Nat},(∀c∈acc,c.length≤n)→acc.length≤64→Gl.clOr gs acc=some L→(∀c∈L,c.length≤n+Gl.cnts gs)∧L.length≤64
 |[],acc,L,n,h1,h2,h=>by
  rw[Gl.clOr]at h;cases h
  exact⟨fun c hc=>Nat.le_trans (h1 c hc) (Nat.le_add_right _ _),h2⟩
 |g::gs,acc,L,n,h1,h2,h=>by
  rw[Gl.clOr]at h
  cases e:g.cl with
  |none=>rw[e]at h;cases h
  |some l=>
   rw[e,Option.bind_some]at h
   have hb:=Gl.cl_bnd g e
   split at h
   ·rename_i h64
    have:=Gl.clOr_bnd gs (acc:=acc++l) (n:=n+g.cnt) (fun c hc=>by
     rcases List.mem_append.1 hc with hc|hc
     ·have:=h1 c hc;omega
     ·have:=hb.1 c hc;omega) h64 h
    rw[Gl.cnts]
    exact⟨fun c hc=>by have:=this.1 c hc;omega,this.2⟩
   ·cases h
theorem Gl.clAnd_bnd:∀(gs:List Gl) {acc L:List (List Gl)} {n:Nat},(∀c∈acc,c.length≤n)→acc.length≤64→Gl.clAnd gs acc=some L→(∀c∈L,c.length≤n+Gl.cnts gs)∧L.length≤64
 |[],acc,L,n,h1,h2,h=>by
  rw[Gl.clAnd]at h;cases h
  exact⟨fun c hc=>Nat.le_trans (h1 c hc) (Nat.le_add_right _ _),h2⟩
 |g::gs,acc,L,n,h1,h2,h=>by
  rw[Gl.clAnd]at h
  cases e:g.cl with
  |none=>rw[e]at h;cases h
  |some l=>
   rw[e,Option.bind_some]at h
   have hb:=Gl.cl_bnd g e
   split at h
   ·rename_i h64
    have:=Gl.clAnd_bnd gs (acc:=cK acc l) (n:=n+g.cnt) (wD h1 hb.1) h64 h
    rw[Gl.cnts]
    exact⟨fun c hc=>by have:=this.1 c hc;omega,this.2⟩
   ·cases h
end
def qQc(P:List (List Gl)→Value→Prop)(o:Option (List (List Gl)))(v:Value):Prop:=match o with
 |some L=>∃tv,v= .tuple #[tv,.bool true]∧P L tv
 |none=>v= .tuple #[.slice none 0 0,.bool false]
section
variable {μ:Mem}
set_option maxHeartbeats 8000000 in
theorem gF:∀(g:Gl) {μ:Mem} {v:Value},RepV μ g.d v→g.Sh→g.cnt≤80→Spec Tryz.prog 161 [v] μ fun v μ'=>qQc (Cls μ') g.cl v:=
 Gl.ind fun g ih μ v hv hS hcnt=>by
  have hv0:=hv
  have w_:=Gl.inv hv
  obtain⟨p,rfl,hts,hgs⟩:=w_
  have hg8:=hS.top.gl
  have hce:=Gl.cnt_eq1 g
  refine Spec.mk Tryz.func161 (by kernel_rfl) ?_
  intro r1 r19
  refine ifd (fun h0=>?_) (fun h0=>?_)
  ·intro r27 μ1 hle1 hno1 hat1 r28
   refine rFz [3] fun μ2 hle2 hno2 hat2=> .inl ?_
   rw[Gl.cl_eq,if_pos h0]
   exact⟨_,rfl,Rows.sl hat2 (Rows.one (d:=csD []) ((Rows.sl (μ:=μ1) (ds:=[]) hat1 .nil (Nat.zero_le _)).mono hle2) rfl) (show 1≤maxLen by decide)⟩
  refine ifd (fun h1=>?_) (fun h1=>?_)
  ·refine rFz [1] fun μ2 hle2 hno2 hat2 => .inl ?_
   rw[Gl.cl_eq,if_neg h0,if_pos h1]
   exact⟨_,rfl,Rows.sl hat2 .nil (Nat.zero_le _)⟩
  refine ifd (fun h8=>?_) (fun h8=>?_)
  ·have hcl : g.cl = Gl.clOr g.goals [] := by rw [Gl.cl_eq, if_neg h0, if_neg h1, if_pos h8]
   refine lIn (fun q:Nat×List (List Gl)×Option Nat×Nat×List Value×Mem=>q.1≤g.goals.length∧μ.Le q.2.2.2.2.2∧Rows q.2.2.2.2.2 1 (q.2.1.map csD) q.2.2.2.2.1∧g.cl=Gl.clOr (g.goals.drop q.1) q.2.1∧q.2.1.length≤64)
    (fun(i,acc,b,c,ys,μ')=>⟨[(4,.row 1 b ys.length c),(34,.val (.slice p.2.1 g.goals.length p.2.2)),(35,.val (.int .i64 g.goals.length)),(36,.val (.int .i64 i))],[(1,some (.row b c 59 1 ys))],2,μ',Mem.nil⟩) (fun q=>g.goals.length-q.1)
    (0,[],some r19,0,[],μ) ⟨Nat.zero_le _,Mem.Le.refl _,.nil,hcl,by simp⟩ (fun(_,_,_,_,_,_)=>⟨rfl,rfl⟩) ⟨⟨rfl,rfl,rfl,rfl,trivial⟩,⟨rfl,trivial⟩,rfl,rfl⟩ ?_
   rintro⟨i,acc,b,c,ys,μ'⟩ ⟨hi,hle,hrows,hJ,hmax⟩
   dsimp only at hi hle hrows hJ hmax
   have hyl:=hrows.len
   rw[List.length_map]at hyl
   refine ifd (fun hlt=>?_) (fun hlt=>?_)
   ·have w_ := aSo (l := g.goals) (i := i) (by omega)
    obtain⟨x,hx⟩:=w_
    have w_:=Gl.elem (hgs.mono hle) hx
    obtain⟨ad,q,hel,hr⟩:=w_
    have hxc:=Gl.cnts_take hx
    have hxl:=Gl.cnts_le g.goals (i+1)
    refine eIn hel ?_
    intro r5
    refine cPl (ih x (mAt hx) hr (hS.sub x (mAt hx)) (by omega)) fun v1 μ1 hle1 hR=>?_
    rw[bR hx,Gl.clOr]at hJ
    cases e:x.cl with
    |none=>
     rw[e]at hR hJ
     obtain rfl:=hR
     refine iIn (fun _=>?_) (fun h=>nomatch h)
     exact rPl (by rw[hJ];rfl)
    |some L=>
     rw[e]at hR
     rw[e,Option.bind_some]at hJ
     obtain⟨tv,rfl,hLr⟩:=hR
     obtain⟨pv,rfl⟩:=hLr.inv
     have hLb:=Gl.cl_bnd x e
     have w_:=Rep.srcAll hLr
     obtain⟨vs,hvr,hvl,hsrc⟩:=w_
     refine iIn (fun h=>nomatch h) (fun _=>?_)
     refine aJ vs hsrc ?_
     refine gIn ?_ ?_ fun b9 c9 _=>?_
     ·show(ys.length+vs.length)*24≤_;omega
     ·exact Nat.le_trans (m:=100000000) (show ys.length+vs.length≤_ by omega) (by decide)
     have hal:(ys++vs).length=(acc++L).length:=by rw[List.length_append,List.length_append];omega
     refine ifd (fun h64=>?_) (fun h64=>?_)
     ·rw [if_neg (by omega)] at hJ
      exact rPl (by rw[hJ];rfl)
     ·rw [if_pos (by omega)] at hJ
      refine aB (by omega) (by omega) ⟨(i+1,acc++L,b9,c9,_,μ1),⟨by dsimp only;omega,hle.trans hle1,?_,hJ,by dsimp only;omega⟩,by dsimp only;omega,⟨⟨rfl,rfl,rfl,rfl,trivial⟩,⟨rfl,trivial⟩,rfl,rfl⟩⟩
      dsimp only
      rw[List.map_append]
      exact(hrows.mono hle1).append hvr
   ·obtain rfl : i = g.goals.length := by omega
    rw[List.drop_length,Gl.clOr]at hJ
    refine rFz [1] fun μ2 hle2 hno2 hat2=> .inl ?_
    rw[hJ]
    exact⟨_,rfl,Rows.sl hat2 (hrows.mono hle2) (Nat.le_trans (m:=100000000) (by omega) (by decide))⟩
  refine ifd (fun h7=>?_) (fun h7=>?_)
  rotate_left
  ·intro r23 μ1 hle1 hno1 hat1 r24
   refine rFz [3] fun μ2 hle2 hno2 hat2=> .inl ?_
   rw[Gl.cl_eq,if_neg h0,if_neg h1,if_neg h8,if_neg h7]
   exact⟨_,rfl,Rows.sl hat2 (Rows.one (d:=csD [g]) ((Rows.sl (μ:=μ1) (ds:=[g.d]) hat1 (Rows.one (hv0.mono hle1) (Gl.d_n g)) (show 1≤maxLen by decide)).mono hle2) rfl) (show 1≤maxLen by decide)⟩
  have hcl:g.cl=Gl.clAnd g.goals [[]]:=by rw[Gl.cl_eq,if_neg h0,if_neg h1,if_neg h8,if_pos h7]
  intro r56 μ1 hle1 hno1 hat1 r57
  refine lFz (fun q:Nat×List (List Gl)×Option Addr×Nat×Mem=>q.1≤g.goals.length∧μ.Le q.2.2.2.2∧Cls q.2.2.2.2 q.2.1 (.slice q.2.2.1 q.2.1.length q.2.2.2.1)∧g.cl=Gl.clAnd (g.goals.drop q.1) q.2.1∧(∀c∈q.2.1,c.length≤Gl.cnts (g.goals.take q.1))∧q.2.1.length≤64)
   (fun(i,acc,b,c,μ')=>⟨[(4,.val (.slice b acc.length c)),(9,.val (.bool false)),(59,.val (.slice p.2.1 g.goals.length p.2.2)),(60,.val (.int .i64 g.goals.length)),(61,.val (.int .i64 i))],[],0,μ',Mem.nil⟩) (fun q=>g.goals.length-q.1) [3]
   (fun(_,_,_,_,_)=>⟨rfl,rfl⟩) (fun μ2 hle2 hno2 hat2=>⟨(0,[[]],some ⟨r57,0,none⟩,1,μ2),⟨Nat.zero_le _,hle1.trans hle2,Rows.sl hat2 (Rows.one (d:=csD []) ((Rows.sl (μ:=μ1) (ds:=[]) hat1 .nil (Nat.zero_le _)).mono hle2) rfl) (show 1≤maxLen by decide),hcl,by simp,by simp⟩,⟨rfl,rfl,rfl,rfl,rfl,trivial⟩,trivial,rfl,rfl⟩) ?_
  rintro⟨i,acc,b,c,μ'⟩ ⟨hi,hle,hacc,hJ,hlen,hmax⟩
  dsimp only at hi hle hacc hJ hlen hmax
  refine ifd (fun hlt=>?_) (fun hlt=>?_)
  rotate_left
  ·obtain rfl : i = g.goals.length := by omega
   rw[List.drop_length,Gl.clAnd]at hJ
   exact rPl (by rw[hJ];exact⟨_,rfl,hacc⟩)
  have w_:=aSo (l:=g.goals) (i:=i) (by omega)
  obtain⟨x,hx⟩:=w_
  have w_:=Gl.elem (hgs.mono hle) hx
  obtain⟨ad,q,hel,hr⟩:=w_
  have hxc:=Gl.cnts_take hx
  have hxl:=Gl.cnts_le g.goals (i+1)
  refine eIn hel ?_
  intro r11
  refine cPl (ih x (mAt hx) hr (hS.sub x (mAt hx)) (by omega)) fun v3 μ3 hle3 hR=>?_
  rw[bR hx,Gl.clAnd]at hJ
  obtain⟨o,e⟩:∃o,x.cl=o:=⟨_,rfl⟩
  rw[e]at hR hJ
  match o,e,hR,hJ with
  |none,e,hR,hJ=>
  obtain rfl:=hR
  refine iIn (fun _=>?_) (fun h=>nomatch h)
  exact rPl (by rw[hJ];rfl)
  |some L,e,hR,hJ=>
  obtain⟨tv,rfl,hLr⟩:=hR
  obtain⟨pv,rfl⟩:=hLr.inv
  have hLb:=Gl.cl_bnd x e
  have hLl:=hLb.1
  have hLm:=hLb.2
  rw[Option.bind_some]at hJ
  refine iIn (fun h=>nomatch h) (fun _=>?_)
  intro r64
  have hasl:=(Cls.sl (RepV.mono hle3 hacc)).1
  refine lIn (fun q:Nat×Option Nat×Nat×List Value×Mem=>q.1≤acc.length∧μ3.Le q.2.2.2.2∧Rows q.2.2.2.2 1 ((cK (acc.take q.1) L).map csD) q.2.2.2.1)
   (fun(j,b1,c1,ys,μ4)=>⟨[(9,.val (.bool false)),(12,.val (.slice pv.1 L.length pv.2)),(14,.row 1 b1 ys.length c1),(59,.val (.slice p.2.1 g.goals.length p.2.2)),(60,.val (.int .i64 g.goals.length)),(61,.val (.int .i64 i)),(73,.val (.slice b acc.length c)),(74,.val (.int .i64 acc.length)),(75,.val (.int .i64 j))],[(1,some (.row b1 c1 59 1 ys))],2,μ4,Mem.nil⟩) (fun q=>acc.length-q.1)
   (0,some r64,0,[],μ3) ⟨Nat.zero_le _,Mem.Le.refl _,.nil⟩ (fun(_,_,_,_,_)=>⟨rfl,rfl⟩) ⟨⟨rfl,rfl,rfl,rfl,rfl,rfl,rfl,rfl,rfl,trivial⟩,⟨rfl,trivial⟩,rfl,rfl⟩ ?_
  rintro⟨j,b1,c1,ys,μ4⟩ ⟨hj,hle4,hrows⟩
  dsimp only at hj hle4 hrows
  have hyl:=hrows.len
  rw[List.length_map,dW,List.length_take]at hyl
  have hmul:min j acc.length*L.length≤64*64:=Nat.mul_le_mul (by omega) (by omega)
  refine ifd (fun hlt2=>?_) (fun hlt2=>?_)
  ·have w_ := aSo (l := acc) (i := j) (by omega)
   obtain⟨xa,hxa⟩:=w_
   have w_:=cF (hasl.mono hle4) hxa
   obtain⟨ad2,pa,hel2,hra⟩:=w_
   have hxal:=hlen xa (mAt hxa)
   have hmul2:j*L.length≤64*64:=Nat.mul_le_mul (by omega) (by omega)
   rw[Nat.min_eq_left (by omega)]at hyl
   refine eIn hel2 ?_
   refine lIn (fun q:Nat×Option Nat×Nat×List Value×Mem=>q.1≤L.length∧μ4.Le q.2.2.2.2∧Rows q.2.2.2.2 1 ((cK (acc.take j) L++(L.take q.1).map fun y=>xa++y).map csD) q.2.2.2.1)
    (fun(k,b1,c1,ys,μ5)=>⟨[(9,.val (.bool false)),(12,.val (.slice pv.1 L.length pv.2)),(14,.row 1 b1 ys.length c1),(16,.val (.slice pa.1 xa.length pa.2)),(59,.val (.slice p.2.1 g.goals.length p.2.2)),(60,.val (.int .i64 g.goals.length)),(61,.val (.int .i64 i)),(73,.val (.slice b acc.length c)),(74,.val (.int .i64 acc.length)),(75,.val (.int .i64 j)),(79,.val (.slice pv.1 L.length pv.2)),(80,.val (.int .i64 L.length)),(81,.val (.int .i64 k))],[(1,some (.row b1 c1 59 1 ys))],2,μ5,Mem.nil⟩) (fun q=>L.length-q.1)
    (0,b1,c1,ys,μ4) ⟨Nat.zero_le _,Mem.Le.refl _,by simpa using hrows⟩ (fun(_,_,_,_,_)=>⟨rfl,rfl⟩) ⟨⟨rfl,rfl,rfl,rfl,rfl,rfl,rfl,rfl,rfl,rfl,rfl,rfl,rfl,trivial⟩,⟨rfl,trivial⟩,rfl,rfl⟩ ?_
   clear hrows
   rintro⟨k,b2,c2,zs,μ5⟩ ⟨hk,hle5,hrows2⟩
   dsimp only at hk hle5 hrows2
   have hzl:=hrows2.len
   rw[List.length_map,List.length_append,dW,List.length_map,List.length_take,List.length_take,Nat.min_eq_left (show j≤acc.length by omega),Nat.min_eq_left hk]at hzl
   refine ifd (fun hlt3=>?_) (fun hlt3=>?_)
   ·have w_ := aSo (l := L) (i := k) (by omega)
    obtain⟨y,hy⟩:=w_
    have w_:=cF (((Cls.sl hLr).1.mono hle4).mono hle5) hy
    obtain⟨ad3,py,hel3,hry⟩:=w_
    have hyl2:=hLl y (mAt hy)
    have w_:=mI (hra.mono hle5)
    obtain⟨vx,hvx,hvxl,hsx⟩:=w_
    have w_:=mI hry
    obtain⟨vy,hvy,hvyl,hsy⟩:=w_
    refine eIn hel3 ?_
    intro r78
    refine aJ vx hsx ?_
    refine gIn ?_ ?_ fun b6 c6 _=>?_
    ·show(0+vx.length)*72≤_;omega
    ·exact Nat.le_trans (m:=100000000) (show 0+vx.length≤_ by omega) (by decide)
    refine aJ vy hsy ?_
    refine gIn ?_ ?_ fun b7 c7 _=>?_
    ·show((([]:List Value)++vx).length+vy.length)*72≤_;simp;omega
    ·exact Nat.le_trans (m:=100000000) (show(([]:List Value)++vx).length+vy.length≤_ by simp;omega) (by decide)
    intro μ6 hle6 hno6 hat6 r83
    refine gIn ?_ ?_ fun b8 c8 _=>?_
    ·show(zs.length+1)*24≤_;omega
    ·exact Nat.le_trans (m:=100000000) (show zs.length+1≤_ by omega) (by decide)
    have hrow:RepV μ6 (csD (xa++y)) (.slice (b7.map fun r=>⟨r,0,none⟩) (([]:List Value)++vx++vy).length c7):=by
     have:=Rows.sl hat6 ((hvx.append hvy).mono hle6) (Nat.le_trans (m:=100000000) (by simp;omega) (by decide))
     rw[←List.map_append]at this
     exact this
    refine aB (by omega) (by omega) ⟨(k+1,b8,c8,_,μ6),⟨by dsimp only;omega,hle5.trans hle6,?_⟩,by dsimp only;omega,⟨⟨rfl,rfl,rfl,rfl,rfl,rfl,rfl,rfl,rfl,rfl,rfl,rfl,rfl,trivial⟩,⟨rfl,trivial⟩,rfl,rfl⟩⟩
    dsimp only
    rw[List.take_add_one,hy,Option.toList_some,List.map_append (f:=fun y=>xa++y),←List.append_assoc,List.map_append (f:=csD)]
    exact(hrows2.mono hle6).append (Rows.one hrow rfl)
   ·obtain rfl : k = L.length := by omega
    rw[List.take_length,←nN hxa]at hrows2
    exact aB (by omega) (by omega) ⟨(j+1,b2,c2,zs,μ5),⟨by dsimp only;omega,hle4.trans hle5,hrows2⟩,by dsimp only;omega,⟨⟨rfl,rfl,rfl,rfl,rfl,rfl,rfl,rfl,rfl,trivial⟩,⟨rfl,trivial⟩,rfl,rfl⟩⟩
  ·obtain rfl : j = acc.length := by omega
   rw[List.take_length]at hrows
   rw[Nat.min_self]at hyl hmul
   have hpl:=dW acc L
   have hzlen:∀c∈cK acc L,c.length≤Gl.cnts (g.goals.take (i+1)):=fun c hc=>by
    have w_:=jO hc
    obtain⟨u,hu,w,hw,rfl⟩:=w_
    have h1:=hlen u hu
    have h2:=hLl w hw
    rw[List.length_append];omega
   refine iIn (fun h=>nomatch h) (fun _=>?_)
   refine ifd (fun hb=>?_) (fun hb=>?_)
   ·rw [if_neg (by omega)] at hJ
    exact rPl (by rw[hJ];rfl)
   ·rw [if_pos (by omega)] at hJ
    refine aB (by omega) (by omega) ⟨[1],fun μ5 hle5 hno5 hat5=>⟨(i+1,cK acc L,b1.map (fun r=>⟨r,0,none⟩),c1,μ5),⟨by dsimp only;omega,((hle.trans hle3).trans hle4).trans hle5,?_,hJ,hzlen,by dsimp only;omega⟩,by dsimp only;omega,⟨⟨?_,?_,rfl,rfl,rfl,trivial⟩,trivial,rfl,rfl⟩⟩⟩
    ·have := Rows.sl hat5 (hrows.mono hle5) (Nat.le_trans (m := 100000000) (by omega) (by decide))
     rw[←hyl,←hpl]at this
     exact this
    ·show some (SV.val (.slice _ _ _)) = some (SV.val (.slice _ _ _))
     rw[hpl,hyl]
    ·show some (SV.val (.bool _)) = some (SV.val (.bool _))
     rw[decide_eq_false hb]
end
end Go.Vx
namespace Go.Vx
open Go.Proofs Classical
section
variable {μ:Mem}
theorem lQ{c:List Gl}{base:Option Addr}{cap:Nat}(hsl:Sl μ 4 base c.length (c.map Gl.d))(hn:c.length≤1000000)(hS:∀x∈c,x.Sh):
  Spec Tryz.prog 170 [.slice base c.length cap] μ fun v μ'=>RepV μ' (csD c) v:=by
 refine Spec.mk Tryz.func170 (by kernel_rfl) ?_
 intro r6
 refine lIn (fun p:Nat×Option Nat×Nat×List Value×Mem=>p.1≤c.length∧μ.Le p.2.2.2.2∧Rows p.2.2.2.2 4 ((c.take p.1).map Gl.d) p.2.2.2.1)
  (fun(i,b,k,ys,μ')=>⟨[(3,.row 0 b ys.length k),(7,.val (.slice base c.length cap)),(8,.val (.int .i64 c.length)),(9,.val (.int .i64 i))],[(0,some (.row b k 61 4 ys))],1,μ',Mem.nil⟩) (fun p=>c.length-p.1)
  (0,some r6,0,[],μ) ⟨by simp,Mem.Le.refl _,.nil⟩ (fun(_,_,_,_,_)=>⟨rfl,rfl⟩) ⟨⟨rfl,rfl,rfl,rfl,trivial⟩,⟨rfl,trivial⟩,rfl,rfl⟩ ?_
 rintro⟨i,b,k,ys,μ'⟩ ⟨hi,hle,hrows⟩
 dsimp only at hi hle hrows
 have hlen:=hrows.len
 simp only[List.length_map,List.length_take]at hlen
 refine ifd (fun h=>?_) (fun h=>?_)
 ·have w_ := aSo (l := c) (i := i) (by omega)
  obtain⟨x,hx⟩:=w_
  have w_:=Gl.elem (hsl.mono hle) hx
  obtain⟨ad,p,hel,hr⟩:=w_
  refine eIn hel ?_
  intro r5
  refine cPl (lP x hr (hS x (mAt hx))) fun v4 μ4 hle4 hR4=>?_
  have w_:=Gl.invV hR4
  obtain⟨q,rfl⟩:=w_
  intro r16
  refine gIn ?_ ?_ fun b' c' _=>?_
  ·show(ys.length+1)*72≤_;omega
  ·exact Nat.le_trans (m:=100000000) (show ys.length+1≤_ by omega) (by decide)
  refine aB (by omega) (by omega) ⟨(i+1,b',c',_,μ4),⟨by dsimp only;omega,hle.trans hle4,?_⟩,by dsimp only;omega,⟨⟨rfl,rfl,rfl,rfl,trivial⟩,⟨rfl,trivial⟩,rfl,rfl⟩⟩
  dsimp only
  rw[List.take_add_one,hx,Option.toList_some,List.map_append]
  exact(hrows.mono hle4).append (Rows.one hR4 (Gl.d_n _))
 ·obtain rfl : i = c.length := by omega
  rw[List.take_length]at hrows
  refine rFz [0] fun μ' hle' hno hrow=> .inl ?_
  exact Rows.sl hrow (hrows.mono hle') (Nat.le_trans (m:=100000000) (by omega) (by decide))
mutual
theorem Gl.cl_Sh:∀(g:Gl) {L:List (List Gl)},g.Sh→g.cl=some L→∀c∈L,∀x∈c,x.Sh
 | .mk k s ts gs,L,hS,h=>by
  have hsub:∀x∈gs,x.Sh:=hS.sub
  rw[Gl.cl]at h
  split at h
  ·cases h;simp
  split at h
  ·cases h;simp
  split at h
  ·exact Gl.clOr_Sh gs hsub (by simp) h
  split at h
  ·exact Gl.clAnd_Sh gs hsub (by simp) h
  ·cases h
   intro c hc x hx
   rw[List.mem_singleton.1 hc]at hx
   rw[List.mem_singleton.1 hx];exact hS
theorem Gl.clOr_Sh:∀(gs:List Gl) {acc L:List (List Gl)},(∀x∈gs,x.Sh)→(∀c∈acc,∀x∈c,x.Sh)→Gl.clOr gs acc=some L→∀c∈L,∀x∈c,x.Sh
 |[],acc,L,_,h1,h=>by
  rw[Gl.clOr]at h;cases h;exact h1
 |g::gs,acc,L,hS,h1,h=>by
  rw[Gl.clOr]at h
  cases e:g.cl with
  |none=>rw[e]at h;cases h
  |some l=>
   rw[e,Option.bind_some]at h
   have hb:=Gl.cl_Sh g (hS g (by simp)) e
   split at h
   ·exact Gl.clOr_Sh gs (acc:=acc++l) (fun x hx=>hS x (by simp[hx])) (fun c hc=>by
     rcases List.mem_append.1 hc with hc|hc
     ·exact h1 c hc
     ·exact hb c hc) h
   ·cases h
theorem Gl.clAnd_Sh:∀(gs:List Gl) {acc L:List (List Gl)},(∀x∈gs,x.Sh)→(∀c∈acc,∀x∈c,x.Sh)→Gl.clAnd gs acc=some L→∀c∈L,∀x∈c,x.Sh
 |[],acc,L,_,h1,h=>by
  rw[Gl.clAnd]at h;cases h;exact h1
 |g::gs,acc,L,hS,h1,h=>by
  rw[Gl.clAnd]at h
  cases e:g.cl with
  |none=>rw[e]at h;cases h
  |some l=>
   rw[e,Option.bind_some]at h
   have hb:=Gl.cl_Sh g (hS g (by simp)) e
   split at h
   ·exact Gl.clAnd_Sh gs (acc:=cK acc l) (fun x hx=>hS x (by simp[hx])) (fun c hc=>by
     have w_:=jO hc
     obtain⟨u,hu,w,hw,rfl⟩:=w_
     intro x hx
     rcases List.mem_append.1 hx with hx|hx
     ·exact h1 u hu x hx
     ·exact hb w hw x hx) h
   ·cases h
end
theorem gE{g:Gl}{v:Value}(hv:RepV μ g.d v)(hw:g.d.wd)(hok:g.Ok):Spec Tryz.prog 93 [v] μ fun v μ'=>qQc (Cls μ') g.cl v:=by
 have hv0:=hv
 have w_:=Gl.inv hv
 obtain⟨p,rfl,-,-⟩:=w_
 refine Spec.mk Tryz.func93 (by kernel_rfl) ?_
 intro r1
 refine cGv (cW g hv0 hw) ?_
 refine aL (fun h=>absurd hok h) (fun _=>?_)
 refine cPl (mB g hv0 hok.1 hok.2) fun v1 μ1 hle1 hR=>?_
 obtain⟨L,hL⟩:=hR
 obtain⟨pv,rfl⟩:=hL.rep.inv
 have hcl:=hL.cl
 refine ifd (fun h64=>?_) (fun h64=>?_)
 ·rw [if_neg (by omega)] at hcl
  exact rPl (by rw[hcl];rfl)
 rw[if_pos (by omega)]at hcl
 rw[hcl]
 have hSh:=Gl.cl_Sh g hok.1 hcl
 have hbd:=Gl.cl_bnd g hcl
 have h80:=hok.2
 have hsl:=(Cls.sl hL.rep).1
 intro r16
 refine lIn (fun p:Nat×Option Nat×Nat×List Value×Mem=>p.1≤L.length∧μ1.Le p.2.2.2.2∧Rows p.2.2.2.2 1 ((L.take p.1).map csD) p.2.2.2.1)
  (fun(i,b,k,ys,μ')=>⟨[(5,.row 1 b ys.length k),(17,.val (.slice pv.1 L.length pv.2)),(18,.val (.int .i64 L.length)),(19,.val (.int .i64 i))],[(1,some (.row b k 59 1 ys))],2,μ',Mem.nil⟩) (fun p=>L.length-p.1)
  (0,some r16,0,[],μ1) ⟨by simp,Mem.Le.refl _,.nil⟩ (fun(_,_,_,_,_)=>⟨rfl,rfl⟩) ⟨⟨rfl,rfl,rfl,rfl,trivial⟩,⟨rfl,trivial⟩,rfl,rfl⟩ ?_
 rintro⟨i,b,k,ys,μ'⟩ ⟨hi,hle,hrows⟩
 dsimp only at hi hle hrows
 have hlen:=hrows.len
 simp only[List.length_map,List.length_take]at hlen
 refine ifd (fun h=>?_) (fun h=>?_)
 ·have w_ := aSo (l := L) (i := i) (by omega)
  obtain⟨c,hc⟩:=w_
  have w_:=cF (hsl.mono hle) hc
  obtain⟨ad,pc,hel,hrc⟩:=w_
  have hcl2:=hbd.1 c (mAt hc)
  have hcs:Sl μ' 4 pc.1 c.length (c.map Gl.d):=by
   have w_:=Rep.sl (xs:=c.map Gl.d) hrc
   obtain⟨b',c',e1,hs⟩:=w_
   have w_:=Value.slice.inj e1
   obtain⟨rfl,_,_⟩:=w_
   simpa using hs
  refine eIn hel ?_
  refine cPl (lQ hcs (by omega) (hSh c (mAt hc))) fun v4 μ4 hle4 hR4=>?_
  have w_:=sL hR4
  obtain⟨q,rfl⟩:=w_
  intro r26
  refine gIn ?_ ?_ fun b' c' _=>?_
  ·show(ys.length+1)*24≤_;omega
  ·exact Nat.le_trans (m:=100000000) (show ys.length+1≤_ by omega) (by decide)
  refine aB (by omega) (by omega) ⟨(i+1,b',c',_,μ4),⟨by dsimp only;omega,hle.trans hle4,?_⟩,by dsimp only;omega,⟨⟨rfl,rfl,rfl,rfl,trivial⟩,⟨rfl,trivial⟩,rfl,rfl⟩⟩
  dsimp only
  rw[List.take_add_one,hc,Option.toList_some,List.map_append]
  exact(hrows.mono hle4).append (Rows.one hR4 rfl)
 ·obtain rfl : i = L.length := by omega
  rw[List.take_length]at hrows
  refine rFz [1] fun μ' hle' hno hrow=> .inl ⟨_,rfl,?_⟩
  exact Rows.sl hrow (hrows.mono hle') (Nat.le_trans (m:=100000000) (by omega) (by decide))
end
end Go.Vx
namespace Go.Vx
open Go.Proofs Classical
section
variable {μ:Mem}
theorem qOg{p:Pg}(hw:p.d.wd){i:Nat}{x:Rl}(hx:p.rels[i]? =some x):x.body.d.wd:=by
 have hw2:D.wds (p.rels.map Rl.d):=by rw[Pg.d_eq]at hw;exact hw.1
 have h:=D.wds_mem hw2 _ (mAt (lM (f:=Rl.d) hx))
 rw[Rl.d_eq]at h;exact h.2.2.2.1
set_option maxHeartbeats 8000000 in
end
end Go.Vx
namespace Go.Vx
open Go.Proofs Classical
section
variable {μ:Mem}
theorem vY{a b:T}{va vb:Value}(ha:RepV μ a.tm.d va)(hb:RepV μ b.tm.d vb):Spec Tryz.prog 227 [va,vb] μ fun v μ'=>RepV μ' (T.pair a b).tm.d v:=by
 have w_:=Tm.invV ha
 obtain⟨p,rfl⟩:=w_
 have w_:=Tm.invV hb
 obtain⟨q,rfl⟩:=w_
 refine Spec.mk Tryz.func227 (by kernel_rfl) ?_
 intro r1 r2 r3 r4
 refine rFz [3] fun μ' hle hno hrow=> .inl ?_
 rw[T.tm,Tm.d_mk]
 exact⟨_,rfl,RepS.int (RepS.int (RepS.str (RepS.last (Rows.sl hrow (.cons (ha.mono hle) (Tm.d_n _) (.cons (hb.mono hle) (Tm.d_n _) .nil)) (show 2≤maxLen by decide)))))⟩
theorem tH{k:FuncId}{caps:List Value}{f:Int→Option T}(J:Mem→Mem→Prop)(hJ:∀{μ' μ'' h':Mem},μ'.Le μ''→J μ' h'→J μ'' h'):∀(x:T) {μ h:Mem} {v:Value},
  (∀μ' h',μ.Le μ'→J μ' h'→∀n∈x.vars,SpecH Tryz.prog k (.int .i64 n::caps) μ' h' fun v μ'' h''=>qDg (fun y tv=>RepV μ'' y.tm.d tv) (f n) v∧J μ'' h'')→J μ h→RepV μ x.tm.d v→
  SpecH Tryz.prog 180 [v,.func (.func k) #[] caps.toArray] μ h fun v μ' h'=>RepV μ' (x.subst f).tm.d v∧J μ' h':=by
 intro x
 induction x with
 |var n=>
  intro μ h v hk hj hv
  have w_:=Tm.invV hv
  obtain⟨p,rfl⟩:=w_
  refine SpecH.mk [] Tryz.func180 (by kernel_rfl) ?_
  intro r1 r2
  refine ifd (fun _=>?_) (fun h=>absurd rfl h)
  refine cOw (hk μ h (Mem.Le.refl μ) hj n (by simp[T.vars])) fun v' μ' h' hle hap hR=>?_
  obtain⟨hR,hj'⟩:=hR
  simp only[T.subst]
  cases hs:f n with
  |some y=>
   rw[hs]at hR
   obtain⟨tv,rfl,htv⟩:=hR
   have w_:=Tm.invV htv
   obtain⟨q,rfl⟩:=w_
   intro r3
   refine iIn (fun _=>?_) (fun h=>nomatch h)
   refine cPl (fN y htv) fun v2 μ2 hle2 hR2=>?_
   have w_:=Tm.invV hR2.rep
   obtain⟨q2,rfl⟩:=w_
   exact rPl ⟨hR2.rep,hJ hle2 hj'⟩
  |none=>
   rw[hs]at hR
   obtain rfl:=hR
   intro r3
   refine iIn (fun h=>nomatch h) (fun _=>?_)
   exact rPl ⟨hv.mono hle,hj'⟩
 |pair a b iha ihb=>
  intro μ h v hk hj hv
  have w_:=Tm.inv hv
  obtain⟨base',cap',rfl,hsa⟩:=w_
  have w_:=T.parts hsa
  obtain⟨ad,ad',p,p',h1,h2,hra,hrb⟩:=w_
  refine SpecH.mk [] Tryz.func180 (by kernel_rfl) ?_
  intro r1 r2
  refine ifd (fun h=>absurd h (by simp)) (fun _=>?_)
  refine ifd (fun _=>?_) (fun h=>absurd rfl h)
  refine eIn h1 ?_
  refine eIn h2 ?_
  refine cOw (iha (fun μ' h' g1 g2 n hn=>hk μ' h' g1 g2 n (by simp[T.vars,hn])) hj hra) fun v1 μ1 h1' hle1 hap1 hR1=>?_
  obtain⟨hR1,hj1⟩:=hR1
  refine cOw (ihb (fun μ' h' g1 g2 n hn=>hk μ' h' (hle1.trans g1) g2 n (by simp[T.vars,hn])) hj1 (hrb.mono hle1)) fun v2 μ2 h2' hle2 hap2 hR2=>?_
  obtain⟨hR2,hj2⟩:=hR2
  refine cPl (vY (hR1.mono hle2) hR2) fun v3 μ3 hle3 hR3=>?_
  have w_:=Tm.invV hR3
  obtain⟨q,rfl⟩:=w_
  exact rPl ⟨hR3,hJ hle3 hj2⟩
 |_=>
  intro μ h v hk hj hv
  have w_:=Tm.invV hv
  obtain⟨p,rfl⟩:=w_
  refine SpecH.mk [] Tryz.func180 (by kernel_rfl) ?_
  intro r1 r2
  refine ifd (fun h=>absurd h (by simp[T.tm,Tm.kind])) (fun _=>?_)
  refine ifd (fun h=>absurd h (by simp[T.tm,Tm.kind])) (fun _=>?_)
  exact rPl ⟨hv,hj⟩
end
end Go.Vx
namespace Go.Vx
open Go.Proofs Classical
theorem yE{α:Type}{c:α→α→Int}(ho:Ord3 c){a b:List α}(ha:Asc3 c a)(_hb:Asc3 c b)(h:∀x∈a,x∈b)(hne:b.length≠a.length):a.length<b.length:=by
 have:=kS (ha.nodup ho) h
 omega
def dR(U:List T):Nat→Nat→List T
 |0,_=>[]
 |n+1,w=>U.getD (w % U.length) .nil::dR U n (w / U.length)
theorem gG(U:List T):∀n w,(dR U n w).length=n
 |0,_=>rfl
 |n+1,w=>by rw[dR,List.length_cons,gG U n]
theorem qT(U:List T):∀k n w,k<n→(dR U n w)[k]? =some (U.getD (w / U.length ^ k % U.length) .nil)
 |k,0,w,h=>by omega
 |0,n+1,w,h=>by simp[dR]
 |k+1,n+1,w,h=>by
  rw[dR,List.getElem?_cons_succ,qT U k n _ (by omega),Nat.div_div_eq_div_mul,←Nat.pow_succ']
theorem mR(U:List T)(hU:0<U.length):∀n w,∀x∈dR U n w,x∈U
 |0,w,x,h=>by simp[dR]at h
 |n+1,w,x,h=>by
  rcases List.mem_cons.1 h with rfl|h
  ·rw [List.getD_eq_getElem?_getD, List.getElem?_eq_getElem (Nat.mod_lt _ hU)]
   exact List.getElem_mem _
  ·exact mR U hU n _ x h
noncomputable def dY(U:List T)(r:Rl)(i:Nat)(c:List Gl)(w:Nat):Option Ru:=
 if ∀g∈c,okG U (dR U (r.arity+r.locals).toNat w) g then some (dZ r i c (dR U (r.arity+r.locals).toNat w))else none
noncomputable def bI(U:List T)(r:Rl)(i:Nat)(c:List Gl)(w:Nat):List Ru:=(List.range w).filterMap (dY U r i c)
noncomputable def aY(U:List T)(r:Rl)(L:List (List Gl))(k:Nat):List Ru:=(List.range k).flatMap fun i=>bI U r i (L.getD i []) (U.length ^ (r.arity+r.locals).toNat)
noncomputable def cD(U:List T)(r:Rl):List Ru:=match r.body.cl with
 |none=>[]
 |some L=>aY U r L L.length
noncomputable def cC(p:Pg)(U:List T):List Ru:=p.rels.flatMap (cD U)
def qLi(p:Pg)(U:List T):Prop:=∀r∈p.rels,r.body.cl≠none∧U.length ^ (r.arity+r.locals).toNat≤4096
noncomputable def cI(p:Pg)(U:List T):Option (List Ru):=if qLi p U∧(cC p U).length≤2000 then some (cC p U)else none
theorem kN(U:List T)(r:Rl)(i:Nat)(c:List Gl)(w:Nat):bI U r i c (w+1)=bI U r i c w++(dY U r i c w).toList:=by
 rw[bI,List.range_succ,List.filterMap_append]
 cases h:dY U r i c w<;>simp[h,bI]
theorem jH{U:List T}{r:Rl}{L:List (List Gl)}{k:Nat}{c:List Gl}(h:L[k]? =some c):aY U r L (k+1)=aY U r L k++bI U r k c (U.length ^ (r.arity+r.locals).toNat):=by
 rw[aY,List.range_succ,List.flatMap_append]
 congr 1
 simp[List.getD_eq_getElem?_getD,h]
theorem jI{p:Pg}{U:List T}{i:Nat}{r:Rl}(h:p.rels[i]? =some r):(p.rels.take (i+1)).flatMap (cD U)=(p.rels.take i).flatMap (cD U)++cD U r:=by
 rw[List.take_add_one,h,Option.toList_some,List.flatMap_append]
 simp
end Go.Vx
namespace Go.Vx
open Go.Proofs Classical
section
variable {μ:Mem}
theorem T.elemL{xs:List T}{base:Option Addr}{n:Nat}(h:Sl μ 4 base n ((xs.map T.tm).map Tm.d)){i:Nat}{x:T}(hx:xs[i]? =some x):∃ad,∃p:Option Addr×Nat,ElemAt μ base n 4 i ad (x.tm.cs p)∧RepV μ x.tm.d (.agg (x.tm.cs p).toArray):=
 Tm.elem h (by simp[hx])
theorem jA{xs ys:List T}{base base2:Option Addr}{cap cap2:Nat}(hsl:Sl μ 4 base xs.length ((xs.map T.tm).map Tm.d))(hsl2:Sl μ 4 base2 ys.length ((ys.map T.tm).map Tm.d)):
  aM Tryz.prog 150 [.slice base xs.length cap,.slice base2 ys.length cap2] μ (.int .i64 (oS xs ys)):=by
 refine Spec.mk Tryz.func150 (by kernel_rfl) ?_
 have hm1:=aH hsl.max
 have hm2:=aH hsl2.max
 refine lIn (fun i:Nat=>i≤xs.length∧i≤ys.length∧oS (xs.drop i) (ys.drop i)=oS xs ys)
  (fun i=>⟨[(0,.val (.slice base xs.length cap)),(1,.val (.slice base2 ys.length cap2)),(5,.val (.int .i64 i))],[],0,μ,Mem.nil⟩) (fun i=>xs.length-i)
  0 ⟨Nat.zero_le _,Nat.zero_le _,rfl⟩ (fun _=>⟨rfl,rfl⟩) ⟨⟨rfl,rfl,rfl,trivial⟩,trivial,rfl,rfl⟩ ?_
 rintro i ⟨hi,hj,hJ⟩
 have fin:¬(i<xs.length∧i<ys.length)→oS xs ys=kX xs.length ys.length:=fun h=>mQ h hi hj hJ
 refine ifd (fun h1=>?_) (fun h1=>?_)
 ·refine ifd (fun h2 => ?_) (fun h2 => ?_)
  ·have w_ := aSo (l := xs) (i := i) (by omega)
   obtain⟨x,hx⟩:=w_
   have w_:=aSo (l:=ys) (i:=i) (by omega)
   obtain⟨y,hy⟩:=w_
   have w_:=T.elemL hsl hx
   obtain⟨ad,p,hel,hto⟩:=w_
   have w_:=T.elemL hsl2 hy
   obtain⟨ad2,p2,hel2,hto2⟩:=w_
   rw[bR hx,bR hy,oS,cU]at hJ
   refine eIn hel (eIn hel2 ?_)
   refine cGv (eV _ _ hto hto2) ?_
   refine aL (fun h5=>?_) (fun h5=>?_)
   ·rw [pQ h5] at hJ
    exact rGv (congrArg (Value.int .i64) hJ) rfl
   ·rw [pP h5] at hJ
    exact aB (by omega) (by omega) ⟨i+1,⟨by omega,by omega,hJ⟩,by omega,⟨⟨rfl,rfl,rfl,trivial⟩,trivial,rfl,rfl⟩⟩
  ·refine cGv (jG _ _) ?_
   exact rGv (by rw[fin (by omega)]) rfl
 ·refine cGv (jG _ _) ?_
  exact rGv (by rw[fin (by omega)]) rfl
theorem vH{xs ys:List T}{base base2:Option Addr}{cap cap2:Nat}(hsl:Sl μ 4 base xs.length ((xs.map T.tm).map Tm.d))(hsl2:Sl μ 4 base2 ys.length ((ys.map T.tm).map Tm.d)):
  aM Tryz.prog 206 [.slice base xs.length cap,.slice base2 ys.length cap2] μ (.int .i64 (oS xs ys)):=by
 refine Spec.mk Tryz.func206 (by kernel_rfl) ?_
 have hm1:=aH hsl.max
 have hm2:=aH hsl2.max
 refine lIn (fun i:Nat=>i≤xs.length∧i≤ys.length∧oS (xs.drop i) (ys.drop i)=oS xs ys)
  (fun i=>⟨[(0,.val (.slice base xs.length cap)),(1,.val (.slice base2 ys.length cap2)),(5,.val (.int .i64 i))],[],0,μ,Mem.nil⟩) (fun i=>xs.length-i)
  0 ⟨Nat.zero_le _,Nat.zero_le _,rfl⟩ (fun _=>⟨rfl,rfl⟩) ⟨⟨rfl,rfl,rfl,trivial⟩,trivial,rfl,rfl⟩ ?_
 rintro i ⟨hi,hj,hJ⟩
 have fin:¬(i<xs.length∧i<ys.length)→oS xs ys=kX xs.length ys.length:=fun h=>mQ h hi hj hJ
 refine ifd (fun h1=>?_) (fun h1=>?_)
 ·refine ifd (fun h2 => ?_) (fun h2 => ?_)
  ·have w_ := aSo (l := xs) (i := i) (by omega)
   obtain⟨x,hx⟩:=w_
   have w_:=aSo (l:=ys) (i:=i) (by omega)
   obtain⟨y,hy⟩:=w_
   have w_:=T.elemL hsl hx
   obtain⟨ad,p,hel,hto⟩:=w_
   have w_:=T.elemL hsl2 hy
   obtain⟨ad2,p2,hel2,hto2⟩:=w_
   rw[bR hx,bR hy,oS,cU]at hJ
   refine eIn hel (eIn hel2 ?_)
   refine cGv (gR _ _ hto hto2) ?_
   refine aL (fun h5=>?_) (fun h5=>?_)
   ·rw [pQ h5] at hJ
    exact rGv (congrArg (Value.int .i64) hJ) rfl
   ·rw [pP h5] at hJ
    exact aB (by omega) (by omega) ⟨i+1,⟨by omega,by omega,hJ⟩,by omega,⟨⟨rfl,rfl,rfl,trivial⟩,trivial,rfl,rfl⟩⟩
  ·have hf := fin (by omega)
   refine aL (fun h3=>?_) (fun h3=>?_)
   ·refine cGv (dG _) ?_
    exact rGv (by rw[hf,kX,if_neg h3]) rfl
   ·exact rGv (by rw[hf,kX,if_pos h3]) rfl
 ·have hf := fin (by omega)
  refine aL (fun h3=>?_) (fun h3=>?_)
  ·refine cGv (dG _) ?_
   exact rGv (by rw[hf,kX,if_neg h3]) rfl
  ·exact rGv (by rw[hf,kX,if_pos h3]) rfl
theorem dD{f g:F}{v w:Value}(hv:RepV μ f.fc.d v)(hw:RepV μ g.fc.d w):aM Tryz.prog 79 [v,w] μ (.int .i64 (dC f g)):=by
 have w_:=F.inv hv
 obtain⟨p,rfl,hs⟩:=w_
 have w_:=F.inv hw
 obtain⟨q,rfl,hs2⟩:=w_
 refine Spec.mk Tryz.func79 (by kernel_rfl) ?_
 intro r1 r2
 rw[dC]
 refine aL (fun h=>?_) (fun h=>?_)
 ·have e:kT (sT f.rel g.rel) (oS f.args g.args)=sgn (Op.bytesLess f.rel.data.toList g.rel.data.toList):=by
   rw[pQ (fun k=>h ((cName_ord.zero _ _).1 k)),sT,if_neg h]
  rw[e]
  refine iIn (fun h4=>rGv ?_ rfl) (fun h4=>rGv ?_ rfl)
  ·rw[h4];rfl
  ·rw[h4];rfl
 ·rw [pP ((cName_ord.zero _ _).2 h)]
  refine cGv (jA hs hs2) ?_
  exact rGv rfl rfl
theorem gT{f g:F}{v w:Value}(hv:RepV μ f.fc.d v)(hw:RepV μ g.fc.d w):aM Tryz.prog 143 [v,w] μ (.int .i64 (dC f g)):=by
 have w_:=F.inv hv
 obtain⟨p,rfl,hs⟩:=w_
 have w_:=F.inv hw
 obtain⟨q,rfl,hs2⟩:=w_
 refine Spec.mk Tryz.func143 (by kernel_rfl) ?_
 intro r1 r2
 rw[dC]
 refine aL (fun h=>?_) (fun h=>?_)
 ·have e:kT (sT f.rel g.rel) (oS f.args g.args)=sgn (Op.bytesLess f.rel.data.toList g.rel.data.toList):=by
   rw[pQ (fun k=>h ((cName_ord.zero _ _).1 k)),sT,if_neg h]
  rw[e]
  refine cGv (dG _) ?_
  exact rGv rfl rfl
 ·rw [pP ((cName_ord.zero _ _).2 h)]
  refine cGv (vH hs hs2) ?_
  exact rGv rfl rfl
end
end Go.Vx
