/- Texts of the proof, part M5. -/
import Derived.KernelRfl
import Derived.Lib.Atoi
import Derived.Lib.ItoaNum
import Derived.Shelf.Lays
import Derived.Shelf.Strings.Builder1
import Derived.Shelf.Strings.BuilderX
import Derived.Test.YtcmehajdmepcgaaGreatDoorProg
import Derived.Test.YtcmehajdmepcgaaGreatDoorM4
namespace Go.Vx
open Go.Proofs Classical
def AscT(l:List T):Prop:=∀(i:Nat) x y,l[i]? =some x→l[i+1]? =some y→x.cmp y<0
theorem AscT.ins{l:List T}{t:T}{k:Nat}(h:AscT l)(hk:k≤l.length)(h1:∀x,l[k]? =some x→t.cmp x<0)(h2:∀j x,j+1=k→l[j]? =some x→x.cmp t<0):AscT (l.take k++t::l.drop k):=by
 intro i x y hx hy
 have hlen:(l.take k).length=k:=by rw[List.length_take];omega
 rw[List.getElem?_append]at hx hy
 rw[hlen]at hx hy
 by_cases a:i+1<k
 ·rw [if_pos (by omega), List.getElem?_take, if_pos (by omega)] at hx
  rw[if_pos a,List.getElem?_take,if_pos a]at hy
  exact h i x y hx hy
 ·rw [if_neg a] at hy
  by_cases b:i<k
  ·have e : i + 1 = k := by omega
   rw[if_pos b,List.getElem?_take,if_pos b]at hx
   rw[e,Nat.sub_self]at hy
   cases hy
   exact h2 i x e hx
  ·rw [if_neg b] at hx
   by_cases c:i=k
   ·subst c
    rw[Nat.sub_self]at hx
    rw[show i+1-i=0+1 from by omega,List.getElem?_cons_succ,List.getElem?_drop,Nat.add_zero]at hy
    cases hx
    exact h1 y hy
   ·rw [show i - k = (i - k - 1) + 1 from by omega, List.getElem?_cons_succ, List.getElem?_drop, show k + (i - k - 1) = i - 1 from by omega] at hx
    rw[show i+1-k=(i-k)+1 from by omega,List.getElem?_cons_succ,List.getElem?_drop,show k+(i-k)=(i-1)+1 from by omega]at hy
    exact h (i-1) x y hx hy
section
variable {μ:Mem}
set_option maxHeartbeats 1000000 in
theorem mQ{xs:List T}{t:T}{v vt:Value}(h:RepV μ (.sl 4 ((xs.map T.tm).map Tm.d)) v)(ht:RepV μ t.tm.d vt)(hasc:AscT xs)(hn:xs.length≤1000):
  Spec Tryz.prog 39 [v,vt] μ fun v' μ'=>∃ys,RepV μ' (.sl 4 ((ys.map T.tm).map Tm.d)) v'∧AscT ys∧(∀y∈ys,y=t∨y∈xs)∧1≤ys.length∧ys.length≤xs.length+1:=by
 have w_:=Rep.sl h
 obtain⟨b,c,rfl,hs⟩:=w_
 rw[List.length_map,List.length_map]at hs h ⊢
 have w_:=Rep.src h
 obtain⟨vs,hrows,hvs,hcap,hsrc⟩:=w_
 have w_:=Tm.invV ht
 obtain⟨q,rfl⟩:=w_
 refine Spec.mk Tryz.func39 (by kernel_rfl) ?_
 intro r3
 refine lIn (fun k:Nat=>k≤xs.length∧∀x,xs[k]? =some x→0≤x.cmp t) (fun k=>⟨[(0,.val (.slice b xs.length c)),(3,.loc 0 r3 0),(5,.val (.int .i64 k))],[(0,some (.cells r3 [.val (.int .i64 t.tm.kind),.val (.int .i64 t.tm.num),.val (.string t.tm.name),.val (.slice q.1 t.tm.args.length q.2)] 57))],1,μ,Mem.nil⟩) (fun k=>k)
  xs.length ⟨Nat.le_refl _,fun x hx=>by rw[List.getElem?_eq_none (Nat.le_refl _)]at hx;cases hx⟩ (fun _=>⟨rfl,rfl⟩) ⟨⟨rfl,rfl,rfl,trivial⟩,⟨rfl,trivial⟩,rfl,rfl⟩ ?_
 rintro k ⟨hk,hge⟩
 refine ifd (fun hk0=>?_) (fun hk0=>?_)
 ·obtain ⟨j, hj⟩ : ∃ j, k = j + 1 := ⟨k - 1, by omega⟩
  obtain⟨x,hx⟩:∃x,xs[j]? =some x:=⟨_,List.getElem?_eq_getElem (by omega)⟩
  have w_:=T.elemL hs hx
  obtain⟨ad,p,hel,hrx⟩:=w_
  refine aC (by omega) (by omega) ?_
  rw[show(k:Int)-1=(j:Int)from by omega]
  refine eIn hel ?_
  refine cGv (iV x t hrx ht) ?_
  refine iIn (fun hc=>?_) (fun hc=>?_)
  ·have hc := of_decide_eq_true hc
   refine aC (by omega) (by omega) ⟨j,⟨by omega,fun y hy=>by rw[hx]at hy;cases hy;exact hc⟩,by omega,⟨⟨rfl,rfl,?_,trivial⟩,⟨rfl,trivial⟩,rfl,rfl⟩⟩
   show some (SV.val (.int .i64 _))=some (SV.val (.int .i64 _))
   congr 3;omega
  ·have hc := of_decide_eq_false hc
   have hlow:∀j x,j+1=k→xs[j]? =some x→x.cmp t<0:=fun j' x' e hx'=>by
    obtain rfl:j'=j:=by omega
    rw[hx]at hx';cases hx'
    omega
   refine ifd (fun hlt=>?_) (fun hlt=>?_)
   ·obtain ⟨y, hy⟩ : ∃ y, xs[k]? = some y := ⟨_, List.getElem?_eq_getElem (by omega)⟩
    have w_:=T.elemL hs hy
    obtain⟨ady,py,hely,hry⟩:=w_
    refine eIn hely ?_
    refine cGv (eZ y t hry ht) ?_
    refine iIn (fun hsm=>?_) (fun hsm=>?_)
    ·exact rPl ⟨xs,h,hasc,fun y hy=> .inr hy,by omega,by omega⟩
    ·have hsm := of_decide_eq_false hsm
     have hhi:∀x,xs[k]? =some x→t.cmp x<0:=fun x hx=>by
      rw[hy]at hx;cases hx
      have h1:=hge y hy
      have h2:y.cmp t≠0:=fun e=>hsm ((T.cmp_zero y t).1 e)
      exact(T.cmp_anti t y).2 (by omega)
     intro r5
     refine aE 0 k rfl rfl (by omega) (by omega) ?_
     refine aN _ (hsrc 0 k (by omega) (by omega)) ?_
     refine gIn ?_ ?_ fun b1 c1 _=>?_
     ·show(0+_)*56≤_;simp;omega
     ·exact Nat.le_trans (m:=2000000000) (by simp;omega) (by decide)
     intro r6
     refine gIn ?_ ?_ fun b2 c2 _=>?_
     ·show(_+1)*56≤_;simp;omega
     ·exact Nat.le_trans (m:=2000000000) (by simp;omega) (by decide)
     refine aE k xs.length rfl rfl (by omega) (by omega) ?_
     refine aN _ (hsrc k xs.length (by omega) (Nat.le_refl _)) ?_
     refine gIn ?_ ?_ fun b3 c3 _=>?_
     ·show(_+_)*56≤_;simp;omega
     ·exact Nat.le_trans (m:=3000000000) (by simp;omega) (by decide)
     have hr2:=((hrows.take k).append (Rows.one ht (Tm.d_n _))).append (hrows.drop k)
     refine rFz [1] fun μ2 hle2 hno2 hrow2=> .inl ⟨xs.take k++t::xs.drop k,?_,AscT.ins hasc (by omega) hhi hlow,fun y hy=>?_,by simp;omega,by simp;omega⟩
     ·have ev:(([]:List Value)++(vs.drop 0).take (k-0)++[Value.agg #[.int .i64 t.tm.kind,.int .i64 t.tm.num,.string t.tm.name,.slice q.1 t.tm.args.length q.2]]++(vs.drop k).take (xs.length-k))=vs.take k++[.agg #[.int .i64 t.tm.kind,.int .i64 t.tm.num,.string t.tm.name,.slice q.1 t.tm.args.length q.2]]++vs.drop k:=by
       simp
       rw[List.take_of_length_le (by simp;omega)]
      have e2:(((xs.take k++t::xs.drop k).map T.tm).map Tm.d)=((xs.map T.tm).map Tm.d).take k++[t.tm.d]++((xs.map T.tm).map Tm.d).drop k:=by simp
      have hrow2:=ev ▸ hrow2
      have:=Rows.sl hrow2 (hr2.mono hle2) (Nat.le_trans (m:=3000000000) (by simp;omega) (by decide))
      rw[←e2]at this
      rw[←ev]at this
      exact this
     ·rcases List.mem_append.1 hy with hy | hy
      ·exact .inr (List.mem_of_mem_take hy)
      ·rcases List.mem_cons.1 hy with rfl | hy
       ·exact .inl rfl
       ·exact .inr (List.mem_of_mem_drop hy)
   ·have hhi : ∀ x, xs[k]? = some x → t.cmp x < 0 := fun x hx => by have := (List.getElem?_eq_some_iff.1 hx).1; omega
    intro r5
    refine aE 0 k rfl rfl (by omega) (by omega) ?_
    refine aN _ (hsrc 0 k (by omega) (by omega)) ?_
    refine gIn ?_ ?_ fun b1 c1 _=>?_
    ·show(0+_)*56≤_;simp;omega
    ·exact Nat.le_trans (m:=2000000000) (by simp;omega) (by decide)
    intro r6
    refine gIn ?_ ?_ fun b2 c2 _=>?_
    ·show(_+1)*56≤_;simp;omega
    ·exact Nat.le_trans (m:=2000000000) (by simp;omega) (by decide)
    refine aE k xs.length rfl rfl (by omega) (by omega) ?_
    refine aN _ (hsrc k xs.length (by omega) (Nat.le_refl _)) ?_
    refine gIn ?_ ?_ fun b3 c3 _=>?_
    ·show(_+_)*56≤_;simp;omega
    ·exact Nat.le_trans (m:=3000000000) (by simp;omega) (by decide)
    have hr2:=((hrows.take k).append (Rows.one ht (Tm.d_n _))).append (hrows.drop k)
    refine rFz [1] fun μ2 hle2 hno2 hrow2=> .inl ⟨xs.take k++t::xs.drop k,?_,AscT.ins hasc (by omega) hhi hlow,fun y hy=>?_,by simp;omega,by simp;omega⟩
    ·have ev:(([]:List Value)++(vs.drop 0).take (k-0)++[Value.agg #[.int .i64 t.tm.kind,.int .i64 t.tm.num,.string t.tm.name,.slice q.1 t.tm.args.length q.2]]++(vs.drop k).take (xs.length-k))=vs.take k++[.agg #[.int .i64 t.tm.kind,.int .i64 t.tm.num,.string t.tm.name,.slice q.1 t.tm.args.length q.2]]++vs.drop k:=by
      simp
      rw[List.take_of_length_le (by simp;omega)]
     have e2:(((xs.take k++t::xs.drop k).map T.tm).map Tm.d)=((xs.map T.tm).map Tm.d).take k++[t.tm.d]++((xs.map T.tm).map Tm.d).drop k:=by simp
     have hrow2:=ev ▸ hrow2
     have:=Rows.sl hrow2 (hr2.mono hle2) (Nat.le_trans (m:=3000000000) (by simp;omega) (by decide))
     rw[←e2]at this
     rw[←ev]at this
     exact this
    ·rcases List.mem_append.1 hy with hy | hy
     ·exact .inr (List.mem_of_mem_take hy)
     ·rcases List.mem_cons.1 hy with rfl | hy
      ·exact .inl rfl
      ·exact .inr (List.mem_of_mem_drop hy)
 ·have hlow : ∀ j x, j + 1 = k → xs[j]? = some x → x.cmp t < 0 := fun j' x' e => by omega
  refine ifd (fun hlt=>?_) (fun hlt=>?_)
  ·obtain ⟨y, hy⟩ : ∃ y, xs[k]? = some y := ⟨_, List.getElem?_eq_getElem (by omega)⟩
   have w_:=T.elemL hs hy
   obtain⟨ady,py,hely,hry⟩:=w_
   refine eIn hely ?_
   refine cGv (eZ y t hry ht) ?_
   refine iIn (fun hsm=>?_) (fun hsm=>?_)
   ·exact rPl ⟨xs,h,hasc,fun y hy=> .inr hy,by omega,by omega⟩
   ·have hsm := of_decide_eq_false hsm
    have hhi:∀x,xs[k]? =some x→t.cmp x<0:=fun x hx=>by
     rw[hy]at hx;cases hx
     have h1:=hge y hy
     have h2:y.cmp t≠0:=fun e=>hsm ((T.cmp_zero y t).1 e)
     exact(T.cmp_anti t y).2 (by omega)
    intro r5
    refine aE 0 k rfl rfl (by omega) (by omega) ?_
    refine aN _ (hsrc 0 k (by omega) (by omega)) ?_
    refine gIn ?_ ?_ fun b1 c1 _=>?_
    ·show(0+_)*56≤_;simp;omega
    ·exact Nat.le_trans (m:=2000000000) (by simp;omega) (by decide)
    intro r6
    refine gIn ?_ ?_ fun b2 c2 _=>?_
    ·show(_+1)*56≤_;simp;omega
    ·exact Nat.le_trans (m:=2000000000) (by simp;omega) (by decide)
    refine aE k xs.length rfl rfl (by omega) (by omega) ?_
    refine aN _ (hsrc k xs.length (by omega) (Nat.le_refl _)) ?_
    refine gIn ?_ ?_ fun b3 c3 _=>?_
    ·show(_+_)*56≤_;simp;omega
    ·exact Nat.le_trans (m:=3000000000) (by simp;omega) (by decide)
    have hr2:=((hrows.take k).append (Rows.one ht (Tm.d_n _))).append (hrows.drop k)
    refine rFz [1] fun μ2 hle2 hno2 hrow2=> .inl ⟨xs.take k++t::xs.drop k,?_,AscT.ins hasc (by omega) hhi hlow,fun y hy=>?_,by simp;omega,by simp;omega⟩
    ·have ev:(([]:List Value)++(vs.drop 0).take (k-0)++[Value.agg #[.int .i64 t.tm.kind,.int .i64 t.tm.num,.string t.tm.name,.slice q.1 t.tm.args.length q.2]]++(vs.drop k).take (xs.length-k))=vs.take k++[.agg #[.int .i64 t.tm.kind,.int .i64 t.tm.num,.string t.tm.name,.slice q.1 t.tm.args.length q.2]]++vs.drop k:=by
      simp
      rw[List.take_of_length_le (by simp;omega)]
     have e2:(((xs.take k++t::xs.drop k).map T.tm).map Tm.d)=((xs.map T.tm).map Tm.d).take k++[t.tm.d]++((xs.map T.tm).map Tm.d).drop k:=by simp
     have hrow2:=ev ▸ hrow2
     have:=Rows.sl hrow2 (hr2.mono hle2) (Nat.le_trans (m:=3000000000) (by simp;omega) (by decide))
     rw[←e2]at this
     rw[←ev]at this
     exact this
    ·rcases List.mem_append.1 hy with hy | hy
     ·exact .inr (List.mem_of_mem_take hy)
     ·rcases List.mem_cons.1 hy with rfl | hy
      ·exact .inl rfl
      ·exact .inr (List.mem_of_mem_drop hy)
  ·have hhi : ∀ x, xs[k]? = some x → t.cmp x < 0 := fun x hx => by have := (List.getElem?_eq_some_iff.1 hx).1; omega
   intro r5
   refine aE 0 k rfl rfl (by omega) (by omega) ?_
   refine aN _ (hsrc 0 k (by omega) (by omega)) ?_
   refine gIn ?_ ?_ fun b1 c1 _=>?_
   ·show(0+_)*56≤_;simp;omega
   ·exact Nat.le_trans (m:=2000000000) (by simp;omega) (by decide)
   intro r6
   refine gIn ?_ ?_ fun b2 c2 _=>?_
   ·show(_+1)*56≤_;simp;omega
   ·exact Nat.le_trans (m:=2000000000) (by simp;omega) (by decide)
   refine aE k xs.length rfl rfl (by omega) (by omega) ?_
   refine aN _ (hsrc k xs.length (by omega) (Nat.le_refl _)) ?_
   refine gIn ?_ ?_ fun b3 c3 _=>?_
   ·show(_+_)*56≤_;simp;omega
   ·exact Nat.le_trans (m:=3000000000) (by simp;omega) (by decide)
   have hr2:=((hrows.take k).append (Rows.one ht (Tm.d_n _))).append (hrows.drop k)
   refine rFz [1] fun μ2 hle2 hno2 hrow2=> .inl ⟨xs.take k++t::xs.drop k,?_,AscT.ins hasc (by omega) hhi hlow,fun y hy=>?_,by simp;omega,by simp;omega⟩
   ·have ev:(([]:List Value)++(vs.drop 0).take (k-0)++[Value.agg #[.int .i64 t.tm.kind,.int .i64 t.tm.num,.string t.tm.name,.slice q.1 t.tm.args.length q.2]]++(vs.drop k).take (xs.length-k))=vs.take k++[.agg #[.int .i64 t.tm.kind,.int .i64 t.tm.num,.string t.tm.name,.slice q.1 t.tm.args.length q.2]]++vs.drop k:=by
     simp
     rw[List.take_of_length_le (by simp;omega)]
    have e2:(((xs.take k++t::xs.drop k).map T.tm).map Tm.d)=((xs.map T.tm).map Tm.d).take k++[t.tm.d]++((xs.map T.tm).map Tm.d).drop k:=by simp
    have hrow2:=ev ▸ hrow2
    have:=Rows.sl hrow2 (hr2.mono hle2) (Nat.le_trans (m:=3000000000) (by simp;omega) (by decide))
    rw[←e2]at this
    rw[←ev]at this
    exact this
   ·rcases List.mem_append.1 hy with hy | hy
    ·exact .inr (List.mem_of_mem_take hy)
    ·rcases List.mem_cons.1 hy with rfl | hy
     ·exact .inl rfl
     ·exact .inr (List.mem_of_mem_drop hy)
end
end Go.Vx
namespace Go.Vx
open Go.Proofs Classical
section
variable {μ:Mem}
structure Uni (most:Nat) (xs:List T):Prop where
 asc:AscT xs
 pos:1≤xs.length
 max:xs.length≤most
 drawn:∀t∈xs,Drawn 2 0 t
theorem Uni.ok{most:Nat}{xs:List T}(h:Uni most xs)(hm:most≤8):UnivOk (xs.map T.tm) where
 pos:=by rw[List.length_map];exact h.pos
 max:=by rw[List.length_map];exact Nat.le_trans h.max hm
 gnd:=fun t ht=>by
  have w_:=List.mem_map.1 ht
  obtain⟨x,hx,rfl⟩:=w_
  have hd:=h.drawn x hx
  refine⟨(hd.ok (by decide)).tm,?_⟩
  rw[T.toT_tm]
  rcases hvs:x.vars with _|⟨a,l⟩
  ·rfl
  ·have := hd.low a (sQ (by rw [hvs]; simp))
   omega
 asc:=fun i x y hx hy=>by
  rw[List.getElem?_map]at hx hy
  have w_:=Option.map_eq_some_iff.1 hx
  obtain⟨a,ha,rfl⟩:=w_
  have w_:=Option.map_eq_some_iff.1 hy
  obtain⟨b,hb,rfl⟩:=w_
  rw[T.toT_tm,T.toT_tm]
  exact h.asc i a b ha hb
set_option maxHeartbeats 1000000 in
theorem qM{h:Mem}{r:Nat}(hc:Cur μ h r h)(most:Nat)(hm:1≤most)(hm8:most≤8):
  SpecH Tryz.prog 19 [.pointer (some ⟨r,0,none⟩),.int .i64 most] μ h fun v μ' _=>∃xs,Uni most xs∧RepV μ' (.sl 4 ((xs.map T.tm).map Tm.d)) v:=by
 refine SpecH.mk [] Tryz.func19 (by kernel_rfl) ?_
 intro r7
 refine bF [0] fun μ0 hle0 hno0 hat0=>qN (aJ (hc.mono hle0) most) fun v μ1 h1 hle1 hap1 hR=>?_
 obtain⟨e,hc1,k0,rfl,-,hk0,-⟩:=hR
 obtain rfl:=e.symm
 have hk0:=hk0 (by omega)
 have hr0:RepV μ0 (.sl 4 ((([]:List T).map T.tm).map Tm.d)) (.slice (some ⟨r7,0,none⟩) 0 0):=Rows.sl hat0 Rows.nil (Nat.zero_le _)
 refine aC (by omega) (by omega) ?_
 refine lIn (fun z:Nat×Nat×List T×(Option Addr×Nat)×Mem×Mem=>z.1+z.2.1=1+k0∧(z.1=0→z.2.2.1=[]∧z.2.2.2.1=(some ⟨r7,0,none⟩,0))∧(0<z.1→1≤z.2.2.1.length)∧z.2.2.1.length≤z.1∧RepV z.2.2.2.2.1 (.sl 4 ((z.2.2.1.map T.tm).map Tm.d)) (.slice z.2.2.2.1.1 z.2.2.1.length z.2.2.2.1.2)∧AscT z.2.2.1∧(∀t∈z.2.2.1,Drawn 2 0 t)∧Cur z.2.2.2.2.1 h r z.2.2.2.2.2)
  (fun(i,k,xs,(b,c),μ',h')=>⟨[(0,.val (.pointer (some ⟨r,0,none⟩))),(5,match i with|0=> .row 0 (some r7) 0 0|_+1=> .val (.slice b xs.length c)),(6,.val (.int .i64 k))],[],1,μ',h'⟩) (fun z=>z.2.1)
  (0,1+k0,[],(some ⟨r7,0,none⟩,0),μ0,h1) ⟨by dsimp only;omega,fun _=>⟨rfl,rfl⟩,fun h=>absurd h (by dsimp only;omega),Nat.zero_le _,hr0,(fun _ _ _ h=>nomatch h),(fun _ h=>nomatch h),hc1⟩ (fun(i,_,_,(_,_),_,_)=>match i with|0=>⟨rfl,rfl⟩|_+1=>⟨rfl,rfl⟩) ⟨⟨rfl,rfl,by show some (SV.val (.int .i64 _))=some (SV.val (.int .i64 _));congr 3,trivial⟩,trivial,rfl,rfl⟩ ?_
 clear hc1 hap1
 rintro⟨i,k,xs,⟨b,c⟩,μ1,h1⟩ ⟨hik,hz,hpos,hxl,hr,hasc,hdr,hc1⟩
 dsimp only at hik hz hpos hxl hr hasc hdr hc1
 match i with
 |0=>
  have w_:=hz rfl
  obtain⟨rfl,e⟩:=w_
  obtain⟨rfl,rfl⟩:=Prod.mk.inj e
  refine ifd (fun hlt=>?_) (fun hlt=>absurd hlt (by omega))
  refine cOw (aJ hc1.at 2) fun v μ2 h2 hle2 hap2 hR=>?_
  obtain⟨e,hc2,k2,rfl,-,hk22,-⟩:=hR
  obtain rfl:=e.symm
  have hk22:=hk22 (by decide)
  have drawn:∃size:Nat,size≤1000∧1+2*(k2:Int)=(size:Int)∧lvB size≤2:=by
   have w_:k2=0∨k2=1:=by omega
   rcases w_ with rfl|rfl
   ·exact⟨1,by decide,rfl,by rw[lvB,if_neg (by decide)];decide⟩
   ·exact⟨3,by decide,rfl,by rw[qIk];decide⟩
  obtain⟨size,hs1,hs2,hs3⟩:=drawn
  refine aC (by omega) (by omega) (aC (by omega) (by omega) ?_)
  rw[hs2]
  refine cOw (dR 0 (by decide) size hs1 (hc1.trans hc2).at) fun v μ3 h3 hle3 hap3 hR=>?_
  obtain⟨hc3,t,hrt,hdt⟩:=hR
  refine cPl (mQ (hr.mono hle3) hrt hasc (by omega)) fun v4 μ4 hle4 hR4=>?_
  obtain⟨ys,hry,hya,hym,hy1,hyl⟩:=hR4
  have w_:=Rep.sl hry
  obtain⟨by_,cy,rfl,-⟩:=w_
  rw[List.length_map,List.length_map]at hry ⊢
  refine aC (by omega) (by omega) ⟨(0+1,k-1,ys,(by_,cy),μ4,h3),⟨by dsimp only;omega,(fun e=>by simp at e),fun _=>hy1,by dsimp only;omega,hry,hya,fun y hy=>?_,((hc1.trans hc2).trans hc3).mono hle4⟩,by dsimp only;omega,⟨⟨rfl,rfl,?_,trivial⟩,trivial,rfl,rfl⟩⟩
  ·rcases hym y hy with rfl | hy
   ·exact hdt.mono hs3
   ·exact hdr y hy
  ·show some (SV.val (.int .i64 _)) = some (SV.val (.int .i64 _))
   congr 3;omega
 |i+1=>
  refine ifd (fun hlt=>?_) (fun hlt=>?_)
  ·refine cOw (aJ hc1.at 2) fun v μ2 h2 hle2 hap2 hR => ?_
   obtain⟨e,hc2,k2,rfl,-,hk22,-⟩:=hR
   obtain rfl:=e.symm
   have hk22:=hk22 (by decide)
   have drawn:∃size:Nat,size≤1000∧1+2*(k2:Int)=(size:Int)∧lvB size≤2:=by
    have w_:k2=0∨k2=1:=by omega
    rcases w_ with rfl|rfl
    ·exact⟨1,by decide,rfl,by rw[lvB,if_neg (by decide)];decide⟩
    ·exact⟨3,by decide,rfl,by rw[qIk];decide⟩
   obtain⟨size,hs1,hs2,hs3⟩:=drawn
   refine aC (by omega) (by omega) (aC (by omega) (by omega) ?_)
   rw[hs2]
   refine cOw (dR 0 (by decide) size hs1 (hc1.trans hc2).at) fun v μ3 h3 hle3 hap3 hR=>?_
   obtain⟨hc3,t,hrt,hdt⟩:=hR
   refine cPl (mQ (hr.mono hle3) hrt hasc (by omega)) fun v4 μ4 hle4 hR4=>?_
   obtain⟨ys,hry,hya,hym,hy1,hyl⟩:=hR4
   have w_:=Rep.sl hry
   obtain⟨by_,cy,rfl,-⟩:=w_
   rw[List.length_map,List.length_map]at hry ⊢
   refine aC (by omega) (by omega) ⟨((i+1)+1,k-1,ys,(by_,cy),μ4,h3),⟨by dsimp only;omega,(fun e=>by simp at e),fun _=>hy1,by dsimp only;omega,hry,hya,fun y hy=>?_,((hc1.trans hc2).trans hc3).mono hle4⟩,by dsimp only;omega,⟨⟨rfl,rfl,?_,trivial⟩,trivial,rfl,rfl⟩⟩
   ·rcases hym y hy with rfl | hy
    ·exact hdt.mono hs3
    ·exact hdr y hy
   ·show some (SV.val (.int .i64 _)) = some (SV.val (.int .i64 _))
    congr 3;omega
  ·exact rPl ⟨xs,⟨hasc,hpos (by omega),by omega,hdr⟩,hr⟩
theorem pQ{base:Option Addr}{n cap:Nat}(hb:Bytes μ base n)(m:Int)(hm:m≤1000000)(most:Nat)(hm1:1≤most)(h8:most≤8):
  Spec Tryz.prog 5 [.slice base n cap,.int .i64 m,.int .i64 most] μ fun v μ'=>∃xs,Uni most xs∧RepV μ' (.sl 4 ((xs.map T.tm).map Tm.d)) v:=by
 refine Spec.mk Tryz.func5 (by kernel_rfl) ?_
 refine cOw (mJ hb m hm) fun v μ1 h1 hle1 hap1 hR=>?_
 obtain⟨e,r,rfl,ho,hc1⟩:=hR
 obtain rfl:=e.symm
 refine cOw (qM hc1.at most hm1 h8) fun v μ2 h2 hle2 hap2 hR=>?_
 exact rPl hR
end
end Go.Vx
namespace Go.Vx
open Go.Proofs Classical
section
variable {μ:Mem}
theorem F.invV{f:F}{v:Value}(h:RepV μ f.fc.d v):∃p:Fc.P,v= .agg #[.string f.rel,.slice p.1 f.args.length p.2]∧Sl μ 4 p.1 f.args.length ((f.args.map T.tm).map Tm.d):=by
 have w_:=Fc.inv h
 obtain⟨p,rfl,hA⟩:=w_
 have e:f.fc.args.length=f.args.length:=List.length_map _
 rw[e]
 refine⟨p,rfl,?_⟩
 have hA:Sl μ 4 p.1 f.fc.args.length (f.fc.args.map Tm.d):=hA
 rw[e]at hA
 exact hA
theorem F.elemV{l:List F}{base:Option Addr}{n:Nat}(h:Sl μ 2 base n ((l.map F.fc).map Fc.d)){i:Nat}{x:F}(hx:l[i]? =some x):∃ad,∃p:Fc.P,ElemAt μ base n 2 i ad [.string x.rel,.slice p.1 x.args.length p.2]∧RepV μ x.fc.d (.agg #[.string x.rel,.slice p.1 x.args.length p.2]):=by
 have w_:=Fc.elem h (i:=i) (x:=x.fc) (by rw[List.getElem?_map,hx];rfl)
 obtain⟨ad,p,h1,h2⟩:=w_
 have e:x.fc.cs p=[.string x.rel,.slice p.1 x.args.length p.2]:=by
  have e:x.fc.args.length=x.args.length:=List.length_map _
  show [Value.string x.rel,.slice p.1 x.fc.args.length p.2]=_
  rw[e]
 rw[e]at h1 h2
 exact⟨ad,p,h1,h2⟩
end
end Go.Vx
namespace Go.Vx
open Go.Proofs Classical
theorem Gl.Sh_wd{g:Gl}(h:g.Sh):g.d.wd:=by
 revert h
 refine Gl.ind (q:=fun g=>g.Sh→g.d.wd) (fun g ih h=>?_) g
 have w_:=eY h.top.tm
 obtain⟨xs,hxs,hok⟩:=w_
 have hk0:=h.top.k0
 have hk1:=h.top.k1
 have hnm:g.name.size≤maxLen:=by
  by_cases h9:g.kind=9
  ·exact Nat.le_trans (h.top.rel h9).2.2.1 (by decide)
  ·rw[h.top.nm h9];exact Nat.zero_le _
 rw[Gl.d_eq,hxs]
 refine⟨⟨by omega,by omega⟩,hnm,kG fun x hx=>(hok x hx).1,D.wds_of fun d hd=>?_,trivial⟩
 have w_:=List.mem_map.1 hd
 obtain⟨y,hy,rfl⟩:=w_
 exact ih y hy (h.sub y hy)
theorem Pg.Ok.wd{p:Pg}(hp:p.Ok):p.d.wd:=by
 rw[Pg.d_eq]
 refine⟨D.wds_of fun d hd=>?_,trivial⟩
 have w_:=List.mem_map.1 hd
 obtain⟨r,hr,rfl⟩:=w_
 have w_:=List.getElem?_of_mem hr
 obtain⟨i,hi⟩:=w_
 have h:=hp.2 i r hi
 have:=h.ar0
 have:=h.ar4
 have:=h.lo0
 have:=h.lo8
 rw[Rl.d_eq]
 exact⟨Nat.le_trans h.name.2.2.1 (by decide),⟨by omega,by omega⟩,⟨by omega,by omega⟩,Gl.Sh_wd h.body,trivial⟩
theorem qDs(U:List T):∀vs:List T,(∀v∈vs,v∈U)→∃w,w<U.length ^ vs.length∧eM U vs.length w=vs
 |[],_=>⟨0,by simp,rfl⟩
 |v::vs,h=>by
  have w_:=qDs U vs fun x hx=>h x (List.mem_cons_of_mem _ hx)
  obtain⟨w,hw,e⟩:=w_
  have w_:=List.getElem?_of_mem (h v (by simp))
  obtain⟨j,hj⟩:=w_
  have hjl:=(List.getElem?_eq_some_iff.1 hj).1
  refine⟨j+U.length*w,?_,?_⟩
  ·have h1 : U.length * w + U.length ≤ U.length * U.length ^ vs.length := by rw [← Nat.mul_succ]; exact Nat.mul_le_mul_left _ hw
   rw[List.length_cons,Nat.pow_succ,Nat.mul_comm (U.length ^ vs.length)]
   omega
  ·rw [List.length_cons, eM, Nat.add_mul_mod_self_left, Nat.mod_eq_of_lt hjl, Nat.add_mul_div_left _ _ (by omega), Nat.div_eq_of_lt hjl, Nat.zero_add, e, List.getD_eq_getElem?_getD, hj]
   rfl
structure IsRule (p:Pg) (U:List T) (ru:Ru) (r:Rl) (L:List (List Gl)) (i:Nat) (c:List Gl) (vs:List T):Prop where
 rel:r∈p.rels
 cl:r.body.cl=some L
 at_:L[i]? =some c
 len:vs.length=(r.arity+r.locals).toNat
 uni:∀v∈vs,v∈U
 ok:∀g∈c,okG U vs g
 eq:ru=fD r i c vs
theorem qJu{p:Pg}{U:List T}(hU:0<U.length){ru:Ru}:ru∈oX p U↔∃r L i c vs,IsRule p U ru r L i c vs:=by
 constructor
 ·intro hr
  have w_:=List.mem_flatMap.1 hr
  obtain⟨rel,hrel,hr⟩:=w_
  rw[gK]at hr
  split at hr
  ·simp at hr
  ·rename_i L hL
   rw[cM,List.mem_flatMap]at hr
   obtain⟨i,hi,hr⟩:=hr
   rw[List.mem_range]at hi
   have w_:=aSo (l:=L) (i:=i) hi
   obtain⟨c,hc⟩:=w_
   have ec:L.getD i []=c:=by rw[List.getD_eq_getElem?_getD,hc];rfl
   rw[ec,cX,List.mem_filterMap]at hr
   obtain⟨w,-,hr⟩:=hr
   rw[jL]at hr
   split at hr
   ·rename_i hok
    cases hr
    exact⟨rel,L,i,c,_,hrel,hL,hc,jR ..,vJ U hU _ _,hok,rfl⟩
   ·cases hr
 ·rintro ⟨r, L, i, c, vs, h⟩
  have w_:=qDs U vs h.uni
  obtain⟨w,hw,e⟩:=w_
  rw[h.len]at hw e
  refine List.mem_flatMap.2 ⟨r,h.rel,?_⟩
  rw[gK,h.cl]
  show ru∈cM U r L L.length
  rw[cM,List.mem_flatMap]
  refine⟨i,List.mem_range.2 (List.getElem?_eq_some_iff.1 h.at_).1,?_⟩
  have ec:L.getD i []=c:=by rw[List.getD_eq_getElem?_getD,h.at_];rfl
  rw[ec,cX,List.mem_filterMap]
  refine⟨w,List.mem_range.2 hw,?_⟩
  rw[jL,e,if_pos h.ok,h.eq]
end Go.Vx
namespace Go.Vx
open Go.Proofs Classical
inductive PfU (U:List T):Pf→Prop
 |mk {x:Pf} (rel:x.rel.size≤1000) (cl:0≤x.clause∧x.clause≤100000) (vals:∃vs:List T,x.values=vs.map T.tm∧∀a∈vs,a∈U) (kids:∀y∈x.kids,PfU U y):PfU U x
theorem PfU.rel{U:List T}{x:Pf}(h:PfU U x):x.rel.size≤1000:=by cases h;assumption
theorem PfU.cl{U:List T}{x:Pf}(h:PfU U x):0≤x.clause∧x.clause≤100000:=by cases h;assumption
theorem PfU.vals{U:List T}{x:Pf}(h:PfU U x):∃vs:List T,x.values=vs.map T.tm∧∀a∈vs,a∈U:=by cases h;assumption
theorem PfU.kids{U:List T}{x:Pf}(h:PfU U x):∀y∈x.kids,PfU U y:=by cases h;assumption
theorem stD_at{rs:List Ru}{n i:Nat}(h:i≤n):(stD rs n)[i]? =some (fsD (stF rs i)):=by
 rw[stD,List.getElem?_map,List.getElem?_range (by omega)];rfl
section
variable {μ:Mem}
theorem yB{rs:List Ru}{n i:Nat}{b:Option Addr}(h:Sl μ 1 b (n+1) (stD rs n))(hi:i≤n):∃ad,∃q:Option Addr×Nat,ElemAt μ b (n+1) 1 i ad [.slice q.1 (stF rs i).length q.2]∧FsV μ (stF rs i) (.slice q.1 (stF rs i).length q.2):=by
 have w_:=h.get i (fsD (stF rs i)) (stD_at hi)
 obtain⟨ad,cs,h1,h2⟩:=w_
 have h3:Rep μ (fsD (stF rs i)) cs:=h2
 have hl:=Rep.len _ _ h3
 match cs,hl with
 |[v],_=>
  have h4:FsV μ (stF rs i) v:=h3
  have w_:=FsV.sl h4
  obtain⟨b5,c5,rfl,-,_⟩:=w_
  exact⟨ad,(b5,c5),h1,h4⟩
theorem Ru.vsl{r:Ru}{p:RuD.P}(h:RepV μ r.rd.d (.agg (r.cs p).toArray)):Sl μ 4 p.2.1.1 r.vals.length ((r.vals.map T.tm).map Tm.d):=by
 have w_:=Ru.inv h
 obtain⟨q,e,h1,h2,h3,h4⟩:=w_
 have e:=Value.agg.inj e
 have e:r.cs p=r.cs q:=by simpa[Ru.cs]using congrArg Array.toList e
 simp only[Ru.cs,List.cons.injEq,Value.slice.injEq,true_and,and_true]at e
 obtain⟨⟨e1,e2⟩,⟨e3,e4⟩,⟨e5,e6⟩,e7,e8⟩:=e
 rw[e3];exact h2
theorem mE{rs:List Ru}{n:Nat}{b:Option Addr}{c:Nat}{f:F}{w:Value}(hs:Sl μ 1 b (n+1) (stD rs n))(hn:n≤1000000)(hf:RepV μ f.fc.d w):
  Spec Tryz.prog 83 [.slice b (n+1) c,w] μ fun v μ'=>μ'=μ∧∃h:Int,v= .int .i64 h∧ -1≤h∧h≤n:=by
 have w_:=F.invV hf
 obtain⟨q,rfl,hq⟩:=w_
 refine Spec.mk Tryz.func83 (by kernel_rfl) ?_
 intro r3
 refine lIn (fun i:Nat=>i≤n+1) (fun i=>⟨[(3,.loc 0 r3 0),(7,.val (.slice b (n+1) c)),(8,.val (.int .i64 ((n+1:Nat):Int))),(9,.val (.int .i64 i))],[(0,some (.cells r3 [.val (.string f.rel),.val (.slice q.1 f.args.length q.2)] 54))],1,μ,Mem.nil⟩) (fun i=>n+1-i)
  0 (Nat.zero_le _) (fun _=>⟨rfl,rfl⟩) ⟨⟨rfl,rfl,rfl,rfl,trivial⟩,⟨rfl,trivial⟩,rfl,rfl⟩ ?_
 intro i hi
 refine ifd (fun hlt=>?_) (fun hlt=>?_)
 ·have w_ := yB hs (i := i) (by omega)
  obtain⟨ad,q2,hel,hst⟩:=w_
  have w_:=FsV.sl hst
  obtain⟨b2,c2,e2,-,hs2⟩:=w_
  have w_:=Value.slice.inj e2
  obtain⟨e3,-,e4⟩:=w_
  rw[←e3]at hs2
  refine eIn hel ?_
  refine cGv (mD hs2 hf) ?_
  refine ifd (fun _=>rPl ⟨rfl,i,rfl,by omega,by omega⟩) (fun _=>?_)
  exact aC (by omega) (by omega) ⟨i+1,by omega,by omega,⟨⟨rfl,rfl,rfl,rfl,trivial⟩,⟨rfl,trivial⟩,rfl,rfl⟩⟩
 ·exact rPl ⟨rfl,-1,rfl,by omega,by omega⟩
def PfRows(μ μ':Mem)(x:Pf)(v:Value):Prop:=∃(μe:Mem) (r1 c1:Nat) (us1:List Value) (b2:Option Nat) (c2:Nat) (us2:List Value),v= .agg #[.string x.rel,.int .i64 x.clause,.slice (some ⟨r1,0,none⟩) us1.length c1,.slice (b2.map fun r=>⟨r,0,none⟩) us2.length c2]∧
 μ.Le μe∧μe.Le μ'∧Rows μe 4 (x.values.map Tm.d) us1∧Rows μe 4 (x.kids.map Pf.d) us2∧μe r1=none∧(∀r,b2=some r→μe r=none∧r≠r1)∧RowAt μ' (some r1) c1 4 us1∧RowAt μ' b2 c2 4 us2∧us1.length≤1000000∧us2.length≤1000000
theorem PfRows.rep{μ':Mem}{x:Pf}{v:Value}(h:PfRows μ μ' x v):RepV μ' x.d v:=by
 obtain⟨μe,r1,c1,us1,b2,c2,us2,rfl,-,hle,h1,h2,-,-,h3,h4,h5,h6⟩:=h
 have k1:=Rows.sl h3 (h1.mono hle) (Nat.le_trans h5 (by decide))
 have k2:=Rows.sl h4 (h2.mono hle) (Nat.le_trans h6 (by decide))
 rw[Pf.d_eq]
 exact⟨_,rfl,RepS.str (RepS.int (RepS.cons1 k1 (RepS.last k2)))⟩
def optPf(U:List T)(μ μ':Mem)(v:Value):Prop:=v= .tuple #[.agg #[.string ⟨#[]⟩,.int .i64 0,.slice none 0 0,.slice none 0 0],.bool false]∨∃x pv,v= .tuple #[pv,.bool true]∧PfRows μ μ' x pv∧PfU U x
set_option maxHeartbeats 8000000 in
set_option maxRecDepth 20000 in
theorem xC{U:List T}{rs:List Ru}{n:Nat}{b3 b:Option Addr}{c3 c:Nat}(hn:n≤1000000)(hrn:rs.length≤2000)(hvu:∀r∈rs,(∀a∈r.vals,a∈U)∧r.vals.length≤100∧r.pos.length≤1000∧(0≤r.clause∧r.clause≤1000)∧r.head.rel.size≤1000):
  ∀(k:Nat) {most:Int} {f:F} {w:Value} {μ:Mem},most≤k→ -1000000≤most→k≤1000→Sl μ 6 b3 rs.length ((rs.map Ru.rd).map RuD.d)→Sl μ 1 b (n+1) (stD rs n)→RepV μ f.fc.d w→
  Spec Tryz.prog 44 [.slice b3 rs.length c3,.slice b (n+1) c,w,.int .i64 most] μ fun v μ'=>optPf U μ μ' v:=fun k=>by
 induction k with
 |zero=>
  intro most f w μ hm h0 hk hr hs hf
  have w_:=F.invV hf
  obtain⟨q,rfl,hq⟩:=w_
  refine Spec.mk Tryz.func44 (by kernel_rfl) ?_
  intro r6 r8
  refine cPl (mE hs hn hf) fun v1 μ1 hle1 hR1=>?_
  obtain⟨e,hh,rfl,h1,h2⟩:=hR1
  obtain rfl:=e.symm
  refine ifd (fun _=>?_) (fun _=>?_)
  ·exact rPl (.inl rfl)
  ·refine ifd (fun _ => ?_) (fun h => absurd hm (by omega))
   exact rPl (.inl rfl)
 |succ k ih=>
  intro most f w μ hm h0 hk hr hs hf
  have w_:=F.invV hf
  obtain⟨q,rfl,hq⟩:=w_
  refine Spec.mk Tryz.func44 (by kernel_rfl) ?_
  intro r6 r8
  refine cPl (mE hs hn hf) fun v1 μ1 hle1 hR1=>?_
  obtain⟨e,hh,rfl,h1,h2⟩:=hR1
  obtain rfl:=e.symm
  refine ifd (fun _=>rPl (.inl rfl)) (fun hh1=>?_)
  refine ifd (fun _=>rPl (.inl rfl)) (fun hm1=>?_)
  refine lIn (fun i:Nat=>i≤rs.length) (fun i=>⟨[(0,.val (.slice b3 rs.length c3)),(1,.val (.slice b (n+1) c)),(3,.val (.int .i64 most)),(6,.loc 0 r6 0),(8,.loc 1 r8 0),(10,.val (.int .i64 hh)),(29,.val (.slice b3 rs.length c3)),(30,.val (.int .i64 rs.length)),(31,.val (.int .i64 i))],[(0,some (.cells r6 [.val (.string f.rel),.val (.slice q.1 f.args.length q.2)] 54)),(1,some (.cells r8 [.val (.string ⟨#[]⟩),.val (.int .i64 0),.val (.slice none 0 0),.val (.slice none 0 0)] 31))],2,μ,Mem.nil⟩) (fun i=>rs.length-i)
   0 (Nat.zero_le _) (fun _=>⟨rfl,rfl⟩) ⟨⟨rfl,rfl,rfl,rfl,rfl,rfl,rfl,rfl,rfl,trivial⟩,⟨rfl,rfl,trivial⟩,rfl,rfl⟩ ?_
  intro i hi
  refine ifd (fun hlt=>?_) (fun hlt=>rPl (.inl rfl))
  have w_:=aSo (l:=rs) (i:=i) (by omega)
  obtain⟨r,hri⟩:=w_
  have w_:=Ru.elem hr hri
  obtain⟨ad,p,hel,hrv,hat⟩:=w_
  have hvs:=Ru.vsl hrv
  have hrk:=hvu r (mAt hri)
  refine eIn hel ?_
  intro r12
  refine cGv (eR hat.head hf) ?_
  refine aL (fun _=>?_) (fun hc0=>?_)
  ·exact aC (by omega) (by omega) ⟨i+1,by omega,by omega,⟨⟨rfl,rfl,rfl,rfl,rfl,rfl,rfl,rfl,rfl,trivial⟩,⟨rfl,rfl,trivial⟩,rfl,rfl⟩⟩
  have w_:=yB hs (i:=(hh-1).toNat) (by omega)
  obtain⟨ad2,q2,hel2,hst⟩:=w_
  have w_:=FsV.sl hst
  obtain⟨b2,c2,e2,-,hs2⟩:=w_
  have w_:=Value.slice.inj e2
  obtain⟨e3,-,e4⟩:=w_
  rw[←e3]at hs2
  rw[show(((hh-1).toNat:Nat):Int)=hh-1 by omega]at hel2
  have hsn:Sl μ 2 none ([]:List F).length ((([]:List F).map F.fc).map Fc.d):=by
   have w_:=FsV.sl (FsV.nil (μ:=μ) none 0)
   obtain⟨b',c',e,-,hs'⟩:=w_
   have w_:=Value.slice.inj e
   obtain⟨rfl,_,_⟩:=w_
   exact hs'
  refine aC (by omega) (by omega) ?_
  refine eIn hel2 ?_
  have hfs:aQ Tryz.prog 84 [.agg (r.cs p).toArray,.slice q2.1 (stF rs (hh-1).toNat).length q2.2,.slice none 0 0] μ (.bool (decide (vP (stF rs (hh-1).toNat) [] r))):=nO (c2:=0) hrv hs2 hsn
  refine cGv hfs ?_
  refine aL (fun _=>?_) (fun hfi=>?_)
  ·exact aC (by omega) (by omega) ⟨i+1,by omega,by omega,⟨⟨rfl,rfl,rfl,rfl,rfl,rfl,rfl,rfl,rfl,trivial⟩,⟨rfl,rfl,trivial⟩,rfl,rfl⟩⟩
  refine cOw (vW hvs (by omega)) fun v5 μ5 H5 hle5 hap5 hR5=>?_
  obtain⟨r1,c1,ty1,us1,rfl,hro,hus1⟩:=hR5
  have hul:=hus1.len
  simp only[List.length_map]at hul
  intro r13
  refine aC (by omega) (by omega) ?_
  refine bS (fun z:Nat×Int×List Pf×Option Nat×Nat×List Value×Mem=>z.1≤r.pos.length∧z.2.1≤k∧ -1000*(z.1:Int)≤z.2.1∧z.2.2.1.length=z.1∧(∀y∈z.2.2.1,PfU U y)∧μ5.Le z.2.2.2.2.2.2∧Apart z.2.2.2.2.2.2 H5∧Rows z.2.2.2.2.2.2 4 (z.2.2.1.map Pf.d) z.2.2.2.2.2.1)
   (fun(j,left,ks,b4,c4,ys,μ')=>⟨[(0,.val (.slice b3 rs.length c3)),(1,.val (.slice b (n+1) c)),(8,.loc 1 r8 0),(13,.loc 3 r13 0),(14,.val (.int .i64 left)),(61,.val (.slice p.2.2.1.1 r.pos.length p.2.2.1.2)),(62,.val (.int .i64 r.pos.length)),(63,.val (.int .i64 j))],[(1,some (.cells r8 [.val (.string ⟨#[]⟩),.val (.int .i64 0),.val (.slice none 0 0),.val (.slice none 0 0)] 31)),(3,some (.cells r13 [.val (.string f.rel),.val (.int .i64 r.clause),.val (.slice (some ⟨r1,0,none⟩) us1.length c1),.row 4 b4 ys.length c4] 31)),(4,some (.row b4 c4 31 4 ys))],5,μ',H5⟩) (fun z=>r.pos.length-z.1)
   (0,most-1,[],none,0,[],μ5) ⟨Nat.zero_le _,by dsimp only;omega,by dsimp only;omega,rfl,(fun _ h=>nomatch h),Mem.Le.refl _,hap5,.nil⟩ (fun(_,_,_,_,_,_,_)=>⟨rfl,rfl⟩) ?_ ?_
  ·exact⟨⟨⟨_,rfl,.inl rfl⟩,⟨_,rfl,.inl rfl⟩,⟨_,rfl,.inl rfl⟩,⟨_,rfl,.inl rfl⟩,⟨_,rfl,.inl rfl⟩,⟨_,rfl,.inl rfl⟩,⟨_,rfl,.inl rfl⟩,⟨_,rfl,.inl rfl⟩,trivial⟩,⟨.inl rfl,.inr (.inr ⟨_,_,_,_,rfl,rfl,.inl rfl,.inl rfl,.inl rfl,.inr ⟨4,rfl,rfl,Nat.le_refl _⟩,trivial⟩),.inr (.inl ⟨_,_,rfl,Nat.le_refl _⟩),trivial⟩,rfl,rfl⟩
  clear hap5
  rintro⟨j,left,ks,b4,c4,ys,μ6⟩ ⟨hj,hlk,hll,hkl,hku,hle6,hap6,hrows⟩
  dsimp only at hj hlk hll hkl hku hle6 hap6 hrows
  have hyl:=hrows.len
  simp only[List.length_map]at hyl
  have hle06:=hle5.trans hle6
  refine ifd (fun hja=>?_) (fun hja=>?_)
  ·have w_ := aSo (l := r.pos) (i := j) (by omega)
   obtain⟨g,hg⟩:=w_
   have w_:=F.elemV (hat.pos.mono hle06) hg
   obtain⟨ad4,p4,hel4,hrg⟩:=w_
   refine eIn hel4 ?_
   intro r16
   refine cDa hap6 (ih (most:=left) (f:=g) hlk (by omega) (by omega) (hr.mono hle06) (hs.mono hle06) hrg) fun v7 μ7 hle7 hap7 hR7=>?_
   rcases hR7 with rfl|⟨x7,pv7,rfl,hpr,hpu⟩
   ·intro r17
    refine iIn (fun _=>rPl (.inl rfl)) (fun h=>nomatch h)
   ·have hrep7 := hpr.rep
    have w_:=Pf.invV hrep7
    obtain⟨q7,rfl⟩:=w_
    intro r17
    refine iIn (fun h=>nomatch h) (fun _=>?_)
    refine cGv (nS x7 (most:=200) hrep7 (by decide) (by decide)) ?_
    have hcn:=x7.cnt_pos
    have hup:1≤bX x7.cnt 200∧bX x7.cnt 200≤201:=by unfold bX;omega
    refine aC (by omega) (by omega) ?_
    intro r85
    refine gIn ?_ ?_ fun b' c' _=>?_
    ·show(ys.length+1)*72≤_;omega
    ·exact Nat.le_trans (m:=100000000) (show ys.length+1≤_ by omega) (by decide)
    refine aC (by omega) (by omega) ⟨(j+1,left-bX x7.cnt 200,ks++[x7],b',c',_,μ7),⟨by dsimp only;omega,by dsimp only;omega,by dsimp only;omega,by rw[List.length_append,hkl];rfl,fun y hy=>(List.mem_append.1 hy).elim (hku y) fun h=>by rw[List.mem_singleton.1 h];exact hpu,hle6.trans hle7,hap7,?_⟩,by dsimp only;omega,⟨⟨rfl,rfl,rfl,rfl,rfl,rfl,rfl,rfl,trivial⟩,⟨rfl,rfl,rfl,trivial⟩,rfl,rfl⟩⟩
    dsimp only
    simp only[List.map_append,List.map_cons,List.map_nil]
    exact(hrows.mono hle7).append (Rows.one hrep7 (Pf.d_n _))
  ·refine iI [4] fun μ8 hle8 hno8 hat8 => fun hap8 => .inr ⟨H5, Mem.nil, Parts.nil_right _, .inr ⟨.mk f.rel r.clause (r.vals.map T.tm) ks, _, rfl, ⟨μ6, r1, c1, us1, b4, c4, ys, rfl, hle06, hle8.trans (Mem.le_join _ _), hus1.mono hle6, hrows, ?_, ?_, hro.rowAt (Mem.le_join_right hap8), RowAt.up hat8 (Mem.le_join _ _), by omega, by omega⟩, ?_⟩⟩
   ·have w_ := hro.obj
    obtain⟨cs,hcs⟩:=w_
    cases e:μ6 r1 with
    |none=>rfl
    |some o=>have:=hap6 r1 (by rw[e];simp);rw[hcs]at this;cases this
   ·intro r2 hr2
    refine⟨hno8 r2 hr2,fun e=>?_⟩
    subst e
    subst hr2
    have w_:=hro.obj
    obtain⟨cs,hcs⟩:=w_
    obtain⟨-,-,arr,ty,h8,-⟩:=hat8
    have hap9:Apart μ8 H5:=hap8
    have:=hap9 r2 (by rw[h8];simp)
    rw[hcs]at this;cases this
   ·have hfe:f=r.head:=by
     have h9:fN r.head f=0:=hc0
     exact((cmpF_ord.zero _ _).1 h9).symm
    exact .mk (by show f.rel.size≤1000;rw[hfe];exact hrk.2.2.2.2) ⟨hrk.2.2.2.1.1,by have:=hrk.2.2.2.1.2;show r.clause≤100000;omega⟩ ⟨r.vals,rfl,hrk.1⟩ hku
end
end Go.Vx
namespace Go.Vx
open Go.Proofs Classical
def zPfV:Value:= .agg #[.string ⟨#[]⟩,.int .i64 0,.slice none 0 0,.slice none 0 0]
structure PfO (U:List T) (μ h:Mem) (x:Pf) (v:Value):Prop where
 ok:PfU U x
 rows:∃(r1 c1:Nat) (ty1:TypeId) (us1:List Value) (b2:Option Nat) (c2:Nat) (us2:List Value),v= .agg #[.string x.rel,.int .i64 x.clause,.slice (some ⟨r1,0,none⟩) us1.length c1,.slice (b2.map fun r=>⟨r,0,none⟩) us2.length c2]∧
  RowO h r1 c1 ty1 4 us1∧Rows μ 4 (x.values.map Tm.d) us1∧Rows μ 4 (x.kids.map Pf.d) us2∧(match b2 with|none=>us2=[]|some r2=>r2≠r1∧∃ty2,RowO h r2 c2 ty2 4 us2)
def optO(U:List T)(μ h:Mem)(v:Value):Prop:=v= .tuple #[zPfV,.bool false]∨∃x pv,v= .tuple #[pv,.bool true]∧PfO U μ h x pv
section
variable {μ:Mem}
theorem qLy{μ1:Mem}{r c es:Nat}{us:List Value}(h:RowAt μ1 (some r) c es us)(hn:us.length≤1000000):∃o,μ1 r=some o∧∃ty,∀g:Mem,RowO (g.set r o) r c ty es us:=by
 obtain⟨h2,h3,arr,ty,h4,h5,h6⟩:=h
 exact⟨_,h4,ty,fun g=>⟨arr.toList,Mem.set_at _ _ _,h2,Nat.le_trans hn (by decide),h3,by simpa using h5,h6⟩⟩
theorem thawPf{P:Program}{f:FuncId}{args:List Value}{U:List T}(h0:Spec P f args μ fun v μ'=>optPf U μ μ' v):SpecH P f args μ Mem.nil fun v μ2 H2=>optO U μ2 H2 v:=by
 have e0:μ.join Mem.nil=μ:=funext fun b=>by rw[Mem.join_get];cases μ b<;>rfl
 generalize hR0:(fun v μ'=>optPf U μ μ' v)=R0 at h0
 have h:Spec P f args (μ.join Mem.nil) R0:=by rw[e0];exact h0
 refine(Spec.lendOwn (H:=Mem.nil) (R':=fun v g μ1=>optO U (μ1.sub g) g v) (fun b _=>rfl) h fun v μ1 hle hR=>?_).weaken fun v μ2 H2 _ _ hR=>?_
 ·rw [e0]
  rw[←hR0]at hR
  rcases hR with rfl|⟨x,pv,rfl,⟨μe,r1,c1,us1,b2,c2,us2,rfl,hl0,hl1,hw1,hw2,hn1,hn2,hr1,hr2,hm1,hm2⟩,hu⟩
  ·exact⟨Mem.nil,(fun _ _ h=>nomatch h),(fun _ h=>absurd rfl h),.inl rfl⟩
  have w_:=qLy hr1 hm1
  obtain⟨o1,ho1,ty1,hO1⟩:=w_
  cases b2 with
  |none=>
   have hs1:μe.Le (μ1.sub (Mem.nil.set r1 o1)):=Mem.le_sub hl1 fun b hb=>by
    by_cases e:b=r1
    ·subst e;exact absurd hn1 hb
    ·rw[Mem.set_ne e];rfl
   refine⟨Mem.nil.set r1 o1,fun b o hb=>?_,fun b hb=>?_,.inr ⟨x,_,rfl,hu,r1,c1,ty1,us1,none,c2,us2,rfl,hO1 _,hw1.mono hs1,hw2.mono hs1,hr2⟩⟩
   ·by_cases e : b = r1
    ·subst e;rw[Mem.set_at]at hb;rw[ho1];exact hb
    ·rw[Mem.set_ne e]at hb;cases hb
   ·by_cases e : b = r1
    ·subst e;exact hl0.none hn1
    ·rw[Mem.set_ne e]at hb;exact absurd rfl hb
  |some r2=>
   have w_:=qLy hr2 hm2
   obtain⟨o2,ho2,ty2,hO2⟩:=w_
   have w_:=hn2 r2 rfl
   obtain⟨hn2,hne⟩:=w_
   have hs1:μe.Le (μ1.sub ((Mem.nil.set r1 o1).set r2 o2)):=Mem.le_sub hl1 fun b hb=>by
    by_cases e2:b=r2
    ·subst e2;exact absurd hn2 hb
    rw[Mem.set_ne e2]
    by_cases e:b=r1
    ·subst e;exact absurd hn1 hb
    ·rw[Mem.set_ne e];rfl
   refine⟨(Mem.nil.set r1 o1).set r2 o2,fun b o hb=>?_,fun b hb=>?_,.inr ⟨x,_,rfl,hu,r1,c1,ty1,us1,some r2,c2,us2,rfl,(hO1 _).set_ne (Ne.symm hne),hw1.mono hs1,hw2.mono hs1,hne,ty2,hO2 _⟩⟩
   ·by_cases e2 : b = r2
    ·subst e2;rw[Mem.set_at]at hb;rw[ho2];exact hb
    rw[Mem.set_ne e2]at hb
    by_cases e:b=r1
    ·subst e;rw[Mem.set_at]at hb;rw[ho1];exact hb
    ·rw[Mem.set_ne e]at hb;cases hb
   ·by_cases e2 : b = r2
    ·subst e2;exact hl0.none hn2
    rw[Mem.set_ne e2]at hb
    by_cases e:b=r1
    ·subst e;exact hl0.none hn1
    ·rw[Mem.set_ne e]at hb;exact absurd rfl hb
 ·obtain ⟨g, μ1, hgr, _, hp, rfl⟩ := hR
  have eg:H2=g:=funext fun b=>by
   rcases hp b with⟨e1,e2⟩|⟨e1,e2⟩
   ·rw[e1,e2];rfl
   ·exact e1
  subst eg
  exact hgr
theorem optPf.up{U:List T}{μ0 μ1 μ':Mem}{v:Value}(h:optPf U μ1 μ' v)(hl:μ0.Le μ1):optPf U μ0 μ' v:=by
 rcases h with h|⟨x,pv,e,⟨μe,r1,c1,us1,b2,c2,us2,k1,k2,k3⟩,hu⟩
 ·exact .inl h
 ·exact .inr ⟨x,pv,e,⟨μe,r1,c1,us1,b2,c2,us2,k1,hl.trans k2,k3⟩,hu⟩
theorem qFp{p:Pg}{U:List T}(hU:0<U.length)(hp:p.Ok){rs:List Ru}(hk:∀r∈rs,RuOk p r)(e:rs=oX p U):∀r∈rs,(∀a∈r.vals,a∈U)∧r.vals.length≤100∧r.pos.length≤1000∧(0≤r.clause∧r.clause≤1000)∧r.head.rel.size≤1000:=fun ru hr=>by
 have hpc:=(hk ru hr).pcnt
 rw[e]at hr
 have w_:=(qJu hU).1 hr
 obtain⟨r,L,i,c,vs,k⟩:=w_
 have w_:=List.getElem?_of_mem k.rel
 obtain⟨j,hj⟩:=w_
 have h:=hp.2 j r hj
 have h1:=h.ar4
 have h2:=h.lo8
 have h3:=k.len
 have h4:=(Gl.cl_bnd _ k.cl).2
 have h5:=(List.getElem?_eq_some_iff.1 k.at_).1
 have hn:=h.name.2.2.1
 have e1:ru.vals=vs:=by rw[k.eq];rfl
 have e2:ru.clause=(i:Int):=by rw[k.eq];rfl
 have e3:ru.head.rel=r.name:=by rw[k.eq];rfl
 rw[e1,e2,e3]
 exact⟨k.uni,by omega,by omega,⟨by omega,by omega⟩,Nat.le_trans hn (by decide)⟩
theorem qFm{p:Pg}{U:List T}{f:F}{v w:Value}{ub:Option Addr}{uc:Nat}(hp:RepV μ p.d v)(hu:Sl μ 4 ub U.length ((U.map T.tm).map Tm.d))(hok:p.Ok)(huo:UnivOk (U.map T.tm))(hf:RepV μ f.fc.d w)(hff:FactFits p f.fc):
  Spec Tryz.prog 21 [v,.slice ub U.length uc,w] μ fun v μ'=>optPf U μ μ' v:=by
 have hp0:=hp
 have w_:=Pg.inv hp
 obtain⟨q,rfl,hrl⟩:=w_
 have hf0:=hf
 have w_:=F.invV hf
 obtain⟨qf,rfl,hq⟩:=w_
 have hU1:0<U.length:=by have:=huo.pos;rwa [List.length_map]at this
 have hus0:Sl μ 4 ub (U.map T.tm).length ((U.map T.tm).map Tm.d):=by rw[List.length_map];exact hu
 have hwu:D.wds ((U.map T.tm).map Tm.d):=kG fun a ha=>by
  have:=(huo.gnd _ (List.mem_map_of_mem ha)).1.toT.1.1
  rwa [T.toT_tm]at this
 refine Spec.mk Tryz.func21 (by kernel_rfl) ?_
 intro r3 r5 r6
 have hall:=sN (uc:=uc) hp0 hok.wd hus0 hwu
 rw[List.length_map]at hall
 refine cPl hall fun v1 μ1 hle1 hR1=>?_
 cases hP:fJ p (U.map T.tm)with
 |none=>
  rw[hP]at hR1
  obtain rfl:=hR1
  refine iIn (fun _=>?_) (fun h=>nomatch h)
  exact rPl (.inl rfl)
 |some rs=>
  rw[hP]at hR1
  obtain⟨t1,t2,rfl,hrs,n,hlast,hst⟩:=hR1
  have w_:=RsV.sl hrs
  obtain⟨b1,c1,rfl,hrsl⟩:=w_
  have w_:=qIj hst
  obtain⟨b2,c2,rfl,hstl⟩:=w_
  have hpg:dP p (U.map T.tm)=some rs:=by
   rw[fJ]at hP
   split at hP
   ·exact hP
   ·cases hP
  have hgk:=oP hpg
  have ers:rs=oX p U:=by
   rw[dP,if_pos ⟨hok,huo⟩,mT,iS]at hpg
   split at hpg
   ·exact(Option.some.inj hpg).symm
   ·cases hpg
  have hnl:=vG hlast.2
  have hsl:=(fY rs n).len
  refine iIn (fun h=>nomatch h) (fun _=>?_)
  refine cPl (qL (hp0.mono hle1) hok.wd (hf0.mono hle1) (hff.wd hok)) fun v2 μ2 hle2 hR2=>?_
  rw[decide_eq_true ⟨hok,hff⟩]at hR2
  subst hR2
  refine iIn (fun h=>nomatch h) (fun _=>?_)
  have hle02:=hle1.trans hle2
  have hbs:=xC (U:=U) (n:=n) (b3:=b1) (c3:=c1) (b:=b2) (c:=c2) (by omega) hgk.1 (qFp hU1 hok hgk.2 ers) 200 (most:=200) (Int.le_refl _) (by decide) (by decide) (hrsl.mono hle2) (hstl.mono hle2) (hf0.mono hle02)
  refine cPl hbs fun v3 μ3 hle3 hR3=>?_
  have hR3:=optPf.up hR3 hle02
  rcases hR3 with rfl|⟨x,pv,rfl,⟨μe,r1,d1,us1,b4,d4,us2,rfl,hk⟩,hux⟩
  ·exact rPl (.inl rfl)
  ·exact rPl (.inr ⟨x,_,rfl,⟨μe,r1,d1,us1,b4,d4,us2,rfl,hk⟩,hux⟩)
end
end Go.Vx
namespace Go.Vx
open Go.Proofs Classical
section
variable {μ:Mem}
theorem Rows.put{es:Nat}:∀{ds:List D} {us:List Value},Rows μ es ds us→∀(k:Nat) {d:D} {v:Value},RepV μ d v→d.n=es→Rows μ es (ds.set k d) (us.set k v)
 |_,_,.nil,_,_,_,_,_=> .nil
 |_,_,.cons _ _ h,0,_,_,hd,hn=> .cons hd hn h
 |_,_,.cons h1 h2 h,k+1,_,_,hd,hn=> .cons h1 h2 (Rows.put h k hd hn)
theorem RowO.els{h:Mem}{r c es:Nat}{ty:TypeId}{us:List Value}(k:RowO h r c ty es us){u:Value}(hu:u∈us):(aB u).length=es:=by
 obtain⟨cs,-,-,-,h3,-⟩:=k
 exact(h3 u hu).1
def RowM(h:Mem)(b:Option Nat)(c:Nat)(us:List Value):Prop:=match b with
 |none=>us=[]
 |some r=>∃ty,RowO h r c ty 4 us
theorem RowM.le{h h':Mem}{b:Option Nat}{c:Nat}{us:List Value}(k:RowM h b c us)(hl:h.Le h'):RowM h' b c us:=by
 cases b with
 |none=>exact k
 |some r=>
  obtain⟨ty,cs,e,k2⟩:=k
  exact⟨ty,cs,hl _ _ e,k2⟩
theorem RowM.set{h:Mem}{b:Option Nat}{c r:Nat}{us:List Value}{o:Obj}(k:RowM h b c us)(hr:∀r1,b=some r1→r1≠r):RowM (h.set r o) b c us:=by
 cases b with
 |none=>exact k
 |some r1=>
  obtain⟨ty,k⟩:=k
  exact⟨ty,k.set_ne (hr r1 rfl)⟩
theorem RowM.rep{h:Mem}{b:Option Nat}{c:Nat}{us:List Value}{ds:List D}(k:RowM h b c us)(ha:Apart μ h)(hr:Rows μ 4 ds us):RepV (μ.join h) (.sl 4 ds) (.slice (b.map fun r=>⟨r,0,none⟩) us.length c):=by
 cases b with
 |none=>
  have k:us=[]:=k
  subst k
  have:=hr.len
  have e:ds=[]:=List.length_eq_zero_iff.1 this
  rw[e]
  exact⟨none,c,rfl,⟨Nat.zero_le _,Nat.zero_le _⟩,(fun _ h=>nomatch h),.inl rfl⟩
 |some r2=>
  obtain⟨ty2,h5⟩:=k
  exact h5.rep (Mem.le_join_right ha) (hr.mono (Mem.le_join _ _))
def pfv(x:Pf)(b1:Option Nat)(c1:Nat)(us1:List Value)(b2:Option Nat)(c2:Nat)(us2:List Value):Value:= .agg #[.string x.rel,.int .i64 x.clause,.slice (b1.map fun r=>⟨r,0,none⟩) us1.length c1,.slice (b2.map fun r=>⟨r,0,none⟩) us2.length c2]
structure PfW (U:List T) (μ h:Mem) (r:Nat) (x:Pf) (b1:Option Nat) (c1:Nat) (us1:List Value) (b2:Option Nat) (c2:Nat) (us2:List Value):Prop where
 ok:PfU U x
 v1:Rows μ 4 (x.values.map Tm.d) us1
 v2:Rows μ 4 (x.kids.map Pf.d) us2
 o1:RowM h b1 c1 us1
 o2:RowM h b2 c2 us2
 n1:∀r1,b1=some r1→r1≠r
 n2:∀r1,b2=some r1→r1≠r
 ne:∀r1 r2,b1=some r1→b2=some r2→r2≠r1
 m1:us1.length≤maxLen
 m2:us2.length≤maxLen
theorem Pf.reclause{y:Pf}{a b:Value}{k:Int}(h:RepV μ y.d (.agg #[.string y.rel,.int .i64 y.clause,a,b])):RepV μ (Pf.mk y.rel k y.values y.kids).d (.agg #[.string y.rel,.int .i64 k,a,b]):=by
 rw[Pf.d_eq]at h ⊢
 obtain⟨cs,e,h⟩:=h
 obtain⟨a0,t0,rfl,h0,h⟩:=h
 obtain⟨a1,t1,rfl,h1,h⟩:=h
 have h0:a0=[.string y.rel]:=h0
 have h1:a1=[.int .i64 y.clause]:=h1
 subst h0 h1
 have e2:[.string y.rel,.int .i64 y.clause,a,b]= .string y.rel:: .int .i64 y.clause::t1:=congrArg (fun v=>match v with|Value.agg a=>a.toList|_=>[]) e
 have e3:[a,b]=t1:=(List.cons.inj (List.cons.inj e2).2).2
 subst e3
 exact⟨_,rfl,RepS.str (RepS.int h)⟩
def MkPf(U:List T)(μ:Mem)(v:Value):Prop:=∃x,RepV μ x.d v∧PfU U x
section
variable {U:List T} {h:Mem} {r:Nat} {x:Pf} {b1:Option Nat} {c1:Nat} {us1:List Value} {b2:Option Nat} {c2:Nat} {us2:List Value}
theorem PfW.mk'(k:PfW U μ h r x b1 c1 us1 b2 c2 us2)(ha:Apart μ h):MkPf U (μ.join h) (pfv x b1 c1 us1 b2 c2 us2):=by
 refine⟨x,?_,k.ok⟩
 rw[Pf.d_eq]
 exact⟨_,rfl,RepS.str (RepS.int (RepS.cons1 (k.o1.rep ha k.v1) (RepS.last (k.o2.rep ha k.v2))))⟩
theorem PfW.cur{μ' h':Mem}(k:PfW U μ h r x b1 c1 us1 b2 c2 us2)(hc:Cur μ' h r h')(hl:μ.Le μ'):PfW U μ' h' r x b1 c1 us1 b2 c2 us2:=by
 obtain⟨o,_,rfl⟩:=hc.ex
 exact⟨k.ok,k.v1.mono hl,k.v2.mono hl,k.o1.set k.n1,k.o2.set k.n2,k.n1,k.n2,k.ne,k.m1,k.m2⟩
theorem PfW.clause(k:PfW U μ h r x b1 c1 us1 b2 c2 us2){n:Nat}(hn:n≤100000):PfW U μ h r (.mk x.rel n x.values x.kids) b1 c1 us1 b2 c2 us2:=
 ⟨.mk k.ok.rel ⟨by show(0:Int)≤n;omega,by show(n:Int)≤100000;omega⟩ k.ok.vals k.ok.kids,k.v1,k.v2,k.o1,k.o2,k.n1,k.n2,k.ne,k.m1,k.m2⟩
theorem PfW.of{h3 h5:Mem}{v:Value}{o:Obj}(k:optO U μ h5 v)(hp:Parts h h5 h3)(he:h3 r=some o):∃x b1 c1 us1 b2 c2 us2 bo,v= .tuple #[pfv x b1 c1 us1 b2 c2 us2,.bool bo]∧PfW U μ h r x b1 c1 us1 b2 c2 us2:=by
 rcases k with rfl|⟨x,pv,rfl,hok,r1,c1,ty1,us1,b2,c2,us2,rfl,h1,h2,h3',h4⟩
 ·refine⟨.mk ⟨#[]⟩ 0 [] [],none,0,[],none,0,[],false,rfl,⟨.mk (by decide) (by decide) ⟨[],rfl,fun _ h=>nomatch h⟩ (fun _ h=>nomatch h),.nil,.nil,rfl,rfl,(fun _ h=>nomatch h),(fun _ h=>nomatch h),(fun _ _ h=>nomatch h),Nat.zero_le _,Nat.zero_le _⟩⟩
 ·have hnr:∀{rr c:Nat} {ty:TypeId} {us:List Value},RowO h5 rr c ty 4 us→rr≠r:=fun {rr c ty us} k e=>by
   subst e
   obtain⟨cs,hcs⟩:=k.obj
   have h7:=hp.apart rr (by rw[hcs];simp)
   rw[he]at h7;cases h7
  refine⟨x,some r1,c1,us1,b2,c2,us2,true,rfl,hok,h2,h3',RowM.le ⟨ty1,h1⟩ hp.left,?_,fun rr e=>by cases e;exact hnr h1,fun rr e=>?_,fun ra rb ea eb=>?_,h1.len,?_⟩
  ·cases b2 with
   |none=>exact h4
   |some r2=>exact RowM.le (b:=some r2) h4.2 hp.left
  ·subst e
   obtain⟨-,ty2,h5⟩:=h4
   exact hnr h5
  ·subst eb
   cases ea
   exact h4.1
  ·cases b2 with
   |none=>
    have h4:us2=[]:=h4
    subst h4
    exact Nat.zero_le _
   |some r2=>
    obtain⟨-,ty2,h5⟩:=h4
    exact h5.len
theorem PfW.value(k:PfW U μ h r x b1 c1 us1 b2 c2 us2){i r1:Nat}{a:T}{v:Value}{o:Obj}{ty:TypeId}(e1:b1=some r1)(ha:a∈U)(hv:RepV μ a.tm.d v)(ho:RowO (h.set r1 o) r1 c1 ty 4 (us1.set i v)):
  PfW U μ (h.set r1 o) r (.mk x.rel x.clause (x.values.set i a.tm) x.kids) b1 c1 (us1.set i v) b2 c2 us2:=by
 have w_:=k.ok.vals
 obtain⟨vs,hvs,hvu⟩:=w_
 refine⟨.mk k.ok.rel k.ok.cl ⟨vs.set i a,?_,fun y hy=>?_⟩ k.ok.kids,?_,k.v2,by rw[e1];exact⟨ty,ho⟩,k.o2.set fun r2 e2=>k.ne r1 r2 e1 e2,k.n1,k.n2,k.ne,by rw[List.length_set];exact k.m1,k.m2⟩
 ·show x.values.set i a.tm = _
  rw[hvs,List.map_set]
 ·rcases List.mem_or_eq_of_mem_set hy with h | h
  ·exact hvu y h
  ·rw[h];exact ha
 ·show Rows μ 4 ((x.values.set i a.tm).map Tm.d) _
  rw[List.map_set]
  exact k.v1.put i hv (Tm.d_n _)
theorem PfW.kid(k:PfW U μ h r x b1 c1 us1 b2 c2 us2){i r2:Nat}{y:Pf}{n:Nat}{v:Value}{o:Obj}{ty:TypeId}(e2:b2=some r2)(hy:PfU U y)(hn:n≤100000)(hv:RepV μ (Pf.mk y.rel n y.values y.kids).d v)(ho:RowO (h.set r2 o) r2 c2 ty 4 (us2.set i v)):
  PfW U μ (h.set r2 o) r (.mk x.rel x.clause x.values (x.kids.set i (.mk y.rel n y.values y.kids))) b1 c1 us1 b2 c2 (us2.set i v):=by
 refine⟨.mk k.ok.rel k.ok.cl k.ok.vals fun z hz=>?_,k.v1,?_,k.o1.set fun r1 e1=>(k.ne r1 r2 e1 e2).symm,by rw[e2];exact⟨ty,ho⟩,k.n1,k.n2,k.ne,k.m1,by rw[List.length_set];exact k.m2⟩
 ·rcases List.mem_or_eq_of_mem_set (show z ∈ x.kids.set i _ from hz) with h | h
  ·exact k.ok.kids z h
  ·rw[h];exact .mk hy.rel ⟨by show(0:Int)≤n;omega,by show(n:Int)≤100000;omega⟩ hy.vals hy.kids
 ·show Rows μ 4 ((x.kids.set i _).map Pf.d) _
  rw[List.map_set]
  exact k.v2.put i hv (Pf.d_n _)
end
theorem Cur.of{h:Mem}{r:Nat}{o:Obj}(ho:CurO μ o)(e:h r=some o):Cur μ h r h:=⟨⟨o,ho,(Mem.set_self e).symm⟩⟩
theorem Cur.obj{h h':Mem}{r:Nat}(k:Cur μ h r h'):∃o,CurO μ o∧h' r=some o:=by
 obtain⟨o,h1,e⟩:=k.ex
 exact⟨o,h1,by rw[e,Mem.set_at]⟩
set_option maxHeartbeats 8000000 in
set_option maxRecDepth 20000 in
theorem uX{base:Option Addr}{n cap:Nat}{p:Pg}{U:List T}{v:Value}{ub:Option Addr}{uc:Nat}(hb:Bytes μ base n)(m:Int)(hm:m≤1000000)(hp:RepV μ p.d v)(hu:Sl μ 4 ub U.length ((U.map T.tm).map Tm.d))(hok:p.Ok)(huo:UnivOk (U.map T.tm)):
  Spec Tryz.prog 6 [.slice base n cap,.int .i64 m,v,.slice ub U.length uc] μ fun v μ'=>MkPf U μ' v:=by
 have hp0:=hp
 have w_:=Pg.inv hp
 obtain⟨q,rfl,hrl⟩:=w_
 have hU1:0<U.length:=by have:=huo.pos;rwa [List.length_map]at this
 have hus0:Sl μ 4 ub (U.map T.tm).length ((U.map T.tm).map Tm.d):=by rw[List.length_map];exact hu
 have hwu:D.wds ((U.map T.tm).map Tm.d):=kG fun a ha=>by
  have:=(huo.gnd _ (List.mem_map_of_mem ha)).1.toT.1.1
  rwa [T.toT_tm]at this
 refine Spec.mk Tryz.func6 (by kernel_rfl) ?_
 intro r6 r8
 refine cOw (mJ hb m hm) fun v μ1 h1 hle1 hap1 hR=>?_
 obtain⟨e,r,rfl,ho,hc1⟩:=hR
 obtain rfl:=e.symm
 have hlm:=lW (uc:=uc) hp0 hok.wd hus0 hwu
 rw[List.length_map]at hlm
 refine cDa hap1 hlm fun v2 μ2 hle2 hap2 hR2=>?_
 have hlist:∃(tv:Value) (k2:Int) (b2:Bool) (L:List F),v2= .tuple #[tv,.int .i64 k2,.bool b2]∧FsV μ2 L tv∧FsOk p L:=by
  cases hL:lO p (U.map T.tm)with
  |none=>
   rw[hL]at hR2
   exact⟨.slice none 0 0,0,false,[],hR2,FsV.nil none 0,(fun _ h=>nomatch h)⟩
  |some y=>
   rw[hL]at hR2
   obtain⟨tv,k2,rfl,hR2⟩:=hR2
   exact⟨tv,k2,true,y,rfl,hR2,(zV hL).2.1⟩
 obtain⟨tv,k2,b2,L,rfl,hfs,hfok⟩:=hlist
 have w_:=FsV.sl hfs
 obtain⟨lb,lc,rfl,-,hsl⟩:=w_
 refine ifd (fun h0=>?_) (fun h0=>?_)
 ·refine rPl ⟨.mk ⟨#[112]⟩ 0 [] [], ?_, .mk (by decide) (by decide) ⟨[], rfl, fun _ h => nomatch h⟩ fun _ h => nomatch h⟩
  rw[Pf.d_eq]
  exact⟨_,rfl,RepS.str (RepS.int (RepS.cons1 (Rep.nilSl 4) (RepS.last (Rep.nilSl 4))))⟩
 refine cOw (aJ (hc1.at.mono hle2) _) fun v3 μ3 h3 hle3 hap3 hR3=>?_
 obtain⟨e3,hc3,k3,rfl,hk3,hk3b,-⟩:=hR3
 obtain rfl:=e3.symm
 have hk3c:=hk3b (by omega)
 have w_:=aSo (l:=L) (i:=k3) (by omega)
 obtain⟨f,hf⟩:=w_
 have w_:=F.elemV hsl hf
 obtain⟨ad,pf,hel,hrf⟩:=w_
 refine eIn hel ?_
 have hprv:=SpecH.frame (Parts.nil_left h3) (thawPf (qFm (uc:=uc) (hp0.mono hle2) (hu.mono hle2) hok huo hrf (hfok f (mAt hf))))
 refine cOw hprv fun v4 μ4 h4 hle4 hap4 hR4=>?_
 obtain⟨h5,hR4,hpp⟩:=hR4
 obtain⟨o3,hO3,ho3⟩:=hc3.obj
 have w_:=PfW.of hR4 hpp ho3
 obtain⟨x,b1,c1,us1,b2,c2,us2,bo,rfl,hw⟩:=w_
 intro r13
 have hcu:Cur μ4 h4 r h4:=Cur.of (hO3.mono hle4) (hpp.right r _ ho3)
 refine cOw (aJ hcu 6) fun v5 μ5 h6 hle5 hap5 hR5=>?_
 obtain⟨e5,hc5,k5,rfl,-,-,-⟩:=hR5
 obtain rfl:=e5.symm
 have hw5:=hw.cur hc5 (Mem.Le.refl _)
 have hvl:=hw.v1.len
 have hkl:=hw.v2.len
 rw[List.length_map]at hvl hkl
 refine ifd (fun hk0=>?_) (fun hk0=>?_)
 ·refine cOw (aJ hc5.at 3) fun v7 μ7 h7 hle7 hap7 hR7 => ?_
  obtain⟨e7,hc7,k7,rfl,hk7,-,-⟩:=hR7
  obtain rfl:=e7.symm
  exact iI [] fun hap=> .inr ⟨h7,Mem.nil,Parts.nil_right _,((hw5.cur hc7 (Mem.Le.refl _)).clause (n:=k7) (by omega)).mk' hap⟩
 refine ifd (fun hk1=>?_) (fun hk1=>?_)
 ·refine ifd (fun hpos => ?_) (fun hpos => ?_)
  ·refine cOw (aJ hc5.at _) fun v7 μ7 h7 hle7 hap7 hR7 => ?_
   obtain⟨e7,hc7,k7,rfl,hk7,hk7b,-⟩:=hR7
   obtain rfl:=e7.symm
   refine cOw (aJ hc7.at _) fun v8 μ8 h8 hle8 hap8 hR8=>?_
   obtain⟨e8,hc8,k8,rfl,hk8,hk8b,-⟩:=hR8
   obtain rfl:=e8.symm
   have hw8:=(hw5.cur hc7 (Mem.Le.refl _)).cur hc8 (Mem.Le.refl _)
   have hk7c:=hk7b hpos
   have hk8c:=hk8b (by omega)
   have w_:=aSo (l:=U) (i:=k8) (by omega)
   obtain⟨a,ha⟩:=w_
   have w_:=T.elemL ((hu.mono hle2).mono hle4) ha
   obtain⟨ad8,p8,hel8,hra8⟩:=w_
   refine eIn hel8 ?_
   cases b1 with
   |none=>
    have h9:us1=[]:=hw8.o1
    rw[h9]at hpos
    exact absurd hpos (by decide)
   |some r1=>
   obtain⟨ty1,ho1⟩:=hw8.o1
   refine cS ⟨r1,0,none⟩ rfl (by omega) (by omega) ?_
   have w_:=aSo (l:=us1) (i:=k7) (by omega)
   obtain⟨u,hu7⟩:=w_
   have hu4:=ho1.els (mAt hu7)
   refine iU (k:=k7) (j:=0) (x:=u) (.agg (a.tm.cs p8).toArray) ho1 hu7 (by simp[Addr.add_lit']) ?_ (show 0+4≤4 by decide) (by simp[Value.oneCell']) fun o hrow=>?_
   ·show (a.tm.cs p8) = (aB u).take 0 ++ (a.tm.cs p8) ++ (aB u).drop 4
    rw[List.drop_eq_nil_of_le (by omega)]
    simp
   ·refine iI [] fun hap => .inr ⟨_, Mem.nil, Parts.nil_right _, ?_⟩
    have:=(hw8.value rfl (mAt ha) hra8 hrow).mk' hap
    rw[pfv,List.length_set]at this
    exact this
  ·exact iI [] fun hap=> .inr ⟨h6,Mem.nil,Parts.nil_right _,hw5.mk' hap⟩
 refine ifd (fun hk2=>?_) (fun hk2=>?_)
 ·refine ifd (fun hpos => ?_) (fun hpos => ?_)
  ·refine cOw (aJ hc5.at 3) fun v7 μ7 h7 hle7 hap7 hR7 => ?_
   obtain⟨e7,hc7,k7,rfl,hk7,hk7b,-⟩:=hR7
   obtain rfl:=e7.symm
   have hw7:=hw5.cur hc7 (Mem.Le.refl _)
   cases b2 with
   |none=>
    have h9:us2=[]:=hw7.o2
    rw[h9]at hpos
    exact absurd hpos (by decide)
   |some r2=>
   obtain⟨ty2,ho2⟩:=hw7.o2
   refine cS ⟨r2,0,none⟩ rfl (by omega) (by omega) ?_
   have w_:=aSo (l:=us2) (i:=0) (by omega)
   obtain⟨u,hu7⟩:=w_
   have hkx:0<x.kids.length:=by omega
   have w_:=aSo (l:=x.kids) (i:=0) hkx
   obtain⟨y,hy⟩:=w_
   have hru:=hw7.v2.atI (i:=0) (d:=y.d) (v:=u) (by rw[List.getElem?_map,hy];rfl) hu7
   have w_:=Pf.inv hru
   obtain⟨py,rfl,hA⟩:=w_
   refine iU (k:=0) (j:=1) (x:= .agg #[.string y.rel,.int .i64 y.clause,.slice py.1.1 y.values.length py.1.2,.slice py.2.1 y.kids.length py.2.2]) (.agg #[.string y.rel,.int .i64 k7,.slice py.1.1 y.values.length py.1.2,.slice py.2.1 y.kids.length py.2.2]) ho2 hu7 (by simp[Addr.add_lit']) rfl (show 1+1≤4 by decide) (by simp[Value.oneCell']) fun o hrow=>?_
   refine iI [] fun hap=> .inr ⟨_,Mem.nil,Parts.nil_right _,?_⟩
   have hnew:=Pf.reclause (k:=(k7:Int)) hru
   have:=(hw7.kid rfl (hw7.ok.kids y (mAt hy)) (by omega) hnew hrow).mk' hap
   rw[pfv,List.length_set]at this
   exact this
  ·exact iI [] fun hap=> .inr ⟨h6,Mem.nil,Parts.nil_right _,hw5.mk' hap⟩
 ·exact iI [] fun hap=> .inr ⟨h6,Mem.nil,Parts.nil_right _,hw5.mk' hap⟩
end
end Go.Vx
namespace Go.Vx
open Go.Proofs Classical
def bH(l:List Bs):Bs:=(l.flatMap fun s=>32::s).drop 1
theorem oW(l:List Bs)(x:Bs):bH (l++[x])=if l=[]then x else bH l++32::x:=by
 cases l with
 |nil=>simp[bH]
 |cons a r=>simp[bH]
theorem iH(x y:Bs)(l:List Bs):bH (x::y::l)=x++32::bH (y::l):=by simp[bH]
def jO(s:Bs):Bs:=40::s++[41]
noncomputable def eX:T→Bs
 | .sym s=>lsS s
 | .num n=>Lib.itoa n
 |_=>[40,41]
noncomputable def bN:T→Bs
 | .pair a b=>jO (eX a++if b= .nil then []else [32,46,32]++eX b)
 |t=>eX t
noncomputable def cO:T→List Bs
 | .sym s=>[lsS s]
 | .num n=>[Lib.itoa n]
 |_=>[[40],[41]]
noncomputable def dL:T→List Bs
 | .pair a b=>[40]::(cO a++if b= .nil then []else [46]::cO b)++[[41]]
 |t=>cO t
def Atm:T→Prop
 | .nil=>True
 | .sym s=>gS s
 | .num n=>0≤n∧n<100
 |_=>False
def Sml:T→Prop
 | .pair a b=>Atm a∧Atm b
 |t=>Atm t
inductive PfT:Pf→Prop
 |mk {x:Pf} (rel:gS x.rel) (cl:0≤x.clause∧x.clause<100) (len:x.values.length≤12) (vals:∀t∈x.values,Sml t.toT) (kids:∀y∈x.kids,PfT y) (lift:∃vs:List T,x.values=vs.map T.tm):PfT x
theorem PfT.lift{x:Pf}(h:PfT x):∃vs:List T,x.values=vs.map T.tm:=by cases h;assumption
theorem PfT.inv{x:Pf}(h:PfT x):gS x.rel∧(0≤x.clause∧x.clause<100)∧x.values.length≤12∧(∀t∈x.values,Sml t.toT)∧∀y∈x.kids,PfT y:=by
 cases h;refine⟨?_,?_,?_,?_,?_⟩<;>assumption
def qCl(b:UInt8):Prop:=48≤b.toNat∧b.toNat≤57
theorem zE{k:Nat}(h:k<10):qCl (UInt8.ofNat (48+k)):=by
 rw[qCl,UInt8.toNat_ofNat'];omega
theorem dC:∀u,(∀b∈Lib.decDigits u,qCl b)∧Lib.decDigits u≠[]∧∀k,u<10 ^ (k+1)→(Lib.decDigits u).length≤k+1:=by
 intro u
 induction u using Nat.strongRecOn with
 |_ u ih=>
  rw[Lib.decDigits]
  split
  ·rename_i h
   refine⟨fun b hb=>?_,by simp,fun k _=>by simp⟩
   rw[List.mem_singleton.1 hb];exact zE h
  ·rename_i h
   obtain⟨h1,h2,h3⟩:=ih (u / 10) (by omega)
   refine⟨fun b hb=>?_,by simp,fun k hk=>?_⟩
   ·rcases List.mem_append.1 hb with hb | hb
    ·exact h1 b hb
    ·rw[List.mem_singleton.1 hb];exact zE (by omega)
   ·cases k with
    |zero=>omega
    |succ k=>
     have:=h3 k (by rw[Nat.pow_succ]at hk;omega)
     rw[List.length_append,List.length_singleton];omega
structure Wd (w:Bs):Prop where
 ne:w≠[]
 ch:∀b∈w,bQ b=false∧33≤b.toNat∧b.toNat≤126
theorem mW{b:UInt8}(h:33≤b.toNat)(h1:b.toNat≠40)(h2:b.toNat≠41)(h3:b.toNat≠59):bQ b=false:=by
 have e:∀c:UInt8,b.toNat≠c.toNat→(b==c)=false:=fun c hc=>by
  rw[beq_eq_false_iff_ne];exact fun k=>hc (by rw[k])
 rw[bQ,e 32 (by show _≠32;omega),e 10 (by show _≠10;omega),e 40 h1,e 41 h2,e 59 h3];rfl
theorem itoa_wd{n:Int}:Wd (Lib.itoa n):=by
 have d:=fun u=>dC u
 have dw:∀b,qCl b→bQ b=false∧33≤b.toNat∧b.toNat≤126:=fun b hb=>by
  have:=hb.1;have:=hb.2
  exact⟨mW (by omega) (by omega) (by omega) (by omega),by omega,by omega⟩
 rw[Lib.itoa]
 split
 ·refine ⟨by simp, fun b hb => ?_⟩
  rcases List.mem_cons.1 hb with rfl|hb
  ·exact⟨rfl,by decide,by decide⟩
  ·exact dw b ((d _).1 b hb)
 ·exact⟨(d _).2.1,fun b hb=>dw b ((d _).1 b hb)⟩
theorem pD{n:Int}(h1: -1000000000≤n)(h2:n≤1000000000):(Lib.itoa n).length≤11:=by
 rw[Lib.itoa]
 split
 ·have := (dC n.natAbs).2.2 9 (by omega)
  rw[List.length_cons];omega
 ·have := (dC n.toNat).2.2 9 (by omega)
  omega
theorem qCj{s:ByteArray}(h:gS s):Wd (lsS s):=by
 refine⟨fun e=>?_,fun b hb=>?_⟩
 ·have h1 := h.1
  have:s.size=(lsS s).length:=by rw[lsS];simp
  rw[this,e]at h1
  exact absurd h1 (by decide)
 ·obtain ⟨i, hi⟩ := List.getElem?_of_mem hb
  rcases h.2.2 i b hi with k|⟨_,k|k⟩
  ·exact⟨mW (by omega) (by omega) (by omega) (by omega),by omega,by omega⟩
  ·exact⟨mW (by omega) (by omega) (by omega) (by omega),by omega,by omega⟩
  ·exact⟨mW (by omega) (by omega) (by omega) (by omega),by omega,by omega⟩
def tk(s:Bs):List Bs:=bZ s.length s
theorem tk_sp(s:Bs):tk (32::s)=tk s:=by
 rw[tk,qAl (Nat.le_refl _) (.inl rfl),tk,dV _ s.length s (by simp) (Nat.le_refl _)]
structure Tx (s:Bs) (L:List Bs):Prop where
 tk:∀r,(∀b,r.head? =some b→bQ b=true)→tk (s++r)=L++tk r
 ch:∀b∈s,b.toNat≠59∧32≤b.toNat∧b.toNat≤126
theorem Tx.nil:Tx [] []:=⟨fun _ _=>rfl,fun _ h=>nomatch h⟩
theorem Tx.sp{s t:Bs}{L M:List Bs}(h:Tx s L)(k:Tx t M):Tx (s++32::t) (L++M) where
 tk:=fun r hr=>by
  rw[List.append_assoc,List.cons_append,h.tk _ (fun b hb=>by cases hb;rfl),tk_sp,k.tk _ hr,List.append_assoc]
 ch:=fun b hb=>by
  rcases List.mem_append.1 hb with hb|hb
  ·exact h.ch b hb
  rcases List.mem_cons.1 hb with rfl|hb
  ·decide
  ·exact k.ch b hb
theorem Tx.join{α:Type}{f:α→Bs}{g:α→List Bs}:∀l:List α,(∀x∈l,Tx (f x) (g x))→Tx (bH (l.map f)) (l.flatMap g)
 |[],_=>Tx.nil
 |[x],h=>by
  have:=h x (by simp)
  simpa[bH]using this
 |x::y::l,h=>by
  have h1:=h x (by simp)
  have h2:=Tx.join (y::l) fun z hz=>h z (by simp[hz])
  rw[List.map_cons,List.map_cons,iH,List.flatMap_cons]
  exact h1.sp h2
theorem qHa{s:ByteArray}(h:gS s):(lsS s).length≤12:=by
 have:=h.2.1
 have e:s.size=(lsS s).length:=by rw[lsS];simp
 omega
theorem kU{t:T}(h:Atm t):(eX t).length≤12∧(cO t).length≤2:=by
 cases t with
 |nil=>exact⟨by simp[eX],by simp[cO]⟩
 |sym s=>exact⟨qHa h,by simp[cO]⟩
 |num n=>
  have h1:0≤n:=h.1
  have h2:n<100:=h.2
  exact⟨Nat.le_trans (pD (n:=n) (by omega) (by omega)) (by decide),by simp[cO]⟩
 |var n=>cases h
 |pair a b=>cases h
theorem tO{t:T}(h:Sml t):(bN t).length≤29∧(dL t).length≤7:=by
 cases t with
 |nil=>exact⟨by simp[bN,eX],by simp[dL,cO]⟩
 |sym s=>have:=kU (t:= .sym s) h;exact⟨by rw[bN];omega;simp,by rw[dL];omega;simp⟩
 |num n=>have:=kU (t:= .num n) h;exact⟨by rw[bN];omega;simp,by rw[dL];omega;simp⟩
 |var n=>cases h
 |pair a b=>
  have h1:=kU h.1
  have h2:=kU h.2
  rw[bN,dL,jO]
  refine⟨?_,?_⟩
  ·split<;>simp<;>omega
  ·split<;>simp<;>omega
theorem nA(l:List Bs):(bH l).length≤(l.map fun s=>s.length+1).sum:=by
 rw[bH,List.length_drop]
 have:(l.flatMap fun s=>32::s).length=(l.map fun s=>s.length+1).sum:=by
  rw[List.length_flatMap];rfl
 omega
theorem tJ(n:Int):Lib.itoa n≠[]:=itoa_wd.ne
def At(L:List Bs)(i:Nat)(ks:List Bs):Prop:=∃r,L.drop i=ks++r
theorem At.cons{L:List Bs}{i:Nat}{k:Bs}{ks:List Bs}(h:At L i (k::ks)):L[i]? =some k∧At L (i+1) ks:=by
 obtain⟨r,h⟩:=h
 refine⟨?_,r,?_⟩
 ·have := congrArg (fun l => l[0]?) h
  simpa using this
 ·rw[←List.drop_drop,h];rfl
theorem At.left{L:List Bs}{i:Nat}{ks ls:List Bs}(h:At L i (ks++ls)):At L i ks:=by
 obtain⟨r,h⟩:=h
 exact⟨ls++r,by rw[h,List.append_assoc]⟩
theorem At.right{L:List Bs}{i:Nat}{ks ls:List Bs}(h:At L i (ks++ls)):At L (i+ks.length) ls:=by
 obtain⟨r,h⟩:=h
 refine⟨r,?_⟩
 rw[←List.drop_drop,h,List.append_assoc,List.drop_left]
end Go.Vx
namespace Go.Vx
open Go.Proofs Go.Shelf
def qLh:Go.Shelf.Ren:=⟨fun|169=>140|240=>180|276=>192|n=>n,fun|0=>0|3=>3|4=>4|5=>5|9=>9|37=>22|70=>175|72=>177|127=>200|164=>222|n=>n,fun|n=>n⟩
theorem qIn:Lays.n240 Tryz.prog qLh where
 mixed:=by kernel_rfl
 f240:=Tryz.func180.trans (congrArg some (by kernel_rfl))
 f276:=Tryz.func192.trans (congrArg some (by kernel_rfl))
 t0:=Tryz.underlying0
 a0:=Tryz.isAgg0
 z0:=Tryz.sizeOf0
 v0:=Tryz.zeroValue0
 t4:=Tryz.underlying4
 a4:=Tryz.isAgg4
 z4:=Tryz.sizeOf4
 v4:=Tryz.zeroValue4
 t9:=Tryz.underlying9
 a9:=Tryz.isAgg9
 z9:=Tryz.sizeOf9
 v9:=Tryz.zeroValue9
 t20:=Tryz.underlying20
 a20:=Tryz.isAgg20
 z20:=Tryz.sizeOf20
 v20:=Tryz.zeroValue20
 t70:=Tryz.underlying175
 a70:=Tryz.isAgg175
 z70:=Tryz.sizeOf175
 v70:=Tryz.zeroValue175
 t72:=Tryz.underlying177
 a72:=Tryz.isAgg177
 z72:=Tryz.sizeOf177
 v72:=Tryz.zeroValue177
 t164:=Tryz.underlying222
 a164:=Tryz.isAgg222
 z164:=Tryz.sizeOf222
 v164:=Tryz.zeroValue222
theorem qMu:Lays.n169 Tryz.prog qLh where
 mixed:=by kernel_rfl
 f169:=Tryz.func140.trans (congrArg some (by kernel_rfl))
 t0:=Tryz.underlying0
 a0:=Tryz.isAgg0
 z0:=Tryz.sizeOf0
 v0:=Tryz.zeroValue0
 t3:=Tryz.underlying3
 a3:=Tryz.isAgg3
 z3:=Tryz.sizeOf3
 v3:=Tryz.zeroValue3
 t9:=Tryz.underlying9
 a9:=Tryz.isAgg9
 z9:=Tryz.sizeOf9
 v9:=Tryz.zeroValue9
 t37:=Tryz.underlying22
 a37:=Tryz.isAgg22
 z37:=Tryz.sizeOf22
 v37:=Tryz.zeroValue22
 t70:=Tryz.underlying175
 a70:=Tryz.isAgg175
 z70:=Tryz.sizeOf175
 v70:=Tryz.zeroValue175
 t72:=Tryz.underlying177
 a72:=Tryz.isAgg177
 z72:=Tryz.sizeOf177
 v72:=Tryz.zeroValue177
 t127:=Tryz.underlying200
 a127:=Tryz.isAgg200
 z127:=Tryz.sizeOf200
 v127:=Tryz.zeroValue200
theorem shExtra:Builder.Extra Tryz.prog qLh where
 sizeBuilder:=by kernel_rfl
 liesBuilder:=by kernel_rfl
 t5:=Tryz.underlying5
 a5:=Tryz.isAgg5
 z5:=Tryz.sizeOf5
 v5:=Tryz.zeroValue5
 infoByte:=by kernel_rfl
 cellsByte:=by kernel_rfl
 sizeByte:=by kernel_rfl
 neB5:=by decide
end Go.Vx
namespace Go.Vx
open Go.Proofs Go.Shelf Go.RowKit Classical
section
variable {P:Program} {f:FuncId} {args:List Value} {μ h0:Mem}
theorem SpecH.calls{R:Value→Mem→Mem→Prop}(he:qHx P f)(k:∀w,Holds μ w→Holds h0 w→Apart μ h0→Calls P f args.toArray w fun e w'=>∃v μ' h',e= .returned v∧R v μ' h'∧Step μ h0 w μ' h' w'):SpecH P f args μ h0 R:=
 ⟨trivial,fun w a b c=> .inl ⟨he,k w a b c⟩⟩
theorem Step.idle{w:World}(h1:Holds μ w)(h2:Holds h0 w)(h3:Apart μ h0):Step μ h0 w μ h0 w:=
 ⟨Mem.Le.refl _,h1,h2,h3,fun _b h h'=>absurd h h',fun _b h=> .inr h,Nat.le_refl _,fun _ _ _=>rfl,rfl,rfl,rfl⟩
theorem Step.turn{w w':World}{r:Nat}{o o':Obj}(h1:Holds μ w)(h2:Holds h0 w)(h3:Apart μ h0)(hr:h0 r=some o)(hs:w'.heap.size=w.heap.size)(hk:∀b,b≠r→w'.heap[b]? =w.heap[b]?)(hn:w'.heap[r]? =some o')
  (ho:w'.os=w.os) (ht:w'.tape=w.tape) (hu:w'.output=w.output):Step μ h0 w μ (h0.set r o') w':=by
 have hne:∀b,μ b≠none→b≠r:=fun b hb e=>by
  subst e;rw[h3 b hb]at hr;cases hr
 refine⟨Mem.Le.refl _,fun b x hb=>?_,fun b x hb=>?_,fun b hb=>?_,fun b h h'=>absurd h h',fun b h=>?_,by rw[hs];exact Nat.le_refl _,fun b _ hb=>hk b fun e=>?_,ho,ht,hu⟩
 ·rw[hk b (hne b (by simp[hb]))];exact h1 b x hb
 ·rw [Mem.set_get] at hb
  split at hb
  ·rename_i e;subst e;cases hb;exact hn
  ·rename_i e;rw[hk b e];exact h2 b x hb
 ·rw[Mem.set_ne (hne b hb)];exact h3 b hb
 ·by_cases e : b = r
  ·subst e;exact .inr (by rw[hr];simp)
  ·rw[Mem.set_ne e]at h;exact .inr h
 ·subst e;rw[hr]at hb;cases hb
end
def wV(r:Nat)(v:Value):Obj:= .cells #[.pointer (some ⟨r,0,none⟩),v] 177 (0,0)
def bldN:Obj:= .cells #[.pointer none,.slice none 0 0] 177 (0,0)
inductive Bld (h:Mem) (r:Nat):Bs→Prop
 |new (h0:h r=some bldN):Bld h r []
 |used {s:Bs} {g c:Nat} (hne:s≠[]) (h0:h r=some (wV r (.slice (some ⟨g,0,none⟩) s.length c))) (hg:RowO h g c 5 1 (aZ (mkS s))) (ne:g≠r):Bld h r s
section
variable {μ:Mem}
theorem qBr{w:World}{r:Nat}{p q v:Value}{ty:TypeId}(h:w.heap[r]? =some (.cells #[p,v] ty (0,0))):(w.setCell ⟨r,0,none⟩ q).heap[r]? =some (.cells #[q,v] ty (0,0))∧(w.setCell ⟨r,0,none⟩ q).heap.size=w.heap.size∧∀b,b≠r→(w.setCell ⟨r,0,none⟩ q).heap[b]? =w.heap[b]?:=by
 have hlt:r<w.heap.size:=(Array.getElem?_eq_some_iff.1 h).1
 refine⟨?_,?_,fun b hb=>?_⟩
 ·simp only [World.setCell, Array.getElem?_modify, if_pos, h]
  rfl
 ·simp[World.setCell]
 ·simp only [World.setCell, Array.getElem?_modify]
  rw[if_neg (Ne.symm hb)]
theorem xK{h:Mem}{r:Nat}(hr:h r=some bldN):SpecH Tryz.prog 180 [.pointer (some ⟨r,0,none⟩)] μ h fun v μ' h'=>v= .tuple #[]∧μ'=μ∧h'=h.set r (wV r (.slice none 0 0)):=by
 refine SpecH.calls ⟨_,Tryz.func180,by kernel_rfl,by kernel_rfl⟩ fun w hm ho hap=>?_
 have hw:=ho r _ hr
 refine(Any.Builder_copyCheck_fresh qIn shExtra.toX72 r w (by rw[Lib.cell_of_heap hw];rfl) (by simp[World.shape?,hw,bldN];rfl) (Lib.frozen_of_heap hw 0)).mono ?_
 rintro e w' ⟨rfl,rfl⟩
 have w_:=qBr (q:= .pointer (some ⟨r,0,none⟩)) hw
 obtain⟨h1,h2,h3⟩:=w_
 exact⟨_,_,_,rfl,⟨rfl,rfl,rfl⟩,Step.turn hm ho hap hr h2 h3 h1 rfl rfl rfl⟩
theorem tW{h:Mem}{r:Nat}{v:Value}(hr:h r=some (wV r v)):SpecH Tryz.prog 180 [.pointer (some ⟨r,0,none⟩)] μ h fun v μ' h'=>v= .tuple #[]∧μ'=μ∧h'=h:=by
 refine SpecH.calls ⟨_,Tryz.func180,by kernel_rfl,by kernel_rfl⟩ fun w hm ho hap=>?_
 have hw:=ho r _ hr
 refine(Any.Builder_copyCheck_used qIn shExtra.toX72 r w (by rw[Lib.cell_of_heap hw];rfl)).mono ?_
 rintro e w' ⟨rfl,rfl⟩
 exact⟨_,_,_,rfl,⟨rfl,rfl,rfl⟩,Step.idle hm ho hap⟩
theorem dG(s t:Bs):aZ (mkS s)++aZ (mkS t)=aZ (mkS (s++t)):=by
 show List.map _ s++List.map _ t=List.map _ (s++t)
 rw[List.map_append]
theorem gF(s:Bs):(aZ (mkS s)).length=s.length:=oJ _
theorem bT{h:Mem}{r:Nat}{s t:Bs}(hB:Bld h r s)(ht:t≠[])(hl:s.length+t.length≤1000000):
  SpecH Tryz.prog 169 [.pointer (some ⟨r,0,none⟩),.string (mkS t)] μ h fun _ _ h'=>Bld h' r (s++t):=by
 have htl:=gF t
 have hne:aZ (mkS t)≠[]:=fun e=>ht (List.eq_nil_of_length_eq_zero (by rw[←htl,e];rfl))
 have hml:(1000000:Nat)≤maxLen:=by decide
 cases hB with
 |new h0=>
  refine SpecH.mk [] Tryz.func169 (by kernel_rfl) ?_
  refine cOw (xK h0) fun v μ1 h1 hle1 hap1 hR=>?_
  obtain⟨rfl,e1,rfl⟩:=hR
  obtain rfl:=e1.symm
  have hr1:(h.set r (wV r (.slice none 0 0))) r=some (wV r (.slice none 0 0)):=Mem.set_at _ _ _
  refine oIn [.slice none 0 0] rfl (bJ hr1 rfl) ?_
  refine rV ?_ ?_ fun b' c' hc' hb'=>?_
  ·rw[htl];show t.length*1≤_;simp only[List.length_nil]at hl;omega
  ·rw[htl];exact Nat.le_trans (by simp only[List.length_nil]at hl;omega) hml
  refine sIn [.pointer (some ⟨r,0,none⟩),.slice none 0 0] 177 hr1 rfl (by show 1+1≤2;decide) ?_
  refine qMq [0] ?_
  intro h3 hno hg
  cases b' with
  |none=>exact absurd (hb' rfl) hne
  |some g=>
   obtain⟨hg0,hg1,hg2,hg3,cs,rfl,hg4,hg5⟩:=hg
   have hgr:g≠r:=fun e=>by
    subst e
    have hg0:(h.set g (wV g (.slice none 0 0))).set g _ g=none:=hg0
    rw[Mem.set_at]at hg0
    cases hg0
   rw[List.nil_append]
   refine .used ht (g:=g) (c:=c') ?_ ⟨cs,Mem.set_at _ _ _,hg1,hg2,hg3,hg4,hg5⟩ hgr
   show(((h.set r (wV r (.slice none 0 0))).set r _).set g _) r=_
   rw[Mem.set_ne (Ne.symm hgr),Mem.set_at,wV,htl]
   rfl
 | @used _ g c hs h0 hg ne=>
  have hsl:=gF s
  refine SpecH.mk [] Tryz.func169 (by kernel_rfl) ?_
  refine cOw (tW h0) fun v μ1 h1 hle1 hap1 hR=>?_
  obtain⟨rfl,e1,rfl⟩:=hR
  obtain rfl:=e1.symm
  refine oIn [.slice (some ⟨g,0,none⟩) s.length c] rfl (bJ h0 rfl) ?_
  refine nG (aZ (mkS s)) hsl hg ?_ ?_ fun g' c' o hrow hor=>?_
  ·rw[htl];show(s.length+t.length)*1≤_;omega
  ·rw[htl];exact Nat.le_trans hl hml
  have hgr:g'≠r:=by
   rcases hor with rfl|⟨hh,_⟩
   ·exact ne
   ·intro e
    have hh:h1 g'=none:=hh
    rw[e,h0]at hh;cases hh
  have hr1:(h1.set g' o) r=some (wV r (.slice (some ⟨g,0,none⟩) s.length c)):=by rw[Mem.set_ne (Ne.symm hgr)];exact h0
  refine sIn [.pointer (some ⟨r,0,none⟩),.slice (some ⟨g,0,none⟩) s.length c] 177 hr1 rfl (by show 1+1≤2;decide) ?_
  refine rPl ?_
  rw[dG]at hrow
  refine .used (g:=g') (c:=c') (by simp[hs]) ?_ (hrow.set_ne hgr) hgr
  show((h1.set g' o).set r _) r=_
  rw[Mem.set_at,wV,htl,List.length_append]
  rfl
theorem sL(w:World)(a:Addr)(n:Nat):(w.freeze a n).heap.size=w.heap.size∧(∀b,b≠a.block→(w.freeze a n).heap[b]? =w.heap[b]?)∧(w.freeze a n).os=w.os∧(w.freeze a n).tape=w.tape∧(w.freeze a n).output=w.output:=by
 unfold World.freeze
 split
 ·exact⟨rfl,fun _ _=>rfl,rfl,rfl,rfl⟩
 ·refine ⟨by simp, fun b hb => ?_, rfl, rfl, rfl⟩
  show(w.heap.modify _ _)[b]? =_
  rw[Array.getElem?_modify,if_neg (Ne.symm hb)]
set_option maxHeartbeats 1000000 in
set_option maxRecDepth 100000 in
theorem qFo{P:Program}{ρ:Ren}(L:Lays.n169 P ρ)(X:Builder.Extra P ρ){r g cap:Nat}{p:Value}{cur:Array Value}{l:List UInt8}{w:World}(h0:l≠[])(hr:w.heap[r]? =some (.cells #[p,.slice (some ⟨g,0,none⟩) l.length cap] (ρ.t 72) (0,0)))
  (hg:w.heap[g]? =some (.cells cur (ρ.t 5) (0,0))) (hc:l.length≤cap) (hs:cur.size=cap) (hm:l.length≤maxLen) (hb:∀(j:Nat) x,l[j]? =some x→cur[j]? =some (.int .u8 x.toNat)):
  Calls P (ρ.f 169) #[.pointer (some ⟨r,0,none⟩)] w fun e w'=>e= .returned (.string ⟨l.toArray⟩)∧w'=w.drew.freeze ⟨g,0,none⟩ l.length:=by
 have hl0:l.length≠0:=by simpa using h0
 have c1:w.drew.cell? ⟨r,1,none⟩=some (.slice (some ⟨g,0,none⟩) l.length cap):=by
  have:w.drew.heap[r]? =some (.cells #[p,.slice (some ⟨g,0,none⟩) l.length cap] (ρ.t 72) (0,0)):=hr
  rw[Lib.cell_of_heap this];rfl
 have hg':w.drew.heap[g]? =some (.cells cur (ρ.t 5) (0,0)):=hg
 have hSD:(Builtin.unsafeSliceData_ #[(ρ.t 37)] (ρ.t 127) #[.slice (some ⟨g,0,none⟩) l.length cap]).run P w.drew= .ok (.pointer (some ⟨g,0,none⟩)) w.drew:=Lib.run_unsafeSliceData_row _ _ _ _ _ _ (by omega)
 have hUS:(Builtin.unsafeString_ #[(ρ.t 127),(ρ.t 3)] (ρ.t 9) #[.pointer (some ⟨g,0,none⟩),.int .i64 l.length]).run P w.drew= .ok (.string ⟨l.toArray⟩) (w.drew.freeze ⟨g,0,none⟩ l.length):=
  Lib.run_unsafeString_row w.drew (ρ.t 127) (ρ.t 3) (ρ.t 9) (ρ.t 5) L.t127 X.cellsByte g cur.size (by simp[World.shape?,hg']) l h0 (by omega) (by unfold maxLen at hm;omega) fun j x hx=>by
   rw[Addr.add_lit',Nat.zero_add,Lib.cell_of_heap hg'];exact hb j x hx
 have mixed:=L.mixed
 have t72:=L.t72;have a72:=L.a72;have z72:=L.z72;have v72:=L.v72;have u72:=run_underlying L.t72
 have t70:=L.t70;have a70:=L.a70;have z70:=L.z70;have v70:=L.v70;have u70:=run_underlying L.t70
 have t37:=L.t37;have a37:=L.a37;have z37:=L.z37;have v37:=L.v37;have u37:=run_underlying L.t37
 have t127:=L.t127;have a127:=L.a127;have z127:=L.z127;have v127:=L.v127;have u127:=run_underlying L.t127
 have t3:=L.t3;have a3:=L.a3;have z3:=L.z3;have v3:=L.v3;have u3:=run_underlying L.t3
 have t9:=L.t9;have a9:=L.a9;have z9:=L.z9;have v9:=L.v9;have u9:=run_underlying L.t9
 have t5:=X.t5;have a5:=X.a5;have z5:=X.z5;have v5:=X.v5;have u5:=run_underlying X.t5
 go_enter L.f169,Body.n169_ntmps ρ
 go_wp2
 go_region_o
 all_goals (go_wp2;go_ret;exact⟨rfl,rfl⟩)
theorem qEe{h:Mem}{r:Nat}{s:Bs}(hB:Bld h r s)(hne:s≠[]):SpecH Tryz.prog 140 [.pointer (some ⟨r,0,none⟩)] μ h fun v _ _=>v= .string (mkS s):=by
 cases hB with
 |new h0=>exact absurd rfl hne
 | @used _ g c _ h0 hg ne=>
  refine SpecH.calls ⟨_,Tryz.func140,by kernel_rfl,by kernel_rfl⟩ fun w hm ho hap=>?_
  obtain⟨cs,e1,e2,e3,e4,e5,e6⟩:=hg
  have hl:(aZ (mkS s)).length=s.length:=oJ _
  rw[hl]at e2 e3 e6
  have hf:(aZ (mkS s)).flatMap aB=aZ (mkS s):=sR _
  rw[hf,Nat.mul_one]at e6
  refine(qFo qMu shExtra hne (ho r _ h0) (ho g _ e1) e2 (by simpa using e5) e3 fun j x hx=>?_).mono ?_
  ·have hj:(aZ (mkS s))[j]? =some (.int .u8 (x.toNat:Int)):=by
    rw[aZ,List.getElem?_map]
    show(s[j]?).map _=_
    rw[hx];rfl
   rw[←e6,List.getElem?_take]at hj
   split at hj
   ·simpa using hj
   ·cases hj
  ·rintro e w' ⟨rfl, rfl⟩
   have w_:=sL w.drew ⟨g,0,none⟩ s.length
   obtain⟨k1,k2,k3,k4,k5⟩:=w_
   refine⟨_,μ,Mem.nil,rfl,rfl,⟨Mem.Le.refl _,fun b o hb=>(k2 b fun e=>?_).trans (hm b o hb),(fun b o hb=>nomatch hb),(fun b hb=>rfl),(fun b h h'=>absurd h h'),(fun b hb=>absurd rfl hb),Nat.le_of_eq k1.symm,fun b hb hn=>k2 b fun e=>?_,k3,k4,k5⟩⟩
   ·have e : b = g := e
    subst e
    rw[hap b (by simp[hb])]at e1;cases e1
   ·have e : b = g := e
    subst e
    rw[hn]at e1;cases e1
end
end Go.Vx
namespace Go.Vx
open Go.Proofs Classical
theorem qNv{k:Nat}(h:k<10):Lib.itoa (k:Int)=[UInt8.ofNat (48+k)]:=by
 rw[Lib.itoa,if_neg (by omega),Int.toNat_natCast,Lib.decDigits,dif_pos h]
theorem qMy{k:Nat}(h:10≤k)(h2:k<100):Lib.itoa (k:Int)=[UInt8.ofNat (48+k / 10),UInt8.ofNat (48+k % 10)]:=by
 rw[Lib.itoa,if_neg (by omega),Int.toNat_natCast,Lib.decDigits,dif_neg (by omega),Lib.decDigits,dif_pos (by omega)]
 rfl
section
variable {μ:Mem}
theorem qGi{k:Nat}(hk:k<100):aQ Tryz.prog 176 [.int .i64 k] μ (.string (mkS (Lib.itoa k))):=by
 refine Spec.mk Tryz.func176 (by kernel_rfl) ?_
 refine ifd (fun h=>?_) (fun h=>?_)
 ·refine aC (by omega) (by omega) ?_
  refine aE k (k+1) rfl rfl (by omega) (by show((k+1:Nat):Int)≤36;omega) ?_
  refine rGv ?_ rfl
  refine congrArg Value.string ?_
  have h:k<10:=by omega
  rw[qNv h]
  revert k
  decide+kernel
 ·refine aC (by omega) (by omega) (aC (by omega) (by omega) (aC (by omega) (by omega) ?_))
  refine aE (k*2) (k*2+2) rfl rfl (by omega) (by show((k*2+2:Nat):Int)≤200;omega) ?_
  refine rGv ?_ rfl
  refine congrArg Value.string ?_
  have h:10≤k:=by omega
  rw[qMy h hk]
  revert k
  decide+kernel
theorem xL{k:Nat}(hk:k<100):aQ Tryz.prog 168 [.int .i64 k,.int .i64 10] μ (.string (mkS (Lib.itoa k))):=by
 refine Spec.mk Tryz.func168 (by kernel_rfl) ?_
 refine ifd (fun _=>?_) (fun h=>absurd rfl h)
 refine ifd (fun _=>?_) (fun h=>absurd h (by omega))
 refine ifd (fun _=>?_) (fun h=>absurd h (by omega))
 exact cGv (qGi hk) (rGv rfl rfl)
theorem qMp{k:Nat}(hk:k<100):aQ Tryz.prog 138 [.int .i64 k] μ (.string (mkS (Lib.itoa k))):=by
 refine Spec.mk Tryz.func138 (by kernel_rfl) ?_
 exact cGv (xL hk) (rGv rfl rfl)
theorem yF{k:Nat}(hk:k<100):aQ Tryz.prog 97 [.int .i64 k] μ (.string (mkS (Lib.itoa k))):=by
 refine Spec.mk Tryz.func97 (by kernel_rfl) ?_
 exact cGv (qMp hk) (rGv rfl rfl)
theorem mL{n:Int}(h0:0≤n)(h1:n<100):aQ Tryz.prog 48 [.int .i64 n] μ (.string (mkS (Lib.itoa n))):=by
 have w_:=Int.eq_ofNat_of_zero_le h0
 obtain⟨k,rfl⟩:=w_
 refine Spec.mk Tryz.func48 (by kernel_rfl) ?_
 exact cGv (yF (by omega)) (rGv rfl rfl)
theorem qMz(l:List Bs)(i:Nat):((l.take i).map fun s=>s.length+1).sum≤(l.map fun s=>s.length+1).sum:=by
 have h:=congrArg (fun l:List Bs=>(l.map fun s=>s.length+1).sum) (List.take_append_drop i l)
 simp only[List.map_append,List.sum_append]at h
 omega
theorem yH{L:List Bs}{b:Option Addr}{c:Nat}(hs:Sl μ 1 b L.length ((L.map mkS).map D.s))(hsum:(L.map fun s=>s.length+1).sum≤1000000):
  aQ Tryz.prog 99 [.slice b L.length c,.string ⟨#[32]⟩] μ (.string (mkS (bH L))):=by
 have hmax:=aI hs.max
 have hb:∀i,(bH (L.take i)).length≤1000000:=fun i=>Nat.le_trans (Nat.le_trans (nA _) (qMz L i)) hsum
 have hml:(1000000:Nat)≤maxLen:=by decide
 refine Spec.mk Tryz.func99 (by kernel_rfl) ?_
 intro r8
 refine lIn (fun z:Nat×List Value×Option Nat×Nat=>z.1≤L.length∧z.2.1=aZ (mkS (bH (L.take z.1))))
  (fun(i,ys,b5,c5)=>⟨[(1,.val (.string ⟨#[32]⟩)),(5,.row 0 b5 ys.length c5),(9,.val (.slice b L.length c)),(10,.val (.int .i64 L.length)),(11,.val (.int .i64 i))],[(0,some (.row b5 c5 5 1 ys))],1,μ,Mem.nil⟩) (fun z=>L.length-z.1)
  (0,[],some r8,0) ⟨Nat.zero_le _,rfl⟩ (fun(_,_,_,_)=>⟨rfl,rfl⟩) ⟨⟨rfl,rfl,rfl,rfl,rfl,trivial⟩,⟨rfl,trivial⟩,rfl,rfl⟩ ?_
 rintro⟨i,ys,b5,c5⟩ ⟨hi,hys⟩
 dsimp only at hi hys
 refine ifd (fun hlt=>?_) (fun hlt=>?_)
 ·have w_ := aSo (l := L) (i := i) (by omega)
  obtain⟨x,hx⟩:=w_
  have w_:=Nm.tok hs hx
  obtain⟨ad,hel⟩:=w_
  have ht:L.take (i+1)=L.take i++[x]:=by rw[List.take_add_one,hx];rfl
  have hbi:=hb (i+1)
  rw[ht,oW]at hbi
  refine eIn hel ?_
  refine ifd (fun h0=>?_) (fun h0=>?_)
  ·have hne:L.take i≠[]:=fun e=>by
    have:=congrArg List.length e
    rw[List.length_take,List.length_nil]at this;omega
   rw[if_neg hne,List.length_append,List.length_cons]at hbi
   have h1:(ys++aZ (mkS [32])).length≤1000000:=by rw[hys,dG,gF,List.length_append,List.length_singleton];omega
   have h2:((ys++aZ (mkS [32]))++aZ (mkS x)).length≤1000000:=by rw[hys,dG,dG,gF,List.length_append,List.length_append,List.length_singleton];omega
   rw[List.length_append]at h1 h2
   refine gIn (by show(ys.length+(aZ (mkS [32])).length)*1≤_;omega) (Nat.le_trans h1 hml) fun b6 c6 _=>?_
   refine gIn (by show((ys++aZ (mkS [32])).length+(aZ (mkS x)).length)*1≤_;omega) (Nat.le_trans h2 hml) fun b7 c7 _=>?_
   refine aC (by omega) (by omega) ⟨(i+1,(ys++aZ (mkS [32]))++aZ (mkS x),b7,c7),⟨by dsimp only;omega,?_⟩,by dsimp only;omega,⟨⟨rfl,rfl,rfl,rfl,rfl,trivial⟩,⟨rfl,trivial⟩,rfl,rfl⟩⟩
   dsimp only
   rw[hys,dG,dG,ht,oW,if_neg hne,List.append_assoc]
   rfl
  ·obtain rfl : i = 0 := by omega
   rw[List.take_zero,if_pos rfl]at hbi
   have h1:(ys++aZ (mkS x)).length≤1000000:=by
    rw[hys,dG,gF]
    exact hbi
   rw[List.length_append]at h1
   refine gIn (by show(ys.length+(aZ (mkS x)).length)*1≤_;omega) (Nat.le_trans h1 hml) fun b6 c6 _=>?_
   refine aC (by omega) (by omega) ⟨(0+1,ys++aZ (mkS x),b6,c6),⟨by dsimp only;omega,?_⟩,by dsimp only;omega,⟨⟨rfl,rfl,rfl,rfl,rfl,trivial⟩,⟨rfl,trivial⟩,rfl,rfl⟩⟩
   dsimp only
   rw[hys,dG,ht,oW,List.take_zero,if_pos rfl]
   rfl
 ·obtain rfl : i = L.length := by omega
  rw[List.take_length]at hys
  refine bW (bH L) hys ?_
  exact rGv rfl rfl
end
end Go.Vx
namespace Go.Vx
open Go.Proofs Classical
theorem vZ{t:T}(h:Atm t):t.good∧t.size=1:=by
 cases t with
 |nil=>exact⟨trivial,rfl⟩
 |sym s=>exact⟨h,rfl⟩
 |num n=>
  have h1:0≤n:=h.1
  have h2:n<100:=h.2
  exact⟨show -1000000000≤n∧n≤1000000000 by omega,rfl⟩
 |var n=>cases h
 |pair a b=>cases h
theorem qNh{t:T}(h:Sml t):t.ok:=by
 cases t with
 |pair a b=>
  have h1:=vZ h.1
  have h2:=vZ h.2
  exact⟨⟨h1.1,h2.1⟩,by show 1+a.size+b.size≤5000;omega⟩
 |nil=>exact⟨trivial,by decide⟩
 |sym s=>exact⟨h,by show 1≤5000;decide⟩
 |num n=>exact⟨(vZ (t:= .num n) h).1,by show 1≤5000;decide⟩
 |var n=>cases h
theorem atom_eq{t:T}(h:Sml t)(hp:∀a b,t≠.pair a b):Atm t∧bN t=eX t:=by
 cases t with
 |pair a b=>exact absurd rfl (hp a b)
 |nil=>exact⟨trivial,rfl⟩
 |sym s=>exact⟨h,rfl⟩
 |num n=>exact⟨h,rfl⟩
 |var n=>cases h
section
variable {μ:Mem}
theorem iB{h:Mem}{r:Nat}{s:Bs}{t:T}{v:Value}(ha:Atm t)(hv:RepV μ t.tm.d v)(hB:Bld h r s)(hl:s.length≤1000):
  SpecH Tryz.prog 139 [.pointer (some ⟨r,0,none⟩),v] μ h fun _ _ h'=>Bld h' r (s++eX t):=by
 have w_:=T.inv hv
 obtain⟨b1,c1,rfl,-⟩:=w_
 have hal:=(kU ha).1
 refine SpecH.mk [] Tryz.func139 (by kernel_rfl) ?_
 intro r3
 cases t with
 |nil=>
  refine ifd (fun _=>?_) (fun h=>absurd rfl h)
  refine cOw (bT (t:=[40,41]) hB (by simp) (by show _+2≤_;omega)) fun v1 μ1 h1 hle1 hap1 hR=>?_
  exact rPl hR
 |sym nm=>
  refine ifd (fun h=>absurd (show(2:Int)=0 from h) (by decide)) (fun _=>?_)
  refine ifd (fun h=>absurd (show(2:Int)=1 from h) (by decide)) (fun _=>?_)
  refine ifd (fun _=>?_) (fun h=>absurd rfl h)
  have hw:=bT (μ:=μ) (t:=lsS nm) hB (qCj ha).ne (by show _+(eX (.sym nm)).length≤_;omega)
  rw[qIe]at hw
  refine cOw hw fun v1 μ1 h1 hle1 hap1 hR=>?_
  exact rPl hR
 |num n=>
  refine ifd (fun h=>absurd (show(3:Int)=0 from h) (by decide)) (fun _=>?_)
  refine ifd (fun h=>absurd (show(3:Int)=1 from h) (by decide)) (fun _=>?_)
  refine ifd (fun h=>absurd (show(3:Int)=2 from h) (by decide)) (fun _=>?_)
  refine ifd (fun _=>?_) (fun h=>absurd rfl h)
  refine cGv (mL ha.1 ha.2) ?_
  refine cOw (bT (t:=Lib.itoa n) hB (tJ n) (by show _+(eX (.num n)).length≤_;omega)) fun v1 μ1 h1 hle1 hap1 hR=>?_
  exact rPl hR
 |var n=>cases ha
 |pair a b=>cases ha
theorem qMf{t:T}(h:Atm t):t.tm.kind≠4:=by
 cases t with
 |nil=>exact fun k=>absurd (show(0:Int)=4 from k) (by decide)
 |sym s=>exact fun k=>absurd (show(2:Int)=4 from k) (by decide)
 |num n=>exact fun k=>absurd (show(3:Int)=4 from k) (by decide)
 |var n=>cases h
 |pair a b=>cases h
theorem qCo{t:T}(h:Atm t):t.tm.kind=0↔t= .nil:=by
 cases t with
 |nil=>exact⟨fun _=>rfl,fun _=>rfl⟩
 |sym s=>exact⟨fun h=>absurd (show(2:Int)=0 from h) (by decide),fun h=>by cases h⟩
 |num n=>exact⟨fun h=>absurd (show(3:Int)=0 from h) (by decide),fun h=>by cases h⟩
 |var n=>cases h
 |pair a b=>cases h
theorem uC{h:Mem}{r:Nat}{s:Bs}{t:T}{v:Value}(ha:Sml t)(hv:RepV μ t.tm.d v)(hB:Bld h r s)(hl:s.length≤900):
  SpecH Tryz.prog 139 [.pointer (some ⟨r,0,none⟩),v] μ h fun _ _ h'=>Bld h' r (s++bN t):=by
 by_cases hp:∃a b,t= .pair a b
 ·obtain ⟨a, b, rfl⟩ := hp
  have hla:=(kU ha.1).1
  have w_:=T.inv hv
  obtain⟨b1,c1,rfl,hsl⟩:=w_
  have w_:=T.arg hsl (i:=0) rfl
  obtain⟨ad1,p1,e1,g1⟩:=w_
  have w_:=T.arg hsl (i:=1) rfl
  obtain⟨ad3,p3,e3,g3⟩:=w_
  refine SpecH.mk [] Tryz.func139 (by kernel_rfl) ?_
  intro r3
  refine ifd (fun h=>absurd (show(4:Int)=0 from h) (by decide)) (fun _=>?_)
  refine ifd (fun h=>absurd (show(4:Int)=1 from h) (by decide)) (fun _=>?_)
  refine ifd (fun h=>absurd (show(4:Int)=2 from h) (by decide)) (fun _=>?_)
  refine ifd (fun h=>absurd (show(4:Int)=3 from h) (by decide)) (fun _=>?_)
  refine ifd (fun _=>?_) (fun h=>absurd rfl h)
  refine cOw (bT (t:=[40]) hB (by simp) (by show _+1≤_;omega)) fun v1 μ1 h1 hle1 hap1 hB1=>?_
  refine eIn (e1.mono hle1) ?_
  refine cOw (iB ha.1 (g1.mono hle1) hB1 (by rw[List.length_append,List.length_singleton];omega)) fun v2 μ2 h2 hle2 hap2 hB2=>?_
  have g3:=(g3.mono hle1).mono hle2
  refine eIn ((e3.mono hle1).mono hle2) ?_
  refine lIn (fun _:Unit=>True) (fun _=>⟨[(0,.val (.pointer (some ⟨r,0,none⟩))),(3,.loc 0 r3 0)],[(0,some (.cells r3 [.val (.int .i64 b.tm.kind),.val (.int .i64 b.tm.num),.val (.string b.tm.name),.val (.slice p3.1 b.tm.args.length p3.2)] 57))],1,μ2,h2⟩) (fun _=>0)
   () trivial (fun _=>⟨rfl,rfl⟩) ⟨⟨rfl,rfl,trivial⟩,⟨rfl,trivial⟩,rfl,rfl⟩ ?_
  rintro- -
  refine ifd (fun h=>absurd h (qMf ha.2)) (fun _=>?_)
  refine aL (fun hne=>?_) (fun h0=>?_)
  ·have hbn : b ≠ .nil := fun e => hne ((qCo ha.2).2 e)
   have hB2l:((s++[40])++eX a).length≤913:=by rw[List.length_append,List.length_append,List.length_singleton];omega
   refine cOw (bT (t:=[32,46,32]) hB2 (by simp) (by show _+3≤_;omega)) fun v4 μ4 h4 hle4 hap4 hB4=>?_
   have hB4l:(((s++[40])++eX a)++[32,46,32]).length≤916:=by rw[List.length_append];show _+3≤_;omega
   refine cOw (iB ha.2 (g3.mono hle4) hB4 (by omega)) fun v5 μ5 h5 hle5 hap5 hB5=>?_
   have hlb:=(kU ha.2).1
   refine cOw (bT (t:=[41]) hB5 (by simp) (by rw[List.length_append];show _+1≤_;omega)) fun v6 μ6 h6 hle6 hap6 hB6=>?_
   refine rPl ?_
   rw[bN,if_neg hbn,jO]
   have e:s++(40::(eX a++([32,46,32]++eX b))++[41])=((((s++[40])++eX a)++[32,46,32])++eX b)++[41]:=by simp
   rw[e];exact hB6
  ·have hbn := (qCo ha.2).1 h0
   refine cOw (bT (t:=[41]) hB2 (by simp) (by rw[List.length_append,List.length_append,List.length_singleton];show _+1≤_;omega)) fun v6 μ6 h6 hle6 hap6 hB6=>?_
   refine rPl ?_
   rw[bN,if_pos hbn,jO]
   have e:s++(40::(eX a++[])++[41])=((s++[40])++eX a)++[41]:=by simp
   rw[e];exact hB6
 ·have w_ := atom_eq ha fun a b e => hp ⟨a, b, e⟩
  obtain⟨h1,h2⟩:=w_
  rw[h2]
  exact iB h1 hv hB (by omega)
theorem qNf{t:T}(h:Sml t):bN t≠[]:=by
 cases t with
 |nil=>exact fun e=>by cases e
 |sym s=>exact(qCj h).ne
 |num n=>exact tJ n
 |var n=>cases h
 |pair a b=>exact fun e=>by cases e
theorem tE{t:T}{v:Value}(ht:Sml t)(hv:RepV μ t.tm.d v):Spec Tryz.prog 98 [v] μ fun w _=>w= .string (mkS (bN t)):=by
 have hv0:=hv
 have w_:=Tm.invV hv
 obtain⟨p,rfl⟩:=w_
 refine Spec.mkO [8] Tryz.func98 (by kernel_rfl) ?_
 intro r1
 refine cGv (dN t.tm hv0) ?_
 refine aL (fun h=>absurd (qNh ht).tm h) (fun _=>?_)
 intro r8 hm8 ho8
 refine cOw (uC ht hv0 (s:=[]) (.new (Mem.set_at _ _ _)) (by decide)) fun v1 μ1 h1 hle1 hap1 hB=>?_
 rw[List.nil_append]at hB
 refine cOw (qEe hB (qNf ht)) fun v2 μ2 h2 hle2 hap2 hR=>?_
 exact rPl hR
theorem qNm{L:List Bs}{ys:List Value}{b:Option Nat}{c:Nat}(hat:RowAt μ b c 1 ys)(hys:ys=gR L)(hm:L.length≤100000000):Sl μ 1 (b.map fun r=>⟨r,0,none⟩) L.length ((L.map mkS).map D.s):=by
 have hyl:ys.length=L.length:=by rw[hys,gH]
 rw[hys,gR]at hat
 have h:=Rows.sl hat (Nm.rows (L.map mkS)) (by rw[List.length_map,List.length_map];exact Nat.le_trans (m:=100000000) hm (by decide))
 have w_:=NmV.sl h
 obtain⟨b2,c2,e,hsl⟩:=w_
 have w_:=Value.slice.inj e
 obtain⟨e1,-,-⟩:=w_
 rw[List.length_map]at hsl
 rw[←e1]at hsl
 exact hsl
theorem xO{ts:List T}{base:Option Addr}{cap:Nat}(hs:Sl μ 4 base ts.length ((ts.map T.tm).map Tm.d))(ht:∀t∈ts,Sml t)(hm:ts.length≤1000):
  Spec Tryz.prog 49 [.slice base ts.length cap] μ fun w _=>w= .string (mkS (jO (bH (ts.map bN)))):=by
 have hsum:((ts.map bN).map fun s=>s.length+1).sum≤30*ts.length:=by
  clear hs hm
  induction ts with
  |nil=>exact Nat.le_refl _
  |cons t r ih=>
   have h1:=(tO (ht t (by simp))).1
   have h2:=ih fun x hx=>ht x (by simp[hx])
   rw[List.map_cons,List.map_cons,List.sum_cons,List.length_cons]
   omega
 refine Spec.mk Tryz.func49 (by kernel_rfl) ?_
 intro r6
 refine lIn (fun z:Nat×List Value×Option Nat×Nat×Mem=>z.1≤ts.length∧μ.Le z.2.2.2.2∧z.2.1=gR ((ts.take z.1).map bN))
  (fun(i,ys,b,c,μ')=>⟨[(3,.row 0 b ys.length c),(7,.val (.slice base ts.length cap)),(8,.val (.int .i64 ts.length)),(9,.val (.int .i64 i))],[(0,some (.row b c 9 1 ys))],1,μ',Mem.nil⟩) (fun z=>ts.length-z.1)
  (0,[],some r6,0,μ) ⟨Nat.zero_le _,Mem.Le.refl _,rfl⟩ (fun(_,_,_,_,_)=>⟨rfl,rfl⟩) ⟨⟨rfl,rfl,rfl,rfl,trivial⟩,⟨rfl,trivial⟩,rfl,rfl⟩ ?_
 rintro⟨i,ys,b,c,μ'⟩ ⟨hi,hle,hys⟩
 dsimp only at hi hle hys
 have hyl:ys.length=i:=by rw[hys,gH,List.length_map,List.length_take];omega
 refine ifd (fun hlt=>?_) (fun hlt=>?_)
 ·have w_ := aSo (l := ts) (i := i) (by omega)
  obtain⟨t,hti⟩:=w_
  have w_:=T.elemL (hs.mono hle) hti
  obtain⟨ad,p,hel,hr⟩:=w_
  refine eIn hel ?_
  intro r5
  refine cPl (tE (ht t (mAt hti)) hr) fun w μ2 hle2 hw=>?_
  obtain rfl:=hw
  intro r16
  refine gIn ?_ ?_ fun b' c' _=>?_
  ·show(ys.length+1)*16≤_;omega
  ·exact Nat.le_trans (m:=100000000) (show ys.length+1≤_ by omega) (by decide)
  refine aC (by omega) (by omega) ⟨(i+1,_,b',c',μ2),⟨by dsimp only;omega,hle.trans hle2,?_⟩,by dsimp only;omega,⟨⟨rfl,rfl,rfl,rfl,trivial⟩,⟨rfl,trivial⟩,rfl,rfl⟩⟩
  dsimp only
  rw[List.take_add_one,hti,Option.toList_some,List.map_append,List.map_singleton,bO,hys]
 ·obtain rfl : i = ts.length := by omega
  rw[List.take_length]at hys
  refine bF [0] fun μ4 hle4 hno hat=>?_
  have hJ:=yH (c:=c) (qNm hat hys (by rw[List.length_map];omega)) (by omega)
  rw[List.length_map,←hyl]at hJ
  refine cE hJ fun w μ5 hle5 hR=>?_
  obtain⟨rfl,e5⟩:=hR
  have hb:=Nat.le_trans (nA (ts.map bN)) hsum
  have hz:(mkS (bH (ts.map bN))).size=(bH (ts.map bN)).length:=cD _
  have e1:(⟨#[40]⟩:ByteArray)++mkS (bH (ts.map bN))=mkS ([40]++bH (ts.map bN)):=bE [40] _
  refine aD (by rw[hz];show 1+_≤_;omega) ?_
  rw[e1]
  have hz2:(mkS ([40]++bH (ts.map bN))).size=1+(bH (ts.map bN)).length:=by rw[cD,List.length_append];rfl
  refine aD (by rw[hz2];show _+1≤_;omega) ?_
  exact rPl (congrArg Value.string (bE ([40]++bH (ts.map bN)) [41]))
end
end Go.Vx
