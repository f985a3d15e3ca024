/- Texts of the proof, part M6. -/
import Derived.Test.YtnogdfionomoaaaGreatM5
namespace Go.Vx
open Go.Proofs Classical
def AscT(l:List T):Prop:=∀(i:Nat) x y,l[i]? =some x→l[i+1]? =some y→x.cmp y<0
theorem AscT.ins{l:List T}{t:T}{k:Nat}(h:AscT l)(hk:k≤l.length)(h1:∀x,l[k]? =some x→t.cmp x<0)(h2:∀j x,j+1=k→l[j]? =some x→x.cmp t<0):AscT (l.take k++t::l.drop k):=by
 intro i x y hx hy
 have hlen:(l.take k).length=k:=by rw[List.length_take];omega
 rw[List.getElem?_append]at hx hy
 rw[hlen]at hx hy
 by_cases a:i+1<k
 ·rw [if_pos (by omega), List.getElem?_take, if_pos (by omega)] at hx
  rw[if_pos a,List.getElem?_take,if_pos a]at hy
  exact h i x y hx hy
 ·rw [if_neg a] at hy
  by_cases b:i<k
  ·have e : i + 1 = k := by omega
   rw[if_pos b,List.getElem?_take,if_pos b]at hx
   rw[e,Nat.sub_self]at hy
   cases hy
   exact h2 i x e hx
  ·rw [if_neg b] at hx
   by_cases c:i=k
   ·subst c
    rw[Nat.sub_self]at hx
    rw[show i+1-i=0+1 from by omega,List.getElem?_cons_succ,List.getElem?_drop,Nat.add_zero]at hy
    cases hx
    exact h1 y hy
   ·rw [show i - k = (i - k - 1) + 1 from by omega, List.getElem?_cons_succ, List.getElem?_drop, show k + (i - k - 1) = i - 1 from by omega] at hx
    rw[show i+1-k=(i-k)+1 from by omega,List.getElem?_cons_succ,List.getElem?_drop,show k+(i-k)=(i-1)+1 from by omega]at hy
    exact h (i-1) x y hx hy
section
variable {μ:Mem}
set_option maxHeartbeats 1000000 in
theorem rG{xs:List T}{t:T}{v vt:Value}(h:RepV μ (.sl 4 ((xs.map T.tm).map Tm.d)) v)(ht:RepV μ t.tm.d vt)(hasc:AscT xs)(hn:xs.length≤1000):
  Spec Tryz.prog 127 [v,vt] μ fun v' μ'=>∃ys,RepV μ' (.sl 4 ((ys.map T.tm).map Tm.d)) v'∧AscT ys∧(∀y∈ys,y=t∨y∈xs)∧1≤ys.length∧ys.length≤xs.length+1:=by
 have w_:=Rep.sl h
 obtain⟨b,c,rfl,hs⟩:=w_
 rw[List.length_map,List.length_map]at hs h ⊢
 have w_:=Rep.src h
 obtain⟨vs,hrows,hvs,hcap,hsrc⟩:=w_
 have w_:=Tm.invV ht
 obtain⟨q,rfl⟩:=w_
 refine Spec.mk Tryz.func127 (by kernel_rfl) ?_
 intro r3
 refine lIn (fun k:Nat=>k≤xs.length∧∀x,xs[k]? =some x→0≤x.cmp t) (fun k=>⟨[(0,.val (.slice b xs.length c)),(3,.loc 0 r3 0),(5,.val (.int .i64 k))],[(0,some (.cells r3 [.val (.int .i64 t.tm.kind),.val (.int .i64 t.tm.num),.val (.string t.tm.name),.val (.slice q.1 t.tm.args.length q.2)] 75))],1,μ,Mem.nil⟩) (fun k=>k)
  xs.length ⟨Nat.le_refl _,fun x hx=>by rw[List.getElem?_eq_none (Nat.le_refl _)]at hx;cases hx⟩ (fun _=>⟨rfl,rfl⟩) ⟨⟨rfl,rfl,rfl,trivial⟩,⟨rfl,trivial⟩,rfl,rfl⟩ ?_
 rintro k ⟨hk,hge⟩
 refine ifd (fun hk0=>?_) (fun hk0=>?_)
 ·obtain ⟨j, hj⟩ : ∃ j, k = j + 1 := ⟨k - 1, by omega⟩
  obtain⟨x,hx⟩:∃x,xs[j]? =some x:=⟨_,List.getElem?_eq_getElem (by omega)⟩
  have w_:=T.elemL hs hx
  obtain⟨ad,p,hel,hrx⟩:=w_
  refine aB (by omega) (by omega) ?_
  rw[show(k:Int)-1=(j:Int)from by omega]
  refine eIn hel ?_
  refine cGv (fK x t hrx ht) ?_
  refine iIn (fun hc=>?_) (fun hc=>?_)
  ·have hc := of_decide_eq_true hc
   refine aB (by omega) (by omega) ⟨j,⟨by omega,fun y hy=>by rw[hx]at hy;cases hy;exact hc⟩,by omega,⟨⟨rfl,rfl,?_,trivial⟩,⟨rfl,trivial⟩,rfl,rfl⟩⟩
   show some (SV.val (.int .i64 _))=some (SV.val (.int .i64 _))
   congr 3;omega
  ·have hc := of_decide_eq_false hc
   have hlow:∀j x,j+1=k→xs[j]? =some x→x.cmp t<0:=fun j' x' e hx'=>by
    obtain rfl:j'=j:=by omega
    rw[hx]at hx';cases hx'
    omega
   refine ifd (fun hlt=>?_) (fun hlt=>?_)
   ·obtain ⟨y, hy⟩ : ∃ y, xs[k]? = some y := ⟨_, List.getElem?_eq_getElem (by omega)⟩
    have w_:=T.elemL hs hy
    obtain⟨ady,py,hely,hry⟩:=w_
    refine eIn hely ?_
    refine cGv (jX y t hry ht) ?_
    refine iIn (fun hsm=>?_) (fun hsm=>?_)
    ·exact rPl ⟨xs,h,hasc,fun y hy=> .inr hy,by omega,by omega⟩
    ·have hsm := of_decide_eq_false hsm
     have hhi:∀x,xs[k]? =some x→t.cmp x<0:=fun x hx=>by
      rw[hy]at hx;cases hx
      have h1:=hge y hy
      have h2:y.cmp t≠0:=fun e=>hsm ((T.cmp_zero y t).1 e)
      exact(T.cmp_anti t y).2 (by omega)
     intro r5
     refine aF 0 k rfl rfl (by omega) (by omega) ?_
     refine aG _ (hsrc 0 k (by omega) (by omega)) ?_
     refine gIn ?_ ?_ fun b1 c1 _=>?_
     ·show(0+_)*56≤_;simp;omega
     ·exact Nat.le_trans (m:=2000000000) (by simp;omega) (by decide)
     intro r6
     refine gIn ?_ ?_ fun b2 c2 _=>?_
     ·show(_+1)*56≤_;simp;omega
     ·exact Nat.le_trans (m:=2000000000) (by simp;omega) (by decide)
     refine aF k xs.length rfl rfl (by omega) (by omega) ?_
     refine aG _ (hsrc k xs.length (by omega) (Nat.le_refl _)) ?_
     refine gIn ?_ ?_ fun b3 c3 _=>?_
     ·show(_+_)*56≤_;simp;omega
     ·exact Nat.le_trans (m:=3000000000) (by simp;omega) (by decide)
     have hr2:=((hrows.take k).append (Rows.one ht (Tm.d_n _))).append (hrows.drop k)
     refine rFz [1] fun μ2 hle2 hno2 hrow2=> .inl ⟨xs.take k++t::xs.drop k,?_,AscT.ins hasc (by omega) hhi hlow,fun y hy=>?_,by simp;omega,by simp;omega⟩
     ·have ev:(([]:List Value)++(vs.drop 0).take (k-0)++[Value.agg #[.int .i64 t.tm.kind,.int .i64 t.tm.num,.string t.tm.name,.slice q.1 t.tm.args.length q.2]]++(vs.drop k).take (xs.length-k))=vs.take k++[.agg #[.int .i64 t.tm.kind,.int .i64 t.tm.num,.string t.tm.name,.slice q.1 t.tm.args.length q.2]]++vs.drop k:=by
       simp
       rw[List.take_of_length_le (by simp;omega)]
      have e2:(((xs.take k++t::xs.drop k).map T.tm).map Tm.d)=((xs.map T.tm).map Tm.d).take k++[t.tm.d]++((xs.map T.tm).map Tm.d).drop k:=by simp
      have hrow2:=ev ▸ hrow2
      have:=Rows.sl hrow2 (hr2.mono hle2) (Nat.le_trans (m:=3000000000) (by simp;omega) (by decide))
      rw[←e2]at this
      rw[←ev]at this
      exact this
     ·rcases List.mem_append.1 hy with hy | hy
      ·exact .inr (List.mem_of_mem_take hy)
      ·rcases List.mem_cons.1 hy with rfl | hy
       ·exact .inl rfl
       ·exact .inr (List.mem_of_mem_drop hy)
   ·have hhi : ∀ x, xs[k]? = some x → t.cmp x < 0 := fun x hx => by have := (List.getElem?_eq_some_iff.1 hx).1; omega
    intro r5
    refine aF 0 k rfl rfl (by omega) (by omega) ?_
    refine aG _ (hsrc 0 k (by omega) (by omega)) ?_
    refine gIn ?_ ?_ fun b1 c1 _=>?_
    ·show(0+_)*56≤_;simp;omega
    ·exact Nat.le_trans (m:=2000000000) (by simp;omega) (by decide)
    intro r6
    refine gIn ?_ ?_ fun b2 c2 _=>?_
    ·show(_+1)*56≤_;simp;omega
    ·exact Nat.le_trans (m:=2000000000) (by simp;omega) (by decide)
    refine aF k xs.length rfl rfl (by omega) (by omega) ?_
    refine aG _ (hsrc k xs.length (by omega) (Nat.le_refl _)) ?_
    refine gIn ?_ ?_ fun b3 c3 _=>?_
    ·show(_+_)*56≤_;simp;omega
    ·exact Nat.le_trans (m:=3000000000) (by simp;omega) (by decide)
    have hr2:=((hrows.take k).append (Rows.one ht (Tm.d_n _))).append (hrows.drop k)
    refine rFz [1] fun μ2 hle2 hno2 hrow2=> .inl ⟨xs.take k++t::xs.drop k,?_,AscT.ins hasc (by omega) hhi hlow,fun y hy=>?_,by simp;omega,by simp;omega⟩
    ·have ev:(([]:List Value)++(vs.drop 0).take (k-0)++[Value.agg #[.int .i64 t.tm.kind,.int .i64 t.tm.num,.string t.tm.name,.slice q.1 t.tm.args.length q.2]]++(vs.drop k).take (xs.length-k))=vs.take k++[.agg #[.int .i64 t.tm.kind,.int .i64 t.tm.num,.string t.tm.name,.slice q.1 t.tm.args.length q.2]]++vs.drop k:=by
      simp
      rw[List.take_of_length_le (by simp;omega)]
     have e2:(((xs.take k++t::xs.drop k).map T.tm).map Tm.d)=((xs.map T.tm).map Tm.d).take k++[t.tm.d]++((xs.map T.tm).map Tm.d).drop k:=by simp
     have hrow2:=ev ▸ hrow2
     have:=Rows.sl hrow2 (hr2.mono hle2) (Nat.le_trans (m:=3000000000) (by simp;omega) (by decide))
     rw[←e2]at this
     rw[←ev]at this
     exact this
    ·rcases List.mem_append.1 hy with hy | hy
     ·exact .inr (List.mem_of_mem_take hy)
     ·rcases List.mem_cons.1 hy with rfl | hy
      ·exact .inl rfl
      ·exact .inr (List.mem_of_mem_drop hy)
 ·have hlow : ∀ j x, j + 1 = k → xs[j]? = some x → x.cmp t < 0 := fun j' x' e => by omega
  refine ifd (fun hlt=>?_) (fun hlt=>?_)
  ·obtain ⟨y, hy⟩ : ∃ y, xs[k]? = some y := ⟨_, List.getElem?_eq_getElem (by omega)⟩
   have w_:=T.elemL hs hy
   obtain⟨ady,py,hely,hry⟩:=w_
   refine eIn hely ?_
   refine cGv (jX y t hry ht) ?_
   refine iIn (fun hsm=>?_) (fun hsm=>?_)
   ·exact rPl ⟨xs,h,hasc,fun y hy=> .inr hy,by omega,by omega⟩
   ·have hsm := of_decide_eq_false hsm
    have hhi:∀x,xs[k]? =some x→t.cmp x<0:=fun x hx=>by
     rw[hy]at hx;cases hx
     have h1:=hge y hy
     have h2:y.cmp t≠0:=fun e=>hsm ((T.cmp_zero y t).1 e)
     exact(T.cmp_anti t y).2 (by omega)
    intro r5
    refine aF 0 k rfl rfl (by omega) (by omega) ?_
    refine aG _ (hsrc 0 k (by omega) (by omega)) ?_
    refine gIn ?_ ?_ fun b1 c1 _=>?_
    ·show(0+_)*56≤_;simp;omega
    ·exact Nat.le_trans (m:=2000000000) (by simp;omega) (by decide)
    intro r6
    refine gIn ?_ ?_ fun b2 c2 _=>?_
    ·show(_+1)*56≤_;simp;omega
    ·exact Nat.le_trans (m:=2000000000) (by simp;omega) (by decide)
    refine aF k xs.length rfl rfl (by omega) (by omega) ?_
    refine aG _ (hsrc k xs.length (by omega) (Nat.le_refl _)) ?_
    refine gIn ?_ ?_ fun b3 c3 _=>?_
    ·show(_+_)*56≤_;simp;omega
    ·exact Nat.le_trans (m:=3000000000) (by simp;omega) (by decide)
    have hr2:=((hrows.take k).append (Rows.one ht (Tm.d_n _))).append (hrows.drop k)
    refine rFz [1] fun μ2 hle2 hno2 hrow2=> .inl ⟨xs.take k++t::xs.drop k,?_,AscT.ins hasc (by omega) hhi hlow,fun y hy=>?_,by simp;omega,by simp;omega⟩
    ·have ev:(([]:List Value)++(vs.drop 0).take (k-0)++[Value.agg #[.int .i64 t.tm.kind,.int .i64 t.tm.num,.string t.tm.name,.slice q.1 t.tm.args.length q.2]]++(vs.drop k).take (xs.length-k))=vs.take k++[.agg #[.int .i64 t.tm.kind,.int .i64 t.tm.num,.string t.tm.name,.slice q.1 t.tm.args.length q.2]]++vs.drop k:=by
      simp
      rw[List.take_of_length_le (by simp;omega)]
     have e2:(((xs.take k++t::xs.drop k).map T.tm).map Tm.d)=((xs.map T.tm).map Tm.d).take k++[t.tm.d]++((xs.map T.tm).map Tm.d).drop k:=by simp
     have hrow2:=ev ▸ hrow2
     have:=Rows.sl hrow2 (hr2.mono hle2) (Nat.le_trans (m:=3000000000) (by simp;omega) (by decide))
     rw[←e2]at this
     rw[←ev]at this
     exact this
    ·rcases List.mem_append.1 hy with hy | hy
     ·exact .inr (List.mem_of_mem_take hy)
     ·rcases List.mem_cons.1 hy with rfl | hy
      ·exact .inl rfl
      ·exact .inr (List.mem_of_mem_drop hy)
  ·have hhi : ∀ x, xs[k]? = some x → t.cmp x < 0 := fun x hx => by have := (List.getElem?_eq_some_iff.1 hx).1; omega
   intro r5
   refine aF 0 k rfl rfl (by omega) (by omega) ?_
   refine aG _ (hsrc 0 k (by omega) (by omega)) ?_
   refine gIn ?_ ?_ fun b1 c1 _=>?_
   ·show(0+_)*56≤_;simp;omega
   ·exact Nat.le_trans (m:=2000000000) (by simp;omega) (by decide)
   intro r6
   refine gIn ?_ ?_ fun b2 c2 _=>?_
   ·show(_+1)*56≤_;simp;omega
   ·exact Nat.le_trans (m:=2000000000) (by simp;omega) (by decide)
   refine aF k xs.length rfl rfl (by omega) (by omega) ?_
   refine aG _ (hsrc k xs.length (by omega) (Nat.le_refl _)) ?_
   refine gIn ?_ ?_ fun b3 c3 _=>?_
   ·show(_+_)*56≤_;simp;omega
   ·exact Nat.le_trans (m:=3000000000) (by simp;omega) (by decide)
   have hr2:=((hrows.take k).append (Rows.one ht (Tm.d_n _))).append (hrows.drop k)
   refine rFz [1] fun μ2 hle2 hno2 hrow2=> .inl ⟨xs.take k++t::xs.drop k,?_,AscT.ins hasc (by omega) hhi hlow,fun y hy=>?_,by simp;omega,by simp;omega⟩
   ·have ev:(([]:List Value)++(vs.drop 0).take (k-0)++[Value.agg #[.int .i64 t.tm.kind,.int .i64 t.tm.num,.string t.tm.name,.slice q.1 t.tm.args.length q.2]]++(vs.drop k).take (xs.length-k))=vs.take k++[.agg #[.int .i64 t.tm.kind,.int .i64 t.tm.num,.string t.tm.name,.slice q.1 t.tm.args.length q.2]]++vs.drop k:=by
     simp
     rw[List.take_of_length_le (by simp;omega)]
    have e2:(((xs.take k++t::xs.drop k).map T.tm).map Tm.d)=((xs.map T.tm).map Tm.d).take k++[t.tm.d]++((xs.map T.tm).map Tm.d).drop k:=by simp
    have hrow2:=ev ▸ hrow2
    have:=Rows.sl hrow2 (hr2.mono hle2) (Nat.le_trans (m:=3000000000) (by simp;omega) (by decide))
    rw[←e2]at this
    rw[←ev]at this
    exact this
   ·rcases List.mem_append.1 hy with hy | hy
    ·exact .inr (List.mem_of_mem_take hy)
    ·rcases List.mem_cons.1 hy with rfl | hy
     ·exact .inl rfl
     ·exact .inr (List.mem_of_mem_drop hy)
end
end Go.Vx
namespace Go.Vx
open Go.Proofs Classical
section
variable {μ:Mem}
structure Uni (most:Nat) (xs:List T):Prop where
 asc:AscT xs
 pos:1≤xs.length
 max:xs.length≤most
 drawn:∀t∈xs,Drawn 2 0 t
theorem Uni.ok{most:Nat}{xs:List T}(h:Uni most xs)(hm:most≤8):UnivOk (xs.map T.tm) where
 pos:=by rw[List.length_map];exact h.pos
 max:=by rw[List.length_map];exact Nat.le_trans h.max hm
 gnd:=fun t ht=>by
  have w_:=List.mem_map.1 ht
  obtain⟨x,hx,rfl⟩:=w_
  have hd:=h.drawn x hx
  refine⟨(hd.ok (by decide)).tm,?_⟩
  rw[T.toT_tm]
  rcases hvs:x.vars with _|⟨a,l⟩
  ·rfl
  ·have := hd.low a (xI (by rw [hvs]; simp))
   omega
 asc:=fun i x y hx hy=>by
  rw[List.getElem?_map]at hx hy
  have w_:=Option.map_eq_some_iff.1 hx
  obtain⟨a,ha,rfl⟩:=w_
  have w_:=Option.map_eq_some_iff.1 hy
  obtain⟨b,hb,rfl⟩:=w_
  rw[T.toT_tm,T.toT_tm]
  exact h.asc i a b ha hb
set_option maxHeartbeats 1000000 in
theorem vY{h:Mem}{r:Nat}(hc:Cur μ h r h)(most:Nat)(hm:1≤most)(hm8:most≤8):
  SpecH Tryz.prog 56 [.pointer (some ⟨r,0,none⟩),.int .i64 most] μ h fun v μ' _=>∃xs,Uni most xs∧RepV μ' (.sl 4 ((xs.map T.tm).map Tm.d)) v:=by
 refine SpecH.mk [] Tryz.func56 (by kernel_rfl) ?_
 intro r7
 refine aW [0] fun μ0 hle0 hno0 hat0=>wF (aS (hc.mono hle0) most) fun v μ1 h1 hle1 hap1 hR=>?_
 obtain⟨e,hc1,k0,rfl,-,hk0,-⟩:=hR
 obtain rfl:=e.symm
 have hk0:=hk0 (by omega)
 have hr0:RepV μ0 (.sl 4 ((([]:List T).map T.tm).map Tm.d)) (.slice (some ⟨r7,0,none⟩) 0 0):=Rows.sl hat0 Rows.nil (Nat.zero_le _)
 refine aB (by omega) (by omega) ?_
 refine lIn (fun z:Nat×Nat×List T×(Option Addr×Nat)×Mem×Mem=>z.1+z.2.1=1+k0∧(z.1=0→z.2.2.1=[]∧z.2.2.2.1=(some ⟨r7,0,none⟩,0))∧(0<z.1→1≤z.2.2.1.length)∧z.2.2.1.length≤z.1∧RepV z.2.2.2.2.1 (.sl 4 ((z.2.2.1.map T.tm).map Tm.d)) (.slice z.2.2.2.1.1 z.2.2.1.length z.2.2.2.1.2)∧AscT z.2.2.1∧(∀t∈z.2.2.1,Drawn 2 0 t)∧Cur z.2.2.2.2.1 h r z.2.2.2.2.2)
  (fun(i,k,xs,(b,c),μ',h')=>⟨[(0,.val (.pointer (some ⟨r,0,none⟩))),(5,match i with|0=> .row 0 (some r7) 0 0|_+1=> .val (.slice b xs.length c)),(6,.val (.int .i64 k))],[],1,μ',h'⟩) (fun z=>z.2.1)
  (0,1+k0,[],(some ⟨r7,0,none⟩,0),μ0,h1) ⟨by dsimp only;omega,fun _=>⟨rfl,rfl⟩,fun h=>absurd h (by dsimp only;omega),Nat.zero_le _,hr0,(fun _ _ _ h=>nomatch h),(fun _ h=>nomatch h),hc1⟩ (fun(i,_,_,(_,_),_,_)=>match i with|0=>⟨rfl,rfl⟩|_+1=>⟨rfl,rfl⟩) ⟨⟨rfl,rfl,by show some (SV.val (.int .i64 _))=some (SV.val (.int .i64 _));congr 3,trivial⟩,trivial,rfl,rfl⟩ ?_
 clear hc1 hap1
 rintro⟨i,k,xs,⟨b,c⟩,μ1,h1⟩ ⟨hik,hz,hpos,hxl,hr,hasc,hdr,hc1⟩
 dsimp only at hik hz hpos hxl hr hasc hdr hc1
 match i with
 |0=>
  have w_:=hz rfl
  obtain⟨rfl,e⟩:=w_
  obtain⟨rfl,rfl⟩:=Prod.mk.inj e
  refine ifd (fun hlt=>?_) (fun hlt=>absurd hlt (by omega))
  refine cOw (aS hc1.at 2) fun v μ2 h2 hle2 hap2 hR=>?_
  obtain⟨e,hc2,k2,rfl,-,hk22,-⟩:=hR
  obtain rfl:=e.symm
  have hk22:=hk22 (by decide)
  have drawn:∃size:Nat,size≤1000∧1+2*(k2:Int)=(size:Int)∧lvB size≤2:=by
   have w_:k2=0∨k2=1:=by omega
   rcases w_ with rfl|rfl
   ·exact⟨1,by decide,rfl,by rw[lvB,if_neg (by decide)];decide⟩
   ·exact⟨3,by decide,rfl,by rw[qNf];decide⟩
  obtain⟨size,hs1,hs2,hs3⟩:=drawn
  refine aB (by omega) (by omega) (aB (by omega) (by omega) ?_)
  rw[hs2]
  refine cOw (iF 0 (by decide) size hs1 (hc1.trans hc2).at) fun v μ3 h3 hle3 hap3 hR=>?_
  obtain⟨hc3,t,hrt,hdt⟩:=hR
  refine cPl (rG (hr.mono hle3) hrt hasc (by omega)) fun v4 μ4 hle4 hR4=>?_
  obtain⟨ys,hry,hya,hym,hy1,hyl⟩:=hR4
  have w_:=Rep.sl hry
  obtain⟨by_,cy,rfl,-⟩:=w_
  rw[List.length_map,List.length_map]at hry ⊢
  refine aB (by omega) (by omega) ⟨(0+1,k-1,ys,(by_,cy),μ4,h3),⟨by dsimp only;omega,(fun e=>by simp at e),fun _=>hy1,by dsimp only;omega,hry,hya,fun y hy=>?_,((hc1.trans hc2).trans hc3).mono hle4⟩,by dsimp only;omega,⟨⟨rfl,rfl,?_,trivial⟩,trivial,rfl,rfl⟩⟩
  ·rcases hym y hy with rfl | hy
   ·exact hdt.mono hs3
   ·exact hdr y hy
  ·show some (SV.val (.int .i64 _)) = some (SV.val (.int .i64 _))
   congr 3;omega
 |i+1=>
  refine ifd (fun hlt=>?_) (fun hlt=>?_)
  ·refine cOw (aS hc1.at 2) fun v μ2 h2 hle2 hap2 hR => ?_
   obtain⟨e,hc2,k2,rfl,-,hk22,-⟩:=hR
   obtain rfl:=e.symm
   have hk22:=hk22 (by decide)
   have drawn:∃size:Nat,size≤1000∧1+2*(k2:Int)=(size:Int)∧lvB size≤2:=by
    have w_:k2=0∨k2=1:=by omega
    rcases w_ with rfl|rfl
    ·exact⟨1,by decide,rfl,by rw[lvB,if_neg (by decide)];decide⟩
    ·exact⟨3,by decide,rfl,by rw[qNf];decide⟩
   obtain⟨size,hs1,hs2,hs3⟩:=drawn
   refine aB (by omega) (by omega) (aB (by omega) (by omega) ?_)
   rw[hs2]
   refine cOw (iF 0 (by decide) size hs1 (hc1.trans hc2).at) fun v μ3 h3 hle3 hap3 hR=>?_
   obtain⟨hc3,t,hrt,hdt⟩:=hR
   refine cPl (rG (hr.mono hle3) hrt hasc (by omega)) fun v4 μ4 hle4 hR4=>?_
   obtain⟨ys,hry,hya,hym,hy1,hyl⟩:=hR4
   have w_:=Rep.sl hry
   obtain⟨by_,cy,rfl,-⟩:=w_
   rw[List.length_map,List.length_map]at hry ⊢
   refine aB (by omega) (by omega) ⟨((i+1)+1,k-1,ys,(by_,cy),μ4,h3),⟨by dsimp only;omega,(fun e=>by simp at e),fun _=>hy1,by dsimp only;omega,hry,hya,fun y hy=>?_,((hc1.trans hc2).trans hc3).mono hle4⟩,by dsimp only;omega,⟨⟨rfl,rfl,?_,trivial⟩,trivial,rfl,rfl⟩⟩
   ·rcases hym y hy with rfl | hy
    ·exact hdt.mono hs3
    ·exact hdr y hy
   ·show some (SV.val (.int .i64 _)) = some (SV.val (.int .i64 _))
    congr 3;omega
  ·exact rPl ⟨xs,⟨hasc,hpos (by omega),by omega,hdr⟩,hr⟩
theorem gD{base:Option Addr}{n cap:Nat}(hb:Bytes μ base n)(m:Int)(hm:m≤1000000)(most:Nat)(hm1:1≤most)(h8:most≤8):
  Spec Tryz.prog 12 [.slice base n cap,.int .i64 m,.int .i64 most] μ fun v μ'=>∃xs,Uni most xs∧RepV μ' (.sl 4 ((xs.map T.tm).map Tm.d)) v:=by
 refine Spec.mk Tryz.func12 (by kernel_rfl) ?_
 refine cOw (jG hb m hm) fun v μ1 h1 hle1 hap1 hR=>?_
 obtain⟨e,r,rfl,ho,hc1⟩:=hR
 obtain rfl:=e.symm
 refine cOw (vY hc1.at most hm1 h8) fun v μ2 h2 hle2 hap2 hR=>?_
 exact rPl hR
end
end Go.Vx
namespace Go.Vx
open Go.Proofs Classical
theorem F.eq_of{a b:F}(h1:a.rel=b.rel)(h2:a.args=b.args):a=b:=by
 cases a;cases b;cases h1;cases h2;rfl
section
variable {μ:Mem}
theorem F.invV{f:F}{v:Value}(h:RepV μ f.fc.d v):∃p:Fc.P,v= .agg #[.string f.rel,.slice p.1 f.args.length p.2]∧Sl μ 4 p.1 f.args.length ((f.args.map T.tm).map Tm.d):=by
 have w_:=Fc.inv h
 obtain⟨p,rfl,hA⟩:=w_
 have e:f.fc.args.length=f.args.length:=List.length_map _
 rw[e]
 refine⟨p,rfl,?_⟩
 have hA:Sl μ 4 p.1 f.fc.args.length (f.fc.args.map Tm.d):=hA
 rw[e]at hA
 exact hA
theorem F.elemV{l:List F}{base:Option Addr}{n:Nat}(h:Sl μ 2 base n ((l.map F.fc).map Fc.d)){i:Nat}{x:F}(hx:l[i]? =some x):∃ad,∃p:Fc.P,ElemAt μ base n 2 i ad [.string x.rel,.slice p.1 x.args.length p.2]∧RepV μ x.fc.d (.agg #[.string x.rel,.slice p.1 x.args.length p.2]):=by
 have w_:=Fc.elem h (i:=i) (x:=x.fc) (by rw[List.getElem?_map,hx];rfl)
 obtain⟨ad,p,h1,h2⟩:=w_
 have e:x.fc.cs p=[.string x.rel,.slice p.1 x.args.length p.2]:=by
  have e:x.fc.args.length=x.args.length:=List.length_map _
  show [Value.string x.rel,.slice p.1 x.fc.args.length p.2]=_
  rw[e]
 rw[e]at h1 h2
 exact⟨ad,p,h1,h2⟩
theorem qOi{f g:F}{v w:Value}(hv:RepV μ f.fc.d v)(hw:RepV μ g.fc.d w):aP Tryz.prog 41 [v,w] μ (.bool (decide (f=g))):=by
 have w_:=F.invV hv
 obtain⟨p,rfl,hp⟩:=w_
 have w_:=F.invV hw
 obtain⟨q,rfl,hq⟩:=w_
 refine Spec.mk Tryz.func41 (by kernel_rfl) ?_
 intro r2 r3
 refine ifd (fun h=>?_) (fun h=>?_)
 ·refine cGv (qOy hp hq) (rGv ?_ rfl)
  congr 1
  rw[Bool.eq_iff_iff,decide_eq_true_eq,decide_eq_true_eq]
  exact⟨fun e=>F.eq_of h e,fun e=>by rw[e]⟩
 ·refine rGv ?_ rfl
  rw[decide_eq_false fun e=>h (by rw[e])]
theorem iE{l:List F}{f:F}{base:Option Addr}{cap:Nat}{w:Value}(hl:Sl μ 2 base l.length ((l.map F.fc).map Fc.d))(hw:RepV μ f.fc.d w):aP Tryz.prog 20 [.slice base l.length cap,w] μ (.bool (decide (f∈l))):=by
 have hmx:=aH hl.max
 have w_:=F.invV hw
 obtain⟨q,rfl,hq⟩:=w_
 refine Spec.mk Tryz.func20 (by kernel_rfl) ?_
 intro r3
 refine lIn (fun i:Nat=>i≤l.length∧∀(j:Nat) x,j<i→l[j]? =some x→x≠f) (fun i=>⟨[(3,.loc 0 r3 0),(7,.val (.slice base l.length cap)),(8,.val (.int .i64 l.length)),(9,.val (.int .i64 i))],[(0,some (.cells r3 [.val (.string f.rel),.val (.slice q.1 f.args.length q.2)] 41))],1,μ,Mem.nil⟩) (fun i=>l.length-i)
  0 ⟨Nat.zero_le _,fun j x hj=>by omega⟩ (fun _=>⟨rfl,rfl⟩) ⟨⟨rfl,rfl,rfl,rfl,trivial⟩,⟨rfl,trivial⟩,rfl,rfl⟩ ?_
 rintro i ⟨hi,hall⟩
 refine ifd (fun hlt=>?_) (fun hlt=>?_)
 ·have w_ := aSo (l := l) (i := i) (by omega)
  obtain⟨x,hx⟩:=w_
  have w_:=F.elemV hl hx
  obtain⟨ad,p,hel,hrx⟩:=w_
  refine eIn hel ?_
  intro r6
  refine cGv (qOi hrx hw) ?_
  refine iIn (fun h=>?_) (fun h=>?_)
  ·have h : x = f := of_decide_eq_true h
   refine rGv ?_ rfl
   rw[decide_eq_true (by rw[←h];exact List.mem_of_getElem? hx)]
  ·have h : x ≠ f := of_decide_eq_false h
   refine aB (by omega) (by omega) ⟨i+1,⟨by omega,fun j y hj hy=>?_⟩,by omega,⟨⟨rfl,rfl,rfl,rfl,trivial⟩,⟨rfl,trivial⟩,rfl,rfl⟩⟩
   by_cases e:j=i
   ·subst e;rw[hx]at hy;cases hy;exact h
   ·exact hall j y (by omega) hy
 ·refine rGv ?_ rfl
  rw[decide_eq_false]
  intro hm
  have w_:=List.getElem?_of_mem hm
  obtain⟨j,hj⟩:=w_
  exact hall j f (by have:=(List.getElem?_eq_some_iff.1 hj).1;omega) hj rfl
theorem cK{l m:List F}{base base2:Option Addr}{cap cap2:Nat}(hl:Sl μ 2 base l.length ((l.map F.fc).map Fc.d))(hm:Sl μ 2 base2 m.length ((m.map F.fc).map Fc.d)):aP Tryz.prog 17 [.slice base l.length cap,.slice base2 m.length cap2] μ (.bool (decide (∀f∈l,f∈m))):=by
 have hmx:=aH hl.max
 refine Spec.mk Tryz.func17 (by kernel_rfl) ?_
 refine lIn (fun i:Nat=>i≤l.length∧∀(j:Nat) x,j<i→l[j]? =some x→x∈m) (fun i=>⟨[(1,.val (.slice base2 m.length cap2)),(7,.val (.slice base l.length cap)),(8,.val (.int .i64 l.length)),(9,.val (.int .i64 i))],[],0,μ,Mem.nil⟩) (fun i=>l.length-i)
  0 ⟨Nat.zero_le _,fun j x hj=>by omega⟩ (fun _=>⟨rfl,rfl⟩) ⟨⟨rfl,rfl,rfl,rfl,trivial⟩,trivial,rfl,rfl⟩ ?_
 rintro i ⟨hi,hall⟩
 refine ifd (fun hlt=>?_) (fun hlt=>?_)
 ·have w_ := aSo (l := l) (i := i) (by omega)
  obtain⟨x,hx⟩:=w_
  have w_:=F.elemV hl hx
  obtain⟨ad,p,hel,hrx⟩:=w_
  refine eIn hel ?_
  intro r6
  refine cGv (iE hm hrx) ?_
  refine aK (fun h=>?_) (fun h=>?_)
  ·refine rGv ?_ rfl
   rw[decide_eq_false fun k=>h (k x (List.mem_of_getElem? hx))]
  ·refine aB (by omega) (by omega) ⟨i + 1, ⟨by omega, fun j y hj hy => ?_⟩, by omega, ⟨⟨rfl, rfl, rfl, rfl, trivial⟩, trivial, rfl, rfl⟩⟩
   by_cases e:j=i
   ·subst e;rw[hx]at hy;cases hy;exact h
   ·exact hall j y (by omega) hy
 ·refine rGv ?_ rfl
  rw[decide_eq_true]
  intro f hf
  have w_:=List.getElem?_of_mem hf
  obtain⟨j,hj⟩:=w_
  exact hall j f (by have:=(List.getElem?_eq_some_iff.1 hj).1;omega) hj
end
end Go.Vx
