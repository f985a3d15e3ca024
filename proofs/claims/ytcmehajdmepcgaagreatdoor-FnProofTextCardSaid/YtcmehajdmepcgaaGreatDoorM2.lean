/- Texts of the proof, part M2. -/
import Derived.Carry
import Derived.ChangeArms
import Derived.ChangeOld
import Derived.Deep.RegionHeld3
import Derived.Handed
import Derived.JoinedOf
import Derived.KernelRfl
import Derived.OpenShut
import Derived.ProofKit
import Derived.RowKit3
import Derived.Test.YtcmehajdmepcgaaGreatDoorChecked
import Derived.WalkKit
import Derived.Test.YtcmehajdmepcgaaGreatDoorM1
namespace Go.Vx
section
variable {C:Cx} {E:Ent} {s:St} {a:Act} {w:World}
theorem oR{P:Program}{c:Code}{Q:Exit→Act→World→Prop}{ι:Type}(I:ι→Act→World→Prop)(m:ι→Nat)
  (round:∀i a w,I i a w→c.wp P (Exit.then (fun a' w'=>∃i',m i'<m i∧I i' a' w') Q) a w):∀i a w,I i a w→(Code.loop c).wp P Q a w:=by
 intro i0 a0 w0 h0 b k cs
 have key:∀n i a w,m i=n→I i a w→
   ∃e a' w',Q e a' w'∧Arrives P (lone (b.at a (.code c:: .inLoop c::k)) cs w) b k cs e a' w':=by
  intro n
  induction n using Nat.strongRecOn with
  |_ n ih=>
   intro i a w hn hI
   obtain⟨e,a₁,w₁,hq,harr⟩:=round i a w hI b (.inLoop c::k) cs
   cases e with
   |normal=>
    obtain⟨i',hlt,hI₁⟩:=hq
    obtain⟨e₂,a₂,w₂,hq₂,harr₂⟩:=ih (m i') (hn ▸ hlt) i' a₁ w₁ rfl hI₁
    exact⟨e₂,a₂,w₂,hq₂,.of_steps (Steps.trans harr (.one step_inLoop)) harr₂⟩
   |exit id=>exact⟨_,a₁,w₁,hq,.pass (x:= .inLoop c) rfl (fun _ _=> .inl (by simp)) harr⟩
   |goto l=>exact⟨_,a₁,w₁,hq,.pass (x:= .inLoop c) rfl (fun _ _=> .inl (by simp)) harr⟩
   |ret=>exact⟨_,a₁,w₁,hq,.pass (x:= .inLoop c) rfl (fun _ _=> .inl (by simp)) harr⟩
   |panic ch=>exact⟨_,a₁,w₁,hq,.pass (x:= .inLoop c) rfl (fun _ _=> .inl (by simp)) harr⟩
   |outgrown=>exact⟨_,a₁,w₁,hq,.pass (x:= .inLoop c) rfl (fun _ _=> .inl (by simp)) harr⟩
 obtain⟨e,a',w',hq,harr⟩:=key _ i0 a0 w0 rfl h0
 exact⟨e,a',w',hq,.of_steps (.one step_loop) harr⟩
theorem SV.gen_cases{x y:SV}(h:x.gen=y.gen):x=y∨((∃b,x= .val (.bool b)∨x= .kn b)∧(∃b,y= .val (.bool b)∨y= .kn b)∧x.conc=y.conc):=by
 cases x<;>cases y<;>simp only[SV.gen]at h<;>first
  |exact .inl h
  |(cases h;exact .inr ⟨⟨_,.inl rfl⟩,⟨_,.inr rfl⟩,rfl⟩)
  |(cases h;exact .inr ⟨⟨_,.inr rfl⟩,⟨_,.inl rfl⟩,rfl⟩)
  |(cases h;exact .inl rfl)
  |cases h
theorem SV.gen_conc{x y:SV}(h:x.gen=y.gen):x.conc=y.conc:=by
 rcases SV.gen_cases h with rfl|⟨_,_,h⟩
 ·rfl
 ·exact h
theorem zY:∀{l r:List SV},l.map SV.gen=r.map SV.gen→l.map SV.conc=r.map SV.conc
 |[],[],_=>rfl
 |a::l,b::r,h=>by
  simp only[List.map_cons,List.cons.injEq]at h ⊢
  exact⟨SV.gen_conc h.1,zY h.2⟩
 |[],_::_,h=>by simp at h
 |_::_,[],h=>by simp at h
theorem qDt:∀{l r:List SV},l.map SV.gen=r.map SV.gen→∀sv∈r,∃sv'∈l,sv'.gen=sv.gen
 |[],[],_,sv,h=>by cases h
 |a::l,b::r,h,sv,hm=>by
  simp only[List.map_cons,List.cons.injEq]at h
  rcases List.mem_cons.1 hm with rfl|hm
  ·exact⟨a,by simp,h.1⟩
  ·obtain ⟨x, hx, hx'⟩ := qDt h.2 sv hm
   exact⟨x,by simp[hx],hx'⟩
 |[],_::_,h,_,_=>by simp at h
 |_::_,[],_,sv,hm=>by cases hm
theorem LB.gen_cases{x y:LB}(h:x.gen=y.gen):x=y∨∃r cs cs' ty,x= .cells r cs ty∧y= .cells r cs' ty∧cs.map SV.gen=cs'.map SV.gen:=by
 cases x<;>cases y<;>simp only[LB.gen]at h<;>first
  |exact .inl h
  |(cases h;done)
  |(simp only[LB.cells.injEq]at h;obtain⟨rfl,h2,rfl⟩:=h;exact .inr ⟨_,_,_,_,rfl,rfl,h2⟩)
theorem SubE.get:∀{l' l:List (Nat×SV)},SubE l' l→∀{i sv},bD l i=some sv→∃sv',bD l' i=some sv'∧sv'.gen=sv.gen
 |_,[],_,_,_,h=>by cases h
 |l',(j,x)::r,⟨h1,h2⟩,i,sv,h=>by
  rw[aM]at h
  split at h
  ·rename_i e;subst e;cases h;exact Option.map_eq_some_iff.1 h1
  ·exact h2.get h
theorem SubB.get{s':St}:∀{l:List (Nat×Option LB)},SubB s' l→∀{t lb},bD l t=some (some lb)→∃lb',s'.lb t=some lb'∧lb'.gen=lb.gen
 |[],_,_,_,h=>by cases h
 |(j,some x)::r,⟨h1,h2⟩,t,lb,h=>by
  rw[aM]at h
  split at h
  ·rename_i e;subst e;cases h;exact Option.map_eq_some_iff.1 h1
  ·exact h2.get h
 |(j,none)::r,h2,t,lb,h=>by
  rw[aM]at h
  split at h
  ·cases h
  ·exact SubB.get (l:=r) h2 h
theorem lS:∀{n:Nat} {l:List (Nat×SV)},dF n l=true→∀{i sv},bD l i=some sv→bY n sv=true
 |_,[],_,_,_,h=>by cases h
 |n,(j,x)::r,hs,i,sv,h=>by
  simp only[dF]at hs
  split at hs
  ·rename_i hx
   rw[aM]at h
   split at h
   ·cases h;exact hx
   ·exact lS hs h
  ·cases hs
theorem rL:∀{n:Nat} {l:List SV},tN n l=true→∀sv∈l,bY n sv=true
 |_,[],_,_,h=>by cases h
 |n,x::r,hs,sv,h=>by
  simp only[tN]at hs
  split at hs
  ·rename_i hx
   rcases List.mem_cons.1 h with rfl|h
   ·exact hx
   ·exact rL hs sv h
  ·cases hs
theorem cV:∀{n:Nat} {l:List (Nat×Option LB)},cF n l=true→∀{t lb},bD l t=some (some lb)→t<n∧∀r cs ty,lb= .cells r cs ty→∀sv∈cs,bY n sv=true
 |_,[],_,_,_,h=>by cases h
 |n,(j,x)::l,hs,t,lb,h=>by
  rw[aM]at h
  cases x with
  |none=>
   simp only[cF]at hs
   split at hs
   ·split at h
    ·cases h
    ·exact cV hs h
   ·cases hs
  |some y=>
   cases y with
   |cells r cs ty=>
    simp only[cF]at hs
    split at hs
    ·rename_i h1 h2
     split at h
     ·rename_i e
      cases h
      refine⟨by rw[e];simpa[Nat.blt_eq]using h1,fun r' cs' ty' e=>?_⟩
      cases e
      exact rL h2
     ·exact cV hs h
    ·cases hs
   |row b c t' es xs=>
    simp only[cF]at hs
    split at hs
    ·rename_i h1
     split at h
     ·rename_i e
      cases h
      exact⟨by rw[e];simpa[Nat.blt_eq]using h1,fun _ _ _ e=>by cases e⟩
     ·exact cV hs h
    ·cases hs
   |map r en ck=>
    simp only[cF]at hs
    split at hs
    ·rename_i h1
     split at h
     ·rename_i e
      cases h
      exact⟨by rw[e];simpa[Nat.blt_eq]using h1,fun _ _ _ e=>by cases e⟩
     ·exact cV hs h
    ·cases hs
theorem Rel.sub{s':St}(hR:Rel E a w s')(hs:s'.Sub s)(h1:dF s.nxt s.env=true)(h2:cF s.nxt s.blk=true):Rel E a w s:=by
 have hl:∀{t lb},s.lb t=some lb→∃lb',s'.lb t=some lb'∧lb'.gen=lb.gen:=fun h=>hs.blk.get (kS h)
 have hok:∀sv' sv,sv'.gen=sv.gen→bY s.nxt sv=true→aW s' sv'→aW s sv:=fun sv' sv hg ht h=>by
  rcases SV.gen_cases hg with rfl|⟨_,⟨b,rfl|rfl⟩,_⟩
  ·cases sv' with
   |loc t r off=>
    refine⟨by simpa[bY,Nat.blt_eq]using ht,fun lb hlb=>?_⟩
    obtain⟨lb',g1,g2⟩:=hl hlb
    obtain⟨cs,ty,rfl⟩:=h.2 lb' g1
    rcases LB.gen_cases g2 with rfl|⟨_,_,_,_,e1,rfl,_⟩
    ·exact⟨_,_,rfl⟩
    ·cases e1;exact⟨_,_,rfl⟩
   |row t b n c=>
    refine⟨by simpa[bY,Nat.blt_eq]using ht,fun lb hlb=>?_⟩
    obtain⟨lb',g1,g2⟩:=hl hlb
    obtain⟨ty,es,xs,rfl,e⟩:=h.2 lb' g1
    rcases LB.gen_cases g2 with rfl|⟨_,_,_,_,e1,_,_⟩
    ·exact⟨_,_,_,rfl,e⟩
    ·cases e1
   |rel t b e i o=>
    refine⟨by simpa[bY,Nat.blt_eq]using ht,fun lb hlb=>?_⟩
    obtain⟨lb',g1,g2⟩:=hl hlb
    obtain⟨cap,ty,xs,rfl,e⟩:=h.2 lb' g1
    rcases LB.gen_cases g2 with rfl|⟨_,_,_,_,e1,_,_⟩
    ·exact⟨_,_,_,rfl,e⟩
    ·cases e1
   |elem ad cs off=>intro j v hj;rw[←hs.mem];exact h j v hj
   |val v=>trivial
   |kn b=>trivial
  ·trivial
  ·trivial
 have hblk:∀{t lb},s.lb t=some lb→∃lb',s'.lb t=some lb'∧lb'.blk? =lb.blk?∧(lb'.fits (fun b=>w.heap[b]?)→lb.fits (fun b=>w.heap[b]?)):=fun {t lb} h=>by
  obtain⟨lb',g1,g2⟩:=hl h
  rcases LB.gen_cases g2 with rfl|⟨r,cs,cs',ty,rfl,rfl,g⟩
  ·exact⟨_,g1,rfl,id⟩
  ·refine ⟨_, g1, rfl, fun hf => ?_⟩
   simp only[LB.fits,zY g]at hf ⊢
   exact hf
 refine⟨hR.defers,hR.size,fun i sv h=>?_,fun t r cs ty h sv hsv=>?_,⟨by rw[←hs.mem];exact hR.sees.1,fun t lb h=>?_⟩,fun t lb h=>(cV h2 (kS h)).1,fun t lb r h hr=>?_,fun t t' lb lb' r h h' hr hr'=>?_,by rw[←hs.own,←hs.mem];exact hR.own,by rw[←hs.mem];exact hR.mono,by rw[←hs.mem];exact hR.fresh,hR.grow,hR.keep,hR.os,hR.tape,hR.output⟩
 ·obtain ⟨sv', g1, g2⟩ := hs.env.get h
  obtain⟨h3,h4⟩:=hR.env i sv' g1
  exact⟨by rw[←SV.gen_conc g2];exact h3,hok sv' sv g2 (lS h1 h) h4⟩
 ·have hb := (cV h2 (kS h)).2 r cs ty rfl sv hsv
  obtain⟨lb',g1,g2⟩:=hl h
  rcases LB.gen_cases g2 with rfl|⟨_,cs',_,_,rfl,e,g⟩
  ·exact hok sv sv rfl hb (hR.cells t r cs ty g1 sv hsv)
  ·cases e
   obtain⟨sv',hm,hn⟩:=qDt g sv hsv
   exact hok sv' sv hn hb (hR.cells t _ cs' _ g1 sv' hm)
 ·obtain ⟨lb', g1, _, g3⟩ := hblk h
  exact g3 (hR.sees.2 t lb' g1)
 ·rw [← hs.mem, ← hs.own]
  obtain⟨lb',g1,g2,_⟩:=hblk h
  exact hR.place t lb' r g1 (by rw[g2];exact hr)
 ·obtain ⟨l1, g1, g2, _⟩ := hblk h
  obtain⟨l3,g3,g4,_⟩:=hblk h'
  exact hR.sep t t' l1 l3 r g1 g3 (by rw[g2];exact hr) (by rw[g4];exact hr')
theorem SubEN.get{n:Nat}:∀{l' l:List (Nat×SV)},SubEN n l' l→∀{i sv},bD l i=some sv→∃sv',bD l' i=some sv'∧NilAs n sv' sv
 |_,[],_,_,_,h=>by cases h
 |l',(j,x)::r,⟨h1,h2⟩,i,sv,h=>by
  rw[aM]at h
  split at h
  ·rename_i e;subst e;cases h;exact h1
  ·exact h2.get h
theorem SubBN.get{s':St}:∀{l:List (Nat×Option LB)},SubBN s' l→∀{t lb},bD l t=some (some lb)→
  s'.lb t=some lb∨(∃ty es,lb= .row none 0 ty es []∧s'.nxt≤t)∨∃b cs cs' ty,lb= .cells b cs ty∧s'.lb t=some (.cells b cs' ty)∧NilC s'.nxt cs' cs
 |[],_,_,_,h=>by cases h
 |(j,some x)::r,⟨h1,h2⟩,t,lb,h=>by
  rw[aM]at h
  split at h
  ·rename_i e;subst e;cases h;exact h1
  ·exact h2.get h
 |(j,none)::r,h2,t,lb,h=>by
  rw[aM]at h
  split at h
  ·cases h
  ·exact SubBN.get (l:=r) h2 h
theorem NilAs.conc{n:Nat}{sv' sv:SV}(h:NilAs n sv' sv):sv'.conc=sv.conc:=by
 rcases h with h|⟨t,rfl,rfl,_⟩
 ·exact SV.gen_conc h
 ·rfl
theorem NilC.conc{n:Nat}:∀{l r:List SV},NilC n l r→l.map SV.conc=r.map SV.conc
 |[],[],_=>rfl
 |a::l,b::r,h=>by simp[h.1.conc,NilC.conc h.2]
theorem NilC.mem{n:Nat}:∀{l r:List SV},NilC n l r→∀sv∈r,∃sv'∈l,NilAs n sv' sv
 |[],[],_,sv,h=>by cases h
 |a::l,b::r,h,sv,hm=>by
  rcases List.mem_cons.1 hm with rfl|hm
  ·exact⟨a,by simp,h.1⟩
  ·obtain ⟨x, hx, hx'⟩ := NilC.mem h.2 sv hm
   exact⟨x,by simp[hx],hx'⟩
theorem Rel.subN{s':St}(hR:Rel E a w s')(hs:s'.SubN s)(h1:dF s.nxt s.env=true)(h2:cF s.nxt s.blk=true):Rel E a w s:=by
 have hl:∀{t lb},s.lb t=some lb→_:=fun {t lb} h=>hs.blk.get (kS h)
 have hok:∀sv' sv,NilAs s'.nxt sv' sv→bY s.nxt sv=true→aW s' sv'→aW s sv:=fun sv' sv hn ht h=>by
  rcases hn with hn|⟨t,rfl,rfl,hge⟩
  ·rcases SV.gen_cases hn with rfl | ⟨_, ⟨b, rfl | rfl⟩, _⟩
   rotate_left
   ·trivial
   ·trivial
   cases sv' with
   |loc t r off=>
    refine⟨by simpa[bY,Nat.blt_eq]using ht,fun lb hlb=>?_⟩
    rcases hl hlb with g|⟨ty,es,rfl,hge⟩|⟨b,cs,cs',ty,rfl,g,_⟩
    ·exact h.2 lb g
    ·have:=h.1;omega
    ·obtain ⟨_, _, e⟩ := h.2 _ g
     cases e
     exact⟨_,_,rfl⟩
   |row t b n c=>
    refine⟨by simpa[bY,Nat.blt_eq]using ht,fun lb hlb=>?_⟩
    rcases hl hlb with g|⟨ty,es,rfl,hge⟩|⟨b,cs,cs',ty,rfl,g,_⟩
    ·exact h.2 lb g
    ·have:=h.1;omega
    ·obtain ⟨_, _, _, e, _⟩ := h.2 _ g
     cases e
   |rel t b e i o=>
    refine⟨by simpa[bY,Nat.blt_eq]using ht,fun lb hlb=>?_⟩
    rcases hl hlb with g|⟨ty,es,rfl,hge⟩|⟨b,cs,cs',ty,rfl,g,_⟩
    ·exact h.2 lb g
    ·have:=h.1;omega
    ·obtain ⟨_, _, _, e, _⟩ := h.2 _ g
     cases e
   |elem ad cs off=>intro j v hj;rw[←hs.mem];exact h j v hj
   |val v=>trivial
   |kn b=>trivial
  ·refine ⟨by simpa [bY, Nat.blt_eq] using ht, fun lb hlb => ?_⟩
   rcases hl hlb with g|⟨ty,es,rfl,_⟩|⟨b,cs,cs',ty,rfl,g,_⟩
   ·have:=hR.nxt _ _ g;omega
   ·exact⟨_,_,_,rfl,rfl⟩
   ·have:=hR.nxt _ _ g;omega
 have hblk:∀{t lb},s.lb t=some lb→(∃lb',s'.lb t=some lb'∧lb'.blk? =lb.blk?∧(lb'.fits (fun b=>w.heap[b]?)→lb.fits (fun b=>w.heap[b]?)))∨(lb.blk? =none∧lb.fits (fun b=>w.heap[b]?)):=fun {t lb} h=>by
  rcases hl h with g|⟨ty,es,rfl,hge⟩|⟨b,cs,cs',ty,rfl,g,hc⟩
  ·exact .inl ⟨lb,g,rfl,id⟩
  ·exact .inr ⟨rfl,rfl,rfl⟩
  ·refine .inl ⟨_, g, rfl, fun hf => ?_⟩
   simp only[LB.fits,hc.conc]at hf ⊢
   exact hf
 refine⟨hR.defers,hR.size,fun i sv h=>?_,fun t r cs ty h sv hsv=>?_,⟨by rw[←hs.mem];exact hR.sees.1,fun t lb h=>?_⟩,fun t lb h=>(cV h2 (kS h)).1,fun t lb r h hr=>?_,fun t t' lb lb' r h h' hr hr'=>?_,by rw[←hs.own,←hs.mem];exact hR.own,by rw[←hs.mem];exact hR.mono,by rw[←hs.mem];exact hR.fresh,hR.grow,hR.keep,hR.os,hR.tape,hR.output⟩
 ·obtain ⟨sv', g1, g2⟩ := hs.env.get h
  obtain⟨h3,h4⟩:=hR.env i sv' g1
  exact⟨by rw[←g2.conc];exact h3,hok sv' sv g2 (lS h1 h) h4⟩
 ·have hb := (cV h2 (kS h)).2 r cs ty rfl sv hsv
  rcases hl h with g|⟨_,_,e,_⟩|⟨b,cs1,cs',ty',e,g,hc⟩
  ·exact hok sv sv (.inl rfl) hb (hR.cells t r cs ty g sv hsv)
  ·cases e
  ·cases e
   obtain⟨sv',hm,hn⟩:=hc.mem sv hsv
   exact hok sv' sv hn hb (hR.cells t _ cs' _ g sv' hm)
 ·rcases hblk h with ⟨lb', g1, _, g3⟩ | ⟨_, g⟩
  ·exact g3 (hR.sees.2 t lb' g1)
  ·exact g
 ·rw [← hs.mem, ← hs.own]
  rcases hblk h with⟨lb',g1,g2,_⟩|⟨g,_⟩
  ·exact hR.place t lb' r g1 (by rw[g2];exact hr)
  ·rw[g]at hr;cases hr
 ·rcases hblk h with ⟨l1, g1, g2, _⟩ | ⟨g, _⟩
  ·rcases hblk h' with ⟨l3, g3, g4, _⟩ | ⟨g, _⟩
   ·exact hR.sep t t' l1 l3 r g1 g3 (by rw[g2];exact hr) (by rw[g4];exact hr')
   ·rw[g]at hr';cases hr'
  ·rw[g]at hr;cases hr
def Ex.out:Ex→Exit
 | .normal=> .normal
 | .ret=> .ret
 | .exit id=> .exit id
theorem sG:∀(fz:List Nat) {s:St} {K:St→Prop},Rel E a w s→fF fz s K→∃s',K s'∧Rel E a w s'
 |[],s,K,hR,h=>⟨s,h,hR⟩
 |t::ts,s,K,hR,h=>by
  simp only[fF,qDm]at h
  exact sG ts (hR.fade t) h
theorem kP(fz:List Nat){s:St}{K:St→Prop}(hR:Rel E a w s)(h:cG fz s fun s=>fF fz s K):∃s',K s'∧Rel E a w s':=by
 obtain⟨s1,g1,g2,_⟩:=dO fz s _ hR h
 exact sG fz g2 g1
theorem qAy(htt:TTok C.P C.tt)(hn:C.n=E.n)(hos:C.dr=true→C.os=[])
  (draws:∀{ops:Array Oper} {id:Nat} {s:St} {a:Act} {w:World} {K:St→Prop} {Q:Exit→Act→World→Prop},Rel E a w s→qGf C ops.toList s K→(∀a' w' s',K s'→Rel E a' w' s'→Q .normal a' w')→(Code.region id ops true).wp C.P Q a w):
  ∀(c:Code) {s:St} {a:Act} {w:World} {K:Ex→St→Prop} {Q:Exit→Act→World→Prop},Rel E a w s→uG C c s K→(∀e s' a' w',K e s'→Rel E a' w' s'→Q e.out a' w')→c.wp C.P Q a w:=by
 intro c
 induction c with
 |skip=>intro s a w K Q hR h hK;exact wp_skip (hK .normal s a w h hR)
 |ret=>intro s a w K Q hR h hK;exact wp_ret (hK .ret s a w h hR)
 |exit id=>intro s a w K Q hR h hK;exact wp_exit (hK (.exit id) s a w h hR)
 |label l=>intro s a w K Q hR h hK;exact wp_label (hK .normal s a w h hR)
 |region id ops draw=>
  intro s a w K Q hR h hK
  cases draw
  ·exact wp_region_list (kW htt hn hos ops.toList hR h fun a' w' s' hk hR'=>hK .normal s' a' w' hk hR')
  ·exact draws hR h fun a' w' s' hk hR'=>hK .normal s' a' w' hk hR'
 |seq x y ihx ihy=>
  intro s a w K Q hR h hK
  refine wp_seq (ihx hR h fun e s' a' w' hk hR'=>?_)
  cases e with
  |normal=>exact ihy hR' hk hK
  |ret=>exact hK .ret s' a' w' hk hR'
  |exit id=>exact hK (.exit id) s' a' w' hk hR'
 |cond x t e iht ihe=>
  intro s a w K Q hR h hK
  have h:evK s x fun c=>qFv c s (fun s=>uG C t s K) (fun s=>uG C e s K):=h
  obtain⟨sv,h1,h2⟩:=aG h
  obtain⟨e1,-⟩:=aH hR.env h1
  unfold qFv at h2
  split at h2
  ·exact wp_cond_true e1 (iht hR h2 hK)
  ·exact wp_cond_false e1 (ihe hR h2 hK)
  ·rcases qNl h2 with ⟨h3, h4⟩ | ⟨fz, h3⟩
   ·exact wp_cond_split e1 (fun hb=>iht hR (h3 hb) hK) (fun hb=>ihe hR (h4 hb) hK)
   ·obtain ⟨s', ⟨h4, h5⟩, hR', _⟩ := dO fz s _ hR h3
    exact wp_cond_split e1 (fun hb=>iht hR' (h4 hb) hK) (fun hb=>ihe hR' (h5 hb) hK)
  ·exact h2.elim
 |block id c ih=>
  intro s a w K Q hR h hK
  refine wp_block (ih hR h fun e s' a' w' hk hR'=>?_)
  cases e with
  |normal=>exact hK .normal s' a' w' hk hR'
  |ret=>exact hK .ret s' a' w' hk hR'
  |exit j=>
   simp only at hk
   simp only[Ex.out,Exit.inBlock]
   split at hk
   ·rename_i hb
    rw[if_pos (Nat.eq_of_beq_eq_true hb)]
    exact hK .normal s' a' w' hk hR'
   ·rename_i hb
    rw[if_neg (fun e=>by subst e;simp at hb)]
    exact hK (.exit j) s' a' w' hk hR'
 |loop c ih=>
  intro s a w K Q hR h hK
  have h:loopVC (fun s K=>uG C c s K) s K:=h
  rcases qKm h with⟨ι,I,σ,m,i0,h0,h1,h2,h3⟩|⟨ι,I,σ,m,fz,h2,h1,h3⟩|⟨ι,I,σ,m,fz,h2,h1,h3⟩
  ·refine oR (fun i a w => I i ∧ Rel E a w (σ i)) m (fun i a w hR' => ?_) i0 a w ⟨h0, h2.elim (fun h => hR.sub h (h1 i0).1 (h1 i0).2) fun h => hR.subN h (h1 i0).1 (h1 i0).2⟩
   refine ih hR'.2 (h3 i hR'.1) fun e s' a' w' hk hR''=>?_
   cases e with
   |normal=>
    obtain⟨i',hi,hm,hs⟩:=hk
    exact⟨i',hm,hi,hR''.sub hs (h1 i').1 (h1 i').2⟩
   |ret=>exact hK .ret s' a' w' hk hR''
   |exit id=>exact hK (.exit id) s' a' w' hk hR''
  ·obtain ⟨s1, g1, hR1⟩ := kP fz hR h2
   obtain⟨i0,h0,g2⟩:=g1
   refine oR (fun i a w=>I i∧Rel E a w (σ i)) m (fun i a w hR'=>?_) i0 a w ⟨h0,hR1.sub g2 (h1 i0).1 (h1 i0).2⟩
   refine ih hR'.2 (h3 i hR'.1) fun e s' a' w' hk hR''=>?_
   cases e with
   |normal=>
    obtain⟨fz2,hk⟩:=hk
    obtain⟨s2,⟨i',hi,hm,hs⟩,hR2⟩:=kP fz2 hR'' hk
    exact⟨i',hm,hi,hR2.sub hs (h1 i').1 (h1 i').2⟩
   |ret=>exact hK .ret s' a' w' hk hR''
   |exit id=>exact hK (.exit id) s' a' w' hk hR''
  ·obtain ⟨s1, g1, hR1⟩ := kP fz hR h2
   obtain⟨i0,h0,g2⟩:=g1
   refine oR (fun i a w=>I i∧Rel E a w (σ i)) m (fun i a w hR'=>?_) i0 a w ⟨h0,hR1.subN g2 (h1 i0).1 (h1 i0).2⟩
   refine ih hR'.2 (h3 i hR'.1) fun e s' a' w' hk hR''=>?_
   cases e with
   |normal=>
    obtain⟨fz2,hk⟩:=hk
    obtain⟨s2,⟨i',hi,hm,hs⟩,hR2⟩:=kP fz2 hR'' hk
    exact⟨i',hm,hi,hR2.sub hs (h1 i').1 (h1 i').2⟩
   |ret=>exact hK .ret s' a' w' hk hR''
   |exit id=>exact hK (.exit id) s' a' w' hk hR''
 |rangeFunc=>intro s a w K Q hR h hK;exact h.elim
 |scope=>intro s a w K Q hR h hK;exact h.elim
 |goto=>intro s a w K Q hR h hK;exact h.elim
 |refuse=>intro s a w K Q hR h hK;exact h.elim
end
end Go.Vx
namespace Go.Vx
section
variable {P:Program} {ops:Array Oper} {Q:Exit→Act→World→Prop} {S:Array Bool→World→Prop}
def Closed(ops:Array Oper)(L:Array Bool):Prop:=∀x o,ops[x]? =some o→L.getD x true=true→∀e∈o.after,Region.binds .any e=true→L.getD e.on true=true
def qMc(P:Program)(ops:Array Oper)(Q:Exit→Act→World→Prop)(S:Array Bool→World→Prop):Nat→Array Bool→Act→World→Prop
 |0,L,a,w=>Region.ready .any ops L=[]∧Q .normal a w
 |n+1,L,a,w=>(Region.ready .any ops L=[]→Q .normal a w)∧∀i∈Region.ready .any ops L,wpOp P ops Q i (fun a' w'=>S (L.setIfInBounds i true) w'∧qMc P ops Q S n (L.setIfInBounds i true) a' w') a w
theorem qDw:∀(n:Nat) (L:Array Bool) (a:Act) (w:World),qMc P ops Q S n L a w→wpAny P .any ops Q n L a w
 |0,_,_,_,h=>h
 |n+1,_,_,_,h=>⟨h.1,fun i hi=>wpOp_mono (fun a' w' h'=>qDw n _ a' w' h'.2) (h.2 i hi)⟩
def Pend(ops:Array Oper)(S:Array Bool→World→Prop)(i:Nat)(w:World):Prop:=∃L:Array Bool,Closed ops L∧L.getD i true=false∧S L w
theorem Closed.set{L:Array Bool}(h:Closed ops L){i:Nat}(hi:i∈Region.ready .any ops L):Closed ops (L.setIfInBounds i true):=by
 obtain⟨h0,o,ho,hall⟩:=mem_ready.1 hi
 have up:∀k,L.getD k true=true→(L.setIfInBounds i true).getD k true=true:=fun k hk=>by
  by_cases e:i=k
  ·subst e;rw[h0]at hk;cases hk
  ·rw[getD_set_ne true e];exact hk
 intro x ox hx hl e he hb
 by_cases hxi:i=x
 ·subst hxi
  rw[ho]at hx
  cases hx
  have h1:=hall e he hb
  refine up _ ?_
  rcases Nat.lt_or_ge e.on L.size with h'|h'
  ·simp[h']at h1 ⊢;exact h1
  ·simp[Array.getElem?_eq_none h']at h1
 ·rw [getD_set_ne true hxi] at hl
  exact up _ (h x ox hx hl e he hb)
theorem tX{i:Nat}{oi:Oper}{v:Value}(hi:ops[i]? =some oi)(hsel:∀(j:Nat) (o:Oper) cs b,ops[j]? =some o→o.op≠.select cs b)
  (hQ:∀c a w,Q (.panic c) (a.put oi.dst v) w→Q (.panic c) a w) (hS:∀L w,S (L.setIfInBounds i true) w↔S L w):
  ∀(n:Nat) (L:Array Bool) (a:Act) (w:World),
   (∀j oj,ops[j]? =some oj→j≠i→L.getD j true=false→(∀e∈oj.after,Region.binds .any e=true→e.on≠i)→oi.apart ops oj=true)→
   Closed ops L→i∈Region.ready .any ops L→YieldsIf P ops (Pend ops S i) oi v a→S L w→
   qMc P ops Q S n (L.setIfInBounds i true) (a.put oi.dst v) w→qMc P ops Q S (n+1) L a w:=by
 intro n
 induction n with
 |zero=>
  intro L a w _ hc hr hy hs H
  have hp:Pend ops S i w:=⟨L,hc,(mem_ready.1 hr).1,hs⟩
  refine⟨fun h=>(by rw[h]at hr;cases hr),fun j hj=>?_⟩
  by_cases hji:j=i
  ·subst hji;exact hy.wpOp hi hp ⟨(hS L w).2 hs,H⟩
  ·have := ready_mono hj hji
   rw[H.1]at this
   cases this
 |succ n ih=>
  intro L a w hfree hc hr hy hs H
  have hp:Pend ops S i w:=⟨L,hc,(mem_ready.1 hr).1,hs⟩
  refine⟨fun h=>(by rw[h]at hr;cases hr),fun j hj=>?_⟩
  by_cases hji:j=i
  ·subst hji;exact hy.wpOp hi hp ⟨(hS L w).2 hs,H⟩
  ·have h1 := H.2 j (ready_mono hj hji)
   obtain⟨hjun,oj,hoj,hall⟩:=mem_ready.1 hj
   have hnot:∀e∈oj.after,Region.binds .any e=true→e.on≠i:=fun e he hb heq=>by
    have h1:=hall e he hb
    have h0:=(mem_ready.1 hr).1
    rw[heq]at h1
    rcases Nat.lt_or_ge i L.size with h'|h'
    ·simp[h']at h0 h1;rw[h0]at h1;cases h1
    ·simp[Array.getElem?_eq_none h']at h1
   have h2:=wpOp_putIf hoj (hfree j oj hoj hji hjun hnot) (fun cs b=>hsel i oi cs b hi) (fun cs b=>hsel j oj cs b hoj) hQ hy h1
   refine wpOp_mono (fun a' w' h3=>?_) h2
   obtain⟨hy',hs',hg⟩:=h3
   rw[Array.setIfInBounds_comm _ _ (Ne.symm hji)]at hs' hg
   have hs'':=(hS _ _).1 hs'
   refine⟨hs'',ih _ a' w' (fun k ok hk hki hun hno=>hfree k ok hk hki ?_ hno) (hc.set hj) (ready_mono hr (Ne.symm hji)) hy' hs'' hg⟩
   by_cases hjk:j=k
   ·subst hjk;exact hjun
   ·rw[getD_set_ne true hjk]at hun;exact hun
end
end Go.Vx
namespace Go.Vx
section
variable {C:Cx} {E:Ent} {s:St} {a:Act} {w:World}
def wL(tmps:Array Value):ResultVar→Sem Value
 | .tmp t=>pure (tmps.getD t undef)
 | .cell a t=>do loadVar t (←asAddr (tmps.getD a undef))
theorem oL(htt:TTok C.P C.tt)(hR:Rel E a w s):∀(l:List ResultVar) (K:List Value→Prop),qLv C s l K→
  ∃vs,K vs∧vs.length=l.length∧(l.mapM (wL a.tmps)).run C.P w= .ok vs w
 |[],K,h=>⟨[],h,rfl,rfl⟩
 | .tmp t::r,K,h=>by
  have h:evK s (.tmp t) fun sv=>iR sv fun v=>qLv C s r fun vs=>K (v::vs):=h
  obtain⟨sv,h1,h2⟩:=aG h
  obtain⟨e1,-⟩:=aH hR.env h1
  rw[cZ]at h2
  obtain⟨vs,h3,h4,h5⟩:=oL htt hR r _ h2
  refine⟨sv.conc::vs,h3,by simp[h4],?_⟩
  have e1:a.tmps.getD t undef=sv.conc:=e1
  simp only[List.mapM_cons,wL,Sem.run_bind,Sem.run_pure,Result.andThen_ok,h5,e1]
 | .cell x t::r,K,h=>by
  obtain⟨sv,h1,h2⟩:=aG h
  obtain⟨e1,o1⟩:=aH hR.env h1
  have fin:∀(sx:SV) (ad:Addr),aW s sx→sx.conc= .pointer (some ad)→a.tmps.getD x undef=sx.conc→sD C s t sx (fun sv=>iR sv fun v=>qLv C s r fun vs=>K (v::vs))→
    ∃vs,K vs∧vs.length=(ResultVar.cell x t::r).length∧((ResultVar.cell x t::r).mapM (wL a.tmps)).run C.P w= .ok vs w:=by
   intro sx ad o1 hc e1 h2
   obtain⟨sv2,h3,h4,h5⟩:=sJ htt hR.cells o1 h2
   rw[cZ]at h3
   obtain⟨vs,h6,h7,h8⟩:=oL htt hR r _ h3
   refine⟨sv2.conc::vs,h6,by simp[h7],?_⟩
   have h9:=h5 w ⟨hR.sees,hR.own.1⟩
   have h9:(loadVar t ad).run C.P w= .ok sv2.conc w:=by
    rw[←h9,hc]
    simp[Instr.loadAt,Instr.sureAddr]
   simp only[List.mapM_cons,wL,Sem.run_bind,Sem.run_pure,Result.andThen_ok,h8,e1,hc,asAddr,h9]
  split at h2
  ·exact fin _ _ o1 rfl e1 h2
  ·exact fin _ _ o1 rfl e1 h2
  ·exact h2.elim
def qHr(C:Cx):Prop:=∀{E:Ent} (_:C.n=E.n) {ops:Array Oper} {id:Nat} {s:St} {a:Act} {w:World} {K:St→Prop} {Q:Exit→Act→World→Prop},Rel E a w s→qGf C ops.toList s K→(∀a' w' s',K s'→Rel E a' w' s'→Q .normal a' w')→(Code.region id ops true).wp C.P Q a w
theorem Mem.join_get(μ g:Mem)(b:Nat):μ.join g b=match μ b with|some o=>some o|none=>g b:=rfl
theorem rZ(hR:Rel E a w s){v:Value}{R:Value→Mem→Mem→Prop}(h:retVC s v R):∃μ' h',R v μ' h'∧Step E.μ0 E.h0 E.w0 μ' h' w:=by
 obtain⟨s',h2,hR'⟩:∃s',(R v s'.mem s'.own∨∃g k,Parts s'.own g k∧R v (s'.mem.join g) k)∧Rel E a w s':=by
  rcases qNd h with⟨fz,h1⟩|⟨fz,h1⟩|⟨gv,h1⟩
  ·obtain ⟨s', h2, hR', _⟩ := dO fz s _ hR h1
   exact⟨s',h2,hR'⟩
  ·obtain ⟨s', h2, hR', _⟩ := dO fz s _ hR h1
   exact⟨s',h2 fun b hb=>hR'.own_none hb,hR'⟩
  ·obtain ⟨s', h2, hR'⟩ := iD gv s _ hR h1
   exact⟨s',.inl h2,hR'⟩
 rcases h2 with h2|⟨g,k,hp,h2⟩
 ·exact⟨s'.mem,s'.own,h2,⟨hR'.mono,hR'.sees.1,hR'.own.1,fun b hb=>hR'.own_none hb,hR'.fresh,fun b hb=>(hR'.own.2 b hb).2,hR'.grow,hR'.keep,hR'.os,hR'.tape,hR'.output⟩⟩
 ·have hg:∀b,g b≠none→s'.own b=g b:=fun b hb=>by
   rcases hp b with⟨h,_⟩|⟨_,h⟩
   ·exact h
   ·exact absurd h hb
  have hk:∀b,k b≠none→s'.own b=k b:=fun b hb=>by
   rcases hp b with⟨_,h⟩|⟨h,_⟩
   ·exact absurd h hb
   ·exact h
  have hj:∀b,(s'.mem.join g) b≠none→s'.mem b≠none∨g b≠none:=fun b hb=>by
   rw[Mem.join_get]at hb
   cases hm:s'.mem b with
   |none=>rw[hm]at hb;exact .inr hb
   |some o=>exact .inl (by simp)
  refine⟨_,_,h2,⟨fun b o hb=>?_,fun b o hb=>?_,fun b o hb=>hR'.own.1 b o (by rw[hk b (by simp[hb])];exact hb),fun b hb=>?_,fun b h0 hb=>?_,fun b hb=>(hR'.own.2 b (by rw[hk b hb];exact hb)).2,hR'.grow,hR'.keep,hR'.os,hR'.tape,hR'.output⟩⟩
  ·rw[Mem.join_get,hR'.mono b o hb]
  ·rw [Mem.join_get] at hb
   split at hb
   ·rename_i x hx;cases hb;exact hR'.sees.1 b _ hx
   ·exact hR'.own.1 b o (by rw[hg b (by simp[hb])];exact hb)
  ·rcases hj b hb with h | h
   ·cases hkb : k b with
    |none=>rfl
    |some o=>
     have h1:=hk b (by simp[hkb])
     rw[hkb,hR'.own_none h]at h1
     cases h1
   ·rcases hp b with ⟨_, h'⟩ | ⟨_, h'⟩
    ·exact h'
    ·exact absurd h' h
  ·rcases hj b hb with h | h
   ·exact hR'.fresh b h0 h
   ·exact(hR'.own.2 b (by rw[hg b h];exact h)).2
theorem SpecH.of_vc{P:Program}{tt:List (Nat×TI)}{os:List Nat}{f:FuncId}{fn:Func}{args:List Value}{μ h0:Mem}{R:Value→Mem→Mem→Prop}(htt:TTok P tt)(hdr:∀n,qHr ⟨P,tt,n,os,false⟩)
  (hf:P.funcs[f]? =some fn) (hname:(fn.name== "runtime.NumGoroutine")=false) (h:xW P tt os fn args μ h0 R):SpecH P f args μ h0 R:=by
 unfold xW at h
 split at h
 case h_1=>exact h.elim
 rename_i c hc
 obtain⟨hle,h⟩:=qCy h
 obtain⟨hlen,h⟩:=kO _ _ _ h
 obtain⟨e,h,he⟩:=uZ _ _ _ h
 refine⟨trivial,fun w hm hh hap=> .inl ⟨⟨fn,hf,by simp[hc],hname⟩,calls_of_wp hf hc ?_⟩⟩
 let E:Ent:=⟨w,μ,h0,fn.ntmps⟩
 have hap':∀b,h0 b≠none→μ b=none:=fun b hb=>by
  cases hm:μ b with
  |none=>rfl
  |some o=>exact absurd (hap b (by simp[hm])) hb
 have hR:Rel E {tmps:=args.toArray++Array.replicate (fn.ntmps-args.toArray.size) undef,defers:=[]} w ⟨e,[],0,μ,h0⟩:=by
  refine⟨rfl,by simp[E];omega,fun i sv hi=>?_,fun t r cs ty h=>by simp[St.lb,bD]at h,⟨hm,fun t lb h=>by simp[St.lb,bD]at h⟩,fun t lb h=>by simp[St.lb,bD]at h,fun t lb r h=>by simp[St.lb,bD]at h,fun t t' lb lb' r h=>by simp[St.lb,bD]at h,⟨hh,fun b hb=>⟨hap' b hb,.inr hb⟩⟩,Mem.Le.refl _,fun b h h'=>absurd h h',Nat.le_refl _,fun b _ _=>rfl,rfl,rfl,rfl⟩
  obtain⟨v,rfl,_,hv⟩:=he i sv hi
  refine⟨?_,trivial⟩
  simp only[Nat.sub_zero]at hv
  have hi:i<args.length:=by
   rcases Nat.lt_or_ge i args.length with h|h
   ·exact h
   ·rw[List.getElem?_eq_none h]at hv;cases hv
  simp only[SV.conc]
  rw[Array.getElem?_append_left (by simpa using hi)]
  simpa using hv
 have fin:∀(s':St) (a':Act) (w':World),Rel E a' w' s'→(qLv ⟨P,tt,fn.ntmps,os,false⟩ s' fn.results.toList fun vs=>(match vs with|[v]=>retVC s' v R|vs=>retVC s' (.tuple vs.toArray) R))→
   a'.defers=[]∧∃v,(results fn a'.tmps).run P w'= .ok v w'∧∃v' μ' h',Ending.returned v= .returned v'∧R v' μ' h'∧Step μ h0 w μ' h' w':=by
  intro s' a' w' hR' hk
  refine⟨hR'.defers,?_⟩
  obtain⟨vs,h1,h2,h3⟩:=oL (C:=⟨P,tt,fn.ntmps,os,false⟩) htt hR' fn.results.toList _ hk
  have hres:(results fn a'.tmps).run P w'= .ok (if h:vs.toArray.size=1 then vs.toArray[0]else .tuple vs.toArray) w':=by
   have e:results fn a'.tmps=(do let vs←fn.results.mapM (wL a'.tmps);pure (if h:vs.size=1 then vs[0]else .tuple vs)):=by
    unfold results
    congr 1
   rw[e,Array.mapM_eq_mapM_toList]
   simp[h3]
  split at h1
  ·obtain ⟨μ', h', g1, g2⟩ := rZ hR' h1
   exact⟨_,hres,_,μ',h',rfl,by simpa using g1,g2⟩
  ·rename_i hne
   obtain⟨μ',h',g1,g2⟩:=rZ hR' h1
   refine⟨_,hres,_,μ',h',rfl,?_,g2⟩
   have:¬vs.toArray.size=1:=fun h=>by
    match vs,h with
    |[v],_=>exact hne v rfl
    |[],h=>simp at h
    |_::_::_,h=>simp at h
   rw[dif_neg this]
   exact g1
 refine qAy (C:=⟨P,tt,fn.ntmps,os,false⟩) htt rfl (fun h=>nomatch h) (hdr fn.ntmps rfl) c hR h fun e s' a' w' hk hR'=>?_
 cases e with
 |normal=>exact fin s' a' w' hR' hk
 |ret=>exact fin s' a' w' hR' hk
 |exit id=>exact hk.elim
end
end Go.Vx
namespace Go.Vx
inductive Orig (s:St):SV→Prop
 |val (v:Value):Orig s (.val v)
 |kn (b:Bool):Orig s (.kn b)
 |env {i:Nat} {sv:SV} (h:bD s.env i=some sv):Orig s sv
 |cell {t r:Nat} {cs:List SV} {ty:TypeId} {sv:SV} (h:s.lb t=some (.cells r cs ty)) (hm:sv∈cs):Orig s sv
 |locOff {t r o o':Nat} (h:Orig s (.loc t r o)):Orig s (.loc t r o')
 |elemOff {a:Addr} {cs:List Value} {o o':Nat} (h:Orig s (.elem a cs o)):Orig s (.elem a cs o')
 |relOff {t:Nat} {b:Option Nat} {e i o o':Nat} (h:Orig s (.rel t b e i o)):Orig s (.rel t b e i o')
 |elem {a:Addr} {cs:List Value} {o:Nat} (h:∀j v,cs[j]? =some v→s.mem.cell (a.add j)=some v):Orig s (.elem a cs o)
 |rel {t:Nat} {b b':Option Nat} {n c e i o c' e':Nat} {ty:TypeId} {xs:List Value} (h:Orig s (.row t b n c)) (hl:s.lb t=some (.row b' c' ty e' xs)):Orig s (.rel t b e i o)
section
variable {C:Cx} {s:St}
theorem qHm{x:Operand}{sv:SV}(h:ev s x=some sv):Orig s sv:=by
 cases x with
 |tmp t=>exact .env h
 |const v=>simp only[ev]at h;split at h<;>(cases h;first|exact .kn _|exact .val _)
 |global g=>cases h;exact .val _
 |func f=>cases h;exact .val _
theorem pV{x:Operand}{K:SV→Prop}(h:evK s x K):evK s x fun sv=>K sv∧Orig s sv:=by
 obtain⟨sv,h1,h2⟩:=aG h
 unfold evK
 rw[h1]
 exact⟨h2,qHm h1⟩
theorem aU{x:Operand}{K K':SV→Prop}(hk:∀sv,Orig s sv→K sv→K' sv)(h:evK s x K):evK s x K':=by
 obtain⟨sv,h1,h2⟩:=aG h
 unfold evK
 rw[h1]
 exact hk _ (qHm h1) h2
theorem bC{t:TypeId}{K K':TI→Prop}(hk:∀i,K i→K' i)(h:tyK C t K):tyK C t K':=by
 obtain⟨i,h1,h2⟩:=aO h
 unfold tyK
 rw[h1]
 exact hk _ h2
theorem yR{t f:Nat}{K K':Nat→TI→Prop}(hk:∀o i,K o i→K' o i)(h:qJz C t f K):qJz C t f K':=by
 unfold qJz at*
 refine bC (fun i h=>?_) h
 split at h
 ·split at h
  ·exact bC (fun j h=>hk _ _ h) h
  ·exact h
 ·exact h
theorem kZ{r:Int}{K K':Int→Prop}(hk:∀x,K x→K' x)(h:numVC r K):numVC r K':=aS fun x e=>by subst e;exact hk _ (cJ h)
theorem qNj{op:UnOp}{x:SV}{K K':SV→Prop}(h1:∀v,K (.val v)→K' (.val v))(h2:∀b,K (.kn b)→K' (.kn b))(h:unK op x K):unK op x K':=by
 unfold unK at*
 split at h
 ·exact h2 _ h
 ·exact h1 _ h
 ·exact kZ (fun _ h=>h1 _ h) h
 ·exact h
theorem qKj{op:BinOp}{k:IntKind}{a b:Int}{K K':SV→Prop}(h1:∀v,K (.val v)→K' (.val v))(h:qJg op k a b K):qJg op k a b K':=by
 unfold qJg at*
 split at h<;>first
  |exact h1 _ h
  |exact kZ (fun _ h=>h1 _ h) h
  |(obtain⟨g1,g2⟩:=eQ h;exact aD g1 (kZ (fun _ h=>h1 _ h) g2))
  |exact h
theorem qIw{op:BinOp}{a b:ByteArray}{K K':SV→Prop}(h1:∀v,K (.val v)→K' (.val v))(h:qJa op a b K):qJa op a b K':=by
 unfold qJa at*
 split at h<;>first
  |exact h1 _ h
  |(obtain⟨g1,g2⟩:=eQ h;exact aD g1 (h1 _ g2))
  |exact h
theorem zJ{op:BinOp}{a b:Bool}{K K':SV→Prop}(h1:∀v,K (.val v)→K' (.val v))(h:qAg op a b K):qAg op a b K':=by
 unfold qAg at*
 split at h<;>first
  |exact h1 _ h
  |exact h
theorem zF{op:BinOp}{b:Bool}{K K':SV→Prop}(h1:∀v,K (.val v)→K' (.val v))(h:qDn op b K):qDn op b K':=by
 unfold qDn at*
 split at h<;>first
  |exact h1 _ h
  |exact h
theorem qCg{op:BinOp}{k:IntKind}{a b:Int}{K K':SV→Prop}(h1:∀v,K (.val v)→K' (.val v))(h:qZ op k a b K):qZ op k a b K':=by
 unfold qZ at*
 split at h<;>first
  |(obtain⟨g1,g2⟩:=eQ h;exact aD g1 (kZ (fun _ h=>h1 _ h) g2))
  |exact h
theorem qKw{op:BinOp}{t:TypeId}{x y:SV}{K K':SV→Prop}(h1:∀v,K (.val v)→K' (.val v))(h:qDq C op t x y K):qDq C op t x y K':=by
 unfold qDq at*
 split at h
 ·split at h
  ·cases hs : qIc op <;> simp only [hs] at h ⊢
   ·split at h
    ·exact qKj h1 h
    ·exact h
   ·exact qCg h1 h
  ·exact h
 ·split at h
  ·exact qIw h1 h
  ·exact h
 ·refine bC (fun i h => ?_) h
  split at h<;>first|exact zJ h1 h|exact h
 ·refine bC (fun i h => ?_) h
  split at h<;>first|exact zJ h1 h|exact h
 ·refine bC (fun i h => ?_) h
  split at h
  ·exact zF h1 h
  ·exact h
 ·exact h
theorem hM{α:Type}:∀{l:List α} {m n:Nat} {K K':List α→Prop},(∀r,(∀x∈r,x∈l)→K r→K' r)→sS l m n K→sS l m n K'
 |l,m,0,K,K',hk,h=>by
  have:∀(K:List α→Prop),sS l m 0 K=K []:=fun K=>by cases l<;>rfl
  rw[this]at h ⊢
  exact hk [] (by simp) h
 |x::l,0,n+1,K,K',hk,h=>by
  simp only[sS]at*
  exact hM (fun r hr h=>hk _ (fun y hy=>by
   rcases List.mem_cons.1 hy with rfl|hy
   ·simp
   ·simp[hr y hy]) h) h
 |x::l,m+1,n+1,K,K',hk,h=>by
  simp only[sS]at*
  exact hM (fun r hr h=>hk _ (fun y hy=>by simp[hr y hy]) h) h
 |[],m,n+1,K,K',_,h=>by cases m<;>exact h.elim
theorem yW{α:Type}{l:List α}{K K':α→Prop}(hk:∀x∈l,K x→K' x)(h:xM l K):xM l K':=by
 unfold xM at*
 split at h
 ·exact hk _ (by simp) h
 ·exact h
theorem qFj{i:TI}{cs:List SV}{off:Nat}{K K':SV→Prop}(h1:∀v,K (.val v)→K' (.val v))(h2:∀x∈cs,K x→K' x)(h:uW i cs off K):uW i cs off K':=by
 unfold uW at*
 split at h
 ·exact hM (fun r _ h=>by rw[dB]at*;exact h1 _ h) h
 ·exact hM (fun r hr h=>yW (fun x hx h=>h2 x (hr x hx) h) h) h
theorem iF{i:TI}{cs:List Value}{off:Nat}{K K':SV→Prop}(h1:∀v,K (.val v)→K' (.val v))(h:lI i cs off K):lI i cs off K':=by
 unfold lI at*
 split at h
 ·exact hM (fun r _ h=>h1 _ h) h
 ·exact hM (fun r hr h=>yW (fun x hx h=>h1 _ h) h) h
theorem wF{μ h0:Mem}{a:Addr}{n:Nat}{K K':List Value→Prop}(hk:∀cs,K cs→K' cs)(h:extVC μ h0 a n K):extVC μ h0 a n K':=by
 obtain⟨cs,h1,h2,h3⟩:=wN h
 rcases h2 with h2|h2
 ·exact mX cs h1 h2 (hk _ h3)
 ·exact oIn cs h1 h2 (hk _ h3)
theorem sF{μ:Mem}{base:Option Addr}{n es:Nat}{i:Int}{K K2:Addr→List Value→Prop}{K' K2':Addr→Prop}(hk:∀a cs,ElemAt μ base n es i a cs→K a cs→K2 a cs)(hk':∀a,K' a→K2' a)(h:elemVC μ base n es i K K'):elemVC μ base n es i K2 K2':=by
 rcases qT h with⟨a,cs,h1,h2⟩|⟨a0,h1,h2,h3,h4⟩
 ·exact eIn h1 (hk _ _ h1 h2)
 ·exact cS a0 h1 h2 h3 (hk' _ h4)
theorem qHi{t:TypeId}{a:SV}{K:SV→Prop}(h:sD C s t a K):sD C s t a fun sv=>K sv∧Orig s sv:=by
 unfold sD at*
 refine bC (fun i h=>?_) h
 split at h
 ·split at h
  ·rename_i hlb
   exact qFj (fun v h=>⟨h,.val v⟩) (fun x hx h=>⟨h,.cell hlb hx⟩) h
  ·exact h.elim
  ·exact wF (fun cs h=>iF (fun v h=>⟨h,.val v⟩) h) h
 ·exact iF (fun v h=>⟨h,.val v⟩) h
 ·split at h
  ·rename_i hlb
   obtain⟨v,h1,h2⟩:=uB h
   exact bL v h1 (iF (fun v h=>⟨h,.val v⟩) h2)
  ·exact h.elim
 ·exact wF (fun cs h=>iF (fun v h=>⟨h,.val v⟩) h) h
 ·exact h
theorem qKn{t:TypeId}{x i:SV}(hx:Orig s x){K:SV→Prop}(h:qJo C s t x i K):qJo C s t x i fun sv=>K sv∧Orig s sv:=by
 unfold qJo at*
 split at h
 ·refine bC (fun ti h => ?_) h
  split at h
  ·refine bC (fun te h => ?_) h
   split at h
   ·exact sF (fun a cs h1 h2=>⟨h2,.elem h1.cell⟩) (fun a h=>⟨h,.val _⟩) h
   ·split at h
    ·rename_i hlb
     simp only[]
     split at h
     ·rename_i he
      obtain⟨j,h1,h2,h3⟩:=qEs h
      exact bK j h1 h2 ⟨h3,.rel hx hlb⟩
     ·exact h.elim
    ·exact h.elim
    ·rename_i hlb
     simp only[]
     exact sF (fun a cs h1 h2=>⟨h2,.elem h1.cell⟩) (fun a h=>⟨h,.val _⟩) h
   ·exact h
  ·exact h
 ·exact h
theorem qIy{t:TypeId}{x:SV}{K K':SV→Prop}(h1:∀v,K (.val v)→K' (.val v))(h:qLz C s t x K):qLz C s t x K':=by
 unfold qLz at*
 refine bC (fun i h=>?_) h
 split at h<;>first|exact h1 _ h|exact h|(obtain⟨l,hm,h2⟩:=rE h;exact⟨⟨l,hm,h1 _ h2⟩⟩)
theorem qGg{c x y:Operand}{K:SV→Prop}(h:qDh s c x y K):qDh s c x y fun sv=>K sv∧Orig s sv:=by
 unfold qDh at*
 refine aU (fun sc _ h=>?_) h
 split at h
 ·exact pV h
 ·exact pV h
 ·refine aU (fun sx _ h => aU (fun sy _ h => ?_) h) h
  split at h<;>first|exact⟨h,.val _⟩|exact h
 ·exact h
theorem nC{α:Type}:∀{l:List α} {m:Nat} {vs:List α} {K K':List α→Prop},(∀r,K r→K' r)→lL l m vs K→lL l m vs K'
 |l,0,[],K,K',hk,h=>by
  have:∀(K:List α→Prop),lL l 0 [] K=K l:=fun K=>by cases l<;>simp only[lL]
  rw[this]at h ⊢
  exact hk _ h
 |x::l,0,v::vs,K,K',hk,h=>by simp only[lL]at*;exact nC (fun r h=>hk _ h) h
 |x::l,m+1,vs,K,K',hk,h=>by
  have:∀(K:List α→Prop),lL (x::l) (m+1) vs K=lL l m vs fun r=>K (x::r):=fun K=>by cases vs<;>simp only[lL]
  rw[this]at h ⊢
  exact nC (fun r h=>hk _ h) h
 |[],0,v::vs,K,K',_,h=>h.elim
 |[],m+1,vs,K,K',_,h=>by cases vs<;>exact h.elim
theorem pC:∀{n:Nat} {l:List Value} {A B:Prop},(A→B)→fillK.needLen n l A→fillK.needLen n l B
 |0,[],_,_,hk,h=>hk h
 |n+1,_::l,_,_,hk,h=>pC (n:=n) (l:=l) hk h
 |0,_::_,_,_,_,h=>h.elim
 |_+1,[],_,_,_,h=>h.elim
theorem qAi{sv:SV}{n:Nat}{A B:Prop}(hk:A→B)(h:fillK.needOne sv n A):fillK.needOne sv n B:=by
 unfold fillK.needOne at*
 split at h
 ·exact h
 ·exact hk h
 ·exact h
theorem oQ{fs:List (Nat×TypeId)}:∀{ps:List (Nat×Operand)} {cs:List SV} {K K':List SV→Prop},(∀r,K r→K' r)→fillK C s fs ps cs K→fillK C s fs ps cs K'
 |[],cs,K,K',hk,h=>hk _ h
 |(f,x)::r,cs,K,K',hk,h=>by
  simp only[fillK]at*
  split at h
  ·refine bC (fun ti h => aU (fun sv _ h => ?_) h) h
   split at h
   ·split at h
    ·exact pC (fun h=>nC (fun _ h=>oQ hk h) h) h
    ·exact h
   ·exact qAi (fun h=>nC (fun _ h=>oQ hk h) h) h
  ·exact h
theorem rA:∀{l:List Operand} {K K':List Value→Prop},(∀r,K r→K' r)→qDc s l K→qDc s l K'
 |[],_,_,hk,h=>hk _ h
 |x::l,K,K',hk,h=>by
  simp only[qDc]at*
  refine aU (fun sv _ h=>?_) h
  rw[cZ]at*
  exact rA (fun r h=>hk _ h) h
theorem qGb{src dst:TypeId}{x:SV}{K K':SV→Prop}(hK:∀v,K (.val v)→K' (.val v))(h:qCf C s src dst x K):qCf C s src dst x K':=by
 unfold qCf at*
 refine bC (fun ts h=>bC (fun td h=>?_) h) h
 split at h
 ·refine bC (fun te h => ?_) h
  split at h
  ·obtain ⟨bs, h1, h2⟩ := uP h
   exact bW bs h1 (hK _ h2)
  ·exact h.elim
 ·exact aS fun r hr=>hK _ (by subst hr;exact cJ h)
 ·exact hK _ h
 ·exact h
theorem zU{x:Option Operand}{K K':Option SV→Prop}(hk:∀sv,K sv→K' sv)(h:qHd s x K):qHd s x K':=by
 unfold qHd at*
 split at h
 ·exact hk _ h
 ·exact aU (fun _ _ h=>hk _ h) h
theorem jB{o:Option SV}{d:Int}{K K':Int→Prop}(hk:∀i,K i→K' i)(h:sliceK.boundK o d K):sliceK.boundK o d K':=by
 unfold sliceK.boundK at*
 split at h
 ·exact hk _ h
 ·exact hk _ h
 ·exact h
theorem tV{lo hi cap:Int}{K K':Nat→Nat→Prop}(hk:∀i j,K i j→K' i j)(h:cutVC lo hi cap K):cutVC lo hi cap K':=by
 obtain⟨l,k,h1,h2,h3,h4,h5⟩:=vT h
 exact aE l k h1 h2 h3 h4 (hk _ _ h5)
theorem rY{es:Nat}{base:Option Addr}{n c:Nat}{lo hi:Option SV}{K K':SV→Prop}(hK:∀v,K (.val v)→K' (.val v))(h:sliceK es base n c lo hi K):sliceK es base n c lo hi K':=by
 unfold sliceK at*
 exact jB (fun i h=>jB (fun j h=>tV (fun l k h=>hK _ h) h) h) h
theorem yS{big:Bool}{x y:SV}{K K':SV→Prop}(hK:∀v,K (.val v)→K' (.val v))(h:qHe big x y K):qHe big x y K':=by
 unfold qHe at*
 split at h
 ·split at h<;>exact hK _ h
 ·exact h
theorem qFy{o:Op}{K:SV→Prop}(h:nV C s o K):nV C s o fun sv=>K sv∧Orig s sv:=by
 unfold nV at*
 split at h
 ·exact aU (fun x _ h=>qGb (fun v h=>⟨h,.val v⟩) h) h
 ·exact pV h
 ·exact pV h
 ·refine aU (fun x ho h => ?_) h
  split at h
  ·exact⟨h,ho⟩
  ·exact⟨h,ho⟩
  ·exact h.elim
 ·exact qGg h
 ·exact aU (fun x _ h=>qNj (fun v h=>⟨h,.val v⟩) (fun b h=>⟨h,.kn b⟩) h) h
 ·split at h
  ·refine bC (fun i h => aU (fun x _ h => ?_) h) h
   split at h
   ·exact zF (fun v h=>⟨h,.val v⟩) h
   ·exact h
  ·exact aU (fun x _ h=>aU (fun y _ h=>qKw (fun v h=>⟨h,.val v⟩) h) h) h
 ·refine yR (fun off ti h => aU (fun x _ h => ?_) h) h
  split at h
  ·exact iF (fun v h=>⟨h,.val v⟩) h
  ·exact h
 ·refine yR (fun off ti h => ?_) h
  unfold qEk at*
  split at h
  ·exact h
  ·refine aU (fun x ho h => ?_) h
   split at h
   ·exact⟨h,.locOff ho⟩
   ·exact⟨h,.elemOff ho⟩
   ·split at h
    ·rename_i hlb
     exact⟨h,.relOff ho⟩
    ·exact h.elim
   ·exact⟨h,.val _⟩
   ·exact h
 ·exact aU (fun x hx h=>aU (fun y _ h=>qKn hx h) h) h
 ·refine bC (fun ti h => aU (fun x _ h => zU (fun lo h => zU (fun hi h => ?_) h) h) h) h
  split at h
  ·exact bC (fun te h=>rY (fun v h=>⟨h,.val v⟩) h) h
  ·exact bC (fun te h=>rY (fun v h=>⟨h,.val v⟩) h) h
  ·exact jB (fun i h=>jB (fun j h=>tV (fun l k h=>⟨h,.val _⟩) h) h) h
  ·exact h
 ·refine bC (fun ti h => aU (fun x _ h => aU (fun y _ h => ?_) h) h) h
  split at h
  ·obtain ⟨j, b, h1, h2, h3⟩ := zN h
   exact aK j b h1 h2 ⟨h3,.val _⟩
  ·exact h
 ·refine bC (fun ti h => ?_) h
  split at h
  ·refine bC (fun tk h => bC (fun te h => aU (fun x _ h => aU (fun i _ h => ?_) h) h) h) h
   rw[cZ]at*
   split at h
   ·obtain ⟨hok, l, hm, hl, h2⟩ := yI h
    refine⟨⟨hok,l,hm,hl,?_⟩⟩
    split at h2<;>exact⟨h2,.val _⟩
   ·exact h
  ·exact h
 ·exact aU (fun x _ h=>qHi h) h
 ·refine aU (fun x _ h => ?_) h
  split at h
  ·split at h
   ·rename_i hv
    exact⟨h,.val _⟩
   ·exact h.elim
  ·exact h
 ·refine bC (fun ti h => ?_) h
  split at h
  ·exact oQ (fun cs h=>by rw[dB]at*;exact⟨h,.val _⟩) h
  ·exact h
 ·exact rA (fun f h=>rA (fun c h=>⟨h,.val _⟩) h) h
 ·refine bC (fun ti h => aU (fun x _ h => ?_) h) h
  split at h
  ·exact⟨h,.val _⟩
  ·exact h
 ·split at h
  ·rename_i hc
   split at h
   ·rename_i h1 h2
    exact aU (fun x _ h=>qIy (fun v h=>⟨h,.val v⟩) h) h
   ·exact h.elim
  ·split at h
   ·exact aU (fun x _ h=>aU (fun y _ h=>yS (fun v h=>⟨h,.val v⟩) h) h) h
   ·exact h.elim
  ·split at h
   ·exact aU (fun x _ h=>aU (fun y _ h=>yS (fun v h=>⟨h,.val v⟩) h) h) h
   ·exact h.elim
  ·exact h.elim
 ·exact h
end
end Go.Vx
namespace Go.Vx
theorem memN_iff{n:Nat}:∀{l:List Nat},lM n l=true↔n∈l
 |[]=>by simp[lM]
 |m::r=>by
  simp only[lM]
  split
  ·rename_i h;have:=Nat.eq_of_beq_eq_true h;simp[this]
  ·rename_i h
   have:n≠m:=fun e=>by subst e;simp at h
   rw[memN_iff]
   simp[this]
theorem memN_false{n:Nat}{l:List Nat}:lM n l=false↔n∉l:=by
 rw[←memN_iff];cases lM n l<;>simp
theorem depsIn_iff{done:List Nat}:∀{es:List Edge},gM done es=true↔∀e∈es,Region.binds .any e=true→e.on∈done
 |[]=>by simp[gM]
 |e::r=>by
  simp only[gM]
  split
  ·rename_i h1 h2
   rw[memN_false]at h2
   simp[h1,h2]
  ·rename_i h
   rw[depsIn_iff]
   refine⟨fun g x hx hb=>?_,fun g x hx hb=>g x (by simp[hx]) hb⟩
   rcases List.mem_cons.1 hx with rfl|hx
   ·cases hm : lM x.on done with
    |true=>exact memN_iff.1 hm
    |false=>exact absurd hm (h hb)
   ·exact g x hx hb
theorem onEdge_iff{i:Nat}:∀{es:List Edge},mK i es=true↔∃e∈es,Region.binds .any e=true∧e.on=i
 |[]=>by simp[mK]
 |e::r=>by
  simp only[mK]
  split
  ·rename_i h1 h2
   have h2:=Nat.eq_of_beq_eq_true h2
   simp only[true_iff]
   exact⟨e,by simp,h1,h2⟩
  ·rename_i h
   rw[onEdge_iff]
   constructor
   ·rintro⟨x,hx,h1,h2⟩;exact⟨x,by simp[hx],h1,h2⟩
   ·rintro ⟨x, hx, h1, h2⟩
    rcases List.mem_cons.1 hx with rfl|hx
    ·exact absurd (by rw[h2];exact Nat.beq_refl i) (h h1)
    ·exact⟨x,hx,h1,h2⟩
theorem mC{lt:Nat→Op→Bool}{done:List Nat}:∀{l:List Oper} {k i:Nat},oO lt done k l=some i→∃o,k≤i∧l[i-k]? =some o∧jG o.op=true∧i∉done∧gM done o.after.toList=true
 |[],_,_,h=>by cases h
 |o::r,k,i,h=>by
  have up:oO lt done (k+1) r=some i→∃o',k≤i∧(o::r)[i-k]? =some o'∧jG o'.op=true∧i∉done∧gM done o'.after.toList=true:=fun h=>by
   obtain⟨o',h1,h2,h3⟩:=mC h
   exact⟨o',by omega,by rw[show i-k=(i-(k+1))+1 from by omega];simpa using h2,h3⟩
  simp only[oO]at h
  split at h
  ·rename_i h1 h2 h3
   split at h
   ·cases h
    exact⟨o,Nat.le_refl _,by simp,h1,memN_false.1 h2,h3⟩
   ·exact up h
  ·exact up h
theorem candsOf_spec{done al:List Nat}:∀{l:List Oper} {k j:Nat},j∈fS done al k l↔∃o,k≤j∧l[j-k]? =some o∧j∉done∧j∉al∧gM (al++done) o.after.toList=true
 |[],k,j=>by simp[fS]
 |o::r,k,j=>by
  have ih:=candsOf_spec (done:=done) (al:=al) (l:=r) (k:=k+1) (j:=j)
  have step:(∃o',k+1≤j∧r[j-(k+1)]? =some o'∧j∉done∧j∉al∧gM (al++done) o'.after.toList=true)∨(j=k∧j∉done∧j∉al∧gM (al++done) o.after.toList=true)↔
    ∃o',k≤j∧(o::r)[j-k]? =some o'∧j∉done∧j∉al∧gM (al++done) o'.after.toList=true:=by
   constructor
   ·rintro (⟨o', h1, h2, h3⟩ | ⟨rfl, h3⟩)
    ·exact⟨o',by omega,by rw[show j-k=(j-(k+1))+1 from by omega];simpa using h2,h3⟩
    ·exact⟨o,Nat.le_refl _,by simp,h3⟩
   ·rintro ⟨o', h1, h2, h3⟩
    by_cases hj:j=k
    ·subst hj
     simp only[Nat.sub_self,List.getElem?_cons_zero,Option.some.injEq]at h2
     subst h2
     exact .inr ⟨rfl,h3⟩
    ·exact .inl ⟨o',by omega,by rw[show j-k=(j-(k+1))+1 from by omega]at h2;simpa using h2,h3⟩
  rw[←step,←ih]
  simp only[fS]
  split
  ·rename_i h1 h2 h3
   rw[memN_false]at h1 h2
   rw[List.mem_cons]
   constructor
   ·rintro (rfl | h)
    ·exact .inr ⟨rfl,h1,h2,h3⟩
    ·exact .inl h
   ·rintro (h | ⟨rfl, _⟩)
    ·exact .inr h
    ·exact .inl rfl
  ·rename_i h
   constructor
   ·exact .inl
   ·rintro (h' | ⟨rfl, h1, h2, h3⟩)
    ·exact h'
    ·exact(h (memN_false.2 h1) (memN_false.2 h2) h3).elim
theorem allocIdx_spec:∀{l:List Oper} {k j:Nat},j∈dJ k l↔∃o,k≤j∧l[j-k]? =some o∧cK o=true
 |[],k,j=>by simp[dJ]
 |o::r,k,j=>by
  have ih:=allocIdx_spec (l:=r) (k:=k+1) (j:=j)
  have step:(∃o',k+1≤j∧r[j-(k+1)]? =some o'∧cK o'=true)∨(j=k∧cK o=true)↔∃o',k≤j∧(o::r)[j-k]? =some o'∧cK o'=true:=by
   constructor
   ·rintro (⟨o', h1, h2, h3⟩ | ⟨rfl, h3⟩)
    ·exact⟨o',by omega,by rw[show j-k=(j-(k+1))+1 from by omega];simpa using h2,h3⟩
    ·exact⟨o,Nat.le_refl _,by simp,h3⟩
   ·rintro ⟨o', h1, h2, h3⟩
    by_cases hj:j=k
    ·subst hj
     simp only[Nat.sub_self,List.getElem?_cons_zero,Option.some.injEq]at h2
     subst h2
     exact .inr ⟨rfl,h3⟩
    ·exact .inl ⟨o',by omega,by rw[show j-k=(j-(k+1))+1 from by omega]at h2;simpa using h2,h3⟩
  rw[←step,←ih]
  simp only[dJ]
  split
  ·rename_i h
   rw[List.mem_cons]
   constructor
   ·rintro (rfl | g)
    ·exact .inr ⟨rfl,h⟩
    ·exact .inl g
   ·rintro (g | ⟨rfl, _⟩)
    ·exact .inr g
    ·exact .inl rfl
  ·rename_i h
   constructor
   ·exact .inl
   ·rintro (g | ⟨rfl, g⟩)
    ·exact g
    ·rw[h]at g;cases g
theorem fE{o:Oper}(h:cK o=true):∃t d,o.op= .alloc t∧o.guard=none∧o.dst=some d∧o.after.toList=[]:=by
 unfold cK at h
 split at h
 ·rename_i h1 h2 h3 h4;exact⟨_,_,h1,h2,h3,h4⟩
 ·cases h
theorem uR{ops:Array Oper}{done:List Nat}{i:Nat}{oi:Oper}:∀{l:List Oper} {k:Nat},qEu ops done i oi k l=true→∀j o,k≤j→l[j-k]? =some o→j∉done→j≠i→(∀e∈o.after,Region.binds .any e=true→e.on≠i)→oi.apart ops o=true
 |[],_,_,j,o,_,h,_,_,_=>by simp at h
 |x::r,k,h,j,o,hk,ho,h1,h2,h3=>by
  simp only[qEu]at h
  split at h
  ·cases h
  ·rename_i hn
   by_cases hj:j=k
   ·subst hj
    simp only[Nat.sub_self,List.getElem?_cons_zero,Option.some.injEq]at ho
    subst ho
    cases ha:oi.apart ops x with
    |true=>rfl
    |false=>
     refine(hn (memN_false.2 h1) ?_ ?_ ha).elim
     ·cases hb : Nat.beq j i with
      |false=>rfl
      |true=>exact absurd (Nat.eq_of_beq_eq_true hb) h2
     ·cases hb : mK i x.after.toList with
      |false=>rfl
      |true=>
       obtain⟨e,he,g1,g2⟩:=onEdge_iff.1 hb
       exact absurd g2 (h3 e (by simpa using he) g1)
   ·exact uR h j o (by omega) (by rw[show j-k=(j-(k+1))+1 from by omega]at ho;simpa using ho) h1 h2 h3
theorem pF{d j:Nat}:∀{l:List Oper} {k:Nat},lD d j k l=true→∀i o,k≤i→l[i-k]? =some o→i≠j→o.dst≠some d
 |[],_,_,i,o,_,h,_=>by simp at h
 |x::r,k,h,i,o,hk,ho,hij=>by
  by_cases hi:i=k
  ·subst hi
   simp only[Nat.sub_self,List.getElem?_cons_zero,Option.some.injEq]at ho
   subst ho
   intro hd
   have hb:Nat.beq i j=false:=by
    cases hb:Nat.beq i j with
    |false=>rfl
    |true=>exact absurd (Nat.eq_of_beq_eq_true hb) hij
   simp only[lD,hb,hd,Nat.beq_refl]at h
   cases h
  ·refine pF (l := r) (k := k + 1) ?_ i o (by omega) (by rw [show i - k = (i - (k + 1)) + 1 from by omega] at ho; simpa using ho) hij
   simp only[lD]at h
   split at h
   ·split at h
    ·cases h
    ·exact h
   ·exact h
theorem zW{i t:Nat}:∀{l:List (Nat×Nat)},memP i t l=true→(i,t)∈l
 |[],h=>by cases h
 |(j,u)::r,h=>by
  simp only[memP]at h
  split at h
  ·rename_i h1 h2
   have h1:=Nat.eq_of_beq_eq_true h1
   have h2:=Nat.eq_of_beq_eq_true h2
   simp[h1,h2]
  ·exact List.mem_cons_of_mem _ (zW h)
theorem oS{ops:Array Oper}{L:Array Bool}(hc:Closed ops L){i:Nat}:∀{n x:Nat},pN ops.toList i n x=true→L.getD x true=true→L.getD i true=true
 |0,_,h,_=>by cases h
 |n+1,x,h,hx=>by
  simp only[pN]at h
  split at h
  ·rename_i o ho
   have key:∀es:List Edge,(∀e∈es,e∈o.after)→uO (pN ops.toList i n) i es=true→L.getD i true=true:=by
    intro es
    induction es with
    |nil=>intro _ h;cases h
    |cons e r ih=>
     intro hm h
     simp only[uO]at h
     split at h
     ·rename_i hb
      have he:=hc x o (by simpa using ho) hx e (hm e (by simp)) hb
      split at h
      ·rename_i h1
       rw[←Nat.eq_of_beq_eq_true h1];exact he
      ·split at h
       ·rename_i h2
        exact oS hc h2 he
       ·exact ih (fun y hy=>hm y (by simp[hy])) h
     ·exact ih (fun y hy=>hm y (by simp[hy])) h
   exact key o.after.toList (fun e he=>by simpa using he) h
  ·cases h
theorem mP{ops:List Oper}{i t:Nat}:∀{l:List (Nat×Nat)},oF ops i t l=true→∀x,(x,t)∈l→pN ops i 20 x=true
 |[],_,x,h=>by cases h
 |(y,u)::r,h,x,hx=>by
  simp only[oF]at h
  split at h
  ·rename_i hb
   have hb:=Nat.eq_of_beq_eq_true hb
   split at h
   ·rename_i ha
    rcases List.mem_cons.1 hx with e|hx
    ·cases e;exact ha
    ·exact mP h x hx
   ·cases h
  ·rename_i hb
   rcases List.mem_cons.1 hx with e|hx
   ·cases e;simp at hb
   ·exact mP h x hx
theorem rW{ops:List Oper}{s0:St}:∀{l:List Oper} {k:Nat} {ml:List (Nat×Nat)},oN ops s0 k l=some ml→∀x t,(x,t)∈ml→∃o ty a b,k≤x∧l[x-k]? =some o∧o.op= .store ty a b
 |[],k,ml,h,x,t,hx=>by cases h;cases hx
 |o::r,k,ml,h,x,t,hx=>by
  have up:∀{ml'},oN ops s0 (k+1) r=some ml'→(x,t)∈ml'→∃o' ty a b,k≤x∧(o::r)[x-k]? =some o'∧o'.op= .store ty a b:=fun h1 h2=>by
   obtain⟨o',ty,a,b,g1,g2,g3⟩:=rW h1 x t h2
   exact⟨o',ty,a,b,by omega,by rw[show x-k=(x-(k+1))+1 from by omega];simpa using g2,g3⟩
  simp only[oN]at h
  split at h
  ·rename_i ty a b hop
   split at h
   ·rename_i h1 h2
    cases h
    rcases List.mem_cons.1 hx with e|hx
    ·cases e
     exact⟨o,ty,a,b,Nat.le_refl _,by simp,hop⟩
    ·exact up h2 hx
   ·rename_i h1 h2
    cases h
    exact up h2 hx
   ·cases h
  ·exact up h hx
theorem hZ{b:Bool}{A:Prop}(h:okK b A):b=true∧A:=by
 unfold okK at h
 split at h
 ·exact⟨rfl,h⟩
 ·exact h.elim
def V0(s0:St):SV→Prop
 | .loc t r _=>∀r' cs ty,s0.lb t=some (.cells r' cs ty)→r'=r
 | .row t _ _ _=>∀r cs ty,s0.lb t≠some (.cells r cs ty)
 | .rel t _ _ _ _=>∀r cs ty,s0.lb t≠some (.cells r cs ty)
 | .elem a cs _=>∀j v,cs[j]? =some v→s0.mem.cell (a.add j)=some v
 |_=>True
theorem fW{ops:List Oper}{ml:List (Nat×Nat)}{ol:List Nat}{s0 s:St}{i t:Nat}{lb:LB}(h:(rO ops ml ol s0 s i).lb t=some lb):s0.lb t=some lb∧oF ops i t ml=true∧∃r cs ty,lb= .cells r cs ty:=by
 have key:∀l:List (Nat×Option LB),bD (pI ops ml i l) t=some (some lb)→bD l t=some (some lb)∧oF ops i t ml=true∧∃r cs ty,lb= .cells r cs ty:=by
  intro l
  induction l with
  |nil=>intro h;cases h
  |cons p l ih=>
   obtain⟨u,x⟩:=p
   intro h
   match x with
   |some (.cells r cs ty)=>
    simp only[pI]at h
    split at h
    ·rename_i hc
     rw[aM]at h ⊢
     split at h
     ·rename_i e
      subst e
      cases h
      exact⟨by simp,hc,_,_,_,rfl⟩
     ·rename_i e
      rw[if_neg e]
      exact ih h
    ·rw [aM] at h ⊢
     split at h
     ·cases h
     ·rename_i e;rw[if_neg e];exact ih h
   |some (.row ..)=>
    simp only[pI]at h
    rw[aM]at h ⊢
    split at h
    ·cases h
    ·rename_i e;rw[if_neg e];exact ih h
   |some (.map ..)=>
    simp only[pI]at h
    rw[aM]at h ⊢
    split at h
    ·cases h
    ·rename_i e;rw[if_neg e];exact ih h
   |none=>
    simp only[pI]at h
    rw[aM]at h ⊢
    split at h
    ·cases h
    ·rename_i e;rw[if_neg e];exact ih h
 obtain⟨h1,h2,h3⟩:=key s0.blk (kS h)
 exact⟨by unfold St.lb;rw[h1],h2,h3⟩
def SS(s0:St)(ml:List (Nat×Nat))(ol:List Nat)(L:Array Bool)(w:World):Prop:=
 Holds s0.mem w∧(∀t r cs ty,s0.lb t=some (.cells r cs ty)→(∀x,(x,t)∈ml→L.getD x true=false)→(LB.cells r cs ty).fits (fun b=>w.heap[b]?))∧((∀x∈ol,L.getD x true=false)→Holds s0.own w)
theorem mB{s0:St}{ml:List (Nat×Nat)}{ol:List Nat}{i:Nat}(hi:∀t,(i,t)∉ml)(ho:i∉ol)(L:Array Bool)(w:World):SS s0 ml ol (L.setIfInBounds i true) w↔SS s0 ml ol L w:=by
 have e:∀t,(∀x,(x,t)∈ml→(L.setIfInBounds i true).getD x true=false)↔∀x,(x,t)∈ml→L.getD x true=false:=fun t=>by
  constructor
  ·intro h x hx;rw[←getD_set_ne (i:=i) true (fun e=>by subst e;exact hi t hx)];exact h x hx
  ·intro h x hx;rw[getD_set_ne (i:=i) true (fun e=>by subst e;exact hi t hx)];exact h x hx
 have e':(∀x∈ol,(L.setIfInBounds i true).getD x true=false)↔∀x∈ol,L.getD x true=false:=by
  constructor
  ·intro h x hx;rw[←getD_set_ne (i:=i) true (fun e=>by subst e;exact ho hx)];exact h x hx
  ·intro h x hx;rw[getD_set_ne (i:=i) true (fun e=>by subst e;exact ho hx)];exact h x hx
 unfold SS
 simp only[e,e']
theorem sO{ops:List Oper}{i:Nat}:∀{l:List Nat},qS ops i l=true→∀x∈l,pN ops i 20 x=true
 |[],_,x,h=>by cases h
 |y::l,h,x,hx=>by
  simp only[qS]at h
  split at h
  ·rename_i ha
   rcases List.mem_cons.1 hx with e|hx
   ·subst e;exact ha
   ·exact sO h x hx
  ·cases h
theorem rT{ops:List Oper}{s0:St}:∀{l:List Oper} {k:Nat} {x:Nat},x∈eD ops s0 k l→∃o,k≤x∧l[x-k]? =some o∧jG o.op=false∧cK o=false
 |[],k,x,h=>by cases h
 |o::r,k,x,h=>by
  have up:x∈eD ops s0 (k+1) r→∃o',k≤x∧(o::r)[x-k]? =some o'∧jG o'.op=false∧cK o'=false:=fun h=>by
   obtain⟨o',g1,g2,g3⟩:=rT h
   exact⟨o',by omega,by rw[show x-k=(x-(k+1))+1 from by omega];simpa using g2,g3⟩
  simp only[eD]at h
  split at h
  ·rename_i ty a b hop
   have ha:cK o=false:=by unfold cK;rw[hop]
   split at h
   ·exact up h
   ·rcases List.mem_cons.1 h with e | h
    ·subst e;exact⟨o,Nat.le_refl _,by simp,by rw[hop];rfl,ha⟩
    ·exact up h
  ·rename_i c hop
   have ha:cK o=false:=by unfold cK;rw[hop]
   split at h
   ·rename_i f hc
    rcases List.mem_cons.1 h with e|h
    ·subst e;exact⟨o,Nat.le_refl _,by simp,by rw[hop];simp only[jG,hc],ha⟩
    ·exact up h
   ·rename_i hc
    rcases List.mem_cons.1 h with e|h
    ·subst e;exact⟨o,Nat.le_refl _,by simp,by rw[hop];simp only[jG,hc],ha⟩
    ·exact up h
   ·exact up h
  iterate 5
   ·rename_i hop
    have ha:cK o=false:=by unfold cK;rw[hop]
    rcases List.mem_cons.1 h with e|h
    ·subst e;exact⟨o,Nat.le_refl _,by simp,by rw[hop];rfl,ha⟩
    ·exact up h
  ·exact up h
theorem qJc{ol:List Nat}{i:Nat}{b:Bool}(h:owOk ol i b=true):b=false∨i∈ol:=by
 unfold owOk at h
 split at h
 ·exact .inr (memN_iff.1 h)
 ·exact .inl rfl
theorem qJd{ops:Array Oper}{ml:List (Nat×Nat)}{ol:List Nat}{s0 s:St}{i:Nat}{w:World}(h:Pend ops (SS s0 ml ol) i w):qEa (rO ops.toList ml ol s0 s i) w:=by
 obtain⟨L,hc,hi,h1,h2,h3⟩:=h
 have hbehind:∀x,pN ops.toList i 20 x=true→L.getD x true=false:=fun x hx=>by
  cases hLx:L.getD x true with
  |false=>rfl
  |true=>
   have:=oS hc hx hLx
   rw[this]at hi
   cases hi
 refine⟨⟨h1,fun t lb hl=>?_⟩,?_⟩
 rotate_left
 ·simp only [rO]
  split
  ·rename_i ho
   exact h3 fun x hx=>hbehind x (sO ho x hx)
  ·exact fun b o h=>nomatch h
 obtain⟨g1,g2,r,cs,ty,rfl⟩:=fW hl
 refine h2 t r cs ty g1 fun x hx=>?_
 cases hLx:L.getD x true with
 |false=>rfl
 |true=>
  have:=oS hc (mP g2 x hx) hLx
  rw[this]at hi
  cases hi
end Go.Vx
namespace Go.Vx
section
variable {C:Cx} {E:Ent} {ops:Array Oper} {ml:List (Nat×Nat)} {ol:List Nat} {al:List Nat} {s0:St}
theorem LB.alike_trans{a b c:LB}(h:a.alike b)(k:b.alike c):a.alike c:=by
 cases a<;>cases b<;>simp only[LB.alike]at h<;>cases c<;>simp only[LB.alike]at k ⊢
 ·exact h.trans k
 ·exact⟨h.1.trans k.1,h.2.1.trans k.2.1,h.2.2.1.trans k.2.2.1,h.2.2.2.trans k.2.2.2⟩
 ·exact h.trans k
def vY(lb:LB):Prop:=∃b c y e x,lb= .row b c y e x
theorem yL{a b:LB}(h:a.alike b):vY a↔vY b:=by
 cases a<;>cases b<;>simp only[LB.alike]at h<;>simp[vY]
structure AlOk (C:Cx) (ops:Array Oper) (al:List Nat):Prop where
 spec:∀j,j∈al↔∃o,ops[j]? =some o∧cK o=true
 tt:∀j∈al,∀o t,ops[j]? =some o→o.op= .alloc t→∃ti,bD C.tt t=some ti
 dst:∀j∈al,∀o d,ops[j]? =some o→o.dst=some d→d<C.n
 sole:∀j∈al,∀o d,ops[j]? =some o→o.dst=some d→∀k ok,ops[k]? =some ok→k≠j→ok.dst≠some d
structure DInv (C:Cx) (E:Ent) (ops:Array Oper) (ml:List (Nat×Nat)) (ol al:List Nat) (s0:St) (dirty:List Nat) (D A:Nat→Prop) (ρ:Nat→Nat) (s:St) (L:Array Bool) (a:Act) (w:World):Prop where
 rel:Rel E a w s
 size:L.size=ops.size
 lst:∀i,i<ops.size→(L.getD i true=true↔D i∨A i)
 closed:Closed ops L
 sub:∀j,A j→j∈al∧¬D j
 pend:∀j,A j→∃o t d ti,ops[j]? =some o∧o.op= .alloc t∧o.dst=some d∧bD C.tt t=some ti∧a.tmps[d]? =some (.pointer (some ⟨ρ j,0,none⟩))∧
  w.heap[ρ j]? =some (.cells ti.zero.toArray t (0,0))∧s.mem (ρ j)=none∧s.own (ρ j)=none∧(∀u lb,s.lb u=some lb→lb.blk?≠some (ρ j))∧E.w0.heap.size≤ρ j
 inj:∀j k,A j→A k→ρ j=ρ k→j=k
 nodst:∀j∈al,¬D j→∀o d,ops[j]? =some o→o.dst=some d→bD s.env d=none
 ss:SS s0 ml ol L w
 le:s0.mem.Le s.mem
 v0:∀i sv,bD s.env i=some sv→V0 s0 sv
 nx:s0.nxt≤s.nxt
 b0:∀t r cs ty,s0.lb t=some (.cells r cs ty)→(∃cs' ty',s.lb t=some (.cells r cs' ty'))∨s.mem r≠none
 stay:∀t lb,t<s0.nxt→s.lb t=some lb→∃lb0,s0.lb t=some lb0∧(lb0.alike lb∨(t∈dirty∧vY lb0∧vY lb))
 own0:(∀x∈ol,L.getD x true=false)→s.own=s0.own
variable {dirty:List Nat} {D A:Nat→Prop} {ρ:Nat→Nat} {s:St} {L:Array Bool} {a:Act} {w:World}
theorem DInv.congr{D' A':Nat→Prop}(h:DInv C E ops ml ol al s0 dirty D A ρ s L a w)(hD:∀i,D i↔D' i)(hA:∀i,A i↔A' i):DInv C E ops ml ol al s0 dirty D' A' ρ s L a w:=by
 have e1:D=D':=funext fun i=>propext (hD i)
 have e2:A=A':=funext fun i=>propext (hA i)
 rw[←e1,←e2];exact h
theorem DInv.know(h:DInv C E ops ml ol al s0 dirty D A ρ s L a w){s1:St}(hR:Rel E a w s1)(hk:qLw s s1):DInv C E ops ml ol al s0 dirty D A ρ s1 L a w:=by
 rcases hk with rfl|⟨d,b,hd,rfl⟩
 ·exact h
 ·refine { h with rel := hR, nodst := fun j hj hD o d' ho hd' => ?_, v0 := fun i sv hi => ?_ }
  ·simp only [St.put, aM]
   have:=h.nodst j hj hD o d' ho hd'
   rw[if_neg (fun e=>by subst e;rw[hd]at this;cases this)]
   exact this
  ·simp only [St.put, aM] at hi
   split at hi
   ·cases hi;trivial
   ·exact h.v0 i sv hi
theorem DInv.envOk(h:DInv C E ops ml ol al s0 dirty D A ρ s L a w)(i:Nat):nN (rO ops.toList ml ol s0 s i) a:=by
 intro k sv hk
 obtain⟨h1,h2⟩:=h.rel.env k sv hk
 refine⟨h1,?_⟩
 have hv:=h.v0 k sv hk
 cases sv with
 |loc t r off=>
  refine⟨Nat.lt_of_lt_of_le h2.1 (Nat.le_add_left _ _),fun lb hl=>?_⟩
  obtain⟨g1,_,r',cs,ty,rfl⟩:=fW hl
  rw[hv r' cs ty g1]
  exact⟨cs,ty,rfl⟩
 |row t b n c=>
  refine⟨Nat.lt_of_lt_of_le h2.1 (Nat.le_add_left _ _),fun lb hl=>?_⟩
  obtain⟨g1,_,r',cs,ty,rfl⟩:=fW hl
  exact absurd g1 (hv r' cs ty)
 |rel t b e j o=>
  refine⟨Nat.lt_of_lt_of_le h2.1 (Nat.le_add_left _ _),fun lb hl=>?_⟩
  obtain⟨g1,_,r',cs,ty,rfl⟩:=fW hl
  exact absurd g1 (hv r' cs ty)
 |elem ad cs off=>exact hv
 |val v=>trivial
 |kn b=>trivial
theorem qFh(hb0:sI s0)(i:Nat):sI (rO ops.toList ml ol s0 s i):=by
 intro t r cs ty hl sv hsv
 obtain⟨g1,_,_⟩:=fW hl
 have h:=hb0 t r cs ty g1 sv hsv
 cases sv with
 |loc u r' off=>exact⟨Nat.lt_of_lt_of_le h.1 (Nat.le_add_right _ _),fun lb hl=>h.2 lb (fW hl).1⟩
 |row u b n c=>exact⟨Nat.lt_of_lt_of_le h.1 (Nat.le_add_right _ _),fun lb hl=>h.2 lb (fW hl).1⟩
 |rel u b e j o=>exact⟨Nat.lt_of_lt_of_le h.1 (Nat.le_add_right _ _),fun lb hl=>h.2 lb (fW hl).1⟩
 |elem ad cs' off=>exact h
 |val v=>trivial
 |kn b=>trivial
theorem DInv.orig(h:DInv C E ops ml ol al s0 dirty D A ρ s L a w)(hb0:sI s0){i:Nat}{sv:SV}(ho:Orig (rO ops.toList ml ol s0 s i) sv):qC dirty sv=true→aW s sv∧V0 s0 sv:=by
 induction ho with
 |val v=>exact fun _=>⟨trivial,trivial⟩
 |kn b=>exact fun _=>⟨trivial,trivial⟩
 |env hk=>exact fun _=>⟨(h.rel.env _ _ hk).2,h.v0 _ _ hk⟩
 |locOff _ ih=>exact fun hc=>ih hc
 |elemOff _ ih=>exact fun hc=>ih hc
 |relOff _ ih=>exact fun hc=>ih hc
 |elem hc=>exact fun _=>⟨fun j v hj=>h.le.cell (hc j v hj),hc⟩
 |rel hr hl=>
  intro _
  obtain⟨_,_,r,cs,ty,e⟩:=fW hl
  cases e
 | @cell t r cs ty sv hl hm=>
  intro hc
  obtain⟨g1,_,_⟩:=fW hl
  have hsv:=hb0 t r cs ty g1 sv hm
  cases sv with
  |loc u r' off=>
   refine⟨⟨Nat.lt_of_lt_of_le hsv.1 h.nx,fun lb hlb=>?_⟩,fun r2 cs2 ty2 g=>?_⟩
   ·obtain ⟨lb0, k1, k2⟩ := h.stay u lb hsv.1 hlb
    obtain⟨cs3,ty3,rfl⟩:=hsv.2 lb0 k1
    rcases k2 with k2|⟨_,⟨_,_,_,_,_,k3⟩,_⟩
    ·cases lb <;> simp only [LB.alike] at k2
     subst k2
     exact⟨_,_,rfl⟩
    ·cases k3
   ·obtain ⟨_, _, e⟩ := hsv.2 _ g
    cases e;rfl
  |row u b n c=>
   simp only[qC,Bool.not_eq_true',memN_false]at hc
   refine⟨⟨Nat.lt_of_lt_of_le hsv.1 h.nx,fun lb hlb=>?_⟩,fun r2 cs2 ty2 g=>?_⟩
   ·obtain ⟨lb0, k1, k2⟩ := h.stay u lb hsv.1 hlb
    obtain⟨ty3,es3,xs3,rfl,hn⟩:=hsv.2 lb0 k1
    rcases k2 with k2|⟨k2,_⟩
    ·cases lb <;> simp only [LB.alike] at k2
     obtain⟨rfl,rfl,rfl,k3⟩:=k2
     exact⟨_,_,_,rfl,by omega⟩
    ·exact absurd k2 hc
   ·obtain ⟨_, _, _, e, _⟩ := hsv.2 _ g
    cases e
  |rel u b e j o=>
   simp only[qC,Bool.not_eq_true',memN_false]at hc
   refine⟨⟨Nat.lt_of_lt_of_le hsv.1 h.nx,fun lb hlb=>?_⟩,fun r2 cs2 ty2 g=>?_⟩
   ·obtain ⟨lb0, k1, k2⟩ := h.stay u lb hsv.1 hlb
    obtain⟨cap3,ty3,xs3,rfl,hn⟩:=hsv.2 lb0 k1
    rcases k2 with k2|⟨k2,_⟩
    ·cases lb <;> simp only [LB.alike] at k2
     obtain⟨rfl,rfl,rfl,k3⟩:=k2
     exact⟨_,_,_,rfl,by omega⟩
    ·exact absurd k2 hc
   ·obtain ⟨_, _, _, e, _⟩ := hsv.2 _ g
    cases e
  |elem ad cs' off=>exact⟨fun j v hj=>h.le.cell (hsv j v hj),hsv⟩
  |val v=>exact⟨trivial,trivial⟩
  |kn b=>exact⟨trivial,trivial⟩
theorem fU{L:Array Bool}{i:Nat}(h:i<L.size):(L.setIfInBounds i true).getD i true=true:=by
 simp[h]
theorem qHp{L:Array Bool}{n i:Nat}{D A:Nat→Prop}(hs:L.size=n)(hi:i<n)(h:∀k,k<n→(L.getD k true=true↔D k∨A k)):∀k,k<n→((L.setIfInBounds i true).getD k true=true↔k=i∨D k∨A k):=by
 intro k hk
 by_cases e:k=i
 ·subst e;simp only[true_or,iff_true];exact fU (by omega)
 ·rw [getD_set_ne true (fun h => e h.symm), h k hk]
  simp[e]
theorem DInv.done(h:DInv C E ops ml ol al s0 dirty D A ρ s L a w)(hal:AlOk C ops al){i:Nat}{o:Oper}(hi:ops[i]? =some o)(hna:i∉al)(hready:i∈Region.ready .any ops L)
  {s':St} {v:Value} {w':World} {dirty':List Nat} (hR:Rel E (a.put o.dst v) w' s')
  (hlbs:∀r,r<w.heap.size→s.mem r=none→s.own r=none→(∀t lb,s.lb t=some lb→lb.blk?≠some r)→s'.mem r=none∧s'.own r=none∧∀t lb,s'.lb t=some lb→lb.blk?≠some r)
  (hheap:∀b,b<w.heap.size→s.own b=none→(∀t lb,s.lb t=some lb→lb.blk?≠some b)→w'.heap[b]? =w.heap[b]?) (hown:i∉ol→s'.own=s.own)
  (henv:∀d,o.dst≠some d→bD s.env d=none→bD s'.env d=none) (hss:SS s0 ml ol (L.setIfInBounds i true) w') (hle:s.mem.Le s'.mem)
  (hv0:∀i sv,bD s'.env i=some sv→V0 s0 sv) (hnx:s.nxt≤s'.nxt)
  (hb:∀t r cs ty,s.lb t=some (.cells r cs ty)→(∃cs' ty',s'.lb t=some (.cells r cs' ty'))∨s'.mem r≠none)
  (hstay:∀t lb,t<s0.nxt→s'.lb t=some lb→∃lb0,s0.lb t=some lb0∧(lb0.alike lb∨(t∈dirty'∧vY lb0∧vY lb))):
  DInv C E ops ml ol al s0 dirty' (fun k=>k=i∨D k) A ρ s' (L.setIfInBounds i true) (a.put o.dst v) w':=by
 have hlt:i<ops.size:=(Array.getElem?_eq_some_iff.1 hi).1
 refine⟨hR,by simp[h.size],fun k hk=>?_,h.closed.set hready,fun j hj=>⟨(h.sub j hj).1,fun e=>?_⟩,fun j hj=>?_,h.inj,fun j hj hD oj d hoj hd=>?_,hss,h.le.trans hle,hv0,Nat.le_trans h.nx hnx,fun t r cs ty g=>?_,hstay,fun hx=>?_⟩
 ·rw [qHp h.size hlt h.lst k hk]
  exact or_assoc.symm
 ·rcases e with rfl | e
  ·exact hna (h.sub j hj).1
  ·exact(h.sub j hj).2 e
 ·obtain ⟨oj, t, d, ti, g1, g2, g3, g4, g5, g6, g7, g8, g9, g10⟩ := h.pend j hj
  have hjal:=(h.sub j hj).1
  have hne:o.dst≠some d:=hal.sole j hjal oj d g1 g3 i o hi (fun e=>hna (e ▸ hjal))
  have hr:ρ j<w.heap.size:=(Array.getElem?_eq_some_iff.1 g6).1
  obtain⟨k1,k0,k2⟩:=hlbs _ hr g7 g8 g9
  refine⟨oj,t,d,ti,g1,g2,g3,g4,?_,?_,k1,k0,k2,g10⟩
  ·cases hd : o.dst with
   |none=>exact g5
   |some d'=>
    simp only[Act.put,Array.getElem?_setIfInBounds]
    rw[if_neg (fun e=>hne (by rw[hd,e]))]
    exact g5
  ·rw[hheap _ hr g8 g9];exact g6
 ·have hjD : ¬ D j := fun e => hD (.inr e)
  exact henv d (hal.sole j hj oj d hoj hd i o hi (fun e=>hD (.inl e.symm))) (h.nodst j hj hjD oj d hoj hd)
 ·rcases h.b0 t r cs ty g with ⟨cs', ty', g⟩ | g
  ·exact hb _ _ _ _ g
  ·refine .inr ?_
   cases hm:s.mem r with
   |none=>exact absurd hm g
   |some o=>rw[hle _ _ hm];simp
 ·have hi':i∉ol:=fun e=>by
   have:=hx i e
   rw[fU (by rw[h.size];exact hlt)]at this
   cases this
  rw[hown hi']
  exact h.own0 fun x hxo=>by
   have:=hx x hxo
   have hne:i≠x:=fun e=>hi' (by rw[e];exact hxo)
   rwa [getD_set_ne true hne]at this
end
end Go.Vx
namespace Go.Vx
section
variable {C:Cx} {E:Ent} {ops:Array Oper} {ml:List (Nat×Nat)} {ol:List Nat} {al:List Nat} {s0:St}
variable {dirty:List Nat} {D A:Nat→Prop} {ρ:Nat→Nat} {s:St} {L:Array Bool} {a:Act} {w:World}
theorem Rel.allocW(hR:Rel E a w s)(o:Obj):Rel E a (w.alloc o) s:=by
 have hk:∀b,b<w.heap.size→(w.alloc o).heap[b]? =w.heap[b]?:=fun b hb=>Go.RowKit.Below.heap_alloc w o b hb
 refine⟨hR.defers,hR.size,hR.env,hR.cells,⟨fun b x hb=>by rw[hk b (hR.sees.1.lt (by simp[hb]))];exact hR.sees.1 b x hb,fun t lb h=>LB.fits_congr (fun r hr=>hk r (LB.fits_lt (hR.sees.2 t lb h) hr)) (hR.sees.2 t lb h)⟩,hR.nxt,hR.place,hR.sep,⟨fun b x hb=>by rw[hk b (hR.own.1.lt (by simp[hb]))];exact hR.own.1 b x hb,hR.own.2⟩,hR.mono,hR.fresh,by have:=hR.grow;simp;omega,fun b hb h0=>by rw[hk b (Nat.lt_of_lt_of_le hb hR.grow)];exact hR.keep b hb h0,hR.os,hR.tape,hR.output⟩
theorem Rel.putFree(hR:Rel E a w s){d:Nat}(hd:bD s.env d=none)(v:Value):Rel E (a.put (some d) v) w s:=by
 refine {hR with size:=by simp[Act.put,hR.size],env:=fun i sv h=>⟨?_,(hR.env i sv h).2⟩}
 simp only[Act.put,Array.getElem?_setIfInBounds]
 rw[if_neg (fun e=>by subst e;rw[hd]at h;cases h)]
 exact(hR.env i sv h).1
theorem Rel.adopt(hR:Rel E a w s){d r:Nat}{t:TypeId}{z:List SV}(hd:a.tmps[d]? =some (.pointer (some ⟨r,0,none⟩)))(hz:∀sv∈z,aW s sv)(hh:w.heap[r]? =some (.cells (z.map SV.conc).toArray t (0,0)))
  (h1:s.mem r=none) (h2:s.own r=none) (h3:∀u lb,s.lb u=some lb→lb.blk?≠some r) (h4:E.w0.heap.size≤r):Rel E a w ((s.newB (.cells r z t)).put (some d) (.loc s.nxt r 0)):=by
 have hlb:∀u,St.lb ((s.newB (.cells r z t)).put (some d) (.loc s.nxt r 0)) u=if u=s.nxt then some (.cells r z t)else s.lb u:=fun u=>cP s _ u
 have hok:∀sv,aW s sv→aW ((s.newB (.cells r z t)).put (some d) (.loc s.nxt r 0)) sv:=fun sv h=>eF (s:=s) (Nat.le_succ _) (Mem.Le.refl _) (fun u lb' hu hl=>by
  rw[hlb,if_neg (by omega)]at hl
  exact⟨lb',hl,lb'.alike_refl⟩) h
 refine⟨hR.defers,hR.size,fun i sv h=>?_,fun u r' cs ty h sv hsv=>?_,⟨hR.sees.1,fun u lb h=>?_⟩,fun u lb h=>?_,fun u lb r' h hr=>?_,fun u u' lb lb' r' h h' hr hr'=>?_,hR.own,hR.mono,hR.fresh,hR.grow,hR.keep,hR.os,hR.tape,hR.output⟩
 ·simp only [St.put, aM] at h
  split at h
  ·rename_i e
   cases h
   subst e
   refine⟨hd,Nat.lt_succ_self _,fun lb hl=>?_⟩
   rw[hlb,if_pos rfl]at hl
   cases hl
   exact⟨_,_,rfl⟩
  ·obtain ⟨g1, g2⟩ := hR.env i sv h
   exact⟨g1,hok _ g2⟩
 ·rw [hlb] at h
  split at h
  ·cases h;exact hok _ (hz sv hsv)
  ·exact hok _ (hR.cells u r' cs ty h sv hsv)
 ·rw [hlb] at h
  split at h
  ·cases h;exact hh
  ·exact hR.sees.2 u lb h
 ·rw [hlb] at h
  split at h
  ·rename_i e;subst e;exact Nat.lt_succ_self _
  ·exact Nat.lt_succ_of_lt (hR.nxt u lb h)
 ·rw [hlb] at h
  split at h
  ·cases h
   simp only[LB.blk?,Option.some.injEq]at hr
   subst hr
   exact⟨h1,h2,.inl h4⟩
  ·exact hR.place u lb r' h hr
 ·rw [hlb] at h h'
  split at h
  ·rename_i e
   cases h
   simp only[LB.blk?,Option.some.injEq]at hr
   subst hr
   split at h'
   ·rename_i e';rw[e,e']
   ·exact absurd hr' (h3 u' lb' h')
  ·split at h'
   ·cases h'
    simp only[LB.blk?,Option.some.injEq]at hr'
    subst hr'
    exact absurd hr (h3 u lb h)
   ·exact hR.sep u u' lb lb' r' h h' hr hr'
theorem DInv.born(h:DInv C E ops ml ol al s0 dirty D A ρ s L a w)(hal:AlOk C ops al){j:Nat}{o:Oper}{t d:Nat}{ti:TI}(hj:j∈al)(hjD:¬D j)(hjA:¬A j)(ho:ops[j]? =some o)(hop:o.op= .alloc t)(hd:o.dst=some d)(hdn:d<E.n)(hti:bD C.tt t=some ti)
  (hnml:∀t,(j,t)∉ml) (hnol:j∉ol) (hready:j∈Region.ready .any ops L):
  DInv C E ops ml ol al s0 dirty D (fun k=>k=j∨A k) (fun k=>if k=j then w.heap.size else ρ k) s (L.setIfInBounds j true) (a.put o.dst (.pointer (some ⟨w.heap.size,0,none⟩))) (w.alloc (.cells ti.zero.toArray t)):=by
 have hlt:j<ops.size:=(Array.getElem?_eq_some_iff.1 ho).1
 have hkp:∀b,b<w.heap.size→(w.alloc (.cells ti.zero.toArray t)).heap[b]? =w.heap[b]?:=fun b hb=>Go.RowKit.Below.heap_alloc w _ b hb
 have hnd:=h.nodst j hj hjD o d ho hd
 refine⟨?_,by simp[h.size],fun k hk=>?_,h.closed.set hready,fun k hk=>?_,fun k hk=>?_,fun x y hx hy e=>?_,h.nodst,?_,h.le,h.v0,h.nx,h.b0,h.stay,fun hx=>h.own0 fun x hxo=>by have:=hx x hxo;have hne:j≠x:=(fun e=>hnol (by rw[e];exact hxo));rwa [getD_set_ne true hne]at this⟩
 ·rw [hd]
  exact(h.rel.allocW _).putFree hnd _
 ·rw [qHp h.size hlt h.lst k hk]
  constructor
  ·rintro (e | e | e)
   ·exact .inr (.inl e)
   ·exact .inl e
   ·exact .inr (.inr e)
  ·rintro (e | e | e)
   ·exact .inr (.inl e)
   ·exact .inl e
   ·exact .inr (.inr e)
 ·rcases hk with rfl | hk
  ·exact⟨hj,hjD⟩
  ·exact h.sub k hk
 ·by_cases e : k = j
  ·subst e
   refine⟨o,t,d,ti,ho,hop,hd,hti,?_,?_,?_,?_,?_,?_⟩
   ·simp only [if_true, hd, Act.put, Array.getElem?_setIfInBounds]
    rw[if_pos (by rw[h.rel.size];exact hdn)]
   ·simp only[if_true];exact dK w _
   ·simp only[if_true];exact(h.rel.mem_none (Nat.le_refl _)).1
   ·simp only[if_true];exact(h.rel.mem_none (Nat.le_refl _)).2
   ·simp only [if_true]
    intro u lb hl hr
    have:=LB.fits_lt (h.rel.sees.2 u lb hl) hr
    omega
   ·simp only[if_true];exact h.rel.grow
  ·have hA : A k := hk.resolve_left e
   obtain⟨ok,t',d',ti',g1,g2,g3,g4,g5,g6,g7,g8,g9,g10⟩:=h.pend k hA
   simp only[if_neg e]
   have hr:ρ k<w.heap.size:=(Array.getElem?_eq_some_iff.1 g6).1
   refine⟨ok,t',d',ti',g1,g2,g3,g4,?_,by rw[hkp (ρ k) hr];exact g6,g7,g8,g9,g10⟩
   have hne:o.dst≠some d':=hal.sole k (h.sub k hA).1 ok d' g1 g3 j o ho (fun x=>e x.symm)
   simp only[hd,Act.put,Array.getElem?_setIfInBounds]
   rw[if_neg (fun x=>hne (by rw[hd,x]))]
   exact g5
 ·have hb:∀k,A k→ρ k≠w.heap.size:=fun k hk=>by
   obtain⟨_,_,_,_,_,_,_,_,_,g6,_⟩:=h.pend k hk
   have:=(Array.getElem?_eq_some_iff.1 g6).1
   omega
  split at e<;>split at e<;>rename_i e1 e2
  ·rw[e1,e2]
  ·exact absurd e.symm (hb y (hy.resolve_left e2))
  ·exact absurd e (hb x (hx.resolve_left e1))
  ·exact h.inj x y (hx.resolve_left e1) (hy.resolve_left e2) e
 ·rw [mB hnml hnol]
  refine⟨fun b x hb=>by rw[hkp b (h.ss.1.lt (by simp[hb]))];exact h.ss.1 b x hb,fun t r cs ty g1 g2=>?_,fun hx b o hb=>?_⟩
  ·have := h.ss.2.1 t r cs ty g1 g2
   exact LB.fits_congr (fun r' hr'=>hkp r' (LB.fits_lt this hr')) this
  ·have := h.ss.2.2 hx
   rw[hkp b (this.lt (by simp[hb]))]
   exact this b o hb
theorem DInv.adopt(h:DInv C E ops ml ol al s0 dirty D A ρ s L a w)(hal:AlOk C ops al)(hs0:∀t lb,s0.lb t=some lb→t<s0.nxt)(hos0:C.os=[]){j:Nat}{o:Oper}(hA:A j)(ho:ops[j]? =some o){K:St→Prop}(hv:qGu C o s K):
  ∃s',K s'∧DInv C E ops ml ol al s0 dirty (fun k=>k=j∨D k) (fun k=>k≠j∧A k) ρ s' L a w:=by
 obtain⟨oj,t,d,ti,g1,g2,g3,g4,g5,g6,g7,g8,g9,g10⟩:=h.pend j hA
 rw[ho]at g1
 cases g1
 obtain⟨_,hv⟩:=gZ hv
 simp only[g2]at hv
 obtain⟨ti',k1,k2⟩:=aO hv
 rw[g4]at k1
 cases k1
 have hmo:qNn o.dst C.os=false:=by rw[hos0,g3];rfl
 simp only[hmo]at k2
 rw[pG]at k2
 have k3:=k2 (ρ j)
 rw[jP,bI,g3]at k3
 have hlb:∀u,St.lb ((s.newB (.cells (ρ j) (vals ti.zero) t)).put (some d) (.loc s.nxt (ρ j) 0)) u=if u=s.nxt then some (.cells (ρ j) (vals ti.zero) t)else s.lb u:=fun u=>cP s _ u
 refine⟨_,k3,h.rel.adopt g5 (fun sv hsv=>vals_ok s _ sv hsv) (by rw[gY];exact g6) g7 g8 g9 g10,h.size,fun k hk=>?_,h.closed,fun k hk=>?_,fun k hk=>?_,fun x y hx hy=>h.inj x y hx.2 hy.2,fun k hk hD ok d' hok hd'=>?_,h.ss,h.le,fun i sv hi=>?_,Nat.le_succ_of_le h.nx,fun u r cs ty g=>?_,fun u lb hu hl=>?_,h.own0⟩
 ·rw [h.lst k hk]
  by_cases e:k=j
  ·subst e;simp[hA]
  ·simp[e]
 ·refine ⟨(h.sub k hk.2).1, ?_⟩
  rintro(e|e)
  ·exact hk.1 e
  ·exact(h.sub k hk.2).2 e
 ·obtain ⟨ok, t', d', ti', m1, m2, m3, m4, m5, m6, m7, m8, m9, m10⟩ := h.pend k hk.2
  refine⟨ok,t',d',ti',m1,m2,m3,m4,m5,m6,m7,m8,fun u lb hl hr=>?_,m10⟩
  rw[hlb]at hl
  split at hl
  ·cases hl
   simp only[LB.blk?,Option.some.injEq]at hr
   exact hk.1 (h.inj j k hA hk.2 hr).symm
  ·exact m9 u lb hl hr
 ·have hne : k ≠ j := fun e => hD (.inl e)
  have hD':¬D k:=fun e=>hD (.inr e)
  have hdd:d'≠d:=fun e=>by
   have:=hal.sole k hk ok d' hok hd' j o ho (fun e=>hne e.symm)
   rw[g3,e]at this
   exact this rfl
  simp only[St.put,aM]
  rw[if_neg hdd]
  exact h.nodst k hk hD' ok d' hok hd'
 ·simp only [St.put, aM] at hi
  split at hi
  ·cases hi
   intro r' cs ty g
   have:=hs0 _ _ g
   have:=h.nx
   omega
  ·exact h.v0 i sv hi
 ·rcases h.b0 u r cs ty g with ⟨cs', ty', k⟩ | k
  ·refine .inl ⟨cs', ty', ?_⟩
   rw[hlb,if_neg (by have:=h.rel.nxt _ _ k;omega)]
   exact k
  ·exact .inr k
 ·rw [hlb, if_neg (by have := h.nx; omega)] at hl
  exact h.stay u lb hu hl
theorem DInv.adoptAll(hal:AlOk C ops al)(hs0:∀t lb,s0.lb t=some lb→t<s0.nxt)(hos0:C.os=[]):∀(js:List Nat) {D A:Nat→Prop} {s:St} {K:St→Prop},DInv C E ops ml ol al s0 dirty D A ρ s L a w→(∀j∈js,A j)→js.Nodup→vO C ops.toList js s K→
  ∃s',K s'∧DInv C E ops ml ol al s0 dirty (fun k=>k∈js∨D k) (fun k=>k∉js∧A k) ρ s' L a w
 |[],D,A,s,K,h,_,_,hv=>⟨s,hv,h.congr (fun i=>by simp) (fun i=>by simp)⟩
 |j::js,D,A,s,K,h,hA,hn,hv=>by
  simp only[vO]at hv
  split at hv
  ·rename_i o ho
   obtain⟨hn1,hn2⟩:=List.nodup_cons.1 hn
   obtain⟨s1,k1,h1⟩:=h.adopt hal hs0 hos0 (hA j (by simp)) (by simpa using ho) hv
   obtain⟨s2,k2,h2⟩:=DInv.adoptAll hal hs0 hos0 js h1 (fun k hk=>⟨fun e=>hn1 (e ▸ hk),hA k (by simp[hk])⟩) hn2 k1
   refine⟨s2,k2,h2.congr (fun i=>?_) (fun i=>?_)⟩
   ·simp only [List.mem_cons]
    constructor
    ·rintro (e | e | e)
     ·exact .inl (.inr e)
     ·exact .inl (.inl e)
     ·exact .inr e
    ·rintro ((e | e) | e)
     ·exact .inr (.inl e)
     ·exact .inl e
     ·exact .inr (.inr e)
   ·simp only [List.mem_cons, not_or]
    constructor
    ·rintro⟨e1,e2,e3⟩;exact⟨⟨e2,e1⟩,e3⟩
    ·rintro⟨⟨e1,e2⟩,e3⟩;exact⟨e2,e1,e3⟩
  ·exact hv.elim
end
end Go.Vx
namespace Go.Vx
section
variable {C:Cx} {E:Ent} {ops:Array Oper} {ml:List (Nat×Nat)} {ol:List Nat} {al:List Nat} {s0:St}
def rem(n:Nat)(L:Array Bool):Nat:=((List.range n).filter fun i=>L.getD i true==false).length
theorem qHq{n i:Nat}{L:Array Bool}(hs:L.size=n)(hi:i<n)(hL:L.getD i true=false):rem n (L.setIfInBounds i true)+1=rem n L:=by
 unfold rem
 have e:((List.range n).filter fun k=>L.getD k true==false)=((List.range n).filter fun k=>k==i||((L.setIfInBounds i true).getD k true==false)):=by
  apply List.filter_congr
  intro k hk
  by_cases hki:k=i
  ·subst hki;simp[hL]
  ·rw [getD_set_ne true (fun e => hki e.symm)]
   simp[hki]
 rw[e]
 have key:∀l:List Nat,l.Nodup→i∈l→(l.filter fun k=>k==i||((L.setIfInBounds i true).getD k true==false)).length=(l.filter fun k=>(L.setIfInBounds i true).getD k true==false).length+1:=by
  have hii:(L.setIfInBounds i true).getD i true=true:=fU (by omega)
  intro l
  induction l with
  |nil=>intro _ h;cases h
  |cons x l ih=>
   intro hn hm
   obtain⟨h1,h2⟩:=List.nodup_cons.1 hn
   by_cases hx:x=i
   ·subst hx
    rw[List.filter_cons_of_pos (by simp),List.filter_cons_of_neg (by simp[hii])]
    simp only[List.length_cons]
    congr 2
    apply List.filter_congr
    intro k hk
    have:k≠x:=fun e=>h1 (e ▸ hk)
    simp[this]
   ·have hm':i∈l:=by
     rcases List.mem_cons.1 hm with e|h
     ·exact absurd e.symm hx
     ·exact h
    have ih:=ih h2 hm'
    by_cases hg:(L.setIfInBounds i true).getD x true=false
    ·rw [List.filter_cons_of_pos (by simp [hg]), List.filter_cons_of_pos (by simp [hg])]
     simp only[List.length_cons,ih]
    ·rw [List.filter_cons_of_neg (by simp [hx]; simpa using hg), List.filter_cons_of_neg (by simpa using hg)]
     exact ih
 exact(key _ List.nodup_range (by simpa using hi)).symm
theorem qLj{n:Nat}{L:Array Bool}(h:rem n L=0)(i:Nat)(hi:i<n):L.getD i true=true:=by
 unfold rem at h
 have:=List.eq_nil_of_length_eq_zero h
 rw[List.filter_eq_nil_iff]at this
 have:=this i (by simpa using hi)
 simpa using this
theorem needOf_spec{done:List Nat}{es:List Edge}:∀{l:List Nat} {j:Nat},j∈cR done es l↔j∈l∧j∉done∧mK j es=true
 |[],j=>by simp[cR]
 |x::r,j=>by
  have ih:=needOf_spec (done:=done) (es:=es) (l:=r) (j:=j)
  simp only[cR]
  split
  ·rename_i h1 h2
   rw[memN_false]at h1
   rw[List.mem_cons,ih,List.mem_cons]
   constructor
   ·rintro (rfl | ⟨a, b⟩)
    ·exact⟨.inl rfl,h1,h2⟩
    ·exact⟨.inr a,b⟩
   ·rintro ⟨rfl | a, b⟩
    ·exact .inl rfl
    ·exact .inr ⟨a,b⟩
  ·rename_i h
   rw[ih,List.mem_cons]
   constructor
   ·rintro⟨a,b⟩;exact⟨.inr a,b⟩
   ·rintro ⟨rfl | a, b1, b2⟩
    ·exact(h (memN_false.2 b1) b2).elim
    ·exact⟨a,b1,b2⟩
theorem kJ{done:List Nat}{es:List Edge}:∀{l:List Nat},l.Nodup→(cR done es l).Nodup
 |[],_=>by simp[cR]
 |x::r,h=>by
  obtain⟨h1,h2⟩:=List.nodup_cons.1 h
  simp only[cR]
  split
  ·exact List.nodup_cons.2 ⟨fun e=>h1 (needOf_spec.1 e).1,kJ h2⟩
  ·exact kJ h2
theorem undone_spec{done:List Nat}:∀{l:List Nat} {j:Nat},j∈gL done l↔j∈l∧j∉done
 |[],j=>by simp[gL]
 |x::r,j=>by
  have ih:=undone_spec (done:=done) (l:=r) (j:=j)
  simp only[gL]
  split
  ·rename_i h
   rw[memN_iff]at h
   rw[ih,List.mem_cons]
   constructor
   ·rintro⟨a,b⟩;exact⟨.inr a,b⟩
   ·rintro ⟨rfl | a, b⟩
    ·exact absurd h b
    ·exact⟨a,b⟩
  ·rename_i h
   rw[memN_false]at h
   rw[List.mem_cons,ih,List.mem_cons]
   constructor
   ·rintro (rfl | ⟨a, b⟩)
    ·exact⟨.inl rfl,h⟩
    ·exact⟨.inr a,b⟩
   ·rintro ⟨rfl | a, b⟩
    ·exact .inl rfl
    ·exact .inr ⟨a,b⟩
theorem gV{done:List Nat}:∀{l:List Nat},l.Nodup→(gL done l).Nodup
 |[],_=>by simp[gL]
 |x::r,h=>by
  obtain⟨h1,h2⟩:=List.nodup_cons.1 h
  simp only[gL]
  split
  ·exact gV h2
  ·exact List.nodup_cons.2 ⟨fun e=>h1 (undone_spec.1 e).1,gV h2⟩
theorem iK:∀{l:List Oper} {k:Nat},(dJ k l).Nodup
 |[],_=>by simp[dJ]
 |o::r,k=>by
  simp only[dJ]
  split
  ·refine List.nodup_cons.2 ⟨fun e => ?_, iK⟩
   obtain⟨_,h,_⟩:=allocIdx_spec.1 e
   omega
  ·exact iK
theorem rK{s0:St}{ml:List (Nat×Nat)}{i:Nat}:∀{l:List Nat},oI s0 ml i l=true→∀t∈l,∀r cs ty,s0.lb t=some (.cells r cs ty)→(i,t)∈ml
 |[],_,t,h=>by cases h
 |u::l,h,t,ht=>by
  intro r cs ty hl
  rcases List.mem_cons.1 ht with rfl|ht
  ·simp only [oI, hl] at h
   split at h
   ·rename_i hm;exact zW hm
   ·cases h
  ·refine rK (l := l) ?_ t ht r cs ty hl
   simp only[oI]at h
   split at h
   ·split at h
    ·exact h
    ·cases h
   ·exact h
theorem qDf{s0 s:St}{d:Nat}{sv:SV}(h:qAn s0 (s.put (some d) sv) (some d)=true):V0 s0 sv:=by
 simp only[qAn,St.put,aM,if_true]at h
 cases sv with
 |val v=>trivial
 |kn b=>trivial
 |elem a cs o=>cases h
 |loc t r off=>
  intro r' cs ty hl
  simp only[hl]at h
  cases h
 |row t b n c=>
  intro r cs ty hl
  simp only[hl]at h
  cases h
 |rel t b e j o=>
  intro r cs ty hl
  simp only[hl]at h
  cases h
variable {dirty:List Nat} {A:Nat→Prop} {ρ:Nat→Nat} {s:St} {L:Array Bool} {a:Act} {w:World}
theorem qEr{n:Nat}{dirty done:List Nat}{s:St}{K:St→Prop}{ops:List Oper}:vcD C ops ml ol al s0 (n+1) dirty done s K=(match oO (lateB ops ol) done 0 ops with
  |some i=>(match ops[i]? with
   | some o => okK (qEu ops.toArray done i o 0 ops) <| xG C.n o.dst <| mA ops o s
     (fun s=>nV C (rO ops ml ol s0 s i) o.op fun sv=>okK (qC dirty sv) <| eG s o.dst sv fun s=>vcD C ops ml ol al s0 n dirty (i::done) s K)
     (fun s=>eG s o.dst (.val undef) fun s=>vcD C ops ml ol al s0 n dirty (i::done) s K)
   |none=>False)
  |none=>(match fS done al 0 ops with
   |[]=>vO C ops (gL done al) s K
   |c::cs=>qIp (c::cs) fun i=>(match ops[i]? with
    | some o => xG C.n o.dst <| vO C ops (cR done o.after.toList al) s fun s => mA ops o s
      (fun s=>okK (oI s0 ml i (jK s o.op)) <| okK (owOk ol i (xE s o.op)) <| qGu C o s fun s'=>okK (qAn s0 s' o.dst) <| vcD C ops ml ol al s0 n (jK s o.op++dirty) (i::(cR done o.after.toList al++done)) s' K)
      (fun s=>eG s o.dst (.val undef) fun s=>vcD C ops ml ol al s0 n dirty (i::(cR done o.after.toList al++done)) s K)
    |none=>False))):=rfl
theorem qJk(htt:TTok C.P C.tt)(hn:C.n=E.n)(hos:C.dr=true→C.os=[])(hdr:C.dr=true)(hol:∀x∈ol,∃o,ops[x]? =some o∧jG o.op=false∧cK o=false)(hsel:∀(j:Nat) (o:Oper) cs b,ops[j]? =some o→o.op≠.select cs b){sm:St}(hml:oN ops.toList sm 0 ops.toList=some ml)(hal:AlOk C ops al)(haln:al.Nodup)
  (hs0:∀t lb,s0.lb t=some lb→t<s0.nxt) (hb0:sI s0) {Q:Exit→Act→World→Prop} (hQ:∀c a a' w,Q (.panic c) a w→Q (.panic c) a' w) {K:St→Prop} (hK:∀a' w' s',K s'→Rel E a' w' s'→Q .normal a' w'):
  ∀(m n:Nat) (dirty done:List Nat) (A:Nat→Prop) (ρ:Nat→Nat) (s:St) (L:Array Bool) (a:Act) (w:World),(∀j∈done,j<ops.size)→rem ops.size L=m→DInv C E ops ml ol al s0 dirty (·∈done) A ρ s L a w→vcD C ops.toList ml ol al s0 n dirty done s K→
   qMc C.P ops Q (SS s0 ml ol) m L a w:=by
 have hstore:∀x t,(x,t)∈ml→∃o ty p q,ops[x]? =some o∧o.op= .store ty p q:=fun x t h=>by
  obtain⟨o,ty,p,q,_,h2,h3⟩:=rW hml x t h
  exact⟨o,ty,p,q,by simpa using h2,h3⟩
 have halml:∀j∈al,∀t,(j,t)∉ml:=fun j hj t h=>by
  obtain⟨o,ty,p,q,h1,h2⟩:=hstore j t h
  obtain⟨o',g1,g2⟩:=(hal.spec j).1 hj
  rw[h1]at g1
  cases g1
  obtain⟨_,_,g3,_⟩:=fE g2
  rw[h2]at g3
  cases g3
 intro m
 induction m with
 |zero=>
  intro n dirty done A ρ s L a w hdn hrem hI hv
  have hall:=qLj hrem
  refine⟨?_,?_⟩
  ·rw [List.eq_nil_iff_forall_not_mem]
   intro j hj
   obtain⟨h0,o,ho,_⟩:=mem_ready.1 hj
   rw[hall j (Array.getElem?_eq_some_iff.1 ho).1]at h0
   cases h0
  ·match n with
   |0=>exact hv.elim
   |n+1=>
    have hda:∀j,j<ops.size→j∉al→j∈done:=fun j hj h=>by
     rcases(hI.lst j hj).1 (hall j hj)with h|h
     ·exact h
     ·exact absurd (hI.sub j h).1 (by assumption)
    rw[qEr]at hv
    split at hv
    ·rename_i i hq
     obtain⟨o,_,h2,h3,h4,_⟩:=mC hq
     have h2:ops[i]? =some o:=by simpa using h2
     exfalso
     refine h4 (hda i (Array.getElem?_eq_some_iff.1 h2).1 fun e=>?_)
     obtain⟨o',g1,g2⟩:=(hal.spec i).1 e
     rw[h2]at g1
     cases g1
     obtain⟨_,_,g3,_⟩:=fE g2
     rw[g3]at h3
     cases h3
    ·have hc:fS done al 0 ops.toList=[]:=by
      rw[List.eq_nil_iff_forall_not_mem]
      intro j hj
      obtain⟨o,_,h2,h3,h4,_⟩:=candsOf_spec.1 hj
      exact h3 (hda j (Array.getElem?_eq_some_iff.1 (show ops[j]? =some o by simpa using h2)).1 h4)
     rw[hc]at hv
     simp only at hv
     obtain⟨s',k1,h1⟩:=hI.adoptAll hal hs0 (hos hdr) (gL done al) (fun j hj=>by
      obtain⟨g1,g2⟩:=undone_spec.1 hj
      obtain⟨o',g3,_⟩:=(hal.spec j).1 g1
      have hj:j<ops.size:=(Array.getElem?_eq_some_iff.1 g3).1
      exact((hI.lst j hj).1 (hall j hj)).resolve_left g2) (gV haln) hv
     exact hK _ _ _ k1 h1.rel
 |succ m ih=>
  intro n dirty done A ρ s L a w hdn hrem hI hv
  match n with
  |0=>exact hv.elim
  |n+1=>
   have hv0:=hv
   rw[qEr]at hv
   split at hv
   ·-- an operation that only reads is taken first
    rename_i i hq
    obtain⟨o,_,h2,h3,h4,h5⟩:=mC hq
    have h2:ops[i]? =some o:=by simpa using h2
    have hio:ops.toList[i]? =some o:=by simpa using h2
    simp only[hio]at hv
    obtain⟨hfree,hv⟩:=hZ hv
    obtain⟨hd,hv⟩:=gZ hv
    rw[hn]at hd
    have hlt:i<ops.size:=(Array.getElem?_eq_some_iff.1 h2).1
    have hna:i∉al:=fun e=>by
     obtain⟨o',g1,g2⟩:=(hal.spec i).1 e
     rw[h2]at g1
     cases g1
     obtain⟨_,_,g3,_⟩:=fE g2
     rw[g3]at h3
     cases h3
    have hun:L.getD i true=false:=by
     cases hL:L.getD i true with
     |false=>rfl
     |true=>
      rcases(hI.lst i hlt).1 hL with h|h
      ·exact absurd h h4
      ·exact absurd (hI.sub i h).1 hna
    have hready:i∈Region.ready .any ops L:=mem_ready.2 ⟨hun,o,h2,fun e he hb=>by
     have hm:=depsIn_iff.1 h5 e (by simpa using he) hb
     by_cases hes:e.on<ops.size
     ·have := (hI.lst e.on hes).2 (.inl hm)
      have hsz:e.on<L.size:=by rw[hI.size];exact hes
      simpa[hsz]using this
     ·exact absurd (hdn _ hm) hes⟩
    have himl:∀t,(i,t)∉ml:=fun t h=>by
     obtain⟨o',ty,p,q,g1,g2⟩:=hstore i t h
     rw[h2]at g1
     cases g1
     rw[g2]at h3
     cases h3
    have hiol:i∉ol:=fun e=>by
     obtain⟨o',g1,g2,_⟩:=hol i e
     rw[h2]at g1
     cases g1
     rw[h3]at g2
     cases g2
    have hrem':rem ops.size (L.setIfInBounds i true)=m:=by have:=qHq hI.size hlt hun;omega
    have hfree':∀j oj,ops[j]? =some oj→j≠i→L.getD j true=false→(∀e∈oj.after,Region.binds .any e=true→e.on≠i)→o.apart ops oj=true:=fun j oj hj hji hL hno=>
     uR (ops:=ops) (by simpa using hfree) j oj (Nat.zero_le _) (by simpa using hj) (fun e=>by
      rw[(hI.lst j (Array.getElem?_eq_some_iff.1 hj).1).2 (.inl e)]at hL;cases hL) hji hno
    rcases lC hI.rel hv with⟨hw,s1,k1,hR1,hk⟩|⟨hw,s1,k1,hR1,hk⟩
    ·have hI1 := hI.know hR1 hk
     obtain⟨sv,⟨k2,k3⟩,k4,k5⟩:=sA htt (hI1.envOk i) (qFh hb0 i) (qFy k1)
     obtain⟨hcl,k2⟩:=hZ k2
     rw[bI]at k2
     obtain⟨g1,g2⟩:=hI1.orig hb0 k3 hcl
     refine tX h2 hsel (fun c a' w' h=>hQ c _ _ _ h) (fun L w=>mB himl hiol L w) m L a w hfree' hI.closed hready (.inl ⟨hw,fun w' hp=>k5 w' (qJd hp)⟩) hI.ss ?_
     refine ih n dirty (i::done) A ρ _ _ _ w (fun k hk=>(List.mem_cons.1 hk).elim (fun e=>e ▸ hlt) (hdn k)) hrem' ?_ k2
     refine(hI1.done hal h2 hna hready (s':=s1.put o.dst sv) (v:=sv.conc) (w':=w) (dirty':=dirty) (hR1.put hd g1) (fun r _ h1 h0 h2=>?_) (fun _ _ _ _=>rfl) (fun _=>?_) (fun d hdd hnone=>?_) ((mB himl hiol L w).2 hI.ss) ?_ (fun k x hx=>?_) ?_ (fun t r cs ty h=>?_) (fun t lb ht h=>?_)).congr (fun k=>by simp) (fun k=>Iff.rfl)
     ·cases hdst:o.dst<;>exact⟨h1,h0,h2⟩
     ·cases o.dst<;>rfl
     ·cases hdst : o.dst with
      |none=>exact hnone
      |some d'=>
       simp only[St.put,aM]
       rw[if_neg (fun e=>hdd (by rw[hdst,e]))]
       exact hnone
     ·cases o.dst<;>exact Mem.Le.refl _
     ·cases hdst : o.dst with
      |none=>rw[hdst]at hx;exact hI1.v0 k x hx
      |some d'=>
       rw[hdst]at hx
       simp only[St.put,aM]at hx
       split at hx
       ·cases hx;exact g2
       ·exact hI1.v0 k x hx
     ·cases o.dst<;>exact Nat.le_refl _
     ·cases o.dst<;>exact .inl ⟨_,_,h⟩
     ·cases hdst:o.dst<;>(rw[hdst]at h;exact hI1.stay t lb ht h)
    ·have hI1 := hI.know hR1 hk
     rw[bI]at k1
     refine tX h2 hsel (fun c a' w' h=>hQ c _ _ _ h) (fun L w=>mB himl hiol L w) m L a w hfree' hI.closed hready (.inr ⟨hw,rfl⟩) hI.ss ?_
     refine ih n dirty (i::done) A ρ _ _ _ w (fun k hk=>(List.mem_cons.1 hk).elim (fun e=>e ▸ hlt) (hdn k)) hrem' ?_ k1
     refine(hI1.done hal h2 hna hready (s':=s1.put o.dst (.val undef)) (v:=undef) (w':=w) (dirty':=dirty) (hR1.put (sv:= .val undef) hd trivial) (fun r _ h1 h0 h2=>?_) (fun _ _ _ _=>rfl) (fun _=>?_) (fun d hdd hnone=>?_) ((mB himl hiol L w).2 hI.ss) ?_ (fun k x hx=>?_) ?_ (fun t r cs ty h=>?_) (fun t lb ht h=>?_)).congr (fun k=>by simp) (fun k=>Iff.rfl)
     ·cases hdst:o.dst<;>exact⟨h1,h0,h2⟩
     ·cases o.dst<;>rfl
     ·cases hdst : o.dst with
      |none=>exact hnone
      | some d' =>
        simp only[St.put,aM]
        rw[if_neg (fun e=>hdd (by rw[hdst,e]))]
        exact hnone
     ·cases o.dst<;>exact Mem.Le.refl _
     ·cases hdst : o.dst with
      |none=>rw[hdst]at hx;exact hI1.v0 k x hx
      |some d'=>
       rw[hdst]at hx
       simp only[St.put,aM]at hx
       split at hx
       ·cases hx;trivial
       ·exact hI1.v0 k x hx
     ·cases o.dst<;>exact Nat.le_refl _
     ·cases o.dst<;>exact .inl ⟨_,_,h⟩
     ·cases hdst:o.dst<;>(rw[hdst]at h;exact hI1.stay t lb ht h)
   ·-- the one that comes next,or new variables
    have hready:∀j∈al,L.getD j true=false→j∈Region.ready .any ops L:=fun j hj h=>by
     obtain⟨o,g1,g2⟩:=(hal.spec j).1 hj
     obtain⟨_,_,_,_,_,g3⟩:=fE g2
     refine mem_ready.2 ⟨h,o,g1,fun e he=>?_⟩
     have:o.after= #[]:=by apply Array.ext';simpa using g3
     rw[this]at he
     simp at he
    have hlisted:∀{j},L.getD j false=true→j∈done∨A j:=fun {j} h=>by
     have hj:j<L.size:=by
      rcases Nat.lt_or_ge j L.size with h'|h'
      ·exact h'
      ·simp[Array.getElem?_eq_none h']at h
     exact(hI.lst j (by rw[←hI.size];exact hj)).1 (by simpa[hj]using h)
    have hlist:∀{j},j<ops.size→(j∈done∨A j)→L.getD j false=true:=fun {j} hj h=>by
     have:=(hI.lst j hj).2 h
     have hsz:j<L.size:=by rw[hI.size];exact hj
     simpa[hsz]using this
    refine⟨fun hr=>?_,fun j hj=>?_⟩
    ·-- all have come up
     have hall:∀j∈al,j∉done→A j:=fun j hj hd=>by
      obtain⟨o,g1,_⟩:=(hal.spec j).1 hj
      cases hL:L.getD j true with
      |false=>have:=hready j hj hL;rw[hr]at this;cases this
      |true=>exact((hI.lst j (Array.getElem?_eq_some_iff.1 g1).1).1 hL).resolve_left hd
     split at hv
     ·obtain ⟨s', k1, h1⟩ := hI.adoptAll hal hs0 (hos hdr) (gL done al) (fun j hj => hall j (undone_spec.1 hj).1 (undone_spec.1 hj).2) (gV haln) hv
      exact hK _ _ _ k1 h1.rel
     ·rename_i i cs hc
      exfalso
      have hi:i∈fS done al 0 ops.toList:=by rw[hc];simp
      obtain⟨o,_,g1,g2,g3,g4⟩:=candsOf_spec.1 hi
      have g1:ops[i]? =some o:=by simpa using g1
      have hir:i∈Region.ready .any ops L:=by
       refine mem_ready.2 ⟨?_,o,g1,fun e he hb=>?_⟩
       ·cases hL : L.getD i true with
        |false=>rfl
        |true=>
         rcases(hI.lst i (Array.getElem?_eq_some_iff.1 g1).1).1 hL with h|h
         ·exact absurd h g2
         ·exact absurd (hI.sub i h).1 g3
       ·have hm := depsIn_iff.1 g4 e (by simpa using he) hb
        by_cases hd:e.on∈done
        ·exact hlist (hdn _ hd) (.inl hd)
        ·have ha : e.on ∈ al := (List.mem_append.1 hm).resolve_right hd
         obtain⟨o',g5,_⟩:=(hal.spec _).1 ha
         exact hlist (Array.getElem?_eq_some_iff.1 g5).1 (.inr (hall _ ha hd))
      rw[hr]at hir
      cases hir
    ·obtain ⟨hun, o, ho, hdeps⟩ := mem_ready.1 hj
     have hlt:j<ops.size:=(Array.getElem?_eq_some_iff.1 ho).1
     have hrem':rem ops.size (L.setIfInBounds j true)=m:=by have:=qHq hI.size hlt hun;omega
     have hjd:j∉done:=fun e=>by rw[(hI.lst j hlt).2 (.inl e)]at hun;cases hun
     have hjA:¬A j:=fun e=>by rw[(hI.lst j hlt).2 (.inr e)]at hun;cases hun
     by_cases hja:j∈al
     ·-- a new variable
      obtain⟨o',g1,g2⟩:=(hal.spec j).1 hja
      rw[ho]at g1
      cases g1
      obtain⟨t,d,hop,hg,hd,-⟩:=fE g2
      obtain⟨ti,hti⟩:=hal.tt j hja o t ho hop
      have hdl:d<E.n:=by rw[←hn];exact hal.dst j hja o d ho hd
      obtain⟨z,hz,hrun⟩:=(htt.get hti).run_zero w
      have hB:=hI.born hal hja hjd hjA ho hop hd hdl hti (halml j hja) (fun e=>by obtain⟨o',k1,_,k2⟩:=hol j e;rw[ho]at k1;cases k1;rw[g2]at k2;cases k2) hj
      have hzc:z.cells=ti.zero.toArray:=by apply Array.ext';rw[aR,hz]
      unfold wpOp
      simp only[ho]
      have hw:Region.wanted o (yielded ops a.tmps)=true:=by simp[Region.wanted,hg]
      rw[if_pos hw]
      refine .inl ?_
      unfold Oper.wp
      have he:(execOp a.eval o).run C.P w= .ok (.value (.pointer (some ⟨w.heap.size,0,none⟩))) (w.alloc (.cells ti.zero.toArray t)):=by
       simp only[execOp,hop,Instr.alloc,Sem.run_bind,hrun,Result.andThen_ok,←hzc]
       rfl
      rw[he]
      exact⟨hB.ss,ih (n+1) dirty done _ _ s _ _ _ hdn hrem' hB hv0⟩
     ·-- the one that comes next
      have hjc:j∈fS done al 0 ops.toList:=candsOf_spec.2 ⟨o,Nat.zero_le _,by simpa using ho,hjd,hja,depsIn_iff.2 fun e he hb=>by
       rw[List.mem_append]
       rcases hlisted (hdeps e (by simpa using he) hb)with h|h
       ·exact .inr h
       ·exact .inl (hI.sub _ h).1⟩
      split at hv
      ·rename_i hc;rw[hc]at hjc;cases hjc
      rename_i c cs hc
      rw[←hc]at hv
      replace hv:=qIz hv j hjc
      have hjo:ops.toList[j]? =some o:=by simpa using ho
      simp only[hjo]at hv
      obtain⟨hd,hv⟩:=gZ hv
      rw[hn]at hd
      have hneed:∀k∈cR done o.after.toList al,A k:=fun k hk=>by
       obtain⟨g1,g2,g3⟩:=needOf_spec.1 hk
       obtain⟨e,he,g4,g5⟩:=onEdge_iff.1 g3
       subst g5
       exact(hlisted (hdeps e (by simpa using he) g4)).resolve_left g2
      obtain⟨s1,k1,hI1⟩:=hI.adoptAll hal hs0 (hos hdr) _ hneed (kJ haln) hv
      have hdn':∀k∈j::(cR done o.after.toList al++done),k<ops.size:=fun k hk=>by
       rcases List.mem_cons.1 hk with e|hk
       ·exact e ▸ hlt
       ·rcases List.mem_append.1 hk with hk | hk
        ·obtain ⟨o', g1, _⟩ := (hal.spec k).1 (needOf_spec.1 hk).1
         exact(Array.getElem?_eq_some_iff.1 g1).1
        ·exact hdn k hk
      have hD:∀k,(k=j∨k∈cR done o.after.toList al∨k∈done)↔k∈j::(cR done o.after.toList al++done):=fun k=>by simp
      have hss':∀w',Holds s0.mem w'→(∀t r cs ty,s0.lb t=some (.cells r cs ty)→(j,t)∉ml→(LB.cells r cs ty).fits (fun b=>w.heap[b]?)→(LB.cells r cs ty).fits (fun b=>w'.heap[b]?))→(j∉ol→(∀x∈ol,L.getD x true=false)→Holds s0.own w')→SS s0 ml ol (L.setIfInBounds j true) w':=fun w' hh hf hw=>by
       have hset:∀x,(L.setIfInBounds j true).getD x true=false→x≠j∧L.getD x true=false:=fun x hx=>by
        by_cases e:j=x
        ·subst e;rw[fU (by rw[hI.size];exact hlt)]at hx;cases hx
        ·exact⟨fun h=>e h.symm,by rw[getD_set_ne true e]at hx;exact hx⟩
       refine⟨hh,fun t r cs ty g1 g2=>?_,fun hx=>hw (fun e=>(hset j (hx j e)).1 rfl) fun x hxo=>(hset x (hx x hxo)).2⟩
       exact hf t r cs ty g1 (fun hm=>(hset j (g2 j hm)).1 rfl) (hI.ss.2.1 t r cs ty g1 fun x hx=>(hset x (g2 x hx)).2)
      unfold wpOp
      simp only[ho]
      rcases lC hI1.rel k1 with⟨hw,s2,k2,hR2,hk⟩|⟨hw,s2,k2,hR2,hk⟩
      ·rw [if_pos hw]
       refine .inl ?_
       obtain⟨hmods,k2⟩:=hZ k2
       obtain⟨how,k2⟩:=hZ k2
       have how:=qJc how
       have hI2:=hI1.know hR2 hk
       refine uE htt hn hos hR2 k2 fun v w' s3 k3 hR3 hE=>?_
       have hE:=hE hdr
       obtain⟨hel,k3⟩:=hZ k3
       have hown3:(s3.put o.dst v).own=s3.own:=by cases o.dst<;>rfl
       have hsame:j∉ol→s3.own=s2.own:=fun hj=>hE.own (how.resolve_right hj)
       have hss:SS s0 ml ol (L.setIfInBounds j true) w':=by
        refine hss' w' (fun b x hb=>?_) (fun t r cs ty g1 g2 g3=>?_) fun hj hx=>?_
        ·refine hR3.sees.1 b x ?_
         have h1:=hE.le b x (hI2.le b x hb)
         cases o.dst<;>exact h1
        ·refine LB.fits_congr (fun r' hr' => ?_) g3
         have hlt':=LB.fits_lt g3 hr'
         simp only[LB.blk?,Option.some.injEq]at hr'
         subst hr'
         refine hE.keep r hlt' (fun t' ht' lb hl hr=>?_) fun _=>?_
         ·rcases hI2.b0 t r cs ty g1 with ⟨cs', ty', g4⟩ | g4
          ·have := hI2.rel.sep _ _ _ _ r g4 hl rfl hr
           subst this
           exact g2 (rK hmods t ht' r cs ty g1)
          ·exact g4 (hI2.rel.place t' lb r hl hr).1
         ·rcases hI2.b0 t r cs ty g1 with ⟨cs', ty', g4⟩ | g4
          ·exact(hI2.rel.place t _ r g4 rfl).2.1
          ·exact hI2.rel.own_none g4
        ·rw [← hI2.own0 hx, ← hsame hj, ← hown3]
         exact hR3.own.1
       refine⟨hss,ih n _ _ (fun k=>k∉cR done o.after.toList al∧A k) ρ _ _ _ w' hdn' hrem' ?_ k3⟩
       have hlb:∀t,(s3.put o.dst v).lb t=s3.lb t:=fun t=>by cases o.dst<;>rfl
       have hmem:(s3.put o.dst v).mem=s3.mem:=by cases o.dst<;>rfl
       refine(hI2.done hal ho hja hj (s':=s3.put o.dst v) (v:=v.conc) (w':=w') (dirty':=jK s2 o.op++dirty) hR3 (fun r hr h1 h0 h2=>?_) (fun b hb h0 h=>hE.keep b hb (fun t _ lb hl=>h t lb hl) fun _=>h0) (fun hj=>?_) (fun d hdd hnone=>?_) hss ?_ (fun k x hx=>?_) ?_ (fun t r cs ty h=>?_) (fun t lb ht h=>?_)).congr hD (fun k=>Iff.rfl)
       ·rw [hmem, hown3]
        simp only[hlb]
        exact hE.out r hr h1 h0 h2
       ·rw[hown3];exact hsame hj
       ·have h0:bD s3.env d=none:=by
         cases h:bD s3.env d with
         |none=>rfl
         |some sv=>
          rcases hE.envs d sv h with g|⟨_,g⟩
          ·rw[hnone]at g;cases g
          ·exact absurd hnone g
        cases hdst:o.dst with
        |none=>exact h0
        |some d'=>
         simp only[St.put,aM]
         rw[if_neg (fun e=>hdd (by rw[hdst,e]))]
         exact h0
       ·rw[hmem];exact hE.le
       ·have old:∀{k x},bD s3.env k=some x→V0 s0 x:=fun {k x} h=>by
         rcases hE.envs k x h with g|⟨⟨u,rfl⟩,_⟩
         ·exact hI2.v0 k x g
         ·trivial
        cases hdst:o.dst with
        |none=>rw[hdst]at hx;exact old hx
        |some d'=>
         rw[hdst]at hx hel
         simp only[St.put,aM]at hx
         split at hx
         ·cases hx
          exact qDf hel
         ·exact old hx
       ·refine Nat.le_trans hE.nxt ?_
        cases o.dst<;>exact Nat.le_refl _
       ·rw [hmem]; simp only [hlb]
        exact hE.alive t r cs ty h
       ·rw [hlb] at h
        obtain⟨lb1,g1,g2⟩:=hE.stay t lb (Nat.lt_of_lt_of_le ht hI2.nx) h
        obtain⟨lb0,g3,g4⟩:=hI2.stay t lb1 ht g1
        refine⟨lb0,g3,?_⟩
        rcases g4 with g4|⟨g4,g5,g6⟩
        ·rcases g2 with g2 | ⟨g2, g7, g8⟩
         ·exact .inl (LB.alike_trans g4 g2)
         ·exact .inr ⟨by simp[g2],(yL g4).2 g7,g8⟩
        ·rcases g2 with g2 | ⟨g2, g7, g8⟩
         ·exact .inr ⟨by simp[g4],g5,(yL g2).1 g6⟩
         ·exact .inr ⟨by simp[g4],g5,g8⟩
      ·rw [hw, if_neg (by simp)]
       have hI2:=hI1.know hR2 hk
       rw[bI]at k2
       have hss:SS s0 ml ol (L.setIfInBounds j true) w:=hss' w hI.ss.1 (fun _ _ _ _ _ _ h=>h) fun _ hx=>hI.ss.2.2 hx
       refine⟨hss,ih n _ _ (fun k=>k∉cR done o.after.toList al∧A k) ρ _ _ _ w hdn' hrem' ?_ k2⟩
       refine(hI2.done hal ho hja hj (s':=s2.put o.dst (.val undef)) (v:=undef) (w':=w) (dirty':=dirty) (hR2.put (sv:= .val undef) hd trivial) (fun r _ h1 h0 h2=>?_) (fun _ _ _ _=>rfl) (fun _=>?_) (fun d hdd hnone=>?_) hss ?_ (fun k x hx=>?_) ?_ (fun t r cs ty h=>?_) (fun t lb ht h=>?_)).congr hD (fun k=>Iff.rfl)
       ·cases hdst:o.dst<;>exact⟨h1,h0,h2⟩
       ·cases o.dst<;>rfl
       ·cases hdst : o.dst with
        |none=>exact hnone
        |some d'=>
        simp only[St.put,aM]
        rw[if_neg (fun e=>hdd (by rw[hdst,e]))]
        exact hnone
       ·cases o.dst<;>exact Mem.Le.refl _
       ·cases hdst : o.dst with
        |none=>rw[hdst]at hx;exact hI2.v0 k x hx
        |some d'=>
         rw[hdst]at hx
         simp only[St.put,aM]at hx
         split at hx
         ·cases hx;trivial
         ·exact hI2.v0 k x hx
       ·cases o.dst<;>exact Nat.le_refl _
       ·cases o.dst<;>exact .inl ⟨_,_,h⟩
       ·cases hdst:o.dst<;>(rw[hdst]at h;exact hI2.stay t lb ht h)
end
end Go.Vx
namespace Go.Vx
section
variable {C:Cx} {E:Ent} {ops:Array Oper} {s:St} {a:Act} {w:World}
theorem Rel.forget(hR:Rel E a w s)(d:Nat):Rel E a w (s.drop (some d)):=by
 have hs:∀x,aW s x→aW (s.drop (some d)) x:=fun x hx=>eF (s:=s) (Nat.le_refl _) (Mem.Le.refl _) (fun t lb' _ h=>⟨lb',h,lb'.alike_refl⟩) hx
 refine⟨hR.defers,hR.size,fun i x hx=>?_,fun t r cs ty h x hx=>hs x (hR.cells t r cs ty h x hx),hR.sees,hR.nxt,hR.place,hR.sep,hR.own,hR.mono,hR.fresh,hR.grow,hR.keep,hR.os,hR.tape,hR.output⟩
 simp only[St.drop,jD]at hx
 split at hx
 ·cases hx
 ·exact⟨(hR.env i x hx).1,hs _ (hR.env i x hx).2⟩
theorem nR{ops:List Oper}:∀(js:List Nat) {s:St} {K:St→Prop},Rel E a w s→qH C ops js s K→
  ∃s',K s'∧Rel E a w s'∧(∀d,bD s.env d=none→bD s'.env d=none)∧
   ∀j∈js,∀o,ops[j]? =some o→(∀t,o.op= .alloc t→∃ti,bD C.tt t=some ti)∧∀d,o.dst=some d→d<C.n∧lD d j 0 ops=true∧bD s'.env d=none
 |[],s,K,hR,h=>⟨s,h,hR,fun _ h=>h,fun j hj=>nomatch hj⟩
 |j::js,s,K,hR,h=>by
  simp only[qH]at h
  split at h
  case h_2=>exact h.elim
  rename_i o ho
  split at h
  case h_2=>exact h.elim
  rename_i d hd
  split at h
  case h_2=>exact h.elim
  rename_i t hop
  obtain⟨ti,h1,h⟩:=aO h
  obtain⟨h2,h⟩:=gZ h
  obtain⟨h3,h⟩:=hZ h
  rw[qMl]at h
  obtain⟨s',g1,g2,g3,g4⟩:=nR js (hR.forget d) h
  have hnone:bD (s.drop (some d)).env d=none:=by simp only[St.drop,jD];simp
  refine⟨s',g1,g2,fun d' hd'=>g3 d' ?_,fun k hk o' ho'=>?_⟩
  ·simp only [St.drop, jD]; split
   ·rfl
   ·exact hd'
  ·rcases List.mem_cons.1 hk with rfl | hk
   ·rw [ho] at ho'
    cases ho'
    refine⟨fun t' ht'=>?_,fun d' hd'=>?_⟩
    ·rw[hop]at ht';cases ht';exact⟨ti,h1⟩
    ·rw [hd] at hd'
     cases hd'
     exact⟨by simpa using h2,h3,g3 _ hnone⟩
   ·exact g4 k hk o' ho'
theorem vD:∀{l:List Oper},qIa l=true→∀(j:Nat) (o:Oper) cs b,l[j]? =some o→o.op≠.select cs b
 |[],_,j,o,cs,b,h,_=>by simp at h
 |x::r,h,j,o,cs,b,ho,e=>by
  simp only[qIa]at h
  split at h
  ·cases h
  ·rename_i hx
   match j with
   |0=>
    simp only[List.getElem?_cons_zero,Option.some.injEq]at ho
    subst ho
    exact hx _ _ e
   |j+1=>exact vD h j o cs b (by simpa using ho) e
theorem svOk_V0{sv:SV}(h:aW s sv):V0 s sv:=by
 cases sv with
 |loc t r off=>
  intro r' cs ty hl
  obtain⟨_,_,e⟩:=h.2 _ hl
  cases e;rfl
 |row t b n c=>
  intro r' cs ty hl
  obtain⟨_,_,_,e,_⟩:=h.2 _ hl
  cases e
 |rel t b e j o=>
  intro r' cs ty hl
  obtain⟨_,_,_,e,_⟩:=h.2 _ hl
  cases e
 |elem ad cs o=>exact h
 |val v=>trivial
 |kn b=>trivial
theorem rem_all(n:Nat):rem n (Array.replicate n false)=n:=by
 unfold rem
 rw[List.filter_eq_self.2]
 ·simp
 ·intro i hi
  have:i<n:=by simpa using hi
  simp[this]
theorem qBf(htt:TTok C.P C.tt)(hm:C.P.follows .mixedOrders=true):qHr C:=by
 intro E hn ops id s a w K Q hR hv hK
 obtain⟨hsel,hv⟩:=hZ hv
 split at hv
 case h_2=>exact hv.elim
 rename_i ml hml
 have hR':Rel E a {w with drawn:=w.drawn+1} s:={hR with sees:=hR.sees,own:=hR.own,grow:=hR.grow,keep:=hR.keep,os:=hR.os,tape:=hR.tape,output:=hR.output}
 obtain⟨s0,k1,hR0,-,hal0⟩:=nR _ hR' hv
 have hal:AlOk ⟨C.P,C.tt,C.n,[],true⟩ ops (dJ 0 ops.toList):=by
  refine⟨fun j=>?_,fun j hj o t ho hop=>(hal0 j hj o (by simpa using ho)).1 t hop,fun j hj o d ho hd=>((hal0 j hj o (by simpa using ho)).2 d hd).1,fun j hj o d ho hd k ok hok hkj=>?_⟩
  ·rw [allocIdx_spec]
   simp
  ·exact pF ((hal0 j hj o (by simpa using ho)).2 d hd).2.1 k ok (Nat.zero_le _) (by simpa using hok) hkj
 refine wp_region_noPanic (wp_region_any hm (qDw (S:=SS s0 ml (eD ops.toList s0 0 ops.toList)) _ _ _ _ ?_))
 refine qJk (C:=⟨C.P,C.tt,C.n,[],true⟩) (s0:=s0) htt hn (fun _=>rfl) rfl (fun x hx=>(rT hx).imp fun o g=>⟨by simpa using g.2.1,g.2.2⟩) (fun j o cs b ho=>vD hsel j o cs b (by simpa using ho)) hml hal iK hR0.nxt hR0.cells (fun c a a' w h=>h.elim) (fun a' w' s' h1 h2=>NoPanic.normal (hK a' w' s' h1 h2)) ops.size _ [] [] (fun _=>False) (fun _=>0) s0 _ a _ (fun _ h=>nomatch h) (rem_all _) ?_ k1
 have hget:∀i,i<ops.size→(Array.replicate ops.size false).getD i true=false:=fun i hi=>by simp[hi]
 refine⟨hR0,by simp,fun i hi=>?_,fun x o ho hl=>?_,fun _ h=>h.elim,fun _ h=>h.elim,fun _ _ h=>h.elim,fun j hj _ o d ho hd=>((hal0 j hj o (by simpa using ho)).2 d hd).2.2,⟨hR0.sees.1,fun t r cs ty h _=>hR0.sees.2 t _ h,fun _=>hR0.own.1⟩,Mem.Le.refl _,fun i sv h=>svOk_V0 (hR0.env i sv h).2,Nat.le_refl _,fun t r cs ty h=> .inl ⟨cs,ty,h⟩,fun t lb _ h=>⟨lb,h,.inl lb.alike_refl⟩,fun _=>rfl⟩
 ·rw[hget i hi];simp
 ·rw [hget x (Array.getElem?_eq_some_iff.1 ho).1] at hl
  cases hl
theorem SpecH.of{T:Checked}{tt:List (Nat×TI)}(os:List Nat){f:FuncId}{fn:Func}{args:List Value}{μ h0:Mem}{R:Value→Mem→Mem→Prop}(htt:TTok T.prog tt)
  (hf:T.prog.funcs[f]? =some fn) (hname:(fn.name== "runtime.NumGoroutine")=false) (h:xW T.prog tt os fn args μ h0 R):SpecH T.prog f args μ h0 R:=
 SpecH.of_vc htt (fun n=>qBf (C:=⟨T.prog,tt,n,os,false⟩) htt (Checked.mixed T)) hf hname h
end
end Go.Vx
namespace Go.Vx
theorem add_add(a:Addr)(i j:Nat):(a.add i).add j=a.add (i+j):=by
 by_cases hi:i=0
 ·subst hi;simp[Addr.add]
 ·by_cases hj : j = 0
  ·subst hj;simp[Addr.add]
  ·have : ¬ (i + j = 0) := by omega
   simp[Addr.add,hi,hj,Nat.add_assoc]
def qNx(w:World):Mem:=fun b=>w.heap[b]?
theorem wmem_holds(w:World):Holds (qNx w) w:=fun _ _ h=>h
theorem qKh(w:World)(a:Addr):(qNx w).cell a=w.cell? a:=rfl
def CellsAt(μ:Mem)(a:Addr)(cs:List Value):Prop:=∀j v,cs[j]? =some v→μ.cell (a.add j)=some v
theorem CellsAt.mono{μ μ':Mem}(h:μ.Le μ'){a:Addr}{cs:List Value}(k:CellsAt μ a cs):CellsAt μ' a cs:=fun j v hj=>h.cell (k j v hj)
section
variable {α:Type} {R:α→List Value→Prop} {μ μ':Mem} {es n:Nat} {base:Option Addr} {xs:List α}
section
variable {H:Type} {enc:TypeId×Value→H} {P:Program} {w:World} {spare:Nat→Bool} {held:Bool} {fuel:Nat} {t:TypeId} {cs:List Value} {x:DataW H×List MemPlace}
theorem cells?_at{a:Addr}{m:Nat}{cs:List Value}(h:w.cells? 0 a m=some cs):cs.length=m∧CellsAt (qNx w) a cs:=by
 unfold World.cells? at h
 rw[if_pos (Nat.zero_le _)]at h
 refine⟨by simpa using mapM_some_length h,fun j v hj=>?_⟩
 have hlt:j<m:=by
  have h1:=(List.getElem?_eq_some_iff.1 hj).1
  have h2:=mapM_some_length h
  simp at h2
  omega
 have:=mapM_some_get h j j (by simp[hlt])
 rw[qKh,this,hj]
end
end
end Go.Vx
namespace Go.Vx
inductive D where
 |i (n:Int)
 |b (x:Bool)
 |s (x:ByteArray)
 |st (fs:List D)
 |sl (es:Nat) (xs:List D)
mutual
def D.n:D→Nat
 | .st fs=>D.ns fs
 | .i _=>1
 | .b _=>1
 | .s _=>1
 | .sl _ _=>1
def D.ns:List D→Nat
 |[]=>0
 |d::r=>d.n+D.ns r
end
structure Lens (n cap:Nat):Prop where
 le:n≤cap
 max:n≤maxLen
mutual
def Rep(μ:Mem):D→List Value→Prop
 | .i n,cs=>cs=[.int .i64 n]
 | .b x,cs=>cs=[.bool x]
 | .s x,cs=>cs=[.string x]
 | .st fs,cs=>RepS μ fs cs
 | .sl es xs,cs=>∃base cap,cs=[.slice base xs.length cap]∧Lens xs.length cap∧(∀x∈xs,x.n=es)∧(xs=[]∨∃a0 flat,base=some a0∧CellsAt μ a0 flat∧RepS μ xs flat)
def RepS(μ:Mem):List D→List Value→Prop
 |[],cs=>cs=[]
 |d::r,cs=>∃c1 c2,cs=c1++c2∧Rep μ d c1∧RepS μ r c2
end
mutual
def Own:D→Mem→List Value→Prop
 | .i n,h,cs=>cs=[.int .i64 n]∧h=Mem.nil
 | .b x,h,cs=>cs=[.bool x]∧h=Mem.nil
 | .s x,h,cs=>cs=[.string x]∧h=Mem.nil
 | .st fs,h,cs=>OwnS fs h cs
 | .sl es xs, h, cs => ∃ base cap, cs = [.slice base xs.length cap] ∧ Lens xs.length cap ∧ (∀ x ∈ xs, x.n = es) ∧
   ((xs=[]∧h=Mem.nil)∨∃r flat rest ty h2,base=some ⟨r,0,none⟩∧h2 r=none∧h=h2.set r (.cells (List.toArray (flat++rest)) ty (0,0))∧OwnS xs h2 flat)
def OwnS:List D→Mem→List Value→Prop
 |[],h,cs=>cs=[]∧h=Mem.nil
 |d::r,h,cs=>∃c1 c2 h1 h2,cs=c1++c2∧Parts h h1 h2∧Own d h1 c1∧OwnS r h2 c2
end
def RepV(μ:Mem):D→Value→Prop
 | .st fs,v=>∃cs,v= .agg (List.toArray cs)∧RepS μ fs cs
 |d,v=>Rep μ d [v]
def OwnV:D→Mem→Value→Prop
 | .st fs,h,v=>∃cs,v= .agg (List.toArray cs)∧OwnS fs h cs
 |d,h,v=>Own d h [v]
section
variable {μ μ':Mem}
theorem CellsAt.set{h:Mem}{r:Nat}{flat rest:List Value}{ty:TypeId}:CellsAt (h.set r (.cells (List.toArray (flat++rest)) ty (0,0))) ⟨r,0,none⟩ flat:=fun j v hj=>by
 rw[Addr.add_lit',Nat.zero_add]
 have hlt:j<flat.length:=(List.getElem?_eq_some_iff.1 hj).1
 simp[Mem.cell,Mem.set_get,List.getElem?_append_left hlt,hj]
mutual
theorem Rep.mono(h:μ.Le μ'):∀(d:D) (cs:List Value),Rep μ d cs→Rep μ' d cs
 | .i _,_,k=>k
 | .b _,_,k=>k
 | .s _,_,k=>k
 | .st fs,cs,k=>RepS.mono h fs cs k
 | .sl es xs,cs,k=>by
  obtain⟨base,cap,h1,h2,h3,h4⟩:=k
  refine⟨base,cap,h1,h2,h3,h4.imp id ?_⟩
  rintro⟨a0,flat,g1,g2,g3⟩
  exact⟨a0,flat,g1,g2.mono h,RepS.mono h xs flat g3⟩
theorem RepS.mono(h:μ.Le μ'):∀(l:List D) (cs:List Value),RepS μ l cs→RepS μ' l cs
 |[],_,k=>k
 |d::r,cs,k=>by
  obtain⟨c1,c2,h1,h2,h3⟩:=k
  exact⟨c1,c2,h1,Rep.mono h d c1 h2,RepS.mono h r c2 h3⟩
end
theorem Parts.left{h g k:Mem}(p:Parts h g k):g.Le h:=fun b o hb=>by
 rcases p b with⟨h1,_⟩|⟨_,h1⟩
 ·rw[h1];exact hb
 ·rw[h1]at hb;cases hb
theorem Parts.symm{h g k:Mem}(p:Parts h g k):Parts h k g:=fun b=>(p b).symm
theorem Parts.right{h g k:Mem}(p:Parts h g k):k.Le h:=p.symm.left
theorem Parts.eq{h h' g k:Mem}(p:Parts h g k)(q:Parts h' g k):h=h':=funext fun b=>by
 rcases p b with⟨h1,h2⟩|⟨h1,h2⟩<;>rcases q b with⟨h3,h4⟩|⟨h3,h4⟩
 ·rw[h1,h3]
 ·rw[h1,h3,h2,h4]
 ·rw[h1,h3,h2,h4]
 ·rw[h1,h3]
theorem Parts.join{g k:Mem}(h:Apart g k):Parts (g.join k) g k:=fun b=>by
 cases hg:g b with
 |none=>exact .inr ⟨by rw[Mem.join_get,hg],rfl⟩
 |some o=>exact .inl ⟨by rw[Mem.join_get,hg],h b (by simp[hg])⟩
theorem Parts.apart{h g k:Mem}(p:Parts h g k):Apart g k:=fun b hb=>by
 rcases p b with⟨_,h⟩|⟨_,h⟩
 ·exact h
 ·exact absurd h hb
theorem Parts.nil_right(h:Mem):Parts h h Mem.nil:=fun _=> .inl ⟨rfl,rfl⟩
theorem Parts.nil_left(h:Mem):Parts h Mem.nil h:=fun _=> .inr ⟨rfl,rfl⟩
theorem Apart.symm{g k:Mem}(h:Apart g k):Apart k g:=fun b hb=>by
 cases hg:g b with
 |none=>rfl
 |some o=>exact absurd (h b (by simp[hg])) hb
theorem Apart.nil_left(g:Mem):Apart Mem.nil g:=fun _ h=>absurd rfl h
theorem Parts.assoc{h g k k1 k2:Mem}(p:Parts h g k)(q:Parts k k1 k2):∃m,Parts m g k1∧Parts h m k2:=by
 have a1:Apart g k1:=fun b hb=>by
  have:=p.apart b hb
  cases h1:k1 b with
  |none=>rfl
  |some o=>rw[q.left b o h1]at this;cases this
 refine⟨g.join k1,Parts.join a1,fun b=>?_⟩
 rw[Mem.join_get]
 cases hg:g b with
 |some o=>
  have h0:=p.apart b (by simp[hg])
  refine .inl ⟨by rw[p.left b o hg],?_⟩
  cases h2:k2 b with
  |none=>rfl
  |some o=>rw[q.right b o h2]at h0;cases h0
 |none=>
  have e:h b=k b:=by
   rcases p b with⟨h1,h2⟩|⟨h1,_⟩
   ·rw[h1,hg,h2]
   ·exact h1
  simp only[e]
  exact q b
theorem Mem.set_le{h2:Mem}{r:Nat}{o:Obj}(h:h2 r=none):h2.Le (h2.set r o):=fun b x hb=>by
 rw[Mem.set_get,if_neg (fun e=>by subst e;rw[h]at hb;cases hb)]
 exact hb
mutual
theorem Own.rep:∀(d:D) (h:Mem) (cs:List Value),Own d h cs→h.Le μ→Rep μ d cs
 | .i _,_,_,k,_=>k.1
 | .b _,_,_,k,_=>k.1
 | .s _,_,_,k,_=>k.1
 | .st fs,h,cs,k,hl=>OwnS.rep fs h cs k hl
 | .sl es xs,h,cs,k,hl=>by
  obtain⟨base,cap,h1,h2,h3,h4⟩:=k
  refine⟨base,cap,h1,h2,h3,?_⟩
  rcases h4 with⟨g,_⟩|⟨r,flat,rest,ty,k2,g1,g2,g3,g4⟩
  ·exact .inl g
  ·exact .inr ⟨_,flat,g1,by subst g3;exact CellsAt.set.mono hl,OwnS.rep xs k2 flat g4 (by subst g3;exact(Mem.set_le g2).trans hl)⟩
theorem OwnS.rep:∀(l:List D) (h:Mem) (cs:List Value),OwnS l h cs→h.Le μ→RepS μ l cs
 |[],_,_,k,_=>k.1
 |d::r,h,cs,k,hl=>by
  obtain⟨c1,c2,k1,k2,h1,h2,h3,h4⟩:=k
  exact⟨c1,c2,h1,Own.rep d k1 c1 h3 (h2.left.trans hl),OwnS.rep r k2 c2 h4 (h2.right.trans hl)⟩
end
mutual
theorem Rep.len:∀(d:D) (cs:List Value),Rep μ d cs→cs.length=d.n
 | .i _,_,k=>by rw[k];rfl
 | .b _,_,k=>by rw[k];rfl
 | .s _,_,k=>by rw[k];rfl
 | .st fs,cs,k=>RepS.len fs cs k
 | .sl es xs,cs,k=>by obtain⟨_,_,h,_⟩:=k;rw[h];rfl
theorem RepS.len:∀(l:List D) (cs:List Value),RepS μ l cs→cs.length=D.ns l
 |[],_,k=>by rw[k];rfl
 |d::r,cs,k=>by
  obtain⟨c1,c2,h1,h2,h3⟩:=k
  rw[h1,List.length_append,Rep.len d c1 h2,RepS.len r c2 h3];rfl
end
mutual
theorem Rep.one:∀(d:D) (cs:List Value),Rep μ d cs→∀u∈cs,u.oneCell'=true
 | .i _,_,k=>by rw[k];simp[Value.oneCell']
 | .b _,_,k=>by rw[k];simp[Value.oneCell']
 | .s _,_,k=>by rw[k];simp[Value.oneCell']
 | .st fs,cs,k=>RepS.one fs cs k
 | .sl es xs,cs,k=>by obtain⟨_,_,h,_⟩:=k;rw[h];simp[Value.oneCell']
theorem RepS.one:∀(l:List D) (cs:List Value),RepS μ l cs→∀u∈cs,u.oneCell'=true
 |[],_,k=>by rw[k];simp
 |d::r,cs,k=>by
  obtain⟨c1,c2,h1,h2,h3⟩:=k
  intro u hu
  rw[h1,List.mem_append]at hu
  exact hu.elim (Rep.one d c1 h2 u) (RepS.one r c2 h3 u)
end
theorem RepS.get{es:Nat}:∀{l:List D} {flat:List Value},RepS μ l flat→(∀x∈l,x.n=es)→∀{i:Nat} {x:D},l[i]? =some x→∃cs,cs.length=es∧(∀j v,cs[j]? =some v→flat[i*es+j]? =some v)∧Rep μ x cs
 |[],_,_,_,i,x,h=>by simp at h
 |d::r,flat,k,hn,i,x,h=>by
  obtain⟨c1,c2,h1,h2,h3⟩:=k
  have hl:c1.length=es:=by rw[Rep.len d c1 h2];exact hn d (by simp)
  match i with
  |0=>
   simp only[List.getElem?_cons_zero,Option.some.injEq]at h
   subst h
   refine⟨c1,hl,fun j v hj=>?_,h2⟩
   rw[h1,Nat.zero_mul,Nat.zero_add,List.getElem?_append_left (List.getElem?_eq_some_iff.1 hj).1]
   exact hj
  |i+1=>
   obtain⟨cs,g1,g2,g3⟩:=RepS.get h3 (fun y hy=>hn y (by simp[hy])) (i:=i) (by simpa using h)
   refine⟨cs,g1,fun j v hj=>?_,g3⟩
   rw[h1,List.getElem?_append_right (by rw[hl,Nat.succ_mul];omega),hl,show(i+1)*es+j-es=i*es+j from by rw[Nat.succ_mul];omega]
   exact g2 j v hj
structure Sl (μ:Mem) (es:Nat) (base:Option Addr) (n:Nat) (xs:List D):Prop where
 len:xs.length=n
 max:n≤maxLen
 get:∀(i:Nat) x,xs[i]? =some x→∃a cs,ElemAt μ base n es i a cs∧Rep μ x cs
theorem Rep.sl{es:Nat}{xs:List D}{v:Value}(h:Rep μ (.sl es xs) [v]):∃base cap,v= .slice base xs.length cap∧Sl μ es base xs.length xs:=by
 obtain⟨base,cap,h1,h2,h3,h4⟩:=h
 simp only[List.cons.injEq,and_true]at h1
 refine⟨base,cap,h1,rfl,h2.max,fun i x hx=>?_⟩
 have hi:i<xs.length:=(List.getElem?_eq_some_iff.1 hx).1
 rcases h4 with rfl|⟨a0,flat,g1,g2,g3⟩
 ·simp at hx
 ·obtain ⟨cs, k1, k2, k3⟩ := g3.get h3 hx
  refine⟨a0.add (i*es),cs,⟨by omega,by omega,⟨a0,g1,by simp⟩,k1,fun j v hj=>?_⟩,k3⟩
  rw[add_add]
  exact g2 _ _ (k2 j v hj)
theorem RepV.cells:∀{d:D} {v:Value},RepV μ d v→Rep μ d (aB v)
 | .st fs,v,h=>by obtain⟨cs,rfl,h⟩:=h;simpa[aB,Rep]using h
 | .i _,v,h=>by cases h;rfl
 | .b _,v,h=>by cases h;rfl
 | .s _,v,h=>by cases h;rfl
 | .sl es xs,v,h=>by
  obtain⟨base,cap,h1,h2⟩:=h
  cases h1
  exact⟨base,cap,rfl,h2⟩
theorem RepV.mono(h:μ.Le μ'):∀{d:D} {v:Value},RepV μ d v→RepV μ' d v
 | .st fs,v,k=>by obtain⟨cs,rfl,k⟩:=k;exact⟨cs,rfl,RepS.mono h _ _ k⟩
 | .i _,v,k=>Rep.mono h (.i _) _ k
 | .b _,v,k=>Rep.mono h (.b _) _ k
 | .s _,v,k=>Rep.mono h (.s _) _ k
 | .sl _ _,v,k=>Rep.mono h (.sl _ _) _ k
theorem OwnV.rep:∀{d:D} {h:Mem} {v:Value},OwnV d h v→h.Le μ→RepV μ d v
 | .st fs,h,v,k,hl=>by obtain⟨cs,rfl,k⟩:=k;exact⟨cs,rfl,OwnS.rep _ _ _ k hl⟩
 | .i _,_,v,k,hl=>Own.rep (.i _) _ _ k hl
 | .b _,_,v,k,hl=>Own.rep (.b _) _ _ k hl
 | .s _,_,v,k,hl=>Own.rep (.s _) _ _ k hl
 | .sl _ _,_,v,k,hl=>Own.rep (.sl _ _) _ _ k hl
theorem OwnV.cells:∀{d:D} {h:Mem} {v:Value},OwnV d h v→Own d h (aB v)
 | .st fs,_,v,h=>by obtain⟨cs,rfl,h⟩:=h;simpa[aB,Own]using h
 | .i _,_,v,h=>by obtain⟨h1,h2⟩:=h;cases h1;exact⟨rfl,h2⟩
 | .b _,_,v,h=>by obtain⟨h1,h2⟩:=h;cases h1;exact⟨rfl,h2⟩
 | .s _,_,v,h=>by obtain⟨h1,h2⟩:=h;cases h1;exact⟨rfl,h2⟩
 | .sl es xs,_,v,h=>by
  obtain⟨base,cap,h1,h2⟩:=h
  cases h1
  exact⟨base,cap,rfl,h2⟩
inductive Rows (μ:Mem) (es:Nat):List D→List Value→Prop
 |nil:Rows μ es [] []
 |cons {d:D} {v:Value} {ds:List D} {vs:List Value} (h:RepV μ d v) (hn:d.n=es) (r:Rows μ es ds vs):Rows μ es (d::ds) (v::vs)
theorem Rows.mono{es:Nat}(h:μ.Le μ'):∀{ds:List D} {vs:List Value},Rows μ es ds vs→Rows μ' es ds vs
 |_,_,.nil=> .nil
 |_,_,.cons k hn r=> .cons (k.mono h) hn (r.mono h)
theorem Rows.append{es:Nat}:∀{ds:List D} {vs:List Value} {ds':List D} {vs':List Value},Rows μ es ds vs→Rows μ es ds' vs'→Rows μ es (ds++ds') (vs++vs')
 |_,_,_,_,.nil,k=>k
 |_,_,_,_,.cons h hn r,k=> .cons h hn (r.append k)
theorem Rows.one{es:Nat}{d:D}{v:Value}(h:RepV μ d v)(hn:d.n=es):Rows μ es [d] [v]:= .cons h hn .nil
theorem Rows.len{es:Nat}:∀{ds:List D} {vs:List Value},Rows μ es ds vs→ds.length=vs.length
 |_,_,.nil=>rfl
 |_,_,.cons _ _ r=>by simp[r.len]
theorem Rows.flat{es:Nat}:∀{ds:List D} {vs:List Value},Rows μ es ds vs→RepS μ ds (vs.flatMap aB)∧∀x∈ds,x.n=es
 |_,_,.nil=>⟨rfl,by simp⟩
 | _, _, .cons h hn r => ⟨⟨_, _, by simp, h.cells, r.flat.1⟩, by
   intro x hx
   rcases List.mem_cons.1 hx with rfl|hx
   ·exact hn
   ·exact r.flat.2 x hx⟩
theorem RowAt.le{b:Option Nat}{cap es:Nat}{ys:List Value}(h:RowAt μ b cap es ys):ys.length≤cap:=by
 cases b with
 |none=>
  have:ys=[]:=h
  subst this;exact Nat.zero_le _
 |some r=>exact h.1
theorem Rep.lens{es:Nat}{xs:List D}{b:Option Addr}{n c:Nat}(h:Rep μ (.sl es xs) [.slice b n c]):n≤c:=by
 obtain⟨b',c',h1,h2,_⟩:=h
 simp only[List.cons.injEq,and_true,Value.slice.injEq]at h1
 obtain⟨rfl,rfl,rfl⟩:=h1
 exact h2.le
theorem Rows.sl{es:Nat}{b:Option Nat}{cap:Nat}{ds:List D}{ys:List Value}(h:RowAt μ b cap es ys)(hr:Rows μ es ds ys)(hm:ys.length≤maxLen):RepV μ (.sl es ds) (.slice (b.map fun r=>⟨r,0,none⟩) ys.length cap):=by
 have hl:=hr.len
 obtain⟨hf,hn⟩:=hr.flat
 refine⟨b.map fun r=>⟨r,0,none⟩,cap,by rw[hl],by rw[hl];exact⟨h.le,hm⟩,hn,?_⟩
 cases b with
 |none=>
  have:ys=[]:=h
  subst this
  exact .inl (List.eq_nil_of_length_eq_zero (by simpa using hl))
 |some r=>
  obtain⟨h1,h2,arr,ty,h3,h4,h5⟩:=h
  refine .inr ⟨⟨r,0,none⟩,ys.flatMap aB,rfl,fun j v hj=>?_,hf⟩
  rw[Addr.add_lit',Nat.zero_add]
  have hf':(ys.flatMap aB).length=ys.length*es:=fH ys fun y hy=>(h2 y hy).1
  have hlt:=(List.getElem?_eq_some_iff.1 hj).1
  rw[←h5,List.getElem?_take,if_pos (by omega)]at hj
  simp only[Mem.cell,h3]
  simpa using hj
def Fresh(μ μ':Mem)(d:D)(v:Value):Prop:=∃g:Mem,OwnV d g v∧g.Le μ'∧∀b,g b≠none→μ b=none
theorem Fresh.rep{d:D}{v:Value}(h:Fresh μ μ' d v):RepV μ' d v:=by
 obtain⟨g,h1,h2,_⟩:=h
 exact h1.rep h2
end
end Go.Vx
namespace Go.Vx
section
variable {P:Program} {f:FuncId} {args:List Value} {μ h0:Mem}
def Mem.sub(μ g:Mem):Mem:=fun b=>match g b with|some _=>none|none=>μ b
theorem Mem.sub_le(μ g:Mem):(μ.sub g).Le μ:=fun b o h=>by
 unfold Mem.sub at h
 split at h
 ·cases h
 ·exact h
theorem Mem.sub_none{μ g:Mem}{b:Nat}(h:(μ.sub g) b≠none):g b=none:=by
 unfold Mem.sub at h
 split at h
 ·exact absurd rfl h
 ·assumption
theorem Mem.sub_of{μ g:Mem}{b:Nat}(h:g b=none):(μ.sub g) b=μ b:=by unfold Mem.sub;rw[h]
theorem Mem.le_sub{μ μ' g:Mem}(h:μ.Le μ')(ha:Apart μ g):μ.Le (μ'.sub g):=fun b o hb=>by
 rw[Mem.sub_of (ha b (by simp[hb]))];exact h b o hb
theorem Mem.le_join(μ g:Mem):μ.Le (μ.join g):=fun b o h=>by rw[Mem.join_get,h]
theorem Mem.le_join_right{μ g:Mem}(h:Apart μ g):g.Le (μ.join g):=(Parts.join h).right
theorem Holds.join{g:Mem}{w:World}(h:Holds μ w)(k:Holds g w):Holds (μ.join g) w:=fun b o hb=>by
 rw[Mem.join_get]at hb
 split at hb
 ·rename_i x hx;cases hb;exact h b _ hx
 ·exact k b o hb
theorem Holds.le{g:Mem}{w:World}(h:Holds μ w)(k:g.Le μ):Holds g w:=fun b o hb=>h b o (k b o hb)
theorem SpecH.weaken{R R':Value→Mem→Mem→Prop}(h:SpecH P f args μ h0 R)(hk:∀v μ' h',μ.Le μ'→Apart μ' h'→R v μ' h'→R' v μ' h'):SpecH P f args μ h0 R':=
 ⟨h.1,fun w h1 h2 h3=>(h.2 w h1 h2 h3).mono fun _ _ ⟨v,μ',h',e,hr,hS⟩=>⟨v,μ',h',e,hk v μ' h' hS.le hS.apart hr,hS⟩⟩
theorem SpecH.frame{H k:Mem}{R:Value→Mem→Mem→Prop}(hp:Parts H h0 k)(h:SpecH P f args μ h0 R):SpecH P f args μ H fun v μ' H'=>∃h',R v μ' h'∧Parts H' h' k:=by
 refine⟨h.1,fun w hm hH ha=>?_⟩
 have ha0:Apart μ h0:=fun b hb=>by
  have:=ha b hb
  cases h1:h0 b with
  |none=>rfl
  |some o=>rw[hp.left b o h1]at this;cases this
 have hak:Apart μ k:=fun b hb=>by
  have:=ha b hb
  cases h1:k b with
  |none=>rfl
  |some o=>rw[hp.right b o h1]at this;cases this
 refine(h.2 w hm (hH.le hp.left) ha0).mono ?_
 rintro e w' ⟨v,μ',h',rfl,hr,hS⟩
 have hkw:Holds k w:=hH.le hp.right
 have h0k:∀b,k b≠none→h0 b=none:=hp.apart.symm
 have hk':Apart h' k:=fun b hb=>by
  rcases hS.freshH b hb with h|h
  ·cases h1 : k b with
   |none=>rfl
   |some o=>have:=hkw.lt (b:=b) (by simp[h1]);omega
  ·exact hp.apart b h
 refine⟨v,μ',h'.join k,rfl,⟨h',hr,Parts.join hk'⟩,⟨hS.le,hS.mem,hS.own.join fun b o hb=>?_,fun b hb=>?_,fun b hb hb'=>?_,fun b hb=>?_,hS.size,fun b hb hn=>hS.keep b hb ?_,hS.os,hS.tape,hS.output⟩⟩
 ·rw [hS.keep b (hkw.lt (by simp [hb])) (h0k b (by simp [hb]))]
  exact hkw b o hb
 ·rw [Mem.join_get, hS.apart b hb]
  simp only
  by_cases hm0:μ b=none
  ·rcases hS.fresh b hm0 hb with h | h
   ·cases h1 : k b with
    |none=>rfl
    |some o=>have:=hkw.lt (b:=b) (by simp[h1]);omega
   ·exact hp.apart b h
  ·exact hak b hm0
 ·exact(hS.fresh b hb hb').imp id fun h=>by
   cases h1:h0 b with
   |none=>exact absurd h1 h
   |some o=>rw[hp.left b o h1];simp
 ·rw [Mem.join_get] at hb
  cases h1:h' b with
  |some o=>
   exact(hS.freshH b (by simp[h1])).imp id fun h=>by
    cases h2:h0 b with
    |none=>exact absurd h2 h
    |some o=>rw[hp.left b o h2];simp
  |none=>
   rw[h1]at hb
   cases h2:k b with
   |none=>exact absurd h2 hb
   |some o=>rw[hp.right b o h2];exact .inr (by simp)
 ·cases h1 : h0 b with
  |none=>rfl
  |some o=>rw[hp.left b o h1]at hn;cases hn
end
theorem OwnS.cons{d:D}{r:List D}{h h1 h2:Mem}{c1 c2:List Value}(p:Parts h h1 h2)(k1:Own d h1 c1)(k2:OwnS r h2 c2):OwnS (d::r) h (c1++c2):=⟨c1,c2,h1,h2,rfl,p,k1,k2⟩
theorem OwnS.append:∀{l r:List D} {h h1 h2:Mem} {c1 c2:List Value},Parts h h1 h2→OwnS l h1 c1→OwnS r h2 c2→OwnS (l++r) h (c1++c2)
 |[],r,h,h1,h2,c1,c2,p,k1,k2=>by
  obtain⟨rfl,rfl⟩:=k1
  have:h=h2:=p.eq (Parts.nil_left h2)
  subst this
  exact k2
 |d::l,r,h,h1,h2,c1,c2,p,k1,k2=>by
  obtain⟨a,b,g1,g2,rfl,q,m1,m2⟩:=k1
  obtain⟨m,q1,q2⟩:=p.symm.assoc q.symm
  refine⟨a,b++c2,g1,m,by simp,q2.symm,m1,OwnS.append q1.symm m2 k2⟩
theorem Mem.set_set(h:Mem)(r:Nat)(o o':Obj):(h.set r o).set r o'=h.set r o':=funext fun b=>by
 simp only[Mem.set_get]
 split<;>rfl
end Go.Vx
namespace Go.Vx
theorem OwnS.int{n:Int}{r:List D}{h:Mem}{cs:List Value}(k:OwnS r h cs):OwnS (.i n::r) h (.int .i64 n::cs):=⟨[_],cs,_,_,rfl,Parts.nil_left h,⟨rfl,rfl⟩,k⟩
theorem OwnS.str{s:ByteArray}{r:List D}{h:Mem}{cs:List Value}(k:OwnS r h cs):OwnS (.s s::r) h (.string s::cs):=⟨[_],cs,_,_,rfl,Parts.nil_left h,⟨rfl,rfl⟩,k⟩
theorem OwnS.nil:OwnS [] Mem.nil []:=⟨rfl,rfl⟩
theorem OwnS.last{d:D}{h:Mem}{cs:List Value}(k:Own d h cs):OwnS [d] h cs:=by
 have:=OwnS.cons (Parts.nil_right h) k OwnS.nil
 simpa using this
theorem RepS.last{μ:Mem}{d:D}{cs:List Value}(k:Rep μ d cs):RepS μ [d] cs:=⟨cs,[],by simp,k,rfl⟩
theorem RepS.int{μ:Mem}{n:Int}{r:List D}{cs:List Value}(k:RepS μ r cs):RepS μ (.i n::r) (.int .i64 n::cs):=⟨[_],cs,rfl,rfl,k⟩
theorem RepS.str{μ:Mem}{s:ByteArray}{r:List D}{cs:List Value}(k:RepS μ r cs):RepS μ (.s s::r) (.string s::cs):=⟨[_],cs,rfl,rfl,k⟩
theorem Own.nilSl(es:Nat):Own (.sl es []) Mem.nil [.slice none 0 0]:=⟨none,0,rfl,⟨Nat.zero_le _,Nat.zero_le _⟩,by simp,.inl ⟨rfl,rfl⟩⟩
theorem Rep.nilSl{μ:Mem}(es:Nat):Rep μ (.sl es []) [.slice none 0 0]:=⟨none,0,rfl,⟨Nat.zero_le _,Nat.zero_le _⟩,by simp,.inl rfl⟩
structure OwnRows (es:Nat) (ds:List D) (ys:List Value) (g:Mem):Prop where
 own:OwnS ds g (ys.flatMap aB)
 size:∀x∈ds,x.n=es
 len:ds.length=ys.length
theorem OwnRows.nil(es:Nat):OwnRows es [] [] Mem.nil:=⟨⟨rfl,rfl⟩,by simp,rfl⟩
theorem tG{g g':Mem}{b:Nat}(h:(g.join g') b≠none):g b≠none∨g' b≠none:=by
 rw[Mem.join_get]at h
 cases hg:g b with
 |none=>rw[hg]at h;exact .inr h
 |some o=>exact .inl (by simp)
end Go.Vx
namespace Go.Vx
open Go.ChangeShapes Go.WideShapes Go.ChangeAt Go.RowKit
def InR(n:Int):Prop:= -9223372036854775808≤n∧n≤9223372036854775807
section
variable {P:Program} {t:TypeId}
theorem qAu{w:World}{b:Nat}{e:TypeId}(ht:P.underlying t=some (.slice e))(cs:Array Value):¬Value.okWide P w .any b t (.agg cs):=fun h=>by
 simp[Value.okWide,ht,Cell.okWide,Cell.ok]at h
end
theorem jJ{H:Type}{enc:TypeId×Value→H}{P:Program}(hl:laidOutB P=true){W W':World}(hb:Below W.heap.size W W'){sp:Nat→Bool}:∀{ts:List TypeId} {vs:List Value} {ds:List (DataW H)} {ps:List MemPlace},
  (∀t∈ts,P.readableRec t=true∧t<P.types.size)→DataW.TrodAll enc P W 0 (fun _=>true) true ts vs ds ps→(∀x∈ps,x.block<W.heap.size)→(∀x∈ps,sp x.block=true)→DataW.TrodAll enc P W' 0 sp true ts vs ds ps
 |[],vs,ds,ps,_,h,_,_=>by
  obtain⟨rfl,rfl,rfl⟩:=trodAll_nil h
  exact trodAll_mk0
 |t::ts,vs,ds,ps,hr,h,hlt,hs=>by
  obtain⟨v,vs',d,ds',p,q,rfl,rfl,rfl,h1,h2⟩:=trodAll_cons h
  obtain⟨g1,g2⟩:=hr t (by simp)
  exact trodAll_cons_mk (WideElems.Trod_stays hl g1 g2 h1 (fun x hx=>hb.same (hlt x (by simp[hx]))) (fun x hx=>hs x (by simp[hx])))
   (jJ hl hb (fun t ht=>hr t (by simp[ht])) h2 (fun x hx=>hlt x (by simp[hx])) (fun x hx=>hs x (by simp[hx])))
theorem qLs{H:Type}{enc:TypeId×Value→H}{P:Program}{f:Func}{s:ChangeSpec}{apart fresh handsOn again:Bool}{W W':World}{args:Array Value}{ds gs:List (DataW H)}{before:List MemPlace}{tb:TypeId}
  (hl:laidOutB P=true) (hr:∀t∈f.params.toList,P.readableRec t=true∧t<P.types.size) (hres:f.resultTypes= #[tb]) (htb:P.underlying tb=some .bool) (hs:s.vars=[])
  (hfn:s.fn H ds={results:=[.lit (.bool true)],args:=ds})
  (hW:DataW.Whole enc P f.params.toList s.vars apart W args.toList ds gs before) (hb:Below W.heap.size W W'):s.post enc P f apart fresh handsOn again W args (.bool true) W':=by
 have hW0:=hW
 obtain⟨p,q,hA,hV,rfl,hz,hn⟩:=hW
 rw[hs]at hV
 obtain⟨rfl,rfl⟩:=trodVars_none hV
 have hlt:∀x∈p,x.block<W.heap.size:=fun x hx=>hW0.lt x (by simp[hx])
 have hfn':s.fn H (ds++[])={results:=[.lit (.bool true)],args:=ds}:=by simpa using hfn
 have hrl:(Value.bool true).resultList f.resultTypes.size=[.bool true]:=by rw[hres];rfl
 have hbool:∀(b:Nat) (sp:Nat→Bool) (hd:Bool),DataW.TrodAll enc P W' b sp hd f.resultTypes.toList ((Value.bool true).resultList f.resultTypes.size) [.lit (.bool true)] []:=fun b sp hd=>by
  rw[hrl,hres]
  exact trodAll_mk1 (shut_bool htb true)
 refine⟨ds,[],p++[],[],p,[],hW0,by rw[hfn'];exact hbool _ _ _,by rw[hfn'];exact jJ hl hb hr hA hlt (fun x hx=>by simpa using hlt x hx),by rw[hfn',hs];rfl,hb.frame _,fun _=>⟨fun j t r hj hr'=>?_,.lit (.bool true)::ds,[],p,⟨p,[],?_,by rw[hs];rfl,by simp,fun b off hp=>?_,fun ha=>?_⟩,fun x hx _=>by simpa using hx⟩⟩
 ·rw [hres] at hj
  rw[hrl]at hr'
  match j,hj,hr' with
  |0,hj,hr'=>
   simp at hj hr'
   subst hj;subst hr'
   exact okWide_bool_mk htb true
 ·exact trodAll_append (jJ (sp:=fun _=>true) hl hb hr hA hlt fun _ _=>rfl) (hbool _ _ _)
 ·rw [hb.frozen (p := ⟨b, off, none⟩) (hlt _ hp)]
  exact hz b off (by simpa using hp)
 ·have := hn ha
  simpa using this
theorem qFq{μ' h':Mem}{w w':World}{μ:Mem}(h:Step μ Mem.nil w μ' h' w'):Below w.heap.size w w':=⟨h.os,h.tape,h.output,h.size,fun k hk=>h.keep k hk rfl⟩
theorem Ans.calls{P:Program}{f:FuncId}{args:Array Value}{w:World}{Q:Ending→World→Prop}(h:Ans P f args w Q)(he:qHx P f):Calls P f args w Q:=by
 rcases h with h|⟨v,w',h1,_⟩
 ·exact h.2
 ·obtain ⟨fn, hf, hb, hn⟩ := he
  have hb:fn.body≠none:=by cases hb:fn.body<;>simp_all
  have hn:fn.name≠ "runtime.NumGoroutine" :=by simpa using hn
  simp[callFunc,hf,hn,hb]at h1
theorem qJj{H:Type}{enc:TypeId×Value→H}{P:Program}{f:FuncId}{fn:Func}{s:ChangeSpec}{apart fresh handsOn again:Bool}{W:World}{args:Array Value}{ds gs:List (DataW H)}{before:List MemPlace}{tb:TypeId}
  (hl:laidOutB P=true) (hr:∀t∈fn.params.toList,P.readableRec t=true∧t<P.types.size) (hres:fn.resultTypes= #[tb]) (htb:P.underlying tb=some .bool) (hs:s.vars=[])
  (hfn:s.fn H ds={results:=[.lit (.bool true)],args:=ds})
  (hW:DataW.Whole enc P fn.params.toList s.vars apart W args.toList ds gs before) (hent:qHx P f) (h:Spec P f args.toList (qNx W) fun r _=>r= .bool true):
  Calls P f args W fun e W'=>∃v,e= .returned v∧s.post enc P fn apart fresh handsOn again W args v W':=by
 have:=h.2 W (wmem_holds W) (kE W) (fK _)
 simp only[Array.toArray_toList]at this
 refine(this.calls hent).mono ?_
 rintro e W' ⟨v,μ',h',rfl,rfl,hS⟩
 exact⟨_,rfl,qLs hl hr hres htb hs hfn hW (qFq hS)⟩
end Go.Vx
namespace Go.Vx
section
variable {P:Program} {f:FuncId} {args:List Value} {μ H:Mem}
theorem Spec.lendOwn{R:Value→Mem→Prop}{R':Value→Mem→Mem→Prop}(ha:Apart μ H)(h:Spec P f args (μ.join H) R)(G:∀v μ1,(μ.join H).Le μ1→R v μ1→∃g:Mem,g.Le μ1∧(∀b,g b≠none→(μ.join H) b=none)∧R' v g μ1):
  SpecH P f args μ H fun v μ2 H2=>∃g μ1,R' v g μ1∧(μ.join H).Le μ1∧Parts H2 H g∧μ2=(μ1.sub H).sub g:=by
 refine⟨h.1,fun w hm hH _=>(h.2 w (hm.join hH) (kE w) (fK _)).mono ?_⟩
 rintro e w' ⟨v,μ1,h1,rfl,hr,hS⟩
 obtain⟨g,hg,hf,hr'⟩:=G v μ1 hS.le hr
 have hgH:Apart H g:=fun b hb=>by
  cases h2:g b with
  |none=>rfl
  |some o=>
   have:=hf b (by simp[h2])
   cases h3:H b with
   |none=>exact absurd h3 hb
   |some o'=>rw[Mem.le_join_right ha b o' h3]at this;cases this
 have hgμ:Apart μ g:=fun b hb=>by
  cases h2:g b with
  |none=>rfl
  |some o=>
   have:=hf b (by simp[h2])
   cases h3:μ b with
   |none=>exact absurd h3 hb
   |some o'=>rw[Mem.le_join μ H b o' h3]at this;cases this
 refine⟨v,(μ1.sub H).sub g,H.join g,rfl,⟨g,μ1,hr',hS.le,Parts.join hgH,rfl⟩,⟨Mem.le_sub (Mem.le_sub ((Mem.le_join μ H).trans hS.le) ha) hgμ,hS.mem.le ((Mem.sub_le _ _).trans (Mem.sub_le _ _)),(hS.mem.le ((Mem.le_join_right ha).trans hS.le)).join (hS.mem.le hg),fun b hb=>?_,fun b hb hb'=>?_,fun b hb=>?_,hS.size,fun b hb _=>hS.keep b hb rfl,hS.os,hS.tape,hS.output⟩⟩
 ·have k1 := Mem.sub_none hb
  rw[Mem.sub_of k1]at hb
  rw[Mem.join_get,Mem.sub_none hb];exact k1
 ·have k1 := Mem.sub_none hb'
  rw[Mem.sub_of k1]at hb'
  have k2:=Mem.sub_none hb'
  rw[Mem.sub_of k2]at hb'
  refine .inl ((hS.fresh b ?_ hb').resolve_right fun h=>h rfl)
  rw[Mem.join_get,hb];exact k2
 ·rcases tG hb with h2 | h2
  ·exact .inr h2
  ·refine .inl ((hS.fresh b (hf b h2) ?_).resolve_right fun h => h rfl)
   cases h3:g b with
   |none=>exact absurd h3 h2
   |some o=>rw[hg b o h3];simp
theorem Spec.beside{R:Value→Mem→Prop}(ha:Apart μ H)(h:Spec P f args μ R):SpecH P f args μ H fun v μ' H'=>H'=H∧R v μ':=by
 refine⟨h.1,fun w hm hH _=>(h.2 w hm (kE w) (fK _)).mono ?_⟩
 rintro e w' ⟨v,μ',h',rfl,hr,hS⟩
 refine⟨v,μ',H,rfl,⟨rfl,hr⟩,⟨hS.le,hS.mem,fun b o hb=>by rw[hS.keep b (hH.lt (by simp[hb])) rfl];exact hH b o hb,fun b hb=>?_,fun b hb hb'=> .inl ((hS.fresh b hb hb').resolve_right fun h=>h rfl),fun b hb=> .inr hb,hS.size,fun b hb _=>hS.keep b hb rfl,hS.os,hS.tape,hS.output⟩⟩
 by_cases hm0:μ b=none
 ·have := (hS.fresh b hm0 hb).resolve_right fun h => h rfl
  cases h1:H b with
  |none=>rfl
  |some o=>have:=hH.lt (b:=b) (by simp[h1]);omega
 ·exact ha b hm0
variable {dr:Bool} {s:St} {K:Value→St→Prop}
theorem cDa{R:Value→Mem→Prop}(hap:Apart s.mem s.own)(h:Spec P f args s.mem R)(k:∀v μ',s.mem.Le μ'→Apart μ' s.own→R v μ'→kV s μ' s.own fun s=>K v s):callVC dr P f args s K:=
 cOw (Spec.beside hap h) fun v μ' H' hle ha' ⟨h1,h2⟩=>by
  subst h1
  exact k v μ' hle ha' h2
end
end Go.Vx
namespace Go.Vx
mutual
def D.wd:D→Prop
 | .i n=>InR n
 | .b _=>True
 | .s x=>x.size≤maxLen
 | .st fs=>D.wds fs
 | .sl _ xs=>D.wds xs
def D.wds:List D→Prop
 |[]=>True
 |d::r=>d.wd∧D.wds r
end
theorem D.wds_mem:∀{xs:List D},D.wds xs→∀x∈xs,x.wd
 |[],_,x,h=>by cases h
 |d::r,k,x,h=>by
  rcases List.mem_cons.1 h with rfl|h
  ·exact k.1
  ·exact D.wds_mem k.2 x h
theorem D.wds_of:∀{xs:List D},(∀x∈xs,x.wd)→D.wds xs
 |[],_=>trivial
 |d::r,k=>⟨k d (by simp),D.wds_of fun x h=>k x (by simp[h])⟩
theorem lX{α:Type}{f:α→D}{l:List α}{j:Nat}{a:α}(h:l[j]? =some a):(l.map f)[j]? =some (f a):=by simp[h]
theorem mAt{α:Type}{l:List α}{j:Nat}{a:α}(h:l[j]? =some a):a∈l:=by
 obtain⟨h1,h2⟩:=List.getElem?_eq_some_iff.1 h
 rw[←h2];exact List.getElem_mem h1
theorem aI{n:Nat}(h:n≤maxLen):(n:Int)≤9223372036854775807:=by
 have:=Nat.le_trans h (show maxLen≤9223372036854775807 by decide);omega
theorem ElemAt.mono{μ μ':Mem}(h:μ.Le μ'){base:Option Addr}{n es:Nat}{i:Int}{a:Addr}{cs:List Value}(k:ElemAt μ base n es i a cs):ElemAt μ' base n es i a cs:=
 ⟨k.lo,k.hi,k.addr,k.len,fun j v hj=>h.cell (k.cell j v hj)⟩
theorem Sl.mono{μ μ':Mem}(h:μ.Le μ'){es n:Nat}{base:Option Addr}{xs:List D}(k:Sl μ es base n xs):Sl μ' es base n xs:=
 ⟨k.len, k.max, fun i x hx => by
  obtain⟨a,cs,h1,h2⟩:=k.get i x hx
  exact⟨a,cs,h1.mono h,Rep.mono h x cs h2⟩⟩
end Go.Vx
namespace Go.Vx
open Go.Proofs
def tt:List (Nat×TI):=[
 (1,⟨1,false,8,[.nilFunc],.func⟩),
 (2,⟨1,false,8,[.int .i64 0],.int .i64⟩),
 (3,⟨1,false,8,[.int .i64 0],.int .i64⟩),
 (4,⟨1,false,1,[.bool false],.bool⟩),
 (5,⟨1,false,1,[.int .u8 0],.int .u8⟩),
 (6,⟨1,false,1,[.int .u8 0],.int .u8⟩),
 (7,⟨4,true,24,[.int .i64 0,.int .i64 0,.bool false,.int .u8 0],.strct [(0,2),(1,3),(2,4),(3,6)]⟩),
 (8,⟨4,true,24,[.int .i64 0,.int .i64 0,.bool false,.int .u8 0],.strct [(0,2),(1,3),(2,4),(3,6)]⟩),
 (9,⟨1,false,16,[.string ⟨#[]⟩],.str⟩),
 (10,⟨1,false,16,[.string ⟨#[]⟩],.str⟩),
 (11,⟨1,false,16,[.string ⟨#[]⟩],.str⟩),
 (12,⟨1,false,8,[.int .u64 0],.int .u64⟩),
 (13,⟨2,true,24,[.string ⟨#[]⟩,.int .u64 0],.strct [(0,9),(1,12)]⟩),
 (14,⟨2,true,24,[.string ⟨#[]⟩,.int .u64 0],.strct [(0,9),(1,12)]⟩),
 (15,⟨1,false,8,[.pointer none],.ptr 254⟩),
 (16,⟨1,false,8,[.pointer none],.ptr 257⟩),
 (17,⟨1,false,8,[.pointer none],.ptr 265⟩),
 (18,⟨1,true,8,[.pointer none],.strct [(0,17)]⟩),
 (19,⟨1,true,8,[.pointer none],.strct [(0,17)]⟩),
 (20,⟨1,false,16,[.nilIface],.iface⟩),
 (21,⟨1,false,4,[.int .i32 0],.int .i32⟩),
 (22,⟨1,false,24,[.slice none 0 0],.slice 5⟩),
 (23,⟨1,false,24,[.slice none 0 0],.slice 75⟩),
 (24,⟨1,true,24,[.slice none 0 0],.strct [(0,23)]⟩),
 (25,⟨1,true,24,[.slice none 0 0],.strct [(0,23)]⟩),
 (26,⟨1,false,8,[.nilFunc],.func⟩),
 (27,⟨1,false,24,[.slice none 0 0],.slice 57⟩),
 (28,⟨1,false,8,[.nilFunc],.func⟩),
 (29,⟨1,false,24,[.slice none 0 0],.slice 31⟩),
 (30,⟨4,true,72,[.string ⟨#[]⟩,.int .i64 0,.slice none 0 0,.slice none 0 0],.strct [(0,9),(1,3),(2,27),(3,29)]⟩),
 (31,⟨4,true,72,[.string ⟨#[]⟩,.int .i64 0,.slice none 0 0,.slice none 0 0],.strct [(0,9),(1,3),(2,27),(3,29)]⟩),
 (32,⟨1,false,8,[.nilFunc],.func⟩),
 (33,⟨1,false,8,[.nilFunc],.func⟩),
 (35,⟨1,false,8,[.nilFunc],.func⟩),
 (36,⟨1,false,8,[.nilFunc],.func⟩),
 (37,⟨1,false,8,[.nilFunc],.func⟩),
 (38,⟨1,false,8,[.nilFunc],.func⟩),
 (39,⟨1,false,8,[.pointer none],.ptr 119⟩),
 (40,⟨1,false,8,[.nilFunc],.func⟩),
 (42,⟨1,false,8,[.nilFunc],.func⟩),
 (43,⟨1,false,8,[.nilFunc],.func⟩),
 (44,⟨1,false,8,[.nilFunc],.func⟩),
 (45,⟨1,false,8,[.nilFunc],.func⟩),
 (46,⟨1,false,8,[.nilFunc],.func⟩),
 (47,⟨1,false,8,[.nilFunc],.func⟩),
 (48,⟨1,false,8,[.nilFunc],.func⟩),
 (49,⟨1,false,24,[.slice none 0 0],.slice 54⟩),
 (51,⟨1,false,8,[.nilFunc],.func⟩),
 (52,⟨1,false,8,[.nilFunc],.func⟩),
 (53,⟨2,true,40,[.string ⟨#[]⟩,.slice none 0 0],.strct [(0,9),(1,27)]⟩),
 (54,⟨2,true,40,[.string ⟨#[]⟩,.slice none 0 0],.strct [(0,9),(1,27)]⟩),
 (55,⟨1,false,8,[.nilFunc],.func⟩),
 (56,⟨4,true,56,[.int .i64 0,.int .i64 0,.string ⟨#[]⟩,.slice none 0 0],.strct [(0,3),(1,3),(2,9),(3,27)]⟩),
 (57,⟨4,true,56,[.int .i64 0,.int .i64 0,.string ⟨#[]⟩,.slice none 0 0],.strct [(0,3),(1,3),(2,9),(3,27)]⟩),
 (58,⟨1,false,8,[.nilFunc],.func⟩),
 (59,⟨1,false,24,[.slice none 0 0],.slice 9⟩),
 (61,⟨1,false,8,[.nilFunc],.func⟩),
 (62,⟨1,false,8,[.pointer none],.ptr 64⟩),
 (63,⟨2,true,32,[.slice none 0 0,.int .i64 0],.strct [(0,59),(1,3)]⟩),
 (64,⟨2,true,32,[.slice none 0 0,.int .i64 0],.strct [(0,59),(1,3)]⟩),
 (65,⟨1,false,8,[.nilFunc],.func⟩),
 (66,⟨1,false,8,[.nilFunc],.func⟩),
 (67,⟨1,false,8,[.nilFunc],.func⟩),
 (68,⟨1,false,8,[.nilFunc],.func⟩),
 (69,⟨1,false,8,[.nilFunc],.func⟩),
 (70,⟨1,false,8,[.nilFunc],.func⟩),
 (71,⟨1,false,24,[.slice none 0 0],.slice 73⟩),
 (72,⟨4,true,72,[.int .i64 0,.string ⟨#[]⟩,.slice none 0 0,.slice none 0 0],.strct [(0,3),(1,9),(2,27),(3,71)]⟩),
 (73,⟨4,true,72,[.int .i64 0,.string ⟨#[]⟩,.slice none 0 0,.slice none 0 0],.strct [(0,3),(1,9),(2,27),(3,71)]⟩),
 (74,⟨7,true,104,[.string ⟨#[]⟩,.int .i64 0,.int .i64 0,.int .i64 0,.string ⟨#[]⟩,.slice none 0 0,.slice none 0 0],.strct [(0,9),(1,3),(2,3),(3,73)]⟩),
 (75,⟨7,true,104,[.string ⟨#[]⟩,.int .i64 0,.int .i64 0,.int .i64 0,.string ⟨#[]⟩,.slice none 0 0,.slice none 0 0],.strct [(0,9),(1,3),(2,3),(3,73)]⟩),
 (77,⟨1,false,8,[.nilFunc],.func⟩),
 (78,⟨1,false,8,[.nilFunc],.func⟩),
 (79,⟨1,false,8,[.nilFunc],.func⟩),
 (80,⟨1,false,8,[.nilFunc],.func⟩),
 (81,⟨1,false,8,[.nilFunc],.func⟩),
 (82,⟨1,false,8,[.nilFunc],.func⟩),
 (83,⟨1,false,24,[.slice none 0 0],.slice 112⟩),
 (84,⟨1,false,24,[.slice none 0 0],.slice 49⟩),
 (86,⟨1,false,8,[.nilFunc],.func⟩),
 (87,⟨1,false,8,[.nilFunc],.func⟩),
 (88,⟨1,false,8,[.nilFunc],.func⟩),
 (89,⟨1,false,8,[.nilFunc],.func⟩),
 (90,⟨1,false,8,[.nilFunc],.func⟩),
 (91,⟨1,false,8,[.nilFunc],.func⟩),
 (92,⟨1,false,8,[.nilFunc],.func⟩),
 (93,⟨1,false,8,[.nilFunc],.func⟩),
 (94,⟨1,false,8,[.nilFunc],.func⟩),
 (96,⟨1,false,8,[.nilFunc],.func⟩),
 (98,⟨1,false,8,[.nilFunc],.func⟩),
 (99,⟨1,false,8,[.nilFunc],.func⟩),
 (100,⟨1,false,8,[.nilFunc],.func⟩),
 (101,⟨1,false,8,[.nilFunc],.func⟩),
 (102,⟨1,false,8,[.nilFunc],.func⟩),
 (103,⟨1,false,8,[.nilFunc],.func⟩),
 (104,⟨1,false,24,[.slice none 0 0],.slice 71⟩),
 (106,⟨1,false,8,[.nilFunc],.func⟩),
 (107,⟨1,false,24,[.slice none 0 0],.slice 110⟩),
 (108,⟨1,false,8,[.nilFunc],.func⟩),
 (109,⟨5,true,64,[.int .i64 0,.int .i64 0,.int .i64 0,.string ⟨#[]⟩,.slice none 0 0],.strct [(0,3),(1,57)]⟩),
 (110,⟨5,true,64,[.int .i64 0,.int .i64 0,.int .i64 0,.string ⟨#[]⟩,.slice none 0 0],.strct [(0,3),(1,57)]⟩),
 (111,⟨6,true,120,[.string ⟨#[]⟩,.slice none 0 0,.int .i64 0,.slice none 0 0,.slice none 0 0,.slice none 0 0],.strct [(0,54),(2,3),(3,27),(4,49),(5,49)]⟩),
 (112,⟨6,true,120,[.string ⟨#[]⟩,.slice none 0 0,.int .i64 0,.slice none 0 0,.slice none 0 0,.slice none 0 0],.strct [(0,54),(2,3),(3,27),(4,49),(5,49)]⟩),
 (114,⟨1,false,8,[.nilFunc],.func⟩),
 (115,⟨1,false,8,[.nilFunc],.func⟩),
 (116,⟨1,false,8,[.nilFunc],.func⟩),
 (117,⟨1,false,8,[.nilFunc],.func⟩),
 (118,⟨3,true,40,[.slice none 0 0,.int .i64 0,.int .i64 0],.strct [(0,22),(1,3),(2,3)]⟩),
 (119,⟨3,true,40,[.slice none 0 0,.int .i64 0,.int .i64 0],.strct [(0,22),(1,3),(2,3)]⟩),
 (120,⟨1,false,8,[.int .u64 0],.int .u64⟩),
 (121,⟨1,false,8,[.nilFunc],.func⟩),
 (123,⟨1,false,8,[.nilFunc],.func⟩),
 (125,⟨1,false,8,[.nilFunc],.func⟩),
 (126,⟨1,false,8,[.nilFunc],.func⟩),
 (127,⟨1,false,8,[.nilFunc],.func⟩),
 (128,⟨1,false,8,[.nilFunc],.func⟩),
 (129,⟨1,false,8,[.nilFunc],.func⟩),
 (130,⟨1,false,8,[.nilFunc],.func⟩),
 (131,⟨1,false,8,[.nilFunc],.func⟩),
 (132,⟨1,false,8,[.nilFunc],.func⟩),
 (134,⟨1,false,8,[.nilFunc],.func⟩),
 (135,⟨1,false,8,[.nilFunc],.func⟩),
 (136,⟨1,false,8,[.nilFunc],.func⟩),
 (137,⟨1,false,8,[.nilFunc],.func⟩),
 (138,⟨1,false,8,[.nilFunc],.func⟩),
 (139,⟨1,false,8,[.nilFunc],.func⟩),
 (140,⟨1,false,8,[.nilFunc],.func⟩),
 (141,⟨1,false,8,[.nilFunc],.func⟩),
 (142,⟨1,false,8,[.nilFunc],.func⟩),
 (143,⟨1,false,8,[.pointer none],.ptr 3⟩),
 (144,⟨1,false,8,[.nilFunc],.func⟩),
 (145,⟨1,false,8,[.nilFunc],.func⟩),
 (146,⟨1,false,8,[.nilFunc],.func⟩),
 (147,⟨1,false,8,[.nilFunc],.func⟩),
 (148,⟨1,false,8,[.nilFunc],.func⟩),
 (149,⟨1,false,8,[.nilFunc],.func⟩),
 (150,⟨1,false,24,[.slice none 0 0],.slice 3⟩),
 (151,⟨1,false,8,[.nilFunc],.func⟩),
 (152,⟨1,false,8,[.nilFunc],.func⟩),
 (153,⟨1,false,8,[.nilFunc],.func⟩),
 (154,⟨1,false,8,[.nilFunc],.func⟩),
 (155,⟨1,false,8,[.nilFunc],.func⟩),
 (156,⟨1,false,8,[.nilFunc],.func⟩),
 (157,⟨1,false,8,[.nilFunc],.func⟩),
 (158,⟨1,false,8,[.nilFunc],.func⟩),
 (160,⟨1,false,8,[.nilFunc],.func⟩),
 (161,⟨1,false,8,[.nilFunc],.func⟩),
 (162,⟨1,false,8,[.nilFunc],.func⟩),
 (163,⟨1,false,8,[.nilFunc],.func⟩),
 (164,⟨1,false,8,[.nilFunc],.func⟩),
 (165,⟨1,false,8,[.nilFunc],.func⟩),
 (166,⟨1,false,8,[.nilFunc],.func⟩),
 (167,⟨1,false,8,[.nilFunc],.func⟩),
 (168,⟨1,false,8,[.nilFunc],.func⟩),
 (169,⟨1,false,8,[.map none],.map 3 3⟩),
 (170,⟨1,false,8,[.nilFunc],.func⟩),
 (171,⟨1,false,8,[.nilFunc],.func⟩),
 (172,⟨1,false,8,[.nilFunc],.func⟩),
 (173,⟨1,false,8,[.nilFunc],.func⟩),
 (174,⟨1,false,8,[.nilFunc],.func⟩),
 (175,⟨1,false,8,[.pointer none],.ptr 177⟩),
 (176,⟨2,true,32,[.pointer none,.slice none 0 0],.strct [(0,175),(1,22)]⟩),
 (177,⟨2,true,32,[.pointer none,.slice none 0 0],.strct [(0,175),(1,22)]⟩),
 (178,⟨1,false,8,[.nilFunc],.func⟩),
 (179,⟨1,false,16,[.nilIface],.iface⟩),
 (180,⟨1,false,16,[.nilIface],.iface⟩),
 (182,⟨1,false,8,[.nilFunc],.func⟩),
 (183,⟨1,false,8,[.nilFunc],.func⟩),
 (184,⟨1,false,8,[.nilFunc],.func⟩),
 (185,⟨1,false,8,[.nilFunc],.func⟩),
 (186,⟨1,false,8,[.nilFunc],.func⟩),
 (187,⟨1,false,8,[.nilFunc],.func⟩),
 (188,⟨1,false,8,[.nilFunc],.func⟩),
 (189,⟨1,false,8,[.nilFunc],.func⟩),
 (190,⟨1,false,8,[.nilFunc],.func⟩),
 (191,⟨1,false,8,[.nilFunc],.func⟩),
 (192,⟨1,false,8,[.map none],.map 3 4⟩),
 (193,⟨1,false,8,[.nilFunc],.func⟩),
 (194,⟨1,false,8,[.nilFunc],.func⟩),
 (195,⟨1,false,8,[.nilFunc],.func⟩),
 (196,⟨1,false,8,[.nilFunc],.func⟩),
 (197,⟨1,false,8,[.nilFunc],.func⟩),
 (198,⟨1,false,8,[.nilFunc],.func⟩),
 (199,⟨1,false,8,[.nilFunc],.func⟩),
 (200,⟨1,false,8,[.pointer none],.ptr 5⟩),
 (201,⟨1,false,8,[.nilFunc],.func⟩),
 (202,⟨1,false,8,[.nilFunc],.func⟩),
 (203,⟨1,false,8,[.nilFunc],.func⟩),
 (205,⟨1,false,8,[.int .u64 0],.int .u64⟩),
 (206,⟨1,false,8,[.nilFunc],.func⟩),
 (207,⟨1,false,8,[.nilFunc],.func⟩),
 (209,⟨1,false,8,[.nilFunc],.func⟩),
 (210,⟨1,false,8,[.int .i64 0],.int .i64⟩),
 (212,⟨1,false,8,[.nilFunc],.func⟩),
 (213,⟨1,false,8,[.pointer none],.ptr 227⟩),
 (214,⟨1,false,8,[.nilFunc],.func⟩),
 (215,⟨1,false,8,[.nilFunc],.func⟩),
 (216,⟨1,false,8,[.nilFunc],.func⟩),
 (218,⟨1,false,4,[.int .u32 0],.int .u32⟩),
 (220,⟨1,false,8,[.nilFunc],.func⟩),
 (221,⟨1,false,8,[.nilFunc],.func⟩),
 (223,⟨1,false,8,[.nilFunc],.func⟩),
 (225,⟨1,false,8,[.nilFunc],.func⟩),
 (226,⟨3,true,48,[.string ⟨#[]⟩,.string ⟨#[]⟩,.nilIface],.strct [(0,9),(1,9),(2,180)]⟩),
 (227,⟨3,true,48,[.string ⟨#[]⟩,.string ⟨#[]⟩,.nilIface],.strct [(0,9),(1,9),(2,180)]⟩),
 (228,⟨1,false,8,[.nilFunc],.func⟩),
 (229,⟨1,false,8,[.nilFunc],.func⟩),
 (230,⟨1,false,8,[.nilFunc],.func⟩),
 (231,⟨1,false,8,[.nilFunc],.func⟩),
 (232,⟨1,false,8,[.pointer none],.ptr 234⟩),
 (233,⟨1,true,16,[.string ⟨#[]⟩],.strct [(0,9)]⟩),
 (234,⟨1,true,16,[.string ⟨#[]⟩],.strct [(0,9)]⟩),
 (235,⟨1,false,8,[.nilFunc],.func⟩),
 (236,⟨1,false,8,[.int .i64 0],.int .i64⟩),
 (238,⟨1,false,8,[.nilFunc],.func⟩),
 (239,⟨1,false,8,[.nilFunc],.func⟩),
 (240,⟨1,false,8,[.nilFunc],.func⟩),
 (241,⟨1,false,8,[.nilFunc],.func⟩),
 (242,⟨1,false,8,[.nilFunc],.func⟩),
 (245,⟨1,false,8,[.int .u64 0],.int .u64⟩),
 (246,⟨1,false,8,[.nilFunc],.func⟩),
 (247,⟨1,false,8,[.nilFunc],.func⟩),
 (248,⟨1,false,8,[.nilFunc],.func⟩),
 (249,⟨1,false,8,[.nilFunc],.func⟩),
 (250,⟨1,false,8,[.pointer none],.ptr 245⟩),
 (252,⟨1,false,8,[.nilFunc],.func⟩),
 (253,⟨4,true,40,[.pointer none,.pointer none,.pointer none,.string ⟨#[]⟩],.strct [(0,17),(1,17),(2,17),(3,9)]⟩),
 (254,⟨4,true,40,[.pointer none,.pointer none,.pointer none,.string ⟨#[]⟩],.strct [(0,17),(1,17),(2,17),(3,9)]⟩),
 (256,⟨0,true,0,[],.strct [(0,255)]⟩),
 (257,⟨0,true,0,[],.strct [(0,255)]⟩),
 (258,⟨1,false,8,[.nilFunc],.func⟩),
 (259,⟨1,false,1,[.int .u8 0],.int .u8⟩),
 (260,⟨1,false,1,[.int .u8 0],.int .u8⟩),
 (261,⟨1,false,8,[.nilFunc],.func⟩),
 (262,⟨1,false,4,[.int .i32 0],.int .i32⟩),
 (263,⟨1,false,4,[.int .i32 0],.int .i32⟩),
 (264,⟨11,true,48,[.int .u64 0,.int .u64 0,.int .u32 0,.int .u8 0,.int .u8 0,.int .u8 0,.int .u8 0,.nilFunc,.pointer none,.int .i32 0,.int .i32 0],.strct [(0,12),(1,12),(2,218),(3,259),(4,5),(5,5),(6,260),(7,261),(8,200),(9,262),(10,263)]⟩),
 (265,⟨11,true,48,[.int .u64 0,.int .u64 0,.int .u32 0,.int .u8 0,.int .u8 0,.int .u8 0,.int .u8 0,.nilFunc,.pointer none,.int .i32 0,.int .i32 0],.strct [(0,12),(1,12),(2,218),(3,259),(4,5),(5,5),(6,260),(7,261),(8,200),(9,262),(10,263)]⟩)]
theorem ti1:TIok Tryz.prog 1 ⟨1,false,8,[.nilFunc],.func⟩:=⟨by kernel_rfl,by kernel_rfl,by kernel_rfl,rfl,by kernel_rfl,trivial⟩
theorem ti2:TIok Tryz.prog 2 ⟨1,false,8,[.int .i64 0],.int .i64⟩:=⟨by kernel_rfl,by kernel_rfl,by kernel_rfl,rfl,by kernel_rfl,by show _=_;kernel_rfl⟩
theorem ti3:TIok Tryz.prog 3 ⟨1,false,8,[.int .i64 0],.int .i64⟩:=⟨by kernel_rfl,by kernel_rfl,by kernel_rfl,rfl,by kernel_rfl,by show _=_;kernel_rfl⟩
theorem ti4:TIok Tryz.prog 4 ⟨1,false,1,[.bool false],.bool⟩:=⟨by kernel_rfl,by kernel_rfl,by kernel_rfl,rfl,by kernel_rfl,by show _=_;kernel_rfl⟩
theorem ti5:TIok Tryz.prog 5 ⟨1,false,1,[.int .u8 0],.int .u8⟩:=⟨by kernel_rfl,by kernel_rfl,by kernel_rfl,rfl,by kernel_rfl,by show _=_;kernel_rfl⟩
theorem ti6:TIok Tryz.prog 6 ⟨1,false,1,[.int .u8 0],.int .u8⟩:=⟨by kernel_rfl,by kernel_rfl,by kernel_rfl,rfl,by kernel_rfl,by show _=_;kernel_rfl⟩
theorem ti7:TIok Tryz.prog 7 ⟨4,true,24,[.int .i64 0,.int .i64 0,.bool false,.int .u8 0],.strct [(0,2),(1,3),(2,4),(3,6)]⟩:=⟨by kernel_rfl,by kernel_rfl,by kernel_rfl,rfl,by kernel_rfl,⟨by kernel_rfl,by kernel_rfl⟩⟩
theorem ti8:TIok Tryz.prog 8 ⟨4,true,24,[.int .i64 0,.int .i64 0,.bool false,.int .u8 0],.strct [(0,2),(1,3),(2,4),(3,6)]⟩:=⟨by kernel_rfl,by kernel_rfl,by kernel_rfl,rfl,by kernel_rfl,⟨by kernel_rfl,by kernel_rfl⟩⟩
theorem ti9:TIok Tryz.prog 9 ⟨1,false,16,[.string ⟨#[]⟩],.str⟩:=⟨by kernel_rfl,by kernel_rfl,by kernel_rfl,rfl,by kernel_rfl,by show _=_;kernel_rfl⟩
theorem ti10:TIok Tryz.prog 10 ⟨1,false,16,[.string ⟨#[]⟩],.str⟩:=⟨by kernel_rfl,by kernel_rfl,by kernel_rfl,rfl,by kernel_rfl,by show _=_;kernel_rfl⟩
theorem ti11:TIok Tryz.prog 11 ⟨1,false,16,[.string ⟨#[]⟩],.str⟩:=⟨by kernel_rfl,by kernel_rfl,by kernel_rfl,rfl,by kernel_rfl,by show _=_;kernel_rfl⟩
theorem ti12:TIok Tryz.prog 12 ⟨1,false,8,[.int .u64 0],.int .u64⟩:=⟨by kernel_rfl,by kernel_rfl,by kernel_rfl,rfl,by kernel_rfl,by show _=_;kernel_rfl⟩
theorem ti13:TIok Tryz.prog 13 ⟨2,true,24,[.string ⟨#[]⟩,.int .u64 0],.strct [(0,9),(1,12)]⟩:=⟨by kernel_rfl,by kernel_rfl,by kernel_rfl,rfl,by kernel_rfl,⟨by kernel_rfl,by kernel_rfl⟩⟩
theorem ti14:TIok Tryz.prog 14 ⟨2,true,24,[.string ⟨#[]⟩,.int .u64 0],.strct [(0,9),(1,12)]⟩:=⟨by kernel_rfl,by kernel_rfl,by kernel_rfl,rfl,by kernel_rfl,⟨by kernel_rfl,by kernel_rfl⟩⟩
theorem ti15:TIok Tryz.prog 15 ⟨1,false,8,[.pointer none],.ptr 254⟩:=⟨by kernel_rfl,by kernel_rfl,by kernel_rfl,rfl,by kernel_rfl,by show _=_;kernel_rfl⟩
theorem ti16:TIok Tryz.prog 16 ⟨1,false,8,[.pointer none],.ptr 257⟩:=⟨by kernel_rfl,by kernel_rfl,by kernel_rfl,rfl,by kernel_rfl,by show _=_;kernel_rfl⟩
theorem ti17:TIok Tryz.prog 17 ⟨1,false,8,[.pointer none],.ptr 265⟩:=⟨by kernel_rfl,by kernel_rfl,by kernel_rfl,rfl,by kernel_rfl,by show _=_;kernel_rfl⟩
theorem ti18:TIok Tryz.prog 18 ⟨1,true,8,[.pointer none],.strct [(0,17)]⟩:=⟨by kernel_rfl,by kernel_rfl,by kernel_rfl,rfl,by kernel_rfl,⟨by kernel_rfl,by kernel_rfl⟩⟩
theorem ti19:TIok Tryz.prog 19 ⟨1,true,8,[.pointer none],.strct [(0,17)]⟩:=⟨by kernel_rfl,by kernel_rfl,by kernel_rfl,rfl,by kernel_rfl,⟨by kernel_rfl,by kernel_rfl⟩⟩
theorem ti20:TIok Tryz.prog 20 ⟨1,false,16,[.nilIface],.iface⟩:=⟨by kernel_rfl,by kernel_rfl,by kernel_rfl,rfl,by kernel_rfl,by show _=_;kernel_rfl⟩
theorem ti21:TIok Tryz.prog 21 ⟨1,false,4,[.int .i32 0],.int .i32⟩:=⟨by kernel_rfl,by kernel_rfl,by kernel_rfl,rfl,by kernel_rfl,by show _=_;kernel_rfl⟩
theorem ti22:TIok Tryz.prog 22 ⟨1,false,24,[.slice none 0 0],.slice 5⟩:=⟨by kernel_rfl,by kernel_rfl,by kernel_rfl,rfl,by kernel_rfl,by show _=_;kernel_rfl⟩
theorem ti23:TIok Tryz.prog 23 ⟨1,false,24,[.slice none 0 0],.slice 75⟩:=⟨by kernel_rfl,by kernel_rfl,by kernel_rfl,rfl,by kernel_rfl,by show _=_;kernel_rfl⟩
theorem ti24:TIok Tryz.prog 24 ⟨1,true,24,[.slice none 0 0],.strct [(0,23)]⟩:=⟨by kernel_rfl,by kernel_rfl,by kernel_rfl,rfl,by kernel_rfl,⟨by kernel_rfl,by kernel_rfl⟩⟩
theorem ti25:TIok Tryz.prog 25 ⟨1,true,24,[.slice none 0 0],.strct [(0,23)]⟩:=⟨by kernel_rfl,by kernel_rfl,by kernel_rfl,rfl,by kernel_rfl,⟨by kernel_rfl,by kernel_rfl⟩⟩
theorem ti26:TIok Tryz.prog 26 ⟨1,false,8,[.nilFunc],.func⟩:=⟨by kernel_rfl,by kernel_rfl,by kernel_rfl,rfl,by kernel_rfl,trivial⟩
theorem ti27:TIok Tryz.prog 27 ⟨1,false,24,[.slice none 0 0],.slice 57⟩:=⟨by kernel_rfl,by kernel_rfl,by kernel_rfl,rfl,by kernel_rfl,by show _=_;kernel_rfl⟩
theorem ti28:TIok Tryz.prog 28 ⟨1,false,8,[.nilFunc],.func⟩:=⟨by kernel_rfl,by kernel_rfl,by kernel_rfl,rfl,by kernel_rfl,trivial⟩
theorem ti29:TIok Tryz.prog 29 ⟨1,false,24,[.slice none 0 0],.slice 31⟩:=⟨by kernel_rfl,by kernel_rfl,by kernel_rfl,rfl,by kernel_rfl,by show _=_;kernel_rfl⟩
theorem ti30:TIok Tryz.prog 30 ⟨4,true,72,[.string ⟨#[]⟩,.int .i64 0,.slice none 0 0,.slice none 0 0],.strct [(0,9),(1,3),(2,27),(3,29)]⟩:=⟨by kernel_rfl,by kernel_rfl,by kernel_rfl,rfl,by kernel_rfl,⟨by kernel_rfl,by kernel_rfl⟩⟩
theorem ti31:TIok Tryz.prog 31 ⟨4,true,72,[.string ⟨#[]⟩,.int .i64 0,.slice none 0 0,.slice none 0 0],.strct [(0,9),(1,3),(2,27),(3,29)]⟩:=⟨by kernel_rfl,by kernel_rfl,by kernel_rfl,rfl,by kernel_rfl,⟨by kernel_rfl,by kernel_rfl⟩⟩
theorem ti32:TIok Tryz.prog 32 ⟨1,false,8,[.nilFunc],.func⟩:=⟨by kernel_rfl,by kernel_rfl,by kernel_rfl,rfl,by kernel_rfl,trivial⟩
theorem ti33:TIok Tryz.prog 33 ⟨1,false,8,[.nilFunc],.func⟩:=⟨by kernel_rfl,by kernel_rfl,by kernel_rfl,rfl,by kernel_rfl,trivial⟩
theorem ti35:TIok Tryz.prog 35 ⟨1,false,8,[.nilFunc],.func⟩:=⟨by kernel_rfl,by kernel_rfl,by kernel_rfl,rfl,by kernel_rfl,trivial⟩
theorem ti36:TIok Tryz.prog 36 ⟨1,false,8,[.nilFunc],.func⟩:=⟨by kernel_rfl,by kernel_rfl,by kernel_rfl,rfl,by kernel_rfl,trivial⟩
theorem ti37:TIok Tryz.prog 37 ⟨1,false,8,[.nilFunc],.func⟩:=⟨by kernel_rfl,by kernel_rfl,by kernel_rfl,rfl,by kernel_rfl,trivial⟩
theorem ti38:TIok Tryz.prog 38 ⟨1,false,8,[.nilFunc],.func⟩:=⟨by kernel_rfl,by kernel_rfl,by kernel_rfl,rfl,by kernel_rfl,trivial⟩
theorem ti39:TIok Tryz.prog 39 ⟨1,false,8,[.pointer none],.ptr 119⟩:=⟨by kernel_rfl,by kernel_rfl,by kernel_rfl,rfl,by kernel_rfl,by show _=_;kernel_rfl⟩
theorem ti40:TIok Tryz.prog 40 ⟨1,false,8,[.nilFunc],.func⟩:=⟨by kernel_rfl,by kernel_rfl,by kernel_rfl,rfl,by kernel_rfl,trivial⟩
theorem ti42:TIok Tryz.prog 42 ⟨1,false,8,[.nilFunc],.func⟩:=⟨by kernel_rfl,by kernel_rfl,by kernel_rfl,rfl,by kernel_rfl,trivial⟩
theorem ti43:TIok Tryz.prog 43 ⟨1,false,8,[.nilFunc],.func⟩:=⟨by kernel_rfl,by kernel_rfl,by kernel_rfl,rfl,by kernel_rfl,trivial⟩
theorem ti44:TIok Tryz.prog 44 ⟨1,false,8,[.nilFunc],.func⟩:=⟨by kernel_rfl,by kernel_rfl,by kernel_rfl,rfl,by kernel_rfl,trivial⟩
theorem ti45:TIok Tryz.prog 45 ⟨1,false,8,[.nilFunc],.func⟩:=⟨by kernel_rfl,by kernel_rfl,by kernel_rfl,rfl,by kernel_rfl,trivial⟩
theorem ti46:TIok Tryz.prog 46 ⟨1,false,8,[.nilFunc],.func⟩:=⟨by kernel_rfl,by kernel_rfl,by kernel_rfl,rfl,by kernel_rfl,trivial⟩
theorem ti47:TIok Tryz.prog 47 ⟨1,false,8,[.nilFunc],.func⟩:=⟨by kernel_rfl,by kernel_rfl,by kernel_rfl,rfl,by kernel_rfl,trivial⟩
theorem ti48:TIok Tryz.prog 48 ⟨1,false,8,[.nilFunc],.func⟩:=⟨by kernel_rfl,by kernel_rfl,by kernel_rfl,rfl,by kernel_rfl,trivial⟩
theorem ti49:TIok Tryz.prog 49 ⟨1,false,24,[.slice none 0 0],.slice 54⟩:=⟨by kernel_rfl,by kernel_rfl,by kernel_rfl,rfl,by kernel_rfl,by show _=_;kernel_rfl⟩
theorem ti51:TIok Tryz.prog 51 ⟨1,false,8,[.nilFunc],.func⟩:=⟨by kernel_rfl,by kernel_rfl,by kernel_rfl,rfl,by kernel_rfl,trivial⟩
theorem ti52:TIok Tryz.prog 52 ⟨1,false,8,[.nilFunc],.func⟩:=⟨by kernel_rfl,by kernel_rfl,by kernel_rfl,rfl,by kernel_rfl,trivial⟩
theorem ti53:TIok Tryz.prog 53 ⟨2,true,40,[.string ⟨#[]⟩,.slice none 0 0],.strct [(0,9),(1,27)]⟩:=⟨by kernel_rfl,by kernel_rfl,by kernel_rfl,rfl,by kernel_rfl,⟨by kernel_rfl,by kernel_rfl⟩⟩
theorem ti54:TIok Tryz.prog 54 ⟨2,true,40,[.string ⟨#[]⟩,.slice none 0 0],.strct [(0,9),(1,27)]⟩:=⟨by kernel_rfl,by kernel_rfl,by kernel_rfl,rfl,by kernel_rfl,⟨by kernel_rfl,by kernel_rfl⟩⟩
theorem ti55:TIok Tryz.prog 55 ⟨1,false,8,[.nilFunc],.func⟩:=⟨by kernel_rfl,by kernel_rfl,by kernel_rfl,rfl,by kernel_rfl,trivial⟩
theorem ti56:TIok Tryz.prog 56 ⟨4,true,56,[.int .i64 0,.int .i64 0,.string ⟨#[]⟩,.slice none 0 0],.strct [(0,3),(1,3),(2,9),(3,27)]⟩:=⟨by kernel_rfl,by kernel_rfl,by kernel_rfl,rfl,by kernel_rfl,⟨by kernel_rfl,by kernel_rfl⟩⟩
theorem ti57:TIok Tryz.prog 57 ⟨4,true,56,[.int .i64 0,.int .i64 0,.string ⟨#[]⟩,.slice none 0 0],.strct [(0,3),(1,3),(2,9),(3,27)]⟩:=⟨by kernel_rfl,by kernel_rfl,by kernel_rfl,rfl,by kernel_rfl,⟨by kernel_rfl,by kernel_rfl⟩⟩
theorem ti58:TIok Tryz.prog 58 ⟨1,false,8,[.nilFunc],.func⟩:=⟨by kernel_rfl,by kernel_rfl,by kernel_rfl,rfl,by kernel_rfl,trivial⟩
theorem ti59:TIok Tryz.prog 59 ⟨1,false,24,[.slice none 0 0],.slice 9⟩:=⟨by kernel_rfl,by kernel_rfl,by kernel_rfl,rfl,by kernel_rfl,by show _=_;kernel_rfl⟩
theorem ti61:TIok Tryz.prog 61 ⟨1,false,8,[.nilFunc],.func⟩:=⟨by kernel_rfl,by kernel_rfl,by kernel_rfl,rfl,by kernel_rfl,trivial⟩
theorem ti62:TIok Tryz.prog 62 ⟨1,false,8,[.pointer none],.ptr 64⟩:=⟨by kernel_rfl,by kernel_rfl,by kernel_rfl,rfl,by kernel_rfl,by show _=_;kernel_rfl⟩
theorem ti63:TIok Tryz.prog 63 ⟨2,true,32,[.slice none 0 0,.int .i64 0],.strct [(0,59),(1,3)]⟩:=⟨by kernel_rfl,by kernel_rfl,by kernel_rfl,rfl,by kernel_rfl,⟨by kernel_rfl,by kernel_rfl⟩⟩
theorem ti64:TIok Tryz.prog 64 ⟨2,true,32,[.slice none 0 0,.int .i64 0],.strct [(0,59),(1,3)]⟩:=⟨by kernel_rfl,by kernel_rfl,by kernel_rfl,rfl,by kernel_rfl,⟨by kernel_rfl,by kernel_rfl⟩⟩
theorem ti65:TIok Tryz.prog 65 ⟨1,false,8,[.nilFunc],.func⟩:=⟨by kernel_rfl,by kernel_rfl,by kernel_rfl,rfl,by kernel_rfl,trivial⟩
theorem ti66:TIok Tryz.prog 66 ⟨1,false,8,[.nilFunc],.func⟩:=⟨by kernel_rfl,by kernel_rfl,by kernel_rfl,rfl,by kernel_rfl,trivial⟩
theorem ti67:TIok Tryz.prog 67 ⟨1,false,8,[.nilFunc],.func⟩:=⟨by kernel_rfl,by kernel_rfl,by kernel_rfl,rfl,by kernel_rfl,trivial⟩
theorem ti68:TIok Tryz.prog 68 ⟨1,false,8,[.nilFunc],.func⟩:=⟨by kernel_rfl,by kernel_rfl,by kernel_rfl,rfl,by kernel_rfl,trivial⟩
theorem ti69:TIok Tryz.prog 69 ⟨1,false,8,[.nilFunc],.func⟩:=⟨by kernel_rfl,by kernel_rfl,by kernel_rfl,rfl,by kernel_rfl,trivial⟩
theorem ti70:TIok Tryz.prog 70 ⟨1,false,8,[.nilFunc],.func⟩:=⟨by kernel_rfl,by kernel_rfl,by kernel_rfl,rfl,by kernel_rfl,trivial⟩
theorem ti71:TIok Tryz.prog 71 ⟨1,false,24,[.slice none 0 0],.slice 73⟩:=⟨by kernel_rfl,by kernel_rfl,by kernel_rfl,rfl,by kernel_rfl,by show _=_;kernel_rfl⟩
theorem ti72:TIok Tryz.prog 72 ⟨4,true,72,[.int .i64 0,.string ⟨#[]⟩,.slice none 0 0,.slice none 0 0],.strct [(0,3),(1,9),(2,27),(3,71)]⟩:=⟨by kernel_rfl,by kernel_rfl,by kernel_rfl,rfl,by kernel_rfl,⟨by kernel_rfl,by kernel_rfl⟩⟩
theorem ti73:TIok Tryz.prog 73 ⟨4,true,72,[.int .i64 0,.string ⟨#[]⟩,.slice none 0 0,.slice none 0 0],.strct [(0,3),(1,9),(2,27),(3,71)]⟩:=⟨by kernel_rfl,by kernel_rfl,by kernel_rfl,rfl,by kernel_rfl,⟨by kernel_rfl,by kernel_rfl⟩⟩
theorem ti74:TIok Tryz.prog 74 ⟨7,true,104,[.string ⟨#[]⟩,.int .i64 0,.int .i64 0,.int .i64 0,.string ⟨#[]⟩,.slice none 0 0,.slice none 0 0],.strct [(0,9),(1,3),(2,3),(3,73)]⟩:=⟨by kernel_rfl,by kernel_rfl,by kernel_rfl,rfl,by kernel_rfl,⟨by kernel_rfl,by kernel_rfl⟩⟩
theorem ti75:TIok Tryz.prog 75 ⟨7,true,104,[.string ⟨#[]⟩,.int .i64 0,.int .i64 0,.int .i64 0,.string ⟨#[]⟩,.slice none 0 0,.slice none 0 0],.strct [(0,9),(1,3),(2,3),(3,73)]⟩:=⟨by kernel_rfl,by kernel_rfl,by kernel_rfl,rfl,by kernel_rfl,⟨by kernel_rfl,by kernel_rfl⟩⟩
theorem ti77:TIok Tryz.prog 77 ⟨1,false,8,[.nilFunc],.func⟩:=⟨by kernel_rfl,by kernel_rfl,by kernel_rfl,rfl,by kernel_rfl,trivial⟩
theorem ti78:TIok Tryz.prog 78 ⟨1,false,8,[.nilFunc],.func⟩:=⟨by kernel_rfl,by kernel_rfl,by kernel_rfl,rfl,by kernel_rfl,trivial⟩
theorem ti79:TIok Tryz.prog 79 ⟨1,false,8,[.nilFunc],.func⟩:=⟨by kernel_rfl,by kernel_rfl,by kernel_rfl,rfl,by kernel_rfl,trivial⟩
theorem ti80:TIok Tryz.prog 80 ⟨1,false,8,[.nilFunc],.func⟩:=⟨by kernel_rfl,by kernel_rfl,by kernel_rfl,rfl,by kernel_rfl,trivial⟩
theorem ti81:TIok Tryz.prog 81 ⟨1,false,8,[.nilFunc],.func⟩:=⟨by kernel_rfl,by kernel_rfl,by kernel_rfl,rfl,by kernel_rfl,trivial⟩
theorem ti82:TIok Tryz.prog 82 ⟨1,false,8,[.nilFunc],.func⟩:=⟨by kernel_rfl,by kernel_rfl,by kernel_rfl,rfl,by kernel_rfl,trivial⟩
theorem ti83:TIok Tryz.prog 83 ⟨1,false,24,[.slice none 0 0],.slice 112⟩:=⟨by kernel_rfl,by kernel_rfl,by kernel_rfl,rfl,by kernel_rfl,by show _=_;kernel_rfl⟩
theorem ti84:TIok Tryz.prog 84 ⟨1,false,24,[.slice none 0 0],.slice 49⟩:=⟨by kernel_rfl,by kernel_rfl,by kernel_rfl,rfl,by kernel_rfl,by show _=_;kernel_rfl⟩
theorem ti86:TIok Tryz.prog 86 ⟨1,false,8,[.nilFunc],.func⟩:=⟨by kernel_rfl,by kernel_rfl,by kernel_rfl,rfl,by kernel_rfl,trivial⟩
theorem ti87:TIok Tryz.prog 87 ⟨1,false,8,[.nilFunc],.func⟩:=⟨by kernel_rfl,by kernel_rfl,by kernel_rfl,rfl,by kernel_rfl,trivial⟩
theorem ti88:TIok Tryz.prog 88 ⟨1,false,8,[.nilFunc],.func⟩:=⟨by kernel_rfl,by kernel_rfl,by kernel_rfl,rfl,by kernel_rfl,trivial⟩
theorem ti89:TIok Tryz.prog 89 ⟨1,false,8,[.nilFunc],.func⟩:=⟨by kernel_rfl,by kernel_rfl,by kernel_rfl,rfl,by kernel_rfl,trivial⟩
theorem ti90:TIok Tryz.prog 90 ⟨1,false,8,[.nilFunc],.func⟩:=⟨by kernel_rfl,by kernel_rfl,by kernel_rfl,rfl,by kernel_rfl,trivial⟩
theorem ti91:TIok Tryz.prog 91 ⟨1,false,8,[.nilFunc],.func⟩:=⟨by kernel_rfl,by kernel_rfl,by kernel_rfl,rfl,by kernel_rfl,trivial⟩
theorem ti92:TIok Tryz.prog 92 ⟨1,false,8,[.nilFunc],.func⟩:=⟨by kernel_rfl,by kernel_rfl,by kernel_rfl,rfl,by kernel_rfl,trivial⟩
theorem ti93:TIok Tryz.prog 93 ⟨1,false,8,[.nilFunc],.func⟩:=⟨by kernel_rfl,by kernel_rfl,by kernel_rfl,rfl,by kernel_rfl,trivial⟩
theorem ti94:TIok Tryz.prog 94 ⟨1,false,8,[.nilFunc],.func⟩:=⟨by kernel_rfl,by kernel_rfl,by kernel_rfl,rfl,by kernel_rfl,trivial⟩
theorem ti96:TIok Tryz.prog 96 ⟨1,false,8,[.nilFunc],.func⟩:=⟨by kernel_rfl,by kernel_rfl,by kernel_rfl,rfl,by kernel_rfl,trivial⟩
theorem ti98:TIok Tryz.prog 98 ⟨1,false,8,[.nilFunc],.func⟩:=⟨by kernel_rfl,by kernel_rfl,by kernel_rfl,rfl,by kernel_rfl,trivial⟩
theorem ti99:TIok Tryz.prog 99 ⟨1,false,8,[.nilFunc],.func⟩:=⟨by kernel_rfl,by kernel_rfl,by kernel_rfl,rfl,by kernel_rfl,trivial⟩
theorem ti100:TIok Tryz.prog 100 ⟨1,false,8,[.nilFunc],.func⟩:=⟨by kernel_rfl,by kernel_rfl,by kernel_rfl,rfl,by kernel_rfl,trivial⟩
theorem ti101:TIok Tryz.prog 101 ⟨1,false,8,[.nilFunc],.func⟩:=⟨by kernel_rfl,by kernel_rfl,by kernel_rfl,rfl,by kernel_rfl,trivial⟩
theorem ti102:TIok Tryz.prog 102 ⟨1,false,8,[.nilFunc],.func⟩:=⟨by kernel_rfl,by kernel_rfl,by kernel_rfl,rfl,by kernel_rfl,trivial⟩
theorem ti103:TIok Tryz.prog 103 ⟨1,false,8,[.nilFunc],.func⟩:=⟨by kernel_rfl,by kernel_rfl,by kernel_rfl,rfl,by kernel_rfl,trivial⟩
theorem ti104:TIok Tryz.prog 104 ⟨1,false,24,[.slice none 0 0],.slice 71⟩:=⟨by kernel_rfl,by kernel_rfl,by kernel_rfl,rfl,by kernel_rfl,by show _=_;kernel_rfl⟩
theorem ti106:TIok Tryz.prog 106 ⟨1,false,8,[.nilFunc],.func⟩:=⟨by kernel_rfl,by kernel_rfl,by kernel_rfl,rfl,by kernel_rfl,trivial⟩
theorem ti107:TIok Tryz.prog 107 ⟨1,false,24,[.slice none 0 0],.slice 110⟩:=⟨by kernel_rfl,by kernel_rfl,by kernel_rfl,rfl,by kernel_rfl,by show _=_;kernel_rfl⟩
theorem ti108:TIok Tryz.prog 108 ⟨1,false,8,[.nilFunc],.func⟩:=⟨by kernel_rfl,by kernel_rfl,by kernel_rfl,rfl,by kernel_rfl,trivial⟩
theorem ti109:TIok Tryz.prog 109 ⟨5,true,64,[.int .i64 0,.int .i64 0,.int .i64 0,.string ⟨#[]⟩,.slice none 0 0],.strct [(0,3),(1,57)]⟩:=⟨by kernel_rfl,by kernel_rfl,by kernel_rfl,rfl,by kernel_rfl,⟨by kernel_rfl,by kernel_rfl⟩⟩
theorem ti110:TIok Tryz.prog 110 ⟨5,true,64,[.int .i64 0,.int .i64 0,.int .i64 0,.string ⟨#[]⟩,.slice none 0 0],.strct [(0,3),(1,57)]⟩:=⟨by kernel_rfl,by kernel_rfl,by kernel_rfl,rfl,by kernel_rfl,⟨by kernel_rfl,by kernel_rfl⟩⟩
theorem ti111:TIok Tryz.prog 111 ⟨6,true,120,[.string ⟨#[]⟩,.slice none 0 0,.int .i64 0,.slice none 0 0,.slice none 0 0,.slice none 0 0],.strct [(0,54),(2,3),(3,27),(4,49),(5,49)]⟩:=⟨by kernel_rfl,by kernel_rfl,by kernel_rfl,rfl,by kernel_rfl,⟨by kernel_rfl,by kernel_rfl⟩⟩
theorem ti112:TIok Tryz.prog 112 ⟨6,true,120,[.string ⟨#[]⟩,.slice none 0 0,.int .i64 0,.slice none 0 0,.slice none 0 0,.slice none 0 0],.strct [(0,54),(2,3),(3,27),(4,49),(5,49)]⟩:=⟨by kernel_rfl,by kernel_rfl,by kernel_rfl,rfl,by kernel_rfl,⟨by kernel_rfl,by kernel_rfl⟩⟩
theorem ti114:TIok Tryz.prog 114 ⟨1,false,8,[.nilFunc],.func⟩:=⟨by kernel_rfl,by kernel_rfl,by kernel_rfl,rfl,by kernel_rfl,trivial⟩
theorem ti115:TIok Tryz.prog 115 ⟨1,false,8,[.nilFunc],.func⟩:=⟨by kernel_rfl,by kernel_rfl,by kernel_rfl,rfl,by kernel_rfl,trivial⟩
theorem ti116:TIok Tryz.prog 116 ⟨1,false,8,[.nilFunc],.func⟩:=⟨by kernel_rfl,by kernel_rfl,by kernel_rfl,rfl,by kernel_rfl,trivial⟩
theorem ti117:TIok Tryz.prog 117 ⟨1,false,8,[.nilFunc],.func⟩:=⟨by kernel_rfl,by kernel_rfl,by kernel_rfl,rfl,by kernel_rfl,trivial⟩
theorem ti118:TIok Tryz.prog 118 ⟨3,true,40,[.slice none 0 0,.int .i64 0,.int .i64 0],.strct [(0,22),(1,3),(2,3)]⟩:=⟨by kernel_rfl,by kernel_rfl,by kernel_rfl,rfl,by kernel_rfl,⟨by kernel_rfl,by kernel_rfl⟩⟩
theorem ti119:TIok Tryz.prog 119 ⟨3,true,40,[.slice none 0 0,.int .i64 0,.int .i64 0],.strct [(0,22),(1,3),(2,3)]⟩:=⟨by kernel_rfl,by kernel_rfl,by kernel_rfl,rfl,by kernel_rfl,⟨by kernel_rfl,by kernel_rfl⟩⟩
theorem ti120:TIok Tryz.prog 120 ⟨1,false,8,[.int .u64 0],.int .u64⟩:=⟨by kernel_rfl,by kernel_rfl,by kernel_rfl,rfl,by kernel_rfl,by show _=_;kernel_rfl⟩
theorem ti121:TIok Tryz.prog 121 ⟨1,false,8,[.nilFunc],.func⟩:=⟨by kernel_rfl,by kernel_rfl,by kernel_rfl,rfl,by kernel_rfl,trivial⟩
theorem ti123:TIok Tryz.prog 123 ⟨1,false,8,[.nilFunc],.func⟩:=⟨by kernel_rfl,by kernel_rfl,by kernel_rfl,rfl,by kernel_rfl,trivial⟩
theorem ti125:TIok Tryz.prog 125 ⟨1,false,8,[.nilFunc],.func⟩:=⟨by kernel_rfl,by kernel_rfl,by kernel_rfl,rfl,by kernel_rfl,trivial⟩
theorem ti126:TIok Tryz.prog 126 ⟨1,false,8,[.nilFunc],.func⟩:=⟨by kernel_rfl,by kernel_rfl,by kernel_rfl,rfl,by kernel_rfl,trivial⟩
theorem ti127:TIok Tryz.prog 127 ⟨1,false,8,[.nilFunc],.func⟩:=⟨by kernel_rfl,by kernel_rfl,by kernel_rfl,rfl,by kernel_rfl,trivial⟩
theorem ti128:TIok Tryz.prog 128 ⟨1,false,8,[.nilFunc],.func⟩:=⟨by kernel_rfl,by kernel_rfl,by kernel_rfl,rfl,by kernel_rfl,trivial⟩
theorem ti129:TIok Tryz.prog 129 ⟨1,false,8,[.nilFunc],.func⟩:=⟨by kernel_rfl,by kernel_rfl,by kernel_rfl,rfl,by kernel_rfl,trivial⟩
theorem ti130:TIok Tryz.prog 130 ⟨1,false,8,[.nilFunc],.func⟩:=⟨by kernel_rfl,by kernel_rfl,by kernel_rfl,rfl,by kernel_rfl,trivial⟩
theorem ti131:TIok Tryz.prog 131 ⟨1,false,8,[.nilFunc],.func⟩:=⟨by kernel_rfl,by kernel_rfl,by kernel_rfl,rfl,by kernel_rfl,trivial⟩
theorem ti132:TIok Tryz.prog 132 ⟨1,false,8,[.nilFunc],.func⟩:=⟨by kernel_rfl,by kernel_rfl,by kernel_rfl,rfl,by kernel_rfl,trivial⟩
theorem ti134:TIok Tryz.prog 134 ⟨1,false,8,[.nilFunc],.func⟩:=⟨by kernel_rfl,by kernel_rfl,by kernel_rfl,rfl,by kernel_rfl,trivial⟩
theorem ti135:TIok Tryz.prog 135 ⟨1,false,8,[.nilFunc],.func⟩:=⟨by kernel_rfl,by kernel_rfl,by kernel_rfl,rfl,by kernel_rfl,trivial⟩
theorem ti136:TIok Tryz.prog 136 ⟨1,false,8,[.nilFunc],.func⟩:=⟨by kernel_rfl,by kernel_rfl,by kernel_rfl,rfl,by kernel_rfl,trivial⟩
theorem ti137:TIok Tryz.prog 137 ⟨1,false,8,[.nilFunc],.func⟩:=⟨by kernel_rfl,by kernel_rfl,by kernel_rfl,rfl,by kernel_rfl,trivial⟩
theorem ti138:TIok Tryz.prog 138 ⟨1,false,8,[.nilFunc],.func⟩:=⟨by kernel_rfl,by kernel_rfl,by kernel_rfl,rfl,by kernel_rfl,trivial⟩
theorem ti139:TIok Tryz.prog 139 ⟨1,false,8,[.nilFunc],.func⟩:=⟨by kernel_rfl,by kernel_rfl,by kernel_rfl,rfl,by kernel_rfl,trivial⟩
theorem ti140:TIok Tryz.prog 140 ⟨1,false,8,[.nilFunc],.func⟩:=⟨by kernel_rfl,by kernel_rfl,by kernel_rfl,rfl,by kernel_rfl,trivial⟩
theorem ti141:TIok Tryz.prog 141 ⟨1,false,8,[.nilFunc],.func⟩:=⟨by kernel_rfl,by kernel_rfl,by kernel_rfl,rfl,by kernel_rfl,trivial⟩
theorem ti142:TIok Tryz.prog 142 ⟨1,false,8,[.nilFunc],.func⟩:=⟨by kernel_rfl,by kernel_rfl,by kernel_rfl,rfl,by kernel_rfl,trivial⟩
theorem ti143:TIok Tryz.prog 143 ⟨1,false,8,[.pointer none],.ptr 3⟩:=⟨by kernel_rfl,by kernel_rfl,by kernel_rfl,rfl,by kernel_rfl,by show _=_;kernel_rfl⟩
theorem ti144:TIok Tryz.prog 144 ⟨1,false,8,[.nilFunc],.func⟩:=⟨by kernel_rfl,by kernel_rfl,by kernel_rfl,rfl,by kernel_rfl,trivial⟩
theorem ti145:TIok Tryz.prog 145 ⟨1,false,8,[.nilFunc],.func⟩:=⟨by kernel_rfl,by kernel_rfl,by kernel_rfl,rfl,by kernel_rfl,trivial⟩
theorem ti146:TIok Tryz.prog 146 ⟨1,false,8,[.nilFunc],.func⟩:=⟨by kernel_rfl,by kernel_rfl,by kernel_rfl,rfl,by kernel_rfl,trivial⟩
theorem ti147:TIok Tryz.prog 147 ⟨1,false,8,[.nilFunc],.func⟩:=⟨by kernel_rfl,by kernel_rfl,by kernel_rfl,rfl,by kernel_rfl,trivial⟩
theorem ti148:TIok Tryz.prog 148 ⟨1,false,8,[.nilFunc],.func⟩:=⟨by kernel_rfl,by kernel_rfl,by kernel_rfl,rfl,by kernel_rfl,trivial⟩
theorem ti149:TIok Tryz.prog 149 ⟨1,false,8,[.nilFunc],.func⟩:=⟨by kernel_rfl,by kernel_rfl,by kernel_rfl,rfl,by kernel_rfl,trivial⟩
theorem ti150:TIok Tryz.prog 150 ⟨1,false,24,[.slice none 0 0],.slice 3⟩:=⟨by kernel_rfl,by kernel_rfl,by kernel_rfl,rfl,by kernel_rfl,by show _=_;kernel_rfl⟩
theorem ti151:TIok Tryz.prog 151 ⟨1,false,8,[.nilFunc],.func⟩:=⟨by kernel_rfl,by kernel_rfl,by kernel_rfl,rfl,by kernel_rfl,trivial⟩
theorem ti152:TIok Tryz.prog 152 ⟨1,false,8,[.nilFunc],.func⟩:=⟨by kernel_rfl,by kernel_rfl,by kernel_rfl,rfl,by kernel_rfl,trivial⟩
theorem ti153:TIok Tryz.prog 153 ⟨1,false,8,[.nilFunc],.func⟩:=⟨by kernel_rfl,by kernel_rfl,by kernel_rfl,rfl,by kernel_rfl,trivial⟩
theorem ti154:TIok Tryz.prog 154 ⟨1,false,8,[.nilFunc],.func⟩:=⟨by kernel_rfl,by kernel_rfl,by kernel_rfl,rfl,by kernel_rfl,trivial⟩
theorem ti155:TIok Tryz.prog 155 ⟨1,false,8,[.nilFunc],.func⟩:=⟨by kernel_rfl,by kernel_rfl,by kernel_rfl,rfl,by kernel_rfl,trivial⟩
theorem ti156:TIok Tryz.prog 156 ⟨1,false,8,[.nilFunc],.func⟩:=⟨by kernel_rfl,by kernel_rfl,by kernel_rfl,rfl,by kernel_rfl,trivial⟩
theorem ti157:TIok Tryz.prog 157 ⟨1,false,8,[.nilFunc],.func⟩:=⟨by kernel_rfl,by kernel_rfl,by kernel_rfl,rfl,by kernel_rfl,trivial⟩
theorem ti158:TIok Tryz.prog 158 ⟨1,false,8,[.nilFunc],.func⟩:=⟨by kernel_rfl,by kernel_rfl,by kernel_rfl,rfl,by kernel_rfl,trivial⟩
theorem ti160:TIok Tryz.prog 160 ⟨1,false,8,[.nilFunc],.func⟩:=⟨by kernel_rfl,by kernel_rfl,by kernel_rfl,rfl,by kernel_rfl,trivial⟩
theorem ti161:TIok Tryz.prog 161 ⟨1,false,8,[.nilFunc],.func⟩:=⟨by kernel_rfl,by kernel_rfl,by kernel_rfl,rfl,by kernel_rfl,trivial⟩
theorem ti162:TIok Tryz.prog 162 ⟨1,false,8,[.nilFunc],.func⟩:=⟨by kernel_rfl,by kernel_rfl,by kernel_rfl,rfl,by kernel_rfl,trivial⟩
theorem ti163:TIok Tryz.prog 163 ⟨1,false,8,[.nilFunc],.func⟩:=⟨by kernel_rfl,by kernel_rfl,by kernel_rfl,rfl,by kernel_rfl,trivial⟩
theorem ti164:TIok Tryz.prog 164 ⟨1,false,8,[.nilFunc],.func⟩:=⟨by kernel_rfl,by kernel_rfl,by kernel_rfl,rfl,by kernel_rfl,trivial⟩
theorem ti165:TIok Tryz.prog 165 ⟨1,false,8,[.nilFunc],.func⟩:=⟨by kernel_rfl,by kernel_rfl,by kernel_rfl,rfl,by kernel_rfl,trivial⟩
theorem ti166:TIok Tryz.prog 166 ⟨1,false,8,[.nilFunc],.func⟩:=⟨by kernel_rfl,by kernel_rfl,by kernel_rfl,rfl,by kernel_rfl,trivial⟩
theorem ti167:TIok Tryz.prog 167 ⟨1,false,8,[.nilFunc],.func⟩:=⟨by kernel_rfl,by kernel_rfl,by kernel_rfl,rfl,by kernel_rfl,trivial⟩
theorem ti168:TIok Tryz.prog 168 ⟨1,false,8,[.nilFunc],.func⟩:=⟨by kernel_rfl,by kernel_rfl,by kernel_rfl,rfl,by kernel_rfl,trivial⟩
theorem ti169:TIok Tryz.prog 169 ⟨1,false,8,[.map none],.map 3 3⟩:=⟨by kernel_rfl,by kernel_rfl,by kernel_rfl,rfl,by kernel_rfl,by show _=_;kernel_rfl⟩
theorem ti170:TIok Tryz.prog 170 ⟨1,false,8,[.nilFunc],.func⟩:=⟨by kernel_rfl,by kernel_rfl,by kernel_rfl,rfl,by kernel_rfl,trivial⟩
theorem ti171:TIok Tryz.prog 171 ⟨1,false,8,[.nilFunc],.func⟩:=⟨by kernel_rfl,by kernel_rfl,by kernel_rfl,rfl,by kernel_rfl,trivial⟩
theorem ti172:TIok Tryz.prog 172 ⟨1,false,8,[.nilFunc],.func⟩:=⟨by kernel_rfl,by kernel_rfl,by kernel_rfl,rfl,by kernel_rfl,trivial⟩
theorem ti173:TIok Tryz.prog 173 ⟨1,false,8,[.nilFunc],.func⟩:=⟨by kernel_rfl,by kernel_rfl,by kernel_rfl,rfl,by kernel_rfl,trivial⟩
theorem ti174:TIok Tryz.prog 174 ⟨1,false,8,[.nilFunc],.func⟩:=⟨by kernel_rfl,by kernel_rfl,by kernel_rfl,rfl,by kernel_rfl,trivial⟩
theorem ti175:TIok Tryz.prog 175 ⟨1,false,8,[.pointer none],.ptr 177⟩:=⟨by kernel_rfl,by kernel_rfl,by kernel_rfl,rfl,by kernel_rfl,by show _=_;kernel_rfl⟩
theorem ti176:TIok Tryz.prog 176 ⟨2,true,32,[.pointer none,.slice none 0 0],.strct [(0,175),(1,22)]⟩:=⟨by kernel_rfl,by kernel_rfl,by kernel_rfl,rfl,by kernel_rfl,⟨by kernel_rfl,by kernel_rfl⟩⟩
theorem ti177:TIok Tryz.prog 177 ⟨2,true,32,[.pointer none,.slice none 0 0],.strct [(0,175),(1,22)]⟩:=⟨by kernel_rfl,by kernel_rfl,by kernel_rfl,rfl,by kernel_rfl,⟨by kernel_rfl,by kernel_rfl⟩⟩
theorem ti178:TIok Tryz.prog 178 ⟨1,false,8,[.nilFunc],.func⟩:=⟨by kernel_rfl,by kernel_rfl,by kernel_rfl,rfl,by kernel_rfl,trivial⟩
theorem ti179:TIok Tryz.prog 179 ⟨1,false,16,[.nilIface],.iface⟩:=⟨by kernel_rfl,by kernel_rfl,by kernel_rfl,rfl,by kernel_rfl,by show _=_;kernel_rfl⟩
theorem ti180:TIok Tryz.prog 180 ⟨1,false,16,[.nilIface],.iface⟩:=⟨by kernel_rfl,by kernel_rfl,by kernel_rfl,rfl,by kernel_rfl,by show _=_;kernel_rfl⟩
theorem ti182:TIok Tryz.prog 182 ⟨1,false,8,[.nilFunc],.func⟩:=⟨by kernel_rfl,by kernel_rfl,by kernel_rfl,rfl,by kernel_rfl,trivial⟩
theorem ti183:TIok Tryz.prog 183 ⟨1,false,8,[.nilFunc],.func⟩:=⟨by kernel_rfl,by kernel_rfl,by kernel_rfl,rfl,by kernel_rfl,trivial⟩
theorem ti184:TIok Tryz.prog 184 ⟨1,false,8,[.nilFunc],.func⟩:=⟨by kernel_rfl,by kernel_rfl,by kernel_rfl,rfl,by kernel_rfl,trivial⟩
theorem ti185:TIok Tryz.prog 185 ⟨1,false,8,[.nilFunc],.func⟩:=⟨by kernel_rfl,by kernel_rfl,by kernel_rfl,rfl,by kernel_rfl,trivial⟩
theorem ti186:TIok Tryz.prog 186 ⟨1,false,8,[.nilFunc],.func⟩:=⟨by kernel_rfl,by kernel_rfl,by kernel_rfl,rfl,by kernel_rfl,trivial⟩
theorem ti187:TIok Tryz.prog 187 ⟨1,false,8,[.nilFunc],.func⟩:=⟨by kernel_rfl,by kernel_rfl,by kernel_rfl,rfl,by kernel_rfl,trivial⟩
theorem ti188:TIok Tryz.prog 188 ⟨1,false,8,[.nilFunc],.func⟩:=⟨by kernel_rfl,by kernel_rfl,by kernel_rfl,rfl,by kernel_rfl,trivial⟩
theorem ti189:TIok Tryz.prog 189 ⟨1,false,8,[.nilFunc],.func⟩:=⟨by kernel_rfl,by kernel_rfl,by kernel_rfl,rfl,by kernel_rfl,trivial⟩
theorem ti190:TIok Tryz.prog 190 ⟨1,false,8,[.nilFunc],.func⟩:=⟨by kernel_rfl,by kernel_rfl,by kernel_rfl,rfl,by kernel_rfl,trivial⟩
theorem ti191:TIok Tryz.prog 191 ⟨1,false,8,[.nilFunc],.func⟩:=⟨by kernel_rfl,by kernel_rfl,by kernel_rfl,rfl,by kernel_rfl,trivial⟩
theorem ti192:TIok Tryz.prog 192 ⟨1,false,8,[.map none],.map 3 4⟩:=⟨by kernel_rfl,by kernel_rfl,by kernel_rfl,rfl,by kernel_rfl,by show _=_;kernel_rfl⟩
theorem ti193:TIok Tryz.prog 193 ⟨1,false,8,[.nilFunc],.func⟩:=⟨by kernel_rfl,by kernel_rfl,by kernel_rfl,rfl,by kernel_rfl,trivial⟩
theorem ti194:TIok Tryz.prog 194 ⟨1,false,8,[.nilFunc],.func⟩:=⟨by kernel_rfl,by kernel_rfl,by kernel_rfl,rfl,by kernel_rfl,trivial⟩
theorem ti195:TIok Tryz.prog 195 ⟨1,false,8,[.nilFunc],.func⟩:=⟨by kernel_rfl,by kernel_rfl,by kernel_rfl,rfl,by kernel_rfl,trivial⟩
theorem ti196:TIok Tryz.prog 196 ⟨1,false,8,[.nilFunc],.func⟩:=⟨by kernel_rfl,by kernel_rfl,by kernel_rfl,rfl,by kernel_rfl,trivial⟩
theorem ti197:TIok Tryz.prog 197 ⟨1,false,8,[.nilFunc],.func⟩:=⟨by kernel_rfl,by kernel_rfl,by kernel_rfl,rfl,by kernel_rfl,trivial⟩
theorem ti198:TIok Tryz.prog 198 ⟨1,false,8,[.nilFunc],.func⟩:=⟨by kernel_rfl,by kernel_rfl,by kernel_rfl,rfl,by kernel_rfl,trivial⟩
theorem ti199:TIok Tryz.prog 199 ⟨1,false,8,[.nilFunc],.func⟩:=⟨by kernel_rfl,by kernel_rfl,by kernel_rfl,rfl,by kernel_rfl,trivial⟩
theorem ti200:TIok Tryz.prog 200 ⟨1,false,8,[.pointer none],.ptr 5⟩:=⟨by kernel_rfl,by kernel_rfl,by kernel_rfl,rfl,by kernel_rfl,by show _=_;kernel_rfl⟩
theorem ti201:TIok Tryz.prog 201 ⟨1,false,8,[.nilFunc],.func⟩:=⟨by kernel_rfl,by kernel_rfl,by kernel_rfl,rfl,by kernel_rfl,trivial⟩
theorem ti202:TIok Tryz.prog 202 ⟨1,false,8,[.nilFunc],.func⟩:=⟨by kernel_rfl,by kernel_rfl,by kernel_rfl,rfl,by kernel_rfl,trivial⟩
theorem ti203:TIok Tryz.prog 203 ⟨1,false,8,[.nilFunc],.func⟩:=⟨by kernel_rfl,by kernel_rfl,by kernel_rfl,rfl,by kernel_rfl,trivial⟩
theorem ti205:TIok Tryz.prog 205 ⟨1,false,8,[.int .u64 0],.int .u64⟩:=⟨by kernel_rfl,by kernel_rfl,by kernel_rfl,rfl,by kernel_rfl,by show _=_;kernel_rfl⟩
theorem ti206:TIok Tryz.prog 206 ⟨1,false,8,[.nilFunc],.func⟩:=⟨by kernel_rfl,by kernel_rfl,by kernel_rfl,rfl,by kernel_rfl,trivial⟩
theorem ti207:TIok Tryz.prog 207 ⟨1,false,8,[.nilFunc],.func⟩:=⟨by kernel_rfl,by kernel_rfl,by kernel_rfl,rfl,by kernel_rfl,trivial⟩
theorem ti209:TIok Tryz.prog 209 ⟨1,false,8,[.nilFunc],.func⟩:=⟨by kernel_rfl,by kernel_rfl,by kernel_rfl,rfl,by kernel_rfl,trivial⟩
theorem ti210:TIok Tryz.prog 210 ⟨1,false,8,[.int .i64 0],.int .i64⟩:=⟨by kernel_rfl,by kernel_rfl,by kernel_rfl,rfl,by kernel_rfl,by show _=_;kernel_rfl⟩
theorem ti212:TIok Tryz.prog 212 ⟨1,false,8,[.nilFunc],.func⟩:=⟨by kernel_rfl,by kernel_rfl,by kernel_rfl,rfl,by kernel_rfl,trivial⟩
theorem ti213:TIok Tryz.prog 213 ⟨1,false,8,[.pointer none],.ptr 227⟩:=⟨by kernel_rfl,by kernel_rfl,by kernel_rfl,rfl,by kernel_rfl,by show _=_;kernel_rfl⟩
theorem ti214:TIok Tryz.prog 214 ⟨1,false,8,[.nilFunc],.func⟩:=⟨by kernel_rfl,by kernel_rfl,by kernel_rfl,rfl,by kernel_rfl,trivial⟩
theorem ti215:TIok Tryz.prog 215 ⟨1,false,8,[.nilFunc],.func⟩:=⟨by kernel_rfl,by kernel_rfl,by kernel_rfl,rfl,by kernel_rfl,trivial⟩
theorem ti216:TIok Tryz.prog 216 ⟨1,false,8,[.nilFunc],.func⟩:=⟨by kernel_rfl,by kernel_rfl,by kernel_rfl,rfl,by kernel_rfl,trivial⟩
theorem ti218:TIok Tryz.prog 218 ⟨1,false,4,[.int .u32 0],.int .u32⟩:=⟨by kernel_rfl,by kernel_rfl,by kernel_rfl,rfl,by kernel_rfl,by show _=_;kernel_rfl⟩
theorem ti220:TIok Tryz.prog 220 ⟨1,false,8,[.nilFunc],.func⟩:=⟨by kernel_rfl,by kernel_rfl,by kernel_rfl,rfl,by kernel_rfl,trivial⟩
theorem ti221:TIok Tryz.prog 221 ⟨1,false,8,[.nilFunc],.func⟩:=⟨by kernel_rfl,by kernel_rfl,by kernel_rfl,rfl,by kernel_rfl,trivial⟩
theorem ti223:TIok Tryz.prog 223 ⟨1,false,8,[.nilFunc],.func⟩:=⟨by kernel_rfl,by kernel_rfl,by kernel_rfl,rfl,by kernel_rfl,trivial⟩
theorem ti225:TIok Tryz.prog 225 ⟨1,false,8,[.nilFunc],.func⟩:=⟨by kernel_rfl,by kernel_rfl,by kernel_rfl,rfl,by kernel_rfl,trivial⟩
theorem ti226:TIok Tryz.prog 226 ⟨3,true,48,[.string ⟨#[]⟩,.string ⟨#[]⟩,.nilIface],.strct [(0,9),(1,9),(2,180)]⟩:=⟨by kernel_rfl,by kernel_rfl,by kernel_rfl,rfl,by kernel_rfl,⟨by kernel_rfl,by kernel_rfl⟩⟩
theorem ti227:TIok Tryz.prog 227 ⟨3,true,48,[.string ⟨#[]⟩,.string ⟨#[]⟩,.nilIface],.strct [(0,9),(1,9),(2,180)]⟩:=⟨by kernel_rfl,by kernel_rfl,by kernel_rfl,rfl,by kernel_rfl,⟨by kernel_rfl,by kernel_rfl⟩⟩
theorem ti228:TIok Tryz.prog 228 ⟨1,false,8,[.nilFunc],.func⟩:=⟨by kernel_rfl,by kernel_rfl,by kernel_rfl,rfl,by kernel_rfl,trivial⟩
theorem ti229:TIok Tryz.prog 229 ⟨1,false,8,[.nilFunc],.func⟩:=⟨by kernel_rfl,by kernel_rfl,by kernel_rfl,rfl,by kernel_rfl,trivial⟩
theorem ti230:TIok Tryz.prog 230 ⟨1,false,8,[.nilFunc],.func⟩:=⟨by kernel_rfl,by kernel_rfl,by kernel_rfl,rfl,by kernel_rfl,trivial⟩
theorem ti231:TIok Tryz.prog 231 ⟨1,false,8,[.nilFunc],.func⟩:=⟨by kernel_rfl,by kernel_rfl,by kernel_rfl,rfl,by kernel_rfl,trivial⟩
theorem ti232:TIok Tryz.prog 232 ⟨1,false,8,[.pointer none],.ptr 234⟩:=⟨by kernel_rfl,by kernel_rfl,by kernel_rfl,rfl,by kernel_rfl,by show _=_;kernel_rfl⟩
theorem ti233:TIok Tryz.prog 233 ⟨1,true,16,[.string ⟨#[]⟩],.strct [(0,9)]⟩:=⟨by kernel_rfl,by kernel_rfl,by kernel_rfl,rfl,by kernel_rfl,⟨by kernel_rfl,by kernel_rfl⟩⟩
theorem ti234:TIok Tryz.prog 234 ⟨1,true,16,[.string ⟨#[]⟩],.strct [(0,9)]⟩:=⟨by kernel_rfl,by kernel_rfl,by kernel_rfl,rfl,by kernel_rfl,⟨by kernel_rfl,by kernel_rfl⟩⟩
theorem ti235:TIok Tryz.prog 235 ⟨1,false,8,[.nilFunc],.func⟩:=⟨by kernel_rfl,by kernel_rfl,by kernel_rfl,rfl,by kernel_rfl,trivial⟩
theorem ti236:TIok Tryz.prog 236 ⟨1,false,8,[.int .i64 0],.int .i64⟩:=⟨by kernel_rfl,by kernel_rfl,by kernel_rfl,rfl,by kernel_rfl,by show _=_;kernel_rfl⟩
theorem ti238:TIok Tryz.prog 238 ⟨1,false,8,[.nilFunc],.func⟩:=⟨by kernel_rfl,by kernel_rfl,by kernel_rfl,rfl,by kernel_rfl,trivial⟩
theorem ti239:TIok Tryz.prog 239 ⟨1,false,8,[.nilFunc],.func⟩:=⟨by kernel_rfl,by kernel_rfl,by kernel_rfl,rfl,by kernel_rfl,trivial⟩
theorem ti240:TIok Tryz.prog 240 ⟨1,false,8,[.nilFunc],.func⟩:=⟨by kernel_rfl,by kernel_rfl,by kernel_rfl,rfl,by kernel_rfl,trivial⟩
theorem ti241:TIok Tryz.prog 241 ⟨1,false,8,[.nilFunc],.func⟩:=⟨by kernel_rfl,by kernel_rfl,by kernel_rfl,rfl,by kernel_rfl,trivial⟩
theorem ti242:TIok Tryz.prog 242 ⟨1,false,8,[.nilFunc],.func⟩:=⟨by kernel_rfl,by kernel_rfl,by kernel_rfl,rfl,by kernel_rfl,trivial⟩
theorem ti245:TIok Tryz.prog 245 ⟨1,false,8,[.int .u64 0],.int .u64⟩:=⟨by kernel_rfl,by kernel_rfl,by kernel_rfl,rfl,by kernel_rfl,by show _=_;kernel_rfl⟩
theorem ti246:TIok Tryz.prog 246 ⟨1,false,8,[.nilFunc],.func⟩:=⟨by kernel_rfl,by kernel_rfl,by kernel_rfl,rfl,by kernel_rfl,trivial⟩
theorem ti247:TIok Tryz.prog 247 ⟨1,false,8,[.nilFunc],.func⟩:=⟨by kernel_rfl,by kernel_rfl,by kernel_rfl,rfl,by kernel_rfl,trivial⟩
theorem ti248:TIok Tryz.prog 248 ⟨1,false,8,[.nilFunc],.func⟩:=⟨by kernel_rfl,by kernel_rfl,by kernel_rfl,rfl,by kernel_rfl,trivial⟩
theorem ti249:TIok Tryz.prog 249 ⟨1,false,8,[.nilFunc],.func⟩:=⟨by kernel_rfl,by kernel_rfl,by kernel_rfl,rfl,by kernel_rfl,trivial⟩
theorem ti250:TIok Tryz.prog 250 ⟨1,false,8,[.pointer none],.ptr 245⟩:=⟨by kernel_rfl,by kernel_rfl,by kernel_rfl,rfl,by kernel_rfl,by show _=_;kernel_rfl⟩
theorem ti252:TIok Tryz.prog 252 ⟨1,false,8,[.nilFunc],.func⟩:=⟨by kernel_rfl,by kernel_rfl,by kernel_rfl,rfl,by kernel_rfl,trivial⟩
theorem ti253:TIok Tryz.prog 253 ⟨4,true,40,[.pointer none,.pointer none,.pointer none,.string ⟨#[]⟩],.strct [(0,17),(1,17),(2,17),(3,9)]⟩:=⟨by kernel_rfl,by kernel_rfl,by kernel_rfl,rfl,by kernel_rfl,⟨by kernel_rfl,by kernel_rfl⟩⟩
theorem ti254:TIok Tryz.prog 254 ⟨4,true,40,[.pointer none,.pointer none,.pointer none,.string ⟨#[]⟩],.strct [(0,17),(1,17),(2,17),(3,9)]⟩:=⟨by kernel_rfl,by kernel_rfl,by kernel_rfl,rfl,by kernel_rfl,⟨by kernel_rfl,by kernel_rfl⟩⟩
theorem ti256:TIok Tryz.prog 256 ⟨0,true,0,[],.strct [(0,255)]⟩:=⟨by kernel_rfl,by kernel_rfl,by kernel_rfl,rfl,by kernel_rfl,⟨by kernel_rfl,by kernel_rfl⟩⟩
theorem ti257:TIok Tryz.prog 257 ⟨0,true,0,[],.strct [(0,255)]⟩:=⟨by kernel_rfl,by kernel_rfl,by kernel_rfl,rfl,by kernel_rfl,⟨by kernel_rfl,by kernel_rfl⟩⟩
theorem ti258:TIok Tryz.prog 258 ⟨1,false,8,[.nilFunc],.func⟩:=⟨by kernel_rfl,by kernel_rfl,by kernel_rfl,rfl,by kernel_rfl,trivial⟩
theorem ti259:TIok Tryz.prog 259 ⟨1,false,1,[.int .u8 0],.int .u8⟩:=⟨by kernel_rfl,by kernel_rfl,by kernel_rfl,rfl,by kernel_rfl,by show _=_;kernel_rfl⟩
theorem ti260:TIok Tryz.prog 260 ⟨1,false,1,[.int .u8 0],.int .u8⟩:=⟨by kernel_rfl,by kernel_rfl,by kernel_rfl,rfl,by kernel_rfl,by show _=_;kernel_rfl⟩
theorem ti261:TIok Tryz.prog 261 ⟨1,false,8,[.nilFunc],.func⟩:=⟨by kernel_rfl,by kernel_rfl,by kernel_rfl,rfl,by kernel_rfl,trivial⟩
theorem ti262:TIok Tryz.prog 262 ⟨1,false,4,[.int .i32 0],.int .i32⟩:=⟨by kernel_rfl,by kernel_rfl,by kernel_rfl,rfl,by kernel_rfl,by show _=_;kernel_rfl⟩
theorem ti263:TIok Tryz.prog 263 ⟨1,false,4,[.int .i32 0],.int .i32⟩:=⟨by kernel_rfl,by kernel_rfl,by kernel_rfl,rfl,by kernel_rfl,by show _=_;kernel_rfl⟩
theorem ti264:TIok Tryz.prog 264 ⟨11,true,48,[.int .u64 0,.int .u64 0,.int .u32 0,.int .u8 0,.int .u8 0,.int .u8 0,.int .u8 0,.nilFunc,.pointer none,.int .i32 0,.int .i32 0],.strct [(0,12),(1,12),(2,218),(3,259),(4,5),(5,5),(6,260),(7,261),(8,200),(9,262),(10,263)]⟩:=⟨by kernel_rfl,by kernel_rfl,by kernel_rfl,rfl,by kernel_rfl,⟨by kernel_rfl,by kernel_rfl⟩⟩
theorem ti265:TIok Tryz.prog 265 ⟨11,true,48,[.int .u64 0,.int .u64 0,.int .u32 0,.int .u8 0,.int .u8 0,.int .u8 0,.int .u8 0,.nilFunc,.pointer none,.int .i32 0,.int .i32 0],.strct [(0,12),(1,12),(2,218),(3,259),(4,5),(5,5),(6,260),(7,261),(8,200),(9,262),(10,263)]⟩:=⟨by kernel_rfl,by kernel_rfl,by kernel_rfl,rfl,by kernel_rfl,⟨by kernel_rfl,by kernel_rfl⟩⟩
set_option maxRecDepth 100000 in
theorem ttok:TTok Tryz.prog tt:=⟨ti1,ti2,ti3,ti4,ti5,ti6,ti7,ti8,ti9,ti10,ti11,ti12,ti13,ti14,ti15,ti16,ti17,ti18,ti19,ti20,ti21,ti22,ti23,ti24,ti25,ti26,ti27,ti28,ti29,ti30,ti31,ti32,ti33,ti35,ti36,ti37,ti38,ti39,ti40,ti42,ti43,ti44,ti45,ti46,ti47,ti48,ti49,ti51,ti52,ti53,ti54,ti55,ti56,ti57,ti58,ti59,ti61,ti62,ti63,ti64,ti65,ti66,ti67,ti68,ti69,ti70,ti71,ti72,ti73,ti74,ti75,ti77,ti78,ti79,ti80,ti81,ti82,ti83,ti84,ti86,ti87,ti88,ti89,ti90,ti91,ti92,ti93,ti94,ti96,ti98,ti99,ti100,ti101,ti102,ti103,ti104,ti106,ti107,ti108,ti109,ti110,ti111,ti112,ti114,ti115,ti116,ti117,ti118,ti119,ti120,ti121,ti123,ti125,ti126,ti127,ti128,ti129,ti130,ti131,ti132,ti134,ti135,ti136,ti137,ti138,ti139,ti140,ti141,ti142,ti143,ti144,ti145,ti146,ti147,ti148,ti149,ti150,ti151,ti152,ti153,ti154,ti155,ti156,ti157,ti158,ti160,ti161,ti162,ti163,ti164,ti165,ti166,ti167,ti168,ti169,ti170,ti171,ti172,ti173,ti174,ti175,ti176,ti177,ti178,ti179,ti180,ti182,ti183,ti184,ti185,ti186,ti187,ti188,ti189,ti190,ti191,ti192,ti193,ti194,ti195,ti196,ti197,ti198,ti199,ti200,ti201,ti202,ti203,ti205,ti206,ti207,ti209,ti210,ti212,ti213,ti214,ti215,ti216,ti218,ti220,ti221,ti223,ti225,ti226,ti227,ti228,ti229,ti230,ti231,ti232,ti233,ti234,ti235,ti236,ti238,ti239,ti240,ti241,ti242,ti245,ti246,ti247,ti248,ti249,ti250,ti252,ti253,ti254,ti256,ti257,ti258,ti259,ti260,ti261,ti262,ti263,ti264,ti265,trivial⟩
end Go.Vx
namespace Go.Vx
open Classical
theorem Sl.headL{μ:Mem}{es n c i:Nat}{base:Option Addr}{xs:List D}(h:Sl μ es base n xs)(hi:i≤n):Sl μ es (if c=0 then base else base.map (·.add (0*es))) (i-0) (xs.take i):=by
 have e:(if c=0 then base else base.map (·.add (0*es)))=base:=by
  split
  ·rfl
  ·cases base with
   |none=>rfl
   |some a=>simp[Addr.add]
 rw[e]
 have hl:=h.len
 refine⟨by rw[List.length_take];omega,Nat.le_trans (by omega) h.max,fun j x hx=>?_⟩
 have hj:=(List.getElem?_eq_some_iff.1 hx).1
 rw[List.length_take]at hj
 rw[List.getElem?_take,if_pos (by omega)]at hx
 have w_:=h.get j x hx
 obtain⟨a,cs,he,hr⟩:=w_
 exact⟨a,cs,⟨he.lo,by omega,he.addr,he.len,he.cell⟩,hr⟩
theorem Sl.tailL{μ:Mem}{es n c i:Nat}{base:Option Addr}{xs:List D}(h:Sl μ es base n xs)(hi:i≤n)(hc:n≤c):Sl μ es (if c=i then base else base.map (·.add (i*es))) (n-i) (xs.drop i):=by
 have hl:=h.len
 refine⟨by rw[List.length_drop];omega,Nat.le_trans (Nat.sub_le _ _) h.max,fun j x hx=>?_⟩
 have hj:=(List.getElem?_eq_some_iff.1 hx).1
 rw[List.length_drop]at hj
 rw[List.getElem?_drop]at hx
 have w_:=h.get (i+j) x hx
 obtain⟨a,cs,he,hr⟩:=w_
 rw[if_neg (by omega)]
 obtain⟨a0,h1,h2⟩:=he.addr
 refine⟨a,cs,⟨by omega,by omega,⟨a0.add (i*es),by rw[h1];rfl,?_⟩,he.len,he.cell⟩,hr⟩
 rw[h2,add_add]
 congr 1
 rw[Int.toNat_natCast,Int.toNat_natCast,Nat.add_mul]
theorem Rep.slC{μ:Mem}{es:Nat}{xs:List D}{v:Value}(h:Rep μ (.sl es xs) [v]):∃base cap,v= .slice base xs.length cap∧Sl μ es base xs.length xs∧xs.length≤cap:=by
 have w_:=Rep.sl h
 obtain⟨b,c,rfl,hs⟩:=w_
 obtain⟨base,cap,h1,h2,_⟩:=h
 simp only[List.cons.injEq,and_true,Value.slice.injEq,true_and]at h1
 obtain⟨rfl,rfl⟩:=h1
 exact⟨b,c,rfl,hs,h2.le⟩
end Go.Vx
namespace Go.Vx
open Go.Proofs Classical
theorem SpecH.mk(os:List Nat){f:FuncId}{fn:Func}{args:List Value}{μ h0:Mem}{R:Value→Mem→Mem→Prop}(hf:Tryz.prog.funcs[f]? =some fn)(hname:(fn.name== "runtime.NumGoroutine")=false)(h:xW Tryz.prog tt os fn args μ h0 R):SpecH Tryz.prog f args μ h0 R:=
 SpecH.of (T:=Tryz.checked) os ttok hf hname h
theorem Spec.mk{f:FuncId}{fn:Func}{args:List Value}{μ:Mem}{R:Value→Mem→Prop}(hf:Tryz.prog.funcs[f]? =some fn)(hname:(fn.name== "runtime.NumGoroutine")=false)(h:xW Tryz.prog tt [] fn args μ Mem.nil fun v μ' _=>R v μ'):Spec Tryz.prog f args μ R:=
 SpecH.of (T:=Tryz.checked) [] ttok hf hname h
theorem Spec.mkO(os:List Nat){f:FuncId}{fn:Func}{args:List Value}{μ:Mem}{R:Value→Mem→Prop}(hf:Tryz.prog.funcs[f]? =some fn)(hname:(fn.name== "runtime.NumGoroutine")=false)(h:xW Tryz.prog tt os fn args μ Mem.nil fun v μ' _=>R v μ'):Spec Tryz.prog f args μ R:=
 SpecH.of (T:=Tryz.checked) os ttok hf hname h
theorem aA{n:Int}(h1: -9223372036854775808≤n)(h2:n<9223372036854775808):IntKind.i64.wrap n=n:=by
 have e:IntKind.i64.bits=64:=rfl
 have e2:IntKind.i64.signed=true:=rfl
 simp only[IntKind.wrap,e,e2,Bool.true_and]
 simp only[show(2:Int) ^ 64=18446744073709551616 from rfl,show(2:Int) ^ (64-1)=9223372036854775808 from rfl]
 split<;>rename_i h<;>simp at h<;>omega
theorem aC{n:Int}{K:Int→Prop}(h1: -9223372036854775808≤n)(h2:n<9223372036854775808)(k:K n):numVC (IntKind.i64.wrap n) K:=nEq (aA h1 h2) k
theorem ifd{p:Prop}[d:Decidable p]{fr:Bool}{s:St}{A B:St→Prop}(h:p→A s)(k:¬p→B s):ifVC fr (decide p) s A B:=iIn (fun e=>h (of_decide_eq_true e)) (fun e=>k (of_decide_eq_false e))
theorem aL{p:Prop}[d:Decidable p]{fr:Bool}{s:St}{A B:St→Prop}(h:¬p→A s)(k:p→B s):ifVC fr (!decide p) s A B:=iIn (fun e=>h (by simpa using e)) (fun e=>k (by simpa using e))
abbrev aQ(P:Program)(f:FuncId)(args:List Value)(μ:Mem)(x:Value):Prop:=Spec P f args μ fun v μ'=>v=x∧μ'=μ
theorem cGv{dr:Bool}{P:Program}{f:FuncId}{args:List Value}{s:St}{K:Value→St→Prop}{x:Value}(h:aQ P f args s.mem x)(k:K x s):callVC dr P f args s K:=
 cPl h fun v μ' _ hR=>by
  obtain⟨rfl,rfl⟩:=hR
  cases s
  exact k
theorem rGv{s:St}{v x:Value}{μ:Mem}(h:v=x)(hm:s.mem=μ):retVC s v fun v μ' _=>v=x∧μ'=μ:=rPl ⟨h,hm⟩
theorem bU(n lo hi:Int)(μ:Mem):aQ Tryz.prog 57 [.int .i64 n,.int .i64 lo,.int .i64 hi] μ (.bool (decide (lo≤n∧n≤hi))):=by
 refine Spec.mk Tryz.func57 (by kernel_rfl) ?_
 repeat' (first
  |refine ifd (fun h=>?_) (fun h=>?_)
  |refine aL (fun h=>?_) (fun h=>?_)
  |refine iIn (fun h=>?_) (fun h=>?_)
  |refine aC ?_ ?_ ?_
  |refine aK _ _ rfl (by assumption) ?_)
 all_goals refine rGv ?_ rfl
 ·simp_all
 ·simp;omega
def qBu(first:Bool)(b:UInt8):Prop:=(97≤b.toNat∧b.toNat≤122)∨(first=false∧((48≤b.toNat∧b.toNat≤57)∨b.toNat=45))
def gS(s:ByteArray):Prop:=1≤s.size∧s.size≤12∧∀(i:Nat) b,s.data.toList[i]? =some b→qBu (i==0) b
theorem mS{s:ByteArray}{i:Nat}(h:i<s.size):∃b,s.data.toList[i]? =some b:=⟨_,List.getElem?_eq_getElem (by simpa using h)⟩
theorem qIs{s:ByteArray}{i:Nat}{b:UInt8}(h:s.data.toList[i]? =some b):i<s.size:=by
 have:=(List.getElem?_eq_some_iff.1 h).1
 simpa using this
theorem dY(s:ByteArray)(μ:Mem):aQ Tryz.prog 128 [.string s] μ (.bool (decide (gS s))):=by
 refine Spec.mk Tryz.func128 (by kernel_rfl) ?_
 refine ifd (fun h1=>rGv ?_ rfl) (fun h1=>?_)
 ·have : ¬ gS s := fun h => by have := h.1; omega
  simp[this]
 refine ifd (fun h2=>rGv ?_ rfl) (fun h2=>?_)
 ·have : ¬ gS s := fun h => by have := h.2.1; omega
  simp[this]
 have w_:=mS (s:=s) (i:=0) (by omega)
 obtain⟨b0,hb0⟩:=w_
 have bad:∀{i:Nat} {b},s.data.toList[i]? =some b→¬qBu (i==0) b→Value.bool false= .bool (decide (gS s)):=fun {i b} h k=>by
  have:¬gS s:=fun g=>k (g.2.2 i b h)
  simp[this]
 refine aK 0 b0 rfl hb0 ?_
 refine ifd (fun h3=>rGv (bad hb0 (by simp[qBu];omega)) rfl) (fun h3=>?_)
 refine aK 0 b0 rfl hb0 ?_
 refine ifd (fun h4=>rGv (bad hb0 (by simp[qBu];omega)) rfl) (fun h4=>?_)
 refine lIn (fun i:Nat=>1≤i∧i≤s.size∧∀k b,k<i→s.data.toList[k]? =some b→qBu (k==0) b) (fun i=>⟨[(0,.val (.string s)),(3,.val (.int .i64 i))],[],0,μ,Mem.nil⟩) (fun i=>s.size-i)
  1 ⟨by omega,by omega,fun k b hk hb=>?_⟩ (fun i=>⟨rfl,rfl⟩) ⟨⟨rfl,rfl,trivial⟩,trivial,rfl,rfl⟩ ?_
 ·have : k = 0 := by omega
  subst this
  rw[hb0]at hb
  cases hb
  exact .inl ⟨by omega,by omega⟩
 rintro i ⟨hi1,hi2,hall⟩
 refine ifd (fun h5=>?_) (fun h5=>rGv ?_ rfl)
 ·have w_ := mS (s := s) (i := i) (by omega)
  obtain⟨b,hb⟩:=w_
  have hi0:(i==0)=false:=by simp;omega
  have next:((97≤b.toNat∧b.toNat≤122)∨(48≤b.toNat∧b.toNat≤57)∨b.toNat=45)→∀k b',k<i+1→s.data.toList[k]? =some b'→qBu (k==0) b':=fun g k b' hk hb'=>by
   by_cases e:k=i
   ·subst e;rw[hb]at hb';cases hb';rw[hi0];exact g.imp id fun g=>⟨rfl,g⟩
   ·exact hall k b' (by omega) hb'
  have badb:¬((97≤b.toNat∧b.toNat≤122)∨(48≤b.toNat∧b.toNat≤57)∨b.toNat=45)→Value.bool false= .bool (decide (gS s)):=fun g=>bad hb fun k=>by
   rw[hi0]at k
   exact g (k.imp id fun k=>k.2)
  repeat' (first
   |refine ifd (fun h=>?_) (fun h=>?_)
   |refine aL (fun h=>?_) (fun h=>?_)
   |refine iIn (fun h=>?_) (fun h=>?_)
   |refine aC ?_ ?_ ?_
   |refine aK _ _ rfl (by assumption) ?_)
  all_goals first
   |(refine rGv (badb ?_) rfl;omega)
   |exact⟨i+1,⟨by omega,by omega,next (by omega)⟩,by omega,⟨⟨rfl,rfl,trivial⟩,trivial,rfl,rfl⟩⟩
   |omega
 ·have : gS s := ⟨by omega, by omega, fun k b hb => hall k b (by have := qIs hb; omega) hb⟩
  simp[this]
theorem dW(s:ByteArray)(hs:s.size≤maxLen)(μ:Mem):aQ Tryz.prog 103 [.string s] μ (.bool (decide (gS s))):=by
 have hs:s.size≤9223372036854775807:=Nat.le_trans hs (by decide)
 refine Spec.mk Tryz.func103 (by kernel_rfl) ?_
 refine lIn (fun i:Nat=>i≤s.size∧∀k b,k<i→s.data.toList[k]? =some b→qBu (k==0) b) (fun i=>⟨[(0,.val (.string s)),(3,.val (.int .i64 i))],[],0,μ,Mem.nil⟩) (fun i=>s.size-i)
  0 ⟨by omega,fun k b hk hb=>by omega⟩ (fun i=>⟨rfl,rfl⟩) ⟨⟨rfl,rfl,trivial⟩,trivial,rfl,rfl⟩ ?_
 rintro i ⟨hi2,hall⟩
 refine ifd (fun h5=>?_) (fun h5=>cGv (bU _ _ _ _) (rGv ?_ rfl))
 ·have w_ := mS (s := s) (i := i) (by omega)
  obtain⟨b,hb⟩:=w_
  have hb8:=b.toNat_lt
  have next:((97≤b.toNat∧b.toNat≤122)∨(i≠0∧((48≤b.toNat∧b.toNat≤57)∨b.toNat=45)))→∀k b',k<i+1→s.data.toList[k]? =some b'→qBu (k==0) b':=fun g k b' hk hb'=>by
   by_cases e:k=i
   ·subst e;rw[hb]at hb';cases hb';exact g.imp id fun g=>⟨by simp;exact g.1,g.2⟩
   ·exact hall k b' (by omega) hb'
  have badb:¬((97≤b.toNat∧b.toNat≤122)∨(i≠0∧((48≤b.toNat∧b.toNat≤57)∨b.toNat=45)))→Value.bool false= .bool (decide (gS s)):=fun g=>by
   have:¬gS s:=fun h=>g ((h.2.2 i b hb).imp id fun k=>⟨by have:=k.1;simpa using this,k.2⟩)
   simp[this]
  repeat' (first
   |refine cGv (bU _ _ _ _) ?_
   |refine ifd (fun h=>?_) (fun h=>?_)
   |refine aL (fun h=>?_) (fun h=>?_)
   |refine iIn (fun h=>?_) (fun h=>?_)
   |refine aC ?_ ?_ ?_
   |refine aK i b rfl hb ?_)
  all_goals first
   |(refine rGv (badb ?_) rfl;omega)
   |exact⟨i+1,⟨by omega,next (by omega)⟩,by omega,⟨⟨rfl,rfl,trivial⟩,trivial,rfl,rfl⟩⟩
   |omega
 ·congr 1
  simp only[decide_eq_decide]
  exact⟨fun h=>⟨by omega,by omega,fun k b hb=>hall k b (by have:=qIs hb;omega) hb⟩,fun h=>by have:=h.1;have:=h.2.1;omega⟩
theorem aSo{α:Type}{l:List α}{i:Nat}(h:i<l.length):∃a,l[i]? =some a:=⟨_,List.getElem?_eq_getElem h⟩
def rsv:List ByteArray:=[⟨#[116,114,117,101]⟩,⟨#[102,97,105,108]⟩,⟨#[115,121,109,98,111,108]⟩,⟨#[110,117,109,98,101,114]⟩,⟨#[97,98,115,101,110,116]⟩,⟨#[97,110,100]⟩,⟨#[111,114]⟩,⟨#[110,111,116]⟩,⟨#[100,101,102,105,110,101]⟩]
def iT(s:ByteArray):Prop:=s∉rsv∧gS s
theorem gO(s:ByteArray)(hs:s.size≤maxLen)(μ:Mem):aQ Tryz.prog 56 [.string s] μ (.bool (decide (iT s))):=by
 refine Spec.mk Tryz.func56 (by kernel_rfl) ?_
 have bad:s∈rsv→Value.bool false= .bool (decide (iT s)):=fun h=>by
  have:¬iT s:=fun k=>k.1 h
  simp[this]
 intro r
 refine lIn (fun i:Nat=>i≤9∧∀x∈rsv.take i,x≠s) (fun i=>⟨[(0,.val (.string s)),(5,.row 0 (some r) 9 9),(6,.val (.int .i64 9)),(7,.val (.int .i64 i))],[(0,some (.row (some r) 9 9 1 (rsv.map .string)))],1,μ,Mem.nil⟩) (fun i=>9-i)
  0 ⟨by omega,by simp⟩ (fun i=>⟨rfl,rfl⟩) ⟨⟨rfl,rfl,rfl,rfl,trivial⟩,⟨rfl,trivial⟩,rfl,rfl⟩ ?_
 rintro i ⟨hi,hall⟩
 refine ifd (fun h=>?_) (fun h=>?_)
 ·have hi : i < 9 := by omega
  obtain⟨x,hx⟩:∃x,rsv[i]? =some x:=⟨_,List.getElem?_eq_getElem (by simpa[rsv]using hi)⟩
  refine bK i rfl (by omega) (bL (.string x) (by simp[hx]) ?_)
  refine ifd (fun h=>rGv (bad ?_) rfl) (fun h=>?_)
  ·subst h;exact List.mem_of_getElem? hx
  ·refine aC (by omega) (by omega) ⟨i + 1, ⟨by omega, fun y hy => ?_⟩, by omega, ⟨⟨rfl, rfl, rfl, rfl, trivial⟩, ⟨rfl, trivial⟩, rfl, rfl⟩⟩
   rw[List.take_add_one,hx]at hy
   simp only[Option.toList_some,List.mem_append,List.mem_singleton]at hy
   rcases hy with hy|rfl
   ·exact hall y hy
   ·exact h
 ·refine cGv (dW s hs μ) (rGv ?_ rfl)
  have hi:i=9:=by omega
  subst hi
  have:s∉rsv:=fun k=>hall s (by simpa[rsv]using k) rfl
  simp[iT,this]
end Go.Vx
namespace Go.Vx
open Go.Proofs Classical
section
variable {μ:Mem}
theorem wrap8{n:Int}(h1:0≤n)(h2:n<256):IntKind.u8.wrap n=n:=by
 have e:IntKind.u8.bits=8:=rfl
 have e2:IntKind.u8.signed=false:=rfl
 simp only[IntKind.wrap,e,e2,Bool.false_and]
 simp only[show(2:Int) ^ 8=256 from rfl]
 simp;omega
theorem qKd(a b:List UInt8):(⟨a.toArray⟩:ByteArray)++⟨b.toArray⟩=⟨(a++b).toArray⟩:=by
 have:((⟨a.toArray⟩:ByteArray)++⟨b.toArray⟩).data=(a++b).toArray:=by
  rw[ByteArray.data_append];simp
 cases h:(⟨a.toArray⟩:ByteArray)++⟨b.toArray⟩
 rw[h]at this
 simp only at this
 rw[this]
end
end Go.Vx
namespace Go.Vx
open Go.Proofs Classical
inductive Tm where
 |mk (kind num:Int) (name:ByteArray) (args:List Tm)
theorem Tm.ind{p:Tm→Prop}(h:∀k n s l,(∀t∈l,p t)→p (.mk k n s l)):∀t,p t
 | .mk k n s l=>h k n s l fun t _=>Tm.ind h t
mutual
def Tm.d:Tm→D
 | .mk k n s l=> .st [.i k,.i n,.s s,.sl 4 (Tm.ds l)]
def Tm.ds:List Tm→List D
 |[]=>[]
 |t::r=>t.d::Tm.ds r
end
theorem Tm.ds_map:∀l:List Tm,Tm.ds l=l.map Tm.d
 |[]=>rfl
 |t::r=>by simp[Tm.ds,Tm.ds_map r]
theorem Tm.d_mk(k n:Int)(s:ByteArray)(l:List Tm):(Tm.mk k n s l).d= .st [.i k,.i n,.s s,.sl 4 (l.map Tm.d)]:=by rw[Tm.d,Tm.ds_map]
theorem Tm.d_n(t:Tm):t.d.n=4:=by cases t;rfl
def Tm.kind:Tm→Int| .mk k _ _ _=>k
def Tm.num:Tm→Int| .mk _ n _ _=>n
def Tm.name:Tm→ByteArray| .mk _ _ s _=>s
def Tm.args:Tm→List Tm| .mk _ _ _ l=>l
def Tm.cs(t:Tm)(p:Option Addr×Nat):List Value:=[.int .i64 t.kind,.int .i64 t.num,.string t.name,.slice p.1 t.args.length p.2]
section
variable {μ:Mem}
theorem Tm.invS{k n:Int}{s:ByteArray}{l:List Tm}{cs:List Value}(h:Rep μ (Tm.mk k n s l).d cs):∃base cap,cs=[.int .i64 k,.int .i64 n,.string s,.slice base l.length cap]∧Sl μ 4 base l.length (l.map Tm.d):=by
 rw[Tm.d_mk]at h
 obtain⟨c1,c2,rfl,rfl,c3,c4,rfl,rfl,c5,c6,rfl,rfl,c7,c8,rfl,h4,rfl⟩:=h
 have hl:=Rep.len _ _ h4
 match c7,hl with
 |[v],_=>
  obtain⟨base,cap,rfl,hsl⟩:=h4.sl
  rw[List.length_map]at hsl
  exact⟨base,cap,by simp,hsl⟩
theorem Tm.inv{k n:Int}{s:ByteArray}{l:List Tm}{v:Value}(h:RepV μ (Tm.mk k n s l).d v):∃base cap,v= .agg #[.int .i64 k,.int .i64 n,.string s,.slice base l.length cap]∧Sl μ 4 base l.length (l.map Tm.d):=by
 have h':∃cs,v= .agg (List.toArray cs)∧Rep μ (Tm.mk k n s l).d cs:=by rw[Tm.d_mk]at h ⊢;exact h
 obtain⟨cs,e,h2⟩:=h'
 have w_:=Tm.invS h2
 obtain⟨base,cap,e2,hsl⟩:=w_
 exact⟨base,cap,by rw[e,e2],hsl⟩
theorem Tm.rep{t:Tm}{cs:List Value}(h:Rep μ t.d cs):RepV μ t.d (.agg cs.toArray):=by
 cases t;rw[Tm.d_mk]at h ⊢;exact⟨cs,rfl,h⟩
theorem Tm.invV{t:Tm}{v:Value}(h:RepV μ t.d v):∃p:Option Addr×Nat,v= .agg #[.int .i64 t.kind,.int .i64 t.num,.string t.name,.slice p.1 t.args.length p.2]:=by
 cases t;obtain⟨b,c,h,_⟩:=Tm.inv h;exact⟨(b,c),h⟩
theorem Tm.elem{l:List Tm}{base:Option Addr}{n:Nat}(h:Sl μ 4 base n (l.map Tm.d)){i:Nat}{t:Tm}(ht:l[i]? =some t):∃ad,∃p:Option Addr×Nat,ElemAt μ base n 4 i ad (t.cs p)∧RepV μ t.d (.agg (t.cs p).toArray):=by
 have w_:=h.get i t.d (by simp[ht])
 obtain⟨ad,cs,h1,h2⟩:=w_
 have h3:=Tm.rep h2
 cases t with
 |mk k n s l=>
  have w_:=Tm.invS h2
  obtain⟨b,c,rfl,hsl⟩:=w_
  exact⟨ad,(b,c),h1,h3⟩
end
end Go.Vx
namespace Go.Vx
open Go.Proofs Classical
structure Bd where
 var:Int
 to:Tm
def Bd.d(b:Bd):D:= .st [.i b.var,b.to.d]
theorem Bd.d_n(b:Bd):b.d.n=5:=by
 have:=Tm.d_n b.to
 simp only[Bd.d,D.n,D.ns,this]
def Bd.cs(b:Bd)(p:Option Addr×Nat):List Value:=[.int .i64 b.var,.int .i64 b.to.kind,.int .i64 b.to.num,.string b.to.name,.slice p.1 b.to.args.length p.2]
section
variable {μ:Mem}
theorem Tm.invC{t:Tm}{cs:List Value}(h:Rep μ t.d cs):∃p:Option Addr×Nat,cs=t.cs p:=by
 cases t
 have w_:=Tm.invS h
 obtain⟨b,c,h,_⟩:=w_
 exact⟨(b,c),h⟩
theorem Bd.invS{b:Bd}{cs:List Value}(h:Rep μ b.d cs):∃p:Option Addr×Nat,cs=b.cs p∧RepV μ b.to.d (.agg (b.to.cs p).toArray):=by
 obtain⟨c1,c2,rfl,rfl,c3,c4,rfl,h3,rfl⟩:=h
 have w_:=Tm.invC h3
 obtain⟨p,rfl⟩:=w_
 exact⟨p,by simp[Bd.cs,Tm.cs],Tm.rep h3⟩
theorem Bd.inv{b:Bd}{v:Value}(h:RepV μ b.d v):∃p:Option Addr×Nat,v= .agg #[.int .i64 b.var,.int .i64 b.to.kind,.int .i64 b.to.num,.string b.to.name,.slice p.1 b.to.args.length p.2]∧RepV μ b.to.d (.agg (b.to.cs p).toArray):=by
 obtain⟨cs,rfl,h⟩:=h
 have w_:=Bd.invS (b:=b) h
 obtain⟨p,rfl,h2⟩:=w_
 exact⟨p,rfl,h2⟩
theorem Bd.elem{l:List Bd}{base:Option Addr}{n:Nat}(h:Sl μ 5 base n (l.map Bd.d)){i:Nat}{b:Bd}(hb:l[i]? =some b):∃ad,∃p:Option Addr×Nat,ElemAt μ base n 5 i ad (b.cs p)∧RepV μ b.d (.agg (b.cs p).toArray):=by
 have w_:=h.get i b.d (by simp[hb])
 obtain⟨ad,cs,h1,h2⟩:=w_
 have w_:=Bd.invS (b:=b) h2
 obtain⟨p,rfl,_⟩:=w_
 exact⟨ad,p,h1,_,rfl,h2⟩
end
end Go.Vx
namespace Go.Vx
open Go.Proofs Classical
theorem Tm.d_eq(t:Tm):t.d= .st [.i t.kind,.i t.num,.s t.name,.sl 4 (t.args.map Tm.d)]:=by
 cases t;exact Tm.d_mk _ _ _ _
section
variable {μ:Mem}
end
end Go.Vx
namespace Go.Vx
open Go.Proofs Classical
inductive T where
 |nil
 |var (n:Int)
 |sym (s:ByteArray)
 |num (n:Int)
 |pair (a b:T)
def T.tm:T→Tm
 | .nil=> .mk 0 0 ⟨#[]⟩ []
 | .var n=> .mk 1 n ⟨#[]⟩ []
 | .sym s=> .mk 2 0 s []
 | .num n=> .mk 3 n ⟨#[]⟩ []
 | .pair a b=> .mk 4 0 ⟨#[]⟩ [a.tm,b.tm]
def T.good:T→Prop
 | .nil=>True
 | .var n=>0≤n∧n≤100000
 | .sym s=>gS s
 | .num n=> -1000000000≤n∧n≤1000000000
 | .pair a b=>a.good∧b.good
def T.size:T→Nat
 | .pair a b=>1+a.size+b.size
 | .nil=>1
 | .var _=>1
 | .sym _=>1
 | .num _=>1
def T.vars:T→List Int
 | .var n=>[n]
 | .pair a b=>a.vars++b.vars
 | .nil=>[]
 | .sym _=>[]
 | .num _=>[]
def T.ok(x:T):Prop:=x.good∧x.size≤5000
mutual
def Tm.cnt:Tm→Nat
 | .mk _ _ _ l=>1+Tm.cnts l
def Tm.cnts:List Tm→Nat
 |[]=>0
 |t::r=>t.cnt+Tm.cnts r
end
def Tm.Sh(t:Tm):Prop:=∃x:T,x.good∧x.tm=t
def Tm.Ok(t:Tm):Prop:=t.Sh∧t.cnt≤5000
theorem T.cnt_tm:∀x:T,x.tm.cnt=x.size
 | .nil=>rfl
 | .var _=>rfl
 | .sym _=>rfl
 | .num _=>rfl
 | .pair a b=>by simp[T.tm,Tm.cnt,Tm.cnts,T.size,T.cnt_tm a,T.cnt_tm b];omega
theorem Tm.cnt_pos(t:Tm):1≤t.cnt:=by cases t;simp[Tm.cnt]
theorem Tm.Ok.lift{t:Tm}(h:t.Ok):∃x:T,x.ok∧t=x.tm:=by
 obtain⟨⟨x,h1,rfl⟩,h2⟩:=h
 rw[T.cnt_tm]at h2
 exact⟨x,⟨h1,h2⟩,rfl⟩
theorem T.ok.tm{x:T}(h:x.ok):x.tm.Ok:=⟨⟨x,h.1,rfl⟩,by rw[T.cnt_tm];exact h.2⟩
theorem Tm.Sh_iff(k n:Int)(s:ByteArray)(l:List Tm):(Tm.mk k n s l).Sh↔
  (k=0∧n=0∧s=⟨#[]⟩∧l=[])∨(k=1∧0≤n∧n≤100000∧s=⟨#[]⟩∧l=[])∨(k=2∧n=0∧gS s∧l=[])∨(k=3∧ -1000000000≤n∧n≤1000000000∧s=⟨#[]⟩∧l=[])∨
  (k=4∧n=0∧s=⟨#[]⟩∧∃a b,l=[a,b]∧a.Sh∧b.Sh):=by
 constructor
 ·rintro ⟨x, hx, e⟩
  cases x<;>simp only[T.tm,Tm.mk.injEq]at e<;>obtain⟨rfl,rfl,rfl,rfl⟩:=e<;>simp only[T.good]at hx
  ·simp
  ·right;left;simp[hx]
  ·right;right;left;simp[hx]
  ·right;right;right;left;simp[hx]
  ·right; right; right; right
   exact⟨rfl,rfl,rfl,_,_,rfl,⟨_,hx.1,rfl⟩,⟨_,hx.2,rfl⟩⟩
 ·rintro (⟨rfl, rfl, rfl, rfl⟩ | ⟨rfl, h1, h2, rfl, rfl⟩ | ⟨rfl, rfl, h1, rfl⟩ | ⟨rfl, h1, h2, rfl, rfl⟩ | ⟨rfl, rfl, rfl, a, b, rfl, ⟨x, h1, rfl⟩, ⟨y, h2, rfl⟩⟩)
  ·exact⟨.nil,trivial,rfl⟩
  ·exact⟨.var n,⟨h1,h2⟩,rfl⟩
  ·exact⟨.sym s,h1,rfl⟩
  ·exact⟨.num n,⟨h1,h2⟩,rfl⟩
  ·exact⟨.pair x y,⟨h1,h2⟩,rfl⟩
theorem Tm.Sh_iff'(k n:Int)(s:ByteArray)(l:List Tm):(Tm.mk k n s l).Sh↔
  (k=0∧n=0∧s=⟨#[]⟩∧l.length=0)∨(k=1∧0≤n∧n≤100000∧s=⟨#[]⟩∧l.length=0)∨(k=2∧n=0∧gS s∧l.length=0)∨(k=3∧ -1000000000≤n∧n≤1000000000∧s=⟨#[]⟩∧l.length=0)∨
  (k=4∧n=0∧s=⟨#[]⟩∧l.length=2∧∃a b,l=[a,b]∧a.Sh∧b.Sh):=by
 have h0:l.length=0↔l=[]:=List.length_eq_zero_iff
 have h2:(l.length=2∧∃a b,l=[a,b]∧a.Sh∧b.Sh)↔∃a b,l=[a,b]∧a.Sh∧b.Sh:=⟨fun h=>h.2,fun h=>⟨by obtain⟨a,b,rfl,_⟩:=h;rfl,h⟩⟩
 rw[Tm.Sh_iff,h0,h2]
theorem isF{p:Prop}{_:Decidable p}(h:¬p):Value.bool false= .bool (decide p):=by rw[decide_eq_false h]
theorem isT{p:Prop}{_:Decidable p}(h:p):Value.bool true= .bool (decide p):=by rw[decide_eq_true h]
theorem isI{p q:Prop}{_:Decidable p}{_:Decidable q}(h:p↔q):Value.bool (decide p)= .bool (decide q):=by simp only[h]
theorem qLg{α:Type}:∀{l:List α},((l.length:Nat):Int)=2→∃a b,l=[a,b]
 |[a,b],_=>⟨a,b,rfl⟩
 |[],h=>by simp at h
 |[_],h=>by simp at h
 |_::_::_::_,h=>by simp at h;omega
theorem T.tm_inj:∀{x y:T},x.tm=y.tm→x=y
 | .nil,y,h=>by cases y<;>simp_all [T.tm]
 | .var n,y,h=>by cases y<;>simp_all [T.tm]
 | .sym s,y,h=>by cases y<;>simp_all [T.tm]
 | .num n,y,h=>by cases y<;>simp_all [T.tm]
 | .pair a b,y,h=>by
  cases y<;>simp[T.tm]at h
  rw[T.tm_inj h.1,T.tm_inj h.2]
theorem eY:∀{l:List Tm},(∀t∈l,t.Ok)→∃xs:List T,l=xs.map T.tm∧∀x∈xs,x.ok
 |[],_=>⟨[],rfl,by simp⟩
 |t::l,h=>by
  have w_:=(h t (by simp)).lift
  obtain⟨x,h1,rfl⟩:=w_
  have w_:=eY (l:=l) fun t ht=>h t (by simp[ht])
  obtain⟨xs,rfl,h2⟩:=w_
  exact⟨x::xs,rfl,by simp;exact⟨h1,h2⟩⟩
end Go.Vx
namespace Go.Vx
open Go.Proofs Classical
section
variable {μ:Mem}
theorem Tm.cnts_append:∀(a c:List Tm),Tm.cnts (a++c)=Tm.cnts a+Tm.cnts c
 |[],c=>by simp[Tm.cnts]
 |d::r,c=>by simp[Tm.cnts,Tm.cnts_append r c,Nat.add_assoc]
theorem Tm.cnts_take{xs:List Tm}{j:Nat}{x:Tm}(h:xs[j]? =some x):Tm.cnts (xs.take (j+1))=Tm.cnts (xs.take j)+x.cnt:=by
 rw[List.take_add_one,h,Option.toList_some,Tm.cnts_append];simp[Tm.cnts]
theorem Tm.cnts_le(xs:List Tm)(j:Nat):Tm.cnts (xs.take j)≤Tm.cnts xs:=by
 have:=Tm.cnts_append (xs.take j) (xs.drop j)
 rw[List.take_append_drop]at this;omega
def bX(n most:Int):Int:=min n (max most 0+1)
theorem xN:∀(t:Tm) {v:Value} {most:Int},RepV μ t.d v→ -1000000000000≤most→most≤1000000000000→aQ Tryz.prog 150 [v,.int .i64 most] μ (.int .i64 (bX t.cnt most)):=
 Tm.ind fun k n s l ih v most hv h1 h2=>by
  have w_:=Tm.inv hv
  obtain⟨base,cap,rfl,hsl⟩:=w_
  have hn:=aI hsl.max
  refine Spec.mk Tryz.func150 (by kernel_rfl) ?_
  intro r
  refine lIn (fun i:Nat=>i≤l.length) (fun i=>⟨[(1,.val (.int .i64 most)),(5,.val (.int .i64 (bX (1+Tm.cnts (l.take i):Nat) most))),(9,.val (.slice base l.length cap)),(10,.val (.int .i64 l.length)),(11,.val (.int .i64 i))],[],1,μ,Mem.nil⟩) (fun i=>l.length-i)
   0 (by omega) (fun i=>⟨rfl,rfl⟩) ⟨⟨rfl,by show some (SV.val (.int .i64 _))=some (SV.val (.int .i64 _));congr 3;simp[Tm.cnts,bX];omega,rfl,rfl,rfl,trivial⟩,trivial,rfl,rfl⟩ ?_
  intro i hi
  refine ifd (fun h=>?_) (fun h=>?_)
  ·have w_ := aSo (l := l) (i := i) (by omega)
   obtain⟨t,ht⟩:=w_
   have hc:=Tm.cnts_take ht
   have hc':=Tm.cnts_le l (i+1)
   have w_:=Tm.elem hsl ht
   obtain⟨ad,p,hel,hr⟩:=w_
   refine eIn hel ?_
   intro r2
   refine ifd (fun h=>rGv ?_ rfl) (fun h=>?_)
   ·simp only [Tm.cnt, bX] at h ⊢
    congr 1;omega
   ·have hb : bX (1 + Tm.cnts (l.take i) : Nat) most ≤ 1000000000001 ∧ 1 ≤ bX (1 + Tm.cnts (l.take i) : Nat) most := by unfold bX; omega
    refine aC (by omega) (by omega) ?_
    refine cGv (ih t (mAt ht) hr (by omega) (by omega)) ?_
    refine nEq (x:=bX (1+Tm.cnts (l.take (i+1)):Nat) most) ?_ ?_
    ·have hb2:bX (t.cnt:Int) (most-bX (1+Tm.cnts (l.take i):Nat) most)≤1000000000001∧1≤bX (t.cnt:Int) (most-bX (1+Tm.cnts (l.take i):Nat) most):=by
      have:=t.cnt_pos
      unfold bX at hb h ⊢
      omega
     rw[aA (by omega) (by omega),hc]
     unfold bX at h ⊢;omega
    ·exact aC (by omega) (by omega) ⟨i+1,by omega,by omega,⟨⟨rfl,rfl,rfl,rfl,rfl,trivial⟩,trivial,rfl,rfl⟩⟩
  ·obtain rfl : i = l.length := by omega
   rw[List.take_length]
   exact rGv rfl rfl
set_option maxRecDepth 20000 in
theorem oB:∀(t:Tm) {v:Value},RepV μ t.d v→t.d.wd→aQ Tryz.prog 151 [v] μ (.bool (decide t.Sh)):=
 Tm.ind fun k n s l ih v hv hw=>by
  have w_:=Tm.inv hv
  obtain⟨base,cap,rfl,hsl⟩:=w_
  have hn:=aI hsl.max
  rw[Tm.d_mk]at hw
  have hs:s.size≤maxLen:=hw.2.2.1
  have hws:=D.wds_mem (xs:=l.map Tm.d) hw.2.2.2.1
  have hiff:=Tm.Sh_iff' k n s l
  refine Spec.mk Tryz.func151 (by kernel_rfl) ?_
  intro r
  repeat' (first
   |refine ifd (fun h=>?_) (fun h=>?_)
   |refine aL (fun h=>?_) (fun h=>?_)
   |refine iIn (fun h=>?_) (fun h=>?_))
  all_goals first
   |(exfalso;clear ih hsl hv hw hws hiff;first|omega|contradiction)
   |(refine rGv (isF fun hS=>?_) rfl;clear ih hsl hv hw hws;rcases hiff.1 hS with⟨e1,e2,e3,e4⟩|⟨e1,e2,e3,e4,e5⟩|⟨e1,e2,e3,e4⟩|⟨e1,e2,e3,e4,e5⟩|⟨e1,e2,e3,e4,e5⟩<;>first|omega|contradiction|(subst_vars;contradiction))
   |(refine rGv (isT (hiff.2 (.inl ⟨?_,?_,?_,?_⟩))) rfl<;>first|omega|assumption)
   |(refine cGv (bU _ _ _ _) (rGv (isI (p:=(0:Int)≤n∧n≤100000) (hiff.trans ⟨fun hh=>?_,fun hh=> .inr (.inl ⟨by omega,hh.1,hh.2,by assumption,by omega⟩)⟩).symm) rfl);rcases hh with⟨e1,e2,e3,e4⟩|⟨e1,e2,e3,e4,e5⟩|⟨e1,e2,e3,e4⟩|⟨e1,e2,e3,e4,e5⟩|⟨e1,e2,e3,e4,e5⟩<;>first|omega|exact⟨by omega,by omega⟩)
   |(refine cGv (bU _ _ _ _) (rGv (isI (p:=(-1000000000:Int)≤n∧n≤1000000000) (hiff.trans ⟨fun hh=>?_,fun hh=> .inr (.inr (.inr (.inl ⟨by omega,hh.1,hh.2,by assumption,by omega⟩)))⟩).symm) rfl);rcases hh with⟨e1,e2,e3,e4⟩|⟨e1,e2,e3,e4,e5⟩|⟨e1,e2,e3,e4⟩|⟨e1,e2,e3,e4,e5⟩|⟨e1,e2,e3,e4,e5⟩<;>first|omega|exact⟨by omega,by omega⟩)
   |(refine cGv (dW s hs _) (rGv (isI (p:=gS s) (hiff.trans ⟨fun hh=>?_,fun hh=> .inr (.inr (.inl ⟨by omega,by omega,hh,by omega⟩))⟩).symm) rfl);rcases hh with⟨e1,e2,e3,e4⟩|⟨e1,e2,e3,e4,e5⟩|⟨e1,e2,e3,e4⟩|⟨e1,e2,e3,e4,e5⟩|⟨e1,e2,e3,e4,e5⟩<;>first|omega|assumption)
   |skip
  have h2:=h
  have w_:=qLg h2
  obtain⟨a,b,rfl⟩:=w_
  have w_:=Tm.elem (i:=0) hsl rfl
  obtain⟨ad,p,hel,hra⟩:=w_
  have w_:=Tm.elem (i:=1) hsl rfl
  obtain⟨ad',p',hel',hrb⟩:=w_
  refine eIn hel (cGv (ih a (by simp) hra (hws _ (by simp))) ?_)
  refine iIn (fun h=>?_) (fun h=>?_)
  ·refine eIn hel' (cGv (ih b (by simp) hrb (hws _ (by simp))) (rGv (isI (hiff.trans ⟨fun hh => ?_, fun hh => ?_⟩).symm) rfl))
   ·rcases hh with⟨e1,e2,e3,e4⟩|⟨e1,e2,e3,e4,e5⟩|⟨e1,e2,e3,e4⟩|⟨e1,e2,e3,e4,e5⟩|⟨e1,e2,e3,e4,e5⟩<;>first|omega|(obtain⟨a',b',e,e6,e7⟩:=e5;cases e;assumption)
   ·exact .inr (.inr (.inr (.inr ⟨by omega,by omega,by assumption,rfl,a,b,rfl,of_decide_eq_true h,hh⟩)))
  ·refine rGv (isF fun hh => ?_) rfl
   replace hh:=hiff.1 hh
   rcases hh with⟨e1,e2,e3,e4⟩|⟨e1,e2,e3,e4,e5⟩|⟨e1,e2,e3,e4⟩|⟨e1,e2,e3,e4,e5⟩|⟨e1,e2,e3,e4,e5⟩<;>first|omega|(obtain⟨a',b',e,e6,e7⟩:=e5;cases e;exact absurd e6 (of_decide_eq_false h))
noncomputable def Tm.nodes(t:Tm)(room:Int):Int:=if t.Sh∧(t.cnt:Int)≤room then t.cnt else -1
theorem Tm.nodes_neg{t:Tm}{room:Int}(h:¬(t.Sh∧(t.cnt:Int)≤room)):Value.int .i64 (-1)= .int .i64 (t.nodes room):=by rw[Tm.nodes,if_neg h]
theorem Tm.nodes_pos{t:Tm}{room:Int}(h:t.Sh)(h2:(t.cnt:Int)≤room):t.nodes room=t.cnt:=by rw[Tm.nodes,if_pos ⟨h,h2⟩]
theorem Tm.nodes_lt{t:Tm}{room:Int}(h:t.nodes room<0):¬(t.Sh∧(t.cnt:Int)≤room):=fun k=>by rw[Tm.nodes,if_pos k]at h;omega
theorem Tm.nodes_ge{t:Tm}{room:Int}(h:¬t.nodes room<0):t.Sh∧(t.cnt:Int)≤room∧t.nodes room=t.cnt:=by
 by_cases k:t.Sh∧(t.cnt:Int)≤room
 ·exact⟨k.1,k.2,by rw[Tm.nodes,if_pos k]⟩
 ·rw[Tm.nodes,if_neg k]at h;omega
set_option maxRecDepth 20000 in
theorem qCb:∀(t:Tm) {v:Value} {room:Int},RepV μ t.d v→ -1000000000000≤room→room≤1000000000000→aQ Tryz.prog 147 [v,.int .i64 room] μ (.int .i64 (t.nodes room)):=
 Tm.ind fun k n s l ih v room hv hr1 hr2=>by
  have w_:=Tm.inv hv
  obtain⟨base,cap,rfl,hsl⟩:=w_
  have hn:=aI hsl.max
  have hiff:=Tm.Sh_iff' k n s l
  have hone:l.length=0→(Tm.mk k n s l).cnt=1:=fun h=>by
   have w_:=List.eq_nil_of_length_eq_zero h
   obtain rfl:=w_
   rfl
  have hpos:=Tm.cnt_pos (.mk k n s l)
  refine Spec.mk Tryz.func147 (by kernel_rfl) ?_
  intro r
  refine ifd (fun h0=>rGv (Tm.nodes_neg fun hh=>by omega) rfl) (fun h0=>?_)
  have hgood:(Tm.mk k n s l).Sh→l.length=0→Value.int .i64 1= .int .i64 ((Tm.mk k n s l).nodes room):=fun h1 h2=>by
   have:=hone h2
   rw[Tm.nodes_pos h1 (by omega),this];rfl
  refine aL (fun hk=>?_) (fun hk=>?_)
  ·repeat' (first
    |refine ifd (fun h=>?_) (fun h=>?_)
    |refine aL (fun h=>?_) (fun h=>?_)
    |refine iIn (fun h=>?_) (fun h=>?_)
    |refine cGv (dY s _) ?_)
   all_goals first
    |(exfalso;clear ih hsl hv hiff;first|omega|contradiction)
    |(refine rGv (Tm.nodes_neg fun hS=>?_) rfl;have hh:=hiff.1 hS.1;clear ih hsl hv;rcases hh with⟨e1,e2,e3,e4⟩|⟨e1,e2,e3,e4,e5⟩|⟨e1,e2,e3,e4⟩|⟨e1,e2,e3,e4,e5⟩|⟨e1,e2,e3,e4,e5⟩<;>first|omega|contradiction|(subst_vars;contradiction))
    |(refine rGv (hgood (hiff.2 (.inl ⟨?_,?_,?_,?_⟩)) (by omega)) rfl<;>first|omega|assumption;done)
    |(refine rGv (hgood (hiff.2 (.inr (.inl ⟨?_,?_,?_,?_,?_⟩))) (by omega)) rfl<;>first|omega|assumption;done)
    |(refine rGv (hgood (hiff.2 (.inr (.inr (.inl ⟨?_,?_,?_,?_⟩)))) (by omega)) rfl<;>first|omega|assumption;done)
    |(refine rGv (hgood (hiff.2 (.inr (.inr (.inr (.inl ⟨?_,?_,?_,?_,?_⟩))))) (by omega)) rfl<;>first|omega|assumption;done)
    |trace_state
  ·refine aL (fun h1 => ?_) (fun h1 => ?_)
   ·refine rGv (Tm.nodes_neg fun hS => ?_) rfl; have hh := hiff.1 hS.1; clear ih hsl hv
    rcases hh with⟨e1,e2,e3,e4⟩|⟨e1,e2,e3,e4,e5⟩|⟨e1,e2,e3,e4⟩|⟨e1,e2,e3,e4,e5⟩|⟨e1,e2,e3,e4,e5⟩<;>omega
   refine aL (fun h2=>?_) (fun h2=>?_)
   ·refine rGv (Tm.nodes_neg fun hS => ?_) rfl; have hh := hiff.1 hS.1; clear ih hsl hv
    rcases hh with⟨e1,e2,e3,e4⟩|⟨e1,e2,e3,e4,e5⟩|⟨e1,e2,e3,e4⟩|⟨e1,e2,e3,e4,e5⟩|⟨e1,e2,e3,e4,e5⟩<;>first|omega|contradiction
   refine aL (fun h3=>?_) (fun h3=>?_)
   ·refine rGv (Tm.nodes_neg fun hS => ?_) rfl; have hh := hiff.1 hS.1; clear ih hsl hv
    rcases hh with⟨e1,e2,e3,e4⟩|⟨e1,e2,e3,e4,e5⟩|⟨e1,e2,e3,e4⟩|⟨e1,e2,e3,e4,e5⟩|⟨e1,e2,e3,e4,e5⟩<;>omega
   have w_:=qLg h3
   obtain⟨a,b,rfl⟩:=w_
   have hcnt:(Tm.mk k n s [a,b]).cnt=1+a.cnt+b.cnt:=by simp[Tm.cnt,Tm.cnts];omega
   have hsh:(Tm.mk k n s [a,b]).Sh→a.Sh∧b.Sh:=fun hS=>by
    have hh:=hiff.1 hS
    rcases hh with⟨e1,e2,e3,e4⟩|⟨e1,e2,e3,e4,e5⟩|⟨e1,e2,e3,e4⟩|⟨e1,e2,e3,e4,e5⟩|⟨e1,e2,e3,e4,e5⟩<;>first|omega|(obtain⟨a',b',e,e6,e7⟩:=e5;cases e;exact⟨e6,e7⟩)
   have w_:=Tm.elem (i:=0) hsl rfl
   obtain⟨ad,p,hel,hra⟩:=w_
   have w_:=Tm.elem (i:=1) hsl rfl
   obtain⟨ad',p',hel',hrb⟩:=w_
   refine eIn hel (aC (by omega) (by omega) (cGv (ih a (by simp) hra (by omega) (by omega)) ?_))
   refine ifd (fun h4=>?_) (fun h4=>?_)
   ·have := Tm.nodes_lt h4
    refine rGv (Tm.nodes_neg fun hS=>this ⟨(hsh hS.1).1,?_⟩) rfl
    have:=hS.2;rw[hcnt]at this;omega
   have w_:=Tm.nodes_ge h4
   obtain⟨g1,g2,g3⟩:=w_
   have:=a.cnt_pos
   refine eIn hel' (aC (by omega) (by omega) (aC (by omega) (by omega) (cGv (ih b (by simp) hrb (by omega) (by omega)) ?_)))
   refine ifd (fun h5=>?_) (fun h5=>?_)
   ·have := Tm.nodes_lt h5
    refine rGv (Tm.nodes_neg fun hS=>this ⟨(hsh hS.1).2,?_⟩) rfl
    have:=hS.2;rw[hcnt]at this;omega
   have w_:=Tm.nodes_ge h5
   obtain⟨g4,g5,g6⟩:=w_
   refine aC (by omega) (by omega) (aC (by omega) (by omega) (rGv ?_ rfl))
   rw[Tm.nodes_pos (hiff.2 (.inr (.inr (.inr (.inr ⟨by omega,by omega,by assumption,rfl,a,b,rfl,g1,g4⟩))))) (by rw[hcnt];omega),hcnt]
   congr 1;omega
end
end Go.Vx
namespace Go.Vx
open Go.Proofs Classical
section
variable {μ:Mem}
theorem fL(t:Tm){v:Value}(hv:RepV μ t.d v)(hw:t.d.wd):aQ Tryz.prog 110 [v] μ (.bool (decide t.Ok)):=by
 have w_:=Tm.invV hv
 obtain⟨p,rfl⟩:=w_
 refine Spec.mk Tryz.func110 (by kernel_rfl) ?_
 intro r
 refine cGv (xN t hv (by decide) (by decide)) ?_
 refine ifd (fun h=>?_) (fun h=>rGv (isF fun hh=>?_) rfl)
 ·refine cGv (oB t hv hw) (rGv (isI ⟨fun hh => ⟨hh, ?_⟩, fun hh => hh.1⟩) rfl)
  unfold bX at h;omega
 ·have:=hh.2;unfold bX at h;omega
theorem dN(t:Tm){v:Value}(hv:RepV μ t.d v):aQ Tryz.prog 102 [v] μ (.bool (decide t.Ok)):=by
 have w_:=Tm.invV hv
 obtain⟨p,rfl⟩:=w_
 refine Spec.mk Tryz.func102 (by kernel_rfl) ?_
 intro r
 refine cGv (qCb t hv (by decide) (by decide)) (rGv (isI ⟨fun hh=>?_,fun hh=>?_⟩) rfl)
 ·have w_ := Tm.nodes_ge (by omega : ¬ t.nodes 5000 < 0)
  obtain⟨h1,h2,_⟩:=w_
  exact⟨h1,by omega⟩
 ·rw [Tm.nodes_pos hh.1 (by have := hh.2; omega)]
  have:=t.cnt_pos;omega
theorem xA{l:List Tm}{base:Option Addr}{cap:Nat}(hsl:Sl μ 4 base l.length (l.map Tm.d))(hw:D.wds (l.map Tm.d)):aQ Tryz.prog 172 [.slice base l.length cap] μ (.bool (decide (∀t∈l,t.Ok))):=by
  have hn:=aI hsl.max
  refine Spec.mk Tryz.func172 (by kernel_rfl) ?_
  refine lIn (fun i:Nat=>i≤l.length∧∀t∈l.take i,t.Ok) (fun i=>⟨[(5,.val (.slice base l.length cap)),(6,.val (.int .i64 l.length)),(7,.val (.int .i64 i))],[],0,μ,Mem.nil⟩) (fun i=>l.length-i)
   0 ⟨by omega,by simp⟩ (fun i=>⟨rfl,rfl⟩) ⟨⟨rfl,rfl,rfl,trivial⟩,trivial,rfl,rfl⟩ ?_
  rintro i ⟨hi,hall⟩
  refine ifd (fun h=>?_) (fun h=>?_)
  ·have w_ := aSo (l := l) (i := i) (by omega)
   obtain⟨t,ht⟩:=w_
   have w_:=Tm.elem hsl ht
   obtain⟨ad,p,hel,hr⟩:=w_
   refine eIn hel ?_
   intro r
   refine cGv (fL t hr (D.wds_mem hw _ (mAt (lX (f:=Tm.d) ht)))) ?_
   refine aL (fun h=>rGv (isF fun hh=>h (hh t (mAt ht))) rfl) (fun h=>?_)
   refine aC (by omega) (by omega) ⟨i+1,⟨by omega,fun x hx=>?_⟩,by omega,⟨⟨rfl,rfl,rfl,trivial⟩,trivial,rfl,rfl⟩⟩
   rw[List.take_add_one,ht,Option.toList_some,List.mem_append,List.mem_singleton]at hx
   rcases hx with hx|rfl
   ·exact hall x hx
   ·exact h
  ·obtain rfl : i = l.length := by omega
   rw[List.take_length]at hall
   exact rGv (isT hall) rfl
end
end Go.Vx
namespace Go.Vx
open Go.Proofs Classical
section
variable {μ:Mem}
theorem T.parts{a b:T}{base:Option Addr}{n:Nat}(h:Sl μ 4 base n ([a.tm,b.tm].map Tm.d)):∃ad ad',∃p p':Option Addr×Nat,ElemAt μ base n 4 ((0:Nat):Int) ad (a.tm.cs p)∧ElemAt μ base n 4 ((1:Nat):Int) ad' (b.tm.cs p')∧RepV μ a.tm.d (.agg (a.tm.cs p).toArray)∧RepV μ b.tm.d (.agg (b.tm.cs p').toArray):=by
 have w_:=Tm.elem (i:=0) h rfl
 obtain⟨ad,p,h1,h2⟩:=w_
 have w_:=Tm.elem (i:=1) h rfl
 obtain⟨ad',p',h3,h4⟩:=w_
 exact⟨ad,ad',p,p',h1,h3,h2,h4⟩
theorem set_self(h:Mem)(r:Nat)(o:Obj):h.set r o r=some o:=by simp[Mem.set_get]
end
end Go.Vx
namespace Go.Vx
open Go.Proofs Classical
def aF(l:List Int):List Value:=l.map fun n=> .int .i64 n
theorem nE:∀l:List Int,(aF l).flatMap aB=aF l
 |[]=>rfl
 |n::l=>by
  have:=nE l
  simp only[aF]at this ⊢
  simp[this,aB]
section
variable {μ:Mem}
theorem Ints.elem{l:List Int}{base:Option Addr}{n:Nat}(h:Sl μ 1 base n (l.map D.i)){i:Nat}{x:Int}(hx:l[i]? =some x):∃ad,ElemAt μ base n 1 i ad [.int .i64 x]:=by
 have w_:=h.get i (.i x) (by simp[hx])
 obtain⟨ad,cs,h1,h2⟩:=w_
 have h2:cs=[.int .i64 x]:=h2
 subst h2
 exact⟨ad,h1⟩
theorem Ints.rows:∀l:List Int,Rows μ 1 (l.map D.i) (aF l)
 |[]=> .nil
 |n::l=> .cons (show RepV μ (.i n) (.int .i64 n)from rfl) rfl (Ints.rows l)
theorem Ints.sl{b:Option Nat}{cap:Nat}{l:List Int}(h:RowAt μ b cap 1 (aF l))(hm:l.length≤maxLen):RepV μ (.sl 1 (l.map D.i)) (.slice (b.map fun r=>⟨r,0,none⟩) (aF l).length cap):=
 Rows.sl h (Ints.rows l) (by simpa[aF]using hm)
theorem Ints.src{l:List Int}{base:Option Addr}(h:Sl μ 1 base l.length (l.map D.i)){a b cap:Nat}(hab:a≤b)(hb:b≤l.length)(hc:l.length≤cap):uD μ (if cap=a then base else base.map (·.add (a*1))) (b-a) 1 (aF ((l.drop a).take (b-a))):=by
 refine⟨by simp[aF];omega,fun y hy=>?_,?_⟩
 ·have w_ := List.mem_map.1 hy
  obtain⟨n,_,rfl⟩:=w_
  exact⟨rfl,fun u hu=>by simp[aB]at hu;subst hu;rfl⟩
 ·rcases Nat.eq_or_lt_of_le hab with h0 | h0
  ·exact .inl (by omega)
  ·right
   have w_:=aSo (l:=l) (i:=a) (by omega)
   obtain⟨x,hx⟩:=w_
   have w_:=Ints.elem h hx
   obtain⟨_,hel⟩:=w_
   obtain⟨a0,e,_⟩:=hel.addr
   refine⟨a0.add (a*1),by rw[if_neg (by omega),e];rfl,fun j v hj=>?_⟩
   rw[nE]at hj
   simp only[aF,List.getElem?_map]at hj
   have w_:=Option.map_eq_some_iff.1 hj
   obtain⟨y,hy,rfl⟩:=w_
   rw[List.getElem?_take]at hy
   split at hy
   ·rw [List.getElem?_drop] at hy
    have w_:=Ints.elem h hy
    obtain⟨ad,hel2⟩:=w_
    obtain⟨a1,e1,e2⟩:=hel2.addr
    rw[e]at e1
    cases e1
    have:=hel2.cell 0 _ rfl
    rw[e2,add_add]at this
    rw[add_add]
    rw[←this]
    congr 2
    simp
    omega
   ·cases hy
def aY(l:List Int)(n:Int)(k:Nat):List Int:=l.take k++([n]++l.drop k)
theorem dM(l:List Int)(n:Int)(k:Nat)(x:Int):x∈aY l n k↔x=n∨x∈l:=by
 have:=List.take_append_drop k l
 have h2:x∈l↔x∈l.take k∨x∈l.drop k:=by rw[←List.mem_append,this]
 simp only[aY,List.mem_append,List.mem_singleton,h2]
 constructor
 ·rintro(h|h|h)<;>simp[h]
 ·rintro(h|h|h)<;>simp[h]
def InsOf(μ':Mem)(l:List Int)(n:Int)(v:Value):Prop:=∃r:List Int,RepV μ' (.sl 1 (r.map D.i)) v∧(∀x,x∈r↔x=n∨x∈l)∧r.length≤l.length+1
theorem wD{l:List Int}{v:Value}{n:Int}(hv:RepV μ (.sl 1 (l.map D.i)) v)(hb:l.length≤1000000000):Spec Tryz.prog 152 [v,.int .i64 n] μ fun v μ'=>InsOf μ' l n v:=by
 have w_:=Rep.sl hv
 obtain⟨base,cap,rfl,hsl⟩:=w_
 have hcap:=Rep.lens hv
 rw[List.length_map]at hsl hcap hv ⊢
 refine Spec.mk Tryz.func152 (by kernel_rfl) ?_
 refine lIn (fun k:Nat=>k≤l.length) (fun k=>⟨[(0,.val (.slice base l.length cap)),(1,.val (.int .i64 n)),(5,.val (.int .i64 k))],[],0,μ,Mem.nil⟩) (fun k=>k)
  l.length (Nat.le_refl _) (fun i=>⟨rfl,rfl⟩) ⟨⟨rfl,rfl,rfl,trivial⟩,trivial,rfl,rfl⟩ ?_
 intro k hk
 refine ifd (fun h1=>?_) (fun h1=>?_)
 ·have w_ := aSo (l := l) (i := k - 1) (by omega)
  obtain⟨x,hx⟩:=w_
  have w_:=Ints.elem hsl hx
  obtain⟨ad,hel⟩:=w_
  refine nEq (x:=((k-1:Nat):Int)) (by rw[aA (by omega) (by omega)];omega) ?_
  refine eIn hel ?_
  refine ifd (fun h2=>?_) (fun h2=>?_)
  ·exact nEq (x:=((k-1:Nat):Int)) (by rw[aA (by omega) (by omega)];omega) ⟨k-1,by omega,by omega,⟨⟨rfl,rfl,rfl,trivial⟩,trivial,rfl,rfl⟩⟩
  ·refine ifd (fun h3 => ?_) (fun h3 => ?_)
   ·have w_ := aSo (l := l) (i := k) (by omega)
    obtain⟨y,hy⟩:=w_
    have w_:=Ints.elem hsl hy
    obtain⟨ad2,hel2⟩:=w_
    refine eIn hel2 ?_
    refine ifd (fun h4=>rPl ⟨l,hv,fun x=>⟨.inr,fun hx=>hx.elim (fun e=>by rw[e,←h4];exact mAt hy) id⟩,by omega⟩) (fun h4=>?_)
    intro r0
    refine aE 0 k rfl rfl (by omega) (by omega) ?_
    refine aN _ (Ints.src hsl (a:=0) (b:=k) (by omega) hk hcap) ?_
    refine gIn ?_ ?_ fun b1 c1 _=>?_
    ·show(0+(aF _).length)*8≤_;simp[aF];omega
    ·show 0+(aF _).length≤9223372036854775807;simp[aF];omega
    intro r1
    refine gIn ?_ ?_ fun b2 c2 _=>?_
    ·show(([]++aF _).length+1)*8≤_;simp[aF];omega
    ·show([]++aF _).length+1≤9223372036854775807;simp[aF];omega
    refine aE k l.length rfl rfl hk (by omega) ?_
    refine aN _ (Ints.src hsl (a:=k) (b:=l.length) hk (Nat.le_refl _) hcap) ?_
    refine gIn ?_ ?_ fun b3 c3 _=>?_
    ·show(([]++aF _++[_]).length+(aF _).length)*8≤_;simp[aF];omega
    ·show([]++aF _++[_]).length+(aF _).length≤9223372036854775807;simp[aF];omega
    refine rFz [0] fun μ' hle hno hrow=> .inl ⟨aY l n k,?_,dM l n k,?_⟩
    ·have e:[]++aF ((l.drop 0).take (k-0))++[.int .i64 n]++aF ((l.drop k).take (l.length-k))=aF (aY l n k):=by
      simp[aF,aY]
      rw[List.take_of_length_le (by simp)]
     rw[e]at hrow ⊢
     exact Ints.sl hrow (Nat.le_trans (m:=2000000000) (by simp[aY];omega) (by decide))
    ·simp[aY];omega
   ·intro r0
    refine aE 0 k rfl rfl (by omega) (by omega) ?_
    refine aN _ (Ints.src hsl (a:=0) (b:=k) (by omega) hk hcap) ?_
    refine gIn ?_ ?_ fun b1 c1 _=>?_
    ·show(0+(aF _).length)*8≤_;simp[aF];omega
    ·show 0+(aF _).length≤9223372036854775807;simp[aF];omega
    intro r1
    refine gIn ?_ ?_ fun b2 c2 _=>?_
    ·show(([]++aF _).length+1)*8≤_;simp[aF];omega
    ·show([]++aF _).length+1≤9223372036854775807;simp[aF];omega
    refine aE k l.length rfl rfl hk (by omega) ?_
    refine aN _ (Ints.src hsl (a:=k) (b:=l.length) hk (Nat.le_refl _) hcap) ?_
    refine gIn ?_ ?_ fun b3 c3 _=>?_
    ·show(([]++aF _++[_]).length+(aF _).length)*8≤_;simp[aF];omega
    ·show([]++aF _++[_]).length+(aF _).length≤9223372036854775807;simp[aF];omega
    refine rFz [0] fun μ' hle hno hrow=> .inl ⟨aY l n k,?_,dM l n k,?_⟩
    ·have e:[]++aF ((l.drop 0).take (k-0))++[.int .i64 n]++aF ((l.drop k).take (l.length-k))=aF (aY l n k):=by
      simp[aF,aY]
      rw[List.take_of_length_le (by simp)]
     rw[e]at hrow ⊢
     exact Ints.sl hrow (Nat.le_trans (m:=2000000000) (by simp[aY];omega) (by decide))
    ·simp[aY];omega
 ·refine ifd (fun h3 => ?_) (fun h3 => ?_)
  ·have w_ := aSo (l := l) (i := k) (by omega)
   obtain⟨y,hy⟩:=w_
   have w_:=Ints.elem hsl hy
   obtain⟨ad2,hel2⟩:=w_
   refine eIn hel2 ?_
   refine ifd (fun h4=>rPl ⟨l,hv,fun x=>⟨.inr,fun hx=>hx.elim (fun e=>by rw[e,←h4];exact mAt hy) id⟩,by omega⟩) (fun h4=>?_)
   intro r0
   refine aE 0 k rfl rfl (by omega) (by omega) ?_
   refine aN _ (Ints.src hsl (a:=0) (b:=k) (by omega) hk hcap) ?_
   refine gIn ?_ ?_ fun b1 c1 _=>?_
   ·show(0+(aF _).length)*8≤_;simp[aF];omega
   ·show 0+(aF _).length≤9223372036854775807;simp[aF];omega
   intro r1
   refine gIn ?_ ?_ fun b2 c2 _=>?_
   ·show(([]++aF _).length+1)*8≤_;simp[aF];omega
   ·show([]++aF _).length+1≤9223372036854775807;simp[aF];omega
   refine aE k l.length rfl rfl hk (by omega) ?_
   refine aN _ (Ints.src hsl (a:=k) (b:=l.length) hk (Nat.le_refl _) hcap) ?_
   refine gIn ?_ ?_ fun b3 c3 _=>?_
   ·show(([]++aF _++[_]).length+(aF _).length)*8≤_;simp[aF];omega
   ·show([]++aF _++[_]).length+(aF _).length≤9223372036854775807;simp[aF];omega
   refine rFz [0] fun μ' hle hno hrow=> .inl ⟨aY l n k,?_,dM l n k,?_⟩
   ·have e:[]++aF ((l.drop 0).take (k-0))++[.int .i64 n]++aF ((l.drop k).take (l.length-k))=aF (aY l n k):=by
     simp[aF,aY]
     rw[List.take_of_length_le (by simp)]
    rw[e]at hrow ⊢
    exact Ints.sl hrow (Nat.le_trans (m:=2000000000) (by simp[aY];omega) (by decide))
   ·simp[aY];omega
  ·intro r0
   refine aE 0 k rfl rfl (by omega) (by omega) ?_
   refine aN _ (Ints.src hsl (a:=0) (b:=k) (by omega) hk hcap) ?_
   refine gIn ?_ ?_ fun b1 c1 _=>?_
   ·show(0+(aF _).length)*8≤_;simp[aF];omega
   ·show 0+(aF _).length≤9223372036854775807;simp[aF];omega
   intro r1
   refine gIn ?_ ?_ fun b2 c2 _=>?_
   ·show(([]++aF _).length+1)*8≤_;simp[aF];omega
   ·show([]++aF _).length+1≤9223372036854775807;simp[aF];omega
   refine aE k l.length rfl rfl hk (by omega) ?_
   refine aN _ (Ints.src hsl (a:=k) (b:=l.length) hk (Nat.le_refl _) hcap) ?_
   refine gIn ?_ ?_ fun b3 c3 _=>?_
   ·show(([]++aF _++[_]).length+(aF _).length)*8≤_;simp[aF];omega
   ·show([]++aF _++[_]).length+(aF _).length≤9223372036854775807;simp[aF];omega
   refine rFz [0] fun μ' hle hno hrow=> .inl ⟨aY l n k,?_,dM l n k,?_⟩
   ·have e:[]++aF ((l.drop 0).take (k-0))++[.int .i64 n]++aF ((l.drop k).take (l.length-k))=aF (aY l n k):=by
     simp[aF,aY]
     rw[List.take_of_length_le (by simp)]
    rw[e]at hrow ⊢
    exact Ints.sl hrow (Nat.le_trans (m:=2000000000) (by simp[aY];omega) (by decide))
   ·simp[aY];omega
theorem lK{α β:Type}(f:α→List β)(l:List α)(i:Nat):((l.take i).flatMap f).length≤(l.flatMap f).length:=by
 have:=congrArg (fun l=>(l.flatMap f).length) (List.take_append_drop i l)
 simp only[List.flatMap_append,List.length_append]at this
 omega
theorem Spec.forget{P:Program}{f:FuncId}{args:List Value}{R:Value→Prop}(h:Spec P f args μ fun v _=>R v):Spec P f args μ fun v μ'=>R v∧μ'=μ:=by
 refine⟨h.1,fun w hm hh hap=>(h.2 w hm hh hap).mono ?_⟩
 rintro e w' ⟨v,μ',h',rfl,hr,hS⟩
 exact⟨v,μ,Mem.nil,rfl,⟨hr,rfl⟩,⟨Mem.Le.refl μ,hS.mem.le hS.le,kE w',fK _,fun b h1 h2=>absurd h1 h2,fun b hb=>absurd rfl hb,hS.size,hS.keep,hS.os,hS.tape,hS.output⟩⟩
def T.args:T→List T
 | .pair a b=>[a,b]
 | .nil=>[]
 | .var _=>[]
 | .sym _=>[]
 | .num _=>[]
theorem T.ind{p:T→Prop}(h:∀x:T,(∀y∈x.args,p y)→p x):∀x,p x
 | .pair a b=>by
  have ha:=T.ind h a
  have hb:=T.ind h b
  refine h _ fun y hy=>?_
  simp only[T.args,List.mem_cons,List.not_mem_nil,or_false]at hy
  rcases hy with rfl|rfl
  ·exact ha
  ·exact hb
 | .nil=>h _ fun y hy=>by simp[T.args]at hy
 | .var _=>h _ fun y hy=>by simp[T.args]at hy
 | .sym _=>h _ fun y hy=>by simp[T.args]at hy
 | .num _=>h _ fun y hy=>by simp[T.args]at hy
theorem T.tm_args(x:T):x.tm.args=x.args.map T.tm:=by cases x<;>rfl
theorem T.vars_args{x:T}(h:x.tm.kind≠1):x.vars=x.args.flatMap T.vars:=by
 cases x<;>simp_all [T.vars,T.args,T.tm,Tm.kind]
theorem T.vars_size:∀x:T,x.vars.length≤x.size
 | .nil=>by simp[T.vars]
 | .var _=>by simp[T.vars,T.size]
 | .sym _=>by simp[T.vars]
 | .num _=>by simp[T.vars]
 | .pair a b=>by
  have:=T.vars_size a
  have:=T.vars_size b
  simp[T.vars,T.size];omega
def qNo(μ':Mem)(l vs:List Int)(v:Value):Prop:=∃r:List Int,RepV μ' (.sl 1 (r.map D.i)) v∧(∀x,x∈r↔x∈vs∨x∈l)∧r.length≤l.length+vs.length
theorem qAv:∀(x:T) {μ:Mem} {l:List Int} {w v:Value},RepV μ x.tm.d w→RepV μ (.sl 1 (l.map D.i)) v→l.length+x.vars.length≤1000000000→Spec Tryz.prog 111 [w,v] μ fun v μ'=>qNo μ' l x.vars v:=
 T.ind fun x ih μ l w v hw hv hb=>by
  obtain⟨base,cap,rfl,hsl⟩:∃base cap,w= .agg #[.int .i64 x.tm.kind,.int .i64 x.tm.num,.string x.tm.name,.slice base x.args.length cap]∧Sl μ 4 base x.args.length ((x.args.map T.tm).map Tm.d):=by
   have h1:=Tm.inv (k:=x.tm.kind) (n:=x.tm.num) (s:=x.tm.name) (l:=x.tm.args) (v:=w) (by cases x<;>exact hw)
   rw[T.tm_args,List.length_map]at h1
   exact h1
  have hn:=aI hsl.max
  refine Spec.mk Tryz.func111 (by kernel_rfl) ?_
  intro r
  refine ifd (fun h=>?_) (fun h=>?_)
  ·have e : x.vars = [x.tm.num] := by cases x <;> simp_all [T.vars, T.tm, Tm.kind, Tm.num]
   refine cPl (wD hv (by omega)) fun v' μ' hle hR=>rPl ?_
   obtain⟨r,h1,h2,h3⟩:=hR
   exact⟨r,h1,by simpa[e]using h2,by simpa[e]using h3⟩
  have e:=T.vars_args h
  refine lIn (fun p:Nat×Value×Mem=>p.1≤x.args.length∧μ.Le p.2.2∧qNo p.2.2 l ((x.args.take p.1).flatMap T.vars) p.2.1)
   (fun(i,v,μ')=>⟨[(1,.val v),(15,.val (.slice base x.args.length cap)),(16,.val (.int .i64 x.args.length)),(17,.val (.int .i64 i))],[],1,μ',Mem.nil⟩) (fun p=>x.args.length-p.1)
   (0,v,μ) ⟨by simp,Mem.Le.refl μ,l,hv,by simp,by simp⟩ (fun(_,_,_)=>⟨rfl,rfl⟩) ⟨⟨rfl,rfl,rfl,rfl,trivial⟩,trivial,rfl,rfl⟩ ?_
  rintro⟨i,v,μ'⟩ ⟨hi,hle,r,h1,h2,h3⟩
  dsimp only at hi hle h1 h2 h3
  have hpre:((x.args.take i).flatMap T.vars).length≤x.vars.length:=by
   rw[e];exact lK _ _ _
  refine ifd (fun h=>?_) (fun h=>?_)
  ·have w_ := aSo (l := x.args) (i := i) (by omega)
   obtain⟨t,ht⟩:=w_
   have ht':(x.args.map T.tm)[i]? =some t.tm:=by simp[ht]
   have w_:=Tm.elem (hsl.mono hle) ht'
   obtain⟨ad,p,hel,hr⟩:=w_
   have hsucc:(x.args.take (i+1)).flatMap T.vars=(x.args.take i).flatMap T.vars++t.vars:=by
    rw[List.take_add_one,ht,Option.toList_some,List.flatMap_append];simp
   have hall:((x.args.take (i+1)).flatMap T.vars).length≤x.vars.length:=by
    rw[e];exact lK _ _ _
   rw[hsucc,List.length_append]at hall
   refine eIn hel ?_
   intro r2
   refine cPl (ih t (mAt ht) hr h1 (by omega)) fun v' μ'' hle2 hR=>?_
   obtain⟨q,g1,g2,g3⟩:=hR
   refine aC (by omega) (by omega) ⟨(i+1,v',μ''),⟨by dsimp only;omega,hle.trans hle2,q,g1,fun y=>?_,?_⟩,by dsimp only;omega,⟨⟨rfl,rfl,rfl,rfl,trivial⟩,trivial,rfl,rfl⟩⟩
   ·dsimp only
    rw[g2,h2,hsucc,List.mem_append]
    constructor
    ·rintro(h|h|h)<;>simp[h]
    ·rintro((h|h)|h)<;>simp[h]
   ·dsimp only
    rw[hsucc,List.length_append];omega
  ·have hi' : i = x.args.length := by omega
   subst hi'
   rw[List.take_length,←e]at h2 h3
   exact rPl ⟨r,h1,h2,h3⟩
end
end Go.Vx
namespace Go.Vx
open Go.Proofs Classical
section
variable {μ:Mem}
theorem oT(x:T){v:Value}(hv:RepV μ x.tm.d v)(hx:x.ok)(hw:x.tm.d.wd):aQ Tryz.prog 62 [v] μ (.bool (decide (x.vars=[]))):=by
 have w_:=Tm.invV hv
 obtain⟨p,rfl⟩:=w_
 have:=T.vars_size x
 have:=hx.2
 refine Spec.forget (Spec.mk Tryz.func62 (by kernel_rfl) ?_)
 intro r
 refine cGv (fL x.tm hv hw) ?_
 refine ifd (fun _=>?_) (fun h=>absurd hx.tm h)
 refine cPl (qAv x (l:=[]) hv (Rep.nilSl 1) (by simp;omega)) fun v' μ' hle hR=>?_
 obtain⟨r,h1,h2,h3⟩:=hR
 have w_:=Rep.sl h1
 obtain⟨b,c,rfl,_⟩:=w_
 refine rPl (isI ?_)
 rw[List.length_map]
 constructor
 ·intro hh
  have:r=[]:=List.eq_nil_of_length_eq_zero (by omega)
  subst this
  cases hx:x.vars with
  |nil=>rfl
  |cons a l=>
   have:=(h2 a).2 (.inl (by simp[hx]))
   simp at this
 ·intro hh
  rw[hh]at h3
  simp at h3
  rw[h3];rfl
end
end Go.Vx
namespace Go.Vx
open Go.Proofs Classical
noncomputable def Tm.toT(t:Tm):T:=if h:∃x:T,x.tm=t then h.choose else .nil
theorem T.toT_tm(x:T):x.tm.toT=x:=by
 have h:∃y:T,y.tm=x.tm:=⟨x,rfl⟩
 rw[Tm.toT,dif_pos h]
 exact T.tm_inj h.choose_spec
theorem Tm.Ok.toT{t:Tm}(h:t.Ok):t.toT.ok∧t.toT.tm=t:=by
 obtain⟨x,h1,rfl⟩:=h.lift
 rw[T.toT_tm];exact⟨h1,rfl⟩
structure B where
 var:Int
 to:T
def B.bd(b:B):Bd:=⟨b.var,b.to.tm⟩
def sub:List B→Int→Option T
 |[],_=>none
 |b::r,n=>if b.var=n then some b.to else sub r n
def T.subst(f:Int→Option T):T→T
 | .var n=>(f n).getD (.var n)
 | .pair a b=> .pair (a.subst f) (b.subst f)
 | .nil=> .nil
 | .sym s=> .sym s
 | .num n=> .num n
theorem cB{α:Type}{l:List α}{i:Nat}{a:α}(h:l[i]? =some a):l.drop i=a::l.drop (i+1):=by
 have w_:=List.getElem?_eq_some_iff.1 h
 obtain⟨h1,h2⟩:=w_
 rw[List.drop_eq_getElem_cons h1,h2]
def optV(P:T→Value→Prop)(o:Option T)(v:Value):Prop:=match o with
 |some y=>∃tv,v= .tuple #[tv,.bool true]∧P y tv
 |none=>v= .tuple #[.agg #[.int .i64 0,.int .i64 0,.string ⟨#[]⟩,.slice none 0 0],.bool false]
section
variable {μ:Mem}
theorem Bd.toV{b:Bd}{p:Option Addr×Nat}(h:RepV μ b.d (.agg (b.cs p).toArray)):RepV μ b.to.d (.agg (b.to.cs p).toArray):=by
 have w_:=Bd.inv h
 obtain⟨q,e,hto⟩:=w_
 have hq:q=p:=by
  have h2:=congrArg (fun v=>match v with|Value.agg a=>a[4]? |_=>none) e
  simp[Bd.cs]at h2
  exact Prod.ext h2.1.symm h2.2.symm
 rw[←hq];exact hto
theorem lB{a b:T}{va vb:Value}(ha:RepV μ a.tm.d va)(hb:RepV μ b.tm.d vb):Spec Tryz.prog 76 [va,vb] μ fun v μ'=>RepV μ' (T.pair a b).tm.d v:=by
 have w_:=Tm.invV ha
 obtain⟨p,rfl⟩:=w_
 have w_:=Tm.invV hb
 obtain⟨q,rfl⟩:=w_
 refine Spec.mk Tryz.func76 (by kernel_rfl) ?_
 intro r1 r2 r3 r4
 refine rFz [3] fun μ' hle hno hrow=> .inl ?_
 rw[T.tm,Tm.d_mk]
 exact⟨_,rfl,RepS.int (RepS.int (RepS.str (RepS.last (Rows.sl hrow (.cons (ha.mono hle) (Tm.d_n _) (.cons (hb.mono hle) (Tm.d_n _) .nil)) (show 2≤maxLen by decide)))))⟩
theorem qFd{bs:List B}{base:Option Addr}{cap:Nat}{n:Int}(hsl:Sl μ 5 base bs.length ((bs.map B.bd).map Bd.d)):
  Spec Tryz.prog 173 [.slice base bs.length cap,.int .i64 n] μ fun v μ'=>optV (fun y tv=>RepV μ y.tm.d tv) (sub bs n) v∧μ'=μ:=by
 have hn:=aI hsl.max
 refine Spec.mk Tryz.func173 (by kernel_rfl) ?_
 intro r
 refine lIn (fun i:Nat=>i≤bs.length∧sub bs n=sub (bs.drop i) n) (fun i=>⟨[(1,.val (.int .i64 n)),(4,.loc 0 r 0),(8,.val (.slice base bs.length cap)),(9,.val (.int .i64 bs.length)),(10,.val (.int .i64 i))],[(0,some (.cells r [.val (.int .i64 0),.val (.int .i64 0),.val (.string ⟨#[]⟩),.val (.slice none 0 0)] 57))],1,μ,Mem.nil⟩) (fun i=>bs.length-i)
  0 ⟨by omega,rfl⟩ (fun i=>⟨rfl,rfl⟩) ⟨⟨rfl,rfl,rfl,rfl,rfl,trivial⟩,⟨rfl,trivial⟩,rfl,rfl⟩ ?_
 rintro i ⟨hi,he⟩
 refine ifd (fun h=>?_) (fun h=>?_)
 ·have w_ := aSo (l := bs) (i := i) (by omega)
  obtain⟨b,hb⟩:=w_
  have hb':(bs.map B.bd)[i]? =some b.bd:=by simp[hb]
  have w_:=Bd.elem hsl hb'
  obtain⟨ad,p,hel,hr⟩:=w_
  have hto:=Bd.toV hr
  rw[cB hb]at he
  refine eIn hel ?_
  intro r2
  refine ifd (fun h2=>?_) (fun h2=>?_)
  ·have h2 : b.var = n := h2
   have e2:sub bs n=some b.to:=by rw[he,sub,if_pos h2]
   rw[e2]
   exact rPl ⟨⟨_,rfl,hto⟩,rfl⟩
  ·have h2 : ¬ b.var = n := h2
   have e2:sub bs n=sub (bs.drop (i+1)) n:=by rw[he,sub,if_neg h2]
   exact aC (by omega) (by omega) ⟨i+1,⟨by omega,e2⟩,by omega,⟨⟨rfl,rfl,rfl,rfl,rfl,trivial⟩,⟨rfl,trivial⟩,rfl,rfl⟩⟩
 ·obtain rfl : i = bs.length := by omega
  rw[List.drop_length]at he
  rw[he]
  exact rPl ⟨rfl,rfl⟩
theorem qDl{bs:List B}{base:Option Addr}{cap:Nat}:∀(x:T) {μ:Mem} {v:Value},Sl μ 5 base bs.length ((bs.map B.bd).map Bd.d)→RepV μ x.tm.d v→
  Spec Tryz.prog 153 [.slice base bs.length cap,v] μ fun v μ'=>RepV μ' (x.subst (sub bs)).tm.d v:=by
 intro x
 induction x with
 |var n=>
  intro μ v hsl hv
  have w_:=Tm.invV hv
  obtain⟨p,rfl⟩:=w_
  refine Spec.mk Tryz.func153 (by kernel_rfl) ?_
  intro r1 r2
  refine ifd (fun _=>?_) (fun h=>absurd rfl h)
  refine cPl (qFd hsl) fun v' μ' hle hR=>?_
  obtain⟨hR,e2⟩:=hR
  obtain rfl:=e2.symm
  have hR:optV (fun y tv=>RepV μ y.tm.d tv) (sub bs n) v':=hR
  simp only[T.subst]
  cases hs:sub bs n with
  |some y=>
   rw[hs]at hR
   obtain⟨tv,rfl,htv⟩:=hR
   have w_:=Tm.invV htv
   obtain⟨q,rfl⟩:=w_
   intro r3
   refine iIn (fun _=>rPl htv) (fun h=>nomatch h)
  |none=>
   rw[hs]at hR
   obtain rfl:=hR
   intro r3
   refine iIn (fun h=>nomatch h) (fun _=>?_)
   refine ifd (fun h=>absurd h (by simp[T.tm,Tm.kind])) (fun _=>?_)
   exact rPl hv
 |pair a b iha ihb=>
  intro μ v hsl hv
  have w_:=Tm.inv hv
  obtain⟨base',cap',rfl,hsa⟩:=w_
  have w_:=T.parts hsa
  obtain⟨ad,ad',p,p',h1,h2,hra,hrb⟩:=w_
  refine Spec.mk Tryz.func153 (by kernel_rfl) ?_
  intro r1 r2
  refine ifd (fun h=>absurd h (by simp)) (fun _=>?_)
  refine ifd (fun _=>?_) (fun h=>absurd rfl h)
  refine eIn h1 ?_
  refine eIn h2 ?_
  refine cPl (iha hsl hra) fun v1 μ1 hle1 hR1=>?_
  refine cPl (ihb (hsl.mono hle1) (hrb.mono hle1)) fun v2 μ2 hle2 hR2=>?_
  refine cPl (lB (hR1.mono hle2) hR2) fun v3 μ3 hle3 hR3=>?_
  have w_:=Tm.invV hR3
  obtain⟨q,rfl⟩:=w_
  exact rPl hR3
 |_=>
  intro μ v hsl hv
  have w_:=Tm.invV hv
  obtain⟨p,rfl⟩:=w_
  refine Spec.mk Tryz.func153 (by kernel_rfl) ?_
  intro r1 r2
  refine ifd (fun h=>absurd h (by simp[T.tm,Tm.kind])) (fun _=>?_)
  refine ifd (fun h=>absurd h (by simp[T.tm,Tm.kind])) (fun _=>?_)
  exact rPl hv
end
end Go.Vx
namespace Go.Vx
open Go.Proofs Classical
theorem T.d_eq(x:T):x.tm.d= .st [.i x.tm.kind,.i x.tm.num,.s x.tm.name,.sl 4 ((x.args.map T.tm).map Tm.d)]:=by
 rw[Tm.d_eq,T.tm_args]
theorem T.inv{μ:Mem}{x:T}{w:Value}(hw:RepV μ x.tm.d w):∃base cap,w= .agg #[.int .i64 x.tm.kind,.int .i64 x.tm.num,.string x.tm.name,.slice base x.args.length cap]∧Sl μ 4 base x.args.length ((x.args.map T.tm).map Tm.d):=by
 have h1:=Tm.inv (k:=x.tm.kind) (n:=x.tm.num) (s:=x.tm.name) (l:=x.tm.args) (v:=w) (by cases x<;>exact hw)
 rw[T.tm_args,List.length_map]at h1
 exact h1
theorem T.args_le(x:T):x.args.length≤2:=by cases x<;>simp[T.args]
theorem pY:∀(x:T) {μ:Mem} {v:Value},RepV μ x.tm.d v→Spec Tryz.prog 126 [v] μ fun v μ'=>RepV μ' x.tm.d v:=
 T.ind fun x ih μ v hv=>by
  have w_:=T.inv hv
  obtain⟨base,cap,rfl,hsl⟩:=w_
  have hn:=T.args_le x
  refine Spec.mk Tryz.func126 (by kernel_rfl) ?_
  intro r1 r2 r3
  refine bS (fun p:Nat×Option Nat×Nat×List Value×Mem=>p.1≤x.args.length∧μ.Le p.2.2.2.2∧Rows p.2.2.2.2 4 (((x.args.take p.1).map T.tm).map Tm.d) p.2.2.2.1)
   (fun (i, b, c, ys, μ') => ⟨[(2, .loc 1 r2 0), (3, .loc 2 r3 0), (14, .val (.slice base x.args.length cap)), (15, .val (.int .i64 x.args.length)), (16, .val (.int .i64 i))],
    [(1,some (.cells r2 [.val (.int .i64 0),.val (.int .i64 0),.val (.string ⟨#[]⟩),.val (.slice none 0 0)] 57)),(2,some (.cells r3 [.val (.int .i64 x.tm.kind),.val (.int .i64 x.tm.num),.val (.string x.tm.name),.row 3 b ys.length c] 57)),(3,some (.row b c 57 4 ys))],4,μ',Mem.nil⟩) (fun p=>x.args.length-p.1)
   (0,none,0,[],μ) ⟨by simp,Mem.Le.refl μ,.nil⟩ (fun(_,_,_,_,_)=>⟨rfl,rfl⟩) ⟨⟨⟨_,rfl,.inl rfl⟩,⟨_,rfl,.inl rfl⟩,⟨_,rfl,.inl rfl⟩,⟨_,rfl,.inl rfl⟩,⟨_,rfl,.inl rfl⟩,trivial⟩,⟨.inl rfl,.inr (.inr ⟨_,_,_,_,rfl,rfl,.inl rfl,.inl rfl,.inl rfl,.inr ⟨3,rfl,rfl,Nat.le_refl _⟩,trivial⟩),.inr (.inl ⟨_,_,rfl,Nat.le_refl _⟩),trivial⟩,rfl,rfl⟩ ?_
  rintro⟨i,b,c,ys,μ'⟩ ⟨hi,hle,hrows⟩
  dsimp only at hi hle hrows
  have hlen:=hrows.len
  simp only[List.length_map,List.length_take]at hlen
  refine ifd (fun h=>?_) (fun h=>?_)
  ·have w_ := aSo (l := x.args) (i := i) (by omega)
   obtain⟨t,ht⟩:=w_
   have ht':(x.args.map T.tm)[i]? =some t.tm:=by simp[ht]
   have w_:=Tm.elem (hsl.mono hle) ht'
   obtain⟨ad,p,hel,hr⟩:=w_
   refine eIn hel ?_
   intro r4
   refine cPl (ih t (mAt ht) hr) fun v' μ'' hle2 hR=>?_
   have w_:=Tm.invV hR
   obtain⟨q,rfl⟩:=w_
   intro r5
   refine gIn ?_ ?_ fun b' c' _=>?_
   ·show(ys.length+1)*56≤_;omega
   ·show ys.length+1≤9223372036854775807;omega
   have hsucc:((x.args.take (i+1)).map T.tm).map Tm.d=((x.args.take i).map T.tm).map Tm.d++[t.tm.d]:=by
    rw[List.take_add_one,ht,Option.toList_some];simp
   exact aC (by omega) (by omega) ⟨(i+1,b',c',_,μ''),⟨by dsimp only;omega,hle.trans hle2,by rw[hsucc];exact(hrows.mono hle2).append (Rows.one hR (Tm.d_n _))⟩,by dsimp only;omega,⟨⟨rfl,rfl,rfl,rfl,rfl,trivial⟩,⟨rfl,rfl,rfl,trivial⟩,rfl,rfl⟩⟩
  ·obtain rfl : i = x.args.length := by omega
   rw[List.take_length]at hrows
   refine rFz [3] fun μ2 hle2 hno hrow=> .inl ?_
   rw[T.d_eq]
   exact⟨_,rfl,RepS.int (RepS.int (RepS.str (RepS.last (Rows.sl hrow (hrows.mono hle2) (Nat.le_trans (m:=10) (by omega) (by decide))))))⟩
end Go.Vx
namespace Go.Vx
open Go.Proofs Classical
section
variable {μ:Mem}
theorem B.elem{bs:List B}{base:Option Addr}{n:Nat}(h:Sl μ 5 base n ((bs.map B.bd).map Bd.d)){i:Nat}{b:B}(hb:bs[i]? =some b):∃ad,∃p:Option Addr×Nat,ElemAt μ base n 5 i ad (b.bd.cs p)∧RepV μ b.to.tm.d (.agg (b.to.tm.cs p).toArray):=by
 have hb':(bs.map B.bd)[i]? =some b.bd:=by simp[hb]
 have w_:=Bd.elem h hb'
 obtain⟨ad,p,h1,h2⟩:=w_
 exact⟨ad,p,h1,Bd.toV h2⟩
end
end Go.Vx
