/- Texts of the proof, part M2. -/
import Derived.Carry
import Derived.ChangeArms
import Derived.ChangeOld
import Derived.Deep.RegionHeld3
import Derived.Handed
import Derived.JoinedOf
import Derived.KernelRfl
import Derived.OpenShut
import Derived.ProofKit
import Derived.RowKit3
import Derived.Sort.AssemblyPlain
import Derived.Test.YtnogdfionomoaaaGreatChecked
import Derived.WalkKit
import Derived.Test.YtnogdfionomoaaaGreatM1
namespace Go.Vx
section
variable {C:Cx} {E:Ent} {s:St} {a:Act} {w:World}
theorem qEs{P:Program}{c:Code}{Q:Exit→Act→World→Prop}{ι:Type}(I:ι→Act→World→Prop)(m:ι→Nat)
  (round:∀i a w,I i a w→c.wp P (Exit.then (fun a' w'=>∃i',m i'<m i∧I i' a' w') Q) a w):∀i a w,I i a w→(Code.loop c).wp P Q a w:=by
 intro i0 a0 w0 h0 b k cs
 have key:∀n i a w,m i=n→I i a w→
   ∃e a' w',Q e a' w'∧Arrives P (lone (b.at a (.code c:: .inLoop c::k)) cs w) b k cs e a' w':=by
  intro n
  induction n using Nat.strongRecOn with
  |_ n ih=>
   intro i a w hn hI
   obtain⟨e,a₁,w₁,hq,harr⟩:=round i a w hI b (.inLoop c::k) cs
   cases e with
   |normal=>
    obtain⟨i',hlt,hI₁⟩:=hq
    obtain⟨e₂,a₂,w₂,hq₂,harr₂⟩:=ih (m i') (hn ▸ hlt) i' a₁ w₁ rfl hI₁
    exact⟨e₂,a₂,w₂,hq₂,.of_steps (Steps.trans harr (.one step_inLoop)) harr₂⟩
   |exit id=>exact⟨_,a₁,w₁,hq,.pass (x:= .inLoop c) rfl (fun _ _=> .inl (by simp)) harr⟩
   |goto l=>exact⟨_,a₁,w₁,hq,.pass (x:= .inLoop c) rfl (fun _ _=> .inl (by simp)) harr⟩
   |ret=>exact⟨_,a₁,w₁,hq,.pass (x:= .inLoop c) rfl (fun _ _=> .inl (by simp)) harr⟩
   |panic ch=>exact⟨_,a₁,w₁,hq,.pass (x:= .inLoop c) rfl (fun _ _=> .inl (by simp)) harr⟩
   |outgrown=>exact⟨_,a₁,w₁,hq,.pass (x:= .inLoop c) rfl (fun _ _=> .inl (by simp)) harr⟩
 obtain⟨e,a',w',hq,harr⟩:=key _ i0 a0 w0 rfl h0
 exact⟨e,a',w',hq,.of_steps (.one step_loop) harr⟩
theorem SV.gen_cases{x y:SV}(h:x.gen=y.gen):x=y∨((∃b,x= .val (.bool b)∨x= .kn b)∧(∃b,y= .val (.bool b)∨y= .kn b)∧x.conc=y.conc):=by
 cases x<;>cases y<;>simp only[SV.gen]at h<;>first
  |exact .inl h
  |(cases h;exact .inr ⟨⟨_,.inl rfl⟩,⟨_,.inr rfl⟩,rfl⟩)
  |(cases h;exact .inr ⟨⟨_,.inr rfl⟩,⟨_,.inl rfl⟩,rfl⟩)
  |(cases h;exact .inl rfl)
  |cases h
theorem SV.gen_conc{x y:SV}(h:x.gen=y.gen):x.conc=y.conc:=by
 rcases SV.gen_cases h with rfl|⟨_,_,h⟩
 ·rfl
 ·exact h
theorem qMo:∀{l r:List SV},l.map SV.gen=r.map SV.gen→l.map SV.conc=r.map SV.conc
 |[],[],_=>rfl
 |a::l,b::r,h=>by
  simp only[List.map_cons,List.cons.injEq]at h ⊢
  exact⟨SV.gen_conc h.1,qMo h.2⟩
 |[],_::_,h=>by simp at h
 |_::_,[],h=>by simp at h
theorem qPp:∀{l r:List SV},l.map SV.gen=r.map SV.gen→∀sv∈r,∃sv'∈l,sv'.gen=sv.gen
 |[],[],_,sv,h=>by cases h
 |a::l,b::r,h,sv,hm=>by
  simp only[List.map_cons,List.cons.injEq]at h
  rcases List.mem_cons.1 hm with rfl|hm
  ·exact⟨a,by simp,h.1⟩
  ·obtain ⟨x, hx, hx'⟩ := qPp h.2 sv hm
   exact⟨x,by simp[hx],hx'⟩
 |[],_::_,h,_,_=>by simp at h
 |_::_,[],_,sv,hm=>by cases hm
theorem LB.gen_cases{x y:LB}(h:x.gen=y.gen):x=y∨∃r cs cs' ty,x= .cells r cs ty∧y= .cells r cs' ty∧cs.map SV.gen=cs'.map SV.gen:=by
 cases x<;>cases y<;>simp only[LB.gen]at h<;>first
  |exact .inl h
  |(cases h;done)
  |(simp only[LB.cells.injEq]at h;obtain⟨rfl,h2,rfl⟩:=h;exact .inr ⟨_,_,_,_,rfl,rfl,h2⟩)
theorem SubE.get:∀{l' l:List (Nat×SV)},SubE l' l→∀{i sv},eW l i=some sv→∃sv',eW l' i=some sv'∧sv'.gen=sv.gen
 |_,[],_,_,_,h=>by cases h
 |l',(j,x)::r,⟨h1,h2⟩,i,sv,h=>by
  rw[bO]at h
  split at h
  ·rename_i e;subst e;cases h;exact Option.map_eq_some_iff.1 h1
  ·exact h2.get h
theorem SubB.get{s':St}:∀{l:List (Nat×Option LB)},SubB s' l→∀{t lb},eW l t=some (some lb)→∃lb',s'.lb t=some lb'∧lb'.gen=lb.gen
 |[],_,_,_,h=>by cases h
 |(j,some x)::r,⟨h1,h2⟩,t,lb,h=>by
  rw[bO]at h
  split at h
  ·rename_i e;subst e;cases h;exact Option.map_eq_some_iff.1 h1
  ·exact h2.get h
 |(j,none)::r,h2,t,lb,h=>by
  rw[bO]at h
  split at h
  ·cases h
  ·exact SubB.get (l:=r) h2 h
theorem qCg:∀{n:Nat} {l:List (Nat×SV)},gN n l=true→∀{i sv},eW l i=some sv→iT n sv=true
 |_,[],_,_,_,h=>by cases h
 |n,(j,x)::r,hs,i,sv,h=>by
  simp only[gN]at hs
  split at hs
  ·rename_i hx
   rw[bO]at h
   split at h
   ·cases h;exact hx
   ·exact qCg hs h
  ·cases hs
theorem qIf:∀{n:Nat} {l:List SV},qIx n l=true→∀sv∈l,iT n sv=true
 |_,[],_,_,h=>by cases h
 |n,x::r,hs,sv,h=>by
  simp only[qIx]at hs
  split at hs
  ·rename_i hx
   rcases List.mem_cons.1 h with rfl|h
   ·exact hx
   ·exact qIf hs sv h
  ·cases hs
theorem lJ:∀{n:Nat} {l:List (Nat×Option LB)},fE n l=true→∀{t lb},eW l t=some (some lb)→t<n∧∀r cs ty,lb= .cells r cs ty→∀sv∈cs,iT n sv=true
 |_,[],_,_,_,h=>by cases h
 |n,(j,x)::l,hs,t,lb,h=>by
  rw[bO]at h
  cases x with
  |none=>
   simp only[fE]at hs
   split at hs
   ·split at h
    ·cases h
    ·exact lJ hs h
   ·cases hs
  |some y=>
   cases y with
   |cells r cs ty=>
    simp only[fE]at hs
    split at hs
    ·rename_i h1 h2
     split at h
     ·rename_i e
      cases h
      refine⟨by rw[e];simpa[Nat.blt_eq]using h1,fun r' cs' ty' e=>?_⟩
      cases e
      exact qIf h2
     ·exact lJ hs h
    ·cases hs
   |row b c t' es xs=>
    simp only[fE]at hs
    split at hs
    ·rename_i h1
     split at h
     ·rename_i e
      cases h
      exact⟨by rw[e];simpa[Nat.blt_eq]using h1,fun _ _ _ e=>by cases e⟩
     ·exact lJ hs h
    ·cases hs
   |map r en ck=>
    simp only[fE]at hs
    split at hs
    ·rename_i h1
     split at h
     ·rename_i e
      cases h
      exact⟨by rw[e];simpa[Nat.blt_eq]using h1,fun _ _ _ e=>by cases e⟩
     ·exact lJ hs h
    ·cases hs
theorem Rel.sub{s':St}(hR:Rel E a w s')(hs:s'.Sub s)(h1:gN s.nxt s.env=true)(h2:fE s.nxt s.blk=true):Rel E a w s:=by
 have hl:∀{t lb},s.lb t=some lb→∃lb',s'.lb t=some lb'∧lb'.gen=lb.gen:=fun h=>hs.blk.get (qAa h)
 have hok:∀sv' sv,sv'.gen=sv.gen→iT s.nxt sv=true→dN s' sv'→dN s sv:=fun sv' sv hg ht h=>by
  rcases SV.gen_cases hg with rfl|⟨_,⟨b,rfl|rfl⟩,_⟩
  ·cases sv' with
   |loc t r off=>
    refine⟨by simpa[iT,Nat.blt_eq]using ht,fun lb hlb=>?_⟩
    obtain⟨lb',g1,g2⟩:=hl hlb
    obtain⟨cs,ty,rfl⟩:=h.2 lb' g1
    rcases LB.gen_cases g2 with rfl|⟨_,_,_,_,e1,rfl,_⟩
    ·exact⟨_,_,rfl⟩
    ·cases e1;exact⟨_,_,rfl⟩
   |row t b n c=>
    refine⟨by simpa[iT,Nat.blt_eq]using ht,fun lb hlb=>?_⟩
    obtain⟨lb',g1,g2⟩:=hl hlb
    obtain⟨ty,es,xs,rfl,e⟩:=h.2 lb' g1
    rcases LB.gen_cases g2 with rfl|⟨_,_,_,_,e1,_,_⟩
    ·exact⟨_,_,_,rfl,e⟩
    ·cases e1
   |rel t b e i o=>
    refine⟨by simpa[iT,Nat.blt_eq]using ht,fun lb hlb=>?_⟩
    obtain⟨lb',g1,g2⟩:=hl hlb
    obtain⟨cap,ty,xs,rfl,e⟩:=h.2 lb' g1
    rcases LB.gen_cases g2 with rfl|⟨_,_,_,_,e1,_,_⟩
    ·exact⟨_,_,_,rfl,e⟩
    ·cases e1
   |elem ad cs off=>intro j v hj;rw[←hs.mem];exact h j v hj
   |val v=>trivial
   |kn b=>trivial
  ·trivial
  ·trivial
 have hblk:∀{t lb},s.lb t=some lb→∃lb',s'.lb t=some lb'∧lb'.blk? =lb.blk?∧(lb'.fits (fun b=>w.heap[b]?)→lb.fits (fun b=>w.heap[b]?)):=fun {t lb} h=>by
  obtain⟨lb',g1,g2⟩:=hl h
  rcases LB.gen_cases g2 with rfl|⟨r,cs,cs',ty,rfl,rfl,g⟩
  ·exact⟨_,g1,rfl,id⟩
  ·refine ⟨_, g1, rfl, fun hf => ?_⟩
   simp only[LB.fits,qMo g]at hf ⊢
   exact hf
 refine⟨hR.defers,hR.size,fun i sv h=>?_,fun t r cs ty h sv hsv=>?_,⟨by rw[←hs.mem];exact hR.sees.1,fun t lb h=>?_⟩,fun t lb h=>(lJ h2 (qAa h)).1,fun t lb r h hr=>?_,fun t t' lb lb' r h h' hr hr'=>?_,by rw[←hs.own,←hs.mem];exact hR.own,by rw[←hs.mem];exact hR.mono,by rw[←hs.mem];exact hR.fresh,hR.grow,hR.keep,hR.os,hR.tape,hR.output⟩
 ·obtain ⟨sv', g1, g2⟩ := hs.env.get h
  obtain⟨h3,h4⟩:=hR.env i sv' g1
  exact⟨by rw[←SV.gen_conc g2];exact h3,hok sv' sv g2 (qCg h1 h) h4⟩
 ·have hb := (lJ h2 (qAa h)).2 r cs ty rfl sv hsv
  obtain⟨lb',g1,g2⟩:=hl h
  rcases LB.gen_cases g2 with rfl|⟨_,cs',_,_,rfl,e,g⟩
  ·exact hok sv sv rfl hb (hR.cells t r cs ty g1 sv hsv)
  ·cases e
   obtain⟨sv',hm,hn⟩:=qPp g sv hsv
   exact hok sv' sv hn hb (hR.cells t _ cs' _ g1 sv' hm)
 ·obtain ⟨lb', g1, _, g3⟩ := hblk h
  exact g3 (hR.sees.2 t lb' g1)
 ·rw [← hs.mem, ← hs.own]
  obtain⟨lb',g1,g2,_⟩:=hblk h
  exact hR.place t lb' r g1 (by rw[g2];exact hr)
 ·obtain ⟨l1, g1, g2, _⟩ := hblk h
  obtain⟨l3,g3,g4,_⟩:=hblk h'
  exact hR.sep t t' l1 l3 r g1 g3 (by rw[g2];exact hr) (by rw[g4];exact hr')
theorem SubEN.get{n:Nat}:∀{l' l:List (Nat×SV)},SubEN n l' l→∀{i sv},eW l i=some sv→∃sv',eW l' i=some sv'∧NilAs n sv' sv
 |_,[],_,_,_,h=>by cases h
 |l',(j,x)::r,⟨h1,h2⟩,i,sv,h=>by
  rw[bO]at h
  split at h
  ·rename_i e;subst e;cases h;exact h1
  ·exact h2.get h
theorem SubBN.get{s':St}:∀{l:List (Nat×Option LB)},SubBN s' l→∀{t lb},eW l t=some (some lb)→
  s'.lb t=some lb∨(∃ty es,lb= .row none 0 ty es []∧s'.nxt≤t)∨∃b cs cs' ty,lb= .cells b cs ty∧s'.lb t=some (.cells b cs' ty)∧NilC s'.nxt cs' cs
 |[],_,_,_,h=>by cases h
 |(j,some x)::r,⟨h1,h2⟩,t,lb,h=>by
  rw[bO]at h
  split at h
  ·rename_i e;subst e;cases h;exact h1
  ·exact h2.get h
 |(j,none)::r,h2,t,lb,h=>by
  rw[bO]at h
  split at h
  ·cases h
  ·exact SubBN.get (l:=r) h2 h
theorem NilAs.conc{n:Nat}{sv' sv:SV}(h:NilAs n sv' sv):sv'.conc=sv.conc:=by
 rcases h with h|⟨t,rfl,rfl,_⟩
 ·exact SV.gen_conc h
 ·rfl
theorem NilC.conc{n:Nat}:∀{l r:List SV},NilC n l r→l.map SV.conc=r.map SV.conc
 |[],[],_=>rfl
 |a::l,b::r,h=>by simp[h.1.conc,NilC.conc h.2]
theorem NilC.mem{n:Nat}:∀{l r:List SV},NilC n l r→∀sv∈r,∃sv'∈l,NilAs n sv' sv
 |[],[],_,sv,h=>by cases h
 |a::l,b::r,h,sv,hm=>by
  rcases List.mem_cons.1 hm with rfl|hm
  ·exact⟨a,by simp,h.1⟩
  ·obtain ⟨x, hx, hx'⟩ := NilC.mem h.2 sv hm
   exact⟨x,by simp[hx],hx'⟩
theorem Rel.subN{s':St}(hR:Rel E a w s')(hs:s'.SubN s)(h1:gN s.nxt s.env=true)(h2:fE s.nxt s.blk=true):Rel E a w s:=by
 have hl:∀{t lb},s.lb t=some lb→_:=fun {t lb} h=>hs.blk.get (qAa h)
 have hok:∀sv' sv,NilAs s'.nxt sv' sv→iT s.nxt sv=true→dN s' sv'→dN s sv:=fun sv' sv hn ht h=>by
  rcases hn with hn|⟨t,rfl,rfl,hge⟩
  ·rcases SV.gen_cases hn with rfl | ⟨_, ⟨b, rfl | rfl⟩, _⟩
   rotate_left
   ·trivial
   ·trivial
   cases sv' with
   |loc t r off=>
    refine⟨by simpa[iT,Nat.blt_eq]using ht,fun lb hlb=>?_⟩
    rcases hl hlb with g|⟨ty,es,rfl,hge⟩|⟨b,cs,cs',ty,rfl,g,_⟩
    ·exact h.2 lb g
    ·have:=h.1;omega
    ·obtain ⟨_, _, e⟩ := h.2 _ g
     cases e
     exact⟨_,_,rfl⟩
   |row t b n c=>
    refine⟨by simpa[iT,Nat.blt_eq]using ht,fun lb hlb=>?_⟩
    rcases hl hlb with g|⟨ty,es,rfl,hge⟩|⟨b,cs,cs',ty,rfl,g,_⟩
    ·exact h.2 lb g
    ·have:=h.1;omega
    ·obtain ⟨_, _, _, e, _⟩ := h.2 _ g
     cases e
   |rel t b e i o=>
    refine⟨by simpa[iT,Nat.blt_eq]using ht,fun lb hlb=>?_⟩
    rcases hl hlb with g|⟨ty,es,rfl,hge⟩|⟨b,cs,cs',ty,rfl,g,_⟩
    ·exact h.2 lb g
    ·have:=h.1;omega
    ·obtain ⟨_, _, _, e, _⟩ := h.2 _ g
     cases e
   |elem ad cs off=>intro j v hj;rw[←hs.mem];exact h j v hj
   |val v=>trivial
   |kn b=>trivial
  ·refine ⟨by simpa [iT, Nat.blt_eq] using ht, fun lb hlb => ?_⟩
   rcases hl hlb with g|⟨ty,es,rfl,_⟩|⟨b,cs,cs',ty,rfl,g,_⟩
   ·have:=hR.nxt _ _ g;omega
   ·exact⟨_,_,_,rfl,rfl⟩
   ·have:=hR.nxt _ _ g;omega
 have hblk:∀{t lb},s.lb t=some lb→(∃lb',s'.lb t=some lb'∧lb'.blk? =lb.blk?∧(lb'.fits (fun b=>w.heap[b]?)→lb.fits (fun b=>w.heap[b]?)))∨(lb.blk? =none∧lb.fits (fun b=>w.heap[b]?)):=fun {t lb} h=>by
  rcases hl h with g|⟨ty,es,rfl,hge⟩|⟨b,cs,cs',ty,rfl,g,hc⟩
  ·exact .inl ⟨lb,g,rfl,id⟩
  ·exact .inr ⟨rfl,rfl,rfl⟩
  ·refine .inl ⟨_, g, rfl, fun hf => ?_⟩
   simp only[LB.fits,hc.conc]at hf ⊢
   exact hf
 refine⟨hR.defers,hR.size,fun i sv h=>?_,fun t r cs ty h sv hsv=>?_,⟨by rw[←hs.mem];exact hR.sees.1,fun t lb h=>?_⟩,fun t lb h=>(lJ h2 (qAa h)).1,fun t lb r h hr=>?_,fun t t' lb lb' r h h' hr hr'=>?_,by rw[←hs.own,←hs.mem];exact hR.own,by rw[←hs.mem];exact hR.mono,by rw[←hs.mem];exact hR.fresh,hR.grow,hR.keep,hR.os,hR.tape,hR.output⟩
 ·obtain ⟨sv', g1, g2⟩ := hs.env.get h
  obtain⟨h3,h4⟩:=hR.env i sv' g1
  exact⟨by rw[←g2.conc];exact h3,hok sv' sv g2 (qCg h1 h) h4⟩
 ·have hb := (lJ h2 (qAa h)).2 r cs ty rfl sv hsv
  rcases hl h with g|⟨_,_,e,_⟩|⟨b,cs1,cs',ty',e,g,hc⟩
  ·exact hok sv sv (.inl rfl) hb (hR.cells t r cs ty g sv hsv)
  ·cases e
  ·cases e
   obtain⟨sv',hm,hn⟩:=hc.mem sv hsv
   exact hok sv' sv hn hb (hR.cells t _ cs' _ g sv' hm)
 ·rcases hblk h with ⟨lb', g1, _, g3⟩ | ⟨_, g⟩
  ·exact g3 (hR.sees.2 t lb' g1)
  ·exact g
 ·rw [← hs.mem, ← hs.own]
  rcases hblk h with⟨lb',g1,g2,_⟩|⟨g,_⟩
  ·exact hR.place t lb' r g1 (by rw[g2];exact hr)
  ·rw[g]at hr;cases hr
 ·rcases hblk h with ⟨l1, g1, g2, _⟩ | ⟨g, _⟩
  ·rcases hblk h' with ⟨l3, g3, g4, _⟩ | ⟨g, _⟩
   ·exact hR.sep t t' l1 l3 r g1 g3 (by rw[g2];exact hr) (by rw[g4];exact hr')
   ·rw[g]at hr';cases hr'
  ·rw[g]at hr;cases hr
def Ex.out:Ex→Exit
 | .normal=> .normal
 | .ret=> .ret
 | .exit id=> .exit id
theorem qHu:∀(fz:List Nat) {s:St} {K:St→Prop},Rel E a w s→jB fz s K→∃s',K s'∧Rel E a w s'
 |[],s,K,hR,h=>⟨s,h,hR⟩
 |t::ts,s,K,hR,h=>by
  simp only[jB,qPj]at h
  exact qHu ts (hR.fade t) h
theorem zO(fz:List Nat){s:St}{K:St→Prop}(hR:Rel E a w s)(h:eG fz s fun s=>jB fz s K):∃s',K s'∧Rel E a w s':=by
 obtain⟨s1,g1,g2,_⟩:=oC fz s _ hR h
 exact qHu fz g2 g1
theorem qOs(htt:TTok C.P C.tt)(hn:C.n=E.n)(hos:C.dr=true→C.os=[])
  (draws:∀{ops:Array Oper} {id:Nat} {s:St} {a:Act} {w:World} {K:St→Prop} {Q:Exit→Act→World→Prop},Rel E a w s→qSk C ops.toList s K→(∀a' w' s',K s'→Rel E a' w' s'→Q .normal a' w')→(Code.region id ops true).wp C.P Q a w):
  ∀(c:Code) {s:St} {a:Act} {w:World} {K:Ex→St→Prop} {Q:Exit→Act→World→Prop},Rel E a w s→qLg C c s K→(∀e s' a' w',K e s'→Rel E a' w' s'→Q e.out a' w')→c.wp C.P Q a w:=by
 intro c
 induction c with
 |skip=>intro s a w K Q hR h hK;exact wp_skip (hK .normal s a w h hR)
 |ret=>intro s a w K Q hR h hK;exact wp_ret (hK .ret s a w h hR)
 |exit id=>intro s a w K Q hR h hK;exact wp_exit (hK (.exit id) s a w h hR)
 |label l=>intro s a w K Q hR h hK;exact wp_label (hK .normal s a w h hR)
 |region id ops draw=>
  intro s a w K Q hR h hK
  cases draw
  ·exact wp_region_list (qAo htt hn hos ops.toList hR h fun a' w' s' hk hR'=>hK .normal s' a' w' hk hR')
  ·exact draws hR h fun a' w' s' hk hR'=>hK .normal s' a' w' hk hR'
 |seq x y ihx ihy=>
  intro s a w K Q hR h hK
  refine wp_seq (ihx hR h fun e s' a' w' hk hR'=>?_)
  cases e with
  |normal=>exact ihy hR' hk hK
  |ret=>exact hK .ret s' a' w' hk hR'
  |exit id=>exact hK (.exit id) s' a' w' hk hR'
 |cond x t e iht ihe=>
  intro s a w K Q hR h hK
  have h:evK s x fun c=>qRb c s (fun s=>qLg C t s K) (fun s=>qLg C e s K):=h
  obtain⟨sv,h1,h2⟩:=bB h
  obtain⟨e1,-⟩:=bF hR.env h1
  unfold qRb at h2
  split at h2
  ·exact wp_cond_true e1 (iht hR h2 hK)
  ·exact wp_cond_false e1 (ihe hR h2 hK)
  ·rcases qVe h2 with ⟨h3, h4⟩ | ⟨fz, h3⟩
   ·exact wp_cond_split e1 (fun hb=>iht hR (h3 hb) hK) (fun hb=>ihe hR (h4 hb) hK)
   ·obtain ⟨s', ⟨h4, h5⟩, hR', _⟩ := oC fz s _ hR h3
    exact wp_cond_split e1 (fun hb=>iht hR' (h4 hb) hK) (fun hb=>ihe hR' (h5 hb) hK)
  ·exact h2.elim
 |block id c ih=>
  intro s a w K Q hR h hK
  refine wp_block (ih hR h fun e s' a' w' hk hR'=>?_)
  cases e with
  |normal=>exact hK .normal s' a' w' hk hR'
  |ret=>exact hK .ret s' a' w' hk hR'
  |exit j=>
   simp only at hk
   simp only[Ex.out,Exit.inBlock]
   split at hk
   ·rename_i hb
    rw[if_pos (Nat.eq_of_beq_eq_true hb)]
    exact hK .normal s' a' w' hk hR'
   ·rename_i hb
    rw[if_neg (fun e=>by subst e;simp at hb)]
    exact hK (.exit j) s' a' w' hk hR'
 |loop c ih=>
  intro s a w K Q hR h hK
  have h:loopVC (fun s K=>qLg C c s K) s K:=h
  rcases qTw h with⟨ι,I,σ,m,i0,h0,h1,h2,h3⟩|⟨ι,I,σ,m,fz,h2,h1,h3⟩|⟨ι,I,σ,m,fz,h2,h1,h3⟩
  ·refine qEs (fun i a w => I i ∧ Rel E a w (σ i)) m (fun i a w hR' => ?_) i0 a w ⟨h0, h2.elim (fun h => hR.sub h (h1 i0).1 (h1 i0).2) fun h => hR.subN h (h1 i0).1 (h1 i0).2⟩
   refine ih hR'.2 (h3 i hR'.1) fun e s' a' w' hk hR''=>?_
   cases e with
   |normal=>
    obtain⟨i',hi,hm,hs⟩:=hk
    exact⟨i',hm,hi,hR''.sub hs (h1 i').1 (h1 i').2⟩
   |ret=>exact hK .ret s' a' w' hk hR''
   |exit id=>exact hK (.exit id) s' a' w' hk hR''
  ·obtain ⟨s1, g1, hR1⟩ := zO fz hR h2
   obtain⟨i0,h0,g2⟩:=g1
   refine qEs (fun i a w=>I i∧Rel E a w (σ i)) m (fun i a w hR'=>?_) i0 a w ⟨h0,hR1.sub g2 (h1 i0).1 (h1 i0).2⟩
   refine ih hR'.2 (h3 i hR'.1) fun e s' a' w' hk hR''=>?_
   cases e with
   |normal=>
    obtain⟨fz2,hk⟩:=hk
    obtain⟨s2,⟨i',hi,hm,hs⟩,hR2⟩:=zO fz2 hR'' hk
    exact⟨i',hm,hi,hR2.sub hs (h1 i').1 (h1 i').2⟩
   |ret=>exact hK .ret s' a' w' hk hR''
   |exit id=>exact hK (.exit id) s' a' w' hk hR''
  ·obtain ⟨s1, g1, hR1⟩ := zO fz hR h2
   obtain⟨i0,h0,g2⟩:=g1
   refine qEs (fun i a w=>I i∧Rel E a w (σ i)) m (fun i a w hR'=>?_) i0 a w ⟨h0,hR1.subN g2 (h1 i0).1 (h1 i0).2⟩
   refine ih hR'.2 (h3 i hR'.1) fun e s' a' w' hk hR''=>?_
   cases e with
   |normal=>
    obtain⟨fz2,hk⟩:=hk
    obtain⟨s2,⟨i',hi,hm,hs⟩,hR2⟩:=zO fz2 hR'' hk
    exact⟨i',hm,hi,hR2.sub hs (h1 i').1 (h1 i').2⟩
   |ret=>exact hK .ret s' a' w' hk hR''
   |exit id=>exact hK (.exit id) s' a' w' hk hR''
 |rangeFunc=>intro s a w K Q hR h hK;exact h.elim
 |scope=>intro s a w K Q hR h hK;exact h.elim
 |goto=>intro s a w K Q hR h hK;exact h.elim
 |refuse=>intro s a w K Q hR h hK;exact h.elim
end
end Go.Vx
namespace Go.Vx
section
variable {P:Program} {ops:Array Oper} {Q:Exit→Act→World→Prop} {S:Array Bool→World→Prop}
def Closed(ops:Array Oper)(L:Array Bool):Prop:=∀x o,ops[x]? =some o→L.getD x true=true→∀e∈o.after,Region.binds .any e=true→L.getD e.on true=true
def qUu(P:Program)(ops:Array Oper)(Q:Exit→Act→World→Prop)(S:Array Bool→World→Prop):Nat→Array Bool→Act→World→Prop
 |0,L,a,w=>Region.ready .any ops L=[]∧Q .normal a w
 |n+1,L,a,w=>(Region.ready .any ops L=[]→Q .normal a w)∧∀i∈Region.ready .any ops L,wpOp P ops Q i (fun a' w'=>S (L.setIfInBounds i true) w'∧qUu P ops Q S n (L.setIfInBounds i true) a' w') a w
theorem qPc:∀(n:Nat) (L:Array Bool) (a:Act) (w:World),qUu P ops Q S n L a w→wpAny P .any ops Q n L a w
 |0,_,_,_,h=>h
 |n+1,_,_,_,h=>⟨h.1,fun i hi=>wpOp_mono (fun a' w' h'=>qPc n _ a' w' h'.2) (h.2 i hi)⟩
def Pend(ops:Array Oper)(S:Array Bool→World→Prop)(i:Nat)(w:World):Prop:=∃L:Array Bool,Closed ops L∧L.getD i true=false∧S L w
theorem Closed.set{L:Array Bool}(h:Closed ops L){i:Nat}(hi:i∈Region.ready .any ops L):Closed ops (L.setIfInBounds i true):=by
 obtain⟨h0,o,ho,hall⟩:=mem_ready.1 hi
 have up:∀k,L.getD k true=true→(L.setIfInBounds i true).getD k true=true:=fun k hk=>by
  by_cases e:i=k
  ·subst e;rw[h0]at hk;cases hk
  ·rw[getD_set_ne true e];exact hk
 intro x ox hx hl e he hb
 by_cases hxi:i=x
 ·subst hxi
  rw[ho]at hx
  cases hx
  have h1:=hall e he hb
  refine up _ ?_
  rcases Nat.lt_or_ge e.on L.size with h'|h'
  ·simp[h']at h1 ⊢;exact h1
  ·simp[Array.getElem?_eq_none h']at h1
 ·rw [getD_set_ne true hxi] at hl
  exact up _ (h x ox hx hl e he hb)
theorem qJc{i:Nat}{oi:Oper}{v:Value}(hi:ops[i]? =some oi)(hsel:∀(j:Nat) (o:Oper) cs b,ops[j]? =some o→o.op≠.select cs b)
  (hQ:∀c a w,Q (.panic c) (a.put oi.dst v) w→Q (.panic c) a w) (hS:∀L w,S (L.setIfInBounds i true) w↔S L w):
  ∀(n:Nat) (L:Array Bool) (a:Act) (w:World),
   (∀j oj,ops[j]? =some oj→j≠i→L.getD j true=false→(∀e∈oj.after,Region.binds .any e=true→e.on≠i)→oi.apart ops oj=true)→
   Closed ops L→i∈Region.ready .any ops L→YieldsIf P ops (Pend ops S i) oi v a→S L w→
   qUu P ops Q S n (L.setIfInBounds i true) (a.put oi.dst v) w→qUu P ops Q S (n+1) L a w:=by
 intro n
 induction n with
 |zero=>
  intro L a w _ hc hr hy hs H
  have hp:Pend ops S i w:=⟨L,hc,(mem_ready.1 hr).1,hs⟩
  refine⟨fun h=>(by rw[h]at hr;cases hr),fun j hj=>?_⟩
  by_cases hji:j=i
  ·subst hji;exact hy.wpOp hi hp ⟨(hS L w).2 hs,H⟩
  ·have := ready_mono hj hji
   rw[H.1]at this
   cases this
 |succ n ih=>
  intro L a w hfree hc hr hy hs H
  have hp:Pend ops S i w:=⟨L,hc,(mem_ready.1 hr).1,hs⟩
  refine⟨fun h=>(by rw[h]at hr;cases hr),fun j hj=>?_⟩
  by_cases hji:j=i
  ·subst hji;exact hy.wpOp hi hp ⟨(hS L w).2 hs,H⟩
  ·have h1 := H.2 j (ready_mono hj hji)
   obtain⟨hjun,oj,hoj,hall⟩:=mem_ready.1 hj
   have hnot:∀e∈oj.after,Region.binds .any e=true→e.on≠i:=fun e he hb heq=>by
    have h1:=hall e he hb
    have h0:=(mem_ready.1 hr).1
    rw[heq]at h1
    rcases Nat.lt_or_ge i L.size with h'|h'
    ·simp[h']at h0 h1;rw[h0]at h1;cases h1
    ·simp[Array.getElem?_eq_none h']at h1
   have h2:=wpOp_putIf hoj (hfree j oj hoj hji hjun hnot) (fun cs b=>hsel i oi cs b hi) (fun cs b=>hsel j oj cs b hoj) hQ hy h1
   refine wpOp_mono (fun a' w' h3=>?_) h2
   obtain⟨hy',hs',hg⟩:=h3
   rw[Array.setIfInBounds_comm _ _ (Ne.symm hji)]at hs' hg
   have hs'':=(hS _ _).1 hs'
   refine⟨hs'',ih _ a' w' (fun k ok hk hki hun hno=>hfree k ok hk hki ?_ hno) (hc.set hj) (ready_mono hr (Ne.symm hji)) hy' hs'' hg⟩
   by_cases hjk:j=k
   ·subst hjk;exact hjun
   ·rw[getD_set_ne true hjk]at hun;exact hun
end
end Go.Vx
namespace Go.Vx
section
variable {C:Cx} {E:Ent} {s:St} {a:Act} {w:World}
def qKq(tmps:Array Value):ResultVar→Sem Value
 | .tmp t=>pure (tmps.getD t undef)
 | .cell a t=>do loadVar t (←asAddr (tmps.getD a undef))
theorem qEl(htt:TTok C.P C.tt)(hR:Rel E a w s):∀(l:List ResultVar) (K:List Value→Prop),qVp C s l K→
  ∃vs,K vs∧vs.length=l.length∧(l.mapM (qKq a.tmps)).run C.P w= .ok vs w
 |[],K,h=>⟨[],h,rfl,rfl⟩
 | .tmp t::r,K,h=>by
  have h:evK s (.tmp t) fun sv=>wT sv fun v=>qVp C s r fun vs=>K (v::vs):=h
  obtain⟨sv,h1,h2⟩:=bB h
  obtain⟨e1,-⟩:=bF hR.env h1
  rw[lX]at h2
  obtain⟨vs,h3,h4,h5⟩:=qEl htt hR r _ h2
  refine⟨sv.conc::vs,h3,by simp[h4],?_⟩
  have e1:a.tmps.getD t undef=sv.conc:=e1
  simp only[List.mapM_cons,qKq,Sem.run_bind,Sem.run_pure,Result.andThen_ok,h5,e1]
 | .cell x t::r,K,h=>by
  obtain⟨sv,h1,h2⟩:=bB h
  obtain⟨e1,o1⟩:=bF hR.env h1
  have fin:∀(sx:SV) (ad:Addr),dN s sx→sx.conc= .pointer (some ad)→a.tmps.getD x undef=sx.conc→qHy C s t sx (fun sv=>wT sv fun v=>qVp C s r fun vs=>K (v::vs))→
    ∃vs,K vs∧vs.length=(ResultVar.cell x t::r).length∧((ResultVar.cell x t::r).mapM (qKq a.tmps)).run C.P w= .ok vs w:=by
   intro sx ad o1 hc e1 h2
   obtain⟨sv2,h3,h4,h5⟩:=qHz htt hR.cells o1 h2
   rw[lX]at h3
   obtain⟨vs,h6,h7,h8⟩:=qEl htt hR r _ h3
   refine⟨sv2.conc::vs,h6,by simp[h7],?_⟩
   have h9:=h5 w ⟨hR.sees,hR.own.1⟩
   have h9:(loadVar t ad).run C.P w= .ok sv2.conc w:=by
    rw[←h9,hc]
    simp[Instr.loadAt,Instr.sureAddr]
   simp only[List.mapM_cons,qKq,Sem.run_bind,Sem.run_pure,Result.andThen_ok,h8,e1,hc,asAddr,h9]
  split at h2
  ·exact fin _ _ o1 rfl e1 h2
  ·exact fin _ _ o1 rfl e1 h2
  ·exact h2.elim
def qSp(C:Cx):Prop:=∀{E:Ent} (_:C.n=E.n) {ops:Array Oper} {id:Nat} {s:St} {a:Act} {w:World} {K:St→Prop} {Q:Exit→Act→World→Prop},Rel E a w s→qSk C ops.toList s K→(∀a' w' s',K s'→Rel E a' w' s'→Q .normal a' w')→(Code.region id ops true).wp C.P Q a w
theorem Mem.join_get(μ g:Mem)(b:Nat):μ.join g b=match μ b with|some o=>some o|none=>g b:=rfl
theorem qIe(hR:Rel E a w s){v:Value}{R:Value→Mem→Mem→Prop}(h:retVC s v R):∃μ' h',R v μ' h'∧Step E.μ0 E.h0 E.w0 μ' h' w:=by
 obtain⟨s',h2,hR'⟩:∃s',(R v s'.mem s'.own∨∃g k,Parts s'.own g k∧R v (s'.mem.join g) k)∧Rel E a w s':=by
  rcases qVq h with⟨fz,h1⟩|⟨fz,h1⟩
  ·obtain ⟨s', h2, hR', _⟩ := oC fz s _ hR h1
   exact⟨s',h2,hR'⟩
  ·obtain ⟨s', h2, hR', _⟩ := oC fz s _ hR h1
   exact⟨s',h2 fun b hb=>hR'.own_none hb,hR'⟩
 rcases h2 with h2|⟨g,k,hp,h2⟩
 ·exact⟨s'.mem,s'.own,h2,⟨hR'.mono,hR'.sees.1,hR'.own.1,fun b hb=>hR'.own_none hb,hR'.fresh,fun b hb=>(hR'.own.2 b hb).2,hR'.grow,hR'.keep,hR'.os,hR'.tape,hR'.output⟩⟩
 ·have hg:∀b,g b≠none→s'.own b=g b:=fun b hb=>by
   rcases hp b with⟨h,_⟩|⟨_,h⟩
   ·exact h
   ·exact absurd h hb
  have hk:∀b,k b≠none→s'.own b=k b:=fun b hb=>by
   rcases hp b with⟨_,h⟩|⟨h,_⟩
   ·exact absurd h hb
   ·exact h
  have hj:∀b,(s'.mem.join g) b≠none→s'.mem b≠none∨g b≠none:=fun b hb=>by
   rw[Mem.join_get]at hb
   cases hm:s'.mem b with
   |none=>rw[hm]at hb;exact .inr hb
   |some o=>exact .inl (by simp)
  refine⟨_,_,h2,⟨fun b o hb=>?_,fun b o hb=>?_,fun b o hb=>hR'.own.1 b o (by rw[hk b (by simp[hb])];exact hb),fun b hb=>?_,fun b h0 hb=>?_,fun b hb=>(hR'.own.2 b (by rw[hk b hb];exact hb)).2,hR'.grow,hR'.keep,hR'.os,hR'.tape,hR'.output⟩⟩
  ·rw[Mem.join_get,hR'.mono b o hb]
  ·rw [Mem.join_get] at hb
   split at hb
   ·rename_i x hx;cases hb;exact hR'.sees.1 b _ hx
   ·exact hR'.own.1 b o (by rw[hg b (by simp[hb])];exact hb)
  ·rcases hj b hb with h | h
   ·cases hkb : k b with
    |none=>rfl
    |some o=>
     have h1:=hk b (by simp[hkb])
     rw[hkb,hR'.own_none h]at h1
     cases h1
   ·rcases hp b with ⟨_, h'⟩ | ⟨_, h'⟩
    ·exact h'
    ·exact absurd h' h
  ·rcases hj b hb with h | h
   ·exact hR'.fresh b h0 h
   ·exact(hR'.own.2 b (by rw[hg b h];exact h)).2
theorem SpecH.of_vc{P:Program}{tt:List (Nat×TI)}{os:List Nat}{f:FuncId}{fn:Func}{args:List Value}{μ h0:Mem}{R:Value→Mem→Mem→Prop}(htt:TTok P tt)(hdr:∀n,qSp ⟨P,tt,n,os,false⟩)
  (hf:P.funcs[f]? =some fn) (hname:(fn.name== "runtime.NumGoroutine")=false) (h:qIk P tt os fn args μ h0 R):SpecH P f args μ h0 R:=by
 unfold qIk at h
 split at h
 case h_1=>exact h.elim
 rename_i c hc
 obtain⟨hle,h⟩:=qPr h
 obtain⟨hlen,h⟩:=qAb _ _ _ h
 obtain⟨e,h,he⟩:=qJd _ _ _ h
 refine⟨trivial,fun w hm hh hap=> .inl ⟨⟨fn,hf,by simp[hc],hname⟩,calls_of_wp hf hc ?_⟩⟩
 let E:Ent:=⟨w,μ,h0,fn.ntmps⟩
 have hap':∀b,h0 b≠none→μ b=none:=fun b hb=>by
  cases hm:μ b with
  |none=>rfl
  |some o=>exact absurd (hap b (by simp[hm])) hb
 have hR:Rel E {tmps:=args.toArray++Array.replicate (fn.ntmps-args.toArray.size) undef,defers:=[]} w ⟨e,[],0,μ,h0⟩:=by
  refine⟨rfl,by simp[E];omega,fun i sv hi=>?_,fun t r cs ty h=>by simp[St.lb,eW]at h,⟨hm,fun t lb h=>by simp[St.lb,eW]at h⟩,fun t lb h=>by simp[St.lb,eW]at h,fun t lb r h=>by simp[St.lb,eW]at h,fun t t' lb lb' r h=>by simp[St.lb,eW]at h,⟨hh,fun b hb=>⟨hap' b hb,.inr hb⟩⟩,Mem.Le.refl _,fun b h h'=>absurd h h',Nat.le_refl _,fun b _ _=>rfl,rfl,rfl,rfl⟩
  obtain⟨v,rfl,_,hv⟩:=he i sv hi
  refine⟨?_,trivial⟩
  simp only[Nat.sub_zero]at hv
  have hi:i<args.length:=by
   rcases Nat.lt_or_ge i args.length with h|h
   ·exact h
   ·rw[List.getElem?_eq_none h]at hv;cases hv
  simp only[SV.conc]
  rw[Array.getElem?_append_left (by simpa using hi)]
  simpa using hv
 have fin:∀(s':St) (a':Act) (w':World),Rel E a' w' s'→(qVp ⟨P,tt,fn.ntmps,os,false⟩ s' fn.results.toList fun vs=>(match vs with|[v]=>retVC s' v R|vs=>retVC s' (.tuple vs.toArray) R))→
   a'.defers=[]∧∃v,(results fn a'.tmps).run P w'= .ok v w'∧∃v' μ' h',Ending.returned v= .returned v'∧R v' μ' h'∧Step μ h0 w μ' h' w':=by
  intro s' a' w' hR' hk
  refine⟨hR'.defers,?_⟩
  obtain⟨vs,h1,h2,h3⟩:=qEl (C:=⟨P,tt,fn.ntmps,os,false⟩) htt hR' fn.results.toList _ hk
  have hres:(results fn a'.tmps).run P w'= .ok (if h:vs.toArray.size=1 then vs.toArray[0]else .tuple vs.toArray) w':=by
   have e:results fn a'.tmps=(do let vs←fn.results.mapM (qKq a'.tmps);pure (if h:vs.size=1 then vs[0]else .tuple vs)):=by
    unfold results
    congr 1
   rw[e,Array.mapM_eq_mapM_toList]
   simp[h3]
  split at h1
  ·obtain ⟨μ', h', g1, g2⟩ := qIe hR' h1
   exact⟨_,hres,_,μ',h',rfl,by simpa using g1,g2⟩
  ·rename_i hne
   obtain⟨μ',h',g1,g2⟩:=qIe hR' h1
   refine⟨_,hres,_,μ',h',rfl,?_,g2⟩
   have:¬vs.toArray.size=1:=fun h=>by
    match vs,h with
    |[v],_=>exact hne v rfl
    |[],h=>simp at h
    |_::_::_,h=>simp at h
   rw[dif_neg this]
   exact g1
 refine qOs (C:=⟨P,tt,fn.ntmps,os,false⟩) htt rfl (fun h=>nomatch h) (hdr fn.ntmps rfl) c hR h fun e s' a' w' hk hR'=>?_
 cases e with
 |normal=>exact fin s' a' w' hR' hk
 |ret=>exact fin s' a' w' hR' hk
 |exit id=>exact hk.elim
end
end Go.Vx
namespace Go.Vx
inductive Orig (s:St):SV→Prop
 |val (v:Value):Orig s (.val v)
 |kn (b:Bool):Orig s (.kn b)
 |env {i:Nat} {sv:SV} (h:eW s.env i=some sv):Orig s sv
 |cell {t r:Nat} {cs:List SV} {ty:TypeId} {sv:SV} (h:s.lb t=some (.cells r cs ty)) (hm:sv∈cs):Orig s sv
 |locOff {t r o o':Nat} (h:Orig s (.loc t r o)):Orig s (.loc t r o')
 |elemOff {a:Addr} {cs:List Value} {o o':Nat} (h:Orig s (.elem a cs o)):Orig s (.elem a cs o')
 |relOff {t:Nat} {b:Option Nat} {e i o o':Nat} (h:Orig s (.rel t b e i o)):Orig s (.rel t b e i o')
 |elem {a:Addr} {cs:List Value} {o:Nat} (h:∀j v,cs[j]? =some v→s.mem.cell (a.add j)=some v):Orig s (.elem a cs o)
 |rel {t:Nat} {b b':Option Nat} {n c e i o c' e':Nat} {ty:TypeId} {xs:List Value} (h:Orig s (.row t b n c)) (hl:s.lb t=some (.row b' c' ty e' xs)):Orig s (.rel t b e i o)
section
variable {C:Cx} {s:St}
theorem qSu{x:Operand}{sv:SV}(h:ev s x=some sv):Orig s sv:=by
 cases x with
 |tmp t=>exact .env h
 |const v=>simp only[ev]at h;split at h<;>(cases h;first|exact .kn _|exact .val _)
 |global g=>cases h;exact .val _
 |func f=>cases h;exact .val _
theorem qFk{x:Operand}{K:SV→Prop}(h:evK s x K):evK s x fun sv=>K sv∧Orig s sv:=by
 obtain⟨sv,h1,h2⟩:=bB h
 unfold evK
 rw[h1]
 exact⟨h2,qSu h1⟩
theorem dL{x:Operand}{K K':SV→Prop}(hk:∀sv,Orig s sv→K sv→K' sv)(h:evK s x K):evK s x K':=by
 obtain⟨sv,h1,h2⟩:=bB h
 unfold evK
 rw[h1]
 exact hk _ (qSu h1) h2
theorem fG{t:TypeId}{K K':TI→Prop}(hk:∀i,K i→K' i)(h:tyK C t K):tyK C t K':=by
 obtain⟨i,h1,h2⟩:=bZ h
 unfold tyK
 rw[h1]
 exact hk _ h2
theorem qMl{t f:Nat}{K K':Nat→TI→Prop}(hk:∀o i,K o i→K' o i)(h:qTm C t f K):qTm C t f K':=by
 unfold qTm at*
 refine fG (fun i h=>?_) h
 split at h
 ·split at h
  ·exact fG (fun j h=>hk _ _ h) h
  ·exact h
 ·exact h
theorem qAe{r:Int}{K K':Int→Prop}(hk:∀x,K x→K' x)(h:numVC r K):numVC r K':=aO fun x e=>by subst e;exact hk _ (kM h)
theorem qVz{op:UnOp}{x:SV}{K K':SV→Prop}(h1:∀v,K (.val v)→K' (.val v))(h2:∀b,K (.kn b)→K' (.kn b))(h:unK op x K):unK op x K':=by
 unfold unK at*
 split at h
 ·exact h2 _ h
 ·exact h1 _ h
 ·exact qAe (fun _ h=>h1 _ h) h
 ·exact h
theorem qTs{op:BinOp}{k:IntKind}{a b:Int}{K K':SV→Prop}(h1:∀v,K (.val v)→K' (.val v))(h:qTr op k a b K):qTr op k a b K':=by
 unfold qTr at*
 split at h<;>first
  |exact h1 _ h
  |exact qAe (fun _ h=>h1 _ h) h
  |(obtain⟨g1,g2⟩:=qL h;exact aC g1 (qAe (fun _ h=>h1 _ h) g2))
  |exact h
theorem qUj{op:BinOp}{a b:ByteArray}{K K':SV→Prop}(h1:∀v,K (.val v)→K' (.val v))(h:qUi op a b K):qUi op a b K':=by
 unfold qUi at*
 split at h<;>first
  |exact h1 _ h
  |(obtain⟨g1,g2⟩:=qL h;exact aC g1 (h1 _ g2))
  |exact h
theorem qMf{op:BinOp}{a b:Bool}{K K':SV→Prop}(h1:∀v,K (.val v)→K' (.val v))(h:qNn op a b K):qNn op a b K':=by
 unfold qNn at*
 split at h<;>first
  |exact h1 _ h
  |exact h
theorem qUc{op:BinOp}{b:Bool}{K K':SV→Prop}(h1:∀v,K (.val v)→K' (.val v))(h:qUb op b K):qUb op b K':=by
 unfold qUb at*
 split at h<;>first
  |exact h1 _ h
  |exact h
theorem qQm{op:BinOp}{k:IntKind}{a b:Int}{K K':SV→Prop}(h1:∀v,K (.val v)→K' (.val v))(h:qHf op k a b K):qHf op k a b K':=by
 unfold qHf at*
 split at h<;>first
  |(obtain⟨g1,g2⟩:=qL h;exact aC g1 (qAe (fun _ h=>h1 _ h) g2))
  |exact h
theorem qTh{op:BinOp}{t:TypeId}{x y:SV}{K K':SV→Prop}(h1:∀v,K (.val v)→K' (.val v))(h:qPd C op t x y K):qPd C op t x y K':=by
 unfold qPd at*
 split at h
 ·split at h
  ·cases hs : qSx op <;> simp only [hs] at h ⊢
   ·split at h
    ·exact qTs h1 h
    ·exact h
   ·exact qQm h1 h
  ·exact h
 ·split at h
  ·exact qUj h1 h
  ·exact h
 ·refine fG (fun i h => ?_) h
  split at h<;>first|exact qMf h1 h|exact h
 ·refine fG (fun i h => ?_) h
  split at h<;>first|exact qMf h1 h|exact h
 ·refine fG (fun i h => ?_) h
  split at h
  ·exact qUc h1 h
  ·exact h
 ·exact h
theorem uM{α:Type}:∀{l:List α} {m n:Nat} {K K':List α→Prop},(∀r,(∀x∈r,x∈l)→K r→K' r)→qIq l m n K→qIq l m n K'
 |l,m,0,K,K',hk,h=>by
  have:∀(K:List α→Prop),qIq l m 0 K=K []:=fun K=>by cases l<;>rfl
  rw[this]at h ⊢
  exact hk [] (by simp) h
 |x::l,0,n+1,K,K',hk,h=>by
  simp only[qIq]at*
  exact uM (fun r hr h=>hk _ (fun y hy=>by
   rcases List.mem_cons.1 hy with rfl|hy
   ·simp
   ·simp[hr y hy]) h) h
 |x::l,m+1,n+1,K,K',hk,h=>by
  simp only[qIq]at*
  exact uM (fun r hr h=>hk _ (fun y hy=>by simp[hr y hy]) h) h
 |[],m,n+1,K,K',_,h=>by cases m<;>exact h.elim
theorem qNa{α:Type}{l:List α}{K K':α→Prop}(hk:∀x∈l,K x→K' x)(h:qLs l K):qLs l K':=by
 unfold qLs at*
 split at h
 ·exact hk _ (by simp) h
 ·exact h
theorem qRv{i:TI}{cs:List SV}{off:Nat}{K K':SV→Prop}(h1:∀v,K (.val v)→K' (.val v))(h2:∀x∈cs,K x→K' x)(h:qKk i cs off K):qKk i cs off K':=by
 unfold qKk at*
 split at h
 ·exact uM (fun r _ h=>by rw[mE]at*;exact h1 _ h) h
 ·exact uM (fun r hr h=>qNa (fun x hx h=>h2 x (hr x hx) h) h) h
theorem vZ{i:TI}{cs:List Value}{off:Nat}{K K':SV→Prop}(h1:∀v,K (.val v)→K' (.val v))(h:qAp i cs off K):qAp i cs off K':=by
 unfold qAp at*
 split at h
 ·exact uM (fun r _ h=>h1 _ h) h
 ·exact uM (fun r hr h=>qNa (fun x hx h=>h1 _ h) h) h
theorem qJs{μ h0:Mem}{a:Addr}{n:Nat}{K K':List Value→Prop}(hk:∀cs,K cs→K' cs)(h:extVC μ h0 a n K):extVC μ h0 a n K':=by
 obtain⟨cs,h1,h2,h3⟩:=qJt h
 rcases h2 with h2|h2
 ·exact bN cs h1 h2 (hk _ h3)
 ·exact oIn cs h1 h2 (hk _ h3)
theorem qHr{μ:Mem}{base:Option Addr}{n es:Nat}{i:Int}{K K2:Addr→List Value→Prop}{K' K2':Addr→Prop}(hk:∀a cs,ElemAt μ base n es i a cs→K a cs→K2 a cs)(hk':∀a,K' a→K2' a)(h:elemVC μ base n es i K K'):elemVC μ base n es i K2 K2':=by
 rcases qGt h with⟨a,cs,h1,h2⟩|⟨a0,h1,h2,h3,h4⟩
 ·exact eIn h1 (hk _ _ h1 h2)
 ·exact cB a0 h1 h2 h3 (hk' _ h4)
theorem qRl{t:TypeId}{a:SV}{K:SV→Prop}(h:qHy C s t a K):qHy C s t a fun sv=>K sv∧Orig s sv:=by
 unfold qHy at*
 refine fG (fun i h=>?_) h
 split at h
 ·split at h
  ·rename_i hlb
   exact qRv (fun v h=>⟨h,.val v⟩) (fun x hx h=>⟨h,.cell hlb hx⟩) h
  ·exact h.elim
  ·exact qJs (fun cs h=>vZ (fun v h=>⟨h,.val v⟩) h) h
 ·exact vZ (fun v h=>⟨h,.val v⟩) h
 ·split at h
  ·rename_i hlb
   obtain⟨v,h1,h2⟩:=qJx h
   exact aW v h1 (vZ (fun v h=>⟨h,.val v⟩) h2)
  ·exact h.elim
 ·exact qJs (fun cs h=>vZ (fun v h=>⟨h,.val v⟩) h) h
 ·exact h
theorem qTo{t:TypeId}{x i:SV}(hx:Orig s x){K:SV→Prop}(h:qTn C s t x i K):qTn C s t x i fun sv=>K sv∧Orig s sv:=by
 unfold qTn at*
 split at h
 ·refine fG (fun ti h => ?_) h
  split at h
  ·refine fG (fun te h => ?_) h
   split at h
   ·exact qHr (fun a cs h1 h2=>⟨h2,.elem h1.cell⟩) (fun a h=>⟨h,.val _⟩) h
   ·split at h
    ·rename_i hlb
     simp only[]
     split at h
     ·rename_i he
      obtain⟨j,h1,h2,h3⟩:=qQh h
      exact aX j h1 h2 ⟨h3,.rel hx hlb⟩
     ·exact h.elim
    ·exact h.elim
    ·rename_i hlb
     simp only[]
     exact qHr (fun a cs h1 h2=>⟨h2,.elem h1.cell⟩) (fun a h=>⟨h,.val _⟩) h
   ·exact h
  ·exact h
 ·exact h
theorem qTu{t:TypeId}{x:SV}{K K':SV→Prop}(h1:∀v,K (.val v)→K' (.val v))(h:qVi C s t x K):qVi C s t x K':=by
 unfold qVi at*
 refine fG (fun i h=>?_) h
 split at h<;>first|exact h1 _ h|exact h|(obtain⟨l,hm,h2⟩:=qHa h;exact⟨⟨l,hm,h1 _ h2⟩⟩)
theorem qRx{c x y:Operand}{K:SV→Prop}(h:qQe s c x y K):qQe s c x y fun sv=>K sv∧Orig s sv:=by
 unfold qQe at*
 refine dL (fun sc _ h=>?_) h
 split at h
 ·exact qFk h
 ·exact qFk h
 ·refine dL (fun sx _ h => dL (fun sy _ h => ?_) h) h
  split at h<;>first|exact⟨h,.val _⟩|exact h
 ·exact h
theorem qDb{α:Type}:∀{l:List α} {m:Nat} {vs:List α} {K K':List α→Prop},(∀r,K r→K' r)→qAs l m vs K→qAs l m vs K'
 |l,0,[],K,K',hk,h=>by
  have:∀(K:List α→Prop),qAs l 0 [] K=K l:=fun K=>by cases l<;>simp only[qAs]
  rw[this]at h ⊢
  exact hk _ h
 |x::l,0,v::vs,K,K',hk,h=>by simp only[qAs]at*;exact qDb (fun r h=>hk _ h) h
 |x::l,m+1,vs,K,K',hk,h=>by
  have:∀(K:List α→Prop),qAs (x::l) (m+1) vs K=qAs l m vs fun r=>K (x::r):=fun K=>by cases vs<;>simp only[qAs]
  rw[this]at h ⊢
  exact qDb (fun r h=>hk _ h) h
 |[],0,v::vs,K,K',_,h=>h.elim
 |[],m+1,vs,K,K',_,h=>by cases vs<;>exact h.elim
theorem qFx:∀{n:Nat} {l:List Value} {A B:Prop},(A→B)→fillK.needLen n l A→fillK.needLen n l B
 |0,[],_,_,hk,h=>hk h
 |n+1,_::l,_,_,hk,h=>qFx (n:=n) (l:=l) hk h
 |0,_::_,_,_,_,h=>h.elim
 |_+1,[],_,_,_,h=>h.elim
theorem qOa{sv:SV}{n:Nat}{A B:Prop}(hk:A→B)(h:fillK.needOne sv n A):fillK.needOne sv n B:=by
 unfold fillK.needOne at*
 split at h
 ·exact h
 ·exact hk h
 ·exact h
theorem qEa{fs:List (Nat×TypeId)}:∀{ps:List (Nat×Operand)} {cs:List SV} {K K':List SV→Prop},(∀r,K r→K' r)→fillK C s fs ps cs K→fillK C s fs ps cs K'
 |[],cs,K,K',hk,h=>hk _ h
 |(f,x)::r,cs,K,K',hk,h=>by
  simp only[fillK]at*
  split at h
  ·refine fG (fun ti h => dL (fun sv _ h => ?_) h) h
   split at h
   ·split at h
    ·exact qFx (fun h=>qDb (fun _ h=>qEa hk h) h) h
    ·exact h
   ·exact qOa (fun h=>qDb (fun _ h=>qEa hk h) h) h
  ·exact h
theorem qGv:∀{l:List Operand} {K K':List Value→Prop},(∀r,K r→K' r)→qPi s l K→qPi s l K'
 |[],_,_,hk,h=>hk _ h
 |x::l,K,K',hk,h=>by
  simp only[qPi]at*
  refine dL (fun sv _ h=>?_) h
  rw[lX]at*
  exact qGv (fun r h=>hk _ h) h
theorem qRc{src dst:TypeId}{x:SV}{K K':SV→Prop}(hK:∀v,K (.val v)→K' (.val v))(h:qPh C s src dst x K):qPh C s src dst x K':=by
 unfold qPh at*
 refine fG (fun ts h=>fG (fun td h=>?_) h) h
 split at h
 ·refine fG (fun te h => ?_) h
  split at h
  ·obtain ⟨bs, h1, h2⟩ := qJg h
   exact bW bs h1 (hK _ h2)
  ·exact h.elim
 ·exact aO fun r hr=>hK _ (by subst hr;exact kM h)
 ·exact hK _ h
 ·exact h
theorem qNb{x:Option Operand}{K K':Option SV→Prop}(hk:∀sv,K sv→K' sv)(h:qRt s x K):qRt s x K':=by
 unfold qRt at*
 split at h
 ·exact hk _ h
 ·exact dL (fun _ _ h=>hk _ h) h
theorem wQ{o:Option SV}{d:Int}{K K':Int→Prop}(hk:∀i,K i→K' i)(h:sliceK.boundK o d K):sliceK.boundK o d K':=by
 unfold sliceK.boundK at*
 split at h
 ·exact hk _ h
 ·exact hk _ h
 ·exact h
theorem qJl{lo hi cap:Int}{K K':Nat→Nat→Prop}(hk:∀i j,K i j→K' i j)(h:cutVC lo hi cap K):cutVC lo hi cap K':=by
 obtain⟨l,k,h1,h2,h3,h4,h5⟩:=qJm h
 exact aG l k h1 h2 h3 h4 (hk _ _ h5)
theorem qIg{es:Nat}{base:Option Addr}{n c:Nat}{lo hi:Option SV}{K K':SV→Prop}(hK:∀v,K (.val v)→K' (.val v))(h:sliceK es base n c lo hi K):sliceK es base n c lo hi K':=by
 unfold sliceK at*
 exact wQ (fun i h=>wQ (fun j h=>qJl (fun l k h=>hK _ h) h) h) h
theorem qMu{big:Bool}{x y:SV}{K K':SV→Prop}(hK:∀v,K (.val v)→K' (.val v))(h:qRo big x y K):qRo big x y K':=by
 unfold qRo at*
 split at h
 ·split at h<;>exact hK _ h
 ·exact h
theorem qSm{o:Op}{K:SV→Prop}(h:qDq C s o K):qDq C s o fun sv=>K sv∧Orig s sv:=by
 unfold qDq at*
 split at h
 ·exact dL (fun x _ h=>qRc (fun v h=>⟨h,.val v⟩) h) h
 ·exact qFk h
 ·exact qFk h
 ·refine dL (fun x ho h => ?_) h
  split at h
  ·exact⟨h,ho⟩
  ·exact⟨h,ho⟩
  ·exact h.elim
 ·exact qRx h
 ·exact dL (fun x _ h=>qVz (fun v h=>⟨h,.val v⟩) (fun b h=>⟨h,.kn b⟩) h) h
 ·exact dL (fun x _ h=>dL (fun y _ h=>qTh (fun v h=>⟨h,.val v⟩) h) h) h
 ·refine qMl (fun off ti h => dL (fun x _ h => ?_) h) h
  split at h
  ·exact vZ (fun v h=>⟨h,.val v⟩) h
  ·exact h
 ·refine qMl (fun off ti h => ?_) h
  unfold qQg at*
  split at h
  ·exact h
  ·refine dL (fun x ho h => ?_) h
   split at h
   ·exact⟨h,.locOff ho⟩
   ·exact⟨h,.elemOff ho⟩
   ·split at h
    ·rename_i hlb
     exact⟨h,.relOff ho⟩
    ·exact h.elim
   ·exact⟨h,.val _⟩
   ·exact h
 ·exact dL (fun x hx h=>dL (fun y _ h=>qTo hx h) h) h
 ·refine fG (fun ti h => dL (fun x _ h => qNb (fun lo h => qNb (fun hi h => ?_) h) h) h) h
  split at h
  ·exact fG (fun te h=>qIg (fun v h=>⟨h,.val v⟩) h) h
  ·exact fG (fun te h=>qIg (fun v h=>⟨h,.val v⟩) h) h
  ·exact wQ (fun i h=>wQ (fun j h=>qJl (fun l k h=>⟨h,.val _⟩) h) h) h
  ·exact h
 ·refine fG (fun ti h => dL (fun x _ h => dL (fun y _ h => ?_) h) h) h
  split at h
  ·obtain ⟨j, b, h1, h2, h3⟩ := qMa h
   exact aN j b h1 h2 ⟨h3,.val _⟩
  ·exact h
 ·refine fG (fun ti h => ?_) h
  split at h
  ·refine fG (fun tk h => fG (fun te h => dL (fun x _ h => dL (fun i _ h => ?_) h) h) h) h
   rw[lX]at*
   split at h
   ·obtain ⟨hok, l, hm, hl, h2⟩ := qMt h
    refine⟨⟨hok,l,hm,hl,?_⟩⟩
    split at h2<;>exact⟨h2,.val _⟩
   ·exact h
  ·exact h
 ·exact dL (fun x _ h=>qRl h) h
 ·refine dL (fun x _ h => ?_) h
  split at h
  ·split at h
   ·rename_i hv
    exact⟨h,.val _⟩
   ·exact h.elim
  ·exact h
 ·refine fG (fun ti h => ?_) h
  split at h
  ·exact qEa (fun cs h=>by rw[mE]at*;exact⟨h,.val _⟩) h
  ·exact h
 ·exact qGv (fun f h=>qGv (fun c h=>⟨h,.val _⟩) h) h
 ·refine fG (fun ti h => dL (fun x _ h => ?_) h) h
  split at h
  ·exact⟨h,.val _⟩
  ·exact h
 ·split at h
  ·rename_i hc
   split at h
   ·rename_i h1 h2
    exact dL (fun x _ h=>qTu (fun v h=>⟨h,.val v⟩) h) h
   ·exact h.elim
  ·split at h
   ·exact dL (fun x _ h=>dL (fun y _ h=>qMu (fun v h=>⟨h,.val v⟩) h) h) h
   ·exact h.elim
  ·split at h
   ·exact dL (fun x _ h=>dL (fun y _ h=>qMu (fun v h=>⟨h,.val v⟩) h) h) h
   ·exact h.elim
  ·exact h.elim
 ·exact h
end
end Go.Vx
namespace Go.Vx
theorem memN_iff{n:Nat}:∀{l:List Nat},qAr n l=true↔n∈l
 |[]=>by simp[qAr]
 |m::r=>by
  simp only[qAr]
  split
  ·rename_i h;have:=Nat.eq_of_beq_eq_true h;simp[this]
  ·rename_i h
   have:n≠m:=fun e=>by subst e;simp at h
   rw[memN_iff]
   simp[this]
theorem memN_false{n:Nat}{l:List Nat}:qAr n l=false↔n∉l:=by
 rw[←memN_iff];cases qAr n l<;>simp
theorem depsIn_iff{done:List Nat}:∀{es:List Edge},tX done es=true↔∀e∈es,Region.binds .any e=true→e.on∈done
 |[]=>by simp[tX]
 |e::r=>by
  simp only[tX]
  split
  ·rename_i h1 h2
   rw[memN_false]at h2
   simp[h1,h2]
  ·rename_i h
   rw[depsIn_iff]
   refine⟨fun g x hx hb=>?_,fun g x hx hb=>g x (by simp[hx]) hb⟩
   rcases List.mem_cons.1 hx with rfl|hx
   ·cases hm : qAr x.on done with
    |true=>exact memN_iff.1 hm
    |false=>exact absurd hm (h hb)
   ·exact g x hx hb
theorem onEdge_iff{i:Nat}:∀{es:List Edge},qBz i es=true↔∃e∈es,Region.binds .any e=true∧e.on=i
 |[]=>by simp[qBz]
 |e::r=>by
  simp only[qBz]
  split
  ·rename_i h1 h2
   have h2:=Nat.eq_of_beq_eq_true h2
   simp only[true_iff]
   exact⟨e,by simp,h1,h2⟩
  ·rename_i h
   rw[onEdge_iff]
   constructor
   ·rintro⟨x,hx,h1,h2⟩;exact⟨x,by simp[hx],h1,h2⟩
   ·rintro ⟨x, hx, h1, h2⟩
    rcases List.mem_cons.1 hx with rfl|hx
    ·exact absurd (by rw[h2];exact Nat.beq_refl i) (h h1)
    ·exact⟨x,hx,h1,h2⟩
theorem qBh{lt:Nat→Op→Bool}{done:List Nat}:∀{l:List Oper} {k i:Nat},qEb lt done k l=some i→∃o,k≤i∧l[i-k]? =some o∧xD o.op=true∧i∉done∧tX done o.after.toList=true
 |[],_,_,h=>by cases h
 |o::r,k,i,h=>by
  have up:qEb lt done (k+1) r=some i→∃o',k≤i∧(o::r)[i-k]? =some o'∧xD o'.op=true∧i∉done∧tX done o'.after.toList=true:=fun h=>by
   obtain⟨o',h1,h2,h3⟩:=qBh h
   exact⟨o',by omega,by rw[show i-k=(i-(k+1))+1 from by omega];simpa using h2,h3⟩
  simp only[qEb]at h
  split at h
  ·rename_i h1 h2 h3
   split at h
   ·cases h
    exact⟨o,Nat.le_refl _,by simp,h1,memN_false.1 h2,h3⟩
   ·exact up h
  ·exact up h
theorem candsOf_spec{done al:List Nat}:∀{l:List Oper} {k j:Nat},j∈sK done al k l↔∃o,k≤j∧l[j-k]? =some o∧j∉done∧j∉al∧tX (al++done) o.after.toList=true
 |[],k,j=>by simp[sK]
 |o::r,k,j=>by
  have ih:=candsOf_spec (done:=done) (al:=al) (l:=r) (k:=k+1) (j:=j)
  have step:(∃o',k+1≤j∧r[j-(k+1)]? =some o'∧j∉done∧j∉al∧tX (al++done) o'.after.toList=true)∨(j=k∧j∉done∧j∉al∧tX (al++done) o.after.toList=true)↔
    ∃o',k≤j∧(o::r)[j-k]? =some o'∧j∉done∧j∉al∧tX (al++done) o'.after.toList=true:=by
   constructor
   ·rintro (⟨o', h1, h2, h3⟩ | ⟨rfl, h3⟩)
    ·exact⟨o',by omega,by rw[show j-k=(j-(k+1))+1 from by omega];simpa using h2,h3⟩
    ·exact⟨o,Nat.le_refl _,by simp,h3⟩
   ·rintro ⟨o', h1, h2, h3⟩
    by_cases hj:j=k
    ·subst hj
     simp only[Nat.sub_self,List.getElem?_cons_zero,Option.some.injEq]at h2
     subst h2
     exact .inr ⟨rfl,h3⟩
    ·exact .inl ⟨o',by omega,by rw[show j-k=(j-(k+1))+1 from by omega]at h2;simpa using h2,h3⟩
  rw[←step,←ih]
  simp only[sK]
  split
  ·rename_i h1 h2 h3
   rw[memN_false]at h1 h2
   rw[List.mem_cons]
   constructor
   ·rintro (rfl | h)
    ·exact .inr ⟨rfl,h1,h2,h3⟩
    ·exact .inl h
   ·rintro (h | ⟨rfl, _⟩)
    ·exact .inr h
    ·exact .inl rfl
  ·rename_i h
   constructor
   ·exact .inl
   ·rintro (h' | ⟨rfl, h1, h2, h3⟩)
    ·exact h'
    ·exact(h (memN_false.2 h1) (memN_false.2 h2) h3).elim
theorem allocIdx_spec:∀{l:List Oper} {k j:Nat},j∈mM k l↔∃o,k≤j∧l[j-k]? =some o∧kF o=true
 |[],k,j=>by simp[mM]
 |o::r,k,j=>by
  have ih:=allocIdx_spec (l:=r) (k:=k+1) (j:=j)
  have step:(∃o',k+1≤j∧r[j-(k+1)]? =some o'∧kF o'=true)∨(j=k∧kF o=true)↔∃o',k≤j∧(o::r)[j-k]? =some o'∧kF o'=true:=by
   constructor
   ·rintro (⟨o', h1, h2, h3⟩ | ⟨rfl, h3⟩)
    ·exact⟨o',by omega,by rw[show j-k=(j-(k+1))+1 from by omega];simpa using h2,h3⟩
    ·exact⟨o,Nat.le_refl _,by simp,h3⟩
   ·rintro ⟨o', h1, h2, h3⟩
    by_cases hj:j=k
    ·subst hj
     simp only[Nat.sub_self,List.getElem?_cons_zero,Option.some.injEq]at h2
     subst h2
     exact .inr ⟨rfl,h3⟩
    ·exact .inl ⟨o',by omega,by rw[show j-k=(j-(k+1))+1 from by omega]at h2;simpa using h2,h3⟩
  rw[←step,←ih]
  simp only[mM]
  split
  ·rename_i h
   rw[List.mem_cons]
   constructor
   ·rintro (rfl | g)
    ·exact .inr ⟨rfl,h⟩
    ·exact .inl g
   ·rintro (g | ⟨rfl, _⟩)
    ·exact .inr g
    ·exact .inl rfl
  ·rename_i h
   constructor
   ·exact .inl
   ·rintro (g | ⟨rfl, g⟩)
    ·exact g
    ·rw[h]at g;cases g
theorem qQ{o:Oper}(h:kF o=true):∃t d,o.op= .alloc t∧o.guard=none∧o.dst=some d∧o.after.toList=[]:=by
 unfold kF at h
 split at h
 ·rename_i h1 h2 h3 h4;exact⟨_,_,h1,h2,h3,h4⟩
 ·cases h
theorem qJw{ops:Array Oper}{done:List Nat}{i:Nat}{oi:Oper}:∀{l:List Oper} {k:Nat},qPo ops done i oi k l=true→∀j o,k≤j→l[j-k]? =some o→j∉done→j≠i→(∀e∈o.after,Region.binds .any e=true→e.on≠i)→oi.apart ops o=true
 |[],_,_,j,o,_,h,_,_,_=>by simp at h
 |x::r,k,h,j,o,hk,ho,h1,h2,h3=>by
  simp only[qPo]at h
  split at h
  ·cases h
  ·rename_i hn
   by_cases hj:j=k
   ·subst hj
    simp only[Nat.sub_self,List.getElem?_cons_zero,Option.some.injEq]at ho
    subst ho
    cases ha:oi.apart ops x with
    |true=>rfl
    |false=>
     refine(hn (memN_false.2 h1) ?_ ?_ ha).elim
     ·cases hb : Nat.beq j i with
      |false=>rfl
      |true=>exact absurd (Nat.eq_of_beq_eq_true hb) h2
     ·cases hb : qBz i x.after.toList with
      |false=>rfl
      |true=>
       obtain⟨e,he,g1,g2⟩:=onEdge_iff.1 hb
       exact absurd g2 (h3 e (by simpa using he) g1)
   ·exact qJw h j o (by omega) (by rw[show j-k=(j-(k+1))+1 from by omega]at ho;simpa using ho) h1 h2 h3
theorem qGf{d j:Nat}:∀{l:List Oper} {k:Nat},qAh d j k l=true→∀i o,k≤i→l[i-k]? =some o→i≠j→o.dst≠some d
 |[],_,_,i,o,_,h,_=>by simp at h
 |x::r,k,h,i,o,hk,ho,hij=>by
  by_cases hi:i=k
  ·subst hi
   simp only[Nat.sub_self,List.getElem?_cons_zero,Option.some.injEq]at ho
   subst ho
   intro hd
   have hb:Nat.beq i j=false:=by
    cases hb:Nat.beq i j with
    |false=>rfl
    |true=>exact absurd (Nat.eq_of_beq_eq_true hb) hij
   simp only[qAh,hb,hd,Nat.beq_refl]at h
   cases h
  ·refine qGf (l := r) (k := k + 1) ?_ i o (by omega) (by rw [show i - k = (i - (k + 1)) + 1 from by omega] at ho; simpa using ho) hij
   simp only[qAh]at h
   split at h
   ·split at h
    ·cases h
    ·exact h
   ·exact h
theorem qMv{i t:Nat}:∀{l:List (Nat×Nat)},memP i t l=true→(i,t)∈l
 |[],h=>by cases h
 |(j,u)::r,h=>by
  simp only[memP]at h
  split at h
  ·rename_i h1 h2
   have h1:=Nat.eq_of_beq_eq_true h1
   have h2:=Nat.eq_of_beq_eq_true h2
   simp[h1,h2]
  ·exact List.mem_cons_of_mem _ (qMv h)
theorem qDt{ops:Array Oper}{L:Array Bool}(hc:Closed ops L){i:Nat}:∀{n x:Nat},qEw ops.toList i n x=true→L.getD x true=true→L.getD i true=true
 |0,_,h,_=>by cases h
 |n+1,x,h,hx=>by
  simp only[qEw]at h
  split at h
  ·rename_i o ho
   have key:∀es:List Edge,(∀e∈es,e∈o.after)→qJa (qEw ops.toList i n) i es=true→L.getD i true=true:=by
    intro es
    induction es with
    |nil=>intro _ h;cases h
    |cons e r ih=>
     intro hm h
     simp only[qJa]at h
     split at h
     ·rename_i hb
      have he:=hc x o (by simpa using ho) hx e (hm e (by simp)) hb
      split at h
      ·rename_i h1
       rw[←Nat.eq_of_beq_eq_true h1];exact he
      ·split at h
       ·rename_i h2
        exact qDt hc h2 he
       ·exact ih (fun y hy=>hm y (by simp[hy])) h
     ·exact ih (fun y hy=>hm y (by simp[hy])) h
   exact key o.after.toList (fun e he=>by simpa using he) h
  ·cases h
theorem qBe{ops:List Oper}{i t:Nat}:∀{l:List (Nat×Nat)},qDy ops i t l=true→∀x,(x,t)∈l→qEw ops i 20 x=true
 |[],_,x,h=>by cases h
 |(y,u)::r,h,x,hx=>by
  simp only[qDy]at h
  split at h
  ·rename_i hb
   have hb:=Nat.eq_of_beq_eq_true hb
   split at h
   ·rename_i ha
    rcases List.mem_cons.1 hx with e|hx
    ·cases e;exact ha
    ·exact qBe h x hx
   ·cases h
  ·rename_i hb
   rcases List.mem_cons.1 hx with e|hx
   ·cases e;simp at hb
   ·exact qBe h x hx
theorem qIa{ops:List Oper}{s0:St}:∀{l:List Oper} {k:Nat} {ml:List (Nat×Nat)},qEf ops s0 k l=some ml→∀x t,(x,t)∈ml→∃o ty a b,k≤x∧l[x-k]? =some o∧o.op= .store ty a b
 |[],k,ml,h,x,t,hx=>by cases h;cases hx
 |o::r,k,ml,h,x,t,hx=>by
  have up:∀{ml'},qEf ops s0 (k+1) r=some ml'→(x,t)∈ml'→∃o' ty a b,k≤x∧(o::r)[x-k]? =some o'∧o'.op= .store ty a b:=fun h1 h2=>by
   obtain⟨o',ty,a,b,g1,g2,g3⟩:=qIa h1 x t h2
   exact⟨o',ty,a,b,by omega,by rw[show x-k=(x-(k+1))+1 from by omega];simpa using g2,g3⟩
  simp only[qEf]at h
  split at h
  ·rename_i ty a b hop
   split at h
   ·rename_i h1 h2
    cases h
    rcases List.mem_cons.1 hx with e|hx
    ·cases e
     exact⟨o,ty,a,b,Nat.le_refl _,by simp,hop⟩
    ·exact up h2 hx
   ·rename_i h1 h2
    cases h
    exact up h2 hx
   ·cases h
  ·exact up h hx
theorem vX{b:Bool}{A:Prop}(h:okK b A):b=true∧A:=by
 unfold okK at h
 split at h
 ·exact⟨rfl,h⟩
 ·exact h.elim
def V0(s0:St):SV→Prop
 | .loc t r _=>∀r' cs ty,s0.lb t=some (.cells r' cs ty)→r'=r
 | .row t _ _ _=>∀r cs ty,s0.lb t≠some (.cells r cs ty)
 | .rel t _ _ _ _=>∀r cs ty,s0.lb t≠some (.cells r cs ty)
 | .elem a cs _=>∀j v,cs[j]? =some v→s0.mem.cell (a.add j)=some v
 |_=>True
theorem sO{ops:List Oper}{ml:List (Nat×Nat)}{ol:List Nat}{s0 s:St}{i t:Nat}{lb:LB}(h:(qIm ops ml ol s0 s i).lb t=some lb):s0.lb t=some lb∧qDy ops i t ml=true∧∃r cs ty,lb= .cells r cs ty:=by
 have key:∀l:List (Nat×Option LB),eW (qGn ops ml i l) t=some (some lb)→eW l t=some (some lb)∧qDy ops i t ml=true∧∃r cs ty,lb= .cells r cs ty:=by
  intro l
  induction l with
  |nil=>intro h;cases h
  |cons p l ih=>
   obtain⟨u,x⟩:=p
   intro h
   match x with
   |some (.cells r cs ty)=>
    simp only[qGn]at h
    split at h
    ·rename_i hc
     rw[bO]at h ⊢
     split at h
     ·rename_i e
      subst e
      cases h
      exact⟨by simp,hc,_,_,_,rfl⟩
     ·rename_i e
      rw[if_neg e]
      exact ih h
    ·rw [bO] at h ⊢
     split at h
     ·cases h
     ·rename_i e;rw[if_neg e];exact ih h
   |some (.row ..)=>
    simp only[qGn]at h
    rw[bO]at h ⊢
    split at h
    ·cases h
    ·rename_i e;rw[if_neg e];exact ih h
   |some (.map ..)=>
    simp only[qGn]at h
    rw[bO]at h ⊢
    split at h
    ·cases h
    ·rename_i e;rw[if_neg e];exact ih h
   |none=>
    simp only[qGn]at h
    rw[bO]at h ⊢
    split at h
    ·cases h
    ·rename_i e;rw[if_neg e];exact ih h
 obtain⟨h1,h2,h3⟩:=key s0.blk (qAa h)
 exact⟨by unfold St.lb;rw[h1],h2,h3⟩
def SS(s0:St)(ml:List (Nat×Nat))(ol:List Nat)(L:Array Bool)(w:World):Prop:=
 Holds s0.mem w∧(∀t r cs ty,s0.lb t=some (.cells r cs ty)→(∀x,(x,t)∈ml→L.getD x true=false)→(LB.cells r cs ty).fits (fun b=>w.heap[b]?))∧((∀x∈ol,L.getD x true=false)→Holds s0.own w)
theorem qAu{s0:St}{ml:List (Nat×Nat)}{ol:List Nat}{i:Nat}(hi:∀t,(i,t)∉ml)(ho:i∉ol)(L:Array Bool)(w:World):SS s0 ml ol (L.setIfInBounds i true) w↔SS s0 ml ol L w:=by
 have e:∀t,(∀x,(x,t)∈ml→(L.setIfInBounds i true).getD x true=false)↔∀x,(x,t)∈ml→L.getD x true=false:=fun t=>by
  constructor
  ·intro h x hx;rw[←getD_set_ne (i:=i) true (fun e=>by subst e;exact hi t hx)];exact h x hx
  ·intro h x hx;rw[getD_set_ne (i:=i) true (fun e=>by subst e;exact hi t hx)];exact h x hx
 have e':(∀x∈ol,(L.setIfInBounds i true).getD x true=false)↔∀x∈ol,L.getD x true=false:=by
  constructor
  ·intro h x hx;rw[←getD_set_ne (i:=i) true (fun e=>by subst e;exact ho hx)];exact h x hx
  ·intro h x hx;rw[getD_set_ne (i:=i) true (fun e=>by subst e;exact ho hx)];exact h x hx
 unfold SS
 simp only[e,e']
theorem qHp{ops:List Oper}{i:Nat}:∀{l:List Nat},qGr ops i l=true→∀x∈l,qEw ops i 20 x=true
 |[],_,x,h=>by cases h
 |y::l,h,x,hx=>by
  simp only[qGr]at h
  split at h
  ·rename_i ha
   rcases List.mem_cons.1 hx with e|hx
   ·subst e;exact ha
   ·exact qHp h x hx
  ·cases h
theorem qIc{ops:List Oper}{s0:St}:∀{l:List Oper} {k:Nat} {x:Nat},x∈oJ ops s0 k l→∃o,k≤x∧l[x-k]? =some o∧xD o.op=false∧kF o=false
 |[],k,x,h=>by cases h
 |o::r,k,x,h=>by
  have up:x∈oJ ops s0 (k+1) r→∃o',k≤x∧(o::r)[x-k]? =some o'∧xD o'.op=false∧kF o'=false:=fun h=>by
   obtain⟨o',g1,g2,g3⟩:=qIc h
   exact⟨o',by omega,by rw[show x-k=(x-(k+1))+1 from by omega];simpa using g2,g3⟩
  simp only[oJ]at h
  split at h
  ·rename_i ty a b hop
   have ha:kF o=false:=by unfold kF;rw[hop]
   split at h
   ·exact up h
   ·rcases List.mem_cons.1 h with e | h
    ·subst e;exact⟨o,Nat.le_refl _,by simp,by rw[hop];rfl,ha⟩
    ·exact up h
  ·rename_i c hop
   have ha:kF o=false:=by unfold kF;rw[hop]
   split at h
   ·rename_i f hc
    rcases List.mem_cons.1 h with e|h
    ·subst e;exact⟨o,Nat.le_refl _,by simp,by rw[hop];simp only[xD,hc],ha⟩
    ·exact up h
   ·rename_i hc
    rcases List.mem_cons.1 h with e|h
    ·subst e;exact⟨o,Nat.le_refl _,by simp,by rw[hop];simp only[xD,hc],ha⟩
    ·exact up h
   ·exact up h
  iterate 5
   ·rename_i hop
    have ha:kF o=false:=by unfold kF;rw[hop]
    rcases List.mem_cons.1 h with e|h
    ·subst e;exact⟨o,Nat.le_refl _,by simp,by rw[hop];rfl,ha⟩
    ·exact up h
  ·exact up h
theorem qUf{ol:List Nat}{i:Nat}{b:Bool}(h:owOk ol i b=true):b=false∨i∈ol:=by
 unfold owOk at h
 split at h
 ·exact .inr (memN_iff.1 h)
 ·exact .inl rfl
theorem qUn{ops:Array Oper}{ml:List (Nat×Nat)}{ol:List Nat}{s0 s:St}{i:Nat}{w:World}(h:Pend ops (SS s0 ml ol) i w):qPa (qIm ops.toList ml ol s0 s i) w:=by
 obtain⟨L,hc,hi,h1,h2,h3⟩:=h
 have hbehind:∀x,qEw ops.toList i 20 x=true→L.getD x true=false:=fun x hx=>by
  cases hLx:L.getD x true with
  |false=>rfl
  |true=>
   have:=qDt hc hx hLx
   rw[this]at hi
   cases hi
 refine⟨⟨h1,fun t lb hl=>?_⟩,?_⟩
 rotate_left
 ·simp only [qIm]
  split
  ·rename_i ho
   exact h3 fun x hx=>hbehind x (qHp ho x hx)
  ·exact fun b o h=>nomatch h
 obtain⟨g1,g2,r,cs,ty,rfl⟩:=sO hl
 refine h2 t r cs ty g1 fun x hx=>?_
 cases hLx:L.getD x true with
 |false=>rfl
 |true=>
  have:=qDt hc (qBe g2 x hx) hLx
  rw[this]at hi
  cases hi
end Go.Vx
namespace Go.Vx
section
variable {C:Cx} {E:Ent} {ops:Array Oper} {ml:List (Nat×Nat)} {ol:List Nat} {al:List Nat} {s0:St}
theorem LB.alike_trans{a b c:LB}(h:a.alike b)(k:b.alike c):a.alike c:=by
 cases a<;>cases b<;>simp only[LB.alike]at h<;>cases c<;>simp only[LB.alike]at k ⊢
 ·exact h.trans k
 ·exact⟨h.1.trans k.1,h.2.1.trans k.2.1,h.2.2.1.trans k.2.2.1,h.2.2.2.trans k.2.2.2⟩
 ·exact h.trans k
def qIy(lb:LB):Prop:=∃b c y e x,lb= .row b c y e x
theorem qLx{a b:LB}(h:a.alike b):qIy a↔qIy b:=by
 cases a<;>cases b<;>simp only[LB.alike]at h<;>simp[qIy]
structure AlOk (C:Cx) (ops:Array Oper) (al:List Nat):Prop where
 spec:∀j,j∈al↔∃o,ops[j]? =some o∧kF o=true
 tt:∀j∈al,∀o t,ops[j]? =some o→o.op= .alloc t→∃ti,eW C.tt t=some ti
 dst:∀j∈al,∀o d,ops[j]? =some o→o.dst=some d→d<C.n
 sole:∀j∈al,∀o d,ops[j]? =some o→o.dst=some d→∀k ok,ops[k]? =some ok→k≠j→ok.dst≠some d
structure DInv (C:Cx) (E:Ent) (ops:Array Oper) (ml:List (Nat×Nat)) (ol al:List Nat) (s0:St) (dirty:List Nat) (D A:Nat→Prop) (ρ:Nat→Nat) (s:St) (L:Array Bool) (a:Act) (w:World):Prop where
 rel:Rel E a w s
 size:L.size=ops.size
 lst:∀i,i<ops.size→(L.getD i true=true↔D i∨A i)
 closed:Closed ops L
 sub:∀j,A j→j∈al∧¬D j
 pend:∀j,A j→∃o t d ti,ops[j]? =some o∧o.op= .alloc t∧o.dst=some d∧eW C.tt t=some ti∧a.tmps[d]? =some (.pointer (some ⟨ρ j,0,none⟩))∧
  w.heap[ρ j]? =some (.cells ti.zero.toArray t (0,0))∧s.mem (ρ j)=none∧s.own (ρ j)=none∧(∀u lb,s.lb u=some lb→lb.blk?≠some (ρ j))∧E.w0.heap.size≤ρ j
 inj:∀j k,A j→A k→ρ j=ρ k→j=k
 nodst:∀j∈al,¬D j→∀o d,ops[j]? =some o→o.dst=some d→eW s.env d=none
 ss:SS s0 ml ol L w
 le:s0.mem.Le s.mem
 v0:∀i sv,eW s.env i=some sv→V0 s0 sv
 nx:s0.nxt≤s.nxt
 b0:∀t r cs ty,s0.lb t=some (.cells r cs ty)→(∃cs' ty',s.lb t=some (.cells r cs' ty'))∨s.mem r≠none
 stay:∀t lb,t<s0.nxt→s.lb t=some lb→∃lb0,s0.lb t=some lb0∧(lb0.alike lb∨(t∈dirty∧qIy lb0∧qIy lb))
 own0:(∀x∈ol,L.getD x true=false)→s.own=s0.own
variable {dirty:List Nat} {D A:Nat→Prop} {ρ:Nat→Nat} {s:St} {L:Array Bool} {a:Act} {w:World}
theorem DInv.congr{D' A':Nat→Prop}(h:DInv C E ops ml ol al s0 dirty D A ρ s L a w)(hD:∀i,D i↔D' i)(hA:∀i,A i↔A' i):DInv C E ops ml ol al s0 dirty D' A' ρ s L a w:=by
 have e1:D=D':=funext fun i=>propext (hD i)
 have e2:A=A':=funext fun i=>propext (hA i)
 rw[←e1,←e2];exact h
theorem DInv.know(h:DInv C E ops ml ol al s0 dirty D A ρ s L a w){s1:St}(hR:Rel E a w s1)(hk:qUs s s1):DInv C E ops ml ol al s0 dirty D A ρ s1 L a w:=by
 rcases hk with rfl|⟨d,b,hd,rfl⟩
 ·exact h
 ·refine { h with rel := hR, nodst := fun j hj hD o d' ho hd' => ?_, v0 := fun i sv hi => ?_ }
  ·simp only [St.put, bO]
   have:=h.nodst j hj hD o d' ho hd'
   rw[if_neg (fun e=>by subst e;rw[hd]at this;cases this)]
   exact this
  ·simp only [St.put, bO] at hi
   split at hi
   ·cases hi;trivial
   ·exact h.v0 i sv hi
theorem DInv.envOk(h:DInv C E ops ml ol al s0 dirty D A ρ s L a w)(i:Nat):qDj (qIm ops.toList ml ol s0 s i) a:=by
 intro k sv hk
 obtain⟨h1,h2⟩:=h.rel.env k sv hk
 refine⟨h1,?_⟩
 have hv:=h.v0 k sv hk
 cases sv with
 |loc t r off=>
  refine⟨Nat.lt_of_lt_of_le h2.1 (Nat.le_add_left _ _),fun lb hl=>?_⟩
  obtain⟨g1,_,r',cs,ty,rfl⟩:=sO hl
  rw[hv r' cs ty g1]
  exact⟨cs,ty,rfl⟩
 |row t b n c=>
  refine⟨Nat.lt_of_lt_of_le h2.1 (Nat.le_add_left _ _),fun lb hl=>?_⟩
  obtain⟨g1,_,r',cs,ty,rfl⟩:=sO hl
  exact absurd g1 (hv r' cs ty)
 |rel t b e j o=>
  refine⟨Nat.lt_of_lt_of_le h2.1 (Nat.le_add_left _ _),fun lb hl=>?_⟩
  obtain⟨g1,_,r',cs,ty,rfl⟩:=sO hl
  exact absurd g1 (hv r' cs ty)
 |elem ad cs off=>exact hv
 |val v=>trivial
 |kn b=>trivial
theorem qSn(hb0:qHl s0)(i:Nat):qHl (qIm ops.toList ml ol s0 s i):=by
 intro t r cs ty hl sv hsv
 obtain⟨g1,_,_⟩:=sO hl
 have h:=hb0 t r cs ty g1 sv hsv
 cases sv with
 |loc u r' off=>exact⟨Nat.lt_of_lt_of_le h.1 (Nat.le_add_right _ _),fun lb hl=>h.2 lb (sO hl).1⟩
 |row u b n c=>exact⟨Nat.lt_of_lt_of_le h.1 (Nat.le_add_right _ _),fun lb hl=>h.2 lb (sO hl).1⟩
 |rel u b e j o=>exact⟨Nat.lt_of_lt_of_le h.1 (Nat.le_add_right _ _),fun lb hl=>h.2 lb (sO hl).1⟩
 |elem ad cs' off=>exact h
 |val v=>trivial
 |kn b=>trivial
theorem DInv.orig(h:DInv C E ops ml ol al s0 dirty D A ρ s L a w)(hb0:qHl s0){i:Nat}{sv:SV}(ho:Orig (qIm ops.toList ml ol s0 s i) sv):qFe dirty sv=true→dN s sv∧V0 s0 sv:=by
 induction ho with
 |val v=>exact fun _=>⟨trivial,trivial⟩
 |kn b=>exact fun _=>⟨trivial,trivial⟩
 |env hk=>exact fun _=>⟨(h.rel.env _ _ hk).2,h.v0 _ _ hk⟩
 |locOff _ ih=>exact fun hc=>ih hc
 |elemOff _ ih=>exact fun hc=>ih hc
 |relOff _ ih=>exact fun hc=>ih hc
 |elem hc=>exact fun _=>⟨fun j v hj=>h.le.cell (hc j v hj),hc⟩
 |rel hr hl=>
  intro _
  obtain⟨_,_,r,cs,ty,e⟩:=sO hl
  cases e
 | @cell t r cs ty sv hl hm=>
  intro hc
  obtain⟨g1,_,_⟩:=sO hl
  have hsv:=hb0 t r cs ty g1 sv hm
  cases sv with
  |loc u r' off=>
   refine⟨⟨Nat.lt_of_lt_of_le hsv.1 h.nx,fun lb hlb=>?_⟩,fun r2 cs2 ty2 g=>?_⟩
   ·obtain ⟨lb0, k1, k2⟩ := h.stay u lb hsv.1 hlb
    obtain⟨cs3,ty3,rfl⟩:=hsv.2 lb0 k1
    rcases k2 with k2|⟨_,⟨_,_,_,_,_,k3⟩,_⟩
    ·cases lb <;> simp only [LB.alike] at k2
     subst k2
     exact⟨_,_,rfl⟩
    ·cases k3
   ·obtain ⟨_, _, e⟩ := hsv.2 _ g
    cases e;rfl
  |row u b n c=>
   simp only[qFe,Bool.not_eq_true',memN_false]at hc
   refine⟨⟨Nat.lt_of_lt_of_le hsv.1 h.nx,fun lb hlb=>?_⟩,fun r2 cs2 ty2 g=>?_⟩
   ·obtain ⟨lb0, k1, k2⟩ := h.stay u lb hsv.1 hlb
    obtain⟨ty3,es3,xs3,rfl,hn⟩:=hsv.2 lb0 k1
    rcases k2 with k2|⟨k2,_⟩
    ·cases lb <;> simp only [LB.alike] at k2
     obtain⟨rfl,rfl,rfl,k3⟩:=k2
     exact⟨_,_,_,rfl,by omega⟩
    ·exact absurd k2 hc
   ·obtain ⟨_, _, _, e, _⟩ := hsv.2 _ g
    cases e
  |rel u b e j o=>
   simp only[qFe,Bool.not_eq_true',memN_false]at hc
   refine⟨⟨Nat.lt_of_lt_of_le hsv.1 h.nx,fun lb hlb=>?_⟩,fun r2 cs2 ty2 g=>?_⟩
   ·obtain ⟨lb0, k1, k2⟩ := h.stay u lb hsv.1 hlb
    obtain⟨cap3,ty3,xs3,rfl,hn⟩:=hsv.2 lb0 k1
    rcases k2 with k2|⟨k2,_⟩
    ·cases lb <;> simp only [LB.alike] at k2
     obtain⟨rfl,rfl,rfl,k3⟩:=k2
     exact⟨_,_,_,rfl,by omega⟩
    ·exact absurd k2 hc
   ·obtain ⟨_, _, _, e, _⟩ := hsv.2 _ g
    cases e
  |elem ad cs' off=>exact⟨fun j v hj=>h.le.cell (hsv j v hj),hsv⟩
  |val v=>exact⟨trivial,trivial⟩
  |kn b=>exact⟨trivial,trivial⟩
theorem sM{L:Array Bool}{i:Nat}(h:i<L.size):(L.setIfInBounds i true).getD i true=true:=by
 simp[h]
theorem qSz{L:Array Bool}{n i:Nat}{D A:Nat→Prop}(hs:L.size=n)(hi:i<n)(h:∀k,k<n→(L.getD k true=true↔D k∨A k)):∀k,k<n→((L.setIfInBounds i true).getD k true=true↔k=i∨D k∨A k):=by
 intro k hk
 by_cases e:k=i
 ·subst e;simp only[true_or,iff_true];exact sM (by omega)
 ·rw [getD_set_ne true (fun h => e h.symm), h k hk]
  simp[e]
theorem DInv.done(h:DInv C E ops ml ol al s0 dirty D A ρ s L a w)(hal:AlOk C ops al){i:Nat}{o:Oper}(hi:ops[i]? =some o)(hna:i∉al)(hready:i∈Region.ready .any ops L)
  {s':St} {v:Value} {w':World} {dirty':List Nat} (hR:Rel E (a.put o.dst v) w' s')
  (hlbs:∀r,r<w.heap.size→s.mem r=none→s.own r=none→(∀t lb,s.lb t=some lb→lb.blk?≠some r)→s'.mem r=none∧s'.own r=none∧∀t lb,s'.lb t=some lb→lb.blk?≠some r)
  (hheap:∀b,b<w.heap.size→s.own b=none→(∀t lb,s.lb t=some lb→lb.blk?≠some b)→w'.heap[b]? =w.heap[b]?) (hown:i∉ol→s'.own=s.own)
  (henv:∀d,o.dst≠some d→eW s.env d=none→eW s'.env d=none) (hss:SS s0 ml ol (L.setIfInBounds i true) w') (hle:s.mem.Le s'.mem)
  (hv0:∀i sv,eW s'.env i=some sv→V0 s0 sv) (hnx:s.nxt≤s'.nxt)
  (hb:∀t r cs ty,s.lb t=some (.cells r cs ty)→(∃cs' ty',s'.lb t=some (.cells r cs' ty'))∨s'.mem r≠none)
  (hstay:∀t lb,t<s0.nxt→s'.lb t=some lb→∃lb0,s0.lb t=some lb0∧(lb0.alike lb∨(t∈dirty'∧qIy lb0∧qIy lb))):
  DInv C E ops ml ol al s0 dirty' (fun k=>k=i∨D k) A ρ s' (L.setIfInBounds i true) (a.put o.dst v) w':=by
 have hlt:i<ops.size:=(Array.getElem?_eq_some_iff.1 hi).1
 refine⟨hR,by simp[h.size],fun k hk=>?_,h.closed.set hready,fun j hj=>⟨(h.sub j hj).1,fun e=>?_⟩,fun j hj=>?_,h.inj,fun j hj hD oj d hoj hd=>?_,hss,h.le.trans hle,hv0,Nat.le_trans h.nx hnx,fun t r cs ty g=>?_,hstay,fun hx=>?_⟩
 ·rw [qSz h.size hlt h.lst k hk]
  exact or_assoc.symm
 ·rcases e with rfl | e
  ·exact hna (h.sub j hj).1
  ·exact(h.sub j hj).2 e
 ·obtain ⟨oj, t, d, ti, g1, g2, g3, g4, g5, g6, g7, g8, g9, g10⟩ := h.pend j hj
  have hjal:=(h.sub j hj).1
  have hne:o.dst≠some d:=hal.sole j hjal oj d g1 g3 i o hi (fun e=>hna (e ▸ hjal))
  have hr:ρ j<w.heap.size:=(Array.getElem?_eq_some_iff.1 g6).1
  obtain⟨k1,k0,k2⟩:=hlbs _ hr g7 g8 g9
  refine⟨oj,t,d,ti,g1,g2,g3,g4,?_,?_,k1,k0,k2,g10⟩
  ·cases hd : o.dst with
   |none=>exact g5
   |some d'=>
    simp only[Act.put,Array.getElem?_setIfInBounds]
    rw[if_neg (fun e=>hne (by rw[hd,e]))]
    exact g5
  ·rw[hheap _ hr g8 g9];exact g6
 ·have hjD : ¬ D j := fun e => hD (.inr e)
  exact henv d (hal.sole j hj oj d hoj hd i o hi (fun e=>hD (.inl e.symm))) (h.nodst j hj hjD oj d hoj hd)
 ·rcases h.b0 t r cs ty g with ⟨cs', ty', g⟩ | g
  ·exact hb _ _ _ _ g
  ·refine .inr ?_
   cases hm:s.mem r with
   |none=>exact absurd hm g
   |some o=>rw[hle _ _ hm];simp
 ·have hi':i∉ol:=fun e=>by
   have:=hx i e
   rw[sM (by rw[h.size];exact hlt)]at this
   cases this
  rw[hown hi']
  exact h.own0 fun x hxo=>by
   have:=hx x hxo
   have hne:i≠x:=fun e=>hi' (by rw[e];exact hxo)
   rwa [getD_set_ne true hne]at this
end
end Go.Vx
namespace Go.Vx
section
variable {C:Cx} {E:Ent} {ops:Array Oper} {ml:List (Nat×Nat)} {ol:List Nat} {al:List Nat} {s0:St}
variable {dirty:List Nat} {D A:Nat→Prop} {ρ:Nat→Nat} {s:St} {L:Array Bool} {a:Act} {w:World}
theorem Rel.allocW(hR:Rel E a w s)(o:Obj):Rel E a (w.alloc o) s:=by
 have hk:∀b,b<w.heap.size→(w.alloc o).heap[b]? =w.heap[b]?:=fun b hb=>Go.RowKit.Below.heap_alloc w o b hb
 refine⟨hR.defers,hR.size,hR.env,hR.cells,⟨fun b x hb=>by rw[hk b (hR.sees.1.lt (by simp[hb]))];exact hR.sees.1 b x hb,fun t lb h=>LB.fits_congr (fun r hr=>hk r (LB.fits_lt (hR.sees.2 t lb h) hr)) (hR.sees.2 t lb h)⟩,hR.nxt,hR.place,hR.sep,⟨fun b x hb=>by rw[hk b (hR.own.1.lt (by simp[hb]))];exact hR.own.1 b x hb,hR.own.2⟩,hR.mono,hR.fresh,by have:=hR.grow;simp;omega,fun b hb h0=>by rw[hk b (Nat.lt_of_lt_of_le hb hR.grow)];exact hR.keep b hb h0,hR.os,hR.tape,hR.output⟩
theorem Rel.putFree(hR:Rel E a w s){d:Nat}(hd:eW s.env d=none)(v:Value):Rel E (a.put (some d) v) w s:=by
 refine {hR with size:=by simp[Act.put,hR.size],env:=fun i sv h=>⟨?_,(hR.env i sv h).2⟩}
 simp only[Act.put,Array.getElem?_setIfInBounds]
 rw[if_neg (fun e=>by subst e;rw[hd]at h;cases h)]
 exact(hR.env i sv h).1
theorem Rel.adopt(hR:Rel E a w s){d r:Nat}{t:TypeId}{z:List SV}(hd:a.tmps[d]? =some (.pointer (some ⟨r,0,none⟩)))(hz:∀sv∈z,dN s sv)(hh:w.heap[r]? =some (.cells (z.map SV.conc).toArray t (0,0)))
  (h1:s.mem r=none) (h2:s.own r=none) (h3:∀u lb,s.lb u=some lb→lb.blk?≠some r) (h4:E.w0.heap.size≤r):Rel E a w ((s.newB (.cells r z t)).put (some d) (.loc s.nxt r 0)):=by
 have hlb:∀u,St.lb ((s.newB (.cells r z t)).put (some d) (.loc s.nxt r 0)) u=if u=s.nxt then some (.cells r z t)else s.lb u:=fun u=>kU s _ u
 have hok:∀sv,dN s sv→dN ((s.newB (.cells r z t)).put (some d) (.loc s.nxt r 0)) sv:=fun sv h=>pM (s:=s) (Nat.le_succ _) (Mem.Le.refl _) (fun u lb' hu hl=>by
  rw[hlb,if_neg (by omega)]at hl
  exact⟨lb',hl,lb'.alike_refl⟩) h
 refine⟨hR.defers,hR.size,fun i sv h=>?_,fun u r' cs ty h sv hsv=>?_,⟨hR.sees.1,fun u lb h=>?_⟩,fun u lb h=>?_,fun u lb r' h hr=>?_,fun u u' lb lb' r' h h' hr hr'=>?_,hR.own,hR.mono,hR.fresh,hR.grow,hR.keep,hR.os,hR.tape,hR.output⟩
 ·simp only [St.put, bO] at h
  split at h
  ·rename_i e
   cases h
   subst e
   refine⟨hd,Nat.lt_succ_self _,fun lb hl=>?_⟩
   rw[hlb,if_pos rfl]at hl
   cases hl
   exact⟨_,_,rfl⟩
  ·obtain ⟨g1, g2⟩ := hR.env i sv h
   exact⟨g1,hok _ g2⟩
 ·rw [hlb] at h
  split at h
  ·cases h;exact hok _ (hz sv hsv)
  ·exact hok _ (hR.cells u r' cs ty h sv hsv)
 ·rw [hlb] at h
  split at h
  ·cases h;exact hh
  ·exact hR.sees.2 u lb h
 ·rw [hlb] at h
  split at h
  ·rename_i e;subst e;exact Nat.lt_succ_self _
  ·exact Nat.lt_succ_of_lt (hR.nxt u lb h)
 ·rw [hlb] at h
  split at h
  ·cases h
   simp only[LB.blk?,Option.some.injEq]at hr
   subst hr
   exact⟨h1,h2,.inl h4⟩
  ·exact hR.place u lb r' h hr
 ·rw [hlb] at h h'
  split at h
  ·rename_i e
   cases h
   simp only[LB.blk?,Option.some.injEq]at hr
   subst hr
   split at h'
   ·rename_i e';rw[e,e']
   ·exact absurd hr' (h3 u' lb' h')
  ·split at h'
   ·cases h'
    simp only[LB.blk?,Option.some.injEq]at hr'
    subst hr'
    exact absurd hr (h3 u lb h)
   ·exact hR.sep u u' lb lb' r' h h' hr hr'
theorem DInv.born(h:DInv C E ops ml ol al s0 dirty D A ρ s L a w)(hal:AlOk C ops al){j:Nat}{o:Oper}{t d:Nat}{ti:TI}(hj:j∈al)(hjD:¬D j)(hjA:¬A j)(ho:ops[j]? =some o)(hop:o.op= .alloc t)(hd:o.dst=some d)(hdn:d<E.n)(hti:eW C.tt t=some ti)
  (hnml:∀t,(j,t)∉ml) (hnol:j∉ol) (hready:j∈Region.ready .any ops L):
  DInv C E ops ml ol al s0 dirty D (fun k=>k=j∨A k) (fun k=>if k=j then w.heap.size else ρ k) s (L.setIfInBounds j true) (a.put o.dst (.pointer (some ⟨w.heap.size,0,none⟩))) (w.alloc (.cells ti.zero.toArray t)):=by
 have hlt:j<ops.size:=(Array.getElem?_eq_some_iff.1 ho).1
 have hkp:∀b,b<w.heap.size→(w.alloc (.cells ti.zero.toArray t)).heap[b]? =w.heap[b]?:=fun b hb=>Go.RowKit.Below.heap_alloc w _ b hb
 have hnd:=h.nodst j hj hjD o d ho hd
 refine⟨?_,by simp[h.size],fun k hk=>?_,h.closed.set hready,fun k hk=>?_,fun k hk=>?_,fun x y hx hy e=>?_,h.nodst,?_,h.le,h.v0,h.nx,h.b0,h.stay,fun hx=>h.own0 fun x hxo=>by have:=hx x hxo;have hne:j≠x:=(fun e=>hnol (by rw[e];exact hxo));rwa [getD_set_ne true hne]at this⟩
 ·rw [hd]
  exact(h.rel.allocW _).putFree hnd _
 ·rw [qSz h.size hlt h.lst k hk]
  constructor
  ·rintro (e | e | e)
   ·exact .inr (.inl e)
   ·exact .inl e
   ·exact .inr (.inr e)
  ·rintro (e | e | e)
   ·exact .inr (.inl e)
   ·exact .inl e
   ·exact .inr (.inr e)
 ·rcases hk with rfl | hk
  ·exact⟨hj,hjD⟩
  ·exact h.sub k hk
 ·by_cases e : k = j
  ·subst e
   refine⟨o,t,d,ti,ho,hop,hd,hti,?_,?_,?_,?_,?_,?_⟩
   ·simp only [if_true, hd, Act.put, Array.getElem?_setIfInBounds]
    rw[if_pos (by rw[h.rel.size];exact hdn)]
   ·simp only[if_true];exact mN w _
   ·simp only[if_true];exact(h.rel.mem_none (Nat.le_refl _)).1
   ·simp only[if_true];exact(h.rel.mem_none (Nat.le_refl _)).2
   ·simp only [if_true]
    intro u lb hl hr
    have:=LB.fits_lt (h.rel.sees.2 u lb hl) hr
    omega
   ·simp only[if_true];exact h.rel.grow
  ·have hA : A k := hk.resolve_left e
   obtain⟨ok,t',d',ti',g1,g2,g3,g4,g5,g6,g7,g8,g9,g10⟩:=h.pend k hA
   simp only[if_neg e]
   have hr:ρ k<w.heap.size:=(Array.getElem?_eq_some_iff.1 g6).1
   refine⟨ok,t',d',ti',g1,g2,g3,g4,?_,by rw[hkp (ρ k) hr];exact g6,g7,g8,g9,g10⟩
   have hne:o.dst≠some d':=hal.sole k (h.sub k hA).1 ok d' g1 g3 j o ho (fun x=>e x.symm)
   simp only[hd,Act.put,Array.getElem?_setIfInBounds]
   rw[if_neg (fun x=>hne (by rw[hd,x]))]
   exact g5
 ·have hb:∀k,A k→ρ k≠w.heap.size:=fun k hk=>by
   obtain⟨_,_,_,_,_,_,_,_,_,g6,_⟩:=h.pend k hk
   have:=(Array.getElem?_eq_some_iff.1 g6).1
   omega
  split at e<;>split at e<;>rename_i e1 e2
  ·rw[e1,e2]
  ·exact absurd e.symm (hb y (hy.resolve_left e2))
  ·exact absurd e (hb x (hx.resolve_left e1))
  ·exact h.inj x y (hx.resolve_left e1) (hy.resolve_left e2) e
 ·rw [qAu hnml hnol]
  refine⟨fun b x hb=>by rw[hkp b (h.ss.1.lt (by simp[hb]))];exact h.ss.1 b x hb,fun t r cs ty g1 g2=>?_,fun hx b o hb=>?_⟩
  ·have := h.ss.2.1 t r cs ty g1 g2
   exact LB.fits_congr (fun r' hr'=>hkp r' (LB.fits_lt this hr')) this
  ·have := h.ss.2.2 hx
   rw[hkp b (this.lt (by simp[hb]))]
   exact this b o hb
theorem DInv.adopt(h:DInv C E ops ml ol al s0 dirty D A ρ s L a w)(hal:AlOk C ops al)(hs0:∀t lb,s0.lb t=some lb→t<s0.nxt)(hos0:C.os=[]){j:Nat}{o:Oper}(hA:A j)(ho:ops[j]? =some o){K:St→Prop}(hv:qSl C o s K):
  ∃s',K s'∧DInv C E ops ml ol al s0 dirty (fun k=>k=j∨D k) (fun k=>k≠j∧A k) ρ s' L a w:=by
 obtain⟨oj,t,d,ti,g1,g2,g3,g4,g5,g6,g7,g8,g9,g10⟩:=h.pend j hA
 rw[ho]at g1
 cases g1
 obtain⟨_,hv⟩:=uP hv
 simp only[g2]at hv
 obtain⟨ti',k1,k2⟩:=bZ hv
 rw[g4]at k1
 cases k1
 have hmo:qVk o.dst C.os=false:=by rw[hos0,g3];rfl
 simp only[hmo]at k2
 rw[qGk]at k2
 have k3:=k2 (ρ j)
 rw[yW,fP,g3]at k3
 have hlb:∀u,St.lb ((s.newB (.cells (ρ j) (vals ti.zero) t)).put (some d) (.loc s.nxt (ρ j) 0)) u=if u=s.nxt then some (.cells (ρ j) (vals ti.zero) t)else s.lb u:=fun u=>kU s _ u
 refine⟨_,k3,h.rel.adopt g5 (fun sv hsv=>vals_ok s _ sv hsv) (by rw[uS];exact g6) g7 g8 g9 g10,h.size,fun k hk=>?_,h.closed,fun k hk=>?_,fun k hk=>?_,fun x y hx hy=>h.inj x y hx.2 hy.2,fun k hk hD ok d' hok hd'=>?_,h.ss,h.le,fun i sv hi=>?_,Nat.le_succ_of_le h.nx,fun u r cs ty g=>?_,fun u lb hu hl=>?_,h.own0⟩
 ·rw [h.lst k hk]
  by_cases e:k=j
  ·subst e;simp[hA]
  ·simp[e]
 ·refine ⟨(h.sub k hk.2).1, ?_⟩
  rintro(e|e)
  ·exact hk.1 e
  ·exact(h.sub k hk.2).2 e
 ·obtain ⟨ok, t', d', ti', m1, m2, m3, m4, m5, m6, m7, m8, m9, m10⟩ := h.pend k hk.2
  refine⟨ok,t',d',ti',m1,m2,m3,m4,m5,m6,m7,m8,fun u lb hl hr=>?_,m10⟩
  rw[hlb]at hl
  split at hl
  ·cases hl
   simp only[LB.blk?,Option.some.injEq]at hr
   exact hk.1 (h.inj j k hA hk.2 hr).symm
  ·exact m9 u lb hl hr
 ·have hne : k ≠ j := fun e => hD (.inl e)
  have hD':¬D k:=fun e=>hD (.inr e)
  have hdd:d'≠d:=fun e=>by
   have:=hal.sole k hk ok d' hok hd' j o ho (fun e=>hne e.symm)
   rw[g3,e]at this
   exact this rfl
  simp only[St.put,bO]
  rw[if_neg hdd]
  exact h.nodst k hk hD' ok d' hok hd'
 ·simp only [St.put, bO] at hi
  split at hi
  ·cases hi
   intro r' cs ty g
   have:=hs0 _ _ g
   have:=h.nx
   omega
  ·exact h.v0 i sv hi
 ·rcases h.b0 u r cs ty g with ⟨cs', ty', k⟩ | k
  ·refine .inl ⟨cs', ty', ?_⟩
   rw[hlb,if_neg (by have:=h.rel.nxt _ _ k;omega)]
   exact k
  ·exact .inr k
 ·rw [hlb, if_neg (by have := h.nx; omega)] at hl
  exact h.stay u lb hu hl
theorem DInv.adoptAll(hal:AlOk C ops al)(hs0:∀t lb,s0.lb t=some lb→t<s0.nxt)(hos0:C.os=[]):∀(js:List Nat) {D A:Nat→Prop} {s:St} {K:St→Prop},DInv C E ops ml ol al s0 dirty D A ρ s L a w→(∀j∈js,A j)→js.Nodup→qJf C ops.toList js s K→
  ∃s',K s'∧DInv C E ops ml ol al s0 dirty (fun k=>k∈js∨D k) (fun k=>k∉js∧A k) ρ s' L a w
 |[],D,A,s,K,h,_,_,hv=>⟨s,hv,h.congr (fun i=>by simp) (fun i=>by simp)⟩
 |j::js,D,A,s,K,h,hA,hn,hv=>by
  simp only[qJf]at hv
  split at hv
  ·rename_i o ho
   obtain⟨hn1,hn2⟩:=List.nodup_cons.1 hn
   obtain⟨s1,k1,h1⟩:=h.adopt hal hs0 hos0 (hA j (by simp)) (by simpa using ho) hv
   obtain⟨s2,k2,h2⟩:=DInv.adoptAll hal hs0 hos0 js h1 (fun k hk=>⟨fun e=>hn1 (e ▸ hk),hA k (by simp[hk])⟩) hn2 k1
   refine⟨s2,k2,h2.congr (fun i=>?_) (fun i=>?_)⟩
   ·simp only [List.mem_cons]
    constructor
    ·rintro (e | e | e)
     ·exact .inl (.inr e)
     ·exact .inl (.inl e)
     ·exact .inr e
    ·rintro ((e | e) | e)
     ·exact .inr (.inl e)
     ·exact .inl e
     ·exact .inr (.inr e)
   ·simp only [List.mem_cons, not_or]
    constructor
    ·rintro⟨e1,e2,e3⟩;exact⟨⟨e2,e1⟩,e3⟩
    ·rintro⟨⟨e1,e2⟩,e3⟩;exact⟨e2,e1,e3⟩
  ·exact hv.elim
end
end Go.Vx
namespace Go.Vx
section
variable {C:Cx} {E:Ent} {ops:Array Oper} {ml:List (Nat×Nat)} {ol:List Nat} {al:List Nat} {s0:St}
def rem(n:Nat)(L:Array Bool):Nat:=((List.range n).filter fun i=>L.getD i true==false).length
theorem qTg{n i:Nat}{L:Array Bool}(hs:L.size=n)(hi:i<n)(hL:L.getD i true=false):rem n (L.setIfInBounds i true)+1=rem n L:=by
 unfold rem
 have e:((List.range n).filter fun k=>L.getD k true==false)=((List.range n).filter fun k=>k==i||((L.setIfInBounds i true).getD k true==false)):=by
  apply List.filter_congr
  intro k hk
  by_cases hki:k=i
  ·subst hki;simp[hL]
  ·rw [getD_set_ne true (fun e => hki e.symm)]
   simp[hki]
 rw[e]
 have key:∀l:List Nat,l.Nodup→i∈l→(l.filter fun k=>k==i||((L.setIfInBounds i true).getD k true==false)).length=(l.filter fun k=>(L.setIfInBounds i true).getD k true==false).length+1:=by
  have hii:(L.setIfInBounds i true).getD i true=true:=sM (by omega)
  intro l
  induction l with
  |nil=>intro _ h;cases h
  |cons x l ih=>
   intro hn hm
   obtain⟨h1,h2⟩:=List.nodup_cons.1 hn
   by_cases hx:x=i
   ·subst hx
    rw[List.filter_cons_of_pos (by simp),List.filter_cons_of_neg (by simp[hii])]
    simp only[List.length_cons]
    congr 2
    apply List.filter_congr
    intro k hk
    have:k≠x:=fun e=>h1 (e ▸ hk)
    simp[this]
   ·have hm':i∈l:=by
     rcases List.mem_cons.1 hm with e|h
     ·exact absurd e.symm hx
     ·exact h
    have ih:=ih h2 hm'
    by_cases hg:(L.setIfInBounds i true).getD x true=false
    ·rw [List.filter_cons_of_pos (by simp [hg]), List.filter_cons_of_pos (by simp [hg])]
     simp only[List.length_cons,ih]
    ·rw [List.filter_cons_of_neg (by simp [hx]; simpa using hg), List.filter_cons_of_neg (by simpa using hg)]
     exact ih
 exact(key _ List.nodup_range (by simpa using hi)).symm
theorem qVo{n:Nat}{L:Array Bool}(h:rem n L=0)(i:Nat)(hi:i<n):L.getD i true=true:=by
 unfold rem at h
 have:=List.eq_nil_of_length_eq_zero h
 rw[List.filter_eq_nil_iff]at this
 have:=this i (by simpa using hi)
 simpa using this
theorem needOf_spec{done:List Nat}{es:List Edge}:∀{l:List Nat} {j:Nat},j∈lB done es l↔j∈l∧j∉done∧qBz j es=true
 |[],j=>by simp[lB]
 |x::r,j=>by
  have ih:=needOf_spec (done:=done) (es:=es) (l:=r) (j:=j)
  simp only[lB]
  split
  ·rename_i h1 h2
   rw[memN_false]at h1
   rw[List.mem_cons,ih,List.mem_cons]
   constructor
   ·rintro (rfl | ⟨a, b⟩)
    ·exact⟨.inl rfl,h1,h2⟩
    ·exact⟨.inr a,b⟩
   ·rintro ⟨rfl | a, b⟩
    ·exact .inl rfl
    ·exact .inr ⟨a,b⟩
  ·rename_i h
   rw[ih,List.mem_cons]
   constructor
   ·rintro⟨a,b⟩;exact⟨.inr a,b⟩
   ·rintro ⟨rfl | a, b1, b2⟩
    ·exact(h (memN_false.2 b1) b2).elim
    ·exact⟨a,b1,b2⟩
theorem qAd{done:List Nat}{es:List Edge}:∀{l:List Nat},l.Nodup→(lB done es l).Nodup
 |[],_=>by simp[lB]
 |x::r,h=>by
  obtain⟨h1,h2⟩:=List.nodup_cons.1 h
  simp only[lB]
  split
  ·exact List.nodup_cons.2 ⟨fun e=>h1 (needOf_spec.1 e).1,qAd h2⟩
  ·exact qAd h2
theorem undone_spec{done:List Nat}:∀{l:List Nat} {j:Nat},j∈uA done l↔j∈l∧j∉done
 |[],j=>by simp[uA]
 |x::r,j=>by
  have ih:=undone_spec (done:=done) (l:=r) (j:=j)
  simp only[uA]
  split
  ·rename_i h
   rw[memN_iff]at h
   rw[ih,List.mem_cons]
   constructor
   ·rintro⟨a,b⟩;exact⟨.inr a,b⟩
   ·rintro ⟨rfl | a, b⟩
    ·exact absurd h b
    ·exact⟨a,b⟩
  ·rename_i h
   rw[memN_false]at h
   rw[List.mem_cons,ih,List.mem_cons]
   constructor
   ·rintro (rfl | ⟨a, b⟩)
    ·exact⟨.inl rfl,h⟩
    ·exact⟨.inr a,b⟩
   ·rintro ⟨rfl | a, b⟩
    ·exact .inl rfl
    ·exact .inr ⟨a,b⟩
theorem uK{done:List Nat}:∀{l:List Nat},l.Nodup→(uA done l).Nodup
 |[],_=>by simp[uA]
 |x::r,h=>by
  obtain⟨h1,h2⟩:=List.nodup_cons.1 h
  simp only[uA]
  split
  ·exact uK h2
  ·exact List.nodup_cons.2 ⟨fun e=>h1 (undone_spec.1 e).1,uK h2⟩
theorem uV:∀{l:List Oper} {k:Nat},(mM k l).Nodup
 |[],_=>by simp[mM]
 |o::r,k=>by
  simp only[mM]
  split
  ·refine List.nodup_cons.2 ⟨fun e => ?_, uV⟩
   obtain⟨_,h,_⟩:=allocIdx_spec.1 e
   omega
  ·exact uV
theorem qIb{s0:St}{ml:List (Nat×Nat)}{i:Nat}:∀{l:List Nat},qEg s0 ml i l=true→∀t∈l,∀r cs ty,s0.lb t=some (.cells r cs ty)→(i,t)∈ml
 |[],_,t,h=>by cases h
 |u::l,h,t,ht=>by
  intro r cs ty hl
  rcases List.mem_cons.1 ht with rfl|ht
  ·simp only [qEg, hl] at h
   split at h
   ·rename_i hm;exact qMv hm
   ·cases h
  ·refine qIb (l := l) ?_ t ht r cs ty hl
   simp only[qEg]at h
   split at h
   ·split at h
    ·exact h
    ·cases h
   ·exact h
theorem qQa{s0 s:St}{d:Nat}{sv:SV}(h:qOc s0 (s.put (some d) sv) (some d)=true):V0 s0 sv:=by
 simp only[qOc,St.put,bO,if_true]at h
 cases sv with
 |val v=>trivial
 |kn b=>trivial
 |elem a cs o=>cases h
 |loc t r off=>
  intro r' cs ty hl
  simp only[hl]at h
  cases h
 |row t b n c=>
  intro r cs ty hl
  simp only[hl]at h
  cases h
 |rel t b e j o=>
  intro r cs ty hl
  simp only[hl]at h
  cases h
variable {dirty:List Nat} {A:Nat→Prop} {ρ:Nat→Nat} {s:St} {L:Array Bool} {a:Act} {w:World}
theorem qQu{n:Nat}{dirty done:List Nat}{s:St}{K:St→Prop}{ops:List Oper}:vcD C ops ml ol al s0 (n+1) dirty done s K=(match qEb (lateB ops ol) done 0 ops with
  |some i=>(match ops[i]? with
   | some o => okK (qPo ops.toArray done i o 0 ops) <| qLo C.n o.dst <| qBj ops o s
     (fun s=>qDq C (qIm ops ml ol s0 s i) o.op fun sv=>okK (qFe dirty sv) <| pJ s o.dst sv fun s=>vcD C ops ml ol al s0 n dirty (i::done) s K)
     (fun s=>pJ s o.dst (.val undef) fun s=>vcD C ops ml ol al s0 n dirty (i::done) s K)
   |none=>False)
  |none=>(match sK done al 0 ops with
   |[]=>qJf C ops (uA done al) s K
   |c::cs=>qSt (c::cs) fun i=>(match ops[i]? with
    | some o => qLo C.n o.dst <| qJf C ops (lB done o.after.toList al) s fun s => qBj ops o s
      (fun s=>okK (qEg s0 ml i (xV s o.op)) <| okK (owOk ol i (qLt s o.op)) <| qSl C o s fun s'=>okK (qOc s0 s' o.dst) <| vcD C ops ml ol al s0 n (xV s o.op++dirty) (i::(lB done o.after.toList al++done)) s' K)
      (fun s=>pJ s o.dst (.val undef) fun s=>vcD C ops ml ol al s0 n dirty (i::(lB done o.after.toList al++done)) s K)
    |none=>False))):=rfl
theorem qUm(htt:TTok C.P C.tt)(hn:C.n=E.n)(hos:C.dr=true→C.os=[])(hdr:C.dr=true)(hol:∀x∈ol,∃o,ops[x]? =some o∧xD o.op=false∧kF o=false)(hsel:∀(j:Nat) (o:Oper) cs b,ops[j]? =some o→o.op≠.select cs b){sm:St}(hml:qEf ops.toList sm 0 ops.toList=some ml)(hal:AlOk C ops al)(haln:al.Nodup)
  (hs0:∀t lb,s0.lb t=some lb→t<s0.nxt) (hb0:qHl s0) {Q:Exit→Act→World→Prop} (hQ:∀c a a' w,Q (.panic c) a w→Q (.panic c) a' w) {K:St→Prop} (hK:∀a' w' s',K s'→Rel E a' w' s'→Q .normal a' w'):
  ∀(m n:Nat) (dirty done:List Nat) (A:Nat→Prop) (ρ:Nat→Nat) (s:St) (L:Array Bool) (a:Act) (w:World),(∀j∈done,j<ops.size)→rem ops.size L=m→DInv C E ops ml ol al s0 dirty (·∈done) A ρ s L a w→vcD C ops.toList ml ol al s0 n dirty done s K→
   qUu C.P ops Q (SS s0 ml ol) m L a w:=by
 have hstore:∀x t,(x,t)∈ml→∃o ty p q,ops[x]? =some o∧o.op= .store ty p q:=fun x t h=>by
  obtain⟨o,ty,p,q,_,h2,h3⟩:=qIa hml x t h
  exact⟨o,ty,p,q,by simpa using h2,h3⟩
 have halml:∀j∈al,∀t,(j,t)∉ml:=fun j hj t h=>by
  obtain⟨o,ty,p,q,h1,h2⟩:=hstore j t h
  obtain⟨o',g1,g2⟩:=(hal.spec j).1 hj
  rw[h1]at g1
  cases g1
  obtain⟨_,_,g3,_⟩:=qQ g2
  rw[h2]at g3
  cases g3
 intro m
 induction m with
 |zero=>
  intro n dirty done A ρ s L a w hdn hrem hI hv
  have hall:=qVo hrem
  refine⟨?_,?_⟩
  ·rw [List.eq_nil_iff_forall_not_mem]
   intro j hj
   obtain⟨h0,o,ho,_⟩:=mem_ready.1 hj
   rw[hall j (Array.getElem?_eq_some_iff.1 ho).1]at h0
   cases h0
  ·match n with
   |0=>exact hv.elim
   |n+1=>
    have hda:∀j,j<ops.size→j∉al→j∈done:=fun j hj h=>by
     rcases(hI.lst j hj).1 (hall j hj)with h|h
     ·exact h
     ·exact absurd (hI.sub j h).1 (by assumption)
    rw[qQu]at hv
    split at hv
    ·rename_i i hq
     obtain⟨o,_,h2,h3,h4,_⟩:=qBh hq
     have h2:ops[i]? =some o:=by simpa using h2
     exfalso
     refine h4 (hda i (Array.getElem?_eq_some_iff.1 h2).1 fun e=>?_)
     obtain⟨o',g1,g2⟩:=(hal.spec i).1 e
     rw[h2]at g1
     cases g1
     obtain⟨_,_,g3,_⟩:=qQ g2
     rw[g3]at h3
     cases h3
    ·have hc:sK done al 0 ops.toList=[]:=by
      rw[List.eq_nil_iff_forall_not_mem]
      intro j hj
      obtain⟨o,_,h2,h3,h4,_⟩:=candsOf_spec.1 hj
      exact h3 (hda j (Array.getElem?_eq_some_iff.1 (show ops[j]? =some o by simpa using h2)).1 h4)
     rw[hc]at hv
     simp only at hv
     obtain⟨s',k1,h1⟩:=hI.adoptAll hal hs0 (hos hdr) (uA done al) (fun j hj=>by
      obtain⟨g1,g2⟩:=undone_spec.1 hj
      obtain⟨o',g3,_⟩:=(hal.spec j).1 g1
      have hj:j<ops.size:=(Array.getElem?_eq_some_iff.1 g3).1
      exact((hI.lst j hj).1 (hall j hj)).resolve_left g2) (uK haln) hv
     exact hK _ _ _ k1 h1.rel
 |succ m ih=>
  intro n dirty done A ρ s L a w hdn hrem hI hv
  match n with
  |0=>exact hv.elim
  |n+1=>
   have hv0:=hv
   rw[qQu]at hv
   split at hv
   ·-- an operation that only reads is taken first
    rename_i i hq
    obtain⟨o,_,h2,h3,h4,h5⟩:=qBh hq
    have h2:ops[i]? =some o:=by simpa using h2
    have hio:ops.toList[i]? =some o:=by simpa using h2
    simp only[hio]at hv
    obtain⟨hfree,hv⟩:=vX hv
    obtain⟨hd,hv⟩:=uP hv
    rw[hn]at hd
    have hlt:i<ops.size:=(Array.getElem?_eq_some_iff.1 h2).1
    have hna:i∉al:=fun e=>by
     obtain⟨o',g1,g2⟩:=(hal.spec i).1 e
     rw[h2]at g1
     cases g1
     obtain⟨_,_,g3,_⟩:=qQ g2
     rw[g3]at h3
     cases h3
    have hun:L.getD i true=false:=by
     cases hL:L.getD i true with
     |false=>rfl
     |true=>
      rcases(hI.lst i hlt).1 hL with h|h
      ·exact absurd h h4
      ·exact absurd (hI.sub i h).1 hna
    have hready:i∈Region.ready .any ops L:=mem_ready.2 ⟨hun,o,h2,fun e he hb=>by
     have hm:=depsIn_iff.1 h5 e (by simpa using he) hb
     by_cases hes:e.on<ops.size
     ·have := (hI.lst e.on hes).2 (.inl hm)
      have hsz:e.on<L.size:=by rw[hI.size];exact hes
      simpa[hsz]using this
     ·exact absurd (hdn _ hm) hes⟩
    have himl:∀t,(i,t)∉ml:=fun t h=>by
     obtain⟨o',ty,p,q,g1,g2⟩:=hstore i t h
     rw[h2]at g1
     cases g1
     rw[g2]at h3
     cases h3
    have hiol:i∉ol:=fun e=>by
     obtain⟨o',g1,g2,_⟩:=hol i e
     rw[h2]at g1
     cases g1
     rw[h3]at g2
     cases g2
    have hrem':rem ops.size (L.setIfInBounds i true)=m:=by have:=qTg hI.size hlt hun;omega
    have hfree':∀j oj,ops[j]? =some oj→j≠i→L.getD j true=false→(∀e∈oj.after,Region.binds .any e=true→e.on≠i)→o.apart ops oj=true:=fun j oj hj hji hL hno=>
     qJw (ops:=ops) (by simpa using hfree) j oj (Nat.zero_le _) (by simpa using hj) (fun e=>by
      rw[(hI.lst j (Array.getElem?_eq_some_iff.1 hj).1).2 (.inl e)]at hL;cases hL) hji hno
    rcases zQ hI.rel hv with⟨hw,s1,k1,hR1,hk⟩|⟨hw,s1,k1,hR1,hk⟩
    ·have hI1 := hI.know hR1 hk
     obtain⟨sv,⟨k2,k3⟩,k4,k5⟩:=qIl htt (hI1.envOk i) (qSn hb0 i) (qSm k1)
     obtain⟨hcl,k2⟩:=vX k2
     rw[fP]at k2
     obtain⟨g1,g2⟩:=hI1.orig hb0 k3 hcl
     refine qJc h2 hsel (fun c a' w' h=>hQ c _ _ _ h) (fun L w=>qAu himl hiol L w) m L a w hfree' hI.closed hready (.inl ⟨hw,fun w' hp=>k5 w' (qUn hp)⟩) hI.ss ?_
     refine ih n dirty (i::done) A ρ _ _ _ w (fun k hk=>(List.mem_cons.1 hk).elim (fun e=>e ▸ hlt) (hdn k)) hrem' ?_ k2
     refine(hI1.done hal h2 hna hready (s':=s1.put o.dst sv) (v:=sv.conc) (w':=w) (dirty':=dirty) (hR1.put hd g1) (fun r _ h1 h0 h2=>?_) (fun _ _ _ _=>rfl) (fun _=>?_) (fun d hdd hnone=>?_) ((qAu himl hiol L w).2 hI.ss) ?_ (fun k x hx=>?_) ?_ (fun t r cs ty h=>?_) (fun t lb ht h=>?_)).congr (fun k=>by simp) (fun k=>Iff.rfl)
     ·cases hdst:o.dst<;>exact⟨h1,h0,h2⟩
     ·cases o.dst<;>rfl
     ·cases hdst : o.dst with
      |none=>exact hnone
      |some d'=>
       simp only[St.put,bO]
       rw[if_neg (fun e=>hdd (by rw[hdst,e]))]
       exact hnone
     ·cases o.dst<;>exact Mem.Le.refl _
     ·cases hdst : o.dst with
      |none=>rw[hdst]at hx;exact hI1.v0 k x hx
      |some d'=>
       rw[hdst]at hx
       simp only[St.put,bO]at hx
       split at hx
       ·cases hx;exact g2
       ·exact hI1.v0 k x hx
     ·cases o.dst<;>exact Nat.le_refl _
     ·cases o.dst<;>exact .inl ⟨_,_,h⟩
     ·cases hdst:o.dst<;>(rw[hdst]at h;exact hI1.stay t lb ht h)
    ·have hI1 := hI.know hR1 hk
     rw[fP]at k1
     refine qJc h2 hsel (fun c a' w' h=>hQ c _ _ _ h) (fun L w=>qAu himl hiol L w) m L a w hfree' hI.closed hready (.inr ⟨hw,rfl⟩) hI.ss ?_
     refine ih n dirty (i::done) A ρ _ _ _ w (fun k hk=>(List.mem_cons.1 hk).elim (fun e=>e ▸ hlt) (hdn k)) hrem' ?_ k1
     refine(hI1.done hal h2 hna hready (s':=s1.put o.dst (.val undef)) (v:=undef) (w':=w) (dirty':=dirty) (hR1.put (sv:= .val undef) hd trivial) (fun r _ h1 h0 h2=>?_) (fun _ _ _ _=>rfl) (fun _=>?_) (fun d hdd hnone=>?_) ((qAu himl hiol L w).2 hI.ss) ?_ (fun k x hx=>?_) ?_ (fun t r cs ty h=>?_) (fun t lb ht h=>?_)).congr (fun k=>by simp) (fun k=>Iff.rfl)
     ·cases hdst:o.dst<;>exact⟨h1,h0,h2⟩
     ·cases o.dst<;>rfl
     ·cases hdst : o.dst with
      |none=>exact hnone
      | some d' =>
        simp only[St.put,bO]
        rw[if_neg (fun e=>hdd (by rw[hdst,e]))]
        exact hnone
     ·cases o.dst<;>exact Mem.Le.refl _
     ·cases hdst : o.dst with
      |none=>rw[hdst]at hx;exact hI1.v0 k x hx
      |some d'=>
       rw[hdst]at hx
       simp only[St.put,bO]at hx
       split at hx
       ·cases hx;trivial
       ·exact hI1.v0 k x hx
     ·cases o.dst<;>exact Nat.le_refl _
     ·cases o.dst<;>exact .inl ⟨_,_,h⟩
     ·cases hdst:o.dst<;>(rw[hdst]at h;exact hI1.stay t lb ht h)
   ·-- the one that comes next,or new variables
    have hready:∀j∈al,L.getD j true=false→j∈Region.ready .any ops L:=fun j hj h=>by
     obtain⟨o,g1,g2⟩:=(hal.spec j).1 hj
     obtain⟨_,_,_,_,_,g3⟩:=qQ g2
     refine mem_ready.2 ⟨h,o,g1,fun e he=>?_⟩
     have:o.after= #[]:=by apply Array.ext';simpa using g3
     rw[this]at he
     simp at he
    have hlisted:∀{j},L.getD j false=true→j∈done∨A j:=fun {j} h=>by
     have hj:j<L.size:=by
      rcases Nat.lt_or_ge j L.size with h'|h'
      ·exact h'
      ·simp[Array.getElem?_eq_none h']at h
     exact(hI.lst j (by rw[←hI.size];exact hj)).1 (by simpa[hj]using h)
    have hlist:∀{j},j<ops.size→(j∈done∨A j)→L.getD j false=true:=fun {j} hj h=>by
     have:=(hI.lst j hj).2 h
     have hsz:j<L.size:=by rw[hI.size];exact hj
     simpa[hsz]using this
    refine⟨fun hr=>?_,fun j hj=>?_⟩
    ·-- all have come up
     have hall:∀j∈al,j∉done→A j:=fun j hj hd=>by
      obtain⟨o,g1,_⟩:=(hal.spec j).1 hj
      cases hL:L.getD j true with
      |false=>have:=hready j hj hL;rw[hr]at this;cases this
      |true=>exact((hI.lst j (Array.getElem?_eq_some_iff.1 g1).1).1 hL).resolve_left hd
     split at hv
     ·obtain ⟨s', k1, h1⟩ := hI.adoptAll hal hs0 (hos hdr) (uA done al) (fun j hj => hall j (undone_spec.1 hj).1 (undone_spec.1 hj).2) (uK haln) hv
      exact hK _ _ _ k1 h1.rel
     ·rename_i i cs hc
      exfalso
      have hi:i∈sK done al 0 ops.toList:=by rw[hc];simp
      obtain⟨o,_,g1,g2,g3,g4⟩:=candsOf_spec.1 hi
      have g1:ops[i]? =some o:=by simpa using g1
      have hir:i∈Region.ready .any ops L:=by
       refine mem_ready.2 ⟨?_,o,g1,fun e he hb=>?_⟩
       ·cases hL : L.getD i true with
        |false=>rfl
        |true=>
         rcases(hI.lst i (Array.getElem?_eq_some_iff.1 g1).1).1 hL with h|h
         ·exact absurd h g2
         ·exact absurd (hI.sub i h).1 g3
       ·have hm := depsIn_iff.1 g4 e (by simpa using he) hb
        by_cases hd:e.on∈done
        ·exact hlist (hdn _ hd) (.inl hd)
        ·have ha : e.on ∈ al := (List.mem_append.1 hm).resolve_right hd
         obtain⟨o',g5,_⟩:=(hal.spec _).1 ha
         exact hlist (Array.getElem?_eq_some_iff.1 g5).1 (.inr (hall _ ha hd))
      rw[hr]at hir
      cases hir
    ·obtain ⟨hun, o, ho, hdeps⟩ := mem_ready.1 hj
     have hlt:j<ops.size:=(Array.getElem?_eq_some_iff.1 ho).1
     have hrem':rem ops.size (L.setIfInBounds j true)=m:=by have:=qTg hI.size hlt hun;omega
     have hjd:j∉done:=fun e=>by rw[(hI.lst j hlt).2 (.inl e)]at hun;cases hun
     have hjA:¬A j:=fun e=>by rw[(hI.lst j hlt).2 (.inr e)]at hun;cases hun
     by_cases hja:j∈al
     ·-- a new variable
      obtain⟨o',g1,g2⟩:=(hal.spec j).1 hja
      rw[ho]at g1
      cases g1
      obtain⟨t,d,hop,hg,hd,-⟩:=qQ g2
      obtain⟨ti,hti⟩:=hal.tt j hja o t ho hop
      have hdl:d<E.n:=by rw[←hn];exact hal.dst j hja o d ho hd
      obtain⟨z,hz,hrun⟩:=(htt.get hti).run_zero w
      have hB:=hI.born hal hja hjd hjA ho hop hd hdl hti (halml j hja) (fun e=>by obtain⟨o',k1,_,k2⟩:=hol j e;rw[ho]at k1;cases k1;rw[g2]at k2;cases k2) hj
      have hzc:z.cells=ti.zero.toArray:=by apply Array.ext';rw[cM,hz]
      unfold wpOp
      simp only[ho]
      have hw:Region.wanted o (yielded ops a.tmps)=true:=by simp[Region.wanted,hg]
      rw[if_pos hw]
      refine .inl ?_
      unfold Oper.wp
      have he:(execOp a.eval o).run C.P w= .ok (.value (.pointer (some ⟨w.heap.size,0,none⟩))) (w.alloc (.cells ti.zero.toArray t)):=by
       simp only[execOp,hop,Instr.alloc,Sem.run_bind,hrun,Result.andThen_ok,←hzc]
       rfl
      rw[he]
      exact⟨hB.ss,ih (n+1) dirty done _ _ s _ _ _ hdn hrem' hB hv0⟩
     ·-- the one that comes next
      have hjc:j∈sK done al 0 ops.toList:=candsOf_spec.2 ⟨o,Nat.zero_le _,by simpa using ho,hjd,hja,depsIn_iff.2 fun e he hb=>by
       rw[List.mem_append]
       rcases hlisted (hdeps e (by simpa using he) hb)with h|h
       ·exact .inr h
       ·exact .inl (hI.sub _ h).1⟩
      split at hv
      ·rename_i hc;rw[hc]at hjc;cases hjc
      rename_i c cs hc
      rw[←hc]at hv
      replace hv:=qTk hv j hjc
      have hjo:ops.toList[j]? =some o:=by simpa using ho
      simp only[hjo]at hv
      obtain⟨hd,hv⟩:=uP hv
      rw[hn]at hd
      have hneed:∀k∈lB done o.after.toList al,A k:=fun k hk=>by
       obtain⟨g1,g2,g3⟩:=needOf_spec.1 hk
       obtain⟨e,he,g4,g5⟩:=onEdge_iff.1 g3
       subst g5
       exact(hlisted (hdeps e (by simpa using he) g4)).resolve_left g2
      obtain⟨s1,k1,hI1⟩:=hI.adoptAll hal hs0 (hos hdr) _ hneed (qAd haln) hv
      have hdn':∀k∈j::(lB done o.after.toList al++done),k<ops.size:=fun k hk=>by
       rcases List.mem_cons.1 hk with e|hk
       ·exact e ▸ hlt
       ·rcases List.mem_append.1 hk with hk | hk
        ·obtain ⟨o', g1, _⟩ := (hal.spec k).1 (needOf_spec.1 hk).1
         exact(Array.getElem?_eq_some_iff.1 g1).1
        ·exact hdn k hk
      have hD:∀k,(k=j∨k∈lB done o.after.toList al∨k∈done)↔k∈j::(lB done o.after.toList al++done):=fun k=>by simp
      have hss':∀w',Holds s0.mem w'→(∀t r cs ty,s0.lb t=some (.cells r cs ty)→(j,t)∉ml→(LB.cells r cs ty).fits (fun b=>w.heap[b]?)→(LB.cells r cs ty).fits (fun b=>w'.heap[b]?))→(j∉ol→(∀x∈ol,L.getD x true=false)→Holds s0.own w')→SS s0 ml ol (L.setIfInBounds j true) w':=fun w' hh hf hw=>by
       have hset:∀x,(L.setIfInBounds j true).getD x true=false→x≠j∧L.getD x true=false:=fun x hx=>by
        by_cases e:j=x
        ·subst e;rw[sM (by rw[hI.size];exact hlt)]at hx;cases hx
        ·exact⟨fun h=>e h.symm,by rw[getD_set_ne true e]at hx;exact hx⟩
       refine⟨hh,fun t r cs ty g1 g2=>?_,fun hx=>hw (fun e=>(hset j (hx j e)).1 rfl) fun x hxo=>(hset x (hx x hxo)).2⟩
       exact hf t r cs ty g1 (fun hm=>(hset j (g2 j hm)).1 rfl) (hI.ss.2.1 t r cs ty g1 fun x hx=>(hset x (g2 x hx)).2)
      unfold wpOp
      simp only[ho]
      rcases zQ hI1.rel k1 with⟨hw,s2,k2,hR2,hk⟩|⟨hw,s2,k2,hR2,hk⟩
      ·rw [if_pos hw]
       refine .inl ?_
       obtain⟨hmods,k2⟩:=vX k2
       obtain⟨how,k2⟩:=vX k2
       have how:=qUf how
       have hI2:=hI1.know hR2 hk
       refine qLh htt hn hos hR2 k2 fun v w' s3 k3 hR3 hE=>?_
       have hE:=hE hdr
       obtain⟨hel,k3⟩:=vX k3
       have hown3:(s3.put o.dst v).own=s3.own:=by cases o.dst<;>rfl
       have hsame:j∉ol→s3.own=s2.own:=fun hj=>hE.own (how.resolve_right hj)
       have hss:SS s0 ml ol (L.setIfInBounds j true) w':=by
        refine hss' w' (fun b x hb=>?_) (fun t r cs ty g1 g2 g3=>?_) fun hj hx=>?_
        ·refine hR3.sees.1 b x ?_
         have h1:=hE.le b x (hI2.le b x hb)
         cases o.dst<;>exact h1
        ·refine LB.fits_congr (fun r' hr' => ?_) g3
         have hlt':=LB.fits_lt g3 hr'
         simp only[LB.blk?,Option.some.injEq]at hr'
         subst hr'
         refine hE.keep r hlt' (fun t' ht' lb hl hr=>?_) fun _=>?_
         ·rcases hI2.b0 t r cs ty g1 with ⟨cs', ty', g4⟩ | g4
          ·have := hI2.rel.sep _ _ _ _ r g4 hl rfl hr
           subst this
           exact g2 (qIb hmods t ht' r cs ty g1)
          ·exact g4 (hI2.rel.place t' lb r hl hr).1
         ·rcases hI2.b0 t r cs ty g1 with ⟨cs', ty', g4⟩ | g4
          ·exact(hI2.rel.place t _ r g4 rfl).2.1
          ·exact hI2.rel.own_none g4
        ·rw [← hI2.own0 hx, ← hsame hj, ← hown3]
         exact hR3.own.1
       refine⟨hss,ih n _ _ (fun k=>k∉lB done o.after.toList al∧A k) ρ _ _ _ w' hdn' hrem' ?_ k3⟩
       have hlb:∀t,(s3.put o.dst v).lb t=s3.lb t:=fun t=>by cases o.dst<;>rfl
       have hmem:(s3.put o.dst v).mem=s3.mem:=by cases o.dst<;>rfl
       refine(hI2.done hal ho hja hj (s':=s3.put o.dst v) (v:=v.conc) (w':=w') (dirty':=xV s2 o.op++dirty) hR3 (fun r hr h1 h0 h2=>?_) (fun b hb h0 h=>hE.keep b hb (fun t _ lb hl=>h t lb hl) fun _=>h0) (fun hj=>?_) (fun d hdd hnone=>?_) hss ?_ (fun k x hx=>?_) ?_ (fun t r cs ty h=>?_) (fun t lb ht h=>?_)).congr hD (fun k=>Iff.rfl)
       ·rw [hmem, hown3]
        simp only[hlb]
        exact hE.out r hr h1 h0 h2
       ·rw[hown3];exact hsame hj
       ·have h0:eW s3.env d=none:=by
         cases h:eW s3.env d with
         |none=>rfl
         |some sv=>
          rcases hE.envs d sv h with g|⟨_,g⟩
          ·rw[hnone]at g;cases g
          ·exact absurd hnone g
        cases hdst:o.dst with
        |none=>exact h0
        |some d'=>
         simp only[St.put,bO]
         rw[if_neg (fun e=>hdd (by rw[hdst,e]))]
         exact h0
       ·rw[hmem];exact hE.le
       ·have old:∀{k x},eW s3.env k=some x→V0 s0 x:=fun {k x} h=>by
         rcases hE.envs k x h with g|⟨⟨u,rfl⟩,_⟩
         ·exact hI2.v0 k x g
         ·trivial
        cases hdst:o.dst with
        |none=>rw[hdst]at hx;exact old hx
        |some d'=>
         rw[hdst]at hx hel
         simp only[St.put,bO]at hx
         split at hx
         ·cases hx
          exact qQa hel
         ·exact old hx
       ·refine Nat.le_trans hE.nxt ?_
        cases o.dst<;>exact Nat.le_refl _
       ·rw [hmem]; simp only [hlb]
        exact hE.alive t r cs ty h
       ·rw [hlb] at h
        obtain⟨lb1,g1,g2⟩:=hE.stay t lb (Nat.lt_of_lt_of_le ht hI2.nx) h
        obtain⟨lb0,g3,g4⟩:=hI2.stay t lb1 ht g1
        refine⟨lb0,g3,?_⟩
        rcases g4 with g4|⟨g4,g5,g6⟩
        ·rcases g2 with g2 | ⟨g2, g7, g8⟩
         ·exact .inl (LB.alike_trans g4 g2)
         ·exact .inr ⟨by simp[g2],(qLx g4).2 g7,g8⟩
        ·rcases g2 with g2 | ⟨g2, g7, g8⟩
         ·exact .inr ⟨by simp[g4],g5,(qLx g2).1 g6⟩
         ·exact .inr ⟨by simp[g4],g5,g8⟩
      ·rw [hw, if_neg (by simp)]
       have hI2:=hI1.know hR2 hk
       rw[fP]at k2
       have hss:SS s0 ml ol (L.setIfInBounds j true) w:=hss' w hI.ss.1 (fun _ _ _ _ _ _ h=>h) fun _ hx=>hI.ss.2.2 hx
       refine⟨hss,ih n _ _ (fun k=>k∉lB done o.after.toList al∧A k) ρ _ _ _ w hdn' hrem' ?_ k2⟩
       refine(hI2.done hal ho hja hj (s':=s2.put o.dst (.val undef)) (v:=undef) (w':=w) (dirty':=dirty) (hR2.put (sv:= .val undef) hd trivial) (fun r _ h1 h0 h2=>?_) (fun _ _ _ _=>rfl) (fun _=>?_) (fun d hdd hnone=>?_) hss ?_ (fun k x hx=>?_) ?_ (fun t r cs ty h=>?_) (fun t lb ht h=>?_)).congr hD (fun k=>Iff.rfl)
       ·cases hdst:o.dst<;>exact⟨h1,h0,h2⟩
       ·cases o.dst<;>rfl
       ·cases hdst : o.dst with
        |none=>exact hnone
        |some d'=>
        simp only[St.put,bO]
        rw[if_neg (fun e=>hdd (by rw[hdst,e]))]
        exact hnone
       ·cases o.dst<;>exact Mem.Le.refl _
       ·cases hdst : o.dst with
        |none=>rw[hdst]at hx;exact hI2.v0 k x hx
        |some d'=>
         rw[hdst]at hx
         simp only[St.put,bO]at hx
         split at hx
         ·cases hx;trivial
         ·exact hI2.v0 k x hx
       ·cases o.dst<;>exact Nat.le_refl _
       ·cases o.dst<;>exact .inl ⟨_,_,h⟩
       ·cases hdst:o.dst<;>(rw[hdst]at h;exact hI2.stay t lb ht h)
end
end Go.Vx
namespace Go.Vx
section
variable {C:Cx} {E:Ent} {ops:Array Oper} {s:St} {a:Act} {w:World}
theorem Rel.forget(hR:Rel E a w s)(d:Nat):Rel E a w (s.drop (some d)):=by
 have hs:∀x,dN s x→dN (s.drop (some d)) x:=fun x hx=>pM (s:=s) (Nat.le_refl _) (Mem.Le.refl _) (fun t lb' _ h=>⟨lb',h,lb'.alike_refl⟩) hx
 refine⟨hR.defers,hR.size,fun i x hx=>?_,fun t r cs ty h x hx=>hs x (hR.cells t r cs ty h x hx),hR.sees,hR.nxt,hR.place,hR.sep,hR.own,hR.mono,hR.fresh,hR.grow,hR.keep,hR.os,hR.tape,hR.output⟩
 simp only[St.drop,wZ]at hx
 split at hx
 ·cases hx
 ·exact⟨(hR.env i x hx).1,hs _ (hR.env i x hx).2⟩
theorem qDl{ops:List Oper}:∀(js:List Nat) {s:St} {K:St→Prop},Rel E a w s→qFg C ops js s K→
  ∃s',K s'∧Rel E a w s'∧(∀d,eW s.env d=none→eW s'.env d=none)∧
   ∀j∈js,∀o,ops[j]? =some o→(∀t,o.op= .alloc t→∃ti,eW C.tt t=some ti)∧∀d,o.dst=some d→d<C.n∧qAh d j 0 ops=true∧eW s'.env d=none
 |[],s,K,hR,h=>⟨s,h,hR,fun _ h=>h,fun j hj=>nomatch hj⟩
 |j::js,s,K,hR,h=>by
  simp only[qFg]at h
  split at h
  case h_2=>exact h.elim
  rename_i o ho
  split at h
  case h_2=>exact h.elim
  rename_i d hd
  split at h
  case h_2=>exact h.elim
  rename_i t hop
  obtain⟨ti,h1,h⟩:=bZ h
  obtain⟨h2,h⟩:=uP h
  obtain⟨h3,h⟩:=vX h
  rw[qVc]at h
  obtain⟨s',g1,g2,g3,g4⟩:=qDl js (hR.forget d) h
  have hnone:eW (s.drop (some d)).env d=none:=by simp only[St.drop,wZ];simp
  refine⟨s',g1,g2,fun d' hd'=>g3 d' ?_,fun k hk o' ho'=>?_⟩
  ·simp only [St.drop, wZ]; split
   ·rfl
   ·exact hd'
  ·rcases List.mem_cons.1 hk with rfl | hk
   ·rw [ho] at ho'
    cases ho'
    refine⟨fun t' ht'=>?_,fun d' hd'=>?_⟩
    ·rw[hop]at ht';cases ht';exact⟨ti,h1⟩
    ·rw [hd] at hd'
     cases hd'
     exact⟨by simpa using h2,h3,g3 _ hnone⟩
   ·exact g4 k hk o' ho'
theorem qKi:∀{l:List Oper},qTd l=true→∀(j:Nat) (o:Oper) cs b,l[j]? =some o→o.op≠.select cs b
 |[],_,j,o,cs,b,h,_=>by simp at h
 |x::r,h,j,o,cs,b,ho,e=>by
  simp only[qTd]at h
  split at h
  ·cases h
  ·rename_i hx
   match j with
   |0=>
    simp only[List.getElem?_cons_zero,Option.some.injEq]at ho
    subst ho
    exact hx _ _ e
   |j+1=>exact qKi h j o cs b (by simpa using ho) e
theorem svOk_V0{sv:SV}(h:dN s sv):V0 s sv:=by
 cases sv with
 |loc t r off=>
  intro r' cs ty hl
  obtain⟨_,_,e⟩:=h.2 _ hl
  cases e;rfl
 |row t b n c=>
  intro r' cs ty hl
  obtain⟨_,_,_,e,_⟩:=h.2 _ hl
  cases e
 |rel t b e j o=>
  intro r' cs ty hl
  obtain⟨_,_,_,e,_⟩:=h.2 _ hl
  cases e
 |elem ad cs o=>exact h
 |val v=>trivial
 |kn b=>trivial
theorem rem_all(n:Nat):rem n (Array.replicate n false)=n:=by
 unfold rem
 rw[List.filter_eq_self.2]
 ·simp
 ·intro i hi
  have:i<n:=by simpa using hi
  simp[this]
theorem qOt(htt:TTok C.P C.tt)(hm:C.P.follows .mixedOrders=true):qSp C:=by
 intro E hn ops id s a w K Q hR hv hK
 obtain⟨hsel,hv⟩:=vX hv
 split at hv
 case h_2=>exact hv.elim
 rename_i ml hml
 have hR':Rel E a {w with drawn:=w.drawn+1} s:={hR with sees:=hR.sees,own:=hR.own,grow:=hR.grow,keep:=hR.keep,os:=hR.os,tape:=hR.tape,output:=hR.output}
 obtain⟨s0,k1,hR0,-,hal0⟩:=qDl _ hR' hv
 have hal:AlOk ⟨C.P,C.tt,C.n,[],true⟩ ops (mM 0 ops.toList):=by
  refine⟨fun j=>?_,fun j hj o t ho hop=>(hal0 j hj o (by simpa using ho)).1 t hop,fun j hj o d ho hd=>((hal0 j hj o (by simpa using ho)).2 d hd).1,fun j hj o d ho hd k ok hok hkj=>?_⟩
  ·rw [allocIdx_spec]
   simp
  ·exact qGf ((hal0 j hj o (by simpa using ho)).2 d hd).2.1 k ok (Nat.zero_le _) (by simpa using hok) hkj
 refine wp_region_noPanic (wp_region_any hm (qPc (S:=SS s0 ml (oJ ops.toList s0 0 ops.toList)) _ _ _ _ ?_))
 refine qUm (C:=⟨C.P,C.tt,C.n,[],true⟩) (s0:=s0) htt hn (fun _=>rfl) rfl (fun x hx=>(qIc hx).imp fun o g=>⟨by simpa using g.2.1,g.2.2⟩) (fun j o cs b ho=>qKi hsel j o cs b (by simpa using ho)) hml hal uV hR0.nxt hR0.cells (fun c a a' w h=>h.elim) (fun a' w' s' h1 h2=>NoPanic.normal (hK a' w' s' h1 h2)) ops.size _ [] [] (fun _=>False) (fun _=>0) s0 _ a _ (fun _ h=>nomatch h) (rem_all _) ?_ k1
 have hget:∀i,i<ops.size→(Array.replicate ops.size false).getD i true=false:=fun i hi=>by simp[hi]
 refine⟨hR0,by simp,fun i hi=>?_,fun x o ho hl=>?_,fun _ h=>h.elim,fun _ h=>h.elim,fun _ _ h=>h.elim,fun j hj _ o d ho hd=>((hal0 j hj o (by simpa using ho)).2 d hd).2.2,⟨hR0.sees.1,fun t r cs ty h _=>hR0.sees.2 t _ h,fun _=>hR0.own.1⟩,Mem.Le.refl _,fun i sv h=>svOk_V0 (hR0.env i sv h).2,Nat.le_refl _,fun t r cs ty h=> .inl ⟨cs,ty,h⟩,fun t lb _ h=>⟨lb,h,.inl lb.alike_refl⟩,fun _=>rfl⟩
 ·rw[hget i hi];simp
 ·rw [hget x (Array.getElem?_eq_some_iff.1 ho).1] at hl
  cases hl
theorem SpecH.of{T:Checked}{tt:List (Nat×TI)}(os:List Nat){f:FuncId}{fn:Func}{args:List Value}{μ h0:Mem}{R:Value→Mem→Mem→Prop}(htt:TTok T.prog tt)
  (hf:T.prog.funcs[f]? =some fn) (hname:(fn.name== "runtime.NumGoroutine")=false) (h:qIk T.prog tt os fn args μ h0 R):SpecH T.prog f args μ h0 R:=
 SpecH.of_vc htt (fun n=>qOt (C:=⟨T.prog,tt,n,os,false⟩) htt (Checked.mixed T)) hf hname h
end
end Go.Vx
namespace Go.Vx
theorem add_add(a:Addr)(i j:Nat):(a.add i).add j=a.add (i+j):=by
 by_cases hi:i=0
 ·subst hi;simp[Addr.add]
 ·by_cases hj : j = 0
  ·subst hj;simp[Addr.add]
  ·have : ¬ (i + j = 0) := by omega
   simp[Addr.add,hi,hj,Nat.add_assoc]
def qWb(w:World):Mem:=fun b=>w.heap[b]?
theorem wmem_holds(w:World):Holds (qWb w) w:=fun _ _ h=>h
theorem qUo(w:World)(a:Addr):(qWb w).cell a=w.cell? a:=rfl
def CellsAt(μ:Mem)(a:Addr)(cs:List Value):Prop:=∀j v,cs[j]? =some v→μ.cell (a.add j)=some v
theorem CellsAt.mono{μ μ':Mem}(h:μ.Le μ'){a:Addr}{cs:List Value}(k:CellsAt μ a cs):CellsAt μ' a cs:=fun j v hj=>h.cell (k j v hj)
section
variable {α:Type} {R:α→List Value→Prop} {μ μ':Mem} {es n:Nat} {base:Option Addr} {xs:List α}
section
variable {H:Type} {enc:TypeId×Value→H} {P:Program} {w:World} {spare:Nat→Bool} {held:Bool} {fuel:Nat} {t:TypeId} {cs:List Value} {x:DataW H×List MemPlace}
theorem cells?_at{a:Addr}{m:Nat}{cs:List Value}(h:w.cells? 0 a m=some cs):cs.length=m∧CellsAt (qWb w) a cs:=by
 unfold World.cells? at h
 rw[if_pos (Nat.zero_le _)]at h
 refine⟨by simpa using mapM_some_length h,fun j v hj=>?_⟩
 have hlt:j<m:=by
  have h1:=(List.getElem?_eq_some_iff.1 hj).1
  have h2:=mapM_some_length h
  simp at h2
  omega
 have:=mapM_some_get h j j (by simp[hlt])
 rw[qUo,this,hj]
end
end
end Go.Vx
namespace Go.Vx
inductive D where
 |i (n:Int)
 |b (x:Bool)
 |s (x:ByteArray)
 |st (fs:List D)
 |sl (es:Nat) (xs:List D)
mutual
def D.n:D→Nat
 | .st fs=>D.ns fs
 | .i _=>1
 | .b _=>1
 | .s _=>1
 | .sl _ _=>1
def D.ns:List D→Nat
 |[]=>0
 |d::r=>d.n+D.ns r
end
structure Lens (n cap:Nat):Prop where
 le:n≤cap
 max:n≤maxLen
mutual
def Rep(μ:Mem):D→List Value→Prop
 | .i n,cs=>cs=[.int .i64 n]
 | .b x,cs=>cs=[.bool x]
 | .s x,cs=>cs=[.string x]
 | .st fs,cs=>RepS μ fs cs
 | .sl es xs,cs=>∃base cap,cs=[.slice base xs.length cap]∧Lens xs.length cap∧(∀x∈xs,x.n=es)∧(xs=[]∨∃a0 flat,base=some a0∧CellsAt μ a0 flat∧RepS μ xs flat)
def RepS(μ:Mem):List D→List Value→Prop
 |[],cs=>cs=[]
 |d::r,cs=>∃c1 c2,cs=c1++c2∧Rep μ d c1∧RepS μ r c2
end
mutual
def Own:D→Mem→List Value→Prop
 | .i n,h,cs=>cs=[.int .i64 n]∧h=Mem.nil
 | .b x,h,cs=>cs=[.bool x]∧h=Mem.nil
 | .s x,h,cs=>cs=[.string x]∧h=Mem.nil
 | .st fs,h,cs=>OwnS fs h cs
 | .sl es xs, h, cs => ∃ base cap, cs = [.slice base xs.length cap] ∧ Lens xs.length cap ∧ (∀ x ∈ xs, x.n = es) ∧
   ((xs=[]∧h=Mem.nil)∨∃r flat rest ty h2,base=some ⟨r,0,none⟩∧h2 r=none∧h=h2.set r (.cells (List.toArray (flat++rest)) ty (0,0))∧OwnS xs h2 flat)
def OwnS:List D→Mem→List Value→Prop
 |[],h,cs=>cs=[]∧h=Mem.nil
 |d::r,h,cs=>∃c1 c2 h1 h2,cs=c1++c2∧Parts h h1 h2∧Own d h1 c1∧OwnS r h2 c2
end
def RepV(μ:Mem):D→Value→Prop
 | .st fs,v=>∃cs,v= .agg (List.toArray cs)∧RepS μ fs cs
 |d,v=>Rep μ d [v]
def OwnV:D→Mem→Value→Prop
 | .st fs,h,v=>∃cs,v= .agg (List.toArray cs)∧OwnS fs h cs
 |d,h,v=>Own d h [v]
section
variable {μ μ':Mem}
theorem CellsAt.set{h:Mem}{r:Nat}{flat rest:List Value}{ty:TypeId}:CellsAt (h.set r (.cells (List.toArray (flat++rest)) ty (0,0))) ⟨r,0,none⟩ flat:=fun j v hj=>by
 rw[Addr.add_lit',Nat.zero_add]
 have hlt:j<flat.length:=(List.getElem?_eq_some_iff.1 hj).1
 simp[Mem.cell,Mem.set_get,List.getElem?_append_left hlt,hj]
mutual
theorem Rep.mono(h:μ.Le μ'):∀(d:D) (cs:List Value),Rep μ d cs→Rep μ' d cs
 | .i _,_,k=>k
 | .b _,_,k=>k
 | .s _,_,k=>k
 | .st fs,cs,k=>RepS.mono h fs cs k
 | .sl es xs,cs,k=>by
  obtain⟨base,cap,h1,h2,h3,h4⟩:=k
  refine⟨base,cap,h1,h2,h3,h4.imp id ?_⟩
  rintro⟨a0,flat,g1,g2,g3⟩
  exact⟨a0,flat,g1,g2.mono h,RepS.mono h xs flat g3⟩
theorem RepS.mono(h:μ.Le μ'):∀(l:List D) (cs:List Value),RepS μ l cs→RepS μ' l cs
 |[],_,k=>k
 |d::r,cs,k=>by
  obtain⟨c1,c2,h1,h2,h3⟩:=k
  exact⟨c1,c2,h1,Rep.mono h d c1 h2,RepS.mono h r c2 h3⟩
end
theorem Parts.left{h g k:Mem}(p:Parts h g k):g.Le h:=fun b o hb=>by
 rcases p b with⟨h1,_⟩|⟨_,h1⟩
 ·rw[h1];exact hb
 ·rw[h1]at hb;cases hb
theorem Parts.symm{h g k:Mem}(p:Parts h g k):Parts h k g:=fun b=>(p b).symm
theorem Parts.right{h g k:Mem}(p:Parts h g k):k.Le h:=p.symm.left
theorem Parts.eq{h h' g k:Mem}(p:Parts h g k)(q:Parts h' g k):h=h':=funext fun b=>by
 rcases p b with⟨h1,h2⟩|⟨h1,h2⟩<;>rcases q b with⟨h3,h4⟩|⟨h3,h4⟩
 ·rw[h1,h3]
 ·rw[h1,h3,h2,h4]
 ·rw[h1,h3,h2,h4]
 ·rw[h1,h3]
theorem Parts.join{g k:Mem}(h:Apart g k):Parts (g.join k) g k:=fun b=>by
 cases hg:g b with
 |none=>exact .inr ⟨by rw[Mem.join_get,hg],rfl⟩
 |some o=>exact .inl ⟨by rw[Mem.join_get,hg],h b (by simp[hg])⟩
theorem Parts.apart{h g k:Mem}(p:Parts h g k):Apart g k:=fun b hb=>by
 rcases p b with⟨_,h⟩|⟨_,h⟩
 ·exact h
 ·exact absurd h hb
theorem Parts.nil_right(h:Mem):Parts h h Mem.nil:=fun _=> .inl ⟨rfl,rfl⟩
theorem Parts.nil_left(h:Mem):Parts h Mem.nil h:=fun _=> .inr ⟨rfl,rfl⟩
theorem Apart.symm{g k:Mem}(h:Apart g k):Apart k g:=fun b hb=>by
 cases hg:g b with
 |none=>rfl
 |some o=>exact absurd (h b (by simp[hg])) hb
theorem Apart.nil_left(g:Mem):Apart Mem.nil g:=fun _ h=>absurd rfl h
theorem Parts.assoc{h g k k1 k2:Mem}(p:Parts h g k)(q:Parts k k1 k2):∃m,Parts m g k1∧Parts h m k2:=by
 have a1:Apart g k1:=fun b hb=>by
  have:=p.apart b hb
  cases h1:k1 b with
  |none=>rfl
  |some o=>rw[q.left b o h1]at this;cases this
 refine⟨g.join k1,Parts.join a1,fun b=>?_⟩
 rw[Mem.join_get]
 cases hg:g b with
 |some o=>
  have h0:=p.apart b (by simp[hg])
  refine .inl ⟨by rw[p.left b o hg],?_⟩
  cases h2:k2 b with
  |none=>rfl
  |some o=>rw[q.right b o h2]at h0;cases h0
 |none=>
  have e:h b=k b:=by
   rcases p b with⟨h1,h2⟩|⟨h1,_⟩
   ·rw[h1,hg,h2]
   ·exact h1
  simp only[e]
  exact q b
theorem Mem.set_le{h2:Mem}{r:Nat}{o:Obj}(h:h2 r=none):h2.Le (h2.set r o):=fun b x hb=>by
 rw[Mem.set_get,if_neg (fun e=>by subst e;rw[h]at hb;cases hb)]
 exact hb
mutual
theorem Own.rep:∀(d:D) (h:Mem) (cs:List Value),Own d h cs→h.Le μ→Rep μ d cs
 | .i _,_,_,k,_=>k.1
 | .b _,_,_,k,_=>k.1
 | .s _,_,_,k,_=>k.1
 | .st fs,h,cs,k,hl=>OwnS.rep fs h cs k hl
 | .sl es xs,h,cs,k,hl=>by
  obtain⟨base,cap,h1,h2,h3,h4⟩:=k
  refine⟨base,cap,h1,h2,h3,?_⟩
  rcases h4 with⟨g,_⟩|⟨r,flat,rest,ty,k2,g1,g2,g3,g4⟩
  ·exact .inl g
  ·exact .inr ⟨_,flat,g1,by subst g3;exact CellsAt.set.mono hl,OwnS.rep xs k2 flat g4 (by subst g3;exact(Mem.set_le g2).trans hl)⟩
theorem OwnS.rep:∀(l:List D) (h:Mem) (cs:List Value),OwnS l h cs→h.Le μ→RepS μ l cs
 |[],_,_,k,_=>k.1
 |d::r,h,cs,k,hl=>by
  obtain⟨c1,c2,k1,k2,h1,h2,h3,h4⟩:=k
  exact⟨c1,c2,h1,Own.rep d k1 c1 h3 (h2.left.trans hl),OwnS.rep r k2 c2 h4 (h2.right.trans hl)⟩
end
mutual
theorem Rep.len:∀(d:D) (cs:List Value),Rep μ d cs→cs.length=d.n
 | .i _,_,k=>by rw[k];rfl
 | .b _,_,k=>by rw[k];rfl
 | .s _,_,k=>by rw[k];rfl
 | .st fs,cs,k=>RepS.len fs cs k
 | .sl es xs,cs,k=>by obtain⟨_,_,h,_⟩:=k;rw[h];rfl
theorem RepS.len:∀(l:List D) (cs:List Value),RepS μ l cs→cs.length=D.ns l
 |[],_,k=>by rw[k];rfl
 |d::r,cs,k=>by
  obtain⟨c1,c2,h1,h2,h3⟩:=k
  rw[h1,List.length_append,Rep.len d c1 h2,RepS.len r c2 h3];rfl
end
mutual
theorem Rep.one:∀(d:D) (cs:List Value),Rep μ d cs→∀u∈cs,u.oneCell'=true
 | .i _,_,k=>by rw[k];simp[Value.oneCell']
 | .b _,_,k=>by rw[k];simp[Value.oneCell']
 | .s _,_,k=>by rw[k];simp[Value.oneCell']
 | .st fs,cs,k=>RepS.one fs cs k
 | .sl es xs,cs,k=>by obtain⟨_,_,h,_⟩:=k;rw[h];simp[Value.oneCell']
theorem RepS.one:∀(l:List D) (cs:List Value),RepS μ l cs→∀u∈cs,u.oneCell'=true
 |[],_,k=>by rw[k];simp
 |d::r,cs,k=>by
  obtain⟨c1,c2,h1,h2,h3⟩:=k
  intro u hu
  rw[h1,List.mem_append]at hu
  exact hu.elim (Rep.one d c1 h2 u) (RepS.one r c2 h3 u)
end
theorem RepS.get{es:Nat}:∀{l:List D} {flat:List Value},RepS μ l flat→(∀x∈l,x.n=es)→∀{i:Nat} {x:D},l[i]? =some x→∃cs,cs.length=es∧(∀j v,cs[j]? =some v→flat[i*es+j]? =some v)∧Rep μ x cs
 |[],_,_,_,i,x,h=>by simp at h
 |d::r,flat,k,hn,i,x,h=>by
  obtain⟨c1,c2,h1,h2,h3⟩:=k
  have hl:c1.length=es:=by rw[Rep.len d c1 h2];exact hn d (by simp)
  match i with
  |0=>
   simp only[List.getElem?_cons_zero,Option.some.injEq]at h
   subst h
   refine⟨c1,hl,fun j v hj=>?_,h2⟩
   rw[h1,Nat.zero_mul,Nat.zero_add,List.getElem?_append_left (List.getElem?_eq_some_iff.1 hj).1]
   exact hj
  |i+1=>
   obtain⟨cs,g1,g2,g3⟩:=RepS.get h3 (fun y hy=>hn y (by simp[hy])) (i:=i) (by simpa using h)
   refine⟨cs,g1,fun j v hj=>?_,g3⟩
   rw[h1,List.getElem?_append_right (by rw[hl,Nat.succ_mul];omega),hl,show(i+1)*es+j-es=i*es+j from by rw[Nat.succ_mul];omega]
   exact g2 j v hj
structure Sl (μ:Mem) (es:Nat) (base:Option Addr) (n:Nat) (xs:List D):Prop where
 len:xs.length=n
 max:n≤maxLen
 get:∀(i:Nat) x,xs[i]? =some x→∃a cs,ElemAt μ base n es i a cs∧Rep μ x cs
theorem Rep.sl{es:Nat}{xs:List D}{v:Value}(h:Rep μ (.sl es xs) [v]):∃base cap,v= .slice base xs.length cap∧Sl μ es base xs.length xs:=by
 obtain⟨base,cap,h1,h2,h3,h4⟩:=h
 simp only[List.cons.injEq,and_true]at h1
 refine⟨base,cap,h1,rfl,h2.max,fun i x hx=>?_⟩
 have hi:i<xs.length:=(List.getElem?_eq_some_iff.1 hx).1
 rcases h4 with rfl|⟨a0,flat,g1,g2,g3⟩
 ·simp at hx
 ·obtain ⟨cs, k1, k2, k3⟩ := g3.get h3 hx
  refine⟨a0.add (i*es),cs,⟨by omega,by omega,⟨a0,g1,by simp⟩,k1,fun j v hj=>?_⟩,k3⟩
  rw[add_add]
  exact g2 _ _ (k2 j v hj)
theorem RepV.cells:∀{d:D} {v:Value},RepV μ d v→Rep μ d (aD v)
 | .st fs,v,h=>by obtain⟨cs,rfl,h⟩:=h;simpa[aD,Rep]using h
 | .i _,v,h=>by cases h;rfl
 | .b _,v,h=>by cases h;rfl
 | .s _,v,h=>by cases h;rfl
 | .sl es xs,v,h=>by
  obtain⟨base,cap,h1,h2⟩:=h
  cases h1
  exact⟨base,cap,rfl,h2⟩
theorem RepV.mono(h:μ.Le μ'):∀{d:D} {v:Value},RepV μ d v→RepV μ' d v
 | .st fs,v,k=>by obtain⟨cs,rfl,k⟩:=k;exact⟨cs,rfl,RepS.mono h _ _ k⟩
 | .i _,v,k=>Rep.mono h (.i _) _ k
 | .b _,v,k=>Rep.mono h (.b _) _ k
 | .s _,v,k=>Rep.mono h (.s _) _ k
 | .sl _ _,v,k=>Rep.mono h (.sl _ _) _ k
theorem OwnV.rep:∀{d:D} {h:Mem} {v:Value},OwnV d h v→h.Le μ→RepV μ d v
 | .st fs,h,v,k,hl=>by obtain⟨cs,rfl,k⟩:=k;exact⟨cs,rfl,OwnS.rep _ _ _ k hl⟩
 | .i _,_,v,k,hl=>Own.rep (.i _) _ _ k hl
 | .b _,_,v,k,hl=>Own.rep (.b _) _ _ k hl
 | .s _,_,v,k,hl=>Own.rep (.s _) _ _ k hl
 | .sl _ _,_,v,k,hl=>Own.rep (.sl _ _) _ _ k hl
theorem OwnV.cells:∀{d:D} {h:Mem} {v:Value},OwnV d h v→Own d h (aD v)
 | .st fs,_,v,h=>by obtain⟨cs,rfl,h⟩:=h;simpa[aD,Own]using h
 | .i _,_,v,h=>by obtain⟨h1,h2⟩:=h;cases h1;exact⟨rfl,h2⟩
 | .b _,_,v,h=>by obtain⟨h1,h2⟩:=h;cases h1;exact⟨rfl,h2⟩
 | .s _,_,v,h=>by obtain⟨h1,h2⟩:=h;cases h1;exact⟨rfl,h2⟩
 | .sl es xs,_,v,h=>by
  obtain⟨base,cap,h1,h2⟩:=h
  cases h1
  exact⟨base,cap,rfl,h2⟩
inductive Rows (μ:Mem) (es:Nat):List D→List Value→Prop
 |nil:Rows μ es [] []
 |cons {d:D} {v:Value} {ds:List D} {vs:List Value} (h:RepV μ d v) (hn:d.n=es) (r:Rows μ es ds vs):Rows μ es (d::ds) (v::vs)
theorem Rows.mono{es:Nat}(h:μ.Le μ'):∀{ds:List D} {vs:List Value},Rows μ es ds vs→Rows μ' es ds vs
 |_,_,.nil=> .nil
 |_,_,.cons k hn r=> .cons (k.mono h) hn (r.mono h)
theorem Rows.append{es:Nat}:∀{ds:List D} {vs:List Value} {ds':List D} {vs':List Value},Rows μ es ds vs→Rows μ es ds' vs'→Rows μ es (ds++ds') (vs++vs')
 |_,_,_,_,.nil,k=>k
 |_,_,_,_,.cons h hn r,k=> .cons h hn (r.append k)
theorem Rows.one{es:Nat}{d:D}{v:Value}(h:RepV μ d v)(hn:d.n=es):Rows μ es [d] [v]:= .cons h hn .nil
theorem Rows.len{es:Nat}:∀{ds:List D} {vs:List Value},Rows μ es ds vs→ds.length=vs.length
 |_,_,.nil=>rfl
 |_,_,.cons _ _ r=>by simp[r.len]
theorem Rows.flat{es:Nat}:∀{ds:List D} {vs:List Value},Rows μ es ds vs→RepS μ ds (vs.flatMap aD)∧∀x∈ds,x.n=es
 |_,_,.nil=>⟨rfl,by simp⟩
 | _, _, .cons h hn r => ⟨⟨_, _, by simp, h.cells, r.flat.1⟩, by
   intro x hx
   rcases List.mem_cons.1 hx with rfl|hx
   ·exact hn
   ·exact r.flat.2 x hx⟩
theorem RowAt.le{b:Option Nat}{cap es:Nat}{ys:List Value}(h:RowAt μ b cap es ys):ys.length≤cap:=by
 cases b with
 |none=>
  have:ys=[]:=h
  subst this;exact Nat.zero_le _
 |some r=>exact h.1
theorem Rep.lens{es:Nat}{xs:List D}{b:Option Addr}{n c:Nat}(h:Rep μ (.sl es xs) [.slice b n c]):n≤c:=by
 obtain⟨b',c',h1,h2,_⟩:=h
 simp only[List.cons.injEq,and_true,Value.slice.injEq]at h1
 obtain⟨rfl,rfl,rfl⟩:=h1
 exact h2.le
theorem Rows.sl{es:Nat}{b:Option Nat}{cap:Nat}{ds:List D}{ys:List Value}(h:RowAt μ b cap es ys)(hr:Rows μ es ds ys)(hm:ys.length≤maxLen):RepV μ (.sl es ds) (.slice (b.map fun r=>⟨r,0,none⟩) ys.length cap):=by
 have hl:=hr.len
 obtain⟨hf,hn⟩:=hr.flat
 refine⟨b.map fun r=>⟨r,0,none⟩,cap,by rw[hl],by rw[hl];exact⟨h.le,hm⟩,hn,?_⟩
 cases b with
 |none=>
  have:ys=[]:=h
  subst this
  exact .inl (List.eq_nil_of_length_eq_zero (by simpa using hl))
 |some r=>
  obtain⟨h1,h2,arr,ty,h3,h4,h5⟩:=h
  refine .inr ⟨⟨r,0,none⟩,ys.flatMap aD,rfl,fun j v hj=>?_,hf⟩
  rw[Addr.add_lit',Nat.zero_add]
  have hf':(ys.flatMap aD).length=ys.length*es:=eP ys fun y hy=>(h2 y hy).1
  have hlt:=(List.getElem?_eq_some_iff.1 hj).1
  rw[←h5,List.getElem?_take,if_pos (by omega)]at hj
  simp only[Mem.cell,h3]
  simpa using hj
def Fresh(μ μ':Mem)(d:D)(v:Value):Prop:=∃g:Mem,OwnV d g v∧g.Le μ'∧∀b,g b≠none→μ b=none
theorem Fresh.rep{d:D}{v:Value}(h:Fresh μ μ' d v):RepV μ' d v:=by
 obtain⟨g,h1,h2,_⟩:=h
 exact h1.rep h2
theorem Fresh.mono{μ0 μ2:Mem}{d:D}{v:Value}(h:Fresh μ μ' d v)(hl:μ0.Le μ)(hr:μ'.Le μ2):Fresh μ0 μ2 d v:=by
 obtain⟨g,h1,h2,h3⟩:=h
 refine⟨g,h1,h2.trans hr,fun b hb=>?_⟩
 cases h0:μ0 b with
 |none=>rfl
 |some o=>have:=h3 b hb;rw[hl b o h0]at this;cases this
end
end Go.Vx
namespace Go.Vx
section
variable {P:Program} {f:FuncId} {args:List Value} {μ h0:Mem}
def Mem.sub(μ g:Mem):Mem:=fun b=>match g b with|some _=>none|none=>μ b
theorem Holds.join{g:Mem}{w:World}(h:Holds μ w)(k:Holds g w):Holds (μ.join g) w:=fun b o hb=>by
 rw[Mem.join_get]at hb
 split at hb
 ·rename_i x hx;cases hb;exact h b _ hx
 ·exact k b o hb
theorem Holds.le{g:Mem}{w:World}(h:Holds μ w)(k:g.Le μ):Holds g w:=fun b o hb=>h b o (k b o hb)
end
theorem OwnS.cons{d:D}{r:List D}{h h1 h2:Mem}{c1 c2:List Value}(p:Parts h h1 h2)(k1:Own d h1 c1)(k2:OwnS r h2 c2):OwnS (d::r) h (c1++c2):=⟨c1,c2,h1,h2,rfl,p,k1,k2⟩
theorem OwnS.append:∀{l r:List D} {h h1 h2:Mem} {c1 c2:List Value},Parts h h1 h2→OwnS l h1 c1→OwnS r h2 c2→OwnS (l++r) h (c1++c2)
 |[],r,h,h1,h2,c1,c2,p,k1,k2=>by
  obtain⟨rfl,rfl⟩:=k1
  have:h=h2:=p.eq (Parts.nil_left h2)
  subst this
  exact k2
 |d::l,r,h,h1,h2,c1,c2,p,k1,k2=>by
  obtain⟨a,b,g1,g2,rfl,q,m1,m2⟩:=k1
  obtain⟨m,q1,q2⟩:=p.symm.assoc q.symm
  refine⟨a,b++c2,g1,m,by simp,q2.symm,m1,OwnS.append q1.symm m2 k2⟩
theorem Mem.set_set(h:Mem)(r:Nat)(o o':Obj):(h.set r o).set r o'=h.set r o':=funext fun b=>by
 simp only[Mem.set_get]
 split<;>rfl
end Go.Vx
namespace Go.Vx
theorem OwnS.int{n:Int}{r:List D}{h:Mem}{cs:List Value}(k:OwnS r h cs):OwnS (.i n::r) h (.int .i64 n::cs):=⟨[_],cs,_,_,rfl,Parts.nil_left h,⟨rfl,rfl⟩,k⟩
theorem OwnS.str{s:ByteArray}{r:List D}{h:Mem}{cs:List Value}(k:OwnS r h cs):OwnS (.s s::r) h (.string s::cs):=⟨[_],cs,_,_,rfl,Parts.nil_left h,⟨rfl,rfl⟩,k⟩
theorem OwnS.nil:OwnS [] Mem.nil []:=⟨rfl,rfl⟩
theorem OwnS.last{d:D}{h:Mem}{cs:List Value}(k:Own d h cs):OwnS [d] h cs:=by
 have:=OwnS.cons (Parts.nil_right h) k OwnS.nil
 simpa using this
theorem RepS.last{μ:Mem}{d:D}{cs:List Value}(k:Rep μ d cs):RepS μ [d] cs:=⟨cs,[],by simp,k,rfl⟩
theorem RepS.int{μ:Mem}{n:Int}{r:List D}{cs:List Value}(k:RepS μ r cs):RepS μ (.i n::r) (.int .i64 n::cs):=⟨[_],cs,rfl,rfl,k⟩
theorem RepS.str{μ:Mem}{s:ByteArray}{r:List D}{cs:List Value}(k:RepS μ r cs):RepS μ (.s s::r) (.string s::cs):=⟨[_],cs,rfl,rfl,k⟩
structure OwnRows (es:Nat) (ds:List D) (ys:List Value) (g:Mem):Prop where
 own:OwnS ds g (ys.flatMap aD)
 size:∀x∈ds,x.n=es
 len:ds.length=ys.length
theorem OwnRows.nil(es:Nat):OwnRows es [] [] Mem.nil:=⟨⟨rfl,rfl⟩,by simp,rfl⟩
theorem Fresh.ofRow{μ μ1 μ' g:Mem}{b:Option Nat}{cap es:Nat}{ds:List D}{ys:List Value}(k:OwnRows es ds ys g)(hg:g.Le μ1)(hf:∀x,g x≠none→μ x=none)(h0:μ.Le μ1)(h1:μ1.Le μ')
  (hb:∀r,b=some r→μ1 r=none) (hr:RowAt μ' b cap es ys) (hm:ys.length≤maxLen):Fresh μ μ' (.sl es ds) (.slice (b.map fun r=>⟨r,0,none⟩) ys.length cap):=by
 cases b with
 |none=>
  have:ys=[]:=hr
  subst this
  have hd:ds=[]:=List.eq_nil_of_length_eq_zero (by simpa using k.len)
  subst hd
  have hown:OwnV (.sl es []) Mem.nil (.slice none 0 cap):=⟨none,cap,rfl,⟨Nat.zero_le _,hm⟩,by simp,.inl ⟨rfl,rfl⟩⟩
  exact⟨Mem.nil,hown,(fun _ _ h=>nomatch h),fun _ h=>absurd rfl h⟩
 |some r=>
  obtain⟨h2,h3,arr,ty,h4,h5,h6⟩:=hr
  have hgr:g r=none:=by
   cases h:g r with
   |none=>rfl
   |some o=>have:=hb r rfl;rw[hg r o h]at this;cases this
  have e:arr.toList=ys.flatMap aD++arr.toList.drop (ys.length*es):=by rw[←h6];simp
  refine⟨g.set r (.cells (List.toArray (ys.flatMap aD++arr.toList.drop (ys.length*es))) ty (0,0)),⟨some ⟨r,0,none⟩,cap,by simp[k.len],by rw[k.len];exact⟨h2,hm⟩,k.size,.inr ⟨r,_,_,ty,g,rfl,hgr,rfl,k.own⟩⟩,fun x o hx=>?_,fun x hx=>?_⟩
  ·rw [Mem.set_get] at hx
   split at hx
   ·rename_i e2
    subst e2
    cases hx
    rw[h4,←e]
   ·exact h1 x o (hg x o hx)
  ·rw [Mem.set_get] at hx
   split at hx
   ·rename_i e2
    subst e2
    cases h:μ x with
    |none=>rfl
    |some o=>have:=hb x rfl;rw[h0 x o h]at this;cases this
   ·exact hf x hx
theorem iF{μ g g':Mem}(h:g.Le μ)(k:∀b,g' b≠none→μ b=none):Apart g g':=fun b hb=>by
 cases hg:g' b with
 |none=>rfl
 |some o=>
  have h1:=k b (by simp[hg])
  cases h2:g b with
  |none=>exact absurd h2 hb
  |some o'=>rw[h b o' h2]at h1;cases h1
theorem eH{μ g g':Mem}(h:g.Le μ)(k:g'.Le μ):(g.join g').Le μ:=fun b o hb=>by
 rw[Mem.join_get]at hb
 split at hb
 ·rename_i x hx;cases hb;exact h b _ hx
 ·exact k b o hb
theorem gW{g g':Mem}{b:Nat}(h:(g.join g') b≠none):g b≠none∨g' b≠none:=by
 rw[Mem.join_get]at h
 cases hg:g b with
 |none=>rw[hg]at h;exact .inr h
 |some o=>exact .inl (by simp)
end Go.Vx
namespace Go.Vx
open Go.ChangeShapes Go.WideShapes Go.ChangeAt Go.RowKit
def InR(n:Int):Prop:= -9223372036854775808≤n∧n≤9223372036854775807
section
variable {P:Program} {t:TypeId}
theorem qOd{w:World}{b:Nat}{e:TypeId}(ht:P.underlying t=some (.slice e))(cs:Array Value):¬Value.okWide P w .any b t (.agg cs):=fun h=>by
 simp[Value.okWide,ht,Cell.okWide,Cell.ok]at h
end
theorem xY{H:Type}{enc:TypeId×Value→H}{P:Program}(hl:laidOutB P=true){W W':World}(hb:Below W.heap.size W W'){sp:Nat→Bool}:∀{ts:List TypeId} {vs:List Value} {ds:List (DataW H)} {ps:List MemPlace},
  (∀t∈ts,P.readableRec t=true∧t<P.types.size)→DataW.TrodAll enc P W 0 (fun _=>true) true ts vs ds ps→(∀x∈ps,x.block<W.heap.size)→(∀x∈ps,sp x.block=true)→DataW.TrodAll enc P W' 0 sp true ts vs ds ps
 |[],vs,ds,ps,_,h,_,_=>by
  obtain⟨rfl,rfl,rfl⟩:=trodAll_nil h
  exact trodAll_mk0
 |t::ts,vs,ds,ps,hr,h,hlt,hs=>by
  obtain⟨v,vs',d,ds',p,q,rfl,rfl,rfl,h1,h2⟩:=trodAll_cons h
  obtain⟨g1,g2⟩:=hr t (by simp)
  exact trodAll_cons_mk (WideElems.Trod_stays hl g1 g2 h1 (fun x hx=>hb.same (hlt x (by simp[hx]))) (fun x hx=>hs x (by simp[hx])))
   (xY hl hb (fun t ht=>hr t (by simp[ht])) h2 (fun x hx=>hlt x (by simp[hx])) (fun x hx=>hs x (by simp[hx])))
theorem qVh{H:Type}{enc:TypeId×Value→H}{P:Program}{f:Func}{s:ChangeSpec}{apart fresh handsOn again:Bool}{W W':World}{args:Array Value}{ds gs:List (DataW H)}{before:List MemPlace}{tb:TypeId}
  (hl:laidOutB P=true) (hr:∀t∈f.params.toList,P.readableRec t=true∧t<P.types.size) (hres:f.resultTypes= #[tb]) (htb:P.underlying tb=some .bool) (hs:s.vars=[])
  (hfn:s.fn H ds={results:=[.lit (.bool true)],args:=ds})
  (hW:DataW.Whole enc P f.params.toList s.vars apart W args.toList ds gs before) (hb:Below W.heap.size W W'):s.post enc P f apart fresh handsOn again W args (.bool true) W':=by
 have hW0:=hW
 obtain⟨p,q,hA,hV,rfl,hz,hn⟩:=hW
 rw[hs]at hV
 obtain⟨rfl,rfl⟩:=trodVars_none hV
 have hlt:∀x∈p,x.block<W.heap.size:=fun x hx=>hW0.lt x (by simp[hx])
 have hfn':s.fn H (ds++[])={results:=[.lit (.bool true)],args:=ds}:=by simpa using hfn
 have hrl:(Value.bool true).resultList f.resultTypes.size=[.bool true]:=by rw[hres];rfl
 have hbool:∀(b:Nat) (sp:Nat→Bool) (hd:Bool),DataW.TrodAll enc P W' b sp hd f.resultTypes.toList ((Value.bool true).resultList f.resultTypes.size) [.lit (.bool true)] []:=fun b sp hd=>by
  rw[hrl,hres]
  exact trodAll_mk1 (shut_bool htb true)
 refine⟨ds,[],p++[],[],p,[],hW0,by rw[hfn'];exact hbool _ _ _,by rw[hfn'];exact xY hl hb hr hA hlt (fun x hx=>by simpa using hlt x hx),by rw[hfn',hs];rfl,hb.frame _,fun _=>⟨fun j t r hj hr'=>?_,.lit (.bool true)::ds,[],p,⟨p,[],?_,by rw[hs];rfl,by simp,fun b off hp=>?_,fun ha=>?_⟩,fun x hx _=>by simpa using hx⟩⟩
 ·rw [hres] at hj
  rw[hrl]at hr'
  match j,hj,hr' with
  |0,hj,hr'=>
   simp at hj hr'
   subst hj;subst hr'
   exact okWide_bool_mk htb true
 ·exact trodAll_append (xY (sp:=fun _=>true) hl hb hr hA hlt fun _ _=>rfl) (hbool _ _ _)
 ·rw [hb.frozen (p := ⟨b, off, none⟩) (hlt _ hp)]
  exact hz b off (by simpa using hp)
 ·have := hn ha
  simpa using this
theorem qSf{μ' h':Mem}{w w':World}{μ:Mem}(h:Step μ Mem.nil w μ' h' w'):Below w.heap.size w w':=⟨h.os,h.tape,h.output,h.size,fun k hk=>h.keep k hk rfl⟩
theorem Ans.calls{P:Program}{f:FuncId}{args:Array Value}{w:World}{Q:Ending→World→Prop}(h:Ans P f args w Q)(he:qUp P f):Calls P f args w Q:=by
 rcases h with h|⟨v,w',h1,_⟩
 ·exact h.2
 ·obtain ⟨fn, hf, hb, hn⟩ := he
  have hb:fn.body≠none:=by cases hb:fn.body<;>simp_all
  have hn:fn.name≠ "runtime.NumGoroutine" :=by simpa using hn
  simp[callFunc,hf,hn,hb]at h1
theorem qGx{H:Type}{enc:TypeId×Value→H}{P:Program}{f:FuncId}{fn:Func}{s:ChangeSpec}{apart fresh handsOn again:Bool}{W:World}{args:Array Value}{ds gs:List (DataW H)}{before:List MemPlace}{tb:TypeId}
  (hl:laidOutB P=true) (hr:∀t∈fn.params.toList,P.readableRec t=true∧t<P.types.size) (hres:fn.resultTypes= #[tb]) (htb:P.underlying tb=some .bool) (hs:s.vars=[])
  (hfn:s.fn H ds={results:=[.lit (.bool true)],args:=ds})
  (hW:DataW.Whole enc P fn.params.toList s.vars apart W args.toList ds gs before) (hent:qUp P f) (h:Spec P f args.toList (qWb W) fun r _=>r= .bool true):
  Calls P f args W fun e W'=>∃v,e= .returned v∧s.post enc P fn apart fresh handsOn again W args v W':=by
 have:=h.2 W (wmem_holds W) (kB W) (eA _)
 simp only[Array.toArray_toList]at this
 refine(this.calls hent).mono ?_
 rintro e W' ⟨v,μ',h',rfl,rfl,hS⟩
 exact⟨_,rfl,qVh hl hr hres htb hs hfn hW (qSf hS)⟩
end Go.Vx
namespace Go.Vx
mutual
def D.wd:D→Prop
 | .i n=>InR n
 | .b _=>True
 | .s x=>x.size≤maxLen
 | .st fs=>D.wds fs
 | .sl _ xs=>D.wds xs
def D.wds:List D→Prop
 |[]=>True
 |d::r=>d.wd∧D.wds r
end
theorem D.wds_of:∀{xs:List D},(∀x∈xs,x.wd)→D.wds xs
 |[],_=>trivial
 |d::r,k=>⟨k d (by simp),D.wds_of fun x h=>k x (by simp[h])⟩
theorem mAt{α:Type}{l:List α}{j:Nat}{a:α}(h:l[j]? =some a):a∈l:=by
 obtain⟨h1,h2⟩:=List.getElem?_eq_some_iff.1 h
 rw[←h2];exact List.getElem_mem h1
theorem ElemAt.mono{μ μ':Mem}(h:μ.Le μ'){base:Option Addr}{n es:Nat}{i:Int}{a:Addr}{cs:List Value}(k:ElemAt μ base n es i a cs):ElemAt μ' base n es i a cs:=
 ⟨k.lo,k.hi,k.addr,k.len,fun j v hj=>h.cell (k.cell j v hj)⟩
theorem Sl.mono{μ μ':Mem}(h:μ.Le μ'){es n:Nat}{base:Option Addr}{xs:List D}(k:Sl μ es base n xs):Sl μ' es base n xs:=
 ⟨k.len, k.max, fun i x hx => by
  obtain⟨a,cs,h1,h2⟩:=k.get i x hx
  exact⟨a,cs,h1.mono h,Rep.mono h x cs h2⟩⟩
end Go.Vx
namespace Go.Vx
open Go.Proofs
def tt:List (Nat×TI):=[
 (1,⟨1,false,8,[.nilFunc],.func⟩),
 (2,⟨1,false,8,[.int .i64 0],.int .i64⟩),
 (3,⟨1,false,8,[.int .i64 0],.int .i64⟩),
 (4,⟨1,false,1,[.bool false],.bool⟩),
 (5,⟨1,false,1,[.int .u8 0],.int .u8⟩),
 (6,⟨1,false,1,[.int .u8 0],.int .u8⟩),
 (7,⟨4,true,24,[.int .i64 0,.int .i64 0,.bool false,.int .u8 0],.strct [(0,2),(1,3),(2,4),(3,6)]⟩),
 (8,⟨4,true,24,[.int .i64 0,.int .i64 0,.bool false,.int .u8 0],.strct [(0,2),(1,3),(2,4),(3,6)]⟩),
 (9,⟨1,false,16,[.string ⟨#[]⟩],.str⟩),
 (10,⟨1,false,16,[.string ⟨#[]⟩],.str⟩),
 (11,⟨1,false,16,[.string ⟨#[]⟩],.str⟩),
 (12,⟨1,false,8,[.int .u64 0],.int .u64⟩),
 (13,⟨2,true,24,[.string ⟨#[]⟩,.int .u64 0],.strct [(0,9),(1,12)]⟩),
 (14,⟨2,true,24,[.string ⟨#[]⟩,.int .u64 0],.strct [(0,9),(1,12)]⟩),
 (15,⟨1,false,8,[.pointer none],.ptr 277⟩),
 (16,⟨1,false,8,[.pointer none],.ptr 280⟩),
 (17,⟨1,false,8,[.pointer none],.ptr 288⟩),
 (18,⟨1,true,8,[.pointer none],.strct [(0,17)]⟩),
 (19,⟨1,true,8,[.pointer none],.strct [(0,17)]⟩),
 (20,⟨1,false,16,[.nilIface],.iface⟩),
 (21,⟨1,false,4,[.int .i32 0],.int .i32⟩),
 (22,⟨1,false,24,[.slice none 0 0],.slice 5⟩),
 (23,⟨1,false,24,[.slice none 0 0],.slice 63⟩),
 (24,⟨1,true,24,[.slice none 0 0],.strct [(0,23)]⟩),
 (25,⟨1,true,24,[.slice none 0 0],.strct [(0,23)]⟩),
 (26,⟨1,false,8,[.nilFunc],.func⟩),
 (27,⟨1,false,24,[.slice none 0 0],.slice 75⟩),
 (28,⟨1,false,8,[.nilFunc],.func⟩),
 (29,⟨1,false,24,[.slice none 0 0],.slice 41⟩),
 (30,⟨1,false,8,[.nilFunc],.func⟩),
 (32,⟨1,false,8,[.nilFunc],.func⟩),
 (34,⟨1,false,8,[.nilFunc],.func⟩),
 (35,⟨1,false,8,[.nilFunc],.func⟩),
 (36,⟨1,false,8,[.nilFunc],.func⟩),
 (37,⟨1,false,8,[.nilFunc],.func⟩),
 (39,⟨1,false,8,[.nilFunc],.func⟩),
 (40,⟨2,true,40,[.string ⟨#[]⟩,.slice none 0 0],.strct [(0,9),(1,27)]⟩),
 (41,⟨2,true,40,[.string ⟨#[]⟩,.slice none 0 0],.strct [(0,9),(1,27)]⟩),
 (42,⟨1,false,8,[.nilFunc],.func⟩),
 (43,⟨1,false,8,[.nilFunc],.func⟩),
 (44,⟨1,false,8,[.nilFunc],.func⟩),
 (45,⟨1,false,8,[.nilFunc],.func⟩),
 (46,⟨1,false,8,[.nilFunc],.func⟩),
 (47,⟨1,false,8,[.nilFunc],.func⟩),
 (48,⟨1,false,24,[.slice none 0 0],.slice 3⟩),
 (50,⟨1,false,8,[.nilFunc],.func⟩),
 (51,⟨1,false,8,[.nilFunc],.func⟩),
 (52,⟨1,false,24,[.slice none 0 0],.slice 54⟩),
 (53,⟨4,true,72,[.string ⟨#[]⟩,.int .i64 0,.slice none 0 0,.slice none 0 0],.strct [(0,9),(1,3),(2,27),(3,52)]⟩),
 (54,⟨4,true,72,[.string ⟨#[]⟩,.int .i64 0,.slice none 0 0,.slice none 0 0],.strct [(0,9),(1,3),(2,27),(3,52)]⟩),
 (55,⟨1,false,8,[.nilFunc],.func⟩),
 (57,⟨1,false,8,[.nilFunc],.func⟩),
 (58,⟨1,false,8,[.nilFunc],.func⟩),
 (59,⟨1,false,24,[.slice none 0 0],.slice 61⟩),
 (60,⟨4,true,72,[.int .i64 0,.string ⟨#[]⟩,.slice none 0 0,.slice none 0 0],.strct [(0,3),(1,9),(2,27),(3,59)]⟩),
 (61,⟨4,true,72,[.int .i64 0,.string ⟨#[]⟩,.slice none 0 0,.slice none 0 0],.strct [(0,3),(1,9),(2,27),(3,59)]⟩),
 (62,⟨7,true,104,[.string ⟨#[]⟩,.int .i64 0,.int .i64 0,.int .i64 0,.string ⟨#[]⟩,.slice none 0 0,.slice none 0 0],.strct [(0,9),(1,3),(2,3),(3,61)]⟩),
 (63,⟨7,true,104,[.string ⟨#[]⟩,.int .i64 0,.int .i64 0,.int .i64 0,.string ⟨#[]⟩,.slice none 0 0,.slice none 0 0],.strct [(0,9),(1,3),(2,3),(3,61)]⟩),
 (64,⟨1,false,8,[.nilFunc],.func⟩),
 (66,⟨1,false,8,[.nilFunc],.func⟩),
 (67,⟨1,false,8,[.nilFunc],.func⟩),
 (69,⟨1,false,8,[.nilFunc],.func⟩),
 (70,⟨1,false,8,[.nilFunc],.func⟩),
 (71,⟨1,false,8,[.nilFunc],.func⟩),
 (73,⟨1,false,8,[.nilFunc],.func⟩),
 (74,⟨4,true,56,[.int .i64 0,.int .i64 0,.string ⟨#[]⟩,.slice none 0 0],.strct [(0,3),(1,3),(2,9),(3,27)]⟩),
 (75,⟨4,true,56,[.int .i64 0,.int .i64 0,.string ⟨#[]⟩,.slice none 0 0],.strct [(0,3),(1,3),(2,9),(3,27)]⟩),
 (76,⟨1,false,8,[.nilFunc],.func⟩),
 (77,⟨1,false,8,[.nilFunc],.func⟩),
 (78,⟨1,false,8,[.nilFunc],.func⟩),
 (79,⟨1,false,8,[.pointer none],.ptr 168⟩),
 (80,⟨1,false,8,[.nilFunc],.func⟩),
 (81,⟨1,false,8,[.nilFunc],.func⟩),
 (82,⟨1,false,8,[.nilFunc],.func⟩),
 (83,⟨1,false,8,[.nilFunc],.func⟩),
 (84,⟨1,false,8,[.nilFunc],.func⟩),
 (85,⟨1,false,8,[.nilFunc],.func⟩),
 (86,⟨1,false,8,[.nilFunc],.func⟩),
 (87,⟨1,false,24,[.slice none 0 0],.slice 106⟩),
 (89,⟨1,false,8,[.nilFunc],.func⟩),
 (90,⟨1,false,8,[.nilFunc],.func⟩),
 (91,⟨1,false,8,[.nilFunc],.func⟩),
 (92,⟨1,false,24,[.slice none 0 0],.slice 29⟩),
 (93,⟨1,false,8,[.nilFunc],.func⟩),
 (94,⟨1,false,8,[.nilFunc],.func⟩),
 (95,⟨1,false,8,[.nilFunc],.func⟩),
 (96,⟨1,false,8,[.nilFunc],.func⟩),
 (97,⟨1,false,24,[.slice none 0 0],.slice 100⟩),
 (98,⟨1,false,8,[.nilFunc],.func⟩),
 (99,⟨5,true,64,[.int .i64 0,.int .i64 0,.int .i64 0,.string ⟨#[]⟩,.slice none 0 0],.strct [(0,3),(1,75)]⟩),
 (100,⟨5,true,64,[.int .i64 0,.int .i64 0,.int .i64 0,.string ⟨#[]⟩,.slice none 0 0],.strct [(0,3),(1,75)]⟩),
 (101,⟨1,false,8,[.nilFunc],.func⟩),
 (102,⟨1,false,8,[.nilFunc],.func⟩),
 (103,⟨1,false,8,[.nilFunc],.func⟩),
 (104,⟨1,false,8,[.nilFunc],.func⟩),
 (105,⟨6,true,120,[.string ⟨#[]⟩,.slice none 0 0,.int .i64 0,.slice none 0 0,.slice none 0 0,.slice none 0 0],.strct [(0,41),(2,3),(3,27),(4,29),(5,29)]⟩),
 (106,⟨6,true,120,[.string ⟨#[]⟩,.slice none 0 0,.int .i64 0,.slice none 0 0,.slice none 0 0,.slice none 0 0],.strct [(0,41),(2,3),(3,27),(4,29),(5,29)]⟩),
 (107,⟨1,false,24,[.slice none 0 0],.slice 9⟩),
 (108,⟨1,false,8,[.nilFunc],.func⟩),
 (109,⟨1,false,24,[.slice none 0 0],.slice 107⟩),
 (110,⟨1,false,8,[.nilFunc],.func⟩),
 (111,⟨1,false,8,[.nilFunc],.func⟩),
 (112,⟨1,false,8,[.nilFunc],.func⟩),
 (113,⟨1,false,8,[.nilFunc],.func⟩),
 (114,⟨1,false,8,[.nilFunc],.func⟩),
 (115,⟨1,false,8,[.nilFunc],.func⟩),
 (117,⟨1,false,8,[.nilFunc],.func⟩),
 (118,⟨1,false,24,[.slice none 0 0],.slice 59⟩),
 (120,⟨1,false,8,[.nilFunc],.func⟩),
 (122,⟨1,false,8,[.nilFunc],.func⟩),
 (123,⟨1,false,8,[.nilFunc],.func⟩),
 (124,⟨1,false,8,[.nilFunc],.func⟩),
 (125,⟨1,false,8,[.nilFunc],.func⟩),
 (127,⟨1,false,8,[.nilFunc],.func⟩),
 (128,⟨1,false,8,[.nilFunc],.func⟩),
 (129,⟨1,false,8,[.nilFunc],.func⟩),
 (130,⟨1,false,8,[.nilFunc],.func⟩),
 (131,⟨1,false,8,[.nilFunc],.func⟩),
 (132,⟨1,false,8,[.nilFunc],.func⟩),
 (133,⟨1,false,8,[.nilFunc],.func⟩),
 (134,⟨1,false,8,[.pointer none],.ptr 3⟩),
 (135,⟨1,false,8,[.nilFunc],.func⟩),
 (136,⟨1,false,8,[.nilFunc],.func⟩),
 (138,⟨1,false,8,[.nilFunc],.func⟩),
 (139,⟨1,false,8,[.nilFunc],.func⟩),
 (140,⟨1,false,8,[.nilFunc],.func⟩),
 (141,⟨1,false,8,[.nilFunc],.func⟩),
 (142,⟨1,false,8,[.nilFunc],.func⟩),
 (143,⟨1,false,8,[.nilFunc],.func⟩),
 (144,⟨1,false,8,[.nilFunc],.func⟩),
 (145,⟨1,false,8,[.map none],.map 3 75⟩),
 (147,⟨1,false,8,[.nilFunc],.func⟩),
 (148,⟨1,false,8,[.nilFunc],.func⟩),
 (150,⟨1,false,8,[.nilFunc],.func⟩),
 (152,⟨1,false,8,[.nilFunc],.func⟩),
 (153,⟨1,false,8,[.nilFunc],.func⟩),
 (154,⟨1,false,8,[.nilFunc],.func⟩),
 (155,⟨1,false,8,[.nilFunc],.func⟩),
 (156,⟨1,false,8,[.nilFunc],.func⟩),
 (157,⟨1,false,8,[.nilFunc],.func⟩),
 (158,⟨1,false,8,[.nilFunc],.func⟩),
 (159,⟨1,false,8,[.nilFunc],.func⟩),
 (160,⟨1,false,8,[.nilFunc],.func⟩),
 (161,⟨1,false,8,[.nilFunc],.func⟩),
 (162,⟨1,false,8,[.nilFunc],.func⟩),
 (163,⟨1,false,8,[.nilFunc],.func⟩),
 (164,⟨1,false,8,[.nilFunc],.func⟩),
 (165,⟨1,false,8,[.nilFunc],.func⟩),
 (166,⟨1,false,8,[.nilFunc],.func⟩),
 (167,⟨3,true,40,[.slice none 0 0,.int .i64 0,.int .i64 0],.strct [(0,22),(1,3),(2,3)]⟩),
 (168,⟨3,true,40,[.slice none 0 0,.int .i64 0,.int .i64 0],.strct [(0,22),(1,3),(2,3)]⟩),
 (169,⟨1,false,8,[.int .u64 0],.int .u64⟩),
 (170,⟨1,false,8,[.nilFunc],.func⟩),
 (171,⟨1,false,8,[.nilFunc],.func⟩),
 (172,⟨1,false,8,[.nilFunc],.func⟩),
 (173,⟨1,false,8,[.nilFunc],.func⟩),
 (174,⟨1,false,8,[.nilFunc],.func⟩),
 (175,⟨1,false,8,[.nilFunc],.func⟩),
 (177,⟨1,false,8,[.nilFunc],.func⟩),
 (178,⟨1,false,8,[.nilFunc],.func⟩),
 (179,⟨1,false,8,[.nilFunc],.func⟩),
 (180,⟨1,false,8,[.nilFunc],.func⟩),
 (181,⟨1,false,8,[.nilFunc],.func⟩),
 (182,⟨1,false,8,[.nilFunc],.func⟩),
 (183,⟨1,false,8,[.nilFunc],.func⟩),
 (184,⟨1,false,8,[.nilFunc],.func⟩),
 (185,⟨1,false,8,[.nilFunc],.func⟩),
 (186,⟨1,false,8,[.nilFunc],.func⟩),
 (187,⟨1,false,8,[.nilFunc],.func⟩),
 (188,⟨1,false,8,[.nilFunc],.func⟩),
 (189,⟨1,false,8,[.nilFunc],.func⟩),
 (191,⟨1,false,8,[.nilFunc],.func⟩),
 (192,⟨1,false,8,[.nilFunc],.func⟩),
 (194,⟨1,false,8,[.nilFunc],.func⟩),
 (195,⟨1,false,8,[.nilFunc],.func⟩),
 (196,⟨1,false,8,[.nilFunc],.func⟩),
 (197,⟨1,false,8,[.nilFunc],.func⟩),
 (198,⟨1,false,8,[.nilFunc],.func⟩),
 (199,⟨1,false,24,[.slice none 0 0],.slice 118⟩),
 (200,⟨1,false,8,[.nilFunc],.func⟩),
 (201,⟨1,false,8,[.nilFunc],.func⟩),
 (203,⟨1,false,8,[.int .u64 0],.int .u64⟩),
 (204,⟨3,true,24,[.pointer none,.pointer none,.int .u64 0],.strct [(0,17),(1,202),(2,203)]⟩),
 (205,⟨3,true,24,[.pointer none,.pointer none,.int .u64 0],.strct [(0,17),(1,202),(2,203)]⟩),
 (206,⟨1,false,8,[.nilFunc],.func⟩),
 (207,⟨1,false,8,[.nilFunc],.func⟩),
 (208,⟨1,false,8,[.nilFunc],.func⟩),
 (209,⟨1,false,8,[.nilFunc],.func⟩),
 (210,⟨2,true,16,[.nilFunc,.nilFunc],.strct [(0,159),(1,207)]⟩),
 (211,⟨2,true,16,[.nilFunc,.nilFunc],.strct [(0,159),(1,207)]⟩),
 (212,⟨1,false,8,[.nilFunc],.func⟩),
 (213,⟨1,false,8,[.nilFunc],.func⟩),
 (214,⟨1,false,8,[.nilFunc],.func⟩),
 (215,⟨1,false,8,[.nilFunc],.func⟩),
 (216,⟨1,false,8,[.nilFunc],.func⟩),
 (218,⟨1,false,8,[.nilFunc],.func⟩),
 (219,⟨1,false,8,[.nilFunc],.func⟩),
 (220,⟨1,false,8,[.nilFunc],.func⟩),
 (221,⟨1,false,8,[.map none],.map 3 3⟩),
 (222,⟨1,false,8,[.nilFunc],.func⟩),
 (223,⟨1,false,8,[.nilFunc],.func⟩),
 (224,⟨1,false,8,[.nilFunc],.func⟩),
 (225,⟨1,false,8,[.nilFunc],.func⟩),
 (226,⟨1,false,8,[.nilFunc],.func⟩),
 (227,⟨1,false,8,[.nilFunc],.func⟩),
 (228,⟨1,false,8,[.nilFunc],.func⟩),
 (229,⟨1,false,8,[.nilFunc],.func⟩),
 (230,⟨1,false,8,[.nilFunc],.func⟩),
 (232,⟨1,false,8,[.nilFunc],.func⟩),
 (233,⟨1,false,8,[.nilFunc],.func⟩),
 (235,⟨1,false,8,[.nilFunc],.func⟩),
 (236,⟨1,false,8,[.nilFunc],.func⟩),
 (237,⟨1,false,8,[.nilFunc],.func⟩),
 (238,⟨1,false,8,[.nilFunc],.func⟩),
 (239,⟨1,true,8,[.pointer none],.strct [(0,17)]⟩),
 (240,⟨1,true,8,[.pointer none],.strct [(0,17)]⟩),
 (241,⟨1,false,8,[.pointer none],.ptr 290⟩),
 (242,⟨1,false,8,[.nilFunc],.func⟩),
 (243,⟨1,false,8,[.nilFunc],.func⟩),
 (244,⟨1,false,8,[.nilFunc],.func⟩),
 (245,⟨1,false,8,[.nilFunc],.func⟩),
 (246,⟨1,false,8,[.nilFunc],.func⟩),
 (247,⟨1,false,8,[.map none],.map 3 4⟩),
 (248,⟨1,false,8,[.nilFunc],.func⟩),
 (249,⟨1,false,8,[.nilFunc],.func⟩),
 (250,⟨1,false,8,[.nilFunc],.func⟩),
 (251,⟨1,false,8,[.nilFunc],.func⟩),
 (252,⟨1,false,8,[.nilFunc],.func⟩),
 (253,⟨1,false,8,[.nilFunc],.func⟩),
 (254,⟨1,false,8,[.nilFunc],.func⟩),
 (255,⟨1,false,8,[.nilFunc],.func⟩),
 (256,⟨1,false,8,[.nilFunc],.func⟩),
 (257,⟨1,false,8,[.int .i64 0],.int .i64⟩),
 (259,⟨1,false,8,[.nilFunc],.func⟩),
 (260,⟨1,false,8,[.nilFunc],.func⟩),
 (261,⟨1,false,8,[.nilFunc],.func⟩),
 (262,⟨1,false,8,[.nilFunc],.func⟩),
 (263,⟨1,false,8,[.nilFunc],.func⟩),
 (264,⟨1,false,4,[.int .u32 0],.int .u32⟩),
 (265,⟨1,false,8,[.nilFunc],.func⟩),
 (266,⟨1,false,8,[.int .u64 0],.int .u64⟩),
 (267,⟨1,false,8,[.int .u64 0],.int .u64⟩),
 (268,⟨1,false,8,[.nilFunc],.func⟩),
 (269,⟨1,false,8,[.nilFunc],.func⟩),
 (270,⟨1,false,8,[.nilFunc],.func⟩),
 (271,⟨1,false,8,[.nilFunc],.func⟩),
 (272,⟨1,false,8,[.pointer none],.ptr 267⟩),
 (274,⟨1,false,8,[.nilFunc],.func⟩),
 (275,⟨1,false,8,[.nilFunc],.func⟩),
 (276,⟨4,true,40,[.pointer none,.pointer none,.pointer none,.string ⟨#[]⟩],.strct [(0,17),(1,17),(2,17),(3,9)]⟩),
 (277,⟨4,true,40,[.pointer none,.pointer none,.pointer none,.string ⟨#[]⟩],.strct [(0,17),(1,17),(2,17),(3,9)]⟩),
 (279,⟨0,true,0,[],.strct [(0,278)]⟩),
 (280,⟨0,true,0,[],.strct [(0,278)]⟩),
 (281,⟨1,false,1,[.int .u8 0],.int .u8⟩),
 (282,⟨1,false,1,[.int .u8 0],.int .u8⟩),
 (283,⟨1,false,8,[.nilFunc],.func⟩),
 (284,⟨1,false,8,[.pointer none],.ptr 5⟩),
 (285,⟨1,false,4,[.int .i32 0],.int .i32⟩),
 (286,⟨1,false,4,[.int .i32 0],.int .i32⟩),
 (287,⟨11,true,48,[.int .u64 0,.int .u64 0,.int .u32 0,.int .u8 0,.int .u8 0,.int .u8 0,.int .u8 0,.nilFunc,.pointer none,.int .i32 0,.int .i32 0],.strct [(0,12),(1,12),(2,264),(3,281),(4,5),(5,5),(6,282),(7,283),(8,284),(9,285),(10,286)]⟩),
 (288,⟨11,true,48,[.int .u64 0,.int .u64 0,.int .u32 0,.int .u8 0,.int .u8 0,.int .u8 0,.int .u8 0,.nilFunc,.pointer none,.int .i32 0,.int .i32 0],.strct [(0,12),(1,12),(2,264),(3,281),(4,5),(5,5),(6,282),(7,283),(8,284),(9,285),(10,286)]⟩),
 (289,⟨2,true,24,[.string ⟨#[]⟩,.int .u8 0],.strct [(0,9),(1,282)]⟩),
 (290,⟨2,true,24,[.string ⟨#[]⟩,.int .u8 0],.strct [(0,9),(1,282)]⟩)]
theorem ti1:TIok Tryz.prog 1 ⟨1,false,8,[.nilFunc],.func⟩:=⟨by kernel_rfl,by kernel_rfl,by kernel_rfl,rfl,by kernel_rfl,trivial⟩
theorem ti2:TIok Tryz.prog 2 ⟨1,false,8,[.int .i64 0],.int .i64⟩:=⟨by kernel_rfl,by kernel_rfl,by kernel_rfl,rfl,by kernel_rfl,by show _=_;kernel_rfl⟩
theorem ti3:TIok Tryz.prog 3 ⟨1,false,8,[.int .i64 0],.int .i64⟩:=⟨by kernel_rfl,by kernel_rfl,by kernel_rfl,rfl,by kernel_rfl,by show _=_;kernel_rfl⟩
theorem ti4:TIok Tryz.prog 4 ⟨1,false,1,[.bool false],.bool⟩:=⟨by kernel_rfl,by kernel_rfl,by kernel_rfl,rfl,by kernel_rfl,by show _=_;kernel_rfl⟩
theorem ti5:TIok Tryz.prog 5 ⟨1,false,1,[.int .u8 0],.int .u8⟩:=⟨by kernel_rfl,by kernel_rfl,by kernel_rfl,rfl,by kernel_rfl,by show _=_;kernel_rfl⟩
theorem ti6:TIok Tryz.prog 6 ⟨1,false,1,[.int .u8 0],.int .u8⟩:=⟨by kernel_rfl,by kernel_rfl,by kernel_rfl,rfl,by kernel_rfl,by show _=_;kernel_rfl⟩
theorem ti7:TIok Tryz.prog 7 ⟨4,true,24,[.int .i64 0,.int .i64 0,.bool false,.int .u8 0],.strct [(0,2),(1,3),(2,4),(3,6)]⟩:=⟨by kernel_rfl,by kernel_rfl,by kernel_rfl,rfl,by kernel_rfl,⟨by kernel_rfl,by kernel_rfl⟩⟩
theorem ti8:TIok Tryz.prog 8 ⟨4,true,24,[.int .i64 0,.int .i64 0,.bool false,.int .u8 0],.strct [(0,2),(1,3),(2,4),(3,6)]⟩:=⟨by kernel_rfl,by kernel_rfl,by kernel_rfl,rfl,by kernel_rfl,⟨by kernel_rfl,by kernel_rfl⟩⟩
theorem ti9:TIok Tryz.prog 9 ⟨1,false,16,[.string ⟨#[]⟩],.str⟩:=⟨by kernel_rfl,by kernel_rfl,by kernel_rfl,rfl,by kernel_rfl,by show _=_;kernel_rfl⟩
theorem ti10:TIok Tryz.prog 10 ⟨1,false,16,[.string ⟨#[]⟩],.str⟩:=⟨by kernel_rfl,by kernel_rfl,by kernel_rfl,rfl,by kernel_rfl,by show _=_;kernel_rfl⟩
theorem ti11:TIok Tryz.prog 11 ⟨1,false,16,[.string ⟨#[]⟩],.str⟩:=⟨by kernel_rfl,by kernel_rfl,by kernel_rfl,rfl,by kernel_rfl,by show _=_;kernel_rfl⟩
theorem ti12:TIok Tryz.prog 12 ⟨1,false,8,[.int .u64 0],.int .u64⟩:=⟨by kernel_rfl,by kernel_rfl,by kernel_rfl,rfl,by kernel_rfl,by show _=_;kernel_rfl⟩
theorem ti13:TIok Tryz.prog 13 ⟨2,true,24,[.string ⟨#[]⟩,.int .u64 0],.strct [(0,9),(1,12)]⟩:=⟨by kernel_rfl,by kernel_rfl,by kernel_rfl,rfl,by kernel_rfl,⟨by kernel_rfl,by kernel_rfl⟩⟩
theorem ti14:TIok Tryz.prog 14 ⟨2,true,24,[.string ⟨#[]⟩,.int .u64 0],.strct [(0,9),(1,12)]⟩:=⟨by kernel_rfl,by kernel_rfl,by kernel_rfl,rfl,by kernel_rfl,⟨by kernel_rfl,by kernel_rfl⟩⟩
theorem ti15:TIok Tryz.prog 15 ⟨1,false,8,[.pointer none],.ptr 277⟩:=⟨by kernel_rfl,by kernel_rfl,by kernel_rfl,rfl,by kernel_rfl,by show _=_;kernel_rfl⟩
theorem ti16:TIok Tryz.prog 16 ⟨1,false,8,[.pointer none],.ptr 280⟩:=⟨by kernel_rfl,by kernel_rfl,by kernel_rfl,rfl,by kernel_rfl,by show _=_;kernel_rfl⟩
theorem ti17:TIok Tryz.prog 17 ⟨1,false,8,[.pointer none],.ptr 288⟩:=⟨by kernel_rfl,by kernel_rfl,by kernel_rfl,rfl,by kernel_rfl,by show _=_;kernel_rfl⟩
theorem ti18:TIok Tryz.prog 18 ⟨1,true,8,[.pointer none],.strct [(0,17)]⟩:=⟨by kernel_rfl,by kernel_rfl,by kernel_rfl,rfl,by kernel_rfl,⟨by kernel_rfl,by kernel_rfl⟩⟩
theorem ti19:TIok Tryz.prog 19 ⟨1,true,8,[.pointer none],.strct [(0,17)]⟩:=⟨by kernel_rfl,by kernel_rfl,by kernel_rfl,rfl,by kernel_rfl,⟨by kernel_rfl,by kernel_rfl⟩⟩
theorem ti20:TIok Tryz.prog 20 ⟨1,false,16,[.nilIface],.iface⟩:=⟨by kernel_rfl,by kernel_rfl,by kernel_rfl,rfl,by kernel_rfl,trivial⟩
theorem ti21:TIok Tryz.prog 21 ⟨1,false,4,[.int .i32 0],.int .i32⟩:=⟨by kernel_rfl,by kernel_rfl,by kernel_rfl,rfl,by kernel_rfl,by show _=_;kernel_rfl⟩
theorem ti22:TIok Tryz.prog 22 ⟨1,false,24,[.slice none 0 0],.slice 5⟩:=⟨by kernel_rfl,by kernel_rfl,by kernel_rfl,rfl,by kernel_rfl,by show _=_;kernel_rfl⟩
theorem ti23:TIok Tryz.prog 23 ⟨1,false,24,[.slice none 0 0],.slice 63⟩:=⟨by kernel_rfl,by kernel_rfl,by kernel_rfl,rfl,by kernel_rfl,by show _=_;kernel_rfl⟩
theorem ti24:TIok Tryz.prog 24 ⟨1,true,24,[.slice none 0 0],.strct [(0,23)]⟩:=⟨by kernel_rfl,by kernel_rfl,by kernel_rfl,rfl,by kernel_rfl,⟨by kernel_rfl,by kernel_rfl⟩⟩
theorem ti25:TIok Tryz.prog 25 ⟨1,true,24,[.slice none 0 0],.strct [(0,23)]⟩:=⟨by kernel_rfl,by kernel_rfl,by kernel_rfl,rfl,by kernel_rfl,⟨by kernel_rfl,by kernel_rfl⟩⟩
theorem ti26:TIok Tryz.prog 26 ⟨1,false,8,[.nilFunc],.func⟩:=⟨by kernel_rfl,by kernel_rfl,by kernel_rfl,rfl,by kernel_rfl,trivial⟩
theorem ti27:TIok Tryz.prog 27 ⟨1,false,24,[.slice none 0 0],.slice 75⟩:=⟨by kernel_rfl,by kernel_rfl,by kernel_rfl,rfl,by kernel_rfl,by show _=_;kernel_rfl⟩
theorem ti28:TIok Tryz.prog 28 ⟨1,false,8,[.nilFunc],.func⟩:=⟨by kernel_rfl,by kernel_rfl,by kernel_rfl,rfl,by kernel_rfl,trivial⟩
theorem ti29:TIok Tryz.prog 29 ⟨1,false,24,[.slice none 0 0],.slice 41⟩:=⟨by kernel_rfl,by kernel_rfl,by kernel_rfl,rfl,by kernel_rfl,by show _=_;kernel_rfl⟩
theorem ti30:TIok Tryz.prog 30 ⟨1,false,8,[.nilFunc],.func⟩:=⟨by kernel_rfl,by kernel_rfl,by kernel_rfl,rfl,by kernel_rfl,trivial⟩
theorem ti32:TIok Tryz.prog 32 ⟨1,false,8,[.nilFunc],.func⟩:=⟨by kernel_rfl,by kernel_rfl,by kernel_rfl,rfl,by kernel_rfl,trivial⟩
theorem ti34:TIok Tryz.prog 34 ⟨1,false,8,[.nilFunc],.func⟩:=⟨by kernel_rfl,by kernel_rfl,by kernel_rfl,rfl,by kernel_rfl,trivial⟩
theorem ti35:TIok Tryz.prog 35 ⟨1,false,8,[.nilFunc],.func⟩:=⟨by kernel_rfl,by kernel_rfl,by kernel_rfl,rfl,by kernel_rfl,trivial⟩
theorem ti36:TIok Tryz.prog 36 ⟨1,false,8,[.nilFunc],.func⟩:=⟨by kernel_rfl,by kernel_rfl,by kernel_rfl,rfl,by kernel_rfl,trivial⟩
theorem ti37:TIok Tryz.prog 37 ⟨1,false,8,[.nilFunc],.func⟩:=⟨by kernel_rfl,by kernel_rfl,by kernel_rfl,rfl,by kernel_rfl,trivial⟩
theorem ti39:TIok Tryz.prog 39 ⟨1,false,8,[.nilFunc],.func⟩:=⟨by kernel_rfl,by kernel_rfl,by kernel_rfl,rfl,by kernel_rfl,trivial⟩
theorem ti40:TIok Tryz.prog 40 ⟨2,true,40,[.string ⟨#[]⟩,.slice none 0 0],.strct [(0,9),(1,27)]⟩:=⟨by kernel_rfl,by kernel_rfl,by kernel_rfl,rfl,by kernel_rfl,⟨by kernel_rfl,by kernel_rfl⟩⟩
theorem ti41:TIok Tryz.prog 41 ⟨2,true,40,[.string ⟨#[]⟩,.slice none 0 0],.strct [(0,9),(1,27)]⟩:=⟨by kernel_rfl,by kernel_rfl,by kernel_rfl,rfl,by kernel_rfl,⟨by kernel_rfl,by kernel_rfl⟩⟩
theorem ti42:TIok Tryz.prog 42 ⟨1,false,8,[.nilFunc],.func⟩:=⟨by kernel_rfl,by kernel_rfl,by kernel_rfl,rfl,by kernel_rfl,trivial⟩
theorem ti43:TIok Tryz.prog 43 ⟨1,false,8,[.nilFunc],.func⟩:=⟨by kernel_rfl,by kernel_rfl,by kernel_rfl,rfl,by kernel_rfl,trivial⟩
theorem ti44:TIok Tryz.prog 44 ⟨1,false,8,[.nilFunc],.func⟩:=⟨by kernel_rfl,by kernel_rfl,by kernel_rfl,rfl,by kernel_rfl,trivial⟩
theorem ti45:TIok Tryz.prog 45 ⟨1,false,8,[.nilFunc],.func⟩:=⟨by kernel_rfl,by kernel_rfl,by kernel_rfl,rfl,by kernel_rfl,trivial⟩
theorem ti46:TIok Tryz.prog 46 ⟨1,false,8,[.nilFunc],.func⟩:=⟨by kernel_rfl,by kernel_rfl,by kernel_rfl,rfl,by kernel_rfl,trivial⟩
theorem ti47:TIok Tryz.prog 47 ⟨1,false,8,[.nilFunc],.func⟩:=⟨by kernel_rfl,by kernel_rfl,by kernel_rfl,rfl,by kernel_rfl,trivial⟩
theorem ti48:TIok Tryz.prog 48 ⟨1,false,24,[.slice none 0 0],.slice 3⟩:=⟨by kernel_rfl,by kernel_rfl,by kernel_rfl,rfl,by kernel_rfl,by show _=_;kernel_rfl⟩
theorem ti50:TIok Tryz.prog 50 ⟨1,false,8,[.nilFunc],.func⟩:=⟨by kernel_rfl,by kernel_rfl,by kernel_rfl,rfl,by kernel_rfl,trivial⟩
theorem ti51:TIok Tryz.prog 51 ⟨1,false,8,[.nilFunc],.func⟩:=⟨by kernel_rfl,by kernel_rfl,by kernel_rfl,rfl,by kernel_rfl,trivial⟩
theorem ti52:TIok Tryz.prog 52 ⟨1,false,24,[.slice none 0 0],.slice 54⟩:=⟨by kernel_rfl,by kernel_rfl,by kernel_rfl,rfl,by kernel_rfl,by show _=_;kernel_rfl⟩
theorem ti53:TIok Tryz.prog 53 ⟨4,true,72,[.string ⟨#[]⟩,.int .i64 0,.slice none 0 0,.slice none 0 0],.strct [(0,9),(1,3),(2,27),(3,52)]⟩:=⟨by kernel_rfl,by kernel_rfl,by kernel_rfl,rfl,by kernel_rfl,⟨by kernel_rfl,by kernel_rfl⟩⟩
theorem ti54:TIok Tryz.prog 54 ⟨4,true,72,[.string ⟨#[]⟩,.int .i64 0,.slice none 0 0,.slice none 0 0],.strct [(0,9),(1,3),(2,27),(3,52)]⟩:=⟨by kernel_rfl,by kernel_rfl,by kernel_rfl,rfl,by kernel_rfl,⟨by kernel_rfl,by kernel_rfl⟩⟩
theorem ti55:TIok Tryz.prog 55 ⟨1,false,8,[.nilFunc],.func⟩:=⟨by kernel_rfl,by kernel_rfl,by kernel_rfl,rfl,by kernel_rfl,trivial⟩
theorem ti57:TIok Tryz.prog 57 ⟨1,false,8,[.nilFunc],.func⟩:=⟨by kernel_rfl,by kernel_rfl,by kernel_rfl,rfl,by kernel_rfl,trivial⟩
theorem ti58:TIok Tryz.prog 58 ⟨1,false,8,[.nilFunc],.func⟩:=⟨by kernel_rfl,by kernel_rfl,by kernel_rfl,rfl,by kernel_rfl,trivial⟩
theorem ti59:TIok Tryz.prog 59 ⟨1,false,24,[.slice none 0 0],.slice 61⟩:=⟨by kernel_rfl,by kernel_rfl,by kernel_rfl,rfl,by kernel_rfl,by show _=_;kernel_rfl⟩
theorem ti60:TIok Tryz.prog 60 ⟨4,true,72,[.int .i64 0,.string ⟨#[]⟩,.slice none 0 0,.slice none 0 0],.strct [(0,3),(1,9),(2,27),(3,59)]⟩:=⟨by kernel_rfl,by kernel_rfl,by kernel_rfl,rfl,by kernel_rfl,⟨by kernel_rfl,by kernel_rfl⟩⟩
theorem ti61:TIok Tryz.prog 61 ⟨4,true,72,[.int .i64 0,.string ⟨#[]⟩,.slice none 0 0,.slice none 0 0],.strct [(0,3),(1,9),(2,27),(3,59)]⟩:=⟨by kernel_rfl,by kernel_rfl,by kernel_rfl,rfl,by kernel_rfl,⟨by kernel_rfl,by kernel_rfl⟩⟩
theorem ti62:TIok Tryz.prog 62 ⟨7,true,104,[.string ⟨#[]⟩,.int .i64 0,.int .i64 0,.int .i64 0,.string ⟨#[]⟩,.slice none 0 0,.slice none 0 0],.strct [(0,9),(1,3),(2,3),(3,61)]⟩:=⟨by kernel_rfl,by kernel_rfl,by kernel_rfl,rfl,by kernel_rfl,⟨by kernel_rfl,by kernel_rfl⟩⟩
theorem ti63:TIok Tryz.prog 63 ⟨7,true,104,[.string ⟨#[]⟩,.int .i64 0,.int .i64 0,.int .i64 0,.string ⟨#[]⟩,.slice none 0 0,.slice none 0 0],.strct [(0,9),(1,3),(2,3),(3,61)]⟩:=⟨by kernel_rfl,by kernel_rfl,by kernel_rfl,rfl,by kernel_rfl,⟨by kernel_rfl,by kernel_rfl⟩⟩
theorem ti64:TIok Tryz.prog 64 ⟨1,false,8,[.nilFunc],.func⟩:=⟨by kernel_rfl,by kernel_rfl,by kernel_rfl,rfl,by kernel_rfl,trivial⟩
theorem ti66:TIok Tryz.prog 66 ⟨1,false,8,[.nilFunc],.func⟩:=⟨by kernel_rfl,by kernel_rfl,by kernel_rfl,rfl,by kernel_rfl,trivial⟩
theorem ti67:TIok Tryz.prog 67 ⟨1,false,8,[.nilFunc],.func⟩:=⟨by kernel_rfl,by kernel_rfl,by kernel_rfl,rfl,by kernel_rfl,trivial⟩
theorem ti69:TIok Tryz.prog 69 ⟨1,false,8,[.nilFunc],.func⟩:=⟨by kernel_rfl,by kernel_rfl,by kernel_rfl,rfl,by kernel_rfl,trivial⟩
theorem ti70:TIok Tryz.prog 70 ⟨1,false,8,[.nilFunc],.func⟩:=⟨by kernel_rfl,by kernel_rfl,by kernel_rfl,rfl,by kernel_rfl,trivial⟩
theorem ti71:TIok Tryz.prog 71 ⟨1,false,8,[.nilFunc],.func⟩:=⟨by kernel_rfl,by kernel_rfl,by kernel_rfl,rfl,by kernel_rfl,trivial⟩
theorem ti73:TIok Tryz.prog 73 ⟨1,false,8,[.nilFunc],.func⟩:=⟨by kernel_rfl,by kernel_rfl,by kernel_rfl,rfl,by kernel_rfl,trivial⟩
theorem ti74:TIok Tryz.prog 74 ⟨4,true,56,[.int .i64 0,.int .i64 0,.string ⟨#[]⟩,.slice none 0 0],.strct [(0,3),(1,3),(2,9),(3,27)]⟩:=⟨by kernel_rfl,by kernel_rfl,by kernel_rfl,rfl,by kernel_rfl,⟨by kernel_rfl,by kernel_rfl⟩⟩
theorem ti75:TIok Tryz.prog 75 ⟨4,true,56,[.int .i64 0,.int .i64 0,.string ⟨#[]⟩,.slice none 0 0],.strct [(0,3),(1,3),(2,9),(3,27)]⟩:=⟨by kernel_rfl,by kernel_rfl,by kernel_rfl,rfl,by kernel_rfl,⟨by kernel_rfl,by kernel_rfl⟩⟩
theorem ti76:TIok Tryz.prog 76 ⟨1,false,8,[.nilFunc],.func⟩:=⟨by kernel_rfl,by kernel_rfl,by kernel_rfl,rfl,by kernel_rfl,trivial⟩
theorem ti77:TIok Tryz.prog 77 ⟨1,false,8,[.nilFunc],.func⟩:=⟨by kernel_rfl,by kernel_rfl,by kernel_rfl,rfl,by kernel_rfl,trivial⟩
theorem ti78:TIok Tryz.prog 78 ⟨1,false,8,[.nilFunc],.func⟩:=⟨by kernel_rfl,by kernel_rfl,by kernel_rfl,rfl,by kernel_rfl,trivial⟩
theorem ti79:TIok Tryz.prog 79 ⟨1,false,8,[.pointer none],.ptr 168⟩:=⟨by kernel_rfl,by kernel_rfl,by kernel_rfl,rfl,by kernel_rfl,by show _=_;kernel_rfl⟩
theorem ti80:TIok Tryz.prog 80 ⟨1,false,8,[.nilFunc],.func⟩:=⟨by kernel_rfl,by kernel_rfl,by kernel_rfl,rfl,by kernel_rfl,trivial⟩
theorem ti81:TIok Tryz.prog 81 ⟨1,false,8,[.nilFunc],.func⟩:=⟨by kernel_rfl,by kernel_rfl,by kernel_rfl,rfl,by kernel_rfl,trivial⟩
theorem ti82:TIok Tryz.prog 82 ⟨1,false,8,[.nilFunc],.func⟩:=⟨by kernel_rfl,by kernel_rfl,by kernel_rfl,rfl,by kernel_rfl,trivial⟩
theorem ti83:TIok Tryz.prog 83 ⟨1,false,8,[.nilFunc],.func⟩:=⟨by kernel_rfl,by kernel_rfl,by kernel_rfl,rfl,by kernel_rfl,trivial⟩
theorem ti84:TIok Tryz.prog 84 ⟨1,false,8,[.nilFunc],.func⟩:=⟨by kernel_rfl,by kernel_rfl,by kernel_rfl,rfl,by kernel_rfl,trivial⟩
theorem ti85:TIok Tryz.prog 85 ⟨1,false,8,[.nilFunc],.func⟩:=⟨by kernel_rfl,by kernel_rfl,by kernel_rfl,rfl,by kernel_rfl,trivial⟩
theorem ti86:TIok Tryz.prog 86 ⟨1,false,8,[.nilFunc],.func⟩:=⟨by kernel_rfl,by kernel_rfl,by kernel_rfl,rfl,by kernel_rfl,trivial⟩
theorem ti87:TIok Tryz.prog 87 ⟨1,false,24,[.slice none 0 0],.slice 106⟩:=⟨by kernel_rfl,by kernel_rfl,by kernel_rfl,rfl,by kernel_rfl,by show _=_;kernel_rfl⟩
theorem ti89:TIok Tryz.prog 89 ⟨1,false,8,[.nilFunc],.func⟩:=⟨by kernel_rfl,by kernel_rfl,by kernel_rfl,rfl,by kernel_rfl,trivial⟩
theorem ti90:TIok Tryz.prog 90 ⟨1,false,8,[.nilFunc],.func⟩:=⟨by kernel_rfl,by kernel_rfl,by kernel_rfl,rfl,by kernel_rfl,trivial⟩
theorem ti91:TIok Tryz.prog 91 ⟨1,false,8,[.nilFunc],.func⟩:=⟨by kernel_rfl,by kernel_rfl,by kernel_rfl,rfl,by kernel_rfl,trivial⟩
theorem ti92:TIok Tryz.prog 92 ⟨1,false,24,[.slice none 0 0],.slice 29⟩:=⟨by kernel_rfl,by kernel_rfl,by kernel_rfl,rfl,by kernel_rfl,by show _=_;kernel_rfl⟩
theorem ti93:TIok Tryz.prog 93 ⟨1,false,8,[.nilFunc],.func⟩:=⟨by kernel_rfl,by kernel_rfl,by kernel_rfl,rfl,by kernel_rfl,trivial⟩
theorem ti94:TIok Tryz.prog 94 ⟨1,false,8,[.nilFunc],.func⟩:=⟨by kernel_rfl,by kernel_rfl,by kernel_rfl,rfl,by kernel_rfl,trivial⟩
theorem ti95:TIok Tryz.prog 95 ⟨1,false,8,[.nilFunc],.func⟩:=⟨by kernel_rfl,by kernel_rfl,by kernel_rfl,rfl,by kernel_rfl,trivial⟩
theorem ti96:TIok Tryz.prog 96 ⟨1,false,8,[.nilFunc],.func⟩:=⟨by kernel_rfl,by kernel_rfl,by kernel_rfl,rfl,by kernel_rfl,trivial⟩
theorem ti97:TIok Tryz.prog 97 ⟨1,false,24,[.slice none 0 0],.slice 100⟩:=⟨by kernel_rfl,by kernel_rfl,by kernel_rfl,rfl,by kernel_rfl,by show _=_;kernel_rfl⟩
theorem ti98:TIok Tryz.prog 98 ⟨1,false,8,[.nilFunc],.func⟩:=⟨by kernel_rfl,by kernel_rfl,by kernel_rfl,rfl,by kernel_rfl,trivial⟩
theorem ti99:TIok Tryz.prog 99 ⟨5,true,64,[.int .i64 0,.int .i64 0,.int .i64 0,.string ⟨#[]⟩,.slice none 0 0],.strct [(0,3),(1,75)]⟩:=⟨by kernel_rfl,by kernel_rfl,by kernel_rfl,rfl,by kernel_rfl,⟨by kernel_rfl,by kernel_rfl⟩⟩
theorem ti100:TIok Tryz.prog 100 ⟨5,true,64,[.int .i64 0,.int .i64 0,.int .i64 0,.string ⟨#[]⟩,.slice none 0 0],.strct [(0,3),(1,75)]⟩:=⟨by kernel_rfl,by kernel_rfl,by kernel_rfl,rfl,by kernel_rfl,⟨by kernel_rfl,by kernel_rfl⟩⟩
theorem ti101:TIok Tryz.prog 101 ⟨1,false,8,[.nilFunc],.func⟩:=⟨by kernel_rfl,by kernel_rfl,by kernel_rfl,rfl,by kernel_rfl,trivial⟩
theorem ti102:TIok Tryz.prog 102 ⟨1,false,8,[.nilFunc],.func⟩:=⟨by kernel_rfl,by kernel_rfl,by kernel_rfl,rfl,by kernel_rfl,trivial⟩
theorem ti103:TIok Tryz.prog 103 ⟨1,false,8,[.nilFunc],.func⟩:=⟨by kernel_rfl,by kernel_rfl,by kernel_rfl,rfl,by kernel_rfl,trivial⟩
theorem ti104:TIok Tryz.prog 104 ⟨1,false,8,[.nilFunc],.func⟩:=⟨by kernel_rfl,by kernel_rfl,by kernel_rfl,rfl,by kernel_rfl,trivial⟩
theorem ti105:TIok Tryz.prog 105 ⟨6,true,120,[.string ⟨#[]⟩,.slice none 0 0,.int .i64 0,.slice none 0 0,.slice none 0 0,.slice none 0 0],.strct [(0,41),(2,3),(3,27),(4,29),(5,29)]⟩:=⟨by kernel_rfl,by kernel_rfl,by kernel_rfl,rfl,by kernel_rfl,⟨by kernel_rfl,by kernel_rfl⟩⟩
theorem ti106:TIok Tryz.prog 106 ⟨6,true,120,[.string ⟨#[]⟩,.slice none 0 0,.int .i64 0,.slice none 0 0,.slice none 0 0,.slice none 0 0],.strct [(0,41),(2,3),(3,27),(4,29),(5,29)]⟩:=⟨by kernel_rfl,by kernel_rfl,by kernel_rfl,rfl,by kernel_rfl,⟨by kernel_rfl,by kernel_rfl⟩⟩
theorem ti107:TIok Tryz.prog 107 ⟨1,false,24,[.slice none 0 0],.slice 9⟩:=⟨by kernel_rfl,by kernel_rfl,by kernel_rfl,rfl,by kernel_rfl,by show _=_;kernel_rfl⟩
theorem ti108:TIok Tryz.prog 108 ⟨1,false,8,[.nilFunc],.func⟩:=⟨by kernel_rfl,by kernel_rfl,by kernel_rfl,rfl,by kernel_rfl,trivial⟩
theorem ti109:TIok Tryz.prog 109 ⟨1,false,24,[.slice none 0 0],.slice 107⟩:=⟨by kernel_rfl,by kernel_rfl,by kernel_rfl,rfl,by kernel_rfl,by show _=_;kernel_rfl⟩
theorem ti110:TIok Tryz.prog 110 ⟨1,false,8,[.nilFunc],.func⟩:=⟨by kernel_rfl,by kernel_rfl,by kernel_rfl,rfl,by kernel_rfl,trivial⟩
theorem ti111:TIok Tryz.prog 111 ⟨1,false,8,[.nilFunc],.func⟩:=⟨by kernel_rfl,by kernel_rfl,by kernel_rfl,rfl,by kernel_rfl,trivial⟩
theorem ti112:TIok Tryz.prog 112 ⟨1,false,8,[.nilFunc],.func⟩:=⟨by kernel_rfl,by kernel_rfl,by kernel_rfl,rfl,by kernel_rfl,trivial⟩
theorem ti113:TIok Tryz.prog 113 ⟨1,false,8,[.nilFunc],.func⟩:=⟨by kernel_rfl,by kernel_rfl,by kernel_rfl,rfl,by kernel_rfl,trivial⟩
theorem ti114:TIok Tryz.prog 114 ⟨1,false,8,[.nilFunc],.func⟩:=⟨by kernel_rfl,by kernel_rfl,by kernel_rfl,rfl,by kernel_rfl,trivial⟩
theorem ti115:TIok Tryz.prog 115 ⟨1,false,8,[.nilFunc],.func⟩:=⟨by kernel_rfl,by kernel_rfl,by kernel_rfl,rfl,by kernel_rfl,trivial⟩
theorem ti117:TIok Tryz.prog 117 ⟨1,false,8,[.nilFunc],.func⟩:=⟨by kernel_rfl,by kernel_rfl,by kernel_rfl,rfl,by kernel_rfl,trivial⟩
theorem ti118:TIok Tryz.prog 118 ⟨1,false,24,[.slice none 0 0],.slice 59⟩:=⟨by kernel_rfl,by kernel_rfl,by kernel_rfl,rfl,by kernel_rfl,by show _=_;kernel_rfl⟩
theorem ti120:TIok Tryz.prog 120 ⟨1,false,8,[.nilFunc],.func⟩:=⟨by kernel_rfl,by kernel_rfl,by kernel_rfl,rfl,by kernel_rfl,trivial⟩
theorem ti122:TIok Tryz.prog 122 ⟨1,false,8,[.nilFunc],.func⟩:=⟨by kernel_rfl,by kernel_rfl,by kernel_rfl,rfl,by kernel_rfl,trivial⟩
theorem ti123:TIok Tryz.prog 123 ⟨1,false,8,[.nilFunc],.func⟩:=⟨by kernel_rfl,by kernel_rfl,by kernel_rfl,rfl,by kernel_rfl,trivial⟩
theorem ti124:TIok Tryz.prog 124 ⟨1,false,8,[.nilFunc],.func⟩:=⟨by kernel_rfl,by kernel_rfl,by kernel_rfl,rfl,by kernel_rfl,trivial⟩
theorem ti125:TIok Tryz.prog 125 ⟨1,false,8,[.nilFunc],.func⟩:=⟨by kernel_rfl,by kernel_rfl,by kernel_rfl,rfl,by kernel_rfl,trivial⟩
theorem ti127:TIok Tryz.prog 127 ⟨1,false,8,[.nilFunc],.func⟩:=⟨by kernel_rfl,by kernel_rfl,by kernel_rfl,rfl,by kernel_rfl,trivial⟩
theorem ti128:TIok Tryz.prog 128 ⟨1,false,8,[.nilFunc],.func⟩:=⟨by kernel_rfl,by kernel_rfl,by kernel_rfl,rfl,by kernel_rfl,trivial⟩
theorem ti129:TIok Tryz.prog 129 ⟨1,false,8,[.nilFunc],.func⟩:=⟨by kernel_rfl,by kernel_rfl,by kernel_rfl,rfl,by kernel_rfl,trivial⟩
theorem ti130:TIok Tryz.prog 130 ⟨1,false,8,[.nilFunc],.func⟩:=⟨by kernel_rfl,by kernel_rfl,by kernel_rfl,rfl,by kernel_rfl,trivial⟩
theorem ti131:TIok Tryz.prog 131 ⟨1,false,8,[.nilFunc],.func⟩:=⟨by kernel_rfl,by kernel_rfl,by kernel_rfl,rfl,by kernel_rfl,trivial⟩
theorem ti132:TIok Tryz.prog 132 ⟨1,false,8,[.nilFunc],.func⟩:=⟨by kernel_rfl,by kernel_rfl,by kernel_rfl,rfl,by kernel_rfl,trivial⟩
theorem ti133:TIok Tryz.prog 133 ⟨1,false,8,[.nilFunc],.func⟩:=⟨by kernel_rfl,by kernel_rfl,by kernel_rfl,rfl,by kernel_rfl,trivial⟩
theorem ti134:TIok Tryz.prog 134 ⟨1,false,8,[.pointer none],.ptr 3⟩:=⟨by kernel_rfl,by kernel_rfl,by kernel_rfl,rfl,by kernel_rfl,by show _=_;kernel_rfl⟩
theorem ti135:TIok Tryz.prog 135 ⟨1,false,8,[.nilFunc],.func⟩:=⟨by kernel_rfl,by kernel_rfl,by kernel_rfl,rfl,by kernel_rfl,trivial⟩
theorem ti136:TIok Tryz.prog 136 ⟨1,false,8,[.nilFunc],.func⟩:=⟨by kernel_rfl,by kernel_rfl,by kernel_rfl,rfl,by kernel_rfl,trivial⟩
theorem ti138:TIok Tryz.prog 138 ⟨1,false,8,[.nilFunc],.func⟩:=⟨by kernel_rfl,by kernel_rfl,by kernel_rfl,rfl,by kernel_rfl,trivial⟩
theorem ti139:TIok Tryz.prog 139 ⟨1,false,8,[.nilFunc],.func⟩:=⟨by kernel_rfl,by kernel_rfl,by kernel_rfl,rfl,by kernel_rfl,trivial⟩
theorem ti140:TIok Tryz.prog 140 ⟨1,false,8,[.nilFunc],.func⟩:=⟨by kernel_rfl,by kernel_rfl,by kernel_rfl,rfl,by kernel_rfl,trivial⟩
theorem ti141:TIok Tryz.prog 141 ⟨1,false,8,[.nilFunc],.func⟩:=⟨by kernel_rfl,by kernel_rfl,by kernel_rfl,rfl,by kernel_rfl,trivial⟩
theorem ti142:TIok Tryz.prog 142 ⟨1,false,8,[.nilFunc],.func⟩:=⟨by kernel_rfl,by kernel_rfl,by kernel_rfl,rfl,by kernel_rfl,trivial⟩
theorem ti143:TIok Tryz.prog 143 ⟨1,false,8,[.nilFunc],.func⟩:=⟨by kernel_rfl,by kernel_rfl,by kernel_rfl,rfl,by kernel_rfl,trivial⟩
theorem ti144:TIok Tryz.prog 144 ⟨1,false,8,[.nilFunc],.func⟩:=⟨by kernel_rfl,by kernel_rfl,by kernel_rfl,rfl,by kernel_rfl,trivial⟩
theorem ti145:TIok Tryz.prog 145 ⟨1,false,8,[.map none],.map 3 75⟩:=⟨by kernel_rfl,by kernel_rfl,by kernel_rfl,rfl,by kernel_rfl,by show _=_;kernel_rfl⟩
theorem ti147:TIok Tryz.prog 147 ⟨1,false,8,[.nilFunc],.func⟩:=⟨by kernel_rfl,by kernel_rfl,by kernel_rfl,rfl,by kernel_rfl,trivial⟩
theorem ti148:TIok Tryz.prog 148 ⟨1,false,8,[.nilFunc],.func⟩:=⟨by kernel_rfl,by kernel_rfl,by kernel_rfl,rfl,by kernel_rfl,trivial⟩
theorem ti150:TIok Tryz.prog 150 ⟨1,false,8,[.nilFunc],.func⟩:=⟨by kernel_rfl,by kernel_rfl,by kernel_rfl,rfl,by kernel_rfl,trivial⟩
theorem ti152:TIok Tryz.prog 152 ⟨1,false,8,[.nilFunc],.func⟩:=⟨by kernel_rfl,by kernel_rfl,by kernel_rfl,rfl,by kernel_rfl,trivial⟩
theorem ti153:TIok Tryz.prog 153 ⟨1,false,8,[.nilFunc],.func⟩:=⟨by kernel_rfl,by kernel_rfl,by kernel_rfl,rfl,by kernel_rfl,trivial⟩
theorem ti154:TIok Tryz.prog 154 ⟨1,false,8,[.nilFunc],.func⟩:=⟨by kernel_rfl,by kernel_rfl,by kernel_rfl,rfl,by kernel_rfl,trivial⟩
theorem ti155:TIok Tryz.prog 155 ⟨1,false,8,[.nilFunc],.func⟩:=⟨by kernel_rfl,by kernel_rfl,by kernel_rfl,rfl,by kernel_rfl,trivial⟩
theorem ti156:TIok Tryz.prog 156 ⟨1,false,8,[.nilFunc],.func⟩:=⟨by kernel_rfl,by kernel_rfl,by kernel_rfl,rfl,by kernel_rfl,trivial⟩
theorem ti157:TIok Tryz.prog 157 ⟨1,false,8,[.nilFunc],.func⟩:=⟨by kernel_rfl,by kernel_rfl,by kernel_rfl,rfl,by kernel_rfl,trivial⟩
theorem ti158:TIok Tryz.prog 158 ⟨1,false,8,[.nilFunc],.func⟩:=⟨by kernel_rfl,by kernel_rfl,by kernel_rfl,rfl,by kernel_rfl,trivial⟩
theorem ti159:TIok Tryz.prog 159 ⟨1,false,8,[.nilFunc],.func⟩:=⟨by kernel_rfl,by kernel_rfl,by kernel_rfl,rfl,by kernel_rfl,trivial⟩
theorem ti160:TIok Tryz.prog 160 ⟨1,false,8,[.nilFunc],.func⟩:=⟨by kernel_rfl,by kernel_rfl,by kernel_rfl,rfl,by kernel_rfl,trivial⟩
theorem ti161:TIok Tryz.prog 161 ⟨1,false,8,[.nilFunc],.func⟩:=⟨by kernel_rfl,by kernel_rfl,by kernel_rfl,rfl,by kernel_rfl,trivial⟩
theorem ti162:TIok Tryz.prog 162 ⟨1,false,8,[.nilFunc],.func⟩:=⟨by kernel_rfl,by kernel_rfl,by kernel_rfl,rfl,by kernel_rfl,trivial⟩
theorem ti163:TIok Tryz.prog 163 ⟨1,false,8,[.nilFunc],.func⟩:=⟨by kernel_rfl,by kernel_rfl,by kernel_rfl,rfl,by kernel_rfl,trivial⟩
theorem ti164:TIok Tryz.prog 164 ⟨1,false,8,[.nilFunc],.func⟩:=⟨by kernel_rfl,by kernel_rfl,by kernel_rfl,rfl,by kernel_rfl,trivial⟩
theorem ti165:TIok Tryz.prog 165 ⟨1,false,8,[.nilFunc],.func⟩:=⟨by kernel_rfl,by kernel_rfl,by kernel_rfl,rfl,by kernel_rfl,trivial⟩
theorem ti166:TIok Tryz.prog 166 ⟨1,false,8,[.nilFunc],.func⟩:=⟨by kernel_rfl,by kernel_rfl,by kernel_rfl,rfl,by kernel_rfl,trivial⟩
theorem ti167:TIok Tryz.prog 167 ⟨3,true,40,[.slice none 0 0,.int .i64 0,.int .i64 0],.strct [(0,22),(1,3),(2,3)]⟩:=⟨by kernel_rfl,by kernel_rfl,by kernel_rfl,rfl,by kernel_rfl,⟨by kernel_rfl,by kernel_rfl⟩⟩
theorem ti168:TIok Tryz.prog 168 ⟨3,true,40,[.slice none 0 0,.int .i64 0,.int .i64 0],.strct [(0,22),(1,3),(2,3)]⟩:=⟨by kernel_rfl,by kernel_rfl,by kernel_rfl,rfl,by kernel_rfl,⟨by kernel_rfl,by kernel_rfl⟩⟩
theorem ti169:TIok Tryz.prog 169 ⟨1,false,8,[.int .u64 0],.int .u64⟩:=⟨by kernel_rfl,by kernel_rfl,by kernel_rfl,rfl,by kernel_rfl,by show _=_;kernel_rfl⟩
theorem ti170:TIok Tryz.prog 170 ⟨1,false,8,[.nilFunc],.func⟩:=⟨by kernel_rfl,by kernel_rfl,by kernel_rfl,rfl,by kernel_rfl,trivial⟩
theorem ti171:TIok Tryz.prog 171 ⟨1,false,8,[.nilFunc],.func⟩:=⟨by kernel_rfl,by kernel_rfl,by kernel_rfl,rfl,by kernel_rfl,trivial⟩
theorem ti172:TIok Tryz.prog 172 ⟨1,false,8,[.nilFunc],.func⟩:=⟨by kernel_rfl,by kernel_rfl,by kernel_rfl,rfl,by kernel_rfl,trivial⟩
theorem ti173:TIok Tryz.prog 173 ⟨1,false,8,[.nilFunc],.func⟩:=⟨by kernel_rfl,by kernel_rfl,by kernel_rfl,rfl,by kernel_rfl,trivial⟩
theorem ti174:TIok Tryz.prog 174 ⟨1,false,8,[.nilFunc],.func⟩:=⟨by kernel_rfl,by kernel_rfl,by kernel_rfl,rfl,by kernel_rfl,trivial⟩
theorem ti175:TIok Tryz.prog 175 ⟨1,false,8,[.nilFunc],.func⟩:=⟨by kernel_rfl,by kernel_rfl,by kernel_rfl,rfl,by kernel_rfl,trivial⟩
theorem ti177:TIok Tryz.prog 177 ⟨1,false,8,[.nilFunc],.func⟩:=⟨by kernel_rfl,by kernel_rfl,by kernel_rfl,rfl,by kernel_rfl,trivial⟩
theorem ti178:TIok Tryz.prog 178 ⟨1,false,8,[.nilFunc],.func⟩:=⟨by kernel_rfl,by kernel_rfl,by kernel_rfl,rfl,by kernel_rfl,trivial⟩
theorem ti179:TIok Tryz.prog 179 ⟨1,false,8,[.nilFunc],.func⟩:=⟨by kernel_rfl,by kernel_rfl,by kernel_rfl,rfl,by kernel_rfl,trivial⟩
theorem ti180:TIok Tryz.prog 180 ⟨1,false,8,[.nilFunc],.func⟩:=⟨by kernel_rfl,by kernel_rfl,by kernel_rfl,rfl,by kernel_rfl,trivial⟩
theorem ti181:TIok Tryz.prog 181 ⟨1,false,8,[.nilFunc],.func⟩:=⟨by kernel_rfl,by kernel_rfl,by kernel_rfl,rfl,by kernel_rfl,trivial⟩
theorem ti182:TIok Tryz.prog 182 ⟨1,false,8,[.nilFunc],.func⟩:=⟨by kernel_rfl,by kernel_rfl,by kernel_rfl,rfl,by kernel_rfl,trivial⟩
theorem ti183:TIok Tryz.prog 183 ⟨1,false,8,[.nilFunc],.func⟩:=⟨by kernel_rfl,by kernel_rfl,by kernel_rfl,rfl,by kernel_rfl,trivial⟩
theorem ti184:TIok Tryz.prog 184 ⟨1,false,8,[.nilFunc],.func⟩:=⟨by kernel_rfl,by kernel_rfl,by kernel_rfl,rfl,by kernel_rfl,trivial⟩
theorem ti185:TIok Tryz.prog 185 ⟨1,false,8,[.nilFunc],.func⟩:=⟨by kernel_rfl,by kernel_rfl,by kernel_rfl,rfl,by kernel_rfl,trivial⟩
theorem ti186:TIok Tryz.prog 186 ⟨1,false,8,[.nilFunc],.func⟩:=⟨by kernel_rfl,by kernel_rfl,by kernel_rfl,rfl,by kernel_rfl,trivial⟩
theorem ti187:TIok Tryz.prog 187 ⟨1,false,8,[.nilFunc],.func⟩:=⟨by kernel_rfl,by kernel_rfl,by kernel_rfl,rfl,by kernel_rfl,trivial⟩
theorem ti188:TIok Tryz.prog 188 ⟨1,false,8,[.nilFunc],.func⟩:=⟨by kernel_rfl,by kernel_rfl,by kernel_rfl,rfl,by kernel_rfl,trivial⟩
theorem ti189:TIok Tryz.prog 189 ⟨1,false,8,[.nilFunc],.func⟩:=⟨by kernel_rfl,by kernel_rfl,by kernel_rfl,rfl,by kernel_rfl,trivial⟩
theorem ti191:TIok Tryz.prog 191 ⟨1,false,8,[.nilFunc],.func⟩:=⟨by kernel_rfl,by kernel_rfl,by kernel_rfl,rfl,by kernel_rfl,trivial⟩
theorem ti192:TIok Tryz.prog 192 ⟨1,false,8,[.nilFunc],.func⟩:=⟨by kernel_rfl,by kernel_rfl,by kernel_rfl,rfl,by kernel_rfl,trivial⟩
theorem ti194:TIok Tryz.prog 194 ⟨1,false,8,[.nilFunc],.func⟩:=⟨by kernel_rfl,by kernel_rfl,by kernel_rfl,rfl,by kernel_rfl,trivial⟩
theorem ti195:TIok Tryz.prog 195 ⟨1,false,8,[.nilFunc],.func⟩:=⟨by kernel_rfl,by kernel_rfl,by kernel_rfl,rfl,by kernel_rfl,trivial⟩
theorem ti196:TIok Tryz.prog 196 ⟨1,false,8,[.nilFunc],.func⟩:=⟨by kernel_rfl,by kernel_rfl,by kernel_rfl,rfl,by kernel_rfl,trivial⟩
theorem ti197:TIok Tryz.prog 197 ⟨1,false,8,[.nilFunc],.func⟩:=⟨by kernel_rfl,by kernel_rfl,by kernel_rfl,rfl,by kernel_rfl,trivial⟩
theorem ti198:TIok Tryz.prog 198 ⟨1,false,8,[.nilFunc],.func⟩:=⟨by kernel_rfl,by kernel_rfl,by kernel_rfl,rfl,by kernel_rfl,trivial⟩
theorem ti199:TIok Tryz.prog 199 ⟨1,false,24,[.slice none 0 0],.slice 118⟩:=⟨by kernel_rfl,by kernel_rfl,by kernel_rfl,rfl,by kernel_rfl,by show _=_;kernel_rfl⟩
theorem ti200:TIok Tryz.prog 200 ⟨1,false,8,[.nilFunc],.func⟩:=⟨by kernel_rfl,by kernel_rfl,by kernel_rfl,rfl,by kernel_rfl,trivial⟩
theorem ti201:TIok Tryz.prog 201 ⟨1,false,8,[.nilFunc],.func⟩:=⟨by kernel_rfl,by kernel_rfl,by kernel_rfl,rfl,by kernel_rfl,trivial⟩
theorem ti203:TIok Tryz.prog 203 ⟨1,false,8,[.int .u64 0],.int .u64⟩:=⟨by kernel_rfl,by kernel_rfl,by kernel_rfl,rfl,by kernel_rfl,by show _=_;kernel_rfl⟩
theorem ti204:TIok Tryz.prog 204 ⟨3,true,24,[.pointer none,.pointer none,.int .u64 0],.strct [(0,17),(1,202),(2,203)]⟩:=⟨by kernel_rfl,by kernel_rfl,by kernel_rfl,rfl,by kernel_rfl,⟨by kernel_rfl,by kernel_rfl⟩⟩
theorem ti205:TIok Tryz.prog 205 ⟨3,true,24,[.pointer none,.pointer none,.int .u64 0],.strct [(0,17),(1,202),(2,203)]⟩:=⟨by kernel_rfl,by kernel_rfl,by kernel_rfl,rfl,by kernel_rfl,⟨by kernel_rfl,by kernel_rfl⟩⟩
theorem ti206:TIok Tryz.prog 206 ⟨1,false,8,[.nilFunc],.func⟩:=⟨by kernel_rfl,by kernel_rfl,by kernel_rfl,rfl,by kernel_rfl,trivial⟩
theorem ti207:TIok Tryz.prog 207 ⟨1,false,8,[.nilFunc],.func⟩:=⟨by kernel_rfl,by kernel_rfl,by kernel_rfl,rfl,by kernel_rfl,trivial⟩
theorem ti208:TIok Tryz.prog 208 ⟨1,false,8,[.nilFunc],.func⟩:=⟨by kernel_rfl,by kernel_rfl,by kernel_rfl,rfl,by kernel_rfl,trivial⟩
theorem ti209:TIok Tryz.prog 209 ⟨1,false,8,[.nilFunc],.func⟩:=⟨by kernel_rfl,by kernel_rfl,by kernel_rfl,rfl,by kernel_rfl,trivial⟩
theorem ti210:TIok Tryz.prog 210 ⟨2,true,16,[.nilFunc,.nilFunc],.strct [(0,159),(1,207)]⟩:=⟨by kernel_rfl,by kernel_rfl,by kernel_rfl,rfl,by kernel_rfl,⟨by kernel_rfl,by kernel_rfl⟩⟩
theorem ti211:TIok Tryz.prog 211 ⟨2,true,16,[.nilFunc,.nilFunc],.strct [(0,159),(1,207)]⟩:=⟨by kernel_rfl,by kernel_rfl,by kernel_rfl,rfl,by kernel_rfl,⟨by kernel_rfl,by kernel_rfl⟩⟩
theorem ti212:TIok Tryz.prog 212 ⟨1,false,8,[.nilFunc],.func⟩:=⟨by kernel_rfl,by kernel_rfl,by kernel_rfl,rfl,by kernel_rfl,trivial⟩
theorem ti213:TIok Tryz.prog 213 ⟨1,false,8,[.nilFunc],.func⟩:=⟨by kernel_rfl,by kernel_rfl,by kernel_rfl,rfl,by kernel_rfl,trivial⟩
theorem ti214:TIok Tryz.prog 214 ⟨1,false,8,[.nilFunc],.func⟩:=⟨by kernel_rfl,by kernel_rfl,by kernel_rfl,rfl,by kernel_rfl,trivial⟩
theorem ti215:TIok Tryz.prog 215 ⟨1,false,8,[.nilFunc],.func⟩:=⟨by kernel_rfl,by kernel_rfl,by kernel_rfl,rfl,by kernel_rfl,trivial⟩
theorem ti216:TIok Tryz.prog 216 ⟨1,false,8,[.nilFunc],.func⟩:=⟨by kernel_rfl,by kernel_rfl,by kernel_rfl,rfl,by kernel_rfl,trivial⟩
theorem ti218:TIok Tryz.prog 218 ⟨1,false,8,[.nilFunc],.func⟩:=⟨by kernel_rfl,by kernel_rfl,by kernel_rfl,rfl,by kernel_rfl,trivial⟩
theorem ti219:TIok Tryz.prog 219 ⟨1,false,8,[.nilFunc],.func⟩:=⟨by kernel_rfl,by kernel_rfl,by kernel_rfl,rfl,by kernel_rfl,trivial⟩
theorem ti220:TIok Tryz.prog 220 ⟨1,false,8,[.nilFunc],.func⟩:=⟨by kernel_rfl,by kernel_rfl,by kernel_rfl,rfl,by kernel_rfl,trivial⟩
theorem ti221:TIok Tryz.prog 221 ⟨1,false,8,[.map none],.map 3 3⟩:=⟨by kernel_rfl,by kernel_rfl,by kernel_rfl,rfl,by kernel_rfl,by show _=_;kernel_rfl⟩
theorem ti222:TIok Tryz.prog 222 ⟨1,false,8,[.nilFunc],.func⟩:=⟨by kernel_rfl,by kernel_rfl,by kernel_rfl,rfl,by kernel_rfl,trivial⟩
theorem ti223:TIok Tryz.prog 223 ⟨1,false,8,[.nilFunc],.func⟩:=⟨by kernel_rfl,by kernel_rfl,by kernel_rfl,rfl,by kernel_rfl,trivial⟩
theorem ti224:TIok Tryz.prog 224 ⟨1,false,8,[.nilFunc],.func⟩:=⟨by kernel_rfl,by kernel_rfl,by kernel_rfl,rfl,by kernel_rfl,trivial⟩
theorem ti225:TIok Tryz.prog 225 ⟨1,false,8,[.nilFunc],.func⟩:=⟨by kernel_rfl,by kernel_rfl,by kernel_rfl,rfl,by kernel_rfl,trivial⟩
theorem ti226:TIok Tryz.prog 226 ⟨1,false,8,[.nilFunc],.func⟩:=⟨by kernel_rfl,by kernel_rfl,by kernel_rfl,rfl,by kernel_rfl,trivial⟩
theorem ti227:TIok Tryz.prog 227 ⟨1,false,8,[.nilFunc],.func⟩:=⟨by kernel_rfl,by kernel_rfl,by kernel_rfl,rfl,by kernel_rfl,trivial⟩
theorem ti228:TIok Tryz.prog 228 ⟨1,false,8,[.nilFunc],.func⟩:=⟨by kernel_rfl,by kernel_rfl,by kernel_rfl,rfl,by kernel_rfl,trivial⟩
theorem ti229:TIok Tryz.prog 229 ⟨1,false,8,[.nilFunc],.func⟩:=⟨by kernel_rfl,by kernel_rfl,by kernel_rfl,rfl,by kernel_rfl,trivial⟩
theorem ti230:TIok Tryz.prog 230 ⟨1,false,8,[.nilFunc],.func⟩:=⟨by kernel_rfl,by kernel_rfl,by kernel_rfl,rfl,by kernel_rfl,trivial⟩
theorem ti232:TIok Tryz.prog 232 ⟨1,false,8,[.nilFunc],.func⟩:=⟨by kernel_rfl,by kernel_rfl,by kernel_rfl,rfl,by kernel_rfl,trivial⟩
theorem ti233:TIok Tryz.prog 233 ⟨1,false,8,[.nilFunc],.func⟩:=⟨by kernel_rfl,by kernel_rfl,by kernel_rfl,rfl,by kernel_rfl,trivial⟩
theorem ti235:TIok Tryz.prog 235 ⟨1,false,8,[.nilFunc],.func⟩:=⟨by kernel_rfl,by kernel_rfl,by kernel_rfl,rfl,by kernel_rfl,trivial⟩
theorem ti236:TIok Tryz.prog 236 ⟨1,false,8,[.nilFunc],.func⟩:=⟨by kernel_rfl,by kernel_rfl,by kernel_rfl,rfl,by kernel_rfl,trivial⟩
theorem ti237:TIok Tryz.prog 237 ⟨1,false,8,[.nilFunc],.func⟩:=⟨by kernel_rfl,by kernel_rfl,by kernel_rfl,rfl,by kernel_rfl,trivial⟩
theorem ti238:TIok Tryz.prog 238 ⟨1,false,8,[.nilFunc],.func⟩:=⟨by kernel_rfl,by kernel_rfl,by kernel_rfl,rfl,by kernel_rfl,trivial⟩
theorem ti239:TIok Tryz.prog 239 ⟨1,true,8,[.pointer none],.strct [(0,17)]⟩:=⟨by kernel_rfl,by kernel_rfl,by kernel_rfl,rfl,by kernel_rfl,⟨by kernel_rfl,by kernel_rfl⟩⟩
theorem ti240:TIok Tryz.prog 240 ⟨1,true,8,[.pointer none],.strct [(0,17)]⟩:=⟨by kernel_rfl,by kernel_rfl,by kernel_rfl,rfl,by kernel_rfl,⟨by kernel_rfl,by kernel_rfl⟩⟩
theorem ti241:TIok Tryz.prog 241 ⟨1,false,8,[.pointer none],.ptr 290⟩:=⟨by kernel_rfl,by kernel_rfl,by kernel_rfl,rfl,by kernel_rfl,by show _=_;kernel_rfl⟩
theorem ti242:TIok Tryz.prog 242 ⟨1,false,8,[.nilFunc],.func⟩:=⟨by kernel_rfl,by kernel_rfl,by kernel_rfl,rfl,by kernel_rfl,trivial⟩
theorem ti243:TIok Tryz.prog 243 ⟨1,false,8,[.nilFunc],.func⟩:=⟨by kernel_rfl,by kernel_rfl,by kernel_rfl,rfl,by kernel_rfl,trivial⟩
theorem ti244:TIok Tryz.prog 244 ⟨1,false,8,[.nilFunc],.func⟩:=⟨by kernel_rfl,by kernel_rfl,by kernel_rfl,rfl,by kernel_rfl,trivial⟩
theorem ti245:TIok Tryz.prog 245 ⟨1,false,8,[.nilFunc],.func⟩:=⟨by kernel_rfl,by kernel_rfl,by kernel_rfl,rfl,by kernel_rfl,trivial⟩
theorem ti246:TIok Tryz.prog 246 ⟨1,false,8,[.nilFunc],.func⟩:=⟨by kernel_rfl,by kernel_rfl,by kernel_rfl,rfl,by kernel_rfl,trivial⟩
theorem ti247:TIok Tryz.prog 247 ⟨1,false,8,[.map none],.map 3 4⟩:=⟨by kernel_rfl,by kernel_rfl,by kernel_rfl,rfl,by kernel_rfl,by show _=_;kernel_rfl⟩
theorem ti248:TIok Tryz.prog 248 ⟨1,false,8,[.nilFunc],.func⟩:=⟨by kernel_rfl,by kernel_rfl,by kernel_rfl,rfl,by kernel_rfl,trivial⟩
theorem ti249:TIok Tryz.prog 249 ⟨1,false,8,[.nilFunc],.func⟩:=⟨by kernel_rfl,by kernel_rfl,by kernel_rfl,rfl,by kernel_rfl,trivial⟩
theorem ti250:TIok Tryz.prog 250 ⟨1,false,8,[.nilFunc],.func⟩:=⟨by kernel_rfl,by kernel_rfl,by kernel_rfl,rfl,by kernel_rfl,trivial⟩
theorem ti251:TIok Tryz.prog 251 ⟨1,false,8,[.nilFunc],.func⟩:=⟨by kernel_rfl,by kernel_rfl,by kernel_rfl,rfl,by kernel_rfl,trivial⟩
theorem ti252:TIok Tryz.prog 252 ⟨1,false,8,[.nilFunc],.func⟩:=⟨by kernel_rfl,by kernel_rfl,by kernel_rfl,rfl,by kernel_rfl,trivial⟩
theorem ti253:TIok Tryz.prog 253 ⟨1,false,8,[.nilFunc],.func⟩:=⟨by kernel_rfl,by kernel_rfl,by kernel_rfl,rfl,by kernel_rfl,trivial⟩
theorem ti254:TIok Tryz.prog 254 ⟨1,false,8,[.nilFunc],.func⟩:=⟨by kernel_rfl,by kernel_rfl,by kernel_rfl,rfl,by kernel_rfl,trivial⟩
theorem ti255:TIok Tryz.prog 255 ⟨1,false,8,[.nilFunc],.func⟩:=⟨by kernel_rfl,by kernel_rfl,by kernel_rfl,rfl,by kernel_rfl,trivial⟩
theorem ti256:TIok Tryz.prog 256 ⟨1,false,8,[.nilFunc],.func⟩:=⟨by kernel_rfl,by kernel_rfl,by kernel_rfl,rfl,by kernel_rfl,trivial⟩
theorem ti257:TIok Tryz.prog 257 ⟨1,false,8,[.int .i64 0],.int .i64⟩:=⟨by kernel_rfl,by kernel_rfl,by kernel_rfl,rfl,by kernel_rfl,by show _=_;kernel_rfl⟩
theorem ti259:TIok Tryz.prog 259 ⟨1,false,8,[.nilFunc],.func⟩:=⟨by kernel_rfl,by kernel_rfl,by kernel_rfl,rfl,by kernel_rfl,trivial⟩
theorem ti260:TIok Tryz.prog 260 ⟨1,false,8,[.nilFunc],.func⟩:=⟨by kernel_rfl,by kernel_rfl,by kernel_rfl,rfl,by kernel_rfl,trivial⟩
theorem ti261:TIok Tryz.prog 261 ⟨1,false,8,[.nilFunc],.func⟩:=⟨by kernel_rfl,by kernel_rfl,by kernel_rfl,rfl,by kernel_rfl,trivial⟩
theorem ti262:TIok Tryz.prog 262 ⟨1,false,8,[.nilFunc],.func⟩:=⟨by kernel_rfl,by kernel_rfl,by kernel_rfl,rfl,by kernel_rfl,trivial⟩
theorem ti263:TIok Tryz.prog 263 ⟨1,false,8,[.nilFunc],.func⟩:=⟨by kernel_rfl,by kernel_rfl,by kernel_rfl,rfl,by kernel_rfl,trivial⟩
theorem ti264:TIok Tryz.prog 264 ⟨1,false,4,[.int .u32 0],.int .u32⟩:=⟨by kernel_rfl,by kernel_rfl,by kernel_rfl,rfl,by kernel_rfl,by show _=_;kernel_rfl⟩
theorem ti265:TIok Tryz.prog 265 ⟨1,false,8,[.nilFunc],.func⟩:=⟨by kernel_rfl,by kernel_rfl,by kernel_rfl,rfl,by kernel_rfl,trivial⟩
theorem ti266:TIok Tryz.prog 266 ⟨1,false,8,[.int .u64 0],.int .u64⟩:=⟨by kernel_rfl,by kernel_rfl,by kernel_rfl,rfl,by kernel_rfl,by show _=_;kernel_rfl⟩
theorem ti267:TIok Tryz.prog 267 ⟨1,false,8,[.int .u64 0],.int .u64⟩:=⟨by kernel_rfl,by kernel_rfl,by kernel_rfl,rfl,by kernel_rfl,by show _=_;kernel_rfl⟩
theorem ti268:TIok Tryz.prog 268 ⟨1,false,8,[.nilFunc],.func⟩:=⟨by kernel_rfl,by kernel_rfl,by kernel_rfl,rfl,by kernel_rfl,trivial⟩
theorem ti269:TIok Tryz.prog 269 ⟨1,false,8,[.nilFunc],.func⟩:=⟨by kernel_rfl,by kernel_rfl,by kernel_rfl,rfl,by kernel_rfl,trivial⟩
theorem ti270:TIok Tryz.prog 270 ⟨1,false,8,[.nilFunc],.func⟩:=⟨by kernel_rfl,by kernel_rfl,by kernel_rfl,rfl,by kernel_rfl,trivial⟩
theorem ti271:TIok Tryz.prog 271 ⟨1,false,8,[.nilFunc],.func⟩:=⟨by kernel_rfl,by kernel_rfl,by kernel_rfl,rfl,by kernel_rfl,trivial⟩
theorem ti272:TIok Tryz.prog 272 ⟨1,false,8,[.pointer none],.ptr 267⟩:=⟨by kernel_rfl,by kernel_rfl,by kernel_rfl,rfl,by kernel_rfl,by show _=_;kernel_rfl⟩
theorem ti274:TIok Tryz.prog 274 ⟨1,false,8,[.nilFunc],.func⟩:=⟨by kernel_rfl,by kernel_rfl,by kernel_rfl,rfl,by kernel_rfl,trivial⟩
theorem ti275:TIok Tryz.prog 275 ⟨1,false,8,[.nilFunc],.func⟩:=⟨by kernel_rfl,by kernel_rfl,by kernel_rfl,rfl,by kernel_rfl,trivial⟩
theorem ti276:TIok Tryz.prog 276 ⟨4,true,40,[.pointer none,.pointer none,.pointer none,.string ⟨#[]⟩],.strct [(0,17),(1,17),(2,17),(3,9)]⟩:=⟨by kernel_rfl,by kernel_rfl,by kernel_rfl,rfl,by kernel_rfl,⟨by kernel_rfl,by kernel_rfl⟩⟩
theorem ti277:TIok Tryz.prog 277 ⟨4,true,40,[.pointer none,.pointer none,.pointer none,.string ⟨#[]⟩],.strct [(0,17),(1,17),(2,17),(3,9)]⟩:=⟨by kernel_rfl,by kernel_rfl,by kernel_rfl,rfl,by kernel_rfl,⟨by kernel_rfl,by kernel_rfl⟩⟩
theorem ti279:TIok Tryz.prog 279 ⟨0,true,0,[],.strct [(0,278)]⟩:=⟨by kernel_rfl,by kernel_rfl,by kernel_rfl,rfl,by kernel_rfl,⟨by kernel_rfl,by kernel_rfl⟩⟩
theorem ti280:TIok Tryz.prog 280 ⟨0,true,0,[],.strct [(0,278)]⟩:=⟨by kernel_rfl,by kernel_rfl,by kernel_rfl,rfl,by kernel_rfl,⟨by kernel_rfl,by kernel_rfl⟩⟩
theorem ti281:TIok Tryz.prog 281 ⟨1,false,1,[.int .u8 0],.int .u8⟩:=⟨by kernel_rfl,by kernel_rfl,by kernel_rfl,rfl,by kernel_rfl,by show _=_;kernel_rfl⟩
theorem ti282:TIok Tryz.prog 282 ⟨1,false,1,[.int .u8 0],.int .u8⟩:=⟨by kernel_rfl,by kernel_rfl,by kernel_rfl,rfl,by kernel_rfl,by show _=_;kernel_rfl⟩
theorem ti283:TIok Tryz.prog 283 ⟨1,false,8,[.nilFunc],.func⟩:=⟨by kernel_rfl,by kernel_rfl,by kernel_rfl,rfl,by kernel_rfl,trivial⟩
theorem ti284:TIok Tryz.prog 284 ⟨1,false,8,[.pointer none],.ptr 5⟩:=⟨by kernel_rfl,by kernel_rfl,by kernel_rfl,rfl,by kernel_rfl,by show _=_;kernel_rfl⟩
theorem ti285:TIok Tryz.prog 285 ⟨1,false,4,[.int .i32 0],.int .i32⟩:=⟨by kernel_rfl,by kernel_rfl,by kernel_rfl,rfl,by kernel_rfl,by show _=_;kernel_rfl⟩
theorem ti286:TIok Tryz.prog 286 ⟨1,false,4,[.int .i32 0],.int .i32⟩:=⟨by kernel_rfl,by kernel_rfl,by kernel_rfl,rfl,by kernel_rfl,by show _=_;kernel_rfl⟩
theorem ti287:TIok Tryz.prog 287 ⟨11,true,48,[.int .u64 0,.int .u64 0,.int .u32 0,.int .u8 0,.int .u8 0,.int .u8 0,.int .u8 0,.nilFunc,.pointer none,.int .i32 0,.int .i32 0],.strct [(0,12),(1,12),(2,264),(3,281),(4,5),(5,5),(6,282),(7,283),(8,284),(9,285),(10,286)]⟩:=⟨by kernel_rfl,by kernel_rfl,by kernel_rfl,rfl,by kernel_rfl,⟨by kernel_rfl,by kernel_rfl⟩⟩
theorem ti288:TIok Tryz.prog 288 ⟨11,true,48,[.int .u64 0,.int .u64 0,.int .u32 0,.int .u8 0,.int .u8 0,.int .u8 0,.int .u8 0,.nilFunc,.pointer none,.int .i32 0,.int .i32 0],.strct [(0,12),(1,12),(2,264),(3,281),(4,5),(5,5),(6,282),(7,283),(8,284),(9,285),(10,286)]⟩:=⟨by kernel_rfl,by kernel_rfl,by kernel_rfl,rfl,by kernel_rfl,⟨by kernel_rfl,by kernel_rfl⟩⟩
theorem ti289:TIok Tryz.prog 289 ⟨2,true,24,[.string ⟨#[]⟩,.int .u8 0],.strct [(0,9),(1,282)]⟩:=⟨by kernel_rfl,by kernel_rfl,by kernel_rfl,rfl,by kernel_rfl,⟨by kernel_rfl,by kernel_rfl⟩⟩
theorem ti290:TIok Tryz.prog 290 ⟨2,true,24,[.string ⟨#[]⟩,.int .u8 0],.strct [(0,9),(1,282)]⟩:=⟨by kernel_rfl,by kernel_rfl,by kernel_rfl,rfl,by kernel_rfl,⟨by kernel_rfl,by kernel_rfl⟩⟩
set_option maxRecDepth 100000 in
theorem ttok:TTok Tryz.prog tt:=⟨ti1,ti2,ti3,ti4,ti5,ti6,ti7,ti8,ti9,ti10,ti11,ti12,ti13,ti14,ti15,ti16,ti17,ti18,ti19,ti20,ti21,ti22,ti23,ti24,ti25,ti26,ti27,ti28,ti29,ti30,ti32,ti34,ti35,ti36,ti37,ti39,ti40,ti41,ti42,ti43,ti44,ti45,ti46,ti47,ti48,ti50,ti51,ti52,ti53,ti54,ti55,ti57,ti58,ti59,ti60,ti61,ti62,ti63,ti64,ti66,ti67,ti69,ti70,ti71,ti73,ti74,ti75,ti76,ti77,ti78,ti79,ti80,ti81,ti82,ti83,ti84,ti85,ti86,ti87,ti89,ti90,ti91,ti92,ti93,ti94,ti95,ti96,ti97,ti98,ti99,ti100,ti101,ti102,ti103,ti104,ti105,ti106,ti107,ti108,ti109,ti110,ti111,ti112,ti113,ti114,ti115,ti117,ti118,ti120,ti122,ti123,ti124,ti125,ti127,ti128,ti129,ti130,ti131,ti132,ti133,ti134,ti135,ti136,ti138,ti139,ti140,ti141,ti142,ti143,ti144,ti145,ti147,ti148,ti150,ti152,ti153,ti154,ti155,ti156,ti157,ti158,ti159,ti160,ti161,ti162,ti163,ti164,ti165,ti166,ti167,ti168,ti169,ti170,ti171,ti172,ti173,ti174,ti175,ti177,ti178,ti179,ti180,ti181,ti182,ti183,ti184,ti185,ti186,ti187,ti188,ti189,ti191,ti192,ti194,ti195,ti196,ti197,ti198,ti199,ti200,ti201,ti203,ti204,ti205,ti206,ti207,ti208,ti209,ti210,ti211,ti212,ti213,ti214,ti215,ti216,ti218,ti219,ti220,ti221,ti222,ti223,ti224,ti225,ti226,ti227,ti228,ti229,ti230,ti232,ti233,ti235,ti236,ti237,ti238,ti239,ti240,ti241,ti242,ti243,ti244,ti245,ti246,ti247,ti248,ti249,ti250,ti251,ti252,ti253,ti254,ti255,ti256,ti257,ti259,ti260,ti261,ti262,ti263,ti264,ti265,ti266,ti267,ti268,ti269,ti270,ti271,ti272,ti274,ti275,ti276,ti277,ti279,ti280,ti281,ti282,ti283,ti284,ti285,ti286,ti287,ti288,ti289,ti290,trivial⟩
end Go.Vx
namespace Go.Vx
open Go.Proofs Classical
theorem SpecH.mk(os:List Nat){f:FuncId}{fn:Func}{args:List Value}{μ h0:Mem}{R:Value→Mem→Mem→Prop}(hf:Tryz.prog.funcs[f]? =some fn)(hname:(fn.name== "runtime.NumGoroutine")=false)(h:qIk Tryz.prog tt os fn args μ h0 R):SpecH Tryz.prog f args μ h0 R:=
 SpecH.of (T:=Tryz.checked) os ttok hf hname h
theorem Spec.mk{f:FuncId}{fn:Func}{args:List Value}{μ:Mem}{R:Value→Mem→Prop}(hf:Tryz.prog.funcs[f]? =some fn)(hname:(fn.name== "runtime.NumGoroutine")=false)(h:qIk Tryz.prog tt [] fn args μ Mem.nil fun v μ' _=>R v μ'):Spec Tryz.prog f args μ R:=
 SpecH.of (T:=Tryz.checked) [] ttok hf hname h
def tR(first:Bool)(b:UInt8):Prop:=(97≤b.toNat∧b.toNat≤122)∨(first=false∧((48≤b.toNat∧b.toNat≤57)∨b.toNat=45))
def jZ(s:ByteArray):Prop:=1≤s.size∧s.size≤12∧∀(i:Nat) b,s.data.toList[i]? =some b→tR (i==0) b
theorem aSo{α:Type}{l:List α}{i:Nat}(h:i<l.length):∃a,l[i]? =some a:=⟨_,List.getElem?_eq_getElem h⟩
def rsv:List ByteArray:=[⟨#[116,114,117,101]⟩,⟨#[102,97,105,108]⟩,⟨#[115,121,109,98,111,108]⟩,⟨#[110,117,109,98,101,114]⟩,⟨#[97,98,115,101,110,116]⟩,⟨#[97,110,100]⟩,⟨#[111,114]⟩,⟨#[110,111,116]⟩,⟨#[100,101,102,105,110,101]⟩]
def iJ(s:ByteArray):Prop:=s∉rsv∧jZ s
end Go.Vx
namespace Go.Vx
open Go.Proofs
theorem qLc:Tryz.prog.underlying 4=some .bool:=ti4.kind
theorem qDx{P:Program}{t:TypeId}{i:TI}(h:TIok P t i):P.cellsOf t=i.size:=by
 obtain⟨inf,hin,hs,_⟩:=h.info'
 simp[Program.cellsOf,hin,hs]
end Go.Vx
namespace Go.Vx
open Go.Proofs Classical
inductive Tm where
 |mk (kind num:Int) (name:ByteArray) (args:List Tm)
theorem Tm.ind{p:Tm→Prop}(h:∀k n s l,(∀t∈l,p t)→p (.mk k n s l)):∀t,p t
 | .mk k n s l=>h k n s l fun t _=>Tm.ind h t
mutual
def Tm.d:Tm→D
 | .mk k n s l=> .st [.i k,.i n,.s s,.sl 4 (Tm.ds l)]
def Tm.ds:List Tm→List D
 |[]=>[]
 |t::r=>t.d::Tm.ds r
end
theorem Tm.ds_map:∀l:List Tm,Tm.ds l=l.map Tm.d
 |[]=>rfl
 |t::r=>by simp[Tm.ds,Tm.ds_map r]
theorem Tm.d_mk(k n:Int)(s:ByteArray)(l:List Tm):(Tm.mk k n s l).d= .st [.i k,.i n,.s s,.sl 4 (l.map Tm.d)]:=by rw[Tm.d,Tm.ds_map]
theorem Tm.d_n(t:Tm):t.d.n=4:=by cases t;rfl
def Tm.kind:Tm→Int| .mk k _ _ _=>k
def Tm.num:Tm→Int| .mk _ n _ _=>n
def Tm.name:Tm→ByteArray| .mk _ _ s _=>s
def Tm.args:Tm→List Tm| .mk _ _ _ l=>l
def Tm.cs(t:Tm)(p:Option Addr×Nat):List Value:=[.int .i64 t.kind,.int .i64 t.num,.string t.name,.slice p.1 t.args.length p.2]
section
variable {μ:Mem}
theorem Tm.invS{k n:Int}{s:ByteArray}{l:List Tm}{cs:List Value}(h:Rep μ (Tm.mk k n s l).d cs):∃base cap,cs=[.int .i64 k,.int .i64 n,.string s,.slice base l.length cap]∧Sl μ 4 base l.length (l.map Tm.d):=by
 rw[Tm.d_mk]at h
 obtain⟨c1,c2,rfl,rfl,c3,c4,rfl,rfl,c5,c6,rfl,rfl,c7,c8,rfl,h4,rfl⟩:=h
 have hl:=Rep.len _ _ h4
 match c7,hl with
 |[v],_=>
  obtain⟨base,cap,rfl,hsl⟩:=h4.sl
  rw[List.length_map]at hsl
  exact⟨base,cap,by simp,hsl⟩
theorem Tm.inv{k n:Int}{s:ByteArray}{l:List Tm}{v:Value}(h:RepV μ (Tm.mk k n s l).d v):∃base cap,v= .agg #[.int .i64 k,.int .i64 n,.string s,.slice base l.length cap]∧Sl μ 4 base l.length (l.map Tm.d):=by
 have h':∃cs,v= .agg (List.toArray cs)∧Rep μ (Tm.mk k n s l).d cs:=by rw[Tm.d_mk]at h ⊢;exact h
 obtain⟨cs,e,h2⟩:=h'
 have w_:=Tm.invS h2
 obtain⟨base,cap,e2,hsl⟩:=w_
 exact⟨base,cap,by rw[e,e2],hsl⟩
theorem Tm.rep{t:Tm}{cs:List Value}(h:Rep μ t.d cs):RepV μ t.d (.agg cs.toArray):=by
 cases t;rw[Tm.d_mk]at h ⊢;exact⟨cs,rfl,h⟩
theorem Tm.elem{l:List Tm}{base:Option Addr}{n:Nat}(h:Sl μ 4 base n (l.map Tm.d)){i:Nat}{t:Tm}(ht:l[i]? =some t):∃ad,∃p:Option Addr×Nat,ElemAt μ base n 4 i ad (t.cs p)∧RepV μ t.d (.agg (t.cs p).toArray):=by
 have w_:=h.get i t.d (by simp[ht])
 obtain⟨ad,cs,h1,h2⟩:=w_
 have h3:=Tm.rep h2
 cases t with
 |mk k n s l=>
  have w_:=Tm.invS h2
  obtain⟨b,c,rfl,hsl⟩:=w_
  exact⟨ad,(b,c),h1,h3⟩
end
end Go.Vx
namespace Go.Vx
open Go.Proofs Classical
theorem Tm.d_eq(t:Tm):t.d= .st [.i t.kind,.i t.num,.s t.name,.sl 4 (t.args.map Tm.d)]:=by
 cases t;exact Tm.d_mk _ _ _ _
section
variable {μ:Mem}
end
end Go.Vx
namespace Go.Vx
open Go.Proofs Classical
inductive T where
 |nil
 |var (n:Int)
 |sym (s:ByteArray)
 |num (n:Int)
 |pair (a b:T)
def T.tm:T→Tm
 | .nil=> .mk 0 0 ⟨#[]⟩ []
 | .var n=> .mk 1 n ⟨#[]⟩ []
 | .sym s=> .mk 2 0 s []
 | .num n=> .mk 3 n ⟨#[]⟩ []
 | .pair a b=> .mk 4 0 ⟨#[]⟩ [a.tm,b.tm]
def T.good:T→Prop
 | .nil=>True
 | .var n=>0≤n∧n≤100000
 | .sym s=>jZ s
 | .num n=> -1000000000≤n∧n≤1000000000
 | .pair a b=>a.good∧b.good
def T.size:T→Nat
 | .pair a b=>1+a.size+b.size
 | .nil=>1
 | .var _=>1
 | .sym _=>1
 | .num _=>1
def T.vars:T→List Int
 | .var n=>[n]
 | .pair a b=>a.vars++b.vars
 | .nil=>[]
 | .sym _=>[]
 | .num _=>[]
def T.ok(x:T):Prop:=x.good∧x.size≤5000
mutual
def Tm.cnt:Tm→Nat
 | .mk _ _ _ l=>1+Tm.cnts l
def Tm.cnts:List Tm→Nat
 |[]=>0
 |t::r=>t.cnt+Tm.cnts r
end
def Tm.Sh(t:Tm):Prop:=∃x:T,x.good∧x.tm=t
def Tm.Ok(t:Tm):Prop:=t.Sh∧t.cnt≤5000
theorem T.cnt_tm:∀x:T,x.tm.cnt=x.size
 | .nil=>rfl
 | .var _=>rfl
 | .sym _=>rfl
 | .num _=>rfl
 | .pair a b=>by simp[T.tm,Tm.cnt,Tm.cnts,T.size,T.cnt_tm a,T.cnt_tm b];omega
theorem Tm.Ok.lift{t:Tm}(h:t.Ok):∃x:T,x.ok∧t=x.tm:=by
 obtain⟨⟨x,h1,rfl⟩,h2⟩:=h
 rw[T.cnt_tm]at h2
 exact⟨x,⟨h1,h2⟩,rfl⟩
theorem T.ok.tm{x:T}(h:x.ok):x.tm.Ok:=⟨⟨x,h.1,rfl⟩,by rw[T.cnt_tm];exact h.2⟩
theorem T.tm_inj:∀{x y:T},x.tm=y.tm→x=y
 | .nil,y,h=>by cases y<;>simp_all [T.tm]
 | .var n,y,h=>by cases y<;>simp_all [T.tm]
 | .sym s,y,h=>by cases y<;>simp_all [T.tm]
 | .num n,y,h=>by cases y<;>simp_all [T.tm]
 | .pair a b,y,h=>by
  cases y<;>simp[T.tm]at h
  rw[T.tm_inj h.1,T.tm_inj h.2]
theorem fD:∀{l:List Tm},(∀t∈l,t.Ok)→∃xs:List T,l=xs.map T.tm∧∀x∈xs,x.ok
 |[],_=>⟨[],rfl,by simp⟩
 |t::l,h=>by
  have w_:=(h t (by simp)).lift
  obtain⟨x,h1,rfl⟩:=w_
  have w_:=fD (l:=l) fun t ht=>h t (by simp[ht])
  obtain⟨xs,rfl,h2⟩:=w_
  exact⟨x::xs,rfl,by simp;exact⟨h1,h2⟩⟩
end Go.Vx
namespace Go.Vx
open Go.Proofs Classical
section
variable {μ:Mem}
theorem set_self(h:Mem)(r:Nat)(o:Obj):h.set r o r=some o:=by simp[Mem.set_get]
end
end Go.Vx
namespace Go.Vx
open Go.Proofs Classical
def aF(l:List Int):List Value:=l.map fun n=> .int .i64 n
section
variable {μ:Mem}
theorem Ints.elem{l:List Int}{base:Option Addr}{n:Nat}(h:Sl μ 1 base n (l.map D.i)){i:Nat}{x:Int}(hx:l[i]? =some x):∃ad,ElemAt μ base n 1 i ad [.int .i64 x]:=by
 have w_:=h.get i (.i x) (by simp[hx])
 obtain⟨ad,cs,h1,h2⟩:=w_
 have h2:cs=[.int .i64 x]:=h2
 subst h2
 exact⟨ad,h1⟩
theorem Ints.rows:∀l:List Int,Rows μ 1 (l.map D.i) (aF l)
 |[]=> .nil
 |n::l=> .cons (show RepV μ (.i n) (.int .i64 n)from rfl) rfl (Ints.rows l)
theorem Ints.sl{b:Option Nat}{cap:Nat}{l:List Int}(h:RowAt μ b cap 1 (aF l))(hm:l.length≤maxLen):RepV μ (.sl 1 (l.map D.i)) (.slice (b.map fun r=>⟨r,0,none⟩) (aF l).length cap):=
 Rows.sl h (Ints.rows l) (by simpa[aF]using hm)
theorem Spec.forget{P:Program}{f:FuncId}{args:List Value}{R:Value→Prop}(h:Spec P f args μ fun v _=>R v):Spec P f args μ fun v μ'=>R v∧μ'=μ:=by
 refine⟨h.1,fun w hm hh hap=>(h.2 w hm hh hap).mono ?_⟩
 rintro e w' ⟨v,μ',h',rfl,hr,hS⟩
 exact⟨v,μ,Mem.nil,rfl,⟨hr,rfl⟩,⟨Mem.Le.refl μ,hS.mem.le hS.le,kB w',eA _,fun b h1 h2=>absurd h1 h2,fun b hb=>absurd rfl hb,hS.size,hS.keep,hS.os,hS.tape,hS.output⟩⟩
def T.args:T→List T
 | .pair a b=>[a,b]
 | .nil=>[]
 | .var _=>[]
 | .sym _=>[]
 | .num _=>[]
theorem T.ind{p:T→Prop}(h:∀x:T,(∀y∈x.args,p y)→p x):∀x,p x
 | .pair a b=>by
  have ha:=T.ind h a
  have hb:=T.ind h b
  refine h _ fun y hy=>?_
  simp only[T.args,List.mem_cons,List.not_mem_nil,or_false]at hy
  rcases hy with rfl|rfl
  ·exact ha
  ·exact hb
 | .nil=>h _ fun y hy=>by simp[T.args]at hy
 | .var _=>h _ fun y hy=>by simp[T.args]at hy
 | .sym _=>h _ fun y hy=>by simp[T.args]at hy
 | .num _=>h _ fun y hy=>by simp[T.args]at hy
theorem T.tm_args(x:T):x.tm.args=x.args.map T.tm:=by cases x<;>rfl
end
end Go.Vx
namespace Go.Vx
open Go.Proofs Classical
noncomputable def Tm.toT(t:Tm):T:=if h:∃x:T,x.tm=t then h.choose else .nil
theorem T.toT_tm(x:T):x.tm.toT=x:=by
 have h:∃y:T,y.tm=x.tm:=⟨x,rfl⟩
 rw[Tm.toT,dif_pos h]
 exact T.tm_inj h.choose_spec
def T.subst(f:Int→Option T):T→T
 | .var n=>(f n).getD (.var n)
 | .pair a b=> .pair (a.subst f) (b.subst f)
 | .nil=> .nil
 | .sym s=> .sym s
 | .num n=> .num n
section
variable {μ:Mem}
end
end Go.Vx
namespace Go.Vx
open Go.Proofs Classical
theorem T.d_eq(x:T):x.tm.d= .st [.i x.tm.kind,.i x.tm.num,.s x.tm.name,.sl 4 ((x.args.map T.tm).map Tm.d)]:=by
 rw[Tm.d_eq,T.tm_args]
theorem T.inv{μ:Mem}{x:T}{w:Value}(hw:RepV μ x.tm.d w):∃base cap,w= .agg #[.int .i64 x.tm.kind,.int .i64 x.tm.num,.string x.tm.name,.slice base x.args.length cap]∧Sl μ 4 base x.args.length ((x.args.map T.tm).map Tm.d):=by
 have h1:=Tm.inv (k:=x.tm.kind) (n:=x.tm.num) (s:=x.tm.name) (l:=x.tm.args) (v:=w) (by cases x<;>exact hw)
 rw[T.tm_args,List.length_map]at h1
 exact h1
end Go.Vx
namespace Go.Vx
open Go.Proofs Classical
def sgn(b:Bool):Int:=if b then -1 else 1
noncomputable def iX(x y:Tm)(rest:Int):Int:=
 if x.kind≠y.kind then sgn (decide (x.kind<y.kind))else if x.num≠y.num then sgn (decide (x.num<y.num))else if x.name≠y.name then sgn (Op.bytesLess x.name.data.toList y.name.data.toList)else rest
noncomputable def T.cmp:T→T→Int
 | .pair a b,.pair c d=>if a.cmp c=0 then b.cmp d else a.cmp c
 | .pair a b,.nil=>iX (T.pair a b).tm T.nil.tm 0
 | .pair a b,.var n=>iX (T.pair a b).tm (T.var n).tm 0
 | .pair a b,.sym n=>iX (T.pair a b).tm (T.sym n).tm 0
 | .pair a b,.num n=>iX (T.pair a b).tm (T.num n).tm 0
 | .nil,y=>iX T.nil.tm y.tm 0
 | .var n,y=>iX (T.var n).tm y.tm 0
 | .sym n,y=>iX (T.sym n).tm y.tm 0
 | .num n,y=>iX (T.num n).tm y.tm 0
theorem qKt(b:Bool):sgn b≠0:=by cases b<;>simp[sgn]
theorem qJy{x y:Tm}{r:Int}:iX x y r=0↔x.kind=y.kind∧x.num=y.num∧x.name=y.name∧r=0:=by
 unfold iX
 split
 ·rename_i h;exact⟨fun k=>absurd k (qKt _),fun k=>absurd k.1 h⟩
 ·split
  ·rename_i h;exact⟨fun k=>absurd k (qKt _),fun k=>absurd k.2.1 h⟩
  ·split
   ·rename_i h;exact⟨fun k=>absurd k (qKt _),fun k=>absurd k.2.2.1 h⟩
   ·rename_i h1 h2 h3
    exact⟨fun k=>⟨Classical.not_not.1 h1,Classical.not_not.1 h2,Classical.not_not.1 h3,k⟩,fun k=>k.2.2.2⟩
theorem T.cmp_zero:∀x y:T,x.cmp y=0↔x=y:=by
 intro x
 induction x with
 |pair a b iha ihb=>
  intro y
  cases y with
  |pair c d=>
   rw[T.cmp,T.pair.injEq,←iha,←ihb]
   split
   ·rename_i h;exact⟨fun k=>⟨h,k⟩,fun k=>k.2⟩
   ·rename_i h;exact⟨fun k=>absurd k h,fun k=>absurd k.1 h⟩
  |_=>rw[T.cmp,qJy];simp[T.tm,Tm.kind]
 |_=>
  intro y
  rw[T.cmp,qJy]
  cases y<;>simp[T.tm,Tm.kind,Tm.num,Tm.name]
theorem hd4{x y:Tm}{r:Int}(h1:x.kind=y.kind)(h2:x.num=y.num)(h:x.name=y.name):iX x y r=r:=by rw[iX,if_neg (fun k=>k h1),if_neg (fun k=>k h2),if_neg (fun k=>k h)]
section
variable {μ:Mem}
noncomputable def T.rest:T→T→Int
 | .pair a b,.pair c d=>if a.cmp c=0 then b.cmp d else a.cmp c
 |_,_=>0
theorem T.cmp_eq(x y:T):x.cmp y=iX x.tm y.tm (x.rest y):=by
 cases x with
 |pair a b=>
  cases y with
  |pair c d=>rw[T.cmp,hd4 (x:=(T.pair a b).tm) (y:=(T.pair c d).tm) rfl rfl rfl];rfl
  |_=>rw[T.cmp];rfl
 |_=>rw[T.cmp];rfl
end
end Go.Vx
namespace Go.Vx
open Go.Proofs Classical
theorem qOr{n:Int}(h:0≤n∧n≤100000):(T.var n).tm.d.wd:=by
 rw[T.d_eq]
 exact⟨⟨show(-9223372036854775808:Int)≤1 by decide,show(1:Int)≤9223372036854775807 by decide⟩,⟨show _≤n by omega,show n≤_ by omega⟩,Nat.zero_le _,trivial,trivial⟩
theorem T.good_wd:∀{x:T},x.good→x.tm.d.wd
 | .nil,_=>by
  rw[T.d_eq]
  exact⟨⟨show(-9223372036854775808:Int)≤0 by decide,show(0:Int)≤9223372036854775807 by decide⟩,⟨show(-9223372036854775808:Int)≤0 by decide,show(0:Int)≤9223372036854775807 by decide⟩,Nat.zero_le _,trivial,trivial⟩
 | .var n,h=>qOr h
 | .sym s,h=>by
  rw[T.d_eq]
  exact⟨⟨show(-9223372036854775808:Int)≤2 by decide,show(2:Int)≤9223372036854775807 by decide⟩,⟨show(-9223372036854775808:Int)≤0 by decide,show(0:Int)≤9223372036854775807 by decide⟩,Nat.le_trans h.2.1 (by decide),trivial,trivial⟩
 | .num n,h=>by
  have h1: -1000000000≤n∧n≤1000000000:=h
  rw[T.d_eq]
  exact⟨⟨show(-9223372036854775808:Int)≤3 by decide,show(3:Int)≤9223372036854775807 by decide⟩,⟨show _≤n by omega,show n≤_ by omega⟩,Nat.zero_le _,trivial,trivial⟩
 | .pair a b,h=>by
  rw[T.d_eq]
  exact⟨⟨show(-9223372036854775808:Int)≤4 by decide,show(4:Int)≤9223372036854775807 by decide⟩,⟨show(-9223372036854775808:Int)≤0 by decide,show(0:Int)≤9223372036854775807 by decide⟩,Nat.zero_le _,⟨T.good_wd h.1,T.good_wd h.2,trivial⟩,trivial⟩
theorem mU:∀{l:List T},(∀x∈l,x.good)→D.wds ((l.map T.tm).map Tm.d)
 |[],_=>trivial
 |x::l,h=>⟨T.good_wd (h x (by simp)),mU fun y hy=>h y (by simp[hy])⟩
end Go.Vx
namespace Go.Vx
open Go.Proofs Classical
section
variable {P:Program} {f:FuncId} {args:List Value} {μ h H:Mem}
theorem Mem.set_at(m:Mem)(r:Nat)(o:Obj):(m.set r o) r=some o:=by rw[Mem.set_get,if_pos rfl]
theorem Mem.set_ne{m:Mem}{b r:Nat}{o:Obj}(h:b≠r):(m.set r o) b=m b:=by rw[Mem.set_get,if_neg h]
theorem Apart.set{r:Nat}{o:Obj}(k:Apart μ h)(hr:μ r=none):Apart μ (h.set r o):=fun b hb=>by
 by_cases e:b=r
 ·subst e;exact absurd hr hb
 ·rw[Mem.set_ne e];exact k b hb
theorem RowO.set_ne{r cap b:Nat}{ty:TypeId}{es:Nat}{xs:List Value}{o:Obj}(k:RowO h r cap ty es xs)(hb:r≠b):RowO (h.set b o) r cap ty es xs:=by
 obtain⟨cs,h1,h2⟩:=k
 exact⟨cs,by rw[Mem.set_ne hb];exact h1,h2⟩
theorem RowO.rowAt{r cap:Nat}{ty:TypeId}{es:Nat}{xs:List Value}(k:RowO h r cap ty es xs)(hl:h.Le μ):RowAt μ (some r) cap es xs:=by
 obtain⟨cs,h1,h2,h3,h4,h5,h6⟩:=k
 exact⟨h2,h4,cs.toArray,ty,hl _ _ h1,by simpa using h5,by simpa using h6⟩
theorem RowO.len{r cap:Nat}{ty:TypeId}{es:Nat}{xs:List Value}(k:RowO h r cap ty es xs):xs.length≤maxLen:=by
 obtain⟨cs,h1,h2,h3,_⟩:=k
 exact h3
theorem RowO.rep{r cap:Nat}{ty:TypeId}{es:Nat}{xs:List Value}{ds:List D}(k:RowO h r cap ty es xs)(hl:h.Le μ)(hr:Rows μ es ds xs):RepV μ (.sl es ds) (.slice (some ⟨r,0,none⟩) xs.length cap):=
 Rows.sl (k.rowAt hl) hr k.len
def mK(v:Value):Prop:=∃n,v= .int .i64 n
theorem MapOk.int{l:List (Value×Value)}(k:MapOk mK l){n:Int}(v:Value):MapOk mK (gZ l (.int .i64 n) v):=k.set ⟨n,rfl⟩ v
def Grown(es:Nat)(μ μ':Mem)(ds:List D)(ys:List Value):Prop:=∃g,OwnRows es ds ys g∧g.Le μ'∧∀b,g b≠none→μ b=none
theorem Grown.nil(es:Nat)(μ μ':Mem):Grown es μ μ' [] []:=⟨Mem.nil,OwnRows.nil es,(fun _ _ h=>nomatch h),fun _ h=>absurd rfl h⟩
theorem Grown.len{es:Nat}{μ μ':Mem}{ds:List D}{ys:List Value}(k:Grown es μ μ' ds ys):ds.length=ys.length:=by
 obtain⟨g,a,_⟩:=k
 exact a.len
theorem Grown.fresh{es:Nat}{μ μ1 μ':Mem}{b:Option Nat}{cap:Nat}{ds:List D}{ys:List Value}(k:Grown es μ μ1 ds ys)(h0:μ.Le μ1)(h1:μ1.Le μ')(hb:∀r,b=some r→μ1 r=none)(hr:RowAt μ' b cap es ys)(hm:ys.length≤maxLen):
  Fresh μ μ' (.sl es ds) (.slice (b.map fun r=>⟨r,0,none⟩) ys.length cap):=by
 obtain⟨g,a,b',c⟩:=k
 exact Fresh.ofRow a b' c h0 h1 hb hr hm
variable {dr:Bool} {s:St} {K:Value→St→Prop}
end
section
variable {μ:Mem}
end
end Go.Vx
namespace Go.Vx
open Go.Proofs Classical
section
variable {μ:Mem}
theorem Rep.val:∀{d:D} {c:List Value},Rep μ d c→∃v,RepV μ d v∧aD v=c
 | .st fs,c,h=>⟨.agg c.toArray,⟨c,rfl,h⟩,by simp[aD]⟩
 | .i n,c,h=>by
  have h2:c=[.int .i64 n]:=h
  subst h2;exact⟨_,h,rfl⟩
 | .b x,c,h=>by
  have h2:c=[.bool x]:=h
  subst h2;exact⟨_,h,rfl⟩
 | .s x,c,h=>by
  have h2:c=[.string x]:=h
  subst h2;exact⟨_,h,rfl⟩
 | .sl es xs,c,h=>by
  obtain⟨base,cap,h1,h2⟩:=h
  subst h1
  exact⟨_,⟨base,cap,rfl,h2⟩,rfl⟩
theorem RepS.rows{es:Nat}:∀{l:List D} {flat:List Value},RepS μ l flat→(∀x∈l,x.n=es)→∃vs,Rows μ es l vs∧vs.flatMap aD=flat
 |[],flat,h,_=>by
  have h:flat=[]:=h
  subst h;exact⟨[],.nil,rfl⟩
 |d::l,flat,h,hn=>by
  obtain⟨c1,c2,rfl,h1,h2⟩:=h
  have w_:=Rep.val h1
  obtain⟨v,hv,rfl⟩:=w_
  have w_:=RepS.rows h2 fun x hx=>hn x (by simp[hx])
  obtain⟨vs,hr,rfl⟩:=w_
  exact⟨v::vs,.cons hv (hn d (by simp)) hr,by simp⟩
theorem Rows.take{es:Nat}:∀{ds:List D} {vs:List Value} (k:Nat),Rows μ es ds vs→Rows μ es (ds.take k) (vs.take k)
 |_,_,0,_=>by simpa using Rows.nil
 |_,_,k+1,.nil=>by simpa using Rows.nil
 |_,_,k+1,.cons h hn r=>by simpa using Rows.cons h hn (r.take k)
theorem Rows.drop{es:Nat}:∀{ds:List D} {vs:List Value} (k:Nat),Rows μ es ds vs→Rows μ es (ds.drop k) (vs.drop k)
 |_,_,0,h=>by simpa using h
 |_,_,k+1,.nil=>by simpa using Rows.nil
 |_,_,k+1,.cons h hn r=>by simpa using r.drop k
theorem Rows.size{es:Nat}:∀{ds:List D} {vs:List Value},Rows μ es ds vs→∀v∈vs,(aD v).length=es∧∀u∈aD v,u.oneCell'=true
 |_,_,.nil,v,hv=>by simp at hv
 |_,_,.cons h hn r,v,hv=>by
  rcases List.mem_cons.1 hv with rfl|hv
  ·exact⟨by rw[Rep.len _ _ h.cells];exact hn,Rep.one _ _ h.cells⟩
  ·exact r.size v hv
def qFn{α:Type}(l:List α)(x:α)(k:Nat):List α:=l.take k++([x]++l.drop k)
theorem qTp{α:Type}(l:List α)(x y:α)(k:Nat):y∈qFn l x k↔y=x∨y∈l:=by
 have h2:y∈l↔y∈l.take k∨y∈l.drop k:=by rw[←List.mem_append,List.take_append_drop]
 simp only[qFn,List.mem_append,List.mem_singleton,h2]
 constructor
 ·rintro(h|h|h)<;>simp[h]
 ·rintro(h|h|h)<;>simp[h]
theorem qNu{α:Type}(l:List α)(x:α)(k:Nat):(qFn l x k).length=l.length+1:=by
 have:=congrArg List.length (List.take_append_drop k l)
 simp only[qFn,List.length_append,List.length_singleton]at*
 omega
theorem T.vars_range:∀{x:T},x.good→∀n∈x.vars,0≤n∧n≤100000
 | .var n,h,m,hm=>by
  simp only[T.vars,List.mem_singleton]at hm
  subst hm;exact h
 | .pair a b,h,m,hm=>by
  simp only[T.vars,List.mem_append]at hm
  exact hm.elim (T.vars_range h.1 m) (T.vars_range h.2 m)
 | .nil,_,m,hm=>by simp[T.vars]at hm
 | .sym _,_,m,hm=>by simp[T.vars]at hm
 | .num _,_,m,hm=>by simp[T.vars]at hm
theorem nodup_range{N:Nat}:∀{l:List Int},l.Nodup→(∀n∈l,0≤n∧n<N)→l.length≤N:=by
 induction N with
 |zero=>
  intro l _ h
  cases l with
  |nil=>simp
  |cons a l=>have:=h a (by simp);omega
 |succ N ih=>
  intro l hn h
  have h1:=ih (l:=l.erase (N:Int)) (hn.erase _) fun n hm=>by
   rw[hn.mem_erase_iff]at hm
   have:=h n hm.2
   have h2:n≠(N:Int):=hm.1
   omega
  have h2:l.length≤(l.erase (N:Int)).length+1:=by
   rw[List.length_erase];split<;>omega
  omega
end
end Go.Vx
namespace Go.Vx
open Go.Proofs Classical
section
variable {μ:Mem}
theorem gV{α:Type}{l:List α}(h:l.length=1):∃v,l=[v]:=List.length_eq_one_iff.1 h
def FreshS(μ μ':Mem)(ds:List D)(cs:List Value):Prop:=∃g:Mem,OwnS ds g cs∧g.Le μ'∧∀b,g b≠none→μ b=none
variable {μ1 μ':Mem}
theorem FreshS.nil:FreshS μ μ' [] []:=⟨Mem.nil,⟨rfl,rfl⟩,(fun _ _ h=>nomatch h),fun _ h=>absurd rfl h⟩
theorem FreshS.str{n:ByteArray}{ds:List D}{cs:List Value}(k:FreshS μ μ' ds cs):FreshS μ μ' (.s n::ds) (.string n::cs):=by
 obtain⟨g,a,b,c⟩:=k
 exact⟨g,OwnS.str a,b,c⟩
theorem FreshS.cons{d:D}{v:Value}{ds:List D}{cs:List Value}(k1:Fresh μ μ1 d v)(h1:μ.Le μ1)(h2:μ1.Le μ')(k:FreshS μ1 μ' ds cs):FreshS μ μ' (d::ds) (aD v++cs):=by
 obtain⟨g1,a1,b1,c1⟩:=k1
 obtain⟨g,a,b,c⟩:=k
 refine⟨g1.join g,OwnS.cons (Parts.join (iF b1 c)) a1.cells a,eH (b1.trans h2) b,fun x hx=>?_⟩
 rcases gW hx with h|h
 ·exact c1 x h
 ·have h3 := c x h
  cases h0:μ x with
  |none=>rfl
  |some o=>rw[h1 x o h0]at h3;cases h3
theorem FreshS.st{ds:List D}{cs:List Value}(k:FreshS μ μ' ds cs):Fresh μ μ' (.st ds) (.agg cs.toArray):=by
 obtain⟨g,a,b,c⟩:=k
 exact⟨g,⟨cs,rfl,a⟩,b,c⟩
end
end Go.Vx
namespace Go.Vx
open Go.Proofs Classical
inductive Gl where
 |mk (kind:Int) (name:ByteArray) (terms:List Tm) (goals:List Gl)
def Gl.kind:Gl→Int| .mk a _ _ _=>a
def Gl.name:Gl→ByteArray| .mk _ a _ _=>a
def Gl.terms:Gl→List Tm| .mk _ _ a _=>a
def Gl.goals:Gl→List Gl| .mk _ _ _ a=>a
theorem Gl.ind{q:Gl→Prop}(h:∀x:Gl,(∀y∈x.goals,q y)→q x):∀x,q x
 | .mk a0 a1 a2 a3=>h _ fun y hy=>have _:=hy;Gl.ind h y
termination_by x=>x
decreasing_by all_goals (first|exact Nat.lt_of_lt_of_le (List.sizeOf_lt_of_mem hy) (by simp only[Gl.goals,Gl.mk.sizeOf_spec];omega)|decreasing_tactic)
mutual
def Gl.d:Gl→D
 | .mk a0 a1 a2 a3=> .st [.i a0,.s a1,.sl 4 (a2.map Tm.d),.sl 4 (Gl.ds a3)]
def Gl.ds:List Gl→List D
 |[]=>[]
 |t::r=>t.d::Gl.ds r
end
theorem Gl.ds_map:∀l:List Gl,Gl.ds l=l.map Gl.d
 |[]=>rfl
 |t::r=>by simp[Gl.ds,Gl.ds_map r]
theorem Gl.d_eq(x:Gl):x.d= .st [.i x.kind,.s x.name,.sl 4 (x.terms.map Tm.d),.sl 4 (x.goals.map Gl.d)]:=by
 cases x
 rw[Gl.d,Gl.ds_map]
 rfl
theorem Gl.d_n(x:Gl):x.d.n=4:=by
 rw[Gl.d_eq]
 simp only[D.n,D.ns]
abbrev Gl.P:=(Option Addr×Nat)×(Option Addr×Nat)
def Gl.cs(x:Gl)(p:Gl.P):List Value:=[.int .i64 x.kind,.string x.name,.slice p.1.1 x.terms.length p.1.2,.slice p.2.1 x.goals.length p.2.2]
section
variable {μ:Mem}
def Gl.At(μ:Mem)(x:Gl)(p:Gl.P):Prop:=Sl μ 4 p.1.1 x.terms.length (x.terms.map Tm.d)∧Sl μ 4 p.2.1 x.goals.length (x.goals.map Gl.d)
theorem Gl.invA{x:Gl}{cs:List Value}(h:Rep μ x.d cs):∃p:Gl.P,cs=x.cs p∧Gl.At μ x p:=by
 rw[Gl.d_eq]at h
 obtain⟨a0,t0,rfl,h0,h⟩:=h
 have h0:a0=[.int .i64 x.kind]:=h0
 subst h0
 obtain⟨a1,t1,rfl,h1,h⟩:=h
 have h1:a1=[.string x.name]:=h1
 subst h1
 obtain⟨a2,t2,rfl,h2,h⟩:=h
 have w_:=gV (Rep.len _ _ h2)
 obtain⟨v2,rfl⟩:=w_
 have w_:=Rep.sl h2
 obtain⟨b2,c2,rfl,s2⟩:=w_
 rw[List.length_map]at s2
 obtain⟨a3,t3,rfl,h3,h⟩:=h
 have w_:=gV (Rep.len _ _ h3)
 obtain⟨v3,rfl⟩:=w_
 have w_:=Rep.sl h3
 obtain⟨b3,c3,rfl,s3⟩:=w_
 rw[List.length_map]at s3
 obtain rfl:t3=[]:=h
 exact⟨((b2,c2),(b3,c3)),by simp[Gl.cs],⟨s2,s3⟩⟩
theorem Gl.rep{x:Gl}{cs:List Value}(h:Rep μ x.d cs):RepV μ x.d (.agg cs.toArray):=by
 rw[Gl.d_eq]at h ⊢;exact⟨cs,rfl,h⟩
theorem Gl.invR{x:Gl}{cs:List Value}(h:Rep μ x.d cs):∃p:Gl.P,cs=x.cs p∧RepV μ x.d (.agg (x.cs p).toArray):=by
 have w_:=Gl.invA h
 obtain⟨p,e,_⟩:=w_
 subst e
 exact⟨p,rfl,Gl.rep h⟩
theorem Gl.inv{x:Gl}{v:Value}(h:RepV μ x.d v):∃p:Gl.P,v= .agg #[.int .i64 x.kind,.string x.name,.slice p.1.1 x.terms.length p.1.2,.slice p.2.1 x.goals.length p.2.2]∧Gl.At μ x p:=by
 have h2:∃cs,v= .agg (List.toArray cs)∧Rep μ x.d cs:=by rw[Gl.d_eq]at h ⊢;exact h
 obtain⟨cs,rfl,h3⟩:=h2
 have w_:=Gl.invA h3
 obtain⟨p,rfl,hA⟩:=w_
 exact⟨p,rfl,hA⟩
theorem Gl.elemA{l:List Gl}{base:Option Addr}{n:Nat}(h:Sl μ 4 base n (l.map Gl.d)){i:Nat}{x:Gl}(hx:l[i]? =some x):∃ad,∃p:Gl.P,ElemAt μ base n 4 i ad (x.cs p)∧RepV μ x.d (.agg (x.cs p).toArray)∧Gl.At μ x p:=by
 have w_:=h.get i x.d (by simp[hx])
 obtain⟨ad,cs,h1,h2⟩:=w_
 have w_:=Gl.invA h2
 obtain⟨p,rfl,hA⟩:=w_
 exact⟨ad,p,h1,Gl.rep h2,hA⟩
theorem Gl.elem{l:List Gl}{base:Option Addr}{n:Nat}(h:Sl μ 4 base n (l.map Gl.d)){i:Nat}{x:Gl}(hx:l[i]? =some x):∃ad,∃p:Gl.P,ElemAt μ base n 4 i ad (x.cs p)∧RepV μ x.d (.agg (x.cs p).toArray):=by
 have w_:=Gl.elemA h hx
 obtain⟨ad,p,h1,h2,_⟩:=w_
 exact⟨ad,p,h1,h2⟩
end
end Go.Vx
namespace Go.Vx
open Go.Proofs Classical
structure Rl where
 name:ByteArray
 arity:Int
 locals:Int
 body:Gl
def Rl.d(x:Rl):D:= .st [.s x.name,.i x.arity,.i x.locals,x.body.d]
theorem Rl.d_eq(x:Rl):x.d= .st [.s x.name,.i x.arity,.i x.locals,x.body.d]:=rfl
theorem Rl.d_n(x:Rl):x.d.n=7:=by
 rw[Rl.d_eq]
 simp only[D.n,D.ns,Gl.d_n]
abbrev Rl.P:=Gl.P
def Rl.cs(x:Rl)(p:Rl.P):List Value:=[.string x.name,.int .i64 x.arity,.int .i64 x.locals,.int .i64 x.body.kind,.string x.body.name,.slice p.1.1 x.body.terms.length p.1.2,.slice p.2.1 x.body.goals.length p.2.2]
section
variable {μ:Mem}
def Rl.At(μ:Mem)(x:Rl)(p:Rl.P):Prop:=RepV μ x.body.d (.agg (x.body.cs p).toArray)
theorem Rl.invA{x:Rl}{cs:List Value}(h:Rep μ x.d cs):∃p:Rl.P,cs=x.cs p∧Rl.At μ x p:=by
 rw[Rl.d_eq]at h
 obtain⟨a0,t0,rfl,h0,h⟩:=h
 have h0:a0=[.string x.name]:=h0
 subst h0
 obtain⟨a1,t1,rfl,h1,h⟩:=h
 have h1:a1=[.int .i64 x.arity]:=h1
 subst h1
 obtain⟨a2,t2,rfl,h2,h⟩:=h
 have h2:a2=[.int .i64 x.locals]:=h2
 subst h2
 obtain⟨a3,t3,rfl,h3,h⟩:=h
 have w_:=Gl.invR h3
 obtain⟨p3,rfl,r3⟩:=w_
 obtain rfl:t3=[]:=h
 exact⟨p3,by simp[Rl.cs,Gl.cs],r3⟩
theorem Rl.rep{x:Rl}{cs:List Value}(h:Rep μ x.d cs):RepV μ x.d (.agg cs.toArray):=by
 rw[Rl.d_eq]at h ⊢;exact⟨cs,rfl,h⟩
theorem Rl.inv{x:Rl}{v:Value}(h:RepV μ x.d v):∃p:Rl.P,v= .agg #[.string x.name,.int .i64 x.arity,.int .i64 x.locals,.int .i64 x.body.kind,.string x.body.name,.slice p.1.1 x.body.terms.length p.1.2,.slice p.2.1 x.body.goals.length p.2.2]∧Rl.At μ x p:=by
 have h2:∃cs,v= .agg (List.toArray cs)∧Rep μ x.d cs:=by rw[Rl.d_eq]at h ⊢;exact h
 obtain⟨cs,rfl,h3⟩:=h2
 have w_:=Rl.invA h3
 obtain⟨p,rfl,hA⟩:=w_
 exact⟨p,rfl,hA⟩
theorem Rl.elemA{l:List Rl}{base:Option Addr}{n:Nat}(h:Sl μ 7 base n (l.map Rl.d)){i:Nat}{x:Rl}(hx:l[i]? =some x):∃ad,∃p:Rl.P,ElemAt μ base n 7 i ad (x.cs p)∧RepV μ x.d (.agg (x.cs p).toArray)∧Rl.At μ x p:=by
 have w_:=h.get i x.d (by simp[hx])
 obtain⟨ad,cs,h1,h2⟩:=w_
 have w_:=Rl.invA h2
 obtain⟨p,rfl,hA⟩:=w_
 exact⟨ad,p,h1,Rl.rep h2,hA⟩
theorem Rl.elem{l:List Rl}{base:Option Addr}{n:Nat}(h:Sl μ 7 base n (l.map Rl.d)){i:Nat}{x:Rl}(hx:l[i]? =some x):∃ad,∃p:Rl.P,ElemAt μ base n 7 i ad (x.cs p)∧RepV μ x.d (.agg (x.cs p).toArray):=by
 have w_:=Rl.elemA h hx
 obtain⟨ad,p,h1,h2,_⟩:=w_
 exact⟨ad,p,h1,h2⟩
end
end Go.Vx
namespace Go.Vx
open Go.Proofs Classical
structure Pg where
 rels:List Rl
def Pg.d(x:Pg):D:= .st [.sl 7 (x.rels.map Rl.d)]
theorem Pg.d_eq(x:Pg):x.d= .st [.sl 7 (x.rels.map Rl.d)]:=rfl
abbrev Pg.P:=(Option Addr×Nat)
def Pg.cs(x:Pg)(p:Pg.P):List Value:=[.slice p.1 x.rels.length p.2]
section
variable {μ:Mem}
def Pg.At(μ:Mem)(x:Pg)(p:Pg.P):Prop:=Sl μ 7 p.1 x.rels.length (x.rels.map Rl.d)
theorem Pg.invA{x:Pg}{cs:List Value}(h:Rep μ x.d cs):∃p:Pg.P,cs=x.cs p∧Pg.At μ x p:=by
 rw[Pg.d_eq]at h
 obtain⟨a0,t0,rfl,h0,h⟩:=h
 have w_:=gV (Rep.len _ _ h0)
 obtain⟨v0,rfl⟩:=w_
 have w_:=Rep.sl h0
 obtain⟨b0,c0,rfl,s0⟩:=w_
 rw[List.length_map]at s0
 obtain rfl:t0=[]:=h
 exact⟨(b0,c0),by simp[Pg.cs],s0⟩
theorem Pg.inv{x:Pg}{v:Value}(h:RepV μ x.d v):∃p:Pg.P,v= .agg #[.slice p.1 x.rels.length p.2]∧Pg.At μ x p:=by
 have h2:∃cs,v= .agg (List.toArray cs)∧Rep μ x.d cs:=by rw[Pg.d_eq]at h ⊢;exact h
 obtain⟨cs,rfl,h3⟩:=h2
 have w_:=Pg.invA h3
 obtain⟨p,rfl,hA⟩:=w_
 exact⟨p,rfl,hA⟩
end
end Go.Vx
namespace Go.Vx
open Go.Proofs Classical
structure Fc where
 rel:ByteArray
 args:List Tm
def Fc.d(x:Fc):D:= .st [.s x.rel,.sl 4 (x.args.map Tm.d)]
theorem Fc.d_eq(x:Fc):x.d= .st [.s x.rel,.sl 4 (x.args.map Tm.d)]:=rfl
theorem Fc.d_n(x:Fc):x.d.n=2:=by
 rw[Fc.d_eq]
 simp only[D.n,D.ns]
abbrev Fc.P:=(Option Addr×Nat)
def Fc.cs(x:Fc)(p:Fc.P):List Value:=[.string x.rel,.slice p.1 x.args.length p.2]
section
variable {μ:Mem}
def Fc.At(μ:Mem)(x:Fc)(p:Fc.P):Prop:=Sl μ 4 p.1 x.args.length (x.args.map Tm.d)
theorem Fc.invA{x:Fc}{cs:List Value}(h:Rep μ x.d cs):∃p:Fc.P,cs=x.cs p∧Fc.At μ x p:=by
 rw[Fc.d_eq]at h
 obtain⟨a0,t0,rfl,h0,h⟩:=h
 have h0:a0=[.string x.rel]:=h0
 subst h0
 obtain⟨a1,t1,rfl,h1,h⟩:=h
 have w_:=gV (Rep.len _ _ h1)
 obtain⟨v1,rfl⟩:=w_
 have w_:=Rep.sl h1
 obtain⟨b1,c1,rfl,s1⟩:=w_
 rw[List.length_map]at s1
 obtain rfl:t1=[]:=h
 exact⟨(b1,c1),by simp[Fc.cs],s1⟩
theorem Fc.rep{x:Fc}{cs:List Value}(h:Rep μ x.d cs):RepV μ x.d (.agg cs.toArray):=by
 rw[Fc.d_eq]at h ⊢;exact⟨cs,rfl,h⟩
theorem Fc.inv{x:Fc}{v:Value}(h:RepV μ x.d v):∃p:Fc.P,v= .agg #[.string x.rel,.slice p.1 x.args.length p.2]∧Fc.At μ x p:=by
 have h2:∃cs,v= .agg (List.toArray cs)∧Rep μ x.d cs:=by rw[Fc.d_eq]at h ⊢;exact h
 obtain⟨cs,rfl,h3⟩:=h2
 have w_:=Fc.invA h3
 obtain⟨p,rfl,hA⟩:=w_
 exact⟨p,rfl,hA⟩
theorem Fc.elemA{l:List Fc}{base:Option Addr}{n:Nat}(h:Sl μ 2 base n (l.map Fc.d)){i:Nat}{x:Fc}(hx:l[i]? =some x):∃ad,∃p:Fc.P,ElemAt μ base n 2 i ad (x.cs p)∧RepV μ x.d (.agg (x.cs p).toArray)∧Fc.At μ x p:=by
 have w_:=h.get i x.d (by simp[hx])
 obtain⟨ad,cs,h1,h2⟩:=w_
 have w_:=Fc.invA h2
 obtain⟨p,rfl,hA⟩:=w_
 exact⟨ad,p,h1,Fc.rep h2,hA⟩
theorem Fc.elem{l:List Fc}{base:Option Addr}{n:Nat}(h:Sl μ 2 base n (l.map Fc.d)){i:Nat}{x:Fc}(hx:l[i]? =some x):∃ad,∃p:Fc.P,ElemAt μ base n 2 i ad (x.cs p)∧RepV μ x.d (.agg (x.cs p).toArray):=by
 have w_:=Fc.elemA h hx
 obtain⟨ad,p,h1,h2,_⟩:=w_
 exact⟨ad,p,h1,h2⟩
end
end Go.Vx
namespace Go.Vx
open Go.Proofs Classical
inductive Pf where
 |mk (rel:ByteArray) (clause:Int) (values:List Tm) (kids:List Pf)
def Pf.rel:Pf→ByteArray| .mk a _ _ _=>a
def Pf.clause:Pf→Int| .mk _ a _ _=>a
def Pf.values:Pf→List Tm| .mk _ _ a _=>a
def Pf.kids:Pf→List Pf| .mk _ _ _ a=>a
section
variable {μ:Mem}
end
end Go.Vx
namespace Go.Vx
open Go.Proofs Classical
mutual
def Gl.cnt:Gl→Nat
 | .mk _ _ _ l=>1+Gl.cnts l
def Gl.cnts:List Gl→Nat
 |[]=>0
 |t::r=>t.cnt+Gl.cnts r
end
structure TopOk (g:Gl):Prop where
 tm:∀t∈g.terms,t.Ok
 k0:0≤g.kind
 k1:g.kind≤10
 nm:g.kind≠9→g.name=⟨#[]⟩
 rel:g.kind=9→iJ g.name
 ln9:g.kind=9→g.terms.length≤4
 ln2:g.kind=2∨g.kind=3∨g.kind=6→g.terms.length=2
 ln1:g.kind=4∨g.kind=5→g.terms.length=1
 ln0:g.kind=0∨g.kind=1∨g.kind=7∨g.kind=8∨g.kind=10→g.terms.length=0
 gl:g.goals.length≤8
 gl0:g.kind<7∨g.kind=9→g.goals.length=0
 gl1:g.kind=10→g.goals.length=1
 sy:g.kind=6→∀a,g.terms[0]? =some a→a.kind=2
 cl:g.kind=10→∀b,g.goals[0]? =some b→b.kind=9
inductive Gl.Sh:Gl→Prop
 |mk {g:Gl} (top:TopOk g) (sub:∀x∈g.goals,x.Sh):g.Sh
theorem Gl.Sh.top{g:Gl}(h:g.Sh):TopOk g:=by cases h;assumption
theorem Gl.Sh.sub{g:Gl}(h:g.Sh):∀x∈g.goals,x.Sh:=by cases h;assumption
def Gl.Ok(g:Gl):Prop:=g.Sh∧g.cnt≤80
section
variable {μ:Mem}
end
end Go.Vx
namespace Go.Vx
open Go.Proofs Classical
mutual
noncomputable def Gl.put(f:Int→Option T):Gl→Gl
 | .mk k s ts gs=> .mk k s (ts.map fun t=>(t.toT.subst f).tm) (Gl.puts f gs)
noncomputable def Gl.puts(f:Int→Option T):List Gl→List Gl
 |[]=>[]
 |g::r=>g.put f::Gl.puts f r
end
theorem gO{xs:List T}:(xs.map T.tm).map Tm.toT=xs:=by
 rw[List.map_map]
 exact(List.map_congr_left fun x _=>T.toT_tm x).trans (List.map_id _)
section
variable {μ:Mem}
end
end Go.Vx
namespace Go.Vx
open Go.Proofs Classical
open Go.Sort
def aR(h0:Mem)(r:Nat)(ty:TypeId)(rest:List Value)(d:Array Int):Mem:=h0.set r (.cells (List.toArray ([]++(d.toList.map (Value.int .i64)++rest))) ty (0,0))
section
variable {μ h0:Mem} {r:Nat} {ty:TypeId} {rest:List Value} {d:Array Int}
end
end Go.Vx
namespace Go.Vx
open Go.Proofs Classical
open Go.Sort
def RowS(h0:Mem)(r:Nat)(ty:TypeId)(rest:List Value)(d:Array Int)(rs:Nat)(s:Int):Mem:=aR (h0.set rs (.cells #[.int .i64 s] 3 (0,0))) r ty rest d
section
variable {μ h0:Mem} {r rs:Nat} {ty:TypeId} {rest:List Value} {d:Array Int} {s:Int}
theorem RowS.at(hne:rs≠r):RowS h0 r ty rest d rs s rs=some (.cells #[.int .i64 s] 3 (0,0)):=by
 rw[RowS,aR,Mem.set_ne hne,Mem.set_at]
end
end Go.Vx
namespace Go.Vx
open Go.Proofs Classical
open Go.Sort
section
variable {μ h0:Mem} {r rs:Nat} {ty:TypeId} {rest:List Value} {d:Array Int} {s:Int}
def RowX(h0:Mem)(r:Nat)(ty:TypeId)(rest:List Value)(d:Array Int)(rs:Nat)(s:Int):Mem:=aR (h0.set rs (.cells #[.int .u64 s] 267 (0,0))) r ty rest d
theorem RowX.at(hne:rs≠r):RowX h0 r ty rest d rs s rs=some (.cells #[.int .u64 s] 267 (0,0)):=by
 rw[RowX,aR,Mem.set_ne hne,Mem.set_at]
end
end Go.Vx
namespace Go.Vx
open Go.Proofs Classical
mutual
def Gl.all:Gl→List Gl
 | .mk k s ts gs=> .mk k s ts gs::Gl.alls gs
def Gl.alls:List Gl→List Gl
 |[]=>[]
 |g::r=>g.all++Gl.alls r
end
theorem Gl.alls_map:∀l:List Gl,Gl.alls l=l.flatMap Gl.all
 |[]=>rfl
 |g::r=>by simp[Gl.alls,Gl.alls_map r]
theorem Gl.all_eq(g:Gl):g.all=g::g.goals.flatMap Gl.all:=by
 cases g
 rw[Gl.all,Gl.alls_map]
 rfl
theorem Gl.Sh.all:∀(g:Gl),g.Sh→∀x∈g.all,x.Sh:=
 Gl.ind fun g ih h x hx=>by
  rw[Gl.all_eq]at hx
  rcases List.mem_cons.1 hx with rfl|hx
  ·exact h
  ·have w_ := List.mem_flatMap.1 hx
   obtain⟨y,hy,hx⟩:=w_
   exact ih y hy (h.sub y hy) x hx
noncomputable def Gl.tvars(g:Gl):List Int:=(g.terms.map Tm.toT).flatMap T.vars
noncomputable def Gl.vars(g:Gl):List Int:=g.all.flatMap Gl.tvars
theorem toTs_tm'{xs:List T}:(xs.map T.tm).map Tm.toT=xs:=by
 rw[List.map_map]
 exact(List.map_congr_left fun x _=>T.toT_tm x).trans (List.map_id _)
section
variable {μ:Mem}
theorem Gl.vars_range{g:Gl}(h:g.Sh):∀n∈g.vars,0≤n∧n≤100000:=fun n hn=>by
 have w_:=List.mem_flatMap.1 hn
 obtain⟨x,hx,hn⟩:=w_
 have w_:=fD (h.all g x hx).top.tm
 obtain⟨xs,hxs,hxo⟩:=w_
 rw[Gl.tvars,hxs,toTs_tm']at hn
 have w_:=List.mem_flatMap.1 hn
 obtain⟨t,ht,hn⟩:=w_
 exact T.vars_range (hxo t ht).1 n hn
end
end Go.Vx
namespace Go.Vx
open Go.Proofs Classical
noncomputable def dJ:List Rl→Nat→ByteArray→Int
 |[],_,_=> -1
 |r::l,i,s=>if r.name=s then i else dJ l (i+1) s
noncomputable def relAt(p:Pg)(s:ByteArray):Int:=dJ p.rels 0 s
def cR(p:Pg)(g:Gl):Prop:=g.kind=9→∃(i:Nat) (r:Rl),relAt p g.name=i∧p.rels[i]? =some r∧r.arity=g.terms.length
section
variable {μ:Mem}
inductive FitAll (p:Pg):Gl→Prop
 |mk {g:Gl} (top:cR p g) (sub:∀x∈g.goals,FitAll p x):FitAll p g
theorem FitAll.top{p:Pg}{g:Gl}(h:FitAll p g):cR p g:=by cases h;assumption
theorem FitAll.sub{p:Pg}{g:Gl}(h:FitAll p g):∀x∈g.goals,FitAll p x:=by cases h;assumption
end
end Go.Vx
namespace Go.Vx
open Go.Proofs Classical
theorem FitAll.all{p:Pg}:∀{g:Gl},FitAll p g→∀x∈g.all,cR p x:=fun {g}=>by
 refine Gl.ind (q:=fun g=>FitAll p g→∀x∈g.all,cR p x) (fun g ih h x hx=>?_) g
 rw[Gl.all_eq]at hx
 rcases List.mem_cons.1 hx with rfl|hx
 ·exact h.top
 ·have w_ := List.mem_flatMap.1 hx
  obtain⟨y,hy,hx⟩:=w_
  exact ih y hy (h.sub y hy) x hx
theorem FitAll.of{p:Pg}:∀{g:Gl},(∀x∈g.all,cR p x)→FitAll p g:=fun {g}=>by
 refine Gl.ind (q:=fun g=>(∀x∈g.all,cR p x)→FitAll p g) (fun g ih h=>?_) g
 rw[Gl.all_eq]at h
 exact .mk (h g (by simp)) fun y hy=>ih y hy fun x hx=>h x (List.mem_cons_of_mem _ (List.mem_flatMap.2 ⟨y,hy,hx⟩))
section
variable {μ:Mem}
end
end Go.Vx
namespace Go.Vx
open Go.Proofs Classical
structure RelOk (p:Pg) (i:Nat) (r:Rl):Prop where
 at_:relAt p r.name=i
 name:iJ r.name
 ar0:0≤r.arity
 ar4:r.arity≤4
 lo0:0≤r.locals
 lo8:r.locals≤8
 body:r.body.Sh
 size:r.body.cnt≤60
 vars:∀n∈r.body.vars,n<r.arity+r.locals
 calls:FitAll p r.body
def Pg.Ok(p:Pg):Prop:=p.rels.length≤8∧∀(i:Nat) (r:Rl),p.rels[i]? =some r→RelOk p i r
section
variable {μ:Mem}
end
end Go.Vx
namespace Go.Vx
open Go.Proofs Classical
theorem qAi{l:List Int}(hs:l.Pairwise (·<·)){i j:Nat}{x y:Int}(h:i<j)(hx:l[i]? =some x)(hy:l[j]? =some y):x<y:=by
 have w_:=List.getElem?_eq_some_iff.1 hx
 obtain⟨h1,rfl⟩:=w_
 have w_:=List.getElem?_eq_some_iff.1 hy
 obtain⟨h2,rfl⟩:=w_
 exact List.pairwise_iff_getElem.1 hs i j h1 h2 h
section
variable {μ:Mem}
structure VL (l:List Int):Prop where
 srt:l.Pairwise (·<·)
 rng:∀x∈l,0≤x∧x≤100000
theorem VL.len{l:List Int}(h:VL l):l.length≤100001:=by
 refine nodup_range (N:=100001) ?_ fun n hn=>by have:=h.rng n hn;omega
 rw[List.nodup_iff_pairwise_ne]
 exact h.srt.imp fun hab e=>by omega
end
end Go.Vx
namespace Go.Vx
open Go.Proofs Classical
section
variable {μ:Mem}
theorem VL.last{l:List Int}(h:VL l){n x:Int}(hx:l[l.length-1]? =some x):(∀y∈l,y<n)↔x<n:=by
 constructor
 ·intro k;exact k x (List.mem_of_getElem? hx)
 ·intro k y hy
  have w_:=List.mem_iff_getElem?.1 hy
  obtain⟨i,hi⟩:=w_
  have hil:=(List.getElem?_eq_some_iff.1 hi).1
  rcases Nat.lt_or_ge i (l.length-1)with h1|h1
  ·have:=qAi h.srt h1 hi hx;omega
  ·obtain rfl : i = l.length - 1 := by omega
   rw[hx]at hi;cases hi;exact k
end
end Go.Vx
namespace Go.Vx
open Go.Proofs Classical
def T.hasSym(s:ByteArray):T→Prop
 | .sym a=>a=s
 | .pair a b=>a.hasSym s∨b.hasSym s
 | .nil=>False
 | .var _=>False
 | .num _=>False
section
variable {μ:Mem}
theorem kA{h:Mem}{r r' cap es:Nat}{ty:TypeId}{ys:List Value}(hb:RowO h r cap ty es ys)(hap:Apart μ h)(hor:r'=r∨(h r'=none∧μ r'=none)):μ r'=none:=by
 rcases hor with rfl|⟨_,h2⟩
 ·obtain ⟨cs, h1, _⟩ := hb
  cases e:μ r' with
  |none=>rfl
  |some o=>have:=hap r' (by simp[e]);rw[h1]at this;cases this
 ·exact h2
end
end Go.Vx
namespace Go.Vx
open Go.Proofs Classical
structure Ord3 {α:Type} (c:α→α→Int):Prop where
 zero:∀x y,c x y=0↔x=y
 anti:∀x y,c x y<0↔0<c y x
 trans:∀x y z,c x y<0→c y z<0→c x z<0
def kT(p q:Int):Int:=if p=0 then q else p
theorem qMs{p q:Int}:kT p q=0↔p=0∧q=0:=by unfold kT;split<;>omega
theorem qMr{p q p' q':Int}(h1:p<0↔0<p')(h2:p'<0↔0<p)(h3:p=0→(q<0↔0<q')):kT p q<0↔0<kT p' q':=by
 unfold kT
 split
 ·rename_i h
  rw[if_pos (by omega)];exact h3 h
 ·rw[if_neg (by omega)];exact h1
theorem qKc{p1 q1 p2 q2 p3 q3:Int}(t:p1<0→p2<0→p3<0)(e1:p1=0→p3=p2)(e2:p2=0→p3=p1)(r:p1=0→p2=0→q1<0→q2<0→q3<0):kT p1 q1<0→kT p2 q2<0→kT p3 q3<0:=by
 unfold kT
 intro h1 h2
 by_cases k1:p1=0
 ·rw [if_pos k1] at h1
  have:=e1 k1
  by_cases k2:p2=0
  ·rw [if_pos k2] at h2
   rw[if_pos (by omega)];exact r k1 k2 h1 h2
  ·rw [if_neg k2] at h2
   rw[if_neg (by omega)];omega
 ·rw [if_neg k1] at h1
  by_cases k2:p2=0
  ·have := e2 k2
   rw[if_neg (by omega)];omega
  ·rw [if_neg k2] at h2
   have:=t h1 h2
   rw[if_neg (by omega)];exact this
theorem Ord3.lex_trans{α:Type}{c:α→α→Int}(h:Ord3 c){x y z:α}{q1 q2 q3:Int}(r:x=y→y=z→q1<0→q2<0→q3<0):kT (c x y) q1<0→kT (c y z) q2<0→kT (c x z) q3<0:=
 qKc (h.trans x y z) (fun e=>by rw[(h.zero _ _).1 e]) (fun e=>by rw[(h.zero _ _).1 e]) fun e1 e2=>r ((h.zero _ _).1 e1) ((h.zero _ _).1 e2)
theorem Ord3.lex_anti{α:Type}{c:α→α→Int}(h:Ord3 c){x y:α}{q q':Int}(r:x=y→(q<0↔0<q')):kT (c x y) q<0↔0<kT (c y x) q':=
 qMr (h.anti x y) (h.anti y x) fun e=>r ((h.zero _ _).1 e)
def kX(a b:Int):Int:=if a=b then 0 else sgn (decide (a<b))
theorem cInt_ord:Ord3 kX where
 zero x y:=by
  unfold kX sgn
  by_cases h:x=y
  ·simp[h]
  ·by_cases g:x<y<;>simp[h,g]
 anti x y:=by
  unfold kX sgn
  by_cases h:x=y
  ·simp[h]
  ·rw [if_neg h, if_neg (Ne.symm h)]
   by_cases g:x<y
   ·have g2 : ¬ y < x := by omega
    simp[g,g2]
   ·have g2 : y < x := by omega
    simp[g,g2]
 trans x y z:=by
  unfold kX sgn
  by_cases h:x=y<;>by_cases h2:y=z<;>by_cases h3:x=z<;>by_cases g:x<y<;>by_cases g2:y<z<;>by_cases g3:x<z<;>simp[h,h2,h3,g,g2,g3]<;>omega
theorem qLz:∀l:List UInt8,Op.bytesLess l l=false
 |[]=>rfl
 |a::l=>by rw[Op.bytesLess];simp[qLz l]
theorem qPe:∀x y z:List UInt8,Op.bytesLess x y=true→Op.bytesLess y z=true→Op.bytesLess x z=true
 |x,y,[],h1,h2=>by simp[Op.bytesLess]at h2
 |x,[],c::z,h1,h2=>by cases x<;>simp[Op.bytesLess]at h1
 |[],b::y,c::z,h1,h2=>rfl
 |a::x,b::y,c::z,h1,h2=>by
  simp only[Op.bytesLess,Bool.or_eq_true,decide_eq_true_eq,Bool.and_eq_true,beq_iff_eq]at h1 h2 ⊢
  rcases h1 with h1|⟨rfl,h1⟩
  ·rcases h2 with h2 | ⟨rfl, h2⟩
   ·exact .inl (UInt8.lt_trans h1 h2)
   ·exact .inl h1
  ·rcases h2 with h2 | ⟨rfl, h2⟩
   ·exact .inl h2
   ·exact .inr ⟨rfl,qPe x y z h1 h2⟩
theorem qUy{x y:List UInt8}(h:x≠y):Op.bytesLess y x= !Op.bytesLess x y:=by
 rw[←tT x y]
 have:(x==y)=false:=by simpa using h
 rw[this,Bool.or_false]
theorem qUz{x y:ByteArray}(h:¬x=y):x.data.toList≠y.data.toList:=fun k=>h (by
 cases x;cases y
 simp only[ByteArray.mk.injEq]
 exact Array.ext' k)
noncomputable def sT(a b:ByteArray):Int:=if a=b then 0 else sgn (Op.bytesLess a.data.toList b.data.toList)
theorem cName_ord:Ord3 sT where
 zero x y:=by
  unfold sT
  by_cases h:x=y
  ·simp[h]
  ·rw[if_neg h];exact⟨fun k=>absurd k (qKt _),fun k=>absurd k h⟩
 anti x y:=by
  unfold sT
  by_cases h:x=y
  ·simp[h]
  ·rw [if_neg h, if_neg (Ne.symm h), qUy (qUz h)]
   cases Op.bytesLess x.data.toList y.data.toList<;>simp[sgn]
 trans x y z:=by
  unfold sT
  intro h1 h2
  split at h1
  ·omega
  split at h2
  ·omega
  have k1:Op.bytesLess x.data.toList y.data.toList=true:=by
   cases e:Op.bytesLess x.data.toList y.data.toList with
   |true=>rfl
   |false=>rw[e]at h1;simp[sgn]at h1
  have k2:Op.bytesLess y.data.toList z.data.toList=true:=by
   cases e:Op.bytesLess y.data.toList z.data.toList with
   |true=>rfl
   |false=>rw[e]at h2;simp[sgn]at h2
  have k3:=qPe _ _ _ k1 k2
  have k4:¬x=z:=fun e=>by
   rw[e,qLz]at k3;exact absurd k3 (by decide)
  rw[if_neg k4,k3]
  decide
theorem xQ(x y:Tm)(r:Int):iX x y r=kT (kX x.kind y.kind) (kT (kX x.num y.num) (kT (sT x.name y.name) r)):=by
 unfold iX kT kX sT
 by_cases h1:x.kind=y.kind<;>by_cases h2:x.num=y.num<;>by_cases h3:x.name=y.name<;>simp[h1,h2,h3,qKt]
theorem T.cmp_anti:∀x y:T,x.cmp y<0↔0<y.cmp x:=by
 intro x
 induction x with
 |pair a b iha ihb=>
  intro y
  rw[T.cmp_eq,T.cmp_eq y,xQ,xQ]
  refine cInt_ord.lex_anti fun _=>cInt_ord.lex_anti fun _=>cName_ord.lex_anti fun _=>?_
  cases y with
  |pair c d=>
   show kT (a.cmp c) (b.cmp d)<0↔0<kT (c.cmp a) (d.cmp b)
   refine qMr (iha c) ?_ fun _=>ihb d
   have h1:=iha c;have h2:=T.cmp_zero a c;have h3:=T.cmp_zero c a
   by_cases e:a=c
   ·have:=h2.2 e;have:=h3.2 e.symm;omega
   ·have : a.cmp c ≠ 0 := fun k => e (h2.1 k)
    have:c.cmp a≠0:=fun k=>e (h3.1 k).symm
    omega
  |_=>exact Iff.rfl
 |_=>
  intro y
  rw[T.cmp_eq,T.cmp_eq y,xQ,xQ]
  refine cInt_ord.lex_anti fun _=>cInt_ord.lex_anti fun _=>cName_ord.lex_anti fun _=>?_
  cases y<;>exact Iff.rfl
theorem T.cmp_trans:∀x y z:T,x.cmp y<0→y.cmp z<0→x.cmp z<0:=by
 intro x
 induction x with
 |pair a b iha ihb=>
  intro y z
  rw[T.cmp_eq,T.cmp_eq y,T.cmp_eq _ z,xQ,xQ,xQ]
  refine cInt_ord.lex_trans fun _ _=>cInt_ord.lex_trans fun _ _=>cName_ord.lex_trans fun _ _=>?_
  cases y with
  |pair c d=>
   cases z with
   |pair e f=>
    show kT (a.cmp c) (b.cmp d)<0→kT (c.cmp e) (d.cmp f)<0→kT (a.cmp e) (b.cmp f)<0
    exact qKc (iha c e) (fun k=>by rw[(T.cmp_zero _ _).1 k]) (fun k=>by rw[(T.cmp_zero _ _).1 k]) fun _ _=>ihb d f
   |_=>exact fun _ h=>absurd h (Int.lt_irrefl 0)
  |_=>exact fun h=>absurd h (Int.lt_irrefl 0)
 |_=>
  intro y z
  rw[T.cmp_eq,T.cmp_eq y,T.cmp_eq _ z,xQ,xQ,xQ]
  refine cInt_ord.lex_trans fun _ _=>cInt_ord.lex_trans fun _ _=>cName_ord.lex_trans fun _ _=>?_
  exact fun h=>absurd h (Int.lt_irrefl 0)
theorem T.cmp_ord:Ord3 T.cmp:=⟨T.cmp_zero,T.cmp_anti,T.cmp_trans⟩
def cU{α:Type}(c:α→α→Int):List α→List α→Int
 |[],[]=>0
 |[],_::_=> -1
 |_::_,[]=>1
 |a::l,b::m=>kT (c a b) (cU c l m)
theorem qPg{α:Type}{c:α→α→Int}(h:Ord3 c):Ord3 (cU c) where
 zero:=by
  intro x
  induction x with
  |nil=>intro y;cases y<;>simp[cU]
  |cons a l ih=>
   intro y
   cases y with
   |nil=>simp[cU]
   |cons b m=>rw[cU,qMs,h.zero,ih,List.cons.injEq]
 anti:=by
  intro x
  induction x with
  |nil=>intro y;cases y<;>simp[cU]
  |cons a l ih=>
   intro y
   cases y with
   |nil=>simp[cU]
   |cons b m=>rw[cU,cU];exact h.lex_anti fun _=>ih m
 trans:=by
  intro x
  induction x with
  |nil=>intro y z;cases y<;>cases z<;>simp[cU]
  |cons a l ih=>
   intro y z
   cases y with
   |nil=>simp[cU]
   |cons b m=>
    cases z with
    |nil=>simp[cU]
    |cons e n=>rw[cU,cU,cU];exact h.lex_trans fun _ _=>ih m n
end Go.Vx
namespace Go.Vx
open Go.Proofs Classical
section
variable {α:Type} {c:α→α→Int}
def Asc3(c:α→α→Int)(l:List α):Prop:=l.Pairwise fun a b=>c a b<0
theorem Ord3.irrefl(h:Ord3 c)(x:α):¬c x x<0:=by have:=(h.zero x x).2 rfl;omega
theorem Ord3.ge_pos(h:Ord3 c){x y:α}(h1:¬c x y<0)(h2:c x y≠0):c y x<0:=(h.anti y x).2 (by omega)
theorem Asc3.nodup(h:Ord3 c){l:List α}(hl:Asc3 c l):l.Nodup:=hl.imp fun {a b} k e=>by subst e;exact h.irrefl _ k
theorem Asc3.uniq(h:Ord3 c){l m:List α}(hl:Asc3 c l)(hm:Asc3 c m)(e:∀x,x∈l↔x∈m):l=m:=by
 have hp:l.Perm m:=(List.perm_ext_iff_of_nodup (hl.nodup h) (hm.nodup h)).2 e
 refine List.Perm.eq_of_pairwise (le:=fun a b=>c a b<0) (fun a b _ _ h1 h2=>?_) hl hm hp
 have:=(h.anti a b).1 h1
 omega
theorem Asc3.ins(h:Ord3 c){l:List α}{e:α}{k:Nat}(hl:Asc3 c l)(h1:∀x∈l.take k,c x e<0)(h2:∀x∈l.drop k,c e x<0):Asc3 c (qFn l e k):=by
 rw[qFn,Asc3,List.pairwise_append]
 refine⟨hl.sublist (List.take_sublist _ _),?_,fun a ha b hb=>?_⟩
 ·exact List.pairwise_cons.2 ⟨h2,hl.sublist (List.drop_sublist _ _)⟩
 ·rcases List.mem_cons.1 hb with rfl | hb
  ·exact h1 a ha
  ·exact h.trans _ _ _ (h1 a ha) (h2 b hb)
theorem qJr(h:Ord3 c)(e:α):∀l:List α,Asc3 c l→e∈l∨∃k,(∀x∈l.take k,c x e<0)∧∀x∈l.drop k,c e x<0
 |[],_=> .inr ⟨0,by simp,by simp⟩
 |a::l,hl=>by
  have w_:=List.pairwise_cons.1 hl
  obtain⟨ha,hl⟩:=w_
  by_cases h0:c e a=0
  ·exact .inl (by rw[(h.zero _ _).1 h0];simp)
  ·by_cases h1 : c e a < 0
   ·exact .inr ⟨0,by simp,fun x hx=>by
     rcases List.mem_cons.1 hx with rfl|hx
     ·exact h1
     ·exact h.trans _ _ _ h1 (ha x hx)⟩
   ·have h3 := h.ge_pos h1 h0
    rcases qJr h e l hl with k|⟨k,k1,k2⟩
    ·exact .inl (List.mem_cons_of_mem _ k)
    ·exact .inr ⟨k+1,fun x hx=>by
      rw[List.take_succ_cons]at hx
      rcases List.mem_cons.1 hx with rfl|hx
      ·exact h3
      ·exact k1 x hx,fun x hx=>k2 x (by simpa using hx)⟩
theorem vA(h:Ord3 c):∀l:List α,∃m,Asc3 c m∧m.length≤l.length∧∀x,x∈m↔x∈l
 |[]=>⟨[],List.Pairwise.nil,Nat.le_refl _,fun _=>Iff.rfl⟩
 |a::l=>by
  have w_:=vA h l
  obtain⟨m,h1,h9,h2⟩:=w_
  rcases qJr h a m h1 with k|⟨k,k1,k2⟩
  ·exact⟨m,h1,by rw[List.length_cons];omega,fun x=>by
    rw[h2 x,List.mem_cons]
    exact⟨.inr,fun g=>g.elim (fun e=>by subst e;exact(h2 _).1 k) id⟩⟩
  ·exact⟨qFn m a k,h1.ins h k1 k2,by rw[qNu,List.length_cons];omega,fun x=>by rw[qTp,h2 x,List.mem_cons]⟩
noncomputable def qLy(h:Ord3 c)(l:List α):List α:=(vA h l).choose
theorem uL(h:Ord3 c)(l:List α):Asc3 c (qLy h l):=(vA h l).choose_spec.1
theorem qCs(h:Ord3 c)(l:List α):(qLy h l).length≤l.length:=(vA h l).choose_spec.2.1
theorem nY(h:Ord3 c)(l:List α)(x:α):x∈qLy h l↔x∈l:=(vA h l).choose_spec.2.2 x
end
end Go.Vx
namespace Go.Vx
open Go.Proofs Classical
def Gl.Pos(g:Gl):Prop:=∀x∈g.all,x.kind≠10
theorem Gl.pos_eq(g:Gl):g.Pos↔g.kind≠10∧∀x∈g.goals,x.Pos:=by
 unfold Gl.Pos
 rw[Gl.all_eq]
 constructor
 ·exact fun h=>⟨h g (by simp),fun x hx y hy=>h y (List.mem_cons_of_mem _ (List.mem_flatMap.2 ⟨x,hx,hy⟩))⟩
 ·rintro ⟨h1, h2⟩ x hx
  rcases List.mem_cons.1 hx with rfl|hx
  ·exact h1
  ·have w_ := List.mem_flatMap.1 hx
   obtain⟨y,hy,hx⟩:=w_
   exact h2 y hy x hx
def Pg.Pos(p:Pg):Prop:=p.Ok∧∀r∈p.rels,r.body.Pos
section
variable {μ:Mem}
end
end Go.Vx
namespace Go.Vx
open Go.Proofs Classical
def cK(a l:List (List Gl)):List (List Gl):=a.flatMap fun x=>l.map fun y=>x++y
mutual
noncomputable def Gl.cl:Gl→Option (List (List Gl))
 | .mk k s ts gs=>if k=0 then some [[]]else if k=1 then some []else if k=8 then Gl.clOr gs []else if k=7 then Gl.clAnd gs [[]]else some [[.mk k s ts gs]]
noncomputable def Gl.clOr:List Gl→List (List Gl)→Option (List (List Gl))
 |[],acc=>some acc
 |g::r,acc=>(g.cl).bind fun l=>if(acc++l).length≤64 then Gl.clOr r (acc++l)else none
noncomputable def Gl.clAnd:List Gl→List (List Gl)→Option (List (List Gl))
 |[],acc=>some acc
 |g::r,acc=>(g.cl).bind fun l=>if(cK acc l).length≤64 then Gl.clAnd r (cK acc l)else none
end
theorem jO{a l:List (List Gl)}{z:List Gl}(h:z∈cK a l):∃x∈a,∃y∈l,z=x++y:=by
 have w_:=List.mem_flatMap.1 h
 obtain⟨x,hx,h⟩:=w_
 have w_:=List.mem_map.1 h
 obtain⟨y,hy,rfl⟩:=w_
 exact⟨x,hx,y,hy,rfl⟩
def csD(c:List Gl):D:= .sl 4 (c.map Gl.d)
section
variable {μ:Mem}
abbrev Cls(μ:Mem)(L:List (List Gl))(v:Value):Prop:=RepV μ (.sl 1 (L.map csD)) v
theorem Cls.sl{L:List (List Gl)}{b:Option Addr}{n c:Nat}(h:Cls μ L (.slice b n c)):Sl μ 1 b L.length (L.map csD)∧n=L.length:=by
 have w_:=Rep.sl h
 obtain⟨b',c',e1,hs⟩:=w_
 have w_:=Value.slice.inj e1
 obtain⟨rfl,e2,_⟩:=w_
 rw[List.length_map]at hs e2
 exact⟨hs,e2⟩
theorem Cls.inv{L:List (List Gl)}{v:Value}(h:Cls μ L v):∃p:Option Addr×Nat,v= .slice p.1 L.length p.2:=by
 have w_:=Rep.sl h
 obtain⟨b,k,rfl,_⟩:=w_
 exact⟨(b,k),by rw[List.length_map]⟩
structure ClsOk (μ:Mem) (g:Gl) (v:Value) (L:List (List Gl)):Prop where
 rep:Cls μ L v
 cl:g.cl=if L.length≤64 then some L else none
 len:∀c∈L,c.length≤g.cnt
 max:L.length≤4096
end
end Go.Vx
namespace Go.Vx
open Go.Proofs Classical
def T.occ(n:Int):T→Prop
 | .var m=>m=n
 | .pair a b=>a.occ n∨b.occ n
 |_=>False
end Go.Vx
namespace Go.Vx
open Go.Proofs Classical
def Gl.single(x:Gl):Prop:=x.kind≠0∧x.kind≠1∧x.kind≠7∧x.kind≠8
mutual
theorem Gl.cl_all:∀(g:Gl) {L:List (List Gl)},g.cl=some L→∀c∈L,∀x∈c,x∈g.all∧x.single
 | .mk k s ts gs,L,h=>by
  have hsub:∀y∈gs,∀x∈y.all,x∈(Gl.mk k s ts gs).all:=fun y hy x hx=>by
   rw[Gl.all_eq]
   exact List.mem_cons_of_mem _ (List.mem_flatMap.2 ⟨y,hy,hx⟩)
  rw[Gl.cl]at h
  split at h
  ·cases h;simp
  rename_i h0
  split at h
  ·cases h;simp
  rename_i h1
  split at h
  ·exact Gl.clOr_all gs (fun x=>x∈(Gl.mk k s ts gs).all∧x.single) (fun y hy x hx hs=>⟨hsub y hy x hx,hs⟩) (by simp) h
  rename_i h8
  split at h
  ·exact Gl.clAnd_all gs (fun x=>x∈(Gl.mk k s ts gs).all∧x.single) (fun y hy x hx hs=>⟨hsub y hy x hx,hs⟩) (by simp) h
  ·rename_i h7
   cases h
   intro c hc x hx
   rw[List.mem_singleton.1 hc]at hx
   rw[List.mem_singleton.1 hx]
   exact⟨by rw[Gl.all_eq];simp,h0,h1,h7,h8⟩
theorem Gl.clOr_all:∀(gs:List Gl) (Q:Gl→Prop) {acc L:List (List Gl)},(∀y∈gs,∀x∈y.all,x.single→Q x)→(∀c∈acc,∀x∈c,Q x)→Gl.clOr gs acc=some L→∀c∈L,∀x∈c,Q x
 |[],Q,acc,L,_,h1,h=>by
  rw[Gl.clOr]at h;cases h;exact h1
 |g::gs,Q,acc,L,hQ,h1,h=>by
  rw[Gl.clOr]at h
  cases e:g.cl with
  |none=>rw[e]at h;cases h
  |some l=>
   rw[e,Option.bind_some]at h
   have hb:=Gl.cl_all g e
   split at h
   ·exact Gl.clOr_all gs Q (acc:=acc++l) (fun y hy=>hQ y (by simp[hy])) (fun c hc x hx=>by
     rcases List.mem_append.1 hc with hc|hc
     ·exact h1 c hc x hx
     ·exact hQ g (by simp) x (hb c hc x hx).1 (hb c hc x hx).2) h
   ·cases h
theorem Gl.clAnd_all:∀(gs:List Gl) (Q:Gl→Prop) {acc L:List (List Gl)},(∀y∈gs,∀x∈y.all,x.single→Q x)→(∀c∈acc,∀x∈c,Q x)→Gl.clAnd gs acc=some L→∀c∈L,∀x∈c,Q x
 |[],Q,acc,L,_,h1,h=>by
  rw[Gl.clAnd]at h;cases h;exact h1
 |g::gs,Q,acc,L,hQ,h1,h=>by
  rw[Gl.clAnd]at h
  cases e:g.cl with
  |none=>rw[e]at h;cases h
  |some l=>
   rw[e,Option.bind_some]at h
   have hb:=Gl.cl_all g e
   split at h
   ·exact Gl.clAnd_all gs Q (acc:=cK acc l) (fun y hy=>hQ y (by simp[hy])) (fun c hc=>by
     have w_:=jO hc
     obtain⟨u,hu,w,hw,rfl⟩:=w_
     intro x hx
     rcases List.mem_append.1 hx with hx|hx
     ·exact h1 u hu x hx
     ·exact hQ g (by simp) x (hb w hw x hx).1 (hb w hw x hx).2) h
   ·cases h
end
section
variable {μ:Mem}
end
end Go.Vx
namespace Go.Vx
open Go.Proofs Classical
structure RuD where
 rel:ByteArray
 hargs:List Tm
 clause:Int
 vals:List Tm
 pos:List Fc
 neg:List Fc
def RuD.d(x:RuD):D:= .st [.s x.rel,.sl 4 (x.hargs.map Tm.d),.i x.clause,.sl 4 (x.vals.map Tm.d),.sl 2 (x.pos.map Fc.d),.sl 2 (x.neg.map Fc.d)]
theorem RuD.d_eq(x:RuD):x.d= .st [.s x.rel,.sl 4 (x.hargs.map Tm.d),.i x.clause,.sl 4 (x.vals.map Tm.d),.sl 2 (x.pos.map Fc.d),.sl 2 (x.neg.map Fc.d)]:=rfl
theorem RuD.d_n(x:RuD):x.d.n=6:=by
 rw[RuD.d_eq]
 simp only[D.n,D.ns]
abbrev RuD.P:=(Option Addr×Nat)×(Option Addr×Nat)×(Option Addr×Nat)×(Option Addr×Nat)
def RuD.cs(x:RuD)(p:RuD.P):List Value:=[.string x.rel,.slice p.1.1 x.hargs.length p.1.2,.int .i64 x.clause,.slice p.2.1.1 x.vals.length p.2.1.2,.slice p.2.2.1.1 x.pos.length p.2.2.1.2,.slice p.2.2.2.1 x.neg.length p.2.2.2.2]
section
variable {μ:Mem}
def RuD.At(μ:Mem)(x:RuD)(p:RuD.P):Prop:=Sl μ 4 p.1.1 x.hargs.length (x.hargs.map Tm.d)∧Sl μ 4 p.2.1.1 x.vals.length (x.vals.map Tm.d)∧Sl μ 2 p.2.2.1.1 x.pos.length (x.pos.map Fc.d)∧Sl μ 2 p.2.2.2.1 x.neg.length (x.neg.map Fc.d)
theorem RuD.invA{x:RuD}{cs:List Value}(h:Rep μ x.d cs):∃p:RuD.P,cs=x.cs p∧RuD.At μ x p:=by
 rw[RuD.d_eq]at h
 obtain⟨a0,t0,rfl,h0,h⟩:=h
 have h0:a0=[.string x.rel]:=h0
 subst h0
 obtain⟨a1,t1,rfl,h1,h⟩:=h
 have w_:=gV (Rep.len _ _ h1)
 obtain⟨v1,rfl⟩:=w_
 have w_:=Rep.sl h1
 obtain⟨b1,c1,rfl,s1⟩:=w_
 rw[List.length_map]at s1
 obtain⟨a2,t2,rfl,h2,h⟩:=h
 have h2:a2=[.int .i64 x.clause]:=h2
 subst h2
 obtain⟨a3,t3,rfl,h3,h⟩:=h
 have w_:=gV (Rep.len _ _ h3)
 obtain⟨v3,rfl⟩:=w_
 have w_:=Rep.sl h3
 obtain⟨b3,c3,rfl,s3⟩:=w_
 rw[List.length_map]at s3
 obtain⟨a4,t4,rfl,h4,h⟩:=h
 have w_:=gV (Rep.len _ _ h4)
 obtain⟨v4,rfl⟩:=w_
 have w_:=Rep.sl h4
 obtain⟨b4,c4,rfl,s4⟩:=w_
 rw[List.length_map]at s4
 obtain⟨a5,t5,rfl,h5,h⟩:=h
 have w_:=gV (Rep.len _ _ h5)
 obtain⟨v5,rfl⟩:=w_
 have w_:=Rep.sl h5
 obtain⟨b5,c5,rfl,s5⟩:=w_
 rw[List.length_map]at s5
 obtain rfl:t5=[]:=h
 exact⟨((b1,c1),(b3,c3),(b4,c4),(b5,c5)),by simp[RuD.cs],⟨s1,s3,s4,s5⟩⟩
theorem RuD.rep{x:RuD}{cs:List Value}(h:Rep μ x.d cs):RepV μ x.d (.agg cs.toArray):=by
 rw[RuD.d_eq]at h ⊢;exact⟨cs,rfl,h⟩
theorem RuD.inv{x:RuD}{v:Value}(h:RepV μ x.d v):∃p:RuD.P,v= .agg #[.string x.rel,.slice p.1.1 x.hargs.length p.1.2,.int .i64 x.clause,.slice p.2.1.1 x.vals.length p.2.1.2,.slice p.2.2.1.1 x.pos.length p.2.2.1.2,.slice p.2.2.2.1 x.neg.length p.2.2.2.2]∧RuD.At μ x p:=by
 have h2:∃cs,v= .agg (List.toArray cs)∧Rep μ x.d cs:=by rw[RuD.d_eq]at h ⊢;exact h
 obtain⟨cs,rfl,h3⟩:=h2
 have w_:=RuD.invA h3
 obtain⟨p,rfl,hA⟩:=w_
 exact⟨p,rfl,hA⟩
theorem RuD.elemA{l:List RuD}{base:Option Addr}{n:Nat}(h:Sl μ 6 base n (l.map RuD.d)){i:Nat}{x:RuD}(hx:l[i]? =some x):∃ad,∃p:RuD.P,ElemAt μ base n 6 i ad (x.cs p)∧RepV μ x.d (.agg (x.cs p).toArray)∧RuD.At μ x p:=by
 have w_:=h.get i x.d (by simp[hx])
 obtain⟨ad,cs,h1,h2⟩:=w_
 have w_:=RuD.invA h2
 obtain⟨p,rfl,hA⟩:=w_
 exact⟨ad,p,h1,RuD.rep h2,hA⟩
theorem RuD.elem{l:List RuD}{base:Option Addr}{n:Nat}(h:Sl μ 6 base n (l.map RuD.d)){i:Nat}{x:RuD}(hx:l[i]? =some x):∃ad,∃p:RuD.P,ElemAt μ base n 6 i ad (x.cs p)∧RepV μ x.d (.agg (x.cs p).toArray):=by
 have w_:=RuD.elemA h hx
 obtain⟨ad,p,h1,h2,_⟩:=w_
 exact⟨ad,p,h1,h2⟩
end
end Go.Vx
namespace Go.Vx
open Go.Proofs Classical
noncomputable abbrev oS:List T→List T→Int:=cU T.cmp
theorem cmpL_ord:Ord3 oS:=qPg T.cmp_ord
structure F where
 rel:ByteArray
 args:List T
def F.fc(f:F):Fc:=⟨f.rel,f.args.map T.tm⟩
noncomputable def dC(a b:F):Int:=kT (sT a.rel b.rel) (oS a.args b.args)
theorem cmpF_ord:Ord3 dC where
 zero x y:=by
  rw[dC,qMs,cName_ord.zero,cmpL_ord.zero]
  cases x;cases y;simp
 anti x y:=cName_ord.lex_anti fun _=>cmpL_ord.anti _ _
 trans x y z:=cName_ord.lex_trans fun _ _=>cmpL_ord.trans _ _ _
noncomputable abbrev lI(l:List F):List F:=qLy cmpF_ord l
theorem kS{α:Type}:∀{a b:List α},a.Nodup→(∀x∈a,x∈b)→a.length≤b.length
 |[],_,_,_=>Nat.zero_le _
 |x::a,b,hn,h=>by
  have w_:=List.nodup_cons.1 hn
  obtain⟨h1,h2⟩:=w_
  have w_:=List.append_of_mem (h x (by simp))
  obtain⟨s,t,rfl⟩:=w_
  have:=kS (a:=a) (b:=s++t) h2 fun y hy=>by
   have h3:=h y (by simp[hy])
   rcases List.mem_append.1 h3 with h3|h3
   ·simp[h3]
   ·rcases List.mem_cons.1 h3 with rfl | h3
    ·exact absurd hy h1
    ·simp[h3]
  simp only[List.length_append,List.length_cons]at*
  omega
theorem qKz{α:Type}{a b:List α}(hn:a.Nodup)(h:∀x∈a,x∈b)(hl:b.length≤a.length):∀x∈b,x∈a:=fun x hx=>Classical.byContradiction fun k=>by
 have:=kS (a:=x::a) (b:=b) (List.nodup_cons.2 ⟨k,hn⟩) fun y hy=>by
  rcases List.mem_cons.1 hy with rfl|hy
  ·exact hx
  ·exact h y hy
 rw[List.length_cons]at this;omega
theorem yF{α:Type}{c:α→α→Int}(ho:Ord3 c){a b:List α}(ha:Asc3 c a)(hb:Asc3 c b)(h:∀x∈a,x∈b)(hl:b.length=a.length):a=b:=
 ha.uniq ho hb fun x=>⟨h x,qKz (ha.nodup ho) h (by omega) x⟩
structure Ru where
 head:F
 clause:Int
 vals:List T
 pos:List F
 neg:List F
def bT(vs:List T)(n:Int):Option T:=if 0≤n then vs[n.toNat]? else none
noncomputable def cJ(vs:List T)(g:Gl):F:=⟨g.name,g.terms.map fun t=>t.toT.subst (bT vs)⟩
def Gl.kid(g:Gl):Gl:=g.goals.getD 0 (.mk 0 ⟨#[]⟩ [] [])
def dV(k:Int)(xs:List T):Prop:=
 if k=0 then True else if k=2 then xs[0]? =xs[1]? else if k=3 then xs[0]?≠xs[1]? else if k=4 then ∃x,xs[0]? =some x∧x.tm.kind=2
 else if k=5 then ∃x,xs[0]? =some x∧x.tm.kind=3 else if k=6 then ∃x y,xs[0]? =some x∧xs[1]? =some y∧¬y.hasSym x.tm.name else False
def okG(U vs:List T)(g:Gl):Prop:=
 if g.kind=9 then ∀a∈(cJ vs g).args,a∈U else if g.kind=10 then ∀a∈(cJ vs g.kid).args,a∈U else dV g.kind (g.terms.map fun t=>t.toT.subst (bT vs))
noncomputable def bQ(vs:List T)(c:List Gl):List F:=(c.filter fun g=>decide (g.kind=9)).map (cJ vs)
noncomputable def iU(vs:List T)(c:List Gl):List F:=(c.filter fun g=>decide (g.kind=10)).map fun g=>cJ vs g.kid
noncomputable def dZ(r:Rl)(i:Nat)(c:List Gl)(vs:List T):Ru:=⟨⟨r.name,vs.take r.arity.toNat⟩,i,vs,bQ vs c,iU vs c⟩
def uB(pos neg:List F)(r:Ru):Prop:=(∀f∈r.pos,f∈pos)∧∀f∈r.neg,f∉neg
noncomputable def fY(rs:List Ru)(pos neg:List F):List F:=lI ((rs.filter fun r=>decide (uB pos neg r)).map Ru.head)
theorem qCy{rs:List Ru}{pos neg:List F}{f:F}:f∈fY rs pos neg↔∃r∈rs,uB pos neg r∧r.head=f:=by
 rw[fY,nY,List.mem_map]
 constructor
 ·rintro ⟨r, h1, h2⟩
  rw[List.mem_filter,decide_eq_true_eq]at h1
  exact⟨r,h1.1,h1.2,h2⟩
 ·rintro ⟨r, h1, h2, h3⟩
  exact⟨r,by rw[List.mem_filter,decide_eq_true_eq];exact⟨h1,h2⟩,h3⟩
inductive Der (rs:List Ru) (base:List F):F→Prop
 |base {f:F} (h:f∈base):Der rs base f
 |rule {r:Ru} (h:r∈rs) (hp:∀f∈r.pos,Der rs base f):Der rs base r.head
noncomputable def lfp(rs:List Ru)(base:List F):List F:=lI ((base++rs.map Ru.head).filter fun f=>decide (Der rs base f))
theorem mem_lfp{rs:List Ru}{base:List F}{f:F}:f∈lfp rs base↔Der rs base f:=by
 rw[lfp,nY,List.mem_filter,decide_eq_true_eq]
 refine⟨fun h=>h.2,fun h=>⟨?_,h⟩⟩
 cases h with
 |base h=>exact List.mem_append_left _ h
 |rule h _=>exact List.mem_append_right _ (List.mem_map_of_mem h)
theorem qCw(rs:List Ru)(base:List F):Asc3 dC (lfp rs base):=uL cmpF_ord _
theorem lfp_eq{rs:List Ru}{base S:List F}(ha:Asc3 dC S)(hb:∀f∈base,f∈S)(hd:∀f∈S,Der rs base f)(hc:∀r∈rs,(∀f∈r.pos,f∈S)→r.head∈S):S=lfp rs base:=
 ha.uniq cmpF_ord (qCw _ _) fun x=>by
  rw[mem_lfp]
  refine⟨hd x,fun h=>?_⟩
  induction h with
  |base h=>exact hb _ h
  |rule h _ ih=>exact hc _ h ih
noncomputable def qDe(rs:List Ru)(S:List F):List Ru:=rs.filter fun r=>decide (∀f∈r.neg,f∉S)
theorem mem_unlessR{rs:List Ru}{S:List F}{r:Ru}:r∈qDe rs S↔r∈rs∧∀f∈r.neg,f∉S:=by
 rw[qDe,List.mem_filter,decide_eq_true_eq]
end Go.Vx
