/- Texts of the proof, part E3. -/
import Derived.Test.YtnogdfionomoaaaGreatE2
namespace Go.Vx
open Go.Proofs Classical
theorem Gl.all_self(g:Gl):g∈g.all:=by rw[Gl.all_eq];simp
theorem Gl.all_sub{g x y:Gl}(hx:x∈g.goals)(hy:y∈x.all):y∈g.all:=by
 rw[Gl.all_eq];exact List.mem_cons_of_mem _ (List.mem_flatMap.2 ⟨x,hx,hy⟩)
theorem Gl.all_wd:∀g:Gl,g.d.wd→∀x∈g.all,x.d.wd:=
 Gl.ind fun g ih h x hx=>by
  rw[Gl.all_eq]at hx
  rcases List.mem_cons.1 hx with rfl|hx
  ·exact h
  ·have w_ := List.mem_flatMap.1 hx
   obtain⟨y,hy,hx⟩:=w_
   exact ih y hy ((Gl.wd_at h).2.2.2 y hy) x hx
def Gl.Single(g:Gl):Prop:=g.Ok∧g.kind≠7∧g.kind≠8
def qGo(l:List (List Gl)):Prop:=l.length≤8∧∀c∈l,c.length≤8∧∀g∈c,g.Single
def cgA(c:List Gl):Gl:= .mk 7 ⟨#[]⟩ [] c
def cgG(l:List (List Gl)):Gl:= .mk 8 ⟨#[]⟩ [] (l.map cgA)
noncomputable def cgO(l:List (List Gl)):Option Gl:=if qGo l then some (cgG l)else none
def bK:List Gl→Nat→Option Nat
 |[],_=>none
 |g::r,0=>if g.kind=9 then some 0 else(bK r 0).map (·+1)
 |g::r,k+1=>if g.kind=9 then(bK r k).map (·+1)else(bK r (k+1)).map (·+1)
theorem gX:∀{l:List Gl} {k a:Nat},bK l k=some a→∃g,l[a]? =some g∧g.kind=9
 |[],_,_,h=>by cases h
 |g::r,0,a,h=>by
  rw[bK]at h
  split at h
  ·rename_i h9
   cases h;exact⟨g,rfl,h9⟩
  ·have w_ := Option.map_eq_some_iff.1 h
   obtain⟨b,hb,rfl⟩:=w_
   exact gX (l:=r) hb
 |g::r,k+1,a,h=>by
  rw[bK]at h
  split at h
  ·have w_ := Option.map_eq_some_iff.1 h
   obtain⟨b,hb,rfl⟩:=w_
   exact gX (l:=r) hb
  ·have w_ := Option.map_eq_some_iff.1 h
   obtain⟨b,hb,rfl⟩:=w_
   exact gX (l:=r) hb
def pS:Option Nat→Int
 |some a=>a
 |none=> -1
def eqG(n:Int)(i:Nat)(t:Tm):Gl:= .mk 2 ⟨#[]⟩ [(T.var (n+i)).tm,t] []
def kY(n:Int)(ts:List Tm):List Gl:=ts.mapIdx (eqG n)
theorem yM{n:Int}{ts:List Tm}{i:Nat}{t:Tm}(h:ts[i]? =some t):(kY n ts).take (i+1)=(kY n ts).take i++[eqG n i t]:=by
 rw[List.take_add_one,kY,List.getElem?_mapIdx,h];rfl
theorem iE(n:Int)(ts:List Tm):(kY n ts).length=ts.length:=by rw[kY,List.length_mapIdx]
noncomputable def gC(l:List Gl)(a:Nat)(g:Gl)(n:Int)(d:List Gl):List Gl:=l.take a++kY n g.terms++d.map (Gl.put (shF n))++l.drop (a+1)
noncomputable def qIs(cls:List (List Gl))(c:Nat)(l:List Gl)(a:Nat)(g:Gl)(n:Int)(ds:List (List Gl)):List (List Gl):=cls.take c++ds.map (gC l a g n)++cls.drop (c+1)
structure UnfD where
 k:Nat
 r:Rl
 cls:List (List Gl)
 c:Nat
 l:List Gl
 a:Nat
 g:Gl
 q:Rl
structure UnfAt (p:Pg) (nm:ByteArray) (clause call:Int) (x:UnfD):Prop where
 find:eF p nm=x.k
 rel:p.rels[x.k]? =some x.r
 cl:x.r.body.cl=some x.cls
 cc:clause=x.c
 cls:x.cls[x.c]? =some x.l
 call0:0≤call
 pos:bK x.l call.toNat=some x.a
 goal:x.l[x.a]? =some x.g
 called:∃j:Nat,relAt p x.g.name=j∧p.rels[j]? =some x.q
theorem UnfAt.uniq{p:Pg}{nm:ByteArray}{clause call:Int}{x y:UnfD}(h:UnfAt p nm clause call x)(h':UnfAt p nm clause call y):x=y:=by
 obtain⟨k,r,cls,c,l,a,g,q⟩:=x
 obtain⟨k',r',cls',c',l',a',g',q'⟩:=y
 obtain⟨h1,h2,h3,h4,h5,h6,h7,h8,j,h9,h10⟩:=h
 obtain⟨i1,i2,i3,i4,i5,i6,i7,i8,j',i9,i10⟩:=h'
 dsimp only at*
 obtain rfl:k=k':=by omega
 rw[h2]at i2;cases i2
 rw[h3]at i3;cases i3
 obtain rfl:c=c':=by omega
 rw[h5]at i5;cases i5
 rw[h7]at i7;cases i7
 rw[h8]at i8;cases i8
 obtain rfl:j=j':=by omega
 rw[h10]at i10;cases i10
 rfl
noncomputable def UnfD.ls(x:UnfD)(ds:List (List Gl)):List (List Gl):=qIs x.cls x.c x.l x.a x.g (x.r.arity+x.r.locals) ds
noncomputable def UnfD.pg(x:UnfD)(p:Pg)(ds:List (List Gl)):Pg:=⟨p.rels.set x.k ⟨x.r.name,x.r.arity,x.r.locals+x.q.arity+x.q.locals,cgG (x.ls ds)⟩⟩
def jX(p:Pg)(x:UnfD)(ds:List (List Gl)):Prop:=x.q.body.cl=some ds∧qGo (x.ls ds)∧(x.pg p ds).Ok
noncomputable def rR(p:Pg)(nm:ByteArray)(clause call:Int):Option (Pg×Nat):=
 if h:∃z:UnfD×List (List Gl),UnfAt p nm clause call z.1∧jX p z.1 z.2 then some (h.choose.1.pg p h.choose.2,h.choose.2.length)else none
theorem sJ{p:Pg}{nm:ByteArray}{clause call:Int}{x:UnfD}{ds:List (List Gl)}(h:UnfAt p nm clause call x)(h2:jX p x ds):rR p nm clause call=some (x.pg p ds,ds.length):=by
 have hx:∃z:UnfD×List (List Gl),UnfAt p nm clause call z.1∧jX p z.1 z.2:=⟨(x,ds),h,h2⟩
 have h3:=hx.choose_spec
 have e:hx.choose=(x,ds):=by
  have e1:=h3.1.uniq h
  have e2:=h3.2.1
  rw[e1,h2.1]at e2
  exact Prod.ext e1 (Option.some.inj e2).symm
 rw[rR,dif_pos hx,e]
theorem gB{p:Pg}{nm:ByteArray}{clause call:Int}(h:∀x,¬UnfAt p nm clause call x):rR p nm clause call=none:=by
 rw[rR,dif_neg fun k=>by obtain⟨⟨x,_⟩,hx,_⟩:=k;exact h x hx]
theorem lG{p:Pg}{nm:ByteArray}{clause call:Int}{x:UnfD}(h:UnfAt p nm clause call x)(h2:∀ds,¬jX p x ds):rR p nm clause call=none:=by
 rw[rR,dif_neg fun k=>by obtain⟨⟨y,ds⟩,hy,hd⟩:=k;exact h2 ds (h.uniq hy ▸ hd)]
end Go.Vx
namespace Go.Vx
open Go.Proofs Classical
section
variable {μ:Mem}
theorem vN{g:Gl}{v:Value}(hv:RepV μ g.d v)(hw:g.d.wd):aM Tryz.prog 172 [v] μ (.bool (decide g.Single)):=by
 have w_:=Gl.invV hv
 obtain⟨p,rfl⟩:=w_
 refine Spec.mk Tryz.func172 (by kernel_rfl) ?_
 intro r1
 refine cGv (cW g hv hw) ?_
 refine ifd (fun h1=>?_) (fun h1=>rGv (isF fun h=>h1 h.1) rfl)
 refine aL (fun h2=>?_) (fun h2=>rGv (isF fun h=>h.2.1 h2) rfl)
 refine rGv ?_ rfl
 show Value.bool _=Value.bool _
 congr 1
 by_cases e:g.kind=8
 ·rw[decide_eq_true e,decide_eq_false fun k:g.Single=>k.2.2 e];rfl
 ·rw[decide_eq_false e,decide_eq_true (show g.Single from⟨h1,h2,e⟩)];rfl
theorem bC{k:Int}{a b:Option Addr×Nat×Nat}:aM Tryz.prog 94 [.int .i64 k,.slice a.1 a.2.1 a.2.2,.slice b.1 b.2.1 b.2.2] μ (.agg #[.int .i64 k,.string ⟨#[]⟩,.slice a.1 a.2.1 a.2.2,.slice b.1 b.2.1 b.2.2]):=by
 refine Spec.mk Tryz.func94 (by kernel_rfl) ?_
 intro r6
 exact rGv rfl rfl
theorem qNl{c:List Gl}{v:Value}(h:RepV μ (csD c) v):RepV μ (cgA c).d (.agg #[.int .i64 7,.string ⟨#[]⟩,.slice none 0 0,v]):=by
 rw[Gl.d_eq]
 have hnil:RepV μ (.sl 4 (([]:List Tm).map Tm.d)) (.slice none 0 0):=⟨none,0,rfl,⟨Nat.zero_le _,Nat.zero_le _⟩,(fun _ h=>nomatch h),.inl rfl⟩
 exact⟨_,rfl,RepS.int (RepS.str (RepS.cons1 hnil (RepS.last h)))⟩
set_option maxHeartbeats 1000000 in
theorem nQ{l:List (List Gl)}{base:Option Addr}{cap:Nat}(hsl:Sl μ 1 base l.length (l.map csD))(hw:∀c∈l,∀g∈c,g.d.wd)(hb:l.length≤100000)(hb2:∀c∈l,c.length≤100000):
  Spec Tryz.prog 97 [.slice base l.length cap] μ fun v μ'=>qRs (fun y tv=>RepV μ' y.d tv) (cgO l) v:=by
 refine Spec.mk Tryz.func97 (by kernel_rfl) ?_
 intro r2 r4
 refine aU (fun z:Nat×Option Nat×Nat×List Value×Mem=>z.1≤l.length∧μ.Le z.2.2.2.2∧Rows z.2.2.2.2 4 (((l.take z.1).map cgA).map Gl.d) z.2.2.2.1∧(∀c∈l.take z.1,c.length≤8∧∀g∈c,g.Single)∧(z.1=0∨l.length≤8))
  (fun (i, b, c, us, μ') => ⟨[(0, .val (.slice base l.length cap)), (2, .loc 0 r2 0), (4, .loc 1 r4 0), (10, .val (.slice base l.length cap)), (11, .val (.int .i64 l.length)), (12, .val (.int .i64 i))],
   [(0,some (.cells r2 [.val (.int .i64 0),.val (.string ⟨#[]⟩),.val (.slice none 0 0),.val (.slice none 0 0)] 61)),(1,some (.cells r4 [.val (.int .i64 8),.val (.string ⟨#[]⟩),.val (.slice none 0 0),.row 2 b us.length c] 61)),(2,some (.row b c 61 4 us))],3,μ',Mem.nil⟩) (fun z=>l.length-z.1)
  (0,none,0,[],μ) ⟨Nat.zero_le _,Mem.Le.refl _,.nil,by simp,.inl rfl⟩ (fun(_,_,_,_,_)=>⟨rfl,rfl⟩) ⟨⟨⟨_,rfl,.inl rfl⟩,⟨_,rfl,.inl rfl⟩,⟨_,rfl,.inl rfl⟩,⟨_,rfl,.inl rfl⟩,⟨_,rfl,.inl rfl⟩,⟨_,rfl,.inl rfl⟩,trivial⟩,⟨.inl rfl,.inr (.inr ⟨_,_,_,_,rfl,rfl,.inl rfl,.inl rfl,.inl rfl,.inr ⟨2,rfl,rfl,Nat.le_refl _⟩,trivial⟩),.inr (.inl ⟨_,_,rfl,Nat.le_refl _⟩),trivial⟩,rfl,rfl⟩ ?_
 rintro⟨i,b,c,us,μ'⟩ ⟨hi,hle,hrows,hall,h8⟩
 dsimp only at hi hle hrows hall h8
 have hul:=hrows.len
 simp only[List.length_map,List.length_take]at hul
 refine ifd (fun hlt=>?_) (fun hlt=>?_)
 ·have w_ := aSo (l := l) (i := i) (by omega)
  obtain⟨x,hx⟩:=w_
  have hxm:=mAt hx
  have w_:=cF (hsl.mono hle) hx
  obtain⟨ad,px,hel,hrx⟩:=w_
  have hxl:=hb2 x hxm
  have hxs:Sl μ' 4 px.1 x.length (x.map Gl.d):=by
   have w_:=Rep.sl (xs:=x.map Gl.d) hrx
   obtain⟨b',c',e1,hs⟩:=w_
   have w_:=Value.slice.inj e1
   obtain⟨rfl,_,_⟩:=w_
   simpa using hs
  refine eIn hel ?_
  refine lIn (fun j:Nat=>j≤x.length∧∀g∈x.take j,g.Single)
   (fun j => ⟨[(0, .val (.slice base l.length cap)), (2, .loc 0 r2 0), (4, .loc 1 r4 0), (6, .val (.slice px.1 x.length px.2)), (10, .val (.slice base l.length cap)), (11, .val (.int .i64 l.length)), (12, .val (.int .i64 i)), (16, .val (.slice px.1 x.length px.2)), (17, .val (.int .i64 x.length)), (18, .val (.int .i64 j))],
    [(0,some (.cells r2 [.val (.int .i64 0),.val (.string ⟨#[]⟩),.val (.slice none 0 0),.val (.slice none 0 0)] 61)),(1,some (.cells r4 [.val (.int .i64 8),.val (.string ⟨#[]⟩),.val (.slice none 0 0),.row 2 b us.length c] 61)),(2,some (.row b c 61 4 us))],3,μ',Mem.nil⟩) (fun j=>x.length-j)
   0 ⟨Nat.zero_le _,by simp⟩ (fun _=>⟨rfl,rfl⟩) ⟨⟨rfl,rfl,rfl,rfl,rfl,rfl,rfl,rfl,rfl,rfl,trivial⟩,⟨rfl,rfl,rfl,trivial⟩,rfl,rfl⟩ ?_
  rintro j ⟨hj,hsing⟩
  refine ifd (fun hlt2=>?_) (fun hlt2=>?_)
  ·have w_ := aSo (l := x) (i := j) (by omega)
   obtain⟨y,hy⟩:=w_
   have w_:=Gl.elem hxs hy
   obtain⟨ad2,p2,hel2,hr2⟩:=w_
   refine eIn hel2 ?_
   intro r8
   refine cGv (vN hr2 (hw x hxm y (mAt hy))) ?_
   refine aL (fun hn=>?_) (fun hs=>?_)
   ·refine rPl ?_
    rw[cgO,if_neg fun k=>hn ((k.2 x hxm).2 y (mAt hy))]
    rfl
   refine aB (by omega) (by omega) ⟨j+1,⟨by omega,fun g hg=>?_⟩,by omega,⟨⟨rfl,rfl,rfl,rfl,rfl,rfl,rfl,rfl,rfl,rfl,trivial⟩,⟨rfl,rfl,rfl,trivial⟩,rfl,rfl⟩⟩
   rw[List.take_add_one,hy,Option.toList_some]at hg
   rcases List.mem_append.1 hg with hg|hg
   ·exact hsing g hg
   ·rw[List.mem_singleton.1 hg];exact hs
  ·obtain rfl : j = x.length := by omega
   rw[List.take_length]at hsing
   refine ifd (fun h88=>?_) (fun h88=>?_)
   ·refine rPl ?_
    rw[cgO,if_neg fun k=>by have:=(k.2 x hxm).1;omega]
    rfl
   refine ifd (fun h89=>?_) (fun h89=>?_)
   ·refine rPl ?_
    rw[cgO,if_neg fun k=>by have:=k.1;omega]
    rfl
   refine cPl (lQ hxs (by omega) (fun g hg=>(hsing g hg).1.1)) fun v3 μ3 hle3 hR3=>?_
   have w_:=sL hR3
   obtain⟨q3,rfl⟩:=w_
   refine cGv (bC (a:=(none,0,0)) (b:=(q3.1,x.length,q3.2))) ?_
   intro r41
   refine gIn ?_ ?_ fun b' c' _=>?_
   ·show(us.length+1)*72≤_;omega
   ·exact Nat.le_trans (m:=100000000) (show us.length+1≤_ by omega) (by decide)
   refine aB (by omega) (by omega) ⟨(i+1,b',c',_,μ3),⟨by dsimp only;omega,hle.trans hle3,?_,?_,by dsimp only;omega⟩,by dsimp only;omega,⟨⟨rfl,rfl,rfl,rfl,rfl,rfl,trivial⟩,⟨rfl,rfl,rfl,trivial⟩,rfl,rfl⟩⟩
   ·dsimp only
    rw[List.take_add_one,hx,Option.toList_some]
    simp only[List.map_append,List.map_cons,List.map_nil]
    exact(hrows.mono hle3).append (Rows.one (qNl hR3) (Gl.d_n _))
   ·dsimp only
    intro c hc
    rw[List.take_add_one,hx,Option.toList_some]at hc
    rcases List.mem_append.1 hc with hc|hc
    ·exact hall c hc
    ·rw[List.mem_singleton.1 hc];exact⟨by omega,hsing⟩
 ·obtain rfl : i = l.length := by omega
  rw[List.take_length]at hrows hall
  refine rFz [2] fun μ2 hle2 hno hrow=> .inl ?_
  rw[cgO,if_pos ⟨by omega,hall⟩]
  refine⟨_,rfl,?_⟩
  show RepV _ (cgG l).d _
  rw[cgG,Gl.d_eq]
  have hnil:RepV μ2 (.sl 4 (([]:List Tm).map Tm.d)) (.slice none 0 0):=⟨none,0,rfl,⟨Nat.zero_le _,Nat.zero_le _⟩,(fun _ h=>nomatch h),.inl rfl⟩
  exact⟨_,rfl,RepS.int (RepS.str (RepS.cons1 hnil (RepS.last (Rows.sl hrow (hrows.mono hle2) (Nat.le_trans (m:=100000000) (by omega) (by decide))))))⟩
set_option maxHeartbeats 1000000 in
theorem mY{l:List (List Gl)}{base:Option Addr}{cap:Nat}(hsl:Sl μ 1 base l.length (l.map csD))(hb:l.length≤100000)(hb2:∀c∈l,c.length≤100000):
  Spec Tryz.prog 165 [.slice base l.length cap] μ fun v μ'=>qRs (fun y tv=>Fresh μ μ' y.d tv) (cgO l) v:=by
 refine Spec.mk Tryz.func165 (by kernel_rfl) ?_
 intro r2
 refine ifd (fun h8=>?_) (fun h8=>?_)
 ·refine rPl ?_
  rw[cgO,if_neg fun k=>by have:=k.1;omega]
  rfl
 intro r4
 refine uQ (fun z:Nat×Option Nat×Nat×List Value×Mem=>z.1≤l.length∧μ.Le z.2.2.2.2∧Grown 4 μ z.2.2.2.2 (((l.take z.1).map cgA).map Gl.d) z.2.2.2.1∧(∀c∈l.take z.1,c.length≤8∧∀g∈c,g.Single))
  (fun (i, b, c, us, μ') => ⟨[(2, .loc 0 r2 0), (4, .loc 1 r4 0), (15, .val (.slice base l.length cap)), (16, .val (.int .i64 l.length)), (17, .val (.int .i64 i))],
   [(0,some (.cells r2 [.val (.int .i64 0),.val (.string ⟨#[]⟩),.val (.slice none 0 0),.val (.slice none 0 0)] 61)),(1,some (.cells r4 [.val (.int .i64 8),.val (.string ⟨#[]⟩),.val (.slice none 0 0),.row 2 b us.length c] 61)),(2,some (.row b c 61 4 us))],3,μ',Mem.nil⟩) (fun z=>l.length-z.1) [] (fun(_,_,_,_,_)=>⟨rfl,rfl⟩)
  ⟨(0,none,0,[],μ),⟨Nat.zero_le _,Mem.Le.refl _,Grown.nil _ _ _,by simp⟩,⟨⟨⟨_,rfl,.inl rfl⟩,⟨_,rfl,.inl rfl⟩,⟨_,rfl,.inl rfl⟩,⟨_,rfl,.inl rfl⟩,⟨_,rfl,.inl rfl⟩,trivial⟩,⟨.inl rfl,.inr (.inr ⟨_,_,_,_,rfl,rfl,.inl rfl,.inl rfl,.inl rfl,.inr ⟨2,rfl,rfl,Nat.le_refl _⟩,trivial⟩),.inr (.inl ⟨_,_,rfl,Nat.le_refl _⟩),trivial⟩,rfl,rfl⟩⟩ ?_
 rintro⟨i,b,c,us,μ'⟩ ⟨hi,hle,hrows,hall⟩
 dsimp only at hi hle hrows hall
 have hul:=hrows.len
 simp only[List.length_map,List.length_take]at hul
 refine ifd (fun hlt=>?_) (fun hlt=>?_)
 ·have w_ := aSo (l := l) (i := i) (by omega)
  obtain⟨x,hx⟩:=w_
  have hxm:=mAt hx
  have w_:=cF (hsl.mono hle) hx
  obtain⟨ad,px,hel,hrx⟩:=w_
  have hxl:=hb2 x hxm
  have hxs:Sl μ' 4 px.1 x.length (x.map Gl.d):=by
   have w_:=Rep.sl (xs:=x.map Gl.d) hrx
   obtain⟨b',c',e1,hs⟩:=w_
   have w_:=Value.slice.inj e1
   obtain⟨rfl,_,_⟩:=w_
   simpa using hs
  refine eIn hel ?_
  refine ifd (fun h88=>?_) (fun h88=>?_)
  ·refine rPl ?_
   rw[cgO,if_neg fun k=>by have:=(k.2 x hxm).1;omega]
   rfl
  intro r7
  refine aU (fun z:Nat×Option Nat×Nat×List Value×Mem=>z.1≤x.length∧μ'.Le z.2.2.2.2∧Grown 4 μ' z.2.2.2.2 ((x.take z.1).map Gl.d) z.2.2.2.1∧∀g∈x.take z.1,g.Single)
   (fun (j, b2, c2, ys, μ2) => ⟨[(2, .loc 0 r2 0), (4, .loc 1 r4 0), (7, .loc 3 r7 0), (15, .val (.slice base l.length cap)), (16, .val (.int .i64 l.length)), (17, .val (.int .i64 i)), (26, .val (.slice px.1 x.length px.2)), (27, .val (.int .i64 x.length)), (28, .val (.int .i64 j))],
    [(0,some (.cells r2 [.val (.int .i64 0),.val (.string ⟨#[]⟩),.val (.slice none 0 0),.val (.slice none 0 0)] 61)),(1,some (.cells r4 [.val (.int .i64 8),.val (.string ⟨#[]⟩),.val (.slice none 0 0),.row 2 b us.length c] 61)),(2,some (.row b c 61 4 us)),(3,some (.cells r7 [.val (.int .i64 7),.val (.string ⟨#[]⟩),.val (.slice none 0 0),.row 4 b2 ys.length c2] 61)),(4,some (.row b2 c2 61 4 ys))],5,μ2,Mem.nil⟩) (fun z=>x.length-z.1)
   (0,none,0,[],μ') ⟨Nat.zero_le _,Mem.Le.refl _,Grown.nil _ _ _,by simp⟩ (fun(_,_,_,_,_)=>⟨rfl,rfl⟩) ⟨⟨⟨_,rfl,.inl rfl⟩,⟨_,rfl,.inl rfl⟩,⟨_,rfl,.inl rfl⟩,⟨_,rfl,.inl rfl⟩,⟨_,rfl,.inl rfl⟩,⟨_,rfl,.inl rfl⟩,⟨_,rfl,.inl rfl⟩,⟨_,rfl,.inl rfl⟩,⟨_,rfl,.inl rfl⟩,trivial⟩,⟨.inl rfl,.inl rfl,.inl rfl,.inr (.inr ⟨_,_,_,_,rfl,rfl,.inl rfl,.inl rfl,.inl rfl,.inr ⟨4,rfl,rfl,Nat.le_refl _⟩,trivial⟩),.inr (.inl ⟨_,_,rfl,Nat.le_refl _⟩),trivial⟩,rfl,rfl⟩ ?_
  rintro⟨j,b2,c2,ys,μ2⟩ ⟨hj,hle2,hrows2,hsing⟩
  dsimp only at hj hle2 hrows2 hsing
  have hyl:=hrows2.len
  simp only[List.length_map,List.length_take]at hyl
  refine ifd (fun hlt2=>?_) (fun hlt2=>?_)
  ·have w_ := aSo (l := x) (i := j) (by omega)
   obtain⟨y,hy⟩:=w_
   have w_:=Gl.elem (hxs.mono hle2) hy
   obtain⟨ad2,p2,hel2,hr2⟩:=w_
   refine eIn hel2 ?_
   intro r9
   refine cGv (rY y hr2) ?_
   refine aL (fun hn=>?_) (fun hok=>?_)
   ·refine rPl ?_
    rw[cgO,if_neg fun k=>hn ((k.2 x hxm).2 y (mAt hy)).1]
    rfl
   refine ifd (fun h7=>?_) (fun h7=>?_)
   ·refine rPl ?_
    rw[cgO,if_neg fun k=>((k.2 x hxm).2 y (mAt hy)).2.1 h7]
    rfl
   refine ifd (fun h9=>?_) (fun h9=>?_)
   ·refine rPl ?_
    rw[cgO,if_neg fun k=>((k.2 x hxm).2 y (mAt hy)).2.2 h9]
    rfl
   refine cPl (oU y hr2 hok.1) fun v3 μ3 hle3 hR3=>?_
   have w_:=Gl.invV hR3.rep
   obtain⟨q3,rfl⟩:=w_
   intro r41
   refine gIn ?_ ?_ fun b' c' _=>?_
   ·show(ys.length+1)*72≤_;omega
   ·exact Nat.le_trans (m:=100000000) (show ys.length+1≤_ by omega) (by decide)
   refine aB (by omega) (by omega) ⟨(j+1,b',c',_,μ3),⟨by dsimp only;omega,hle2.trans hle3,?_,?_⟩,by dsimp only;omega,⟨⟨rfl,rfl,rfl,rfl,rfl,rfl,rfl,rfl,rfl,trivial⟩,⟨rfl,rfl,rfl,rfl,rfl,trivial⟩,rfl,rfl⟩⟩
   ·dsimp only
    rw[List.take_add_one,hy,Option.toList_some]
    simp only[List.map_append,List.map_cons,List.map_nil]
    exact hrows2.snoc hle2 hR3 hle3 (Gl.d_n _)
   ·dsimp only
    intro g hg
    rw[List.take_add_one,hy,Option.toList_some]at hg
    rcases List.mem_append.1 hg with hg|hg
    ·exact hsing g hg
    ·rw[List.mem_singleton.1 hg];exact⟨hok,h7,h9⟩
  ·obtain rfl : j = x.length := by omega
   rw[List.take_length]at hsing hrows2
   intro r57
   refine gIn ?_ ?_ fun b' c' _=>?_
   ·show(us.length+1)*72≤_;omega
   ·exact Nat.le_trans (m:=100000000) (show us.length+1≤_ by omega) (by decide)
   have hnil:Fresh μ' μ' (.sl 4 (([]:List Tm).map Tm.d)) (.slice none 0 0):=⟨Mem.nil,Own.nilSl 4,(fun _ _ h=>nomatch h),fun _ h=>absurd rfl h⟩
   refine aB (by omega) (by omega) ⟨[4],fun μ6 hle6 hno6 hat6=>?_⟩
   have hfr:=hrows2.fresh hle2 hle6 hno6 hat6 (Nat.le_trans (m:=1000000) (by omega) (by decide))
   have hA:Fresh μ' μ6 (cgA x).d (.agg #[.int .i64 7,.string ⟨#[]⟩,.slice none 0 0,.slice (b2.map fun r=>⟨r,0,none⟩) ys.length c2]):=by
    rw[cgA,Gl.d_eq]
    exact FreshS.st (FreshS.int (FreshS.str (FreshS.cons hnil (Mem.Le.refl _) (hle2.trans hle6) (FreshS.cons hfr (hle2.trans hle6) (Mem.Le.refl _) FreshS.nil))))
   refine⟨(i+1,b',c',_,μ6),⟨by dsimp only;omega,hle.trans (hle2.trans hle6),?_,?_⟩,by dsimp only;omega,⟨⟨rfl,rfl,rfl,rfl,rfl,trivial⟩,⟨rfl,rfl,rfl,trivial⟩,rfl,rfl⟩⟩
   ·dsimp only
    rw[List.take_add_one,hx,Option.toList_some]
    simp only[List.map_append,List.map_cons,List.map_nil]
    exact hrows.snoc hle hA (hle2.trans hle6) (Gl.d_n _)
   ·dsimp only
    intro c hc
    rw[List.take_add_one,hx,Option.toList_some]at hc
    rcases List.mem_append.1 hc with hc|hc
    ·exact hall c hc
    ·rw[List.mem_singleton.1 hc];exact⟨by omega,hsing⟩
 ·obtain rfl : i = l.length := by omega
  rw[List.take_length]at hrows hall
  refine rFz [2] fun μ2 hle2 hno hrow=> .inl ?_
  rw[cgO,if_pos ⟨by omega,hall⟩]
  refine⟨_,rfl,?_⟩
  show Fresh μ _ (cgG l).d _
  rw[cgG,Gl.d_eq]
  have k:=hrows.fresh hle hle2 hno hrow (Nat.le_trans (m:=1000000) (by omega) (by decide))
  have hnil:Fresh μ μ (.sl 4 (([]:List Tm).map Tm.d)) (.slice none 0 0):=⟨Mem.nil,Own.nilSl 4,(fun _ _ h=>nomatch h),fun _ h=>absurd rfl h⟩
  exact FreshS.st (FreshS.int (FreshS.str (FreshS.cons hnil (Mem.Le.refl _) (hle.trans hle2) (FreshS.cons k (hle.trans hle2) (Mem.Le.refl _) FreshS.nil))))
end
end Go.Vx
namespace Go.Vx
open Go.Proofs Classical
theorem Gl.withO_all{F:T→Option T}{f:Int→Option T}(h:∀x,F x=some (x.subst f)):∀g:Gl,g.withO F=some (g.put f):=
 Gl.ind fun g ih=>by
  rw[Gl.withO_eq,vR (h:=T.subst f) fun x _=>h x]
  dsimp only
  rw[vR (h:=Gl.put f) ih]
  dsimp only
  cases g with
  |mk k s ts gs=>
  rw[Gl.put,Gl.puts_map]
  show some (Gl.mk k s _ _)=some (Gl.mk k s _ _)
  rw[List.map_map,List.map_map];rfl
section
variable {μ:Mem}
theorem sE{c:List Gl}{base:Option Addr}{cap k:Nat}(hsl:Sl μ 4 base c.length (c.map Gl.d))(hb:c.length≤1000000)(hk:(k:Int)≤9223372036854775807):
  Spec Tryz.prog 162 [.slice base c.length cap,.int .i64 k] μ fun r μ'=>r= .int .i64 (pS (bK c k))∧μ'=μ:=by
 refine Spec.mk Tryz.func162 (by kernel_rfl) ?_
 refine lIn (fun z:Nat×Nat=>z.1≤c.length∧z.2≤k∧bK c k=(bK (c.drop z.1) z.2).map (·+z.1))
  (fun(i,j)=>⟨[(1,.val (.int .i64 j)),(7,.val (.slice base c.length cap)),(8,.val (.int .i64 c.length)),(9,.val (.int .i64 i))],[],0,μ,Mem.nil⟩) (fun z=>c.length-z.1)
  (0,k) ⟨Nat.zero_le _,Nat.le_refl _,by simp⟩ (fun(_,_)=>⟨rfl,rfl⟩) ⟨⟨rfl,rfl,rfl,rfl,trivial⟩,trivial,rfl,rfl⟩ ?_
 rintro⟨i,j⟩ ⟨hi,hjk,he⟩
 dsimp only at hi hjk he
 refine ifd (fun hlt=>?_) (fun hlt=>?_)
 ·have w_ := aSo (l := c) (i := i) (by omega)
  obtain⟨x,hx⟩:=w_
  have w_:=Gl.elem hsl hx
  obtain⟨ad,p,hel,hr⟩:=w_
  rw[bR hx]at he
  refine eIn hel ?_
  intro r6
  have hz:=hsl.max
  refine ifd (fun h9=>?_) (fun h9=>?_)
  ·refine ifd (fun h0 => ?_) (fun h0 => ?_)
   ·obtain rfl : j = 0 := by omega
    rw[bK,if_pos h9]at he
    exact rPl ⟨by rw[he];simp[pS],rfl⟩
   ·obtain ⟨j', rfl⟩ : ∃ m, j = m + 1 := ⟨j - 1, by omega⟩
    rw[bK,if_pos h9,Option.map_map]at he
    refine aB (by omega) (by omega) ?_
    refine aB (by omega) (by omega) ⟨(i+1,j'),⟨by dsimp only;omega,by dsimp only;omega,?_⟩,by dsimp only;omega,⟨⟨?_,rfl,rfl,rfl,trivial⟩,trivial,rfl,rfl⟩⟩
    ·dsimp only
     rw[he];congr 1;funext a;show a+1+i=a+(i+1);omega
    ·show some (SV.val (.int .i64 _)) = some (SV.val (.int .i64 _))
     congr 3;omega
  ·have he2:bK c k=((bK (c.drop (i+1)) j).map (·+1)).map (·+i):=by
    rw[he]
    cases j<;>rw[bK,if_neg h9]
   rw[Option.map_map]at he2
   refine aB (by omega) (by omega) ⟨(i+1,j),⟨by dsimp only;omega,hjk,?_⟩,by dsimp only;omega,⟨⟨rfl,rfl,rfl,rfl,trivial⟩,trivial,rfl,rfl⟩⟩
   dsimp only
   rw[he2];congr 1;funext a;show a+1+i=a+(i+1);omega
 ·obtain rfl : i = c.length := by omega
  rw[List.drop_length,bK]at he
  exact rPl ⟨by rw[he];rfl,rfl⟩
noncomputable def oQ(c:List Gl)(call:Int):Int:=if call<0 then -1 else pS (bK c call.toNat)
theorem qEc{c:List Gl}{base:Option Addr}{cap:Nat}{call:Int}(hsl:Sl μ 4 base c.length (c.map Gl.d))(hb:c.length≤1000000):
  Spec Tryz.prog 167 [.slice base c.length cap,.int .i64 call] μ fun r μ'=>r= .int .i64 (oQ c call)∧μ'=μ:=by
 refine Spec.mk Tryz.func167 (by kernel_rfl) ?_
 refine lIn (fun z:Nat×Nat=>z.1≤c.length∧z.2≤z.1∧(0≤call→(z.2:Int)≤call∧bK c call.toNat=(bK (c.drop z.1) (call.toNat-z.2)).map (·+z.1)))
  (fun(i,j)=>⟨[(1,.val (.int .i64 call)),(5,.val (.int .i64 j)),(8,.val (.slice base c.length cap)),(9,.val (.int .i64 c.length)),(10,.val (.int .i64 i))],[],0,μ,Mem.nil⟩) (fun z=>c.length-z.1)
  (0,0) ⟨Nat.zero_le _,Nat.le_refl _,fun h=>⟨h,by simp⟩⟩ (fun(_,_)=>⟨rfl,rfl⟩) ⟨⟨rfl,rfl,rfl,rfl,rfl,trivial⟩,trivial,rfl,rfl⟩ ?_
 rintro⟨i,j⟩ ⟨hi,hj,he⟩
 dsimp only at hi hj he
 refine ifd (fun hlt=>?_) (fun hlt=>?_)
 ·have w_ := aSo (l := c) (i := i) (by omega)
  obtain⟨x,hx⟩:=w_
  have w_:=Gl.elem hsl hx
  obtain⟨ad,p,hel,hr⟩:=w_
  rw[bR hx]at he
  refine eIn hel ?_
  intro r6
  refine ifd (fun h9=>?_) (fun h9=>?_)
  ·refine ifd (fun h0 => ?_) (fun h0 => ?_)
   ·have hc : 0 ≤ call := by omega
    have he:=(he hc).2
    rw[show call.toNat-j=0 by omega,bK,if_pos h9]at he
    exact rPl ⟨by rw[oQ,if_neg (by omega),he];simp[pS],rfl⟩
   ·refine aB (by omega) (by omega) ?_
    refine aB (by omega) (by omega) ⟨(i+1,j+1),⟨by dsimp only;omega,by dsimp only;omega,fun hc=>?_⟩,by dsimp only;omega,⟨⟨rfl,rfl,rfl,rfl,rfl,trivial⟩,trivial,rfl,rfl⟩⟩
    have he:=he hc
    refine⟨by dsimp only;omega,?_⟩
    have he:=he.2
    obtain⟨m,hm⟩:∃m,call.toNat-j=m+1:=⟨call.toNat-j-1,by omega⟩
    rw[hm,bK,if_pos h9,Option.map_map]at he
    dsimp only
    rw[he,show call.toNat-(j+1)=m by omega];congr 1;funext a;show a+1+i=a+(i+1);omega
  ·refine aB (by omega) (by omega) ⟨(i + 1, j), ⟨by dsimp only; omega, by dsimp only; omega, fun hc => ⟨(he hc).1, ?_⟩⟩, by dsimp only; omega, ⟨⟨rfl, rfl, rfl, rfl, rfl, trivial⟩, trivial, rfl, rfl⟩⟩
   have he2:bK c call.toNat=((bK (c.drop (i+1)) (call.toNat-j)).map (·+1)).map (·+i):=by
    rw[(he hc).2]
    cases (call.toNat-j)<;>rw[bK,if_neg h9]
   rw[Option.map_map]at he2
   dsimp only
   rw[he2];congr 1;funext a;show a+1+i=a+(i+1);omega
 ·obtain rfl : i = c.length := by omega
  refine rPl ⟨?_,rfl⟩
  rw[oQ]
  by_cases hc:call<0
  ·rw[if_pos hc]
  ·have he := (he (by omega)).2
   rw[List.drop_length,bK]at he
   rw[if_neg hc,he];rfl
theorem xR{n:Int}(hn:0≤n∧n≤1000):∀(x:T) {μ:Mem} {v:Value},x.good→RepV μ x.tm.d v→
  Spec Tryz.prog 171 [v,.int .i64 n] μ fun v μ'=>RepV μ' (x.subst (shF n)).tm.d v:=by
 intro x
 induction x with
 |var m=>
  intro μ v hg hv
  have hg:0≤m∧m≤100000:=hg
  have w_:=Tm.invV hv
  obtain⟨p,rfl⟩:=w_
  refine Spec.mk Tryz.func171 (by kernel_rfl) ?_
  intro r1 r2
  refine ifd (fun _=>?_) (fun h=>absurd rfl h)
  refine aB (show(-9223372036854775808:Int)≤m+n by omega) (show m+n<(9223372036854775808:Int) by omega) ?_
  refine cGv (gS _) ?_
  exact rPl (gP (m+n))
 |pair a b iha ihb=>
  intro μ v hg hv
  have w_:=Tm.inv hv
  obtain⟨base',cap',rfl,hsa⟩:=w_
  have w_:=T.parts hsa
  obtain⟨ad,ad',p,p',h1,h2,hra,hrb⟩:=w_
  refine Spec.mk Tryz.func171 (by kernel_rfl) ?_
  intro r1 r2
  refine ifd (fun h=>absurd h (by simp)) (fun _=>?_)
  refine ifd (fun _=>?_) (fun h=>absurd rfl h)
  refine eIn h1 ?_
  refine eIn h2 ?_
  refine cPl (iha hg.1 hra) fun v1 μ1 hle1 hR1=>?_
  refine cPl (ihb hg.2 (hrb.mono hle1)) fun v2 μ2 hle2 hR2=>?_
  refine cPl (fO (hR1.mono hle2) hR2) fun v3 μ3 hle3 hR3=>?_
  have w_:=Tm.invV hR3
  obtain⟨q,rfl⟩:=w_
  exact rPl hR3
 |_=>
  intro μ v hg hv
  have w_:=Tm.invV hv
  obtain⟨p,rfl⟩:=w_
  refine Spec.mk Tryz.func171 (by kernel_rfl) ?_
  intro r1 r2
  refine ifd (fun h=>absurd h (by simp[T.tm,Tm.kind])) (fun _=>?_)
  refine ifd (fun h=>absurd h (by simp[T.tm,Tm.kind])) (fun _=>?_)
  exact rPl hv
theorem xS{n:Int}(hn:0≤n∧n≤1000):∀(g:Gl) {μ:Mem} {v:Value},RepV μ g.d v→g.Sh→Spec Tryz.prog 96 [v,.int .i64 n] μ fun v μ'=>RepV μ' (g.put (shF n)).d v:=
 Gl.ind fun g ih μ v hv hS=>by
  have w_:=Gl.inv hv
  obtain⟨p,rfl,hts,hgs⟩:=w_
  have w_:=fD hS.top.tm
  obtain⟨xs,hxs,hok⟩:=w_
  have hg8:=hS.top.gl
  have hx4:xs.length≤4:=by
   have T:=hS.top
   have e9:=T.ln9;have e2:=T.ln2;have e1:=T.ln1;have e0:=T.ln0;have k0:=T.k0;have k1:=T.k1
   have:g.terms.length=xs.length:=by rw[hxs,List.length_map]
   omega
  have hput:(g.put (shF n)).d= .st [.i g.kind,.s g.name,.sl 4 (((xs.map (T.subst (shF n))).map T.tm).map Tm.d),.sl 4 ((g.goals.map (Gl.put (shF n))).map Gl.d)]:=by
   rw[Gl.d_eq,Gl.put_kind,Gl.put_name,Gl.put_goals,Gl.put_terms,hxs]
   simp[List.map_map,Function.comp_def,T.toT_tm]
  rw[hxs,List.length_map]at hts ⊢
  refine Spec.mk Tryz.func96 (by kernel_rfl) ?_
  intro r1 r2 r3
  refine aU (fun p:Nat×Option Nat×Nat×List Value×Mem=>p.1≤xs.length∧μ.Le p.2.2.2.2∧Rows p.2.2.2.2 4 ((((xs.take p.1).map (T.subst (shF n))).map T.tm).map Tm.d) p.2.2.2.1)
   (fun (i, b, c, ys, μ') => ⟨[(1, .val (.int .i64 n)), (2, .loc 0 r1 0), (4, .loc 1 r2 0), (5, .loc 2 r3 0), (16, .val (.slice p.1.1 xs.length p.1.2)), (17, .val (.int .i64 xs.length)), (18, .val (.int .i64 i))],
    [(0,some (.cells r1 [.val (.int .i64 g.kind),.val (.string g.name),.val (.slice p.1.1 xs.length p.1.2),.val (.slice p.2.1 g.goals.length p.2.2)] 61)),(1,some (.cells r2 [.val (.int .i64 0),.val (.string ⟨#[]⟩),.val (.slice none 0 0),.val (.slice none 0 0)] 61)),(2,some (.cells r3 [.val (.int .i64 g.kind),.val (.string g.name),.row 3 b ys.length c,.val (.slice none 0 0)] 61)),(3,some (.row b c 75 4 ys))],4,μ',Mem.nil⟩) (fun p=>xs.length-p.1)
   (0,none,0,[],μ) ⟨by simp,Mem.Le.refl _,.nil⟩ (fun(_,_,_,_,_)=>⟨rfl,rfl⟩) ⟨⟨⟨_,rfl,.inl rfl⟩,⟨_,rfl,.inl rfl⟩,⟨_,rfl,.inl rfl⟩,⟨_,rfl,.inl rfl⟩,⟨_,rfl,.inl rfl⟩,⟨_,rfl,.inl rfl⟩,⟨_,rfl,.inl rfl⟩,trivial⟩,⟨.inl rfl,.inl rfl,.inr (.inr ⟨_,_,_,_,rfl,rfl,.inl rfl,.inl rfl,.inr ⟨3,rfl,rfl,Nat.le_refl _⟩,.inl rfl,trivial⟩),.inr (.inl ⟨_,_,rfl,Nat.le_refl _⟩),trivial⟩,rfl,rfl⟩ ?_
  rintro⟨i,b,c,ys,μ'⟩ ⟨hi,hle,hrows⟩
  dsimp only at hi hle hrows
  have hlen:=hrows.len
  simp only[List.length_map,List.length_take]at hlen
  refine ifd (fun h=>?_) (fun h=>?_)
  ·have w_ := aSo (l := xs) (i := i) (by omega)
   obtain⟨t,ht⟩:=w_
   have ht':(xs.map T.tm)[i]? =some t.tm:=by simp[ht]
   have w_:=Tm.elem (hts.mono hle) ht'
   obtain⟨ad,p3,hel,hr⟩:=w_
   refine eIn hel ?_
   intro r4
   refine cPl (xR hn t (hok t (mAt ht)).1 hr) fun v' μ'' hle2 hR=>?_
   have w_:=Tm.invV hR
   obtain⟨q,rfl⟩:=w_
   intro r5
   refine gIn ?_ ?_ fun b' c' _=>?_
   ·show(ys.length+1)*56≤_;omega
   ·exact Nat.le_trans (m:=100000000) (show ys.length+1≤_ by omega) (by decide)
   refine aB (by omega) (by omega) ⟨(i+1,b',c',_,μ''),⟨by dsimp only;omega,hle.trans hle2,?_⟩,by dsimp only;omega,⟨⟨rfl,rfl,rfl,rfl,rfl,rfl,rfl,trivial⟩,⟨rfl,rfl,rfl,rfl,trivial⟩,rfl,rfl⟩⟩
   dsimp only
   rw[List.take_add_one,ht,Option.toList_some]
   simp only[List.map_append,List.map_cons,List.map_nil]
   exact(hrows.mono hle2).append (Rows.one hR (Tm.d_n _))
  ·obtain rfl : i = xs.length := by omega
   rw[List.take_length]at hrows
   have hgs1:=hgs.mono hle
   refine aU (fun p:Nat×Option Nat×Nat×List Value×Mem=>p.1≤g.goals.length∧μ'.Le p.2.2.2.2∧Rows p.2.2.2.2 4 (((g.goals.take p.1).map (Gl.put (shF n))).map Gl.d) p.2.2.2.1)
    (fun (i, b2, c2, zs, μ'') => ⟨[(1, .val (.int .i64 n)), (4, .loc 1 r2 0), (5, .loc 2 r3 0), (32, .val (.slice p.2.1 g.goals.length p.2.2)), (33, .val (.int .i64 g.goals.length)), (34, .val (.int .i64 i))],
     [(1,some (.cells r2 [.val (.int .i64 0),.val (.string ⟨#[]⟩),.val (.slice none 0 0),.val (.slice none 0 0)] 61)),(2,some (.cells r3 [.val (.int .i64 g.kind),.val (.string g.name),.row 3 b ys.length c,.row 4 b2 zs.length c2] 61)),(3,some (.row b c 75 4 ys)),(4,some (.row b2 c2 61 4 zs))],5,μ'',Mem.nil⟩) (fun p=>g.goals.length-p.1)
    (0,none,0,[],μ') ⟨by simp,Mem.Le.refl _,.nil⟩ (fun(_,_,_,_,_)=>⟨rfl,rfl⟩) ⟨⟨⟨_,rfl,.inl rfl⟩,⟨_,rfl,.inl rfl⟩,⟨_,rfl,.inl rfl⟩,⟨_,rfl,.inl rfl⟩,⟨_,rfl,.inl rfl⟩,⟨_,rfl,.inl rfl⟩,trivial⟩,⟨.inl rfl,.inr (.inr ⟨_,_,_,_,rfl,rfl,.inl rfl,.inl rfl,.inl rfl,.inr ⟨4,rfl,rfl,Nat.le_refl _⟩,trivial⟩),.inl rfl,.inr (.inl ⟨_,_,rfl,Nat.le_refl _⟩),trivial⟩,rfl,rfl⟩ ?_
   rintro⟨i,b2,c2,zs,μ''⟩ ⟨hi,hle3,hrows2⟩
   dsimp only at hi hle3 hrows2
   have hlen2:=hrows2.len
   simp only[List.length_map,List.length_take]at hlen2
   refine ifd (fun h=>?_) (fun h=>?_)
   ·have w_ := aSo (l := g.goals) (i := i) (by omega)
    obtain⟨t,ht⟩:=w_
    have w_:=Gl.elem (hgs1.mono hle3) ht
    obtain⟨ad,p3,hel,hr⟩:=w_
    refine eIn hel ?_
    intro r4
    refine cPl (ih t (mAt ht) hr (hS.sub t (mAt ht))) fun v' μ3 hle4 hR=>?_
    have w_:=Gl.invV hR
    obtain⟨q,rfl⟩:=w_
    intro r5
    refine gIn ?_ ?_ fun b' c' _=>?_
    ·show(zs.length+1)*72≤_;omega
    ·exact Nat.le_trans (m:=100000000) (show zs.length+1≤_ by omega) (by decide)
    refine aB (by omega) (by omega) ⟨(i+1,b',c',_,μ3),⟨by dsimp only;omega,hle3.trans hle4,?_⟩,by dsimp only;omega,⟨⟨rfl,rfl,rfl,rfl,rfl,rfl,trivial⟩,⟨rfl,rfl,rfl,rfl,trivial⟩,rfl,rfl⟩⟩
    dsimp only
    rw[List.take_add_one,ht,Option.toList_some]
    simp only[List.map_append,List.map_cons,List.map_nil]
    exact(hrows2.mono hle4).append (Rows.one hR (Gl.d_n _))
   ·obtain rfl : i = g.goals.length := by omega
    rw[List.take_length]at hrows2
    refine rFz [3,4] fun μ2 hle5 hno hrow=>fun μ3 hle6 hno2 hrow2=> .inl ?_
    rw[hput]
    exact⟨_,rfl,RepS.int (RepS.str (RepS.cons1 ((Rows.sl hrow (((hrows.mono hle3)).mono hle5) (Nat.le_trans (m:=100000000) (by omega) (by decide))).mono hle6) (RepS.last (Rows.sl hrow2 ((hrows2.mono hle5).mono hle6) (Nat.le_trans (m:=100000000) (by omega) (by decide))))))⟩
theorem wK{n:Int}{rn:Nat}(hn:0≤n∧n≤1000)(hat:μ rn=some (.cells #[.int .i64 n] 3 (0,0))):
  Maps 163 [.pointer (some ⟨rn,0,none⟩)] μ (fun x=>some (x.subst (shF n))):=fun μ' hle x v hx hv=>by
 have w_:=Tm.invV hv
 obtain⟨p,rfl⟩:=w_
 refine Spec.mk Tryz.func163 (by kernel_rfl) ?_
 intro r2 r3
 refine bN [.int .i64 n] rfl (bJ (hle _ _ hat)) ?_
 refine cPl (qAf hn x hx.1 hv) fun v2 μ2 hle2 hR=>?_
 have w_:=Tm.invV hR.rep
 obtain⟨q,rfl⟩:=w_
 exact rPl ⟨_,rfl,hR⟩
end
end Go.Vx
namespace Go.Vx
open Go.Proofs Classical
theorem RowO.cut{h:Mem}{r cap:Nat}{ty:TypeId}{es:Nat}{xs:List Value}{cs:List Value}{k j:Nat}{x x':Value}{vs:List Value}(h1:xs.length≤cap)(h2:xs.length≤maxLen)(h3:∀x∈xs,(aD x).length=es∧∀u∈aD x,u.oneCell'=true)(h4:cs.length=cap*es)(h5:cs.take (xs.length*es)=xs.flatMap aD)
  (hx:xs[k]? =some x) (hv:aD x'=(aD x).take j++vs++(aD x).drop (j+vs.length)) (hj:j+vs.length≤es) (ho:∀u∈vs,u.oneCell'=true):
  RowO (h.set r (.cells (List.toArray (cs.take (k*es+j)++vs++cs.drop (k*es+j+vs.length))) ty (0,0))) r cap ty es (xs.set k x'):=by
 have hk:=(List.getElem?_eq_some_iff.1 hx).1
 have hxm:=List.mem_of_getElem? hx
 have hxl:=(h3 x hxm).1
 obtain⟨A,B,rfl,hA⟩:∃A B,xs=A++x::B∧A.length=k:=⟨xs.take k,xs.drop (k+1),by
  rw[←(List.getElem?_eq_some_iff.1 hx).2]
  rw[List.getElem_cons_drop,List.take_append_drop],by rw[List.length_take];omega⟩
 subst hA
 have fA:(A.flatMap aD).length=A.length*es:=eP A fun y hy=>(h3 y (by simp[hy])).1
 have fB:(B.flatMap aD).length=B.length*es:=eP B fun y hy=>(h3 y (by simp[hy])).1
 obtain⟨rest,hrest⟩:∃rest,cs=A.flatMap aD++aD x++B.flatMap aD++rest:=⟨cs.drop ((A++x::B).length*es),by
  have h6:=List.take_append_drop ((A++x::B).length*es) cs
  rw[h5]at h6
  refine h6.symm.trans ?_
  simp⟩
 have e1:cs.take (A.length*es+j)=A.flatMap aD++(aD x).take j:=by
  rw[hrest,List.append_assoc,List.append_assoc,←fA,List.take_length_add_append,List.take_append_of_le_length (by omega)]
 have e2:cs.drop (A.length*es+j+vs.length)=(aD x).drop (j+vs.length)++B.flatMap aD++rest:=by
  rw[hrest,List.append_assoc,List.append_assoc,←fA,Nat.add_assoc,List.drop_length_add_append,List.drop_append_of_le_length (by omega),List.append_assoc]
 have e3:(A++x::B).set A.length x'=A++x'::B:=by simp
 rw[e3]
 have hx'l:(aD x').length=es:=by
  rw[hv];simp only[List.length_append,List.length_take,List.length_drop];omega
 refine⟨_,Mem.set_at _ _ _,by simpa using h1,by simpa using h2,fun y hy=>?_,?_,?_⟩
 ·rcases List.mem_append.1 hy with hy | hy
  ·exact h3 y (by simp[hy])
  rcases List.mem_cons.1 hy with rfl|hy
  ·refine ⟨hx'l, fun u hu => ?_⟩
   rw[hv]at hu
   simp only[List.mem_append]at hu
   rcases hu with(hu|hu)|hu
   ·exact(h3 x hxm).2 u (List.mem_of_mem_take hu)
   ·exact ho u hu
   ·exact(h3 x hxm).2 u (List.mem_of_mem_drop hu)
  ·exact h3 y (by simp[hy])
 ·have h4' := h4
  rw[hrest]at h4'
  rw[e1,e2]
  simp only[List.length_append,List.length_take,List.length_drop]at h4' ⊢
  omega
 ·rw [e1, e2]
  have:A.flatMap aD++(aD x).take j++vs++((aD x).drop (j+vs.length)++B.flatMap aD++rest)=(A++x'::B).flatMap aD++rest:=by
   simp[hv]
  rw[this]
  have hfl:((A++x'::B).flatMap aD).length=(A++x'::B).length*es:=eP _ fun y hy=>by
   rcases List.mem_append.1 hy with hy|hy
   ·exact(h3 y (by simp[hy])).1
   rcases List.mem_cons.1 hy with rfl|hy
   ·exact hx'l
   ·exact(h3 y (by simp[hy])).1
  rw[←hfl,List.take_left]
theorem hZ{μ μ':Mem}{base:Option Addr}{n es:Nat}{ys:List Value}(k:lW μ base n es ys)(h:μ.Le μ'):lW μ' base n es ys:=
 ⟨k.1,k.2.1,k.2.2.imp id fun⟨a,e,f⟩=>⟨a,e,fun j v hj=>h.cell (f j v hj)⟩⟩
theorem eO{h:Mem}{ad:Addr}{vs:List Value}{K:Mem→Prop}{r cap:Nat}{ty:TypeId}{es:Nat}{xs:List Value}{k j:Nat}{x:Value}(x':Value)(hr:RowO h r cap ty es xs)(hx:xs[k]? =some x)(ha:ad=⟨r,k*es+j,none⟩)(hv:aD x'=(aD x).take j++vs++(aD x).drop (j+vs.length))(hj:j+vs.length≤es)(ho:∀u∈vs,u.oneCell'=true)
  (hK:∀o,RowO (h.set r o) r cap ty es (xs.set k x')→K (h.set r o)):stoVC h ad vs K:=by
 subst ha
 obtain⟨cs,hc,h1,h2,h3,h4,h5⟩:=hr
 have hk:=(List.getElem?_eq_some_iff.1 hx).1
 refine sIn cs ty hc rfl ?_ (hK _ (RowO.cut h1 h2 h3 h4 h5 hx hv hj ho))
 show k*es+j+vs.length≤cs.length
 rw[h4]
 have:=Nat.mul_le_mul_right es (show k+1≤cap by omega)
 rw[Nat.succ_mul]at this
 omega
end Go.Vx
namespace Go.Vx
open Go.Proofs Classical
section
variable {X:Type} {es:Nat} {f:X→D}
theorem Prs.set{g':Mem}{p':X×Value}(h1:Own (f p'.1) g' (aD p'.2))(hn:(f p'.1).n=es)(hz:(aD p'.2).length=es∧∀u∈aD p'.2,u.oneCell'=true):∀{ps:List (X×Value)} {g:Mem} (k:Nat),Prs es f ps g→k<ps.length→Apart g g'→∃g2:Mem,Prs es f (ps.set k p') g2∧g2.Le (g.join g')
 |[],_,_,_,h,_=>absurd h (Nat.not_lt_zero _)
 |q::ps,g,0,h,_,ha=>by
  obtain⟨ga,gb,hpp,_,_,h3⟩:=h.uncons
  have ha2:Apart g' gb:=fun b hb=>by
   cases e:gb b with
   |none=>rfl
   |some o=>exact absurd (ha b (by rw[hpp.right b o e];simp)) hb
  refine⟨g'.join gb,Prs.cons (Parts.join ha2) h1 hn hz h3,eH (fun b o hb=>?_) (hpp.right.trans (Mem.le_join g g'))⟩
  rw[Mem.join_get]
  cases e:g b with
  |none=>exact hb
  |some o'=>have:=ha b (by rw[e];simp);rw[this]at hb;cases hb
 |q::ps,g,k+1,h,hk,ha=>by
  obtain⟨ga,gb,hpp,ho,hqn,h3⟩:=h.uncons
  have hab:Apart gb g':=fun b hb=>ha b (by
   cases e:gb b with
   |none=>exact absurd e hb
   |some o=>rw[hpp.right b o e];simp)
  obtain⟨g2,h4,h5⟩:=Prs.set h1 hn hz k h3 (Nat.lt_of_succ_lt_succ hk) hab
  have haa:Apart ga g2:=fun b hb=>by
   cases e:g2 b with
   |none=>rfl
   |some o=>
    have h6:=h5 b o e
    rw[Mem.join_get]at h6
    have hgb:=hpp.apart b hb
    rw[hgb]at h6
    have hg:g b≠none:=by
     cases e2:ga b with
     |none=>exact absurd e2 hb
     |some o2=>rw[hpp.left b o2 e2];simp
    have:=ha b hg
    rw[this]at h6;cases h6
  refine⟨ga.join g2,Prs.cons (Parts.join haa) ho hqn (h.size q (by simp)) h4,eH (hpp.left.trans (Mem.le_join g g')) (h5.trans ?_)⟩
  exact eH (hpp.right.trans (Mem.le_join g g')) (Mem.le_join_right ha)
end
theorem Grown.at{es:Nat}{μ μ1:Mem}{ds:List D}{us:List Value}(h:Grown es μ μ1 ds us)(hz:∀y∈us,(aD y).length=es∧∀u∈aD y,u.oneCell'=true){k:Nat}{d:D}{u:Value}(hd:ds[k]? =some d)(hu:us[k]? =some u):∃g':Mem,Own d g' (aD u):=by
 obtain⟨g,ho,_,_⟩:=h
 have w_:=Prs.zip (f:=id) (xs:=ds) (by simpa using ho) hz
 obtain⟨hP,-,-⟩:=w_
 obtain⟨g',_,h2⟩:=Prs.at hP (d,u) (List.mem_of_getElem? (i:=k) (by rw[List.getElem?_zip_eq_some];exact⟨hd,hu⟩))
 exact⟨g',h2⟩
theorem Grown.set{es:Nat}{μ μ1 μ2:Mem}{ds:List D}{us:List Value}{k:Nat}{d':D}{v':Value}(h:Grown es μ1 μ2 ds us)(hz:∀y∈us,(aD y).length=es∧∀u∈aD y,u.oneCell'=true)(hk:k<us.length)(hv:Fresh μ μ1 d' v')(h01:μ.Le μ1)(h12:μ1.Le μ2)(hn:d'.n=es)(hz':(aD v').length=es∧∀u∈aD v',u.oneCell'=true):Grown es μ μ2 (ds.set k d') (us.set k v'):=by
 obtain⟨g,ho,hg,hnew⟩:=h
 obtain⟨g',ho',hg',hnew'⟩:=hv
 have hl:=ho.len
 have hap:Apart g g':=fun b hb=>by
  have h1:=hnew b hb
  cases e:g' b with
  |none=>rfl
  |some o=>have:=hg' b o e;rw[h1]at this;cases this
 have w_:=Prs.zip (f:=id) (xs:=ds) (by simpa using ho) hz
 obtain⟨hP,e1,e2⟩:=w_
 obtain⟨g2,h2,h3⟩:=Prs.set (f:=id) (p':=(d',v')) ho'.cells hn hz' k hP (by rw[List.length_zip];omega) hap
 have h4:=h2.own
 rw[List.map_set,List.map_set,e2]at h4
 have e3:(ds.zip us).map (fun p=>id p.1)=ds:=e1
 rw[e3]at h4
 refine⟨g2,h4,fun b o hb=>?_,fun b hb=>?_⟩
 ·exact eH hg (hg'.trans h12) b o (h3 b o hb)
 ·cases e : g2 b with
  |none=>exact absurd e hb
  |some o=>
   have h5:=h3 b o e
   rw[Mem.join_get]at h5
   cases e6:g b with
   |some o2=>
    have h7:=hnew b (by rw[e6];simp)
    cases e8:μ b with
    |none=>rfl
    |some o3=>have:=h01 b o3 e8;rw[h7]at this;cases this
   |none=>
    rw[e6]at h5
    have h5:g' b=some o:=h5
    exact hnew' b (by rw[h5];simp)
end Go.Vx
namespace Go.Vx
open Go.Proofs Classical
def unfR(P:Pg→Value→Prop)(o:Option (Pg×Nat))(v:Value):Prop:=match o with
 |none=>v= .tuple #[.agg #[.slice none 0 0],.int .i64 0,.bool false]
 |some (y,n)=>∃tv,v= .tuple #[tv,.int .i64 n,.bool true]∧P y tv
theorem uX{μ:Mem}{c:List Gl}{p:Option Addr×Nat}(h:RepV μ (csD c) (.slice p.1 c.length p.2)):Sl μ 4 p.1 c.length (c.map Gl.d):=by
 have w_:=Rep.sl (xs:=c.map Gl.d) h
 obtain⟨b',c',e1,hs⟩:=w_
 have w_:=Value.slice.inj e1
 obtain⟨rfl,_,_⟩:=w_
 simpa using hs
theorem qFj{μ:Mem}{n:Int}{i:Nat}{t:Tm}{v:Value}(h:RepV μ (.sl 4 ([(T.var (n+i)).tm,t].map Tm.d)) v):RepV μ (eqG n i t).d (.agg #[.int .i64 2,.string ⟨#[]⟩,v,.slice none 0 0]):=by
 rw[eqG,Gl.d_eq]
 have hnil:RepV μ (.sl 4 (([]:List Gl).map Gl.d)) (.slice none 0 0):=⟨none,0,rfl,⟨Nat.zero_le _,Nat.zero_le _⟩,(fun _ h=>nomatch h),.inl rfl⟩
 exact⟨_,rfl,RepS.int (RepS.str (RepS.cons1 h (RepS.last hnil)))⟩
section
variable {μ:Mem}
set_option maxHeartbeats 4000000 in
set_option maxRecDepth 20000 in
theorem lN{p:Pg}{nm:ByteArray}{clause call:Int}{v:Value}(hp:RepV μ p.d v)(hcl:InR call):
  Spec Tryz.prog 90 [v,.string nm,.int .i64 clause,.int .i64 call] μ fun v μ'=>unfR (fun y tv=>Fresh μ μ' y.d tv) (rR p nm clause call) v:=by
 have hp0:=hp
 have w_:=Pg.inv hp
 obtain⟨q,rfl,hrl⟩:=w_
 refine Spec.mk Tryz.func90 (by kernel_rfl) ?_
 intro r4 r8
 refine cPl (qW hp0) fun v1 μ1 hle1 hR=>?_
 obtain rfl:=hR
 refine ifd (fun h=>?_) (fun h=>?_)
 ·refine rPl ?_
  rw[gB fun x hx=>by have:=hx.find;omega]
  rfl
 have w_:=Int.eq_ofNat_of_zero_le (show 0≤eF p nm by omega)
 obtain⟨k,hk⟩:=w_
 have hpo:p.Ok:=Classical.byContradiction fun e=>by rw[eF,if_neg e]at h;exact h (by decide)
 have hfind:eF p nm=relAt p nm:=by rw[eF,if_pos hpo]
 have w_:=gA (p:=p) (s:=nm) (by omega)
 obtain⟨k',r,hk',hr,-⟩:=w_
 obtain rfl:k=k':=by omega
 have hro:=hpo.2 _ r hr
 have har0:=hro.ar0
 have har4:=hro.ar4
 have hlo0:=hro.lo0
 have hlo8:=hro.lo8
 have w_:=Rl.elemA (hrl.mono hle1) hr
 obtain⟨adr,qr,helr,hrr,hbody⟩:=w_
 have hbody:RepV μ1 r.body.d (.agg (r.body.cs qr).toArray):=hbody
 have hX:∀x,UnfAt p nm clause call x→x.k=k∧x.r=r:=fun x hx=>by
  have h1:=hx.find
  have h2:x.k=k:=by omega
  have h3:=hx.rel
  rw[h2,hr]at h3
  exact⟨h2,(Option.some.inj h3).symm⟩
 rw[hk]
 refine eIn helr ?_
 refine cPl (gF r.body hbody hro.body (by have:=hro.size;omega)) fun v2 μ2 hle2 hR2=>?_
 obtain⟨o2,e⟩:∃o,r.body.cl=o:=⟨_,rfl⟩
 rw[e]at hR2
 match o2,e,hR2 with
 |none,e,hR2=>
  obtain rfl:=hR2
  refine iIn (fun _=>?_) (fun h=>nomatch h)
  refine rPl ?_
  rw[gB fun x hx=>by have h1:=hx.cl;rw[(hX x hx).2,e]at h1;cases h1]
  rfl
 |some cls,e,hR2=>
 obtain⟨tv,rfl,hLr⟩:=hR2
 obtain⟨pv,rfl⟩:=hLr.inv
 have hXc:∀x,UnfAt p nm clause call x→x.cls=cls:=fun x hx=>by
  have h1:=hx.cl
  rw[(hX x hx).2,e]at h1
  exact(Option.some.inj h1).symm
 refine iIn (fun h=>nomatch h) (fun _=>?_)
 refine ifd (fun h1=>?_) (fun h1=>?_)
 ·refine rPl ?_
  rw[gB fun x hx=>by have:=hx.cc;omega]
  rfl
 refine ifd (fun h2=>?_) (fun h2=>?_)
 ·refine rPl ?_
  rw[gB fun x hx=>by
   have h3:=hx.cc
   have h4:=(List.getElem?_eq_some_iff.1 hx.cls).1
   rw[hXc x hx]at h4;omega]
  rfl
 refine ifd (fun h3=>?_) (fun h3=>?_)
 ·refine rPl ?_
  rw[gB fun x hx=>by have:=hx.call0;omega]
  rfl
 have w_:=Int.eq_ofNat_of_zero_le (show 0≤clause by omega)
 obtain⟨c,rfl⟩:=w_
 have w_:=Int.eq_ofNat_of_zero_le (show 0≤call by omega)
 obtain⟨kc,rfl⟩:=w_
 have w_:=aSo (l:=cls) (i:=c) (by omega)
 obtain⟨l,hl⟩:=w_
 have hsl:=(Cls.sl hLr).1
 have w_:=cF hsl hl
 obtain⟨adl,pl,hell,hrll⟩:=w_
 have hls:=uX hrll
 have hbnd:=Gl.cl_bnd r.body e
 have hsz:=hro.size
 have hll:=hbnd.1 l (mAt hl)
 have hcll:=hbnd.2
 refine eIn hell ?_
 refine cPl (sE hls (by omega) (show(kc:Int)≤9223372036854775807 from hcl.2)) fun v3 μ3 hle3 hR3=>?_
 obtain⟨rfl,e3⟩:=hR3
 obtain rfl:=e3.symm
 obtain⟨oa,ea⟩:∃o,bK l kc=o:=⟨_,rfl⟩
 rw[ea]
 match oa,ea with
 |none,ea=>
  refine ifd (fun _=>?_) (fun h=>absurd (show pS none<0 by decide) h)
  refine rPl ?_
  rw[gB fun x hx=>by
   have h4:=hx.cls
   rw[hXc x hx,show x.c=c by have:=hx.cc;omega,hl]at h4
   have h5:=hx.pos
   rw[←Option.some.inj h4,Int.toNat_natCast,ea]at h5
   cases h5]
  rfl
 |some a,ea=>
 have w_:=gX ea
 obtain⟨g,hg,h9⟩:=w_
 rw[show pS (some a)=(a:Int)from rfl]
 refine ifd (fun h=>absurd h (by omega)) (fun _=>?_)
 have w_:=Gl.elem hls hg
 obtain⟨adg,pg,helg,hrg⟩:=w_
 have hal:=(List.getElem?_eq_some_iff.1 hg).1
 refine eIn hell ?_
 refine eIn helg ?_
 intro r15
 have hgm:g∈r.body.all:=(Gl.cl_all r.body e l (mAt hl) g (mAt hg)).1
 have w_:=hro.calls.all g hgm h9
 obtain⟨j,q2,hj,hq2,harq⟩:=w_
 refine cGv (dA (RepV.mono (hle1.trans hle2) hp0)) ?_
 rw[hj]
 have w_:=Rl.elemA (hrl.mono (hle1.trans hle2)) hq2
 obtain⟨adq,qq,helq,hrq,hbodyq⟩:=w_
 have hbodyq:RepV μ2 q2.body.d (.agg (q2.body.cs qq).toArray):=hbodyq
 have hqo:=hpo.2 _ q2 hq2
 refine eIn helq ?_
 intro r16
 refine cPl (gF q2.body hbodyq hqo.body (by have:=hqo.size;omega)) fun v4 μ4 hle4 hR4=>?_
 have hAt:UnfAt p nm c kc ⟨k,r,cls,c,l,a,g,q2⟩:=⟨hk,hr,e,rfl,hl,by omega,by rw[Int.toNat_natCast];exact ea,hg,j,hj,hq2⟩
 obtain⟨o4,e4⟩:∃o,q2.body.cl=o:=⟨_,rfl⟩
 rw[e4]at hR4
 match o4,e4,hR4 with
 |none,e4,hR4=>
  obtain rfl:=hR4
  refine iIn (fun _=>?_) (fun h=>nomatch h)
  refine rPl ?_
  rw[lG hAt fun ds hd=>by have h1:=hd.1;rw[show q2.body.cl=none from e4]at h1;cases h1]
  rfl
 |some ds,e4,hR4=>
 obtain⟨tv,rfl,hDr⟩:=hR4
 obtain⟨pd,rfl⟩:=hDr.inv
 refine iIn (fun h=>nomatch h) (fun _=>?_)
 have hle14:=hle2.trans hle4
 have helr4:=helr.mono hle14
 have hLr4:=RepV.mono hle4 hLr
 have hell4:=hell.mono hle4
 have hrll4:=RepV.mono hle4 hrll
 have hrg4:=RepV.mono hle4 hrg
 refine eIn helr4 ?_
 refine eIn helr4 ?_
 refine aB (by omega) (by omega) ?_
 intro r19
 have w_:=Rep.src hLr4
 obtain⟨vc,hvc,hvcl,hvcc,hvcs⟩:=w_
 have w_:=Rep.src (ds:=l.map Gl.d) hrll4
 obtain⟨vl,hvl,hvll,hvlc,hvls⟩:=w_
 have hcl:=(List.getElem?_eq_some_iff.1 hl).1
 have hgT:=Gl.termsW hrg4
 have hgts:Sl μ4 4 pg.1.1 g.terms.length (g.terms.map Tm.d):=by
  have w_:=Rep.sl (xs:=g.terms.map Tm.d) hgT
  obtain⟨b',c',e1,hs⟩:=w_
  have w_:=Value.slice.inj e1
  obtain⟨rfl,_,_⟩:=w_
  simpa using hs
 have hSg:g.Sh:=hro.body.all r.body g hgm
 have hg4:=hSg.lens
 obtain⟨N,hN⟩:∃N:Int,r.arity+r.locals=N:=⟨_,rfl⟩
 rw[hN]
 have hN0:0≤N∧N≤1000:=by omega
 have hDb:=Gl.cl_bnd q2.body e4
 have hqsz:=hqo.size
 have hDl:=hDb.1
 have hDm:=hDb.2
 intro r112
 refine aG 0 c rfl rfl (by omega) (by omega) ?_
 refine aJ _ (hvcs 0 c (by omega) (by omega)) ?_
 refine gIn ?_ ?_ fun b1 c1 _=>?_
 ·show(0+_)*24≤_;simp;omega
 ·exact Nat.le_trans (m:=2000000000) (by simp;omega) (by decide)
 have hx0:Rows μ4 1 ((cls.take c).map csD) (([]:List Value)++(vc.drop 0).take (c-0)):=by
  have:=(hvc.drop 0).take (c-0)
  simpa[List.map_take]using this
 refine lFz (fun z:Nat×Option Nat×Nat×List Value×Mem=>z.1≤ds.length∧μ4.Le z.2.2.2.2∧z.2.2.2.2 r19=some (.cells #[.int .i64 N] 3 (0,0))∧Rows z.2.2.2.2 1 ((cls.take c++(ds.take z.1).map (gC l a g N)).map csD) z.2.2.2.1)
  (fun (i, b, co, ys, μ') => ⟨[(2, .val (.int .i64 c)), (4, .loc 0 r4 0), (8, .loc 1 r8 0), (11, .val (.int .i64 k)), (12, .val (.slice pv.1 cls.length pv.2)), (14, .val (.int .i64 a)), (15, .loc 2 r15 0), (16, .loc 3 r16 0), (17, .val (.slice pd.1 ds.length pd.2)), (19, .val (.pointer (some ⟨r19, 0, none⟩))), (20, .row 5 b ys.length co), (117, .val (.slice pd.1 ds.length pd.2)), (118, .val (.int .i64 ds.length)), (119, .val (.int .i64 i))],
   [(0,some (.cells r4 [.val (.slice q.1 p.rels.length q.2)] 25)),(1,some (.cells r8 [.val (.slice none 0 0)] 25)),(2,some (.cells r15 (vals (g.cs pg)) 61)),(3,some (.cells r16 (vals (q2.cs qq)) 63)),(5,some (.row b co 59 1 ys))],6,μ',Mem.nil⟩) (fun z=>ds.length-z.1) [4] (fun(_,_,_,_,_)=>⟨rfl,rfl⟩)
  (fun μ5 hle5 hno5 hat5=>⟨(0,b1,c1,([]:List Value)++(vc.drop 0).take (c-0),μ5),⟨Nat.zero_le _,hle5,hat5,by simpa using hx0.mono hle5⟩,⟨rfl,rfl,rfl,rfl,rfl,rfl,rfl,rfl,rfl,rfl,rfl,rfl,rfl,rfl,trivial⟩,⟨rfl,rfl,rfl,rfl,rfl,trivial⟩,rfl,rfl⟩) ?_
 rintro⟨i,b,co,ys,μ5⟩ ⟨hi,hle5,hat5,hrows⟩
 dsimp only at hi hle5 hat5 hrows
 have hyl:=hrows.len
 simp only[List.length_map,List.length_append,List.length_take]at hyl
 refine ifd (fun hlt=>?_) (fun hlt=>?_)
 ·have w_ := aSo (l := ds) (i := i) (by omega)
  obtain⟨d,hd⟩:=w_
  have w_:=cF ((Cls.sl hDr).1.mono hle5) hd
  obtain⟨adi,pi,heli,hri⟩:=w_
  have hdl:=hDl d (mAt hd)
  have hds:=uX hri
  refine eIn heli ?_
  intro r123
  refine eIn (hell4.mono hle5) ?_
  refine aG 0 a rfl rfl (by omega) (by omega) ?_
  refine aJ _ (hZ (hvls 0 a (by omega) (by omega)) hle5) ?_
  refine gIn ?_ ?_ fun b2 c2 _=>?_
  ·show(0+_)*72≤_;simp;omega
  ·exact Nat.le_trans (m:=2000000000) (by simp;omega) (by decide)
  have hy0:Rows μ5 4 ((l.take a).map Gl.d) (([]:List Value)++(vl.drop 0).take (a-0)):=by
   have:=(hvl.drop 0).take (a-0)
   simpa[List.map_take]using this.mono hle5
  refine lFz (fun z:Nat×Option Nat×Nat×List Value×Mem=>z.1≤g.terms.length∧μ5.Le z.2.2.2.2∧Rows z.2.2.2.2 4 ((l.take a++(kY N g.terms).take z.1).map Gl.d) z.2.2.2.1)
   (fun (j, b', co', zs, μ') => ⟨[(2, .val (.int .i64 c)), (4, .loc 0 r4 0), (8, .loc 1 r8 0), (11, .val (.int .i64 k)), (12, .val (.slice pv.1 cls.length pv.2)), (14, .val (.int .i64 a)), (15, .loc 2 r15 0), (16, .loc 3 r16 0), (17, .val (.slice pd.1 ds.length pd.2)), (19, .val (.pointer (some ⟨r19, 0, none⟩))), (20, .row 5 b ys.length co), (117, .val (.slice pd.1 ds.length pd.2)), (118, .val (.int .i64 ds.length)), (119, .val (.int .i64 i)), (22, .val (.slice pi.1 d.length pi.2)), (23, .row 6 b' zs.length co'), (132, .val (.slice pg.1.1 g.terms.length pg.1.2)), (133, .val (.int .i64 g.terms.length)), (134, .val (.int .i64 j))],
    [(0,some (.cells r4 [.val (.slice q.1 p.rels.length q.2)] 25)),(1,some (.cells r8 [.val (.slice none 0 0)] 25)),(2,some (.cells r15 (vals (g.cs pg)) 61)),(3,some (.cells r16 (vals (q2.cs qq)) 63)),(5,some (.row b co 59 1 ys)),(6,some (.row b' co' 61 4 zs))],7,μ',Mem.nil⟩) (fun z=>g.terms.length-z.1) [] (fun(_,_,_,_,_)=>⟨rfl,rfl⟩)
   ⟨(0,b2,c2,([]:List Value)++(vl.drop 0).take (a-0),μ5),⟨Nat.zero_le _,Mem.Le.refl _,by simpa using hy0⟩,⟨⟨rfl,rfl,rfl,rfl,rfl,rfl,rfl,rfl,rfl,rfl,rfl,rfl,rfl,rfl,rfl,rfl,rfl,rfl,rfl,trivial⟩,⟨rfl,rfl,rfl,rfl,rfl,rfl,trivial⟩,rfl,rfl⟩⟩ ?_
  clear hy0
  rintro⟨j,b3,c3,zs,μ6⟩ ⟨hj,hle6,hrows3⟩
  dsimp only at hj hle6 hrows3
  have hzl:=hrows3.len
  simp only[List.length_map,List.length_append,List.length_take,iE]at hzl
  refine ifd (fun hlt3=>?_) (fun hlt3=>?_)
  ·have w_ := aSo (l := g.terms) (i := j) (by omega)
   obtain⟨t,ht⟩:=w_
   have w_:=Tm.elem (hgts.mono (hle5.trans hle6)) ht
   obtain⟨adt,pt,helt,hrt⟩:=w_
   refine eIn helt ?_
   intro r25
   refine bN [.int .i64 N] rfl (bJ (hle6 _ _ hat5)) ?_
   refine aB (by omega) (by omega) ?_
   refine cGv (pO _) ?_
   intro r145 r147
   refine gIn ?_ ?_ fun b4 c4 _=>?_
   ·show(zs.length+1)*72≤_;omega
   ·exact Nat.le_trans (m:=100000000) (show zs.length+1≤_ by omega) (by decide)
   refine aB (by omega) (by omega) ⟨[8],fun μ7 hle7 hno7 hat7=>?_⟩
   have hE:RepV μ7 (eqG N j t).d _:=qFj (Rows.sl hat7 (.cons (RepV.mono hle7 (gP (N+j))) (Tm.d_n _) (.cons (RepV.mono hle7 hrt) (Tm.d_n _) .nil)) (show 2≤maxLen by decide))
   refine⟨(j+1,b4,c4,_,μ7),⟨by dsimp only;omega,hle6.trans hle7,?_⟩,by dsimp only;omega,⟨⟨rfl,rfl,rfl,rfl,rfl,rfl,rfl,rfl,rfl,rfl,rfl,rfl,rfl,rfl,rfl,rfl,rfl,rfl,rfl,trivial⟩,⟨rfl,rfl,rfl,rfl,rfl,rfl,trivial⟩,rfl,rfl⟩⟩
   dsimp only
   rw[yM ht,←List.append_assoc,List.map_append (l₂:=[eqG N j t])]
   exact(hrows3.mono hle7).append (Rows.one hE (Gl.d_n _))
  obtain rfl:j=g.terms.length:=by omega
  rw[List.take_of_length_le (l:=kY N g.terms) (by rw[iE];omega)]at hrows3
  refine lIn (fun z:Nat×Option Nat×Nat×List Value×Mem=>z.1≤d.length∧μ6.Le z.2.2.2.2∧Rows z.2.2.2.2 4 ((l.take a++kY N g.terms++(d.take z.1).map (Gl.put (shF N))).map Gl.d) z.2.2.2.1)
   (fun (j, b', co', zs, μ') => ⟨[(2, .val (.int .i64 c)), (4, .loc 0 r4 0), (8, .loc 1 r8 0), (11, .val (.int .i64 k)), (12, .val (.slice pv.1 cls.length pv.2)), (14, .val (.int .i64 a)), (15, .loc 2 r15 0), (16, .loc 3 r16 0), (17, .val (.slice pd.1 ds.length pd.2)), (19, .val (.pointer (some ⟨r19, 0, none⟩))), (20, .row 5 b ys.length co), (117, .val (.slice pd.1 ds.length pd.2)), (118, .val (.int .i64 ds.length)), (119, .val (.int .i64 i)), (23, .row 6 b' zs.length co'), (150, .val (.slice pi.1 d.length pi.2)), (151, .val (.int .i64 d.length)), (152, .val (.int .i64 j))],
    [(0,some (.cells r4 [.val (.slice q.1 p.rels.length q.2)] 25)),(1,some (.cells r8 [.val (.slice none 0 0)] 25)),(2,some (.cells r15 (vals (g.cs pg)) 61)),(3,some (.cells r16 (vals (q2.cs qq)) 63)),(5,some (.row b co 59 1 ys)),(6,some (.row b' co' 61 4 zs))],7,μ',Mem.nil⟩) (fun z=>d.length-z.1)
   (0,b3,c3,zs,μ6) ⟨Nat.zero_le _,Mem.Le.refl _,by simpa using hrows3⟩ (fun(_,_,_,_,_)=>⟨rfl,rfl⟩) ⟨⟨rfl,rfl,rfl,rfl,rfl,rfl,rfl,rfl,rfl,rfl,rfl,rfl,rfl,rfl,rfl,rfl,rfl,rfl,trivial⟩,⟨rfl,rfl,rfl,rfl,rfl,rfl,trivial⟩,rfl,rfl⟩ ?_
  clear hrows3
  rintro⟨j,b5,c5,ws,μ7⟩ ⟨hj2,hle7,hrows4⟩
  dsimp only at hj2 hle7 hrows4
  have hwl:=hrows4.len
  simp only[List.length_map,List.length_append,List.length_take,iE]at hwl
  refine ifd (fun hlt4=>?_) (fun hlt4=>?_)
  ·have w_ := aSo (l := d) (i := j) (by omega)
   obtain⟨y,hy⟩:=w_
   have w_:=Gl.elem (hds.mono (hle6.trans hle7)) hy
   obtain⟨ady,py,hely,hry⟩:=w_
   refine eIn hely ?_
   intro r27
   have hyS:y.Sh:=hqo.body.all q2.body y (Gl.cl_all q2.body e4 d (mAt hd) y (mAt hy)).1
   refine cPl (xN y (wK hN0 ((hle6.trans hle7) _ _ hat5)) hry hyS) fun v8 μ8 hle8 hR8=>?_
   rw[Gl.withO_all (fun _=>rfl)]at hR8
   obtain⟨tv,rfl,htv⟩:=hR8
   have w_:=Gl.invV htv.rep
   obtain⟨q8,rfl⟩:=w_
   intro r28 r164
   refine gIn ?_ ?_ fun b4 c4 _=>?_
   ·show(ws.length+1)*72≤_;omega
   ·exact Nat.le_trans (m:=100000000) (show ws.length+1≤_ by omega) (by decide)
   refine aB (by omega) (by omega) ⟨(j+1,b4,c4,_,μ8),⟨by dsimp only;omega,hle7.trans hle8,?_⟩,by dsimp only;omega,⟨⟨rfl,rfl,rfl,rfl,rfl,rfl,rfl,rfl,rfl,rfl,rfl,rfl,rfl,rfl,rfl,rfl,rfl,rfl,trivial⟩,⟨rfl,rfl,rfl,rfl,rfl,rfl,trivial⟩,rfl,rfl⟩⟩
   dsimp only
   rw[List.take_add_one,hy,Option.toList_some,List.map_append (f:=Gl.put (shF N)),←List.append_assoc,List.map_append (f:=Gl.d)]
   exact(hrows4.mono hle8).append (Rows.one htv.rep (Gl.d_n _))
  obtain rfl:j=d.length:=by omega
  rw[List.take_length]at hrows4
  have hle57:=hle5.trans (hle6.trans hle7)
  refine eIn (hell4.mono hle57) ?_
  refine aB (by omega) (by omega) ?_
  refine aG (a+1) l.length rfl rfl (by omega) (by omega) ?_
  refine aJ _ (hZ (hvls (a+1) l.length (by omega) (Nat.le_refl _)) hle57) ?_
  refine gIn ?_ ?_ fun b6 c6 _=>?_
  ·show(ws.length+_)*72≤_;simp;omega
  ·exact Nat.le_trans (m:=2000000000) (by simp;omega) (by decide)
  have hz0:Rows μ7 4 ((gC l a g N d).map Gl.d) (ws++(vl.drop (a+1)).take (l.length-(a+1))):=by
   have h1:=((hvl.drop (a+1)).take (l.length-(a+1))).mono hle57
   have h2:=hrows4.append h1
   have e5:((l.map Gl.d).drop (a+1)).take (l.length-(a+1))=(l.drop (a+1)).map Gl.d:=by
    rw[List.take_of_length_le (by simp),List.map_drop]
   rw[e5,←List.map_append]at h2
   exact h2
  intro μ8 hle8 hno8 hat8 r177
  refine gIn ?_ ?_ fun b7 c7 _=>?_
  ·show(ys.length+1)*24≤_;omega
  ·exact Nat.le_trans (m:=100000000) (show ys.length+1≤_ by omega) (by decide)
  have hC:RepV μ8 (csD (gC l a g N d)) _:=Rows.sl hat8 (hz0.mono hle8) (Nat.le_trans (m:=2000000000) (by simp;omega) (by decide))
  refine aB (by omega) (by omega) ⟨[],⟨(i+1,b7,c7,_,μ8),⟨by dsimp only;omega,hle57.trans hle8,(hle6.trans (hle7.trans hle8)) _ _ hat5,?_⟩,by dsimp only;omega,⟨⟨rfl,rfl,rfl,rfl,rfl,rfl,rfl,rfl,rfl,rfl,rfl,rfl,rfl,rfl,trivial⟩,⟨rfl,rfl,rfl,rfl,rfl,trivial⟩,rfl,rfl⟩⟩⟩
  dsimp only
  rw[List.take_add_one,hd,Option.toList_some,List.map_append (f:=gC l a g N),←List.append_assoc,List.map_append (f:=csD)]
  exact(hrows.mono ((hle6.trans (hle7.trans hle8)))).append (Rows.one hC rfl)
 obtain rfl:i=ds.length:=by omega
 rw[List.take_length]at hrows
 refine aB (by omega) (by omega) ?_
 refine aG (c+1) cls.length rfl rfl (by omega) (by omega) ?_
 refine aJ _ (hZ (hvcs (c+1) cls.length (by omega) (Nat.le_refl _)) hle5) ?_
 refine gIn ?_ ?_ fun b8 c8 _=>?_
 ·show(ys.length+_)*24≤_;simp;omega
 ·exact Nat.le_trans (m:=2000000000) (by simp;omega) (by decide)
 obtain⟨X,hXe⟩:∃X:UnfD,X=⟨k,r,cls,c,l,a,g,q2⟩:=⟨_,rfl⟩
 rw[←hXe]at hAt
 have hLs:X.ls ds=cls.take c++ds.map (gC l a g N)++cls.drop (c+1):=by rw[hXe,←hN];rfl
 have hall0:Rows μ5 1 ((X.ls ds).map csD) (ys++(vc.drop (c+1)).take (cls.length-(c+1))):=by
  have h1:=((hvc.drop (c+1)).take (cls.length-(c+1))).mono hle5
  have h2:=hrows.append h1
  have e5:((cls.map csD).drop (c+1)).take (cls.length-(c+1))=(cls.drop (c+1)).map csD:=by
   rw[List.take_of_length_le (by simp),List.map_drop]
  rw[e5,←List.map_append,←hLs]at h2
  exact h2
 have hLl:(X.ls ds).length≤1000:=by
  rw[hLs];simp only[List.length_append,List.length_take,List.length_map,List.length_drop];omega
 have hLc:∀z∈X.ls ds,z.length≤1000:=fun z hz=>by
  rw[hLs]at hz
  rcases List.mem_append.1 hz with hz|hz
  ·rcases List.mem_append.1 hz with hz | hz
   ·have:=hbnd.1 z (List.mem_of_mem_take hz);omega
   ·have w_ := List.mem_map.1 hz
    obtain⟨d,hd,rfl⟩:=w_
    have:=hDl d hd
    rw[gC]
    simp only[List.length_append,List.length_take,List.length_map,List.length_drop,iE];omega
  ·have:=hbnd.1 z (List.mem_of_mem_drop hz);omega
 have hall0l:=hall0.len
 rw[List.length_map]at hall0l
 refine aS [5] ?_
 intro μ6 hle6 hno6 hat6
 have hLr6:Cls μ6 (X.ls ds) _:=Rows.sl hat6 (hall0.mono hle6) (Nat.le_trans (m:=2000000000) (by omega) (by decide))
 have hCG:=mY (cap:=c8) (Cls.sl hLr6).1 (by omega) (fun z hz=>by have:=hLc z hz;omega)
 rw[hall0l]at hCG
 refine bM hCG fun v7 μ7 hle7 hR7=>?_
 have hle07:=hle1.trans (hle14.trans (hle5.trans (hle6.trans hle7)))
 by_cases hok:qGo (X.ls ds)
 rotate_left
 ·rw [cgO, if_neg hok] at hR7
  obtain rfl:=hR7
  intro r30
  refine iIn (fun _=>?_) (fun h=>nomatch h)
  refine rPl ?_
  rw[lG hAt fun ds' hd=>by
   have h1:=hd.1
   rw[hXe]at h1
   rw[show q2.body.cl=some ds' from h1]at e4
   cases e4;exact hok hd.2.1]
  rfl
 rw[cgO,if_pos hok]at hR7
 obtain⟨tv,rfl,htv⟩:=hR7
 have w_:=Gl.invV htv.rep
 obtain⟨q7,rfl⟩:=w_
 intro r30
 refine iIn (fun h=>nomatch h) (fun _=>?_)
 have hne:p.rels≠[]:=fun e=>by rw[e]at hr;cases hr
 refine cOw (tV (RepV.mono hle07 hp0) hpo hne) fun v8 μ8 H8 hle8 hap8 hR8=>?_
 obtain⟨rb,rc,rty,us,rfl,hrow,hgr⟩:=hR8
 have hul:=hgr.len
 rw[List.length_map]at hul
 have hkl:=(List.getElem?_eq_some_iff.1 hr).1
 intro r32
 refine eIn (helr.mono (hle14.trans (hle5.trans (hle6.trans (hle7.trans hle8))))) ?_
 have hqlo0:=hqo.lo0
 have hqlo8:=hqo.lo8
 have hqar0:=hqo.ar0
 have hqar4:=hqo.ar4
 refine aB (by omega) (by omega) ?_
 refine aB (by omega) (by omega) ?_
 have w_:=aSo (l:=us) (i:=k) (by omega)
 obtain⟨u,hu⟩:=w_
 have hz:∀y∈us,(aD y).length=7∧∀u∈aD y,u.oneCell'=true:=by
  obtain⟨_,_,_,_,hz,_⟩:=hrow
  exact hz
 have w_:=hgr.at hz (k:=k) (show(p.rels.map Rl.d)[k]? =some r.d by simp[hr]) hu
 obtain⟨go,hgo⟩:=w_
 have w_:=Rl.ownR hgo
 obtain⟨pp,hpp,-⟩:=w_
 obtain⟨LL,hLL⟩:∃LL:Int,r.locals+q2.arity+q2.locals=LL:=⟨_,rfl⟩
 rw[hLL]
 refine cB ⟨rb,0,none⟩ rfl (by omega) (by omega) ?_
 refine eO (k:=k) (j:=2) (x:=u) (.agg #[.string r.name,.int .i64 r.arity,.int .i64 LL,.int .i64 r.body.kind,.string r.body.name,.slice pp.1.1 r.body.terms.length pp.1.2,.slice pp.2.1 r.body.goals.length pp.2.2]) hrow hu (by simp[Addr.add_lit']) (by rw[hpp];rfl) (show 2+1≤7 by decide) (by simp[Value.oneCell']) fun o1 hrow1=>?_
 have hap9:=hap8.set (o:=o1) (kA hrow hap8 (.inl rfl))
 have hu1:(us.set k (Value.agg #[.string r.name,.int .i64 r.arity,.int .i64 LL,.int .i64 r.body.kind,.string r.body.name,.slice pp.1.1 r.body.terms.length pp.1.2,.slice pp.2.1 r.body.goals.length pp.2.2]))[k]? =some _:=List.getElem?_set_self (by omega)
 refine cB ⟨rb,0,none⟩ rfl (by omega) (by omega) ?_
 refine eO (k:=k) (j:=3) (.agg (Value.string r.name:: .int .i64 r.arity:: .int .i64 LL::(cgG (X.ls ds)).cs q7).toArray) hrow1 hu1 (by simp[Addr.add_lit']) rfl (show 3+4≤7 by decide) (by simp[Value.oneCell']) fun o2 hrow2=>?_
 have hap10:=hap9.set (o:=o2) (kA hrow1 hap9 (.inl rfl))
 rw[List.set_set]at hrow2
 have hXpg:X.pg p ds=⟨p.rels.set k ⟨r.name,r.arity,LL,cgG (X.ls ds)⟩⟩:=by rw[UnfD.pg,hXe,←hLL]
 have hnew:Fresh μ μ7 (Rl.mk r.name r.arity LL (cgG (X.ls ds))).d (.agg (Value.string r.name:: .int .i64 r.arity:: .int .i64 LL::(cgG (X.ls ds)).cs q7).toArray):=by
  rw[Rl.d_eq]
  have h1:=FreshS.st (FreshS.str (n:=r.name) (FreshS.int (n:=r.arity) (FreshS.int (n:=LL) (FreshS.cons htv hle7 (Mem.Le.refl _) FreshS.nil))))
  exact h1.mono (hle1.trans (hle14.trans (hle5.trans hle6))) (Mem.Le.refl _)
 have hgr2:=hgr.set hz (k:=k) (by omega) hnew hle07 hle8 (Rl.d_n _) ⟨rfl,by simp[aD,Value.oneCell',Gl.cs]⟩
 rw[←List.map_set]at hgr2
 have hrow3:RowO ((H8.set rb o1).set rb o2) rb rc rty 7 (us.set k (.agg (Value.string r.name:: .int .i64 r.arity:: .int .i64 LL::(cgG (X.ls ds)).cs q7).toArray)):=hrow2
 have hap11:Apart μ8 ((H8.set rb o1).set rb o2):=hap10
 generalize hHH:(H8.set rb o1).set rb o2=HH at hrow3 hap11
 have hb9:∀μ',Apart μ' HH→μ' rb=none:=fun μ' k=>k.symm rb (by
  obtain⟨cs,hc,_⟩:=hrow3
  rw[hc];simp)
 have hF:∀μ',μ8.Le μ'→Apart μ' HH→Fresh μ (μ'.join HH) (X.pg p ds).d (.agg #[.slice (some ⟨rb,0,none⟩) us.length rc]):=fun μ' hl hA=>by
  have k:=(hgr2.mono hl).fresh (b:=some rb) (cap:=rc) ((hle07.trans hle8).trans hl) (Mem.le_join μ' HH) (fun r0 hr0=>by cases hr0;exact hb9 μ' hA) (hrow3.rowAt (Mem.le_join_right hA)) hrow3.len
  rw[List.length_set]at k
  rw[hXpg,Pg.d_eq]
  exact(FreshS.st (FreshS.cons k ((hle07.trans hle8).trans (hl.trans (Mem.le_join _ _))) (Mem.Le.refl _) FreshS.nil)).mono (Mem.Le.refl _) (Mem.Le.refl _)
 have hRP:=(hF μ8 (Mem.Le.refl _) hap11).rep
 refine cOw (SpecH.lend hap11 (dO hRP)) fun v9 μ9 H9 hle9 hap12 hR9=>?_
 obtain⟨rfl,μ10,rfl,hle10,e9⟩:=hR9
 refine aL (fun hbad=>?_) (fun hgood=>?_)
 ·refine rPl ?_
  rw[lG hAt fun ds' hd=>by
   have h1:=hd.1
   rw[hXe]at h1
   rw[show q2.body.cl=some ds' from h1]at e4
   cases e4;exact hbad hd.2.2]
  rfl
 ·refine cG _ Mem.nil (Parts.nil_right _) ?_
  have hcl:X.q.body.cl=some ds:=by rw[hXe];exact e4
  rw[sJ hAt ⟨hcl,hok,hgood⟩]
  exact⟨_,rfl,hF μ9 hle9 hap12⟩
end
end Go.Vx
namespace Go.Vx
open Go.Proofs Classical
structure FindAt (p:Pg) (nm:ByteArray) (clause:Int) (k:Nat) (r:Rl) (cls:List (List Gl)) (c:Nat) (l:List Gl):Prop where
 find:eF p nm=k
 rel:p.rels[k]? =some r
 cl:r.body.cl=some cls
 cc:clause=c
 cls:cls[c]? =some l
theorem lU{p:Pg}(hw:p.d.wd){i:Nat}{r:Rl}(h:p.rels[i]? =some r):r.d.wd∧r.body.d.wd:=by
 have h1:D.wds (p.rels.map Rl.d):=by rw[Pg.d_eq]at hw;exact hw.1
 have h2:=D.wds_mem h1 _ (List.mem_map_of_mem (mAt h))
 refine⟨h2,?_⟩
 rw[Rl.d_eq]at h2;exact h2.2.2.2.1
theorem Gl.eta(g:Gl):g= .mk g.kind g.name g.terms g.goals:=by cases g;rfl
theorem Gl.put_congr{f f':Int→Option T}:∀g:Gl,(∀x∈g.all,∀t∈x.terms,∀n∈t.toT.vars,f n=f' n)→g.put f=g.put f':=
 Gl.ind fun g ih h=>by
  rw[Gl.eta (g.put f),Gl.eta (g.put f'),Gl.put_kind,Gl.put_kind,Gl.put_name,Gl.put_name,Gl.put_terms,Gl.put_terms,Gl.put_goals,Gl.put_goals]
  congr 1
  ·exact List.map_congr_left fun t ht=>by
    rw[T.subst_congrD t.toT fun n hn=>by rw[h g (Gl.all_self g) t ht n hn]]
  ·exact List.map_congr_left fun x hx=>ih x hx fun y hy=>h y (Gl.all_sub hx hy)
theorem Gl.all_thru:∀(g:Gl) {x y:Gl},y∈g.all→x∈y.all→x∈g.all:=
 Gl.ind fun g ih x y hy hx=>by
  rw[Gl.all_eq]at hy
  rcases List.mem_cons.1 hy with rfl|hy
  ·exact hx
  ·have w_ := List.mem_flatMap.1 hy
   obtain⟨z,hz,hy⟩:=w_
   exact Gl.all_sub hz (ih z hz hy hx)
theorem qCb{p:Pg}{j:Nat}{q2:Rl}(hqo:RelOk p j q2){N:Int}(h0:0≤N)(h1:N≤1000){y:Gl}(hy:y∈q2.body.all):(y.put (shF N)).d.wd:=by
 have hl:=hqo.lo8
 have ha:=hqo.ar4
 have e:y.put (shF N)=y.put fun n=>if 0≤n∧n≤1000 then some (.var (n+N))else none:=Gl.put_congr y fun x hx t ht n hn=>by
  have hxm:=Gl.all_thru q2.body hy hx
  have hts:=(hqo.body.all q2.body x hxm).top.tm t ht
  have w_:=hts.lift
  obtain⟨z,hz,rfl⟩:=w_
  have h2:=hqo.vars n (List.mem_flatMap.2 ⟨x,hxm,by rw[Gl.tvars];exact List.mem_flatMap.2 ⟨_,List.mem_map_of_mem ht,hn⟩⟩)
  rw[T.toT_tm]at hn
  have h3:=(T.good_vars hz.1 n hn).1
  rw[shF,if_pos ⟨h3,by omega⟩]
 rw[e]
 refine Gl.put_Sh_wd (fun n z hz=>?_) (hqo.body.all q2.body y hy)
 split at hz
 ·cases hz
  show 0≤n+N∧n+N≤100000
  omega
 ·cases hz
theorem qRd{N:Int}(h0:0≤N)(h1:N≤1000){i:Nat}(hi:i≤1000){t:Tm}(ht:t.d.wd):(eqG N i t).d.wd:=by
 refine Gl.wd_mk ⟨show(-9223372036854775808:Int)≤2 by decide,show(2:Int)≤9223372036854775807 by decide⟩ (Nat.zero_le _) (fun x hx=>?_) fun x hx=>absurd hx List.not_mem_nil
 rcases List.mem_cons.1 (show x∈[(T.var (N+i)).tm,t]from hx)with rfl|hx
 ·exact T.good_wd (x:=T.var (N+i)) ⟨by omega,by omega⟩
 ·rw[List.mem_singleton.1 hx];exact ht
theorem qSi{p:Pg}{k j:Nat}{r q2:Rl}{cls ds L:List (List Gl)}{c a:Nat}{l:List Gl}{g:Gl}{N:Int}(hw:p.d.wd)(hr:p.rels[k]? =some r)(e:r.body.cl=some cls)(hl:cls[c]? =some l)(hg:l[a]? =some g)(_hq2:p.rels[j]? =some q2)(hqo:RelOk p j q2)(h0:0≤N)(h1:N≤1000)
  (hLs:L=cls.take c++ds.map (gC l a g N)++cls.drop (c+1)) (hD:∀d∈ds,∀y∈d,y∈q2.body.all) (hg4:g.terms.length≤1000):∀z∈L,∀y∈z,y.d.wd:=fun z hz y hy=>by
 have hbw:=Gl.all_wd r.body (lU hw hr).2
 have hcls:∀z∈cls,∀y∈z,y.d.wd:=fun z hz y hy=>hbw y (Gl.cl_all r.body e z hz y hy).1
 rw[hLs]at hz
 rcases List.mem_append.1 hz with hz|hz
 ·rcases List.mem_append.1 hz with hz | hz
  ·exact hcls z (List.mem_of_mem_take hz) y hy
  ·have w_ := List.mem_map.1 hz
   obtain⟨d,hd,rfl⟩:=w_
   rw[gC]at hy
   rcases List.mem_append.1 hy with hy|hy
   ·rcases List.mem_append.1 hy with hy | hy
    ·rcases List.mem_append.1 hy with hy | hy
     ·exact hcls l (mAt hl) y (List.mem_of_mem_take hy)
     ·have w_ := List.mem_iff_getElem?.1 hy
      obtain⟨i,hi⟩:=w_
      rw[kY,List.getElem?_mapIdx]at hi
      have w_:=Option.map_eq_some_iff.1 hi
      obtain⟨t,ht,rfl⟩:=w_
      have hil:=(List.getElem?_eq_some_iff.1 ht).1
      exact qRd h0 h1 (by omega) ((Gl.wd_at (hcls l (mAt hl) g (mAt hg))).2.2.1 t (mAt ht))
    ·have w_ := List.mem_map.1 hy
     obtain⟨y',hy',rfl⟩:=w_
     exact qCb hqo h0 h1 (hD d hd y' hy')
   ·exact hcls l (mAt hl) y (List.mem_of_mem_drop hy)
 ·exact hcls z (List.mem_of_mem_drop hz) y hy
section
variable {μ:Mem}
set_option maxHeartbeats 2000000 in
theorem zY{p:Pg}{nm:ByteArray}{clause call:Int}{v:Value}(hp:RepV μ p.d v)(hw:p.d.wd)(hc0:InR clause):
  Spec Tryz.prog 91 [v,.string nm,.int .i64 clause,.int .i64 call] μ fun v μ'=>(∃k r cls c l tv,FindAt p nm clause k r cls c l∧p.Ok∧v= .tuple #[tv,.int .i64 (oQ l call),.bool (decide (0≤oQ l call))]∧Cls μ' cls tv)∨((∀x,¬UnfAt p nm clause call x)∧v= .tuple #[.slice none 0 0,.int .i64 0,.bool false]):=by
 have hp0:=hp
 have w_:=Pg.inv hp
 obtain⟨q,rfl,hrl⟩:=w_
 refine Spec.mk Tryz.func91 (by kernel_rfl) ?_
 intro r4
 refine cPl (iR hp0 hw) fun v1 μ1 hle1 hR=>?_
 obtain rfl:=hR
 refine ifd (fun h=>?_) (fun h=>?_)
 ·refine rPl (.inr ⟨fun x hx=>by have:=hx.find;omega,rfl⟩)
 have w_:=Int.eq_ofNat_of_zero_le (show 0≤eF p nm by omega)
 obtain⟨k,hk⟩:=w_
 have hpo:p.Ok:=Classical.byContradiction fun e=>by rw[eF,if_neg e]at h;exact h (by decide)
 have hfind:eF p nm=relAt p nm:=by rw[eF,if_pos hpo]
 have w_:=gA (p:=p) (s:=nm) (by omega)
 obtain⟨k',r,hk',hr,-⟩:=w_
 obtain rfl:k=k':=by omega
 have hro:=hpo.2 _ r hr
 have w_:=Rl.elemA (hrl.mono hle1) hr
 obtain⟨adr,qr,helr,hrr,hbody⟩:=w_
 have hbody:RepV μ1 r.body.d (.agg (r.body.cs qr).toArray):=hbody
 have hX:∀x,UnfAt p nm clause call x→x.k=k∧x.r=r:=fun x hx=>by
  have h1:=hx.find
  have h2:x.k=k:=by omega
  have h3:=hx.rel
  rw[h2,hr]at h3
  exact⟨h2,(Option.some.inj h3).symm⟩
 rw[hk]
 refine eIn helr ?_
 refine cPl (gE hbody (lU hw hr).2 ⟨hro.body,by have:=hro.size;omega⟩) fun v2 μ2 hle2 hR2=>?_
 obtain⟨o2,e⟩:∃o,r.body.cl=o:=⟨_,rfl⟩
 rw[e]at hR2
 match o2,e,hR2 with
 |none,e,hR2=>
  obtain rfl:=hR2
  refine iIn (fun _=>?_) (fun h=>nomatch h)
  refine rPl (.inr ⟨fun x hx=>(by have h1:=hx.cl;rw[(hX x hx).2,e]at h1;cases h1),rfl⟩)
 |some cls,e,hR2=>
 obtain⟨tv,rfl,hLr⟩:=hR2
 obtain⟨pv,rfl⟩:=hLr.inv
 have hXc:∀x,UnfAt p nm clause call x→x.cls=cls:=fun x hx=>by
  have h1:=hx.cl
  rw[(hX x hx).2,e]at h1
  exact(Option.some.inj h1).symm
 refine iIn (fun h=>nomatch h) (fun _=>?_)
 have hcll:=(Gl.cl_bnd r.body e).2
 refine aB (by omega) (by omega) ?_
 refine cGv (bG _ _ _ _) ?_
 refine aL (fun h1=>?_) (fun h1=>?_)
 ·refine rPl (.inr ⟨fun x hx => ?_, rfl⟩)
  have h3:=hx.cc
  have h4:=(List.getElem?_eq_some_iff.1 hx.cls).1
  rw[hXc x hx]at h4;omega
 have w_:=Int.eq_ofNat_of_zero_le (show 0≤clause by omega)
 obtain⟨c,rfl⟩:=w_
 have w_:=aSo (l:=cls) (i:=c) (by omega)
 obtain⟨l,hl⟩:=w_
 have hsl:=(Cls.sl hLr).1
 have w_:=cF hsl hl
 obtain⟨adl,pl,hell,hrll⟩:=w_
 have hls:=uX hrll
 have hll:=(Gl.cl_bnd r.body e).1 l (mAt hl)
 have hsz:=hro.size
 refine eIn hell ?_
 refine cPl (qEc (call:=call) hls (by omega)) fun v3 μ3 hle3 hR3=>?_
 obtain⟨rfl,e3⟩:=hR3
 obtain rfl:=e3.symm
 exact rPl (.inl ⟨k,r,cls,c,l,_,⟨hk,hr,e,rfl,hl⟩,hpo,rfl,hLr⟩)
set_option maxHeartbeats 4000000 in
set_option maxRecDepth 20000 in
theorem kO{p:Pg}{nm:ByteArray}{clause call:Int}{v:Value}(hp:RepV μ p.d v)(hw:p.d.wd)(hc0:InR clause):
  Spec Tryz.prog 37 [v,.string nm,.int .i64 clause,.int .i64 call] μ fun v μ'=>qVn (fun y tv=>RepV μ' y.d tv) ((rR p nm clause call).map Prod.fst) v:=by
 have hp0:=hp
 have w_:=Pg.inv hp
 obtain⟨q,rfl,hrl⟩:=w_
 refine Spec.mk Tryz.func37 (by kernel_rfl) ?_
 intro r4 r8
 refine cPl (zY (call:=call) hp0 hw hc0) fun v1 μ1 hle1 hR=>?_
 rcases hR with⟨k,r,cls,c,l,tv,hF,hpo,rfl,hLr⟩|⟨hno,rfl⟩
 rotate_left
 ·refine iIn (fun _ => ?_) (fun h => nomatch h)
  refine rPl ?_
  rw[gB hno];rfl
 obtain⟨hk,hr,e,rfl,hl⟩:=hF
 obtain⟨pv,rfl⟩:=hLr.inv
 have hX:∀x,UnfAt p nm c call x→x.l=l:=fun x hx=>by
  have h1:=hx.find
  have h2:x.k=k:=by omega
  have h3:=hx.rel
  rw[h2,hr]at h3
  have h4:=hx.cl
  rw[←Option.some.inj h3,e]at h4
  have h5:=hx.cls
  rw[←Option.some.inj h4,show x.c=c by have:=hx.cc;omega,hl]at h5
  exact(Option.some.inj h5).symm
 refine aL (fun hneg=>?_) (fun hpos=>?_)
 ·refine rPl ?_
  rw[gB fun x hx=>by
   have h1:=hx.pos
   have h2:=hx.call0
   rw[hX x hx]at h1
   apply hneg
   rw[oQ,if_neg (by omega),h1]
   exact Int.natCast_nonneg _]
  rfl
 have hcall:0≤call:=by
  refine Classical.byContradiction fun h=>?_
  rw[oQ,if_pos (by omega)]at hpos
  exact absurd hpos (by decide)
 have w_:=Int.eq_ofNat_of_zero_le hcall
 obtain⟨kc,rfl⟩:=w_
 obtain⟨oa,ea⟩:∃o,bK l kc=o:=⟨_,rfl⟩
 have hcI:oQ l kc=pS oa:=by rw[oQ,if_neg (by omega),Int.toNat_natCast,ea]
 match oa,ea,hcI with
 |none,ea,hcI=>rw[hcI]at hpos;exact absurd hpos (by decide)
 |some a,ea,hcI=>
 rw[show oQ l kc=(a:Int)from hcI]
 have hro:=hpo.2 _ r hr
 have har0:=hro.ar0
 have har4:=hro.ar4
 have hlo0:=hro.lo0
 have hlo8:=hro.lo8
 have hfind:eF p nm=relAt p nm:=by rw[eF,if_pos hpo]
 refine cGv (dI (s:=nm) (hp0.mono hle1)) ?_
 rw[show relAt p nm=(k:Int) by omega]
 have hsl:=(Cls.sl hLr).1
 have w_:=cF hsl hl
 obtain⟨adl,pl,hell,hrll⟩:=w_
 have hls:=uX hrll
 have hbnd:=Gl.cl_bnd r.body e
 have hsz:=hro.size
 have hll:=hbnd.1 l (mAt hl)
 have hcll:=hbnd.2
 have hcl:=(List.getElem?_eq_some_iff.1 hl).1
 refine eIn hell ?_
 have w_:=gX ea
 obtain⟨g,hg,h9⟩:=w_
 have w_:=Gl.elem hls hg
 obtain⟨adg,pg,helg,hrg⟩:=w_
 have hal:=(List.getElem?_eq_some_iff.1 hg).1
 have hgm:g∈r.body.all:=(Gl.cl_all r.body e l (mAt hl) g (mAt hg)).1
 have w_:=hro.calls.all g hgm h9
 obtain⟨j,q2,hj,hq2,harq⟩:=w_
 refine eIn helg ?_
 refine cGv (dI (s:=g.name) (hp0.mono hle1)) ?_
 rw[hj]
 have w_:=Rl.elemA (hrl.mono hle1) hq2
 obtain⟨adq,qq,helq,hrq,hbodyq⟩:=w_
 have hbodyq:RepV μ1 q2.body.d (.agg (q2.body.cs qq).toArray):=hbodyq
 have hqo:=hpo.2 _ q2 hq2
 refine eIn helq ?_
 intro r15
 have w_:=Rl.elemA (hrl.mono hle1) hr
 obtain⟨adr,qr,helr,hrr,hbody⟩:=w_
 refine eIn helr ?_
 refine eIn helr ?_
 refine aB (by omega) (by omega) ?_
 obtain⟨N,hN⟩:∃N:Int,r.arity+r.locals=N:=⟨_,rfl⟩
 rw[hN]
 have hN0:0≤N∧N≤1000:=by omega
 have hAt:UnfAt p nm c kc ⟨k,r,cls,c,l,a,g,q2⟩:=⟨hk,hr,e,rfl,hl,by omega,by rw[Int.toNat_natCast];exact ea,hg,j,hj,hq2⟩
 refine cPl (gE hbodyq (lU hw hq2).2 ⟨hqo.body,by have:=hqo.size;omega⟩) fun v4 μ4 hle4 hR4=>?_
 obtain⟨ds,gd,tv,rfl,hDr,hgd,hDb⟩:∃ds gd tv,v4= .tuple #[tv,.bool gd]∧Cls μ4 ds tv∧((gd=true∧q2.body.cl=some ds)∨(gd=false∧q2.body.cl=none))∧((∀c∈ds,c.length≤60∧∀x∈c,x∈q2.body.all)∧ds.length≤64):=by
  have hqsz:=hqo.size
  cases e4:q2.body.cl with
  |none=>
   rw[e4]at hR4
   exact⟨[],false,_,hR4,⟨none,0,rfl,⟨Nat.zero_le _,Nat.zero_le _⟩,(fun _ h=>nomatch h),.inl rfl⟩,.inr ⟨rfl,rfl⟩,(fun c h=>absurd h (List.not_mem_nil)),Nat.zero_le _⟩
  |some ds=>
   rw[e4]at hR4
   obtain⟨tv,h1,h2⟩:=hR4
   have hb:=Gl.cl_bnd q2.body e4
   exact⟨ds,true,tv,h1,h2,.inl ⟨rfl,rfl⟩,fun c hc=>⟨by have:=hb.1 c hc;omega,fun x hx=>(Gl.cl_all q2.body e4 c hc x hx).1⟩,hb.2⟩
 obtain⟨pd,rfl⟩:=hDr.inv
 have hDm:=hDb.2
 have hLr4:=RepV.mono hle4 hLr
 have hell4:=hell.mono hle4
 have hrll4:=RepV.mono hle4 hrll
 have hrg4:=RepV.mono hle4 hrg
 have helg4:=helg.mono hle4
 have w_:=Rep.src hLr4
 obtain⟨vc,hvc,hvcl,hvcc,hvcs⟩:=w_
 have w_:=Rep.src (ds:=l.map Gl.d) hrll4
 obtain⟨vl,hvl,hvll,hvlc,hvls⟩:=w_
 have hgT:=Gl.termsW hrg4
 have hgts:Sl μ4 4 pg.1.1 g.terms.length (g.terms.map Tm.d):=by
  have w_:=Rep.sl (xs:=g.terms.map Tm.d) hgT
  obtain⟨b',c',e1,hs⟩:=w_
  have w_:=Value.slice.inj e1
  obtain⟨rfl,_,_⟩:=w_
  simpa using hs
 have hSg:g.Sh:=hro.body.all r.body g hgm
 have hg4:=hSg.lens
 intro r82
 refine aG 0 c rfl rfl (by omega) (by omega) ?_
 refine aJ _ (hvcs 0 c (by omega) (by omega)) ?_
 refine gIn ?_ ?_ fun b1 c1 _=>?_
 ·show(0+_)*24≤_;simp;omega
 ·exact Nat.le_trans (m:=2000000000) (by simp;omega) (by decide)
 have hx0:Rows μ4 1 ((cls.take c).map csD) (([]:List Value)++(vc.drop 0).take (c-0)):=by
  have:=(hvc.drop 0).take (c-0)
  simpa[List.map_take]using this
 refine lIn (fun z:Nat×Option Nat×Nat×List Value×Mem=>z.1≤ds.length∧μ4.Le z.2.2.2.2∧Rows z.2.2.2.2 1 ((cls.take c++(ds.take z.1).map (gC l a g N)).map csD) z.2.2.2.1)
  (fun (i, b, co, ys, μ') => ⟨[(2, .val (.int .i64 c)), (4, .loc 0 r4 0), (8, .loc 1 r8 0), (10, .val (.slice pv.1 cls.length pv.2)), (11, .val (.int .i64 a)), (13, .val (.int .i64 k)), (14, .val (.slice pl.1 l.length pl.2)), (15, .loc 2 r15 0), (16, .val (.int .i64 N)), (18, .val (.bool gd)), (19, .row 3 b ys.length co), (87, .val (.slice pd.1 ds.length pd.2)), (88, .val (.int .i64 ds.length)), (89, .val (.int .i64 i))],
   [(0,some (.cells r4 [.val (.slice q.1 p.rels.length q.2)] 25)),(1,some (.cells r8 [.val (.slice none 0 0)] 25)),(2,some (.cells r15 (vals (q2.cs qq)) 63)),(3,some (.row b co 59 1 ys))],4,μ',Mem.nil⟩) (fun z=>ds.length-z.1)
  (0,b1,c1,([]:List Value)++(vc.drop 0).take (c-0),μ4) ⟨Nat.zero_le _,Mem.Le.refl _,by simpa using hx0⟩ (fun(_,_,_,_,_)=>⟨rfl,rfl⟩) ⟨⟨rfl,rfl,rfl,rfl,rfl,rfl,rfl,rfl,rfl,rfl,rfl,rfl,rfl,rfl,trivial⟩,⟨rfl,rfl,rfl,rfl,trivial⟩,rfl,rfl⟩ ?_
 rintro⟨i,b,co,ys,μ5⟩ ⟨hi,hle5,hrows⟩
 dsimp only at hi hle5 hrows
 have hyl:=hrows.len
 simp only[List.length_map,List.length_append,List.length_take]at hyl
 refine ifd (fun hlt=>?_) (fun hlt=>?_)
 ·have w_ := aSo (l := ds) (i := i) (by omega)
  obtain⟨d,hd⟩:=w_
  have w_:=cF ((Cls.sl hDr).1.mono hle5) hd
  obtain⟨adi,pi,heli,hri⟩:=w_
  have hdl:=(hDb.1 d (mAt hd)).1
  have hds:=uX hri
  refine eIn heli ?_
  intro r93
  refine aG 0 a rfl rfl (by omega) (by omega) ?_
  refine aJ _ (hZ (hvls 0 a (by omega) (by omega)) hle5) ?_
  refine gIn ?_ ?_ fun b2 c2 _=>?_
  ·show(0+_)*72≤_;simp;omega
  ·exact Nat.le_trans (m:=2000000000) (by simp;omega) (by decide)
  have hy0:Rows μ5 4 ((l.take a).map Gl.d) (([]:List Value)++(vl.drop 0).take (a-0)):=by
   have:=(hvl.drop 0).take (a-0)
   simpa[List.map_take]using this.mono hle5
  refine eIn (helg4.mono hle5) ?_
  refine lIn (fun z:Nat×Option Nat×Nat×List Value×Mem=>z.1≤g.terms.length∧μ5.Le z.2.2.2.2∧Rows z.2.2.2.2 4 ((l.take a++(kY N g.terms).take z.1).map Gl.d) z.2.2.2.1)
   (fun (j, b', co', zs, μ') => ⟨[(2, .val (.int .i64 c)), (4, .loc 0 r4 0), (8, .loc 1 r8 0), (10, .val (.slice pv.1 cls.length pv.2)), (11, .val (.int .i64 a)), (13, .val (.int .i64 k)), (14, .val (.slice pl.1 l.length pl.2)), (15, .loc 2 r15 0), (16, .val (.int .i64 N)), (18, .val (.bool gd)), (19, .row 3 b ys.length co), (87, .val (.slice pd.1 ds.length pd.2)), (88, .val (.int .i64 ds.length)), (89, .val (.int .i64 i)), (21, .val (.slice pi.1 d.length pi.2)), (22, .row 4 b' zs.length co'), (102, .val (.slice pg.1.1 g.terms.length pg.1.2)), (103, .val (.int .i64 g.terms.length)), (104, .val (.int .i64 j))],
    [(0,some (.cells r4 [.val (.slice q.1 p.rels.length q.2)] 25)),(1,some (.cells r8 [.val (.slice none 0 0)] 25)),(2,some (.cells r15 (vals (q2.cs qq)) 63)),(3,some (.row b co 59 1 ys)),(4,some (.row b' co' 61 4 zs))],5,μ',Mem.nil⟩) (fun z=>g.terms.length-z.1)
   (0,b2,c2,([]:List Value)++(vl.drop 0).take (a-0),μ5) ⟨Nat.zero_le _,Mem.Le.refl _,by simpa using hy0⟩ (fun(_,_,_,_,_)=>⟨rfl,rfl⟩) ⟨⟨rfl,rfl,rfl,rfl,rfl,rfl,rfl,rfl,rfl,rfl,rfl,rfl,rfl,rfl,rfl,rfl,rfl,rfl,rfl,trivial⟩,⟨rfl,rfl,rfl,rfl,rfl,trivial⟩,rfl,rfl⟩ ?_
  clear hy0
  rintro⟨j,b3,c3,zs,μ6⟩ ⟨hj,hle6,hrows3⟩
  dsimp only at hj hle6 hrows3
  have hzl:=hrows3.len
  simp only[List.length_map,List.length_append,List.length_take,iE]at hzl
  refine ifd (fun hlt3=>?_) (fun hlt3=>?_)
  ·have w_ := aSo (l := g.terms) (i := j) (by omega)
   obtain⟨t,ht⟩:=w_
   have w_:=Tm.elem (hgts.mono (hle5.trans hle6)) ht
   obtain⟨adt,pt,helt,hrt⟩:=w_
   refine eIn helt ?_
   intro r24
   refine aB (by omega) (by omega) ?_
   refine cGv (gS _) ?_
   intro r115
   refine aS [6] ?_
   intro μ7 hle7 hno7 hat7
   refine bM (bC (a:=(some ⟨r115,0,none⟩,2,2)) (b:=(none,0,0))) fun v8 μ8 hle8 hR8=>?_
   obtain⟨rfl,e8⟩:=hR8
   obtain rfl:=e8.symm
   intro r117
   refine gIn ?_ ?_ fun b4 c4 _=>?_
   ·show(zs.length+1)*72≤_;omega
   ·exact Nat.le_trans (m:=100000000) (show zs.length+1≤_ by omega) (by decide)
   have hE:RepV μ7 (eqG N j t).d _:=qFj (Rows.sl hat7 (.cons (RepV.mono hle7 (gP (N+j))) (Tm.d_n _) (.cons (RepV.mono hle7 hrt) (Tm.d_n _) .nil)) (show 2≤maxLen by decide))
   refine aB (by omega) (by omega) ⟨(j+1,b4,c4,_,μ7),⟨by dsimp only;omega,hle6.trans hle7,?_⟩,by dsimp only;omega,⟨⟨rfl,rfl,rfl,rfl,rfl,rfl,rfl,rfl,rfl,rfl,rfl,rfl,rfl,rfl,rfl,rfl,rfl,rfl,rfl,trivial⟩,⟨rfl,rfl,rfl,rfl,rfl,trivial⟩,rfl,rfl⟩⟩
   dsimp only
   rw[yM ht,←List.append_assoc,List.map_append (l₂:=[eqG N j t])]
   exact(hrows3.mono hle7).append (Rows.one hE (Gl.d_n _))
  obtain rfl:j=g.terms.length:=by omega
  rw[List.take_of_length_le (l:=kY N g.terms) (by rw[iE];omega)]at hrows3
  refine lIn (fun z:Nat×Option Nat×Nat×List Value×Mem=>z.1≤d.length∧μ6.Le z.2.2.2.2∧Rows z.2.2.2.2 4 ((l.take a++kY N g.terms++(d.take z.1).map (Gl.put (shF N))).map Gl.d) z.2.2.2.1)
   (fun (j, b', co', zs, μ') => ⟨[(2, .val (.int .i64 c)), (4, .loc 0 r4 0), (8, .loc 1 r8 0), (10, .val (.slice pv.1 cls.length pv.2)), (11, .val (.int .i64 a)), (13, .val (.int .i64 k)), (14, .val (.slice pl.1 l.length pl.2)), (15, .loc 2 r15 0), (16, .val (.int .i64 N)), (18, .val (.bool gd)), (19, .row 3 b ys.length co), (87, .val (.slice pd.1 ds.length pd.2)), (88, .val (.int .i64 ds.length)), (89, .val (.int .i64 i)), (22, .row 4 b' zs.length co'), (120, .val (.slice pi.1 d.length pi.2)), (121, .val (.int .i64 d.length)), (122, .val (.int .i64 j))],
    [(0,some (.cells r4 [.val (.slice q.1 p.rels.length q.2)] 25)),(1,some (.cells r8 [.val (.slice none 0 0)] 25)),(2,some (.cells r15 (vals (q2.cs qq)) 63)),(3,some (.row b co 59 1 ys)),(4,some (.row b' co' 61 4 zs))],5,μ',Mem.nil⟩) (fun z=>d.length-z.1)
   (0,b3,c3,zs,μ6) ⟨Nat.zero_le _,Mem.Le.refl _,by simpa using hrows3⟩ (fun(_,_,_,_,_)=>⟨rfl,rfl⟩) ⟨⟨rfl,rfl,rfl,rfl,rfl,rfl,rfl,rfl,rfl,rfl,rfl,rfl,rfl,rfl,rfl,rfl,rfl,rfl,trivial⟩,⟨rfl,rfl,rfl,rfl,rfl,trivial⟩,rfl,rfl⟩ ?_
  clear hrows3
  rintro⟨j,b5,c5,ws,μ7⟩ ⟨hj2,hle7,hrows4⟩
  dsimp only at hj2 hle7 hrows4
  have hwl:=hrows4.len
  simp only[List.length_map,List.length_append,List.length_take,iE]at hwl
  refine ifd (fun hlt4=>?_) (fun hlt4=>?_)
  ·have w_ := aSo (l := d) (i := j) (by omega)
   obtain⟨y,hy⟩:=w_
   have w_:=Gl.elem (hds.mono (hle6.trans hle7)) hy
   obtain⟨ady,py,hely,hry⟩:=w_
   refine eIn hely ?_
   intro r26
   have hyS:y.Sh:=hqo.body.all q2.body y ((hDb.1 d (mAt hd)).2 y (mAt hy))
   refine cPl (xS hN0 y hry hyS) fun v8 μ8 hle8 hR8=>?_
   have w_:=Gl.invV hR8
   obtain⟨q8,rfl⟩:=w_
   intro r130
   refine gIn ?_ ?_ fun b4 c4 _=>?_
   ·show(ws.length+1)*72≤_;omega
   ·exact Nat.le_trans (m:=100000000) (show ws.length+1≤_ by omega) (by decide)
   refine aB (by omega) (by omega) ⟨(j+1,b4,c4,_,μ8),⟨by dsimp only;omega,hle7.trans hle8,?_⟩,by dsimp only;omega,⟨⟨rfl,rfl,rfl,rfl,rfl,rfl,rfl,rfl,rfl,rfl,rfl,rfl,rfl,rfl,rfl,rfl,rfl,rfl,trivial⟩,⟨rfl,rfl,rfl,rfl,rfl,trivial⟩,rfl,rfl⟩⟩
   dsimp only
   rw[List.take_add_one,hy,Option.toList_some,List.map_append (f:=Gl.put (shF N)),←List.append_assoc,List.map_append (f:=Gl.d)]
   exact(hrows4.mono hle8).append (Rows.one hR8 (Gl.d_n _))
  obtain rfl:j=d.length:=by omega
  rw[List.take_length]at hrows4
  have hle57:=hle5.trans (hle6.trans hle7)
  refine aB (by omega) (by omega) ?_
  refine aG (a+1) l.length rfl rfl (by omega) (by omega) ?_
  refine aJ _ (hZ (hvls (a+1) l.length (by omega) (Nat.le_refl _)) hle57) ?_
  refine gIn ?_ ?_ fun b6 c6 _=>?_
  ·show(ws.length+_)*72≤_;simp;omega
  ·exact Nat.le_trans (m:=2000000000) (by simp;omega) (by decide)
  have hz0:Rows μ7 4 ((gC l a g N d).map Gl.d) (ws++(vl.drop (a+1)).take (l.length-(a+1))):=by
   have h1:=((hvl.drop (a+1)).take (l.length-(a+1))).mono hle57
   have h2:=hrows4.append h1
   have e5:((l.map Gl.d).drop (a+1)).take (l.length-(a+1))=(l.drop (a+1)).map Gl.d:=by
    rw[List.take_of_length_le (by simp),List.map_drop]
   rw[e5,←List.map_append]at h2
   exact h2
  intro μ8 hle8 hno8 hat8 r140
  refine gIn ?_ ?_ fun b7 c7 _=>?_
  ·show(ys.length+1)*24≤_;omega
  ·exact Nat.le_trans (m:=100000000) (show ys.length+1≤_ by omega) (by decide)
  have hC:RepV μ8 (csD (gC l a g N d)) _:=Rows.sl hat8 (hz0.mono hle8) (Nat.le_trans (m:=2000000000) (by simp;omega) (by decide))
  refine aB (by omega) (by omega) ⟨(i+1,b7,c7,_,μ8),⟨by dsimp only;omega,hle57.trans hle8,?_⟩,by dsimp only;omega,⟨⟨rfl,rfl,rfl,rfl,rfl,rfl,rfl,rfl,rfl,rfl,rfl,rfl,rfl,rfl,trivial⟩,⟨rfl,rfl,rfl,rfl,trivial⟩,rfl,rfl⟩⟩
  dsimp only
  rw[List.take_add_one,hd,Option.toList_some,List.map_append (f:=gC l a g N),←List.append_assoc,List.map_append (f:=csD)]
  exact(hrows.mono ((hle6.trans (hle7.trans hle8)))).append (Rows.one hC rfl)
 obtain rfl:i=ds.length:=by omega
 rw[List.take_length]at hrows
 refine aB (by omega) (by omega) ?_
 refine aG (c+1) cls.length rfl rfl (by omega) (by omega) ?_
 refine aJ _ (hZ (hvcs (c+1) cls.length (by omega) (Nat.le_refl _)) hle5) ?_
 refine gIn ?_ ?_ fun b8 c8 _=>?_
 ·show(ys.length+_)*24≤_;simp;omega
 ·exact Nat.le_trans (m:=2000000000) (by simp;omega) (by decide)
 obtain⟨X,hXe⟩:∃X:UnfD,X=⟨k,r,cls,c,l,a,g,q2⟩:=⟨_,rfl⟩
 rw[←hXe]at hAt
 have hLs:X.ls ds=cls.take c++ds.map (gC l a g N)++cls.drop (c+1):=by rw[hXe,←hN];rfl
 have hall0:Rows μ5 1 ((X.ls ds).map csD) (ys++(vc.drop (c+1)).take (cls.length-(c+1))):=by
  have h1:=((hvc.drop (c+1)).take (cls.length-(c+1))).mono hle5
  have h2:=hrows.append h1
  have e5:((cls.map csD).drop (c+1)).take (cls.length-(c+1))=(cls.drop (c+1)).map csD:=by
   rw[List.take_of_length_le (by simp),List.map_drop]
  rw[e5,←List.map_append,←hLs]at h2
  exact h2
 have hLl:(X.ls ds).length≤1000:=by
  rw[hLs];simp only[List.length_append,List.length_take,List.length_map,List.length_drop];omega
 have hLc:∀z∈X.ls ds,z.length≤1000:=fun z hz=>by
  rw[hLs]at hz
  rcases List.mem_append.1 hz with hz|hz
  ·rcases List.mem_append.1 hz with hz | hz
   ·have:=hbnd.1 z (List.mem_of_mem_take hz);omega
   ·have w_ := List.mem_map.1 hz
    obtain⟨d,hd,rfl⟩:=w_
    have:=(hDb.1 d hd).1
    rw[gC]
    simp only[List.length_append,List.length_take,List.length_map,List.length_drop,iE];omega
  ·have:=hbnd.1 z (List.mem_of_mem_drop hz);omega
 have hLw:∀z∈X.ls ds,∀y∈z,y.d.wd:=qSi hw hr e hl hg hq2 hqo (by omega) (by omega) hLs (fun d hd y hy=>(hDb.1 d hd).2 y hy) (by omega)
 have hall0l:=hall0.len
 rw[List.length_map]at hall0l
 refine aS [3] ?_
 intro μ6 hle6 hno6 hat6
 have hLr6:Cls μ6 (X.ls ds) _:=Rows.sl hat6 (hall0.mono hle6) (Nat.le_trans (m:=2000000000) (by omega) (by decide))
 have hCG:=nQ (cap:=c8) (Cls.sl hLr6).1 hLw (by omega) (fun z hz=>by have:=hLc z hz;omega)
 rw[hall0l]at hCG
 refine bM hCG fun v7 μ7 hle7 hR7=>?_
 have hle17:=hle4.trans (hle5.trans (hle6.trans hle7))
 obtain⟨bg,fd,tv,rfl,hbg,hfd⟩:∃bg fd tv,v7= .tuple #[tv,.bool fd]∧RepV μ7 (Gl.d bg) tv∧((fd=true∧qGo (X.ls ds)∧bg=cgG (X.ls ds))∨(fd=false∧¬qGo (X.ls ds))):=by
  by_cases hok:qGo (X.ls ds)
  ·rw [cgO, if_pos hok] at hR7
   obtain⟨tv,h1,h2⟩:=hR7
   exact⟨_,true,tv,h1,h2,.inl ⟨rfl,hok,rfl⟩⟩
  ·rw [cgO, if_neg hok] at hR7
   exact⟨.mk 0 ⟨#[]⟩ [] [],false,_,hR7,zeroG_own.rep (fun _ _ h=>nomatch h),.inr ⟨rfl,hok⟩⟩
 have w_:=Gl.invV hbg
 obtain⟨q7,rfl⟩:=w_
 intro r27 r29
 obtain⟨LL,hLL⟩:∃LL:Int,r.locals+q2.arity+q2.locals=LL:=⟨_,rfl⟩
 have hqlo0:=hqo.lo0
 have hqlo8:=hqo.lo8
 have hqar0:=hqo.ar0
 have hqar4:=hqo.ar4
 have hp8:=hpo.1
 have hkl:=(List.getElem?_eq_some_iff.1 hr).1
 refine aU (fun z:Nat×Option Nat×Nat×List Value×Mem=>z.1≤p.rels.length∧μ7.Le z.2.2.2.2∧Rows z.2.2.2.2 7 (((p.rels.set k ⟨r.name,r.arity,LL,bg⟩).take z.1).map Rl.d) z.2.2.2.1)
  (fun (i, b, c, us, μ') => ⟨[(8, .loc 1 r8 0), (13, .val (.int .i64 k)), (15, .loc 2 r15 0), (18, .val (.bool gd)), (27, .loc 4 r27 0), (28, .val (.bool fd)), (29, .loc 5 r29 0), (156, .val (.slice q.1 p.rels.length q.2)), (157, .val (.int .i64 p.rels.length)), (158, .val (.int .i64 i))],
   [(1,some (.cells r8 [.val (.slice none 0 0)] 25)),(2,some (.cells r15 (vals (q2.cs qq)) 63)),(4,some (.cells r27 (vals (bg.cs q7)) 61)),(5,some (.cells r29 [.row 6 b us.length c] 25)),(6,some (.row b c 63 7 us))],7,μ',Mem.nil⟩) (fun z=>p.rels.length-z.1)
  (0,none,0,[],μ7) ⟨Nat.zero_le _,Mem.Le.refl _,.nil⟩ (fun(_,_,_,_,_)=>⟨rfl,rfl⟩) ⟨⟨⟨_,rfl,.inl rfl⟩,⟨_,rfl,.inl rfl⟩,⟨_,rfl,.inl rfl⟩,⟨_,rfl,.inl rfl⟩,⟨_,rfl,.inl rfl⟩,⟨_,rfl,.inl rfl⟩,⟨_,rfl,.inl rfl⟩,⟨_,rfl,.inl rfl⟩,⟨_,rfl,.inl rfl⟩,⟨_,rfl,.inl rfl⟩,trivial⟩,⟨.inl rfl,.inl rfl,.inl rfl,.inr (.inr ⟨_,_,_,_,rfl,rfl,.inr ⟨6,rfl,rfl,Nat.le_refl _⟩,trivial⟩),.inr (.inl ⟨_,_,rfl,Nat.le_refl _⟩),trivial⟩,rfl,rfl⟩ ?_
 rintro⟨i,b9,c9,us,μ8⟩ ⟨hi,hle8,hrows5⟩
 dsimp only at hi hle8 hrows5
 have hul:=hrows5.len
 simp only[List.length_map,List.length_take,List.length_set]at hul
 refine ifd (fun hlt=>?_) (fun hlt=>?_)
 ·have w_ := aSo (l := p.rels) (i := i) (by omega)
  obtain⟨x2,hx2⟩:=w_
  have w_:=Rl.elemA (hrl.mono (hle1.trans (hle17.trans hle8))) hx2
  obtain⟨ad,qx,hel,hr2,hb⟩:=w_
  have hb:RepV μ8 x2.body.d (.agg (x2.body.cs qx).toArray):=hb
  refine eIn hel ?_
  intro r31
  refine cPl (lP x2.body hb (hpo.2 i x2 hx2).body) fun v9 μ9 hle9 hR9=>?_
  have w_:=Gl.invV hR9
  obtain⟨q9,rfl⟩:=w_
  intro r32
  refine ifd (fun hik=>?_) (fun hik=>?_)
  ·obtain rfl : i = k := by omega
   rw[hr]at hx2
   cases hx2
   refine aB (by omega) (by omega) ?_
   refine aB (by omega) (by omega) ?_
   rw[hLL]
   intro r190
   refine gIn ?_ ?_ fun b' c' _=>?_
   ·show(us.length+1)*104≤_;omega
   ·exact Nat.le_trans (m:=100000000) (show us.length+1≤_ by omega) (by decide)
   refine aB (by omega) (by omega) ⟨(i+1,b',c',_,μ9),⟨by dsimp only;omega,hle8.trans hle9,?_⟩,by dsimp only;omega,⟨⟨rfl,rfl,rfl,rfl,rfl,rfl,rfl,rfl,rfl,rfl,trivial⟩,⟨rfl,rfl,rfl,rfl,rfl,trivial⟩,rfl,rfl⟩⟩
   dsimp only
   rw[List.take_add_one,List.getElem?_set_self (by omega),Option.toList_some]
   simp only[List.map_append,List.map_cons,List.map_nil]
   refine(hrows5.mono hle9).append (Rows.one ?_ (Rl.d_n _))
   rw[Rl.d_eq]
   exact⟨_,rfl,RepS.str (RepS.int (RepS.int (RepS.last (RepV.cells (RepV.mono (hle8.trans hle9) hbg)))))⟩
  ·intro r190
   refine gIn ?_ ?_ fun b' c' _=>?_
   ·show(us.length+1)*104≤_;omega
   ·exact Nat.le_trans (m:=100000000) (show us.length+1≤_ by omega) (by decide)
   refine aB (by omega) (by omega) ⟨(i+1,b',c',_,μ9),⟨by dsimp only;omega,hle8.trans hle9,?_⟩,by dsimp only;omega,⟨⟨rfl,rfl,rfl,rfl,rfl,rfl,rfl,rfl,rfl,rfl,trivial⟩,⟨rfl,rfl,rfl,rfl,rfl,trivial⟩,rfl,rfl⟩⟩
   dsimp only
   rw[List.take_add_one,List.getElem?_set_ne (by omega),hx2,Option.toList_some]
   simp only[List.map_append,List.map_cons,List.map_nil]
   refine(hrows5.mono hle9).append (Rows.one ?_ (Rl.d_n _))
   rw[Rl.d_eq]
   exact⟨_,rfl,RepS.str (RepS.int (RepS.int (RepS.last (RepV.cells hR9))))⟩
 obtain rfl:i=p.rels.length:=by omega
 rw[List.take_of_length_le (by rw[List.length_set];omega)]at hrows5
 have hqcl:X.q.body.cl=q2.body.cl:=by rw[hXe]
 rcases hgd with⟨rfl,e4⟩|⟨rfl,e4⟩
 rotate_left
 ·refine iIn (fun _ => ?_) (fun h => nomatch h)
  refine rPl ?_
  rw[lG hAt fun ds' hd=>by have h1:=hd.1;rw[hqcl,e4]at h1;cases h1]
  rfl
 refine iIn (fun h=>nomatch h) (fun _=>?_)
 have hds:∀ds',X.q.body.cl=some ds'→ds'=ds:=fun ds' h1=>by rw[hqcl,e4]at h1;exact(Option.some.inj h1).symm
 rcases hfd with⟨rfl,hok,rfl⟩|⟨rfl,hok⟩
 rotate_left
 ·refine iIn (fun _ => ?_) (fun h => nomatch h)
  refine rPl ?_
  rw[lG hAt fun ds' hd=>by have h1:=hds ds' hd.1;subst h1;exact hok hd.2.1]
  rfl
 refine iIn (fun h=>nomatch h) (fun _=>?_)
 have hXpg:X.pg p ds=⟨p.rels.set k ⟨r.name,r.arity,LL,cgG (X.ls ds)⟩⟩:=by rw[UnfD.pg,hXe,←hLL]
 have hwP:(X.pg p ds).d.wd:=by
  have hw1:D.wds (p.rels.map Rl.d):=by rw[Pg.d_eq]at hw;exact hw.1
  rw[hXpg,Pg.d_eq]
  refine⟨D.wds_of fun d hd=>?_,trivial⟩
  have w_:=List.mem_map.1 hd
  obtain⟨x,hx,rfl⟩:=w_
  rcases List.mem_or_eq_of_mem_set hx with hx|rfl
  ·exact D.wds_mem hw1 _ (List.mem_map_of_mem hx)
  ·have hrw := (lU hw hr).1
   rw[Rl.d_eq]at hrw ⊢
   refine⟨hrw.1,hrw.2.1,⟨show _≤LL by omega,show LL≤_ by omega⟩,?_,trivial⟩
   refine Gl.wd_mk ⟨show(-9223372036854775808:Int)≤8 by decide,show(8:Int)≤9223372036854775807 by decide⟩ (Nat.zero_le _) (fun x hx=>absurd hx List.not_mem_nil) fun x hx=>?_
   have w_:=List.mem_map.1 (show x∈(X.ls ds).map cgA from hx)
   obtain⟨z,hz,rfl⟩:=w_
   exact Gl.wd_mk ⟨show(-9223372036854775808:Int)≤7 by decide,show(7:Int)≤9223372036854775807 by decide⟩ (Nat.zero_le _) (fun x hx=>absurd hx List.not_mem_nil) fun x hx=>hLw z hz x hx
 refine aS [6] ?_
 intro μ9 hle9 hno9 hat9
 have hfin:=Pg.repS (p:=X.pg p ds) (by rw[hXpg];exact Rows.sl hat9 (hrows5.mono hle9) (Nat.le_trans (m:=100000000) (by omega) (by decide)))
 refine bM (bD hfin hwP) fun v10 μ10 hle10 hR10=>?_
 obtain rfl:=hR10
 refine aL (fun hbad=>?_) (fun hgood=>?_)
 ·refine rPl ?_
  rw[lG hAt fun ds' hd=>by have h1:=hds ds' hd.1;subst h1;exact hbad hd.2.2]
  rfl
 ·refine rPl ?_
  rw[sJ hAt ⟨by rw[hqcl,e4],hok,hgood⟩]
  exact⟨_,rfl,RepV.mono hle10 hfin⟩
theorem nA{p:Pg}{nm:ByteArray}{clause call:Int}{v:Value}(hp:RepV μ p.d v)(hcl:InR call):
  Spec Tryz.prog 36 [v,.string nm,.int .i64 clause,.int .i64 call] μ fun v μ'=>qVn (fun y tv=>Fresh μ μ' y.d tv) ((rR p nm clause call).map Prod.fst) v:=by
 have hp0:=hp
 have w_:=Pg.inv hp
 obtain⟨q,rfl,hrl⟩:=w_
 refine Spec.mk Tryz.func36 (by kernel_rfl) ?_
 intro r4 r8
 refine cPl (lN hp0 hcl) fun v1 μ1 hle1 hR=>?_
 cases e:rR p nm clause call with
 |none=>
  rw[e]at hR
  obtain rfl:=hR
  intro r10
  exact rPl rfl
 |some z=>
  rw[e]at hR
  obtain⟨tv,rfl,hR⟩:=hR
  have w_:=Pg.invV hR.rep
  obtain⟨q1,rfl⟩:=w_
  intro r10
  exact rPl ⟨_,rfl,hR⟩
end
end Go.Vx
namespace Go.Vx
open Go.Proofs Classical
theorem zK{a b:List F}(h:∀x,x∈a↔x∈b):lI a=lI b:=qBb cmpF_ord (uL _ _) fun x=>by rw[nY,h]
theorem qNj{L:List F}(h:Asc3 dC L):lI L=L:=(qBb cmpF_ord h fun _=>Iff.rfl).symm
theorem mC{L:List F}{x:F}:x∈lI L↔x∈L:=nY _ _ _
noncomputable def jM(L:List F)(f:F):List F:=lI (f::L)
theorem mem_insF{L:List F}{f x:F}:x∈jM L f↔x=f∨x∈L:=by rw[jM,mC,List.mem_cons]
theorem vF(L:List F)(f:F):Asc3 dC (jM L f):=qR _
theorem qX(L:List F)(f:F):(jM L f).length≤L.length+1:=qBa _
theorem qBn{L:List F}{f:F}(hL:Asc3 dC L)(h:f∈L):jM L f=L:=(hL.uniq cmpF_ord (vF L f) fun x=>by
 rw[mem_insF]
 exact⟨.inr,fun k=>k.elim (fun e=>e ▸ h) id⟩).symm
theorem uF{L:List F}{f:F}{k:Nat}(hL:Asc3 dC L)(h1:∀x∈L.take k,dC x f<0)(h2:∀x∈L.drop k,dC f x<0):L.take k++f::L.drop k=jM L f:=by
 refine Asc3.uniq cmpF_ord ?_ (vF L f) fun x=>?_
 ·have := hL.ins cmpF_ord h1 h2
  simpa[qFn]using this
 ·rw [mem_insF, List.mem_append, List.mem_cons]
  have:x∈L↔x∈L.take k∨x∈L.drop k:=by rw[←List.mem_append,List.take_append_drop]
  rw[this]
  constructor
  ·rintro (h | h | h)
   ·exact .inr (.inl h)
   ·exact .inl h
   ·exact .inr (.inr h)
  ·rintro (h | h | h)
   ·exact .inr (.inl h)
   ·exact .inl h
   ·exact .inr (.inr h)
theorem sY{rs:List Ru}{pos neg:List F}{i:Nat}{r:Ru}(h:rs[i]? =some r):fC rs pos neg (i+1)=fC rs pos neg i++(if uB pos neg r then [r.head]else []):=by
 rw[fC,List.take_add_one,h,Option.toList_some,List.filter_append,List.map_append,←fC]
 congr 1
 by_cases k:uB pos neg r<;>simp[k]
theorem qFq(rs:List Ru)(base:List F):(lfp rs base).length≤base.length+rs.length:=by
 rw[lfp]
 refine Nat.le_trans (qCs _ _) (Nat.le_trans (List.length_filter_le _ _) ?_)
 rw[List.length_append,List.length_map]
 exact Nat.le_refl _
section
variable {rs:List Ru} {S out:List F}
theorem RedI.more(h:RedI rs S out)(e:(fY rs out S).length≠out.length):out.length<(fY rs out S).length:=yE cmpF_ord h.asc (mF _ _ _) h.sub e
end
section
variable {rs:List Ru} {base out:List F}
end
theorem nT{rs:List Ru}:∀{n:Nat},(∀m,m<n→fY rs (stF rs m) []≠stF rs m)→n≤(stF rs n).length
 |0,_=>Nat.zero_le _
 |n+1,h=>by
  have ih:=nT (n:=n) fun m hm=>h m (by omega)
  have h1:=(fL rs n).more fun e=>h n (by omega) (yF cmpF_ord (fL rs n).asc (mF rs _ _) (fL rs n).sub e).symm
  have h2:(stF rs (n+1)).length=(fY rs (stF rs n) []).length:=rfl
  omega
section
variable {rs:List Ru} {model B out:List F}
end
end Go.Vx
namespace Go.Vx
open Go.Proofs Classical
section
variable {μ:Mem}
theorem vO{L:List F}{f:F}{v w:Value}(hL:Asc3 dC L)(h:FsV μ L v)(hf:RepV μ f.fc.d w)(hn:L.length≤10000000):
  Spec Tryz.prog 73 [v,w] μ fun r μ'=>FsV μ' (jM L f) r:=by
 have w_:=FsV.sl h
 obtain⟨b,c,rfl,hlc,hs⟩:=w_
 have hf0:=hf
 have w_:=F.inv hf
 obtain⟨p,rfl,hfs⟩:=w_
 have w_:=Rep.src h
 obtain⟨vs,hrows,hvs,hcap,hsrc⟩:=w_
 refine Spec.mk Tryz.func73 (by kernel_rfl) ?_
 intro r3
 refine lIn (fun k:Nat=>k≤L.length∧∀x∈L.drop k,¬dC x f<0)
  (fun k=>⟨[(0,.val (.slice b L.length c)),(3,.loc 0 r3 0),(5,.val (.int .i64 k))],[(0,some (.cells r3 [.val (.string f.rel),.val (.slice p.1 f.args.length p.2)] 41))],1,μ,Mem.nil⟩) (fun k=>k)
  L.length ⟨Nat.le_refl _,by simp⟩ (fun _=>⟨rfl,rfl⟩) ⟨⟨rfl,rfl,rfl,trivial⟩,⟨rfl,trivial⟩,rfl,rfl⟩ ?_
 rintro k ⟨hk,hge⟩
 refine ifd (fun h0=>?_) (fun h0=>?_)
 ·obtain ⟨k, rfl⟩ : ∃ k', k = k' + 1 := ⟨k - 1, by omega⟩
  have w_:=aSo (l:=L) (i:=k) (by omega)
  obtain⟨y,hy⟩:=w_
  have w_:=F.elem hs hy
  obtain⟨ad3,p3,hel3,hry,hsy⟩:=w_
  refine nEq (x:=(k:Int)) (by rw[aA (by omega) (by omega)];omega) ?_
  refine eIn hel3 ?_
  refine cGv (gT hry hf0) ?_
  refine ifd (fun hc=>?_) (fun hc=>?_)
  ·refine nEq (x := (k : Int)) (by rw [aA (by omega) (by omega)]; omega) ⟨k, ⟨by omega, fun x hx => ?_⟩, by omega, ⟨⟨rfl, rfl, rfl, trivial⟩, ⟨rfl, trivial⟩, rfl, rfl⟩⟩
   rw[bR hy]at hx
   rcases List.mem_cons.1 hx with rfl|hx
   ·omega
   ·exact hge x hx
  ·have hlt3 := hL.take_lt cmpF_ord hy (e := f) (by omega)
   generalize k+1=k at*
   refine ifd (fun hkl=>?_) (fun hkl=>?_)
   ·have w_ := aSo (l := L) (i := k) (by omega)
    obtain⟨y2,hy2⟩:=w_
    have w_:=F.elem hs hy2
    obtain⟨ad4,p4,hel4,hry2,hsy2⟩:=w_
    refine eIn hel4 ?_
    refine cGv (gT hry2 hf0) ?_
    refine ifd (fun hc2=>?_) (fun hc2=>?_)
    ·have : f ∈ L := by rw [← (cmpF_ord.zero _ _).1 hc2]; exact mAt hy2
     rw[qBn hL this]
     exact rPl h
    ·have hgt3 : ∀ x ∈ L.drop k, dC f x < 0 := hL.drop_gt cmpF_ord hy2 (cmpF_ord.ge_pos (hge y2 (by rw [bR hy2]; simp)) hc2)
     intro r70
     refine aG 0 k rfl rfl (by omega) (by omega) ?_
     refine aJ _ (hsrc 0 k (by omega) hk) ?_
     refine gIn ?_ ?_ fun b1 c1 _=>?_
     ·show(0+_)*40≤_;simp;omega
     ·exact Nat.le_trans (m:=2000000000) (by simp;omega) (by decide)
     intro r77
     refine gIn ?_ ?_ fun b2 c2 _=>?_
     ·show(_+1)*40≤_;simp;omega
     ·exact Nat.le_trans (m:=2000000000) (by simp;omega) (by decide)
     refine aG k L.length rfl rfl hk (by omega) ?_
     refine aJ _ (hsrc k L.length hk (Nat.le_refl _)) ?_
     refine gIn ?_ ?_ fun b3 c3 _=>?_
     ·show(_+_)*40≤_;simp;omega
     ·exact Nat.le_trans (m:=3000000000) (by simp;omega) (by decide)
     have hr2:=(hrows.take k).append ((Rows.one hf0 (Fc.d_n _)).append (hrows.drop k))
     have ev:(([]:List Value)++(vs.drop 0).take (k-0)++[.agg #[.string f.rel,.slice p.1 f.args.length p.2]]++(vs.drop k).take (L.length-k))=vs.take k++([.agg #[.string f.rel,.slice p.1 f.args.length p.2]]++vs.drop k):=by
      simp
      rw[List.take_of_length_le (by simp;omega)]
     have hins:=uF hL hlt3 hgt3
     have e2:((jM L f).map F.fc).map Fc.d=((L.map F.fc).map Fc.d).take k++([f.fc.d]++((L.map F.fc).map Fc.d).drop k):=by rw[←hins];simp
     have e3:(vs.take k++([Value.agg #[.string f.rel,.slice p.1 f.args.length p.2]]++vs.drop k)).length=(jM L f).length:=by rw[←hins];simp;omega
     refine rFz [1] fun μ2 hle2 hno2 hrow2=> .inl ?_
     rw[ev]at hrow2
     have e4:(jM L f).length≤L.length+1:=qX L f
     have:=Rows.sl hrow2 (hr2.mono hle2) (Nat.le_trans (m:=3000000000) (by rw[e3];omega) (by decide))
     rw[←e2]at this
     rw[ev]
     exact this
   ·have hgt3:∀x∈L.drop k,dC f x<0:=by
     rw[List.drop_of_length_le (by omega)];simp
    intro r70
    refine aG 0 k rfl rfl (by omega) (by omega) ?_
    refine aJ _ (hsrc 0 k (by omega) hk) ?_
    refine gIn ?_ ?_ fun b1 c1 _=>?_
    ·show(0+_)*40≤_;simp;omega
    ·exact Nat.le_trans (m:=2000000000) (by simp;omega) (by decide)
    intro r77
    refine gIn ?_ ?_ fun b2 c2 _=>?_
    ·show(_+1)*40≤_;simp;omega
    ·exact Nat.le_trans (m:=2000000000) (by simp;omega) (by decide)
    refine aG k L.length rfl rfl hk (by omega) ?_
    refine aJ _ (hsrc k L.length hk (Nat.le_refl _)) ?_
    refine gIn ?_ ?_ fun b3 c3 _=>?_
    ·show(_+_)*40≤_;simp;omega
    ·exact Nat.le_trans (m:=3000000000) (by simp;omega) (by decide)
    have hr2:=(hrows.take k).append ((Rows.one hf0 (Fc.d_n _)).append (hrows.drop k))
    have ev:(([]:List Value)++(vs.drop 0).take (k-0)++[.agg #[.string f.rel,.slice p.1 f.args.length p.2]]++(vs.drop k).take (L.length-k))=vs.take k++([.agg #[.string f.rel,.slice p.1 f.args.length p.2]]++vs.drop k):=by
     simp
     rw[List.take_of_length_le (by simp;omega)]
    have hins:=uF hL hlt3 hgt3
    have e2:((jM L f).map F.fc).map Fc.d=((L.map F.fc).map Fc.d).take k++([f.fc.d]++((L.map F.fc).map Fc.d).drop k):=by rw[←hins];simp
    have e3:(vs.take k++([Value.agg #[.string f.rel,.slice p.1 f.args.length p.2]]++vs.drop k)).length=(jM L f).length:=by rw[←hins];simp;omega
    refine rFz [1] fun μ2 hle2 hno2 hrow2=> .inl ?_
    rw[ev]at hrow2
    have e4:(jM L f).length≤L.length+1:=qX L f
    have:=Rows.sl hrow2 (hr2.mono hle2) (Nat.le_trans (m:=3000000000) (by rw[e3];omega) (by decide))
    rw[←e2]at this
    rw[ev]
    exact this
 ·have hk0 : k = 0 := by omega
  have hlt3:∀x∈L.take k,dC x f<0:=by rw[hk0];simp
  refine ifd (fun hkl=>?_) (fun hkl=>?_)
  ·have w_ := aSo (l := L) (i := k) (by omega)
   obtain⟨y2,hy2⟩:=w_
   have w_:=F.elem hs hy2
   obtain⟨ad4,p4,hel4,hry2,hsy2⟩:=w_
   refine eIn hel4 ?_
   refine cGv (gT hry2 hf0) ?_
   refine ifd (fun hc2=>?_) (fun hc2=>?_)
   ·have : f ∈ L := by rw [← (cmpF_ord.zero _ _).1 hc2]; exact mAt hy2
    rw[qBn hL this]
    exact rPl h
   ·have hgt3 : ∀ x ∈ L.drop k, dC f x < 0 := hL.drop_gt cmpF_ord hy2 (cmpF_ord.ge_pos (hge y2 (by rw [bR hy2]; simp)) hc2)
    intro r70
    refine aG 0 k rfl rfl (by omega) (by omega) ?_
    refine aJ _ (hsrc 0 k (by omega) hk) ?_
    refine gIn ?_ ?_ fun b1 c1 _=>?_
    ·show(0+_)*40≤_;simp;omega
    ·exact Nat.le_trans (m:=2000000000) (by simp;omega) (by decide)
    intro r77
    refine gIn ?_ ?_ fun b2 c2 _=>?_
    ·show(_+1)*40≤_;simp;omega
    ·exact Nat.le_trans (m:=2000000000) (by simp;omega) (by decide)
    refine aG k L.length rfl rfl hk (by omega) ?_
    refine aJ _ (hsrc k L.length hk (Nat.le_refl _)) ?_
    refine gIn ?_ ?_ fun b3 c3 _=>?_
    ·show(_+_)*40≤_;simp;omega
    ·exact Nat.le_trans (m:=3000000000) (by simp;omega) (by decide)
    have hr2:=(hrows.take k).append ((Rows.one hf0 (Fc.d_n _)).append (hrows.drop k))
    have ev:(([]:List Value)++(vs.drop 0).take (k-0)++[.agg #[.string f.rel,.slice p.1 f.args.length p.2]]++(vs.drop k).take (L.length-k))=vs.take k++([.agg #[.string f.rel,.slice p.1 f.args.length p.2]]++vs.drop k):=by
     simp
     rw[List.take_of_length_le (by simp;omega)]
    have hins:=uF hL hlt3 hgt3
    have e2:((jM L f).map F.fc).map Fc.d=((L.map F.fc).map Fc.d).take k++([f.fc.d]++((L.map F.fc).map Fc.d).drop k):=by rw[←hins];simp
    have e3:(vs.take k++([Value.agg #[.string f.rel,.slice p.1 f.args.length p.2]]++vs.drop k)).length=(jM L f).length:=by rw[←hins];simp;omega
    refine rFz [1] fun μ2 hle2 hno2 hrow2=> .inl ?_
    rw[ev]at hrow2
    have e4:(jM L f).length≤L.length+1:=qX L f
    have:=Rows.sl hrow2 (hr2.mono hle2) (Nat.le_trans (m:=3000000000) (by rw[e3];omega) (by decide))
    rw[←e2]at this
    rw[ev]
    exact this
  ·have hgt3:∀x∈L.drop k,dC f x<0:=by
    rw[List.drop_of_length_le (by omega)];simp
   intro r70
   refine aG 0 k rfl rfl (by omega) (by omega) ?_
   refine aJ _ (hsrc 0 k (by omega) hk) ?_
   refine gIn ?_ ?_ fun b1 c1 _=>?_
   ·show(0+_)*40≤_;simp;omega
   ·exact Nat.le_trans (m:=2000000000) (by simp;omega) (by decide)
   intro r77
   refine gIn ?_ ?_ fun b2 c2 _=>?_
   ·show(_+1)*40≤_;simp;omega
   ·exact Nat.le_trans (m:=2000000000) (by simp;omega) (by decide)
   refine aG k L.length rfl rfl hk (by omega) ?_
   refine aJ _ (hsrc k L.length hk (Nat.le_refl _)) ?_
   refine gIn ?_ ?_ fun b3 c3 _=>?_
   ·show(_+_)*40≤_;simp;omega
   ·exact Nat.le_trans (m:=3000000000) (by simp;omega) (by decide)
   have hr2:=(hrows.take k).append ((Rows.one hf0 (Fc.d_n _)).append (hrows.drop k))
   have ev:(([]:List Value)++(vs.drop 0).take (k-0)++[.agg #[.string f.rel,.slice p.1 f.args.length p.2]]++(vs.drop k).take (L.length-k))=vs.take k++([.agg #[.string f.rel,.slice p.1 f.args.length p.2]]++vs.drop k):=by
    simp
    rw[List.take_of_length_le (by simp;omega)]
   have hins:=uF hL hlt3 hgt3
   have e2:((jM L f).map F.fc).map Fc.d=((L.map F.fc).map Fc.d).take k++([f.fc.d]++((L.map F.fc).map Fc.d).drop k):=by rw[←hins];simp
   have e3:(vs.take k++([Value.agg #[.string f.rel,.slice p.1 f.args.length p.2]]++vs.drop k)).length=(jM L f).length:=by rw[←hins];simp;omega
   refine rFz [1] fun μ2 hle2 hno2 hrow2=> .inl ?_
   rw[ev]at hrow2
   have e4:(jM L f).length≤L.length+1:=qX L f
   have:=Rows.sl hrow2 (hr2.mono hle2) (Nat.le_trans (m:=3000000000) (by rw[e3];omega) (by decide))
   rw[←e2]at this
   rw[ev]
   exact this
theorem nH{L:List F}{f:F}{b:Option Addr}{c:Nat}{w:Value}(hs:Sl μ 2 b L.length ((L.map F.fc).map Fc.d))(hf:RepV μ f.fc.d w):
  aM Tryz.prog 256 [.slice b L.length c,w] μ (.bool (decide (f∈L))):=by
 have hf0:=hf
 have w_:=F.inv hf
 obtain⟨p,rfl,hfs⟩:=w_
 have hn:=aH hs.max
 refine Spec.mk Tryz.func256 (by kernel_rfl) ?_
 intro r3
 refine lIn (fun k:Nat=>k≤L.length∧f∉L.take k)
  (fun k=>⟨[(3,.loc 0 r3 0),(7,.val (.slice b L.length c)),(8,.val (.int .i64 L.length)),(9,.val (.int .i64 k))],[(0,some (.cells r3 [.val (.string f.rel),.val (.slice p.1 f.args.length p.2)] 41))],1,μ,Mem.nil⟩) (fun k=>L.length-k)
  0 ⟨Nat.zero_le _,by simp⟩ (fun _=>⟨rfl,rfl⟩) ⟨⟨rfl,rfl,rfl,rfl,trivial⟩,⟨rfl,trivial⟩,rfl,rfl⟩ ?_
 rintro k ⟨hk,hno⟩
 refine ifd (fun hlt=>?_) (fun hlt=>?_)
 ·have w_ := aSo (l := L) (i := k) (by omega)
  obtain⟨y,hy⟩:=w_
  have w_:=F.elem hs hy
  obtain⟨ad3,p3,hel3,hry,hsy⟩:=w_
  refine eIn hel3 ?_
  intro r6
  refine cGv (gT hry hf0) ?_
  refine ifd (fun hc=>?_) (fun hc=>?_)
  ·refine rGv ?_ rfl
   rw[decide_eq_true]
   rw[←(cmpF_ord.zero _ _).1 hc];exact mAt hy
  ·refine aB (by omega) (by omega) ⟨k + 1, ⟨by omega, ?_⟩, by omega, ⟨⟨rfl, rfl, rfl, rfl, trivial⟩, ⟨rfl, trivial⟩, rfl, rfl⟩⟩
   rw[List.take_add_one,hy,Option.toList_some,List.mem_append,List.mem_singleton]
   rintro(k1|k1)
   ·exact hno k1
   ·exact hc ((cmpF_ord.zero _ _).2 k1.symm)
 ·obtain rfl : k = L.length := by omega
  rw[List.take_length]at hno
  refine rGv ?_ rfl
  rw[decide_eq_false hno]
theorem lK{α:Type}{l:List α}{i:Nat}{x:α}{P:α→Prop}(h:∀y∈l.take i,P y)(hx:l[i]? =some x)(hp:P x):∀y∈l.take (i+1),P y:=by
 rw[List.take_add_one,hx,Option.toList_some]
 intro y hy
 rcases List.mem_append.1 hy with k|k
 ·exact h y k
 ·rw[List.mem_singleton.1 k];exact hp
theorem pF{r:Ru}{pos neg:List F}{v:Value}{b b2:Option Addr}{c c2:Nat}(hr:RepV μ r.rd.d v)(hs:Sl μ 2 b pos.length ((pos.map F.fc).map Fc.d))(hs2:Sl μ 2 b2 neg.length ((neg.map F.fc).map Fc.d)):
  aM Tryz.prog 220 [v,.slice b pos.length c,.slice b2 neg.length c2] μ (.bool (decide (uB pos neg r))):=by
 have w_:=Ru.inv hr
 obtain⟨p,rfl,-,-,h3,h4⟩:=w_
 have hm1:=aH h3.max
 have hm2:=aH h4.max
 refine Spec.mk Tryz.func220 (by kernel_rfl) ?_
 intro r3
 refine lIn (fun k:Nat=>k≤r.pos.length∧∀f∈r.pos.take k,f∈pos)
  (fun k=>⟨[(1,.val (.slice b pos.length c)),(2,.val (.slice b2 neg.length c2)),(3,.loc 0 r3 0),(12,.val (.slice p.2.2.1.1 r.pos.length p.2.2.1.2)),(13,.val (.int .i64 r.pos.length)),(14,.val (.int .i64 k))],[(0,some (.cells r3 (vals (r.cs p)) 106))],1,μ,Mem.nil⟩) (fun k=>r.pos.length-k)
  0 ⟨Nat.zero_le _,by simp⟩ (fun _=>⟨rfl,rfl⟩) ⟨⟨rfl,rfl,rfl,rfl,rfl,rfl,trivial⟩,⟨rfl,trivial⟩,rfl,rfl⟩ ?_
 rintro k ⟨hk,hall⟩
 refine ifd (fun hlt=>?_) (fun hlt=>?_)
 ·have w_ := aSo (l := r.pos) (i := k) (by omega)
  obtain⟨y,hy⟩:=w_
  have w_:=F.elem h3 hy
  obtain⟨ad3,p3,hel3,hry,hsy⟩:=w_
  refine eIn hel3 ?_
  intro r8
  refine cGv (nH hs hry) ?_
  refine aL (fun h=>rGv (isF fun k=>h (k.1 y (mAt hy))) rfl) (fun h=>?_)
  ·exact aB (by omega) (by omega) ⟨k+1,⟨by omega,lK hall hy h⟩,by omega,⟨⟨rfl,rfl,rfl,rfl,rfl,rfl,trivial⟩,⟨rfl,trivial⟩,rfl,rfl⟩⟩
 obtain rfl:k=r.pos.length:=by omega
 rw[List.take_length]at hall
 refine lIn (fun k:Nat=>k≤r.neg.length∧∀f∈r.neg.take k,f∉neg)
  (fun k=>⟨[(2,.val (.slice b2 neg.length c2)),(24,.val (.slice p.2.2.2.1 r.neg.length p.2.2.2.2)),(25,.val (.int .i64 r.neg.length)),(26,.val (.int .i64 k))],[],1,μ,Mem.nil⟩) (fun k=>r.neg.length-k)
  0 ⟨Nat.zero_le _,by simp⟩ (fun _=>⟨rfl,rfl⟩) ⟨⟨rfl,rfl,rfl,rfl,trivial⟩,trivial,rfl,rfl⟩ ?_
 rintro k ⟨hk,hall2⟩
 refine ifd (fun hlt=>?_) (fun hlt=>?_)
 ·have w_ := aSo (l := r.neg) (i := k) (by omega)
  obtain⟨y,hy⟩:=w_
  have w_:=F.elem h4 hy
  obtain⟨ad3,p3,hel3,hry,hsy⟩:=w_
  refine eIn hel3 ?_
  intro r8
  refine cGv (nH hs2 hry) ?_
  refine ifd (fun h=>rGv (isF fun k=>(k.2 y (mAt hy)) h) rfl) (fun h=>?_)
  ·exact aB (by omega) (by omega) ⟨k+1,⟨by omega,lK hall2 hy h⟩,by omega,⟨⟨rfl,rfl,rfl,rfl,trivial⟩,trivial,rfl,rfl⟩⟩
 obtain rfl:k=r.neg.length:=by omega
 rw[List.take_length]at hall2
 exact rGv (isT ⟨hall,hall2⟩) rfl
theorem zX{rs:List Ru}{pos neg:List F}{b b2 b3:Option Addr}{c c2 c3:Nat}(hr:Sl μ 6 b3 rs.length ((rs.map Ru.rd).map RuD.d))(hn:rs.length≤10000000)(hs:Sl μ 2 b pos.length ((pos.map F.fc).map Fc.d))(hs2:Sl μ 2 b2 neg.length ((neg.map F.fc).map Fc.d)):
  Spec Tryz.prog 210 [.slice b3 rs.length c3,.slice b pos.length c,.slice b2 neg.length c2] μ fun r μ'=>FsV μ' (fY rs pos neg) r:=by
 refine Spec.mk Tryz.func210 (by kernel_rfl) ?_
 intro r10
 refine lFz (fun z:Nat×Option Addr×Nat×Mem=>z.1≤rs.length∧μ.Le z.2.2.2∧FsV z.2.2.2 (lI (fC rs pos neg z.1)) (.slice z.2.1 (lI (fC rs pos neg z.1)).length z.2.2.1))
  (fun(i,b4,c4,μ')=>⟨[(1,.val (.slice b pos.length c)),(2,.val (.slice b2 neg.length c2)),(7,.val (.slice b4 (lI (fC rs pos neg i)).length c4)),(11,.val (.slice b3 rs.length c3)),(12,.val (.int .i64 rs.length)),(13,.val (.int .i64 i))],[],0,μ',Mem.nil⟩) (fun z=>rs.length-z.1) [0]
  (fun(_,_,_,_)=>⟨rfl,rfl⟩) (fun μ1 hle1 hno1 hat1=>?_) ?_
 ·have e0 : lI (fC rs pos neg 0) = [] := by simp [fC, qNj (L := []) List.Pairwise.nil]
  refine⟨(0,some ⟨r10,0,none⟩,0,μ1),⟨Nat.zero_le _,hle1,?_⟩,⟨rfl,rfl,?_,rfl,rfl,rfl,trivial⟩,trivial,rfl,rfl⟩
  ·dsimp only;rw[e0];exact FsV.nil _ _
  ·dsimp only;rw[e0];rfl
 rintro⟨i,b4,c4,μ'⟩ ⟨hi,hle,hout⟩
 dsimp only at hi hle hout
 refine ifd (fun hlt=>?_) (fun hlt=>?_)
 rotate_left
 ·obtain rfl : i = rs.length := by omega
  rw[zS]at hout ⊢
  exact rPl hout
 have w_:=aSo (l:=rs) (i:=i) (by omega)
 obtain⟨r,hri⟩:=w_
 have w_:=Ru.elem (hr.mono hle) hri
 obtain⟨ad,p,hel,hrv,hat⟩:=w_
 have hlen:(lI (fC rs pos neg i)).length≤i:=Nat.le_trans (qBa _) (zT _ _ _ _)
 have hsucc:=sY (pos:=pos) (neg:=neg) hri
 refine eIn hel ?_
 intro r9
 refine cGv (pF hrv (hs.mono hle) (hs2.mono hle)) ?_
 refine ifd (fun hf=>?_) (fun hf=>?_)
 ·rw [if_pos hf] at hsucc
  refine cPl (vO (qR _) hout hat.head (by omega)) fun v4 μ4 hle4 hR4=>?_
  have e:jM (lI (fC rs pos neg i)) r.head=lI (fC rs pos neg (i+1)):=zK fun x=>by
   rw[List.mem_cons,mC,hsucc,List.mem_append,List.mem_singleton];exact Or.comm
  rw[e]at hR4
  have w_:=FsV.sl hR4
  obtain⟨b5,c5,rfl,-,-⟩:=w_
  exact aB (by omega) (by omega) ⟨[],(i+1,b5,c5,μ4),⟨by dsimp only;omega,hle.trans hle4,hR4⟩,by dsimp only;omega,⟨⟨rfl,rfl,rfl,rfl,rfl,rfl,trivial⟩,trivial,rfl,rfl⟩⟩
 ·rw [if_neg hf, List.append_nil] at hsucc
  refine aB (by omega) (by omega) ⟨[],(i+1,b4,c4,μ'),⟨by dsimp only;omega,hle,?_⟩,by dsimp only;omega,⟨⟨rfl,rfl,?_,rfl,rfl,rfl,trivial⟩,trivial,rfl,rfl⟩⟩
  ·dsimp only;rw[hsucc];exact hout
  ·dsimp only;rw[hsucc];rfl
end
end Go.Vx
namespace Go.Vx
open Go.Proofs Classical
section
variable {μ:Mem}
theorem qOj:Sl μ 2 none 0 ((([]:List F).map F.fc).map Fc.d):=⟨rfl,Nat.zero_le _,fun i x h=>by simp at h⟩
end
end Go.Vx
namespace Go.Vx
open Go.Proofs Classical
theorem fQ{p:Pg}{u:List Tm}{rs:List Ru}(h:bX p u=some rs):rs.length≤2000∧∀r∈rs,RuOk p r:=by
 have hok:=kI h
 rw[bX,if_pos hok,cI]at h
 split at h
 ·rename_i hw
  cases h
  refine⟨hw.2,fun r hr=>?_⟩
  have w_:=List.mem_flatMap.1 hr
  obtain⟨rel,hrel,hr⟩:=w_
  have w_:=List.mem_iff_getElem?.1 hrel
  obtain⟨k,hk⟩:=w_
  have hro:=hok.1.2 k rel hk
  rw[cD]at hr
  split at hr
  ·simp at hr
  ·rename_i L hL
   rw[aY,List.mem_flatMap]at hr
   obtain⟨i,hi,hr⟩:=hr
   rw[List.mem_range]at hi
   have w_:=aSo (l:=L) (i:=i) hi
   obtain⟨c,hc⟩:=w_
   have ec:L.getD i []=c:=by rw[List.getD_eq_getElem?_getD,hc];rfl
   rw[ec,bI,List.mem_filterMap]at hr
   obtain⟨w,-,hr⟩:=hr
   rw[dY]at hr
   split at hr
   ·rename_i hokg
    cases hr
    have hG:∀g∈c,ClG g:=fun g hg=>ClG.of hok.1 hk hL (mAt hc) hg
    have w_:=hok.2.lift
    obtain⟨U,hU,hUg,hUl⟩:=w_
    have e1:u.map Tm.toT=U:=by rw[hU,gO]
    rw[e1]
    have h1:=hok.2.pos
    have har0:=hro.ar0
    have har4:=hro.ar4
    have hlo0:=hro.lo0
    have hlen:((dR U (rel.arity+rel.locals).toNat w).take rel.arity.toNat).length=rel.arity.toNat:=by
     rw[List.length_take,gG];omega
    refine⟨⟨⟨k,rel,hro.at_,hk,?_⟩,fun t ht=>?_⟩,?_,wB hG,Nat.le_trans uJ (Nat.le_trans ((Gl.cl_bnd _ hL).1 c (mAt hc)) hro.size),fun f hf a ha=>(hUg a ((okG_iff.1 (by rw[e1]at hokg;exact hokg)).2.1 f hf a ha)).1⟩
    ·show rel.arity = (((dR U (rel.arity + rel.locals).toNat w).take rel.arity.toNat).map T.tm).length
     rw[List.length_map,hlen];omega
    ·have w_ := List.mem_map.1 ht
     obtain⟨x,hx,rfl⟩:=w_
     have hx:=mR U (by omega) _ _ x (List.mem_of_mem_take hx)
     exact⟨T.ok.tm (hUg x hx).1,by rw[T.toT_tm];exact(hUg x hx).2⟩
    ·show ((dR U (rel.arity + rel.locals).toNat w).take rel.arity.toNat).length ≤ 4
     rw[hlen];omega
   ·cases hr
 ·cases h
theorem FactFits.wd{p:Pg}(hp:p.Ok){f:Fc}(h:FactFits p f):f.d.wd:=by
 have hl:=h.lift
 obtain⟨⟨k,r,h1,h2,h3⟩,_⟩:=h
 have w_:=gA (p:=p) (s:=f.rel) (by omega)
 obtain⟨k',r',e1,e2,e3⟩:=w_
 have hn:=(hp.2 k' r' e2).name
 rw[e3]at hn
 rw[Fc.d_eq]
 refine⟨Nat.le_trans hn.2.2.1 (by decide),?_,trivial⟩
 have e:f.args=f.f.args.map T.tm:=(congrArg Fc.args hl.1).symm
 rw[e]
 exact mU fun a ha=>(hl.2 a ha).1.1
theorem qGy{p:Pg}{rs:List Ru}{base:List F}(hr:∀r∈rs,RuOk p r)(hb:FsOk p base):FsOk p (lfp rs base):=fun f hf=>by
 cases mem_lfp.1 hf with
 |base h=>exact hb _ h
 |rule h _=>exact(hr _ h).head
section
variable {μ:Mem}
theorem oT{f:F}{v:Value}(hf:RepV μ f.fc.d v)(hl:f.args.length≤1000000):Spec Tryz.prog 102 [v] μ fun v μ'=>Fresh μ μ' f.fc.d v:=by
 have w_:=F.inv hf
 obtain⟨p,rfl,hfs⟩:=w_
 refine Spec.mk Tryz.func102 (by kernel_rfl) ?_
 intro r1 r2
 refine cPl (jR hfs hl) fun v1 μ1 hle1 hR=>?_
 have w_:=Rep.sl hR.rep
 obtain⟨b,c,rfl,-⟩:=w_
 refine rPl ?_
 have:=(FreshS.str (n:=f.rel) (FreshS.cons hR hle1 (Mem.Le.refl _) FreshS.nil)).st
 exact this
end
end Go.Vx
namespace Go.Vx
open Go.Proofs Classical
def fsD(L:List F):D:= .sl 2 ((L.map F.fc).map Fc.d)
noncomputable def stD(rs:List Ru)(n:Nat):List D:=(List.range (n+1)).map fun i=>fsD (stF rs i)
theorem qCl(rs:List Ru)(n:Nat):stD rs (n+1)=stD rs n++[fsD (stF rs (n+1))]:=by
 rw[stD,List.range_succ,List.map_append];rfl
theorem rP(rs:List Ru)(n:Nat):(stD rs n).length=n+1:=by rw[stD,List.length_map,List.length_range]
theorem tM(rs:List Ru)(n:Nat):(stD rs n)[n]? =some (fsD (stF rs n)):=by
 rw[stD,List.getElem?_map,List.getElem?_range (by omega)];rfl
noncomputable def gY(p:Pg)(u:List Tm):Option (List F):=(bH p u).map fun rs=>lfp rs []
noncomputable def qQd(P:List F→Value→Prop)(o:Option (List F))(v:Value):Prop:=match o with
 |none=>v= .tuple #[.slice none 0 0,.int .i64 0,.bool false]
 |some y=>∃tv,∃n:Nat,v= .tuple #[tv,.int .i64 n,.bool true]∧P y tv
theorem sC{p:Pg}{u:List Tm}{y:List F}(h:gY p u=some y):p.Ok∧FsOk p y∧y.length≤2000∧Asc3 dC y:=by
 cases hP:bH p u with
 |none=>rw[gY,hP]at h;cases h
 |some rs=>
  rw[gY,hP]at h
  cases h
  rw[bH]at hP
  split at hP
  ·rename_i hpos
   have w_:=fQ hP
   obtain⟨h1,h2⟩:=w_
   refine⟨hpos.1,qGy h2 (fun _ h=>nomatch h),?_,qCw _ _⟩
   have:=qFq rs []
   simp only[List.length_nil]at this
   show(lfp rs []).length≤2000
   omega
  ·cases hP
section
variable {μ:Mem}
set_option maxHeartbeats 1000000 in
theorem vP{rs:List Ru}{b3:Option Addr}{c3:Nat}(hr:Sl μ 6 b3 rs.length ((rs.map Ru.rd).map RuD.d))(hn:rs.length≤2000):
  Spec Tryz.prog 218 [.slice b3 rs.length c3] μ fun v μ'=>∃n,LastSt rs n∧RepV μ' (.sl 1 (stD rs n)) v:=by
 refine Spec.mk Tryz.func218 (by kernel_rfl) ?_
 intro r6 μ1 hle1 hno1 hat1 r7
 refine lIn (fun z:Nat×Option Nat×Nat×List Value×Mem=>(∀m,m<z.1→fY rs (stF rs m) []≠stF rs m)∧μ.Le z.2.2.2.2∧Rows z.2.2.2.2 1 (stD rs z.1) z.2.2.2.1)
  (fun(_,bo,co,ys,μ')=>⟨[(0,.val (.slice b3 rs.length c3)),(3,.row 1 bo ys.length co)],[(1,some (.row bo co 29 1 ys))],2,μ',Mem.nil⟩) (fun z=>rs.length+1-z.1)
  (0,some r7,1,_,μ1) ⟨(fun m h=>by omega),hle1,Rows.one (d:=fsD []) (Rows.sl (μ:=μ1) (ds:=[]) hat1 .nil (Nat.zero_le _)) rfl⟩ (fun(_,_,_,_,_)=>⟨rfl,rfl⟩) ⟨⟨rfl,rfl,trivial⟩,⟨rfl,trivial⟩,rfl,rfl⟩ ?_
 rintro⟨n,bo,co,ys,μ'⟩ ⟨hne,hle,hrows⟩
 dsimp only at hne hle hrows
 have hyl:=hrows.len
 rw[rP]at hyl
 have hsl:=nT hne
 have hrl:=(fL rs n).len
 have w_:=hrows.val (tM rs n)
 obtain⟨w,hw,hwr⟩:=w_
 have hwr:FsV μ' (stF rs n) w:=hwr
 have w_:=FsV.sl hwr
 obtain⟨b5,c5,rfl,-,hso⟩:=w_
 refine aB (by omega) (by omega) ?_
 refine aX n (by omega) (by omega) (aW _ hw ?_)
 refine cPl (zX (neg:=[]) (b2:=none) (c2:=0) (hr.mono hle) (by omega) hso qOj) fun v4 μ4 hle4 hR4=>?_
 have w_:=FsV.sl hR4
 obtain⟨b6,c6,rfl,-,-⟩:=w_
 refine ifd (fun he=>?_) (fun he=>?_)
 ·refine rFz [1] fun μ5 hle5 hno5 hat5 => .inl ⟨n, ⟨(yF cmpF_ord (fL rs n).asc (mF rs _ _) (fL rs n).sub (by omega)).symm, hne⟩, ?_⟩
  exact Rows.sl hat5 (hrows.mono (hle4.trans hle5)) (Nat.le_trans (m:=100000) (by omega) (by decide))
 ·intro r25
  refine gIn ?_ ?_ fun b' c' _=>?_
  ·show(ys.length+1)*24≤_;omega
  ·exact Nat.le_trans (m:=100000) (show ys.length+1≤_ by omega) (by decide)
  have hne':∀m,m<n+1→fY rs (stF rs m) []≠stF rs m:=fun m hm=>by
   rcases Nat.lt_or_ge m n with k|k
   ·exact hne m k
   ·obtain rfl : m = n := by omega
    intro e
    rw[e]at he
    exact he rfl
  have hs2:=nT hne'
  have hr2:=(fL rs (n+1)).len
  refine⟨(n+1,b',c',_,μ4),⟨hne',hle.trans hle4,?_⟩,by dsimp only;omega,⟨⟨rfl,rfl,trivial⟩,⟨rfl,trivial⟩,rfl,rfl⟩⟩
  dsimp only
  rw[qCl]
  exact(hrows.mono hle4).append (Rows.one (d:=fsD (stF rs (n+1))) hR4 rfl)
theorem qCk{rs:List Ru}{n:Nat}{b:Option Addr}(h:Sl μ 1 b (n+1) (stD rs n)):∃ad,∃q:Option Addr×Nat,ElemAt μ b (n+1) 1 n ad [.slice q.1 (stF rs n).length q.2]∧FsV μ (stF rs n) (.slice q.1 (stF rs n).length q.2):=by
 have w_:=h.get n (fsD (stF rs n)) (tM rs n)
 obtain⟨ad,cs,h1,h2⟩:=w_
 have h3:Rep μ (fsD (stF rs n)) cs:=h2
 have hl:=Rep.len _ _ h3
 match cs,hl with
 |[v],_=>
  have h4:FsV μ (stF rs n) v:=h3
  have w_:=FsV.sl h4
  obtain⟨b5,c5,rfl,-,_⟩:=w_
  exact⟨ad,(b5,c5),h1,h4⟩
theorem xH{rs:List Ru}{n:Nat}{v:Value}(h:RepV μ (.sl 1 (stD rs n)) v):∃b c,v= .slice b (n+1) c∧Sl μ 1 b (n+1) (stD rs n):=by
 have w_:=Rep.sl h
 obtain⟨b,c,rfl,hs⟩:=w_
 have hs2:=hs.1
 rw[rP]at hs hs2
 exact⟨b,c,by rw[rP],hs⟩
theorem tF{p:Pg}{u:List Tm}{v:Value}{ub:Option Addr}{uc:Nat}(hp:RepV μ p.d v)(hw:p.d.wd)(hu:Sl μ 4 ub u.length (u.map Tm.d))(hwu:D.wds (u.map Tm.d)):
  Spec Tryz.prog 156 [v,.slice ub u.length uc] μ fun v μ'=>match bH p u with
   |none=>v= .tuple #[.slice none 0 0,.slice none 0 0,.bool false]
   |some rs=>∃t1 t2,v= .tuple #[t1,t2,.bool true]∧RsV μ' rs t1∧∃n,LastSt rs n∧RepV μ' (.sl 1 (stD rs n)) t2:=by
 have hp0:=hp
 have w_:=Pg.inv hp
 obtain⟨q,rfl,hrl⟩:=w_
 refine Spec.mk Tryz.func156 (by kernel_rfl) ?_
 intro r2
 refine cPl (eS hp0 hw) fun v1 μ1 hle1 hR=>?_
 obtain rfl:=hR
 refine aL (fun h=>rPl (by rw[bH,if_neg h])) (fun hpos=>?_)
 refine cPl (mG (hp0.mono hle1) hw (hu.mono hle1) hwu) fun v2 μ2 hle2 hR=>?_
 rw[bH,if_pos hpos]
 cases hL:bX p u with
 |none=>
  rw[hL]at hR
  obtain rfl:=hR
  exact iIn (fun _=>rPl rfl) (fun h=>nomatch h)
 |some rs=>
 rw[hL]at hR
 obtain⟨tv,rfl,hR⟩:=hR
 have hR:RsV μ2 rs tv:=hR
 have w_:=RsV.sl hR
 obtain⟨b1,c1,rfl,hrs⟩:=w_
 refine iIn (fun h=>nomatch h) (fun _=>?_)
 refine cPl (vP hrs (fQ hL).1) fun v3 μ3 hle3 hR3=>?_
 exact rPl ⟨_,_,rfl,RepV.mono hle3 hR,hR3⟩
theorem nR{p:Pg}{u:List Tm}{v:Value}{ub:Option Addr}{uc:Nat}(hp:RepV μ p.d v)(hw:p.d.wd)(hu:Sl μ 4 ub u.length (u.map Tm.d))(hwu:D.wds (u.map Tm.d)):
  Spec Tryz.prog 85 [v,.slice ub u.length uc] μ fun v μ'=>qQd (fun y tv=>FsV μ' y tv) (gY p u) v:=by
 have hp0:=hp
 have w_:=Pg.inv hp
 obtain⟨q,rfl,hrl⟩:=w_
 refine Spec.mk Tryz.func85 (by kernel_rfl) ?_
 intro r2
 refine cPl (tF hp0 hw hu hwu) fun v1 μ1 hle1 hR=>?_
 cases hP:bH p u with
 |none=>
  rw[hP]at hR
  obtain rfl:=hR
  refine iIn (fun _=>rPl (by rw[gY,hP];rfl)) (fun h=>nomatch h)
 |some rs=>
 rw[hP]at hR
 obtain⟨t1,t2,rfl,hR1,n,hlast,hR2⟩:=hR
 have hL:gY p u=some (lfp rs []):=by rw[gY,hP];rfl
 have hk:=sC hL
 have w_:=xH hR2
 obtain⟨b2,c2,rfl,hs2⟩:=w_
 have hsl:=nT hlast.2
 rw[←hlast.eq]at hL hk
 refine iIn (fun h=>nomatch h) (fun _=>?_)
 refine aB (by omega) (by omega) ?_
 have w_:=qCk hs2
 obtain⟨ad,q2,hel,hfs⟩:=w_
 rw[show(((n+1:Nat):Int)-1)=(n:Int) by omega]
 refine eIn hel ?_
 have w_:=FsV.sl hfs
 obtain⟨b4,c4,e,-,hs4⟩:=w_
 have w_:=Value.slice.inj e
 obtain⟨e1,_,e3⟩:=w_
 rw[←e1]at hs4
 refine cPl (kK hs4 (by omega) fun f hf=>Nat.le_trans (hk.2.1.len hk.1 f hf) (by decide)) fun v4 μ4 hle4 hR4=>?_
 refine aB (by omega) (by omega) ?_
 refine rPl ?_
 rw[hL]
 exact⟨_,n,by rw[show(((n+1:Nat):Int)-1)=(n:Int) by omega],hR4⟩
end
end Go.Vx
namespace Go.Vx
open Go.Proofs Classical
section
variable {μ:Mem}
theorem RowAt.src{b:Option Nat}{cap es:Nat}{ys:List Value}(h:RowAt μ b cap es ys):lW μ (b.map fun r=>⟨r,0,none⟩) ys.length es ys:=by
 cases b with
 |none=>
  obtain rfl:ys=[]:=h
  exact⟨rfl,(fun _ h=>nomatch h),.inl rfl⟩
 |some r=>
  obtain⟨h1,h2,arr,ty,h3,h4,h5⟩:=h
  refine⟨rfl,h2,.inr ⟨_,rfl,fun j v hj=>?_⟩⟩
  have hlt:=(List.getElem?_eq_some_iff.1 hj).1
  have hf:(ys.flatMap aD).length=ys.length*es:=eP ys fun y hy=>(h2 y hy).1
  rw[←h5,List.getElem?_take,if_pos (by omega)]at hj
  rw[Addr.add_lit',Nat.zero_add]
  simp only[Mem.cell,h3]
  simpa using hj
end
end Go.Vx
namespace Go.Vx
open Go.Proofs Classical
def lvB(n:Nat):Nat:=if 2<n then 2*lvB (n / 2)else 1
termination_by n
decreasing_by omega
theorem qPx:lvB 4=2:=by rw[lvB,if_pos (by decide),lvB,if_neg (by decide)]
theorem xA:lvB 3=2:=by rw[lvB,if_pos (by decide),lvB,if_neg (by decide)]
theorem iO:∀n,1≤lvB n:=fun n=>by
 induction n using Nat.strongRecOn with
 |ind n ih=>
  rw[lvB]
  split
  ·have:=ih (n / 2) (by omega);omega
  ·exact Nat.le_refl _
end Go.Vx
namespace Go.Vx
open Go.Proofs Classical
theorem Pf.cnt_eq1(g:Pf):g.cnt=1+Pf.cnts g.kids:=by cases g;rfl
theorem Pf.cnt_pos(g:Pf):1≤g.cnt:=by rw[Pf.cnt_eq1];omega
theorem Pf.cnts_append:∀(a c:List Pf),Pf.cnts (a++c)=Pf.cnts a+Pf.cnts c
 |[],c=>by simp[Pf.cnts]
 |d::r,c=>by simp[Pf.cnts,Pf.cnts_append r c,Nat.add_assoc]
theorem Pf.cnts_take{xs:List Pf}{j:Nat}{x:Pf}(h:xs[j]? =some x):Pf.cnts (xs.take (j+1))=Pf.cnts (xs.take j)+x.cnt:=by
 rw[List.take_add_one,h,Option.toList_some,Pf.cnts_append];simp[Pf.cnts]
theorem Pf.cnts_le(xs:List Pf)(j:Nat):Pf.cnts (xs.take j)≤Pf.cnts xs:=by
 have:=Pf.cnts_append (xs.take j) (xs.drop j)
 rw[List.take_append_drop]at this;omega
def wW(H:Mem)(r:Nat)(k:Int):Mem:=H.set r (.cells #[.int .i64 k] 3 (0,0))
section
variable {μ:Mem}
theorem sN:∀(g:Pf) {v:Value} {most:Int},RepV μ g.d v→ -1000000000000≤most→most≤1000000000000→aM Tryz.prog 221 [v,.int .i64 most] μ (.int .i64 (bP g.cnt most)):=
 Pf.ind fun g ih v most hv h1 h2=>by
  have w_:=Pf.inv hv
  obtain⟨p,rfl,-,hsl⟩:=w_
  have hn:=aH hsl.max
  have hge:=Pf.cnt_eq1 g
  generalize hl:g.kids=l at*
  refine Spec.mk Tryz.func221 (by kernel_rfl) ?_
  intro r
  refine lIn (fun i:Nat=>i≤l.length) (fun i=>⟨[(1,.val (.int .i64 most)),(5,.val (.int .i64 (bP (1+Pf.cnts (l.take i):Nat) most))),(9,.val (.slice p.2.1 l.length p.2.2)),(10,.val (.int .i64 l.length)),(11,.val (.int .i64 i))],[],1,μ,Mem.nil⟩) (fun i=>l.length-i)
   0 (by omega) (fun i=>⟨rfl,rfl⟩) ⟨⟨rfl,by show some (SV.val (.int .i64 _))=some (SV.val (.int .i64 _));congr 3;simp[Pf.cnts,bP];omega,rfl,rfl,rfl,trivial⟩,trivial,rfl,rfl⟩ ?_
  intro i hi
  refine ifd (fun h=>?_) (fun h=>?_)
  ·have w_ := aSo (l := l) (i := i) (by omega)
   obtain⟨t,ht⟩:=w_
   have hc:=Pf.cnts_take ht
   have hc':=Pf.cnts_le l (i+1)
   have w_:=Pf.elem hsl ht
   obtain⟨ad,p,hel,hr⟩:=w_
   refine eIn hel ?_
   intro r2
   refine ifd (fun h=>rGv ?_ rfl) (fun h=>?_)
   ·simp only [bP] at h ⊢
    congr 1;omega
   ·have hb : bP (1 + Pf.cnts (l.take i) : Nat) most ≤ 1000000000001 ∧ 1 ≤ bP (1 + Pf.cnts (l.take i) : Nat) most := by unfold bP; omega
    refine aB (by omega) (by omega) ?_
    refine cGv (ih t (mAt ht) hr (by omega) (by omega)) ?_
    refine nEq (x:=bP (1+Pf.cnts (l.take (i+1)):Nat) most) ?_ ?_
    ·have hb2:bP (t.cnt:Int) (most-bP (1+Pf.cnts (l.take i):Nat) most)≤1000000000001∧1≤bP (t.cnt:Int) (most-bP (1+Pf.cnts (l.take i):Nat) most):=by
      have:=t.cnt_pos
      unfold bP at hb h ⊢
      omega
     rw[aA (by omega) (by omega),hc]
     unfold bP at h ⊢;omega
    ·exact aB (by omega) (by omega) ⟨i+1,by omega,by omega,⟨⟨rfl,rfl,rfl,rfl,rfl,trivial⟩,trivial,rfl,rfl⟩⟩
  ·obtain rfl : i = l.length := by omega
   rw[List.take_length]
   exact rGv (by rw[hge]) rfl
noncomputable def Pf.size(x:Pf):Int:=if x.cnt≤200 then x.cnt else 0
theorem qNz{H:Mem}{r:Nat}:∀(g:Pf) {v:Value} {k:Int},RepV μ g.d v→0≤k→k≤200→SpecH Tryz.prog 105 [v,.pointer (some ⟨r,0,none⟩)] μ (wW H r k) fun w μ' h'=>μ'=μ∧∃a b:Int,w= .int .i64 a∧h'=wW H r b∧0≤a∧a≤b-k∧k<b∧b≤201∧b≤k+g.cnt∧(b=k+g.cnt∨200<b):=
 Pf.ind fun g ih v k hv h1 h2=>by
  have w_:=Pf.inv hv
  obtain⟨p,rfl,-,hsl⟩:=w_
  have hn:=aH hsl.max
  have hge:=Pf.cnt_eq1 g
  generalize hl:g.kids=l at*
  refine SpecH.mk [] Tryz.func105 (by kernel_rfl) ?_
  intro r2
  refine oIn [.int .i64 k] rfl (bJ (set_self _ _ _)) ?_
  refine aB (by omega) (by omega) ?_
  refine sIn (h:=wW H r k) (a:=⟨r,0,none⟩) [.int .i64 k] 3 (set_self _ _ _) rfl (Nat.le_refl _) ?_
  have e:∀k n:Int,(wW H r k).set r (.cells #[.int .i64 n] 3 (0,0))=wW H r n:=fun k n=>Mem.set_set _ _ _ _
  refine lIn (fun z:Nat×Int×Int=>z.1≤l.length∧0≤z.2.1∧z.2.1≤z.2.2-k-1∧k<z.2.2∧z.2.2≤201∧z.2.2≤k+1+Pf.cnts (l.take z.1)∧(z.2.2=k+1+Pf.cnts (l.take z.1)∨200<z.2.2))
   (fun(i,a,b)=>⟨[(1,.val (.pointer (some ⟨r,0,none⟩))),(5,.val (.int .i64 a)),(15,.val (.slice p.2.1 l.length p.2.2)),(16,.val (.int .i64 l.length)),(17,.val (.int .i64 i))],[],1,μ,wW H r b⟩) (fun z=>l.length-z.1)
   (0,0,k+1) ⟨Nat.zero_le _,Int.le_refl _,by dsimp only;omega,by dsimp only;omega,by dsimp only;omega,by dsimp only;simp[Pf.cnts],.inl (by simp[Pf.cnts])⟩ (fun(_,_,_)=>⟨rfl,rfl⟩) ⟨⟨rfl,rfl,rfl,rfl,rfl,trivial⟩,trivial,rfl,e _ _⟩ ?_
  rintro⟨i,a,b⟩ ⟨hi,ha0,ha,hkb,hb,hbc,hor⟩
  dsimp only at hi ha0 ha hkb hb hbc hor
  refine ifd (fun h=>?_) (fun h=>?_)
  ·have w_ := aSo (l := l) (i := i) (by omega)
   obtain⟨t,ht⟩:=w_
   have hc:=Pf.cnts_take ht
   have hc':=Pf.cnts_le l (i+1)
   have w_:=Pf.elem hsl ht
   obtain⟨ad,p,hel,hr⟩:=w_
   refine eIn hel ?_
   intro r7
   refine oIn [.int .i64 b] rfl (bJ (set_self _ _ _)) ?_
   refine ifd (fun h=>?_) (fun h=>?_)
   ·exact rPl ⟨rfl,0,b,rfl,rfl,Int.le_refl _,by omega,hkb,hb,by omega,.inr (by omega)⟩
   ·refine cOw (ih t (mAt ht) hr (k := b) (by omega) (by omega)) fun w μ' h' hle hap hR => ?_
    obtain⟨e4,a2,b2,rfl,rfl,q1,q2,q3,q4,q5,q6⟩:=hR
    obtain rfl:=e4.symm
    refine aB (by omega) (by omega) ⟨(i+1,if a2>a then a2 else a,b2),⟨by dsimp only;omega,by dsimp only;split<;>omega,by dsimp only;split<;>omega,by dsimp only;omega,by dsimp only;omega,by dsimp only;omega,?_⟩,by dsimp only;omega,⟨⟨rfl,rfl,rfl,rfl,rfl,trivial⟩,trivial,rfl,rfl⟩⟩
    dsimp only
    omega
  ·obtain rfl : i = l.length := by omega
   rw[List.take_length]at hbc hor
   exact aB (by omega) (by omega) (rPl ⟨rfl,a+1,b,rfl,rfl,by omega,by omega,hkb,hb,by omega,by omega⟩)
theorem oH{x:Pf}{v:Value}(hv:RepV μ x.d v):Spec Tryz.prog 43 [v] μ fun w μ'=>w= .int .i64 x.size∧μ'=μ:=by
 have hv0:=hv
 have w_:=Pf.invV hv
 obtain⟨p,rfl⟩:=w_
 have hp:=x.cnt_pos
 refine Spec.mkO [3] Tryz.func43 (by kernel_rfl) ?_
 intro r1 r3 hm3 ho3
 refine sIn [.int .i64 0] 3 (Mem.set_at _ _ _) rfl (Nat.le_refl _) ?_
 have e:∀(X:Mem) (a b:Int),(X.set r3 (.cells #[.int .i64 a] 3 (0,0))).set r3 (.cells #[.int .i64 b] 3 (0,0))=wW X r3 b:=fun X a b=>Mem.set_set _ _ _ _
 have key:=qNz (μ:=μ) (H:=Mem.nil) (r:=r3) x hv0 (k:=0) (by omega) (by omega)
 rw[←e Mem.nil 0 0]at key
 refine cOw key fun w μ' h' hle hap hR=>?_
 obtain⟨e4,a,b,rfl,rfl,q1,q2,q3,q4,q5,q6⟩:=hR
 obtain rfl:=e4.symm
 refine oIn [.int .i64 b] rfl (bJ (set_self _ _ _)) ?_
 refine ifd (fun h=>rPl ⟨?_,rfl⟩) (fun h=>?_)
 ·rw[Pf.size,if_neg (by omega)]
 ·refine oIn [.int .i64 b] rfl (bJ (set_self _ _ _)) (rPl ⟨?_, rfl⟩)
  rw[Pf.size,if_pos (by omega)]
  congr 1;omega
end
end Go.Vx
namespace Go.Vx
open Go.Proofs Classical
section
variable {μ:Mem}
theorem RepS.take:∀(ds:List D) (a:Nat) {cs:List Value},RepS μ ds cs→∃c1 c2,cs=c1++c2∧RepS μ (ds.take a) c1
 |[],a,cs,_=>⟨[],cs,rfl,by rw[List.take_nil];exact rfl⟩
 |d::r,0,cs,_=>⟨[],cs,rfl,rfl⟩
 |d::r,a+1,cs,h=>by
  obtain⟨c1,c2,e,h1,h2⟩:=h
  have w_:=RepS.take r a h2
  obtain⟨c3,c4,e2,h3⟩:=w_
  exact⟨c1++c3,c4,by rw[e,e2,List.append_assoc],c1,c3,rfl,h1,h3⟩
theorem Rep.cut{es n c a:Nat}{base:Option Addr}{xs:List D}(h:RepV μ (.sl es xs) (.slice base n c))(ha:a≤n):RepV μ (.sl es (xs.take a)) (.slice (if c=0 then base else base.map (·.add (0*es))) (a-0) (c-0)):=by
 have e:(if c=0 then base else base.map (·.add (0*es)))=base:=by
  split
  ·rfl
  ·cases base<;>simp[Addr.add]
 rw[e,Nat.sub_zero,Nat.sub_zero]
 obtain⟨b2,c2,e2,hl,hn,hor⟩:=h
 have e3:=(List.cons.inj e2).1
 cases e3
 have hta:(xs.take a).length=a:=by rw[List.length_take];omega
 refine⟨base,c,by rw[hta],⟨by rw[hta];exact Nat.le_trans ha hl.le,by rw[hta];exact Nat.le_trans ha hl.max⟩,fun x hx=>hn x (List.mem_of_mem_take hx),?_⟩
 rcases hor with h|⟨a0,flat,h1,h2,h3⟩
 ·exact .inl (by rw[h,List.take_nil])
 ·have w_ := RepS.take xs a h3
  obtain⟨c1,c2,e4,h4⟩:=w_
  exact .inr ⟨a0,c1,h1,fun j v hj=>h2 j v (by rw[e4,List.getElem?_append_left (List.getElem?_eq_some_iff.1 hj).1];exact hj),h4⟩
theorem Rep.lensC{es n c:Nat}{base:Option Addr}{xs:List D}(h:RepV μ (.sl es xs) (.slice base n c)):n=xs.length∧n≤c:=by
 obtain⟨b2,c2,e2,hl,hn,hor⟩:=h
 have e3:=(List.cons.inj e2).1
 cases e3
 exact⟨rfl,hl.le⟩
theorem Pf.valsV{x:Pf}{a b vs ks:Value}(h:RepV μ x.d (.agg #[a,b,vs,ks])):RepV μ (.sl 4 (x.values.map Tm.d)) vs:=by
 rw[Pf.d_eq]at h
 obtain⟨cs,e,h⟩:=h
 obtain⟨a0,t0,rfl,h0,h⟩:=h
 obtain⟨a1,t1,rfl,h1,h⟩:=h
 obtain⟨a2,t2,rfl,h2,h⟩:=h
 obtain⟨a3,t3,rfl,h3,h⟩:=h
 obtain rfl:t3=[]:=h
 have h0:a0=[.string x.rel]:=h0
 have h1:a1=[.int .i64 x.clause]:=h1
 subst h0 h1
 have w_:=gV (Rep.len _ _ h2)
 obtain⟨v2,rfl⟩:=w_
 have w_:=gV (Rep.len _ _ h3)
 obtain⟨v3,rfl⟩:=w_
 have e2:[a,b,vs,ks]=[.string x.rel,.int .i64 x.clause,v2,v3]:=congrArg (fun v=>match v with|Value.agg a=>a.toList|_=>[]) e
 have e3:vs=v2:=(List.cons.inj (List.cons.inj (List.cons.inj e2).2).2).1
 rw[e3];exact h2
end
theorem Pf.vs_len(x:Pf):x.vs.length=x.values.length:=List.length_map ..
theorem Pf.vs_tm{x:Pf}(h:∀t∈x.values,GndT t):x.vs.map T.tm=x.values:=by
 have w_:=fD fun t ht=>(h t ht).1
 obtain⟨xs,hxs,_⟩:=w_
 rw[Pf.vs,hxs,gO]
theorem OkP.inv{p:Pg}{x:Pf}(h:OkP p x):∃r c,NodeAt p x r c∧(∀y∈x.kids,OkP p y)∧∀(i:Nat) (y:Pf),x.kids[i]? =some y→(bQ x.vs c)[i]? =some (dM p y):=by
 cases h with
 |mk r c h1 h2 h3=>exact⟨r,c,h1,h2,h3⟩
theorem qJz{p:Pg}{x:Pf}{k a:Nat}{r:Rl}(h1:relAt p x.rel=k)(h2:p.rels[k]? =some r)(h3:r.arity=(a:Int)):dM p x=⟨x.rel,x.vs.take a⟩:=by
 rw[dM,h1,Int.toNat_natCast,h2,Option.getD_some,h3,Int.toNat_natCast]
end Go.Vx
namespace Go.Vx
open Go.Proofs Classical
theorem qTe{vs:List T}{c:List Gl}{m:Nat}{g:Gl}(h:c[m]? =some g)(h9:g.kind=9):(bQ vs c)[(bQ vs (c.take m)).length]? =some (cJ vs g):=by
 have e:bQ vs c=bQ vs (c.take (m+1))++bQ vs (c.drop (m+1)):=by
  rw[bQ,bQ,bQ,←List.map_append,←List.filter_append,List.take_append_drop]
 rw[e,fZ h,if_pos h9,List.append_assoc,List.getElem?_append_right (Nat.le_refl _),Nat.sub_self]
 rfl
theorem posF_lt{vs:List T}{c:List Gl}{m:Nat}{g:Gl}(h:c[m]? =some g)(h9:g.kind=9):(bQ vs (c.take m)).length<(bQ vs c).length:=(List.getElem?_eq_some_iff.1 (qTe (vs:=vs) h h9)).1
theorem qKg{vs:List T}{c:List Gl}{g:Gl}(h:g∈c)(h10:g.kind=10):iU vs c≠[]:=fun e=>by
 have:cJ vs g.kid∈iU vs c:=List.mem_map.2 ⟨g,List.mem_filter.2 ⟨h,by simpa using h10⟩,rfl⟩
 rw[e]at this
 cases this
theorem qQb{vs xs:List T}{g:Gl}(h9:g.kind≠9)(h10:g.kind≠10)(hx:g.terms=xs.map T.tm):okS vs g↔dV g.kind (xs.map (T.subst (bT vs))):=by
 have e:=qBy (U:=[]) (vs:=vs) h9 h10 hx
 rw[←e,okG,if_neg h9,if_neg h10,okS]
 exact⟨fun h=>h h9 h10,fun h _ _=>h⟩
section
variable {μ:Mem}
theorem qCa{p:Pg}{x:Pf}{vp v:Value}{r:Rl}{c:List Gl}(hp:RepV μ p.d vp)(hok:p.Ok)(hv:RepV μ x.d v)(h:NodeAt p x r c):
  Spec Tryz.prog 103 [vp,v] μ fun w μ'=>RepV μ' (dM p x).fc.d w∧μ'=μ:=by
 have hp0:=hp
 have w_:=Pg.inv hp
 obtain⟨q0,rfl,hrl⟩:=w_
 have hv0:=hv
 have w_:=Pf.inv hv
 obtain⟨q,rfl,hvs,hks⟩:=w_
 have hvr:=Pf.valsV hv0
 obtain⟨k,hk,hr⟩:=h.rel
 have hrok:=hok.2 k r hr
 have w_:=Int.eq_ofNat_of_zero_le hrok.ar0
 obtain⟨a,ha⟩:=w_
 have hlo:=hrok.lo0
 have hlen:=h.len
 have hal:a≤x.values.length:=by omega
 have hcap:=(Rep.lensC hvr).2
 have w_:=Rl.elemA hrl hr
 obtain⟨ad,q2,hel,_,_⟩:=w_
 refine Spec.mk Tryz.func103 (by kernel_rfl) ?_
 intro r2 r3 r4
 refine cGv (dA hp0) ?_
 rw[hk]
 refine eIn hel ?_
 refine aG 0 a rfl ha (Nat.zero_le _) (by omega) ?_
 refine rPl ⟨?_,rfl⟩
 have hcut:=Rep.cut hvr hal
 rw[←Pf.vs_tm h.gnd]at hcut
 rw[qJz hk hr ha]
 rw[←List.map_take,←List.map_take]at hcut
 have hl:(x.vs.take a).length=a-0:=by rw[List.length_take,Pf.vs_len];omega
 rw[←hl]at hcut ⊢
 exact F.mkV (f:=⟨x.rel,x.vs.take a⟩) hcut
set_option maxHeartbeats 4000000 in
theorem qOe{p:Pg}(hok:p.Ok):∀(x:Pf) {μ:Mem} {v vp:Value},RepV μ p.d vp→RepV μ x.d v→Spec Tryz.prog 173 [vp,v] μ fun w _=>w= .bool (decide (OkP p x)):=
 Pf.ind fun x ih μ v vp hp hv=>by
  have hp0:=hp
  have w_:=Pg.inv hp
  obtain⟨q0,rfl,hrl⟩:=w_
  have hv0:=hv
  have w_:=Pf.inv hv
  obtain⟨q,rfl,hvs,hks⟩:=w_
  have hn1:=aH hvs.max
  have hn2:=aH hks.max
  have hn3:=hok.1
  refine Spec.mk Tryz.func173 (by kernel_rfl) ?_
  intro r2 r3
  refine cGv (dA hp0) ?_
  refine ifd (fun hneg=>rPl (isF fun k=>?_)) (fun hge=>?_)
  ·obtain ⟨r, c, h, _⟩ := k.inv
   obtain⟨k',h1,_⟩:=h.rel
   omega
  have w_:=gA (show 0≤relAt p x.rel by omega)
  obtain⟨k,r,hk,hr,_⟩:=w_
  have hrok:=hok.2 k r hr
  rw[hk]
  have w_:=Rl.elemA hrl hr
  obtain⟨ad,q2,hel,hrv,hb⟩:=w_
  have hb:RepV μ r.body.d (.agg (r.body.cs q2).toArray):=hb
  have w_:=Int.eq_ofNat_of_zero_le hrok.ar0
  obtain⟨a,ha⟩:=w_
  have w_:=Int.eq_ofNat_of_zero_le hrok.lo0
  obtain⟨lo,hlo⟩:=w_
  have har4:=hrok.ar4
  have hlo8:=hrok.lo8
  have hsz:=hrok.size
  have node:∀{r':Rl} {c:List Gl},NodeAt p x r' c→r'=r:=fun h=>by
   obtain⟨k',e1,e2⟩:=h.rel
   obtain rfl:k'=k:=by omega
   rw[hr]at e2
   cases e2;rfl
  refine eIn hel (eIn hel ?_)
  refine aB (by omega) (by omega) ?_
  refine aL (fun hne=>rPl (isF fun k=>?_)) (fun hlen=>?_)
  ·obtain ⟨r', c, h, _⟩ := k.inv
   obtain rfl:=node h
   exact hne h.len
  refine lIn (fun n:Nat=>n≤x.values.length∧(∀t∈x.values.take n,GndT t))
   (fun n=>⟨[(2,.loc 0 r2 0),(3,.loc 1 r3 0),(5,.val (.int .i64 k)),(39,.val (.slice q.1.1 x.values.length q.1.2)),(40,.val (.int .i64 x.values.length)),(41,.val (.int .i64 n))],[(0,some (.cells r2 [.val (.slice q0.1 p.rels.length q0.2)] 25)),(1,some (.cells r3 [.val (.string x.rel),.val (.int .i64 x.clause),.val (.slice q.1.1 x.values.length q.1.2),.val (.slice q.2.1 x.kids.length q.2.2)] 54))],2,μ,Mem.nil⟩) (fun n=>x.values.length-n)
   0 ⟨Nat.zero_le _,by simp⟩ (fun _=>⟨rfl,rfl⟩) ⟨⟨rfl,rfl,rfl,rfl,rfl,rfl,trivial⟩,⟨rfl,rfl,trivial⟩,rfl,rfl⟩ ?_
  rintro n ⟨hn,hall⟩
  refine ifd (fun hlt=>?_) (fun hlt=>?_)
  ·have w_ := aSo (l := x.values) (i := n) (by omega)
   obtain⟨t,ht⟩:=w_
   have w_:=Tm.elem hvs ht
   obtain⟨ad1,p1,hel1,hrt⟩:=w_
   refine eIn hel1 ?_
   intro r7
   refine cGv (iL t hrt) ?_
   refine aL (fun h=>rPl (isF fun k=>?_)) (fun hg=>?_)
   ·obtain ⟨r', c', h', _⟩ := k.inv
    exact h (h'.gnd t (mAt ht))
   refine aB (by omega) (by omega) ⟨n+1,⟨by omega,?_⟩,by omega,⟨⟨rfl,rfl,rfl,rfl,rfl,rfl,trivial⟩,⟨rfl,rfl,trivial⟩,rfl,rfl⟩⟩
   rw[List.take_add_one,ht,Option.toList_some]
   intro y hy
   rcases List.mem_append.1 hy with hy|hy
   ·exact hall y hy
   ·rw[List.mem_singleton.1 hy];exact hg
  obtain rfl:n=x.values.length:=by omega
  rw[List.take_length]at hall
  refine eIn hel ?_
  refine cPl (gF r.body hb hrok.body (by omega)) fun v3 μ3 hle3 hR3=>?_
  cases hL:r.body.cl with
  |none=>
   rw[hL]at hR3
   obtain rfl:=hR3
   refine iIn (fun _=>rPl (isF fun k=>?_)) (fun h=>nomatch h)
   obtain⟨r',c,h,_⟩:=k.inv
   obtain rfl:=node h
   obtain⟨L,i,h1,_⟩:=h.cls
   rw[hL]at h1;cases h1
  |some L=>
  rw[hL]at hR3
  obtain⟨tv,rfl,hLr⟩:=hR3
  obtain⟨pv,rfl⟩:=hLr.inv
  have hLb:=Gl.cl_bnd r.body hL
  have hL64:=hLb.2
  refine iIn (fun h=>nomatch h) (fun _=>?_)
  refine ifd (fun hout=>rPl (isF fun k=>?_)) (fun hin0=>?_)
  ·obtain ⟨r', c, h, _⟩ := k.inv
   obtain rfl:=node h
   obtain⟨L',i,h1,h2,h3⟩:=h.cls
   omega
  refine ifd (fun hout=>rPl (isF fun k=>?_)) (fun hin=>?_)
  ·obtain ⟨r', c, h, _⟩ := k.inv
   obtain rfl:=node h
   obtain⟨L',i,h1,h2,h3⟩:=h.cls
   rw[hL]at h1;cases h1
   have:=(List.getElem?_eq_some_iff.1 h3).1
   omega
  have w_:=Int.eq_ofNat_of_zero_le (show 0≤x.clause by omega)
  obtain⟨i,hi⟩:=w_
  have hiL:i<L.length:=by omega
  have w_:=aSo (l:=L) (i:=i) hiL
  obtain⟨c,hc⟩:=w_
  have hci:c.length≤1000:=by have:=hLb.1 c (mAt hc);omega
  have hLs:=(Cls.sl hLr).1
  have w_:=cF hLs hc
  obtain⟨adc,pc,helc,hrc⟩:=w_
  have hcs:Sl μ3 4 pc.1 c.length (c.map Gl.d):=by
   have w_:=Rep.sl (xs:=c.map Gl.d) hrc
   obtain⟨b',c',e1,hs⟩:=w_
   have w_:=Value.slice.inj e1
   obtain⟨rfl,_,_⟩:=w_
   simpa using hs
  have hG:∀g∈c,ClG g:=fun g hg=>ClG.of hok hr hL (mAt hc) hg
  have hvl:x.vs.length=a+lo:=by rw[Pf.vs_len];omega
  have hvtm:=Pf.vs_tm hall
  rw[←hi]at helc
  have node2:∀{r':Rl} {c':List Gl},NodeAt p x r' c'→c'=c:=fun h=>by
   obtain rfl:=node h
   obtain⟨L',i',h1,h2,h3⟩:=h.cls
   rw[hL]at h1;cases h1
   obtain rfl:i'=i:=by omega
   rw[hc]at h3;cases h3;rfl
  refine eIn helc ?_
  refine lIn (fun z:Nat×Nat×Mem=>z.1≤c.length∧μ3.Le z.2.2∧z.2.1=(bQ x.vs (c.take z.1)).length∧z.2.1≤x.kids.length∧(∀g∈c.take z.1,okS x.vs g)∧(∀g∈c.take z.1,g.kind≠10)∧∀(j:Nat) (y:Pf),j<z.2.1→x.kids[j]? =some y→OkP p y∧(bQ x.vs c)[j]? =some (dM p y))
   (fun(m,kd,μ')=>⟨[(2,.loc 0 r2 0),(3,.loc 1 r3 0),(10,.val (.int .i64 kd)),(77,.val (.slice pc.1 c.length pc.2)),(78,.val (.int .i64 c.length)),(79,.val (.int .i64 m))],[(0,some (.cells r2 [.val (.slice q0.1 p.rels.length q0.2)] 25)),(1,some (.cells r3 [.val (.string x.rel),.val (.int .i64 x.clause),.val (.slice q.1.1 x.values.length q.1.2),.val (.slice q.2.1 x.kids.length q.2.2)] 54))],2,μ',Mem.nil⟩) (fun z=>c.length-z.1)
   (0,0,μ3) ⟨Nat.zero_le _,Mem.Le.refl _,rfl,Nat.zero_le _,by simp,by simp,fun j y h=>absurd h (Nat.not_lt_zero _)⟩ (fun(_,_,_)=>⟨rfl,rfl⟩) ⟨⟨rfl,rfl,rfl,rfl,rfl,rfl,trivial⟩,⟨rfl,rfl,trivial⟩,rfl,rfl⟩ ?_
  rintro⟨m,kd,μ4⟩ ⟨hm,hle4,hkd,hkl,hokS,hno10,hkids⟩
  dsimp only at hm hle4 hkd hkl hokS hno10 hkids
  refine ifd (fun hlt=>?_) (fun hlt=>?_)
  rotate_left
  ·obtain rfl : m = c.length := by omega
   rw[List.take_length]at hkd hokS hno10
   refine rPl (congrArg Value.bool (decide_eq_decide.2 ⟨fun h=>?_,fun k=>?_⟩))
   ·have hneg:iU x.vs c=[]:=by
     rw[iU,List.filter_eq_nil_iff.2 fun g hg=>by simpa using hno10 g hg];rfl
    have hnode:NodeAt p x r c:=⟨⟨k,hk,hr⟩,hlen,hall,⟨L,i,hL,hi,hc⟩,hokS,hneg,by omega⟩
    refine OkP.mk r c hnode (fun y hy=>?_) fun j y hy=>(hkids j y (by have:=(List.getElem?_eq_some_iff.1 hy).1;omega) hy).2
    have w_:=List.mem_iff_getElem?.1 hy
    obtain⟨j,hj⟩:=w_
    exact(hkids j y (by have:=(List.getElem?_eq_some_iff.1 hj).1;omega) hj).1
   ·obtain ⟨r', c', h', _⟩ := k.inv
    obtain rfl:=node2 h'
    have:=h'.pos
    omega
  have w_:=aSo (l:=c) (i:=m) (by omega)
  obtain⟨g,hg⟩:=w_
  have w_:=Gl.elem (hcs.mono hle4) hg
  obtain⟨adg,pg,helg,hrg⟩:=w_
  refine eIn helg ?_
  intro r12
  have w_:=ClV.of (n:=a+lo) hok hr hL (mAt hc) (mAt hg) (by omega)
  obtain⟨⟨xs,hxs⟩,_⟩:=w_
  have hG1:=hG g (mAt hg)
  have hstep:∀y∈c.take (m+1),y∈c.take m∨y=g:=fun y hy=>by
   rw[List.take_add_one,hg,Option.toList_some]at hy
   rcases List.mem_append.1 hy with hy|hy
   ·exact .inl hy
   ·exact .inr (List.mem_singleton.1 hy)
  refine ifd (fun h10=>rPl (isF fun k=>?_)) (fun h10=>?_)
  ·obtain ⟨r', c', h', _⟩ := k.inv
   obtain rfl:=node2 h'
   exact qKg (mAt hg) h10 h'.neg
  have hno2:∀y∈c.take (m+1),y.kind≠10:=fun y hy=>by
   rcases hstep y hy with h|rfl
   ·exact hno10 y h
   ·exact h10
  refine ifd (fun h9=>?_) (fun h9=>?_)
  rotate_left
  ·have hvl4:Sl μ4 4 q.1.1 x.vs.length ((x.vs.map T.tm).map Tm.d):=by
    rw[hvtm,Pf.vs_len];exact(hvs.mono hle3).mono hle4
   have htrue:=pN (vc:=q.1.2) hvl4 hrg hxs.terms hxs.len (fun y hy n hn=>by have:=hxs.low y hy n hn;omega) (by have:=hG1.simple;rwa [hxs.terms,List.length_map]at this)
   rw[Pf.vs_len]at htrue
   refine cPl htrue fun v5 μ5 hle5 hR5=>?_
   obtain rfl:=hR5
   refine aL (fun hf=>rPl (isF fun k=>?_)) (fun ht=>?_)
   ·obtain ⟨r', c', h', _⟩ := k.inv
    obtain rfl:=node2 h'
    exact hf ((qQb h9 h10 hxs.terms).1 (h'.ok g (mAt hg)))
   refine aB (by omega) (by omega) ⟨(m+1,kd,μ5),⟨by dsimp only;omega,hle4.trans hle5,by dsimp only;rw[fZ hg,if_neg h9,List.append_nil];exact hkd,hkl,fun y hy=>?_,hno2,hkids⟩,by dsimp only;omega,⟨⟨rfl,rfl,rfl,rfl,rfl,rfl,trivial⟩,⟨rfl,rfl,trivial⟩,rfl,rfl⟩⟩
   rcases hstep y hy with h|rfl
   ·exact hokS y h
   ·exact(qQb h9 h10 hxs.terms).2 ht
  have hpf:=qTe (vs:=x.vs) hg h9
  have hpl:=posF_lt (vs:=x.vs) hg h9
  rw[←hkd]at hpf hpl
  refine ifd (fun hout=>rPl (isF fun k=>?_)) (fun hin=>?_)
  ·obtain ⟨r', c', h', _⟩ := k.inv
   obtain rfl:=node2 h'
   have:=h'.pos
   omega
  have w_:=aSo (l:=x.kids) (i:=kd) (by omega)
  obtain⟨y,hy⟩:=w_
  have w_:=Pf.elem (hks.mono (hle3.trans hle4)) hy
  obtain⟨ady,py,hely,hry⟩:=w_
  refine eIn hely ?_
  refine cPl (ih y (mAt hy) (hp0.mono (hle3.trans hle4)) hry) fun v7 μ7 hle7 hR7=>?_
  obtain rfl:=hR7
  refine aL (fun h=>rPl (isF fun k=>?_)) (fun hyok=>?_)
  ·obtain ⟨r', c', h', h2, _⟩ := k.inv
   exact h (h2 y (mAt hy))
  have hyok:OkP p y:=hyok
  obtain⟨ry,cy,hny,_,_⟩:=hyok.inv
  have hca:=kR (μ:=μ7) (vs:=x.vs) (xs:=xs) (vb:=q.1.1) (vc:=q.1.2) (by rw[hvtm,Pf.vs_len];exact((hvs.mono hle3).mono hle4).mono hle7) (hrg.mono hle7) hxs.terms hxs.len (fun y hy n hn=>by have:=hxs.low y hy n hn;omega)
  rw[Pf.vs_len]at hca
  have hpr:=fun(μ8:Mem) (h:μ7.Le μ8)=>qCa (μ:=μ8) (hp0.mono (((hle3.trans hle4).trans hle7).trans h)) hok ((hry.mono hle7).mono h) hny
  have fin:∀j z,j<kd+1→x.kids[j]? =some z→dC (dM p y) (cJ x.vs g)=0→OkP p z∧(bQ x.vs c)[j]? =some (dM p z):=fun j z hj hz2 hz=>by
   rcases Nat.lt_or_ge j kd with h|h
   ·exact hkids j z h hz2
   ·obtain rfl : j = kd := by omega
    rw[hy]at hz2
    cases hz2
    exact⟨hyok,by rw[hpf,(cmpF_ord.zero _ _).1 hz]⟩
  refine eIn hely ?_
  refine cPl (hpr _ (Mem.Le.refl _)) fun v8 μ8 hle8 hR8=>?_
  obtain⟨hR8,e8⟩:=hR8
  obtain rfl:=e8.symm
  refine cPl hca fun v9 μ9 hle9 hR9=>?_
  refine cGv (dD (hR8.mono hle9) hR9) ?_
  refine aL (fun h=>rPl (isF fun k=>?_)) (fun hz=>?_)
  ·obtain ⟨r', c', h', _, h3⟩ := k.inv
   obtain rfl:=node2 h'
   have:=h3 kd y hy
   rw[hpf]at this
   have:=Option.some.inj this
   exact h (cmpF_ord.zero _ _ |>.2 this.symm)
  refine aB (by omega) (by omega) ?_
  refine aB (by omega) (by omega) ⟨(m+1,kd+1,μ9),⟨by dsimp only;omega,(hle4.trans hle7).trans hle9,by dsimp only;rw[fZ hg,if_pos h9,List.length_append,←hkd];rfl,by dsimp only;have:=(List.getElem?_eq_some_iff.1 hy).1;omega,fun y hy=>?_,hno2,fun j z hj hz2=>fin j z hj hz2 hz⟩,by dsimp only;omega,⟨⟨rfl,rfl,rfl,rfl,rfl,rfl,trivial⟩,⟨rfl,rfl,trivial⟩,rfl,rfl⟩⟩
  rcases hstep y hy with h|rfl
  ·exact hokS y h
  ·exact fun h=>absurd h9 h
theorem wV{p:Pg}{x:Pf}{vp v:Value}(hp:RepV μ p.d vp)(hv:RepV μ x.d v):Spec Tryz.prog 99 [vp,v] μ fun w _=>w= .bool (decide (p.Ok∧x.cnt≤200∧OkP p x)):=by
 have hp0:=hp
 have hv0:=hv
 have w_:=Pg.inv hp
 obtain⟨q0,rfl,-⟩:=w_
 have w_:=Pf.invV hv
 obtain⟨q,rfl⟩:=w_
 have hcp:=x.cnt_pos
 refine Spec.mk Tryz.func99 (by kernel_rfl) ?_
 intro r2 r3
 refine cPl (dO hp0) fun v1 μ1 hle1 hR=>?_
 obtain rfl:=hR
 refine ifd (fun hok=>?_) (fun h=>rPl (isF fun k=>h k.1))
 refine cPl (oH (hv0.mono hle1)) fun v2 μ2 hle2 hR=>?_
 obtain⟨rfl,e⟩:=hR
 obtain rfl:=e.symm
 refine ifd (fun hsz=>?_) (fun h=>rPl (isF fun k=>h (by rw[Pf.size,if_pos k.2.1];omega)))
 have hsz:x.size>0:=hsz
 have hc:x.cnt≤200:=Classical.byContradiction fun k=>by rw[Pf.size,if_neg k]at hsz;exact absurd hsz (by decide)
 refine cPl (qOe hok x (hp0.mono hle1) (hv0.mono hle1)) fun v3 μ3 hle3 hR=>?_
 obtain rfl:=hR
 exact rPl (congrArg Value.bool (decide_eq_decide.2 ⟨fun h=>⟨hok,hc,h⟩,fun h=>h.2.2⟩))
end
end Go.Vx
namespace Go.Vx
open Go.Proofs Classical
section
variable {μ:Mem}
theorem OwnRows.app{es:Nat}{ds ds':List D}{ys ys':List Value}{g g':Mem}(k:OwnRows es ds ys g)(k':OwnRows es ds' ys' g')(ha:Apart g g'):OwnRows es (ds++ds') (ys++ys') (g.join g'):=
 ⟨by
  have:=OwnS.append (Parts.join ha) k.own k'.own
  simpa using this,by
  intro x hx
  rcases List.mem_append.1 hx with h|h
  ·exact k.size x h
  ·exact k'.size x h,by simp[k.len,k'.len]⟩
structure Grown2 (e1 e2:Nat) (μ μ':Mem) (ds1 ds2:List D) (ys1 ys2:List Value):Prop where
 out:∃g1 g2,OwnRows e1 ds1 ys1 g1∧OwnRows e2 ds2 ys2 g2∧Apart g1 g2∧g1.Le μ'∧g2.Le μ'∧(∀b,g1 b≠none→μ b=none)∧∀b,g2 b≠none→μ b=none
theorem Grown2.start{e1 e2:Nat}{μ μ':Mem}{ds:List D}{ys:List Value}(k:Grown e1 μ μ' ds ys):Grown2 e1 e2 μ μ' ds [] ys []:=by
 obtain⟨g,a,b,c⟩:=k
 exact⟨g,Mem.nil,a,OwnRows.nil _,fun _ _=>rfl,b,(fun _ _ h=>nomatch h),c,fun _ h=>absurd rfl h⟩
theorem Grown2.snoc{e1 e2:Nat}{μ μ' μ'':Mem}{ds1 ds2:List D}{ys1 ys2:List Value}{d:D}{v:Value}(k:Grown2 e1 e2 μ μ' ds1 ds2 ys1 ys2)(h0:μ.Le μ')(hv:Fresh μ' μ'' d v)(h1:μ'.Le μ'')(hn:d.n=e2):
  Grown2 e1 e2 μ μ'' ds1 (ds2++[d]) ys1 (ys2++[v]):=by
 obtain⟨g1,g2,a,b,c,d,e,f1,f2⟩:=k.out
 obtain⟨g',a',b',c'⟩:=hv
 have p1:=iF d c'
 have p2:=iF e c'
 refine⟨g1,g2.join g',a,b.snoc a' hn p2,fun x hx=>nD (c x hx) (p1 x hx),d.trans h1,eH (e.trans h1) b',f1,fun x hx=>?_⟩
 rcases gW hx with h|h
 ·exact f2 x h
 ·exact h0.none (c' x h)
theorem Grown2.app{e1 e2:Nat}{μ μ' μ'':Mem}{ds1 ds2 ds:List D}{ys1 ys2 ys:List Value}(k:Grown2 e1 e2 μ μ' ds1 ds2 ys1 ys2)(h0:μ.Le μ')(hv:Grown e1 μ' μ'' ds ys)(h1:μ'.Le μ''):
  Grown2 e1 e2 μ μ'' (ds1++ds) ds2 (ys1++ys) ys2:=by
 obtain⟨g1,g2,a,b,c,d,e,f1,f2⟩:=k.out
 obtain⟨g',a',b',c'⟩:=hv
 have p1:=iF d c'
 have p2:=iF e c'
 refine⟨g1.join g',g2,a.app a' p1,b,fun x hx=>?_,eH (d.trans h1) b',e.trans h1,fun x hx=>?_,f2⟩
 ·rcases gW hx with h | h
  ·exact c x h
  ·cases e2 : g2 x with
   |none=>rfl
   |some o=>exact absurd (p2 x (by simp[e2])) h
 ·rcases gW hx with h | h
  ·exact f1 x h
  ·exact h0.none (c' x h)
theorem Grown2.fin{e1 e2:Nat}{μ μ2 μ3 μ4:Mem}{ds1 ds2:List D}{ys1 ys2:List Value}{b1 b2:Option Nat}{cap1 cap2:Nat}(k:Grown2 e1 e2 μ μ2 ds1 ds2 ys1 ys2)(h1:μ.Le μ2)(h2:μ2.Le μ3)(h3:μ3.Le μ4)
  (hb2:∀r,b2=some r→μ2 r=none) (hr2:RowAt μ3 b2 cap2 e2 ys2) (hm2:ys2.length≤maxLen) (hb1:∀r,b1=some r→μ3 r=none) (hr1:RowAt μ4 b1 cap1 e1 ys1) (hm1:ys1.length≤maxLen):
  FreshS μ μ4 [.sl e1 ds1,.sl e2 ds2] [.slice (b1.map fun r=>⟨r,0,none⟩) ys1.length cap1,.slice (b2.map fun r=>⟨r,0,none⟩) ys2.length cap2]:=by
 obtain⟨g1,g2,a1,a2,c,l1,l2,f1,f2⟩:=k.out
 have c':∀x,g2 x≠none→g1 x=none:=fun x hx=>by
  cases e:g1 x with
  |none=>rfl
  |some o=>exact absurd (c x (by simp[e])) hx
 have F2:=Fresh.ofRow (μ:=μ.join g1) (μ1:=μ2) (μ':=μ3) a2 l2 (fun x hx=>nD (f2 x hx) (c' x hx)) (eH h1 l1) h2 hb2 hr2 hm2
 obtain⟨G2,A2,L2,N2⟩:=F2
 have F1:=Fresh.ofRow (μ:=μ.join G2) (μ1:=μ3) (μ':=μ4) a1 (l1.trans h2) (fun x hx=>nD (f1 x hx) (by
  cases e:G2 x with
  |none=>rfl
  |some o=>exact absurd (jN (N2 x (by simp[e]))).2 hx)) (eH (h1.trans h2) L2) h3 hb1 hr1 hm1
 obtain⟨G1,A1,L1,N1⟩:=F1
 have ap:Apart G1 G2:=fun x hx=>by
  cases e:G2 x with
  |none=>rfl
  |some o=>exact absurd (jN (N1 x hx)).2 (by simp[e])
 refine⟨G1.join G2,OwnS.cons (Parts.join ap) A1.cells (OwnS.last A2.cells),eH L1 (L2.trans h3),fun x hx=>?_⟩
 rcases gW hx with h|h
 ·exact(jN (N1 x h)).1
 ·exact(jN (N2 x h)).1
theorem qIw{P:Program}{f:FuncId}{args:List Value}{Q:Mem→List Value→Prop}(hQ:∀μ1 μ2 us,μ1.Le μ2→Q μ1 us→Q μ2 us)
  (h0:Spec P f args μ fun v μ'=>∃(r c:Nat) (us:List Value) (μ1:Mem),v= .slice (some ⟨r,0,none⟩) us.length c∧μ.Le μ1∧μ1.Le μ'∧Q μ1 us∧μ1 r=none∧us.length≤10000000∧RowAt μ' (some r) c 4 us):
  SpecH P f args μ Mem.nil fun v μ2 H2=>∃(r c:Nat) (ty:TypeId) (us:List Value),v= .slice (some ⟨r,0,none⟩) us.length c∧RowO H2 r c ty 4 us∧Q μ2 us:=by
 have e0:μ.join Mem.nil=μ:=funext fun b=>by rw[Mem.join_get];cases μ b<;>rfl
 generalize hR0:(fun v μ'=>∃(r c:Nat) (us:List Value) (μ1:Mem),v=Value.slice (some ⟨r,0,none⟩) us.length c∧μ.Le μ1∧μ1.Le μ'∧Q μ1 us∧μ1 r=none∧us.length≤10000000∧RowAt μ' (some r) c 4 us)=R0 at h0
 have h:Spec P f args (μ.join Mem.nil) R0:=by rw[e0];exact h0
 refine(Spec.lendOwn (H:=Mem.nil) (R':=fun v g μ1=>∃(r c:Nat) (ty:TypeId) (us:List Value),v= .slice (some ⟨r,0,none⟩) us.length c∧RowO g r c ty 4 us∧Q (μ1.sub g) us) (fun b _=>rfl) h fun v μ1 hle hR=>?_).weaken fun v μ2 H2 _ _ hR=>?_
 ·rw [e0]
  rw[←hR0]at hR
  obtain⟨r,c,us,μ0,rfl,hl0,hl1,hgr,hr0,hn,hrow⟩:=hR
  obtain⟨h2,h3,arr,ty,h4,h5,h6⟩:=hrow
  refine⟨Mem.nil.set r (.cells arr ty (0,0)),fun x o hx=>?_,fun x hx=>?_,r,c,ty,us,rfl,⟨arr.toList,Mem.set_at _ _ _,h2,Nat.le_trans hn (by decide),h3,by simpa using h5,h6⟩,?_⟩
  ·by_cases e : x = r
   ·subst e;rw[Mem.set_at]at hx;rw[h4];exact hx
   ·rw[Mem.set_ne e]at hx;cases hx
  ·by_cases e : x = r
   ·subst e
    exact hl0.none hr0
   ·rw[Mem.set_ne e]at hx;exact absurd rfl hx
  ·refine hQ μ0 _ us (Mem.le_sub hl1 (fun b hb => ?_)) hgr
   by_cases e:b=r
   ·subst e
    exact absurd hr0 hb
   ·rw[Mem.set_ne e];rfl
 ·obtain ⟨g, μ1, ⟨r, c, ty, us, rfl, ⟨cs, q1, q2⟩, hgr⟩, _, hp, rfl⟩ := hR
  exact⟨r,c,ty,us,rfl,⟨cs,hp.right _ _ q1,q2⟩,hgr⟩
theorem qDk{xs:List T}{base:Option Addr}{cap:Nat}(hsl:Sl μ 4 base xs.length ((xs.map T.tm).map Tm.d))(hn:xs.length≤1000000):
  Spec Tryz.prog 101 [.slice base xs.length cap] μ fun v μ'=>∃(r c:Nat) (us:List Value) (μ1:Mem),v= .slice (some ⟨r,0,none⟩) us.length c∧μ.Le μ1∧μ1.Le μ'∧Grown 4 μ μ1 ((xs.map T.tm).map Tm.d) us∧μ1 r=none∧us.length≤10000000∧RowAt μ' (some r) c 4 us:=by
 refine Spec.mk Tryz.func101 (by kernel_rfl) ?_
 intro r6
 refine lIn (fun p:Nat×Option Nat×Nat×List Value×Mem=>p.1≤xs.length∧μ.Le p.2.2.2.2∧Grown 4 μ p.2.2.2.2 (((xs.take p.1).map T.tm).map Tm.d) p.2.2.2.1∧p.2.1≠none)
  (fun(i,b,c,ys,μ')=>⟨[(3,.row 0 b ys.length c),(7,.val (.slice base xs.length cap)),(8,.val (.int .i64 xs.length)),(9,.val (.int .i64 i))],[(0,some (.row b c 75 4 ys))],1,μ',Mem.nil⟩) (fun p=>xs.length-p.1)
  (0,some r6,0,[],μ) ⟨Nat.zero_le _,Mem.Le.refl _,Grown.nil _ _ _,by simp⟩ (fun(_,_,_,_,_)=>⟨rfl,rfl⟩) ⟨⟨rfl,rfl,rfl,rfl,trivial⟩,⟨rfl,trivial⟩,rfl,rfl⟩ ?_
 rintro⟨i,b,c,ys,μ'⟩ ⟨hi,hle,hrows,hbn⟩
 dsimp only at hi hle hrows hbn
 have hlen:=hrows.len
 simp only[List.length_map,List.length_take]at hlen
 refine ifd (fun hlt=>?_) (fun hlt=>?_)
 ·have w_ := aSo (l := xs) (i := i) (by omega)
  obtain⟨x,hx⟩:=w_
  have w_:=T.elemL (hsl.mono hle) hx
  obtain⟨ad,p,hel,hr⟩:=w_
  refine eIn hel ?_
  intro r5
  refine cPl (fN x hr) fun v1 μ1 hle1 hR=>?_
  have w_:=Tm.invV hR.rep
  obtain⟨q,rfl⟩:=w_
  intro r16
  refine gIn ?_ ?_ fun b' c' hb'=>?_
  ·show(ys.length+1)*56≤_;omega
  ·exact Nat.le_trans (m:=100000000) (show ys.length+1≤_ by omega) (by decide)
  refine aB (by omega) (by omega) ⟨(i+1,b',c',_,μ1),⟨by dsimp only;omega,hle.trans hle1,?_,fun e=>by have:=hb' e;simp at this⟩,by dsimp only;omega,⟨⟨rfl,rfl,rfl,rfl,trivial⟩,⟨rfl,trivial⟩,rfl,rfl⟩⟩
  dsimp only
  rw[List.take_add_one,hx,Option.toList_some]
  simp only[List.map_append,List.map_cons,List.map_nil]
  exact hrows.snoc hle hR hle1 (Tm.d_n _)
 ·obtain rfl : i = xs.length := by omega
  rw[List.take_length]at hrows
  cases b with
  |none=>exact absurd rfl hbn
  |some r=>
  refine rFz [0] fun μ2 hle2 hno hrow=> .inl ?_
  exact⟨r,c,ys,μ',rfl,hle,hle2,hrows,hno r rfl,by omega,hrow⟩
theorem qLn{xs:List T}{base:Option Addr}{cap:Nat}(hsl:Sl μ 4 base xs.length ((xs.map T.tm).map Tm.d))(hn:xs.length≤1000000):
  SpecH Tryz.prog 101 [.slice base xs.length cap] μ Mem.nil fun v μ2 H2=>∃(r c:Nat) (ty:TypeId) (us:List Value),v= .slice (some ⟨r,0,none⟩) us.length c∧RowO H2 r c ty 4 us∧Grown 4 μ μ2 ((xs.map T.tm).map Tm.d) us:=
 qIw (fun _ _ _ h k=>k.mono h) (qDk hsl hn)
theorem vJ{xs:List T}{base:Option Addr}{cap:Nat}(hsl:Sl μ 4 base xs.length ((xs.map T.tm).map Tm.d))(hn:xs.length≤1000000):
  Spec Tryz.prog 144 [.slice base xs.length cap] μ fun v μ'=>∃(r c:Nat) (us:List Value) (μ1:Mem),v= .slice (some ⟨r,0,none⟩) us.length c∧μ.Le μ1∧μ1.Le μ'∧Rows μ1 4 ((xs.map T.tm).map Tm.d) us∧μ1 r=none∧us.length≤10000000∧RowAt μ' (some r) c 4 us:=by
 refine Spec.mk Tryz.func144 (by kernel_rfl) ?_
 intro r6
 refine lIn (fun p:Nat×Option Nat×Nat×List Value×Mem=>p.1≤xs.length∧μ.Le p.2.2.2.2∧Rows p.2.2.2.2 4 (((xs.take p.1).map T.tm).map Tm.d) p.2.2.2.1∧p.2.1≠none)
  (fun(i,b,c,ys,μ')=>⟨[(3,.row 0 b ys.length c),(7,.val (.slice base xs.length cap)),(8,.val (.int .i64 xs.length)),(9,.val (.int .i64 i))],[(0,some (.row b c 75 4 ys))],1,μ',Mem.nil⟩) (fun p=>xs.length-p.1)
  (0,some r6,0,[],μ) ⟨by simp,Mem.Le.refl _,.nil,by simp⟩ (fun(_,_,_,_,_)=>⟨rfl,rfl⟩) ⟨⟨rfl,rfl,rfl,rfl,trivial⟩,⟨rfl,trivial⟩,rfl,rfl⟩ ?_
 rintro⟨i,b,c,ys,μ'⟩ ⟨hi,hle,hrows,hbn⟩
 dsimp only at hi hle hrows hbn
 have hlen:=hrows.len
 simp only[List.length_map,List.length_take]at hlen
 refine ifd (fun h=>?_) (fun h=>?_)
 ·have w_ := aSo (l := xs) (i := i) (by omega)
  obtain⟨x,hx'⟩:=w_
  have w_:=T.elemL (hsl.mono hle) hx'
  obtain⟨ad,p,hel,hto⟩:=w_
  refine eIn hel ?_
  intro r
  refine cPl (lO _ hto) fun v4 μ4 hle4 hR4=>?_
  have w_:=Tm.invV hR4
  obtain⟨q,rfl⟩:=w_
  intro r5
  refine gIn ?_ ?_ fun b' c' hb'=>?_
  ·show(ys.length+1)*56≤_;omega
  ·exact Nat.le_trans (m:=100000000) (show ys.length+1≤_ by omega) (by decide)
  refine aB (by omega) (by omega) ⟨(i+1,b',c',_,μ4),⟨by dsimp only;omega,hle.trans hle4,?_,fun e=>by have:=hb' e;simp at this⟩,by dsimp only;omega,⟨⟨rfl,rfl,rfl,rfl,trivial⟩,⟨rfl,trivial⟩,rfl,rfl⟩⟩
  dsimp only
  rw[List.take_add_one,hx',Option.toList_some]
  simp only[List.map_append,List.map_cons,List.map_nil]
  exact(hrows.mono hle4).append (Rows.one hR4 (Tm.d_n _))
 ·obtain rfl : i = xs.length := by omega
  rw[List.take_length]at hrows
  cases b with
  |none=>exact absurd rfl hbn
  |some r=>
  refine rFz [0] fun μ2 hle2 hno hrow=> .inl ?_
  exact⟨r,c,ys,μ',rfl,hle,hle2,hrows,hno r rfl,by omega,hrow⟩
theorem vI{xs:List T}{base:Option Addr}{cap:Nat}(hsl:Sl μ 4 base xs.length ((xs.map T.tm).map Tm.d))(hn:xs.length≤1000000):
  SpecH Tryz.prog 144 [.slice base xs.length cap] μ Mem.nil fun v μ2 H2=>∃(r c:Nat) (ty:TypeId) (us:List Value),v= .slice (some ⟨r,0,none⟩) us.length c∧RowO H2 r c ty 4 us∧Rows μ2 4 ((xs.map T.tm).map Tm.d) us:=
 qIw (fun _ _ _ h k=>k.mono h) (vJ hsl hn)
end
end Go.Vx
namespace Go.Vx
open Go.Proofs Classical
theorem Pf.cnts_len:∀(xs:List Pf),xs.length≤Pf.cnts xs
 |[]=>by simp
 |x::xs=>by
  have h1:=x.cnt_pos
  have h2:=Pf.cnts_len xs
  simp only[Pf.cnts,List.length_cons];omega
theorem Pf.cnt_mem:∀{xs:List Pf} {y:Pf},y∈xs→y.cnt≤Pf.cnts xs
 |x::xs,y,h=>by
  rcases List.mem_cons.1 h with rfl|h
  ·simp only[Pf.cnts];omega
  ·have := Pf.cnt_mem h
   simp only[Pf.cnts];omega
noncomputable def jY(f:Pf→Pf)(ca:Int)(xs:List Pf)(i:Nat):List Pf:=(List.range i).flatMap fun(j:Nat)=>match xs[j]? with|none=>[]|some y=>if(j:Int)=ca then y.kids.map f else [f y]
theorem nE{f:Pf→Pf}{ca:Int}{xs:List Pf}{i:Nat}{y:Pf}(h:xs[i]? =some y):jY f ca xs (i+1)=jY f ca xs i++if(i:Int)=ca then y.kids.map f else [f y]:=by
 rw[jY,List.range_succ,List.flatMap_append]
 congr 1
 simp[h]
theorem qMq{f:Pf→Pf}{ca:Int}{xs:List Pf}:∀i,(jY f ca xs i).length≤Pf.cnts (xs.take i)
 |0=>by simp[jY]
 |i+1=>by
  have ih:=qMq (f:=f) (ca:=ca) (xs:=xs) i
  cases h:xs[i]? with
  |none=>
   have e:jY f ca xs (i+1)=jY f ca xs i:=by
    rw[jY,List.range_succ,List.flatMap_append]
    simp[h,jY]
   rw[e,List.take_add_one,h,Option.toList_none,List.append_nil]
   exact ih
  |some y=>
   rw[nE h,Pf.cnts_take h,List.length_append]
   have h1:=y.cnt_pos
   have h2:=Pf.cnts_len y.kids
   have h3:=y.cnt_eq1
   split
   ·rw[List.length_map];omega
   ·simp only[List.length_cons,List.length_nil];omega
theorem rZ{f:Pf→Pf}{xs:List Pf}:∀i,i≤xs.length→jY f (-1) xs i=(xs.take i).map f
 |0,_=>by simp[jY]
 |i+1,h=>by
  have w_:=aSo (l:=xs) (i:=i) (by omega)
  obtain⟨y,hy⟩:=w_
  rw[nE hy,rZ i (by omega),if_neg (by omega),List.take_add_one,hy,Option.toList_some,List.map_append]
  rfl
noncomputable def rU(ca:Int)(xs:List Pf)(i:Nat):List Tm:=if 0≤ca∧ca<i then(match xs[ca.toNat]? with|some y=>y.values|none=>[])else []
theorem qSj(ca:Int)(xs:List Pf):rU ca xs 0=[]:=by rw[rU,if_neg (by omega)]
theorem qLe{ca:Int}{xs:List Pf}{i:Nat}{y:Pf}(h:xs[i]? =some y):rU ca xs (i+1)=rU ca xs i++if(i:Int)=ca then y.values else []:=by
 unfold rU
 by_cases e:(i:Int)=ca
 ·subst e
  rw[if_pos (by omega),if_neg (by omega),if_pos rfl,Int.toNat_natCast,h]
  simp
 ·rw [if_neg e, List.append_nil]
  by_cases k:0≤ca∧ca<i
  ·rw[if_pos k,if_pos (by omega)]
  ·rw[if_neg k,if_neg (by omega)]
noncomputable def mH(cl ca:Int)(xs:List Pf)(b:Int)(i:Nat):Int:=if 0≤ca∧ca<i then(match xs[ca.toNat]? with|some y=>cl+y.clause|none=>b)else b
theorem qNm(cl ca b:Int)(xs:List Pf):mH cl ca xs b 0=b:=by rw[mH,if_neg (by omega)]
theorem qFd{cl ca b:Int}{xs:List Pf}{i:Nat}{y:Pf}(h:xs[i]? =some y):mH cl ca xs b (i+1)=if(i:Int)=ca then cl+y.clause else mH cl ca xs b i:=by
 unfold mH
 by_cases e:(i:Int)=ca
 ·subst e
  rw[if_pos (by omega),if_pos rfl,Int.toNat_natCast,h]
 ·rw [if_neg e]
  by_cases k:0≤ca∧ca<i
  ·rw[if_pos k,if_pos (by omega)]
  ·rw[if_neg k,if_neg (by omega)]
inductive Pf.G:Pf→Prop
 |mk {x:Pf} (gnd:∀t∈x.values,GndT t) (len:x.values.length≤1000) (cl0:0≤x.clause) (cl1:x.clause≤1000) (sub:∀y∈x.kids,y.G):x.G
theorem Pf.G.gnd{x:Pf}(h:x.G):∀t∈x.values,GndT t:=by cases h;assumption
theorem Pf.G.len{x:Pf}(h:x.G):x.values.length≤1000:=by cases h;assumption
theorem Pf.G.cl0{x:Pf}(h:x.G):0≤x.clause:=by cases h;assumption
theorem Pf.G.cl1{x:Pf}(h:x.G):x.clause≤1000:=by cases h;assumption
theorem Pf.G.sub{x:Pf}(h:x.G):∀y∈x.kids,y.G:=by cases h;assumption
theorem OkP.g{p:Pg}(hp:p.Ok):∀x:Pf,OkP p x→x.G:=
 Pf.ind fun x ih h=>by
  obtain⟨r,c,h1,h2,_⟩:=h.inv
  obtain⟨k,e1,e2⟩:=h1.rel
  have hro:=hp.2 k r e2
  obtain⟨L,i,f1,f2,f3⟩:=h1.cls
  have hb:=(Gl.cl_bnd _ f1).2
  have hi:=(List.getElem?_eq_some_iff.1 f3).1
  have h4:=h1.len
  have h5:=hro.ar4
  have h6:=hro.lo8
  exact .mk h1.gnd (by omega) (by omega) (by omega) fun y hy=>ih y hy (h2 y hy)
section
variable (nm:ByteArray) (cl ca:Int) (count more:Nat)
noncomputable def qDf(x:Pf):Int:=if x.rel=nm∧x.clause=cl then ca else -1
noncomputable def xJ(f:Pf→Pf)(x:Pf):Pf:=
 .mk x.rel (if x.rel=nm∧x.clause>cl then x.clause+count-1 else mH cl (qDf nm cl ca x) x.kids x.clause x.kids.length)
  (x.values++rU (qDf nm cl ca x) x.kids x.kids.length++if x.rel=nm∧x.clause≠cl then List.replicate more T.nil.tm else []) (jY f (qDf nm cl ca x) x.kids x.kids.length)
noncomputable def jL:Nat→Pf→Pf
 |0,x=>x
 |n+1,x=>xJ nm cl ca count more (jL n) x
end
end Go.Vx
namespace Go.Vx
open Go.Proofs Classical
theorem GndT.lifts{ts:List Tm}(h:∀t∈ts,GndT t):∃xs:List T,ts=xs.map T.tm∧xs.length=ts.length:=by
 have w_:=fD fun t ht=>(h t ht).1
 obtain⟨xs,e,_⟩:=w_
 exact⟨xs,e,by rw[e,List.length_map]⟩
section
variable {μ:Mem}
set_option maxHeartbeats 4000000 in
set_option maxRecDepth 20000 in
end
end Go.Vx
namespace Go.Vx
open Go.Proofs Classical
theorem qTc:∀m:Nat,OwnRows 4 ((List.replicate m T.nil.tm).map Tm.d) (List.replicate m (.agg #[.int .i64 0,.int .i64 0,.string ⟨#[]⟩,.slice none 0 0])) Mem.nil
 |0=>OwnRows.nil 4
 |m+1=>by
  rw[List.replicate_succ',List.replicate_succ',List.map_append]
  have k:=(qTc m).snoc (d:=T.nil.tm.d) (g':=Mem.nil) (v:= .agg #[.int .i64 0,.int .i64 0,.string ⟨#[]⟩,.slice none 0 0]) (by
   have hf:FreshS Mem.nil Mem.nil [.i 0,.i 0,.s ⟨#[]⟩,.sl 4 []] [.int .i64 0,.int .i64 0,.string ⟨#[]⟩,.slice none 0 0]:=FreshS.int (FreshS.int (FreshS.str ⟨Mem.nil,OwnS.last (Own.nilSl 4),(fun _ _ h=>nomatch h),fun _ h=>absurd rfl h⟩))
   have w_:=FreshS.st hf
   obtain⟨g,a,b,c⟩:=w_
   have e:g=Mem.nil:=funext fun z=>by
    cases h:g z with
    |none=>rfl
    |some o=>have:=b z o h;cases this
   rw[e]at a
   exact a) (Tm.d_n _) (fun _ _=>rfl)
  rw[Mem.nil_join]at k
  exact k
theorem qMy{μ μ':Mem}(m:Nat):Grown 4 μ μ' ((List.replicate m T.nil.tm).map Tm.d) (List.replicate m (.agg #[.int .i64 0,.int .i64 0,.string ⟨#[]⟩,.slice none 0 0])):=⟨Mem.nil,qTc m,(fun _ _ h=>nomatch h),fun _ h=>absurd rfl h⟩
abbrev qQo:FuncId:=100
structure TurnC (μ:Mem) (nm:ByteArray) (cl ca:Int) (count more:Nat) (rn rf rc rk rm ra:Nat):Prop where
 n:μ rn=some (.cells #[.string nm] 9 (0,0))
 f:μ rf=some (.cells #[.func (.func 100) #[] #[.pointer (some ⟨rn,0,none⟩),.pointer (some ⟨rf,0,none⟩),.pointer (some ⟨rc,0,none⟩),.pointer (some ⟨rk,0,none⟩),.pointer (some ⟨rm,0,none⟩),.pointer (some ⟨ra,0,none⟩)]] 129 (0,0))
 c:μ rc=some (.cells #[.int .i64 cl] 3 (0,0))
 k:μ rk=some (.cells #[.int .i64 count] 3 (0,0))
 m:μ rm=some (.cells #[.int .i64 more] 3 (0,0))
 a:μ ra=some (.cells #[.int .i64 ca] 3 (0,0))
theorem TurnC.mono{μ μ':Mem}{nm:ByteArray}{cl ca:Int}{count more rn rf rc rk rm ra:Nat}(h:TurnC μ nm cl ca count more rn rf rc rk rm ra)(hl:μ.Le μ'):TurnC μ' nm cl ca count more rn rf rc rk rm ra:=
 ⟨hl _ _ h.n,hl _ _ h.f,hl _ _ h.c,hl _ _ h.k,hl _ _ h.m,hl _ _ h.a⟩
section
variable {μ:Mem}
theorem qIv{μ1 μ2 h:Mem}{rel:ByteArray}{clz:Int}{vals:List Tm}{ks:List Pf}{b:Option Nat}{cp r c:Nat}{ty:TypeId}{us ys:List Value}(h0:μ.Le μ1)(hle:μ1.Le μ2)(hap:Apart μ2 h)(hr:RowO h r c ty 4 us)(hg:Grown2 4 4 μ μ1 (vals.map Tm.d) (ks.map Pf.d) us ys)(hno:∀r,b=some r→μ1 r=none)(hk:RowAt μ2 b cp 4 ys)(hm:ys.length≤maxLen):
  Fresh μ (μ2.join h) (Pf.mk rel clz vals ks).d (.agg #[.string rel,.int .i64 clz,.slice (some ⟨r,0,none⟩) us.length c,.slice (b.map fun r=>⟨r,0,none⟩) ys.length cp]):=by
 rw[Pf.d_eq]
 have hrn:μ2 r=none:=hap.symm r (by
  obtain⟨cs,hc,_⟩:=hr
  rw[hc];simp)
 exact FreshS.st (FreshS.str (FreshS.int (hg.fin (b1:=some r) h0 hle (Mem.le_join μ2 h) hno hk hm (fun r0 e=>by cases e;exact hrn) (hr.rowAt (Mem.le_join_right hap)) hr.len)))
set_option maxHeartbeats 8000000 in
set_option maxRecDepth 20000 in
theorem qNg{nm:ByteArray}{cl ca:Int}{count more rn rf rc rk rm ra:Nat}(hcl:0≤cl∧cl≤1000)(hcount:count≤1000)(hmore:more≤1000)(hca0:0≤ca):∀(n:Nat) (x:Pf) {μ:Mem} {v:Value},x.cnt≤n→n≤1000→x.G→TurnC μ nm cl ca count more rn rf rc rk rm ra→RepV μ x.d v→
  Spec Tryz.prog 100 [v,.pointer (some ⟨rn,0,none⟩),.pointer (some ⟨rf,0,none⟩),.pointer (some ⟨rc,0,none⟩),.pointer (some ⟨rk,0,none⟩),.pointer (some ⟨rm,0,none⟩),.pointer (some ⟨ra,0,none⟩)] μ fun w μ'=>Fresh μ μ' (jL nm cl ca count more n x).d w
 |0,x,μ,v,hc,_,_,_,_=>absurd x.cnt_pos (by omega)
 |n+1,x,μ,v,hc,hn,hG,C,hv=>by
  have ih:∀(y:Pf) {μ:Mem} {v:Value},y.cnt≤n→y.G→TurnC μ nm cl ca count more rn rf rc rk rm ra→RepV μ y.d v→Spec Tryz.prog 100 [v,.pointer (some ⟨rn,0,none⟩),.pointer (some ⟨rf,0,none⟩),.pointer (some ⟨rc,0,none⟩),.pointer (some ⟨rk,0,none⟩),.pointer (some ⟨rm,0,none⟩),.pointer (some ⟨ra,0,none⟩)] μ fun w μ'=>Fresh μ μ' (jL nm cl ca count more n y).d w:=fun y _ _ h1 h2 h3 h4=>qNg hcl hcount hmore hca0 n y h1 (by omega) h2 h3 h4
  show Spec _ _ _ _ fun w μ'=>Fresh μ μ' (xJ nm cl ca count more (jL nm cl ca count more n) x).d w
  generalize jL nm cl ca count more n=F at ih ⊢
  have hit:x.rel=nm∧x.clause=cl→qDf nm cl ca x=ca:=fun k=>if_pos k
  have miss:¬(x.rel=nm∧x.clause=cl)→qDf nm cl ca x= -1:=fun k=>if_neg k
  unfold xJ
  generalize qDf nm cl ca x=A at hit miss ⊢
  have hce:=x.cnt_eq1
  have hg1:=hG.cl0
  have hg2:=hG.cl1
  have hg3:=hG.len
  have hv0:=hv
  have w_:=Pf.inv hv
  obtain⟨q,rfl,hvs,hks⟩:=w_
  have hkl:=Pf.cnts_len x.kids
  have w_:=GndT.lifts hG.gnd
  obtain⟨xs,hxs,hxl⟩:=w_
  have hcopy:=qLn (cap:=q.1.2) (xs:=xs) (by rw[←hxs,hxl];exact hvs) (by omega)
  rw[hxl,←hxs]at hcopy
  have hmiss:A= -1→rU A x.kids x.kids.length=[]∧mH cl A x.kids x.clause x.kids.length=x.clause:=fun e=>⟨by rw[rU,if_neg (by omega)],by rw[mH,if_neg (by omega)]⟩
  refine Spec.mk Tryz.func100 (by kernel_rfl) ?_
  intro r7 r8
  refine cOw hcopy fun v1 μ1 h1 hle1 hap1 hR1=>?_
  obtain⟨r0,c0,ty0,us0,rfl,hrow0,hg0⟩:=hR1
  have hul:=hg0.len
  rw[List.length_map]at hul
  intro r9
  refine bN [.string nm] rfl (bJ (C.mono hle1).n) ?_
  refine aL (fun e1=>?_) (fun e1=>?_)
  ·have hA := miss fun k => e1 k.1
   have w_:=hmiss hA
   obtain⟨hm1,hm2⟩:=w_
   rw[hm1,hm2,List.append_nil,if_neg fun k=>e1 k.1,if_neg fun k=>e1 k.1,List.append_nil,hA]
   refine aU (fun z:Nat×(Option Nat×Nat×List Value)×Mem=>z.1≤x.kids.length∧μ.Le z.2.2∧Apart z.2.2 h1∧Grown2 4 4 μ z.2.2 ((x.values).map Tm.d) (((x.kids.take z.1).map F).map Pf.d) us0 z.2.1.2.2)
    (fun(i,(b,cp,ys),μ')=>⟨[(1,.val (.pointer (some ⟨rn,0,none⟩))),(2,.val (.pointer (some ⟨rf,0,none⟩))),(3,.val (.pointer (some ⟨rc,0,none⟩))),(4,.val (.pointer (some ⟨rk,0,none⟩))),(5,.val (.pointer (some ⟨rm,0,none⟩))),(6,.val (.pointer (some ⟨ra,0,none⟩))),(7,.loc 0 r7 0),(8,.loc 1 r8 0),(9,.loc 2 r9 0),(31,.val (.slice q.2.1 x.kids.length q.2.2)),(32,.val (.int .i64 x.kids.length)),(33,.val (.int .i64 i))],[(0,some (.cells r7 [.val (.string x.rel),.val (.int .i64 x.clause),.val (.slice q.1.1 x.values.length q.1.2),.val (.slice q.2.1 x.kids.length q.2.2)] 54)),(1,some (.cells r8 [.val (.string ⟨#[]⟩),.val (.int .i64 0),.val (.slice none 0 0),.val (.slice none 0 0)] 54)),(2,some (.cells r9 [.val (.string x.rel),.val (.int .i64 (x.clause)),.val (.slice (some ⟨r0,0,none⟩) (us0.length) c0),.row 3 b ys.length cp] 54)),(3,some (.row b cp 54 4 ys))],4,μ',h1⟩) (fun z=>x.kids.length-z.1)
    (0,(none,0,[]),μ1) ⟨Nat.zero_le _,hle1,hap1,Grown2.start hg0⟩ (fun(_,(_,_,_),_)=>⟨rfl,rfl⟩) ?_ ?_
   ·exact⟨⟨⟨_,rfl,.inl rfl⟩,⟨_,rfl,.inl rfl⟩,⟨_,rfl,.inl rfl⟩,⟨_,rfl,.inl rfl⟩,⟨_,rfl,.inl rfl⟩,⟨_,rfl,.inl rfl⟩,⟨_,rfl,.inl rfl⟩,⟨_,rfl,.inl rfl⟩,⟨_,rfl,.inl rfl⟩,⟨_,rfl,.inl rfl⟩,⟨_,rfl,.inl rfl⟩,⟨_,rfl,.inl rfl⟩,trivial⟩,⟨.inl rfl,.inl rfl,.inr (.inr ⟨_,_,_,_,rfl,rfl,.inl rfl,.inl rfl,.inl rfl,.inr ⟨3,rfl,rfl,Nat.le_refl _⟩,trivial⟩),.inr (.inl ⟨_,_,rfl,Nat.le_refl _⟩),trivial⟩,rfl,rfl⟩
   rintro⟨i,⟨b,cp,ys⟩,μ'⟩ ⟨hi,hle,hap,hgr⟩
   dsimp only at hi hle hap hgr
   have hyl:ys.length=i:=by
    obtain⟨g1,g2,a1,a2,_⟩:=hgr.out
    have:=a2.len
    simp only[List.length_map,List.length_take]at this
    omega
   refine ifd (fun hlt=>?_) (fun hlt=>?_)
   ·have w_ := aSo (l := x.kids) (i := i) (by omega)
    obtain⟨y,hy⟩:=w_
    have hym:=Pf.cnt_mem (mAt hy)
    have w_:=Pf.elem (hks.mono hle) hy
    obtain⟨ady,py,hely,hry⟩:=w_
    refine eIn hely ?_
    intro r15
    refine bN [.func (.func qQo) #[] #[.pointer (some ⟨rn,0,none⟩),.pointer (some ⟨rf,0,none⟩),.pointer (some ⟨rc,0,none⟩),.pointer (some ⟨rk,0,none⟩),.pointer (some ⟨rm,0,none⟩),.pointer (some ⟨ra,0,none⟩)]] rfl (bJ (C.mono hle).f) ?_
    refine cDa hap (ih y (by omega) (hG.sub y (mAt hy)) (C.mono hle) hry) fun v5 μ5 hle5 hap5 hR5=>?_
    have w_:=Pf.invV hR5.rep
    obtain⟨q5,rfl⟩:=w_
    intro r90
    refine gIn ?_ ?_ fun b' cp' _=>?_
    ·show(ys.length+1)*72≤_;omega
    ·exact Nat.le_trans (m:=100000000) (show ys.length+1≤_ by omega) (by decide)
    refine aB (by omega) (by omega) ⟨(i+1,(b',cp',_),μ5),⟨by dsimp only;omega,hle.trans hle5,hap5,?_⟩,by dsimp only;omega,⟨⟨rfl,rfl,rfl,rfl,rfl,rfl,rfl,rfl,rfl,rfl,rfl,rfl,trivial⟩,⟨rfl,rfl,rfl,rfl,trivial⟩,rfl,rfl⟩⟩
    dsimp only
    rw[show((x.kids.take (i+1)).map F).map Pf.d=((x.kids.take i).map F).map Pf.d++[(F y).d]from by rw[List.take_add_one,hy];simp]
    exact hgr.snoc hle hR5 hle5 (Pf.d_n _)
   obtain rfl:i=x.kids.length:=by omega
   have hk1:jY F (-1) x.kids x.kids.length=x.kids.map F:=by rw[rZ _ (Nat.le_refl _),List.take_length]
   rw[List.take_length,←hk1]at hgr
   have hmx:ys.length≤maxLen:=Nat.le_trans (m:=100000000) (by omega) (by decide)
   refine gM [3] fun μ2 hle2 hno2 hat2 hap2=> .inr ⟨h1,Mem.nil,Parts.nil_right _,?_⟩
   exact qIv hle hle2 hap2 hrow0 hgr hno2 hat2 hmx
  refine bN [.int .i64 cl] rfl (bJ (C.mono hle1).c) ?_
  refine aL (fun e2=>?_) (fun e2=>?_)
  ·have hA := miss fun k => e2 k.2
   have w_:=hmiss hA
   obtain⟨hm1,hm2⟩:=w_
   rw[hm1,hm2,List.append_nil,if_pos (show x.rel=nm∧x.clause≠cl from⟨e1,e2⟩),hA]
   refine bN [.int .i64 cl] rfl (bJ (C.mono hle1).c) ?_
   refine ifd (fun e3=>?_) (fun e3=>?_)
   ·rw [if_pos (show x.rel = nm ∧ x.clause > cl from ⟨e1, e3⟩)]
    refine bN [.int .i64 count] rfl (bJ (C.mono hle1).k) ?_
    refine aB (by omega) (by omega) ?_
    refine aB (by omega) (by omega) ?_
    refine bN [.int .i64 more] rfl (bJ (C.mono hle1).m) ?_
    refine qIn more rfl ?_
    refine qDu us0 ty0 rfl hrow0 ?_ ?_ fun r2 c2 o ty2 hrow2 hor=>?_
    ·rw[List.length_replicate];show(us0.length+more)*56≤_;omega
    ·rw[List.length_replicate];exact Nat.le_trans (m:=100000000) (show us0.length+more≤_ by omega) (by decide)
    have hap2:=hap1.set (o:=o) (kA hrow0 hap1 hor)
    generalize h1.set r2 o=h2 at hrow2 hap2
    have hg2':Grown2 4 4 μ μ1 ((x.values++List.replicate more T.nil.tm).map Tm.d) [] (us0++List.replicate more (.agg #[.int .i64 0,.int .i64 0,.string ⟨#[]⟩,.slice none 0 0])) []:=by
     rw[List.map_append]
     exact(Grown2.start hg0).app hle1 (qMy more) (Mem.Le.refl _)
    refine aU (fun z:Nat×(Option Nat×Nat×List Value)×Mem=>z.1≤x.kids.length∧μ.Le z.2.2∧Apart z.2.2 h2∧Grown2 4 4 μ z.2.2 ((x.values++List.replicate more T.nil.tm).map Tm.d) (((x.kids.take z.1).map F).map Pf.d) (us0++List.replicate more (.agg #[.int .i64 0,.int .i64 0,.string ⟨#[]⟩,.slice none 0 0])) z.2.1.2.2)
     (fun(i,(b,cp,ys),μ')=>⟨[(1,.val (.pointer (some ⟨rn,0,none⟩))),(2,.val (.pointer (some ⟨rf,0,none⟩))),(3,.val (.pointer (some ⟨rc,0,none⟩))),(4,.val (.pointer (some ⟨rk,0,none⟩))),(5,.val (.pointer (some ⟨rm,0,none⟩))),(6,.val (.pointer (some ⟨ra,0,none⟩))),(7,.loc 0 r7 0),(8,.loc 1 r8 0),(9,.loc 2 r9 0),(67,.val (.slice q.2.1 x.kids.length q.2.2)),(68,.val (.int .i64 x.kids.length)),(69,.val (.int .i64 i))],[(0,some (.cells r7 [.val (.string x.rel),.val (.int .i64 x.clause),.val (.slice q.1.1 x.values.length q.1.2),.val (.slice q.2.1 x.kids.length q.2.2)] 54)),(1,some (.cells r8 [.val (.string ⟨#[]⟩),.val (.int .i64 0),.val (.slice none 0 0),.val (.slice none 0 0)] 54)),(2,some (.cells r9 [.val (.string x.rel),.val (.int .i64 ((x.clause+count-1))),.val (.slice (some ⟨r2,0,none⟩) (us0.length+(List.replicate more (Value.agg #[.int .i64 0,.int .i64 0,.string ⟨#[]⟩,.slice none 0 0])).length) c2),.row 3 b ys.length cp] 54)),(3,some (.row b cp 54 4 ys))],4,μ',h2⟩) (fun z=>x.kids.length-z.1)
     (0,(none,0,[]),μ1) ⟨Nat.zero_le _,hle1,hap2,hg2'⟩ (fun(_,(_,_,_),_)=>⟨rfl,rfl⟩) ?_ ?_
    ·exact⟨⟨⟨_,rfl,.inl rfl⟩,⟨_,rfl,.inl rfl⟩,⟨_,rfl,.inl rfl⟩,⟨_,rfl,.inl rfl⟩,⟨_,rfl,.inl rfl⟩,⟨_,rfl,.inl rfl⟩,⟨_,rfl,.inl rfl⟩,⟨_,rfl,.inl rfl⟩,⟨_,rfl,.inl rfl⟩,⟨_,rfl,.inl rfl⟩,⟨_,rfl,.inl rfl⟩,⟨_,rfl,.inl rfl⟩,trivial⟩,⟨.inl rfl,.inl rfl,.inr (.inr ⟨_,_,_,_,rfl,rfl,.inl rfl,.inl rfl,.inl rfl,.inr ⟨3,rfl,rfl,Nat.le_refl _⟩,trivial⟩),.inr (.inl ⟨_,_,rfl,Nat.le_refl _⟩),trivial⟩,rfl,rfl⟩
    rintro⟨i,⟨b,cp,ys⟩,μ'⟩ ⟨hi,hle,hap,hgr⟩
    dsimp only at hi hle hap hgr
    have hyl:ys.length=i:=by
     obtain⟨g1,g2,a1,a2,_⟩:=hgr.out
     have:=a2.len
     simp only[List.length_map,List.length_take]at this
     omega
    refine ifd (fun hlt=>?_) (fun hlt=>?_)
    ·have w_ := aSo (l := x.kids) (i := i) (by omega)
     obtain⟨y,hy⟩:=w_
     have hym:=Pf.cnt_mem (mAt hy)
     have w_:=Pf.elem (hks.mono hle) hy
     obtain⟨ady,py,hely,hry⟩:=w_
     refine eIn hely ?_
     intro r15
     refine bN [.func (.func qQo) #[] #[.pointer (some ⟨rn,0,none⟩),.pointer (some ⟨rf,0,none⟩),.pointer (some ⟨rc,0,none⟩),.pointer (some ⟨rk,0,none⟩),.pointer (some ⟨rm,0,none⟩),.pointer (some ⟨ra,0,none⟩)]] rfl (bJ (C.mono hle).f) ?_
     refine cDa hap (ih y (by omega) (hG.sub y (mAt hy)) (C.mono hle) hry) fun v5 μ5 hle5 hap5 hR5=>?_
     have w_:=Pf.invV hR5.rep
     obtain⟨q5,rfl⟩:=w_
     intro r90
     refine gIn ?_ ?_ fun b' cp' _=>?_
     ·show(ys.length+1)*72≤_;omega
     ·exact Nat.le_trans (m:=100000000) (show ys.length+1≤_ by omega) (by decide)
     refine aB (by omega) (by omega) ⟨(i+1,(b',cp',_),μ5),⟨by dsimp only;omega,hle.trans hle5,hap5,?_⟩,by dsimp only;omega,⟨⟨rfl,rfl,rfl,rfl,rfl,rfl,rfl,rfl,rfl,rfl,rfl,rfl,trivial⟩,⟨rfl,rfl,rfl,rfl,trivial⟩,rfl,rfl⟩⟩
     dsimp only
     rw[show((x.kids.take (i+1)).map F).map Pf.d=((x.kids.take i).map F).map Pf.d++[(F y).d]from by rw[List.take_add_one,hy];simp]
     exact hgr.snoc hle hR5 hle5 (Pf.d_n _)
    obtain rfl:i=x.kids.length:=by omega
    have hk1:jY F (-1) x.kids x.kids.length=x.kids.map F:=by rw[rZ _ (Nat.le_refl _),List.take_length]
    rw[List.take_length,←hk1]at hgr
    have hmx:ys.length≤maxLen:=Nat.le_trans (m:=100000000) (by omega) (by decide)
    refine gM [3] fun μ2 hle2 hno2 hat2 hap2=> .inr ⟨h2,Mem.nil,Parts.nil_right _,?_⟩
    have kf:=qIv (rel:=x.rel) (clz:=(x.clause+count-1)) hle hle2 hap2 hrow2 hgr hno2 hat2 hmx
    rw[List.length_append]at kf
    exact kf
   ·rw [if_neg fun k => e3 k.2]
    refine bN [.int .i64 more] rfl (bJ (C.mono hle1).m) ?_
    refine qIn more rfl ?_
    refine qDu us0 ty0 rfl hrow0 ?_ ?_ fun r2 c2 o ty2 hrow2 hor=>?_
    ·rw[List.length_replicate];show(us0.length+more)*56≤_;omega
    ·rw[List.length_replicate];exact Nat.le_trans (m:=100000000) (show us0.length+more≤_ by omega) (by decide)
    have hap2:=hap1.set (o:=o) (kA hrow0 hap1 hor)
    generalize h1.set r2 o=h2 at hrow2 hap2
    have hg2':Grown2 4 4 μ μ1 ((x.values++List.replicate more T.nil.tm).map Tm.d) [] (us0++List.replicate more (.agg #[.int .i64 0,.int .i64 0,.string ⟨#[]⟩,.slice none 0 0])) []:=by
     rw[List.map_append]
     exact(Grown2.start hg0).app hle1 (qMy more) (Mem.Le.refl _)
    refine aU (fun z:Nat×(Option Nat×Nat×List Value)×Mem=>z.1≤x.kids.length∧μ.Le z.2.2∧Apart z.2.2 h2∧Grown2 4 4 μ z.2.2 ((x.values++List.replicate more T.nil.tm).map Tm.d) (((x.kids.take z.1).map F).map Pf.d) (us0++List.replicate more (.agg #[.int .i64 0,.int .i64 0,.string ⟨#[]⟩,.slice none 0 0])) z.2.1.2.2)
     (fun(i,(b,cp,ys),μ')=>⟨[(1,.val (.pointer (some ⟨rn,0,none⟩))),(2,.val (.pointer (some ⟨rf,0,none⟩))),(3,.val (.pointer (some ⟨rc,0,none⟩))),(4,.val (.pointer (some ⟨rk,0,none⟩))),(5,.val (.pointer (some ⟨rm,0,none⟩))),(6,.val (.pointer (some ⟨ra,0,none⟩))),(7,.loc 0 r7 0),(8,.loc 1 r8 0),(9,.loc 2 r9 0),(67,.val (.slice q.2.1 x.kids.length q.2.2)),(68,.val (.int .i64 x.kids.length)),(69,.val (.int .i64 i))],[(0,some (.cells r7 [.val (.string x.rel),.val (.int .i64 x.clause),.val (.slice q.1.1 x.values.length q.1.2),.val (.slice q.2.1 x.kids.length q.2.2)] 54)),(1,some (.cells r8 [.val (.string ⟨#[]⟩),.val (.int .i64 0),.val (.slice none 0 0),.val (.slice none 0 0)] 54)),(2,some (.cells r9 [.val (.string x.rel),.val (.int .i64 (x.clause)),.val (.slice (some ⟨r2,0,none⟩) (us0.length+(List.replicate more (Value.agg #[.int .i64 0,.int .i64 0,.string ⟨#[]⟩,.slice none 0 0])).length) c2),.row 3 b ys.length cp] 54)),(3,some (.row b cp 54 4 ys))],4,μ',h2⟩) (fun z=>x.kids.length-z.1)
     (0,(none,0,[]),μ1) ⟨Nat.zero_le _,hle1,hap2,hg2'⟩ (fun(_,(_,_,_),_)=>⟨rfl,rfl⟩) ?_ ?_
    ·exact⟨⟨⟨_,rfl,.inl rfl⟩,⟨_,rfl,.inl rfl⟩,⟨_,rfl,.inl rfl⟩,⟨_,rfl,.inl rfl⟩,⟨_,rfl,.inl rfl⟩,⟨_,rfl,.inl rfl⟩,⟨_,rfl,.inl rfl⟩,⟨_,rfl,.inl rfl⟩,⟨_,rfl,.inl rfl⟩,⟨_,rfl,.inl rfl⟩,⟨_,rfl,.inl rfl⟩,⟨_,rfl,.inl rfl⟩,trivial⟩,⟨.inl rfl,.inl rfl,.inr (.inr ⟨_,_,_,_,rfl,rfl,.inl rfl,.inl rfl,.inl rfl,.inr ⟨3,rfl,rfl,Nat.le_refl _⟩,trivial⟩),.inr (.inl ⟨_,_,rfl,Nat.le_refl _⟩),trivial⟩,rfl,rfl⟩
    rintro⟨i,⟨b,cp,ys⟩,μ'⟩ ⟨hi,hle,hap,hgr⟩
    dsimp only at hi hle hap hgr
    have hyl:ys.length=i:=by
     obtain⟨g1,g2,a1,a2,_⟩:=hgr.out
     have:=a2.len
     simp only[List.length_map,List.length_take]at this
     omega
    refine ifd (fun hlt=>?_) (fun hlt=>?_)
    ·have w_ := aSo (l := x.kids) (i := i) (by omega)
     obtain⟨y,hy⟩:=w_
     have hym:=Pf.cnt_mem (mAt hy)
     have w_:=Pf.elem (hks.mono hle) hy
     obtain⟨ady,py,hely,hry⟩:=w_
     refine eIn hely ?_
     intro r15
     refine bN [.func (.func qQo) #[] #[.pointer (some ⟨rn,0,none⟩),.pointer (some ⟨rf,0,none⟩),.pointer (some ⟨rc,0,none⟩),.pointer (some ⟨rk,0,none⟩),.pointer (some ⟨rm,0,none⟩),.pointer (some ⟨ra,0,none⟩)]] rfl (bJ (C.mono hle).f) ?_
     refine cDa hap (ih y (by omega) (hG.sub y (mAt hy)) (C.mono hle) hry) fun v5 μ5 hle5 hap5 hR5=>?_
     have w_:=Pf.invV hR5.rep
     obtain⟨q5,rfl⟩:=w_
     intro r90
     refine gIn ?_ ?_ fun b' cp' _=>?_
     ·show(ys.length+1)*72≤_;omega
     ·exact Nat.le_trans (m:=100000000) (show ys.length+1≤_ by omega) (by decide)
     refine aB (by omega) (by omega) ⟨(i+1,(b',cp',_),μ5),⟨by dsimp only;omega,hle.trans hle5,hap5,?_⟩,by dsimp only;omega,⟨⟨rfl,rfl,rfl,rfl,rfl,rfl,rfl,rfl,rfl,rfl,rfl,rfl,trivial⟩,⟨rfl,rfl,rfl,rfl,trivial⟩,rfl,rfl⟩⟩
     dsimp only
     rw[show((x.kids.take (i+1)).map F).map Pf.d=((x.kids.take i).map F).map Pf.d++[(F y).d]from by rw[List.take_add_one,hy];simp]
     exact hgr.snoc hle hR5 hle5 (Pf.d_n _)
    obtain rfl:i=x.kids.length:=by omega
    have hk1:jY F (-1) x.kids x.kids.length=x.kids.map F:=by rw[rZ _ (Nat.le_refl _),List.take_length]
    rw[List.take_length,←hk1]at hgr
    have hmx:ys.length≤maxLen:=Nat.le_trans (m:=100000000) (by omega) (by decide)
    refine gM [3] fun μ2 hle2 hno2 hat2 hap2=> .inr ⟨h2,Mem.nil,Parts.nil_right _,?_⟩
    have kf:=qIv (rel:=x.rel) (clz:=x.clause) hle hle2 hap2 hrow2 hgr hno2 hat2 hmx
    rw[List.length_append]at kf
    exact kf
  have hA:=hit ⟨e1,e2⟩
  rw[if_neg (show ¬(x.rel=nm∧x.clause>cl)from fun k=>by have:=k.2;omega),if_neg (show ¬(x.rel=nm∧x.clause≠cl)from fun k=>k.2 e2),List.append_nil]
  refine aU (fun z:Nat×(Option Nat×Nat×List Value)×(Nat×Nat×TypeId×List Value)×Mem×Mem=>z.1≤x.kids.length∧μ.Le z.2.2.2.1∧Apart z.2.2.2.1 z.2.2.2.2∧RowO z.2.2.2.2 z.2.2.1.1 z.2.2.1.2.1 z.2.2.1.2.2.1 4 z.2.2.1.2.2.2∧Grown2 4 4 μ z.2.2.2.1 ((x.values++rU A x.kids z.1).map Tm.d) ((jY F A x.kids z.1).map Pf.d) z.2.2.1.2.2.2 z.2.1.2.2)
   (fun(i,(b,cp,ys),(r,c,ty,us),μ',h)=>⟨[(1,.val (.pointer (some ⟨rn,0,none⟩))),(2,.val (.pointer (some ⟨rf,0,none⟩))),(3,.val (.pointer (some ⟨rc,0,none⟩))),(4,.val (.pointer (some ⟨rk,0,none⟩))),(5,.val (.pointer (some ⟨rm,0,none⟩))),(6,.val (.pointer (some ⟨ra,0,none⟩))),(7,.loc 0 r7 0),(8,.loc 1 r8 0),(9,.loc 2 r9 0),(84,.val (.slice q.2.1 x.kids.length q.2.2)),(85,.val (.int .i64 x.kids.length)),(86,.val (.int .i64 i))],[(0,some (.cells r7 [.val (.string x.rel),.val (.int .i64 x.clause),.val (.slice q.1.1 x.values.length q.1.2),.val (.slice q.2.1 x.kids.length q.2.2)] 54)),(1,some (.cells r8 [.val (.string ⟨#[]⟩),.val (.int .i64 0),.val (.slice none 0 0),.val (.slice none 0 0)] 54)),(2,some (.cells r9 [.val (.string x.rel),.val (.int .i64 (mH cl A x.kids x.clause i)),.val (.slice (some ⟨r,0,none⟩) (us.length) c),.row 3 b ys.length cp] 54)),(3,some (.row b cp 54 4 ys))],4,μ',h⟩) (fun z=>x.kids.length-z.1)
   (0,(none,0,[]),(r0,c0,ty0,us0),μ1,h1) ⟨Nat.zero_le _,hle1,hap1,hrow0,by dsimp only;rw[qSj,List.append_nil];exact Grown2.start hg0⟩ (fun(_,(_,_,_),(_,_,_,_),_,_)=>⟨rfl,rfl⟩) ?_ ?_
  ·exact⟨⟨⟨_,rfl,.inl rfl⟩,⟨_,rfl,.inl rfl⟩,⟨_,rfl,.inl rfl⟩,⟨_,rfl,.inl rfl⟩,⟨_,rfl,.inl rfl⟩,⟨_,rfl,.inl rfl⟩,⟨_,rfl,.inl rfl⟩,⟨_,rfl,.inl rfl⟩,⟨_,rfl,.inl rfl⟩,⟨_,rfl,.inl rfl⟩,⟨_,rfl,.inl rfl⟩,⟨_,rfl,.inl rfl⟩,trivial⟩,⟨.inl rfl,.inl rfl,.inr (.inr ⟨_,_,_,_,rfl,rfl,.inl rfl,.inl (by rw[qNm]),.inl rfl,.inr ⟨3,rfl,rfl,Nat.le_refl _⟩,trivial⟩),.inr (.inl ⟨_,_,rfl,Nat.le_refl _⟩),trivial⟩,rfl,rfl⟩
  rintro⟨i,⟨b,cp,ys⟩,⟨r,c,ty,us⟩,μ',h⟩ ⟨hi,hle,hap,hrow,hgr⟩
  dsimp only at hi hle hap hrow hgr
  have hlens:ys.length=(jY F A x.kids i).length∧us.length=x.values.length+(rU A x.kids i).length:=by
   obtain⟨g1,g2,a1,a2,_⟩:=hgr.out
   have k1:=a1.len
   have k2:=a2.len
   simp only[List.length_map,List.length_append]at k1 k2
   omega
  obtain⟨hyl,hul2⟩:=hlens
  have hyb:=qMq (f:=F) (ca:=A) (xs:=x.kids) i
  have hyb2:=Pf.cnts_le x.kids i
  refine ifd (fun hlt=>?_) (fun hlt=>?_)
  rotate_left
  ·obtain rfl : i = x.kids.length := by omega
   have hmx:ys.length≤maxLen:=Nat.le_trans (m:=100000000) (by omega) (by decide)
   refine gM [3] fun μ2 hle2 hno2 hat2 hap2=> .inr ⟨h,Mem.nil,Parts.nil_right _,?_⟩
   exact qIv hle hle2 hap2 hrow hgr hno2 hat2 hmx
  have w_:=aSo (l:=x.kids) (i:=i) (by omega)
  obtain⟨y,hy⟩:=w_
  have hym:=Pf.cnt_mem (mAt hy)
  have w_:=Pf.elem (hks.mono hle) hy
  obtain⟨ady,py,hely,hry⟩:=w_
  refine eIn hely ?_
  intro r15
  refine bN [.int .i64 ca] rfl (bJ (C.mono hle).a) ?_
  refine aL (fun e3=>?_) (fun e3=>?_)
  ·refine bN [.func (.func qQo) #[] #[.pointer (some ⟨rn, 0, none⟩), .pointer (some ⟨rf, 0, none⟩), .pointer (some ⟨rc, 0, none⟩), .pointer (some ⟨rk, 0, none⟩), .pointer (some ⟨rm, 0, none⟩), .pointer (some ⟨ra, 0, none⟩)]] rfl (bJ (C.mono hle).f) ?_
   refine cDa hap (ih y (by omega) (hG.sub y (mAt hy)) (C.mono hle) hry) fun v5 μ5 hle5 hap5 hR5=>?_
   have w_:=Pf.invV hR5.rep
   obtain⟨q5,rfl⟩:=w_
   intro r90
   refine gIn ?_ ?_ fun b' cp' _=>?_
   ·show(ys.length+1)*72≤_;omega
   ·exact Nat.le_trans (m:=100000000) (show ys.length+1≤_ by omega) (by decide)
   have hno:¬(i:Int)=A:=fun e=>e3 (e.trans hA)
   refine aB (by omega) (by omega) ⟨(i+1,(b',cp',_),(r,c,ty,us),μ5,h),⟨by dsimp only;omega,hle.trans hle5,hap5,hrow,?_⟩,by dsimp only;omega,⟨⟨rfl,rfl,rfl,rfl,rfl,rfl,rfl,rfl,rfl,rfl,rfl,rfl,trivial⟩,⟨rfl,rfl,?_,rfl,trivial⟩,rfl,rfl⟩⟩
   ·dsimp only
    rw[qLe hy,if_neg hno,List.append_nil,nE hy,if_neg hno,List.map_append (f:=Pf.d)]
    exact hgr.snoc hle hR5 hle5 (Pf.d_n _)
   ·rw [qFd hy, if_neg hno]
    rfl
  have hGy:=hG.sub y (mAt hy)
  have hy1:=hGy.cl0
  have hy2:=hGy.cl1
  have hy3:=hGy.len
  have hvl:(rU A x.kids i).length=0:=by
   rw[rU,if_neg (by omega)];rfl
  have w_:=Pf.inv hry
  obtain⟨qy,ey,hvy,hky⟩:=w_
  have eqy:py=qy:=by
   have e:=congrArg (fun v=>match v with|Value.agg a=>a.toList|_=>[]) ey
   simp only[Pf.cs,List.cons.injEq,Value.slice.injEq]at e
   obtain⟨-,-,⟨a1,-,a2⟩,⟨a3,-,a4⟩,-⟩:=e
   exact Prod.ext (Prod.ext a1 a2) (Prod.ext a3 a4)
  subst eqy
  have w_:=GndT.lifts hGy.gnd
  obtain⟨zs,hzs,hzl⟩:=w_
  have hcopy2:=qDk (μ:=μ') (cap:=py.1.2) (xs:=zs) (by rw[←hzs,hzl];exact hvy) (by omega)
  rw[hzl,←hzs]at hcopy2
  refine cDa hap hcopy2 fun v5 μ5 hle5 hap5 hR5=>?_
  obtain⟨r5,c5,us5,μ5',rfl,hl51,hl52,hg5,_,_,hat5⟩:=hR5
  have hl5:=hg5.len
  rw[List.length_map]at hl5
  refine aJ us5 hat5.src ?_
  refine qDu us ty rfl hrow ?_ ?_ fun r9' c9 o ty9 hrow9 hor=>?_
  ·show(us.length+us5.length)*56≤_;omega
  ·exact Nat.le_trans (m:=100000000) (show us.length+us5.length≤_ by omega) (by decide)
  have hap9:=hap5.set (o:=o) (kA hrow hap5 hor)
  generalize h.set r9' o=h9 at hrow9 hap9
  have hg9:=hgr.app hle (hg5.mono hl52) hle5
  refine bN [.int .i64 cl] rfl (bJ (C.mono (hle.trans hle5)).c) ?_
  refine aB (by omega) (by omega) ?_
  have hkyn:=Pf.cnts_len y.kids
  have hyce:=y.cnt_eq1
  refine lIn (fun z:Nat×(Option Nat×Nat×List Value)×Mem=>z.1≤y.kids.length∧μ5.Le z.2.2∧Apart z.2.2 h9∧Grown2 4 4 μ z.2.2 ((x.values++rU A x.kids i).map Tm.d++y.values.map Tm.d) ((jY F A x.kids i++(y.kids.take z.1).map F).map Pf.d) (us++us5) z.2.1.2.2)
   (fun(j,(b,cp,ys),μ')=>⟨[(1,.val (.pointer (some ⟨rn,0,none⟩))),(2,.val (.pointer (some ⟨rf,0,none⟩))),(3,.val (.pointer (some ⟨rc,0,none⟩))),(4,.val (.pointer (some ⟨rk,0,none⟩))),(5,.val (.pointer (some ⟨rm,0,none⟩))),(6,.val (.pointer (some ⟨ra,0,none⟩))),(7,.loc 0 r7 0),(8,.loc 1 r8 0),(9,.loc 2 r9 0),(84,.val (.slice q.2.1 x.kids.length q.2.2)),(85,.val (.int .i64 x.kids.length)),(86,.val (.int .i64 i)),(115,.val (.slice py.2.1 y.kids.length py.2.2)),(116,.val (.int .i64 y.kids.length)),(117,.val (.int .i64 j))],[(0,some (.cells r7 [.val (.string x.rel),.val (.int .i64 x.clause),.val (.slice q.1.1 x.values.length q.1.2),.val (.slice q.2.1 x.kids.length q.2.2)] 54)),(1,some (.cells r8 [.val (.string ⟨#[]⟩),.val (.int .i64 0),.val (.slice none 0 0),.val (.slice none 0 0)] 54)),(2,some (.cells r9 [.val (.string x.rel),.val (.int .i64 (cl+y.clause)),.val (.slice (some ⟨r9',0,none⟩) (us.length+us5.length) c9),.row 3 b ys.length cp] 54)),(3,some (.row b cp 54 4 ys))],5,μ',h9⟩) (fun z=>y.kids.length-z.1)
   (0,(b,cp,ys),μ5) ⟨Nat.zero_le _,Mem.Le.refl _,hap9,by simpa using hg9⟩ (fun(_,(_,_,_),_)=>⟨rfl,rfl⟩) ⟨⟨rfl,rfl,rfl,rfl,rfl,rfl,rfl,rfl,rfl,rfl,rfl,rfl,rfl,rfl,rfl,trivial⟩,⟨rfl,rfl,rfl,rfl,trivial⟩,rfl,rfl⟩ ?_
  rintro⟨j,⟨b2,cp2,ys2⟩,μ6⟩ ⟨hj,hle6,hap6,hgr2⟩
  dsimp only at hj hle6 hap6 hgr2
  have hyl2:ys2.length=(jY F A x.kids i).length+j:=by
   obtain⟨g1,g2,a1,a2,_⟩:=hgr2.out
   have k2:=a2.len
   simp only[List.length_map,List.length_append,List.length_take]at k2
   omega
  have hle56:=hle.trans (hle5.trans hle6)
  refine ifd (fun hlt2=>?_) (fun hlt2=>?_)
  ·have w_ := aSo (l := y.kids) (i := j) (by omega)
   obtain⟨z,hz⟩:=w_
   have hzm:=Pf.cnt_mem (mAt hz)
   have w_:=Pf.elem (hky.mono (hle5.trans hle6)) hz
   obtain⟨adz,pz,helz,hrz⟩:=w_
   refine eIn helz ?_
   intro r17
   refine bN [.func (.func qQo) #[] #[.pointer (some ⟨rn,0,none⟩),.pointer (some ⟨rf,0,none⟩),.pointer (some ⟨rc,0,none⟩),.pointer (some ⟨rk,0,none⟩),.pointer (some ⟨rm,0,none⟩),.pointer (some ⟨ra,0,none⟩)]] rfl (bJ (C.mono hle56).f) ?_
   refine cDa hap6 (ih z (by omega) (hGy.sub z (mAt hz)) (C.mono hle56) hrz) fun v5 μ5_ hle5_ hap5_ hR5_=>?_
   have w_:=Pf.invV hR5_.rep
   obtain⟨q5,rfl⟩:=w_
   intro r90
   refine gIn ?_ ?_ fun b' cp' _=>?_
   ·show(ys2.length+1)*72≤_;omega
   ·exact Nat.le_trans (m:=100000000) (show ys2.length+1≤_ by omega) (by decide)
   refine aB (by omega) (by omega) ⟨(j+1,(b',cp',_),μ5_),⟨by dsimp only;omega,hle6.trans hle5_,hap5_,?_⟩,by dsimp only;omega,⟨⟨rfl,rfl,rfl,rfl,rfl,rfl,rfl,rfl,rfl,rfl,rfl,rfl,rfl,rfl,rfl,trivial⟩,⟨rfl,rfl,rfl,rfl,trivial⟩,rfl,rfl⟩⟩
   dsimp only
   rw[show(jY F A x.kids i++(y.kids.take (j+1)).map F).map Pf.d=(jY F A x.kids i++(y.kids.take j).map F).map Pf.d++[(F z).d]from by rw[List.take_add_one,hz];simp]
   exact hgr2.snoc hle56 hR5_ hle5_ (Pf.d_n _)
  obtain rfl:j=y.kids.length:=by omega
  rw[List.take_length]at hgr2
  refine aB (by omega) (by omega) ⟨(i+1,(b2,cp2,ys2),(r9',c9,ty9,us++us5),μ6,h9),⟨by dsimp only;omega,hle56,hap6,hrow9,?_⟩,by dsimp only;omega,⟨⟨rfl,rfl,rfl,rfl,rfl,rfl,rfl,rfl,rfl,rfl,rfl,rfl,trivial⟩,⟨rfl,rfl,?_,rfl,trivial⟩,rfl,rfl⟩⟩
  ·dsimp only
   rw[qLe hy,if_pos (by omega),←List.append_assoc,List.map_append (l₁:=x.values++_),nE hy,if_pos (by omega)]
   exact hgr2
  ·rw [qFd hy, if_pos (by omega), List.length_append]
   rfl
end
end Go.Vx
namespace Go.Vx
open Go.Proofs Classical
def UnfZ(p:Pg)(nm:ByteArray)(cl ca:Int)(z:UnfD×List (List Gl)):Prop:=UnfAt p nm cl ca z.1∧jX p z.1 z.2
theorem UnfZ.uniq{p:Pg}{nm:ByteArray}{cl ca:Int}{z z':UnfD×List (List Gl)}(h:UnfZ p nm cl ca z)(h':UnfZ p nm cl ca z'):z=z':=by
 have e1:=h.1.uniq h'.1
 have e2:=h.2.1
 rw[e1,h'.2.1]at e2
 exact Prod.ext e1 (Option.some.inj e2).symm
noncomputable def qOq(p:Pg)(nm:ByteArray)(cl ca:Int)(x:Pf):Option Pf:=
 if h:∃z,UnfZ p nm cl ca z then
  (if p.Ok∧x.cnt≤200∧OkP p x then some (jL nm cl ca h.choose.2.length (h.choose.1.q.arity+h.choose.1.q.locals).toNat x.cnt x)else none)
 else none
theorem qDc{p:Pg}{nm:ByteArray}{cl ca:Int}{x:Pf}{z:UnfD×List (List Gl)}(h:UnfZ p nm cl ca z):qOq p nm cl ca x=if p.Ok∧x.cnt≤200∧OkP p x then some (jL nm cl ca z.2.length (z.1.q.arity+z.1.q.locals).toNat x.cnt x)else none:=by
 have hx:∃z,UnfZ p nm cl ca z:=⟨z,h⟩
 have e:=hx.choose_spec.uniq h
 rw[qOq,dif_pos hx,e]
theorem qAm(p:Pg)(nm:ByteArray)(cl ca:Int):(rR p nm cl ca=none∧∀x,qOq p nm cl ca x=none)∨∃z,UnfZ p nm cl ca z∧rR p nm cl ca=some (z.1.pg p z.2,z.2.length):=by
 by_cases h:∃z,UnfZ p nm cl ca z
 ·obtain ⟨z, hz⟩ := h
  exact .inr ⟨z,hz,sJ hz.1 hz.2⟩
 ·exact .inl ⟨by rw[rR,dif_neg (show ¬∃z:UnfD×List (List Gl),UnfAt p nm cl ca z.1∧jX p z.1 z.2 from h)],fun x=>by rw[qOq,dif_neg h]⟩
def zPf:Value:= .agg #[.string ⟨#[]⟩,.int .i64 0,.slice none 0 0,.slice none 0 0]
def optF(P:Pf→Value→Prop)(o:Option Pf)(v:Value):Prop:=match o with
 |none=>v= .tuple #[zPf,.bool false]
 |some y=>∃tv,v= .tuple #[tv,.bool true]∧P y tv
section
variable {μ:Mem}
set_option maxHeartbeats 4000000 in
set_option maxRecDepth 20000 in
set_option maxHeartbeats 4000000 in
set_option maxRecDepth 20000 in
theorem rT{p:Pg}{x:Pf}{nm:ByteArray}{cl ca:Int}{vp v:Value}(hp:RepV μ p.d vp)(hv:RepV μ x.d v)(hc0:InR ca):
  Spec Tryz.prog 39 [vp,.string nm,.int .i64 cl,.int .i64 ca,v] μ fun w μ'=>optF (fun y tv=>Fresh μ μ' y.d tv) (qOq p nm cl ca x) w:=by
 have hp0:=hp
 have w_:=Pg.inv hp
 obtain⟨q0,rfl,hrl⟩:=w_
 have hv0:=hv
 have w_:=Pf.invV hv
 obtain⟨q,rfl⟩:=w_
 refine Spec.mk Tryz.func39 (by kernel_rfl) ?_
 intro r5 r6 r7 r8 r9 r10
 refine cPl (lN (clause:=cl) hp0 hc0) fun v1 μ1 hle1 hR=>?_
 rcases qAm p nm cl ca with⟨e1,e2⟩|⟨z,hz,e1⟩
 ·rw [e1] at hR
  have hR:v1= .tuple #[.agg #[.slice none 0 0],.int .i64 0,.bool false]:=hR
  subst hR
  intro r12 r13
  refine iIn (fun _=>rPl ?_) (fun h=>nomatch h)
  rw[e2];rfl
 rw[e1]at hR
 obtain⟨tv,rfl,hR⟩:=hR
 have w_:=Pg.inv hR.rep
 obtain⟨qa,rfl,hrla⟩:=w_
 intro r12 r13
 refine iIn (fun h=>nomatch h) (fun _=>?_)
 refine cPl (wV (hp0.mono hle1) (hv0.mono hle1)) fun v2 μ2 hle2 hR2=>?_
 obtain rfl:=hR2
 refine aL (fun h=>rPl ?_) (fun hok=>?_)
 ·rw[qDc hz,if_neg h];rfl
 have hok:p.Ok∧x.cnt≤200∧OkP p x:=hok
 rw[qDc hz,if_pos hok]
 have hle:=hle1.trans hle2
 obtain⟨z1,ds⟩:=z
 obtain⟨hz1,hz2⟩:=hz
 dsimp only at hz1 hz2 ⊢ hrla
 refine cGv (dA (s:=nm) (hp0.mono hle)) ?_
 have hrk:relAt p nm=(z1.k:Int):=by
  have h1:=hz1.find
  rwa [eF,if_pos hok.1]at h1
 rw[hrk]
 have hr:=hz1.rel
 have hkl:=(List.getElem?_eq_some_iff.1 hr).1
 obtain⟨j,hj,hq⟩:=hz1.called
 have hro:=hok.1.2 _ _ hq
 have har0:=hro.ar0
 have har4:=hro.ar4
 have hlo0:=hro.lo0
 have hlo8:=hro.lo8
 have hro1:=hok.1.2 _ _ hr
 have hlr0:=hro1.lo0
 have hlr8:=hro1.lo8
 have hra:(z1.pg p ds).rels[z1.k]? =some ⟨z1.r.name,z1.r.arity,z1.r.locals+z1.q.arity+z1.q.locals,cgG (z1.ls ds)⟩:=by
  show(p.rels.set z1.k _)[z1.k]? =_
  rw[List.getElem?_set_self hkl]
 have w_:=Rl.elemA (hrla.mono hle2) hra
 obtain⟨ada,qra,hela,_,_⟩:=w_
 have w_:=Rl.elemA (hrl.mono hle) hr
 obtain⟨adr,qr,helr,_,_⟩:=w_
 refine eIn hela (eIn helr ?_)
 have hds:=(Gl.cl_bnd _ hz2.1).2
 have hgx:=hok.2.2.g hok.1
 have hcb:0≤cl∧cl≤1000:=by
  have h1:=(Gl.cl_bnd _ hz1.cl).2
  have h2:=(List.getElem?_eq_some_iff.1 hz1.cls).1
  have h3:=hz1.cc
  omega
 have hca:=hz1.call0
 refine nEq (x:=((z1.q.arity+z1.q.locals).toNat:Int)) ?_ ?_
 ·show IntKind.i64.wrap (z1.r.locals + z1.q.arity + z1.q.locals - z1.r.locals) = _
  rw[aA (by omega) (by omega)];omega
 intro r16 r17
 refine aS [1,2,3,7,8,9] ?_
 intro m1 l1 n1 a1 m2 l2 n2 a2 m3 l3 n3 a3 m4 l4 n4 a4 m5 l5 n5 a5 m6 l6 n6 a6
 have l56:=l5.trans l6
 have l46:=l4.trans l56
 have l36:=l3.trans l46
 have l26:=l2.trans l36
 have hC:TurnC m6 nm cl ca ds.length (z1.q.arity+z1.q.locals).toNat r6 r17 r7 r13 r16 r8:=⟨l26 _ _ a1,a6,l36 _ _ a2,l56 _ _ a4,l6 _ _ a5,l46 _ _ a3⟩
 have hlem:μ.Le m6:=hle.trans (l1.trans l26)
 refine bM (qNg hcb (by omega) (by omega) hca x.cnt x (Nat.le_refl _) (by omega) hgx hC (hv0.mono hlem)) fun v5 μ5 hle5 hR5=>?_
 have w_:=Pf.invV hR5.rep
 obtain⟨q5,rfl⟩:=w_
 exact rPl ⟨_,rfl,hR5.mono hlem (Mem.Le.refl _)⟩
end
end Go.Vx
namespace Go.Vx
open Go.Proofs Classical
open Go.ChangeShapes Go.WideShapes Go.ChangeAt Go.RowKit
theorem xK(x:Int):∃k:Nat,bits .and .i64 x 255=(k:Int)∧k<256:=by
 have e:(BitVec.ofInt 64 x &&& BitVec.ofInt 64 255).toNat≤255:=by
  rw[BitVec.toNat_and]
  have:(BitVec.ofInt 64 255).toNat=255:=by decide
  rw[this]
  exact Nat.and_le_right
 refine⟨(BitVec.ofInt 64 x &&& BitVec.ofInt 64 255).toNat,?_,by omega⟩
 show IntKind.i64.wrap ((BitVec.ofInt 64 x &&& BitVec.ofInt 64 255).toNat:Nat)=_
 exact aA (by omega) (by omega)
section
variable {μ:Mem}
theorem kJ{h:Mem}{r:Nat}(hc:Cur μ h r h):
  SpecH Tryz.prog 75 [.pointer (some ⟨r,0,none⟩)] μ h fun v μ' h'=>μ'=μ∧Cur μ h r h'∧∃k:Nat,v= .int .i64 k∧k<256:=by
 obtain⟨o,⟨base,n,cap,i,hh,rfl,hb,hi⟩,e⟩:=hc.ex
 have hr:h r=some (sV base n cap i hh):=by rw[e,Mem.set_at]
 clear e hc
 refine SpecH.mk [] Tryz.func75 (by kernel_rfl) ?_
 refine oIn [.int .i64 hh] rfl (eZ hr rfl) ?_
 refine aO fun x1 _=>?_
 refine aO fun x2 _=>?_
 refine sIn [.slice base n cap,.int .i64 i,.int .i64 hh] 168 hr rfl (by show 2+1≤3;decide) ?_
 have h1:(h.set r (sV base n cap i x2)) r=some (sV base n cap i x2):=Mem.set_at _ _ _
 refine oIn [.int .i64 x2] rfl (eZ h1 rfl) ?_
 refine aC (by decide) ?_
 refine aO fun x3 _=>?_
 refine oIn [.int .i64 x2] rfl (eZ h1 rfl) ?_
 refine aC (by decide) ?_
 refine aO fun x4 _=>?_
 refine aO fun x5 _=>?_
 have w_:=xK x5
 obtain⟨k,ek,hk⟩:=w_
 refine nEq ek ?_
 refine oIn [.int .i64 (i:Int)] rfl (eZ h1 rfl) ?_
 refine oIn [.slice base n cap] rfl (eZ h1 rfl) ?_
 refine ifd (fun hlt=>?_) (fun hlt=>?_)
 ·have w_ := hb.get i (by omega)
  obtain⟨a,b,hel⟩:=w_
  refine oIn [.slice base n cap] rfl (eZ h1 rfl) ?_
  refine oIn [.int .i64 (i:Int)] rfl (eZ h1 rfl) ?_
  refine eIn hel ?_
  refine aO fun x6 _=>?_
  refine aO fun x7 _=>?_
  have w_:=xK x7
  obtain⟨k2,ek2,hk2⟩:=w_
  refine nEq ek2 ?_
  refine oIn [.int .i64 (i:Int)] rfl (eZ h1 rfl) ?_
  have:=aH hb.max
  refine aB (by omega) (by omega) ?_
  refine sIn [.slice base n cap,.int .i64 i,.int .i64 x2] 168 h1 rfl (by show 1+1≤3;decide) ?_
  refine rPl ⟨rfl,⟨sV base n cap ((i+1:Nat):Int) x2,⟨base,n,cap,i+1,x2,rfl,hb,by omega⟩,?_⟩,k2,rfl,hk2⟩
  show(h.set r (sV base n cap i x2)).set r _=_
  rw[Mem.set_set]
  rfl
 ·exact rPl ⟨rfl,⟨sV base n cap i x2,⟨base,n,cap,i,x2,rfl,hb,hi⟩,rfl⟩,k,rfl,hk⟩
theorem tB{h:Mem}{base:Option Addr}{n cap:Nat}(hb:Bytes μ base n):
  SpecH Tryz.prog 121 [.slice base n cap] μ h fun v μ' h'=>μ'=μ∧∃r,v= .pointer (some ⟨r,0,none⟩)∧h r=none∧Cur μ h r h':=by
 have hmax:=aH hb.max
 refine SpecH.mk [31] Tryz.func121 (by kernel_rfl) ?_
 refine aO fun x0 _=>?_
 refine lIn (fun p:Nat×Int=>p.1≤n∧p.1≤4000) (fun(i,x)=>⟨[(0,.val (.slice base n cap)),(3,.val (.int .i64 x)),(4,.val (.int .i64 i))],[],0,μ,h⟩) (fun p=>n-p.1)
  (0,x0) ⟨Nat.zero_le _,Nat.zero_le _⟩ (fun(_,_)=>⟨rfl,rfl⟩) ⟨⟨rfl,rfl,rfl,trivial⟩,trivial,rfl,rfl⟩ ?_
 rintro⟨i,x⟩ ⟨hi,hi2⟩
 dsimp only at hi hi2
 refine ifd (fun hlt=>?_) (fun hlt=>?_)
 ·refine ifd (fun hlt2 => ?_) (fun hlt2 => ?_)
  ·have w_ := hb.get i (by omega)
   obtain⟨a,b,hel⟩:=w_
   refine aO fun x1 _=>?_
   refine eIn hel ?_
   refine aO fun x2 _=>?_
   refine aO fun x3 _=>?_
   refine aO fun x4 _=>?_
   refine aO fun x5 _=>?_
   refine aB (by omega) (by omega) ⟨(i+1,x5),⟨by dsimp only;omega,by dsimp only;omega⟩,by dsimp only;omega,⟨⟨rfl,rfl,rfl,trivial⟩,trivial,rfl,rfl⟩⟩
  ·intro r hm ho
   exact rPl ⟨rfl,r,rfl,ho,⟨_,⟨base,n,cap,0,x,rfl,hb,Nat.zero_le _⟩,rfl⟩⟩
 ·intro r hm ho
  exact rPl ⟨rfl,r,rfl,ho,⟨_,⟨base,n,cap,0,x,rfl,hb,Nat.zero_le _⟩,rfl⟩⟩
theorem aI{h:Mem}{r:Nat}(hc:Cur μ h r h)(n:Int):
  SpecH Tryz.prog 87 [.pointer (some ⟨r,0,none⟩),.int .i64 n] μ h fun v μ' h'=>μ'=μ∧Cur μ h r h'∧∃k:Nat,v= .int .i64 k∧k<256∧(0<n→(k:Int)<n)∧(n≤0→k=0):=by
 refine SpecH.mk [] Tryz.func87 (by kernel_rfl) ?_
 refine ifd (fun hn=>?_) (fun hn=>?_)
 ·exact rPl ⟨rfl,hc,0,rfl,by decide,fun h=>absurd hn (by omega),fun _=>rfl⟩
 ·refine cOw (kJ hc) fun v μ1 h1 hle1 hap1 hR => ?_
  obtain⟨e,hc1,k,rfl,hk⟩:=hR
  obtain rfl:=e.symm
  refine aC (by omega) ?_
  have e1:(k:Int).tmod n=((k % n.toNat:Nat):Int):=by
   have hn2:n=((n.toNat:Nat):Int):=by omega
   conv=>lhs;rw[hn2]
   rw[Int.ofNat_tmod]
  have hlt:=Nat.mod_lt k (show 0<n.toNat by omega)
  have hle:=Nat.mod_le k n.toNat
  refine nEq e1 ?_
  exact rPl ⟨rfl,hc1,_,rfl,by omega,fun _=>by omega,fun h=>absurd h (by omega)⟩
theorem dF{h:Mem}{r:Nat}(hc:Cur μ h r h)(n:Int):
  SpecH Tryz.prog 52 [.pointer (some ⟨r,0,none⟩),.int .i64 n] μ h fun v μ' h'=>μ'=μ∧Cur μ h r h'∧∃b:Bool,v= .bool b:=by
 refine SpecH.mk [] Tryz.func52 (by kernel_rfl) ?_
 refine cOw (aI hc n) fun v μ1 h1 hle1 hap1 hR=>?_
 obtain⟨e,hc1,k,rfl,hk⟩:=hR
 obtain rfl:=e.symm
 exact rPl ⟨rfl,hc1,_,rfl⟩
theorem gU{h:Mem}{base:Option Addr}{n cap:Nat}(hb:Bytes μ base n)(m:Int)(hm:m≤1000000):
  SpecH Tryz.prog 48 [.slice base n cap,.int .i64 m] μ h fun v μ' h'=>μ'=μ∧∃r,v= .pointer (some ⟨r,0,none⟩)∧h r=none∧Cur μ h r h':=by
 refine SpecH.mk [] Tryz.func48 (by kernel_rfl) ?_
 refine cOw (tB hb) fun v μ1 h1 hle1 hap1 hR=>?_
 obtain⟨e,r,rfl,ho,hc1⟩:=hR
 obtain rfl:=e.symm
 refine lIn (fun p:Int×Mem=>0≤p.1∧Cur μ h r p.2) (fun(i,h')=>⟨[(1,.val (.int .i64 m)),(5,.val (.pointer (some ⟨r,0,none⟩))),(6,.val (.int .i64 i))],[],0,μ,h'⟩) (fun p=>(m-p.1).toNat)
  (0,h1) ⟨Int.le_refl 0,hc1⟩ (fun(_,_)=>⟨rfl,rfl⟩) ⟨⟨rfl,rfl,rfl,trivial⟩,trivial,rfl,rfl⟩ ?_
 clear hc1 hap1
 rintro⟨i,h2⟩ ⟨hi,hc2⟩
 dsimp only at hi hc2
 refine ifd (fun hlt=>?_) (fun hlt=>?_)
 ·refine cOw (kJ hc2.at) fun v μ2 h3 hle2 hap2 hR => ?_
  obtain⟨e,hc3,k,rfl,hk⟩:=hR
  obtain rfl:=e.symm
  refine aB (by omega) (by omega) ⟨(i+1,h3),⟨by dsimp only;omega,hc2.trans hc3⟩,by dsimp only;omega,⟨⟨rfl,rfl,rfl,trivial⟩,trivial,rfl,rfl⟩⟩
 ·exact rPl ⟨rfl,r,rfl,ho,hc2⟩
theorem oO{base:Option Addr}{n cap:Nat}(hb:Bytes μ base n)(m lo hi:Int)(hm:m≤1000000)(h0:0≤lo)(h1:lo≤hi)(h2:hi≤1000):
  Spec Tryz.prog 35 [.slice base n cap,.int .i64 m,.int .i64 lo,.int .i64 hi] μ fun v μ'=>μ'=μ∧∃k:Int,v= .int .i64 k∧lo≤k∧k≤hi:=by
 refine Spec.mk Tryz.func35 (by kernel_rfl) ?_
 refine cOw (gU hb m hm) fun v μ1 h1 hle1 hap1 hR=>?_
 obtain⟨e,r,rfl,ho,hc1⟩:=hR
 obtain rfl:=e.symm
 refine aB (by omega) (by omega) (aB (by omega) (by omega) ?_)
 refine cOw (aI hc1.at _) fun v μ1 h2 hle2 hap2 hR=>?_
 obtain⟨e,hc2,k,rfl,hk,hk2,_⟩:=hR
 obtain rfl:=e.symm
 have:=hk2 (by omega)
 refine aB (by omega) (by omega) ?_
 exact rPl ⟨rfl,_,rfl,by omega,by omega⟩
end
end Go.Vx
namespace Go.Vx
open Go.Proofs Classical
theorem Drawn.atom{t:T}(hg:t.good)(hl:t.lvs=1)(ho:∀n,¬t.occ n)(vars:Int):Drawn 1 vars t:=⟨hg,fun n hn=>absurd hn (ho n),by omega⟩
theorem Drawn.wide{k:Nat}{v w:Int}{t:T}(h:Drawn k v t)(hw:v≤w):Drawn k w t:=⟨h.good,fun n hn=>by have:=h.low n hn;omega,h.lvs⟩
section
variable {μ:Mem}
theorem tD(n:Int):Spec Tryz.prog 232 [.int .i64 n] μ fun v μ'=>RepV μ' (T.num n).tm.d v:=by
 refine Spec.mk Tryz.func232 (by kernel_rfl) ?_
 intro r1
 refine rPl ?_
 rw[T.tm,Tm.d_mk]
 exact⟨_,rfl,RepS.int (RepS.int (RepS.str (RepS.last (Rep.nilSl 4))))⟩
theorem dT(s:ByteArray):Spec Tryz.prog 231 [.string s] μ fun v μ'=>RepV μ' (T.sym s).tm.d v:=by
 refine Spec.mk Tryz.func231 (by kernel_rfl) ?_
 intro r1
 refine rPl ?_
 rw[T.tm,Tm.d_mk]
 exact⟨_,rfl,RepS.int (RepS.int (RepS.str (RepS.last (Rep.nilSl 4))))⟩
def wO(h:Mem)(r k:Nat)(vars:Int)(v:Value)(μ' h':Mem):Prop:=Cur μ' h r h'∧∃t:T,RepV μ' t.tm.d v∧Drawn k vars t
theorem eI{h:Mem}{r:Nat}(hc:Cur μ h r h):SpecH Tryz.prog 191 [.pointer (some ⟨r,0,none⟩)] μ h fun v μ' h'=>wO h r 1 0 v μ' h':=by
 refine SpecH.mk [] Tryz.func191 (by kernel_rfl) ?_
 intro r1
 refine cOw (aI hc 7) fun v μ1 h1 hle1 hap1 hR=>?_
 obtain⟨e,hc1,k,rfl,hk,hk7,_⟩:=hR
 obtain rfl:=e.symm
 have hk7:=hk7 (by decide)
 refine ifd (fun h2=>?_) (fun h2=>?_)
 ·refine cPl (tD k) fun v μ2 hle2 hR => ?_
  have w_:=Tm.invV hR
  obtain⟨p,rfl⟩:=w_
  exact rPl ⟨hc1.mono hle2,.num k,hR,Drawn.atom (t:= .num k) (by show -1000000000≤(k:Int)∧(k:Int)≤1000000000;omega) rfl (fun _ h=>h) 0⟩
 ·refine ifd (fun h5 => ?_) (fun h5 => ?_)
  ·intro r2
   refine aB (by omega) (by omega) ?_
   have w_:k=2∨k=3∨k=4:=by omega
   rcases w_ with rfl|rfl|rfl
   ·refine aX 0 rfl (by decide) ?_
    refine aW (.string ⟨#[97]⟩) rfl ?_
    refine cPl (dT ⟨#[97]⟩) fun v μ2 hle2 hR=>?_
    have w_:=Tm.invV hR
    obtain⟨p,rfl⟩:=w_
    exact rPl ⟨hc1.mono hle2,.sym ⟨#[97]⟩,hR,Drawn.atom (t:= .sym ⟨#[97]⟩) (kZ (by decide)) rfl (fun _ h=>h) 0⟩
   ·refine aX 1 rfl (by decide) ?_
    refine aW (.string ⟨#[98]⟩) rfl ?_
    refine cPl (dT ⟨#[98]⟩) fun v μ2 hle2 hR=>?_
    have w_:=Tm.invV hR
    obtain⟨p,rfl⟩:=w_
    exact rPl ⟨hc1.mono hle2,.sym ⟨#[98]⟩,hR,Drawn.atom (t:= .sym ⟨#[98]⟩) (kZ (by decide)) rfl (fun _ h=>h) 0⟩
   ·refine aX 2 rfl (by decide) ?_
    refine aW (.string ⟨#[99]⟩) rfl ?_
    refine cPl (dT ⟨#[99]⟩) fun v μ2 hle2 hR=>?_
    have w_:=Tm.invV hR
    obtain⟨p,rfl⟩:=w_
    exact rPl ⟨hc1.mono hle2,.sym ⟨#[99]⟩,hR,Drawn.atom (t:= .sym ⟨#[99]⟩) (kZ (by decide)) rfl (fun _ h=>h) 0⟩
  ·refine rPl ⟨hc1, .nil, ?_, Drawn.atom (t := .nil) trivial rfl (fun _ h => h) 0⟩
   rw[T.tm,Tm.d_mk]
   exact⟨_,rfl,RepS.int (RepS.int (RepS.str (RepS.last (Rep.nilSl 4))))⟩
theorem cN(vars:Nat)(hv:vars≤1000):∀(size:Nat) {μ h:Mem} {r:Nat},size≤1000→Cur μ h r h→SpecH Tryz.prog 128 [.pointer (some ⟨r,0,none⟩),.int .i64 size,.int .i64 vars] μ h fun v μ' h'=>wO h r (lvB size) vars v μ' h':=fun size=>by
 induction size using Nat.strongRecOn with
 |ind size ih=>
  intro μ h r hs hc
  refine SpecH.mk [] Tryz.func128 (by kernel_rfl) ?_
  intro r1
  refine cOw (aI hc 8) fun v μ1 h1 hle1 hap1 hR=>?_
  obtain⟨e,hc1,k,rfl,hk,hk8,_⟩:=hR
  obtain rfl:=e.symm
  have hk8:=hk8 (by decide)
  refine ifd (fun h2=>?_) (fun h2=>?_)
  ·refine ifd (fun h3 => ?_) (fun h3 => ?_)
   ·have hq:IntKind.i64.wrap ((size:Int).tdiv 2)=((size / 2:Nat):Int):=by
     rw[Int.tdiv_eq_ediv_of_nonneg (by omega),aA (by omega) (by omega)];omega
    refine aC (by decide) (nEq hq ?_)
    refine cOw (ih (size / 2) (by omega) (by omega) hc1.at) fun v μ2 h4 hle2 hap2 hR=>?_
    obtain⟨hc2,a,ha,hda⟩:=hR
    have w_:=Tm.invV ha
    obtain⟨p,rfl⟩:=w_
    intro r2
    refine aC (by decide) (nEq hq ?_)
    refine cOw (ih (size / 2) (by omega) (by omega) hc2.at) fun v μ3 h5 hle3 hap3 hR=>?_
    obtain⟨hc3,b,hb,hdb⟩:=hR
    refine cPl (fO (ha.mono hle3) hb) fun v μ4 hle4 hR=>?_
    have w_:=Tm.invV hR
    obtain⟨p,rfl⟩:=w_
    refine rPl ⟨(hc1.trans (hc2.trans hc3)).mono hle4,.pair a b,hR,?_⟩
    have h2:2<size:=by omega
    rw[lvB,if_pos h2,Nat.two_mul]
    exact hda.pair hdb
   ·refine ifd (fun h6 => ?_) (fun h6 => ?_)
    ·refine aC (by decide) ?_
     refine aO fun x _=>?_
     refine ifd (fun h7=>?_) (fun h7=>?_)
     ·refine cOw (aI hc1.at vars) fun v μ2 h4 hle2 hap2 hR => ?_
      obtain⟨e,hc2,j,rfl,hj,hj2,_⟩:=hR
      obtain rfl:=e.symm
      have hj2:=hj2 (by omega)
      refine cGv (gS _) ?_
      refine rPl ⟨hc1.trans hc2,.var j,gP _,⟨by show 0≤(j:Int)∧(j:Int)≤100000;omega,fun n hn=>?_,iO _⟩⟩
      have hn:(j:Int)=n:=hn
      omega
     ·refine cOw (eI hc1.at) fun v μ2 h4 hle2 hap2 hR => ?_
      obtain⟨hc2,a,ha,hda⟩:=hR
      have w_:=Tm.invV ha
      obtain⟨p,rfl⟩:=w_
      exact rPl ⟨hc1.trans hc2,a,ha,(hda.wide (by omega)).mono (iO _)⟩
    ·refine cOw (eI hc1.at) fun v μ2 h4 hle2 hap2 hR => ?_
     obtain⟨hc2,a,ha,hda⟩:=hR
     have w_:=Tm.invV ha
     obtain⟨p,rfl⟩:=w_
     exact rPl ⟨hc1.trans hc2,a,ha,(hda.wide (by omega)).mono (iO _)⟩
  ·refine ifd (fun h6 => ?_) (fun h6 => ?_)
   ·refine aC (by decide) ?_
    refine aO fun x _=>?_
    refine ifd (fun h7=>?_) (fun h7=>?_)
    ·refine cOw (aI hc1.at vars) fun v μ2 h4 hle2 hap2 hR => ?_
     obtain⟨e,hc2,j,rfl,hj,hj2,_⟩:=hR
     obtain rfl:=e.symm
     have hj2:=hj2 (by omega)
     refine cGv (gS _) ?_
     refine rPl ⟨hc1.trans hc2,.var j,gP _,⟨by show 0≤(j:Int)∧(j:Int)≤100000;omega,fun n hn=>?_,iO _⟩⟩
     have hn:(j:Int)=n:=hn
     omega
    ·refine cOw (eI hc1.at) fun v μ2 h4 hle2 hap2 hR => ?_
     obtain⟨hc2,a,ha,hda⟩:=hR
     have w_:=Tm.invV ha
     obtain⟨p,rfl⟩:=w_
     exact rPl ⟨hc1.trans hc2,a,ha,(hda.wide (by omega)).mono (iO _)⟩
   ·refine cOw (eI hc1.at) fun v μ2 h4 hle2 hap2 hR => ?_
    obtain⟨hc2,a,ha,hda⟩:=hR
    have w_:=Tm.invV ha
    obtain⟨p,rfl⟩:=w_
    exact rPl ⟨hc1.trans hc2,a,ha,(hda.wide (by omega)).mono (iO _)⟩
end
end Go.Vx
namespace Go.Vx
open Go.Proofs Classical
theorem T.ext_args{x y:T}(h1:x.tm.kind=y.tm.kind)(h2:x.tm.num=y.tm.num)(h3:x.tm.name=y.tm.name)(h4:x.args=y.args):x=y:=by
 cases x<;>cases y<;>simp_all [T.tm,Tm.kind,Tm.num,Tm.name,T.args]
theorem nK{α:Type}{l m:List α}(hl:l.length=m.length)(h:∀(j:Nat) x y,l[j]? =some x→m[j]? =some y→x=y):l=m:=
 List.ext_getElem? fun j=>by
  rcases Nat.lt_or_ge j l.length with k|k
  ·have w_ := aSo (l := l) (i := j) k
   obtain⟨x,hx⟩:=w_
   have w_:=aSo (l:=m) (i:=j) (by omega)
   obtain⟨y,hy⟩:=w_
   rw[hx,hy,h j x y hx hy]
  ·rw[List.getElem?_eq_none k,List.getElem?_eq_none (by omega)]
section
variable {μ:Mem}
theorem zA:∀(x y:T) {v w:Value},RepV μ x.tm.d v→RepV μ y.tm.d w→aM Tryz.prog 175 [v,w] μ (.bool (decide (x=y))):=
 T.ind fun x ih y v w hv hw=>by
  have w_:=T.inv hv
  obtain⟨base,cap,rfl,hsl⟩:=w_
  have w_:=T.inv hw
  obtain⟨base2,cap2,rfl,hsl2⟩:=w_
  have hn:=aH hsl.max
  refine Spec.mk Tryz.func175 (by kernel_rfl) ?_
  intro r1 r2
  refine aL (fun h1=>rGv (isF fun e=>h1 (by rw[e])) rfl) (fun h1=>?_)
  refine aL (fun h2=>rGv (isF fun e=>h2 (by rw[e])) rfl) (fun h2=>?_)
  refine aL (fun h3=>rGv (isF fun e=>h3 (by rw[e])) rfl) (fun h3=>?_)
  refine aL (fun h4=>rGv (isF fun e=>h4 (by rw[e])) rfl) (fun h4=>?_)
  have h4:x.args.length=y.args.length:=by omega
  refine lIn (fun i:Nat=>i≤x.args.length∧∀j a b,j<i→x.args[j]? =some a→y.args[j]? =some b→a=b)
   (fun i=>⟨[(3,.loc 1 r2 0),(36,.val (.slice base x.args.length cap)),(37,.val (.int .i64 x.args.length)),(38,.val (.int .i64 i))],[(1,some (.cells r2 [.val (.int .i64 y.tm.kind),.val (.int .i64 y.tm.num),.val (.string y.tm.name),.val (.slice base2 y.args.length cap2)] 75))],2,μ,Mem.nil⟩) (fun i=>x.args.length-i)
   0 ⟨Nat.zero_le _,fun j a b hj=>absurd hj (Nat.not_lt_zero _)⟩ (fun _=>⟨rfl,rfl⟩) ⟨⟨rfl,rfl,rfl,rfl,trivial⟩,⟨rfl,trivial⟩,rfl,rfl⟩ ?_
  rintro i ⟨hi,heq⟩
  refine ifd (fun h=>?_) (fun h=>?_)
  ·have w_ := aSo (l := x.args) (i := i) (by omega)
   obtain⟨a,ha⟩:=w_
   have w_:=aSo (l:=y.args) (i:=i) (by omega)
   obtain⟨b,hb⟩:=w_
   have w_:=T.arg hsl ha
   obtain⟨ad,p,hel,hto⟩:=w_
   have w_:=T.arg hsl2 hb
   obtain⟨ad2,p2,hel2,hto2⟩:=w_
   refine eIn hel ?_
   intro r3
   refine eIn hel2 ?_
   refine cGv (ih a (mAt ha) b hto hto2) ?_
   refine aL (fun h5=>rGv (isF fun e=>h5 ?_) rfl) (fun h5=>?_)
   ·subst e
    rw[ha]at hb
    exact Option.some.inj hb
   ·refine aB (by omega) (by omega) ⟨i + 1, ⟨by omega, fun j c d hj hc hd => ?_⟩, by omega, ⟨⟨rfl, rfl, rfl, rfl, trivial⟩, ⟨rfl, trivial⟩, rfl, rfl⟩⟩
    rcases Nat.lt_or_ge j i with h6|h6
    ·exact heq j c d h6 hc hd
    ·obtain rfl : j = i := by omega
     rw[ha]at hc
     rw[hb]at hd
     cases hc;cases hd
     exact h5
  ·obtain rfl : i = x.args.length := by omega
   refine rGv (isT (T.ext_args h1 h2 h3 (nK h4 fun j a b ha hb=>?_))) rfl
   exact heq j a b (List.getElem?_eq_some_iff.1 ha).1 ha hb
theorem yS{x y:List T}{base base2:Option Addr}{cap cap2:Nat}(hsl:Sl μ 4 base x.length ((x.map T.tm).map Tm.d))(hsl2:Sl μ 4 base2 y.length ((y.map T.tm).map Tm.d)):
  aM Tryz.prog 104 [.slice base x.length cap,.slice base2 y.length cap2] μ (.bool (decide (x=y))):=by
 have hn:=aH hsl.max
 refine Spec.mk Tryz.func104 (by kernel_rfl) ?_
 refine aL (fun h4=>rGv (isF fun e=>h4 (by rw[e])) rfl) (fun h4=>?_)
 have h4:x.length=y.length:=by omega
 refine lIn (fun i:Nat=>i≤x.length∧∀j a b,j<i→x[j]? =some a→y[j]? =some b→a=b)
  (fun i=>⟨[(1,.val (.slice base2 y.length cap2)),(12,.val (.slice base x.length cap)),(13,.val (.int .i64 x.length)),(14,.val (.int .i64 i))],[],0,μ,Mem.nil⟩) (fun i=>x.length-i)
  0 ⟨Nat.zero_le _,fun j a b hj=>absurd hj (Nat.not_lt_zero _)⟩ (fun _=>⟨rfl,rfl⟩) ⟨⟨rfl,rfl,rfl,rfl,trivial⟩,trivial,rfl,rfl⟩ ?_
 rintro i ⟨hi,heq⟩
 refine ifd (fun h=>?_) (fun h=>?_)
 rotate_left
 ·obtain rfl : i = x.length := by omega
  refine rGv (isT (nK h4 fun j a b ha hb=>?_)) rfl
  exact heq j a b (List.getElem?_eq_some_iff.1 ha).1 ha hb
 have w_:=aSo (l:=x) (i:=i) (by omega)
 obtain⟨a,ha⟩:=w_
 have w_:=aSo (l:=y) (i:=i) (by omega)
 obtain⟨b,hb⟩:=w_
 have w_:=Tm.elem (i:=i) (t:=a.tm) hsl (by simp[ha])
 obtain⟨ad,p,hel,hto⟩:=w_
 have w_:=Tm.elem (i:=i) (t:=b.tm) hsl2 (by simp[hb])
 obtain⟨ad2,p2,hel2,hto2⟩:=w_
 refine eIn hel ?_
 intro r3
 refine eIn hel2 ?_
 refine cGv (zA a b hto hto2) ?_
 refine aL (fun h5=>rGv (isF fun e=>h5 ?_) rfl) (fun h5=>?_)
 ·subst e
  rw[ha]at hb
  exact Option.some.inj hb
 ·refine aB (by omega) (by omega) ⟨i + 1, ⟨by omega, fun j c d hj hc hd => ?_⟩, by omega, ⟨⟨rfl, rfl, rfl, rfl, trivial⟩, trivial, rfl, rfl⟩⟩
  rcases Nat.lt_or_ge j i with h6|h6
  ·exact heq j c d h6 hc hd
  ·obtain rfl : j = i := by omega
   rw[ha]at hc
   rw[hb]at hd
   cases hc;cases hd
   exact h5
end
end Go.Vx
namespace Go.Vx
open Go.Proofs Classical
theorem cZ(l:Bs)(i j:Nat):(mkS l).extract i j=mkS ((l.drop i).take (j-i)):=by
 have e:((mkS l).extract i j).data=((l.drop i).take (j-i)).toArray:=by
  rw[ByteArray.data_extract]
  simp[mkS,List.extract_eq_take_drop]
 cases h:(mkS l).extract i j
 rw[h]at e
 simp only at e
 rw[e]
 rfl
theorem dK(l:Bs):(mkS l).size=l.length:=by simp[mkS,ByteArray.size]
theorem aZ(a b:Bs):mkS a++mkS b=mkS (a++b):=yH a b
theorem tA(b:UInt8):cX b=decide (b.toNat=32∨b.toNat=10∨b.toNat=40∨b.toNat=41∨b.toNat=59):=by
 rw[Bool.eq_iff_iff]
 simp[cX,←UInt8.toNat_inj,or_assoc]
theorem tw{α:Type}{p:α→Bool}:∀(m:List α) (n:Nat),n≤m.length→(∀(k:Nat) b,k<n→m[k]? =some b→p b=true)→(∀b,m[n]? =some b→p b=false)→m.takeWhile p=m.take n∧m.dropWhile p=m.drop n
 |[],n,_,_,_=>by simp
 |b::r,0,_,_,h=>by
  have:=h b rfl
  simp[this]
 |b::r,n+1,hn,h,h'=>by
  have hb:=h 0 b (by omega) rfl
  have w_:=tw r n (by simpa using hn) (fun k c hk hc=>h (k+1) c (by omega) (by simpa using hc)) (fun c hc=>h' c (by simpa using hc))
  obtain⟨h1,h2⟩:=w_
  simp[hb,h1,h2]
theorem eM:∀(n m:Nat) (l:Bs),l.length≤n→l.length≤m→cQ n l=cQ m l
 |0,m,l,h,_=>by
  have:l=[]:=List.length_eq_zero_iff.1 (by omega)
  subst this
  cases m<;>rfl
 |n+1,0,l,_,h=>by
  have:l=[]:=List.length_eq_zero_iff.1 (by omega)
  subst this
  rfl
 |n+1,m+1,[],_,_=>rfl
 |n+1,m+1,b::r,h,h'=>by
  have h1:r.length≤n:=by simpa using h
  have h2:r.length≤m:=by simpa using h'
  have hd:∀p:UInt8→Bool,(r.dropWhile p).length≤r.length:=fun p=>(List.dropWhile_sublist p).length_le
  rw[cQ,cQ,eM n m r h1 h2,eM n m _ (Nat.le_trans (hd _) h1) (Nat.le_trans (hd _) h2),eM n m _ (Nat.le_trans (hd _) h1) (Nat.le_trans (hd _) h2)]
theorem zE{N:Nat}{b:UInt8}{r:Bs}(hN:(b::r).length≤N)(h:cX b=false):cQ N (b::r)=(b::r.takeWhile fun c=> !cX c)::cQ N (r.dropWhile fun c=> !cX c):=by
 cases N with
 |zero=>simp at hN
 |succ N=>
  have h59:(b==59)=false:=by
   cases e:b==59
   ·rfl
   ·simp[cX,e]at h
  have hl:(r.dropWhile fun c=> !cX c).length≤N:=Nat.le_trans (List.dropWhile_sublist _).length_le (by simpa using hN)
  rw[cQ,if_neg (by simp[h59]),if_pos (by simp[h]),eM (N+1) N _ (by omega) hl]
theorem tO{N:Nat}{b:UInt8}{r:Bs}(hN:(b::r).length≤N)(h:b.toNat=40∨b.toNat=41):cQ N (b::r)=[b]::cQ N r:=by
 cases N with
 |zero=>simp at hN
 |succ N=>
  have hl:r.length≤N:=by simpa using hN
  have hb:b=40∨b=41:=h.imp (fun e=>UInt8.toNat_inj.1 e) fun e=>UInt8.toNat_inj.1 e
  rw[eM (N+1) N r (by omega) hl]
  rcases hb with rfl|rfl<;>rfl
theorem qGi{N:Nat}{b:UInt8}{r:Bs}(hN:(b::r).length≤N)(h:b.toNat=32∨b.toNat=10):cQ N (b::r)=cQ N r:=by
 cases N with
 |zero=>simp at hN
 |succ N=>
  have hl:r.length≤N:=by simpa using hN
  have hb:b=32∨b=10:=h.imp (fun e=>UInt8.toNat_inj.1 e) fun e=>UInt8.toNat_inj.1 e
  rw[eM (N+1) N r (by omega) hl]
  rcases hb with rfl|rfl<;>rfl
theorem bE{α:Type}{l:List α}{i:Nat}{b:α}(h:l[i]? =some b):l.drop i=b::l.drop (i+1):=by
 have w_:=List.getElem?_eq_some_iff.1 h
 obtain⟨h1,h2⟩:=w_
 rw[List.drop_eq_getElem_cons h1,h2]
theorem tN{l:Bs}{N i j:Nat}{b:UInt8}(hN:l.length≤N)(hb:l[i]? =some b)(h:cX b=false)(hij:i<j)(hj:j≤l.length)(hin:∀(k:Nat) b,i<k→k<j→l[k]? =some b→cX b=false)(hout:∀b,l[j]? =some b→cX b=true):
  cQ N (l.drop i)=(l.drop i).take (j-i)::cQ N (l.drop j):=by
 have hdl:(l.drop i).length≤N:=by rw[List.length_drop];omega
 rw[bE hb]at hdl ⊢
 have w_:=tw (p:=fun c=> !cX c) (l.drop (i+1)) (j-(i+1)) (by rw[List.length_drop];omega)
  (fun k c hk hc => by
   rw[List.getElem?_drop]at hc
   simp[hin _ c (by omega) (by omega) hc])
  (fun c hc => by
   rw[List.getElem?_drop,show i+1+(j-(i+1))=j from by omega]at hc
   simp[hout c hc])
 obtain⟨h1,h2⟩:=w_
 rw[zE hdl h,h1,h2,List.drop_drop,show i+1+(j-(i+1))=j from by omega]
 congr 1
 rw[show j-i=(j-(i+1))+1 from by omega,List.take_succ_cons]
theorem iN(t:Bs):wX t=decide (jZ (mkS t)):=by
 have key:∀(t:Bs) (f:Bool),nmB f t=true↔∀(i:Nat) b,t[i]? =some b→tR (f&&i==0) b:=by
  intro t
  induction t with
  |nil=>intro f;simp[nmB]
  |cons c r ih=>
   intro f
   rw[nmB,Bool.and_eq_true,ih false]
   constructor
   ·rintro ⟨h1, h2⟩ i b hb
    cases i with
    |zero=>
     simp only[List.getElem?_cons_zero,Option.some.injEq]at hb
     subst hb
     simp only[Bool.or_eq_true,Bool.and_eq_true,decide_eq_true_eq,beq_iff_eq,Bool.not_eq_true',UInt8.le_iff_toNat_le]at h1
     rcases h1 with h1|⟨h0,h1⟩
     ·exact .inl h1
     ·refine .inr ⟨by simp [h0], ?_⟩
      rcases h1 with h1|h1
      ·exact .inl h1
      ·rw[h1];exact .inr rfl
    |succ i=>
     simp only[List.getElem?_cons_succ]at hb
     have:=h2 i b hb
     simpa using this
   ·intro h
    refine⟨?_,fun i b hb=>?_⟩
    ·have := h 0 c rfl
     simp only[Bool.or_eq_true,Bool.and_eq_true,decide_eq_true_eq,beq_iff_eq,Bool.not_eq_true',UInt8.le_iff_toNat_le]
     rcases this with k|⟨k0,k⟩
     ·exact .inl k
     ·refine .inr ⟨by simpa using k0, ?_⟩
      rcases k with k|k
      ·exact .inl k
      ·exact .inr (UInt8.toNat_inj.1 k)
    ·have := h (i + 1) b (by simpa using hb)
     simpa using this
 rw[Bool.eq_iff_iff,wX,Bool.and_eq_true,Bool.and_eq_true,key t true]
 simp only[decide_eq_true_eq]
 constructor
 ·rintro ⟨⟨h1, h2⟩, h3⟩
  exact⟨by rw[dK];exact h1,by rw[dK];exact h2,fun i b hb=>by simpa using h3 i b hb⟩
 ·rintro ⟨h1, h2, h3⟩
  rw[dK]at h1 h2
  exact⟨⟨h1,h2⟩,fun i b hb=>by simpa using h3 i b hb⟩
theorem nL:∀(l names:List Bs),(cA l names).1.length=l.length
 |[],_=>rfl
 |t::r,names=>by
  rw[cA]
  split
  ·simp[nL r]
  ·simp[nL r]
theorem qEv(names:List Bs)(t:Bs):names.length≤(fR names t).length:=by
 rw[fR];split
 ·exact Nat.le_refl _
 ·simp
theorem cY:∀(l names:List Bs),names.length≤(cA l names).2.length
 |[],_=>Nat.le_refl _
 |t::r,names=>by
  rw[cA]
  split
  ·exact Nat.le_trans (qEv names t) (cY r _)
  ·exact cY r _
theorem qBl{names:List Bs}{t:Bs}{k:Nat}(hk:k≤names.length)(h:∀(j:Nat) x,j<k→names[j]? =some x→x≠t)(h2:∀x,names[k]? =some x→x=t):names.idxOf t=k:=by
 induction names generalizing k with
 |nil=>simp at hk;subst hk;rfl
 |cons x r ih=>
  rw[List.idxOf_cons]
  cases k with
  |zero=>simp[h2 x rfl]
  |succ k=>
   have hx:=h 0 x (by omega) rfl
   rw[ih (k:=k) (by simpa using hk) (fun j y hj hy=>h (j+1) y (by omega) (by simpa using hy)) (fun y hy=>h2 y (by simpa using hy))]
   rw[beq_false_of_ne hx]
   rfl
theorem zF{ts:List T}{n:Int}(h:∀t∈ts,∀v,t.occ v→0≤v∧v<n){k:Int}{s:ByteArray}{gs:List Gl}:∀v∈(Gl.mk k s (ts.map T.tm) gs).tvars,v<n:=fun v hv=>by
 unfold Gl.tvars at hv
 have e:((Gl.mk k s (ts.map T.tm) gs).terms.map Tm.toT)=ts:=toTs_tm'
 rw[e]at hv
 have w_:=List.mem_flatMap.1 hv
 obtain⟨t,ht,hv⟩:=w_
 exact(h t ht v (xB hv)).2
theorem Dr.leaf{sg:Sig}{n mode:Int}{k:Int}{s:ByteArray}{ts:List T}(top:TopOk (.mk k s (ts.map T.tm) []))(hk:k≠10)(h7:k≠7)(h8:k≠8)(ht:∀t∈ts,∀v,t.occ v→0≤v∧v<n)(hc:k=9→(s,(ts.length:Int))∈sg):Dr sg n mode 1 1 (.mk k s (ts.map T.tm) []) where
 sh:= .mk top fun x hx=>by cases hx
 cnt:=Nat.le_refl _
 cb:=by rw[Gl.cb,if_neg h8,if_neg h7];exact Nat.le_refl _
 vars:=fun v hv=>by
  rcases qCx hv with hv|⟨x,hx,_⟩
  ·exact zF ht v hv
  ·cases hx
 calls:=fun x hx h9=>by
  rcases qFw hx with rfl|⟨y,hy,_⟩
  ·have := hc h9
   show(s,((ts.map T.tm).length:Int))∈sg
   rw[List.length_map]
   exact this
  ·cases hy
 pos:=fun _=>(Gl.pos_eq _).2 ⟨hk,fun x hx=>by cases hx⟩
theorem qU{sg:Sig}{n mode:Int}{m b:Nat}:∀{gs:List Gl},(∀g∈gs,Dr sg n mode m b g)→Gl.cnts gs≤gs.length*m
 |[],_=>Nat.zero_le _
 |g::r,h=>by
  have h1:=(h g (by simp)).cnt
  have h2:=qU (gs:=r) fun x hx=>h x (by simp[hx])
  rw[Gl.cnts,List.length_cons,Nat.succ_mul]
  omega
theorem qBf{sg:Sig}{n mode:Int}{m:Nat}:∀{gs:List Gl},(∀g∈gs,Dr sg n mode m 1 g)→Gl.cbAnd gs≤1
 |[],_=>Nat.le_refl _
 |g::r,h=>by
  have h1:=(h g (by simp)).cb
  have h2:=qBf (gs:=r) fun x hx=>h x (by simp[hx])
  rw[Gl.cbAnd]
  exact Nat.mul_le_mul h1 h2
theorem qHq{sg:Sig}{n mode:Int}{m:Nat}:∀{gs:List Gl},(∀g∈gs,Dr sg n mode m 1 g)→Gl.cbOr gs≤gs.length
 |[],_=>Nat.le_refl _
 |g::r,h=>by
  have h1:=(h g (by simp)).cb
  have h2:=qHq (gs:=r) fun x hx=>h x (by simp[hx])
  rw[Gl.cbOr,List.length_cons]
  omega
theorem xI{k:Int}{gs:List Gl}(hk:k=7∨k=8)(hl:gs.length≤8):TopOk (.mk k ⟨#[]⟩ [] gs) where
 tm:=fun t ht=>by cases ht
 k0:=by show 0≤k;omega
 k1:=by show k≤10;omega
 nm:=fun _=>rfl
 rel:=fun h=>by have h:k=9:=h;omega
 ln9:=fun _=>Nat.zero_le _
 ln2:=fun h=>by have h:k=2∨k=3∨k=6:=h;omega
 ln1:=fun h=>by have h:k=4∨k=5:=h;omega
 ln0:=fun _=>rfl
 gl:=hl
 gl0:=fun h=>by have h:k<7∨k=9:=h;omega
 gl1:=fun h=>by have h:k=10:=h;omega
 sy:=fun h=>by have h:k=6:=h;omega
 cl:=fun h=>by have h:k=10:=h;omega
theorem Dr.conj{sg:Sig}{n mode:Int}{m:Nat}{gs:List Gl}(h:∀g∈gs,Dr sg n mode m 1 g)(hl:gs.length≤8):Dr sg n mode (1+gs.length*m) 1 (.mk 7 ⟨#[]⟩ [] gs):=by
 have w_:=qDz (k:=7) h (by decide) (fun _=>by decide)
 obtain⟨h1,h2,h3⟩:=w_
 refine⟨.mk (xI (.inl rfl) hl) fun x hx=>(h x hx).sh,?_,?_,h1,h2,h3⟩
 ·rw [Gl.cnt]
  have:=qU h
  omega
 ·rw [Gl.cb, if_neg (by decide), if_pos rfl]
  exact qBf h
theorem Dr.disj{sg:Sig}{n mode:Int}{m:Nat}{gs:List Gl}(h:∀g∈gs,Dr sg n mode m 1 g)(hl:gs.length≤8)(h0:gs≠[]):Dr sg n mode (1+gs.length*m) gs.length (.mk 8 ⟨#[]⟩ [] gs):=by
 have w_:=qDz (k:=8) h (by decide) (fun _=>by decide)
 obtain⟨h1,h2,h3⟩:=w_
 refine⟨.mk (xI (.inr rfl) hl) fun x hx=>(h x hx).sh,?_,?_,h1,h2,h3⟩
 ·rw [Gl.cnt]
  have:=qU h
  omega
 ·rw [Gl.cb, if_pos rfl]
  have:=qHq h
  have:=List.length_pos_iff.2 h0
  omega
theorem xE{m B:Nat}:∀l:List Rl,(∀r∈l,r.body.cb*m ^ (r.arity+r.locals).toNat≤B)→qEm m l≤l.length*B
 |[],_=>Nat.zero_le _
 |r::l,h=>by
  have h1:=h r (by simp)
  have h2:=xE l fun x hx=>h x (by simp[hx])
  rw[qEm,List.length_cons,Nat.succ_mul]
  omega
theorem DrP.small{mode:Int}{l:List Rl}(h:DrP mode l){m:Nat}(hm:m≤3)(hm1:1≤m):lE m ⟨l⟩=true:=by
 have key:∀r∈l,r.body.cb≤3∧m ^ (r.arity+r.locals).toNat≤27:=fun r hr=>by
  refine⟨(h.body r hr).cb,?_⟩
  have h1:=h.ar r hr
  have h2:=h.lo r hr
  calc m ^ (r.arity+r.locals).toNat≤m ^ 3:=Nat.pow_le_pow_right hm1 (by omega)
   _≤3 ^ 3:=Nat.pow_le_pow_left hm 3
 have h3:=h.le
 rw[lE,Bool.and_eq_true,List.all_eq_true,decide_eq_true_eq]
 refine⟨fun r hr=>?_,?_⟩
 ·have := key r hr
  exact decide_eq_true ⟨by omega,by omega⟩
 ·have := xE (m := m) (B := 81) l fun r hr => Nat.mul_le_mul (key r hr).1 (key r hr).2
  show qEm m l≤2000
  have:l.length*81≤3*81:=Nat.mul_le_mul_right _ h3
  omega
theorem DrP.prom{mode:Int}{l:List Rl}(h:DrP mode l):MkP mode ⟨l⟩:=
 ⟨h.ok, h.small (by decide) (by decide), h.small (by decide) (by decide), h.pos, fun e => by
  have h1:=h.ne
  have e:l=[]:=e
  rw[e]at h1
  exact absurd h1 (by decide),fun r hr=>(h.ar r hr).1⟩
end Go.Vx
namespace Go.Vx
open Go.Proofs Classical
def jW(l:List Bs):List Value:=(l.map mkS).map Value.string
theorem nU(l:List Bs):(jW l).length=l.length:=by rw[jW,List.length_map,List.length_map]
theorem cH(l:List Bs)(t:Bs):jW (l++[t])=jW l++[.string (mkS t)]:=by simp[jW]
section
variable {μ:Mem}
theorem jD(b:UInt8):aM Tryz.prog 183 [.int .u8 (b.toNat:Int)] μ (.bool (cX b)):=by
 refine Spec.mk Tryz.func183 (by kernel_rfl) ?_
 rw[tA]
 repeat' (first
  |refine ifd (fun h=>?_) (fun h=>?_)
  |refine iIn (fun h=>?_) (fun h=>?_))
 all_goals
  refine rGv ?_ rfl
  refine congrArg Value.bool ?_
  first
   |(symm;exact decide_eq_true (by omega))
   |(rw[Bool.eq_iff_iff];simp only[decide_eq_true_eq];omega)
theorem bU{k:Nat}(hk:k≤9):aM Tryz.prog 185 [.int .i64 k] μ (.string (mkS [UInt8.ofNat (48+k)])):=by
 refine Spec.mk Tryz.func185 (by kernel_rfl) ?_
 refine ifd (fun h=>absurd h (by omega)) (fun _=>?_)
 refine lIn (fun _:Unit=>True) (fun _=>⟨[(0,.val (.int .i64 k)),(3,.val (.string ⟨#[]⟩))],[],0,μ,Mem.nil⟩) (fun _=>0) () trivial (fun _=>⟨rfl,rfl⟩) ⟨⟨rfl,rfl,trivial⟩,trivial,rfl,rfl⟩ ?_
 rintro- -
 refine ifd (fun h=>absurd h (by omega)) (fun _=>?_)
 refine aB (by omega) (by omega) (nEq (qQv (by omega) (by omega)) ?_)
 intro r
 have hb:(UInt8.ofNat (48+k)).toNat=48+k:=by rw[UInt8.toNat_ofNat'];omega
 refine bW [UInt8.ofNat (48+k)] (by simp only[List.map_cons,List.map_nil,hb];congr 2) ?_
 refine aC (by show 1+0≤_;decide) ?_
 refine rGv ?_ rfl
 exact congrArg Value.string (aZ [_] [])
theorem mL{k:Nat}(hk:k≤9):aM Tryz.prog 228 [.string (mkS [UInt8.ofNat (48+k)])] μ (.tuple #[.int .i64 k,.bool true]):=by
 have hb:(UInt8.ofNat (48+k)).toNat=48+k:=by rw[UInt8.toNat_ofNat'];omega
 have h0:(mkS [UInt8.ofNat (48+k)]).data.toList[0]? =some (UInt8.ofNat (48+k)):=rfl
 have hsz:(mkS [UInt8.ofNat (48+k)]).size=1:=rfl
 refine Spec.mk Tryz.func228 (by kernel_rfl) ?_
 refine ifd (fun _=>?_) (fun h=>absurd h (by omega))
 refine aN 0 _ rfl h0 ?_
 refine iIn (fun h=>absurd (of_decide_eq_true h) (by omega)) (fun hm=>?_)
 refine ifd (fun h=>absurd h (by omega)) (fun _=>?_)
 refine iIn (fun h=>absurd (of_decide_eq_true h) (by omega)) (fun _=>?_)
 refine lIn (fun i:Nat=>i≤1) (fun i=>⟨[(0,.val (.string (mkS [UInt8.ofNat (48+k)]))),(4,.val (.bool (decide (((UInt8.ofNat (48+k)).toNat:Int)=45)))),(5,.val (.string (mkS [UInt8.ofNat (48+k)]))),(6,.val (.int .i64 (if i=0 then 0 else -(k:Int)))),(7,.val (.int .i64 i))],[],0,μ,Mem.nil⟩) (fun i=>1-i)
  0 (by omega) (fun _=>⟨rfl,rfl⟩) ⟨⟨rfl,rfl,rfl,rfl,rfl,trivial⟩,trivial,rfl,rfl⟩ ?_
 intro i hi
 refine ifd (fun h=>?_) (fun h=>?_)
 ·obtain rfl : i = 0 := by omega
  refine aN 0 _ rfl h0 ?_
  refine aB (by omega) (by omega) (aB (by omega) (by omega) ?_)
  refine cGv (bG _ _ _ _) ?_
  refine iIn (fun h=>?_) (fun _=>?_)
  ·rw [decide_eq_true ⟨by omega, by omega⟩] at h
   cases h
  ·have hd : ((UInt8.ofNat (48 + k)).toNat : Int) - 48 = k := by omega
   rw[hd]
   refine aB (by omega) (by omega) ?_
   refine aC (by decide) ?_
   refine nEq (x:=if k=9 then -922337203685477579 else -922337203685477580) ?_ ?_
   ·have w_ : k = 0 ∨ k = 1 ∨ k = 2 ∨ k = 3 ∨ k = 4 ∨ k = 5 ∨ k = 6 ∨ k = 7 ∨ k = 8 ∨ k = 9 := by omega
    rcases w_ with rfl|rfl|rfl|rfl|rfl|rfl|rfl|rfl|rfl|rfl<;>rfl
   refine iIn (fun h=>absurd (of_decide_eq_true h) (by rw[if_pos rfl];split<;>omega)) (fun _=>?_)
   rw[if_pos rfl]
   refine aB (by omega) (by omega) (aB (by omega) (by omega) ?_)
   refine aB (by omega) (by omega) ⟨1,by omega,by omega,⟨⟨rfl,rfl,rfl,?_,rfl,trivial⟩,trivial,rfl,rfl⟩⟩
   show some (SV.val (.int .i64 _))=some (SV.val (.int .i64 _))
   congr 3
   simp
 ·obtain rfl : i = 1 := by omega
  refine iIn (fun h=>?_) (fun h=>?_)
  ·refine ifd (fun h => absurd h (by rw [if_neg (by decide)]; omega)) (fun _ => ?_)
   refine nEq (x:=(k:Int)) (by show IntKind.i64.wrap (0- -(k:Int))=(k:Int);rw[show(0:Int)- -(k:Int)=k from by omega];exact aA (by omega) (by omega)) ?_
   refine cGv (bU hk) ?_
   refine aL (fun h=>absurd rfl h) (fun _=>?_)
   exact rGv rfl rfl
  ·rw [hm] at h
   cases h
theorem oP{t:Bs}(h:wX t=true):aM Tryz.prog 228 [.string (mkS t)] μ (.tuple #[.int .i64 0,.bool false]):=by
 rw[iN,decide_eq_true_eq]at h
 obtain⟨h1,h2,h3⟩:=h
 have w_:=iK (s:=mkS t) (i:=0) (by omega)
 obtain⟨b0,hb0⟩:=w_
 have hc:97≤b0.toNat∧b0.toNat≤122:=(h3 0 b0 hb0).elim id fun k=>by have:=k.1;simp at this
 refine Spec.mk Tryz.func228 (by kernel_rfl) ?_
 refine ifd (fun _=>?_) (fun h=>absurd h (by omega))
 refine aN 0 _ rfl hb0 ?_
 refine iIn (fun h=>absurd (of_decide_eq_true h) (by omega)) (fun hm=>?_)
 refine ifd (fun h=>absurd h (by omega)) (fun _=>?_)
 refine iIn (fun h=>absurd (of_decide_eq_true h) (by omega)) (fun _=>?_)
 refine lIn (fun i:Nat=>i=0) (fun i=>⟨[(0,.val (.string (mkS t))),(4,.val (.bool (decide ((b0.toNat:Int)=45)))),(5,.val (.string (mkS t))),(6,.val (.int .i64 0)),(7,.val (.int .i64 i))],[],0,μ,Mem.nil⟩) (fun i=>0)
  0 rfl (fun _=>⟨rfl,rfl⟩) ⟨⟨rfl,rfl,rfl,rfl,rfl,trivial⟩,trivial,rfl,rfl⟩ ?_
 rintro i rfl
 refine ifd (fun _=>?_) (fun h=>absurd h (by omega))
 refine aN 0 _ rfl hb0 ?_
 refine aB (by omega) (by omega) (aB (by omega) (by omega) ?_)
 refine cGv (bG _ _ _ _) ?_
 refine iIn (fun _=>rGv rfl rfl) (fun h=>?_)
 rw[decide_eq_false (by omega)]at h
 cases h
set_option maxHeartbeats 1000000 in
theorem sQ{s:Bs}(hl:s.length≤400)(hb:∀b∈s,b.toNat≠59∧(b.toNat=10∨(32≤b.toNat∧b.toNat≤126))):
  Spec Tryz.prog 122 [.string (mkS s)] μ fun v μ'=>∃tv,v= .tuple #[tv,.bool true]∧NmV μ' ((cQ s.length s).map mkS) tv:=by
 have hsz:(mkS s).size=s.length:=dK s
 have at_:∀(i:Nat) b,s[i]? =some b→(mkS s).data.toList[i]? =some b:=fun i b h=>h
 refine Spec.mk Tryz.func122 (by kernel_rfl) ?_
 refine ifd (fun h=>absurd h (by omega)) (fun _=>?_)
 intro r0
 refine lIn (fun z:Nat×List Bs×List Value×Option Nat×Nat=>z.1≤s.length∧z.2.1.length≤z.1∧z.2.2.1=jW z.2.1∧z.2.1++cQ s.length (s.drop z.1)=cQ s.length s)
  (fun(i,_,ys,b,c)=>⟨[(0,.val (.string (mkS s))),(4,.row 0 b ys.length c),(5,.val (.int .i64 i))],[(0,some (.row b c 9 1 ys))],1,μ,Mem.nil⟩) (fun z=>s.length-z.1)
  (0,[],[],some r0,0) ⟨Nat.zero_le _,Nat.zero_le _,rfl,rfl⟩ (fun(_,_,_,_,_)=>⟨rfl,rfl⟩) ⟨⟨rfl,rfl,rfl,trivial⟩,⟨rfl,trivial⟩,rfl,rfl⟩ ?_
 rintro⟨i,L,ys,b,c⟩ ⟨hi,hLi,hys,hT⟩
 dsimp only at hi hLi hys hT
 have hyl:ys.length=L.length:=by rw[hys,nU]
 refine ifd (fun hlt=>?_) (fun hlt=>?_)
 ·obtain ⟨ch, hch⟩ : ∃ ch, s[i]? = some ch := ⟨_, List.getElem?_eq_getElem (by omega)⟩
  have hc:=hb ch (List.mem_of_getElem? hch)
  have hdl:(ch::s.drop (i+1)).length≤s.length:=by simp only[List.length_cons,List.length_drop];omega
  rw[bE hch]at hT
  refine aB (by omega) (by omega) ?_
  refine aN i ch rfl (at_ _ _ hch) ?_
  refine ifd (fun h=>absurd h (by omega)) (fun _=>?_)
  refine aN i ch rfl (at_ _ _ hch) ?_
  refine cGv (jD ch) ?_
  refine iIn (fun hbk=>?_) (fun hbk=>?_)
  ·have hbk : cX ch = false := by simpa using hbk
   rw[←bE hch]at hT
   refine lIn (fun j:Nat=>i<j∧j≤s.length∧∀(k:Nat) b,i<k→k<j→s[k]? =some b→cX b=false)
    (fun j=>⟨[(0,.val (.string (mkS s))),(4,.row 0 b ys.length c),(5,.val (.int .i64 i)),(6,.val (.int .i64 j))],[(0,some (.row b c 9 1 ys))],1,μ,Mem.nil⟩) (fun j=>s.length-j)
    (i+1) ⟨by omega,by omega,fun k b h1 h2=>by omega⟩ (fun _=>⟨rfl,rfl⟩) ⟨⟨rfl,rfl,rfl,rfl,trivial⟩,⟨rfl,trivial⟩,rfl,rfl⟩ ?_
   rintro j ⟨hij,hj,hin⟩
   refine ifd (fun hjl=>?_) (fun hjl=>?_)
   ·obtain ⟨cj, hcj⟩ : ∃ cj, s[j]? = some cj := ⟨_, List.getElem?_eq_getElem (by omega)⟩
    refine aN j cj rfl (at_ _ _ hcj) ?_
    refine cGv (jD cj) ?_
    refine iIn (fun hbj=>?_) (fun hbj=>?_)
    ·have hbj : cX cj = false := by simpa using hbj
     refine aB (by omega) (by omega) ⟨j+1,⟨by omega,by omega,fun k b h1 h2 hk=>?_⟩,by omega,⟨⟨rfl,rfl,rfl,rfl,trivial⟩,⟨rfl,trivial⟩,rfl,rfl⟩⟩
     by_cases e:k=j
     ·subst e;rw[hcj]at hk;cases hk;exact hbj
     ·exact hin k b h1 (by omega) hk
    ·have hbj : cX cj = true := by simpa using hbj
     refine aG i j rfl rfl (by omega) (by omega) ?_
     intro r1
     refine gIn ?_ ?_ fun b' c' hb'=>?_
     ·show(ys.length+1)*16≤_;omega
     ·exact Nat.le_trans (m:=100000000) (show ys.length+1≤_ by omega) (by decide)
     refine⟨(j,L++[(s.drop i).take (j-i)],_,b',c'),⟨by dsimp only;omega,by simp only[List.length_append,List.length_cons,List.length_nil];omega,?_,?_⟩,by dsimp only;omega,⟨⟨rfl,rfl,rfl,trivial⟩,⟨rfl,trivial⟩,rfl,rfl⟩⟩
     ·dsimp only
      rw[cH,hys,cZ]
     ·dsimp only
      rw[List.append_assoc,List.singleton_append]
      (rw[←hT,tN (Nat.le_refl _) hch hbk hij hj hin fun b hb=>by rw[hcj]at hb;cases hb;exact hbj])
   ·refine aG i j rfl rfl (by omega) (by omega) ?_
    intro r1
    refine gIn ?_ ?_ fun b' c' hb'=>?_
    ·show(ys.length+1)*16≤_;omega
    ·exact Nat.le_trans (m:=100000000) (show ys.length+1≤_ by omega) (by decide)
    refine⟨(j,L++[(s.drop i).take (j-i)],_,b',c'),⟨by dsimp only;omega,by simp only[List.length_append,List.length_cons,List.length_nil];omega,?_,?_⟩,by dsimp only;omega,⟨⟨rfl,rfl,rfl,trivial⟩,⟨rfl,trivial⟩,rfl,rfl⟩⟩
    ·dsimp only
     rw[cH,hys,cZ]
    ·dsimp only
     rw[List.append_assoc,List.singleton_append]
     (rw[←hT,tN (Nat.le_refl _) hch hbk hij hj hin fun b hb=>by have:=(List.getElem?_eq_some_iff.1 hb).1;omega])
  ·have hbk : cX ch = true := by simpa using hbk
   rw[tA]at hbk
   have hbk:=of_decide_eq_true hbk
   refine aN i ch rfl (at_ _ _ hch) ?_
   refine ifd (fun h40=>?_) (fun h40=>?_)
   ·refine aG i (i + 1) rfl rfl (by omega) (by omega) ?_
    intro r1
    refine gIn ?_ ?_ fun b' c' hb'=>?_
    ·show(ys.length+1)*16≤_;omega
    ·exact Nat.le_trans (m:=100000000) (show ys.length+1≤_ by omega) (by decide)
    refine⟨((i+1),L++[(s.drop i).take ((i+1)-i)],_,b',c'),⟨by dsimp only;omega,by simp only[List.length_append,List.length_cons,List.length_nil];omega,?_,?_⟩,by dsimp only;omega,⟨⟨rfl,rfl,rfl,trivial⟩,⟨rfl,trivial⟩,rfl,rfl⟩⟩
    ·dsimp only
     rw[cH,hys,cZ]
    ·dsimp only
     rw[List.append_assoc,List.singleton_append]
     (rw[←hT,tO hdl (by omega)];simp[hch,List.take_one])
   ·refine aN i ch rfl (at_ _ _ hch) ?_
    refine iIn (fun h41=>?_) (fun h41=>?_)
    ·have h41 := of_decide_eq_true h41
     refine aG i (i+1) rfl rfl (by omega) (by omega) ?_
     intro r1
     refine gIn ?_ ?_ fun b' c' hb'=>?_
     ·show(ys.length+1)*16≤_;omega
     ·exact Nat.le_trans (m:=100000000) (show ys.length+1≤_ by omega) (by decide)
     refine⟨((i+1),L++[(s.drop i).take ((i+1)-i)],_,b',c'),⟨by dsimp only;omega,by simp only[List.length_append,List.length_cons,List.length_nil];omega,?_,?_⟩,by dsimp only;omega,⟨⟨rfl,rfl,rfl,trivial⟩,⟨rfl,trivial⟩,rfl,rfl⟩⟩
     ·dsimp only
      rw[cH,hys,cZ]
     ·dsimp only
      rw[List.append_assoc,List.singleton_append]
      (rw[←hT,tO hdl (by omega)];simp[hch,List.take_one])
    ·have h41 := of_decide_eq_false h41
     refine⟨(i+1,L,ys,b,c),⟨by dsimp only;omega,by dsimp only;omega,hys,?_⟩,by dsimp only;omega,⟨⟨rfl,rfl,rfl,trivial⟩,⟨rfl,trivial⟩,rfl,rfl⟩⟩
     dsimp only
     rw[←hT,qGi hdl (by omega)]
 ·have e:cQ s.length (s.drop i)=[]:=by
   rw[List.drop_eq_nil_of_le (by omega)]
   cases s.length<;>rfl
  rw[e,List.append_nil]at hT
  refine lIn (fun k:Nat=>k≤s.length) (fun k=>⟨[(0,.val (.string (mkS s))),(4,.row 0 b ys.length c),(7,.val (.int .i64 k))],[(0,some (.row b c 9 1 ys))],1,μ,Mem.nil⟩) (fun k=>s.length-k)
   0 (Nat.zero_le _) (fun _=>⟨rfl,rfl⟩) ⟨⟨rfl,rfl,rfl,trivial⟩,⟨rfl,trivial⟩,rfl,rfl⟩ ?_
  intro k hk
  refine ifd (fun hks=>?_) (fun hks=>?_)
  ·obtain ⟨ck, hck⟩ : ∃ ck, s[k]? = some ck := ⟨_, List.getElem?_eq_getElem (by omega)⟩
   have hc:=hb ck (List.mem_of_getElem? hck)
   have next:∀K,K=k+1→K≤s.length:=fun K e=>by omega
   refine aN k ck rfl (at_ _ _ hck) ?_
   refine aL (fun h10=>?_) (fun h10=>?_)
   ·refine aN k ck rfl (at_ _ _ hck) ?_
    refine aB (by omega) (by omega) ?_
    refine cGv (bG _ _ _ _) ?_
    refine iIn (fun h=>?_) (fun h=>?_)
    ·rw [decide_eq_true ⟨by omega, by omega⟩] at h
     cases h
    ·exact aB (by omega) (by omega) ⟨k+1,by omega,by omega,⟨⟨rfl,rfl,rfl,trivial⟩,⟨rfl,trivial⟩,rfl,rfl⟩⟩
   ·exact aB (by omega) (by omega) ⟨k+1,by omega,by omega,⟨⟨rfl,rfl,rfl,trivial⟩,⟨rfl,trivial⟩,rfl,rfl⟩⟩
  ·refine ifd (fun h => absurd h (by omega)) (fun _ => ?_)
   refine rFz [0] fun μ4 hle4 hno hat=> .inl ⟨_,rfl,?_⟩
   rw[hys,jW]at hat ⊢
   rw[←hT]
   exact Rows.sl hat (Nm.rows (L.map mkS)) (by rw[List.length_map,List.length_map];exact Nat.le_trans (m:=1000) (by omega) (by decide))
end
end Go.Vx
